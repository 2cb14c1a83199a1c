/- The law's functions, their contracts, and the plain lemmas: texts of this claim, laid together. -/
import Derived.Test.YtgfknljhogfeaaaMFnSights0
import Derived.Test.YtgfknljhogfeaaaMFnSights1
import Derived.Test.YtgfknljhogfeaaaMFnSights2
section
namespace Go.Proofs.Ytgfknljhogfeaaa.G
open Go.RowKit Go.Proofs.YtgfknljhogfeaaaW.PrintWords Go.Proofs.YtgfknljhogfeaaaW.PrintLast Go.Proofs.YtgfknljhogfeaaaW.PrintMore
attribute [local go_sem] max2_int min2_int max_two min_two max_three min_three max_four min_four
set_option linter.unusedVariables false
set_option linter.unusedSimpArgs false
set_option maxHeartbeats 40000000 in
set_option maxRecDepth 100000 in
theorem spec_l01Made.core (a b:Int) (kd:Nat) (hk:kd < 4) (h0:0≤a) (h5:a≤5) (g0:0≤b) (g5:b≤5) (w:World) :
  Calls Try.prog 104 #[.int .i64 a,.int .i64 b,.int .i64 kd] w fun e w'=>e=.returned (.tuple #[.agg (nums .u8 ((List.range 24).map (madeB a b kd))).toArray,.int .i64 0])∧Below w.heap.size w w':=by
 have HB:=am (Below.refl w.heap.size w);have HIT:=am (show (Try.prog.info? 68).map (·.size)=some 24 from size68);have HCO:=am (show spec_l01Colour.f a=some true by unfold spec_l01Colour.f spec_l00In.f;rw [if_pos h0,decide_eq_true h5];rfl);have HCP:=am (show spec_l01Colour.f b=some true by unfold spec_l01Colour.f spec_l00In.f;rw [if_pos g0,decide_eq_true g5];rfl)
 have hm:a % 256=a:=by omega
 have hp:b % 256=b:=by omega
 have:kd=0∨kd=1∨kd=2∨kd=3:=by omega
 rcases this with rfl|rfl|rfl|rfl
 ·go_enter Try.func104,Try.ntmps104
  go_wp2_with (first|((with_reducible refine gate_dst (N:=6) rfl ?_);refine box_event ?hg (N:=6) ?hd (cs:=(nums .u8 (List.replicate 24 0)).toArray) (t:=68) ?hr ?_;(case hd=>rfl);(case hg=>rfl);(case hr=>exact zq15);intro b2 hg_ w2 hb_ hB_;have GE2:=am (show w.heap.size≤b2 by rw [hg_];exact below_size HB.out);have HB2:=am (below_step HB.out hB_);have BL2:=am (show IsBox .u8 68 w2 b2 (List.replicate 24 0) from hb_);clear hb_ hB_ hg_)|((with_reducible refine gate_dst (N:=8) rfl ?_);refine box_event ?hg (N:=8) ?hd (cs:=(nums .u8 (List.replicate 24 0)).toArray) (t:=68) ?hr ?_;(case hd=>rfl);(case hg=>rfl);(case hr=>exact zq15);intro b4 hg_ w4 hb_ hB_;have N42:=am (show b4≠b2 by rw [hg_];have:=box_lt BL2.out;omega);have GE4:=am (show w.heap.size≤b4 by rw [hg_];exact below_size HB2.out);have HB4:=am (below_step HB2.out hB_);have BL4:=am (box_below BL2.out hB_);have BM4:=am (show IsBox .u8 68 w4 b4 (List.replicate 24 0) from hb_);clear hb_ hB_ hg_)|((with_reducible refine gate_store (t:=68) (p:=8) rfl ?_);refine box_store (k:=.u8) (t:=68) (b:=b4) (xs:=(List.replicate 24 0)) (ys:=(List.replicate 24 0)) rfl rfl rfl rfl rfl BM4.out (by simp) zq67 ?_;intro w5 hw5;have BM5:=am (show IsBox .u8 68 w5 b4 (List.replicate 24 0) by rw [hw5];exact box_row BM4.out (List.replicate 24 0));have BL5:=am (show IsBox .u8 68 w5 b2 (List.replicate 24 0) by rw [hw5];exact box_apart BL4.out N42.out.symm _);have HB5:=am (show Below w.heap.size w w5 by rw [hw5];exact Go.below_setRow HB4.out GE4.out _);clear hw5)|(go_at_call 113;(with_reducible refine (spec_l01Colour.calls a true _ HCO.out).mono ?_);rintro e w6 ⟨rfl,⟨nd,rfl⟩⟩;have BM6:=am (box_below BM5.out (pw_below_drewN (Below.refl _ _) nd));have BL6:=am (box_below BL5.out (pw_below_drewN (Below.refl _ _) nd));have HB6:=am (pw_below_drewN HB5.out nd);clear BM5 BL5)|(go_at_call 113;(with_reducible refine (spec_l01Colour.calls b true _ HCP.out).mono ?_);rintro e w7 ⟨rfl,⟨ne,rfl⟩⟩;have BM7:=am (box_below BM6.out (pw_below_drewN (Below.refl _ _) ne));have BL7:=am (box_below BL6.out (pw_below_drewN (Below.refl _ _) ne));have HB7:=am (pw_below_drewN HB6.out ne);clear BM6 BL6))
  go_loopg [9,10,11,12] 25 (fun gg s9 s10 s11 s12 wr=>∃ i:Nat,i≤24∧24 - i≤gg∧s9=.int .i64 i∧Aside0 (Below w.heap.size w wr)∧Aside0 (IsBox .u8 68 wr b2 (List.replicate 24 0))∧Aside0 (IsBox .u8 68 wr b4 (doneB (madeB a b 0) 24 i)))
  case atStart=>exact ⟨0,by omega,by omega,rfl,⟨pw_below_drewN HB5.out _⟩,⟨BL7.out⟩,⟨by rw [doneB_zero];exact BM7.out⟩⟩
  case round =>
   clear BM7 BL7 HB7 HB6 HB5;obtain ⟨i,hi,hg,rfl,HBr,BLr,BMr⟩:=hrel
   by_cases hlt:i < 24
   ·obtain ⟨v0,c4⟩:∃ v0:Int,wr.cell? ⟨b4,i,none⟩=some (.int .u8 v0):=⟨_,box_at BMr.out (show i < (doneB (madeB a b 0) 24 i).length by rw [doneB_len _ hi];exact hlt)⟩;have f4:=box_frozen BMr.out i;generalize hys:doneB (madeB a b 0) 24 i=ys at c4;clear hys
    have:i=0∨i=1∨i=2∨i=3∨i=4∨i=5∨i=6∨i=7∨i=8∨i=9∨i=10∨i=11∨i=12∨i=13∨i=14∨i=15∨i=16∨i=17∨i=18∨i=19∨i=20∨i=21∨i=22∨i=23:=by omega
    rcases this with rfl|rfl|rfl|rfl|rfl|rfl|rfl|rfl|rfl|rfl|rfl|rfl|rfl|rfl|rfl|rfl|rfl|rfl|rfl|rfl|rfl|rfl|rfl|rfl
    ·go_wp2
     go_roundg (24 - 1)
     case measure=>omega
     case rel =>
      have h_:=fill1 HBr.out BLr.out BMr.out N42.out.symm GE4.out (by decide) (show madeB a b 0 0=a from rfl);exact ⟨1,by decide,by omega,rfl,⟨h_.1⟩,⟨h_.2.1⟩,⟨h_.2.2⟩⟩
    ·go_wp2
     go_roundg (24 - 2)
     case measure=>omega
     case rel =>
      have h_:=fill1 HBr.out BLr.out BMr.out N42.out.symm GE4.out (by decide) (show madeB a b 0 1=a from rfl);exact ⟨2,by decide,by omega,rfl,⟨h_.1⟩,⟨h_.2.1⟩,⟨h_.2.2⟩⟩
    ·go_wp2
     go_roundg (24 - 3)
     case measure=>omega
     case rel =>
      have h_:=fill2 (u:=a) HBr.out BLr.out BMr.out N42.out.symm GE4.out (by decide) (show madeB a b 0 2=b from rfl);exact ⟨3,by decide,by omega,rfl,⟨h_.1⟩,⟨h_.2.1⟩,⟨h_.2.2⟩⟩
    ·go_wp2
     go_roundg (24 - 4)
     case measure=>omega
     case rel =>
      have h_:=fill2 (u:=a) HBr.out BLr.out BMr.out N42.out.symm GE4.out (by decide) (show madeB a b 0 3=b from rfl);exact ⟨4,by decide,by omega,rfl,⟨h_.1⟩,⟨h_.2.1⟩,⟨h_.2.2⟩⟩
    ·go_wp2
     go_roundg (24 - 5)
     case measure=>omega
     case rel =>
      have h_:=fill1 HBr.out BLr.out BMr.out N42.out.symm GE4.out (by decide) (show madeB a b 0 4=a from rfl);exact ⟨5,by decide,by omega,rfl,⟨h_.1⟩,⟨h_.2.1⟩,⟨h_.2.2⟩⟩
    ·go_wp2
     go_roundg (24 - 6)
     case measure=>omega
     case rel =>
      have h_:=fill1 HBr.out BLr.out BMr.out N42.out.symm GE4.out (by decide) (show madeB a b 0 5=a from rfl);exact ⟨6,by decide,by omega,rfl,⟨h_.1⟩,⟨h_.2.1⟩,⟨h_.2.2⟩⟩
    ·go_wp2
     go_roundg (24 - 7)
     case measure=>omega
     case rel =>
      have h_:=fill2 (u:=a) HBr.out BLr.out BMr.out N42.out.symm GE4.out (by decide) (show madeB a b 0 6=b from rfl);exact ⟨7,by decide,by omega,rfl,⟨h_.1⟩,⟨h_.2.1⟩,⟨h_.2.2⟩⟩
    ·go_wp2
     go_roundg (24 - 8)
     case measure=>omega
     case rel =>
      have h_:=fill2 (u:=a) HBr.out BLr.out BMr.out N42.out.symm GE4.out (by decide) (show madeB a b 0 7=b from rfl);exact ⟨8,by decide,by omega,rfl,⟨h_.1⟩,⟨h_.2.1⟩,⟨h_.2.2⟩⟩
    ·go_wp2
     go_roundg (24 - 9)
     case measure=>omega
     case rel =>
      have h_:=fill2 (u:=a) HBr.out BLr.out BMr.out N42.out.symm GE4.out (by decide) (show madeB a b 0 8=b from rfl);exact ⟨9,by decide,by omega,rfl,⟨h_.1⟩,⟨h_.2.1⟩,⟨h_.2.2⟩⟩
    ·go_wp2
     go_roundg (24 - 10)
     case measure=>omega
     case rel =>
      have h_:=fill2 (u:=a) HBr.out BLr.out BMr.out N42.out.symm GE4.out (by decide) (show madeB a b 0 9=b from rfl);exact ⟨10,by decide,by omega,rfl,⟨h_.1⟩,⟨h_.2.1⟩,⟨h_.2.2⟩⟩
    ·go_wp2
     go_roundg (24 - 11)
     case measure=>omega
     case rel =>
      have h_:=fill2 (u:=a) HBr.out BLr.out BMr.out N42.out.symm GE4.out (by decide) (show madeB a b 0 10=b from rfl);exact ⟨11,by decide,by omega,rfl,⟨h_.1⟩,⟨h_.2.1⟩,⟨h_.2.2⟩⟩
    ·go_wp2
     go_roundg (24 - 12)
     case measure=>omega
     case rel =>
      have h_:=fill2 (u:=a) HBr.out BLr.out BMr.out N42.out.symm GE4.out (by decide) (show madeB a b 0 11=b from rfl);exact ⟨12,by decide,by omega,rfl,⟨h_.1⟩,⟨h_.2.1⟩,⟨h_.2.2⟩⟩
    ·go_wp2
     go_roundg (24 - 13)
     case measure=>omega
     case rel =>
      have h_:=fill2 (u:=a) HBr.out BLr.out BMr.out N42.out.symm GE4.out (by decide) (show madeB a b 0 12=b from rfl);exact ⟨13,by decide,by omega,rfl,⟨h_.1⟩,⟨h_.2.1⟩,⟨h_.2.2⟩⟩
    ·go_wp2
     go_roundg (24 - 14)
     case measure=>omega
     case rel =>
      have h_:=fill2 (u:=a) HBr.out BLr.out BMr.out N42.out.symm GE4.out (by decide) (show madeB a b 0 13=b from rfl);exact ⟨14,by decide,by omega,rfl,⟨h_.1⟩,⟨h_.2.1⟩,⟨h_.2.2⟩⟩
    ·go_wp2
     go_roundg (24 - 15)
     case measure=>omega
     case rel =>
      have h_:=fill2 (u:=a) HBr.out BLr.out BMr.out N42.out.symm GE4.out (by decide) (show madeB a b 0 14=b from rfl);exact ⟨15,by decide,by omega,rfl,⟨h_.1⟩,⟨h_.2.1⟩,⟨h_.2.2⟩⟩
    ·go_wp2
     go_roundg (24 - 16)
     case measure=>omega
     case rel =>
      have h_:=fill2 (u:=a) HBr.out BLr.out BMr.out N42.out.symm GE4.out (by decide) (show madeB a b 0 15=b from rfl);exact ⟨16,by decide,by omega,rfl,⟨h_.1⟩,⟨h_.2.1⟩,⟨h_.2.2⟩⟩
    ·go_wp2
     go_roundg (24 - 17)
     case measure=>omega
     case rel =>
      have h_:=fill2 (u:=a) HBr.out BLr.out BMr.out N42.out.symm GE4.out (by decide) (show madeB a b 0 16=b from rfl);exact ⟨17,by decide,by omega,rfl,⟨h_.1⟩,⟨h_.2.1⟩,⟨h_.2.2⟩⟩
    ·go_wp2
     go_roundg (24 - 18)
     case measure=>omega
     case rel =>
      have h_:=fill2 (u:=a) HBr.out BLr.out BMr.out N42.out.symm GE4.out (by decide) (show madeB a b 0 17=b from rfl);exact ⟨18,by decide,by omega,rfl,⟨h_.1⟩,⟨h_.2.1⟩,⟨h_.2.2⟩⟩
    ·go_wp2
     go_roundg (24 - 19)
     case measure=>omega
     case rel =>
      have h_:=fill1 HBr.out BLr.out BMr.out N42.out.symm GE4.out (by decide) (show madeB a b 0 18=a from rfl);exact ⟨19,by decide,by omega,rfl,⟨h_.1⟩,⟨h_.2.1⟩,⟨h_.2.2⟩⟩
    ·go_wp2
     go_roundg (24 - 20)
     case measure=>omega
     case rel =>
      have h_:=fill1 HBr.out BLr.out BMr.out N42.out.symm GE4.out (by decide) (show madeB a b 0 19=a from rfl);exact ⟨20,by decide,by omega,rfl,⟨h_.1⟩,⟨h_.2.1⟩,⟨h_.2.2⟩⟩
    ·go_wp2
     go_roundg (24 - 21)
     case measure=>omega
     case rel =>
      have h_:=fill2 (u:=a) HBr.out BLr.out BMr.out N42.out.symm GE4.out (by decide) (show madeB a b 0 20=b from rfl);exact ⟨21,by decide,by omega,rfl,⟨h_.1⟩,⟨h_.2.1⟩,⟨h_.2.2⟩⟩
    ·go_wp2
     go_roundg (24 - 22)
     case measure=>omega
     case rel =>
      have h_:=fill2 (u:=a) HBr.out BLr.out BMr.out N42.out.symm GE4.out (by decide) (show madeB a b 0 21=b from rfl);exact ⟨22,by decide,by omega,rfl,⟨h_.1⟩,⟨h_.2.1⟩,⟨h_.2.2⟩⟩
    ·go_wp2
     go_roundg (24 - 23)
     case measure=>omega
     case rel =>
      have h_:=fill1 HBr.out BLr.out BMr.out N42.out.symm GE4.out (by decide) (show madeB a b 0 22=a from rfl);exact ⟨23,by decide,by omega,rfl,⟨h_.1⟩,⟨h_.2.1⟩,⟨h_.2.2⟩⟩
    ·go_wp2
     go_roundg (24 - 24)
     case measure=>omega
     case rel =>
      have h_:=fill1 HBr.out BLr.out BMr.out N42.out.symm GE4.out (by decide) (show madeB a b 0 23=a from rfl);exact ⟨24,by decide,by omega,rfl,⟨h_.1⟩,⟨h_.2.1⟩,⟨h_.2.2⟩⟩
   ·have:i=24:=by omega
    subst this;rw [doneB_all] at BMr;have HLN:=am (show ((List.range 24).map (madeB a b 0)).length=24 by rw [List.length_map,List.length_range]);generalize hys:(List.range 24).map (madeB a b 0)=ys at *;have HYS:=am hys;clear hys
    go_wp2_with (first|((with_reducible refine gate_load (t:=68) rfl ?_);refine box_load (k:=.u8) (t:=68) (b:=b4) (xs:=ys) rfl rfl rfl BMr.out Try.underlying68 rfl zq64 ?_)|((with_reducible refine gate_store (t:=68) (p:=6) rfl ?_);refine box_store (k:=.u8) (t:=68) (b:=b2) (xs:=(List.replicate 24 0)) (ys:=ys) rfl rfl rfl rfl rfl BLr.out zq72 zq64 ?_;intro w9 hw9;have BL9:=am (show IsBox .u8 68 w9 b2 ys by rw [hw9];exact box_row BLr.out ys);have HB9:=am (show Below w.heap.size w w9 by rw [hw9];exact Go.below_setRow HBr.out GE2.out _);clear hw9))
    refine bodyPost_ret (results_list (rs:=[.cell 6 68,.tmp 7]) rfl (by simp) (.cell b2 68 _ (0,0) _ rfl BL9.out Try.underlying68 rfl zq71 (.tmp .nil))) rfl ?_;exact ⟨by rw [HYS.out];rfl,HB9.out⟩
 ·go_enter Try.func104,Try.ntmps104
  go_wp2_with (first|((with_reducible refine gate_dst (N:=6) rfl ?_);refine box_event ?hg (N:=6) ?hd (cs:=(nums .u8 (List.replicate 24 0)).toArray) (t:=68) ?hr ?_;(case hd=>rfl);(case hg=>rfl);(case hr=>exact zq15);intro b2 hg_ w2 hb_ hB_;have GE2:=am (show w.heap.size≤b2 by rw [hg_];exact below_size HB.out);have HB2:=am (below_step HB.out hB_);have BL2:=am (show IsBox .u8 68 w2 b2 (List.replicate 24 0) from hb_);clear hb_ hB_ hg_)|((with_reducible refine gate_dst (N:=8) rfl ?_);refine box_event ?hg (N:=8) ?hd (cs:=(nums .u8 (List.replicate 24 0)).toArray) (t:=68) ?hr ?_;(case hd=>rfl);(case hg=>rfl);(case hr=>exact zq15);intro b4 hg_ w4 hb_ hB_;have N42:=am (show b4≠b2 by rw [hg_];have:=box_lt BL2.out;omega);have GE4:=am (show w.heap.size≤b4 by rw [hg_];exact below_size HB2.out);have HB4:=am (below_step HB2.out hB_);have BL4:=am (box_below BL2.out hB_);have BM4:=am (show IsBox .u8 68 w4 b4 (List.replicate 24 0) from hb_);clear hb_ hB_ hg_)|((with_reducible refine gate_store (t:=68) (p:=8) rfl ?_);refine box_store (k:=.u8) (t:=68) (b:=b4) (xs:=(List.replicate 24 0)) (ys:=(List.replicate 24 0)) rfl rfl rfl rfl rfl BM4.out (by simp) zq67 ?_;intro w5 hw5;have BM5:=am (show IsBox .u8 68 w5 b4 (List.replicate 24 0) by rw [hw5];exact box_row BM4.out (List.replicate 24 0));have BL5:=am (show IsBox .u8 68 w5 b2 (List.replicate 24 0) by rw [hw5];exact box_apart BL4.out N42.out.symm _);have HB5:=am (show Below w.heap.size w w5 by rw [hw5];exact Go.below_setRow HB4.out GE4.out _);clear hw5)|(go_at_call 113;(with_reducible refine (spec_l01Colour.calls a true _ HCO.out).mono ?_);rintro e w6 ⟨rfl,⟨nd,rfl⟩⟩;have BM6:=am (box_below BM5.out (pw_below_drewN (Below.refl _ _) nd));have BL6:=am (box_below BL5.out (pw_below_drewN (Below.refl _ _) nd));have HB6:=am (pw_below_drewN HB5.out nd);clear BM5 BL5)|(go_at_call 113;(with_reducible refine (spec_l01Colour.calls b true _ HCP.out).mono ?_);rintro e w7 ⟨rfl,⟨ne,rfl⟩⟩;have BM7:=am (box_below BM6.out (pw_below_drewN (Below.refl _ _) ne));have BL7:=am (box_below BL6.out (pw_below_drewN (Below.refl _ _) ne));have HB7:=am (pw_below_drewN HB6.out ne);clear BM6 BL6))
  go_loopg [9,10,11,12] 25 (fun gg s9 s10 s11 s12 wr=>∃ i:Nat,i≤24∧24 - i≤gg∧s9=.int .i64 i∧Aside0 (Below w.heap.size w wr)∧Aside0 (IsBox .u8 68 wr b2 (List.replicate 24 0))∧Aside0 (IsBox .u8 68 wr b4 (doneB (madeB a b 1) 24 i)))
  case atStart=>exact ⟨0,by omega,by omega,rfl,⟨pw_below_drewN HB5.out _⟩,⟨BL7.out⟩,⟨by rw [doneB_zero];exact BM7.out⟩⟩
  case round =>
   clear BM7 BL7 HB7 HB6 HB5;obtain ⟨i,hi,hg,rfl,HBr,BLr,BMr⟩:=hrel
   by_cases hlt:i < 24
   ·obtain ⟨v0,c4⟩:∃ v0:Int,wr.cell? ⟨b4,i,none⟩=some (.int .u8 v0):=⟨_,box_at BMr.out (show i < (doneB (madeB a b 1) 24 i).length by rw [doneB_len _ hi];exact hlt)⟩;have f4:=box_frozen BMr.out i;generalize hys:doneB (madeB a b 1) 24 i=ys at c4;clear hys
    have:i=0∨i=1∨i=2∨i=3∨i=4∨i=5∨i=6∨i=7∨i=8∨i=9∨i=10∨i=11∨i=12∨i=13∨i=14∨i=15∨i=16∨i=17∨i=18∨i=19∨i=20∨i=21∨i=22∨i=23:=by omega
    rcases this with rfl|rfl|rfl|rfl|rfl|rfl|rfl|rfl|rfl|rfl|rfl|rfl|rfl|rfl|rfl|rfl|rfl|rfl|rfl|rfl|rfl|rfl|rfl|rfl
    ·go_wp2
     go_roundg (24 - 1)
     case measure=>omega
     case rel =>
      have h_:=fill2 (u:=a) HBr.out BLr.out BMr.out N42.out.symm GE4.out (by decide) (show madeB a b 1 0=b from rfl);exact ⟨1,by decide,by omega,rfl,⟨h_.1⟩,⟨h_.2.1⟩,⟨h_.2.2⟩⟩
    ·go_wp2
     go_roundg (24 - 2)
     case measure=>omega
     case rel =>
      have h_:=fill2 (u:=a) HBr.out BLr.out BMr.out N42.out.symm GE4.out (by decide) (show madeB a b 1 1=b from rfl);exact ⟨2,by decide,by omega,rfl,⟨h_.1⟩,⟨h_.2.1⟩,⟨h_.2.2⟩⟩
    ·go_wp2
     go_roundg (24 - 3)
     case measure=>omega
     case rel =>
      have h_:=fill2 (u:=a) HBr.out BLr.out BMr.out N42.out.symm GE4.out (by decide) (show madeB a b 1 2=b from rfl);exact ⟨3,by decide,by omega,rfl,⟨h_.1⟩,⟨h_.2.1⟩,⟨h_.2.2⟩⟩
    ·go_wp2
     go_roundg (24 - 4)
     case measure=>omega
     case rel =>
      have h_:=fill2 (u:=a) HBr.out BLr.out BMr.out N42.out.symm GE4.out (by decide) (show madeB a b 1 3=b from rfl);exact ⟨4,by decide,by omega,rfl,⟨h_.1⟩,⟨h_.2.1⟩,⟨h_.2.2⟩⟩
    ·go_wp2
     go_roundg (24 - 5)
     case measure=>omega
     case rel =>
      have h_:=fill2 (u:=a) HBr.out BLr.out BMr.out N42.out.symm GE4.out (by decide) (show madeB a b 1 4=b from rfl);exact ⟨5,by decide,by omega,rfl,⟨h_.1⟩,⟨h_.2.1⟩,⟨h_.2.2⟩⟩
    ·go_wp2
     go_roundg (24 - 6)
     case measure=>omega
     case rel =>
      have h_:=fill2 (u:=a) HBr.out BLr.out BMr.out N42.out.symm GE4.out (by decide) (show madeB a b 1 5=b from rfl);exact ⟨6,by decide,by omega,rfl,⟨h_.1⟩,⟨h_.2.1⟩,⟨h_.2.2⟩⟩
    ·go_wp2
     go_roundg (24 - 7)
     case measure=>omega
     case rel =>
      have h_:=fill2 (u:=a) HBr.out BLr.out BMr.out N42.out.symm GE4.out (by decide) (show madeB a b 1 6=b from rfl);exact ⟨7,by decide,by omega,rfl,⟨h_.1⟩,⟨h_.2.1⟩,⟨h_.2.2⟩⟩
    ·go_wp2
     go_roundg (24 - 8)
     case measure=>omega
     case rel =>
      have h_:=fill1 HBr.out BLr.out BMr.out N42.out.symm GE4.out (by decide) (show madeB a b 1 7=a from rfl);exact ⟨8,by decide,by omega,rfl,⟨h_.1⟩,⟨h_.2.1⟩,⟨h_.2.2⟩⟩
    ·go_wp2
     go_roundg (24 - 9)
     case measure=>omega
     case rel =>
      have h_:=fill1 HBr.out BLr.out BMr.out N42.out.symm GE4.out (by decide) (show madeB a b 1 8=a from rfl);exact ⟨9,by decide,by omega,rfl,⟨h_.1⟩,⟨h_.2.1⟩,⟨h_.2.2⟩⟩
    ·go_wp2
     go_roundg (24 - 10)
     case measure=>omega
     case rel =>
      have h_:=fill1 HBr.out BLr.out BMr.out N42.out.symm GE4.out (by decide) (show madeB a b 1 9=a from rfl);exact ⟨10,by decide,by omega,rfl,⟨h_.1⟩,⟨h_.2.1⟩,⟨h_.2.2⟩⟩
    ·go_wp2
     go_roundg (24 - 11)
     case measure=>omega
     case rel =>
      have h_:=fill1 HBr.out BLr.out BMr.out N42.out.symm GE4.out (by decide) (show madeB a b 1 10=a from rfl);exact ⟨11,by decide,by omega,rfl,⟨h_.1⟩,⟨h_.2.1⟩,⟨h_.2.2⟩⟩
    ·go_wp2
     go_roundg (24 - 12)
     case measure=>omega
     case rel =>
      have h_:=fill2 (u:=a) HBr.out BLr.out BMr.out N42.out.symm GE4.out (by decide) (show madeB a b 1 11=b from rfl);exact ⟨12,by decide,by omega,rfl,⟨h_.1⟩,⟨h_.2.1⟩,⟨h_.2.2⟩⟩
    ·go_wp2
     go_roundg (24 - 13)
     case measure=>omega
     case rel =>
      have h_:=fill2 (u:=a) HBr.out BLr.out BMr.out N42.out.symm GE4.out (by decide) (show madeB a b 1 12=b from rfl);exact ⟨13,by decide,by omega,rfl,⟨h_.1⟩,⟨h_.2.1⟩,⟨h_.2.2⟩⟩
    ·go_wp2
     go_roundg (24 - 14)
     case measure=>omega
     case rel =>
      have h_:=fill1 HBr.out BLr.out BMr.out N42.out.symm GE4.out (by decide) (show madeB a b 1 13=a from rfl);exact ⟨14,by decide,by omega,rfl,⟨h_.1⟩,⟨h_.2.1⟩,⟨h_.2.2⟩⟩
    ·go_wp2
     go_roundg (24 - 15)
     case measure=>omega
     case rel =>
      have h_:=fill1 HBr.out BLr.out BMr.out N42.out.symm GE4.out (by decide) (show madeB a b 1 14=a from rfl);exact ⟨15,by decide,by omega,rfl,⟨h_.1⟩,⟨h_.2.1⟩,⟨h_.2.2⟩⟩
    ·go_wp2
     go_roundg (24 - 16)
     case measure=>omega
     case rel =>
      have h_:=fill1 HBr.out BLr.out BMr.out N42.out.symm GE4.out (by decide) (show madeB a b 1 15=a from rfl);exact ⟨16,by decide,by omega,rfl,⟨h_.1⟩,⟨h_.2.1⟩,⟨h_.2.2⟩⟩
    ·go_wp2
     go_roundg (24 - 17)
     case measure=>omega
     case rel =>
      have h_:=fill1 HBr.out BLr.out BMr.out N42.out.symm GE4.out (by decide) (show madeB a b 1 16=a from rfl);exact ⟨17,by decide,by omega,rfl,⟨h_.1⟩,⟨h_.2.1⟩,⟨h_.2.2⟩⟩
    ·go_wp2
     go_roundg (24 - 18)
     case measure=>omega
     case rel =>
      have h_:=fill2 (u:=a) HBr.out BLr.out BMr.out N42.out.symm GE4.out (by decide) (show madeB a b 1 17=b from rfl);exact ⟨18,by decide,by omega,rfl,⟨h_.1⟩,⟨h_.2.1⟩,⟨h_.2.2⟩⟩
    ·go_wp2
     go_roundg (24 - 19)
     case measure=>omega
     case rel =>
      have h_:=fill2 (u:=a) HBr.out BLr.out BMr.out N42.out.symm GE4.out (by decide) (show madeB a b 1 18=b from rfl);exact ⟨19,by decide,by omega,rfl,⟨h_.1⟩,⟨h_.2.1⟩,⟨h_.2.2⟩⟩
    ·go_wp2
     go_roundg (24 - 20)
     case measure=>omega
     case rel =>
      have h_:=fill2 (u:=a) HBr.out BLr.out BMr.out N42.out.symm GE4.out (by decide) (show madeB a b 1 19=b from rfl);exact ⟨20,by decide,by omega,rfl,⟨h_.1⟩,⟨h_.2.1⟩,⟨h_.2.2⟩⟩
    ·go_wp2
     go_roundg (24 - 21)
     case measure=>omega
     case rel =>
      have h_:=fill2 (u:=a) HBr.out BLr.out BMr.out N42.out.symm GE4.out (by decide) (show madeB a b 1 20=b from rfl);exact ⟨21,by decide,by omega,rfl,⟨h_.1⟩,⟨h_.2.1⟩,⟨h_.2.2⟩⟩
    ·go_wp2
     go_roundg (24 - 22)
     case measure=>omega
     case rel =>
      have h_:=fill2 (u:=a) HBr.out BLr.out BMr.out N42.out.symm GE4.out (by decide) (show madeB a b 1 21=b from rfl);exact ⟨22,by decide,by omega,rfl,⟨h_.1⟩,⟨h_.2.1⟩,⟨h_.2.2⟩⟩
    ·go_wp2
     go_roundg (24 - 23)
     case measure=>omega
     case rel =>
      have h_:=fill2 (u:=a) HBr.out BLr.out BMr.out N42.out.symm GE4.out (by decide) (show madeB a b 1 22=b from rfl);exact ⟨23,by decide,by omega,rfl,⟨h_.1⟩,⟨h_.2.1⟩,⟨h_.2.2⟩⟩
    ·go_wp2
     go_roundg (24 - 24)
     case measure=>omega
     case rel =>
      have h_:=fill2 (u:=a) HBr.out BLr.out BMr.out N42.out.symm GE4.out (by decide) (show madeB a b 1 23=b from rfl);exact ⟨24,by decide,by omega,rfl,⟨h_.1⟩,⟨h_.2.1⟩,⟨h_.2.2⟩⟩
   ·have:i=24:=by omega
    subst this;rw [doneB_all] at BMr;have HLN:=am (show ((List.range 24).map (madeB a b 1)).length=24 by rw [List.length_map,List.length_range]);generalize hys:(List.range 24).map (madeB a b 1)=ys at *;have HYS:=am hys;clear hys
    go_wp2_with (first|((with_reducible refine gate_load (t:=68) rfl ?_);refine box_load (k:=.u8) (t:=68) (b:=b4) (xs:=ys) rfl rfl rfl BMr.out Try.underlying68 rfl zq64 ?_)|((with_reducible refine gate_store (t:=68) (p:=6) rfl ?_);refine box_store (k:=.u8) (t:=68) (b:=b2) (xs:=(List.replicate 24 0)) (ys:=ys) rfl rfl rfl rfl rfl BLr.out zq72 zq64 ?_;intro w9 hw9;have BL9:=am (show IsBox .u8 68 w9 b2 ys by rw [hw9];exact box_row BLr.out ys);have HB9:=am (show Below w.heap.size w w9 by rw [hw9];exact Go.below_setRow HBr.out GE2.out _);clear hw9))
    refine bodyPost_ret (results_list (rs:=[.cell 6 68,.tmp 7]) rfl (by simp) (.cell b2 68 _ (0,0) _ rfl BL9.out Try.underlying68 rfl zq71 (.tmp .nil))) rfl ?_;exact ⟨by rw [HYS.out];rfl,HB9.out⟩
 ·go_enter Try.func104,Try.ntmps104
  go_wp2_with (first|((with_reducible refine gate_dst (N:=6) rfl ?_);refine box_event ?hg (N:=6) ?hd (cs:=(nums .u8 (List.replicate 24 0)).toArray) (t:=68) ?hr ?_;(case hd=>rfl);(case hg=>rfl);(case hr=>exact zq15);intro b2 hg_ w2 hb_ hB_;have GE2:=am (show w.heap.size≤b2 by rw [hg_];exact below_size HB.out);have HB2:=am (below_step HB.out hB_);have BL2:=am (show IsBox .u8 68 w2 b2 (List.replicate 24 0) from hb_);clear hb_ hB_ hg_)|((with_reducible refine gate_dst (N:=8) rfl ?_);refine box_event ?hg (N:=8) ?hd (cs:=(nums .u8 (List.replicate 24 0)).toArray) (t:=68) ?hr ?_;(case hd=>rfl);(case hg=>rfl);(case hr=>exact zq15);intro b4 hg_ w4 hb_ hB_;have N42:=am (show b4≠b2 by rw [hg_];have:=box_lt BL2.out;omega);have GE4:=am (show w.heap.size≤b4 by rw [hg_];exact below_size HB2.out);have HB4:=am (below_step HB2.out hB_);have BL4:=am (box_below BL2.out hB_);have BM4:=am (show IsBox .u8 68 w4 b4 (List.replicate 24 0) from hb_);clear hb_ hB_ hg_)|((with_reducible refine gate_store (t:=68) (p:=8) rfl ?_);refine box_store (k:=.u8) (t:=68) (b:=b4) (xs:=(List.replicate 24 0)) (ys:=(List.replicate 24 0)) rfl rfl rfl rfl rfl BM4.out (by simp) zq67 ?_;intro w5 hw5;have BM5:=am (show IsBox .u8 68 w5 b4 (List.replicate 24 0) by rw [hw5];exact box_row BM4.out (List.replicate 24 0));have BL5:=am (show IsBox .u8 68 w5 b2 (List.replicate 24 0) by rw [hw5];exact box_apart BL4.out N42.out.symm _);have HB5:=am (show Below w.heap.size w w5 by rw [hw5];exact Go.below_setRow HB4.out GE4.out _);clear hw5)|(go_at_call 113;(with_reducible refine (spec_l01Colour.calls a true _ HCO.out).mono ?_);rintro e w6 ⟨rfl,⟨nd,rfl⟩⟩;have BM6:=am (box_below BM5.out (pw_below_drewN (Below.refl _ _) nd));have BL6:=am (box_below BL5.out (pw_below_drewN (Below.refl _ _) nd));have HB6:=am (pw_below_drewN HB5.out nd);clear BM5 BL5)|(go_at_call 113;(with_reducible refine (spec_l01Colour.calls b true _ HCP.out).mono ?_);rintro e w7 ⟨rfl,⟨ne,rfl⟩⟩;have BM7:=am (box_below BM6.out (pw_below_drewN (Below.refl _ _) ne));have BL7:=am (box_below BL6.out (pw_below_drewN (Below.refl _ _) ne));have HB7:=am (pw_below_drewN HB6.out ne);clear BM6 BL6))
  go_loopg [9,10,11,12] 25 (fun gg s9 s10 s11 s12 wr=>∃ i:Nat,i≤24∧24 - i≤gg∧s9=.int .i64 i∧Aside0 (Below w.heap.size w wr)∧Aside0 (IsBox .u8 68 wr b2 (List.replicate 24 0))∧Aside0 (IsBox .u8 68 wr b4 (doneB (madeB a b 2) 24 i)))
  case atStart=>exact ⟨0,by omega,by omega,rfl,⟨pw_below_drewN HB5.out _⟩,⟨BL7.out⟩,⟨by rw [doneB_zero];exact BM7.out⟩⟩
  case round =>
   clear BM7 BL7 HB7 HB6 HB5;obtain ⟨i,hi,hg,rfl,HBr,BLr,BMr⟩:=hrel
   by_cases hlt:i < 24
   ·obtain ⟨v0,c4⟩:∃ v0:Int,wr.cell? ⟨b4,i,none⟩=some (.int .u8 v0):=⟨_,box_at BMr.out (show i < (doneB (madeB a b 2) 24 i).length by rw [doneB_len _ hi];exact hlt)⟩;have f4:=box_frozen BMr.out i;generalize hys:doneB (madeB a b 2) 24 i=ys at c4;clear hys
    have:i=0∨i=1∨i=2∨i=3∨i=4∨i=5∨i=6∨i=7∨i=8∨i=9∨i=10∨i=11∨i=12∨i=13∨i=14∨i=15∨i=16∨i=17∨i=18∨i=19∨i=20∨i=21∨i=22∨i=23:=by omega
    rcases this with rfl|rfl|rfl|rfl|rfl|rfl|rfl|rfl|rfl|rfl|rfl|rfl|rfl|rfl|rfl|rfl|rfl|rfl|rfl|rfl|rfl|rfl|rfl|rfl
    ·go_wp2
     go_roundg (24 - 1)
     case measure=>omega
     case rel =>
      have h_:=fill1 HBr.out BLr.out BMr.out N42.out.symm GE4.out (by decide) (show madeB a b 2 0=a from rfl);exact ⟨1,by decide,by omega,rfl,⟨h_.1⟩,⟨h_.2.1⟩,⟨h_.2.2⟩⟩
    ·go_wp2
     go_roundg (24 - 2)
     case measure=>omega
     case rel =>
      have h_:=fill2 (u:=a) HBr.out BLr.out BMr.out N42.out.symm GE4.out (by decide) (show madeB a b 2 1=b from rfl);exact ⟨2,by decide,by omega,rfl,⟨h_.1⟩,⟨h_.2.1⟩,⟨h_.2.2⟩⟩
    ·go_wp2
     go_roundg (24 - 3)
     case measure=>omega
     case rel =>
      have h_:=fill1 HBr.out BLr.out BMr.out N42.out.symm GE4.out (by decide) (show madeB a b 2 2=a from rfl);exact ⟨3,by decide,by omega,rfl,⟨h_.1⟩,⟨h_.2.1⟩,⟨h_.2.2⟩⟩
    ·go_wp2
     go_roundg (24 - 4)
     case measure=>omega
     case rel =>
      have h_:=fill2 (u:=a) HBr.out BLr.out BMr.out N42.out.symm GE4.out (by decide) (show madeB a b 2 3=b from rfl);exact ⟨4,by decide,by omega,rfl,⟨h_.1⟩,⟨h_.2.1⟩,⟨h_.2.2⟩⟩
    ·go_wp2
     go_roundg (24 - 5)
     case measure=>omega
     case rel =>
      have h_:=fill1 HBr.out BLr.out BMr.out N42.out.symm GE4.out (by decide) (show madeB a b 2 4=a from rfl);exact ⟨5,by decide,by omega,rfl,⟨h_.1⟩,⟨h_.2.1⟩,⟨h_.2.2⟩⟩
    ·go_wp2
     go_roundg (24 - 6)
     case measure=>omega
     case rel =>
      have h_:=fill2 (u:=a) HBr.out BLr.out BMr.out N42.out.symm GE4.out (by decide) (show madeB a b 2 5=b from rfl);exact ⟨6,by decide,by omega,rfl,⟨h_.1⟩,⟨h_.2.1⟩,⟨h_.2.2⟩⟩
    ·go_wp2
     go_roundg (24 - 7)
     case measure=>omega
     case rel =>
      have h_:=fill2 (u:=a) HBr.out BLr.out BMr.out N42.out.symm GE4.out (by decide) (show madeB a b 2 6=b from rfl);exact ⟨7,by decide,by omega,rfl,⟨h_.1⟩,⟨h_.2.1⟩,⟨h_.2.2⟩⟩
    ·go_wp2
     go_roundg (24 - 8)
     case measure=>omega
     case rel =>
      have h_:=fill1 HBr.out BLr.out BMr.out N42.out.symm GE4.out (by decide) (show madeB a b 2 7=a from rfl);exact ⟨8,by decide,by omega,rfl,⟨h_.1⟩,⟨h_.2.1⟩,⟨h_.2.2⟩⟩
    ·go_wp2
     go_roundg (24 - 9)
     case measure=>omega
     case rel =>
      have h_:=fill2 (u:=a) HBr.out BLr.out BMr.out N42.out.symm GE4.out (by decide) (show madeB a b 2 8=b from rfl);exact ⟨9,by decide,by omega,rfl,⟨h_.1⟩,⟨h_.2.1⟩,⟨h_.2.2⟩⟩
    ·go_wp2
     go_roundg (24 - 10)
     case measure=>omega
     case rel =>
      have h_:=fill1 HBr.out BLr.out BMr.out N42.out.symm GE4.out (by decide) (show madeB a b 2 9=a from rfl);exact ⟨10,by decide,by omega,rfl,⟨h_.1⟩,⟨h_.2.1⟩,⟨h_.2.2⟩⟩
    ·go_wp2
     go_roundg (24 - 11)
     case measure=>omega
     case rel =>
      have h_:=fill2 (u:=a) HBr.out BLr.out BMr.out N42.out.symm GE4.out (by decide) (show madeB a b 2 10=b from rfl);exact ⟨11,by decide,by omega,rfl,⟨h_.1⟩,⟨h_.2.1⟩,⟨h_.2.2⟩⟩
    ·go_wp2
     go_roundg (24 - 12)
     case measure=>omega
     case rel =>
      have h_:=fill1 HBr.out BLr.out BMr.out N42.out.symm GE4.out (by decide) (show madeB a b 2 11=a from rfl);exact ⟨12,by decide,by omega,rfl,⟨h_.1⟩,⟨h_.2.1⟩,⟨h_.2.2⟩⟩
    ·go_wp2
     go_roundg (24 - 13)
     case measure=>omega
     case rel =>
      have h_:=fill1 HBr.out BLr.out BMr.out N42.out.symm GE4.out (by decide) (show madeB a b 2 12=a from rfl);exact ⟨13,by decide,by omega,rfl,⟨h_.1⟩,⟨h_.2.1⟩,⟨h_.2.2⟩⟩
    ·go_wp2
     go_roundg (24 - 14)
     case measure=>omega
     case rel =>
      have h_:=fill2 (u:=a) HBr.out BLr.out BMr.out N42.out.symm GE4.out (by decide) (show madeB a b 2 13=b from rfl);exact ⟨14,by decide,by omega,rfl,⟨h_.1⟩,⟨h_.2.1⟩,⟨h_.2.2⟩⟩
    ·go_wp2
     go_roundg (24 - 15)
     case measure=>omega
     case rel =>
      have h_:=fill1 HBr.out BLr.out BMr.out N42.out.symm GE4.out (by decide) (show madeB a b 2 14=a from rfl);exact ⟨15,by decide,by omega,rfl,⟨h_.1⟩,⟨h_.2.1⟩,⟨h_.2.2⟩⟩
    ·go_wp2
     go_roundg (24 - 16)
     case measure=>omega
     case rel =>
      have h_:=fill2 (u:=a) HBr.out BLr.out BMr.out N42.out.symm GE4.out (by decide) (show madeB a b 2 15=b from rfl);exact ⟨16,by decide,by omega,rfl,⟨h_.1⟩,⟨h_.2.1⟩,⟨h_.2.2⟩⟩
    ·go_wp2
     go_roundg (24 - 17)
     case measure=>omega
     case rel =>
      have h_:=fill1 HBr.out BLr.out BMr.out N42.out.symm GE4.out (by decide) (show madeB a b 2 16=a from rfl);exact ⟨17,by decide,by omega,rfl,⟨h_.1⟩,⟨h_.2.1⟩,⟨h_.2.2⟩⟩
    ·go_wp2
     go_roundg (24 - 18)
     case measure=>omega
     case rel =>
      have h_:=fill2 (u:=a) HBr.out BLr.out BMr.out N42.out.symm GE4.out (by decide) (show madeB a b 2 17=b from rfl);exact ⟨18,by decide,by omega,rfl,⟨h_.1⟩,⟨h_.2.1⟩,⟨h_.2.2⟩⟩
    ·go_wp2
     go_roundg (24 - 19)
     case measure=>omega
     case rel =>
      have h_:=fill2 (u:=a) HBr.out BLr.out BMr.out N42.out.symm GE4.out (by decide) (show madeB a b 2 18=b from rfl);exact ⟨19,by decide,by omega,rfl,⟨h_.1⟩,⟨h_.2.1⟩,⟨h_.2.2⟩⟩
    ·go_wp2
     go_roundg (24 - 20)
     case measure=>omega
     case rel =>
      have h_:=fill1 HBr.out BLr.out BMr.out N42.out.symm GE4.out (by decide) (show madeB a b 2 19=a from rfl);exact ⟨20,by decide,by omega,rfl,⟨h_.1⟩,⟨h_.2.1⟩,⟨h_.2.2⟩⟩
    ·go_wp2
     go_roundg (24 - 21)
     case measure=>omega
     case rel =>
      have h_:=fill2 (u:=a) HBr.out BLr.out BMr.out N42.out.symm GE4.out (by decide) (show madeB a b 2 20=b from rfl);exact ⟨21,by decide,by omega,rfl,⟨h_.1⟩,⟨h_.2.1⟩,⟨h_.2.2⟩⟩
    ·go_wp2
     go_roundg (24 - 22)
     case measure=>omega
     case rel =>
      have h_:=fill1 HBr.out BLr.out BMr.out N42.out.symm GE4.out (by decide) (show madeB a b 2 21=a from rfl);exact ⟨22,by decide,by omega,rfl,⟨h_.1⟩,⟨h_.2.1⟩,⟨h_.2.2⟩⟩
    ·go_wp2
     go_roundg (24 - 23)
     case measure=>omega
     case rel =>
      have h_:=fill2 (u:=a) HBr.out BLr.out BMr.out N42.out.symm GE4.out (by decide) (show madeB a b 2 22=b from rfl);exact ⟨23,by decide,by omega,rfl,⟨h_.1⟩,⟨h_.2.1⟩,⟨h_.2.2⟩⟩
    ·go_wp2
     go_roundg (24 - 24)
     case measure=>omega
     case rel =>
      have h_:=fill1 HBr.out BLr.out BMr.out N42.out.symm GE4.out (by decide) (show madeB a b 2 23=a from rfl);exact ⟨24,by decide,by omega,rfl,⟨h_.1⟩,⟨h_.2.1⟩,⟨h_.2.2⟩⟩
   ·have:i=24:=by omega
    subst this;rw [doneB_all] at BMr;have HLN:=am (show ((List.range 24).map (madeB a b 2)).length=24 by rw [List.length_map,List.length_range]);generalize hys:(List.range 24).map (madeB a b 2)=ys at *;have HYS:=am hys;clear hys
    go_wp2_with (first|((with_reducible refine gate_load (t:=68) rfl ?_);refine box_load (k:=.u8) (t:=68) (b:=b4) (xs:=ys) rfl rfl rfl BMr.out Try.underlying68 rfl zq64 ?_)|((with_reducible refine gate_store (t:=68) (p:=6) rfl ?_);refine box_store (k:=.u8) (t:=68) (b:=b2) (xs:=(List.replicate 24 0)) (ys:=ys) rfl rfl rfl rfl rfl BLr.out zq72 zq64 ?_;intro w9 hw9;have BL9:=am (show IsBox .u8 68 w9 b2 ys by rw [hw9];exact box_row BLr.out ys);have HB9:=am (show Below w.heap.size w w9 by rw [hw9];exact Go.below_setRow HBr.out GE2.out _);clear hw9))
    refine bodyPost_ret (results_list (rs:=[.cell 6 68,.tmp 7]) rfl (by simp) (.cell b2 68 _ (0,0) _ rfl BL9.out Try.underlying68 rfl zq71 (.tmp .nil))) rfl ?_;exact ⟨by rw [HYS.out];rfl,HB9.out⟩
 ·go_enter Try.func104,Try.ntmps104
  go_wp2_with (first|((with_reducible refine gate_dst (N:=6) rfl ?_);refine box_event ?hg (N:=6) ?hd (cs:=(nums .u8 (List.replicate 24 0)).toArray) (t:=68) ?hr ?_;(case hd=>rfl);(case hg=>rfl);(case hr=>exact zq15);intro b2 hg_ w2 hb_ hB_;have GE2:=am (show w.heap.size≤b2 by rw [hg_];exact below_size HB.out);have HB2:=am (below_step HB.out hB_);have BL2:=am (show IsBox .u8 68 w2 b2 (List.replicate 24 0) from hb_);clear hb_ hB_ hg_)|((with_reducible refine gate_dst (N:=8) rfl ?_);refine box_event ?hg (N:=8) ?hd (cs:=(nums .u8 (List.replicate 24 0)).toArray) (t:=68) ?hr ?_;(case hd=>rfl);(case hg=>rfl);(case hr=>exact zq15);intro b4 hg_ w4 hb_ hB_;have N42:=am (show b4≠b2 by rw [hg_];have:=box_lt BL2.out;omega);have GE4:=am (show w.heap.size≤b4 by rw [hg_];exact below_size HB2.out);have HB4:=am (below_step HB2.out hB_);have BL4:=am (box_below BL2.out hB_);have BM4:=am (show IsBox .u8 68 w4 b4 (List.replicate 24 0) from hb_);clear hb_ hB_ hg_)|((with_reducible refine gate_store (t:=68) (p:=8) rfl ?_);refine box_store (k:=.u8) (t:=68) (b:=b4) (xs:=(List.replicate 24 0)) (ys:=(List.replicate 24 0)) rfl rfl rfl rfl rfl BM4.out (by simp) zq67 ?_;intro w5 hw5;have BM5:=am (show IsBox .u8 68 w5 b4 (List.replicate 24 0) by rw [hw5];exact box_row BM4.out (List.replicate 24 0));have BL5:=am (show IsBox .u8 68 w5 b2 (List.replicate 24 0) by rw [hw5];exact box_apart BL4.out N42.out.symm _);have HB5:=am (show Below w.heap.size w w5 by rw [hw5];exact Go.below_setRow HB4.out GE4.out _);clear hw5)|(go_at_call 113;(with_reducible refine (spec_l01Colour.calls a true _ HCO.out).mono ?_);rintro e w6 ⟨rfl,⟨nd,rfl⟩⟩;have BM6:=am (box_below BM5.out (pw_below_drewN (Below.refl _ _) nd));have BL6:=am (box_below BL5.out (pw_below_drewN (Below.refl _ _) nd));have HB6:=am (pw_below_drewN HB5.out nd);clear BM5 BL5)|(go_at_call 113;(with_reducible refine (spec_l01Colour.calls b true _ HCP.out).mono ?_);rintro e w7 ⟨rfl,⟨ne,rfl⟩⟩;have BM7:=am (box_below BM6.out (pw_below_drewN (Below.refl _ _) ne));have BL7:=am (box_below BL6.out (pw_below_drewN (Below.refl _ _) ne));have HB7:=am (pw_below_drewN HB6.out ne);clear BM6 BL6))
  go_loopg [9,10,11,12] 25 (fun gg s9 s10 s11 s12 wr=>∃ i:Nat,i≤24∧24 - i≤gg∧s9=.int .i64 i∧Aside0 (Below w.heap.size w wr)∧Aside0 (IsBox .u8 68 wr b2 (List.replicate 24 0))∧Aside0 (IsBox .u8 68 wr b4 (doneB (madeB a b 3) 24 i)))
  case atStart=>exact ⟨0,by omega,by omega,rfl,⟨pw_below_drewN HB5.out _⟩,⟨BL7.out⟩,⟨by rw [doneB_zero];exact BM7.out⟩⟩
  case round =>
   clear BM7 BL7 HB7 HB6 HB5;obtain ⟨i,hi,hg,rfl,HBr,BLr,BMr⟩:=hrel
   by_cases hlt:i < 24
   ·obtain ⟨v0,c4⟩:∃ v0:Int,wr.cell? ⟨b4,i,none⟩=some (.int .u8 v0):=⟨_,box_at BMr.out (show i < (doneB (madeB a b 3) 24 i).length by rw [doneB_len _ hi];exact hlt)⟩;have f4:=box_frozen BMr.out i;generalize hys:doneB (madeB a b 3) 24 i=ys at c4;clear hys
    have:i=0∨i=1∨i=2∨i=3∨i=4∨i=5∨i=6∨i=7∨i=8∨i=9∨i=10∨i=11∨i=12∨i=13∨i=14∨i=15∨i=16∨i=17∨i=18∨i=19∨i=20∨i=21∨i=22∨i=23:=by omega
    rcases this with rfl|rfl|rfl|rfl|rfl|rfl|rfl|rfl|rfl|rfl|rfl|rfl|rfl|rfl|rfl|rfl|rfl|rfl|rfl|rfl|rfl|rfl|rfl|rfl
    ·go_wp2
     go_roundg (24 - 1)
     case measure=>omega
     case rel =>
      have h_:=fill1 HBr.out BLr.out BMr.out N42.out.symm GE4.out (by decide) (show madeB a b 3 0=a from rfl);exact ⟨1,by decide,by omega,rfl,⟨h_.1⟩,⟨h_.2.1⟩,⟨h_.2.2⟩⟩
    ·go_wp2
     go_roundg (24 - 2)
     case measure=>omega
     case rel =>
      have h_:=fill1 HBr.out BLr.out BMr.out N42.out.symm GE4.out (by decide) (show madeB a b 3 1=a from rfl);exact ⟨2,by decide,by omega,rfl,⟨h_.1⟩,⟨h_.2.1⟩,⟨h_.2.2⟩⟩
    ·go_wp2
     go_roundg (24 - 3)
     case measure=>omega
     case rel =>
      have h_:=fill1 HBr.out BLr.out BMr.out N42.out.symm GE4.out (by decide) (show madeB a b 3 2=a from rfl);exact ⟨3,by decide,by omega,rfl,⟨h_.1⟩,⟨h_.2.1⟩,⟨h_.2.2⟩⟩
    ·go_wp2
     go_roundg (24 - 4)
     case measure=>omega
     case rel =>
      have h_:=fill1 HBr.out BLr.out BMr.out N42.out.symm GE4.out (by decide) (show madeB a b 3 3=a from rfl);exact ⟨4,by decide,by omega,rfl,⟨h_.1⟩,⟨h_.2.1⟩,⟨h_.2.2⟩⟩
    ·go_wp2
     go_roundg (24 - 5)
     case measure=>omega
     case rel =>
      have h_:=fill1 HBr.out BLr.out BMr.out N42.out.symm GE4.out (by decide) (show madeB a b 3 4=a from rfl);exact ⟨5,by decide,by omega,rfl,⟨h_.1⟩,⟨h_.2.1⟩,⟨h_.2.2⟩⟩
    ·go_wp2
     go_roundg (24 - 6)
     case measure=>omega
     case rel =>
      have h_:=fill1 HBr.out BLr.out BMr.out N42.out.symm GE4.out (by decide) (show madeB a b 3 5=a from rfl);exact ⟨6,by decide,by omega,rfl,⟨h_.1⟩,⟨h_.2.1⟩,⟨h_.2.2⟩⟩
    ·go_wp2
     go_roundg (24 - 7)
     case measure=>omega
     case rel =>
      have h_:=fill1 HBr.out BLr.out BMr.out N42.out.symm GE4.out (by decide) (show madeB a b 3 6=a from rfl);exact ⟨7,by decide,by omega,rfl,⟨h_.1⟩,⟨h_.2.1⟩,⟨h_.2.2⟩⟩
    ·go_wp2
     go_roundg (24 - 8)
     case measure=>omega
     case rel =>
      have h_:=fill1 HBr.out BLr.out BMr.out N42.out.symm GE4.out (by decide) (show madeB a b 3 7=a from rfl);exact ⟨8,by decide,by omega,rfl,⟨h_.1⟩,⟨h_.2.1⟩,⟨h_.2.2⟩⟩
    ·go_wp2
     go_roundg (24 - 9)
     case measure=>omega
     case rel =>
      have h_:=fill1 HBr.out BLr.out BMr.out N42.out.symm GE4.out (by decide) (show madeB a b 3 8=a from rfl);exact ⟨9,by decide,by omega,rfl,⟨h_.1⟩,⟨h_.2.1⟩,⟨h_.2.2⟩⟩
    ·go_wp2
     go_roundg (24 - 10)
     case measure=>omega
     case rel =>
      have h_:=fill1 HBr.out BLr.out BMr.out N42.out.symm GE4.out (by decide) (show madeB a b 3 9=a from rfl);exact ⟨10,by decide,by omega,rfl,⟨h_.1⟩,⟨h_.2.1⟩,⟨h_.2.2⟩⟩
    ·go_wp2
     go_roundg (24 - 11)
     case measure=>omega
     case rel =>
      have h_:=fill1 HBr.out BLr.out BMr.out N42.out.symm GE4.out (by decide) (show madeB a b 3 10=a from rfl);exact ⟨11,by decide,by omega,rfl,⟨h_.1⟩,⟨h_.2.1⟩,⟨h_.2.2⟩⟩
    ·go_wp2
     go_roundg (24 - 12)
     case measure=>omega
     case rel =>
      have h_:=fill1 HBr.out BLr.out BMr.out N42.out.symm GE4.out (by decide) (show madeB a b 3 11=a from rfl);exact ⟨12,by decide,by omega,rfl,⟨h_.1⟩,⟨h_.2.1⟩,⟨h_.2.2⟩⟩
    ·go_wp2
     go_roundg (24 - 13)
     case measure=>omega
     case rel =>
      have h_:=fill1 HBr.out BLr.out BMr.out N42.out.symm GE4.out (by decide) (show madeB a b 3 12=a from rfl);exact ⟨13,by decide,by omega,rfl,⟨h_.1⟩,⟨h_.2.1⟩,⟨h_.2.2⟩⟩
    ·go_wp2
     go_roundg (24 - 14)
     case measure=>omega
     case rel =>
      have h_:=fill1 HBr.out BLr.out BMr.out N42.out.symm GE4.out (by decide) (show madeB a b 3 13=a from rfl);exact ⟨14,by decide,by omega,rfl,⟨h_.1⟩,⟨h_.2.1⟩,⟨h_.2.2⟩⟩
    ·go_wp2
     go_roundg (24 - 15)
     case measure=>omega
     case rel =>
      have h_:=fill1 HBr.out BLr.out BMr.out N42.out.symm GE4.out (by decide) (show madeB a b 3 14=a from rfl);exact ⟨15,by decide,by omega,rfl,⟨h_.1⟩,⟨h_.2.1⟩,⟨h_.2.2⟩⟩
    ·go_wp2
     go_roundg (24 - 16)
     case measure=>omega
     case rel =>
      have h_:=fill1 HBr.out BLr.out BMr.out N42.out.symm GE4.out (by decide) (show madeB a b 3 15=a from rfl);exact ⟨16,by decide,by omega,rfl,⟨h_.1⟩,⟨h_.2.1⟩,⟨h_.2.2⟩⟩
    ·go_wp2
     go_roundg (24 - 17)
     case measure=>omega
     case rel =>
      have h_:=fill1 HBr.out BLr.out BMr.out N42.out.symm GE4.out (by decide) (show madeB a b 3 16=a from rfl);exact ⟨17,by decide,by omega,rfl,⟨h_.1⟩,⟨h_.2.1⟩,⟨h_.2.2⟩⟩
    ·go_wp2
     go_roundg (24 - 18)
     case measure=>omega
     case rel =>
      have h_:=fill1 HBr.out BLr.out BMr.out N42.out.symm GE4.out (by decide) (show madeB a b 3 17=a from rfl);exact ⟨18,by decide,by omega,rfl,⟨h_.1⟩,⟨h_.2.1⟩,⟨h_.2.2⟩⟩
    ·go_wp2
     go_roundg (24 - 19)
     case measure=>omega
     case rel =>
      have h_:=fill1 HBr.out BLr.out BMr.out N42.out.symm GE4.out (by decide) (show madeB a b 3 18=a from rfl);exact ⟨19,by decide,by omega,rfl,⟨h_.1⟩,⟨h_.2.1⟩,⟨h_.2.2⟩⟩
    ·go_wp2
     go_roundg (24 - 20)
     case measure=>omega
     case rel =>
      have h_:=fill1 HBr.out BLr.out BMr.out N42.out.symm GE4.out (by decide) (show madeB a b 3 19=a from rfl);exact ⟨20,by decide,by omega,rfl,⟨h_.1⟩,⟨h_.2.1⟩,⟨h_.2.2⟩⟩
    ·go_wp2
     go_roundg (24 - 21)
     case measure=>omega
     case rel =>
      have h_:=fill1 HBr.out BLr.out BMr.out N42.out.symm GE4.out (by decide) (show madeB a b 3 20=a from rfl);exact ⟨21,by decide,by omega,rfl,⟨h_.1⟩,⟨h_.2.1⟩,⟨h_.2.2⟩⟩
    ·go_wp2
     go_roundg (24 - 22)
     case measure=>omega
     case rel =>
      have h_:=fill1 HBr.out BLr.out BMr.out N42.out.symm GE4.out (by decide) (show madeB a b 3 21=a from rfl);exact ⟨22,by decide,by omega,rfl,⟨h_.1⟩,⟨h_.2.1⟩,⟨h_.2.2⟩⟩
    ·go_wp2
     go_roundg (24 - 23)
     case measure=>omega
     case rel =>
      have h_:=fill1 HBr.out BLr.out BMr.out N42.out.symm GE4.out (by decide) (show madeB a b 3 22=a from rfl);exact ⟨23,by decide,by omega,rfl,⟨h_.1⟩,⟨h_.2.1⟩,⟨h_.2.2⟩⟩
    ·go_wp2
     go_roundg (24 - 24)
     case measure=>omega
     case rel =>
      have h_:=fill1 HBr.out BLr.out BMr.out N42.out.symm GE4.out (by decide) (show madeB a b 3 23=a from rfl);exact ⟨24,by decide,by omega,rfl,⟨h_.1⟩,⟨h_.2.1⟩,⟨h_.2.2⟩⟩
   ·have:i=24:=by omega
    subst this;rw [doneB_all] at BMr;have HLN:=am (show ((List.range 24).map (madeB a b 3)).length=24 by rw [List.length_map,List.length_range]);generalize hys:(List.range 24).map (madeB a b 3)=ys at *;have HYS:=am hys;clear hys
    go_wp2_with (first|((with_reducible refine gate_load (t:=68) rfl ?_);refine box_load (k:=.u8) (t:=68) (b:=b4) (xs:=ys) rfl rfl rfl BMr.out Try.underlying68 rfl zq64 ?_)|((with_reducible refine gate_store (t:=68) (p:=6) rfl ?_);refine box_store (k:=.u8) (t:=68) (b:=b2) (xs:=(List.replicate 24 0)) (ys:=ys) rfl rfl rfl rfl rfl BLr.out zq72 zq64 ?_;intro w9 hw9;have BL9:=am (show IsBox .u8 68 w9 b2 ys by rw [hw9];exact box_row BLr.out ys);have HB9:=am (show Below w.heap.size w w9 by rw [hw9];exact Go.below_setRow HBr.out GE2.out _);clear hw9))
    refine bodyPost_ret (results_list (rs:=[.cell 6 68,.tmp 7]) rfl (by simp) (.cell b2 68 _ (0,0) _ rfl BL9.out Try.underlying68 rfl zq71 (.tmp .nil))) rfl ?_;exact ⟨by rw [HYS.out];rfl,HB9.out⟩
end Go.Proofs.Ytgfknljhogfeaaa.G
end

section
namespace Go.Proofs.Ytgfknljhogfeaaa.G
open Go.RowKit Go.Proofs.YtgfknljhogfeaaaW.PrintWords Go.Proofs.YtgfknljhogfeaaaW.PrintLast Go.Proofs.YtgfknljhogfeaaaW.PrintMore
attribute [local go_sem] max2_int min2_int max_two min_two max_three min_three max_four min_four
set_option linter.unusedVariables false
set_option linter.unusedSimpArgs false
def spec_l01Drawn.l0:Nat→List Int→Int→List Int→Int→Int→Option (List Int × Int × Int)
 | 0,_,_,_,_,_=>none
 | k + 1,fl,x,s0,s1,s2=>if x > 0 then ((spec_l00Src_pick.f s0 s1 s2 24).bind fun i=>(spec_l00Src_pick.f s0 i.2.1 i.2.2 6).bind fun c=>if 0≤i.1∧i.1 < 24 then spec_l01Drawn.l0 k (fl.set i.1.toNat (c.1 % 256)) (wrap64 (x - 1)) s0 c.2.1 c.2.2 else none) else some (fl,s1,s2)
def spec_l01Drawn.base (s0:List Int) (a b:Int) (kd:Nat) (p:Int) (s1 s2:Int):Option (List Int × Int × Int) :=
 if p=0 then some ((List.range 24).map fun _=>a,s1,s2)
 else if p=1 then (spec_l00Src_pick.f s0 s1 s2 6).bind fun c=>(spec_l00Src_one.f s0 c.2.1 c.2.2 2).bind fun u=>if 0≤c.1∧c.1≤5 then some ((List.range 24).map (stripeB u.1 a b c.1),u.2.1,u.2.2) else none
 else some ((List.range 24).map (madeB a b kd),s1,s2)
def spec_l01Drawn.tup (l:List Int) (s1 s2:Int):Int × Int × Int × Int × Int × Int × Int × Int × Int × Int × Int × Int × Int × Int × Int × Int × Int × Int × Int × Int × Int × Int × Int × Int × Int × Int:=(l.getD 0 0,l.getD 1 0,l.getD 2 0,l.getD 3 0,l.getD 4 0,l.getD 5 0,l.getD 6 0,l.getD 7 0,l.getD 8 0,l.getD 9 0,l.getD 10 0,l.getD 11 0,l.getD 12 0,l.getD 13 0,l.getD 14 0,l.getD 15 0,l.getD 16 0,l.getD 17 0,l.getD 18 0,l.getD 19 0,l.getD 20 0,l.getD 21 0,l.getD 22 0,l.getD 23 0,s1,s2)
def spec_l01Drawn.f (k:Nat) (s0_0:List Int) (s0_1 s0_2:Int):Option (Int × Int × Int × Int × Int × Int × Int × Int × Int × Int × Int × Int × Int × Int × Int × Int × Int × Int × Int × Int × Int × Int × Int × Int × Int × Int) :=
 (spec_l00Src_pick.f s0_0 s0_1 s0_2 6).bind fun a=>(spec_l00Src_pick.f s0_0 a.2.1 a.2.2 6).bind fun b=>(spec_l00Src_pick.f s0_0 b.2.1 b.2.2 4).bind fun q =>
  (spec_l00Src_pick.f s0_0 q.2.1 q.2.2 5).bind fun p=>if (0≤a.1∧a.1≤5)∧(0≤b.1∧b.1≤5)∧0≤q.1∧q.1 < 4 then
   (spec_l01Drawn.base s0_0 a.1 b.1 q.1.toNat p.1 p.2.1 p.2.2).bind fun m=>(spec_l00Src_pick.f s0_0 m.2.1 m.2.2 4).bind fun n=>(spec_l01Drawn.l0 k m.1 n.1 s0_0 n.2.1 n.2.2).bind fun r=>some (spec_l01Drawn.tup r.1 r.2.1 r.2.2)
  else none
theorem spec_l01Drawn.l0_len:∀ (k:Nat) (fl:List Int) (x:Int) (s0:List Int) (s1 s2:Int) (r:List Int × Int × Int),spec_l01Drawn.l0 k fl x s0 s1 s2=some r→fl.length=24→r.1.length=24
 | 0,_,_,_,_,_,_,h,_=>by simp [spec_l01Drawn.l0] at h
 | k + 1,fl,x,s0,s1,s2,r,h,hl=>by
  simp only [spec_l01Drawn.l0] at h
  split at h
  ·obtain ⟨i,_,h⟩:=Option.bind_eq_some_iff.mp h;obtain ⟨c,_,h⟩:=Option.bind_eq_some_iff.mp h
   split at h
   ·exact spec_l01Drawn.l0_len k _ _ _ _ _ _ h (by rw [List.length_set];exact hl)
   ·cases h
  ·cases h;exact hl
theorem spec_l01Drawn.base_len {s0:List Int} {a b:Int} {kd:Nat} {p s1 s2:Int} {r:List Int × Int × Int} (h:spec_l01Drawn.base s0 a b kd p s1 s2=some r):r.1.length=24:=by
 unfold spec_l01Drawn.base at h
 split at h
 ·cases h
  simp
 ·split at h
  ·obtain ⟨c,_,h⟩:=Option.bind_eq_some_iff.mp h;obtain ⟨u,_,h⟩:=Option.bind_eq_some_iff.mp h
   split at h
   ·cases h
    simp
   ·cases h
  ·cases h
   simp
structure spec_l01Drawn.M0 (w0 w:World) (g b2:Nat) (s0:List Int) (s1 s2:Int) (W:World):Prop where
 HI:IsS125 w0 W g s0 s1 s2
 HB:Below w0.heap.size w0 W
 HK:KeepBut w W g none
 B2:IsBox .u8 68 W b2 (List.replicate 24 0)
 G2:w.heap.size≤b2
structure spec_l01Drawn.M (w0 w:World) (g b2 b5:Nat) (s0:List Int) (s1 s2:Int) (fl:List Int) (W:World):Prop where
 P:spec_l01Drawn.M0 w0 w g b2 s0 s1 s2 W
 B5:IsBox .u8 68 W b5 fl
 G5:w.heap.size≤b5
 N5:b2≠b5
section
variable {w0 w W W':World} {g b2 b5:Nat} {s0 fl:List Int} {s1 s2 t1 t2:Int}
theorem spec_l01Drawn.ne_box {b:Nat} {xs:List Int} (hI:IsS125 w0 W g s0 s1 s2) (h:IsBox .u8 68 W b xs):b≠g:=(hI.ne_blk h (by decide)).symm
theorem spec_l01Drawn.M0.step (h:spec_l01Drawn.M0 w0 w g b2 s0 s1 s2 W) (hi:IsS125 w0 W' g s0 t1 t2) (hb:Below w0.heap.size w0 W') (hk:KeepBut W W' g none):spec_l01Drawn.M0 w0 w g b2 s0 t1 t2 W' :=
 ⟨hi,hb,h.HK.trans hk (.inl rfl),box_keep h.B2 hk (spec_l01Drawn.ne_box h.HI h.B2),h.G2⟩
theorem spec_l01Drawn.M.step (h:spec_l01Drawn.M w0 w g b2 b5 s0 s1 s2 fl W) (hi:IsS125 w0 W' g s0 t1 t2) (hb:Below w0.heap.size w0 W') (hk:KeepBut W W' g none):spec_l01Drawn.M w0 w g b2 b5 s0 t1 t2 fl W' :=
 ⟨h.P.step hi hb hk,box_keep h.B5 hk (spec_l01Drawn.ne_box h.P.HI h.B5),h.G5,h.N5⟩
theorem spec_l01Drawn.M0.below (h:spec_l01Drawn.M0 w0 w g b2 s0 s1 s2 W) (hb:Below W.heap.size W W'):spec_l01Drawn.M0 w0 w g b2 s0 s1 s2 W' :=
 h.step (h.HI.below hb) (below_step h.HB hb) (KeepBut.of_below hb g none)
theorem spec_l01Drawn.M.below (h:spec_l01Drawn.M w0 w g b2 b5 s0 s1 s2 fl W) (hb:Below W.heap.size W W'):spec_l01Drawn.M w0 w g b2 b5 s0 s1 s2 fl W' :=
 h.step (h.P.HI.below hb) (below_step h.P.HB hb) (KeepBut.of_below hb g none)
theorem spec_l01Drawn.M.row (h:spec_l01Drawn.M w0 w g b2 b5 s0 s1 s2 fl W) (hw:w0.heap.size≤w.heap.size) (ys:List Int):spec_l01Drawn.M w0 w g b2 b5 s0 s1 s2 ys (W.setRow b5 (nums .u8 ys).toArray):=by
 have hne:=spec_l01Drawn.ne_box h.P.HI h.B5;obtain ⟨A0,c0,q1,q2,q3⟩:=h.P.HI;refine ⟨⟨⟨A0,c0,(setRow_other W b5 g _ (Ne.symm hne)).trans q1,q2,q3⟩,Go.below_setRow h.P.HB (Nat.le_trans hw h.G5) _,?_,box_apart h.P.B2 h.N5 _,h.P.G2⟩,box_row h.B5 ys,h.G5,h.N5⟩;exact ⟨Nat.le_trans h.P.HK.1 (Go.below_setRow (Below.refl 0 W) (Nat.zero_le b5) _).size,fun i hi hg hr=>(setRow_other W b5 i _ (by have:=h.G5;omega)).trans (h.P.HK.2 i hi hg hr)⟩
theorem spec_l01Drawn.M.cell (h:spec_l01Drawn.M w0 w g b2 b5 s0 s1 s2 fl W) (hw:w0.heap.size≤w.heap.size) (j:Nat) (v:Int):spec_l01Drawn.M w0 w g b2 b5 s0 s1 s2 (fl.set j v) (W.setCell ⟨b5,j,none⟩ (.int .u8 v)) :=
 ⟨⟨h.P.HI.far (p:=⟨b5,j,none⟩) (spec_l01Drawn.ne_box h.P.HI h.B5).symm _,below_set h.P.HB (Nat.le_trans hw h.G5),keep_far h.P.HK (p:=⟨b5,j,none⟩) h.G5 _,box_far h.P.B2 (p:=⟨b5,j,none⟩) h.N5 _,h.P.G2⟩,box_set h.B5 j v,h.G5,h.N5⟩
theorem spec_l01Drawn.M0.fin (h:spec_l01Drawn.M0 w0 w g b2 s0 s1 s2 W) (hw:w0.heap.size≤w.heap.size) (ys:List Int):IsS125 w0 (W.setRow b2 (nums .u8 ys).toArray) g s0 s1 s2∧Below w0.heap.size w0 (W.setRow b2 (nums .u8 ys).toArray)∧KeepBut w (W.setRow b2 (nums .u8 ys).toArray) g none∧IsBox .u8 68 (W.setRow b2 (nums .u8 ys).toArray) b2 ys:=by
 have hne:=spec_l01Drawn.ne_box h.HI h.B2;obtain ⟨A0,c0,q1,q2,q3⟩:=h.HI;exact ⟨⟨A0,c0,(setRow_other W b2 g _ (Ne.symm hne)).trans q1,q2,q3⟩,Go.below_setRow h.HB (Nat.le_trans hw h.G2) _,⟨Nat.le_trans h.HK.1 (Go.below_setRow (Below.refl 0 W) (Nat.zero_le b2) _).size,fun i hi hg hr=>(setRow_other W b2 i _ (by have:=h.G2;omega)).trans (h.HK.2 i hi hg hr)⟩,box_row h.B2 ys⟩
end
set_option maxHeartbeats 8000000 in
set_option maxRecDepth 100000 in
theorem spec_l01Drawn.calls (k:Nat) (g:Nat) (s0_0:List Int) (s0_1 s0_2:Int) (r1 r2 r3 r4 r5 r6 r7 r8 r9 r10 r11 r12 r13 r14 r15 r16 r17 r18 r19 r20 r21 r22 r23 r24 r25 r26:Int) (w0 w:World) (hI:IsS125 w0 w g s0_0 s0_1 s0_2) (hB:Below w0.heap.size w0 w) (h:spec_l01Drawn.f k s0_0 s0_1 s0_2=some (r1,r2,r3,r4,r5,r6,r7,r8,r9,r10,r11,r12,r13,r14,r15,r16,r17,r18,r19,r20,r21,r22,r23,r24,r25,r26)) :
  Calls Try.prog 89 #[.pointer (some ⟨g,0,none⟩)] w fun e w'=>e=.returned (.agg #[.int .u8 r1,.int .u8 r2,.int .u8 r3,.int .u8 r4,.int .u8 r5,.int .u8 r6,.int .u8 r7,.int .u8 r8,.int .u8 r9,.int .u8 r10,.int .u8 r11,.int .u8 r12,.int .u8 r13,.int .u8 r14,.int .u8 r15,.int .u8 r16,.int .u8 r17,.int .u8 r18,.int .u8 r19,.int .u8 r20,.int .u8 r21,.int .u8 r22,.int .u8 r23,.int .u8 r24])∧IsS125 w0 w' g s0_0 r25 r26∧Below w0.heap.size w0 w'∧KeepBut w w' g none:=by
 unfold spec_l01Drawn.f at h
 obtain ⟨⟨a,a1,a2⟩,ha,h_⟩:=Option.bind_eq_some_iff.mp h;clear h;obtain ⟨⟨b,b1,bb⟩,hb,h⟩:=Option.bind_eq_some_iff.mp h_;clear h_;obtain ⟨⟨q,q1,q2⟩,hq,h_⟩:=Option.bind_eq_some_iff.mp h;clear h;obtain ⟨⟨p,p1,p2⟩,hp,h⟩:=Option.bind_eq_some_iff.mp h_;clear h_
 split at h
 case isFalse=>cases h
 rename_i hbd
 obtain ⟨⟨a0,a5⟩,⟨b0,b5_⟩,q0,q4⟩:=hbd;replace a0:0≤a:=a0;replace a5:a≤5:=a5;replace b0:0≤b:=b0;replace b5_:b≤5:=b5_;obtain ⟨kd,rfl⟩:∃ kd:Nat,q=(kd:Int):=⟨q.toNat,by have:0≤q:=q0;omega⟩
 have hkd:kd < 4:=by have:(kd:Int) < 4:=q4;omega
 obtain ⟨⟨m,m1,m2⟩,hm,h_⟩:=Option.bind_eq_some_iff.mp h;clear h;obtain ⟨⟨x,x1,x2⟩,hx,h⟩:=Option.bind_eq_some_iff.mp h_;clear h_;obtain ⟨⟨fl,f1,f2⟩,hf,h_⟩:=Option.bind_eq_some_iff.mp h;clear h;replace hb:spec_l00Src_pick.f s0_0 a1 a2 6=some (b,b1,bb):=hb;replace hq:spec_l00Src_pick.f s0_0 b1 bb 4=some ((kd:Int),q1,q2):=hq;replace hp:spec_l00Src_pick.f s0_0 q1 q2 5=some (p,p1,p2):=hp;replace hm:spec_l01Drawn.base s0_0 a b kd p p1 p2=some (m,m1,m2):=hm;replace hx:spec_l00Src_pick.f s0_0 m1 m2 4=some (x,x1,x2):=hx;replace hf:spec_l01Drawn.l0 k m x s0_0 x1 x2=some (fl,f1,f2):=hf;have hml:m.length=24:=spec_l01Drawn.base_len hm;have hfl:fl.length=24:=spec_l01Drawn.l0_len _ _ _ _ _ _ _ hf hml;have hres:=am (show spec_l01Drawn.tup fl f1 f2=(r1,r2,r3,r4,r5,r6,r7,r8,r9,r10,r11,r12,r13,r14,r15,r16,r17,r18,r19,r20,r21,r22,r23,r24,r25,r26) from Option.some.inj h_);clear h_ q0 q4;have HIT:=am (show (Try.prog.info? 68).map (·.size)=some 24 from size68);have HWW:=am hB.size;have HF:=am hf;have HX:=am hx;have HML:=am hml;have HMB:=am hm;clear hf hx hml hm
 go_enter Try.func89,Try.ntmps89
 go_wp2_with (first|((with_reducible refine gate_dst (N:=2) rfl ?_);refine box_event ?hg (N:=2) ?hd (cs:=(nums .u8 (List.replicate 24 0)).toArray) (t:=68) ?hr ?_;(case hd=>rfl);(case hg=>rfl);(case hr=>exact zq15);intro b2 hg_ w2 hb_ hB_;have HM:=am (show spec_l01Drawn.M0 w0 w g b2 s0_0 s0_1 s0_2 w2 from ⟨hI.below hB_,below_step hB hB_,KeepBut.of_below hB_ g none,hb_,by rw [hg_];exact Nat.le_refl _⟩);clear hb_ hB_ hg_)|fail)
 refine (spec_l00Src_pick.calls g s0_0 s0_1 s0_2 6 a a1 a2 w0 _ HM.out.HI HM.out.HB ha).mono ?_
 rintro e w3 ⟨rfl,hi_,hb_,hk_⟩
 have n0_:=am (HM.out.step hi_ hb_ hk_);clear HM;have HM:=n0_;clear n0_;clear hi_ hb_ hk_
 go_wp2_with (fail)
 refine (spec_l00Src_pick.calls g s0_0 a1 a2 6 b b1 bb w0 _ HM.out.HI HM.out.HB hb).mono ?_
 rintro e w4 ⟨rfl,hi_,hb_,hk_⟩
 have n0_:=am (HM.out.step hi_ hb_ hk_);clear HM;have HM:=n0_;clear n0_;clear hi_ hb_ hk_
 go_wp2_with (fail)
 refine (spec_l00Src_pick.calls g s0_0 b1 bb 4 (kd:Int) q1 q2 w0 _ HM.out.HI HM.out.HB hq).mono ?_
 rintro e w5 ⟨rfl,hi_,hb_,hk_⟩
 have n0_:=am (HM.out.step hi_ hb_ hk_);clear HM;have HM:=n0_;clear n0_;clear hi_ hb_ hk_
 go_wp2_with (fail)
 refine (spec_l01Made.core a b kd hkd a0 a5 b0 b5_ _).mono ?_
 rintro e w6 ⟨rfl,hb_⟩
 have n0_:=am (HM.out.below hb_);clear HM;have HM:=n0_;clear n0_;clear hb_;obtain ⟨mk,hmk⟩:∃ mk,(List.range 24).map (madeB a b kd)=mk:=⟨_,rfl⟩;rw [hmk]
 have hkl:mk.length=24:=by rw [← hmk];simp
 have HM5:=am (show ((List.replicate 24 0):List Int).length=24 by simp)
 go_wp2_with (first|((with_reducible refine gate_dst (N:=5) rfl ?_);refine box_event ?hg (N:=5) ?hd (cs:=(nums .u8 (List.replicate 24 0)).toArray) (t:=68) ?hr ?_;(case hd=>rfl);(case hg=>rfl);(case hr=>exact zq15);intro b5 hg_ w7 hb_ hB_;have n0_:=am (show spec_l01Drawn.M w0 w g b2 b5 s0_0 q1 q2 (List.replicate 24 0) w7 from ⟨HM.out.below hB_,hb_,by rw [hg_];exact HM.out.HK.1,by rw [hg_];have:=box_lt HM.out.B2;omega⟩);clear HM;have HM:=n0_;clear n0_;clear hb_ hB_ hg_)|((with_reducible refine gate_store (t:=68) (p:=5) rfl ?_);refine box_store (k:=.u8) (t:=68) (b:=b5) (xs:=_) (ys:=mk) rfl rfl rfl rfl rfl HM.out.B5 (by rw [HM5.out,hkl]) (by rw [hkl];exact HIT.out) ?_;intro wS hwS;have n0_:=am (show spec_l01Drawn.M w0 w g b2 b5 s0_0 _ _ mk wS by rw [hwS];exact HM.out.row HWW.out _);clear HM hwS;have HM:=n0_;clear n0_)|fail)
 clear HM5;have HM5:=am hkl;refine (spec_l00Src_pick.calls g s0_0 q1 q2 5 p p1 p2 w0 _ HM.out.P.HI HM.out.P.HB hp).mono ?_
 rintro e w8 ⟨rfl,hi_,hb_,hk_⟩
 have n0_:=am (HM.out.step hi_ hb_ hk_);clear HM;have HM:=n0_;clear n0_;clear hi_ hb_ hk_
 by_cases hp0:p=0
 ·subst hp0
  have e_:(List.range 24).map (fun _=>a)=m∧p1=m1∧p2=m2:=by
   have h_:=HMB.out
   unfold spec_l01Drawn.base at h_
   rw [if_pos rfl] at h_
   simpa using h_
  obtain ⟨em,rfl,rfl⟩:=e_
  go_wp2_with (fail)
  refine (spec_PlainFlag.core a a0 a5 _).mono ?_
  rintro e w9 ⟨rfl,hb_⟩
  have n0_:=am (HM.out.below hb_);clear HM;have HM:=n0_;clear n0_;clear hb_;rw [em];clear em hmk HMB
  go_wp2_with (first|((with_reducible refine gate_store (t:=68) (p:=5) rfl ?_);refine box_store (k:=.u8) (t:=68) (b:=b5) (xs:=_) (ys:=m) rfl rfl rfl rfl rfl HM.out.B5 (by rw [HM5.out,HML.out]) (by rw [HML.out];exact HIT.out) ?_;intro wS hwS;have n0_:=am (show spec_l01Drawn.M w0 w g b2 b5 s0_0 _ _ m wS by rw [hwS];exact HM.out.row HWW.out _);clear HM hwS;have HM:=n0_;clear n0_)|fail)
  refine (spec_l00Src_pick.calls g s0_0 _ _ 4 x x1 x2 w0 _ HM.out.P.HI HM.out.P.HB HX.out).mono ?_
  rintro e w10 ⟨rfl,hi_,hb_,hk_⟩
  have n0_:=am (HM.out.step hi_ hb_ hk_);clear HM;have HM:=n0_;clear n0_;clear hi_ hb_ hk_;clear HM5 HX
  go_wp2_with (fail)
  go_loopg [7] k (fun kq v7 wr=>∃ (f:List Int) (y y1 y2:Int),v7=.int .i64 y∧Aside0 (spec_l01Drawn.l0 kq f y s0_0 y1 y2=some (fl,f1,f2))∧Aside0 (f.length=24)∧Aside0 (spec_l01Drawn.M w0 w g b2 b5 s0_0 y1 y2 f wr))
  case atStart=>exact ⟨_,x,x1,x2,rfl,HF,HML,HM⟩
  case round =>
   clear HF HML HM;obtain ⟨f,y,y1,y2,rfl,HA,HFL,HM⟩:=hrel
   cases gk with
   | zero=>exact absurd HA.out (by simp [spec_l01Drawn.l0])
   | succ k1 =>
    have H:=HA.out;clear HA;simp only [spec_l01Drawn.l0] at H
    by_cases cy:y > 0
    ·rw [if_pos cy] at H;have cyb:decide (0 < y)=true:=decide_eq_true cy;obtain ⟨⟨i,i1,i2⟩,hi,H_⟩:=Option.bind_eq_some_iff.mp H;clear H;obtain ⟨⟨c,c1,c2⟩,hc,H⟩:=Option.bind_eq_some_iff.mp H_;clear H_
     split at H
     case isFalse=>cases H
     rename_i hij
     obtain ⟨i0,i24⟩:=hij;replace i0:0≤i:=i0;replace i24:i < 24:=i24;obtain ⟨j,rfl⟩:∃ j:Nat,i=(j:Int):=⟨i.toNat,by omega⟩;replace H:spec_l01Drawn.l0 k1 (f.set j (c % 256)) (wrap64 (y - 1)) s0_0 c1 c2=some (fl,f1,f2):=H;replace hc:spec_l00Src_pick.f s0_0 i1 i2 6=some (c,c1,c2):=hc;have H':=am H;clear H
     have hj:j < 24:=by omega
     go_wp2_with (fail)
     refine (spec_l00Src_pick.calls g s0_0 y1 y2 24 (j:Int) i1 i2 w0 _ HM.out.P.HI HM.out.P.HB hi).mono ?_
     rintro e wi ⟨rfl,hi_,hb_,hk_⟩
     have n0_:=am (HM.out.step hi_ hb_ hk_);clear HM;have HM:=n0_;clear n0_;clear hi_ hb_ hk_
     go_wp2_with (fail)
     refine (spec_l00Src_pick.calls g s0_0 i1 i2 6 c c1 c2 w0 _ HM.out.P.HI HM.out.P.HB hc).mono ?_
     rintro e wc ⟨rfl,hi_,hb_,hk_⟩
     have n0_:=am (HM.out.step hi_ hb_ hk_);clear HM;have HM:=n0_;clear n0_;clear hi_ hb_ hk_;obtain ⟨v0,c5⟩:∃ v0:Int,wc.cell? ⟨b5,j,none⟩=some (.int .u8 v0):=⟨_,box_at HM.out.B5 (show j < f.length by rw [HFL.out];exact hj)⟩;have f5:=box_frozen HM.out.B5 j;have n0_:=am (HM.out.cell HWW.out j (c % 256));clear HM;have HM:=n0_;clear n0_
     go_wp2_with (fail)
     go_roundg k1
     case measure=>omega
     case rel=>exact ⟨f.set j (c % 256),wrap64 (y - 1),c1,c2,zq87,H',⟨by rw [List.length_set];exact HFL.out⟩,HM⟩
    ·rw [if_neg cy] at H;have cyb:decide (0 < y)=false:=decide_eq_false (by omega);simp only [Option.some.injEq,Prod.mk.injEq] at H;obtain ⟨rfl,rfl,rfl⟩:=H
     go_wp2_with (first|((with_reducible refine gate_load (t:=68) rfl ?_);refine box_load (k:=.u8) (t:=68) (b:=b5) (xs:=f) rfl rfl rfl HM.out.B5 Try.underlying68 rfl zq79 ?_)|((with_reducible refine gate_store (t:=68) (p:=2) rfl ?_);refine box_store (k:=.u8) (t:=68) (b:=b2) (xs:=_) (ys:=f) rfl rfl rfl rfl rfl HM.out.P.B2 (by rw [HFL.out];simp) zq79 ?_;intro wS hwS;have n0_:=am (show IsS125 w0 wS g s0_0 y1 y2∧Below w0.heap.size w0 wS∧KeepBut w wS g none∧IsBox .u8 68 wS b2 f by rw [hwS];exact HM.out.P.fin HWW.out f);clear HM hwS;have HM:=n0_;clear n0_)|fail)
     refine bodyPost_ret (results_cell_row rfl _ _ b2 68 _ (0,0) _ rfl HM.out.2.2.2 Try.underlying68 rfl (by simpa [nums,HFL.out] using HIT.out)) rfl ?_;have h_:=hres.out;simp only [spec_l01Drawn.tup,Prod.mk.injEq] at h_;obtain ⟨rfl,rfl,rfl,rfl,rfl,rfl,rfl,rfl,rfl,rfl,rfl,rfl,rfl,rfl,rfl,rfl,rfl,rfl,rfl,rfl,rfl,rfl,rfl,rfl,rfl,rfl⟩:=h_;refine ⟨?_,HM.out.1,HM.out.2.1,HM.out.2.2.1⟩;have e_:=arrL68_S f HFL.out
     conv=>lhs;rw [← e_]
     rfl
 ·by_cases hp1:p=1
  ·subst hp1;have e_:=HMB.out
   unfold spec_l01Drawn.base at e_
   rw [if_neg (by decide),if_pos rfl] at e_;obtain ⟨⟨c,c1,c2⟩,hc,e2_⟩:=Option.bind_eq_some_iff.mp e_;clear e_;obtain ⟨⟨u,u1,u2⟩,hu,e_⟩:=Option.bind_eq_some_iff.mp e2_;clear e2_
   split at e_
   case isFalse=>cases e_
   rename_i hcb
   replace hcb:0≤c∧c≤5:=hcb;replace hu:spec_l00Src_one.f s0_0 c1 c2 2=some (u,u1,u2):=hu
   have e3_:(List.range 24).map (stripeB u a b c)=m∧u1=m1∧u2=m2:=by simpa using e_
   clear e_;obtain ⟨em,rfl,rfl⟩:=e3_
   go_wp2_with (fail)
   refine (spec_l00Src_pick.calls g s0_0 p1 p2 6 c c1 c2 w0 _ HM.out.P.HI HM.out.P.HB hc).mono ?_
   rintro e w9 ⟨rfl,hi_,hb_,hk_⟩
   have n0_:=am (HM.out.step hi_ hb_ hk_);clear HM;have HM:=n0_;clear n0_;clear hi_ hb_ hk_
   go_wp2_with (fail)
   have n0_:=am (HM.out.below (below_alloc (Below.refl w9.heap.size w9) (.cells #[.int .i64 a,.int .i64 b,.int .i64 c] 2)));clear HM;have HM:=n0_;clear n0_;have hS:(w9.alloc (.cells #[.int .i64 a,.int .i64 b,.int .i64 c] 2)).heap[w9.heap.size]?=some (.cells #[.int .i64 a,.int .i64 b,.int .i64 c] 2 (0,0)):=blk_new w9 _;have nS:w9.heap.size≠g:=(HM.out.P.HI.ne_blk hS (by decide)).symm;have lS:=blk_lt hS;generalize w9.heap.size=gS at hS nS lS ⊢;refine (spec_l00Src_one.calls g s0_0 c1 c2 2 u u1 u2 w0 _ HM.out.P.HI HM.out.P.HB hu).mono ?_
   rintro e w10 ⟨rfl,hi_,hb_,hk_⟩
   replace hS:=(hk_.2 _ lS nS (by simp)).trans hS;have n0_:=am (HM.out.step hi_ hb_ hk_);clear HM;have HM:=n0_;clear n0_;clear hi_ hb_ hk_ lS nS
   go_wp2_with (fail)
   refine (spec_StripesOf.core gS 2 a b c u ⟨a0,a5⟩ ⟨b0,b5_⟩ hcb _ hS).mono ?_
   rintro e w11 ⟨rfl,hb_⟩
   have n0_:=am (HM.out.below hb_);clear HM;have HM:=n0_;clear n0_;clear hb_ hS;rw [em];clear em hmk HMB
   go_wp2_with (first|((with_reducible refine gate_store (t:=68) (p:=5) rfl ?_);refine box_store (k:=.u8) (t:=68) (b:=b5) (xs:=_) (ys:=m) rfl rfl rfl rfl rfl HM.out.B5 (by rw [HM5.out,HML.out]) (by rw [HML.out];exact HIT.out) ?_;intro wS hwS;have n0_:=am (show spec_l01Drawn.M w0 w g b2 b5 s0_0 _ _ m wS by rw [hwS];exact HM.out.row HWW.out _);clear HM hwS;have HM:=n0_;clear n0_)|fail)
   refine (spec_l00Src_pick.calls g s0_0 _ _ 4 x x1 x2 w0 _ HM.out.P.HI HM.out.P.HB HX.out).mono ?_
   rintro e w12 ⟨rfl,hi_,hb_,hk_⟩
   have n0_:=am (HM.out.step hi_ hb_ hk_);clear HM;have HM:=n0_;clear n0_;clear hi_ hb_ hk_;clear HM5 HX
   go_wp2_with (fail)
   go_loopg [7] k (fun kq v7 wr=>∃ (f:List Int) (y y1 y2:Int),v7=.int .i64 y∧Aside0 (spec_l01Drawn.l0 kq f y s0_0 y1 y2=some (fl,f1,f2))∧Aside0 (f.length=24)∧Aside0 (spec_l01Drawn.M w0 w g b2 b5 s0_0 y1 y2 f wr))
   case atStart=>exact ⟨_,x,x1,x2,rfl,HF,HML,HM⟩
   case round =>
    clear HF HML HM;obtain ⟨f,y,y1,y2,rfl,HA,HFL,HM⟩:=hrel
    cases gk with
    | zero=>exact absurd HA.out (by simp [spec_l01Drawn.l0])
    | succ k1 =>
     have H:=HA.out;clear HA;simp only [spec_l01Drawn.l0] at H
     by_cases cy:y > 0
     ·rw [if_pos cy] at H;have cyb:decide (0 < y)=true:=decide_eq_true cy;obtain ⟨⟨i,i1,i2⟩,hi,H_⟩:=Option.bind_eq_some_iff.mp H;clear H;obtain ⟨⟨c,c1,c2⟩,hc,H⟩:=Option.bind_eq_some_iff.mp H_;clear H_
      split at H
      case isFalse=>cases H
      rename_i hij
      obtain ⟨i0,i24⟩:=hij;replace i0:0≤i:=i0;replace i24:i < 24:=i24;obtain ⟨j,rfl⟩:∃ j:Nat,i=(j:Int):=⟨i.toNat,by omega⟩;replace H:spec_l01Drawn.l0 k1 (f.set j (c % 256)) (wrap64 (y - 1)) s0_0 c1 c2=some (fl,f1,f2):=H;replace hc:spec_l00Src_pick.f s0_0 i1 i2 6=some (c,c1,c2):=hc;have H':=am H;clear H
      have hj:j < 24:=by omega
      go_wp2_with (fail)
      refine (spec_l00Src_pick.calls g s0_0 y1 y2 24 (j:Int) i1 i2 w0 _ HM.out.P.HI HM.out.P.HB hi).mono ?_
      rintro e wi ⟨rfl,hi_,hb_,hk_⟩
      have n0_:=am (HM.out.step hi_ hb_ hk_);clear HM;have HM:=n0_;clear n0_;clear hi_ hb_ hk_
      go_wp2_with (fail)
      refine (spec_l00Src_pick.calls g s0_0 i1 i2 6 c c1 c2 w0 _ HM.out.P.HI HM.out.P.HB hc).mono ?_
      rintro e wc ⟨rfl,hi_,hb_,hk_⟩
      have n0_:=am (HM.out.step hi_ hb_ hk_);clear HM;have HM:=n0_;clear n0_;clear hi_ hb_ hk_;obtain ⟨v0,c5⟩:∃ v0:Int,wc.cell? ⟨b5,j,none⟩=some (.int .u8 v0):=⟨_,box_at HM.out.B5 (show j < f.length by rw [HFL.out];exact hj)⟩;have f5:=box_frozen HM.out.B5 j;have n0_:=am (HM.out.cell HWW.out j (c % 256));clear HM;have HM:=n0_;clear n0_
      go_wp2_with (fail)
      go_roundg k1
      case measure=>omega
      case rel=>exact ⟨f.set j (c % 256),wrap64 (y - 1),c1,c2,zq87,H',⟨by rw [List.length_set];exact HFL.out⟩,HM⟩
     ·rw [if_neg cy] at H;have cyb:decide (0 < y)=false:=decide_eq_false (by omega);simp only [Option.some.injEq,Prod.mk.injEq] at H;obtain ⟨rfl,rfl,rfl⟩:=H
      go_wp2_with (first|((with_reducible refine gate_load (t:=68) rfl ?_);refine box_load (k:=.u8) (t:=68) (b:=b5) (xs:=f) rfl rfl rfl HM.out.B5 Try.underlying68 rfl zq79 ?_)|((with_reducible refine gate_store (t:=68) (p:=2) rfl ?_);refine box_store (k:=.u8) (t:=68) (b:=b2) (xs:=_) (ys:=f) rfl rfl rfl rfl rfl HM.out.P.B2 (by rw [HFL.out];simp) zq79 ?_;intro wS hwS;have n0_:=am (show IsS125 w0 wS g s0_0 y1 y2∧Below w0.heap.size w0 wS∧KeepBut w wS g none∧IsBox .u8 68 wS b2 f by rw [hwS];exact HM.out.P.fin HWW.out f);clear HM hwS;have HM:=n0_;clear n0_)|fail)
      refine bodyPost_ret (results_cell_row rfl _ _ b2 68 _ (0,0) _ rfl HM.out.2.2.2 Try.underlying68 rfl (by simpa [nums,HFL.out] using HIT.out)) rfl ?_;have h_:=hres.out;simp only [spec_l01Drawn.tup,Prod.mk.injEq] at h_;obtain ⟨rfl,rfl,rfl,rfl,rfl,rfl,rfl,rfl,rfl,rfl,rfl,rfl,rfl,rfl,rfl,rfl,rfl,rfl,rfl,rfl,rfl,rfl,rfl,rfl,rfl,rfl⟩:=h_;refine ⟨?_,HM.out.1,HM.out.2.1,HM.out.2.2.1⟩;have e_:=arrL68_S f HFL.out
      conv=>lhs;rw [← e_]
      rfl
  ·skip
   have e_:mk=m∧p1=m1∧p2=m2:=by
    have h_:=HMB.out
    unfold spec_l01Drawn.base at h_
    rw [if_neg hp0,if_neg hp1,hmk] at h_
    simpa using h_
   obtain ⟨rfl,rfl,rfl⟩:=e_;have hp0b:(p == 0)=false:=beq_eq_false_iff_ne.mpr hp0;have hp1b:(p == 1)=false:=beq_eq_false_iff_ne.mpr hp1;clear hmk HMB
   go_wp2_with (fail)
   refine (spec_l00Src_pick.calls g s0_0 _ _ 4 x x1 x2 w0 _ HM.out.P.HI HM.out.P.HB HX.out).mono ?_
   rintro e w10 ⟨rfl,hi_,hb_,hk_⟩
   have n0_:=am (HM.out.step hi_ hb_ hk_);clear HM;have HM:=n0_;clear n0_;clear hi_ hb_ hk_;clear HM5 HX
   go_wp2_with (fail)
   go_loopg [7] k (fun kq v7 wr=>∃ (f:List Int) (y y1 y2:Int),v7=.int .i64 y∧Aside0 (spec_l01Drawn.l0 kq f y s0_0 y1 y2=some (fl,f1,f2))∧Aside0 (f.length=24)∧Aside0 (spec_l01Drawn.M w0 w g b2 b5 s0_0 y1 y2 f wr))
   case atStart=>exact ⟨_,x,x1,x2,rfl,HF,HML,HM⟩
   case round =>
    clear HF HML HM;obtain ⟨f,y,y1,y2,rfl,HA,HFL,HM⟩:=hrel
    cases gk with
    | zero=>exact absurd HA.out (by simp [spec_l01Drawn.l0])
    | succ k1 =>
     have H:=HA.out;clear HA;simp only [spec_l01Drawn.l0] at H
     by_cases cy:y > 0
     ·rw [if_pos cy] at H;have cyb:decide (0 < y)=true:=decide_eq_true cy;obtain ⟨⟨i,i1,i2⟩,hi,H_⟩:=Option.bind_eq_some_iff.mp H;clear H;obtain ⟨⟨c,c1,c2⟩,hc,H⟩:=Option.bind_eq_some_iff.mp H_;clear H_
      split at H
      case isFalse=>cases H
      rename_i hij
      obtain ⟨i0,i24⟩:=hij;replace i0:0≤i:=i0;replace i24:i < 24:=i24;obtain ⟨j,rfl⟩:∃ j:Nat,i=(j:Int):=⟨i.toNat,by omega⟩;replace H:spec_l01Drawn.l0 k1 (f.set j (c % 256)) (wrap64 (y - 1)) s0_0 c1 c2=some (fl,f1,f2):=H;replace hc:spec_l00Src_pick.f s0_0 i1 i2 6=some (c,c1,c2):=hc;have H':=am H;clear H
      have hj:j < 24:=by omega
      go_wp2_with (fail)
      refine (spec_l00Src_pick.calls g s0_0 y1 y2 24 (j:Int) i1 i2 w0 _ HM.out.P.HI HM.out.P.HB hi).mono ?_
      rintro e wi ⟨rfl,hi_,hb_,hk_⟩
      have n0_:=am (HM.out.step hi_ hb_ hk_);clear HM;have HM:=n0_;clear n0_;clear hi_ hb_ hk_
      go_wp2_with (fail)
      refine (spec_l00Src_pick.calls g s0_0 i1 i2 6 c c1 c2 w0 _ HM.out.P.HI HM.out.P.HB hc).mono ?_
      rintro e wc ⟨rfl,hi_,hb_,hk_⟩
      have n0_:=am (HM.out.step hi_ hb_ hk_);clear HM;have HM:=n0_;clear n0_;clear hi_ hb_ hk_;obtain ⟨v0,c5⟩:∃ v0:Int,wc.cell? ⟨b5,j,none⟩=some (.int .u8 v0):=⟨_,box_at HM.out.B5 (show j < f.length by rw [HFL.out];exact hj)⟩;have f5:=box_frozen HM.out.B5 j;have n0_:=am (HM.out.cell HWW.out j (c % 256));clear HM;have HM:=n0_;clear n0_
      go_wp2_with (fail)
      go_roundg k1
      case measure=>omega
      case rel=>exact ⟨f.set j (c % 256),wrap64 (y - 1),c1,c2,zq87,H',⟨by rw [List.length_set];exact HFL.out⟩,HM⟩
     ·rw [if_neg cy] at H;have cyb:decide (0 < y)=false:=decide_eq_false (by omega);simp only [Option.some.injEq,Prod.mk.injEq] at H;obtain ⟨rfl,rfl,rfl⟩:=H
      go_wp2_with (first|((with_reducible refine gate_load (t:=68) rfl ?_);refine box_load (k:=.u8) (t:=68) (b:=b5) (xs:=f) rfl rfl rfl HM.out.B5 Try.underlying68 rfl zq79 ?_)|((with_reducible refine gate_store (t:=68) (p:=2) rfl ?_);refine box_store (k:=.u8) (t:=68) (b:=b2) (xs:=_) (ys:=f) rfl rfl rfl rfl rfl HM.out.P.B2 (by rw [HFL.out];simp) zq79 ?_;intro wS hwS;have n0_:=am (show IsS125 w0 wS g s0_0 y1 y2∧Below w0.heap.size w0 wS∧KeepBut w wS g none∧IsBox .u8 68 wS b2 f by rw [hwS];exact HM.out.P.fin HWW.out f);clear HM hwS;have HM:=n0_;clear n0_)|fail)
      refine bodyPost_ret (results_cell_row rfl _ _ b2 68 _ (0,0) _ rfl HM.out.2.2.2 Try.underlying68 rfl (by simpa [nums,HFL.out] using HIT.out)) rfl ?_;have h_:=hres.out;simp only [spec_l01Drawn.tup,Prod.mk.injEq] at h_;obtain ⟨rfl,rfl,rfl,rfl,rfl,rfl,rfl,rfl,rfl,rfl,rfl,rfl,rfl,rfl,rfl,rfl,rfl,rfl,rfl,rfl,rfl,rfl,rfl,rfl,rfl,rfl⟩:=h_;refine ⟨?_,HM.out.1,HM.out.2.1,HM.out.2.2.1⟩;have e_:=arrL68_S f HFL.out
      conv=>lhs;rw [← e_]
      rfl
end Go.Proofs.Ytgfknljhogfeaaa.G
end

section
namespace Go.Proofs.Ytgfknljhogfeaaa.G
open Go.RowKit Go.Proofs.YtgfknljhogfeaaaW.PrintWords Go.Proofs.YtgfknljhogfeaaaW.PrintLast Go.Proofs.YtgfknljhogfeaaaW.PrintMore
attribute [local go_sem] max2_int min2_int max_two min_two max_three min_three max_four min_four
set_option linter.unusedVariables false
set_option linter.unusedSimpArgs false
def spec_l05Spelled.l0:Nat→Int→Int→List Int→Int→List Int→Int→Int→Option (List Int × Int × Int)
 | 0,_,_,_,_,_,_,_=>none
 | k + 1,x1,x2,x7,x8,x1000,x1001,x1002=>if x8 < x2 then ((spec_l00Src_pick.f x1000 x1001 x1002 x1).bind fun bt104=>(if x7.length < 140737488355328 then (spec_l05Spelled.l0 k x1 x2 (x7 ++ [(bt104.1) % 256]) (wrap64 (x8 + 1)) x1000 bt104.2.1 bt104.2.2) else (none))) else (some (x7,x1001,x1002))
def spec_l05Spelled.f (k:Nat) (s0_0:List Int) (s0_1:Int) (s0_2:Int) (a1:Int) (a2:Int):Option (List Int × Int × Int):=spec_l05Spelled.l0 k a1 a2 (([]:List Int)) 0 s0_0 s0_1 s0_2
set_option maxHeartbeats 8000000 in
set_option maxRecDepth 100000 in
theorem spec_l05Spelled.calls (k:Nat) (g:Nat) (s0_0:List Int) (s0_1:Int) (s0_2:Int) (a1:Int) (a2:Int) (r1:List Int) (r2:Int) (r3:Int) (w0 w:World) (hI:IsS125 w0 w g s0_0 s0_1 s0_2) (hB:Below w0.heap.size w0 w) (h:spec_l05Spelled.f k s0_0 s0_1 s0_2 a1 a2=some (r1,r2,r3)) :
  Calls Try.prog 90 #[.pointer (some ⟨g,0,none⟩),.int .i64 a1,.int .i64 a2] w fun e w'=>∃ v0_:Value,e=.returned (v0_)∧Kd.R (Kd.int .u8) 5 w' w.heap.size (fun _=>True) v0_ r1∧IsS125 w0 w' g s0_0 r2 r3∧Below w0.heap.size w0 w'∧KeepBut w w' g none:=by
 have HI0:=am hI;have HK:=am (KeepBut.refl w g none);have HL:=am hB.size;clear hI;have HW0:=am hB.size;have HB:=am hB;clear hB;have H:(spec_l05Spelled.l0 k a1 a2 (([]:List Int)) 0 s0_0 s0_1 s0_2)=some (r1,r2,r3):=h;clear h;obtain ⟨y101,hy101⟩:∃ y_:List Int,y_=(([]:List Int)):=⟨_,rfl⟩
 replace H:(spec_l05Spelled.l0 k a1 a2 y101 0 s0_0 s0_1 s0_2)=some (r1,r2,r3):=by first|(rw [hy101];with_reducible exact H)|(have H2_:=(Option.bind_some _ _).symm.trans H;rw [hy101];with_reducible exact H2_)|(have H2_:=(Option.bind_some _ _).symm.trans H;with_reducible exact H2_)|with_reducible exact H|(rw [hy101];exact H)|exact H
 have Ny101:=am hy101;clear hy101;have H':=am H;clear H
 go_enter Try.func90,Try.ntmps90
 go_wp2_with (first|((with_reducible refine gate_dst (N:=9) rfl ?_);refine Kd.R_lit (Kd.int .u8) _ 5 ?hg (N:=9) ?hd (xs:=([]:List Int)) (inner:=[]) (ok:=fun _=>True) (okp:=fun _=>True) ?hr ?hp (fun _ hk=>hk) trivial (Below.refl _ _) (Nat.le_refl _) (by simp) ?_;(case hd=>rfl);(case hg=>rfl);(case hr=>exact zq15);(case hp=>exact (Reps.none _ _));intro v102 w4 ho5 hb hg_ hnew_;clear hg_ hnew_;(first|rw [← Ny101.out] at ho5|(simp only [Int.reduceToNat] at ho5;rw [← Ny101.out] at ho5));have n0_:=am (Kd.R_lower ho5 (keep_size (w:=w) (g:=g) (row:=none) zq24));have n1_:=am (IsS125.below zq27 hb);have n2_:=am (KeepBut.trans zq24 (KeepBut.of_below hb g none) (.inl rfl));have n3_:=am (below_step zq29 hb);clear HI0;clear HK;clear HB;have HO103:=n0_;have HI0:=n1_;have HK:=n2_;have HB:=n3_;clear n0_ n1_ n2_ n3_;clear hb ho5))
 go_loopg [7,8] k (fun kq v7 v8 w'=>∃ (x7_1:List Int) (x8_1:Int) (x1001_1:Int) (x1002_1:Int),v8=.int .i64 x8_1∧Aside0 (spec_l05Spelled.l0 kq a1 a2 x7_1 x8_1 s0_0 x1001_1 x1002_1=some (r1,r2,r3))∧Aside0 (kq≤k)∧Aside0 (Kd.R (Kd.int .u8) 5 w' w.heap.size (fun _=>True) v7 x7_1)∧Aside0 (IsS125 w0 w' g s0_0 x1001_1 x1002_1)∧Aside0 (KeepBut w w' g none)∧Aside0 (Below w0.heap.size w0 w'))
 case atStart=>exact ⟨(y101),(0),(s0_1),(s0_2),zq3,H',⟨Nat.le_refl _⟩,⟨by (with_reducible repeat (first|apply Kd.R_alloc|apply Kd.R_drewN|apply Kd.R_drew));exact HO103.out⟩,⟨by repeat (first|(with_reducible first|exact HI0.out|apply IsS125.alloc|apply IsS125.drewN|apply IsS125.drew|apply IsS125.set_1|apply IsS125.set_2)|exact HI0.out)⟩,⟨by repeat (first|(with_reducible first|exact HK.out|apply KeepBut.set_|apply keep_drewN|apply keep_drew|apply keep_alloc)|exact HK.out)⟩,⟨by repeat (first|(with_reducible first|exact HB.out|apply below_alloc|apply pw_below_drewN|apply below_drew1|refine below_set ?_ (IsS125.ge HI0.out))|exact HB.out)⟩⟩
 case round =>
  clear H';(try clear p2);obtain ⟨x7_1,x8_1,x1001_1,x1002_1,rfl,HA,HK1,HO_7,HI0,HK,HB⟩:=hrel
  cases gk with
  | zero=>exact absurd HA.out (by simp [spec_l05Spelled.l0])
  | succ k1 =>
   have H:=HA.out;clear HA;simp only [spec_l05Spelled.l0] at H
   by_cases c6:x8_1 < a2
   ·rw [if_pos c6] at H;have c6b0:decide (x8_1 < a2)=true:=decide_eq_true c6;clear c6;replace H:=Option.bind_eq_some_iff.mp H;obtain ⟨⟨t104,t105,t106⟩,A70,H⟩:=H;replace H:(if x7_1.length < 140737488355328 then (spec_l05Spelled.l0 k1 a1 a2 (x7_1 ++ [(t104) % 256]) (wrap64 (x8_1 + 1)) s0_0 t105 t106) else (none))=some (r1,r2,r3):=H;have A7:=am A70;clear A70
    by_cases c8:x7_1.length < 140737488355328
    ·rw [if_pos c8] at H;have LMc8:=am c8;clear c8;obtain ⟨y107,hy107⟩:∃ y_:List Int,y_=(x7_1 ++ [(t104) % 256]):=⟨_,rfl⟩
     replace H:(spec_l05Spelled.l0 k1 a1 a2 y107 (wrap64 (x8_1 + 1)) s0_0 t105 t106)=some (r1,r2,r3):=by first|(rw [hy107];with_reducible exact H)|(have H2_:=(Option.bind_some _ _).symm.trans H;rw [hy107];with_reducible exact H2_)|(have H2_:=(Option.bind_some _ _).symm.trans H;with_reducible exact H2_)|with_reducible exact H|(rw [hy107];exact H)|exact H
     have Ny107:=am hy107;clear hy107;have H':=am H;clear H
     go_wp2_with (first|((with_reducible refine gate_callee (f:=67) rfl ?_);refine goesL_ (some 18) rfl rfl Try.func67 zq16 rfl #[.pointer (some ⟨g,0,none⟩),.int .i64 a1] rfl zq0 ?_;(with_reducible refine (spec_l00Src_pick.calls g s0_0 x1001_1 x1002_1 a1 t104 t105 t106 w0 _ ?side1 ?side2 A7.out).mono ?_);(case side1=>exact zq27);(case side2=>exact zq29);rintro e w9 ⟨rfl,hi,hb,hk⟩;refine ⟨_,rfl,?_⟩;have n0_:=am (Kd.R_mono (Kd.R_keep (IsS125.apart (show IsS125 w0 _ g s0_0 x1001_1 x1002_1 from by repeat (first|(with_reducible first|exact HI0.out|apply IsS125.alloc|apply IsS125.drewN|apply IsS125.drew|apply IsS125.set_1|apply IsS125.set_2)|exact HI0.out)) zq46 (by decide)) hk (fun _ h=>h.2)) (fun _ h=>h.1));have n1_:=am (KeepBut.trans zq24 hk (.inl rfl));have n2_:=am (hb);have n3_:=am (hi);clear HO_7;clear HK;clear HB;clear HI0;have HO_7:=n0_;have HK:=n1_;have HB:=n2_;have HI0:=n3_;clear n0_ n1_ n2_ n3_;(try clear hb);(try clear hb2);(try clear hk);(try clear hi))|((with_reducible refine gate_builtin (b:=.append) (xs:=#[.tmp 15,.tmp 20]) rfl ?_);at_builtin;refine Kd.R_append (Kd.int .u8) w.heap.size rfl (.tmp 15) (.tmp 20) 79 5 (.int .u8 0) 1 rfl Try.underlying79 info5 rfl (by decide) (by omega) u7 x7_1 ((t104) % 256) [.int .u8 ((t104) % 256)] (fun _=>True) (fun _=>False) rfl rfl ?aP (fun _ hk=>hk.elim) ?aF ?aO (Below.refl _ _) ?aS ?aL ?_;(case aP=>exact rfl);(case aF=>exact (fun _ _=>trivial));(case aO=>exact zq46);(case aS=>exact (keep_size (w:=w) (g:=g) (row:=none) zq24));(case aL=>have:=LMc8.out;omega);intro v108 w10 ho hb hg hat;rw [← Ny107.out] at ho;have n0_:=am (IsS125.grown zq27 hg (IsS125.own_ne HI0.out HO_7.out (by decide)));have n1_:=am (below_weaken zq29 HL.out hb);have n2_:=am (KeepBut.trans zq24 (KeepBut.of_grown hg g) (Kd.R_base2 HO_7.out));have n3_:=am (ho);clear HI0;clear HB;clear HK;clear HO_7;have HI0:=n0_;have HB:=n1_;have HK:=n2_;have HO109:=n3_;clear n0_ n1_ n2_ n3_;clear ho hb hg hat))
     go_roundg k1
     case measure=>have:=HK1.out;omega
     case rel=>exact ⟨(y107),(wrap64 (x8_1 + 1)),(t105),(t106),zq3,H',⟨by have:=HK1.out;omega⟩,⟨by (with_reducible repeat (first|apply Kd.R_alloc|apply Kd.R_drewN|apply Kd.R_drew));exact HO109.out⟩,⟨by repeat (first|(with_reducible first|exact HI0.out|apply IsS125.alloc|apply IsS125.drewN|apply IsS125.drew|apply IsS125.set_1|apply IsS125.set_2)|exact HI0.out)⟩,⟨by repeat (first|(with_reducible first|exact HK.out|apply KeepBut.set_|apply keep_drewN|apply keep_drew|apply keep_alloc)|exact HK.out)⟩,⟨by repeat (first|(with_reducible first|exact HB.out|apply below_alloc|apply pw_below_drewN|apply below_drew1|refine below_set ?_ (IsS125.ge HI0.out))|exact HB.out)⟩⟩
    ·rw [if_neg c8] at H;exact absurd H (by simp)
   ·rw [if_neg c6] at H;have c6b0:decide (x8_1 < a2)=false:=decide_eq_false c6;clear c6;simp only [Option.some.injEq,Prod.mk.injEq] at H;obtain ⟨rfl,rfl,rfl⟩:=H
    go_wp2
    go_ret
    exact ⟨_,by first|rfl|(simp [errW_none,errW_some,IntKind.wrap_i64,wrap64];done)|(simp [errW_none,errW_some] <;> rfl)|(simp [*,errW_none,errW_some] <;> rfl),by (with_reducible repeat (first|apply Kd.R_alloc|apply Kd.R_drewN|apply Kd.R_drew));exact HO_7.out,by repeat (first|(with_reducible first|exact HI0.out|apply IsS125.alloc|apply IsS125.drewN|apply IsS125.drew|apply IsS125.set_1|apply IsS125.set_2)|exact HI0.out),by repeat (first|(with_reducible first|exact HB.out|apply below_alloc|apply pw_below_drewN|apply below_drew1|refine below_set ?_ (IsS125.ge HI0.out))|exact HB.out),by repeat (first|(with_reducible first|exact HK.out|apply KeepBut.set_|apply keep_drewN|apply keep_drew|apply keep_alloc)|exact HK.out)⟩
end Go.Proofs.Ytgfknljhogfeaaa.G
end

section
namespace Go.Proofs.Ytgfknljhogfeaaa.G
open Go.RowKit Go.Proofs.YtgfknljhogfeaaaW.PrintWords Go.Proofs.YtgfknljhogfeaaaW.PrintLast Go.Proofs.YtgfknljhogfeaaaW.PrintMore
attribute [local go_sem] max2_int min2_int max_two min_two max_three min_three max_four min_four
set_option linter.unusedVariables false
set_option linter.unusedSimpArgs false
mutual
def spec_l05Drawn.l0:Nat→Int→List Int→Int→Int→List (S68)→Option ((List (S68)) × (List (List Int)) × Int × Int)
 | 0,_,_,_,_,_=>none
 | k + 1,x4,x1000,x1001,x1002,x103000=>if x4 > 0 then ((spec_l01Drawn.f k x1000 x1001 x1002).bind fun bt106=>(if x103000.length < 5864062014805 then (spec_l05Drawn.l0 k (wrap64 (x4 - 1)) x1000 bt106.2.2.2.2.2.2.2.2.2.2.2.2.2.2.2.2.2.2.2.2.2.2.2.2.1 bt106.2.2.2.2.2.2.2.2.2.2.2.2.2.2.2.2.2.2.2.2.2.2.2.2.2 (x103000 ++ [(⟨bt106.1,bt106.2.1,bt106.2.2.1,bt106.2.2.2.1,bt106.2.2.2.2.1,bt106.2.2.2.2.2.1,bt106.2.2.2.2.2.2.1,bt106.2.2.2.2.2.2.2.1,bt106.2.2.2.2.2.2.2.2.1,bt106.2.2.2.2.2.2.2.2.2.1,bt106.2.2.2.2.2.2.2.2.2.2.1,bt106.2.2.2.2.2.2.2.2.2.2.2.1,bt106.2.2.2.2.2.2.2.2.2.2.2.2.1,bt106.2.2.2.2.2.2.2.2.2.2.2.2.2.1,bt106.2.2.2.2.2.2.2.2.2.2.2.2.2.2.1,bt106.2.2.2.2.2.2.2.2.2.2.2.2.2.2.2.1,bt106.2.2.2.2.2.2.2.2.2.2.2.2.2.2.2.2.1,bt106.2.2.2.2.2.2.2.2.2.2.2.2.2.2.2.2.2.1,bt106.2.2.2.2.2.2.2.2.2.2.2.2.2.2.2.2.2.2.1,bt106.2.2.2.2.2.2.2.2.2.2.2.2.2.2.2.2.2.2.2.1,bt106.2.2.2.2.2.2.2.2.2.2.2.2.2.2.2.2.2.2.2.2.1,bt106.2.2.2.2.2.2.2.2.2.2.2.2.2.2.2.2.2.2.2.2.2.1,bt106.2.2.2.2.2.2.2.2.2.2.2.2.2.2.2.2.2.2.2.2.2.2.1,bt106.2.2.2.2.2.2.2.2.2.2.2.2.2.2.2.2.2.2.2.2.2.2.2.1⟩:S68)])) else (none))) else ((spec_l00Src_pick.f x1000 x1001 x1002 4).bind fun bt135=>((spec_l00Src_pick.f x1000 bt135.2.1 bt135.2.2 7).bind fun bt138=>(spec_l05Drawn.l1 k (wrap64 (1 + bt135.1)) bt138.1 x1000 bt138.2.1 bt138.2.2 x103000 ([]:List (List Int)))))
def spec_l05Drawn.l1:Nat→Int→Int→List Int→Int→Int→List (S68)→List (List Int)→Option ((List (S68)) × (List (List Int)) × Int × Int)
 | 0,_,_,_,_,_,_,_=>none
 | k + 1,x5,x6,x1000,x1001,x1002,x103000,x103001=>if x6 > 0 then ((spec_l05Spelled.f k x1000 x1001 x1002 (x103000.length:Int) x5).bind fun bt141=>(if x103001.length < 5864062014805 then (spec_l05Drawn.l1 k x5 (wrap64 (x6 - 1)) x1000 bt141.2.1 bt141.2.2 x103000 (x103001 ++ [bt141.1])) else (none))) else (some (x103000,x103001,x1001,x1002))
end
def spec_l05Drawn.f (k:Nat) (s0_0:List Int) (s0_1:Int) (s0_2:Int):Option ((List (S68)) × (List (List Int)) × Int × Int):=(spec_l00Src_pick.f s0_0 s0_1 s0_2 6).bind fun bt103=>(spec_l05Drawn.l0 k (wrap64 (2 + bt103.1)) s0_0 bt103.2.1 bt103.2.2 ([]:List (S68)))
def spec_l05Drawn.T5:Bool × List (List Nat × List Nat):=(true,[([],[]),([0],[0]),([],[]),([2],[2]),([3],[3]),([1,4,3],[1,4]),([0,1,2,3,4,5],[]),([6,5,5,0,1,2,3,4,5],[5,6])])
def spec_l05Drawn.B5:List Nat:=[0,1,0,4,12,31,63,127]
theorem spec_l05Drawn.tab5:rtab .any (opsOf Try.f62 5)=spec_l05Drawn.T5:=by kernel_rfl
theorem spec_l05Drawn.bits5:waitsOk spec_l05Drawn.T5.2 spec_l05Drawn.B5=true:=by kernel_rfl
def spec_l05Drawn.T10:Bool × List (List Nat × List Nat):=(true,[([],[]),([0],[0]),([],[]),([],[]),([3],[3]),([4],[4]),([],[]),([2,5,6],[2,5,6]),([7],[7]),([1,8,7],[1,8]),([0,1,2,3,4,5,6,7,8,9],[]),([10,9,9,0,1,2,3,4,5,6,7,8,9],[9,10])])
def spec_l05Drawn.B10:List Nat:=[0,1,0,0,8,24,0,124,252,511,1023,2047]
theorem spec_l05Drawn.tab10:rtab .any (opsOf Try.f62 10)=spec_l05Drawn.T10:=by kernel_rfl
theorem spec_l05Drawn.bits10:waitsOk spec_l05Drawn.T10.2 spec_l05Drawn.B10=true:=by kernel_rfl
set_option maxHeartbeats 8000000 in
set_option maxRecDepth 100000 in
theorem spec_l05Drawn.calls (k:Nat) (g:Nat) (s0_0:List Int) (s0_1:Int) (s0_2:Int) (r1:List (S68)) (r2:List (List Int)) (r3:Int) (r4:Int) (w0 w:World) (hI:IsS125 w0 w g s0_0 s0_1 s0_2) (hB:Below w0.heap.size w0 w) (h:spec_l05Drawn.f k s0_0 s0_1 s0_2=some (r1,r2,r3,r4)) :
  Calls Try.prog 62 #[.pointer (some ⟨g,0,none⟩)] w fun e w'=>∃ v0_ v1_:Value,e=.returned (.agg #[v0_,v1_])∧Kd.R k68 68 w' w.heap.size (fun _=>True) v0_ r1∧Kd.S (Kd.slice 5 (Kd.int .u8)) 79 w' w.heap.size (fun _=>True) v1_ r2∧IsS125 w0 w' g s0_0 r3 r4∧Below w0.heap.size w0 w'∧KeepBut w w' g none:=by
 have hu33:=Try.underlying33;have HI0:=am hI;have HK:=am (KeepBut.refl w g none);have HL:=am hB.size;clear hI;have HW0:=am hB.size;have HB:=am hB;clear hB;have H:((spec_l00Src_pick.f s0_0 s0_1 s0_2 6).bind fun bt103=>(spec_l05Drawn.l0 k (wrap64 (2 + bt103.1)) s0_0 bt103.2.1 bt103.2.2 ([]:List (S68))))=some (r1,r2,r3,r4):=h;clear h;replace H:=Option.bind_eq_some_iff.mp H;obtain ⟨⟨t103,t104,t105⟩,A20,H⟩:=H;replace H:(spec_l05Drawn.l0 k (wrap64 (2 + t103)) s0_0 t104 t105 ([]:List (S68)))=some (r1,r2,r3,r4):=H;have A2:=am A20;clear A20;have H':=am H;clear H
 go_enter Try.func62,Try.ntmps62
 go_wp2_with (first|((with_reducible refine gate_dst (N:=2) rfl ?_);refine box_event ?hg (N:=2) ?hd (cs:=#[.slice none 0 0,.slice none 0 0]) (t:=33) ?hr ?_;(case hd=>rfl);(case hg=>rfl);(case hr=>exact zq15);intro gb101 hg w3 hbox hb;have n0_:=am (IsS125.below zq27 hb);have n1_:=am (KeepBut.trans zq24 (KeepBut.of_below hb g none) (.inl rfl));have n2_:=am (below_step zq29 hb);have n3_:=am (hbox);have n4_:=am ((by rw [hg];exact (keep_size (w:=w) (g:=g) (row:=none) zq24):w.heap.size≤gb101));have n5_:=am ((Nat.le_trans HW0.out (by rw [hg];exact (keep_size (w:=w) (g:=g) (row:=none) zq24):w.heap.size≤gb101):w0.heap.size≤gb101));have n6_:=am ((by rw [hg];exact Nat.ne_of_lt (IsS125.lt (show IsS125 w0 _ g s0_0 s0_1 s0_2 from by repeat (first|(with_reducible first|exact HI0.out|apply IsS125.alloc|apply IsS125.drewN|apply IsS125.drew|apply IsS125.set_1|apply IsS125.set_2)|exact HI0.out))):g≠gb101));have n7_:=am ((by rw [hg];exact Nat.ne_of_gt (IsS125.lt (show IsS125 w0 _ g s0_0 s0_1 s0_2 from by repeat (first|(with_reducible first|exact HI0.out|apply IsS125.alloc|apply IsS125.drewN|apply IsS125.drew|apply IsS125.set_1|apply IsS125.set_2)|exact HI0.out))):gb101≠g));clear HI0;clear HK;clear HB;have HI0:=n0_;have HK:=n1_;have HB:=n2_;have BK101:=n3_;have GW101:=n4_;have GE101:=n5_;have NB0_101:=n6_;have NB101_0:=n7_;clear n0_ n1_ n2_ n3_ n4_ n5_ n6_ n7_;clear hb hbox hg)|((with_reducible refine gate_dst (N:=3) rfl ?_);refine box_event ?hg (N:=3) ?hd (cs:=#[.slice none 0 0,.slice none 0 0]) (t:=33) ?hr ?_;(case hd=>rfl);(case hg=>rfl);(case hr=>exact zq15);intro gb102 hg w4 hbox hb;have n0_:=am (IsS125.below (by repeat (first|(with_reducible first|exact HI0.out|apply IsS125.alloc|apply IsS125.drewN|apply IsS125.drew|apply IsS125.set_1|apply IsS125.set_2|refine IsS125.far ?_ NB0_101.out _)|exact HI0.out)) hb);have n1_:=am (blk_below (g:=gb101) (o:=.cells #[.slice none 0 0,.slice none 0 0] 33 (0,0)) zq4 hb);have n2_:=am (KeepBut.trans zq52 (KeepBut.of_below hb g none) (.inl rfl));have n3_:=am (below_step (by repeat (first|(with_reducible first|exact HB.out|apply below_alloc|apply pw_below_drewN|apply below_drew1|refine below_set ?_ (IsS125.ge HI0.out)|refine below_set ?_ GE101.out)|exact HB.out)) hb);have n4_:=am (hbox);have n5_:=am ((by rw [hg];exact (keep_size (w:=w) (g:=g) (row:=none) zq52):w.heap.size≤gb102));have n6_:=am ((Nat.le_trans HW0.out (by rw [hg];exact (keep_size (w:=w) (g:=g) (row:=none) zq52):w.heap.size≤gb102):w0.heap.size≤gb102));have n7_:=am ((by rw [hg];exact Nat.ne_of_lt (blk_lt (g:=gb101) (o:=.cells #[.slice none 0 0,.slice none 0 0] 33 (0,0)) zq4):gb101≠gb102));have n8_:=am ((by rw [hg];exact Nat.ne_of_gt (blk_lt (g:=gb101) (o:=.cells #[.slice none 0 0,.slice none 0 0] 33 (0,0)) zq4):gb102≠gb101));have n9_:=am ((by rw [hg];exact Nat.ne_of_lt (IsS125.lt (show IsS125 w0 _ g s0_0 s0_1 s0_2 from by repeat (first|(with_reducible first|exact HI0.out|apply IsS125.alloc|apply IsS125.drewN|apply IsS125.drew|apply IsS125.set_1|apply IsS125.set_2|refine IsS125.far ?_ NB0_101.out _)|exact HI0.out))):g≠gb102));have n10_:=am ((by rw [hg];exact Nat.ne_of_gt (IsS125.lt (show IsS125 w0 _ g s0_0 s0_1 s0_2 from by repeat (first|(with_reducible first|exact HI0.out|apply IsS125.alloc|apply IsS125.drewN|apply IsS125.drew|apply IsS125.set_1|apply IsS125.set_2|refine IsS125.far ?_ NB0_101.out _)|exact HI0.out))):gb102≠g));clear HI0;clear BK101;clear HK;clear HB;have HI0:=n0_;have BK101:=n1_;have HK:=n2_;have HB:=n3_;have BK102:=n4_;have GW102:=n5_;have GE102:=n6_;have NB101_102:=n7_;have NB102_101:=n8_;have NB0_102:=n9_;have NB102_0:=n10_;clear n0_ n1_ n2_ n3_ n4_ n5_ n6_ n7_ n8_ n9_ n10_;clear hb hbox hg;have hnb5:=NB102_101.out;have hnc5:=NB101_102.out;have hnb6:=NB102_0.out;have hnc6:=NB0_102.out;have hcz7_0:w4.cell? ⟨gb102,0,none⟩=some (.slice none 0 0):=(blk_cell BK102.out 0).trans rfl;have hcz7_1:w4.cell? ⟨gb102,1,none⟩=some (.slice none 0 0):=(blk_cell BK102.out 1).trans rfl;have hfz7_0:=blk_frozen BK102.out 0;have hfz7_1:=blk_frozen BK102.out 1)|((with_reducible refine gate_callee (f:=67) rfl ?_);refine goesL_ (some 9) rfl rfl Try.func67 zq16 rfl #[.pointer (some ⟨g,0,none⟩),.int .i64 6] rfl zq0 ?_;(with_reducible refine (spec_l00Src_pick.calls g s0_0 s0_1 s0_2 6 t103 t104 t105 w0 _ ?side1 ?side2 A2.out).mono ?_);(case side1=>exact zq25);(case side2=>exact zq26);rintro e w8 ⟨rfl,hi,hb,hk⟩;refine ⟨_,rfl,?_⟩;have n0_:=am (KeepBut.blk hk (g':=gb101) (o:=.cells #[.slice none 0 0,.slice none 0 0] 33 (0,0)) (by (with_reducible repeat (first|refine blk_drewN ?_ _|refine blk_drew ?_|refine blk_alloc ?_ _));refine blk_far ?_ NB101_102.out _;(with_reducible repeat (first|refine blk_drewN ?_ _|refine blk_drew ?_|refine blk_alloc ?_ _));refine blk_far ?_ NB101_102.out _;(with_reducible repeat (first|refine blk_drewN ?_ _|refine blk_drew ?_|refine blk_alloc ?_ _));exact BK101.out) NB101_0.out (by simp));have n1_:=am (KeepBut.blk hk (g':=gb102) (o:=.cells #[.slice none 0 0,.slice none 0 0] 33 (0,0)) (by (with_reducible repeat (first|refine blk_drewN ?_ _|refine blk_drew ?_|refine blk_alloc ?_ _));refine blk_put (cs:=#[.slice none 0 0,.slice none 0 0]) ?_ 1 _ rfl;(with_reducible repeat (first|refine blk_drewN ?_ _|refine blk_drew ?_|refine blk_alloc ?_ _));refine blk_put (cs:=#[.slice none 0 0,.slice none 0 0]) ?_ 0 _ rfl;(with_reducible repeat (first|refine blk_drewN ?_ _|refine blk_drew ?_|refine blk_alloc ?_ _));exact BK102.out) NB102_0.out (by simp));have n2_:=am (KeepBut.trans zq20 hk (.inl rfl));have n3_:=am (hb);have n4_:=am (hi);clear BK101;clear BK102;clear HK;clear HB;clear HI0;have BK101:=n0_;have BK102:=n1_;have HK:=n2_;have HB:=n3_;have HI0:=n4_;clear n0_ n1_ n2_ n3_ n4_;(try clear hb);(try clear hb2);(try clear hk);(try clear hi)))
 go_loopg [4] k (fun kq v4 w'=>∃ (x4_1:Int) (x1001_1:Int) (x1002_1:Int) (x103000_1:List (S68)) (u103000:Value),v4=.int .i64 x4_1∧Aside0 (spec_l05Drawn.l0 kq x4_1 s0_0 x1001_1 x1002_1 x103000_1=some (r1,r2,r3,r4))∧Aside0 (kq≤k)∧Aside0 (Kd.R k68 68 w' w.heap.size (fun _=>True) u103000 x103000_1)∧Aside0 (w'.heap[gb101]?=some (.cells #[(.slice none 0 0),(.slice none 0 0)] 33 (0,0)))∧Aside0 (w'.heap[gb102]?=some (.cells #[u103000,(.slice none 0 0)] 33 (0,0)))∧Aside0 (IsS125 w0 w' g s0_0 x1001_1 x1002_1)∧Aside0 (KeepBut w w' g none)∧Aside0 (Below w0.heap.size w0 w'))
 case atStart=>exact ⟨(wrap64 (2 + t103)),(t104),(t105),(([]:List (S68))),(.slice none 0 0),zq3,H',⟨Nat.le_refl _⟩,⟨by first|exact Kd.R_nil _ _ _ _ _|exact Kd.N_nil _ _ _ _ _|exact Kd.V_nil _ _ _ _ _|exact Kd.Q_nil _ _ _ _ _|exact Kd.S_nil _ _ _ _ _⟩,⟨by (with_reducible repeat (first|refine blk_drewN ?_ _|refine blk_drew ?_|refine blk_alloc ?_ _));exact BK101.out⟩,⟨by (with_reducible repeat (first|refine blk_drewN ?_ _|refine blk_drew ?_|refine blk_alloc ?_ _));exact BK102.out⟩,⟨by repeat (first|(with_reducible first|exact HI0.out|apply IsS125.alloc|apply IsS125.drewN|apply IsS125.drew|apply IsS125.set_1|apply IsS125.set_2|refine IsS125.far ?_ NB0_101.out _|refine IsS125.far ?_ NB0_102.out _)|exact HI0.out)⟩,⟨by repeat (first|(with_reducible first|exact HK.out|apply KeepBut.set_|apply keep_drewN|apply keep_drew|apply keep_alloc|refine keep_far ?_ GW101.out _|refine keep_far ?_ GW102.out _)|exact HK.out)⟩,⟨by repeat (first|(with_reducible first|exact HB.out|apply below_alloc|apply pw_below_drewN|apply below_drew1|refine below_set ?_ (IsS125.ge HI0.out)|refine below_set ?_ GE101.out|refine below_set ?_ GE102.out)|exact HB.out)⟩⟩
 case round =>
  clear H';(try clear p2);(try clear c5);(try clear c6);(try clear p6);(try clear hcz7_0);(try clear hcz7_1);(try clear hfz7_0);(try clear hfz7_1);obtain ⟨x4_1,x1001_1,x1002_1,x103000_1,u103000,rfl,HA,HK1,HO_103000,BK101,BK102,HI0,HK,HB⟩:=hrel
  cases gk with
  | zero=>exact absurd HA.out (by simp [spec_l05Drawn.l0])
  | succ k1 =>
   have H:=HA.out;clear HA;simp only [spec_l05Drawn.l0] at H
   by_cases c9:x4_1 > 0
   ·rw [if_pos c9] at H;have c9b0:decide (0 < x4_1)=true:=decide_eq_true c9;clear c9;replace H:=Option.bind_eq_some_iff.mp H;obtain ⟨⟨t106,t107,t108,t109,t110,t111,t112,t113,t114,t115,t116,t117,t118,t119,t120,t121,t122,t123,t124,t125,t126,t127,t128,t129,t130,t131⟩,A100,H⟩:=H;replace H:(if x103000_1.length < 5864062014805 then (spec_l05Drawn.l0 k1 (wrap64 (x4_1 - 1)) s0_0 t130 t131 (x103000_1 ++ [(⟨t106,t107,t108,t109,t110,t111,t112,t113,t114,t115,t116,t117,t118,t119,t120,t121,t122,t123,t124,t125,t126,t127,t128,t129⟩:S68)])) else (none))=some (r1,r2,r3,r4):=H;have A10:=am A100;clear A100
    by_cases c11:x103000_1.length < 5864062014805
    ·rw [if_pos c11] at H;have LMc11:=am c11;clear c11;obtain ⟨y132,hy132⟩:∃ y_:List (S68),y_=(x103000_1 ++ [(⟨t106,t107,t108,t109,t110,t111,t112,t113,t114,t115,t116,t117,t118,t119,t120,t121,t122,t123,t124,t125,t126,t127,t128,t129⟩:S68)]):=⟨_,rfl⟩
     replace H:(spec_l05Drawn.l0 k1 (wrap64 (x4_1 - 1)) s0_0 t130 t131 y132)=some (r1,r2,r3,r4):=by first|(rw [hy132];with_reducible exact H)|(have H2_:=(Option.bind_some _ _).symm.trans H;rw [hy132];with_reducible exact H2_)|(have H2_:=(Option.bind_some _ _).symm.trans H;with_reducible exact H2_)|with_reducible exact H|(rw [hy132];exact H)|exact H
     have Ny132:=am hy132;clear hy132;have H':=am H;clear H;(try go_wp2);have n0_:=am (Kd.R_drew HO_103000.out);have n1_:=am (blk_drew BK101.out);have n2_:=am (blk_drew BK102.out);have n3_:=am (IsS125.drew HI0.out);have n4_:=am (keep_drew HK.out);have n5_:=am (below_drew1 HB.out);clear HO_103000;clear BK101;clear BK102;clear HI0;clear HK;clear HB;have HO_103000:=n0_;have BK101:=n1_;have BK102:=n2_;have HI0:=n3_;have HK:=n4_;have HB:=n5_;clear n0_ n1_ n2_ n3_ n4_ n5_;refine start_ (n:=8) (S:=fun w'=>w'.cell? ⟨gb102,0,none⟩=some (u103000)∧w'.cell? ⟨gb102,1,none⟩=some (.slice none 0 0)) (ds:=[7]) #[false,false,false,false,false,false,false,false] zq16 rfl rfl ⟨(blk_cell BK102.out 0).trans rfl,(blk_cell BK102.out 1).trans rfl⟩ (fun hHeld=>?_);refine with_tabW spec_l05Drawn.tab5 spec_l05Drawn.bits5 (fun HT_ HW_=>?_);generalize wr.drew=w12 at HO_103000 BK101 BK102 HI0 HK HB hHeld ⊢;refine pure_ (i:=0) (N:=some 15) (v:=?_) (a':=?_) #[true,false,false,false,false,false,false,false] rfl rfl (any_of HT_.out zq16) (fun _ _ _ h=>h) (Or.inl ⟨by rfl,?_⟩) ?_ ?_;rotate_left
     ·intro w';go_simp;with_reducible rfl
     rotate_left
     ·simp only [Act.put,List.setIfInBounds_toArray,List.set_cons_zero,List.set_cons_succ,i64_w,i32_w];rfl
     refine pure_ (i:=2) (N:=some 17) (v:=?_) (a':=?_) #[true,false,true,false,false,false,false,false] rfl rfl (any_of HT_.out zq16) (fun _ _ _ h=>h) (Or.inl ⟨by rfl,?_⟩) ?_ ?_;rotate_left
     ·intro w';go_simp;with_reducible rfl
     rotate_left
     ·simp only [Act.put,List.setIfInBounds_toArray,List.set_cons_zero,List.set_cons_succ,i64_w,i32_w];rfl
     refine take_ (i:=1) (N:=some 16) (v:=?_) (a':=?_) #[true,true,true,false,false,false,false,false] rfl rfl (take_ofW HT_.out HW_.out zq16) (fun _ _ _ h=>h) (Or.inl ⟨by rfl,?_⟩) hHeld ?_ ?_;rotate_left
     ·rintro w' ⟨s0,s1⟩
      go_simp;with_reducible rfl
     rotate_left
     ·simp only [Act.put,List.setIfInBounds_toArray,List.set_cons_zero,List.set_cons_succ,i64_w,i32_w];rfl
     refine one_ (i:=3) (N:=some 18) #[true,true,true,true,false,false,false,false] rfl rfl (one_of HT_.out zq16) (by decide) (fun K hK=>?_);refine goes_ Try.func89 zq16 rfl #[.pointer (some ⟨g,0,none⟩)] (by rfl) rfl rfl zq0 ?_
     with_reducible refine (spec_l01Drawn.calls k1 g s0_0 x1001_1 x1002_1 t106 t107 t108 t109 t110 t111 t112 t113 t114 t115 t116 t117 t118 t119 t120 t121 t122 t123 t124 t125 t126 t127 t128 t129 t130 t131 w0 _ ?side1 ?side2 A10.out).mono ?_
     (case side1=>exact zq25);(case side2=>exact zq26)
     rintro e w13 ⟨rfl,hi,hb,hk⟩
     refine ⟨_,rfl,?_⟩;have n0_:=am (Kd.R_mono (Kd.R_keep (IsS125.apart (show IsS125 w0 _ g s0_0 x1001_1 x1002_1 from by repeat (first|(with_reducible first|exact HI0.out|apply IsS125.alloc|apply IsS125.drewN|apply IsS125.drew|apply IsS125.set_1|apply IsS125.set_2|refine IsS125.far ?_ NB0_101.out _|refine IsS125.far ?_ NB0_102.out _)|exact HI0.out)) zq42 (by decide)) hk (fun _ h=>h.2)) (fun _ h=>h.1));have n1_:=am (KeepBut.blk hk (g':=gb101) (o:=.cells #[.slice none 0 0,.slice none 0 0] 33 (0,0)) zq4 NB101_0.out (by simp));have n2_:=am (KeepBut.blk hk (g':=gb102) (o:=.cells #[u103000,.slice none 0 0] 33 (0,0)) zq37 NB102_0.out (by simp));have n3_:=am (KeepBut.trans zq20 hk (.inl rfl));have n4_:=am (hb);have n5_:=am (hi);clear HO_103000;clear BK101;clear BK102;clear HK;clear HB;clear HI0;have HO_103000:=n0_;have BK101:=n1_;have BK102:=n2_;have HK:=n3_;have HB:=n4_;have HI0:=n5_;clear n0_ n1_ n2_ n3_ n4_ n5_;(try clear hb);(try clear hb2);(try clear hk);(try clear hi);refine hK.out _ _ ⟨(blk_cell BK102.out 0).trans rfl,(blk_cell BK102.out 1).trans rfl⟩ (fun hHeld=>?_);clear hK K;refine norm_ (a':=?_) ?_ ?_;rotate_left
     ·show Act.put _ (some 18) _=_
      simp only [Act.put,List.setIfInBounds_toArray,List.set_cons_zero,List.set_cons_succ,i64_w,i32_w];rfl
     refine one_ (i:=4) (N:=some 19) #[true,true,true,true,true,false,false,false] rfl rfl (one_of HT_.out zq16) (by decide) (fun K hK=>?_);refine value_ (w1:=?_) (v:=?_) (by rfl) rfl ?_ ?_;rotate_left 2
     ·go_simp
      constructor
      ·rfl
      ·rfl
     refine hK.out _ _ ⟨(blk_cell (blk_alloc BK102.out _) 0).trans rfl,(blk_cell (blk_alloc BK102.out _) 1).trans rfl⟩ (fun hHeld=>?_);clear hK K;refine norm_ (a':=?_) ?_ ?_;rotate_left
     ·show Act.put _ (some 19) _=_
      simp only [Act.put,List.setIfInBounds_toArray,List.set_cons_zero,List.set_cons_succ,i64_w,i32_w];rfl
     refine one_ (i:=5) (N:=some 20) #[true,true,true,true,true,true,false,false] rfl rfl (one_of HT_.out zq16) (by decide) (fun K hK=>?_);refine Kd.R_append_step k68 w.heap.size (by rfl) (.tmp 16) (.tmp 19) 30 68 (.agg #[(.int .u8 0),(.int .u8 0),(.int .u8 0),(.int .u8 0),(.int .u8 0),(.int .u8 0),(.int .u8 0),(.int .u8 0),(.int .u8 0),(.int .u8 0),(.int .u8 0),(.int .u8 0),(.int .u8 0),(.int .u8 0),(.int .u8 0),(.int .u8 0),(.int .u8 0),(.int .u8 0),(.int .u8 0),(.int .u8 0),(.int .u8 0),(.int .u8 0),(.int .u8 0),(.int .u8 0)]) 24 rfl Try.underlying30 info68 rfl (by decide) (by omega) u103000 x103000_1 (⟨t106,t107,t108,t109,t110,t111,t112,t113,t114,t115,t116,t117,t118,t119,t120,t121,t122,t123,t124,t125,t126,t127,t128,t129⟩:S68) [.int .u8 t106,.int .u8 t107,.int .u8 t108,.int .u8 t109,.int .u8 t110,.int .u8 t111,.int .u8 t112,.int .u8 t113,.int .u8 t114,.int .u8 t115,.int .u8 t116,.int .u8 t117,.int .u8 t118,.int .u8 t119,.int .u8 t120,.int .u8 t121,.int .u8 t122,.int .u8 t123,.int .u8 t124,.int .u8 t125,.int .u8 t126,.int .u8 t127,.int .u8 t128,.int .u8 t129] (fun _=>True) (fun _=>False) rfl rfl ?aP (fun _ hk=>hk.elim) ?aF ?aO (Below.refl _ _) ?aS ?aL ?_;(case aP=>exact k68_mkM _ _ _ (⟨t106,t107,t108,t109,t110,t111,t112,t113,t114,t115,t116,t117,t118,t119,t120,t121,t122,t123,t124,t125,t126,t127,t128,t129⟩:S68));(case aF=>exact (fun _ _=>trivial));(case aO=>exact zq42);(case aS=>exact (keep_size (w:=w) (g:=g) (row:=none) zq20));(case aL=>have:=LMc11.out;omega);intro v133 w14 ho hb hg hat;rw [← Ny132.out] at ho;have n0_:=am (blk_grown (g:=gb101) (o:=.cells #[.slice none 0 0,.slice none 0 0] 33 (0,0)) zq4 hg (Kd.R_ne HO_103000.out BK101.out (by decide)));have n1_:=am (blk_grown (g:=gb102) (o:=.cells #[u103000,.slice none 0 0] 33 (0,0)) zq37 hg (Kd.R_ne HO_103000.out BK102.out (by decide)));have n2_:=am (IsS125.grown ((fun a0_ a1_ a2_ (_:IsS125 w0 _ g a0_ a1_ a2_) (h_:IsS125 w0 _ g a0_ a1_ a2_)=>h_) _ _ _ HI0.out zq25) hg (IsS125.own_ne HI0.out HO_103000.out (by decide)));have n3_:=am (below_weaken zq26 HL.out hb);have n4_:=am (KeepBut.trans zq20 (KeepBut.of_grown hg g) (Kd.R_base2 HO_103000.out));have n5_:=am (ho);clear BK101;clear BK102;clear HI0;clear HB;clear HK;clear HO_103000;have BK101:=n0_;have BK102:=n1_;have HI0:=n2_;have HB:=n3_;have HK:=n4_;have HO134:=n5_;clear n0_ n1_ n2_ n3_ n4_ n5_;clear ho hb hg hat;obtain ⟨Ao15,co15,eo15⟩:=Kd.R_slice HO134.out;(first|subst eo15|(injection eo15 with f1_ f2_ f3_;have f4_:=f1_.symm;have f5_:=f3_.symm;clear f1_ f2_ f3_;subst f4_;subst f5_));refine hK.out _ _ ⟨(blk_cell BK102.out 0).trans rfl,(blk_cell BK102.out 1).trans rfl⟩ (fun hHeld=>?_);clear hK K;refine norm_ (a':=?_) ?_ ?_;rotate_left
     ·show Act.put _ (some 20) _=_
      simp only [Act.put,List.setIfInBounds_toArray,List.set_cons_zero,List.set_cons_succ,i64_w,i32_w];rfl
     refine pure_ (i:=6) (N:=some 21) (v:=?_) (a':=?_) #[true,true,true,true,true,true,true,false] rfl rfl (any_of HT_.out zq16) (fun _ _ _ h=>h) (Or.inl ⟨by rfl,?_⟩) ?_ ?_;rotate_left
     ·intro w';go_simp;with_reducible rfl
     rotate_left
     ·simp only [Act.put,List.setIfInBounds_toArray,List.set_cons_zero,List.set_cons_succ,i64_w,i32_w];rfl
     refine last_ (i:=7) (N:=none) #[true,true,true,true,true,true,true,true] rfl rfl (one_of HT_.out zq16) (by decide) (fun K hK=>?_);have hs16:w14.cell? ⟨gb102,0,none⟩=some (u103000):=(blk_cell BK102.out 0).trans rfl;have hfs16:=blk_frozen BK102.out 0;have hns16_0:=NB101_102.out;have hms16_0:=NB102_101.out;refine skip_ (w1:=?_) (by rfl) rfl ?_ ?_;rotate_left
     ·go_simp;rfl
     refine hK.out _ _ ?_;clear hK K;refine done_ (done_of HT_.out zq16) ?_;(try go_wp2)
     go_roundg k1
     case measure=>have:=HK1.out;omega
     case rel=>exact ⟨(wrap64 (x4_1 - 1)),(t130),(t131),(y132),(.slice Ao15 y132.length co15),zq3,H',⟨by have:=HK1.out;omega⟩,⟨by (with_reducible repeat (first|apply Kd.R_alloc|apply Kd.R_drewN|apply Kd.R_drew));exact Kd.R_mono (Kd.R_far (p:=⟨gb102,0,none⟩) (Kd.R_types HO134.out BK102.out (by decide)) (fun _ hk=>hk.2) (.slice Ao15 y132.length co15)) (fun _ hk=>trivial)⟩,⟨by (with_reducible repeat (first|refine blk_drewN ?_ _|refine blk_drew ?_|refine blk_alloc ?_ _));refine blk_far ?_ NB101_102.out _;(with_reducible repeat (first|refine blk_drewN ?_ _|refine blk_drew ?_|refine blk_alloc ?_ _));exact BK101.out⟩,⟨by (with_reducible repeat (first|refine blk_drewN ?_ _|refine blk_drew ?_|refine blk_alloc ?_ _));refine blk_put (cs:=#[u103000,.slice none 0 0]) ?_ 0 _ rfl;(with_reducible repeat (first|refine blk_drewN ?_ _|refine blk_drew ?_|refine blk_alloc ?_ _));exact BK102.out⟩,⟨by repeat (first|(with_reducible first|exact HI0.out|apply IsS125.alloc|apply IsS125.drewN|apply IsS125.drew|apply IsS125.set_1|apply IsS125.set_2|refine IsS125.far ?_ NB0_101.out _|refine IsS125.far ?_ NB0_102.out _)|exact HI0.out)⟩,⟨by repeat (first|(with_reducible first|exact HK.out|apply KeepBut.set_|apply keep_drewN|apply keep_drew|apply keep_alloc|refine keep_far ?_ GW101.out _|refine keep_far ?_ GW102.out _)|exact HK.out)⟩,⟨by repeat (first|(with_reducible first|exact HB.out|apply below_alloc|apply pw_below_drewN|apply below_drew1|refine below_set ?_ (IsS125.ge HI0.out)|refine below_set ?_ GE101.out|refine below_set ?_ GE102.out)|exact HB.out)⟩⟩
    ·rw [if_neg c11] at H;exact absurd H (by simp)
   ·rw [if_neg c9] at H;have c9b0:decide (0 < x4_1)=false:=decide_eq_false c9;clear c9;replace H:=Option.bind_eq_some_iff.mp H;obtain ⟨⟨t135,t136,t137⟩,A170,H⟩:=H;replace H:((spec_l00Src_pick.f s0_0 t136 t137 7).bind fun bt138=>(spec_l05Drawn.l1 k1 (wrap64 (1 + t135)) bt138.1 s0_0 bt138.2.1 bt138.2.2 x103000_1 ([]:List (List Int))))=some (r1,r2,r3,r4):=H;have A17:=am A170;clear A170;replace H:=Option.bind_eq_some_iff.mp H;obtain ⟨⟨t138,t139,t140⟩,A180,H⟩:=H;replace H:(spec_l05Drawn.l1 k1 (wrap64 (1 + t135)) t138 s0_0 t139 t140 x103000_1 ([]:List (List Int)))=some (r1,r2,r3,r4):=H;have A18:=am A180;clear A180;have H':=am H;clear H
    go_wp2_with (first|((with_reducible refine gate_callee (f:=67) rfl ?_);refine goesL_ (some 23) rfl rfl Try.func67 zq16 rfl #[.pointer (some ⟨g,0,none⟩),.int .i64 4] rfl zq0 ?_;(with_reducible refine (spec_l00Src_pick.calls g s0_0 x1001_1 x1002_1 4 t135 t136 t137 w0 _ ?side1 ?side2 A17.out).mono ?_);(case side1=>exact zq25);(case side2=>exact zq26);rintro e w19 ⟨rfl,hi,hb,hk⟩;refine ⟨_,rfl,?_⟩;have n0_:=am (Kd.R_mono (Kd.R_keep (IsS125.apart (show IsS125 w0 _ g s0_0 x1001_1 x1002_1 from by repeat (first|(with_reducible first|exact HI0.out|apply IsS125.alloc|apply IsS125.drewN|apply IsS125.drew|apply IsS125.set_1|apply IsS125.set_2|refine IsS125.far ?_ NB0_101.out _|refine IsS125.far ?_ NB0_102.out _)|exact HI0.out)) zq42 (by decide)) hk (fun _ h=>h.2)) (fun _ h=>h.1));have n1_:=am (KeepBut.blk hk (g':=gb101) (o:=.cells #[.slice none 0 0,.slice none 0 0] 33 (0,0)) zq4 NB101_0.out (by simp));have n2_:=am (KeepBut.blk hk (g':=gb102) (o:=.cells #[u103000,.slice none 0 0] 33 (0,0)) zq37 NB102_0.out (by simp));have n3_:=am (KeepBut.trans zq20 hk (.inl rfl));have n4_:=am (hb);have n5_:=am (hi);clear HO_103000;clear BK101;clear BK102;clear HK;clear HB;clear HI0;have HO_103000:=n0_;have BK101:=n1_;have BK102:=n2_;have HK:=n3_;have HB:=n4_;have HI0:=n5_;clear n0_ n1_ n2_ n3_ n4_ n5_;(try clear hb);(try clear hb2);(try clear hk);(try clear hi))|((with_reducible refine gate_callee (f:=67) rfl ?_);refine goesL_ (some 26) rfl rfl Try.func67 zq16 rfl #[.pointer (some ⟨g,0,none⟩),.int .i64 7] rfl zq0 ?_;(with_reducible refine (spec_l00Src_pick.calls g s0_0 t136 t137 7 t138 t139 t140 w0 _ ?side1 ?side2 A18.out).mono ?_);(case side1=>exact zq25);(case side2=>exact zq26);rintro e w20 ⟨rfl,hi,hb,hk⟩;refine ⟨_,rfl,?_⟩;have n0_:=am (Kd.R_mono (Kd.R_keep (IsS125.apart (show IsS125 w0 _ g s0_0 t136 t137 from by repeat (first|(with_reducible first|exact HI0.out|apply IsS125.alloc|apply IsS125.drewN|apply IsS125.drew|apply IsS125.set_1|apply IsS125.set_2|refine IsS125.far ?_ NB0_101.out _|refine IsS125.far ?_ NB0_102.out _)|exact HI0.out)) zq42 (by decide)) hk (fun _ h=>h.2)) (fun _ h=>h.1));have n1_:=am (KeepBut.blk hk (g':=gb101) (o:=.cells #[.slice none 0 0,.slice none 0 0] 33 (0,0)) zq4 NB101_0.out (by simp));have n2_:=am (KeepBut.blk hk (g':=gb102) (o:=.cells #[u103000,.slice none 0 0] 33 (0,0)) zq37 NB102_0.out (by simp));have n3_:=am (KeepBut.trans zq20 hk (.inl rfl));have n4_:=am (hb);have n5_:=am (hi);clear HO_103000;clear BK101;clear BK102;clear HK;clear HB;clear HI0;have HO_103000:=n0_;have BK101:=n1_;have BK102:=n2_;have HK:=n3_;have HB:=n4_;have HI0:=n5_;clear n0_ n1_ n2_ n3_ n4_ n5_;(try clear hb);(try clear hb2);(try clear hk);(try clear hi)))
    go_loopg [6] k1 (fun kq v6 w'=>∃ (x6_2:Int) (x1001_2:Int) (x1002_2:Int) (x103001_2:List (List Int)) (u103001:Value),v6=.int .i64 x6_2∧Aside0 (spec_l05Drawn.l1 kq (wrap64 (1 + t135)) x6_2 s0_0 x1001_2 x1002_2 x103000_1 x103001_2=some (r1,r2,r3,r4))∧Aside0 (kq≤k1)∧Aside0 (Kd.R k68 68 w' w.heap.size (fun _=>True) u103000 x103000_1)∧Aside0 (Kd.S (Kd.slice 5 (Kd.int .u8)) 79 w' w.heap.size (fun _=>True) u103001 x103001_2)∧Aside0 (w'.heap[gb101]?=some (.cells #[(.slice none 0 0),(.slice none 0 0)] 33 (0,0)))∧Aside0 (w'.heap[gb102]?=some (.cells #[u103000,u103001] 33 (0,0)))∧Aside0 (IsS125 w0 w' g s0_0 x1001_2 x1002_2)∧Aside0 (KeepBut w w' g none)∧Aside0 (Below w0.heap.size w0 w'))
    case atStart=>exact ⟨(t138),(t139),(t140),(([]:List (List Int))),(.slice none 0 0),zq3,H',⟨Nat.le_refl _⟩,⟨by (with_reducible repeat (first|apply Kd.R_alloc|apply Kd.R_drewN|apply Kd.R_drew));exact HO_103000.out⟩,⟨by first|exact Kd.S_nil _ _ _ _ _|exact Kd.N_nil _ _ _ _ _|exact Kd.V_nil _ _ _ _ _|exact Kd.Q_nil _ _ _ _ _|exact Kd.R_nil _ _ _ _ _⟩,⟨by (with_reducible repeat (first|refine blk_drewN ?_ _|refine blk_drew ?_|refine blk_alloc ?_ _));exact BK101.out⟩,⟨by (with_reducible repeat (first|refine blk_drewN ?_ _|refine blk_drew ?_|refine blk_alloc ?_ _));exact BK102.out⟩,⟨by repeat (first|(with_reducible first|exact HI0.out|apply IsS125.alloc|apply IsS125.drewN|apply IsS125.drew|apply IsS125.set_1|apply IsS125.set_2|refine IsS125.far ?_ NB0_101.out _|refine IsS125.far ?_ NB0_102.out _)|exact HI0.out)⟩,⟨by repeat (first|(with_reducible first|exact HK.out|apply KeepBut.set_|apply keep_drewN|apply keep_drew|apply keep_alloc|refine keep_far ?_ GW101.out _|refine keep_far ?_ GW102.out _)|exact HK.out)⟩,⟨by repeat (first|(with_reducible first|exact HB.out|apply below_alloc|apply pw_below_drewN|apply below_drew1|refine below_set ?_ (IsS125.ge HI0.out)|refine below_set ?_ GE101.out|refine below_set ?_ GE102.out)|exact HB.out)⟩⟩
    case round =>
     clear H';(try clear c1);(try clear p2);(try clear c5);(try clear c6);(try clear p6);(try clear c8);(try clear c9);(try clear c9b0);(try clear c11);(try clear hcz7_0);(try clear hcz7_1);(try clear hfz7_0);(try clear hfz7_1);(try clear p2);(try clear p6);obtain ⟨x6_2,x1001_2,x1002_2,x103001_2,u103001,rfl,HA,HK2,HO_103000,HO_103001,BK101,BK102,HI0,HK,HB⟩:=hrel
     cases gk with
     | zero=>exact absurd HA.out (by simp [spec_l05Drawn.l1])
     | succ k2 =>
      have H:=HA.out;clear HA;simp only [spec_l05Drawn.l1] at H
      by_cases c21:x6_2 > 0
      ·rw [if_pos c21] at H;have c21b0:decide (0 < x6_2)=true:=decide_eq_true c21;clear c21;replace H:=Option.bind_eq_some_iff.mp H;obtain ⟨⟨t141,t144,t145⟩,A220,H⟩:=H;replace H:(if x103001_2.length < 5864062014805 then (spec_l05Drawn.l1 k2 (wrap64 (1 + t135)) (wrap64 (x6_2 - 1)) s0_0 t144 t145 x103000_1 (x103001_2 ++ [t141])) else (none))=some (r1,r2,r3,r4):=H;have A22:=am A220;clear A220
       by_cases c23:x103001_2.length < 5864062014805
       ·rw [if_pos c23] at H;have LMc23:=am c23;clear c23;obtain ⟨y146,hy146⟩:∃ y_:List (List Int),y_=(x103001_2 ++ [t141]):=⟨_,rfl⟩
        replace H:(spec_l05Drawn.l1 k2 (wrap64 (1 + t135)) (wrap64 (x6_2 - 1)) s0_0 t144 t145 x103000_1 y146)=some (r1,r2,r3,r4):=by first|(rw [hy146];with_reducible exact H)|(have H2_:=(Option.bind_some _ _).symm.trans H;rw [hy146];with_reducible exact H2_)|(have H2_:=(Option.bind_some _ _).symm.trans H;with_reducible exact H2_)|with_reducible exact H|(rw [hy146];exact H)|exact H
        have Ny146:=am hy146;clear hy146;have H':=am H;clear H;(try go_wp2);have n0_:=am (Kd.R_drew HO_103000.out);have n1_:=am (Kd.S_drew HO_103001.out);have n2_:=am (blk_drew BK101.out);have n3_:=am (blk_drew BK102.out);have n4_:=am (IsS125.drew HI0.out);have n5_:=am (keep_drew HK.out);have n6_:=am (below_drew1 HB.out);clear HO_103000;clear HO_103001;clear BK101;clear BK102;clear HI0;clear HK;clear HB;have HO_103000:=n0_;have HO_103001:=n1_;have BK101:=n2_;have BK102:=n3_;have HI0:=n4_;have HK:=n5_;have HB:=n6_;clear n0_ n1_ n2_ n3_ n4_ n5_ n6_;obtain ⟨Ao25,co25,eo25⟩:=Kd.R_slice HO_103000.out;(first|subst eo25|(injection eo25 with f1_ f2_ f3_;have f4_:=f1_.symm;have f5_:=f3_.symm;clear f1_ f2_ f3_;subst f4_;subst f5_));refine start_ (n:=12) (S:=fun w'=>w'.cell? ⟨gb102,0,none⟩=some (.slice Ao25 x103000_1.length co25)∧w'.cell? ⟨gb102,1,none⟩=some (u103001)) (ds:=[11]) #[false,false,false,false,false,false,false,false,false,false,false,false] zq16 rfl rfl ⟨(blk_cell BK102.out 0).trans rfl,(blk_cell BK102.out 1).trans rfl⟩ (fun hHeld=>?_);refine with_tabW spec_l05Drawn.tab10 spec_l05Drawn.bits10 (fun HT_ HW_=>?_);generalize wr.drew=w24 at HO_103000 HO_103001 BK101 BK102 HI0 HK HB hHeld ⊢;refine pure_ (i:=0) (N:=some 31) (v:=?_) (a':=?_) #[true,false,false,false,false,false,false,false,false,false,false,false] rfl rfl (any_of HT_.out zq16) (fun _ _ _ h=>h) (Or.inl ⟨by rfl,?_⟩) ?_ ?_;rotate_left
        ·intro w';go_simp;with_reducible rfl
        rotate_left
        ·simp only [Act.put,List.setIfInBounds_toArray,List.set_cons_zero,List.set_cons_succ,i64_w,i32_w];rfl
        refine pure_ (i:=2) (N:=some 33) (v:=?_) (a':=?_) #[true,false,true,false,false,false,false,false,false,false,false,false] rfl rfl (any_of HT_.out zq16) (fun _ _ _ h=>h) (Or.inl ⟨by rfl,?_⟩) ?_ ?_;rotate_left
        ·intro w';go_simp;with_reducible rfl
        rotate_left
        ·simp only [Act.put,List.setIfInBounds_toArray,List.set_cons_zero,List.set_cons_succ,i64_w,i32_w];rfl
        refine pure_ (i:=3) (N:=some 34) (v:=?_) (a':=?_) #[true,false,true,true,false,false,false,false,false,false,false,false] rfl rfl (any_of HT_.out zq16) (fun _ _ _ h=>h) (Or.inl ⟨by rfl,?_⟩) ?_ ?_;rotate_left
        ·intro w';go_simp;with_reducible rfl
        rotate_left
        ·simp only [Act.put,List.setIfInBounds_toArray,List.set_cons_zero,List.set_cons_succ,i64_w,i32_w];rfl
        refine pure_ (i:=6) (N:=some 37) (v:=?_) (a':=?_) #[true,false,true,true,false,false,true,false,false,false,false,false] rfl rfl (any_of HT_.out zq16) (fun _ _ _ h=>h) (Or.inl ⟨by rfl,?_⟩) ?_ ?_;rotate_left
        ·intro w';go_simp;with_reducible rfl
        rotate_left
        ·simp only [Act.put,List.setIfInBounds_toArray,List.set_cons_zero,List.set_cons_succ,i64_w,i32_w];rfl
        refine take_ (i:=1) (N:=some 32) (v:=?_) (a':=?_) #[true,true,true,true,false,false,true,false,false,false,false,false] rfl rfl (take_ofW HT_.out HW_.out zq16) (fun _ _ _ h=>h) (Or.inl ⟨by rfl,?_⟩) hHeld ?_ ?_;rotate_left
        ·rintro w' ⟨s0,s1⟩
         go_simp;with_reducible rfl
        rotate_left
        ·simp only [Act.put,List.setIfInBounds_toArray,List.set_cons_zero,List.set_cons_succ,i64_w,i32_w];rfl
        refine take_ (i:=4) (N:=some 35) (v:=?_) (a':=?_) #[true,true,true,true,true,false,true,false,false,false,false,false] rfl rfl (take_ofW HT_.out HW_.out zq16) (fun _ _ _ h=>h) (Or.inl ⟨by rfl,?_⟩) hHeld ?_ ?_;rotate_left
        ·rintro w' ⟨s0,s1⟩
         go_simp;with_reducible rfl
        rotate_left
        ·simp only [Act.put,List.setIfInBounds_toArray,List.set_cons_zero,List.set_cons_succ,i64_w,i32_w];rfl
        refine pure_ (i:=5) (N:=some 36) (v:=?_) (a':=?_) #[true,true,true,true,true,true,true,false,false,false,false,false] rfl rfl (any_of HT_.out zq16) (fun _ _ _ h=>h) (Or.inl ⟨by rfl,?_⟩) ?_ ?_;rotate_left
        ·intro w';go_simp;with_reducible rfl
        rotate_left
        ·simp only [Act.put,List.setIfInBounds_toArray,List.set_cons_zero,List.set_cons_succ,i64_w,i32_w];rfl
        refine one_ (i:=7) (N:=some 38) #[true,true,true,true,true,true,true,true,false,false,false,false] rfl rfl (one_of HT_.out zq16) (by decide) (fun K hK=>?_);refine goes_ Try.func90 zq16 rfl #[.pointer (some ⟨g,0,none⟩),.int .i64 (x103000_1.length:Int),.int .i64 (wrap64 (1 + t135))] (by rfl) rfl rfl zq0 ?_
        with_reducible refine (spec_l05Spelled.calls k2 g s0_0 x1001_2 x1002_2 (x103000_1.length:Int) (wrap64 (1 + t135)) t141 t144 t145 w0 _ ?side1 ?side2 A22.out).mono ?_
        (case side1=>exact zq25);(case side2=>exact zq26)
        rintro e w26 ⟨v142,rfl,ho0,hi,hb,hk⟩
        refine ⟨_,rfl,?_⟩;have n0_:=am (Kd.R_mono (Kd.R_keep (IsS125.apart (show IsS125 w0 _ g s0_0 x1001_2 x1002_2 from by repeat (first|(with_reducible first|exact HI0.out|apply IsS125.alloc|apply IsS125.drewN|apply IsS125.drew|apply IsS125.set_1|apply IsS125.set_2|refine IsS125.far ?_ NB0_101.out _|refine IsS125.far ?_ NB0_102.out _)|exact HI0.out)) zq42 (by decide)) hk (fun _ h=>h.2)) (fun _ h=>h.1));have n1_:=am (Kd.S_mono (Kd.S_told (Kd.S_oldK (IsS125.apartS (show IsS125 w0 _ g s0_0 x1001_2 x1002_2 from by repeat (first|(with_reducible first|exact HI0.out|apply IsS125.alloc|apply IsS125.drewN|apply IsS125.drew|apply IsS125.set_1|apply IsS125.set_2|refine IsS125.far ?_ NB0_101.out _|refine IsS125.far ?_ NB0_102.out _)|exact HI0.out)) zq81 (by decide)) hk) (Kd.R_base ho0)) (fun _ h_=>h_.1));have n2_:=am (KeepBut.blk hk (g':=gb101) (o:=.cells #[.slice none 0 0,.slice none 0 0] 33 (0,0)) zq4 NB101_0.out (by simp));have n3_:=am (KeepBut.blk hk (g':=gb102) (o:=.cells #[.slice Ao25 x103000_1.length co25,u103001] 33 (0,0)) zq37 NB102_0.out (by simp));have n4_:=am (Kd.R_lower ho0 (keep_size (w:=w) (g:=g) (row:=none) zq20));have n5_:=am (KeepBut.trans zq20 hk (.inl rfl));have n6_:=am (hb);have n7_:=am (hi);clear HO_103000;clear HO_103001;clear BK101;clear BK102;clear HK;clear HB;clear HI0;have HO_103000:=n0_;have HO_103001:=n1_;have BK101:=n2_;have BK102:=n3_;have HO143:=n4_;have HK:=n5_;have HB:=n6_;have HI0:=n7_;clear n0_ n1_ n2_ n3_ n4_ n5_ n6_ n7_;(try clear hb);(try clear hb2);(try clear hk);(try clear hi);(try clear ho0);obtain ⟨Ao28,co28,eo28⟩:=Kd.R_slice HO143.out;(first|subst eo28|(injection eo28 with f1_ f2_ f3_;have f4_:=f1_.symm;have f5_:=f3_.symm;clear f1_ f2_ f3_;subst f4_;subst f5_));refine hK.out _ _ ⟨(blk_cell BK102.out 0).trans rfl,(blk_cell BK102.out 1).trans rfl⟩ (fun hHeld=>?_);clear hK K;refine norm_ (a':=?_) ?_ ?_;rotate_left
        ·show Act.put _ (some 38) _=_
         simp only [Act.put,List.setIfInBounds_toArray,List.set_cons_zero,List.set_cons_succ,i64_w,i32_w];rfl
        refine one_ (i:=8) (N:=some 39) #[true,true,true,true,true,true,true,true,true,false,false,false] rfl rfl (one_of HT_.out zq16) (by decide) (fun K hK=>?_);refine value_ (w1:=?_) (v:=?_) (by rfl) rfl ?_ ?_;rotate_left 2
        ·go_simp
         constructor
         ·rfl
         ·rfl
        refine hK.out _ _ ⟨(blk_cell (blk_alloc BK102.out _) 0).trans rfl,(blk_cell (blk_alloc BK102.out _) 1).trans rfl⟩ (fun hHeld=>?_);clear hK K;refine norm_ (a':=?_) ?_ ?_;rotate_left
        ·show Act.put _ (some 39) _=_
         simp only [Act.put,List.setIfInBounds_toArray,List.set_cons_zero,List.set_cons_succ,i64_w,i32_w];rfl
        refine one_ (i:=9) (N:=some 40) #[true,true,true,true,true,true,true,true,true,true,false,false] rfl rfl (one_of HT_.out zq16) (by decide) (fun K hK=>?_);refine Kd.S_append_step (Kd.slice 5 (Kd.int .u8)) w.heap.size (by rfl) (.tmp 32) (.tmp 39) 31 79 (.slice none 0 0) 24 rfl Try.underlying31 info79 rfl (by decide) (by omega) u103001 x103001_2 t141 [.slice Ao28 t141.length co28] (fun _=>True) (fun k_=>some k_=(.slice Ao28 t141.length co28:Value).ownBlock) rfl rfl ?aP (fun k_ hk_=>((Kd.R_mono (ok':=fun k_=>((fun _=>True)) k_∧some k_≠(u103001:Value).ownBlock) (Kd.R_apart' (HO143.out) (Kd.S_typed HO_103001.out) (by decide)) (fun k_ hk=>⟨trivial,hk.2⟩))).1 k_ hk_.symm) ?aF ?aO (Below.refl _ _) ?aS ?aL ?_;(case aP=>exact Kd.M_row (Kd.R_mono (Kd.R_tight rfl (Kd.R_mono (ok':=fun k_=>((fun _=>True)) k_∧some k_≠(u103001:Value).ownBlock) (Kd.R_apart' (HO143.out) (Kd.S_typed HO_103001.out) (by decide)) (fun k_ hk=>⟨trivial,hk.2⟩))) (fun _ h_=>h_)));(case aF=>exact (fun _ _=>trivial));(case aO=>exact (by (with_reducible repeat (first|apply Kd.S_alloc|apply Kd.S_drewN|apply Kd.S_drew));exact Kd.S_mono HO_103001.out (fun k_ hk=>⟨trivial,fun e_=>hk.2 e_⟩)));(case aS=>exact (keep_size (w:=w) (g:=g) (row:=none) zq20));(case aL=>have:=LMc23.out;omega);intro v147 w27 ho hb hg hat;rw [← Ny146.out] at ho;have n0_:=am (Kd.R_over' zq42 (Kd.S_typed zq81) (by decide) hg);have n1_:=am (blk_grown (g:=gb101) (o:=.cells #[.slice none 0 0,.slice none 0 0] 33 (0,0)) zq4 hg (Kd.S_ne HO_103001.out BK101.out (by decide)));have n2_:=am (blk_grown (g:=gb102) (o:=.cells #[.slice Ao25 x103000_1.length co25,u103001] 33 (0,0)) zq37 hg (Kd.S_ne HO_103001.out BK102.out (by decide)));have n3_:=am (IsS125.grown ((fun a0_ a1_ a2_ (_:IsS125 w0 _ g a0_ a1_ a2_) (h_:IsS125 w0 _ g a0_ a1_ a2_)=>h_) _ _ _ HI0.out zq25) hg (IsS125.own_neS HI0.out HO_103001.out (by decide)));have n4_:=am (below_weaken zq26 HL.out hb);have n5_:=am (KeepBut.trans zq20 (KeepBut.of_grown hg g) (Kd.S_base2 HO_103001.out));have n6_:=am (ho);clear HO_103000;clear BK101;clear BK102;clear HI0;clear HB;clear HK;clear HO_103001;clear HO143;have HO_103000:=n0_;have BK101:=n1_;have BK102:=n2_;have HI0:=n3_;have HB:=n4_;have HK:=n5_;have HO148:=n6_;clear n0_ n1_ n2_ n3_ n4_ n5_ n6_;clear ho hb hg hat;obtain ⟨Ao29,co29,eo29⟩:=Kd.S_slice HO148.out;(first|subst eo29|(injection eo29 with f1_ f2_ f3_;have f4_:=f1_.symm;have f5_:=f3_.symm;clear f1_ f2_ f3_;subst f4_;subst f5_));refine hK.out _ _ ⟨(blk_cell BK102.out 0).trans rfl,(blk_cell BK102.out 1).trans rfl⟩ (fun hHeld=>?_);clear hK K;refine norm_ (a':=?_) ?_ ?_;rotate_left
        ·show Act.put _ (some 40) _=_
         simp only [Act.put,List.setIfInBounds_toArray,List.set_cons_zero,List.set_cons_succ,i64_w,i32_w];rfl
        refine pure_ (i:=10) (N:=some 41) (v:=?_) (a':=?_) #[true,true,true,true,true,true,true,true,true,true,true,false] rfl rfl (any_of HT_.out zq16) (fun _ _ _ h=>h) (Or.inl ⟨by rfl,?_⟩) ?_ ?_;rotate_left
        ·intro w';go_simp;with_reducible rfl
        rotate_left
        ·simp only [Act.put,List.setIfInBounds_toArray,List.set_cons_zero,List.set_cons_succ,i64_w,i32_w];rfl
        refine last_ (i:=11) (N:=none) #[true,true,true,true,true,true,true,true,true,true,true,true] rfl rfl (one_of HT_.out zq16) (by decide) (fun K hK=>?_);have hs30:w27.cell? ⟨gb102,1,none⟩=some (u103001):=(blk_cell BK102.out 1).trans rfl;have hfs30:=blk_frozen BK102.out 1;have hns30_0:=NB101_102.out;have hms30_0:=NB102_101.out;refine skip_ (w1:=?_) (by rfl) rfl ?_ ?_;rotate_left
        ·go_simp;rfl
        refine hK.out _ _ ?_;clear hK K;refine done_ (done_of HT_.out zq16) ?_;(try go_wp2)
        go_roundg k2
        case measure=>have:=HK1.out;have:=HK2.out;omega
        case rel=>exact ⟨(wrap64 (x6_2 - 1)),(t144),(t145),(y146),(.slice Ao29 y146.length co29),zq3,H',⟨by have:=HK1.out;have:=HK2.out;omega⟩,⟨by (with_reducible repeat (first|apply Kd.R_alloc|apply Kd.R_drewN|apply Kd.R_drew));exact Kd.R_mono (Kd.R_far (p:=⟨gb102,1,none⟩) (Kd.R_types HO_103000.out BK102.out (by decide)) (fun _ hk=>hk.2) (.slice Ao29 y146.length co29)) (fun _ hk=>trivial)⟩,⟨by (with_reducible repeat (first|apply Kd.S_alloc|apply Kd.S_drewN|apply Kd.S_drew));exact Kd.S_mono (Kd.S_far (p:=⟨gb102,1,none⟩) (Kd.S_types HO148.out BK102.out (by decide)) (fun _ hk=>hk.2) (.slice Ao29 y146.length co29)) (fun _ hk=>trivial)⟩,⟨by (with_reducible repeat (first|refine blk_drewN ?_ _|refine blk_drew ?_|refine blk_alloc ?_ _));refine blk_far ?_ NB101_102.out _;(with_reducible repeat (first|refine blk_drewN ?_ _|refine blk_drew ?_|refine blk_alloc ?_ _));exact BK101.out⟩,⟨by (with_reducible repeat (first|refine blk_drewN ?_ _|refine blk_drew ?_|refine blk_alloc ?_ _));refine blk_put (cs:=#[.slice Ao25 x103000_1.length co25,u103001]) ?_ 1 _ rfl;(with_reducible repeat (first|refine blk_drewN ?_ _|refine blk_drew ?_|refine blk_alloc ?_ _));exact BK102.out⟩,⟨by repeat (first|(with_reducible first|exact HI0.out|apply IsS125.alloc|apply IsS125.drewN|apply IsS125.drew|apply IsS125.set_1|apply IsS125.set_2|refine IsS125.far ?_ NB0_101.out _|refine IsS125.far ?_ NB0_102.out _)|exact HI0.out)⟩,⟨by repeat (first|(with_reducible first|exact HK.out|apply KeepBut.set_|apply keep_drewN|apply keep_drew|apply keep_alloc|refine keep_far ?_ GW101.out _|refine keep_far ?_ GW102.out _)|exact HK.out)⟩,⟨by repeat (first|(with_reducible first|exact HB.out|apply below_alloc|apply pw_below_drewN|apply below_drew1|refine below_set ?_ (IsS125.ge HI0.out)|refine below_set ?_ GE101.out|refine below_set ?_ GE102.out)|exact HB.out)⟩⟩
       ·rw [if_neg c23] at H;exact absurd H (by simp)
      ·rw [if_neg c21] at H;have c21b0:decide (0 < x6_2)=false:=decide_eq_false c21;clear c21;simp only [Option.some.injEq,Prod.mk.injEq] at H;obtain ⟨rfl,rfl,rfl,rfl⟩:=H;have hnb31:=NB102_101.out;have hnc31:=NB101_102.out;have hnb32:=NB102_0.out;have hnc32:=NB0_102.out;have hcz33_0:wr.cell? ⟨gb102,0,none⟩=some (u103000):=(blk_cell BK102.out 0).trans rfl;have hcz33_1:wr.cell? ⟨gb102,1,none⟩=some (u103001):=(blk_cell BK102.out 1).trans rfl;have hfz33_0:=blk_frozen BK102.out 0;have hfz33_1:=blk_frozen BK102.out 1;obtain ⟨Ao34,co34,eo34⟩:=Kd.R_slice HO_103000.out;subst eo34;have hnb35:=NB101_0.out;have hnc35:=NB0_101.out;have hcz36_0:wr.cell? ⟨gb101,0,none⟩=some (.slice none 0 0):=(blk_cell BK101.out 0).trans rfl;have hcz36_1:wr.cell? ⟨gb101,1,none⟩=some (.slice none 0 0):=(blk_cell BK101.out 1).trans rfl;have hfz36_0:=blk_frozen BK101.out 0;have hfz36_1:=blk_frozen BK101.out 1;obtain ⟨Ao37,co37,eo37⟩:=Kd.S_slice HO_103001.out;subst eo37
       go_wp2
       refine bodyPost_ret (results_cell_row rfl _ _ gb101 33 #[.slice Ao34 x103000_1.length co34,.slice Ao37 x103001_2.length co37] (0,0) _ rfl (by (with_reducible repeat (first|refine blk_drewN ?_ _|refine blk_drew ?_|refine blk_alloc ?_ _));refine blk_put (cs:=#[.slice Ao34 x103000_1.length co34,.slice none 0 0]) ?_ 1 _ rfl;(with_reducible repeat (first|refine blk_drewN ?_ _|refine blk_drew ?_|refine blk_alloc ?_ _));refine blk_put (cs:=#[.slice none 0 0,.slice none 0 0]) ?_ 0 _ rfl;(with_reducible repeat (first|refine blk_drewN ?_ _|refine blk_drew ?_|refine blk_alloc ?_ _));exact BK101.out) Try.underlying33 rfl zq16) rfl ?_;exact ⟨_,_,by first|rfl|(simp [errW_none,errW_some,IntKind.wrap_i64,wrap64];done)|(simp [errW_none,errW_some] <;> rfl)|(simp [*,errW_none,errW_some] <;> rfl),by (with_reducible repeat (first|apply Kd.R_alloc|apply Kd.R_drewN|apply Kd.R_drew));exact Kd.R_mono (Kd.R_far (p:=⟨gb101,1,none⟩) (Kd.R_far (p:=⟨gb101,0,none⟩) (Kd.R_types HO_103000.out BK101.out (by decide)) (fun _ hk=>hk.2) (.slice Ao34 x103000_1.length co34)) (fun _ hk=>hk.2) (.slice Ao37 x103001_2.length co37)) (fun _ hk=>trivial),by (with_reducible repeat (first|apply Kd.S_alloc|apply Kd.S_drewN|apply Kd.S_drew));exact Kd.S_mono (Kd.S_far (p:=⟨gb101,1,none⟩) (Kd.S_far (p:=⟨gb101,0,none⟩) (Kd.S_types HO_103001.out BK101.out (by decide)) (fun _ hk=>hk.2) (.slice Ao34 x103000_1.length co34)) (fun _ hk=>hk.2) (.slice Ao37 x103001_2.length co37)) (fun _ hk=>trivial),by repeat (first|(with_reducible first|exact HI0.out|apply IsS125.alloc|apply IsS125.drewN|apply IsS125.drew|apply IsS125.set_1|apply IsS125.set_2|refine IsS125.far ?_ NB0_101.out _|refine IsS125.far ?_ NB0_102.out _)|exact HI0.out),by repeat (first|(with_reducible first|exact HB.out|apply below_alloc|apply pw_below_drewN|apply below_drew1|refine below_set ?_ (IsS125.ge HI0.out)|refine below_set ?_ GE101.out|refine below_set ?_ GE102.out)|exact HB.out),by repeat (first|(with_reducible first|exact HK.out|apply KeepBut.set_|apply keep_drewN|apply keep_drew|apply keep_alloc|refine keep_far ?_ GW101.out _|refine keep_far ?_ GW102.out _)|exact HK.out)⟩
end Go.Proofs.Ytgfknljhogfeaaa.G
end

section
namespace Go.Proofs.Ytgfknljhogfeaaa.G
open Go.RowKit Go.Proofs.YtgfknljhogfeaaaW.PrintWords Go.Proofs.YtgfknljhogfeaaaW.PrintLast Go.Proofs.YtgfknljhogfeaaaW.PrintMore
attribute [local go_sem] max2_int min2_int max_two min_two max_three min_three max_four min_four
set_option linter.unusedVariables false
set_option linter.unusedSimpArgs false
def spec_P6Code.f (k:Nat) (l0:List Int):Option ((List (S68)) × (List (List Int))):=(spec_l00From.f l0).bind fun bt102=>((spec_l05Drawn.f k bt102.1 bt102.2.1 bt102.2.2).bind fun bt106=>(some (bt106.1,bt106.2.1)))
set_option maxHeartbeats 8000000 in
set_option maxRecDepth 100000 in
theorem spec_P6Code.calls (k:Nat) (A0:Option Addr) (c0:Nat) (l0:List Int) (r1:List (S68)) (r2:List (List Int)) (w:World) (hr0:Kd.C (Kd.int .u8) w A0 l0.length l0) (hc0:l0.length≤c0) (h:spec_P6Code.f k l0=some (r1,r2)) :
  Calls Try.prog 29 #[.slice A0 l0.length c0] w fun e w'=>∃ v0_ v1_:Value,e=.returned (.agg #[v0_,v1_])∧Kd.R k68 68 w' w.heap.size (fun _=>True) v0_ r1∧Kd.S (Kd.slice 5 (Kd.int .u8)) 79 w' w.heap.size (fun _=>True) v1_ r2∧Below w.heap.size w w':=by
 have hu33:=Try.underlying33;have HR0:=am hr0;have HC0:=am hc0;clear hr0 hc0;have HB:=am (Below.refl w.heap.size w);have H:((spec_l00From.f l0).bind fun bt102=>((spec_l05Drawn.f k bt102.1 bt102.2.1 bt102.2.2).bind fun bt106=>(some (bt106.1,bt106.2.1))))=some (r1,r2):=h;clear h;replace H:=Option.bind_eq_some_iff.mp H;obtain ⟨⟨t102,t103,t104⟩,A20,H⟩:=H;replace H:((spec_l05Drawn.f k t102 t103 t104).bind fun bt106=>(some (bt106.1,bt106.2.1)))=some (r1,r2):=H;have A2:=am A20;clear A20;replace H:=Option.bind_eq_some_iff.mp H;obtain ⟨⟨t106,t109,t112,t113⟩,A30,H⟩:=H;replace H:(some (t106,t109))=some (r1,r2):=H;have A3:=am A30;clear A30;simp only [Option.some.injEq,Prod.mk.injEq] at H;obtain ⟨rfl,rfl⟩:=H
 go_enter Try.func29,Try.ntmps29
 go_wp2_with (first|((with_reducible refine gate_dst (N:=2) rfl ?_);refine box_event ?hg (N:=2) ?hd (cs:=#[.slice none 0 0,.slice none 0 0]) (t:=33) ?hr ?_;(case hd=>rfl);(case hg=>rfl);(case hr=>exact zq15);intro gb101 hg w4 hbox hb;have n0_:=am (below_step zq2 hb);have n1_:=am (hbox);have n2_:=am ((by rw [hg];exact (below_size zq2):w.heap.size≤gb101));have n3_:=am ((by rw [hg];exact (below_size zq2):w.heap.size≤gb101));clear HB;have HB:=n0_;have BK101:=n1_;have GW101:=n2_;have GE101:=n3_;clear n0_ n1_ n2_ n3_;clear hb hbox hg)|((with_reducible refine gate_callee (f:=63) rfl ?_);refine goesL_ (some 4) rfl rfl Try.func63 zq16 rfl #[.slice A0 l0.length c0] rfl zq0 ?_;(with_reducible refine (spec_l00From.calls _ _ l0 t102 t103 t104 w _ ?side1 ?side2 ?side3 A2.out).mono ?_);(case side1=>exact zq1);(case side2=>exact HR0.out);(case side3=>exact HC0.out);rintro e w5 ⟨g105,rfl,hi,hb,hb2⟩;refine ⟨_,rfl,?_⟩;have n0_:=am (blk_below (g:=gb101) (o:=.cells #[.slice none 0 0,.slice none 0 0] 33 (0,0)) zq4 hb2);have n1_:=am (hb);have n2_:=am (hi);have n3_:=am (IsS125.ne_blk hi (blk_below (g:=gb101) (o:=.cells #[.slice none 0 0,.slice none 0 0] 33 (0,0)) zq4 hb2) (by decide));have n4_:=am (Ne.symm (IsS125.ne_blk hi (blk_below (g:=gb101) (o:=.cells #[.slice none 0 0,.slice none 0 0] 33 (0,0)) zq4 hb2) (by decide)));clear BK101;clear HB;have BK101:=n0_;have HB:=n1_;have HI105:=n2_;have NB105_101:=n3_;have NB101_105:=n4_;clear n0_ n1_ n2_ n3_ n4_;(try clear hb);(try clear hb2);(try clear hk);(try clear hi))|((with_reducible refine gate_callee (f:=62) rfl ?_);refine goesL_ (some 5) rfl rfl Try.func62 zq16 rfl #[.pointer (some ⟨g105,0,none⟩)] rfl zq0 ?_;(with_reducible refine (spec_l05Drawn.calls k g105 t102 t103 t104 t106 t109 t112 t113 w _ ?side1 ?side2 A3.out).mono ?_);(case side1=>repeat (first|(with_reducible first|exact HI105.out|apply IsS125.alloc|apply IsS125.drewN|apply IsS125.drew|apply IsS125.set_1|apply IsS125.set_2|refine IsS125.far ?_ NB105_101.out _)|exact HI105.out));(case side2=>exact zq49);rintro e w6 ⟨v107,v110,rfl,ho0,ho1,hi,hb,hk⟩;refine ⟨_,rfl,?_⟩;have n0_:=am (KeepBut.blk hk (g':=gb101) (o:=.cells #[.slice none 0 0,.slice none 0 0] 33 (0,0)) zq4 NB101_105.out (by simp));have n1_:=am (Kd.R_lower ho0 (below_size zq49));have n2_:=am (Kd.S_lower ho1 (below_size zq49));have n3_:=am (hb);have n4_:=am (hi);clear BK101;clear HB;clear HI105;have BK101:=n0_;have HO108:=n1_;have HO111:=n2_;have HB:=n3_;have HI105:=n4_;clear n0_ n1_ n2_ n3_ n4_;(try clear hb);(try clear hb2);(try clear hk);(try clear hi);(try clear ho0);(try clear ho1);obtain ⟨Ao7,co7,eo7⟩:=Kd.R_slice HO108.out;subst eo7;have hnb8:=NB101_105.out;have hnc8:=NB105_101.out;have hcz9_0:w6.cell? ⟨gb101,0,none⟩=some (.slice none 0 0):=(blk_cell BK101.out 0).trans rfl;have hcz9_1:w6.cell? ⟨gb101,1,none⟩=some (.slice none 0 0):=(blk_cell BK101.out 1).trans rfl;have hfz9_0:=blk_frozen BK101.out 0;have hfz9_1:=blk_frozen BK101.out 1;obtain ⟨Ao10,co10,eo10⟩:=Kd.S_slice HO111.out;subst eo10))
 refine bodyPost_ret (results_cell_row rfl _ _ gb101 33 #[.slice Ao7 t106.length co7,.slice Ao10 t109.length co10] (0,0) _ rfl (by (with_reducible repeat (first|refine blk_drewN ?_ _|refine blk_drew ?_|refine blk_alloc ?_ _));refine blk_put (cs:=#[.slice Ao7 t106.length co7,.slice none 0 0]) ?_ 1 _ rfl;(with_reducible repeat (first|refine blk_drewN ?_ _|refine blk_drew ?_|refine blk_alloc ?_ _));refine blk_put (cs:=#[.slice none 0 0,.slice none 0 0]) ?_ 0 _ rfl;(with_reducible repeat (first|refine blk_drewN ?_ _|refine blk_drew ?_|refine blk_alloc ?_ _));exact BK101.out) Try.underlying33 rfl zq16) rfl ?_;exact ⟨_,_,by first|rfl|(simp [errW_none,errW_some,IntKind.wrap_i64,wrap64];done)|(simp [errW_none,errW_some] <;> rfl)|(simp [*,errW_none,errW_some] <;> rfl),by (with_reducible repeat (first|apply Kd.R_alloc|apply Kd.R_drewN|apply Kd.R_drew));exact Kd.R_mono (Kd.R_far (p:=⟨gb101,1,none⟩) (Kd.R_far (p:=⟨gb101,0,none⟩) (Kd.R_types HO108.out BK101.out (by decide)) (fun _ hk=>hk.2) (.slice Ao7 t106.length co7)) (fun _ hk=>hk.2) (.slice Ao10 t109.length co10)) (fun _ hk=>trivial),by (with_reducible repeat (first|apply Kd.S_alloc|apply Kd.S_drewN|apply Kd.S_drew));exact Kd.S_mono (Kd.S_far (p:=⟨gb101,1,none⟩) (Kd.S_far (p:=⟨gb101,0,none⟩) (Kd.S_types HO111.out BK101.out (by decide)) (fun _ hk=>hk.2) (.slice Ao7 t106.length co7)) (fun _ hk=>hk.2) (.slice Ao10 t109.length co10)) (fun _ hk=>trivial),by repeat (first|(with_reducible first|exact HB.out|apply below_alloc|apply pw_below_drewN|apply below_drew1|refine below_set ?_ (IsS125.ge HI105.out)|refine below_set ?_ GE101.out)|exact HB.out)⟩
end Go.Proofs.Ytgfknljhogfeaaa.G
end

section
namespace Go.Proofs.Ytgfknljhogfeaaa.G
open Go.RowKit Go.Proofs.YtgfknljhogfeaaaW.PrintWords Go.Proofs.YtgfknljhogfeaaaW.PrintLast Go.Proofs.YtgfknljhogfeaaaW.PrintMore
attribute [local go_sem] max2_int min2_int max_two min_two max_three min_three max_four min_four
set_option linter.unusedVariables false
set_option linter.unusedSimpArgs false
def spec_P6Pick.f (l0:List Int) (a1:Int):Option (Int):=(spec_l00From.f l0).bind fun bt101=>((spec_l00Src_pick.f bt101.1 bt101.2.1 bt101.2.2 a1).bind fun bt105=>(some bt105.1))
set_option maxHeartbeats 8000000 in
set_option maxRecDepth 100000 in
theorem spec_P6Pick.calls (A0:Option Addr) (c0:Nat) (l0:List Int) (a1:Int) (r:Int) (w:World) (hr0:Kd.C (Kd.int .u8) w A0 l0.length l0) (hc0:l0.length≤c0) (h:spec_P6Pick.f l0 a1=some r) :
  Calls Try.prog 31 #[.slice A0 l0.length c0,.int .i64 a1] w fun e w'=>e=.returned (.int .i64 r)∧Below w.heap.size w w':=by
 have HR0:=am hr0;have HC0:=am hc0;clear hr0 hc0;have HB:=am (Below.refl w.heap.size w);have H:((spec_l00From.f l0).bind fun bt101=>((spec_l00Src_pick.f bt101.1 bt101.2.1 bt101.2.2 a1).bind fun bt105=>(some bt105.1)))=some r:=h;clear h;replace H:=Option.bind_eq_some_iff.mp H;obtain ⟨⟨t101,t102,t103⟩,A30,H⟩:=H;replace H:((spec_l00Src_pick.f t101 t102 t103 a1).bind fun bt105=>(some bt105.1))=some r:=H;have A3:=am A30;clear A30;replace H:=Option.bind_eq_some_iff.mp H;obtain ⟨⟨t105,t106,t107⟩,A40,H⟩:=H;replace H:(some t105)=some r:=H;have A4:=am A40;clear A40;obtain rfl:=Option.some.inj H
 go_enter Try.func31,Try.ntmps31
 go_wp2_with (first|((with_reducible refine gate_callee (f:=63) rfl ?_);refine goesL_ (some 6) rfl rfl Try.func63 zq16 rfl #[.slice A0 l0.length c0] rfl zq0 ?_;(with_reducible refine (spec_l00From.calls _ _ l0 t101 t102 t103 w _ ?side1 ?side2 ?side3 A3.out).mono ?_);(case side1=>exact zq2);(case side2=>exact HR0.out);(case side3=>exact HC0.out);rintro e w5 ⟨g104,rfl,hi,hb,hb2⟩;refine ⟨_,rfl,?_⟩;have n0_:=am (hb);have n1_:=am (hi);clear HB;have HB:=n0_;have HI104:=n1_;clear n0_ n1_;(try clear hb);(try clear hb2);(try clear hk);(try clear hi))|((with_reducible refine gate_callee (f:=67) rfl ?_);refine goesL_ (some 8) rfl rfl Try.func67 zq16 rfl #[.pointer (some ⟨g104,0,none⟩),.int .i64 a1] rfl zq0 ?_;(with_reducible refine (spec_l00Src_pick.calls g104 t101 t102 t103 a1 t105 t106 t107 w _ ?side1 ?side2 A4.out).mono ?_);(case side1=>repeat (first|(with_reducible first|exact HI104.out|apply IsS125.alloc|apply IsS125.drewN|apply IsS125.drew|apply IsS125.set_1|apply IsS125.set_2)|exact HI104.out));(case side2=>repeat (first|(with_reducible first|exact HB.out|apply below_alloc|apply pw_below_drewN|apply below_drew1|refine below_set ?_ (IsS125.ge HI104.out))|exact HB.out));rintro e w6 ⟨rfl,hi,hb,hk⟩;refine ⟨_,rfl,?_⟩;have n0_:=am (hb);have n1_:=am (hi);clear HB;clear HI104;have HB:=n0_;have HI104:=n1_;clear n0_ n1_;(try clear hb);(try clear hb2);(try clear hk);(try clear hi)))
 go_ret
 exact ⟨by first|rfl|(simp [errW_none,errW_some,IntKind.wrap_i64,wrap64];done)|(simp [errW_none,errW_some] <;> rfl)|(simp [*,errW_none,errW_some] <;> rfl),by repeat (first|(with_reducible first|exact HB.out|apply below_alloc|apply pw_below_drewN|apply below_drew1|refine below_set ?_ (IsS125.ge HI104.out))|exact HB.out)⟩
end Go.Proofs.Ytgfknljhogfeaaa.G
end

section
namespace Go.Proofs.Ytgfknljhogfeaaa.G
open Go.RowKit Go.Proofs.YtgfknljhogfeaaaW.PrintWords Go.Proofs.YtgfknljhogfeaaaW.PrintLast Go.Proofs.YtgfknljhogfeaaaW.PrintMore
attribute [local go_sem] max2_int min2_int max_two min_two max_three min_three max_four min_four
set_option linter.unusedVariables false
set_option linter.unusedSimpArgs false
mutual
def spec_ReadSights.j0:Nat→List (S61)→Bool→List (S68)→List (List Int)→Option (Int × Int × Int)
 | 0,_,_,_,_=>none
 | k + 1,x1,x18,x102000,x102001=>if x18=true then (some (0,0,1)) else (if (x102001.length:Int)=0 then (some (0,0,6)) else (if 0 < (x102001.length:Int) then (if (x1.length:Int)=((rd_L2 x102001 0).length:Int) then (spec_ReadSights.l0 k x1 0 (-1) 0 0 x102000 x102001) else (some (0,0,2))) else (none)))
def spec_ReadSights.l0:Nat→List (S61)→Int→Int→Int→Int→List (S68)→List (List Int)→Option (Int × Int × Int)
 | 0,_,_,_,_,_,_,_=>none
 | k + 1,x1,x7,x8,x9,x10,x102000,x102001=>if x10 < (x102001.length:Int) then ((spec_l05Sights.f x102000 x102001 x10).bind fun t105=>((spec_l05Far.f t105 x1).bind fun t108=>(if x8 < 0 then (spec_ReadSights.j2 k x1 x7 x8 x9 x10 t108 true x102000 x102001) else (spec_ReadSights.j2 k x1 x7 x8 x9 x10 t108 (decide (t108 < x8)) x102000 x102001)))) else (if x9 > 1 then (some (0,0,8)) else (some (x7,x8,0)))
def spec_ReadSights.j2:Nat→List (S61)→Int→Int→Int→Int→Int→Bool→List (S68)→List (List Int)→Option (Int × Int × Int)
 | 0,_,_,_,_,_,_,_,_,_=>none
 | k + 1,x1,x7,x8,x9,x10,x11,x48,x102000,x102001=>if x48=true then (if x11=x11 then (spec_ReadSights.l0 k x1 x10 x11 1 (wrap64 (x10 + 1)) x102000 x102001) else (spec_ReadSights.l0 k x1 x10 x11 0 (wrap64 (x10 + 1)) x102000 x102001)) else (if x11=x8 then (spec_ReadSights.l0 k x1 x7 x8 (wrap64 (x9 + 1)) (wrap64 (x10 + 1)) x102000 x102001) else (spec_ReadSights.l0 k x1 x7 x8 x9 (wrap64 (x10 + 1)) x102000 x102001))
end
def spec_ReadSights.f (k:Nat) (l0_0:List (S68)) (l0_1:List (List Int)) (l1:List (S61)):Option (Int × Int × Int):=(spec_l05Ok.f k l0_0 l0_1).bind fun t102=>(if t102=true then ((spec_l05Seen.f l1).bind fun t103=>(spec_ReadSights.j0 k l1 (!t103) l0_0 l0_1)) else (spec_ReadSights.j0 k l1 true l0_0 l0_1))
set_option maxHeartbeats 8000000 in
set_option maxRecDepth 100000 in
theorem spec_ReadSights.calls (k:Nat) (A0_0:Option Addr) (c0_0:Nat) (l0_0:List (S68)) (A0_1:Option Addr) (c0_1:Nat) (l0_1:List (List Int)) (A1:Option Addr) (c1:Nat) (l1:List (S61)) (r1:Int) (r2:Int) (r3:Int) (w:World) (hr0_0:Kd.C k68 w A0_0 l0_0.length l0_0) (hc0_0:l0_0.length≤c0_0) (hr0_1:Kd.C (Kd.slice 5 (Kd.int .u8)) w A0_1 l0_1.length l0_1) (hc0_1:l0_1.length≤c0_1) (hr1:Kd.C k61 w A1 l1.length l1) (hc1:l1.length≤c1) (h:spec_ReadSights.f k l0_0 l0_1 l1=some (r1,r2,r3)) :
  Calls Try.prog 20 #[.agg #[.slice A0_0 l0_0.length c0_0,.slice A0_1 l0_1.length c0_1],.slice A1 l1.length c1] w fun e w'=>e=.returned (.tuple #[.int .i64 r1,.int .i64 r2,.int .i64 r3])∧Below w.heap.size w w':=by
 have hu33:=Try.underlying33;have HR0_0:=am hr0_0;have HC0_0:=am hc0_0;clear hr0_0 hc0_0;have HR0_1:=am hr0_1;have HC0_1:=am hc0_1;clear hr0_1 hc0_1;have HR1:=am hr1;have HC1:=am hc1;clear hr1 hc1;have HB:=am (Below.refl w.heap.size w);have H:((spec_l05Ok.f k l0_0 l0_1).bind fun t102=>(if t102=true then ((spec_l05Seen.f l1).bind fun t103=>(spec_ReadSights.j0 k l1 (!t103) l0_0 l0_1)) else (spec_ReadSights.j0 k l1 true l0_0 l0_1)))=some (r1,r2,r3):=h;clear h;have HC3:=am H;clear H
 go_enter Try.func20,Try.ntmps20
 go_upto_region 1 with (first|((with_reducible refine gate_dst (N:=2) rfl ?_);refine box_event ?hg (N:=2) ?hd (cs:=#[.slice A0_0 l0_0.length c0_0,.slice A0_1 l0_1.length c0_1]) (t:=33) ?hr ?_;(case hd=>rfl);(case hg=>rfl);(case hr=>exact zq15);intro gb101 hg w4 hbox hb;have n0_:=am (below_step zq2 hb);have n1_:=am (hbox);have n2_:=am ((by rw [hg];exact (below_size zq2):w.heap.size≤gb101));have n3_:=am ((by rw [hg];exact (below_size zq2):w.heap.size≤gb101));clear HB;have HB:=n0_;have BK101:=n1_;have GW101:=n2_;have GE101:=n3_;clear n0_ n1_ n2_ n3_;clear hb hbox hg))
 (try simp only [Act.put,List.setIfInBounds_toArray,List.set_cons_zero,List.set_cons_succ])
 go_cut [18] (fun v18 wc=>∃ (kq:Nat) (x18_2:Bool),v18=.bool x18_2∧Aside0 (spec_ReadSights.j0 kq l1 x18_2 l0_0 l0_1=some (r1,r2,r3))∧Aside0 (kq≤k)∧Aside0 (wc.heap[gb101]?=some (.cells #[(.slice A0_0 l0_0.length c0_0),(.slice A0_1 l0_1.length c0_1)] 33 (0,0)))∧Aside0 (Below w.heap.size w wc))
 case first =>
  have H:=HC3.out;clear HC3;replace H:=Option.bind_eq_some_iff.mp H;obtain ⟨t102,A50,H⟩:=H;replace H:(if t102=true then ((spec_l05Seen.f l1).bind fun t103=>(spec_ReadSights.j0 k l1 (!t103) l0_0 l0_1)) else (spec_ReadSights.j0 k l1 true l0_0 l0_1))=some (r1,r2,r3):=H;have A5:=am A50;clear A50
  by_cases c6:t102=true
  ·subst c6
   have H1:((spec_l05Seen.f l1).bind fun t103=>(spec_ReadSights.j0 k l1 (!t103) l0_0 l0_1))=some (r1,r2,r3):=by first|(rw [if_pos rfl] at H;exact H)|simpa using H
   clear H;have H:=H1;clear H1;replace H:=Option.bind_eq_some_iff.mp H;obtain ⟨t103,A70,H⟩:=H;replace H:(spec_ReadSights.j0 k l1 (!t103) l0_0 l0_1)=some (r1,r2,r3):=H;have A7:=am A70;clear A70;have H':=am H;clear H
   go_wp2_with (first|((with_reducible refine gate_callee (f:=40) rfl ?_);refine goesL_ (some 12) rfl rfl Try.func40 zq16 rfl #[.pointer (some ⟨gb101,0,none⟩)] rfl zq0 ?_;(with_reducible refine (spec_l05Ok.calls k A0_0 c0_0 l0_0 A0_1 c0_1 l0_1 true _ ?side1 ?side2 ?side3 ?side4 ?side5 A5.out).mono ?_);(case side1=>exact zq6);(case side2=>exact HC0_0.out);(case side3=>exact zq7);(case side4=>exact HC0_1.out);(case side5=>exact zq4);rintro e w8 ⟨rfl,hb⟩;refine ⟨_,rfl,?_⟩;have n0_:=am (blk_below (g:=gb101) (o:=.cells #[.slice A0_0 l0_0.length c0_0,.slice A0_1 l0_1.length c0_1] 33 (0,0)) zq4 hb);have n1_:=am (below_step zq1 hb);clear BK101;clear HB;have BK101:=n0_;have HB:=n1_;clear n0_ n1_;(try clear hb);(try clear hb2);(try clear hk);(try clear hi))|(go_at_call 57;(with_reducible refine (spec_l05Seen.calls _ _ l1 t103 _ ?side1 ?side2 A7.out).mono ?_);(case side1=>exact zq14);(case side2=>exact HC1.out);rintro e w' ⟨rfl,⟨nd,rfl⟩⟩))
   go_meet
   case rel=>exact ⟨_,(!t103),zq3,H',⟨by first|omega|exact Nat.le_refl _⟩,⟨by (with_reducible repeat (first|refine blk_drewN ?_ _|refine blk_drew ?_|refine blk_alloc ?_ _));exact BK101.out⟩,⟨by repeat (first|(with_reducible first|exact HB.out|apply below_alloc|apply pw_below_drewN|apply below_drew1|refine below_set ?_ GE101.out)|exact HB.out)⟩⟩
  ·replace c6:=Bool.eq_false_iff.mpr c6;subst c6
   have H1:(spec_ReadSights.j0 k l1 true l0_0 l0_1)=some (r1,r2,r3):=by rw [if_neg (show ¬ (false=true) by decide)] at H;exact H
   clear H;have H:=H1;clear H1;have H':=am H;clear H
   go_wp2_with (first|((with_reducible refine gate_callee (f:=40) rfl ?_);refine goesL_ (some 12) rfl rfl Try.func40 zq16 rfl #[.pointer (some ⟨gb101,0,none⟩)] rfl zq0 ?_;(with_reducible refine (spec_l05Ok.calls k A0_0 c0_0 l0_0 A0_1 c0_1 l0_1 false _ ?side1 ?side2 ?side3 ?side4 ?side5 A5.out).mono ?_);(case side1=>exact zq6);(case side2=>exact HC0_0.out);(case side3=>exact zq7);(case side4=>exact HC0_1.out);(case side5=>exact zq4);rintro e w9 ⟨rfl,hb⟩;refine ⟨_,rfl,?_⟩;have n0_:=am (blk_below (g:=gb101) (o:=.cells #[.slice A0_0 l0_0.length c0_0,.slice A0_1 l0_1.length c0_1] 33 (0,0)) zq4 hb);have n1_:=am (below_step zq1 hb);clear BK101;clear HB;have BK101:=n0_;have HB:=n1_;clear n0_ n1_;(try clear hb);(try clear hb2);(try clear hk);(try clear hi)))
   go_meet
   case rel=>exact ⟨_,(true),zq3,H',⟨by first|omega|exact Nat.le_refl _⟩,⟨by (with_reducible repeat (first|refine blk_drewN ?_ _|refine blk_drew ?_|refine blk_alloc ?_ _));exact BK101.out⟩,⟨by repeat (first|(with_reducible first|exact HB.out|apply below_alloc|apply pw_below_drewN|apply below_drew1|refine below_set ?_ GE101.out)|exact HB.out)⟩⟩
 case rest =>
  clear HC3;(try clear c1);(try clear c2);(try clear p2);(try clear c4);(try clear c6);obtain ⟨kq,x18_2,rfl,HA,HJ2,BK101,HB⟩:=hcut
  cases kq with
  | zero=>exact absurd HA.out (by simp [spec_ReadSights.j0])
  | succ kj2 =>
   have H:=HA.out;clear HA;simp only [spec_ReadSights.j0] at H
   by_cases c10:x18_2=true
   ·subst c10
    have H1:(some (0,0,1))=some (r1,r2,r3):=by first|(rw [if_pos rfl] at H;exact H)|simpa using H
    clear H;have H:=H1;clear H1;simp only [Option.some.injEq,Prod.mk.injEq] at H;obtain ⟨rfl,rfl,rfl⟩:=H
    go_wp2
    go_ret3
    exact ⟨by first|rfl|(simp [errW_none,errW_some,IntKind.wrap_i64,wrap64];done)|(simp [errW_none,errW_some] <;> rfl)|(simp [*,errW_none,errW_some] <;> rfl),by repeat (first|(with_reducible first|exact HB.out|apply below_alloc|apply pw_below_drewN|apply below_drew1|refine below_set ?_ GE101.out)|exact HB.out)⟩
   ·replace c10:=Bool.eq_false_iff.mpr c10;subst c10
    have H1:(if (l0_1.length:Int)=0 then (some (0,0,6)) else (if 0 < (l0_1.length:Int) then (if (l1.length:Int)=((rd_L2 l0_1 0).length:Int) then (spec_ReadSights.l0 kj2 l1 0 (-1) 0 0 l0_0 l0_1) else (some (0,0,2))) else (none)))=some (r1,r2,r3):=by rw [if_neg (show ¬ (false=true) by decide)] at H;exact H
    clear H;have H:=H1;clear H1
    by_cases c11:(l0_1.length:Int)=0
    ·rw [if_pos c11] at H;have c11b0:((l0_1.length:Int) == 0)=true:=beq_iff_eq.mpr c11;have c11b1:((l0_1.length:Int) != 0)=false:=bne_eq_false_iff_eq.mpr c11;clear c11;simp only [Option.some.injEq,Prod.mk.injEq] at H;obtain ⟨rfl,rfl,rfl⟩:=H;have hcz12_0:wc.cell? ⟨gb101,0,none⟩=some (.slice A0_0 l0_0.length c0_0):=(blk_cell BK101.out 0).trans rfl;have hcz12_1:wc.cell? ⟨gb101,1,none⟩=some (.slice A0_1 l0_1.length c0_1):=(blk_cell BK101.out 1).trans rfl;have hfz12_0:=blk_frozen BK101.out 0;have hfz12_1:=blk_frozen BK101.out 1
     go_wp2
     go_ret3
     exact ⟨by first|rfl|(simp [errW_none,errW_some,IntKind.wrap_i64,wrap64];done)|(simp [errW_none,errW_some] <;> rfl)|(simp [*,errW_none,errW_some] <;> rfl),by repeat (first|(with_reducible first|exact HB.out|apply below_alloc|apply pw_below_drewN|apply below_drew1|refine below_set ?_ GE101.out)|exact HB.out)⟩
    ·rw [if_neg c11] at H;have c11b0:((l0_1.length:Int) == 0)=false:=beq_eq_false_iff_ne.mpr c11;have c11b1:((l0_1.length:Int) != 0)=true:=bne_iff_ne.mpr c11
     have c11b2:¬ (l0_1=[]):=fun h_=>c11 (by rw [h_];rfl)
     by_cases c13:0 < (l0_1.length:Int)
     ·rw [if_pos c13] at H;have c13b0:decide (0 < (l0_1.length:Int))=true:=decide_eq_true c13;have c13b1:decide (0 < l0_1.length)=true:=decide_eq_true (by omega);clear c13
      by_cases c14:(l1.length:Int)=((rd_L2 l0_1 0).length:Int)
      ·rw [if_pos c14] at H;have c14b0:((l1.length:Int) == ((rd_L2 l0_1 0).length:Int))=true:=beq_iff_eq.mpr c14;have c14b1:((l1.length:Int) != ((rd_L2 l0_1 0).length:Int))=false:=bne_eq_false_iff_eq.mpr c14
       have c14b2:(l1.length == (rd_L2 l0_1 0).length)=true:=by first|simpa using c14|(simp at c14 ⊢;omega)
       clear c14;have H':=am H;clear H;have hcz15_0:wc.cell? ⟨gb101,0,none⟩=some (.slice A0_0 l0_0.length c0_0):=(blk_cell BK101.out 0).trans rfl;have hcz15_1:wc.cell? ⟨gb101,1,none⟩=some (.slice A0_1 l0_1.length c0_1):=(blk_cell BK101.out 1).trans rfl;have hfz15_0:=blk_frozen BK101.out 0;have hfz15_1:=blk_frozen BK101.out 1;have p104:0≤(0:Int):=(by omega);have q104:0 < (l0_1.length:Int):=of_decide_eq_true zq9;obtain ⟨ad104,A104_0,c104_0,e104,hx104_0,hl104_0,hi104_0⟩:=at_L2 HR0_1.out 0 p104 q104;cases e104;have qi104:(0 < l0_1.length)=True:=eq_true (by omega);(try rw [show ((0:Int)).toNat=0 from rfl] at hx104_0);(try rw [Addr.add_zero'] at hx104_0);replace hx104_0:=(HB.out.cell (World.block_lt_of_cell? w _ hx104_0)).trans hx104_0;have HR104_0:=am hi104_0;have HC104_0:=am hl104_0;clear hi104_0 hl104_0;replace p104:=eq_true p104;replace q104:=eq_true q104
       go_wp2
       go_loopg [7,8,9,10] kj2 (fun kq v7 v8 v9 v10 w'=>∃ (x7_2:Int) (x8_2:Int) (x9_2:Int) (x10_2:Int),v7=.int .i64 x7_2∧v8=.int .i64 x8_2∧v9=.int .i64 x9_2∧v10=.int .i64 x10_2∧Aside0 (spec_ReadSights.l0 kq l1 x7_2 x8_2 x9_2 x10_2 l0_0 l0_1=some (r1,r2,r3))∧Aside0 (kq≤kj2)∧Aside0 (w'.heap[gb101]?=some (.cells #[(.slice A0_0 l0_0.length c0_0),(.slice (some ad104) l0_1.length c0_1)] 33 (0,0)))∧Aside0 (Below w.heap.size w w'))
       case atStart=>exact ⟨(0),((-1)),(0),(0),zq3,zq3,zq3,zq3,H',⟨Nat.le_refl _⟩,⟨by (with_reducible repeat (first|refine blk_drewN ?_ _|refine blk_drew ?_|refine blk_alloc ?_ _));exact BK101.out⟩,⟨by repeat (first|(with_reducible first|exact HB.out|apply below_alloc|apply pw_below_drewN|apply below_drew1|refine below_set ?_ GE101.out)|exact HB.out)⟩⟩
       case round =>
        clear H';(try clear c1);(try clear p1);(try clear q1);(try clear hx1);(try clear qi1);(try clear c2);(try clear p2);(try clear c4);(try clear c6);(try clear c10);(try clear p10);(try clear q10);(try clear hx10);(try clear qi10);(try clear c11);(try clear c11b0);(try clear c11b1);(try clear c11b2);(try clear c13);(try clear c13b0);(try clear c13b1);(try clear c14);(try clear c14b0);(try clear c14b1);(try clear c14b2);(try clear hcz12_0);(try clear hcz12_1);(try clear hcz15_0);(try clear hcz15_1);(try clear hfz12_0);(try clear hfz12_1);(try clear hfz15_0);(try clear hfz15_1);(try clear hx104_0);(try clear p104);(try clear p2);(try clear q104);obtain ⟨x7_2,x8_2,x9_2,x10_2,rfl,rfl,rfl,rfl,HA,HK2,BK101,HB⟩:=hrel
        cases gk with
        | zero=>exact absurd HA.out (by simp [spec_ReadSights.l0])
        | succ k2 =>
         have H:=HA.out;clear HA;simp only [spec_ReadSights.l0] at H
         by_cases c16:x10_2 < (l0_1.length:Int)
         ·rw [if_pos c16] at H;have c16b0:decide (x10_2 < (l0_1.length:Int))=true:=decide_eq_true c16;clear c16;replace H:=Option.bind_eq_some_iff.mp H;obtain ⟨t105,A170,H⟩:=H;replace H:((spec_l05Far.f t105 l1).bind fun t108=>(if x8_2 < 0 then (spec_ReadSights.j2 k2 l1 x7_2 x8_2 x9_2 x10_2 t108 true l0_0 l0_1) else (spec_ReadSights.j2 k2 l1 x7_2 x8_2 x9_2 x10_2 t108 (decide (t108 < x8_2)) l0_0 l0_1)))=some (r1,r2,r3):=H;have A17:=am A170;clear A170;replace H:=Option.bind_eq_some_iff.mp H;obtain ⟨t108,A180,H⟩:=H;replace H:(if x8_2 < 0 then (spec_ReadSights.j2 k2 l1 x7_2 x8_2 x9_2 x10_2 t108 true l0_0 l0_1) else (spec_ReadSights.j2 k2 l1 x7_2 x8_2 x9_2 x10_2 t108 (decide (t108 < x8_2)) l0_0 l0_1))=some (r1,r2,r3):=H;have A18:=am A180;clear A180;have HC19:=am H;clear H;have hcz20_0:wr.cell? ⟨gb101,0,none⟩=some (.slice A0_0 l0_0.length c0_0):=(blk_cell BK101.out 0).trans rfl;have hcz20_1:wr.cell? ⟨gb101,1,none⟩=some (.slice (some ad104) l0_1.length c0_1):=(blk_cell BK101.out 1).trans rfl;have hfz20_0:=blk_frozen BK101.out 0;have hfz20_1:=blk_frozen BK101.out 1
          go_upto_region 14 with (first|((with_reducible refine gate_callee (f:=42) rfl ?_);refine goesL_ (some 39) rfl rfl Try.func42 zq16 rfl #[.pointer (some ⟨gb101,0,none⟩),.int .i64 x10_2] rfl zq0 ?_;(with_reducible refine (spec_l05Sights.calls A0_0 c0_0 l0_0 (some ad104) c0_1 l0_1 x10_2 t105 _ ?side1 ?side2 ?side3 ?side4 ?side5 A17.out).mono ?_);(case side1=>exact zq6);(case side2=>exact HC0_0.out);(case side3=>exact zq7);(case side4=>exact HC0_1.out);(case side5=>exact zq4);rintro e w21 ⟨v106,rfl,ho0,hb⟩;refine ⟨_,rfl,?_⟩;have n0_:=am (Kd.R_lower ho0 (below_size zq1));have n1_:=am (blk_below (g:=gb101) (o:=.cells #[.slice A0_0 l0_0.length c0_0,.slice (some ad104) l0_1.length c0_1] 33 (0,0)) zq4 hb);have n2_:=am (below_step zq1 hb);clear BK101;clear HB;have HO107:=n0_;have BK101:=n1_;have HB:=n2_;clear n0_ n1_ n2_;(try clear hb);(try clear hb2);(try clear hk);(try clear hi);(try clear ho0);obtain ⟨Ao22,co22,eo22⟩:=Kd.R_slice HO107.out;subst eo22)|((with_reducible refine gate_callee (f:=53) rfl ?_);refine goesL_ (some 41) rfl rfl Try.func53 zq16 rfl #[.slice Ao22 t105.length co22,.slice A1 l1.length c1] rfl zq0 ?_;(with_reducible refine (spec_l05Far.calls _ _ t105 _ _ l1 t108 _ ?side1 ?side2 ?side3 ?side4 A18.out).mono ?_);(case side1=>repeat (first|exact (Kd.R_reads' HO107.out).2.2|(with_reducible refine Kd.C_alloc ?_ _)|(with_reducible refine Kd.C_drewN ?_ _)|(with_reducible refine Kd.C_drew ?_)));(case side2=>exact (Kd.R_reads' HO107.out).2.1);(case side3=>exact zq14);(case side4=>exact HC1.out);rintro e w' ⟨rfl,⟨nd,rfl⟩⟩;refine ⟨_,rfl,?_⟩))
          (try simp only [Act.put,List.setIfInBounds_toArray,List.set_cons_zero,List.set_cons_succ])
          go_cut [48] (fun v48 wc=>∃ (kq:Nat) (x48_18:Bool),v48=.bool x48_18∧Aside0 (spec_ReadSights.j2 kq l1 x7_2 x8_2 x9_2 x10_2 t108 x48_18 l0_0 l0_1=some (r1,r2,r3))∧Aside0 (kq≤k2)∧Aside0 (wc.heap[gb101]?=some (.cells #[(.slice A0_0 l0_0.length c0_0),(.slice (some ad104) l0_1.length c0_1)] 33 (0,0)))∧Aside0 (Below w.heap.size w wc))
          case first =>
           have H:=HC19.out;clear HC19
           by_cases c23:x8_2 < 0
           ·rw [if_pos c23] at H;have c23b0:decide (x8_2 < 0)=true:=decide_eq_true c23;clear c23;(first|rw [c23b0]|(simp only [i64_w,i32_w];rw [c23b0])|skip);have H':=am H;clear H
            go_wp2
            go_meet
            case rel=>exact ⟨_,(true),zq3,H',⟨by have:=HJ2.out;have:=HK2.out;first|omega|exact Nat.le_refl _⟩,⟨by (with_reducible repeat (first|refine blk_drewN ?_ _|refine blk_drew ?_|refine blk_alloc ?_ _));exact BK101.out⟩,⟨by repeat (first|(with_reducible first|exact HB.out|apply below_alloc|apply pw_below_drewN|apply below_drew1|refine below_set ?_ GE101.out)|exact HB.out)⟩⟩
           ·rw [if_neg c23] at H;have c23b0:decide (x8_2 < 0)=false:=decide_eq_false c23;clear c23;(first|rw [c23b0]|(simp only [i64_w,i32_w];rw [c23b0])|skip);have H':=am H;clear H
            go_wp2
            go_meet
            case rel=>exact ⟨_,(decide (t108 < x8_2)),zq3,H',⟨by have:=HJ2.out;have:=HK2.out;first|omega|exact Nat.le_refl _⟩,⟨by (with_reducible repeat (first|refine blk_drewN ?_ _|refine blk_drew ?_|refine blk_alloc ?_ _));exact BK101.out⟩,⟨by repeat (first|(with_reducible first|exact HB.out|apply below_alloc|apply pw_below_drewN|apply below_drew1|refine below_set ?_ GE101.out)|exact HB.out)⟩⟩
          case rest =>
           clear HC19;(try clear c1);(try clear p1);(try clear q1);(try clear hx1);(try clear qi1);(try clear c2);(try clear p2);(try clear c4);(try clear c5);(try clear c6);(try clear c10);(try clear p10);(try clear q10);(try clear hx10);(try clear qi10);(try clear c11);(try clear c11b0);(try clear c11b1);(try clear c11b2);(try clear c13);(try clear c13b0);(try clear c13b1);(try clear c14);(try clear c14b0);(try clear c14b1);(try clear c14b2);(try clear c16);(try clear c16b0);(try clear c20);(try clear c23);(try clear c23b0);(try clear hcz12_0);(try clear hcz12_1);(try clear hcz15_0);(try clear hcz15_1);(try clear hcz20_0);(try clear hcz20_1);(try clear hfz12_0);(try clear hfz12_1);(try clear hfz15_0);(try clear hfz15_1);(try clear hfz20_0);(try clear hfz20_1);(try clear hx104_0);(try clear p1);(try clear p10);(try clear p104);(try clear p2);(try clear q1);(try clear q10);(try clear q104);obtain ⟨kq,x48_18,rfl,HA,HJ18,BK101,HB⟩:=hcut
           cases kq with
           | zero=>exact absurd HA.out (by simp [spec_ReadSights.j2])
           | succ kj18 =>
            have H:=HA.out;clear HA;simp only [spec_ReadSights.j2] at H
            by_cases c24:x48_18=true
            ·subst c24
             have H1:(if t108=t108 then (spec_ReadSights.l0 kj18 l1 x10_2 t108 1 (wrap64 (x10_2 + 1)) l0_0 l0_1) else (spec_ReadSights.l0 kj18 l1 x10_2 t108 0 (wrap64 (x10_2 + 1)) l0_0 l0_1))=some (r1,r2,r3):=by first|(rw [if_pos rfl] at H;exact H)|simpa using H
             clear H;have H:=H1;clear H1
             by_cases c25:t108=t108
             ·rw [if_pos c25] at H;have c25b0:(t108 == t108)=true:=beq_iff_eq.mpr c25;have c25b1:(t108 != t108)=false:=bne_eq_false_iff_eq.mpr c25;clear c25;have H':=am H;clear H
              go_wp2
              go_roundg kj18
              case measure=>have:=HJ2.out;have:=HK2.out;have:=HJ18.out;omega
              case rel=>exact ⟨(x10_2),(t108),(1),(wrap64 (x10_2 + 1)),zq3,zq3,zq3,zq3,H',⟨by have:=HJ2.out;have:=HK2.out;have:=HJ18.out;omega⟩,⟨by (with_reducible repeat (first|refine blk_drewN ?_ _|refine blk_drew ?_|refine blk_alloc ?_ _));exact BK101.out⟩,⟨by repeat (first|(with_reducible first|exact HB.out|apply below_alloc|apply pw_below_drewN|apply below_drew1|refine below_set ?_ GE101.out)|exact HB.out)⟩⟩
             ·exact absurd rfl c25
            ·replace c24:=Bool.eq_false_iff.mpr c24;subst c24
             have H1:(if t108=x8_2 then (spec_ReadSights.l0 kj18 l1 x7_2 x8_2 (wrap64 (x9_2 + 1)) (wrap64 (x10_2 + 1)) l0_0 l0_1) else (spec_ReadSights.l0 kj18 l1 x7_2 x8_2 x9_2 (wrap64 (x10_2 + 1)) l0_0 l0_1))=some (r1,r2,r3):=by rw [if_neg (show ¬ (false=true) by decide)] at H;exact H
             clear H;have H:=H1;clear H1
             by_cases c26:t108=x8_2
             ·rw [if_pos c26] at H;have c26b0:(t108 == x8_2)=true:=beq_iff_eq.mpr c26;have c26b1:(t108 != x8_2)=false:=bne_eq_false_iff_eq.mpr c26;clear c26;have H':=am H;clear H
              go_wp2
              go_roundg kj18
              case measure=>have:=HJ2.out;have:=HK2.out;have:=HJ18.out;omega
              case rel=>exact ⟨(x7_2),(x8_2),(wrap64 (x9_2 + 1)),(wrap64 (x10_2 + 1)),zq3,zq3,zq3,zq3,H',⟨by have:=HJ2.out;have:=HK2.out;have:=HJ18.out;omega⟩,⟨by (with_reducible repeat (first|refine blk_drewN ?_ _|refine blk_drew ?_|refine blk_alloc ?_ _));exact BK101.out⟩,⟨by repeat (first|(with_reducible first|exact HB.out|apply below_alloc|apply pw_below_drewN|apply below_drew1|refine below_set ?_ GE101.out)|exact HB.out)⟩⟩
             ·rw [if_neg c26] at H;have c26b0:(t108 == x8_2)=false:=beq_eq_false_iff_ne.mpr c26;have c26b1:(t108 != x8_2)=true:=bne_iff_ne.mpr c26;have H':=am H;clear H
              go_wp2
              go_roundg kj18
              case measure=>have:=HJ2.out;have:=HK2.out;have:=HJ18.out;omega
              case rel=>exact ⟨(x7_2),(x8_2),(x9_2),(wrap64 (x10_2 + 1)),zq3,zq3,zq3,zq3,H',⟨by have:=HJ2.out;have:=HK2.out;have:=HJ18.out;omega⟩,⟨by (with_reducible repeat (first|refine blk_drewN ?_ _|refine blk_drew ?_|refine blk_alloc ?_ _));exact BK101.out⟩,⟨by repeat (first|(with_reducible first|exact HB.out|apply below_alloc|apply pw_below_drewN|apply below_drew1|refine below_set ?_ GE101.out)|exact HB.out)⟩⟩
         ·rw [if_neg c16] at H;have c16b0:decide (x10_2 < (l0_1.length:Int))=false:=decide_eq_false c16;clear c16
          by_cases c27:x9_2 > 1
          ·rw [if_pos c27] at H;have c27b0:decide (1 < x9_2)=true:=decide_eq_true c27;clear c27;simp only [Option.some.injEq,Prod.mk.injEq] at H;obtain ⟨rfl,rfl,rfl⟩:=H;have hcz28_0:wr.cell? ⟨gb101,0,none⟩=some (.slice A0_0 l0_0.length c0_0):=(blk_cell BK101.out 0).trans rfl;have hcz28_1:wr.cell? ⟨gb101,1,none⟩=some (.slice (some ad104) l0_1.length c0_1):=(blk_cell BK101.out 1).trans rfl;have hfz28_0:=blk_frozen BK101.out 0;have hfz28_1:=blk_frozen BK101.out 1
           go_wp2
           go_ret3
           exact ⟨by first|rfl|(simp [errW_none,errW_some,IntKind.wrap_i64,wrap64];done)|(simp [errW_none,errW_some] <;> rfl)|(simp [*,errW_none,errW_some] <;> rfl),by repeat (first|(with_reducible first|exact HB.out|apply below_alloc|apply pw_below_drewN|apply below_drew1|refine below_set ?_ GE101.out)|exact HB.out)⟩
          ·rw [if_neg c27] at H;have c27b0:decide (1 < x9_2)=false:=decide_eq_false c27;clear c27;simp only [Option.some.injEq,Prod.mk.injEq] at H;obtain ⟨rfl,rfl,rfl⟩:=H;have hcz29_0:wr.cell? ⟨gb101,0,none⟩=some (.slice A0_0 l0_0.length c0_0):=(blk_cell BK101.out 0).trans rfl;have hcz29_1:wr.cell? ⟨gb101,1,none⟩=some (.slice (some ad104) l0_1.length c0_1):=(blk_cell BK101.out 1).trans rfl;have hfz29_0:=blk_frozen BK101.out 0;have hfz29_1:=blk_frozen BK101.out 1
           go_wp2
           go_ret3
           exact ⟨by first|rfl|(simp [errW_none,errW_some,IntKind.wrap_i64,wrap64];done)|(simp [errW_none,errW_some] <;> rfl)|(simp [*,errW_none,errW_some] <;> rfl),by repeat (first|(with_reducible first|exact HB.out|apply below_alloc|apply pw_below_drewN|apply below_drew1|refine below_set ?_ GE101.out)|exact HB.out)⟩
      ·rw [if_neg c14] at H;have c14b0:((l1.length:Int) == ((rd_L2 l0_1 0).length:Int))=false:=beq_eq_false_iff_ne.mpr c14;have c14b1:((l1.length:Int) != ((rd_L2 l0_1 0).length:Int))=true:=bne_iff_ne.mpr c14
       have c14b2:(l1.length == (rd_L2 l0_1 0).length)=false:=by first|simpa using c14|(simp at c14 ⊢;omega)
       simp only [Option.some.injEq,Prod.mk.injEq] at H;obtain ⟨rfl,rfl,rfl⟩:=H;have hcz30_0:wc.cell? ⟨gb101,0,none⟩=some (.slice A0_0 l0_0.length c0_0):=(blk_cell BK101.out 0).trans rfl;have hcz30_1:wc.cell? ⟨gb101,1,none⟩=some (.slice A0_1 l0_1.length c0_1):=(blk_cell BK101.out 1).trans rfl;have hfz30_0:=blk_frozen BK101.out 0;have hfz30_1:=blk_frozen BK101.out 1;have p104:0≤(0:Int):=(by omega);have q104:0 < (l0_1.length:Int):=of_decide_eq_true zq9;obtain ⟨ad104,A104_0,c104_0,e104,hx104_0,hl104_0,hi104_0⟩:=at_L2 HR0_1.out 0 p104 q104;cases e104;have qi104:(0 < l0_1.length)=True:=eq_true (by omega);(try rw [show ((0:Int)).toNat=0 from rfl] at hx104_0);(try rw [Addr.add_zero'] at hx104_0);replace hx104_0:=(HB.out.cell (World.block_lt_of_cell? w _ hx104_0)).trans hx104_0;have HR104_0:=am hi104_0;have HC104_0:=am hl104_0;clear hi104_0 hl104_0;replace p104:=eq_true p104;replace q104:=eq_true q104
       go_wp2
       go_ret3
       exact ⟨by first|rfl|(simp [errW_none,errW_some,IntKind.wrap_i64,wrap64];done)|(simp [errW_none,errW_some] <;> rfl)|(simp [*,errW_none,errW_some] <;> rfl),by repeat (first|(with_reducible first|exact HB.out|apply below_alloc|apply pw_below_drewN|apply below_drew1|refine below_set ?_ GE101.out)|exact HB.out)⟩
     ·rw [if_neg c13] at H;exact absurd H (by simp)
end Go.Proofs.Ytgfknljhogfeaaa.G
end

section
namespace Go.Proofs.Ytgfknljhogfeaaa.G
open Go.RowKit Go.Proofs.YtgfknljhogfeaaaW.PrintWords Go.Proofs.YtgfknljhogfeaaaW.PrintLast Go.Proofs.YtgfknljhogfeaaaW.PrintMore
attribute [local go_sem] max2_int min2_int max_two min_two max_three min_three max_four min_four
set_option linter.unusedVariables false
set_option linter.unusedSimpArgs false
def spec_l00Same.l0:Nat→List Int→List Int→Int→Option (Bool)
 | 0,_,_,_=>none
 | k + 1,x0,x1,x5=>if x5 < (x0.length:Int) then (if 0≤x5 then (if x5 < (x1.length:Int) then (if (rd x0 x5)=(rd x1 x5) then (spec_l00Same.l0 k x0 x1 (wrap64 (x5 + 1))) else (some false)) else (none)) else (none)) else (some true)
def spec_l00Same.f (k:Nat) (l0:List Int) (l1:List Int):Option (Bool):=if (l0.length:Int)=(l1.length:Int) then (spec_l00Same.l0 k l0 l1 0) else (some false)
set_option maxHeartbeats 8000000 in
set_option maxRecDepth 100000 in
theorem spec_l00Same.calls (k:Nat) (A0:Option Addr) (c0:Nat) (l0:List Int) (A1:Option Addr) (c1:Nat) (l1:List Int) (r:Bool) (w:World) (hr0:Kd.C (Kd.int .i64) w A0 l0.length l0) (hc0:l0.length≤c0) (hr1:Kd.C (Kd.int .i64) w A1 l1.length l1) (hc1:l1.length≤c1) (h:spec_l00Same.f k l0 l1=some r) :
  Calls Try.prog 68 #[.slice A0 l0.length c0,.slice A1 l1.length c1] w fun e w'=>e=.returned (.bool r)∧Drawn0 w w':=by
 have HR0:=am hr0;have HC0:=am hc0;clear hr0 hc0;have HR1:=am hr1;have HC1:=am hc1;clear hr1 hc1;have H:(if (l0.length:Int)=(l1.length:Int) then (spec_l00Same.l0 k l0 l1 0) else (some false))=some r:=h;clear h
 by_cases c3:(l0.length:Int)=(l1.length:Int)
 ·rw [if_pos c3] at H;have c3b0:((l0.length:Int) == (l1.length:Int))=true:=beq_iff_eq.mpr c3;have c3b1:((l0.length:Int) != (l1.length:Int))=false:=bne_eq_false_iff_eq.mpr c3
  have c3b2:(l0.length == l1.length)=true:=by first|simpa using c3|(simp at c3 ⊢;omega)
  clear c3;have H':=am H;clear H
  go_enter Try.func68,Try.ntmps68
  go_wp2
  repeat (go_quiet (fail);try go_wp2)
  go_loopg [5] k (fun kq v5 w'=>∃ (x5_1:Int),v5=.int .i64 x5_1∧Aside0 (spec_l00Same.l0 kq l0 l1 x5_1=some r)∧Aside0 (kq≤k)∧Drawn0 w w')
  case atStart=>exact ⟨(0),zq3,H',⟨Nat.le_refl _⟩,by repeat (first|exact Drawn0.refl _|apply Drawn0.step)⟩
  case round =>
   clear H';(try clear c1);(try clear p2);(try clear c3);(try clear c3b0);(try clear c3b1);(try clear c3b2);obtain ⟨x5_1,rfl,HA,HK1,⟨m1,rfl⟩⟩:=hrel
   cases gk with
   | zero=>exact absurd HA.out (by simp [spec_l00Same.l0])
   | succ k1 =>
    have H:=HA.out;clear HA;simp only [spec_l00Same.l0] at H
    by_cases c4:x5_1 < (l0.length:Int)
    ·rw [if_pos c4] at H;have c4b0:decide (x5_1 < (l0.length:Int))=true:=decide_eq_true c4;clear c4
     by_cases c5:0≤x5_1
     ·rw [if_pos c5] at H;have c5b0:decide (0≤x5_1)=true:=decide_eq_true c5;clear c5
      by_cases c6:x5_1 < (l1.length:Int)
      ·rw [if_pos c6] at H;have c6b0:decide (x5_1 < (l1.length:Int))=true:=decide_eq_true c6;clear c6
       by_cases c7:(rd l0 x5_1)=(rd l1 x5_1)
       ·rw [if_pos c7] at H;have c7b0:((rd l0 x5_1) == (rd l1 x5_1))=true:=beq_iff_eq.mpr c7;have c7b1:((rd l0 x5_1) != (rd l1 x5_1))=false:=bne_eq_false_iff_eq.mpr c7;clear c7;have H':=am H;clear H;have p101:0≤(x5_1:Int):=of_decide_eq_true zq9;have q101:x5_1 < (l0.length:Int):=of_decide_eq_true zq9;obtain ⟨ad101,e101,hx101_0⟩:=Kd.at_int HR0.out x5_1 p101 q101;cases e101;replace p101:=eq_true p101;replace q101:=eq_true q101;have p102:0≤(x5_1:Int):=of_decide_eq_true zq9;have q102:x5_1 < (l1.length:Int):=of_decide_eq_true zq9;obtain ⟨ad102,e102,hx102_0⟩:=Kd.at_int HR1.out x5_1 p102 q102;cases e102;replace p102:=eq_true p102;replace q102:=eq_true q102
        go_wp2
        repeat (go_quiet (fail);try go_wp2)
        go_roundg k1
        case measure=>have:=HK1.out;omega
        case rel=>exact ⟨(wrap64 (x5_1 + 1)),zq3,H',⟨by have:=HK1.out;omega⟩,by repeat (first|exact Drawn0.refl _|apply Drawn0.step)⟩
       ·rw [if_neg c7] at H;have c7b0:((rd l0 x5_1) == (rd l1 x5_1))=false:=beq_eq_false_iff_ne.mpr c7;have c7b1:((rd l0 x5_1) != (rd l1 x5_1))=true:=bne_iff_ne.mpr c7;obtain rfl:=Option.some.inj H;have p101:0≤(x5_1:Int):=of_decide_eq_true zq9;have q101:x5_1 < (l0.length:Int):=of_decide_eq_true zq9;obtain ⟨ad101,e101,hx101_0⟩:=Kd.at_int HR0.out x5_1 p101 q101;cases e101;replace p101:=eq_true p101;replace q101:=eq_true q101;have p102:0≤(x5_1:Int):=of_decide_eq_true zq9;have q102:x5_1 < (l1.length:Int):=of_decide_eq_true zq9;obtain ⟨ad102,e102,hx102_0⟩:=Kd.at_int HR1.out x5_1 p102 q102;cases e102;replace p102:=eq_true p102;replace q102:=eq_true q102
        go_wp2
        repeat (go_quiet (fail);try go_wp2)
        go_ret
        exact ⟨by first|rfl|(simp only [IntKind.wrap_i64,wrap64];done)|(simp;done)|(simp [*];done),by repeat (first|exact Drawn0.refl _|apply Drawn0.step)⟩
      ·rw [if_neg c6] at H;exact absurd H (by simp)
     ·rw [if_neg c5] at H;exact absurd H (by simp)
    ·rw [if_neg c4] at H;have c4b0:decide (x5_1 < (l0.length:Int))=false:=decide_eq_false c4;clear c4;obtain rfl:=Option.some.inj H
     go_wp2
     repeat (go_quiet (fail);try go_wp2)
     go_ret
     exact ⟨by first|rfl|(simp only [IntKind.wrap_i64,wrap64];done)|(simp;done)|(simp [*];done),by repeat (first|exact Drawn0.refl _|apply Drawn0.step)⟩
 ·rw [if_neg c3] at H;have c3b0:((l0.length:Int) == (l1.length:Int))=false:=beq_eq_false_iff_ne.mpr c3;have c3b1:((l0.length:Int) != (l1.length:Int))=true:=bne_iff_ne.mpr c3
  have c3b2:(l0.length == l1.length)=false:=by first|simpa using c3|(simp at c3 ⊢;omega)
  obtain rfl:=Option.some.inj H
  go_enter Try.func68,Try.ntmps68
  go_wp2
  repeat (go_quiet (fail);try go_wp2)
  go_ret
  exact ⟨by first|rfl|(simp only [IntKind.wrap_i64,wrap64];done)|(simp;done)|(simp [*];done),by repeat (first|exact Drawn0.refl _|apply Drawn0.step)⟩
end Go.Proofs.Ytgfknljhogfeaaa.G
end

section
namespace Go.Proofs.Ytgfknljhogfeaaa.G
open Go.RowKit Go.Proofs.YtgfknljhogfeaaaW.PrintWords Go.Proofs.YtgfknljhogfeaaaW.PrintLast Go.Proofs.YtgfknljhogfeaaaW.PrintMore
attribute [local go_sem] max2_int min2_int max_two min_two max_three min_three max_four min_four
set_option linter.unusedVariables false
set_option linter.unusedSimpArgs false
def spec_SameNumbers.f (k:Nat) (l0:List Int) (l1:List Int):Option (Bool):=(spec_l00Same.f k l0 l1).bind fun t101=>(some t101)
set_option maxHeartbeats 8000000 in
set_option maxRecDepth 100000 in
theorem spec_SameNumbers.calls (k:Nat) (A0:Option Addr) (c0:Nat) (l0:List Int) (A1:Option Addr) (c1:Nat) (l1:List Int) (r:Bool) (w:World) (hr0:Kd.C (Kd.int .i64) w A0 l0.length l0) (hc0:l0.length≤c0) (hr1:Kd.C (Kd.int .i64) w A1 l1.length l1) (hc1:l1.length≤c1) (h:spec_SameNumbers.f k l0 l1=some r) :
  Calls Try.prog 33 #[.slice A0 l0.length c0,.slice A1 l1.length c1] w fun e w'=>e=.returned (.bool r)∧Drawn0 w w':=by
 have HR0:=am hr0;have HC0:=am hc0;clear hr0 hc0;have HR1:=am hr1;have HC1:=am hc1;clear hr1 hc1;have H:((spec_l00Same.f k l0 l1).bind fun t101=>(some t101))=some r:=h;clear h;replace H:=Option.bind_eq_some_iff.mp H;obtain ⟨t101,A30,H⟩:=H;replace H:(some t101)=some r:=H;have A3:=am A30;clear A30;obtain rfl:=Option.some.inj H
 go_enter Try.func33,Try.ntmps33
 go_wp2_with (first|((with_reducible refine gate_callee (f:=68) rfl ?_);refine goesL_ (some 7) rfl rfl Try.func68 zq16 rfl #[.slice A0 l0.length c0,.slice A1 l1.length c1] rfl zq0 ?_;(with_reducible refine (spec_l00Same.calls k _ _ l0 _ _ l1 t101 _ ?side1 ?side2 ?side3 ?side4 A3.out).mono ?_);(case side1=>exact zq28);(case side2=>exact HC0.out);(case side3=>exact zq38);(case side4=>exact HC1.out);rintro e w' ⟨rfl,⟨nd,rfl⟩⟩;refine ⟨_,rfl,?_⟩))
 go_ret
 exact ⟨by first|rfl|(simp only [IntKind.wrap_i64,wrap64];done)|(simp;done)|(simp [*];done),by repeat (first|exact Drawn0.refl _|apply Drawn0.step)⟩
end Go.Proofs.Ytgfknljhogfeaaa.G
end

section
namespace Go.Proofs.Ytgfknljhogfeaaa.G
open Go.RowKit Go.Proofs.YtgfknljhogfeaaaW.PrintWords Go.Proofs.YtgfknljhogfeaaaW.PrintLast Go.Proofs.YtgfknljhogfeaaaW.PrintMore
attribute [local go_sem] max2_int min2_int max_two min_two max_three min_three max_four min_four
set_option linter.unusedVariables false
set_option linter.unusedSimpArgs false
def spec_SameSights.f (l0:List (S61)) (l1:List (S61)):Option (Bool):=if (l0.length:Int)=(l1.length:Int) then ((spec_l05Far.f l0 l1).bind fun t101=>(some (t101 == 0))) else (some false)
set_option maxHeartbeats 8000000 in
set_option maxRecDepth 100000 in
theorem spec_SameSights.calls (A0:Option Addr) (c0:Nat) (l0:List (S61)) (A1:Option Addr) (c1:Nat) (l1:List (S61)) (r:Bool) (w:World) (hr0:Kd.C k61 w A0 l0.length l0) (hc0:l0.length≤c0) (hr1:Kd.C k61 w A1 l1.length l1) (hc1:l1.length≤c1) (h:spec_SameSights.f l0 l1=some r) :
  Calls Try.prog 32 #[.slice A0 l0.length c0,.slice A1 l1.length c1] w fun e w'=>e=.returned (.bool r)∧Drawn0 w w':=by
 have HR0:=am hr0;have HC0:=am hc0;clear hr0 hc0;have HR1:=am hr1;have HC1:=am hc1;clear hr1 hc1;have H:(if (l0.length:Int)=(l1.length:Int) then ((spec_l05Far.f l0 l1).bind fun t101=>(some (t101 == 0))) else (some false))=some r:=h;clear h
 by_cases c3:(l0.length:Int)=(l1.length:Int)
 ·rw [if_pos c3] at H;have c3b0:((l0.length:Int) == (l1.length:Int))=true:=beq_iff_eq.mpr c3;have c3b1:((l0.length:Int) != (l1.length:Int))=false:=bne_eq_false_iff_eq.mpr c3
  have c3b2:(l0.length == l1.length)=true:=by first|simpa using c3|(simp at c3 ⊢;omega)
  clear c3;replace H:=Option.bind_eq_some_iff.mp H;obtain ⟨t101,A40,H⟩:=H;replace H:(some (t101 == 0))=some r:=H;have A4:=am A40;clear A40;obtain rfl:=Option.some.inj H
  go_enter Try.func32,Try.ntmps32
  go_wp2_with (first|(go_at_call 53;(with_reducible refine (spec_l05Far.calls _ _ l0 _ _ l1 t101 _ ?side1 ?side2 ?side3 ?side4 A4.out).mono ?_);(case side1=>exact zq28);(case side2=>exact HC0.out);(case side3=>exact zq38);(case side4=>exact HC1.out);rintro e w' ⟨rfl,⟨nd,rfl⟩⟩))
  go_ret
  exact ⟨by first|rfl|(simp only [IntKind.wrap_i64,wrap64];done)|(simp;done)|(simp [*];done),by repeat (first|exact Drawn0.refl _|apply Drawn0.step)⟩
 ·rw [if_neg c3] at H;have c3b0:((l0.length:Int) == (l1.length:Int))=false:=beq_eq_false_iff_ne.mpr c3;have c3b1:((l0.length:Int) != (l1.length:Int))=true:=bne_iff_ne.mpr c3
  have c3b2:(l0.length == l1.length)=false:=by first|simpa using c3|(simp at c3 ⊢;omega)
  obtain rfl:=Option.some.inj H
  go_enter Try.func32,Try.ntmps32
  go_wp2
  go_ret
  exact ⟨by first|rfl|(simp only [IntKind.wrap_i64,wrap64];done)|(simp;done)|(simp [*];done),by repeat (first|exact Drawn0.refl _|apply Drawn0.step)⟩
end Go.Proofs.Ytgfknljhogfeaaa.G
end

section
namespace Go.Proofs.Ytgfknljhogfeaaa.G
open Go.RowKit Go.Proofs.YtgfknljhogfeaaaW.PrintWords Go.Proofs.YtgfknljhogfeaaaW.PrintLast Go.Proofs.YtgfknljhogfeaaaW.PrintMore
attribute [local go_sem] max2_int min2_int max_two min_two max_three min_three max_four min_four
set_option linter.unusedVariables false
set_option linter.unusedSimpArgs false
def spec_SightsOf.f (k:Nat) (l0_0:List (S68)) (l0_1:List (List Int)) (a1:Int):Option ((List (S61)) × Int):=(spec_l05Ok.f k l0_0 l0_1).bind fun t102=>(if t102=true then ((spec_l00In.f a1 0 (wrap64 ((l0_1.length:Int) - 1))).bind fun t106=>(if t106=true then ((spec_l05Sights.f l0_0 l0_1 a1).bind fun t107=>(some (t107,0))) else (some ((([]:List (S61))),2)))) else (some ((([]:List (S61))),1)))
set_option maxHeartbeats 8000000 in
set_option maxRecDepth 100000 in
theorem spec_SightsOf.calls (k:Nat) (A0_0:Option Addr) (c0_0:Nat) (l0_0:List (S68)) (A0_1:Option Addr) (c0_1:Nat) (l0_1:List (List Int)) (a1:Int) (r1:List (S61)) (r2:Int) (w:World) (hr0_0:Kd.C k68 w A0_0 l0_0.length l0_0) (hc0_0:l0_0.length≤c0_0) (hr0_1:Kd.C (Kd.slice 5 (Kd.int .u8)) w A0_1 l0_1.length l0_1) (hc0_1:l0_1.length≤c0_1) (h:spec_SightsOf.f k l0_0 l0_1 a1=some (r1,r2)) :
  Calls Try.prog 9 #[.agg #[.slice A0_0 l0_0.length c0_0,.slice A0_1 l0_1.length c0_1],.int .i64 a1] w fun e w'=>∃ v0_:Value,e=.returned (.tuple #[v0_,.int .i64 r2])∧Kd.R k61 61 w' w.heap.size (fun _=>True) v0_ r1∧Below w.heap.size w w':=by
 have hu33:=Try.underlying33;have HR0_0:=am hr0_0;have HC0_0:=am hc0_0;clear hr0_0 hc0_0;have HR0_1:=am hr0_1;have HC0_1:=am hc0_1;clear hr0_1 hc0_1;have HB:=am (Below.refl w.heap.size w);have H:((spec_l05Ok.f k l0_0 l0_1).bind fun t102=>(if t102=true then ((spec_l00In.f a1 0 (wrap64 ((l0_1.length:Int) - 1))).bind fun t106=>(if t106=true then ((spec_l05Sights.f l0_0 l0_1 a1).bind fun t107=>(some (t107,0))) else (some ((([]:List (S61))),2)))) else (some ((([]:List (S61))),1))))=some (r1,r2):=h;clear h;replace H:=Option.bind_eq_some_iff.mp H;obtain ⟨t102,A30,H⟩:=H;replace H:(if t102=true then ((spec_l00In.f a1 0 (wrap64 ((l0_1.length:Int) - 1))).bind fun t106=>(if t106=true then ((spec_l05Sights.f l0_0 l0_1 a1).bind fun t107=>(some (t107,0))) else (some ((([]:List (S61))),2)))) else (some ((([]:List (S61))),1)))=some (r1,r2):=H;have A3:=am A30;clear A30
 by_cases c4:t102=true
 ·subst c4
  have H1:((spec_l00In.f a1 0 (wrap64 ((l0_1.length:Int) - 1))).bind fun t106=>(if t106=true then ((spec_l05Sights.f l0_0 l0_1 a1).bind fun t107=>(some (t107,0))) else (some ((([]:List (S61))),2))))=some (r1,r2):=by rw [if_pos rfl] at H;exact H
  clear H;have H:=H1;clear H1;replace H:=Option.bind_eq_some_iff.mp H;obtain ⟨t106,A50,H⟩:=H;replace H:(if t106=true then ((spec_l05Sights.f l0_0 l0_1 a1).bind fun t107=>(some (t107,0))) else (some ((([]:List (S61))),2)))=some (r1,r2):=H;have A5:=am A50;clear A50
  by_cases c6:t106=true
  ·subst c6
   have H1:((spec_l05Sights.f l0_0 l0_1 a1).bind fun t107=>(some (t107,0)))=some (r1,r2):=by rw [if_pos rfl] at H;exact H
   clear H;have H:=H1;clear H1;replace H:=Option.bind_eq_some_iff.mp H;obtain ⟨t107,A70,H⟩:=H;replace H:(some (t107,0))=some (r1,r2):=H;have A7:=am A70;clear A70;simp only [Option.some.injEq,Prod.mk.injEq] at H;obtain ⟨rfl,rfl⟩:=H
   go_enter Try.func9,Try.ntmps9
   go_wp2_with (first|((with_reducible refine gate_dst (N:=2) rfl ?_);refine box_event ?hg (N:=2) ?hd (cs:=#[.slice A0_0 l0_0.length c0_0,.slice A0_1 l0_1.length c0_1]) (t:=33) ?hr ?_;(case hd=>rfl);(case hg=>rfl);(case hr=>exact zq15);intro gb101 hg w8 hbox hb;have n0_:=am (below_step zq2 hb);have n1_:=am (hbox);have n2_:=am ((by rw [hg];exact (below_size zq2):w.heap.size≤gb101));have n3_:=am ((by rw [hg];exact (below_size zq2):w.heap.size≤gb101));clear HB;have HB:=n0_;have BK101:=n1_;have GW101:=n2_;have GE101:=n3_;clear n0_ n1_ n2_ n3_;clear hb hbox hg)|((with_reducible refine gate_callee (f:=40) rfl ?_);refine goesL_ (some 6) rfl rfl Try.func40 zq16 rfl #[.pointer (some ⟨gb101,0,none⟩)] rfl zq0 ?_;(with_reducible refine (spec_l05Ok.calls k A0_0 c0_0 l0_0 A0_1 c0_1 l0_1 true _ ?side1 ?side2 ?side3 ?side4 ?side5 A3.out).mono ?_);(case side1=>exact zq6);(case side2=>exact HC0_0.out);(case side3=>exact zq7);(case side4=>exact HC0_1.out);(case side5=>exact zq4);rintro e w9 ⟨rfl,hb⟩;refine ⟨_,rfl,?_⟩;have n0_:=am (blk_below (g:=gb101) (o:=.cells #[.slice A0_0 l0_0.length c0_0,.slice A0_1 l0_1.length c0_1] 33 (0,0)) zq4 hb);have n1_:=am (below_step zq1 hb);clear BK101;clear HB;have BK101:=n0_;have HB:=n1_;clear n0_ n1_;(try clear hb);(try clear hb2);(try clear hk);(try clear hi);have hcz10_0:w9.cell? ⟨gb101,0,none⟩=some (.slice A0_0 l0_0.length c0_0):=(blk_cell BK101.out 0).trans rfl;have hcz10_1:w9.cell? ⟨gb101,1,none⟩=some (.slice A0_1 l0_1.length c0_1):=(blk_cell BK101.out 1).trans rfl;have hfz10_0:=blk_frozen BK101.out 0;have hfz10_1:=blk_frozen BK101.out 1)|((with_reducible refine gate_callee (f:=41) rfl ?_);refine goesL_ (some 14) rfl rfl Try.func41 zq16 rfl #[.int .i64 a1,.int .i64 0,.int .i64 (wrap64 ((l0_1.length:Int) - 1))] rfl zq0 ?_;(with_reducible refine (spec_l00In.calls a1 0 (wrap64 ((l0_1.length:Int) - 1)) true _ A5.out).mono ?_);rintro e w' ⟨rfl,⟨nd,rfl⟩⟩;refine ⟨_,rfl,?_⟩)|((with_reducible refine gate_callee (f:=42) rfl ?_);refine goesL_ (some 18) rfl rfl Try.func42 zq16 rfl #[.pointer (some ⟨gb101,0,none⟩),.int .i64 a1] rfl zq0 ?_;(with_reducible refine (spec_l05Sights.calls A0_0 c0_0 l0_0 A0_1 c0_1 l0_1 a1 t107 _ ?side1 ?side2 ?side3 ?side4 ?side5 A7.out).mono ?_);(case side1=>exact zq84);(case side2=>exact HC0_0.out);(case side3=>exact zq83);(case side4=>exact HC0_1.out);(case side5=>exact zq4);rintro e w11 ⟨v108,rfl,ho0,hb⟩;refine ⟨_,rfl,?_⟩;have n0_:=am (Kd.R_lower ho0 (below_size zq1));have n1_:=am (blk_below (g:=gb101) (o:=.cells #[.slice A0_0 l0_0.length c0_0,.slice A0_1 l0_1.length c0_1] 33 (0,0)) zq4 hb);have n2_:=am (below_step zq1 hb);clear BK101;clear HB;have HO109:=n0_;have BK101:=n1_;have HB:=n2_;clear n0_ n1_ n2_;(try clear hb);(try clear hb2);(try clear hk);(try clear hi);(try clear ho0)))
   go_ret2
   exact ⟨_,by first|rfl|(simp [errW_none,errW_some,IntKind.wrap_i64,wrap64];done)|(simp [errW_none,errW_some] <;> rfl)|(simp [*,errW_none,errW_some] <;> rfl),by (with_reducible repeat (first|apply Kd.R_alloc|apply Kd.R_drewN|apply Kd.R_drew));exact HO109.out,by repeat (first|(with_reducible first|exact HB.out|apply below_alloc|apply pw_below_drewN|apply below_drew1|refine below_set ?_ GE101.out)|exact HB.out)⟩
  ·replace c6:=Bool.eq_false_iff.mpr c6;subst c6
   have H1:(some ((([]:List (S61))),2))=some (r1,r2):=by rw [if_neg (show ¬ (false=true) by decide)] at H;exact H
   clear H;have H:=H1;clear H1;obtain ⟨y110,hy110⟩:∃ y_:List (S61),y_=(([]:List (S61))):=⟨_,rfl⟩
   replace H:(some (y110,2))=some (r1,r2):=by first|(rw [hy110];with_reducible exact H)|(have H2_:=(Option.bind_some _ _).symm.trans H;rw [hy110];with_reducible exact H2_)|(have H2_:=(Option.bind_some _ _).symm.trans H;with_reducible exact H2_)|with_reducible exact H|(rw [hy110];exact H)|exact H
   have Ny110:=am hy110;clear hy110;simp only [Option.some.injEq,Prod.mk.injEq] at H;obtain ⟨rfl,rfl⟩:=H
   go_enter Try.func9,Try.ntmps9
   go_wp2_with (first|((with_reducible refine gate_dst (N:=2) rfl ?_);refine box_event ?hg (N:=2) ?hd (cs:=#[.slice A0_0 l0_0.length c0_0,.slice A0_1 l0_1.length c0_1]) (t:=33) ?hr ?_;(case hd=>rfl);(case hg=>rfl);(case hr=>exact zq15);intro gb101 hg w12 hbox hb;have n0_:=am (below_step zq2 hb);have n1_:=am (hbox);have n2_:=am ((by rw [hg];exact (below_size zq2):w.heap.size≤gb101));have n3_:=am ((by rw [hg];exact (below_size zq2):w.heap.size≤gb101));clear HB;have HB:=n0_;have BK101:=n1_;have GW101:=n2_;have GE101:=n3_;clear n0_ n1_ n2_ n3_;clear hb hbox hg)|((with_reducible refine gate_callee (f:=40) rfl ?_);refine goesL_ (some 6) rfl rfl Try.func40 zq16 rfl #[.pointer (some ⟨gb101,0,none⟩)] rfl zq0 ?_;(with_reducible refine (spec_l05Ok.calls k A0_0 c0_0 l0_0 A0_1 c0_1 l0_1 true _ ?side1 ?side2 ?side3 ?side4 ?side5 A3.out).mono ?_);(case side1=>exact zq6);(case side2=>exact HC0_0.out);(case side3=>exact zq7);(case side4=>exact HC0_1.out);(case side5=>exact zq4);rintro e w13 ⟨rfl,hb⟩;refine ⟨_,rfl,?_⟩;have n0_:=am (blk_below (g:=gb101) (o:=.cells #[.slice A0_0 l0_0.length c0_0,.slice A0_1 l0_1.length c0_1] 33 (0,0)) zq4 hb);have n1_:=am (below_step zq1 hb);clear BK101;clear HB;have BK101:=n0_;have HB:=n1_;clear n0_ n1_;(try clear hb);(try clear hb2);(try clear hk);(try clear hi);have hcz14_0:w13.cell? ⟨gb101,0,none⟩=some (.slice A0_0 l0_0.length c0_0):=(blk_cell BK101.out 0).trans rfl;have hcz14_1:w13.cell? ⟨gb101,1,none⟩=some (.slice A0_1 l0_1.length c0_1):=(blk_cell BK101.out 1).trans rfl;have hfz14_0:=blk_frozen BK101.out 0;have hfz14_1:=blk_frozen BK101.out 1)|((with_reducible refine gate_callee (f:=41) rfl ?_);refine goesL_ (some 14) rfl rfl Try.func41 zq16 rfl #[.int .i64 a1,.int .i64 0,.int .i64 (wrap64 ((l0_1.length:Int) - 1))] rfl zq0 ?_;(with_reducible refine (spec_l00In.calls a1 0 (wrap64 ((l0_1.length:Int) - 1)) false _ A5.out).mono ?_);rintro e w' ⟨rfl,⟨nd,rfl⟩⟩;refine ⟨_,rfl,?_⟩)|((with_reducible refine gate_dst (N:=16) rfl ?_);refine Kd.R_lit k61 _ 61 ?hg (N:=16) ?hd (xs:=([]:List (S61))) (inner:=[]) (ok:=fun _=>True) (okp:=fun _=>True) ?hr ?hp (fun _ hk=>hk) trivial (Below.refl _ _) (Nat.le_refl _) (by simp) ?_;(case hd=>rfl);(case hg=>rfl);(case hr=>exact zq15);(case hp=>exact (Reps.none _ _));intro v111 w15 ho16 hb hg_ hnew_;clear hg_ hnew_;(first|rw [← Ny110.out] at ho16|(simp only [Int.reduceToNat] at ho16;rw [← Ny110.out] at ho16));have n0_:=am (Kd.R_lower ho16 (below_size zq1));have n1_:=am (blk_below (g:=gb101) (o:=.cells #[.slice A0_0 l0_0.length c0_0,.slice A0_1 l0_1.length c0_1] 33 (0,0)) zq4 hb);have n2_:=am (below_step zq1 hb);clear BK101;clear HB;have HO112:=n0_;have BK101:=n1_;have HB:=n2_;clear n0_ n1_ n2_;clear hb ho16))
   go_ret2
   exact ⟨_,by first|rfl|(simp [errW_none,errW_some,IntKind.wrap_i64,wrap64];done)|(simp [errW_none,errW_some] <;> rfl)|(simp [*,errW_none,errW_some] <;> rfl),by (with_reducible repeat (first|apply Kd.R_alloc|apply Kd.R_drewN|apply Kd.R_drew));exact HO112.out,by repeat (first|(with_reducible first|exact HB.out|apply below_alloc|apply pw_below_drewN|apply below_drew1|refine below_set ?_ GE101.out)|exact HB.out)⟩
 ·replace c4:=Bool.eq_false_iff.mpr c4;subst c4
  have H1:(some ((([]:List (S61))),1))=some (r1,r2):=by rw [if_neg (show ¬ (false=true) by decide)] at H;exact H
  clear H;have H:=H1;clear H1;obtain ⟨y103,hy103⟩:∃ y_:List (S61),y_=(([]:List (S61))):=⟨_,rfl⟩
  replace H:(some (y103,1))=some (r1,r2):=by first|(rw [hy103];with_reducible exact H)|(have H2_:=(Option.bind_some _ _).symm.trans H;rw [hy103];with_reducible exact H2_)|(have H2_:=(Option.bind_some _ _).symm.trans H;with_reducible exact H2_)|with_reducible exact H|(rw [hy103];exact H)|exact H
  have Ny103:=am hy103;clear hy103;simp only [Option.some.injEq,Prod.mk.injEq] at H;obtain ⟨rfl,rfl⟩:=H
  go_enter Try.func9,Try.ntmps9
  go_wp2_with (first|((with_reducible refine gate_dst (N:=2) rfl ?_);refine box_event ?hg (N:=2) ?hd (cs:=#[.slice A0_0 l0_0.length c0_0,.slice A0_1 l0_1.length c0_1]) (t:=33) ?hr ?_;(case hd=>rfl);(case hg=>rfl);(case hr=>exact zq15);intro gb101 hg w17 hbox hb;have n0_:=am (below_step zq2 hb);have n1_:=am (hbox);have n2_:=am ((by rw [hg];exact (below_size zq2):w.heap.size≤gb101));have n3_:=am ((by rw [hg];exact (below_size zq2):w.heap.size≤gb101));clear HB;have HB:=n0_;have BK101:=n1_;have GW101:=n2_;have GE101:=n3_;clear n0_ n1_ n2_ n3_;clear hb hbox hg)|((with_reducible refine gate_callee (f:=40) rfl ?_);refine goesL_ (some 6) rfl rfl Try.func40 zq16 rfl #[.pointer (some ⟨gb101,0,none⟩)] rfl zq0 ?_;(with_reducible refine (spec_l05Ok.calls k A0_0 c0_0 l0_0 A0_1 c0_1 l0_1 false _ ?side1 ?side2 ?side3 ?side4 ?side5 A3.out).mono ?_);(case side1=>exact zq6);(case side2=>exact HC0_0.out);(case side3=>exact zq7);(case side4=>exact HC0_1.out);(case side5=>exact zq4);rintro e w18 ⟨rfl,hb⟩;refine ⟨_,rfl,?_⟩;have n0_:=am (blk_below (g:=gb101) (o:=.cells #[.slice A0_0 l0_0.length c0_0,.slice A0_1 l0_1.length c0_1] 33 (0,0)) zq4 hb);have n1_:=am (below_step zq1 hb);clear BK101;clear HB;have BK101:=n0_;have HB:=n1_;clear n0_ n1_;(try clear hb);(try clear hb2);(try clear hk);(try clear hi))|((with_reducible refine gate_dst (N:=8) rfl ?_);refine Kd.R_lit k61 _ 61 ?hg (N:=8) ?hd (xs:=([]:List (S61))) (inner:=[]) (ok:=fun _=>True) (okp:=fun _=>True) ?hr ?hp (fun _ hk=>hk) trivial (Below.refl _ _) (Nat.le_refl _) (by simp) ?_;(case hd=>rfl);(case hg=>rfl);(case hr=>exact zq15);(case hp=>exact (Reps.none _ _));intro v104 w19 ho20 hb hg_ hnew_;clear hg_ hnew_;(first|rw [← Ny103.out] at ho20|(simp only [Int.reduceToNat] at ho20;rw [← Ny103.out] at ho20));have n0_:=am (Kd.R_lower ho20 (below_size zq1));have n1_:=am (blk_below (g:=gb101) (o:=.cells #[.slice A0_0 l0_0.length c0_0,.slice A0_1 l0_1.length c0_1] 33 (0,0)) zq4 hb);have n2_:=am (below_step zq1 hb);clear BK101;clear HB;have HO105:=n0_;have BK101:=n1_;have HB:=n2_;clear n0_ n1_ n2_;clear hb ho20))
  go_ret2
  exact ⟨_,by first|rfl|(simp [errW_none,errW_some,IntKind.wrap_i64,wrap64];done)|(simp [errW_none,errW_some] <;> rfl)|(simp [*,errW_none,errW_some] <;> rfl),by (with_reducible repeat (first|apply Kd.R_alloc|apply Kd.R_drewN|apply Kd.R_drew));exact HO105.out,by repeat (first|(with_reducible first|exact HB.out|apply below_alloc|apply pw_below_drewN|apply below_drew1|refine below_set ?_ GE101.out)|exact HB.out)⟩
end Go.Proofs.Ytgfknljhogfeaaa.G
end
