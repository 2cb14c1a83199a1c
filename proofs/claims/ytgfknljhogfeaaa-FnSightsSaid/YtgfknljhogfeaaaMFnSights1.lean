/- The law's functions, their contracts, and the plain lemmas: texts of this claim, laid together. -/
import Derived.Test.YtgfknljhogfeaaaMFnSights0
section
namespace Go.Proofs.Ytgfknljhogfeaaa.G
open Go.RowKit Go.Proofs.YtgfknljhogfeaaaW.PrintWords Go.Proofs.YtgfknljhogfeaaaW.PrintLast Go.Proofs.YtgfknljhogfeaaaW.PrintMore
attribute [local go_sem] max2_int min2_int max_two min_two max_three min_three max_four min_four
set_option linter.unusedVariables false
set_option linter.unusedSimpArgs false
def impl_BlurDistance.f (k:Nat) (a0_0 a0_1 a0_2 a0_3 a0_4 a0_5 a0_6 a0_7 a0_8 a0_9 a0_10 a0_11 a0_12 a0_13 a0_14 a0_15 a0_16 a0_17 a0_18 a0_19 a0_20 a0_21 a0_22 a0_23 a1_0 a1_1 a1_2 a1_3 a1_4 a1_5 a1_6 a1_7 a1_8 a1_9 a1_10 a1_11 a1_12 a1_13 a1_14 a1_15 a1_16 a1_17 a1_18 a1_19 a1_20 a1_21 a1_22 a1_23:Int):Option (Int × Int):=(impl_ValidFlag.f a0_0 a0_1 a0_2 a0_3 a0_4 a0_5 a0_6 a0_7 a0_8 a0_9 a0_10 a0_11 a0_12 a0_13 a0_14 a0_15 a0_16 a0_17 a0_18 a0_19 a0_20 a0_21 a0_22 a0_23).bind fun p=>if p=true then (impl_ValidFlag.f a1_0 a1_1 a1_2 a1_3 a1_4 a1_5 a1_6 a1_7 a1_8 a1_9 a1_10 a1_11 a1_12 a1_13 a1_14 a1_15 a1_16 a1_17 a1_18 a1_19 a1_20 a1_21 a1_22 a1_23).bind fun q=>if q=true then (impl_afar.f k a0_0 a0_1 a0_2 a0_3 a0_4 a0_5 a0_6 a0_7 a0_8 a0_9 a0_10 a0_11 a0_12 a0_13 a0_14 a0_15 a0_16 a0_17 a0_18 a0_19 a0_20 a0_21 a0_22 a0_23 a1_0 a1_1 a1_2 a1_3 a1_4 a1_5 a1_6 a1_7 a1_8 a1_9 a1_10 a1_11 a1_12 a1_13 a1_14 a1_15 a1_16 a1_17 a1_18 a1_19 a1_20 a1_21 a1_22 a1_23).bind fun d=>some (d,0) else some (0,1) else some (0,1)
theorem impl_BlurDistance.load_g {P:Program} {ops:Array Oper} {Q:Exit→Act→World→Prop} {rest:List Oper} {o:Oper} {a:Act} {W:World} {k:IntKind} {b t:Nat} {xs:List Int} (hw:Region.wanted o (yielded ops a.tmps)=true) {p:Operand} (ho:o.op=.load t p) (hx:a.eval p=.pointer (some ⟨b,0,none⟩)) (h:IsBox k t W b xs) {d:TypeDesc} (hu:P.underlying t=some d) (hd:(match d with|.struct _|.array _ _=>true|_=>false)=true) (hi:(P.info? t).map (·.size)=some xs.length)
  (hK:wpList P ops Q rest (a.put o.dst (.agg (nums k xs).toArray)) W):wpList P ops Q (o :: rest) a W:=by
 refine wpList_step fun K hk=>?_
 rw [if_pos hw]
 unfold Oper.wp execOp
 simp only [ho,hx,Instr.loadAt,Instr.sureAddr,Sem.run_bind,Sem.run_pure,Result.andThen_ok,run_loadVar_row W b t t _ (0,0) d h hu hd (by simpa [nums] using hi)];exact hk _ _ hK
set_option maxHeartbeats 8000000 in
set_option maxRecDepth 100000 in
theorem impl_BlurDistance.calls (k:Nat) (a0_0 a0_1 a0_2 a0_3 a0_4 a0_5 a0_6 a0_7 a0_8 a0_9 a0_10 a0_11 a0_12 a0_13 a0_14 a0_15 a0_16 a0_17 a0_18 a0_19 a0_20 a0_21 a0_22 a0_23 a1_0 a1_1 a1_2 a1_3 a1_4 a1_5 a1_6 a1_7 a1_8 a1_9 a1_10 a1_11 a1_12 a1_13 a1_14 a1_15 a1_16 a1_17 a1_18 a1_19 a1_20 a1_21 a1_22 a1_23 r1 r2:Int) (w:World) (h:impl_BlurDistance.f k a0_0 a0_1 a0_2 a0_3 a0_4 a0_5 a0_6 a0_7 a0_8 a0_9 a0_10 a0_11 a0_12 a0_13 a0_14 a0_15 a0_16 a0_17 a0_18 a0_19 a0_20 a0_21 a0_22 a0_23 a1_0 a1_1 a1_2 a1_3 a1_4 a1_5 a1_6 a1_7 a1_8 a1_9 a1_10 a1_11 a1_12 a1_13 a1_14 a1_15 a1_16 a1_17 a1_18 a1_19 a1_20 a1_21 a1_22 a1_23=some (r1,r2)) :
  Calls Try.prog 37 #[.agg #[.int .u8 a0_0,.int .u8 a0_1,.int .u8 a0_2,.int .u8 a0_3,.int .u8 a0_4,.int .u8 a0_5,.int .u8 a0_6,.int .u8 a0_7,.int .u8 a0_8,.int .u8 a0_9,.int .u8 a0_10,.int .u8 a0_11,.int .u8 a0_12,.int .u8 a0_13,.int .u8 a0_14,.int .u8 a0_15,.int .u8 a0_16,.int .u8 a0_17,.int .u8 a0_18,.int .u8 a0_19,.int .u8 a0_20,.int .u8 a0_21,.int .u8 a0_22,.int .u8 a0_23],.agg #[.int .u8 a1_0,.int .u8 a1_1,.int .u8 a1_2,.int .u8 a1_3,.int .u8 a1_4,.int .u8 a1_5,.int .u8 a1_6,.int .u8 a1_7,.int .u8 a1_8,.int .u8 a1_9,.int .u8 a1_10,.int .u8 a1_11,.int .u8 a1_12,.int .u8 a1_13,.int .u8 a1_14,.int .u8 a1_15,.int .u8 a1_16,.int .u8 a1_17,.int .u8 a1_18,.int .u8 a1_19,.int .u8 a1_20,.int .u8 a1_21,.int .u8 a1_22,.int .u8 a1_23]] w fun e w'=>e=.returned (.tuple #[.int .i64 r1,.int .i64 r2])∧Below w.heap.size w w':=by
 unfold impl_BlurDistance.f at h
 obtain ⟨p,hp,h⟩:=Option.bind_eq_some_iff.mp h;replace h:(if p=true then (impl_ValidFlag.f a1_0 a1_1 a1_2 a1_3 a1_4 a1_5 a1_6 a1_7 a1_8 a1_9 a1_10 a1_11 a1_12 a1_13 a1_14 a1_15 a1_16 a1_17 a1_18 a1_19 a1_20 a1_21 a1_22 a1_23).bind fun q=>if q=true then (impl_afar.f k a0_0 a0_1 a0_2 a0_3 a0_4 a0_5 a0_6 a0_7 a0_8 a0_9 a0_10 a0_11 a0_12 a0_13 a0_14 a0_15 a0_16 a0_17 a0_18 a0_19 a0_20 a0_21 a0_22 a0_23 a1_0 a1_1 a1_2 a1_3 a1_4 a1_5 a1_6 a1_7 a1_8 a1_9 a1_10 a1_11 a1_12 a1_13 a1_14 a1_15 a1_16 a1_17 a1_18 a1_19 a1_20 a1_21 a1_22 a1_23).bind fun d=>some (d,0) else some (0,1) else some (0,1))=some (r1,r2):=h;have HVX:Aside0 (∀ W:World,Calls Try.prog 73 #[.agg (nums .u8 [a0_0,a0_1,a0_2,a0_3,a0_4,a0_5,a0_6,a0_7,a0_8,a0_9,a0_10,a0_11,a0_12,a0_13,a0_14,a0_15,a0_16,a0_17,a0_18,a0_19,a0_20,a0_21,a0_22,a0_23]).toArray] W fun e w'=>e=.returned (.bool p)∧Below W.heap.size W w'):=⟨fun W=>impl_ValidFlag.calls a0_0 a0_1 a0_2 a0_3 a0_4 a0_5 a0_6 a0_7 a0_8 a0_9 a0_10 a0_11 a0_12 a0_13 a0_14 a0_15 a0_16 a0_17 a0_18 a0_19 a0_20 a0_21 a0_22 a0_23 _ W hp⟩;clear hp
 have HC:Aside0 (if p=true then ∃ q:Bool,(∀ W:World,Calls Try.prog 73 #[.agg (nums .u8 [a1_0,a1_1,a1_2,a1_3,a1_4,a1_5,a1_6,a1_7,a1_8,a1_9,a1_10,a1_11,a1_12,a1_13,a1_14,a1_15,a1_16,a1_17,a1_18,a1_19,a1_20,a1_21,a1_22,a1_23]).toArray] W fun e w'=>e=.returned (.bool q)∧Below W.heap.size W w')∧(if q=true then (∀ W:World,Calls Try.prog 72 #[.agg (nums .u8 [a0_0,a0_1,a0_2,a0_3,a0_4,a0_5,a0_6,a0_7,a0_8,a0_9,a0_10,a0_11,a0_12,a0_13,a0_14,a0_15,a0_16,a0_17,a0_18,a0_19,a0_20,a0_21,a0_22,a0_23]).toArray,.agg (nums .u8 [a1_0,a1_1,a1_2,a1_3,a1_4,a1_5,a1_6,a1_7,a1_8,a1_9,a1_10,a1_11,a1_12,a1_13,a1_14,a1_15,a1_16,a1_17,a1_18,a1_19,a1_20,a1_21,a1_22,a1_23]).toArray] W fun e w'=>e=.returned (.int .i64 r1)∧Below W.heap.size W w')∧r2=0 else r1=0∧r2=1) else r1=0∧r2=1):=by
  refine ⟨?_⟩
  split at h
  ·rename_i c
   rw [if_pos c];obtain ⟨q,hq,h⟩:=Option.bind_eq_some_iff.mp h;refine ⟨q,fun W=>impl_ValidFlag.calls a1_0 a1_1 a1_2 a1_3 a1_4 a1_5 a1_6 a1_7 a1_8 a1_9 a1_10 a1_11 a1_12 a1_13 a1_14 a1_15 a1_16 a1_17 a1_18 a1_19 a1_20 a1_21 a1_22 a1_23 _ W hq,?_⟩;replace h:(if q=true then (impl_afar.f k a0_0 a0_1 a0_2 a0_3 a0_4 a0_5 a0_6 a0_7 a0_8 a0_9 a0_10 a0_11 a0_12 a0_13 a0_14 a0_15 a0_16 a0_17 a0_18 a0_19 a0_20 a0_21 a0_22 a0_23 a1_0 a1_1 a1_2 a1_3 a1_4 a1_5 a1_6 a1_7 a1_8 a1_9 a1_10 a1_11 a1_12 a1_13 a1_14 a1_15 a1_16 a1_17 a1_18 a1_19 a1_20 a1_21 a1_22 a1_23).bind fun d=>some (d,0) else some (0,1))=some (r1,r2):=h
   split at h
   ·rename_i c
    rw [if_pos c];obtain ⟨d,hd,h⟩:=Option.bind_eq_some_iff.mp h;have h':=Option.some.inj h;obtain ⟨rfl,rfl⟩:=Prod.mk.inj h';exact ⟨fun W=>impl_afar.calls k a0_0 a0_1 a0_2 a0_3 a0_4 a0_5 a0_6 a0_7 a0_8 a0_9 a0_10 a0_11 a0_12 a0_13 a0_14 a0_15 a0_16 a0_17 a0_18 a0_19 a0_20 a0_21 a0_22 a0_23 a1_0 a1_1 a1_2 a1_3 a1_4 a1_5 a1_6 a1_7 a1_8 a1_9 a1_10 a1_11 a1_12 a1_13 a1_14 a1_15 a1_16 a1_17 a1_18 a1_19 a1_20 a1_21 a1_22 a1_23 _ W hd,rfl⟩
   ·rename_i c
    rw [if_neg c];have h':=Option.some.inj h;obtain ⟨rfl,rfl⟩:=Prod.mk.inj h';exact ⟨rfl,rfl⟩
  ·rename_i c
   rw [if_neg c];have h':=Option.some.inj h;obtain ⟨rfl,rfl⟩:=Prod.mk.inj h';exact ⟨rfl,rfl⟩
 clear h;have HLX:=am (show ([a0_0,a0_1,a0_2,a0_3,a0_4,a0_5,a0_6,a0_7,a0_8,a0_9,a0_10,a0_11,a0_12,a0_13,a0_14,a0_15,a0_16,a0_17,a0_18,a0_19,a0_20,a0_21,a0_22,a0_23]:List Int).length=24 from rfl);have HLY:=am (show ([a1_0,a1_1,a1_2,a1_3,a1_4,a1_5,a1_6,a1_7,a1_8,a1_9,a1_10,a1_11,a1_12,a1_13,a1_14,a1_15,a1_16,a1_17,a1_18,a1_19,a1_20,a1_21,a1_22,a1_23]:List Int).length=24 from rfl)
 show Calls Try.prog 37 #[.agg (nums .u8 [a0_0,a0_1,a0_2,a0_3,a0_4,a0_5,a0_6,a0_7,a0_8,a0_9,a0_10,a0_11,a0_12,a0_13,a0_14,a0_15,a0_16,a0_17,a0_18,a0_19,a0_20,a0_21,a0_22,a0_23]).toArray,.agg (nums .u8 [a1_0,a1_1,a1_2,a1_3,a1_4,a1_5,a1_6,a1_7,a1_8,a1_9,a1_10,a1_11,a1_12,a1_13,a1_14,a1_15,a1_16,a1_17,a1_18,a1_19,a1_20,a1_21,a1_22,a1_23]).toArray] w _
 generalize ([a0_0,a0_1,a0_2,a0_3,a0_4,a0_5,a0_6,a0_7,a0_8,a0_9,a0_10,a0_11,a0_12,a0_13,a0_14,a0_15,a0_16,a0_17,a0_18,a0_19,a0_20,a0_21,a0_22,a0_23]:List Int)=xs at HVX HC HLX ⊢;generalize ([a1_0,a1_1,a1_2,a1_3,a1_4,a1_5,a1_6,a1_7,a1_8,a1_9,a1_10,a1_11,a1_12,a1_13,a1_14,a1_15,a1_16,a1_17,a1_18,a1_19,a1_20,a1_21,a1_22,a1_23]:List Int)=ys at HC HLY ⊢;have HB:=am (Below.refl w.heap.size w);have HSZ:=am (show (Try.prog.info? 68).map (·.size)=some 24 from size68)
 cases p with
 | false =>
  have h_:=HC.out;rw [if_neg (by decide)] at h_;obtain ⟨rfl,rfl⟩:=h_
  go_enter Try.func37,Try.ntmps37
  go_wp2_with (first|((with_reducible refine gate_dst (N:=2) rfl ?_);refine box_event ?hg (N:=2) ?hd (cs:=(nums .u8 xs).toArray) (t:=68) ?hr ?_;(case hd=>rfl);(case hg=>rfl);(case hr=>exact zq15);intro b2 hg_ wt hb_ hB_;have HB2:=am (below_step HB.out hB_);have BL2:=am (show IsBox .u8 68 wt b2 xs from hb_);clear hb_ hB_ hg_)|((with_reducible refine gate_dst (N:=3) rfl ?_);refine box_event ?hg (N:=3) ?hd (cs:=(nums .u8 ys).toArray) (t:=68) ?hr ?_;(case hd=>rfl);(case hg=>rfl);(case hr=>exact zq15);intro b3 hg_ wu hb_ hB_;have HB3:=am (below_step HB2.out hB_);have n0_:=am (box_below BL2.out hB_);clear BL2;have BL2:=n0_;clear n0_;have BM3:=am (show IsBox .u8 68 wu b3 ys from hb_);clear hb_ hB_ hg_)|((with_reducible refine gate_dst (N:=6) rfl ?_);refine impl_BlurDistance.load_g (k:=.u8) (t:=68) (b:=b2) (xs:=xs) zq69 rfl rfl BL2.out Try.underlying68 rfl (by rw [HLX.out];exact HSZ.out) ?_)|(go_at_call 73;((refine (HVX.out _).mono ?_);rintro e w5 ⟨rfl,hb_⟩;have HB5:=am (below_step HB3.out hb_);have BL5:=am (box_below BL2.out hb_);have BM5:=am (box_below BM3.out hb_);clear hb_)))
  go_ret2
  exact ⟨rfl,HB5.out⟩
 | true =>
  have h_:=HC.out;rw [if_pos rfl] at h_;clear HC;obtain ⟨q,hq_,h_⟩:=h_;have HVY:=am hq_;clear hq_
  cases q with
  | false =>
   rw [if_neg (by decide)] at h_;obtain ⟨rfl,rfl⟩:=h_
   go_enter Try.func37,Try.ntmps37
   go_wp2_with (first|((with_reducible refine gate_dst (N:=2) rfl ?_);refine box_event ?hg (N:=2) ?hd (cs:=(nums .u8 xs).toArray) (t:=68) ?hr ?_;(case hd=>rfl);(case hg=>rfl);(case hr=>exact zq15);intro b2 hg_ wt hb_ hB_;have HB2:=am (below_step HB.out hB_);have BL2:=am (show IsBox .u8 68 wt b2 xs from hb_);clear hb_ hB_ hg_)|((with_reducible refine gate_dst (N:=3) rfl ?_);refine box_event ?hg (N:=3) ?hd (cs:=(nums .u8 ys).toArray) (t:=68) ?hr ?_;(case hd=>rfl);(case hg=>rfl);(case hr=>exact zq15);intro b3 hg_ wu hb_ hB_;have HB3:=am (below_step HB2.out hB_);have n0_:=am (box_below BL2.out hB_);clear BL2;have BL2:=n0_;clear n0_;have BM3:=am (show IsBox .u8 68 wu b3 ys from hb_);clear hb_ hB_ hg_)|((with_reducible refine gate_dst (N:=6) rfl ?_);refine impl_BlurDistance.load_g (k:=.u8) (t:=68) (b:=b2) (xs:=xs) zq69 rfl rfl BL2.out Try.underlying68 rfl (by rw [HLX.out];exact HSZ.out) ?_)|((with_reducible refine gate_dst (N:=10) rfl ?_);refine impl_BlurDistance.load_g (k:=.u8) (t:=68) (b:=b3) (xs:=ys) zq69 rfl rfl BM5.out Try.underlying68 rfl (by rw [HLY.out];exact HSZ.out) ?_)|((with_reducible refine gate_dst (N:=14) rfl ?_);refine impl_BlurDistance.load_g (k:=.u8) (t:=68) (b:=b2) (xs:=xs) zq69 rfl rfl BL6.out Try.underlying68 rfl (by rw [HLX.out];exact HSZ.out) ?_)|((with_reducible refine gate_dst (N:=15) rfl ?_);refine impl_BlurDistance.load_g (k:=.u8) (t:=68) (b:=b3) (xs:=ys) zq69 rfl rfl BM6.out Try.underlying68 rfl (by rw [HLY.out];exact HSZ.out) ?_)|(go_at_call 73;first|((refine (HVY.out _).mono ?_);rintro e w6 ⟨rfl,hb_⟩;have HB6:=am (below_step HB5.out hb_);have BL6:=am (box_below BL5.out hb_);have BM6:=am (box_below BM5.out hb_);clear hb_)|((refine (HVX.out _).mono ?_);rintro e w5 ⟨rfl,hb_⟩;have HB5:=am (below_step HB3.out hb_);have BL5:=am (box_below BL2.out hb_);have BM5:=am (box_below BM3.out hb_);clear hb_))|(go_at_call 72;refine (HAF.out _).mono ?_;rintro e w7 ⟨rfl,hb_⟩;have HB7:=am (below_step HB6.out hb_);clear hb_))
   go_ret2
   exact ⟨rfl,HB6.out⟩
  | true =>
   rw [if_pos rfl] at h_;obtain ⟨ha_,rfl⟩:=h_;have HAF:=am ha_;clear ha_
   go_enter Try.func37,Try.ntmps37
   go_wp2_with (first|((with_reducible refine gate_dst (N:=2) rfl ?_);refine box_event ?hg (N:=2) ?hd (cs:=(nums .u8 xs).toArray) (t:=68) ?hr ?_;(case hd=>rfl);(case hg=>rfl);(case hr=>exact zq15);intro b2 hg_ wt hb_ hB_;have HB2:=am (below_step HB.out hB_);have BL2:=am (show IsBox .u8 68 wt b2 xs from hb_);clear hb_ hB_ hg_)|((with_reducible refine gate_dst (N:=3) rfl ?_);refine box_event ?hg (N:=3) ?hd (cs:=(nums .u8 ys).toArray) (t:=68) ?hr ?_;(case hd=>rfl);(case hg=>rfl);(case hr=>exact zq15);intro b3 hg_ wu hb_ hB_;have HB3:=am (below_step HB2.out hB_);have n0_:=am (box_below BL2.out hB_);clear BL2;have BL2:=n0_;clear n0_;have BM3:=am (show IsBox .u8 68 wu b3 ys from hb_);clear hb_ hB_ hg_)|((with_reducible refine gate_dst (N:=6) rfl ?_);refine impl_BlurDistance.load_g (k:=.u8) (t:=68) (b:=b2) (xs:=xs) zq69 rfl rfl BL2.out Try.underlying68 rfl (by rw [HLX.out];exact HSZ.out) ?_)|((with_reducible refine gate_dst (N:=10) rfl ?_);refine impl_BlurDistance.load_g (k:=.u8) (t:=68) (b:=b3) (xs:=ys) zq69 rfl rfl BM5.out Try.underlying68 rfl (by rw [HLY.out];exact HSZ.out) ?_)|((with_reducible refine gate_dst (N:=14) rfl ?_);refine impl_BlurDistance.load_g (k:=.u8) (t:=68) (b:=b2) (xs:=xs) zq69 rfl rfl BL6.out Try.underlying68 rfl (by rw [HLX.out];exact HSZ.out) ?_)|((with_reducible refine gate_dst (N:=15) rfl ?_);refine impl_BlurDistance.load_g (k:=.u8) (t:=68) (b:=b3) (xs:=ys) zq69 rfl rfl BM6.out Try.underlying68 rfl (by rw [HLY.out];exact HSZ.out) ?_)|(go_at_call 73;first|((refine (HVY.out _).mono ?_);rintro e w6 ⟨rfl,hb_⟩;have HB6:=am (below_step HB5.out hb_);have BL6:=am (box_below BL5.out hb_);have BM6:=am (box_below BM5.out hb_);clear hb_)|((refine (HVX.out _).mono ?_);rintro e w5 ⟨rfl,hb_⟩;have HB5:=am (below_step HB3.out hb_);have BL5:=am (box_below BL2.out hb_);have BM5:=am (box_below BM3.out hb_);clear hb_))|(go_at_call 72;refine (HAF.out _).mono ?_;rintro e w7 ⟨rfl,hb_⟩;have HB7:=am (below_step HB6.out hb_);clear hb_))
   go_ret2
   exact ⟨rfl,HB7.out⟩
end Go.Proofs.Ytgfknljhogfeaaa.G
end

section
namespace Go.Proofs.Ytgfknljhogfeaaa.G
open Go.RowKit Go.Proofs.YtgfknljhogfeaaaW.PrintWords Go.Proofs.YtgfknljhogfeaaaW.PrintLast Go.Proofs.YtgfknljhogfeaaaW.PrintMore
attribute [local go_sem] max2_int min2_int max_two min_two max_three min_three max_four min_four
set_option linter.unusedVariables false
set_option linter.unusedSimpArgs false
def impl_Code_sights.l0:Nat→List (S61)→List Int→Int→Int→List (S68)→List (List Int)→Option ((List (S61)))
 | 0,_,_,_,_,_,_=>none
 | k + 1,x5,x9,x10,x11,x102000,x102001=>if x11 < x10 then (if 0≤x11 then (if x11 < (x9.length:Int) then (if 0≤(rd x9 x11) then (if (rd x9 x11) < (x102000.length:Int) then ((impl_Flag_blur.f ((rd_T68 x102000 (rd x9 x11)).f0) ((rd_T68 x102000 (rd x9 x11)).f1) ((rd_T68 x102000 (rd x9 x11)).f2) ((rd_T68 x102000 (rd x9 x11)).f3) ((rd_T68 x102000 (rd x9 x11)).f4) ((rd_T68 x102000 (rd x9 x11)).f5) ((rd_T68 x102000 (rd x9 x11)).f6) ((rd_T68 x102000 (rd x9 x11)).f7) ((rd_T68 x102000 (rd x9 x11)).f8) ((rd_T68 x102000 (rd x9 x11)).f9) ((rd_T68 x102000 (rd x9 x11)).f10) ((rd_T68 x102000 (rd x9 x11)).f11) ((rd_T68 x102000 (rd x9 x11)).f12) ((rd_T68 x102000 (rd x9 x11)).f13) ((rd_T68 x102000 (rd x9 x11)).f14) ((rd_T68 x102000 (rd x9 x11)).f15) ((rd_T68 x102000 (rd x9 x11)).f16) ((rd_T68 x102000 (rd x9 x11)).f17) ((rd_T68 x102000 (rd x9 x11)).f18) ((rd_T68 x102000 (rd x9 x11)).f19) ((rd_T68 x102000 (rd x9 x11)).f20) ((rd_T68 x102000 (rd x9 x11)).f21) ((rd_T68 x102000 (rd x9 x11)).f22) ((rd_T68 x102000 (rd x9 x11)).f23)).bind fun bt107=>(if x5.length < 23456248059221 then (impl_Code_sights.l0 k (x5 ++ [(⟨bt107.1,bt107.2.1,bt107.2.2.1,bt107.2.2.2.1,bt107.2.2.2.2.1,bt107.2.2.2.2.2⟩:S61)]) x9 x10 (wrap64 (x11 + 1)) x102000 x102001) else (none))) else (none)) else (none)) else (none)) else (none)) else (some x5)
def impl_Code_sights.f (k:Nat) (l0_0:List (S68)) (l0_1:List (List Int)) (l1:List Int):Option ((List (S61))):=impl_Code_sights.l0 k (([]:List (S61))) l1 (l1.length:Int) 0 l0_0 l0_1
set_option maxHeartbeats 8000000 in
set_option maxRecDepth 100000 in
theorem impl_Code_sights.calls (k:Nat) (A0_0:Option Addr) (c0_0:Nat) (l0_0:List (S68)) (A0_1:Option Addr) (c0_1:Nat) (l0_1:List (List Int)) (A1:Option Addr) (c1:Nat) (l1:List Int) (r:List (S61)) (w:World) (hr0_0:Kd.C k68 w A0_0 l0_0.length l0_0) (hc0_0:l0_0.length≤c0_0) (hr0_1:Kd.C (Kd.slice 5 (Kd.int .u8)) w A0_1 l0_1.length l0_1) (hc0_1:l0_1.length≤c0_1) (hr1:Kd.C (Kd.int .u8) w A1 l1.length l1) (hc1:l1.length≤c1) (h:impl_Code_sights.f k l0_0 l0_1 l1=some r) :
  Calls Try.prog 47 #[.agg #[.slice A0_0 l0_0.length c0_0,.slice A0_1 l0_1.length c0_1],.slice A1 l1.length c1] w fun e w'=>∃ v0_:Value,e=.returned (v0_)∧Kd.R k61 61 w' w.heap.size (fun _=>True) v0_ r∧Below w.heap.size w w':=by
 have hu33:=Try.underlying33;have HR0_0:=am hr0_0;have HC0_0:=am hc0_0;clear hr0_0 hc0_0;have HR0_1:=am hr0_1;have HC0_1:=am hc0_1;clear hr0_1 hc0_1;have HR1:=am hr1;have HC1:=am hc1;clear hr1 hc1;have HB:=am (Below.refl w.heap.size w);have H:(impl_Code_sights.l0 k (([]:List (S61))) l1 (l1.length:Int) 0 l0_0 l0_1)=some r:=h;clear h;obtain ⟨y102,hy102⟩:∃ y_:List (S61),y_=(([]:List (S61))):=⟨_,rfl⟩
 replace H:(impl_Code_sights.l0 k y102 l1 (l1.length:Int) 0 l0_0 l0_1)=some r:=by first|(rw [hy102];with_reducible exact H)|(have H2_:=(Option.bind_some _ _).symm.trans H;rw [hy102];with_reducible exact H2_)|(have H2_:=(Option.bind_some _ _).symm.trans H;with_reducible exact H2_)|with_reducible exact H|(rw [hy102];exact H)|exact H
 have Ny102:=am hy102;clear hy102;have H':=am H;clear H
 go_enter Try.func47,Try.ntmps47
 go_wp2_with (first|((with_reducible refine gate_dst (N:=2) rfl ?_);refine box_event ?hg (N:=2) ?hd (cs:=#[.slice A0_0 l0_0.length c0_0,.slice A0_1 l0_1.length c0_1]) (t:=33) ?hr ?_;(case hd=>rfl);(case hg=>rfl);(case hr=>exact zq15);intro gb101 hg w3 hbox hb;have n0_:=am (below_step zq2 hb);have n1_:=am (hbox);have n2_:=am ((by rw [hg];exact (below_size zq2):w.heap.size≤gb101));have n3_:=am ((by rw [hg];exact (below_size zq2):w.heap.size≤gb101));clear HB;have HB:=n0_;have BK101:=n1_;have GW101:=n2_;have GE101:=n3_;clear n0_ n1_ n2_ n3_;clear hb hbox hg)|((with_reducible refine gate_dst (N:=8) rfl ?_);refine Kd.R_lit k61 _ 61 ?hg (N:=8) ?hd (xs:=([]:List (S61))) (inner:=[]) (ok:=fun _=>True) (okp:=fun _=>True) ?hr ?hp (fun _ hk=>hk) trivial (Below.refl _ _) (Nat.le_refl _) (by simp) ?_;(case hd=>rfl);(case hg=>rfl);(case hr=>exact zq15);(case hp=>exact (Reps.none _ _));intro v103 w4 ho5 hb hg_ hnew_;clear hg_ hnew_;(first|rw [← Ny102.out] at ho5|(simp only [Int.reduceToNat] at ho5;rw [← Ny102.out] at ho5));have n0_:=am (Kd.R_lower ho5 (below_size zq1));have n1_:=am (blk_below (g:=gb101) (o:=.cells #[.slice A0_0 l0_0.length c0_0,.slice A0_1 l0_1.length c0_1] 33 (0,0)) zq4 hb);have n2_:=am (below_step zq1 hb);clear BK101;clear HB;have HO104:=n0_;have BK101:=n1_;have HB:=n2_;clear n0_ n1_ n2_;clear hb ho5))
 go_loopg [5,11] k (fun kq v5 v11 w'=>∃ (x5_1:List (S61)) (x11_1:Int),v11=.int .i64 x11_1∧Aside0 (impl_Code_sights.l0 kq x5_1 l1 (l1.length:Int) x11_1 l0_0 l0_1=some r)∧Aside0 (kq≤k)∧Aside0 (Kd.R k61 61 w' w.heap.size (fun _=>True) v5 x5_1)∧Aside0 (w'.heap[gb101]?=some (.cells #[(.slice A0_0 l0_0.length c0_0),(.slice A0_1 l0_1.length c0_1)] 33 (0,0)))∧Aside0 (Below w.heap.size w w'))
 case atStart=>exact ⟨(y102),(0),zq3,H',⟨Nat.le_refl _⟩,⟨by (with_reducible repeat (first|apply Kd.R_alloc|apply Kd.R_drewN|apply Kd.R_drew));exact HO104.out⟩,⟨by (with_reducible repeat (first|refine blk_drewN ?_ _|refine blk_drew ?_|refine blk_alloc ?_ _));exact BK101.out⟩,⟨by repeat (first|(with_reducible first|exact HB.out|apply below_alloc|apply pw_below_drewN|apply below_drew1|refine below_set ?_ GE101.out)|exact HB.out)⟩⟩
 case round =>
  clear H';(try clear c1);(try clear p2);(try clear c4);obtain ⟨x5_1,x11_1,rfl,HA,HK1,HO_5,BK101,HB⟩:=hrel
  cases gk with
  | zero=>exact absurd HA.out (by simp [impl_Code_sights.l0])
  | succ k1 =>
   have H:=HA.out;clear HA;simp only [impl_Code_sights.l0] at H
   by_cases c6:x11_1 < (l1.length:Int)
   ·rw [if_pos c6] at H;have c6b0:decide (x11_1 < (l1.length:Int))=true:=decide_eq_true c6;clear c6
    by_cases c7:0≤x11_1
    ·rw [if_pos c7] at H;have c7b0:decide (0≤x11_1)=true:=decide_eq_true c7;clear c7
     by_cases c8:x11_1 < (l1.length:Int)
     ·rw [if_pos c8] at H;have c8b0:decide (x11_1 < (l1.length:Int))=true:=decide_eq_true c8;clear c8
      by_cases c9:0≤(rd l1 x11_1)
      ·rw [if_pos c9] at H;have c9b0:decide (0≤(rd l1 x11_1))=true:=decide_eq_true c9;clear c9
       by_cases c10:(rd l1 x11_1) < (l0_0.length:Int)
       ·rw [if_pos c10] at H;have c10b0:decide ((rd l1 x11_1) < (l0_0.length:Int))=true:=decide_eq_true c10;clear c10;replace H:=Option.bind_eq_some_iff.mp H;obtain ⟨⟨t107,t108,t109,t110,t111,t112⟩,A110,H⟩:=H;replace H:(if x5_1.length < 23456248059221 then (impl_Code_sights.l0 k1 (x5_1 ++ [(⟨t107,t108,t109,t110,t111,t112⟩:S61)]) l1 (l1.length:Int) (wrap64 (x11_1 + 1)) l0_0 l0_1) else (none))=some r:=H;have A11:=am A110;clear A110
        by_cases c12:x5_1.length < 23456248059221
        ·rw [if_pos c12] at H;have LMc12:=am c12;clear c12;obtain ⟨y113,hy113⟩:∃ y_:List (S61),y_=(x5_1 ++ [(⟨t107,t108,t109,t110,t111,t112⟩:S61)]):=⟨_,rfl⟩
         replace H:(impl_Code_sights.l0 k1 y113 l1 (l1.length:Int) (wrap64 (x11_1 + 1)) l0_0 l0_1)=some r:=by first|(rw [hy113];with_reducible exact H)|(have H2_:=(Option.bind_some _ _).symm.trans H;rw [hy113];with_reducible exact H2_)|(have H2_:=(Option.bind_some _ _).symm.trans H;with_reducible exact H2_)|with_reducible exact H|(rw [hy113];exact H)|exact H
         have Ny113:=am hy113;clear hy113;have H':=am H;clear H;have p105:0≤(x11_1:Int):=of_decide_eq_true zq9;have q105:x11_1 < (l1.length:Int):=of_decide_eq_true zq9;obtain ⟨ad105,e105,hx105_0⟩:=Kd.at_int HR1.out x11_1 p105 q105;cases e105;replace hx105_0:=(HB.out.cell (World.block_lt_of_cell? w _ hx105_0)).trans hx105_0;replace p105:=eq_true p105;replace q105:=eq_true q105;have hcz13_0:wr.cell? ⟨gb101,0,none⟩=some (.slice A0_0 l0_0.length c0_0):=(blk_cell BK101.out 0).trans rfl;have hcz13_1:wr.cell? ⟨gb101,1,none⟩=some (.slice A0_1 l0_1.length c0_1):=(blk_cell BK101.out 1).trans rfl;have hfz13_0:=blk_frozen BK101.out 0;have hfz13_1:=blk_frozen BK101.out 1;have p106:0≤((rd l1 x11_1):Int):=of_decide_eq_true zq9;have q106:(rd l1 x11_1) < (l0_0.length:Int):=of_decide_eq_true zq9;obtain ⟨ad106,e106,hrow_⟩:=row_T68 HR0_0.out (rd l1 x11_1) p106 q106;cases e106;have HRW106:Aside0 (RowAt68 _ (ad106.add (((rd l1 x11_1)).toNat * 24)) _):=⟨row_below68 hrow_ HB.out⟩;clear hrow_;replace p106:=eq_true p106;replace q106:=eq_true q106
         go_wp2_with (first|((with_reducible refine gate_load (t:=68) rfl ?_);refine load_T68 rfl rfl (ad106.add (((rd l1 x11_1)).toNat * 24)) rfl HRW106.out Try.underlying68 size68 ?_)|((with_reducible refine gate_callee (f:=80) rfl ?_);refine goesL_ (some 21) rfl rfl Try.func80 zq16 rfl #[.agg #[.int .u8 ((rd_T68 l0_0 (rd l1 x11_1)).f0),.int .u8 ((rd_T68 l0_0 (rd l1 x11_1)).f1),.int .u8 ((rd_T68 l0_0 (rd l1 x11_1)).f2),.int .u8 ((rd_T68 l0_0 (rd l1 x11_1)).f3),.int .u8 ((rd_T68 l0_0 (rd l1 x11_1)).f4),.int .u8 ((rd_T68 l0_0 (rd l1 x11_1)).f5),.int .u8 ((rd_T68 l0_0 (rd l1 x11_1)).f6),.int .u8 ((rd_T68 l0_0 (rd l1 x11_1)).f7),.int .u8 ((rd_T68 l0_0 (rd l1 x11_1)).f8),.int .u8 ((rd_T68 l0_0 (rd l1 x11_1)).f9),.int .u8 ((rd_T68 l0_0 (rd l1 x11_1)).f10),.int .u8 ((rd_T68 l0_0 (rd l1 x11_1)).f11),.int .u8 ((rd_T68 l0_0 (rd l1 x11_1)).f12),.int .u8 ((rd_T68 l0_0 (rd l1 x11_1)).f13),.int .u8 ((rd_T68 l0_0 (rd l1 x11_1)).f14),.int .u8 ((rd_T68 l0_0 (rd l1 x11_1)).f15),.int .u8 ((rd_T68 l0_0 (rd l1 x11_1)).f16),.int .u8 ((rd_T68 l0_0 (rd l1 x11_1)).f17),.int .u8 ((rd_T68 l0_0 (rd l1 x11_1)).f18),.int .u8 ((rd_T68 l0_0 (rd l1 x11_1)).f19),.int .u8 ((rd_T68 l0_0 (rd l1 x11_1)).f20),.int .u8 ((rd_T68 l0_0 (rd l1 x11_1)).f21),.int .u8 ((rd_T68 l0_0 (rd l1 x11_1)).f22),.int .u8 ((rd_T68 l0_0 (rd l1 x11_1)).f23)]] rfl zq0 ?_;(with_reducible refine (impl_Flag_blur.calls ((rd_T68 l0_0 (rd l1 x11_1)).f0) ((rd_T68 l0_0 (rd l1 x11_1)).f1) ((rd_T68 l0_0 (rd l1 x11_1)).f2) ((rd_T68 l0_0 (rd l1 x11_1)).f3) ((rd_T68 l0_0 (rd l1 x11_1)).f4) ((rd_T68 l0_0 (rd l1 x11_1)).f5) ((rd_T68 l0_0 (rd l1 x11_1)).f6) ((rd_T68 l0_0 (rd l1 x11_1)).f7) ((rd_T68 l0_0 (rd l1 x11_1)).f8) ((rd_T68 l0_0 (rd l1 x11_1)).f9) ((rd_T68 l0_0 (rd l1 x11_1)).f10) ((rd_T68 l0_0 (rd l1 x11_1)).f11) ((rd_T68 l0_0 (rd l1 x11_1)).f12) ((rd_T68 l0_0 (rd l1 x11_1)).f13) ((rd_T68 l0_0 (rd l1 x11_1)).f14) ((rd_T68 l0_0 (rd l1 x11_1)).f15) ((rd_T68 l0_0 (rd l1 x11_1)).f16) ((rd_T68 l0_0 (rd l1 x11_1)).f17) ((rd_T68 l0_0 (rd l1 x11_1)).f18) ((rd_T68 l0_0 (rd l1 x11_1)).f19) ((rd_T68 l0_0 (rd l1 x11_1)).f20) ((rd_T68 l0_0 (rd l1 x11_1)).f21) ((rd_T68 l0_0 (rd l1 x11_1)).f22) ((rd_T68 l0_0 (rd l1 x11_1)).f23) t107 t108 t109 t110 t111 t112 _ A11.out).mono ?_);rintro e w14 ⟨rfl,hb⟩;refine ⟨_,rfl,?_⟩;have n0_:=am (Kd.R_below (by (with_reducible repeat (first|apply Kd.R_alloc|apply Kd.R_drewN|apply Kd.R_drew));exact HO_5.out) hb);have n1_:=am (blk_below (g:=gb101) (o:=.cells #[.slice (some ad106) l0_0.length c0_0,.slice A0_1 l0_1.length c0_1] 33 (0,0)) zq4 hb);have n2_:=am (below_step zq1 hb);clear HO_5;clear BK101;clear HB;have HO_5:=n0_;have BK101:=n1_;have HB:=n2_;clear n0_ n1_ n2_;(try clear hb);(try clear hb2);(try clear hk);(try clear hi))|((with_reducible refine gate_builtin (b:=.append) (xs:=#[.tmp 15,.tmp 22]) rfl ?_);at_builtin;refine Kd.R_append k61 (w0:=w) w.heap.size rfl (.tmp 15) (.tmp 22) 27 61 (.agg #[(.int .u8 0),(.int .u8 0),(.int .u8 0),(.int .u8 0),(.int .u8 0),(.int .u8 0)]) 6 rfl Try.underlying27 info61 rfl (by decide) (by omega) u5 x5_1 (⟨t107,t108,t109,t110,t111,t112⟩:S61) [.int .u8 t107,.int .u8 t108,.int .u8 t109,.int .u8 t110,.int .u8 t111,.int .u8 t112] (fun _=>True) (fun _=>False) rfl rfl ?aP (fun _ hk=>hk.elim) ?aF ?aO ?aB ?aS ?aL ?_;(case aP=>exact k61_mkM _ _ _ (⟨t107,t108,t109,t110,t111,t112⟩:S61));(case aB=>exact zq1);(case aF=>exact (fun _ _=>trivial));(case aO=>exact (by (with_reducible repeat (first|apply Kd.R_alloc|apply Kd.R_drewN|apply Kd.R_drew));exact HO_5.out));(case aS=>exact (below_size zq1));(case aL=>have:=LMc12.out;omega);intro v114 w15 ho hb hg hat;rw [← Ny113.out] at ho;have n0_:=am (blk_grown (g:=gb101) (o:=.cells #[.slice (some ad106) l0_0.length c0_0,.slice A0_1 l0_1.length c0_1] 33 (0,0)) zq4 hg (Kd.R_ne HO_5.out BK101.out (by decide)));have n1_:=am (hb);have n2_:=am (ho);clear BK101;clear HB;clear HO_5;have BK101:=n0_;have HB:=n1_;have HO115:=n2_;clear n0_ n1_ n2_;clear ho hb hg hat))
         go_roundg k1
         case measure=>have:=HK1.out;omega
         case rel=>exact ⟨(y113),(wrap64 (x11_1 + 1)),zq3,H',⟨by have:=HK1.out;omega⟩,⟨by (with_reducible repeat (first|apply Kd.R_alloc|apply Kd.R_drewN|apply Kd.R_drew));exact HO115.out⟩,⟨by (with_reducible repeat (first|refine blk_drewN ?_ _|refine blk_drew ?_|refine blk_alloc ?_ _));exact BK101.out⟩,⟨by repeat (first|(with_reducible first|exact HB.out|apply below_alloc|apply pw_below_drewN|apply below_drew1|refine below_set ?_ GE101.out)|exact HB.out)⟩⟩
        ·rw [if_neg c12] at H;exact absurd H (by simp)
       ·rw [if_neg c10] at H;exact absurd H (by simp)
      ·rw [if_neg c9] at H;exact absurd H (by simp)
     ·rw [if_neg c8] at H;exact absurd H (by simp)
    ·rw [if_neg c7] at H;exact absurd H (by simp)
   ·rw [if_neg c6] at H;have c6b0:decide (x11_1 < (l1.length:Int))=false:=decide_eq_false c6;clear c6;obtain rfl:=Option.some.inj H
    go_wp2
    go_ret
    exact ⟨_,by first|rfl|(simp [errW_none,errW_some,IntKind.wrap_i64,wrap64];done)|(simp [errW_none,errW_some] <;> rfl)|(simp [*,errW_none,errW_some] <;> rfl),by (with_reducible repeat (first|apply Kd.R_alloc|apply Kd.R_drewN|apply Kd.R_drew));exact HO_5.out,by repeat (first|(with_reducible first|exact HB.out|apply below_alloc|apply pw_below_drewN|apply below_drew1|refine below_set ?_ GE101.out)|exact HB.out)⟩
end Go.Proofs.Ytgfknljhogfeaaa.G
end

section
namespace Go.Proofs.Ytgfknljhogfeaaa.G
open Go.RowKit Go.Proofs.YtgfknljhogfeaaaW.PrintWords Go.Proofs.YtgfknljhogfeaaaW.PrintLast Go.Proofs.YtgfknljhogfeaaaW.PrintMore
attribute [local go_sem] max2_int min2_int max_two min_two max_three min_three max_four min_four
set_option linter.unusedVariables false
set_option linter.unusedSimpArgs false
def impl_sightsApart.to (l0 l1:List S61):Nat→Nat
 | 0=>0
 | i + 1=>impl_sightsApart.to l0 l1 i + difN (arrL61 (rd_T61 l0 (i:Int))) (arrL61 (rd_T61 l1 (i:Int))) 6
theorem impl_sightsApart.to_le (l0 l1:List S61):∀ i,impl_sightsApart.to l0 l1 i≤6 * i
 | 0=>Nat.le_refl _
 | i + 1=>by
  have h1:=impl_sightsApart.to_le l0 l1 i;have h2:=difN_le (arrL61 (rd_T61 l0 (i:Int))) (arrL61 (rd_T61 l1 (i:Int))) 6
  unfold impl_sightsApart.to
  omega
theorem impl_sightsApart.unl {xs ys:List Int} (h:xs.length≤ys.length) (h1:xs.length≤100):impl_unlike.f 200 xs ys=some ((difN xs ys xs.length:Nat):Int):=by
 have go:∀ d i k:Nat,i + d=xs.length→d < k→impl_unlike.l0 k ys ((difN xs ys i:Nat):Int) xs (xs.length:Int) (i:Int)=some ((difN xs ys xs.length:Nat):Int):=by
  intro d
  induction d with
  | zero =>
   intro i k hi hk;obtain ⟨k,rfl⟩:∃ m,k=m + 1:=⟨k - 1,by omega⟩
   obtain rfl:i=xs.length:=by omega
   rw [impl_unlike.l0,if_neg (by omega)]
  | succ d ih =>
   intro i k hi hk;obtain ⟨k,rfl⟩:∃ m,k=m + 1:=⟨k - 1,by omega⟩;have hle:=difN_le xs ys i;have e1:=ih (i + 1) k (by omega) (by omega)
   have ed:difN xs ys (i + 1)=difN xs ys i + if xs.getD i 0=ys.getD i 0 then 0 else 1:=rfl
   have r1:rd xs (i:Int)=xs.getD i 0:=rfl;have r2:rd ys (i:Int)=ys.getD i 0:=rfl;rw [impl_unlike.l0,if_pos (by omega),if_pos (by omega),if_pos (by omega),if_pos (by omega),r1,r2,show wrap64 ((i:Int) + 1)=((i + 1:Nat):Int) from by unfold wrap64;omega]
   by_cases he:xs.getD i 0=ys.getD i 0
   ·rw [ed,if_pos he] at e1;rw [if_pos he.symm];exact e1
   ·rw [ed,if_neg he] at e1;rw [if_neg (fun h_=>he h_.symm),show wrap64 (((difN xs ys i:Nat):Int) + 1)=((difN xs ys i + 1:Nat):Int) from by unfold wrap64;omega];exact e1
 exact go xs.length 0 200 (by omega) (by omega)
def impl_sightsApart.f (l0 l1:List S61):Option Int:=if l0.length≤l1.length∧l0.length≤1000000000000 then some (((impl_sightsApart.to l0 l1 l0.length:Nat)):Int) else none
set_option maxHeartbeats 4000000 in
theorem impl_sightsApart.calls (A0:Option Addr) (c0:Nat) (l0:List (S61)) (A1:Option Addr) (c1:Nat) (l1:List (S61)) (r:Int) (w:World) (hr0:Kd.C k61 w A0 l0.length l0) (hc0:l0.length≤c0) (hr1:Kd.C k61 w A1 l1.length l1) (hc1:l1.length≤c1) (h:impl_sightsApart.f l0 l1=some r) :
  Calls Try.prog 56 #[.slice A0 l0.length c0,.slice A1 l1.length c1] w fun e w'=>e=.returned (.int .i64 r)∧Drawn0 w w':=by
 unfold impl_sightsApart.f at h
 by_cases hc:l0.length≤l1.length∧l0.length≤1000000000000
 ·rw [if_pos hc] at h;obtain rfl:=Option.some.inj h;obtain ⟨hca,hcb⟩:=hc;clear h;have hl9:l0.length≤9223372036854775807:=hr0.2.1;have hl8:l1.length≤9223372036854775807:=hr1.2.1;have HR0:=am hr0;have HR1:=am hr1;clear hr0 hr1;generalize hn:l0.length=m at *;have Hn:=am hn;clear hn;generalize hn1:l1.length=m1 at *;have Hn1:=am hn1;clear hn1
  go_enter Try.func56,Try.ntmps56
  go_wp2
  go_loopg [5,9] (m + 1) (fun gg s5 s9 wr=>∃ i:Nat,i≤m∧m - i≤gg∧s9=.int .i64 i∧s5=.int .i64 ((impl_sightsApart.to l0 l1 i:Nat))∧Drawn0 w wr)
  case atStart=>exact ⟨0,by omega,by omega,rfl,rfl,by repeat (first|exact Drawn0.refl _|apply Drawn0.step)⟩
  case round =>
   obtain ⟨i,hi,hg,rfl,rfl,⟨m2,rfl⟩⟩:=hrel
   by_cases hlt:i < m
   ·have hltz:(i:Int) < (m:Int):=by omega
    have hltz1:(i:Int) < (m1:Int):=by omega
    obtain ⟨ad,e0,hcell⟩:=rowA61 HR0.out hlt;cases e0;obtain ⟨ad1,e1,hcell1⟩:=rowA61 HR1.out (show i < m1 by omega);cases e1
    have HU:Aside0 (∀ q:Nat,Calls Try.prog 84 #[.slice (some (ad.add (i * 6))) 6 6,.slice (some (ad1.add (i * 6))) 6 6] (w.drewN q) fun e w'=>e=.returned (.int .i64 ((difN (arrL61 (rd_T61 l0 (i:Int))) (arrL61 (rd_T61 l1 (i:Int))) 6:Nat):Int))∧Drawn0 (w.drewN q) w'):=⟨fun q =>
     impl_unlike.calls 200 (some (ad.add (i * 6))) 6 (arrL61 (rd_T61 l0 (i:Int))) (some (ad1.add (i * 6))) 6 (arrL61 (rd_T61 l1 (i:Int))) _ _ (Kd.C_drewN (cells_C (fun j hj=>hcell j hj) (by rw [arrL61_len];omega)) q) (Nat.le_refl _) (Kd.C_drewN (cells_C (fun j hj=>hcell1 j hj) (by rw [arrL61_len];omega)) q) (Nat.le_refl _) (impl_sightsApart.unl (Nat.le_refl _) (by rw [arrL61_len];omega))⟩
    have HT:=am (show impl_sightsApart.to l0 l1 (i + 1)=impl_sightsApart.to l0 l1 i + difN (arrL61 (rd_T61 l0 (i:Int))) (arrL61 (rd_T61 l1 (i:Int))) 6 from rfl);have hM:=impl_sightsApart.to_le l0 l1 i;have hD:=difN_le (arrL61 (rd_T61 l0 (i:Int))) (arrL61 (rd_T61 l1 (i:Int))) 6;clear hcell hcell1;generalize impl_sightsApart.to l0 l1 i=q at *;generalize difN (arrL61 (rd_T61 l0 (i:Int))) (arrL61 (rd_T61 l1 (i:Int))) 6=d at *
    have hb:(q:Int) + (d:Int)≤9223372036854775807:=by omega
    have HW:=am (show wrap64 ((q:Int) + (d:Int))=((q + d:Nat):Int) from by unfold wrap64;omega);clear hM hD
    go_wp2_with (first|(go_at_call 84;refine (HU.out _).mono ?_;rintro e w' ⟨rfl,⟨nd,rfl⟩⟩;(try first|exact ⟨rfl,_,World.drewN_drewN _ _ _⟩|exact ⟨rfl,_,Eq.trans (World.drewN_drewN _ _ _) (congrArg (World.drewN _) (Nat.add_assoc _ _ _))⟩)))
    repeat (go_quiet (first|(go_at_call 84;refine (HU.out _).mono ?_;rintro e w' ⟨rfl,⟨nd,rfl⟩⟩;(try first|exact ⟨rfl,_,World.drewN_drewN _ _ _⟩|exact ⟨rfl,_,Eq.trans (World.drewN_drewN _ _ _) (congrArg (World.drewN _) (Nat.add_assoc _ _ _))⟩)));try go_wp2)
    go_roundg (m - (i + 1))
    case measure=>omega
    case rel=>exact ⟨i + 1,by omega,by omega,by go_num,by rw [HT.out];first|rfl|go_num|(congr 1;omega),by repeat (first|exact Drawn0.refl _|apply Drawn0.step)⟩
   ·have:i=m:=by omega
    subst this
    go_wp2
    go_ret
    exact ⟨by first|rfl|simp,by repeat (first|exact Drawn0.refl _|apply Drawn0.step)⟩
 ·rw [if_neg hc] at h;cases h
end Go.Proofs.Ytgfknljhogfeaaa.G
end

section
namespace Go.Proofs.Ytgfknljhogfeaaa.G
open Go.RowKit Go.Proofs.YtgfknljhogfeaaaW.PrintWords Go.Proofs.YtgfknljhogfeaaaW.PrintLast Go.Proofs.YtgfknljhogfeaaaW.PrintMore
attribute [local go_sem] max2_int min2_int max_two min_two max_three min_three max_four min_four
set_option linter.unusedVariables false
set_option linter.unusedSimpArgs false
def impl_Code_candidates.l0:Nat→List (S61)→Int→List Int→List (List Int)→Int→Int→List (S68)→List (List Int)→Option (List Int)
 | 0,_,_,_,_,_,_,_,_=>none
 | k + 1,x1,x2,x7,x12,x13,x14,x102000,x102001=>if x14 < x13 then (if 0≤x14 then (if x14 < (x12.length:Int) then ((impl_Code_sights.f k x102000 x102001 (rd_L2 x12 x14)).bind fun t106=>((impl_sightsApart.f t106 x1).bind fun t109=>(if t109≤x2 then (if x7.length < 17592186044416 then (impl_Code_candidates.l0 k x1 x2 (x7 ++ [x14]) x12 x13 (wrap64 (x14 + 1)) x102000 x102001) else (none)) else (impl_Code_candidates.l0 k x1 x2 x7 x12 x13 (wrap64 (x14 + 1)) x102000 x102001)))) else (none)) else (none)) else (some x7)
def impl_Code_candidates.f (k:Nat) (l0_0:List (S68)) (l0_1:List (List Int)) (l1:List (S61)) (a2:Int):Option (List Int):=impl_Code_candidates.l0 k l1 a2 (([]:List Int)) l0_1 (l0_1.length:Int) 0 l0_0 l0_1
set_option maxHeartbeats 8000000 in
set_option maxRecDepth 100000 in
theorem impl_Code_candidates.calls (k:Nat) (A0_0:Option Addr) (c0_0:Nat) (l0_0:List (S68)) (A0_1:Option Addr) (c0_1:Nat) (l0_1:List (List Int)) (A1:Option Addr) (c1:Nat) (l1:List (S61)) (a2:Int) (r:List Int) (w:World) (hr0_0:Kd.C k68 w A0_0 l0_0.length l0_0) (hc0_0:l0_0.length≤c0_0) (hr0_1:Kd.C (Kd.slice 5 (Kd.int .u8)) w A0_1 l0_1.length l0_1) (hc0_1:l0_1.length≤c0_1) (hr1:Kd.C k61 w A1 l1.length l1) (hc1:l1.length≤c1) (h:impl_Code_candidates.f k l0_0 l0_1 l1 a2=some r) :
  Calls Try.prog 61 #[.agg #[.slice A0_0 l0_0.length c0_0,.slice A0_1 l0_1.length c0_1],.slice A1 l1.length c1,.int .i64 a2] w fun e w'=>∃ v0_:Value,e=.returned (v0_)∧Kd.R (Kd.int .i64) 2 w' w.heap.size (fun _=>True) v0_ r∧Below w.heap.size w w':=by
 have hu33:=Try.underlying33;have HR0_0:=am hr0_0;have HC0_0:=am hc0_0;clear hr0_0 hc0_0;have HR0_1:=am hr0_1;have HC0_1:=am hc0_1;clear hr0_1 hc0_1;have HR1:=am hr1;have HC1:=am hc1;clear hr1 hc1;have HB:=am (Below.refl w.heap.size w);have H:(impl_Code_candidates.l0 k l1 a2 (([]:List Int)) l0_1 (l0_1.length:Int) 0 l0_0 l0_1)=some r:=h;clear h;obtain ⟨y102,hy102⟩:∃ y_:List Int,y_=(([]:List Int)):=⟨_,rfl⟩
 replace H:(impl_Code_candidates.l0 k l1 a2 y102 l0_1 (l0_1.length:Int) 0 l0_0 l0_1)=some r:=by first|(rw [hy102];with_reducible exact H)|(have H2_:=(Option.bind_some _ _).symm.trans H;rw [hy102];with_reducible exact H2_)|(have H2_:=(Option.bind_some _ _).symm.trans H;with_reducible exact H2_)|with_reducible exact H|(rw [hy102];exact H)|exact H
 have Ny102:=am hy102;clear hy102;have H':=am H;clear H
 go_enter Try.func61,Try.ntmps61
 go_wp2_with (first|((with_reducible refine gate_dst (N:=3) rfl ?_);refine box_event ?hg (N:=3) ?hd (cs:=#[.slice A0_0 l0_0.length c0_0,.slice A0_1 l0_1.length c0_1]) (t:=33) ?hr ?_;(case hd=>rfl);(case hg=>rfl);(case hr=>exact zq15);intro gb101 hg w4 hbox hb;have n0_:=am (below_step zq2 hb);have n1_:=am (hbox);have n2_:=am ((by rw [hg];exact (below_size zq2):w.heap.size≤gb101));have n3_:=am ((by rw [hg];exact (below_size zq2):w.heap.size≤gb101));clear HB;have HB:=n0_;have BK101:=n1_;have GW101:=n2_;have GE101:=n3_;clear n0_ n1_ n2_ n3_;clear hb hbox hg)|((with_reducible refine gate_dst (N:=10) rfl ?_);refine Kd.R_lit (Kd.int .i64) _ 2 ?hg (N:=10) ?hd (xs:=([]:List Int)) (inner:=[]) (ok:=fun _=>True) (okp:=fun _=>True) ?hr ?hp (fun _ hk=>hk) trivial (Below.refl _ _) (Nat.le_refl _) (by simp) ?_;(case hd=>rfl);(case hg=>rfl);(case hr=>exact zq15);(case hp=>exact (Reps.none _ _));intro v103 w5 ho6 hb hg_ hnew_;clear hg_ hnew_;(first|rw [← Ny102.out] at ho6|(simp only [Int.reduceToNat] at ho6;rw [← Ny102.out] at ho6));have n0_:=am (Kd.R_lower ho6 (below_size zq1));have n1_:=am (blk_below (g:=gb101) (o:=.cells #[.slice A0_0 l0_0.length c0_0,.slice A0_1 l0_1.length c0_1] 33 (0,0)) zq4 hb);have n2_:=am (below_step zq1 hb);clear BK101;clear HB;have HO104:=n0_;have BK101:=n1_;have HB:=n2_;clear n0_ n1_ n2_;clear hb ho6;have hcz7_0:w5.cell? ⟨gb101,0,none⟩=some (.slice A0_0 l0_0.length c0_0):=(blk_cell BK101.out 0).trans rfl;have hcz7_1:w5.cell? ⟨gb101,1,none⟩=some (.slice A0_1 l0_1.length c0_1):=(blk_cell BK101.out 1).trans rfl;have hfz7_0:=blk_frozen BK101.out 0;have hfz7_1:=blk_frozen BK101.out 1))
 go_loopg [7,14] k (fun kq v7 v14 w'=>∃ (x7_1:List Int) (x14_1:Int),v14=.int .i64 x14_1∧Aside0 (impl_Code_candidates.l0 kq l1 a2 x7_1 l0_1 (l0_1.length:Int) x14_1 l0_0 l0_1=some r)∧Aside0 (kq≤k)∧Aside0 (Kd.R (Kd.int .i64) 2 w' w.heap.size (fun _=>True) v7 x7_1)∧Aside0 (w'.heap[gb101]?=some (.cells #[(.slice A0_0 l0_0.length c0_0),(.slice A0_1 l0_1.length c0_1)] 33 (0,0)))∧Aside0 (Below w.heap.size w w'))
 case atStart=>exact ⟨(y102),(0),zq3,H',⟨Nat.le_refl _⟩,⟨by (with_reducible repeat (first|apply Kd.R_alloc|apply Kd.R_drewN|apply Kd.R_drew));exact HO104.out⟩,⟨by (with_reducible repeat (first|refine blk_drewN ?_ _|refine blk_drew ?_|refine blk_alloc ?_ _));exact BK101.out⟩,⟨by repeat (first|(with_reducible first|exact HB.out|apply below_alloc|apply pw_below_drewN|apply below_drew1|refine below_set ?_ GE101.out)|exact HB.out)⟩⟩
 case round =>
  clear H';(try clear c1);(try clear p2);(try clear c6);(try clear hcz7_0);(try clear hcz7_1);(try clear hfz7_0);(try clear hfz7_1);obtain ⟨x7_1,x14_1,rfl,HA,HK1,HO_7,BK101,HB⟩:=hrel
  cases gk with
  | zero=>exact absurd HA.out (by simp [impl_Code_candidates.l0])
  | succ k1 =>
   have H:=HA.out;clear HA;simp only [impl_Code_candidates.l0] at H
   by_cases c8:x14_1 < (l0_1.length:Int)
   ·rw [if_pos c8] at H;have c8b0:decide (x14_1 < (l0_1.length:Int))=true:=decide_eq_true c8;clear c8
    by_cases c9:0≤x14_1
    ·rw [if_pos c9] at H;have c9b0:decide (0≤x14_1)=true:=decide_eq_true c9;clear c9
     by_cases c10:x14_1 < (l0_1.length:Int)
     ·rw [if_pos c10] at H;have c10b0:decide (x14_1 < (l0_1.length:Int))=true:=decide_eq_true c10;clear c10;replace H:=Option.bind_eq_some_iff.mp H;obtain ⟨t106,A110,H⟩:=H;replace H:((impl_sightsApart.f t106 l1).bind fun t109=>(if t109≤a2 then (if x7_1.length < 17592186044416 then (impl_Code_candidates.l0 k1 l1 a2 (x7_1 ++ [x14_1]) l0_1 (l0_1.length:Int) (wrap64 (x14_1 + 1)) l0_0 l0_1) else (none)) else (impl_Code_candidates.l0 k1 l1 a2 x7_1 l0_1 (l0_1.length:Int) (wrap64 (x14_1 + 1)) l0_0 l0_1)))=some r:=H;have A11:=am A110;clear A110;replace H:=Option.bind_eq_some_iff.mp H;obtain ⟨t109,A120,H⟩:=H;replace H:(if t109≤a2 then (if x7_1.length < 17592186044416 then (impl_Code_candidates.l0 k1 l1 a2 (x7_1 ++ [x14_1]) l0_1 (l0_1.length:Int) (wrap64 (x14_1 + 1)) l0_0 l0_1) else (none)) else (impl_Code_candidates.l0 k1 l1 a2 x7_1 l0_1 (l0_1.length:Int) (wrap64 (x14_1 + 1)) l0_0 l0_1))=some r:=H;have A12:=am A120;clear A120
      by_cases c13:t109≤a2
      ·rw [if_pos c13] at H;have c13b0:decide (t109≤a2)=true:=decide_eq_true c13;clear c13
       by_cases c14:x7_1.length < 17592186044416
       ·rw [if_pos c14] at H;have LMc14:=am c14;clear c14;obtain ⟨y110,hy110⟩:∃ y_:List Int,y_=(x7_1 ++ [x14_1]):=⟨_,rfl⟩
        replace H:(impl_Code_candidates.l0 k1 l1 a2 y110 l0_1 (l0_1.length:Int) (wrap64 (x14_1 + 1)) l0_0 l0_1)=some r:=by first|(rw [hy110];with_reducible exact H)|(have H2_:=(Option.bind_some _ _).symm.trans H;rw [hy110];with_reducible exact H2_)|(have H2_:=(Option.bind_some _ _).symm.trans H;with_reducible exact H2_)|with_reducible exact H|(rw [hy110];exact H)|exact H
        have Ny110:=am hy110;clear hy110;have H':=am H;clear H;have p105:0≤(x14_1:Int):=of_decide_eq_true zq9;have q105:x14_1 < (l0_1.length:Int):=of_decide_eq_true zq9;obtain ⟨ad105,A105_0,c105_0,e105,hx105_0,hl105_0,hi105_0⟩:=at_L2 HR0_1.out x14_1 p105 q105;cases e105;replace hx105_0:=(HB.out.cell (World.block_lt_of_cell? w _ hx105_0)).trans hx105_0;have HR105_0:=am hi105_0;have HC105_0:=am hl105_0;clear hi105_0 hl105_0;replace p105:=eq_true p105;replace q105:=eq_true q105;have hcz15_0:wr.cell? ⟨gb101,0,none⟩=some (.slice A0_0 l0_0.length c0_0):=(blk_cell BK101.out 0).trans rfl;have hcz15_1:wr.cell? ⟨gb101,1,none⟩=some (.slice (some ad105) l0_1.length c0_1):=(blk_cell BK101.out 1).trans rfl;have hfz15_0:=blk_frozen BK101.out 0;have hfz15_1:=blk_frozen BK101.out 1
        go_wp2_with (first|((with_reducible refine gate_callee (f:=47) rfl ?_);refine goesL_ (some 21) rfl rfl Try.func47 zq16 rfl #[.agg #[.slice A0_0 l0_0.length c0_0,.slice (some ad105) l0_1.length c0_1],.slice A105_0 (rd_L2 l0_1 x14_1).length c105_0] rfl zq0 ?_;(with_reducible refine (impl_Code_sights.calls k1 _ _ l0_0 _ _ l0_1 _ _ (rd_L2 l0_1 x14_1) t106 _ ?side1 ?side2 ?side3 ?side4 ?side5 ?side6 A11.out).mono ?_);(case side1=>exact zq6);(case side2=>exact HC0_0.out);(case side3=>exact zq7);(case side4=>exact HC0_1.out);(case side5=>exact zq53);(case side6=>exact HC105_0.out);rintro e w16 ⟨v107,rfl,ho0,hb⟩;refine ⟨_,rfl,?_⟩;have n0_:=am (Kd.R_below zq46 hb);have n1_:=am (Kd.R_lower ho0 (below_size zq1));have n2_:=am (blk_below (g:=gb101) (o:=.cells #[.slice A0_0 l0_0.length c0_0,.slice (some ad105) l0_1.length c0_1] 33 (0,0)) zq4 hb);have n3_:=am (below_step zq1 hb);clear HO_7;clear BK101;clear HB;have HO_7:=n0_;have HO108:=n1_;have BK101:=n2_;have HB:=n3_;clear n0_ n1_ n2_ n3_;(try clear hb);(try clear hb2);(try clear hk);(try clear hi);(try clear ho0);obtain ⟨Ao17,co17,eo17⟩:=Kd.R_slice HO108.out;subst eo17)|((with_reducible refine gate_callee (f:=56) rfl ?_);refine goesL_ (some 23) rfl rfl Try.func56 zq16 rfl #[.slice Ao17 t106.length co17,.slice A1 l1.length c1] rfl zq0 ?_;(with_reducible refine (impl_sightsApart.calls _ _ t106 _ _ l1 t109 _ ?side1 ?side2 ?side3 ?side4 A12.out).mono ?_);(case side1=>exact zq31);(case side2=>exact (Kd.R_reads' HO108.out).2.1);(case side3=>exact zq14);(case side4=>exact HC1.out);rintro e w' ⟨rfl,⟨nd,rfl⟩⟩;refine ⟨_,rfl,?_⟩)|((with_reducible refine gate_builtin (b:=.append) (xs:=#[.tmp 26,.tmp 28]) rfl ?_);at_builtin;refine Kd.R_append (Kd.int .i64) (w0:=w) w.heap.size rfl (.tmp 26) (.tmp 28) 49 2 (.int .i64 0) 8 rfl Try.underlying49 info2 rfl (by decide) (by omega) u7 x7_1 x14_1 [.int .i64 x14_1] (fun _=>True) (fun _=>False) rfl rfl ?aP (fun _ hk=>hk.elim) ?aF ?aO ?aB ?aS ?aL ?_;(case aP=>exact rfl);(case aB=>exact zq1);(case aF=>exact (fun _ _=>trivial));(case aO=>exact zq46);(case aS=>exact (below_size zq1));(case aL=>have:=LMc14.out;omega);intro v111 w18 ho hb hg hat;rw [← Ny110.out] at ho;have n0_:=am (blk_grown (g:=gb101) (o:=.cells #[.slice A0_0 l0_0.length c0_0,.slice (some ad105) l0_1.length c0_1] 33 (0,0)) zq4 hg (Kd.R_ne HO_7.out BK101.out (by decide)));have n1_:=am (Kd.R_over' (by (with_reducible repeat (first|apply Kd.R_alloc|apply Kd.R_drewN|apply Kd.R_drew));exact HO108.out) (Kd.R_typed zq46) (by decide) hg);have n2_:=am (hb);have n3_:=am (ho);clear BK101;clear HO108;clear HB;clear HO_7;have BK101:=n0_;have HO108:=n1_;have HB:=n2_;have HO112:=n3_;clear n0_ n1_ n2_ n3_;clear ho hb hg hat))
        go_roundg k1
        case measure=>have:=HK1.out;omega
        case rel=>exact ⟨(y110),(wrap64 (x14_1 + 1)),zq3,H',⟨by have:=HK1.out;omega⟩,⟨by (with_reducible repeat (first|apply Kd.R_alloc|apply Kd.R_drewN|apply Kd.R_drew));exact HO112.out⟩,⟨by (with_reducible repeat (first|refine blk_drewN ?_ _|refine blk_drew ?_|refine blk_alloc ?_ _));exact BK101.out⟩,⟨by repeat (first|(with_reducible first|exact HB.out|apply below_alloc|apply pw_below_drewN|apply below_drew1|refine below_set ?_ GE101.out)|exact HB.out)⟩⟩
       ·rw [if_neg c14] at H;exact absurd H (by simp)
      ·rw [if_neg c13] at H;have c13b0:decide (t109≤a2)=false:=decide_eq_false c13;clear c13;have H':=am H;clear H;have p105:0≤(x14_1:Int):=of_decide_eq_true zq9;have q105:x14_1 < (l0_1.length:Int):=of_decide_eq_true zq9;obtain ⟨ad105,A105_0,c105_0,e105,hx105_0,hl105_0,hi105_0⟩:=at_L2 HR0_1.out x14_1 p105 q105;cases e105;replace hx105_0:=(HB.out.cell (World.block_lt_of_cell? w _ hx105_0)).trans hx105_0;have HR105_0:=am hi105_0;have HC105_0:=am hl105_0;clear hi105_0 hl105_0;replace p105:=eq_true p105;replace q105:=eq_true q105;have hcz19_0:wr.cell? ⟨gb101,0,none⟩=some (.slice A0_0 l0_0.length c0_0):=(blk_cell BK101.out 0).trans rfl;have hcz19_1:wr.cell? ⟨gb101,1,none⟩=some (.slice (some ad105) l0_1.length c0_1):=(blk_cell BK101.out 1).trans rfl;have hfz19_0:=blk_frozen BK101.out 0;have hfz19_1:=blk_frozen BK101.out 1
       go_wp2_with (first|((with_reducible refine gate_callee (f:=47) rfl ?_);refine goesL_ (some 21) rfl rfl Try.func47 zq16 rfl #[.agg #[.slice A0_0 l0_0.length c0_0,.slice (some ad105) l0_1.length c0_1],.slice A105_0 (rd_L2 l0_1 x14_1).length c105_0] rfl zq0 ?_;(with_reducible refine (impl_Code_sights.calls k1 _ _ l0_0 _ _ l0_1 _ _ (rd_L2 l0_1 x14_1) t106 _ ?side1 ?side2 ?side3 ?side4 ?side5 ?side6 A11.out).mono ?_);(case side1=>exact zq6);(case side2=>exact HC0_0.out);(case side3=>exact zq7);(case side4=>exact HC0_1.out);(case side5=>exact zq53);(case side6=>exact HC105_0.out);rintro e w20 ⟨v107,rfl,ho0,hb⟩;refine ⟨_,rfl,?_⟩;have n0_:=am (Kd.R_below zq46 hb);have n1_:=am (Kd.R_lower ho0 (below_size zq1));have n2_:=am (blk_below (g:=gb101) (o:=.cells #[.slice A0_0 l0_0.length c0_0,.slice (some ad105) l0_1.length c0_1] 33 (0,0)) zq4 hb);have n3_:=am (below_step zq1 hb);clear HO_7;clear BK101;clear HB;have HO_7:=n0_;have HO108:=n1_;have BK101:=n2_;have HB:=n3_;clear n0_ n1_ n2_ n3_;(try clear hb);(try clear hb2);(try clear hk);(try clear hi);(try clear ho0);obtain ⟨Ao21,co21,eo21⟩:=Kd.R_slice HO108.out;subst eo21)|((with_reducible refine gate_callee (f:=56) rfl ?_);refine goesL_ (some 23) rfl rfl Try.func56 zq16 rfl #[.slice Ao21 t106.length co21,.slice A1 l1.length c1] rfl zq0 ?_;(with_reducible refine (impl_sightsApart.calls _ _ t106 _ _ l1 t109 _ ?side1 ?side2 ?side3 ?side4 A12.out).mono ?_);(case side1=>exact zq31);(case side2=>exact (Kd.R_reads' HO108.out).2.1);(case side3=>exact zq14);(case side4=>exact HC1.out);rintro e w' ⟨rfl,⟨nd,rfl⟩⟩;refine ⟨_,rfl,?_⟩))
       go_roundg k1
       case measure=>have:=HK1.out;omega
       case rel=>exact ⟨(x7_1),(wrap64 (x14_1 + 1)),zq3,H',⟨by have:=HK1.out;omega⟩,⟨by (with_reducible repeat (first|apply Kd.R_alloc|apply Kd.R_drewN|apply Kd.R_drew));exact HO_7.out⟩,⟨by (with_reducible repeat (first|refine blk_drewN ?_ _|refine blk_drew ?_|refine blk_alloc ?_ _));exact BK101.out⟩,⟨by repeat (first|(with_reducible first|exact HB.out|apply below_alloc|apply pw_below_drewN|apply below_drew1|refine below_set ?_ GE101.out)|exact HB.out)⟩⟩
     ·rw [if_neg c10] at H;exact absurd H (by simp)
    ·rw [if_neg c9] at H;exact absurd H (by simp)
   ·rw [if_neg c8] at H;have c8b0:decide (x14_1 < (l0_1.length:Int))=false:=decide_eq_false c8;clear c8;obtain rfl:=Option.some.inj H
    go_wp2
    go_ret
    exact ⟨_,by first|rfl|(simp [errW_none,errW_some,IntKind.wrap_i64,wrap64];done)|(simp [errW_none,errW_some] <;> rfl)|(simp [*,errW_none,errW_some] <;> rfl),by (with_reducible repeat (first|apply Kd.R_alloc|apply Kd.R_drewN|apply Kd.R_drew));exact HO_7.out,by repeat (first|(with_reducible first|exact HB.out|apply below_alloc|apply pw_below_drewN|apply below_drew1|refine below_set ?_ GE101.out)|exact HB.out)⟩
end Go.Proofs.Ytgfknljhogfeaaa.G
end

section
namespace Go.Proofs.Ytgfknljhogfeaaa.G
open Go.RowKit Go.Proofs.YtgfknljhogfeaaaW.PrintWords Go.Proofs.YtgfknljhogfeaaaW.PrintLast Go.Proofs.YtgfknljhogfeaaaW.PrintMore
attribute [local go_sem] max2_int min2_int max_two min_two max_three min_three max_four min_four
set_option linter.unusedVariables false
set_option linter.unusedSimpArgs false
def impl_Code_isSeen.f (l0_0:List (S68)) (l0_1:List (List Int)) (l1:List (S61)):Option (Bool):=if (l0_1.length:Int)=0 then (some true) else (if 0 < (l0_1.length:Int) then (some ((l1.length:Int) == ((rd_L2 l0_1 0).length:Int))) else (none))
set_option maxHeartbeats 8000000 in
set_option maxRecDepth 100000 in
theorem impl_Code_isSeen.calls (A0_0:Option Addr) (c0_0:Nat) (l0_0:List (S68)) (A0_1:Option Addr) (c0_1:Nat) (l0_1:List (List Int)) (A1:Option Addr) (c1:Nat) (l1:List (S61)) (r:Bool) (w:World) (hr0_0:Kd.C k68 w A0_0 l0_0.length l0_0) (hc0_0:l0_0.length≤c0_0) (hr0_1:Kd.C (Kd.slice 5 (Kd.int .u8)) w A0_1 l0_1.length l0_1) (hc0_1:l0_1.length≤c0_1) (hr1:Kd.C k61 w A1 l1.length l1) (hc1:l1.length≤c1) (h:impl_Code_isSeen.f l0_0 l0_1 l1=some r) :
  Calls Try.prog 60 #[.agg #[.slice A0_0 l0_0.length c0_0,.slice A0_1 l0_1.length c0_1],.slice A1 l1.length c1] w fun e w'=>e=.returned (.bool r)∧Below w.heap.size w w':=by
 have hu33:=Try.underlying33;have HR0_0:=am hr0_0;have HC0_0:=am hc0_0;clear hr0_0 hc0_0;have HR0_1:=am hr0_1;have HC0_1:=am hc0_1;clear hr0_1 hc0_1;have HR1:=am hr1;have HC1:=am hc1;clear hr1 hc1;have HB:=am (Below.refl w.heap.size w);have H:(if (l0_1.length:Int)=0 then (some true) else (if 0 < (l0_1.length:Int) then (some ((l1.length:Int) == ((rd_L2 l0_1 0).length:Int))) else (none)))=some r:=h;clear h
 by_cases c3:(l0_1.length:Int)=0
 ·rw [if_pos c3] at H;have c3b0:((l0_1.length:Int) == 0)=true:=beq_iff_eq.mpr c3;have c3b1:((l0_1.length:Int) != 0)=false:=bne_eq_false_iff_eq.mpr c3;clear c3;obtain rfl:=Option.some.inj H
  go_enter Try.func60,Try.ntmps60
  go_wp2_with (first|((with_reducible refine gate_dst (N:=2) rfl ?_);(try (refine gate_guard (by rfl) ?_;dsimp only));refine box_event ?hg (N:=2) ?hd (cs:=#[.slice A0_0 l0_0.length c0_0,.slice A0_1 l0_1.length c0_1]) (t:=33) ?hr ?_;(case hd=>rfl);(case hg=>rfl);(case hr=>exact zq15);intro gb101 hg w4 hbox hb;have n0_:=am (below_step zq2 hb);have n1_:=am (hbox);have n2_:=am ((by rw [hg];exact (below_size zq2):w.heap.size≤gb101));have n3_:=am ((by rw [hg];exact (below_size zq2):w.heap.size≤gb101));clear HB;have HB:=n0_;have BK101:=n1_;have GW101:=n2_;have GE101:=n3_;clear n0_ n1_ n2_ n3_;clear hb hbox hg;have hcz5_0:w4.cell? ⟨gb101,0,none⟩=some (.slice A0_0 l0_0.length c0_0):=(blk_cell BK101.out 0).trans rfl;have hcz5_1:w4.cell? ⟨gb101,1,none⟩=some (.slice A0_1 l0_1.length c0_1):=(blk_cell BK101.out 1).trans rfl;have hfz5_0:=blk_frozen BK101.out 0;have hfz5_1:=blk_frozen BK101.out 1))
  go_ret
  exact ⟨by first|rfl|(simp [errW_none,errW_some,IntKind.wrap_i64,wrap64];done)|(simp [errW_none,errW_some] <;> rfl)|(simp [*,errW_none,errW_some] <;> rfl),by repeat (first|(with_reducible first|exact HB.out|apply below_alloc|apply pw_below_drewN|apply below_drew1|refine below_set ?_ GE101.out)|exact HB.out)⟩
 ·rw [if_neg c3] at H;have c3b0:((l0_1.length:Int) == 0)=false:=beq_eq_false_iff_ne.mpr c3;have c3b1:((l0_1.length:Int) != 0)=true:=bne_iff_ne.mpr c3
  have c3b2:¬ (l0_1=[]):=fun h_=>c3 (by rw [h_];rfl)
  by_cases c6:0 < (l0_1.length:Int)
  ·rw [if_pos c6] at H;have c6b0:decide (0 < (l0_1.length:Int))=true:=decide_eq_true c6;have c6b1:decide (0 < l0_1.length)=true:=decide_eq_true (by omega);clear c6;obtain rfl:=Option.some.inj H
   go_enter Try.func60,Try.ntmps60
   go_wp2_with (first|((with_reducible refine gate_dst (N:=2) rfl ?_);(try (refine gate_guard (by rfl) ?_;dsimp only));refine box_event ?hg (N:=2) ?hd (cs:=#[.slice A0_0 l0_0.length c0_0,.slice A0_1 l0_1.length c0_1]) (t:=33) ?hr ?_;(case hd=>rfl);(case hg=>rfl);(case hr=>exact zq15);intro gb101 hg w7 hbox hb;have n0_:=am (below_step zq2 hb);have n1_:=am (hbox);have n2_:=am ((by rw [hg];exact (below_size zq2):w.heap.size≤gb101));have n3_:=am ((by rw [hg];exact (below_size zq2):w.heap.size≤gb101));clear HB;have HB:=n0_;have BK101:=n1_;have GW101:=n2_;have GE101:=n3_;clear n0_ n1_ n2_ n3_;clear hb hbox hg;have hcz8_0:w7.cell? ⟨gb101,0,none⟩=some (.slice A0_0 l0_0.length c0_0):=(blk_cell BK101.out 0).trans rfl;have hcz8_1:w7.cell? ⟨gb101,1,none⟩=some (.slice A0_1 l0_1.length c0_1):=(blk_cell BK101.out 1).trans rfl;have hfz8_0:=blk_frozen BK101.out 0;have hfz8_1:=blk_frozen BK101.out 1;have p102:0≤(0:Int):=(by omega);have q102:0 < (l0_1.length:Int):=of_decide_eq_true zq9;obtain ⟨ad102,A102_0,c102_0,e102,hx102_0,hl102_0,hi102_0⟩:=at_L2 HR0_1.out 0 p102 q102;cases e102;have qi102:(0 < l0_1.length)=True:=eq_true (by omega);(try rw [show ((0:Int)).toNat=0 from rfl] at hx102_0);(try rw [Addr.add_zero'] at hx102_0);replace hx102_0:=(HB.out.cell (World.block_lt_of_cell? w _ hx102_0)).trans hx102_0;have HR102_0:=am hi102_0;have HC102_0:=am hl102_0;clear hi102_0 hl102_0;replace p102:=eq_true p102;replace q102:=eq_true q102))
   go_ret
   exact ⟨by first|rfl|(simp [errW_none,errW_some,IntKind.wrap_i64,wrap64];done)|(simp [errW_none,errW_some] <;> rfl)|(simp [*,errW_none,errW_some] <;> rfl),by repeat (first|(with_reducible first|exact HB.out|apply below_alloc|apply pw_below_drewN|apply below_drew1|refine below_set ?_ GE101.out)|exact HB.out)⟩
  ·rw [if_neg c6] at H;exact absurd H (by simp)
end Go.Proofs.Ytgfknljhogfeaaa.G
end

section
namespace Go.Proofs.Ytgfknljhogfeaaa.G
open Go.RowKit Go.Proofs.YtgfknljhogfeaaaW.PrintWords Go.Proofs.YtgfknljhogfeaaaW.PrintLast Go.Proofs.YtgfknljhogfeaaaW.PrintMore
attribute [local go_sem] max2_int min2_int max_two min_two max_three min_three max_four min_four
set_option linter.unusedVariables false
set_option linter.unusedSimpArgs false
def impl_size_uint8.f (l0:List Int):Option (Int):=some (l0.length:Int)
set_option maxHeartbeats 8000000 in
set_option maxRecDepth 100000 in
theorem impl_size_uint8.calls (A0:Option Addr) (c0:Nat) (l0:List Int) (r:Int) (w:World) (hr0:Kd.C (Kd.int .u8) w A0 l0.length l0) (hc0:l0.length≤c0) (h:impl_size_uint8.f l0=some r) :
  Calls Try.prog 110 #[.slice A0 l0.length c0] w fun e w'=>e=.returned (.int .i64 r)∧Drawn0 w w':=by
 have HR0:=am hr0;have HC0:=am hc0;clear hr0 hc0;have H:(some (l0.length:Int))=some r:=h;clear h;obtain rfl:=Option.some.inj H
 go_enter Try.func110,Try.ntmps110
 go_wp2
 go_ret
 exact ⟨by first|rfl|(simp only [IntKind.wrap_i64,wrap64];done)|(simp;done)|(simp [*];done),by repeat (first|exact Drawn0.refl _|apply Drawn0.step)⟩
end Go.Proofs.Ytgfknljhogfeaaa.G
end

section
namespace Go.Proofs.Ytgfknljhogfeaaa.G
open Go.RowKit Go.Proofs.YtgfknljhogfeaaaW.PrintWords Go.Proofs.YtgfknljhogfeaaaW.PrintLast Go.Proofs.YtgfknljhogfeaaaW.PrintMore
attribute [local go_sem] max2_int min2_int max_two min_two max_three min_three max_four min_four
set_option linter.unusedVariables false
set_option linter.unusedSimpArgs false
def impl_within.f (a0:Int) (a1:Int) (a2:Int):Option (Bool):=if a1≤a0 then (some (decide (a0≤a2))) else (some false)
set_option maxHeartbeats 8000000 in
set_option maxRecDepth 100000 in
theorem impl_within.calls (a0:Int) (a1:Int) (a2:Int) (r:Bool) (w:World) (h:impl_within.f a0 a1 a2=some r) :
  Calls Try.prog 45 #[.int .i64 a0,.int .i64 a1,.int .i64 a2] w fun e w'=>e=.returned (.bool r)∧Drawn0 w w':=by
 have H:(if a1≤a0 then (some (decide (a0≤a2))) else (some false))=some r:=h;clear h
 by_cases c4:a1≤a0
 ·rw [if_pos c4] at H;have c4b0:decide (a1≤a0)=true:=decide_eq_true c4;clear c4;obtain rfl:=Option.some.inj H
  go_enter Try.func45,Try.ntmps45
  go_wp2
  go_ret
  exact ⟨by first|rfl|(simp only [IntKind.wrap_i64,wrap64];done)|(simp;done)|(simp [*];done),by repeat (first|exact Drawn0.refl _|apply Drawn0.step)⟩
 ·rw [if_neg c4] at H;have c4b0:decide (a1≤a0)=false:=decide_eq_false c4;clear c4;obtain rfl:=Option.some.inj H
  go_enter Try.func45,Try.ntmps45
  go_wp2
  go_ret
  exact ⟨by first|rfl|(simp only [IntKind.wrap_i64,wrap64];done)|(simp;done)|(simp [*];done),by repeat (first|exact Drawn0.refl _|apply Drawn0.step)⟩
end Go.Proofs.Ytgfknljhogfeaaa.G
end

section
namespace Go.Proofs.Ytgfknljhogfeaaa.G
open Go.RowKit Go.Proofs.YtgfknljhogfeaaaW.PrintWords Go.Proofs.YtgfknljhogfeaaaW.PrintLast Go.Proofs.YtgfknljhogfeaaaW.PrintMore
attribute [local go_sem] max2_int min2_int max_two min_two max_three min_three max_four min_four
set_option linter.unusedVariables false
set_option linter.unusedSimpArgs false
def impl_Word_isWord_1.f (a0:Int) (a1:Int):Option (Bool):=some (decide ((wrap64 (a0))≥(mn a1 37)))
set_option maxHeartbeats 8000000 in
set_option maxRecDepth 100000 in
theorem impl_Word_isWord_1.calls (a0:Int) (a1:Int) (b1:Nat) (r:Bool) (w:World) (hb1:w.heap[b1]?=some (.cells #[.int .i64 a1] 2 (0,0))) (h:impl_Word_isWord_1.f a0 a1=some r) :
  Calls Try.prog 112 #[.int .u8 a0,.pointer (some ⟨b1,0,none⟩)] w fun e w'=>e=.returned (.bool r)∧Below w.heap.size w w':=by
 have BK1:=am hb1;clear hb1;have HB:=am (Below.refl w.heap.size w);have H:(some (decide ((wrap64 (a0))≥(mn a1 37))))=some r:=h;clear h;obtain ⟨ji3,hji3⟩:∃ j_:Int,(mn a1 37)=j_:=⟨_,rfl⟩
 replace H:(some (decide ((wrap64 (a0))≥(ji3))))=some r:=by first|(rw [hji3] at H;exact H)|(simp only [hji3] at H ⊢;exact H)
 (try (have hji3h:ji3≤37:=by (rw [← hji3];unfold mn;(repeat' split) <;> omega)));(try (have hji3g:ji3≤64:=by omega));have hji3_:(if 37 < a1 then 37 else a1)=ji3:=hji3;obtain rfl:=Option.some.inj H;have hcz4_0:w.cell? ⟨b1,0,none⟩=some (.int .i64 a1):=(blk_cell BK1.out 0).trans rfl;have hfz4_0:=blk_frozen BK1.out 0
 go_enter Try.func112,Try.ntmps112
 go_wp2
 go_ret
 exact ⟨by first|rfl|(simp [errW_none,errW_some,IntKind.wrap_i64,wrap64];done)|(simp [errW_none,errW_some] <;> rfl)|(simp only [← hji3];first|rfl|(simp [errW_none,errW_some] <;> rfl))|(simp [*,errW_none,errW_some] <;> rfl),by repeat (first|(with_reducible first|exact HB.out|apply below_alloc|apply pw_below_drewN|apply below_drew1|refine below_set ?_ GE1.out)|exact HB.out)⟩
end Go.Proofs.Ytgfknljhogfeaaa.G
end

section
namespace Go.Proofs.Ytgfknljhogfeaaa.G
open Go.RowKit Go.Proofs.YtgfknljhogfeaaaW.PrintWords Go.Proofs.YtgfknljhogfeaaaW.PrintLast Go.Proofs.YtgfknljhogfeaaaW.PrintMore
attribute [local go_sem] max2_int min2_int max_two min_two max_three min_three max_four min_four
set_option linter.unusedVariables false
set_option linter.unusedSimpArgs false
set_option maxHeartbeats 2000000 in
theorem slices_IndexFunc_Word_uint8.calls (A0:Option Addr) (c0:Nat) (l0:List (Int)) (g:Nat) (lb:Array Value) (eg:∀ args w,(callFunc g args).run Try.prog w=.ok (.enter g args) w) (p:Int→Bool) (w:World)
  (hr0:Kd.C (Kd.int .u8) w A0 l0.length l0) (hc0:l0.length≤c0)
  (hp:∀ W,Below w.heap.size w W→∀ x∈l0,Calls Try.prog g (#[.int .u8 x] ++ lb) W fun e w'=>e=.returned (.bool (p x))∧Below w.heap.size w w') :
  Calls Try.prog 114 #[.slice A0 l0.length c0,.func (.func g) #[] lb] w fun e w'=>e=.returned (.int .i64 (idxP p l0))∧Below w.heap.size w w':=by
 have hl:l0.length≤9223372036854775807:=hr0.2.1;have HR0:=am hr0;have HP:=am hp;clear hr0 hp;generalize hn:l0.length=n at *;have Hn:=am hn;clear hn
 go_enter Try.func114,Try.ntmps114
 go_wp2
 go_loopg [5,8] n (fun gg _ s8 wr=>∃ kk:Nat,kk≤n∧n - kk≤gg∧s8=.int .i64 kk∧Aside0 (Below w.heap.size w wr)∧Aside0 (∀ j x,j < kk→l0[j]?=some x→p x=false))
 case atStart=>exact ⟨0,Nat.zero_le _,by omega,rfl,⟨Below.refl _ w⟩,⟨fun j _ hj=>absurd hj (Nat.not_lt_zero _)⟩⟩
 case round =>
  obtain ⟨kk,hkk,hg,rfl,BW,AF⟩:=hrel
  by_cases hlt:kk < n
  ·have hltz:(kk:Int) < (n:Int):=by omega
   obtain ⟨ad,e0,hx0⟩:=Kd.at_int HR0.out (kk:Int) (by omega) (by omega);cases e0;simp only [Int.toNat_natCast] at hx0;(try rw [show ((Kd.int .u8)).sz=1 from rfl,Nat.mul_one,Nat.add_zero] at hx0);replace hx0:=(BW.out.cell (World.block_lt_of_cell? w _ hx0)).trans hx0
   have hm:l0[kk]?=some (rd l0 (kk:Int)):=by
    have h1:kk < l0.length:=by rw [Hn.out];exact hlt
    simp [rd,List.getD_eq_getElem?_getD,List.getElem?_eq_getElem h1]
   have hcall:=HP.out wr BW.out (rd l0 (kk:Int)) (List.mem_of_getElem? hm);generalize hy:rd l0 (kk:Int)=y at *;clear hy;have HM:=am hm;clear hm
   cases hq:p y with
   | true =>
    rw [hq] at hcall;have HQ:=am hq;clear hq
    go_wp2_with (go_at_fn g;refine hcall.mono ?_;rintro e w' ⟨rfl,hb'⟩)
    go_ret
    refine ⟨?_,hb'⟩;rw [idxP_hit HM.out HQ.out AF.out];rfl
   | false =>
    rw [hq] at hcall;have HQ:=am hq;clear hq
    go_wp2_with (go_at_fn g;refine hcall.mono ?_;rintro e w' ⟨rfl,hb'⟩)
    go_roundg (n - (kk + 1))
    case measure=>omega
    case rel =>
     refine ⟨kk + 1,by omega,by omega,by go_num,⟨hb'⟩,⟨fun j x hj hx=>?_⟩⟩
     by_cases e:j=kk
     ·subst e;rw [HM.out] at hx;cases hx;exact HQ.out
     ·exact AF.out j x (by omega) hx
  ·have hltz:¬ (kk:Int) < (n:Int):=by omega
   have:kk=n:=by omega
   subst this
   go_wp2
   go_ret
   refine ⟨?_,BW.out⟩
   rw [idxP_miss (fun x hx=>by
    obtain ⟨j,hj,rfl⟩:=List.mem_iff_getElem.1 hx
    exact AF.out j _ (by rw [← Hn.out];exact hj) (List.getElem?_eq_getElem hj))]
   rfl
end Go.Proofs.Ytgfknljhogfeaaa.G
end

section
namespace Go.Proofs.Ytgfknljhogfeaaa.G
open Go.RowKit Go.Proofs.YtgfknljhogfeaaaW.PrintWords Go.Proofs.YtgfknljhogfeaaaW.PrintLast Go.Proofs.YtgfknljhogfeaaaW.PrintMore
attribute [local go_sem] max2_int min2_int max_two min_two max_three min_three max_four min_four
set_option linter.unusedVariables false
set_option linter.unusedSimpArgs false
set_option maxHeartbeats 2000000 in
theorem slices_ContainsFunc_Word_uint8.calls (A0:Option Addr) (c0:Nat) (l0:List (Int)) (g:Nat) (lb:Array Value) (eg:∀ args w,(callFunc g args).run Try.prog w=.ok (.enter g args) w) (p:Int→Bool) (w:World)
  (hr0:Kd.C (Kd.int .u8) w A0 l0.length l0) (hc0:l0.length≤c0)
  (hp:∀ W,Below w.heap.size w W→∀ x∈l0,Calls Try.prog g (#[.int .u8 x] ++ lb) W fun e w'=>e=.returned (.bool (p x))∧Below w.heap.size w w') :
  Calls Try.prog 111 #[.slice A0 l0.length c0,.func (.func g) #[] lb] w fun e w'=>e=.returned (.bool (l0.any p))∧Below w.heap.size w w':=by
 have H:=am (slices_IndexFunc_Word_uint8.calls A0 c0 l0 g lb eg p w hr0 hc0 hp);rw [← idxP_nonneg];clear hp hr0 eg
 go_enter Try.func111,Try.ntmps111
 go_wp2_with (go_at_call 114;refine H.out.mono ?_;rintro e w' ⟨rfl,hb'⟩)
 go_ret
 exact ⟨rfl,hb'⟩
end Go.Proofs.Ytgfknljhogfeaaa.G
end

section
namespace Go.Proofs.Ytgfknljhogfeaaa.G
open Go.RowKit Go.Proofs.YtgfknljhogfeaaaW.PrintWords Go.Proofs.YtgfknljhogfeaaaW.PrintLast Go.Proofs.YtgfknljhogfeaaaW.PrintMore
attribute [local go_sem] max2_int min2_int max_two min_two max_three min_three max_four min_four
set_option linter.unusedVariables false
set_option linter.unusedSimpArgs false
def slices_ContainsFunc_Word_uint8__impl_Word_isWord_1.f (l0:List (Int)) (a1:Int):Option (Bool):=anyO (fun x=>impl_Word_isWord_1.f x a1) l0
set_option maxHeartbeats 2000000 in
theorem slices_ContainsFunc_Word_uint8__impl_Word_isWord_1.calls (A0:Option Addr) (c0:Nat) (l0:List (Int)) (a1:Int) (b1:Nat) (r:Bool) (w:World) (hr0:Kd.C (Kd.int .u8) w A0 l0.length l0) (hc0:l0.length≤c0) (hb1:w.heap[b1]?=some (.cells #[.int .i64 a1] 2 (0,0))) (h:slices_ContainsFunc_Word_uint8__impl_Word_isWord_1.f l0 a1=some r) :
  Calls Try.prog 111 #[.slice A0 l0.length c0,.func (.func 112) #[] #[.pointer (some ⟨b1,0,none⟩)]] w fun e w'=>e=.returned (.bool r)∧Below w.heap.size w w':=by
 have eg:=enters_of Try.func112 zq16 rfl;obtain ⟨hall,rfl⟩:=anyO_some h;refine slices_ContainsFunc_Word_uint8.calls A0 c0 l0 _ #[.pointer (some ⟨b1,0,none⟩)] eg (fun x=>impl_Word_isWord_1.f x a1 == some true) w hr0 hc0 (fun W hW x hx=>?_);obtain ⟨b,hb⟩:=Option.isSome_iff_exists.1 (hall x hx);rw [show (#[.int .u8 x] ++ #[.pointer (some ⟨b1,0,none⟩)]:Array Value)=#[.int .u8 x,.pointer (some ⟨b1,0,none⟩)] from rfl]
 refine (impl_Word_isWord_1.calls x a1 b1 b W  (blk_below hb1 hW) hb).mono fun e w' ⟨he,hw⟩=>⟨he.trans (by rw [hb];cases b <;> rfl),?_⟩
 exact below_then hW hW.size hw
end Go.Proofs.Ytgfknljhogfeaaa.G
end

section
namespace Go.Proofs.Ytgfknljhogfeaaa.G
open Go.RowKit Go.Proofs.YtgfknljhogfeaaaW.PrintWords Go.Proofs.YtgfknljhogfeaaaW.PrintLast Go.Proofs.YtgfknljhogfeaaaW.PrintMore
attribute [local go_sem] max2_int min2_int max_two min_two max_three min_three max_four min_four
set_option linter.unusedVariables false
set_option linter.unusedSimpArgs false
def impl_Word_isWord.f (l0:List Int) (a1:Int):Option (Bool):=(impl_size_uint8.f l0).bind fun t102=>((impl_within.f t102 1 8).bind fun t103=>(if t103=true then ((slices_ContainsFunc_Word_uint8__impl_Word_isWord_1.f l0 a1).bind fun t104=>(some (!t104))) else (some false)))
set_option maxHeartbeats 8000000 in
set_option maxRecDepth 100000 in
theorem impl_Word_isWord.calls (A0:Option Addr) (c0:Nat) (l0:List Int) (a1:Int) (r:Bool) (w:World) (hr0:Kd.C (Kd.int .u8) w A0 l0.length l0) (hc0:l0.length≤c0) (h:impl_Word_isWord.f l0 a1=some r) :
  Calls Try.prog 95 #[.slice A0 l0.length c0,.int .i64 a1] w fun e w'=>e=.returned (.bool r)∧Below w.heap.size w w':=by
 have HR0:=am hr0;have HC0:=am hc0;clear hr0 hc0;have HB:=am (Below.refl w.heap.size w);have H:((impl_size_uint8.f l0).bind fun t102=>((impl_within.f t102 1 8).bind fun t103=>(if t103=true then ((slices_ContainsFunc_Word_uint8__impl_Word_isWord_1.f l0 a1).bind fun t104=>(some (!t104))) else (some false))))=some r:=h;clear h;replace H:=Option.bind_eq_some_iff.mp H;obtain ⟨t102,A30,H⟩:=H;replace H:((impl_within.f t102 1 8).bind fun t103=>(if t103=true then ((slices_ContainsFunc_Word_uint8__impl_Word_isWord_1.f l0 a1).bind fun t104=>(some (!t104))) else (some false)))=some r:=H;have A3:=am A30;clear A30;replace H:=Option.bind_eq_some_iff.mp H;obtain ⟨t103,A40,H⟩:=H;replace H:(if t103=true then ((slices_ContainsFunc_Word_uint8__impl_Word_isWord_1.f l0 a1).bind fun t104=>(some (!t104))) else (some false))=some r:=H;have A4:=am A40;clear A40
 by_cases c5:t103=true
 ·subst c5
  have H1:((slices_ContainsFunc_Word_uint8__impl_Word_isWord_1.f l0 a1).bind fun t104=>(some (!t104)))=some r:=by rw [if_pos rfl] at H;exact H
  clear H;have H:=H1;clear H1;replace H:=Option.bind_eq_some_iff.mp H;obtain ⟨t104,A60,H⟩:=H;replace H:(some (!t104))=some r:=H;have A6:=am A60;clear A60;obtain rfl:=Option.some.inj H
  go_enter Try.func95,Try.ntmps95
  go_wp2_with (first|((with_reducible refine gate_dst (N:=3) rfl ?_);refine box_event ?hg (N:=3) ?hd (cs:=#[.int .i64 a1]) (t:=2) ?hr ?_;(case hd=>rfl);(case hg=>rfl);(case hr=>exact zq15);intro gb101 hg w7 hbox hb;have n0_:=am (below_step zq2 hb);have n1_:=am (hbox);have n2_:=am ((by rw [hg];exact (below_size zq2):w.heap.size≤gb101));have n3_:=am ((by rw [hg];exact (below_size zq2):w.heap.size≤gb101));clear HB;have HB:=n0_;have BK101:=n1_;have GW101:=n2_;have GE101:=n3_;clear n0_ n1_ n2_ n3_;clear hb hbox hg)|((with_reducible refine gate_callee (f:=110) rfl ?_);refine goesL_ (some 6) rfl rfl Try.func110 zq16 rfl #[.slice A0 l0.length c0] rfl zq0 ?_;(with_reducible refine (impl_size_uint8.calls _ _ l0 t102 _ ?side1 ?side2 A3.out).mono ?_);(case side1=>exact zq12);(case side2=>exact HC0.out);rintro e w' ⟨rfl,⟨nd,rfl⟩⟩;refine ⟨_,rfl,?_⟩)|((with_reducible refine gate_callee (f:=45) rfl ?_);refine goesL_ (some 7) rfl rfl Try.func45 zq16 rfl #[.int .i64 t102,.int .i64 1,.int .i64 8] rfl zq0 ?_;(with_reducible refine (impl_within.calls t102 1 8 true _ A4.out).mono ?_);rintro e w' ⟨rfl,⟨nd,rfl⟩⟩;refine ⟨_,rfl,?_⟩)|(go_at_call 111;(with_reducible refine (slices_ContainsFunc_Word_uint8__impl_Word_isWord_1.calls _ _ l0 a1 gb101 t104 _ ?side1 ?side2 ?side3 A6.out).mono ?_);(case side1=>repeat (first|exact (Kd.C_below HR0.out zq1)|(with_reducible refine Kd.C_alloc ?_ _)|(with_reducible refine Kd.C_drewN ?_ _)|(with_reducible refine Kd.C_drew ?_)));(case side2=>exact HC0.out);(case side3=>exact zq4);rintro e w8 ⟨rfl,hb⟩;have n0_:=am (blk_below (g:=gb101) (o:=.cells #[.int .i64 a1] 2 (0,0)) zq4 hb);have n1_:=am (below_step zq1 hb);clear BK101;clear HB;have BK101:=n0_;have HB:=n1_;clear n0_ n1_;(try clear hb);(try clear hb2);(try clear hk);(try clear hi)))
  go_ret
  exact ⟨by first|rfl|(simp [errW_none,errW_some,IntKind.wrap_i64,wrap64];done)|(simp [errW_none,errW_some] <;> rfl)|(simp [*,errW_none,errW_some] <;> rfl),by repeat (first|(with_reducible first|exact HB.out|apply below_alloc|apply pw_below_drewN|apply below_drew1|refine below_set ?_ GE101.out)|exact HB.out)⟩
 ·replace c5:=Bool.eq_false_iff.mpr c5;subst c5
  have H1:(some false)=some r:=by rw [if_neg (show ¬ (false=true) by decide)] at H;exact H
  clear H;have H:=H1;clear H1;obtain rfl:=Option.some.inj H
  go_enter Try.func95,Try.ntmps95
  go_wp2_with (first|((with_reducible refine gate_dst (N:=3) rfl ?_);refine box_event ?hg (N:=3) ?hd (cs:=#[.int .i64 a1]) (t:=2) ?hr ?_;(case hd=>rfl);(case hg=>rfl);(case hr=>exact zq15);intro gb101 hg w9 hbox hb;have n0_:=am (below_step zq2 hb);have n1_:=am (hbox);have n2_:=am ((by rw [hg];exact (below_size zq2):w.heap.size≤gb101));have n3_:=am ((by rw [hg];exact (below_size zq2):w.heap.size≤gb101));clear HB;have HB:=n0_;have BK101:=n1_;have GW101:=n2_;have GE101:=n3_;clear n0_ n1_ n2_ n3_;clear hb hbox hg)|((with_reducible refine gate_callee (f:=110) rfl ?_);refine goesL_ (some 6) rfl rfl Try.func110 zq16 rfl #[.slice A0 l0.length c0] rfl zq0 ?_;(with_reducible refine (impl_size_uint8.calls _ _ l0 t102 _ ?side1 ?side2 A3.out).mono ?_);(case side1=>exact zq12);(case side2=>exact HC0.out);rintro e w' ⟨rfl,⟨nd,rfl⟩⟩;refine ⟨_,rfl,?_⟩)|((with_reducible refine gate_callee (f:=45) rfl ?_);refine goesL_ (some 7) rfl rfl Try.func45 zq16 rfl #[.int .i64 t102,.int .i64 1,.int .i64 8] rfl zq0 ?_;(with_reducible refine (impl_within.calls t102 1 8 false _ A4.out).mono ?_);rintro e w' ⟨rfl,⟨nd,rfl⟩⟩;refine ⟨_,rfl,?_⟩))
  go_ret
  exact ⟨by first|rfl|(simp [errW_none,errW_some,IntKind.wrap_i64,wrap64];done)|(simp [errW_none,errW_some] <;> rfl)|(simp [*,errW_none,errW_some] <;> rfl),by repeat (first|(with_reducible first|exact HB.out|apply below_alloc|apply pw_below_drewN|apply below_drew1|refine below_set ?_ GE101.out)|exact HB.out)⟩
end Go.Proofs.Ytgfknljhogfeaaa.G
end

section
namespace Go.Proofs.Ytgfknljhogfeaaa.G
open Go.RowKit Go.Proofs.YtgfknljhogfeaaaW.PrintWords Go.Proofs.YtgfknljhogfeaaaW.PrintLast Go.Proofs.YtgfknljhogfeaaaW.PrintMore
attribute [local go_sem] max2_int min2_int max_two min_two max_three min_three max_four min_four
set_option linter.unusedVariables false
set_option linter.unusedSimpArgs false
def impl_areWords_1.f (l0:List Int) (a1:Int) (l2:List (List Int)):Option (Bool):=(impl_Word_isWord.f l0 a1).bind fun t101=>(if t101=true then (if 0 < (l2.length:Int) then (some ((l0.length:Int) != ((rd_L2 l2 0).length:Int))) else (none)) else (some true))
set_option maxHeartbeats 8000000 in
set_option maxRecDepth 100000 in
theorem impl_areWords_1.calls (A0:Option Addr) (c0:Nat) (l0:List Int) (a1:Int) (b1:Nat) (A2:Option Addr) (c2:Nat) (l2:List (List Int)) (b2:Nat) (r:Bool) (w:World) (hr0:Kd.C (Kd.int .u8) w A0 l0.length l0) (hc0:l0.length≤c0) (hr2:Kd.C (Kd.slice 5 (Kd.int .u8)) w A2 l2.length l2) (hc2:l2.length≤c2) (hb1:w.heap[b1]?=some (.cells #[.int .i64 a1] 2 (0,0))) (hb2:w.heap[b2]?=some (.cells #[.slice A2 l2.length c2] 31 (0,0))) (hn1_2:b1≠b2) (h:impl_areWords_1.f l0 a1 l2=some r) :
  Calls Try.prog 94 #[.slice A0 l0.length c0,.pointer (some ⟨b1,0,none⟩),.pointer (some ⟨b2,0,none⟩)] w fun e w'=>e=.returned (.bool r)∧Below w.heap.size w w':=by
 have HR0:=am hr0;have HC0:=am hc0;clear hr0 hc0;have HR2:=am hr2;have HC2:=am hc2;clear hr2 hc2;have BK1:=am hb1;clear hb1;have BK2:=am hb2;clear hb2;have NB1_2:=am hn1_2;have NB2_1:=am (Ne.symm hn1_2);clear hn1_2;have HB:=am (Below.refl w.heap.size w);have H:((impl_Word_isWord.f l0 a1).bind fun t101=>(if t101=true then (if 0 < (l2.length:Int) then (some ((l0.length:Int) != ((rd_L2 l2 0).length:Int))) else (none)) else (some true)))=some r:=h;clear h;replace H:=Option.bind_eq_some_iff.mp H;obtain ⟨t101,A40,H⟩:=H;replace H:(if t101=true then (if 0 < (l2.length:Int) then (some ((l0.length:Int) != ((rd_L2 l2 0).length:Int))) else (none)) else (some true))=some r:=H;have A4:=am A40;clear A40
 by_cases c5:t101=true
 ·subst c5
  have H1:(if 0 < (l2.length:Int) then (some ((l0.length:Int) != ((rd_L2 l2 0).length:Int))) else (none))=some r:=by rw [if_pos rfl] at H;exact H
  clear H;have H:=H1;clear H1
  by_cases c6:0 < (l2.length:Int)
  ·rw [if_pos c6] at H;have c6b0:decide (0 < (l2.length:Int))=true:=decide_eq_true c6;have c6b1:decide (0 < l2.length)=true:=decide_eq_true (by omega);clear c6;obtain rfl:=Option.some.inj H;have hnb7:=NB1_2.out;have hnc7:=NB2_1.out;have hcz8_0:w.cell? ⟨b1,0,none⟩=some (.int .i64 a1):=(blk_cell BK1.out 0).trans rfl;have hfz8_0:=blk_frozen BK1.out 0
   go_enter Try.func94,Try.ntmps94
   go_wp2_with (first|((with_reducible refine gate_callee (f:=95) rfl ?_);refine goesL_ (some 7) rfl rfl Try.func95 zq16 rfl #[.slice A0 l0.length c0,.int .i64 a1] rfl zq0 ?_;(with_reducible refine (impl_Word_isWord.calls _ _ l0 a1 true _ ?side1 ?side2 A4.out).mono ?_);(case side1=>exact zq28);(case side2=>exact HC0.out);rintro e w9 ⟨rfl,hb⟩;refine ⟨_,rfl,?_⟩;have n0_:=am (blk_below (g:=b1) (o:=.cells #[.int .i64 a1] 2 (0,0)) zq47 hb);have n1_:=am (blk_below (g:=b2) (o:=.cells #[.slice A2 l2.length c2] 31 (0,0)) zq80 hb);have n2_:=am (below_step zq70 hb);clear BK1;clear BK2;clear HB;have BK1:=n0_;have BK2:=n1_;have HB:=n2_;clear n0_ n1_ n2_;(try clear hb);(try clear hb2);(try clear hk);(try clear hi);have hcz10_0:w9.cell? ⟨b2,0,none⟩=some (.slice A2 l2.length c2):=(blk_cell BK2.out 0).trans rfl;have hfz10_0:=blk_frozen BK2.out 0;have p102:0≤(0:Int):=(by omega);have q102:0 < (l2.length:Int):=of_decide_eq_true zq9;obtain ⟨ad102,A102_0,c102_0,e102,hx102_0,hl102_0,hi102_0⟩:=at_L2 HR2.out 0 p102 q102;cases e102;have qi102:(0 < l2.length)=True:=eq_true (by omega);(try rw [show ((0:Int)).toNat=0 from rfl] at hx102_0);(try rw [Addr.add_zero'] at hx102_0);replace hx102_0:=(HB.out.cell (World.block_lt_of_cell? w _ hx102_0)).trans hx102_0;have HR102_0:=am hi102_0;have HC102_0:=am hl102_0;clear hi102_0 hl102_0;replace p102:=eq_true p102;replace q102:=eq_true q102))
   go_ret
   exact ⟨by first|rfl|(simp [errW_none,errW_some,IntKind.wrap_i64,wrap64];done)|(simp [errW_none,errW_some] <;> rfl)|(simp [*,errW_none,errW_some] <;> rfl),by repeat (first|(with_reducible first|exact HB.out|apply below_alloc|apply pw_below_drewN|apply below_drew1|refine below_set ?_ GE1.out|refine below_set ?_ GE2.out)|exact HB.out)⟩
  ·rw [if_neg c6] at H;exact absurd H (by simp)
 ·replace c5:=Bool.eq_false_iff.mpr c5;subst c5
  have H1:(some true)=some r:=by rw [if_neg (show ¬ (false=true) by decide)] at H;exact H
  clear H;have H:=H1;clear H1;obtain rfl:=Option.some.inj H;have hnb11:=NB1_2.out;have hnc11:=NB2_1.out;have hcz12_0:w.cell? ⟨b1,0,none⟩=some (.int .i64 a1):=(blk_cell BK1.out 0).trans rfl;have hfz12_0:=blk_frozen BK1.out 0
  go_enter Try.func94,Try.ntmps94
  go_wp2_with (first|((with_reducible refine gate_callee (f:=95) rfl ?_);refine goesL_ (some 7) rfl rfl Try.func95 zq16 rfl #[.slice A0 l0.length c0,.int .i64 a1] rfl zq0 ?_;(with_reducible refine (impl_Word_isWord.calls _ _ l0 a1 false _ ?side1 ?side2 A4.out).mono ?_);(case side1=>exact zq28);(case side2=>exact HC0.out);rintro e w13 ⟨rfl,hb⟩;refine ⟨_,rfl,?_⟩;have n0_:=am (blk_below (g:=b1) (o:=.cells #[.int .i64 a1] 2 (0,0)) zq47 hb);have n1_:=am (blk_below (g:=b2) (o:=.cells #[.slice A2 l2.length c2] 31 (0,0)) zq80 hb);have n2_:=am (below_step zq70 hb);clear BK1;clear BK2;clear HB;have BK1:=n0_;have BK2:=n1_;have HB:=n2_;clear n0_ n1_ n2_;(try clear hb);(try clear hb2);(try clear hk);(try clear hi)))
  go_ret
  exact ⟨by first|rfl|(simp [errW_none,errW_some,IntKind.wrap_i64,wrap64];done)|(simp [errW_none,errW_some] <;> rfl)|(simp [*,errW_none,errW_some] <;> rfl),by repeat (first|(with_reducible first|exact HB.out|apply below_alloc|apply pw_below_drewN|apply below_drew1|refine below_set ?_ GE1.out|refine below_set ?_ GE2.out)|exact HB.out)⟩
end Go.Proofs.Ytgfknljhogfeaaa.G
end

section
namespace Go.Proofs.Ytgfknljhogfeaaa.G
open Go.RowKit Go.Proofs.YtgfknljhogfeaaaW.PrintWords Go.Proofs.YtgfknljhogfeaaaW.PrintLast Go.Proofs.YtgfknljhogfeaaaW.PrintMore
attribute [local go_sem] max2_int min2_int max_two min_two max_three min_three max_four min_four
set_option linter.unusedVariables false
set_option linter.unusedSimpArgs false
set_option maxHeartbeats 2000000 in
theorem slices_IndexFunc_Word_Word.calls (A0:Option Addr) (c0:Nat) (l0:List (List Int)) (g:Nat) (lb:Array Value) (eg:∀ args w,(callFunc g args).run Try.prog w=.ok (.enter g args) w) (p:List Int→Bool) (w:World)
  (hr0:Kd.C (Kd.slice 5 (Kd.int .u8)) w A0 l0.length l0) (hc0:l0.length≤c0)
  (hp:∀ W,Below w.heap.size w W→∀ x∈l0,∀ (A1:Option Addr) (c1:Nat),x.length≤c1→Kd.C (Kd.int .u8) W A1 x.length x→Calls Try.prog g (#[.slice A1 x.length c1] ++ lb) W fun e w'=>e=.returned (.bool (p x))∧Below w.heap.size w w') :
  Calls Try.prog 109 #[.slice A0 l0.length c0,.func (.func g) #[] lb] w fun e w'=>e=.returned (.int .i64 (idxP p l0))∧Below w.heap.size w w':=by
 have hl:l0.length≤9223372036854775807:=hr0.2.1;have HR0:=am hr0;have HP:=am hp;clear hr0 hp;generalize hn:l0.length=n at *;have Hn:=am hn;clear hn
 go_enter Try.func109,Try.ntmps109
 go_wp2
 go_loopg [5,8] n (fun gg _ s8 wr=>∃ kk:Nat,kk≤n∧n - kk≤gg∧s8=.int .i64 kk∧Aside0 (Below w.heap.size w wr)∧Aside0 (∀ j x,j < kk→l0[j]?=some x→p x=false))
 case atStart=>exact ⟨0,Nat.zero_le _,by omega,rfl,⟨Below.refl _ w⟩,⟨fun j _ hj=>absurd hj (Nat.not_lt_zero _)⟩⟩
 case round =>
  obtain ⟨kk,hkk,hg,rfl,BW,AF⟩:=hrel
  by_cases hlt:kk < n
  ·have hltz:(kk:Int) < (n:Int):=by omega
   obtain ⟨ad,A1,c1,e0,hx0,hlc,hC1⟩:=at_L2 HR0.out (kk:Int) (by omega) (by omega);cases e0;simp only [Int.toNat_natCast] at hx0;replace hx0:=(BW.out.cell (World.block_lt_of_cell? w _ hx0)).trans hx0
   have hm:l0[kk]?=some (rd_L2 l0 (kk:Int)):=by
    have h1:kk < l0.length:=by rw [Hn.out];exact hlt
    simp [rd_L2,List.getD_eq_getElem?_getD,List.getElem?_eq_getElem h1]
   have hcall:=HP.out wr BW.out (rd_L2 l0 (kk:Int)) (List.mem_of_getElem? hm) A1 c1 hlc (Kd.C_below hC1 BW.out);clear hC1;generalize hy:rd_L2 l0 (kk:Int)=y at *;clear hy;have HM:=am hm;clear hm
   cases hq:p y with
   | true =>
    rw [hq] at hcall;have HQ:=am hq;clear hq
    go_wp2_with (go_at_fn g;refine hcall.mono ?_;rintro e w' ⟨rfl,hb'⟩)
    go_ret
    refine ⟨?_,hb'⟩;rw [idxP_hit HM.out HQ.out AF.out];rfl
   | false =>
    rw [hq] at hcall;have HQ:=am hq;clear hq
    go_wp2_with (go_at_fn g;refine hcall.mono ?_;rintro e w' ⟨rfl,hb'⟩)
    go_roundg (n - (kk + 1))
    case measure=>omega
    case rel =>
     refine ⟨kk + 1,by omega,by omega,by go_num,⟨hb'⟩,⟨fun j x hj hx=>?_⟩⟩
     by_cases e:j=kk
     ·subst e;rw [HM.out] at hx;cases hx;exact HQ.out
     ·exact AF.out j x (by omega) hx
  ·have hltz:¬ (kk:Int) < (n:Int):=by omega
   have:kk=n:=by omega
   subst this
   go_wp2
   go_ret
   refine ⟨?_,BW.out⟩
   rw [idxP_miss (fun x hx=>by
    obtain ⟨j,hj,rfl⟩:=List.mem_iff_getElem.1 hx
    exact AF.out j _ (by rw [← Hn.out];exact hj) (List.getElem?_eq_getElem hj))]
   rfl
end Go.Proofs.Ytgfknljhogfeaaa.G
end

section
namespace Go.Proofs.Ytgfknljhogfeaaa.G
open Go.RowKit Go.Proofs.YtgfknljhogfeaaaW.PrintWords Go.Proofs.YtgfknljhogfeaaaW.PrintLast Go.Proofs.YtgfknljhogfeaaaW.PrintMore
attribute [local go_sem] max2_int min2_int max_two min_two max_three min_three max_four min_four
set_option linter.unusedVariables false
set_option linter.unusedSimpArgs false
set_option maxHeartbeats 2000000 in
theorem slices_ContainsFunc_Word_Word.calls (A0:Option Addr) (c0:Nat) (l0:List (List Int)) (g:Nat) (lb:Array Value) (eg:∀ args w,(callFunc g args).run Try.prog w=.ok (.enter g args) w) (p:List Int→Bool) (w:World)
  (hr0:Kd.C (Kd.slice 5 (Kd.int .u8)) w A0 l0.length l0) (hc0:l0.length≤c0)
  (hp:∀ W,Below w.heap.size w W→∀ x∈l0,∀ (A1:Option Addr) (c1:Nat),x.length≤c1→Kd.C (Kd.int .u8) W A1 x.length x→Calls Try.prog g (#[.slice A1 x.length c1] ++ lb) W fun e w'=>e=.returned (.bool (p x))∧Below w.heap.size w w') :
  Calls Try.prog 93 #[.slice A0 l0.length c0,.func (.func g) #[] lb] w fun e w'=>e=.returned (.bool (l0.any p))∧Below w.heap.size w w':=by
 have H:=am (slices_IndexFunc_Word_Word.calls A0 c0 l0 g lb eg p w hr0 hc0 hp);rw [← idxP_nonneg];clear hp hr0 eg
 go_enter Try.func93,Try.ntmps93
 go_wp2_with (go_at_call 109;refine H.out.mono ?_;rintro e w' ⟨rfl,hb'⟩)
 go_ret
 exact ⟨rfl,hb'⟩
end Go.Proofs.Ytgfknljhogfeaaa.G
end

section
namespace Go.Proofs.Ytgfknljhogfeaaa.G
open Go.RowKit Go.Proofs.YtgfknljhogfeaaaW.PrintWords Go.Proofs.YtgfknljhogfeaaaW.PrintLast Go.Proofs.YtgfknljhogfeaaaW.PrintMore
attribute [local go_sem] max2_int min2_int max_two min_two max_three min_three max_four min_four
set_option linter.unusedVariables false
set_option linter.unusedSimpArgs false
def slices_ContainsFunc_Word_Word__impl_areWords_1.f (l0:List (List Int)) (a1:Int) (l2:List (List Int)):Option (Bool):=anyO (fun x=>impl_areWords_1.f x a1 l2) l0
set_option maxHeartbeats 2000000 in
theorem slices_ContainsFunc_Word_Word__impl_areWords_1.calls (A0:Option Addr) (c0:Nat) (l0:List (List Int)) (a1:Int) (b1:Nat) (A2:Option Addr) (c2:Nat) (l2:List (List Int)) (b2:Nat) (r:Bool) (w:World) (hr0:Kd.C (Kd.slice 5 (Kd.int .u8)) w A0 l0.length l0) (hc0:l0.length≤c0) (hr2:Kd.C (Kd.slice 5 (Kd.int .u8)) w A2 l2.length l2) (hc2:l2.length≤c2) (hb1:w.heap[b1]?=some (.cells #[.int .i64 a1] 2 (0,0))) (hb2:w.heap[b2]?=some (.cells #[.slice A2 l2.length c2] 31 (0,0))) (hn1_2:b1≠b2) (h:slices_ContainsFunc_Word_Word__impl_areWords_1.f l0 a1 l2=some r) :
  Calls Try.prog 93 #[.slice A0 l0.length c0,.func (.func 94) #[] #[.pointer (some ⟨b1,0,none⟩),.pointer (some ⟨b2,0,none⟩)]] w fun e w'=>e=.returned (.bool r)∧Below w.heap.size w w':=by
 have eg:=enters_of Try.func94 zq16 rfl;obtain ⟨hall,rfl⟩:=anyO_some h;refine slices_ContainsFunc_Word_Word.calls A0 c0 l0 _ #[.pointer (some ⟨b1,0,none⟩),.pointer (some ⟨b2,0,none⟩)] eg (fun x=>impl_areWords_1.f x a1 l2 == some true) w hr0 hc0 (fun W hW x hx A1_ c1_ hl_ hC_=>?_);obtain ⟨b,hb⟩:=Option.isSome_iff_exists.1 (hall x hx);rw [show (#[.slice A1_ x.length c1_] ++ #[.pointer (some ⟨b1,0,none⟩),.pointer (some ⟨b2,0,none⟩)]:Array Value)=#[.slice A1_ x.length c1_,.pointer (some ⟨b1,0,none⟩),.pointer (some ⟨b2,0,none⟩)] from rfl]
 refine (impl_areWords_1.calls A1_ c1_ x a1 b1 A2 c2 l2 b2 b W hC_ hl_ (Kd.C_below hr2 hW) hc2 (blk_below hb1 hW) (blk_below hb2 hW) hn1_2 hb).mono fun e w' ⟨he,hw⟩=>⟨he.trans (by rw [hb];cases b <;> rfl),?_⟩
 exact below_then hW hW.size hw
end Go.Proofs.Ytgfknljhogfeaaa.G
end

section
namespace Go.Proofs.Ytgfknljhogfeaaa.G
open Go.RowKit Go.Proofs.YtgfknljhogfeaaaW.PrintWords Go.Proofs.YtgfknljhogfeaaaW.PrintLast Go.Proofs.YtgfknljhogfeaaaW.PrintMore
attribute [local go_sem] max2_int min2_int max_two min_two max_three min_three max_four min_four
set_option linter.unusedVariables false
set_option linter.unusedSimpArgs false
def impl_areWords.f (l0:List (List Int)) (a1:Int):Option (Bool):=(slices_ContainsFunc_Word_Word__impl_areWords_1.f l0 a1 l0).bind fun t103=>(some (!t103))
set_option maxHeartbeats 8000000 in
set_option maxRecDepth 100000 in
theorem impl_areWords.calls (A0:Option Addr) (c0:Nat) (l0:List (List Int)) (a1:Int) (r:Bool) (w:World) (hr0:Kd.C (Kd.slice 5 (Kd.int .u8)) w A0 l0.length l0) (hc0:l0.length≤c0) (h:impl_areWords.f l0 a1=some r) :
  Calls Try.prog 65 #[.slice A0 l0.length c0,.int .i64 a1] w fun e w'=>e=.returned (.bool r)∧Below w.heap.size w w':=by
 have HR0:=am hr0;have HC0:=am hc0;clear hr0 hc0;have HB:=am (Below.refl w.heap.size w);have H:((slices_ContainsFunc_Word_Word__impl_areWords_1.f l0 a1 l0).bind fun t103=>(some (!t103)))=some r:=h;clear h;replace H:=Option.bind_eq_some_iff.mp H;obtain ⟨t103,A30,H⟩:=H;replace H:(some (!t103))=some r:=H;have A3:=am A30;clear A30;obtain rfl:=Option.some.inj H
 go_enter Try.func65,Try.ntmps65
 go_wp2_with (first|((with_reducible refine gate_dst (N:=2) rfl ?_);refine box_event ?hg (N:=2) ?hd (cs:=#[.slice A0 l0.length c0]) (t:=31) ?hr ?_;(case hd=>rfl);(case hg=>rfl);(case hr=>exact zq15);intro gb101 hg w4 hbox hb;have n0_:=am (below_step zq2 hb);have n1_:=am (hbox);have n2_:=am ((by rw [hg];exact (below_size zq2):w.heap.size≤gb101));have n3_:=am ((by rw [hg];exact (below_size zq2):w.heap.size≤gb101));clear HB;have HB:=n0_;have BK101:=n1_;have GW101:=n2_;have GE101:=n3_;clear n0_ n1_ n2_ n3_;clear hb hbox hg)|((with_reducible refine gate_dst (N:=3) rfl ?_);refine box_event ?hg (N:=3) ?hd (cs:=#[.int .i64 a1]) (t:=2) ?hr ?_;(case hd=>rfl);(case hg=>rfl);(case hr=>exact zq15);intro gb102 hg w5 hbox hb;have n0_:=am (blk_below (g:=gb101) (o:=.cells #[.slice A0 l0.length c0] 31 (0,0)) zq4 hb);have n1_:=am (below_step zq1 hb);have n2_:=am (hbox);have n3_:=am ((by rw [hg];exact (below_size zq1):w.heap.size≤gb102));have n4_:=am ((by rw [hg];exact (below_size zq1):w.heap.size≤gb102));have n5_:=am ((by rw [hg];exact Nat.ne_of_lt (blk_lt (g:=gb101) (o:=.cells #[.slice A0 l0.length c0] 31 (0,0)) zq4):gb101≠gb102));have n6_:=am ((by rw [hg];exact Nat.ne_of_gt (blk_lt (g:=gb101) (o:=.cells #[.slice A0 l0.length c0] 31 (0,0)) zq4):gb102≠gb101));clear BK101;clear HB;have BK101:=n0_;have HB:=n1_;have BK102:=n2_;have GW102:=n3_;have GE102:=n4_;have NB101_102:=n5_;have NB102_101:=n6_;clear n0_ n1_ n2_ n3_ n4_ n5_ n6_;clear hb hbox hg;have hnb6:=NB101_102.out;have hnc6:=NB102_101.out;have hcz7_0:w5.cell? ⟨gb101,0,none⟩=some (.slice A0 l0.length c0):=(blk_cell BK101.out 0).trans rfl;have hfz7_0:=blk_frozen BK101.out 0)|((with_reducible refine gate_callee (f:=93) rfl ?_);refine goesL_ (some 7) rfl rfl Try.func93 zq16 rfl #[.slice A0 l0.length c0,.func (.func 94) #[] #[.pointer (some ⟨gb102,0,none⟩),.pointer (some ⟨gb101,0,none⟩)]] rfl zq0 ?_;(with_reducible refine (slices_ContainsFunc_Word_Word__impl_areWords_1.calls _ _ l0 a1 gb102 A0 c0 l0 gb101 t103 _ ?side1 ?side2 ?side3 ?side4 ?side5 ?side6 ?side7 A3.out).mono ?_);(case side1=>exact zq12);(case side2=>exact HC0.out);(case side3=>exact zq12);(case side4=>exact HC0.out);(case side5=>exact zq37);(case side6=>exact zq4);(case side7=>exact NB102_101.out);rintro e w8 ⟨rfl,hb⟩;refine ⟨_,rfl,?_⟩;have n0_:=am (blk_below (g:=gb101) (o:=.cells #[.slice A0 l0.length c0] 31 (0,0)) zq4 hb);have n1_:=am (blk_below (g:=gb102) (o:=.cells #[.int .i64 a1] 2 (0,0)) zq37 hb);have n2_:=am (below_step (by repeat (first|(with_reducible first|exact HB.out|apply below_alloc|apply pw_below_drewN|apply below_drew1|refine below_set ?_ GE101.out|refine below_set ?_ GE102.out)|exact HB.out)) hb);clear BK101;clear BK102;clear HB;have BK101:=n0_;have BK102:=n1_;have HB:=n2_;clear n0_ n1_ n2_;(try clear hb);(try clear hb2);(try clear hk);(try clear hi)))
 go_ret
 exact ⟨by first|rfl|(simp [errW_none,errW_some,IntKind.wrap_i64,wrap64];done)|(simp [errW_none,errW_some] <;> rfl)|(simp [*,errW_none,errW_some] <;> rfl),by repeat (first|(with_reducible first|exact HB.out|apply below_alloc|apply pw_below_drewN|apply below_drew1|refine below_set ?_ GE101.out|refine below_set ?_ GE102.out)|exact HB.out)⟩
end Go.Proofs.Ytgfknljhogfeaaa.G
end

section
namespace Go.Proofs.Ytgfknljhogfeaaa.G
open Go.RowKit Go.Proofs.YtgfknljhogfeaaaW.PrintWords Go.Proofs.YtgfknljhogfeaaaW.PrintLast Go.Proofs.YtgfknljhogfeaaaW.PrintMore
attribute [local go_sem] max2_int min2_int max_two min_two max_three min_three max_four min_four
set_option linter.unusedVariables false
set_option linter.unusedSimpArgs false
def impl_unless.f (a0:Bool) (a1:Int):Option (Int):=if a0=true then (some 0) else (some a1)
set_option maxHeartbeats 8000000 in
set_option maxRecDepth 100000 in
theorem impl_unless.calls (a0:Bool) (a1:Int) (r:Int) (w:World) (h:impl_unless.f a0 a1=some r) :
  Calls Try.prog 71 #[.bool a0,.int .i64 a1] w fun e w'=>e=.returned (.int .i64 r)∧Drawn0 w w':=by
 have H:(if a0=true then (some 0) else (some a1))=some r:=h;clear h
 by_cases c3:a0=true
 ·subst c3
  have H1:(some 0)=some r:=by rw [if_pos rfl] at H;exact H
  clear H;have H:=H1;clear H1;obtain rfl:=Option.some.inj H
  go_enter Try.func71,Try.ntmps71
  go_wp2
  go_ret
  exact ⟨by first|rfl|(simp only [IntKind.wrap_i64,wrap64];done)|(simp;done)|(simp [*];done),by repeat (first|exact Drawn0.refl _|apply Drawn0.step)⟩
 ·replace c3:=Bool.eq_false_iff.mpr c3;subst c3
  have H1:(some a1)=some r:=by rw [if_neg (show ¬ (false=true) by decide)] at H;exact H
  clear H;have H:=H1;clear H1;obtain rfl:=Option.some.inj H
  go_enter Try.func71,Try.ntmps71
  go_wp2
  go_ret
  exact ⟨by first|rfl|(simp only [IntKind.wrap_i64,wrap64];done)|(simp;done)|(simp [*];done),by repeat (first|exact Drawn0.refl _|apply Drawn0.step)⟩
end Go.Proofs.Ytgfknljhogfeaaa.G
end

section
namespace Go.Proofs.Ytgfknljhogfeaaa.G
open Go.RowKit Go.Proofs.YtgfknljhogfeaaaW.PrintWords Go.Proofs.YtgfknljhogfeaaaW.PrintLast Go.Proofs.YtgfknljhogfeaaaW.PrintMore
attribute [local go_sem] max2_int min2_int max_two min_two max_three min_three max_four min_four
set_option linter.unusedVariables false
set_option linter.unusedSimpArgs false
def impl_setCode_1.f (a0_0:Int) (a0_1:Int) (a0_2:Int) (a0_3:Int) (a0_4:Int) (a0_5:Int) (a0_6:Int) (a0_7:Int) (a0_8:Int) (a0_9:Int) (a0_10:Int) (a0_11:Int) (a0_12:Int) (a0_13:Int) (a0_14:Int) (a0_15:Int) (a0_16:Int) (a0_17:Int) (a0_18:Int) (a0_19:Int) (a0_20:Int) (a0_21:Int) (a0_22:Int) (a0_23:Int):Option Bool:=some (([a0_0,a0_1,a0_2,a0_3,a0_4,a0_5,a0_6,a0_7,a0_8,a0_9,a0_10,a0_11,a0_12,a0_13,a0_14,a0_15,a0_16,a0_17,a0_18,a0_19,a0_20,a0_21,a0_22,a0_23]:List Int).any fun c=>decide (c≥6))
set_option maxHeartbeats 4000000 in
theorem impl_setCode_1.core (xs:List Int) (hx:xs.length=24) (w:World) :
  Calls Try.prog 92 #[.agg (nums .u8 xs).toArray] w fun e w'=>e=.returned (.bool (xs.any fun c=>decide (c≥6)))∧Below w.heap.size w w':=by
 have HB:=am (Below.refl w.heap.size w);have HSZ:=am (show (Try.prog.info? 68).map (·.size)=some xs.length by rw [hx];exact size68);have HF:=am (fun W=>impl_ValidFlag.core xs hx W);generalize (xs.any fun c=>decide (c≥6))=res at *;clear hx
 go_enter Try.func92,Try.ntmps92
 go_wp2_with (first|((with_reducible refine gate_dst (N:=1) rfl ?_);refine box_event ?hg (N:=1) ?hd (cs:=(nums .u8 xs).toArray) (t:=68) ?hr ?_;(case hd=>rfl);(case hg=>rfl);(case hr=>exact zq15);intro b1 hg_ w1 hb_ hB_;have HB1:=am (below_step HB.out hB_);have BK1:=am (show IsBox .u8 68 w1 b1 xs from hb_);clear hb_ hB_ hg_)|((with_reducible refine gate_load (t:=68) rfl ?_);refine box_load (k:=.u8) (t:=68) (b:=b1) (xs:=xs) rfl rfl rfl BK1.out Try.underlying68 rfl HSZ.out ?_)|(go_at_call 73;refine (HF.out _).mono ?_;rintro e w2 ⟨rfl,hb2⟩;have HB2:=am (below_step HB1.out hb2);clear hb2))
 go_ret
 exact ⟨by first|rfl|simp,HB2.out⟩
theorem impl_setCode_1.calls (a0_0:Int) (a0_1:Int) (a0_2:Int) (a0_3:Int) (a0_4:Int) (a0_5:Int) (a0_6:Int) (a0_7:Int) (a0_8:Int) (a0_9:Int) (a0_10:Int) (a0_11:Int) (a0_12:Int) (a0_13:Int) (a0_14:Int) (a0_15:Int) (a0_16:Int) (a0_17:Int) (a0_18:Int) (a0_19:Int) (a0_20:Int) (a0_21:Int) (a0_22:Int) (a0_23:Int) (r:Bool) (w:World) (h:impl_setCode_1.f a0_0 a0_1 a0_2 a0_3 a0_4 a0_5 a0_6 a0_7 a0_8 a0_9 a0_10 a0_11 a0_12 a0_13 a0_14 a0_15 a0_16 a0_17 a0_18 a0_19 a0_20 a0_21 a0_22 a0_23=some r) :
  Calls Try.prog 92 #[.agg #[.int .u8 a0_0,.int .u8 a0_1,.int .u8 a0_2,.int .u8 a0_3,.int .u8 a0_4,.int .u8 a0_5,.int .u8 a0_6,.int .u8 a0_7,.int .u8 a0_8,.int .u8 a0_9,.int .u8 a0_10,.int .u8 a0_11,.int .u8 a0_12,.int .u8 a0_13,.int .u8 a0_14,.int .u8 a0_15,.int .u8 a0_16,.int .u8 a0_17,.int .u8 a0_18,.int .u8 a0_19,.int .u8 a0_20,.int .u8 a0_21,.int .u8 a0_22,.int .u8 a0_23]] w fun e w'=>e=.returned (.bool r)∧Below w.heap.size w w':=by
 obtain rfl:=Option.some.inj h;exact impl_setCode_1.core [a0_0,a0_1,a0_2,a0_3,a0_4,a0_5,a0_6,a0_7,a0_8,a0_9,a0_10,a0_11,a0_12,a0_13,a0_14,a0_15,a0_16,a0_17,a0_18,a0_19,a0_20,a0_21,a0_22,a0_23] rfl w
end Go.Proofs.Ytgfknljhogfeaaa.G
end

section
namespace Go.Proofs.Ytgfknljhogfeaaa.G
open Go.RowKit Go.Proofs.YtgfknljhogfeaaaW.PrintWords Go.Proofs.YtgfknljhogfeaaaW.PrintLast Go.Proofs.YtgfknljhogfeaaaW.PrintMore
attribute [local go_sem] max2_int min2_int max_two min_two max_three min_three max_four min_four
set_option linter.unusedVariables false
set_option linter.unusedSimpArgs false
set_option maxHeartbeats 2000000 in
theorem slices_IndexFunc_Flag_Flag.calls (A0:Option Addr) (c0:Nat) (l0:List (S68)) (g:Nat) (lb:Array Value) (eg:∀ args w,(callFunc g args).run Try.prog w=.ok (.enter g args) w) (p:S68→Bool) (w:World)
  (hr0:Kd.C k68 w A0 l0.length l0) (hc0:l0.length≤c0)
  (hp:∀ W,Below w.heap.size w W→∀ x∈l0,Calls Try.prog g (#[.agg #[.int .u8 x.f0,.int .u8 x.f1,.int .u8 x.f2,.int .u8 x.f3,.int .u8 x.f4,.int .u8 x.f5,.int .u8 x.f6,.int .u8 x.f7,.int .u8 x.f8,.int .u8 x.f9,.int .u8 x.f10,.int .u8 x.f11,.int .u8 x.f12,.int .u8 x.f13,.int .u8 x.f14,.int .u8 x.f15,.int .u8 x.f16,.int .u8 x.f17,.int .u8 x.f18,.int .u8 x.f19,.int .u8 x.f20,.int .u8 x.f21,.int .u8 x.f22,.int .u8 x.f23]] ++ lb) W fun e w'=>e=.returned (.bool (p x))∧Below w.heap.size w w') :
  Calls Try.prog 108 #[.slice A0 l0.length c0,.func (.func g) #[] lb] w fun e w'=>e=.returned (.int .i64 (idxP p l0))∧Below w.heap.size w w':=by
 have hl:l0.length≤9223372036854775807:=hr0.2.1;have HR0:=am hr0;have HP:=am hp;clear hr0 hp;generalize hn:l0.length=n at *;have Hn:=am hn;clear hn
 go_enter Try.func108,Try.ntmps108
 go_wp2
 go_loopg [5,8] n (fun gg _ s8 wr=>∃ kk:Nat,kk≤n∧n - kk≤gg∧s8=.int .i64 kk∧Aside0 (Below w.heap.size w wr)∧Aside0 (∀ j x,j < kk→l0[j]?=some x→p x=false))
 case atStart=>exact ⟨0,Nat.zero_le _,by omega,rfl,⟨Below.refl _ w⟩,⟨fun j _ hj=>absurd hj (Nat.not_lt_zero _)⟩⟩
 case round =>
  obtain ⟨kk,hkk,hg,rfl,BW,AF⟩:=hrel
  by_cases hlt:kk < n
  ·have hltz:(kk:Int) < (n:Int):=by omega
   obtain ⟨ad,e0,hrow_⟩:=row_T68 HR0.out (kk:Int) (by omega) (by omega);cases e0;have HRW0:Aside0 (RowAt68 _ (ad.add (kk * 24)) _):=⟨row_below68 hrow_ BW.out⟩;clear hrow_
   have hm:l0[kk]?=some (rd_T68 l0 (kk:Int)):=by
    have h1:kk < l0.length:=by rw [Hn.out];exact hlt
    simp [rd_T68,List.getD_eq_getElem?_getD,List.getElem?_eq_getElem h1]
   have hcall:=HP.out wr BW.out (rd_T68 l0 (kk:Int)) (List.mem_of_getElem? hm);generalize hy:rd_T68 l0 (kk:Int)=y at *;clear hy;have HM:=am hm;clear hm
   cases hq:p y with
   | true =>
    rw [hq] at hcall;have HQ:=am hq;clear hq
    go_wp2_with (first|((with_reducible refine gate_load (t:=68) rfl ?_);refine load_T68 rfl rfl (ad.add (kk * 24)) rfl HRW0.out Try.underlying68 size68 ?_)|(go_at_fn g;refine hcall.mono ?_;rintro e w' ⟨rfl,hb'⟩))
    go_ret
    refine ⟨?_,hb'⟩;rw [idxP_hit HM.out HQ.out AF.out];rfl
   | false =>
    rw [hq] at hcall;have HQ:=am hq;clear hq
    go_wp2_with (first|((with_reducible refine gate_load (t:=68) rfl ?_);refine load_T68 rfl rfl (ad.add (kk * 24)) rfl HRW0.out Try.underlying68 size68 ?_)|(go_at_fn g;refine hcall.mono ?_;rintro e w' ⟨rfl,hb'⟩))
    go_roundg (n - (kk + 1))
    case measure=>omega
    case rel =>
     refine ⟨kk + 1,by omega,by omega,by go_num,⟨hb'⟩,⟨fun j x hj hx=>?_⟩⟩
     by_cases e:j=kk
     ·subst e;rw [HM.out] at hx;cases hx;exact HQ.out
     ·exact AF.out j x (by omega) hx
  ·have hltz:¬ (kk:Int) < (n:Int):=by omega
   have:kk=n:=by omega
   subst this
   go_wp2
   go_ret
   refine ⟨?_,BW.out⟩
   rw [idxP_miss (fun x hx=>by
    obtain ⟨j,hj,rfl⟩:=List.mem_iff_getElem.1 hx
    exact AF.out j _ (by rw [← Hn.out];exact hj) (List.getElem?_eq_getElem hj))]
   rfl
end Go.Proofs.Ytgfknljhogfeaaa.G
end

section
namespace Go.Proofs.Ytgfknljhogfeaaa.G
open Go.RowKit Go.Proofs.YtgfknljhogfeaaaW.PrintWords Go.Proofs.YtgfknljhogfeaaaW.PrintLast Go.Proofs.YtgfknljhogfeaaaW.PrintMore
attribute [local go_sem] max2_int min2_int max_two min_two max_three min_three max_four min_four
set_option linter.unusedVariables false
set_option linter.unusedSimpArgs false
set_option maxHeartbeats 2000000 in
theorem slices_ContainsFunc_Flag_Flag.calls (A0:Option Addr) (c0:Nat) (l0:List (S68)) (g:Nat) (lb:Array Value) (eg:∀ args w,(callFunc g args).run Try.prog w=.ok (.enter g args) w) (p:S68→Bool) (w:World)
  (hr0:Kd.C k68 w A0 l0.length l0) (hc0:l0.length≤c0)
  (hp:∀ W,Below w.heap.size w W→∀ x∈l0,Calls Try.prog g (#[.agg #[.int .u8 x.f0,.int .u8 x.f1,.int .u8 x.f2,.int .u8 x.f3,.int .u8 x.f4,.int .u8 x.f5,.int .u8 x.f6,.int .u8 x.f7,.int .u8 x.f8,.int .u8 x.f9,.int .u8 x.f10,.int .u8 x.f11,.int .u8 x.f12,.int .u8 x.f13,.int .u8 x.f14,.int .u8 x.f15,.int .u8 x.f16,.int .u8 x.f17,.int .u8 x.f18,.int .u8 x.f19,.int .u8 x.f20,.int .u8 x.f21,.int .u8 x.f22,.int .u8 x.f23]] ++ lb) W fun e w'=>e=.returned (.bool (p x))∧Below w.heap.size w w') :
  Calls Try.prog 91 #[.slice A0 l0.length c0,.func (.func g) #[] lb] w fun e w'=>e=.returned (.bool (l0.any p))∧Below w.heap.size w w':=by
 have H:=am (slices_IndexFunc_Flag_Flag.calls A0 c0 l0 g lb eg p w hr0 hc0 hp);rw [← idxP_nonneg];clear hp hr0 eg
 go_enter Try.func91,Try.ntmps91
 go_wp2_with (go_at_call 108;refine H.out.mono ?_;rintro e w' ⟨rfl,hb'⟩)
 go_ret
 exact ⟨rfl,hb'⟩
end Go.Proofs.Ytgfknljhogfeaaa.G
end

section
namespace Go.Proofs.Ytgfknljhogfeaaa.G
open Go.RowKit Go.Proofs.YtgfknljhogfeaaaW.PrintWords Go.Proofs.YtgfknljhogfeaaaW.PrintLast Go.Proofs.YtgfknljhogfeaaaW.PrintMore
attribute [local go_sem] max2_int min2_int max_two min_two max_three min_three max_four min_four
set_option linter.unusedVariables false
set_option linter.unusedSimpArgs false
def slices_ContainsFunc_Flag_Flag__impl_setCode_1.f (l0:List (S68)):Option (Bool):=anyO (fun x=>impl_setCode_1.f x.f0 x.f1 x.f2 x.f3 x.f4 x.f5 x.f6 x.f7 x.f8 x.f9 x.f10 x.f11 x.f12 x.f13 x.f14 x.f15 x.f16 x.f17 x.f18 x.f19 x.f20 x.f21 x.f22 x.f23) l0
set_option maxHeartbeats 2000000 in
theorem slices_ContainsFunc_Flag_Flag__impl_setCode_1.calls (A0:Option Addr) (c0:Nat) (l0:List (S68)) (r:Bool) (w:World) (hr0:Kd.C k68 w A0 l0.length l0) (hc0:l0.length≤c0) (h:slices_ContainsFunc_Flag_Flag__impl_setCode_1.f l0=some r) :
  Calls Try.prog 91 #[.slice A0 l0.length c0,.func (.func 92) #[] #[]] w fun e w'=>e=.returned (.bool r)∧Below w.heap.size w w':=by
 have eg:=enters_of Try.func92 zq16 rfl;obtain ⟨hall,rfl⟩:=anyO_some h;refine slices_ContainsFunc_Flag_Flag.calls A0 c0 l0 _ #[] eg (fun x=>impl_setCode_1.f x.f0 x.f1 x.f2 x.f3 x.f4 x.f5 x.f6 x.f7 x.f8 x.f9 x.f10 x.f11 x.f12 x.f13 x.f14 x.f15 x.f16 x.f17 x.f18 x.f19 x.f20 x.f21 x.f22 x.f23 == some true) w hr0 hc0 (fun W hW x hx=>?_);obtain ⟨b,hb⟩:=Option.isSome_iff_exists.1 (hall x hx);rw [show (#[.agg #[.int .u8 x.f0,.int .u8 x.f1,.int .u8 x.f2,.int .u8 x.f3,.int .u8 x.f4,.int .u8 x.f5,.int .u8 x.f6,.int .u8 x.f7,.int .u8 x.f8,.int .u8 x.f9,.int .u8 x.f10,.int .u8 x.f11,.int .u8 x.f12,.int .u8 x.f13,.int .u8 x.f14,.int .u8 x.f15,.int .u8 x.f16,.int .u8 x.f17,.int .u8 x.f18,.int .u8 x.f19,.int .u8 x.f20,.int .u8 x.f21,.int .u8 x.f22,.int .u8 x.f23]] ++ #[]:Array Value)=#[.agg #[.int .u8 x.f0,.int .u8 x.f1,.int .u8 x.f2,.int .u8 x.f3,.int .u8 x.f4,.int .u8 x.f5,.int .u8 x.f6,.int .u8 x.f7,.int .u8 x.f8,.int .u8 x.f9,.int .u8 x.f10,.int .u8 x.f11,.int .u8 x.f12,.int .u8 x.f13,.int .u8 x.f14,.int .u8 x.f15,.int .u8 x.f16,.int .u8 x.f17,.int .u8 x.f18,.int .u8 x.f19,.int .u8 x.f20,.int .u8 x.f21,.int .u8 x.f22,.int .u8 x.f23]] from rfl]
 refine (impl_setCode_1.calls x.f0 x.f1 x.f2 x.f3 x.f4 x.f5 x.f6 x.f7 x.f8 x.f9 x.f10 x.f11 x.f12 x.f13 x.f14 x.f15 x.f16 x.f17 x.f18 x.f19 x.f20 x.f21 x.f22 x.f23 b W  hb).mono fun e w' ⟨he,hw⟩=>⟨he.trans (by rw [hb];cases b <;> rfl),?_⟩
 exact below_then hW hW.size hw
end Go.Proofs.Ytgfknljhogfeaaa.G
end

section
namespace Go.Proofs.Ytgfknljhogfeaaa.G
open Go.RowKit Go.Proofs.YtgfknljhogfeaaaW.PrintWords Go.Proofs.YtgfknljhogfeaaaW.PrintLast Go.Proofs.YtgfknljhogfeaaaW.PrintMore
attribute [local go_sem] max2_int min2_int max_two min_two max_three min_three max_four min_four
set_option linter.unusedVariables false
set_option linter.unusedSimpArgs false
def impl_setCode.f (l0:List (S68)) (a1:Int):Option (Int):=(slices_ContainsFunc_Flag_Flag__impl_setCode_1.f l0).bind fun t101=>(if t101=true then (some 1) else (if (l0.length:Int) > 40 then (some 3) else ((impl_within.f a1 0 6).bind fun t102=>((impl_unless.f t102 2).bind fun t103=>(some t103)))))
set_option maxHeartbeats 8000000 in
set_option maxRecDepth 100000 in
theorem impl_setCode.calls (A0:Option Addr) (c0:Nat) (l0:List (S68)) (a1:Int) (r:Int) (w:World) (hr0:Kd.C k68 w A0 l0.length l0) (hc0:l0.length≤c0) (h:impl_setCode.f l0 a1=some r) :
  Calls Try.prog 64 #[.slice A0 l0.length c0,.int .i64 a1] w fun e w'=>e=.returned (.int .i64 r)∧Below w.heap.size w w':=by
 have HR0:=am hr0;have HC0:=am hc0;clear hr0 hc0;have HB:=am (Below.refl w.heap.size w);have H:((slices_ContainsFunc_Flag_Flag__impl_setCode_1.f l0).bind fun t101=>(if t101=true then (some 1) else (if (l0.length:Int) > 40 then (some 3) else ((impl_within.f a1 0 6).bind fun t102=>((impl_unless.f t102 2).bind fun t103=>(some t103))))))=some r:=h;clear h;replace H:=Option.bind_eq_some_iff.mp H;obtain ⟨t101,A30,H⟩:=H;replace H:(if t101=true then (some 1) else (if (l0.length:Int) > 40 then (some 3) else ((impl_within.f a1 0 6).bind fun t102=>((impl_unless.f t102 2).bind fun t103=>(some t103)))))=some r:=H;have A3:=am A30;clear A30
 by_cases c4:t101=true
 ·subst c4
  have H1:(some 1)=some r:=by rw [if_pos rfl] at H;exact H
  clear H;have H:=H1;clear H1;obtain rfl:=Option.some.inj H
  go_enter Try.func64,Try.ntmps64
  go_wp2_with (first|((with_reducible refine gate_callee (f:=91) rfl ?_);refine goesL_ (some 7) rfl rfl Try.func91 zq16 rfl #[.slice A0 l0.length c0,.func (.func 92) #[] #[]] rfl zq0 ?_;(with_reducible refine (slices_ContainsFunc_Flag_Flag__impl_setCode_1.calls _ _ l0 true _ ?side1 ?side2 A3.out).mono ?_);(case side1=>exact zq28);(case side2=>exact HC0.out);rintro e w5 ⟨rfl,hb⟩;refine ⟨_,rfl,?_⟩;have n0_:=am (below_step zq2 hb);clear HB;have HB:=n0_;clear n0_;(try clear hb);(try clear hb2);(try clear hk);(try clear hi)))
  go_ret
  exact ⟨by first|rfl|(simp [errW_none,errW_some,IntKind.wrap_i64,wrap64];done)|(simp [errW_none,errW_some] <;> rfl)|(simp [*,errW_none,errW_some] <;> rfl),by repeat (first|(with_reducible first|exact HB.out|apply below_alloc|apply pw_below_drewN|apply below_drew1)|exact HB.out)⟩
 ·replace c4:=Bool.eq_false_iff.mpr c4;subst c4
  have H1:(if (l0.length:Int) > 40 then (some 3) else ((impl_within.f a1 0 6).bind fun t102=>((impl_unless.f t102 2).bind fun t103=>(some t103))))=some r:=by rw [if_neg (show ¬ (false=true) by decide)] at H;exact H
  clear H;have H:=H1;clear H1
  by_cases c6:(l0.length:Int) > 40
  ·rw [if_pos c6] at H;have c6b0:decide (40 < (l0.length:Int))=true:=decide_eq_true c6;have c6b1:decide (40 < l0.length)=true:=decide_eq_true (by omega);clear c6;obtain rfl:=Option.some.inj H
   go_enter Try.func64,Try.ntmps64
   go_wp2_with (first|((with_reducible refine gate_callee (f:=91) rfl ?_);refine goesL_ (some 7) rfl rfl Try.func91 zq16 rfl #[.slice A0 l0.length c0,.func (.func 92) #[] #[]] rfl zq0 ?_;(with_reducible refine (slices_ContainsFunc_Flag_Flag__impl_setCode_1.calls _ _ l0 false _ ?side1 ?side2 A3.out).mono ?_);(case side1=>exact zq28);(case side2=>exact HC0.out);rintro e w7 ⟨rfl,hb⟩;refine ⟨_,rfl,?_⟩;have n0_:=am (below_step zq2 hb);clear HB;have HB:=n0_;clear n0_;(try clear hb);(try clear hb2);(try clear hk);(try clear hi)))
   go_ret
   exact ⟨by first|rfl|(simp [errW_none,errW_some,IntKind.wrap_i64,wrap64];done)|(simp [errW_none,errW_some] <;> rfl)|(simp [*,errW_none,errW_some] <;> rfl),by repeat (first|(with_reducible first|exact HB.out|apply below_alloc|apply pw_below_drewN|apply below_drew1)|exact HB.out)⟩
  ·rw [if_neg c6] at H;have c6b0:decide (40 < (l0.length:Int))=false:=decide_eq_false c6;have c6b1:decide (40 < l0.length)=false:=decide_eq_false (by omega);clear c6;replace H:=Option.bind_eq_some_iff.mp H;obtain ⟨t102,A80,H⟩:=H;replace H:((impl_unless.f t102 2).bind fun t103=>(some t103))=some r:=H;have A8:=am A80;clear A80;replace H:=Option.bind_eq_some_iff.mp H;obtain ⟨t103,A90,H⟩:=H;replace H:(some t103)=some r:=H;have A9:=am A90;clear A90;obtain rfl:=Option.some.inj H
   go_enter Try.func64,Try.ntmps64
   go_wp2_with (first|((with_reducible refine gate_callee (f:=91) rfl ?_);refine goesL_ (some 7) rfl rfl Try.func91 zq16 rfl #[.slice A0 l0.length c0,.func (.func 92) #[] #[]] rfl zq0 ?_;(with_reducible refine (slices_ContainsFunc_Flag_Flag__impl_setCode_1.calls _ _ l0 false _ ?side1 ?side2 A3.out).mono ?_);(case side1=>exact zq28);(case side2=>exact HC0.out);rintro e w10 ⟨rfl,hb⟩;refine ⟨_,rfl,?_⟩;have n0_:=am (below_step zq2 hb);clear HB;have HB:=n0_;clear n0_;(try clear hb);(try clear hb2);(try clear hk);(try clear hi))|((with_reducible refine gate_callee (f:=45) rfl ?_);refine goesL_ (some 13) rfl rfl Try.func45 zq16 rfl #[.int .i64 a1,.int .i64 0,.int .i64 6] rfl zq0 ?_;(with_reducible refine (impl_within.calls a1 0 6 t102 _ A8.out).mono ?_);rintro e w' ⟨rfl,⟨nd,rfl⟩⟩;refine ⟨_,rfl,?_⟩)|((with_reducible refine gate_callee (f:=71) rfl ?_);refine goesL_ (some 14) rfl rfl Try.func71 zq16 rfl #[.bool t102,.int .i64 2] rfl zq0 ?_;(with_reducible refine (impl_unless.calls t102 2 t103 _ A9.out).mono ?_);rintro e w' ⟨rfl,⟨nd,rfl⟩⟩;refine ⟨_,rfl,?_⟩))
   go_ret
   exact ⟨by first|rfl|(simp [errW_none,errW_some,IntKind.wrap_i64,wrap64];done)|(simp [errW_none,errW_some] <;> rfl)|(simp [*,errW_none,errW_some] <;> rfl),by repeat (first|(with_reducible first|exact HB.out|apply below_alloc|apply pw_below_drewN|apply below_drew1)|exact HB.out)⟩
end Go.Proofs.Ytgfknljhogfeaaa.G
end

section
namespace Go.Proofs.Ytgfknljhogfeaaa.G
open Go.RowKit Go.Proofs.YtgfknljhogfeaaaW.PrintWords Go.Proofs.YtgfknljhogfeaaaW.PrintLast Go.Proofs.YtgfknljhogfeaaaW.PrintMore
attribute [local go_sem] max2_int min2_int max_two min_two max_three min_three max_four min_four
set_option linter.unusedVariables false
set_option linter.unusedSimpArgs false
def impl_size_Flag.f (l0:List (S68)):Option (Int):=some (l0.length:Int)
set_option maxHeartbeats 8000000 in
set_option maxRecDepth 100000 in
theorem impl_size_Flag.calls (A0:Option Addr) (c0:Nat) (l0:List (S68)) (r:Int) (w:World) (hr0:Kd.C k68 w A0 l0.length l0) (hc0:l0.length≤c0) (h:impl_size_Flag.f l0=some r) :
  Calls Try.prog 66 #[.slice A0 l0.length c0] w fun e w'=>e=.returned (.int .i64 r)∧Drawn0 w w':=by
 have HR0:=am hr0;have HC0:=am hc0;clear hr0 hc0;have H:(some (l0.length:Int))=some r:=h;clear h;obtain rfl:=Option.some.inj H
 go_enter Try.func66,Try.ntmps66
 go_wp2
 go_ret
 exact ⟨by first|rfl|(simp only [IntKind.wrap_i64,wrap64];done)|(simp;done)|(simp [*];done),by repeat (first|exact Drawn0.refl _|apply Drawn0.step)⟩
end Go.Proofs.Ytgfknljhogfeaaa.G
end

section
namespace Go.Proofs.Ytgfknljhogfeaaa.G
open Go.RowKit Go.Proofs.YtgfknljhogfeaaaW.PrintWords Go.Proofs.YtgfknljhogfeaaaW.PrintLast Go.Proofs.YtgfknljhogfeaaaW.PrintMore
attribute [local go_sem] max2_int min2_int max_two min_two max_three min_three max_four min_four
set_option linter.unusedVariables false
set_option linter.unusedSimpArgs false
def impl_ValidCode.f (l0_0:List (S68)) (l0_1:List (List Int)):Option (Bool):=if (l0_0.length:Int) > 0 then ((impl_setCode.f l0_0 0).bind fun t102=>(if t102=0 then (if (l0_1.length:Int)≤60 then ((impl_size_Flag.f l0_0).bind fun t103=>((impl_areWords.f l0_1 t103).bind fun t104=>(some t104))) else (some false)) else (some false))) else (some false)
def impl_ValidCode.T1:Bool × List (List Nat × List Nat):=(true,[([],[]),([0],[0]),([1],[1]),([2],[2]),([3],[3]),([4],[4]),([5,4],[4,5]),([6,4,4],[4,6]),([7,4],[4,7]),([4,8],[4,8]),([9,7],[9]),([10],[10]),([11,10],[10,11]),([12,10],[10,12]),([13,10],[10,13]),([10,14],[10,14]),([15,10],[15]),([16],[16]),([17,16],[16,17]),([16],[16]),([19,16],[16,19]),([20,16,16],[16,20]),([18,21,21,16],[16,18,21]),([16,22],[16,22]),([23,22,0,1,2,3,4,5,6,7,8,9,10,11,12,13,14,15,16,17,18,19,20,21,22,23],[23])])
def impl_ValidCode.B1:List Nat:=[0,1,3,7,15,31,63,127,255,511,1023,2047,4095,8191,16383,32767,65535,131071,262143,131071,655359,1703935,4194303,8388607,16777215]
theorem impl_ValidCode.tab1:rtab .any (opsOf Try.f30 1)=impl_ValidCode.T1:=by kernel_rfl
theorem impl_ValidCode.bits1:waitsOk impl_ValidCode.T1.2 impl_ValidCode.B1=true:=by kernel_rfl
set_option maxHeartbeats 8000000 in
set_option maxRecDepth 100000 in
theorem impl_ValidCode.calls (A0_0:Option Addr) (c0_0:Nat) (l0_0:List (S68)) (A0_1:Option Addr) (c0_1:Nat) (l0_1:List (List Int)) (r:Bool) (w:World) (hr0_0:Kd.C k68 w A0_0 l0_0.length l0_0) (hc0_0:l0_0.length≤c0_0) (hr0_1:Kd.C (Kd.slice 5 (Kd.int .u8)) w A0_1 l0_1.length l0_1) (hc0_1:l0_1.length≤c0_1) (h:impl_ValidCode.f l0_0 l0_1=some r) :
  Calls Try.prog 30 #[.agg #[.slice A0_0 l0_0.length c0_0,.slice A0_1 l0_1.length c0_1]] w fun e w'=>e=.returned (.bool r)∧Below w.heap.size w w':=by
 have hu33:=Try.underlying33;have HR0_0:=am hr0_0;have HC0_0:=am hc0_0;clear hr0_0 hc0_0;have HR0_1:=am hr0_1;have HC0_1:=am hc0_1;clear hr0_1 hc0_1;have HB:=am (Below.refl w.heap.size w);have H:(if (l0_0.length:Int) > 0 then ((impl_setCode.f l0_0 0).bind fun t102=>(if t102=0 then (if (l0_1.length:Int)≤60 then ((impl_size_Flag.f l0_0).bind fun t103=>((impl_areWords.f l0_1 t103).bind fun t104=>(some t104))) else (some false)) else (some false))) else (some false))=some r:=h;clear h
 by_cases c2:(l0_0.length:Int) > 0
 ·rw [if_pos c2] at H;have c2b0:decide (0 < (l0_0.length:Int))=true:=decide_eq_true c2;have c2b1:decide (0 < l0_0.length)=true:=decide_eq_true (by omega);clear c2;replace H:=Option.bind_eq_some_iff.mp H;obtain ⟨t102,A30,H⟩:=H;replace H:(if t102=0 then (if (l0_1.length:Int)≤60 then ((impl_size_Flag.f l0_0).bind fun t103=>((impl_areWords.f l0_1 t103).bind fun t104=>(some t104))) else (some false)) else (some false))=some r:=H;have A3:=am A30;clear A30
  by_cases c4:t102=0
  ·rw [if_pos c4] at H;have c4b0:(t102 == 0)=true:=beq_iff_eq.mpr c4;have c4b1:(t102 != 0)=false:=bne_eq_false_iff_eq.mpr c4;clear c4
   by_cases c5:(l0_1.length:Int)≤60
   ·rw [if_pos c5] at H;have c5b0:decide ((l0_1.length:Int)≤60)=true:=decide_eq_true c5;have c5b1:decide (l0_1.length≤60)=true:=decide_eq_true (by omega);clear c5;replace H:=Option.bind_eq_some_iff.mp H;obtain ⟨t103,A60,H⟩:=H;replace H:((impl_areWords.f l0_1 t103).bind fun t104=>(some t104))=some r:=H;have A6:=am A60;clear A60;replace H:=Option.bind_eq_some_iff.mp H;obtain ⟨t104,A70,H⟩:=H;replace H:(some t104)=some r:=H;have A7:=am A70;clear A70;obtain rfl:=Option.some.inj H
    go_enter Try.func30,Try.ntmps30
    try go_wp2_with (first|((with_reducible refine gate_dst (N:=1) rfl ?_);(try (refine gate_guard (by rfl) ?_;dsimp only));refine box_event ?hg (N:=1) ?hd (cs:=#[.slice A0_0 l0_0.length c0_0,.slice A0_1 l0_1.length c0_1]) (t:=33) ?hr ?_;(case hd=>rfl);(case hg=>rfl);(case hr=>exact zq15);intro gb101 hg w8 hbox hb;have n0_:=am (below_step zq2 hb);have n1_:=am (hbox);have n2_:=am ((by rw [hg];exact (below_size zq2):w.heap.size≤gb101));have n3_:=am ((by rw [hg];exact (below_size zq2):w.heap.size≤gb101));clear HB;have HB:=n0_;have BK101:=n1_;have GW101:=n2_;have GE101:=n3_;clear n0_ n1_ n2_ n3_;clear hb hbox hg))
    have n0_:=am (blk_drew BK101.out);have n1_:=am (below_drew1 HB.out);clear BK101;clear HB;have BK101:=n0_;have HB:=n1_;clear n0_ n1_;refine start_ (n:=25) (S:=fun w'=>w'.cell? ⟨gb101,0,none⟩=some (.slice A0_0 l0_0.length c0_0)∧w'.cell? ⟨gb101,1,none⟩=some (.slice A0_1 l0_1.length c0_1)) (ds:=[]) #[false,false,false,false,false,false,false,false,false,false,false,false,false,false,false,false,false,false,false,false,false,false,false,false,false] zq16 rfl rfl ⟨(blk_cell BK101.out 0).trans rfl,(blk_cell BK101.out 1).trans rfl⟩ (fun hHeld=>?_);refine with_tabW impl_ValidCode.tab1 impl_ValidCode.bits1 (fun HT_ HW_=>?_);generalize w8.drew=w9 at BK101 HB hHeld ⊢;refine pure_ (i:=0) (N:=some 3) (v:=?_) (a':=?_) #[true,false,false,false,false,false,false,false,false,false,false,false,false,false,false,false,false,false,false,false,false,false,false,false,false] rfl rfl (any_of HT_.out zq16) (fun _ _ _ h=>h) (Or.inl ⟨by rfl,?_⟩) ?_ ?_;rotate_left
    ·intro w';go_simp;with_reducible rfl
    rotate_left
    ·simp only [Act.put,List.setIfInBounds_toArray,List.set_cons_zero,List.set_cons_succ,i64_w,i32_w];rfl
    refine take_ (i:=1) (N:=some 4) (v:=?_) (a':=?_) #[true,true,false,false,false,false,false,false,false,false,false,false,false,false,false,false,false,false,false,false,false,false,false,false,false] rfl rfl (take_ofW HT_.out HW_.out zq16) (fun _ _ _ h=>h) (Or.inl ⟨by rfl,?_⟩) hHeld ?_ ?_;rotate_left
    ·rintro w' ⟨s0,s1⟩
     go_simp;with_reducible rfl
    rotate_left
    ·simp only [Act.put,List.setIfInBounds_toArray,List.set_cons_zero,List.set_cons_succ,i64_w,i32_w];rfl
    refine pure_ (i:=2) (N:=some 5) (v:=?_) (a':=?_) #[true,true,true,false,false,false,false,false,false,false,false,false,false,false,false,false,false,false,false,false,false,false,false,false,false] rfl rfl (any_of HT_.out zq16) (fun _ _ _ h=>h) (Or.inl ⟨by rfl,?_⟩) ?_ ?_;rotate_left
    ·intro w';go_simp;with_reducible rfl
    rotate_left
    ·simp only [Act.put,List.setIfInBounds_toArray,List.set_cons_zero,List.set_cons_succ,i64_w,i32_w];rfl
    refine pure_ (i:=3) (N:=some 6) (v:=?_) (a':=?_) #[true,true,true,true,false,false,false,false,false,false,false,false,false,false,false,false,false,false,false,false,false,false,false,false,false] rfl rfl (any_of HT_.out zq16) (fun _ _ _ h=>h) (Or.inl ⟨by rfl,?_⟩) ?_ ?_;rotate_left
    ·intro w';go_simp;with_reducible rfl
    rotate_left
    ·simp only [Act.put,List.setIfInBounds_toArray,List.set_cons_zero,List.set_cons_succ,i64_w,i32_w];rfl
    refine pure_ (i:=4) (N:=some 7) (v:=?_) (a':=?_) #[true,true,true,true,true,false,false,false,false,false,false,false,false,false,false,false,false,false,false,false,false,false,false,false,false] rfl rfl (any_of HT_.out zq16) (fun _ _ _ h=>h) (Or.inl ⟨by rfl,?_⟩) ?_ ?_;rotate_left
    ·intro w';go_simp;with_reducible rfl
    rotate_left
    ·simp only [Act.put,List.setIfInBounds_toArray,List.set_cons_zero,List.set_cons_succ,i64_w,i32_w];rfl
    refine pure_ (i:=5) (N:=some 8) (v:=?_) (a':=?_) #[true,true,true,true,true,true,false,false,false,false,false,false,false,false,false,false,false,false,false,false,false,false,false,false,false] rfl rfl (any_of HT_.out zq16) (fun _ _ _ h=>h) (Or.inl ⟨by rfl,?_⟩) ?_ ?_;rotate_left
    ·intro w';go_simp;with_reducible rfl
    rotate_left
    ·simp only [Act.put,List.setIfInBounds_toArray,List.set_cons_zero,List.set_cons_succ,i64_w,i32_w];rfl
    refine take_ (i:=6) (N:=some 9) (v:=?_) (a':=?_) #[true,true,true,true,true,true,true,false,false,false,false,false,false,false,false,false,false,false,false,false,false,false,false,false,false] rfl rfl (take_ofW HT_.out HW_.out zq16) (fun _ _ _ h=>h) (Or.inl ⟨by rfl,?_⟩) hHeld ?_ ?_;rotate_left
    ·rintro w' ⟨s0,s1⟩
     go_simp;with_reducible rfl
    rotate_left
    ·simp only [Act.put,List.setIfInBounds_toArray,List.set_cons_zero,List.set_cons_succ,i64_w,i32_w];rfl
    refine one_ (i:=7) (N:=some 10) #[true,true,true,true,true,true,true,true,false,false,false,false,false,false,false,false,false,false,false,false,false,false,false,false,false] rfl rfl (one_of HT_.out zq16) (by decide) (fun K hK=>?_);refine goes_ Try.func64 zq16 rfl #[.slice A0_0 l0_0.length c0_0,.int .i64 0] (by rfl) rfl rfl zq0 ?_
    with_reducible refine (impl_setCode.calls _ _ l0_0 0 t102 _ ?side1 ?side2 A3.out).mono ?_
    (case side1=>exact zq6);(case side2=>exact HC0_0.out)
    rintro e w10 ⟨rfl,hb⟩
    refine ⟨_,rfl,?_⟩;have n0_:=am (blk_below (g:=gb101) (o:=.cells #[.slice A0_0 l0_0.length c0_0,.slice A0_1 l0_1.length c0_1] 33 (0,0)) zq4 hb);have n1_:=am (below_step zq1 hb);clear BK101;clear HB;have BK101:=n0_;have HB:=n1_;clear n0_ n1_;(try clear hb);(try clear hb2);(try clear hk);(try clear hi);refine hK.out _ _ ⟨(blk_cell BK101.out 0).trans rfl,(blk_cell BK101.out 1).trans rfl⟩ (fun hHeld=>?_);clear hK K;refine norm_ (a':=?_) ?_ ?_;rotate_left
    ·show Act.put _ (some 10) _=_
     simp only [Act.put,List.setIfInBounds_toArray,List.set_cons_zero,List.set_cons_succ,i64_w,i32_w];rfl
    refine pure_ (i:=8) (N:=some 11) (v:=?_) (a':=?_) #[true,true,true,true,true,true,true,true,true,false,false,false,false,false,false,false,false,false,false,false,false,false,false,false,false] rfl rfl (any_of HT_.out zq16) (fun _ _ _ h=>h) (Or.inl ⟨by rfl,?_⟩) ?_ ?_;rotate_left
    ·intro w';go_simp;with_reducible rfl
    rotate_left
    ·simp only [Act.put,List.setIfInBounds_toArray,List.set_cons_zero,List.set_cons_succ,i64_w,i32_w];rfl
    refine pure_ (i:=9) (N:=some 12) (v:=?_) (a':=?_) #[true,true,true,true,true,true,true,true,true,true,false,false,false,false,false,false,false,false,false,false,false,false,false,false,false] rfl rfl (any_of HT_.out zq16) (fun _ _ _ h=>h) (Or.inl ⟨by rfl,?_⟩) ?_ ?_;rotate_left
    ·intro w';go_simp;with_reducible rfl
    rotate_left
    ·simp only [Act.put,List.setIfInBounds_toArray,List.set_cons_zero,List.set_cons_succ,i64_w,i32_w];rfl
    refine pure_ (i:=10) (N:=some 13) (v:=?_) (a':=?_) #[true,true,true,true,true,true,true,true,true,true,true,false,false,false,false,false,false,false,false,false,false,false,false,false,false] rfl rfl (any_of HT_.out zq16) (fun _ _ _ h=>h) (Or.inl ⟨by rfl,?_⟩) ?_ ?_;rotate_left
    ·intro w';go_simp;with_reducible rfl
    rotate_left
    ·simp only [Act.put,List.setIfInBounds_toArray,List.set_cons_zero,List.set_cons_succ,i64_w,i32_w];rfl
    refine pure_ (i:=11) (N:=some 14) (v:=?_) (a':=?_) #[true,true,true,true,true,true,true,true,true,true,true,true,false,false,false,false,false,false,false,false,false,false,false,false,false] rfl rfl (any_of HT_.out zq16) (fun _ _ _ h=>h) (Or.inl ⟨by rfl,?_⟩) ?_ ?_;rotate_left
    ·intro w';go_simp;with_reducible rfl
    rotate_left
    ·simp only [Act.put,List.setIfInBounds_toArray,List.set_cons_zero,List.set_cons_succ,i64_w,i32_w];rfl
    refine take_ (i:=12) (N:=some 15) (v:=?_) (a':=?_) #[true,true,true,true,true,true,true,true,true,true,true,true,true,false,false,false,false,false,false,false,false,false,false,false,false] rfl rfl (take_ofW HT_.out HW_.out zq16) (fun _ _ _ h=>h) (Or.inl ⟨by rfl,?_⟩) hHeld ?_ ?_;rotate_left
    ·rintro w' ⟨s0,s1⟩
     go_simp;with_reducible rfl
    rotate_left
    ·simp only [Act.put,List.setIfInBounds_toArray,List.set_cons_zero,List.set_cons_succ,i64_w,i32_w];rfl
    refine pure_ (i:=13) (N:=some 16) (v:=?_) (a':=?_) #[true,true,true,true,true,true,true,true,true,true,true,true,true,true,false,false,false,false,false,false,false,false,false,false,false] rfl rfl (any_of HT_.out zq16) (fun _ _ _ h=>h) (Or.inl ⟨by rfl,?_⟩) ?_ ?_;rotate_left
    ·intro w';go_simp;with_reducible rfl
    rotate_left
    ·simp only [Act.put,List.setIfInBounds_toArray,List.set_cons_zero,List.set_cons_succ,i64_w,i32_w];rfl
    refine pure_ (i:=14) (N:=some 17) (v:=?_) (a':=?_) #[true,true,true,true,true,true,true,true,true,true,true,true,true,true,true,false,false,false,false,false,false,false,false,false,false] rfl rfl (any_of HT_.out zq16) (fun _ _ _ h=>h) (Or.inl ⟨by rfl,?_⟩) ?_ ?_;rotate_left
    ·intro w';go_simp;with_reducible rfl
    rotate_left
    ·simp only [Act.put,List.setIfInBounds_toArray,List.set_cons_zero,List.set_cons_succ,i64_w,i32_w];rfl
    refine pure_ (i:=15) (N:=some 18) (v:=?_) (a':=?_) #[true,true,true,true,true,true,true,true,true,true,true,true,true,true,true,true,false,false,false,false,false,false,false,false,false] rfl rfl (any_of HT_.out zq16) (fun _ _ _ h=>h) (Or.inl ⟨by rfl,?_⟩) ?_ ?_;rotate_left
    ·intro w';go_simp;with_reducible rfl
    rotate_left
    ·simp only [Act.put,List.setIfInBounds_toArray,List.set_cons_zero,List.set_cons_succ,i64_w,i32_w];rfl
    refine pure_ (i:=16) (N:=some 19) (v:=?_) (a':=?_) #[true,true,true,true,true,true,true,true,true,true,true,true,true,true,true,true,true,false,false,false,false,false,false,false,false] rfl rfl (any_of HT_.out zq16) (fun _ _ _ h=>h) (Or.inl ⟨by rfl,?_⟩) ?_ ?_;rotate_left
    ·intro w';go_simp;with_reducible rfl
    rotate_left
    ·simp only [Act.put,List.setIfInBounds_toArray,List.set_cons_zero,List.set_cons_succ,i64_w,i32_w];rfl
    refine pure_ (i:=17) (N:=some 20) (v:=?_) (a':=?_) #[true,true,true,true,true,true,true,true,true,true,true,true,true,true,true,true,true,true,false,false,false,false,false,false,false] rfl rfl (any_of HT_.out zq16) (fun _ _ _ h=>h) (Or.inl ⟨by rfl,?_⟩) ?_ ?_;rotate_left
    ·intro w';go_simp;with_reducible rfl
    rotate_left
    ·simp only [Act.put,List.setIfInBounds_toArray,List.set_cons_zero,List.set_cons_succ,i64_w,i32_w];rfl
    refine pure_ (i:=19) (N:=some 22) (v:=?_) (a':=?_) #[true,true,true,true,true,true,true,true,true,true,true,true,true,true,true,true,true,true,false,true,false,false,false,false,false] rfl rfl (any_of HT_.out zq16) (fun _ _ _ h=>h) (Or.inl ⟨by rfl,?_⟩) ?_ ?_;rotate_left
    ·intro w';go_simp;with_reducible rfl
    rotate_left
    ·simp only [Act.put,List.setIfInBounds_toArray,List.set_cons_zero,List.set_cons_succ,i64_w,i32_w];rfl
    refine take_ (i:=18) (N:=some 21) (v:=?_) (a':=?_) #[true,true,true,true,true,true,true,true,true,true,true,true,true,true,true,true,true,true,true,true,false,false,false,false,false] rfl rfl (take_ofW HT_.out HW_.out zq16) (fun _ _ _ h=>h) (Or.inl ⟨by rfl,?_⟩) hHeld ?_ ?_;rotate_left
    ·rintro w' ⟨s0,s1⟩
     go_simp;with_reducible rfl
    rotate_left
    ·simp only [Act.put,List.setIfInBounds_toArray,List.set_cons_zero,List.set_cons_succ,i64_w,i32_w];rfl
    refine take_ (i:=20) (N:=some 23) (v:=?_) (a':=?_) #[true,true,true,true,true,true,true,true,true,true,true,true,true,true,true,true,true,true,true,true,true,false,false,false,false] rfl rfl (take_ofW HT_.out HW_.out zq16) (fun _ _ _ h=>h) (Or.inl ⟨by rfl,?_⟩) hHeld ?_ ?_;rotate_left
    ·rintro w' ⟨s0,s1⟩
     go_simp;with_reducible rfl
    rotate_left
    ·simp only [Act.put,List.setIfInBounds_toArray,List.set_cons_zero,List.set_cons_succ,i64_w,i32_w];rfl
    refine one_ (i:=21) (N:=some 24) #[true,true,true,true,true,true,true,true,true,true,true,true,true,true,true,true,true,true,true,true,true,true,false,false,false] rfl rfl (one_of HT_.out zq16) (by decide) (fun K hK=>?_);refine goes_ Try.func66 zq16 rfl #[.slice A0_0 l0_0.length c0_0] (by rfl) rfl rfl zq0 ?_
    with_reducible refine (impl_size_Flag.calls _ _ l0_0 t103 _ ?side1 ?side2 A6.out).mono ?_
    (case side1=>exact zq6);(case side2=>exact HC0_0.out)
    rintro e w' ⟨rfl,⟨nd,rfl⟩⟩
    refine ⟨_,rfl,?_⟩;refine hK.out _ _ ⟨(blk_cell BK101.out 0).trans rfl,(blk_cell BK101.out 1).trans rfl⟩ (fun hHeld=>?_);clear hK K;refine norm_ (a':=?_) ?_ ?_;rotate_left
    ·show Act.put _ (some 24) _=_
     simp only [Act.put,List.setIfInBounds_toArray,List.set_cons_zero,List.set_cons_succ,i64_w,i32_w];rfl
    refine one_ (i:=22) (N:=some 25) #[true,true,true,true,true,true,true,true,true,true,true,true,true,true,true,true,true,true,true,true,true,true,true,false,false] rfl rfl (one_of HT_.out zq16) (by decide) (fun K hK=>?_);refine goes_ Try.func65 zq16 rfl #[.slice A0_1 l0_1.length c0_1,.int .i64 t103] (by rfl) rfl rfl zq0 ?_
    with_reducible refine (impl_areWords.calls _ _ l0_1 t103 t104 _ ?side1 ?side2 A7.out).mono ?_
    (case side1=>exact zq83);(case side2=>exact HC0_1.out)
    rintro e w11 ⟨rfl,hb⟩
    refine ⟨_,rfl,?_⟩;have n0_:=am (blk_below (g:=gb101) (o:=.cells #[.slice A0_0 l0_0.length c0_0,.slice A0_1 l0_1.length c0_1] 33 (0,0)) zq4 hb);have n1_:=am (below_step zq1 hb);clear BK101;clear HB;have BK101:=n0_;have HB:=n1_;clear n0_ n1_;(try clear hb);(try clear hb2);(try clear hk);(try clear hi);refine hK.out _ _ ⟨(blk_cell BK101.out 0).trans rfl,(blk_cell BK101.out 1).trans rfl⟩ (fun hHeld=>?_);clear hK K;refine norm_ (a':=?_) ?_ ?_;rotate_left
    ·show Act.put _ (some 25) _=_
     simp only [Act.put,List.setIfInBounds_toArray,List.set_cons_zero,List.set_cons_succ,i64_w,i32_w];rfl
    refine pure_ (i:=23) (N:=some 26) (v:=?_) (a':=?_) #[true,true,true,true,true,true,true,true,true,true,true,true,true,true,true,true,true,true,true,true,true,true,true,true,false] rfl rfl (any_of HT_.out zq16) (fun _ _ _ h=>h) (Or.inl ⟨by rfl,?_⟩) ?_ ?_;rotate_left
    ·intro w';go_simp;with_reducible rfl
    rotate_left
    ·simp only [Act.put,List.setIfInBounds_toArray,List.set_cons_zero,List.set_cons_succ,i64_w,i32_w];rfl
    refine pure_ (i:=24) (N:=some 2) (v:=?_) (a':=?_) #[true,true,true,true,true,true,true,true,true,true,true,true,true,true,true,true,true,true,true,true,true,true,true,true,true] rfl rfl (any_of HT_.out zq16) (fun _ _ _ h=>h) (Or.inl ⟨by rfl,?_⟩) ?_ ?_;rotate_left
    ·intro w';go_simp;with_reducible rfl
    rotate_left
    ·simp only [Act.put,List.setIfInBounds_toArray,List.set_cons_zero,List.set_cons_succ,i64_w,i32_w];rfl
    refine done_ (done_of HT_.out zq16) ?_;(try go_wp2)
    go_ret
    exact ⟨by first|rfl|(simp [errW_none,errW_some,IntKind.wrap_i64,wrap64];done)|(simp [errW_none,errW_some] <;> rfl)|(simp [*,errW_none,errW_some] <;> rfl),by repeat (first|(with_reducible first|exact HB.out|apply below_alloc|apply pw_below_drewN|apply below_drew1|refine below_set ?_ GE101.out)|exact HB.out)⟩
   ·rw [if_neg c5] at H;have c5b0:decide ((l0_1.length:Int)≤60)=false:=decide_eq_false c5;have c5b1:decide (l0_1.length≤60)=false:=decide_eq_false (by omega);clear c5;obtain rfl:=Option.some.inj H
    go_enter Try.func30,Try.ntmps30
    try go_wp2_with (first|((with_reducible refine gate_dst (N:=1) rfl ?_);(try (refine gate_guard (by rfl) ?_;dsimp only));refine box_event ?hg (N:=1) ?hd (cs:=#[.slice A0_0 l0_0.length c0_0,.slice A0_1 l0_1.length c0_1]) (t:=33) ?hr ?_;(case hd=>rfl);(case hg=>rfl);(case hr=>exact zq15);intro gb101 hg w12 hbox hb;have n0_:=am (below_step zq2 hb);have n1_:=am (hbox);have n2_:=am ((by rw [hg];exact (below_size zq2):w.heap.size≤gb101));have n3_:=am ((by rw [hg];exact (below_size zq2):w.heap.size≤gb101));clear HB;have HB:=n0_;have BK101:=n1_;have GW101:=n2_;have GE101:=n3_;clear n0_ n1_ n2_ n3_;clear hb hbox hg))
    have n0_:=am (blk_drew BK101.out);have n1_:=am (below_drew1 HB.out);clear BK101;clear HB;have BK101:=n0_;have HB:=n1_;clear n0_ n1_;refine start_ (n:=25) (S:=fun w'=>w'.cell? ⟨gb101,0,none⟩=some (.slice A0_0 l0_0.length c0_0)∧w'.cell? ⟨gb101,1,none⟩=some (.slice A0_1 l0_1.length c0_1)) (ds:=[]) #[false,false,false,false,false,false,false,false,false,false,false,false,false,false,false,false,false,false,false,false,false,false,false,false,false] zq16 rfl rfl ⟨(blk_cell BK101.out 0).trans rfl,(blk_cell BK101.out 1).trans rfl⟩ (fun hHeld=>?_);refine with_tabW impl_ValidCode.tab1 impl_ValidCode.bits1 (fun HT_ HW_=>?_);generalize w12.drew=w13 at BK101 HB hHeld ⊢;refine pure_ (i:=0) (N:=some 3) (v:=?_) (a':=?_) #[true,false,false,false,false,false,false,false,false,false,false,false,false,false,false,false,false,false,false,false,false,false,false,false,false] rfl rfl (any_of HT_.out zq16) (fun _ _ _ h=>h) (Or.inl ⟨by rfl,?_⟩) ?_ ?_;rotate_left
    ·intro w';go_simp;with_reducible rfl
    rotate_left
    ·simp only [Act.put,List.setIfInBounds_toArray,List.set_cons_zero,List.set_cons_succ,i64_w,i32_w];rfl
    refine take_ (i:=1) (N:=some 4) (v:=?_) (a':=?_) #[true,true,false,false,false,false,false,false,false,false,false,false,false,false,false,false,false,false,false,false,false,false,false,false,false] rfl rfl (take_ofW HT_.out HW_.out zq16) (fun _ _ _ h=>h) (Or.inl ⟨by rfl,?_⟩) hHeld ?_ ?_;rotate_left
    ·rintro w' ⟨s0,s1⟩
     go_simp;with_reducible rfl
    rotate_left
    ·simp only [Act.put,List.setIfInBounds_toArray,List.set_cons_zero,List.set_cons_succ,i64_w,i32_w];rfl
    refine pure_ (i:=2) (N:=some 5) (v:=?_) (a':=?_) #[true,true,true,false,false,false,false,false,false,false,false,false,false,false,false,false,false,false,false,false,false,false,false,false,false] rfl rfl (any_of HT_.out zq16) (fun _ _ _ h=>h) (Or.inl ⟨by rfl,?_⟩) ?_ ?_;rotate_left
    ·intro w';go_simp;with_reducible rfl
    rotate_left
    ·simp only [Act.put,List.setIfInBounds_toArray,List.set_cons_zero,List.set_cons_succ,i64_w,i32_w];rfl
    refine pure_ (i:=3) (N:=some 6) (v:=?_) (a':=?_) #[true,true,true,true,false,false,false,false,false,false,false,false,false,false,false,false,false,false,false,false,false,false,false,false,false] rfl rfl (any_of HT_.out zq16) (fun _ _ _ h=>h) (Or.inl ⟨by rfl,?_⟩) ?_ ?_;rotate_left
    ·intro w';go_simp;with_reducible rfl
    rotate_left
    ·simp only [Act.put,List.setIfInBounds_toArray,List.set_cons_zero,List.set_cons_succ,i64_w,i32_w];rfl
    refine pure_ (i:=4) (N:=some 7) (v:=?_) (a':=?_) #[true,true,true,true,true,false,false,false,false,false,false,false,false,false,false,false,false,false,false,false,false,false,false,false,false] rfl rfl (any_of HT_.out zq16) (fun _ _ _ h=>h) (Or.inl ⟨by rfl,?_⟩) ?_ ?_;rotate_left
    ·intro w';go_simp;with_reducible rfl
    rotate_left
    ·simp only [Act.put,List.setIfInBounds_toArray,List.set_cons_zero,List.set_cons_succ,i64_w,i32_w];rfl
    refine pure_ (i:=5) (N:=some 8) (v:=?_) (a':=?_) #[true,true,true,true,true,true,false,false,false,false,false,false,false,false,false,false,false,false,false,false,false,false,false,false,false] rfl rfl (any_of HT_.out zq16) (fun _ _ _ h=>h) (Or.inl ⟨by rfl,?_⟩) ?_ ?_;rotate_left
    ·intro w';go_simp;with_reducible rfl
    rotate_left
    ·simp only [Act.put,List.setIfInBounds_toArray,List.set_cons_zero,List.set_cons_succ,i64_w,i32_w];rfl
    refine take_ (i:=6) (N:=some 9) (v:=?_) (a':=?_) #[true,true,true,true,true,true,true,false,false,false,false,false,false,false,false,false,false,false,false,false,false,false,false,false,false] rfl rfl (take_ofW HT_.out HW_.out zq16) (fun _ _ _ h=>h) (Or.inl ⟨by rfl,?_⟩) hHeld ?_ ?_;rotate_left
    ·rintro w' ⟨s0,s1⟩
     go_simp;with_reducible rfl
    rotate_left
    ·simp only [Act.put,List.setIfInBounds_toArray,List.set_cons_zero,List.set_cons_succ,i64_w,i32_w];rfl
    refine one_ (i:=7) (N:=some 10) #[true,true,true,true,true,true,true,true,false,false,false,false,false,false,false,false,false,false,false,false,false,false,false,false,false] rfl rfl (one_of HT_.out zq16) (by decide) (fun K hK=>?_);refine goes_ Try.func64 zq16 rfl #[.slice A0_0 l0_0.length c0_0,.int .i64 0] (by rfl) rfl rfl zq0 ?_
    with_reducible refine (impl_setCode.calls _ _ l0_0 0 t102 _ ?side1 ?side2 A3.out).mono ?_
    (case side1=>exact zq6);(case side2=>exact HC0_0.out)
    rintro e w14 ⟨rfl,hb⟩
    refine ⟨_,rfl,?_⟩;have n0_:=am (blk_below (g:=gb101) (o:=.cells #[.slice A0_0 l0_0.length c0_0,.slice A0_1 l0_1.length c0_1] 33 (0,0)) zq4 hb);have n1_:=am (below_step zq1 hb);clear BK101;clear HB;have BK101:=n0_;have HB:=n1_;clear n0_ n1_;(try clear hb);(try clear hb2);(try clear hk);(try clear hi);refine hK.out _ _ ⟨(blk_cell BK101.out 0).trans rfl,(blk_cell BK101.out 1).trans rfl⟩ (fun hHeld=>?_);clear hK K;refine norm_ (a':=?_) ?_ ?_;rotate_left
    ·show Act.put _ (some 10) _=_
     simp only [Act.put,List.setIfInBounds_toArray,List.set_cons_zero,List.set_cons_succ,i64_w,i32_w];rfl
    refine pure_ (i:=8) (N:=some 11) (v:=?_) (a':=?_) #[true,true,true,true,true,true,true,true,true,false,false,false,false,false,false,false,false,false,false,false,false,false,false,false,false] rfl rfl (any_of HT_.out zq16) (fun _ _ _ h=>h) (Or.inl ⟨by rfl,?_⟩) ?_ ?_;rotate_left
    ·intro w';go_simp;with_reducible rfl
    rotate_left
    ·simp only [Act.put,List.setIfInBounds_toArray,List.set_cons_zero,List.set_cons_succ,i64_w,i32_w];rfl
    refine pure_ (i:=9) (N:=some 12) (v:=?_) (a':=?_) #[true,true,true,true,true,true,true,true,true,true,false,false,false,false,false,false,false,false,false,false,false,false,false,false,false] rfl rfl (any_of HT_.out zq16) (fun _ _ _ h=>h) (Or.inl ⟨by rfl,?_⟩) ?_ ?_;rotate_left
    ·intro w';go_simp;with_reducible rfl
    rotate_left
    ·simp only [Act.put,List.setIfInBounds_toArray,List.set_cons_zero,List.set_cons_succ,i64_w,i32_w];rfl
    refine pure_ (i:=10) (N:=some 13) (v:=?_) (a':=?_) #[true,true,true,true,true,true,true,true,true,true,true,false,false,false,false,false,false,false,false,false,false,false,false,false,false] rfl rfl (any_of HT_.out zq16) (fun _ _ _ h=>h) (Or.inl ⟨by rfl,?_⟩) ?_ ?_;rotate_left
    ·intro w';go_simp;with_reducible rfl
    rotate_left
    ·simp only [Act.put,List.setIfInBounds_toArray,List.set_cons_zero,List.set_cons_succ,i64_w,i32_w];rfl
    refine pure_ (i:=11) (N:=some 14) (v:=?_) (a':=?_) #[true,true,true,true,true,true,true,true,true,true,true,true,false,false,false,false,false,false,false,false,false,false,false,false,false] rfl rfl (any_of HT_.out zq16) (fun _ _ _ h=>h) (Or.inl ⟨by rfl,?_⟩) ?_ ?_;rotate_left
    ·intro w';go_simp;with_reducible rfl
    rotate_left
    ·simp only [Act.put,List.setIfInBounds_toArray,List.set_cons_zero,List.set_cons_succ,i64_w,i32_w];rfl
    refine take_ (i:=12) (N:=some 15) (v:=?_) (a':=?_) #[true,true,true,true,true,true,true,true,true,true,true,true,true,false,false,false,false,false,false,false,false,false,false,false,false] rfl rfl (take_ofW HT_.out HW_.out zq16) (fun _ _ _ h=>h) (Or.inl ⟨by rfl,?_⟩) hHeld ?_ ?_;rotate_left
    ·rintro w' ⟨s0,s1⟩
     go_simp;with_reducible rfl
    rotate_left
    ·simp only [Act.put,List.setIfInBounds_toArray,List.set_cons_zero,List.set_cons_succ,i64_w,i32_w];rfl
    refine pure_ (i:=13) (N:=some 16) (v:=?_) (a':=?_) #[true,true,true,true,true,true,true,true,true,true,true,true,true,true,false,false,false,false,false,false,false,false,false,false,false] rfl rfl (any_of HT_.out zq16) (fun _ _ _ h=>h) (Or.inl ⟨by rfl,?_⟩) ?_ ?_;rotate_left
    ·intro w';go_simp;with_reducible rfl
    rotate_left
    ·simp only [Act.put,List.setIfInBounds_toArray,List.set_cons_zero,List.set_cons_succ,i64_w,i32_w];rfl
    refine pure_ (i:=14) (N:=some 17) (v:=?_) (a':=?_) #[true,true,true,true,true,true,true,true,true,true,true,true,true,true,true,false,false,false,false,false,false,false,false,false,false] rfl rfl (any_of HT_.out zq16) (fun _ _ _ h=>h) (Or.inl ⟨by rfl,?_⟩) ?_ ?_;rotate_left
    ·intro w';go_simp;with_reducible rfl
    rotate_left
    ·simp only [Act.put,List.setIfInBounds_toArray,List.set_cons_zero,List.set_cons_succ,i64_w,i32_w];rfl
    refine pure_ (i:=15) (N:=some 18) (v:=?_) (a':=?_) #[true,true,true,true,true,true,true,true,true,true,true,true,true,true,true,true,false,false,false,false,false,false,false,false,false] rfl rfl (any_of HT_.out zq16) (fun _ _ _ h=>h) (Or.inl ⟨by rfl,?_⟩) ?_ ?_;rotate_left
    ·intro w';go_simp;with_reducible rfl
    rotate_left
    ·simp only [Act.put,List.setIfInBounds_toArray,List.set_cons_zero,List.set_cons_succ,i64_w,i32_w];rfl
    refine pure_ (i:=16) (N:=some 19) (v:=?_) (a':=?_) #[true,true,true,true,true,true,true,true,true,true,true,true,true,true,true,true,true,false,false,false,false,false,false,false,false] rfl rfl (any_of HT_.out zq16) (fun _ _ _ h=>h) (Or.inl ⟨by rfl,?_⟩) ?_ ?_;rotate_left
    ·intro w';go_simp;with_reducible rfl
    rotate_left
    ·simp only [Act.put,List.setIfInBounds_toArray,List.set_cons_zero,List.set_cons_succ,i64_w,i32_w];rfl
    refine pure_ (i:=17) (N:=some 20) (v:=undef) (a':=?_) #[true,true,true,true,true,true,true,true,true,true,true,true,true,true,true,true,true,true,false,false,false,false,false,false,false] rfl rfl (any_of HT_.out zq16) (fun _ _ _ h=>h) (Or.inr ⟨by rfl,rfl⟩) ?_ ?_;rotate_left
    ·simp only [Act.put,List.setIfInBounds_toArray,List.set_cons_zero,List.set_cons_succ,i64_w,i32_w];rfl
    refine pure_ (i:=18) (N:=some 21) (v:=undef) (a':=?_) #[true,true,true,true,true,true,true,true,true,true,true,true,true,true,true,true,true,true,true,false,false,false,false,false,false] rfl rfl (any_of HT_.out zq16) (fun _ _ _ h=>h) (Or.inr ⟨by rfl,rfl⟩) ?_ ?_;rotate_left
    ·simp only [Act.put,List.setIfInBounds_toArray,List.set_cons_zero,List.set_cons_succ,i64_w,i32_w];rfl
    refine pure_ (i:=19) (N:=some 22) (v:=undef) (a':=?_) #[true,true,true,true,true,true,true,true,true,true,true,true,true,true,true,true,true,true,true,true,false,false,false,false,false] rfl rfl (any_of HT_.out zq16) (fun _ _ _ h=>h) (Or.inr ⟨by rfl,rfl⟩) ?_ ?_;rotate_left
    ·simp only [Act.put,List.setIfInBounds_toArray,List.set_cons_zero,List.set_cons_succ,i64_w,i32_w];rfl
    refine pure_ (i:=20) (N:=some 23) (v:=undef) (a':=?_) #[true,true,true,true,true,true,true,true,true,true,true,true,true,true,true,true,true,true,true,true,true,false,false,false,false] rfl rfl (any_of HT_.out zq16) (fun _ _ _ h=>h) (Or.inr ⟨by rfl,rfl⟩) ?_ ?_;rotate_left
    ·simp only [Act.put,List.setIfInBounds_toArray,List.set_cons_zero,List.set_cons_succ,i64_w,i32_w];rfl
    refine pure_ (i:=21) (N:=some 24) (v:=undef) (a':=?_) #[true,true,true,true,true,true,true,true,true,true,true,true,true,true,true,true,true,true,true,true,true,true,false,false,false] rfl rfl (any_of HT_.out zq16) (fun _ _ _ h=>h) (Or.inr ⟨by rfl,rfl⟩) ?_ ?_;rotate_left
    ·simp only [Act.put,List.setIfInBounds_toArray,List.set_cons_zero,List.set_cons_succ,i64_w,i32_w];rfl
    refine pure_ (i:=22) (N:=some 25) (v:=undef) (a':=?_) #[true,true,true,true,true,true,true,true,true,true,true,true,true,true,true,true,true,true,true,true,true,true,true,false,false] rfl rfl (any_of HT_.out zq16) (fun _ _ _ h=>h) (Or.inr ⟨by rfl,rfl⟩) ?_ ?_;rotate_left
    ·simp only [Act.put,List.setIfInBounds_toArray,List.set_cons_zero,List.set_cons_succ,i64_w,i32_w];rfl
    refine pure_ (i:=23) (N:=some 26) (v:=?_) (a':=?_) #[true,true,true,true,true,true,true,true,true,true,true,true,true,true,true,true,true,true,true,true,true,true,true,true,false] rfl rfl (any_of HT_.out zq16) (fun _ _ _ h=>h) (Or.inl ⟨by rfl,?_⟩) ?_ ?_;rotate_left
    ·intro w';go_simp;with_reducible rfl
    rotate_left
    ·simp only [Act.put,List.setIfInBounds_toArray,List.set_cons_zero,List.set_cons_succ,i64_w,i32_w];rfl
    refine pure_ (i:=24) (N:=some 2) (v:=?_) (a':=?_) #[true,true,true,true,true,true,true,true,true,true,true,true,true,true,true,true,true,true,true,true,true,true,true,true,true] rfl rfl (any_of HT_.out zq16) (fun _ _ _ h=>h) (Or.inl ⟨by rfl,?_⟩) ?_ ?_;rotate_left
    ·intro w';go_simp;with_reducible rfl
    rotate_left
    ·simp only [Act.put,List.setIfInBounds_toArray,List.set_cons_zero,List.set_cons_succ,i64_w,i32_w];rfl
    refine done_ (done_of HT_.out zq16) ?_;(try go_wp2)
    go_ret
    exact ⟨by first|rfl|(simp [errW_none,errW_some,IntKind.wrap_i64,wrap64];done)|(simp [errW_none,errW_some] <;> rfl)|(simp [*,errW_none,errW_some] <;> rfl),by repeat (first|(with_reducible first|exact HB.out|apply below_alloc|apply pw_below_drewN|apply below_drew1|refine below_set ?_ GE101.out)|exact HB.out)⟩
  ·rw [if_neg c4] at H;have c4b0:(t102 == 0)=false:=beq_eq_false_iff_ne.mpr c4;have c4b1:(t102 != 0)=true:=bne_iff_ne.mpr c4;obtain rfl:=Option.some.inj H
   go_enter Try.func30,Try.ntmps30
   try go_wp2_with (first|((with_reducible refine gate_dst (N:=1) rfl ?_);(try (refine gate_guard (by rfl) ?_;dsimp only));refine box_event ?hg (N:=1) ?hd (cs:=#[.slice A0_0 l0_0.length c0_0,.slice A0_1 l0_1.length c0_1]) (t:=33) ?hr ?_;(case hd=>rfl);(case hg=>rfl);(case hr=>exact zq15);intro gb101 hg w15 hbox hb;have n0_:=am (below_step zq2 hb);have n1_:=am (hbox);have n2_:=am ((by rw [hg];exact (below_size zq2):w.heap.size≤gb101));have n3_:=am ((by rw [hg];exact (below_size zq2):w.heap.size≤gb101));clear HB;have HB:=n0_;have BK101:=n1_;have GW101:=n2_;have GE101:=n3_;clear n0_ n1_ n2_ n3_;clear hb hbox hg))
   have n0_:=am (blk_drew BK101.out);have n1_:=am (below_drew1 HB.out);clear BK101;clear HB;have BK101:=n0_;have HB:=n1_;clear n0_ n1_;refine start_ (n:=25) (S:=fun w'=>w'.cell? ⟨gb101,0,none⟩=some (.slice A0_0 l0_0.length c0_0)∧w'.cell? ⟨gb101,1,none⟩=some (.slice A0_1 l0_1.length c0_1)) (ds:=[]) #[false,false,false,false,false,false,false,false,false,false,false,false,false,false,false,false,false,false,false,false,false,false,false,false,false] zq16 rfl rfl ⟨(blk_cell BK101.out 0).trans rfl,(blk_cell BK101.out 1).trans rfl⟩ (fun hHeld=>?_);refine with_tabW impl_ValidCode.tab1 impl_ValidCode.bits1 (fun HT_ HW_=>?_);generalize w15.drew=w16 at BK101 HB hHeld ⊢;refine pure_ (i:=0) (N:=some 3) (v:=?_) (a':=?_) #[true,false,false,false,false,false,false,false,false,false,false,false,false,false,false,false,false,false,false,false,false,false,false,false,false] rfl rfl (any_of HT_.out zq16) (fun _ _ _ h=>h) (Or.inl ⟨by rfl,?_⟩) ?_ ?_;rotate_left
   ·intro w';go_simp;with_reducible rfl
   rotate_left
   ·simp only [Act.put,List.setIfInBounds_toArray,List.set_cons_zero,List.set_cons_succ,i64_w,i32_w];rfl
   refine take_ (i:=1) (N:=some 4) (v:=?_) (a':=?_) #[true,true,false,false,false,false,false,false,false,false,false,false,false,false,false,false,false,false,false,false,false,false,false,false,false] rfl rfl (take_ofW HT_.out HW_.out zq16) (fun _ _ _ h=>h) (Or.inl ⟨by rfl,?_⟩) hHeld ?_ ?_;rotate_left
   ·rintro w' ⟨s0,s1⟩
    go_simp;with_reducible rfl
   rotate_left
   ·simp only [Act.put,List.setIfInBounds_toArray,List.set_cons_zero,List.set_cons_succ,i64_w,i32_w];rfl
   refine pure_ (i:=2) (N:=some 5) (v:=?_) (a':=?_) #[true,true,true,false,false,false,false,false,false,false,false,false,false,false,false,false,false,false,false,false,false,false,false,false,false] rfl rfl (any_of HT_.out zq16) (fun _ _ _ h=>h) (Or.inl ⟨by rfl,?_⟩) ?_ ?_;rotate_left
   ·intro w';go_simp;with_reducible rfl
   rotate_left
   ·simp only [Act.put,List.setIfInBounds_toArray,List.set_cons_zero,List.set_cons_succ,i64_w,i32_w];rfl
   refine pure_ (i:=3) (N:=some 6) (v:=?_) (a':=?_) #[true,true,true,true,false,false,false,false,false,false,false,false,false,false,false,false,false,false,false,false,false,false,false,false,false] rfl rfl (any_of HT_.out zq16) (fun _ _ _ h=>h) (Or.inl ⟨by rfl,?_⟩) ?_ ?_;rotate_left
   ·intro w';go_simp;with_reducible rfl
   rotate_left
   ·simp only [Act.put,List.setIfInBounds_toArray,List.set_cons_zero,List.set_cons_succ,i64_w,i32_w];rfl
   refine pure_ (i:=4) (N:=some 7) (v:=?_) (a':=?_) #[true,true,true,true,true,false,false,false,false,false,false,false,false,false,false,false,false,false,false,false,false,false,false,false,false] rfl rfl (any_of HT_.out zq16) (fun _ _ _ h=>h) (Or.inl ⟨by rfl,?_⟩) ?_ ?_;rotate_left
   ·intro w';go_simp;with_reducible rfl
   rotate_left
   ·simp only [Act.put,List.setIfInBounds_toArray,List.set_cons_zero,List.set_cons_succ,i64_w,i32_w];rfl
   refine pure_ (i:=5) (N:=some 8) (v:=?_) (a':=?_) #[true,true,true,true,true,true,false,false,false,false,false,false,false,false,false,false,false,false,false,false,false,false,false,false,false] rfl rfl (any_of HT_.out zq16) (fun _ _ _ h=>h) (Or.inl ⟨by rfl,?_⟩) ?_ ?_;rotate_left
   ·intro w';go_simp;with_reducible rfl
   rotate_left
   ·simp only [Act.put,List.setIfInBounds_toArray,List.set_cons_zero,List.set_cons_succ,i64_w,i32_w];rfl
   refine take_ (i:=6) (N:=some 9) (v:=?_) (a':=?_) #[true,true,true,true,true,true,true,false,false,false,false,false,false,false,false,false,false,false,false,false,false,false,false,false,false] rfl rfl (take_ofW HT_.out HW_.out zq16) (fun _ _ _ h=>h) (Or.inl ⟨by rfl,?_⟩) hHeld ?_ ?_;rotate_left
   ·rintro w' ⟨s0,s1⟩
    go_simp;with_reducible rfl
   rotate_left
   ·simp only [Act.put,List.setIfInBounds_toArray,List.set_cons_zero,List.set_cons_succ,i64_w,i32_w];rfl
   refine one_ (i:=7) (N:=some 10) #[true,true,true,true,true,true,true,true,false,false,false,false,false,false,false,false,false,false,false,false,false,false,false,false,false] rfl rfl (one_of HT_.out zq16) (by decide) (fun K hK=>?_);refine goes_ Try.func64 zq16 rfl #[.slice A0_0 l0_0.length c0_0,.int .i64 0] (by rfl) rfl rfl zq0 ?_
   with_reducible refine (impl_setCode.calls _ _ l0_0 0 t102 _ ?side1 ?side2 A3.out).mono ?_
   (case side1=>exact zq6);(case side2=>exact HC0_0.out)
   rintro e w17 ⟨rfl,hb⟩
   refine ⟨_,rfl,?_⟩;have n0_:=am (blk_below (g:=gb101) (o:=.cells #[.slice A0_0 l0_0.length c0_0,.slice A0_1 l0_1.length c0_1] 33 (0,0)) zq4 hb);have n1_:=am (below_step zq1 hb);clear BK101;clear HB;have BK101:=n0_;have HB:=n1_;clear n0_ n1_;(try clear hb);(try clear hb2);(try clear hk);(try clear hi);refine hK.out _ _ ⟨(blk_cell BK101.out 0).trans rfl,(blk_cell BK101.out 1).trans rfl⟩ (fun hHeld=>?_);clear hK K;refine norm_ (a':=?_) ?_ ?_;rotate_left
   ·show Act.put _ (some 10) _=_
    simp only [Act.put,List.setIfInBounds_toArray,List.set_cons_zero,List.set_cons_succ,i64_w,i32_w];rfl
   refine pure_ (i:=8) (N:=some 11) (v:=?_) (a':=?_) #[true,true,true,true,true,true,true,true,true,false,false,false,false,false,false,false,false,false,false,false,false,false,false,false,false] rfl rfl (any_of HT_.out zq16) (fun _ _ _ h=>h) (Or.inl ⟨by rfl,?_⟩) ?_ ?_;rotate_left
   ·intro w';go_simp;with_reducible rfl
   rotate_left
   ·simp only [Act.put,List.setIfInBounds_toArray,List.set_cons_zero,List.set_cons_succ,i64_w,i32_w];rfl
   refine pure_ (i:=9) (N:=some 12) (v:=?_) (a':=?_) #[true,true,true,true,true,true,true,true,true,true,false,false,false,false,false,false,false,false,false,false,false,false,false,false,false] rfl rfl (any_of HT_.out zq16) (fun _ _ _ h=>h) (Or.inl ⟨by rfl,?_⟩) ?_ ?_;rotate_left
   ·intro w';go_simp;with_reducible rfl
   rotate_left
   ·simp only [Act.put,List.setIfInBounds_toArray,List.set_cons_zero,List.set_cons_succ,i64_w,i32_w];rfl
   refine pure_ (i:=10) (N:=some 13) (v:=?_) (a':=?_) #[true,true,true,true,true,true,true,true,true,true,true,false,false,false,false,false,false,false,false,false,false,false,false,false,false] rfl rfl (any_of HT_.out zq16) (fun _ _ _ h=>h) (Or.inl ⟨by rfl,?_⟩) ?_ ?_;rotate_left
   ·intro w';go_simp;with_reducible rfl
   rotate_left
   ·simp only [Act.put,List.setIfInBounds_toArray,List.set_cons_zero,List.set_cons_succ,i64_w,i32_w];rfl
   refine pure_ (i:=11) (N:=some 14) (v:=undef) (a':=?_) #[true,true,true,true,true,true,true,true,true,true,true,true,false,false,false,false,false,false,false,false,false,false,false,false,false] rfl rfl (any_of HT_.out zq16) (fun _ _ _ h=>h) (Or.inr ⟨by rfl,rfl⟩) ?_ ?_;rotate_left
   ·simp only [Act.put,List.setIfInBounds_toArray,List.set_cons_zero,List.set_cons_succ,i64_w,i32_w];rfl
   refine pure_ (i:=12) (N:=some 15) (v:=undef) (a':=?_) #[true,true,true,true,true,true,true,true,true,true,true,true,true,false,false,false,false,false,false,false,false,false,false,false,false] rfl rfl (any_of HT_.out zq16) (fun _ _ _ h=>h) (Or.inr ⟨by rfl,rfl⟩) ?_ ?_;rotate_left
   ·simp only [Act.put,List.setIfInBounds_toArray,List.set_cons_zero,List.set_cons_succ,i64_w,i32_w];rfl
   refine pure_ (i:=13) (N:=some 16) (v:=undef) (a':=?_) #[true,true,true,true,true,true,true,true,true,true,true,true,true,true,false,false,false,false,false,false,false,false,false,false,false] rfl rfl (any_of HT_.out zq16) (fun _ _ _ h=>h) (Or.inr ⟨by rfl,rfl⟩) ?_ ?_;rotate_left
   ·simp only [Act.put,List.setIfInBounds_toArray,List.set_cons_zero,List.set_cons_succ,i64_w,i32_w];rfl
   refine pure_ (i:=14) (N:=some 17) (v:=undef) (a':=?_) #[true,true,true,true,true,true,true,true,true,true,true,true,true,true,true,false,false,false,false,false,false,false,false,false,false] rfl rfl (any_of HT_.out zq16) (fun _ _ _ h=>h) (Or.inr ⟨by rfl,rfl⟩) ?_ ?_;rotate_left
   ·simp only [Act.put,List.setIfInBounds_toArray,List.set_cons_zero,List.set_cons_succ,i64_w,i32_w];rfl
   refine pure_ (i:=15) (N:=some 18) (v:=?_) (a':=?_) #[true,true,true,true,true,true,true,true,true,true,true,true,true,true,true,true,false,false,false,false,false,false,false,false,false] rfl rfl (any_of HT_.out zq16) (fun _ _ _ h=>h) (Or.inl ⟨by rfl,?_⟩) ?_ ?_;rotate_left
   ·intro w';go_simp;with_reducible rfl
   rotate_left
   ·simp only [Act.put,List.setIfInBounds_toArray,List.set_cons_zero,List.set_cons_succ,i64_w,i32_w];rfl
   refine pure_ (i:=16) (N:=some 19) (v:=?_) (a':=?_) #[true,true,true,true,true,true,true,true,true,true,true,true,true,true,true,true,true,false,false,false,false,false,false,false,false] rfl rfl (any_of HT_.out zq16) (fun _ _ _ h=>h) (Or.inl ⟨by rfl,?_⟩) ?_ ?_;rotate_left
   ·intro w';go_simp;with_reducible rfl
   rotate_left
   ·simp only [Act.put,List.setIfInBounds_toArray,List.set_cons_zero,List.set_cons_succ,i64_w,i32_w];rfl
   refine pure_ (i:=17) (N:=some 20) (v:=undef) (a':=?_) #[true,true,true,true,true,true,true,true,true,true,true,true,true,true,true,true,true,true,false,false,false,false,false,false,false] rfl rfl (any_of HT_.out zq16) (fun _ _ _ h=>h) (Or.inr ⟨by rfl,rfl⟩) ?_ ?_;rotate_left
   ·simp only [Act.put,List.setIfInBounds_toArray,List.set_cons_zero,List.set_cons_succ,i64_w,i32_w];rfl
   refine pure_ (i:=18) (N:=some 21) (v:=undef) (a':=?_) #[true,true,true,true,true,true,true,true,true,true,true,true,true,true,true,true,true,true,true,false,false,false,false,false,false] rfl rfl (any_of HT_.out zq16) (fun _ _ _ h=>h) (Or.inr ⟨by rfl,rfl⟩) ?_ ?_;rotate_left
   ·simp only [Act.put,List.setIfInBounds_toArray,List.set_cons_zero,List.set_cons_succ,i64_w,i32_w];rfl
   refine pure_ (i:=19) (N:=some 22) (v:=undef) (a':=?_) #[true,true,true,true,true,true,true,true,true,true,true,true,true,true,true,true,true,true,true,true,false,false,false,false,false] rfl rfl (any_of HT_.out zq16) (fun _ _ _ h=>h) (Or.inr ⟨by rfl,rfl⟩) ?_ ?_;rotate_left
   ·simp only [Act.put,List.setIfInBounds_toArray,List.set_cons_zero,List.set_cons_succ,i64_w,i32_w];rfl
   refine pure_ (i:=20) (N:=some 23) (v:=undef) (a':=?_) #[true,true,true,true,true,true,true,true,true,true,true,true,true,true,true,true,true,true,true,true,true,false,false,false,false] rfl rfl (any_of HT_.out zq16) (fun _ _ _ h=>h) (Or.inr ⟨by rfl,rfl⟩) ?_ ?_;rotate_left
   ·simp only [Act.put,List.setIfInBounds_toArray,List.set_cons_zero,List.set_cons_succ,i64_w,i32_w];rfl
   refine pure_ (i:=21) (N:=some 24) (v:=undef) (a':=?_) #[true,true,true,true,true,true,true,true,true,true,true,true,true,true,true,true,true,true,true,true,true,true,false,false,false] rfl rfl (any_of HT_.out zq16) (fun _ _ _ h=>h) (Or.inr ⟨by rfl,rfl⟩) ?_ ?_;rotate_left
   ·simp only [Act.put,List.setIfInBounds_toArray,List.set_cons_zero,List.set_cons_succ,i64_w,i32_w];rfl
   refine pure_ (i:=22) (N:=some 25) (v:=undef) (a':=?_) #[true,true,true,true,true,true,true,true,true,true,true,true,true,true,true,true,true,true,true,true,true,true,true,false,false] rfl rfl (any_of HT_.out zq16) (fun _ _ _ h=>h) (Or.inr ⟨by rfl,rfl⟩) ?_ ?_;rotate_left
   ·simp only [Act.put,List.setIfInBounds_toArray,List.set_cons_zero,List.set_cons_succ,i64_w,i32_w];rfl
   refine pure_ (i:=23) (N:=some 26) (v:=?_) (a':=?_) #[true,true,true,true,true,true,true,true,true,true,true,true,true,true,true,true,true,true,true,true,true,true,true,true,false] rfl rfl (any_of HT_.out zq16) (fun _ _ _ h=>h) (Or.inl ⟨by rfl,?_⟩) ?_ ?_;rotate_left
   ·intro w';go_simp;with_reducible rfl
   rotate_left
   ·simp only [Act.put,List.setIfInBounds_toArray,List.set_cons_zero,List.set_cons_succ,i64_w,i32_w];rfl
   refine pure_ (i:=24) (N:=some 2) (v:=?_) (a':=?_) #[true,true,true,true,true,true,true,true,true,true,true,true,true,true,true,true,true,true,true,true,true,true,true,true,true] rfl rfl (any_of HT_.out zq16) (fun _ _ _ h=>h) (Or.inl ⟨by rfl,?_⟩) ?_ ?_;rotate_left
   ·intro w';go_simp;with_reducible rfl
   rotate_left
   ·simp only [Act.put,List.setIfInBounds_toArray,List.set_cons_zero,List.set_cons_succ,i64_w,i32_w];rfl
   refine done_ (done_of HT_.out zq16) ?_;(try go_wp2)
   go_ret
   exact ⟨by first|rfl|(simp [errW_none,errW_some,IntKind.wrap_i64,wrap64];done)|(simp [errW_none,errW_some] <;> rfl)|(simp [*,errW_none,errW_some] <;> rfl),by repeat (first|(with_reducible first|exact HB.out|apply below_alloc|apply pw_below_drewN|apply below_drew1|refine below_set ?_ GE101.out)|exact HB.out)⟩
 ·rw [if_neg c2] at H;have c2b0:decide (0 < (l0_0.length:Int))=false:=decide_eq_false c2;have c2b1:decide (0 < l0_0.length)=false:=decide_eq_false (by omega);clear c2;obtain rfl:=Option.some.inj H
  go_enter Try.func30,Try.ntmps30
  try go_wp2_with (first|((with_reducible refine gate_dst (N:=1) rfl ?_);(try (refine gate_guard (by rfl) ?_;dsimp only));refine box_event ?hg (N:=1) ?hd (cs:=#[.slice A0_0 l0_0.length c0_0,.slice A0_1 l0_1.length c0_1]) (t:=33) ?hr ?_;(case hd=>rfl);(case hg=>rfl);(case hr=>exact zq15);intro gb101 hg w18 hbox hb;have n0_:=am (below_step zq2 hb);have n1_:=am (hbox);have n2_:=am ((by rw [hg];exact (below_size zq2):w.heap.size≤gb101));have n3_:=am ((by rw [hg];exact (below_size zq2):w.heap.size≤gb101));clear HB;have HB:=n0_;have BK101:=n1_;have GW101:=n2_;have GE101:=n3_;clear n0_ n1_ n2_ n3_;clear hb hbox hg))
  have n0_:=am (blk_drew BK101.out);have n1_:=am (below_drew1 HB.out);clear BK101;clear HB;have BK101:=n0_;have HB:=n1_;clear n0_ n1_;refine start_ (n:=25) (S:=fun w'=>w'.cell? ⟨gb101,0,none⟩=some (.slice A0_0 l0_0.length c0_0)∧w'.cell? ⟨gb101,1,none⟩=some (.slice A0_1 l0_1.length c0_1)) (ds:=[]) #[false,false,false,false,false,false,false,false,false,false,false,false,false,false,false,false,false,false,false,false,false,false,false,false,false] zq16 rfl rfl ⟨(blk_cell BK101.out 0).trans rfl,(blk_cell BK101.out 1).trans rfl⟩ (fun hHeld=>?_);refine with_tabW impl_ValidCode.tab1 impl_ValidCode.bits1 (fun HT_ HW_=>?_);generalize w18.drew=w19 at BK101 HB hHeld ⊢;refine pure_ (i:=0) (N:=some 3) (v:=?_) (a':=?_) #[true,false,false,false,false,false,false,false,false,false,false,false,false,false,false,false,false,false,false,false,false,false,false,false,false] rfl rfl (any_of HT_.out zq16) (fun _ _ _ h=>h) (Or.inl ⟨by rfl,?_⟩) ?_ ?_;rotate_left
  ·intro w';go_simp;with_reducible rfl
  rotate_left
  ·simp only [Act.put,List.setIfInBounds_toArray,List.set_cons_zero,List.set_cons_succ,i64_w,i32_w];rfl
  refine take_ (i:=1) (N:=some 4) (v:=?_) (a':=?_) #[true,true,false,false,false,false,false,false,false,false,false,false,false,false,false,false,false,false,false,false,false,false,false,false,false] rfl rfl (take_ofW HT_.out HW_.out zq16) (fun _ _ _ h=>h) (Or.inl ⟨by rfl,?_⟩) hHeld ?_ ?_;rotate_left
  ·rintro w' ⟨s0,s1⟩
   go_simp;with_reducible rfl
  rotate_left
  ·simp only [Act.put,List.setIfInBounds_toArray,List.set_cons_zero,List.set_cons_succ,i64_w,i32_w];rfl
  refine pure_ (i:=2) (N:=some 5) (v:=?_) (a':=?_) #[true,true,true,false,false,false,false,false,false,false,false,false,false,false,false,false,false,false,false,false,false,false,false,false,false] rfl rfl (any_of HT_.out zq16) (fun _ _ _ h=>h) (Or.inl ⟨by rfl,?_⟩) ?_ ?_;rotate_left
  ·intro w';go_simp;with_reducible rfl
  rotate_left
  ·simp only [Act.put,List.setIfInBounds_toArray,List.set_cons_zero,List.set_cons_succ,i64_w,i32_w];rfl
  refine pure_ (i:=3) (N:=some 6) (v:=?_) (a':=?_) #[true,true,true,true,false,false,false,false,false,false,false,false,false,false,false,false,false,false,false,false,false,false,false,false,false] rfl rfl (any_of HT_.out zq16) (fun _ _ _ h=>h) (Or.inl ⟨by rfl,?_⟩) ?_ ?_;rotate_left
  ·intro w';go_simp;with_reducible rfl
  rotate_left
  ·simp only [Act.put,List.setIfInBounds_toArray,List.set_cons_zero,List.set_cons_succ,i64_w,i32_w];rfl
  refine pure_ (i:=4) (N:=some 7) (v:=?_) (a':=?_) #[true,true,true,true,true,false,false,false,false,false,false,false,false,false,false,false,false,false,false,false,false,false,false,false,false] rfl rfl (any_of HT_.out zq16) (fun _ _ _ h=>h) (Or.inl ⟨by rfl,?_⟩) ?_ ?_;rotate_left
  ·intro w';go_simp;with_reducible rfl
  rotate_left
  ·simp only [Act.put,List.setIfInBounds_toArray,List.set_cons_zero,List.set_cons_succ,i64_w,i32_w];rfl
  refine pure_ (i:=5) (N:=some 8) (v:=undef) (a':=?_) #[true,true,true,true,true,true,false,false,false,false,false,false,false,false,false,false,false,false,false,false,false,false,false,false,false] rfl rfl (any_of HT_.out zq16) (fun _ _ _ h=>h) (Or.inr ⟨by rfl,rfl⟩) ?_ ?_;rotate_left
  ·simp only [Act.put,List.setIfInBounds_toArray,List.set_cons_zero,List.set_cons_succ,i64_w,i32_w];rfl
  refine pure_ (i:=6) (N:=some 9) (v:=undef) (a':=?_) #[true,true,true,true,true,true,true,false,false,false,false,false,false,false,false,false,false,false,false,false,false,false,false,false,false] rfl rfl (any_of HT_.out zq16) (fun _ _ _ h=>h) (Or.inr ⟨by rfl,rfl⟩) ?_ ?_;rotate_left
  ·simp only [Act.put,List.setIfInBounds_toArray,List.set_cons_zero,List.set_cons_succ,i64_w,i32_w];rfl
  refine pure_ (i:=7) (N:=some 10) (v:=undef) (a':=?_) #[true,true,true,true,true,true,true,true,false,false,false,false,false,false,false,false,false,false,false,false,false,false,false,false,false] rfl rfl (any_of HT_.out zq16) (fun _ _ _ h=>h) (Or.inr ⟨by rfl,rfl⟩) ?_ ?_;rotate_left
  ·simp only [Act.put,List.setIfInBounds_toArray,List.set_cons_zero,List.set_cons_succ,i64_w,i32_w];rfl
  refine pure_ (i:=8) (N:=some 11) (v:=undef) (a':=?_) #[true,true,true,true,true,true,true,true,true,false,false,false,false,false,false,false,false,false,false,false,false,false,false,false,false] rfl rfl (any_of HT_.out zq16) (fun _ _ _ h=>h) (Or.inr ⟨by rfl,rfl⟩) ?_ ?_;rotate_left
  ·simp only [Act.put,List.setIfInBounds_toArray,List.set_cons_zero,List.set_cons_succ,i64_w,i32_w];rfl
  refine pure_ (i:=9) (N:=some 12) (v:=?_) (a':=?_) #[true,true,true,true,true,true,true,true,true,true,false,false,false,false,false,false,false,false,false,false,false,false,false,false,false] rfl rfl (any_of HT_.out zq16) (fun _ _ _ h=>h) (Or.inl ⟨by rfl,?_⟩) ?_ ?_;rotate_left
  ·intro w';go_simp;with_reducible rfl
  rotate_left
  ·simp only [Act.put,List.setIfInBounds_toArray,List.set_cons_zero,List.set_cons_succ,i64_w,i32_w];rfl
  refine pure_ (i:=10) (N:=some 13) (v:=?_) (a':=?_) #[true,true,true,true,true,true,true,true,true,true,true,false,false,false,false,false,false,false,false,false,false,false,false,false,false] rfl rfl (any_of HT_.out zq16) (fun _ _ _ h=>h) (Or.inl ⟨by rfl,?_⟩) ?_ ?_;rotate_left
  ·intro w';go_simp;with_reducible rfl
  rotate_left
  ·simp only [Act.put,List.setIfInBounds_toArray,List.set_cons_zero,List.set_cons_succ,i64_w,i32_w];rfl
  refine pure_ (i:=11) (N:=some 14) (v:=undef) (a':=?_) #[true,true,true,true,true,true,true,true,true,true,true,true,false,false,false,false,false,false,false,false,false,false,false,false,false] rfl rfl (any_of HT_.out zq16) (fun _ _ _ h=>h) (Or.inr ⟨by rfl,rfl⟩) ?_ ?_;rotate_left
  ·simp only [Act.put,List.setIfInBounds_toArray,List.set_cons_zero,List.set_cons_succ,i64_w,i32_w];rfl
  refine pure_ (i:=12) (N:=some 15) (v:=undef) (a':=?_) #[true,true,true,true,true,true,true,true,true,true,true,true,true,false,false,false,false,false,false,false,false,false,false,false,false] rfl rfl (any_of HT_.out zq16) (fun _ _ _ h=>h) (Or.inr ⟨by rfl,rfl⟩) ?_ ?_;rotate_left
  ·simp only [Act.put,List.setIfInBounds_toArray,List.set_cons_zero,List.set_cons_succ,i64_w,i32_w];rfl
  refine pure_ (i:=13) (N:=some 16) (v:=undef) (a':=?_) #[true,true,true,true,true,true,true,true,true,true,true,true,true,true,false,false,false,false,false,false,false,false,false,false,false] rfl rfl (any_of HT_.out zq16) (fun _ _ _ h=>h) (Or.inr ⟨by rfl,rfl⟩) ?_ ?_;rotate_left
  ·simp only [Act.put,List.setIfInBounds_toArray,List.set_cons_zero,List.set_cons_succ,i64_w,i32_w];rfl
  refine pure_ (i:=14) (N:=some 17) (v:=undef) (a':=?_) #[true,true,true,true,true,true,true,true,true,true,true,true,true,true,true,false,false,false,false,false,false,false,false,false,false] rfl rfl (any_of HT_.out zq16) (fun _ _ _ h=>h) (Or.inr ⟨by rfl,rfl⟩) ?_ ?_;rotate_left
  ·simp only [Act.put,List.setIfInBounds_toArray,List.set_cons_zero,List.set_cons_succ,i64_w,i32_w];rfl
  refine pure_ (i:=15) (N:=some 18) (v:=?_) (a':=?_) #[true,true,true,true,true,true,true,true,true,true,true,true,true,true,true,true,false,false,false,false,false,false,false,false,false] rfl rfl (any_of HT_.out zq16) (fun _ _ _ h=>h) (Or.inl ⟨by rfl,?_⟩) ?_ ?_;rotate_left
  ·intro w';go_simp;with_reducible rfl
  rotate_left
  ·simp only [Act.put,List.setIfInBounds_toArray,List.set_cons_zero,List.set_cons_succ,i64_w,i32_w];rfl
  refine pure_ (i:=16) (N:=some 19) (v:=?_) (a':=?_) #[true,true,true,true,true,true,true,true,true,true,true,true,true,true,true,true,true,false,false,false,false,false,false,false,false] rfl rfl (any_of HT_.out zq16) (fun _ _ _ h=>h) (Or.inl ⟨by rfl,?_⟩) ?_ ?_;rotate_left
  ·intro w';go_simp;with_reducible rfl
  rotate_left
  ·simp only [Act.put,List.setIfInBounds_toArray,List.set_cons_zero,List.set_cons_succ,i64_w,i32_w];rfl
  refine pure_ (i:=17) (N:=some 20) (v:=undef) (a':=?_) #[true,true,true,true,true,true,true,true,true,true,true,true,true,true,true,true,true,true,false,false,false,false,false,false,false] rfl rfl (any_of HT_.out zq16) (fun _ _ _ h=>h) (Or.inr ⟨by rfl,rfl⟩) ?_ ?_;rotate_left
  ·simp only [Act.put,List.setIfInBounds_toArray,List.set_cons_zero,List.set_cons_succ,i64_w,i32_w];rfl
  refine pure_ (i:=18) (N:=some 21) (v:=undef) (a':=?_) #[true,true,true,true,true,true,true,true,true,true,true,true,true,true,true,true,true,true,true,false,false,false,false,false,false] rfl rfl (any_of HT_.out zq16) (fun _ _ _ h=>h) (Or.inr ⟨by rfl,rfl⟩) ?_ ?_;rotate_left
  ·simp only [Act.put,List.setIfInBounds_toArray,List.set_cons_zero,List.set_cons_succ,i64_w,i32_w];rfl
  refine pure_ (i:=19) (N:=some 22) (v:=undef) (a':=?_) #[true,true,true,true,true,true,true,true,true,true,true,true,true,true,true,true,true,true,true,true,false,false,false,false,false] rfl rfl (any_of HT_.out zq16) (fun _ _ _ h=>h) (Or.inr ⟨by rfl,rfl⟩) ?_ ?_;rotate_left
  ·simp only [Act.put,List.setIfInBounds_toArray,List.set_cons_zero,List.set_cons_succ,i64_w,i32_w];rfl
  refine pure_ (i:=20) (N:=some 23) (v:=undef) (a':=?_) #[true,true,true,true,true,true,true,true,true,true,true,true,true,true,true,true,true,true,true,true,true,false,false,false,false] rfl rfl (any_of HT_.out zq16) (fun _ _ _ h=>h) (Or.inr ⟨by rfl,rfl⟩) ?_ ?_;rotate_left
  ·simp only [Act.put,List.setIfInBounds_toArray,List.set_cons_zero,List.set_cons_succ,i64_w,i32_w];rfl
  refine pure_ (i:=21) (N:=some 24) (v:=undef) (a':=?_) #[true,true,true,true,true,true,true,true,true,true,true,true,true,true,true,true,true,true,true,true,true,true,false,false,false] rfl rfl (any_of HT_.out zq16) (fun _ _ _ h=>h) (Or.inr ⟨by rfl,rfl⟩) ?_ ?_;rotate_left
  ·simp only [Act.put,List.setIfInBounds_toArray,List.set_cons_zero,List.set_cons_succ,i64_w,i32_w];rfl
  refine pure_ (i:=22) (N:=some 25) (v:=undef) (a':=?_) #[true,true,true,true,true,true,true,true,true,true,true,true,true,true,true,true,true,true,true,true,true,true,true,false,false] rfl rfl (any_of HT_.out zq16) (fun _ _ _ h=>h) (Or.inr ⟨by rfl,rfl⟩) ?_ ?_;rotate_left
  ·simp only [Act.put,List.setIfInBounds_toArray,List.set_cons_zero,List.set_cons_succ,i64_w,i32_w];rfl
  refine pure_ (i:=23) (N:=some 26) (v:=?_) (a':=?_) #[true,true,true,true,true,true,true,true,true,true,true,true,true,true,true,true,true,true,true,true,true,true,true,true,false] rfl rfl (any_of HT_.out zq16) (fun _ _ _ h=>h) (Or.inl ⟨by rfl,?_⟩) ?_ ?_;rotate_left
  ·intro w';go_simp;with_reducible rfl
  rotate_left
  ·simp only [Act.put,List.setIfInBounds_toArray,List.set_cons_zero,List.set_cons_succ,i64_w,i32_w];rfl
  refine pure_ (i:=24) (N:=some 2) (v:=?_) (a':=?_) #[true,true,true,true,true,true,true,true,true,true,true,true,true,true,true,true,true,true,true,true,true,true,true,true,true] rfl rfl (any_of HT_.out zq16) (fun _ _ _ h=>h) (Or.inl ⟨by rfl,?_⟩) ?_ ?_;rotate_left
  ·intro w';go_simp;with_reducible rfl
  rotate_left
  ·simp only [Act.put,List.setIfInBounds_toArray,List.set_cons_zero,List.set_cons_succ,i64_w,i32_w];rfl
  refine done_ (done_of HT_.out zq16) ?_;(try go_wp2)
  go_ret
  exact ⟨by first|rfl|(simp [errW_none,errW_some,IntKind.wrap_i64,wrap64];done)|(simp [errW_none,errW_some] <;> rfl)|(simp [*,errW_none,errW_some] <;> rfl),by repeat (first|(with_reducible first|exact HB.out|apply below_alloc|apply pw_below_drewN|apply below_drew1|refine below_set ?_ GE101.out)|exact HB.out)⟩
end Go.Proofs.Ytgfknljhogfeaaa.G
end

section
namespace Go.Proofs.Ytgfknljhogfeaaa.G
open Go.RowKit Go.Proofs.YtgfknljhogfeaaaW.PrintWords Go.Proofs.YtgfknljhogfeaaaW.PrintLast Go.Proofs.YtgfknljhogfeaaaW.PrintMore
attribute [local go_sem] max2_int min2_int max_two min_two max_three min_three max_four min_four
set_option linter.unusedVariables false
set_option linter.unusedSimpArgs false
def impl_areSights_1_1.f (a0:Int):Option (Bool):=some (decide (a0≥6))
set_option maxHeartbeats 8000000 in
set_option maxRecDepth 100000 in
theorem impl_areSights_1_1.calls (a0:Int) (r:Bool) (w:World) (h:impl_areSights_1_1.f a0=some r) :
  Calls Try.prog 88 #[.int .u8 a0] w fun e w'=>e=.returned (.bool r)∧Drawn0 w w':=by
 have H:(some (decide (a0≥6)))=some r:=h;clear h;obtain rfl:=Option.some.inj H
 go_enter Try.func88,Try.ntmps88
 go_wp2
 go_ret
 exact ⟨by first|rfl|(simp only [IntKind.wrap_i64,wrap64];done)|(simp;done)|(simp [*];done),by repeat (first|exact Drawn0.refl _|apply Drawn0.step)⟩
end Go.Proofs.Ytgfknljhogfeaaa.G
end

section
namespace Go.Proofs.Ytgfknljhogfeaaa.G
open Go.RowKit Go.Proofs.YtgfknljhogfeaaaW.PrintWords Go.Proofs.YtgfknljhogfeaaaW.PrintLast Go.Proofs.YtgfknljhogfeaaaW.PrintMore
attribute [local go_sem] max2_int min2_int max_two min_two max_three min_three max_four min_four
set_option linter.unusedVariables false
set_option linter.unusedSimpArgs false
def slices_ContainsFunc_uint8_uint8__impl_areSights_1_1.f (l0:List (Int)):Option (Bool):=anyO (fun x=>impl_areSights_1_1.f x) l0
set_option maxHeartbeats 2000000 in
theorem slices_ContainsFunc_uint8_uint8__impl_areSights_1_1.calls (A0:Option Addr) (c0:Nat) (l0:List (Int)) (r:Bool) (w:World) (hr0:Kd.C (Kd.int .u8) w A0 l0.length l0) (hc0:l0.length≤c0) (h:slices_ContainsFunc_uint8_uint8__impl_areSights_1_1.f l0=some r) :
  Calls Try.prog 87 #[.slice A0 l0.length c0,.func (.func 88) #[] #[]] w fun e w'=>e=.returned (.bool r)∧Below w.heap.size w w':=by
 have eg:=enters_of Try.func88 zq16 rfl;obtain ⟨hall,rfl⟩:=anyO_some h;refine slices_ContainsFunc_uint8_uint8.calls A0 c0 l0 _ #[] eg (fun x=>impl_areSights_1_1.f x == some true) w hr0 hc0 (fun W hW x hx=>?_);obtain ⟨b,hb⟩:=Option.isSome_iff_exists.1 (hall x hx);rw [show (#[.int .u8 x] ++ #[]:Array Value)=#[.int .u8 x] from rfl]
 refine (impl_areSights_1_1.calls x b W  hb).mono fun e w' ⟨he,hw⟩=>⟨he.trans (by rw [hb];cases b <;> rfl),?_⟩
 exact below_then hW hW.size hw.below
end Go.Proofs.Ytgfknljhogfeaaa.G
end

section
namespace Go.Proofs.Ytgfknljhogfeaaa.G
open Go.RowKit Go.Proofs.YtgfknljhogfeaaaW.PrintWords Go.Proofs.YtgfknljhogfeaaaW.PrintLast Go.Proofs.YtgfknljhogfeaaaW.PrintMore
attribute [local go_sem] max2_int min2_int max_two min_two max_three min_three max_four min_four
set_option linter.unusedVariables false
set_option linter.unusedSimpArgs false
def impl_areSights_1.f (a0_0:Int) (a0_1:Int) (a0_2:Int) (a0_3:Int) (a0_4:Int) (a0_5:Int):Option Bool:=some ((([a0_0,a0_1,a0_2,a0_3,a0_4,a0_5]:List Int).any fun c=>decide (c≥6)))
set_option maxHeartbeats 4000000 in
theorem impl_areSights_1.core (xs:List Int) (hx:xs.length=6) (w:World) :
  Calls Try.prog 86 #[.agg (nums .u8 xs).toArray] w fun e w'=>e=.returned (.bool ((xs.any fun c=>decide (c≥6))))∧Below w.heap.size w w':=by
 have HB:=am (Below.refl w.heap.size w)
 have HF:Aside0 (∀ (W:World) (b:Nat),IsBox .u8 61 W b xs→Calls Try.prog 87 #[.slice (some ⟨b,0,none⟩) 6 6,.func (.func 88) #[] #[]] W fun e w'=>e=.returned (.bool (xs.any fun c=>decide (c≥6)))∧Below W.heap.size W w'):=⟨fun W b hb=>by
  have h_:=slices_ContainsFunc_uint8_uint8__impl_areSights_1_1.calls (some ⟨b,0,none⟩) 6 xs (xs.any fun c=>decide (c≥6)) W (box_C hb (by omega)) (by omega) (anyO_eq fun c _=>rfl);rw [hx] at h_
  exact h_⟩
 go_enter Try.func86,Try.ntmps86
 go_wp2_with (first|((with_reducible refine gate_dst (N:=1) rfl ?_);refine box_event ?hg (N:=1) ?hd (cs:=(nums .u8 xs).toArray) (t:=61) ?hr ?_;(case hd=>rfl);(case hg=>rfl);(case hr=>exact zq15);intro b1 hg_ w1 hb_ hB_;have HB1:=am (below_step HB.out hB_);have BK1:=am (show IsBox .u8 61 w1 b1 xs from hb_);clear hb_ hB_ hg_)|(go_at_call 87;refine (HF.out _ _ BK1.out).mono ?_;rintro e w2 ⟨rfl,hb2⟩;have HB2:=am (below_step HB1.out hb2);clear hb2))
 go_ret
 exact ⟨by first|rfl|simp,HB2.out⟩
theorem impl_areSights_1.calls (a0_0:Int) (a0_1:Int) (a0_2:Int) (a0_3:Int) (a0_4:Int) (a0_5:Int) (r:Bool) (w:World) (h:impl_areSights_1.f a0_0 a0_1 a0_2 a0_3 a0_4 a0_5=some r) :
  Calls Try.prog 86 #[.agg #[.int .u8 a0_0,.int .u8 a0_1,.int .u8 a0_2,.int .u8 a0_3,.int .u8 a0_4,.int .u8 a0_5]] w fun e w'=>e=.returned (.bool r)∧Below w.heap.size w w':=by
 obtain rfl:=Option.some.inj h;exact impl_areSights_1.core [a0_0,a0_1,a0_2,a0_3,a0_4,a0_5] rfl w
end Go.Proofs.Ytgfknljhogfeaaa.G
end

section
namespace Go.Proofs.Ytgfknljhogfeaaa.G
open Go.RowKit Go.Proofs.YtgfknljhogfeaaaW.PrintWords Go.Proofs.YtgfknljhogfeaaaW.PrintLast Go.Proofs.YtgfknljhogfeaaaW.PrintMore
attribute [local go_sem] max2_int min2_int max_two min_two max_three min_three max_four min_four
set_option linter.unusedVariables false
set_option linter.unusedSimpArgs false
set_option maxHeartbeats 2000000 in
theorem slices_IndexFunc_Sight_Sight.calls (A0:Option Addr) (c0:Nat) (l0:List (S61)) (g:Nat) (lb:Array Value) (eg:∀ args w,(callFunc g args).run Try.prog w=.ok (.enter g args) w) (p:S61→Bool) (w:World)
  (hr0:Kd.C k61 w A0 l0.length l0) (hc0:l0.length≤c0)
  (hp:∀ W,Below w.heap.size w W→∀ x∈l0,Calls Try.prog g (#[.agg #[.int .u8 x.f0,.int .u8 x.f1,.int .u8 x.f2,.int .u8 x.f3,.int .u8 x.f4,.int .u8 x.f5]] ++ lb) W fun e w'=>e=.returned (.bool (p x))∧Below w.heap.size w w') :
  Calls Try.prog 102 #[.slice A0 l0.length c0,.func (.func g) #[] lb] w fun e w'=>e=.returned (.int .i64 (idxP p l0))∧Below w.heap.size w w':=by
 have hu:=Try.underlying61;have hl:l0.length≤9223372036854775807:=hr0.2.1;have HR0:=am hr0;have HP:=am hp;clear hr0 hp;generalize hn:l0.length=n at *;have Hn:=am hn;clear hn
 go_enter Try.func102,Try.ntmps102
 go_wp2
 go_loopg [5,8] n (fun gg _ s8 wr=>∃ kk:Nat,kk≤n∧n - kk≤gg∧s8=.int .i64 kk∧Aside0 (Below w.heap.size w wr)∧Aside0 (∀ j x,j < kk→l0[j]?=some x→p x=false))
 case atStart=>exact ⟨0,Nat.zero_le _,by omega,rfl,⟨Below.refl _ w⟩,⟨fun j _ hj=>absurd hj (Nat.not_lt_zero _)⟩⟩
 case round =>
  obtain ⟨kk,hkk,hg,rfl,BW,AF⟩:=hrel
  by_cases hlt:kk < n
  ·have hltz:(kk:Int) < (n:Int):=by omega
   obtain ⟨ad,e0,hx0,hx1,hx2,hx3,hx4,hx5⟩:=at_T61 HR0.out (kk:Int) (by omega) (by omega);cases e0;simp only [Int.toNat_natCast] at hx0 hx1 hx2 hx3 hx4 hx5;replace hx0:=(BW.out.cell (World.block_lt_of_cell? w _ hx0)).trans hx0;replace hx1:=(BW.out.cell (World.block_lt_of_cell? w _ hx1)).trans hx1;replace hx2:=(BW.out.cell (World.block_lt_of_cell? w _ hx2)).trans hx2;replace hx3:=(BW.out.cell (World.block_lt_of_cell? w _ hx3)).trans hx3;replace hx4:=(BW.out.cell (World.block_lt_of_cell? w _ hx4)).trans hx4;replace hx5:=(BW.out.cell (World.block_lt_of_cell? w _ hx5)).trans hx5
   have hm:l0[kk]?=some (rd_T61 l0 (kk:Int)):=by
    have h1:kk < l0.length:=by rw [Hn.out];exact hlt
    simp [rd_T61,List.getD_eq_getElem?_getD,List.getElem?_eq_getElem h1]
   have hcall:=HP.out wr BW.out (rd_T61 l0 (kk:Int)) (List.mem_of_getElem? hm);generalize hy:rd_T61 l0 (kk:Int)=y at *;clear hy;have HM:=am hm;clear hm
   cases hq:p y with
   | true =>
    rw [hq] at hcall;have HQ:=am hq;clear hq
    go_wp2_with (go_at_fn g;refine hcall.mono ?_;rintro e w' ⟨rfl,hb'⟩)
    go_ret
    refine ⟨?_,hb'⟩;rw [idxP_hit HM.out HQ.out AF.out];rfl
   | false =>
    rw [hq] at hcall;have HQ:=am hq;clear hq
    go_wp2_with (go_at_fn g;refine hcall.mono ?_;rintro e w' ⟨rfl,hb'⟩)
    go_roundg (n - (kk + 1))
    case measure=>omega
    case rel =>
     refine ⟨kk + 1,by omega,by omega,by go_num,⟨hb'⟩,⟨fun j x hj hx=>?_⟩⟩
     by_cases e:j=kk
     ·subst e;rw [HM.out] at hx;cases hx;exact HQ.out
     ·exact AF.out j x (by omega) hx
  ·have hltz:¬ (kk:Int) < (n:Int):=by omega
   have:kk=n:=by omega
   subst this
   go_wp2
   go_ret
   refine ⟨?_,BW.out⟩
   rw [idxP_miss (fun x hx=>by
    obtain ⟨j,hj,rfl⟩:=List.mem_iff_getElem.1 hx
    exact AF.out j _ (by rw [← Hn.out];exact hj) (List.getElem?_eq_getElem hj))]
   rfl
end Go.Proofs.Ytgfknljhogfeaaa.G
end

section
namespace Go.Proofs.Ytgfknljhogfeaaa.G
open Go.RowKit Go.Proofs.YtgfknljhogfeaaaW.PrintWords Go.Proofs.YtgfknljhogfeaaaW.PrintLast Go.Proofs.YtgfknljhogfeaaaW.PrintMore
attribute [local go_sem] max2_int min2_int max_two min_two max_three min_three max_four min_four
set_option linter.unusedVariables false
set_option linter.unusedSimpArgs false
set_option maxHeartbeats 2000000 in
theorem slices_ContainsFunc_Sight_Sight.calls (A0:Option Addr) (c0:Nat) (l0:List (S61)) (g:Nat) (lb:Array Value) (eg:∀ args w,(callFunc g args).run Try.prog w=.ok (.enter g args) w) (p:S61→Bool) (w:World)
  (hr0:Kd.C k61 w A0 l0.length l0) (hc0:l0.length≤c0)
  (hp:∀ W,Below w.heap.size w W→∀ x∈l0,Calls Try.prog g (#[.agg #[.int .u8 x.f0,.int .u8 x.f1,.int .u8 x.f2,.int .u8 x.f3,.int .u8 x.f4,.int .u8 x.f5]] ++ lb) W fun e w'=>e=.returned (.bool (p x))∧Below w.heap.size w w') :
  Calls Try.prog 85 #[.slice A0 l0.length c0,.func (.func g) #[] lb] w fun e w'=>e=.returned (.bool (l0.any p))∧Below w.heap.size w w':=by
 have H:=am (slices_IndexFunc_Sight_Sight.calls A0 c0 l0 g lb eg p w hr0 hc0 hp);rw [← idxP_nonneg];clear hp hr0 eg
 go_enter Try.func85,Try.ntmps85
 go_wp2_with (go_at_call 102;refine H.out.mono ?_;rintro e w' ⟨rfl,hb'⟩)
 go_ret
 exact ⟨rfl,hb'⟩
end Go.Proofs.Ytgfknljhogfeaaa.G
end

section
namespace Go.Proofs.Ytgfknljhogfeaaa.G
open Go.RowKit Go.Proofs.YtgfknljhogfeaaaW.PrintWords Go.Proofs.YtgfknljhogfeaaaW.PrintLast Go.Proofs.YtgfknljhogfeaaaW.PrintMore
attribute [local go_sem] max2_int min2_int max_two min_two max_three min_three max_four min_four
set_option linter.unusedVariables false
set_option linter.unusedSimpArgs false
def slices_ContainsFunc_Sight_Sight__impl_areSights_1.f (l0:List (S61)):Option (Bool):=anyO (fun x=>impl_areSights_1.f x.f0 x.f1 x.f2 x.f3 x.f4 x.f5) l0
set_option maxHeartbeats 2000000 in
theorem slices_ContainsFunc_Sight_Sight__impl_areSights_1.calls (A0:Option Addr) (c0:Nat) (l0:List (S61)) (r:Bool) (w:World) (hr0:Kd.C k61 w A0 l0.length l0) (hc0:l0.length≤c0) (h:slices_ContainsFunc_Sight_Sight__impl_areSights_1.f l0=some r) :
  Calls Try.prog 85 #[.slice A0 l0.length c0,.func (.func 86) #[] #[]] w fun e w'=>e=.returned (.bool r)∧Below w.heap.size w w':=by
 have eg:=enters_of Try.func86 zq16 rfl;obtain ⟨hall,rfl⟩:=anyO_some h;refine slices_ContainsFunc_Sight_Sight.calls A0 c0 l0 _ #[] eg (fun x=>impl_areSights_1.f x.f0 x.f1 x.f2 x.f3 x.f4 x.f5 == some true) w hr0 hc0 (fun W hW x hx=>?_);obtain ⟨b,hb⟩:=Option.isSome_iff_exists.1 (hall x hx);rw [show (#[.agg #[.int .u8 x.f0,.int .u8 x.f1,.int .u8 x.f2,.int .u8 x.f3,.int .u8 x.f4,.int .u8 x.f5]] ++ #[]:Array Value)=#[.agg #[.int .u8 x.f0,.int .u8 x.f1,.int .u8 x.f2,.int .u8 x.f3,.int .u8 x.f4,.int .u8 x.f5]] from rfl]
 refine (impl_areSights_1.calls x.f0 x.f1 x.f2 x.f3 x.f4 x.f5 b W  hb).mono fun e w' ⟨he,hw⟩=>⟨he.trans (by rw [hb];cases b <;> rfl),?_⟩
 exact below_then hW hW.size hw
end Go.Proofs.Ytgfknljhogfeaaa.G
end

section
namespace Go.Proofs.Ytgfknljhogfeaaa.G
open Go.RowKit Go.Proofs.YtgfknljhogfeaaaW.PrintWords Go.Proofs.YtgfknljhogfeaaaW.PrintLast Go.Proofs.YtgfknljhogfeaaaW.PrintMore
attribute [local go_sem] max2_int min2_int max_two min_two max_three min_three max_four min_four
set_option linter.unusedVariables false
set_option linter.unusedSimpArgs false
def impl_areSights.f (l0:List (S61)):Option (Bool):=(slices_ContainsFunc_Sight_Sight__impl_areSights_1.f l0).bind fun t101=>(some (!t101))
set_option maxHeartbeats 8000000 in
set_option maxRecDepth 100000 in
theorem impl_areSights.calls (A0:Option Addr) (c0:Nat) (l0:List (S61)) (r:Bool) (w:World) (hr0:Kd.C k61 w A0 l0.length l0) (hc0:l0.length≤c0) (h:impl_areSights.f l0=some r) :
  Calls Try.prog 59 #[.slice A0 l0.length c0] w fun e w'=>e=.returned (.bool r)∧Below w.heap.size w w':=by
 have HR0:=am hr0;have HC0:=am hc0;clear hr0 hc0;have HB:=am (Below.refl w.heap.size w);have H:((slices_ContainsFunc_Sight_Sight__impl_areSights_1.f l0).bind fun t101=>(some (!t101)))=some r:=h;clear h;replace H:=Option.bind_eq_some_iff.mp H;obtain ⟨t101,A20,H⟩:=H;replace H:(some (!t101))=some r:=H;have A2:=am A20;clear A20;obtain rfl:=Option.some.inj H
 go_enter Try.func59,Try.ntmps59
 go_wp2_with (first|((with_reducible refine gate_callee (f:=85) rfl ?_);refine goesL_ (some 4) rfl rfl Try.func85 zq16 rfl #[.slice A0 l0.length c0,.func (.func 86) #[] #[]] rfl zq0 ?_;(with_reducible refine (slices_ContainsFunc_Sight_Sight__impl_areSights_1.calls _ _ l0 t101 _ ?side1 ?side2 A2.out).mono ?_);(case side1=>exact zq28);(case side2=>exact HC0.out);rintro e w3 ⟨rfl,hb⟩;refine ⟨_,rfl,?_⟩;have n0_:=am (below_step zq2 hb);clear HB;have HB:=n0_;clear n0_;(try clear hb);(try clear hb2);(try clear hk);(try clear hi)))
 go_ret
 exact ⟨by first|rfl|(simp [errW_none,errW_some,IntKind.wrap_i64,wrap64];done)|(simp [errW_none,errW_some] <;> rfl)|(simp [*,errW_none,errW_some] <;> rfl),by repeat (first|(with_reducible first|exact HB.out|apply below_alloc|apply pw_below_drewN|apply below_drew1)|exact HB.out)⟩
end Go.Proofs.Ytgfknljhogfeaaa.G
end

section
namespace Go.Proofs.Ytgfknljhogfeaaa.G
open Go.RowKit Go.Proofs.YtgfknljhogfeaaaW.PrintWords Go.Proofs.YtgfknljhogfeaaaW.PrintLast Go.Proofs.YtgfknljhogfeaaaW.PrintMore
attribute [local go_sem] max2_int min2_int max_two min_two max_three min_three max_four min_four
set_option linter.unusedVariables false
set_option linter.unusedSimpArgs false
def impl_CandidatesFor.j0:Nat→List (S61)→Int→Bool→List (S68)→List (List Int)→Option (List Int × Int)
 | 0,_,_,_,_,_=>none
 | k + 1,x1,x2,x8,x102000,x102001=>if x8=true then (some (([]:List Int),1)) else ((impl_within.f x2 0 48).bind fun t104=>(if t104=true then ((impl_Code_isSeen.f x102000 x102001 x1).bind fun t105=>(if t105=true then ((impl_Code_candidates.f k x102000 x102001 x1 x2).bind fun t106=>(some (t106,0))) else (some (([]:List Int),2)))) else (some (([]:List Int),2))))
def impl_CandidatesFor.f (k:Nat) (l0_0:List (S68)) (l0_1:List (List Int)) (l1:List (S61)) (a2:Int):Option (List Int × Int):=(impl_ValidCode.f l0_0 l0_1).bind fun t102=>(if t102=true then ((impl_areSights.f l1).bind fun t103=>(impl_CandidatesFor.j0 k l1 a2 (!t103) l0_0 l0_1)) else (impl_CandidatesFor.j0 k l1 a2 true l0_0 l0_1))
set_option maxHeartbeats 8000000 in
set_option maxRecDepth 100000 in
theorem impl_CandidatesFor.calls (k:Nat) (A0_0:Option Addr) (c0_0:Nat) (l0_0:List (S68)) (A0_1:Option Addr) (c0_1:Nat) (l0_1:List (List Int)) (A1:Option Addr) (c1:Nat) (l1:List (S61)) (a2:Int) (r1:List Int) (r2:Int) (w:World) (hr0_0:Kd.C k68 w A0_0 l0_0.length l0_0) (hc0_0:l0_0.length≤c0_0) (hr0_1:Kd.C (Kd.slice 5 (Kd.int .u8)) w A0_1 l0_1.length l0_1) (hc0_1:l0_1.length≤c0_1) (hr1:Kd.C k61 w A1 l1.length l1) (hc1:l1.length≤c1) (h:impl_CandidatesFor.f k l0_0 l0_1 l1 a2=some (r1,r2)) :
  Calls Try.prog 24 #[.agg #[.slice A0_0 l0_0.length c0_0,.slice A0_1 l0_1.length c0_1],.slice A1 l1.length c1,.int .i64 a2] w fun e w'=>∃ v0_:Value,e=.returned (.tuple #[v0_,.int .i64 r2])∧Kd.R (Kd.int .i64) 2 w' w.heap.size (fun _=>True) v0_ r1∧Below w.heap.size w w':=by
 have hu33:=Try.underlying33;have HR0_0:=am hr0_0;have HC0_0:=am hc0_0;clear hr0_0 hc0_0;have HR0_1:=am hr0_1;have HC0_1:=am hc0_1;clear hr0_1 hc0_1;have HR1:=am hr1;have HC1:=am hc1;clear hr1 hc1;have HB:=am (Below.refl w.heap.size w);have H:((impl_ValidCode.f l0_0 l0_1).bind fun t102=>(if t102=true then ((impl_areSights.f l1).bind fun t103=>(impl_CandidatesFor.j0 k l1 a2 (!t103) l0_0 l0_1)) else (impl_CandidatesFor.j0 k l1 a2 true l0_0 l0_1)))=some (r1,r2):=h;clear h;have HC4:=am H;clear H
 go_enter Try.func24,Try.ntmps24
 go_upto_region 1 with (first|((with_reducible refine gate_dst (N:=3) rfl ?_);refine box_event ?hg (N:=3) ?hd (cs:=#[.slice A0_0 l0_0.length c0_0,.slice A0_1 l0_1.length c0_1]) (t:=33) ?hr ?_;(case hd=>rfl);(case hg=>rfl);(case hr=>exact zq15);intro gb101 hg w5 hbox hb;have n0_:=am (below_step zq2 hb);have n1_:=am (hbox);have n2_:=am ((by rw [hg];exact (below_size zq2):w.heap.size≤gb101));have n3_:=am ((by rw [hg];exact (below_size zq2):w.heap.size≤gb101));clear HB;have HB:=n0_;have BK101:=n1_;have GW101:=n2_;have GE101:=n3_;clear n0_ n1_ n2_ n3_;clear hb hbox hg))
 (try simp only [Act.put,List.setIfInBounds_toArray,List.set_cons_zero,List.set_cons_succ])
 go_cut [8] (fun v8 wc=>∃ (kq:Nat) (x8_3:Bool),v8=.bool x8_3∧Aside0 (impl_CandidatesFor.j0 kq l1 a2 x8_3 l0_0 l0_1=some (r1,r2))∧Aside0 (kq≤k)∧Aside0 (wc.heap[gb101]?=some (.cells #[(.slice A0_0 l0_0.length c0_0),(.slice A0_1 l0_1.length c0_1)] 33 (0,0)))∧Aside0 (Below w.heap.size w wc))
 case first =>
  have H:=HC4.out;clear HC4;replace H:=Option.bind_eq_some_iff.mp H;obtain ⟨t102,A60,H⟩:=H;replace H:(if t102=true then ((impl_areSights.f l1).bind fun t103=>(impl_CandidatesFor.j0 k l1 a2 (!t103) l0_0 l0_1)) else (impl_CandidatesFor.j0 k l1 a2 true l0_0 l0_1))=some (r1,r2):=H;have A6:=am A60;clear A60
  by_cases c7:t102=true
  ·subst c7
   have H1:((impl_areSights.f l1).bind fun t103=>(impl_CandidatesFor.j0 k l1 a2 (!t103) l0_0 l0_1))=some (r1,r2):=by rw [if_pos rfl] at H;exact H
   clear H;have H:=H1;clear H1;replace H:=Option.bind_eq_some_iff.mp H;obtain ⟨t103,A80,H⟩:=H;replace H:(impl_CandidatesFor.j0 k l1 a2 (!t103) l0_0 l0_1)=some (r1,r2):=H;have A8:=am A80;clear A80;have H':=am H;clear H;have hcz9_0:w5.cell? ⟨gb101,0,none⟩=some (.slice A0_0 l0_0.length c0_0):=(blk_cell BK101.out 0).trans rfl;have hcz9_1:w5.cell? ⟨gb101,1,none⟩=some (.slice A0_1 l0_1.length c0_1):=(blk_cell BK101.out 1).trans rfl;have hfz9_0:=blk_frozen BK101.out 0;have hfz9_1:=blk_frozen BK101.out 1
   go_wp2_with (first|((with_reducible refine gate_callee (f:=30) rfl ?_);refine goesL_ (some 10) rfl rfl Try.func30 zq16 rfl #[.agg #[.slice A0_0 l0_0.length c0_0,.slice A0_1 l0_1.length c0_1]] rfl zq0 ?_;(with_reducible refine (impl_ValidCode.calls _ _ l0_0 _ _ l0_1 true _ ?side1 ?side2 ?side3 ?side4 A6.out).mono ?_);(case side1=>exact zq6);(case side2=>exact HC0_0.out);(case side3=>exact zq7);(case side4=>exact HC0_1.out);rintro e w10 ⟨rfl,hb⟩;refine ⟨_,rfl,?_⟩;have n0_:=am (blk_below (g:=gb101) (o:=.cells #[.slice A0_0 l0_0.length c0_0,.slice A0_1 l0_1.length c0_1] 33 (0,0)) zq4 hb);have n1_:=am (below_step zq1 hb);clear BK101;clear HB;have BK101:=n0_;have HB:=n1_;clear n0_ n1_;(try clear hb);(try clear hb2);(try clear hk);(try clear hi))|(go_at_call 59;(with_reducible refine (impl_areSights.calls _ _ l1 t103 _ ?side1 ?side2 A8.out).mono ?_);(case side1=>exact zq14);(case side2=>exact HC1.out);rintro e w11 ⟨rfl,hb⟩;have n0_:=am (blk_below (g:=gb101) (o:=.cells #[.slice A0_0 l0_0.length c0_0,.slice A0_1 l0_1.length c0_1] 33 (0,0)) zq4 hb);have n1_:=am (below_step zq1 hb);clear BK101;clear HB;have BK101:=n0_;have HB:=n1_;clear n0_ n1_;(try clear hb);(try clear hb2);(try clear hk);(try clear hi)))
   go_meet
   case rel=>exact ⟨_,(!t103),zq3,H',⟨by first|omega|exact Nat.le_refl _⟩,⟨by (with_reducible repeat (first|refine blk_drewN ?_ _|refine blk_drew ?_|refine blk_alloc ?_ _));exact BK101.out⟩,⟨by repeat (first|(with_reducible first|exact HB.out|apply below_alloc|apply pw_below_drewN|apply below_drew1|refine below_set ?_ GE101.out)|exact HB.out)⟩⟩
  ·replace c7:=Bool.eq_false_iff.mpr c7;subst c7
   have H1:(impl_CandidatesFor.j0 k l1 a2 true l0_0 l0_1)=some (r1,r2):=by rw [if_neg (show ¬ (false=true) by decide)] at H;exact H
   clear H;have H:=H1;clear H1;have H':=am H;clear H;have hcz12_0:w5.cell? ⟨gb101,0,none⟩=some (.slice A0_0 l0_0.length c0_0):=(blk_cell BK101.out 0).trans rfl;have hcz12_1:w5.cell? ⟨gb101,1,none⟩=some (.slice A0_1 l0_1.length c0_1):=(blk_cell BK101.out 1).trans rfl;have hfz12_0:=blk_frozen BK101.out 0;have hfz12_1:=blk_frozen BK101.out 1
   go_wp2_with (first|((with_reducible refine gate_callee (f:=30) rfl ?_);refine goesL_ (some 10) rfl rfl Try.func30 zq16 rfl #[.agg #[.slice A0_0 l0_0.length c0_0,.slice A0_1 l0_1.length c0_1]] rfl zq0 ?_;(with_reducible refine (impl_ValidCode.calls _ _ l0_0 _ _ l0_1 false _ ?side1 ?side2 ?side3 ?side4 A6.out).mono ?_);(case side1=>exact zq6);(case side2=>exact HC0_0.out);(case side3=>exact zq7);(case side4=>exact HC0_1.out);rintro e w13 ⟨rfl,hb⟩;refine ⟨_,rfl,?_⟩;have n0_:=am (blk_below (g:=gb101) (o:=.cells #[.slice A0_0 l0_0.length c0_0,.slice A0_1 l0_1.length c0_1] 33 (0,0)) zq4 hb);have n1_:=am (below_step zq1 hb);clear BK101;clear HB;have BK101:=n0_;have HB:=n1_;clear n0_ n1_;(try clear hb);(try clear hb2);(try clear hk);(try clear hi)))
   go_meet
   case rel=>exact ⟨_,(true),zq3,H',⟨by first|omega|exact Nat.le_refl _⟩,⟨by (with_reducible repeat (first|refine blk_drewN ?_ _|refine blk_drew ?_|refine blk_alloc ?_ _));exact BK101.out⟩,⟨by repeat (first|(with_reducible first|exact HB.out|apply below_alloc|apply pw_below_drewN|apply below_drew1|refine below_set ?_ GE101.out)|exact HB.out)⟩⟩
 case rest =>
  clear HC4;(try clear c1);(try clear c2);(try clear p2);(try clear c3);(try clear c7);(try clear hcz12_0);(try clear hcz12_1);(try clear hcz9_0);(try clear hcz9_1);(try clear hfz12_0);(try clear hfz12_1);(try clear hfz9_0);(try clear hfz9_1);obtain ⟨kq,x8_3,rfl,HA,HJ3,BK101,HB⟩:=hcut
  cases kq with
  | zero=>exact absurd HA.out (by simp [impl_CandidatesFor.j0])
  | succ kj3 =>
   have H:=HA.out;clear HA;simp only [impl_CandidatesFor.j0] at H
   by_cases c14:x8_3=true
   ·subst c14
    have H1:(some (([]:List Int),1))=some (r1,r2):=by rw [if_pos rfl] at H;exact H
    clear H;have H:=H1;clear H1;simp only [Option.some.injEq,Prod.mk.injEq] at H;obtain ⟨rfl,rfl⟩:=H
    go_wp2
    go_ret2
    exact ⟨_,by first|rfl|(simp [errW_none,errW_some,IntKind.wrap_i64,wrap64];done)|(simp [errW_none,errW_some] <;> rfl)|(simp [*,errW_none,errW_some] <;> rfl),by first|exact Kd.R_nil _ _ _ _ _|exact Kd.N_nil _ _ _ _ _|exact Kd.V_nil _ _ _ _ _|exact Kd.Q_nil _ _ _ _ _|exact Kd.S_nil _ _ _ _ _,by repeat (first|(with_reducible first|exact HB.out|apply below_alloc|apply pw_below_drewN|apply below_drew1|refine below_set ?_ GE101.out)|exact HB.out)⟩
   ·replace c14:=Bool.eq_false_iff.mpr c14;subst c14
    have H1:((impl_within.f a2 0 48).bind fun t104=>(if t104=true then ((impl_Code_isSeen.f l0_0 l0_1 l1).bind fun t105=>(if t105=true then ((impl_Code_candidates.f kj3 l0_0 l0_1 l1 a2).bind fun t106=>(some (t106,0))) else (some (([]:List Int),2)))) else (some (([]:List Int),2))))=some (r1,r2):=by rw [if_neg (show ¬ (false=true) by decide)] at H;exact H
    clear H;have H:=H1;clear H1;replace H:=Option.bind_eq_some_iff.mp H;obtain ⟨t104,A150,H⟩:=H;replace H:(if t104=true then ((impl_Code_isSeen.f l0_0 l0_1 l1).bind fun t105=>(if t105=true then ((impl_Code_candidates.f kj3 l0_0 l0_1 l1 a2).bind fun t106=>(some (t106,0))) else (some (([]:List Int),2)))) else (some (([]:List Int),2)))=some (r1,r2):=H;have A15:=am A150;clear A150
    by_cases c16:t104=true
    ·subst c16
     have H1:((impl_Code_isSeen.f l0_0 l0_1 l1).bind fun t105=>(if t105=true then ((impl_Code_candidates.f kj3 l0_0 l0_1 l1 a2).bind fun t106=>(some (t106,0))) else (some (([]:List Int),2))))=some (r1,r2):=by rw [if_pos rfl] at H;exact H
     clear H;have H:=H1;clear H1;replace H:=Option.bind_eq_some_iff.mp H;obtain ⟨t105,A170,H⟩:=H;replace H:(if t105=true then ((impl_Code_candidates.f kj3 l0_0 l0_1 l1 a2).bind fun t106=>(some (t106,0))) else (some (([]:List Int),2)))=some (r1,r2):=H;have A17:=am A170;clear A170
     by_cases c18:t105=true
     ·subst c18
      have H1:((impl_Code_candidates.f kj3 l0_0 l0_1 l1 a2).bind fun t106=>(some (t106,0)))=some (r1,r2):=by rw [if_pos rfl] at H;exact H
      clear H;have H:=H1;clear H1;replace H:=Option.bind_eq_some_iff.mp H;obtain ⟨t106,A190,H⟩:=H;replace H:(some (t106,0))=some (r1,r2):=H;have A19:=am A190;clear A190;simp only [Option.some.injEq,Prod.mk.injEq] at H;obtain ⟨rfl,rfl⟩:=H
      go_wp2_with (first|((with_reducible refine gate_callee (f:=45) rfl ?_);refine goesL_ (some 19) rfl rfl Try.func45 zq16 rfl #[.int .i64 a2,.int .i64 0,.int .i64 48] rfl zq0 ?_;(with_reducible refine (impl_within.calls a2 0 48 true _ A15.out).mono ?_);rintro e w' ⟨rfl,⟨nd,rfl⟩⟩;refine ⟨_,rfl,?_⟩;have hcz20_0:wc.cell? ⟨gb101,0,none⟩=some (.slice A0_0 l0_0.length c0_0):=(blk_cell BK101.out 0).trans rfl;have hcz20_1:wc.cell? ⟨gb101,1,none⟩=some (.slice A0_1 l0_1.length c0_1):=(blk_cell BK101.out 1).trans rfl;have hfz20_0:=blk_frozen BK101.out 0;have hfz20_1:=blk_frozen BK101.out 1)|(go_at_call 60;(with_reducible refine (impl_Code_isSeen.calls _ _ l0_0 _ _ l0_1 _ _ l1 true _ ?side1 ?side2 ?side3 ?side4 ?side5 ?side6 A17.out).mono ?_);(case side1=>exact zq84);(case side2=>exact HC0_0.out);(case side3=>exact zq83);(case side4=>exact HC0_1.out);(case side5=>exact zq85);(case side6=>exact HC1.out);rintro e w21 ⟨rfl,hb⟩;have n0_:=am (blk_below (g:=gb101) (o:=.cells #[.slice A0_0 l0_0.length c0_0,.slice A0_1 l0_1.length c0_1] 33 (0,0)) zq4 hb);have n1_:=am (below_step zq1 hb);clear BK101;clear HB;have BK101:=n0_;have HB:=n1_;clear n0_ n1_;(try clear hb);(try clear hb2);(try clear hk);(try clear hi);have hcz22_0:w21.cell? ⟨gb101,0,none⟩=some (.slice A0_0 l0_0.length c0_0):=(blk_cell BK101.out 0).trans rfl;have hcz22_1:w21.cell? ⟨gb101,1,none⟩=some (.slice A0_1 l0_1.length c0_1):=(blk_cell BK101.out 1).trans rfl;have hfz22_0:=blk_frozen BK101.out 0;have hfz22_1:=blk_frozen BK101.out 1)|((with_reducible refine gate_callee (f:=61) rfl ?_);refine goesL_ (some 30) rfl rfl Try.func61 zq16 rfl #[.agg #[.slice A0_0 l0_0.length c0_0,.slice A0_1 l0_1.length c0_1],.slice A1 l1.length c1,.int .i64 a2] rfl zq0 ?_;(with_reducible refine (impl_Code_candidates.calls kj3 _ _ l0_0 _ _ l0_1 _ _ l1 a2 t106 _ ?side1 ?side2 ?side3 ?side4 ?side5 ?side6 A19.out).mono ?_);(case side1=>exact zq6);(case side2=>exact HC0_0.out);(case side3=>exact zq7);(case side4=>exact HC0_1.out);(case side5=>exact zq14);(case side6=>exact HC1.out);rintro e w23 ⟨v107,rfl,ho0,hb⟩;refine ⟨_,rfl,?_⟩;have n0_:=am (Kd.R_lower ho0 (below_size zq1));have n1_:=am (blk_below (g:=gb101) (o:=.cells #[.slice A0_0 l0_0.length c0_0,.slice A0_1 l0_1.length c0_1] 33 (0,0)) zq4 hb);have n2_:=am (below_step zq1 hb);clear BK101;clear HB;have HO108:=n0_;have BK101:=n1_;have HB:=n2_;clear n0_ n1_ n2_;(try clear hb);(try clear hb2);(try clear hk);(try clear hi);(try clear ho0)))
      go_ret2
      exact ⟨_,by first|rfl|(simp [errW_none,errW_some,IntKind.wrap_i64,wrap64];done)|(simp [errW_none,errW_some] <;> rfl)|(simp [*,errW_none,errW_some] <;> rfl),by (with_reducible repeat (first|apply Kd.R_alloc|apply Kd.R_drewN|apply Kd.R_drew));exact HO108.out,by repeat (first|(with_reducible first|exact HB.out|apply below_alloc|apply pw_below_drewN|apply below_drew1|refine below_set ?_ GE101.out)|exact HB.out)⟩
     ·replace c18:=Bool.eq_false_iff.mpr c18;subst c18
      have H1:(some (([]:List Int),2))=some (r1,r2):=by rw [if_neg (show ¬ (false=true) by decide)] at H;exact H
      clear H;have H:=H1;clear H1;simp only [Option.some.injEq,Prod.mk.injEq] at H;obtain ⟨rfl,rfl⟩:=H
      go_wp2_with (first|((with_reducible refine gate_callee (f:=45) rfl ?_);refine goesL_ (some 19) rfl rfl Try.func45 zq16 rfl #[.int .i64 a2,.int .i64 0,.int .i64 48] rfl zq0 ?_;(with_reducible refine (impl_within.calls a2 0 48 true _ A15.out).mono ?_);rintro e w' ⟨rfl,⟨nd,rfl⟩⟩;refine ⟨_,rfl,?_⟩;have hcz24_0:wc.cell? ⟨gb101,0,none⟩=some (.slice A0_0 l0_0.length c0_0):=(blk_cell BK101.out 0).trans rfl;have hcz24_1:wc.cell? ⟨gb101,1,none⟩=some (.slice A0_1 l0_1.length c0_1):=(blk_cell BK101.out 1).trans rfl;have hfz24_0:=blk_frozen BK101.out 0;have hfz24_1:=blk_frozen BK101.out 1)|(go_at_call 60;(with_reducible refine (impl_Code_isSeen.calls _ _ l0_0 _ _ l0_1 _ _ l1 false _ ?side1 ?side2 ?side3 ?side4 ?side5 ?side6 A17.out).mono ?_);(case side1=>exact zq84);(case side2=>exact HC0_0.out);(case side3=>exact zq83);(case side4=>exact HC0_1.out);(case side5=>exact zq85);(case side6=>exact HC1.out);rintro e w25 ⟨rfl,hb⟩;have n0_:=am (blk_below (g:=gb101) (o:=.cells #[.slice A0_0 l0_0.length c0_0,.slice A0_1 l0_1.length c0_1] 33 (0,0)) zq4 hb);have n1_:=am (below_step zq1 hb);clear BK101;clear HB;have BK101:=n0_;have HB:=n1_;clear n0_ n1_;(try clear hb);(try clear hb2);(try clear hk);(try clear hi)))
      go_ret2
      exact ⟨_,by first|rfl|(simp [errW_none,errW_some,IntKind.wrap_i64,wrap64];done)|(simp [errW_none,errW_some] <;> rfl)|(simp [*,errW_none,errW_some] <;> rfl),by first|exact Kd.R_nil _ _ _ _ _|exact Kd.N_nil _ _ _ _ _|exact Kd.V_nil _ _ _ _ _|exact Kd.Q_nil _ _ _ _ _|exact Kd.S_nil _ _ _ _ _,by repeat (first|(with_reducible first|exact HB.out|apply below_alloc|apply pw_below_drewN|apply below_drew1|refine below_set ?_ GE101.out)|exact HB.out)⟩
    ·replace c16:=Bool.eq_false_iff.mpr c16;subst c16
     have H1:(some (([]:List Int),2))=some (r1,r2):=by rw [if_neg (show ¬ (false=true) by decide)] at H;exact H
     clear H;have H:=H1;clear H1;simp only [Option.some.injEq,Prod.mk.injEq] at H;obtain ⟨rfl,rfl⟩:=H
     go_wp2_with (first|((with_reducible refine gate_callee (f:=45) rfl ?_);refine goesL_ (some 19) rfl rfl Try.func45 zq16 rfl #[.int .i64 a2,.int .i64 0,.int .i64 48] rfl zq0 ?_;(with_reducible refine (impl_within.calls a2 0 48 false _ A15.out).mono ?_);rintro e w' ⟨rfl,⟨nd,rfl⟩⟩;refine ⟨_,rfl,?_⟩))
     go_ret2
     exact ⟨_,by first|rfl|(simp [errW_none,errW_some,IntKind.wrap_i64,wrap64];done)|(simp [errW_none,errW_some] <;> rfl)|(simp [*,errW_none,errW_some] <;> rfl),by first|exact Kd.R_nil _ _ _ _ _|exact Kd.N_nil _ _ _ _ _|exact Kd.V_nil _ _ _ _ _|exact Kd.Q_nil _ _ _ _ _|exact Kd.S_nil _ _ _ _ _,by repeat (first|(with_reducible first|exact HB.out|apply below_alloc|apply pw_below_drewN|apply below_drew1|refine below_set ?_ GE101.out)|exact HB.out)⟩
end Go.Proofs.Ytgfknljhogfeaaa.G
end

section
namespace Go.Proofs.Ytgfknljhogfeaaa.G
open Go.RowKit Go.Proofs.YtgfknljhogfeaaaW.PrintWords Go.Proofs.YtgfknljhogfeaaaW.PrintLast Go.Proofs.YtgfknljhogfeaaaW.PrintMore
attribute [local go_sem] max2_int min2_int max_two min_two max_three min_three max_four min_four
set_option linter.unusedVariables false
set_option linter.unusedSimpArgs false
def impl_firstOf.l0:Nat→List Int→Int→Int→Option (Int)
 | 0,_,_,_=>none
 | k + 1,x5,x6,x7=>if x7 < x6 then (if 0≤x7 then (if x7 < (x5.length:Int) then (if (rd x5 x7)=0 then (impl_firstOf.l0 k x5 x6 (wrap64 (x7 + 1))) else (some (rd x5 x7))) else (none)) else (none)) else (some 0)
def impl_firstOf.f (k:Nat) (l0:List Int):Option (Int):=impl_firstOf.l0 k l0 (l0.length:Int) 0
set_option maxHeartbeats 8000000 in
set_option maxRecDepth 100000 in
theorem impl_firstOf.calls (k:Nat) (A0:Option Addr) (c0:Nat) (l0:List Int) (r:Int) (w:World) (hr0:Kd.C (Kd.int .i64) w A0 l0.length l0) (hc0:l0.length≤c0) (h:impl_firstOf.f k l0=some r) :
  Calls Try.prog 70 #[.slice A0 l0.length c0] w fun e w'=>e=.returned (.int .i64 r)∧Drawn0 w w':=by
 have HR0:=am hr0;have HC0:=am hc0;clear hr0 hc0;have H:(impl_firstOf.l0 k l0 (l0.length:Int) 0)=some r:=h;clear h;have H':=am H;clear H
 go_enter Try.func70,Try.ntmps70
 go_wp2
 go_loopg [7] k (fun kq v7 w'=>∃ (x7_1:Int),v7=.int .i64 x7_1∧Aside0 (impl_firstOf.l0 kq l0 (l0.length:Int) x7_1=some r)∧Aside0 (kq≤k)∧Drawn0 w w')
 case atStart=>exact ⟨(0),zq3,H',⟨Nat.le_refl _⟩,by repeat (first|exact Drawn0.refl _|apply Drawn0.step)⟩
 case round =>
  clear H';obtain ⟨x7_1,rfl,HA,HK1,⟨m1,rfl⟩⟩:=hrel
  cases gk with
  | zero=>exact absurd HA.out (by simp [impl_firstOf.l0])
  | succ k1 =>
   have H:=HA.out;clear HA;simp only [impl_firstOf.l0] at H
   by_cases c2:x7_1 < (l0.length:Int)
   ·rw [if_pos c2] at H;have c2b0:decide (x7_1 < (l0.length:Int))=true:=decide_eq_true c2;clear c2
    by_cases c3:0≤x7_1
    ·rw [if_pos c3] at H;have c3b0:decide (0≤x7_1)=true:=decide_eq_true c3;clear c3
     by_cases c4:x7_1 < (l0.length:Int)
     ·rw [if_pos c4] at H;have c4b0:decide (x7_1 < (l0.length:Int))=true:=decide_eq_true c4;clear c4
      by_cases c5:(rd l0 x7_1)=0
      ·rw [if_pos c5] at H;have c5b0:((rd l0 x7_1) == 0)=true:=beq_iff_eq.mpr c5;have c5b1:((rd l0 x7_1) != 0)=false:=bne_eq_false_iff_eq.mpr c5;clear c5;have H':=am H;clear H;have p101:0≤(x7_1:Int):=of_decide_eq_true zq9;have q101:x7_1 < (l0.length:Int):=of_decide_eq_true zq9;obtain ⟨ad101,e101,hx101_0⟩:=Kd.at_int HR0.out x7_1 p101 q101;cases e101;replace p101:=eq_true p101;replace q101:=eq_true q101
       go_wp2
       go_roundg k1
       case measure=>have:=HK1.out;omega
       case rel=>exact ⟨(wrap64 (x7_1 + 1)),zq3,H',⟨by have:=HK1.out;omega⟩,by repeat (first|exact Drawn0.refl _|apply Drawn0.step)⟩
      ·rw [if_neg c5] at H;have c5b0:((rd l0 x7_1) == 0)=false:=beq_eq_false_iff_ne.mpr c5;have c5b1:((rd l0 x7_1) != 0)=true:=bne_iff_ne.mpr c5;obtain rfl:=Option.some.inj H;have p101:0≤(x7_1:Int):=of_decide_eq_true zq9;have q101:x7_1 < (l0.length:Int):=of_decide_eq_true zq9;obtain ⟨ad101,e101,hx101_0⟩:=Kd.at_int HR0.out x7_1 p101 q101;cases e101;replace p101:=eq_true p101;replace q101:=eq_true q101
       go_wp2
       go_ret
       exact ⟨by first|rfl|(simp only [IntKind.wrap_i64,wrap64];done)|(simp;done)|(simp [*];done),by repeat (first|exact Drawn0.refl _|apply Drawn0.step)⟩
     ·rw [if_neg c4] at H;exact absurd H (by simp)
    ·rw [if_neg c3] at H;exact absurd H (by simp)
   ·rw [if_neg c2] at H;have c2b0:decide (x7_1 < (l0.length:Int))=false:=decide_eq_false c2;clear c2;obtain rfl:=Option.some.inj H
    go_wp2
    go_ret
    exact ⟨by first|rfl|(simp only [IntKind.wrap_i64,wrap64];done)|(simp;done)|(simp [*];done),by repeat (first|exact Drawn0.refl _|apply Drawn0.step)⟩
end Go.Proofs.Ytgfknljhogfeaaa.G
end

section
namespace Go.Proofs.Ytgfknljhogfeaaa.G
open Go.RowKit Go.Proofs.YtgfknljhogfeaaaW.PrintWords Go.Proofs.YtgfknljhogfeaaaW.PrintLast Go.Proofs.YtgfknljhogfeaaaW.PrintMore
attribute [local go_sem] max2_int min2_int max_two min_two max_three min_three max_four min_four
set_option linter.unusedVariables false
set_option linter.unusedSimpArgs false
mutual
def impl_ConfusedFlags.j0:Nat→List (S68)→Int→Int→Int→Option (List Int × Int)
 | 0,_,_,_,_=>none
 | k + 1,x0,x1,x2,x8=>if x8=0 then (impl_ConfusedFlags.l0 k x0 x1 x2 (([]:List Int)) x0 (x0.length:Int) 0) else (some (([]:List Int),x8))
def impl_ConfusedFlags.l0:Nat→List (S68)→Int→Int→List Int→List (S68)→Int→Int→Option (List Int × Int)
 | 0,_,_,_,_,_,_,_=>none
 | k + 1,x0,x1,x2,x9,x30,x31,x32=>if x32 < x31 then (if 0≤x32 then (if x32 < (x30.length:Int) then (if x32=x1 then (impl_ConfusedFlags.l0 k x0 x1 x2 x9 x30 x31 (wrap64 (x32 + 1))) else (if 0≤x1 then (if x1 < (x0.length:Int) then ((impl_afar.f k ((rd_T68 x0 x1).f0) ((rd_T68 x0 x1).f1) ((rd_T68 x0 x1).f2) ((rd_T68 x0 x1).f3) ((rd_T68 x0 x1).f4) ((rd_T68 x0 x1).f5) ((rd_T68 x0 x1).f6) ((rd_T68 x0 x1).f7) ((rd_T68 x0 x1).f8) ((rd_T68 x0 x1).f9) ((rd_T68 x0 x1).f10) ((rd_T68 x0 x1).f11) ((rd_T68 x0 x1).f12) ((rd_T68 x0 x1).f13) ((rd_T68 x0 x1).f14) ((rd_T68 x0 x1).f15) ((rd_T68 x0 x1).f16) ((rd_T68 x0 x1).f17) ((rd_T68 x0 x1).f18) ((rd_T68 x0 x1).f19) ((rd_T68 x0 x1).f20) ((rd_T68 x0 x1).f21) ((rd_T68 x0 x1).f22) ((rd_T68 x0 x1).f23) ((rd_T68 x30 x32).f0) ((rd_T68 x30 x32).f1) ((rd_T68 x30 x32).f2) ((rd_T68 x30 x32).f3) ((rd_T68 x30 x32).f4) ((rd_T68 x30 x32).f5) ((rd_T68 x30 x32).f6) ((rd_T68 x30 x32).f7) ((rd_T68 x30 x32).f8) ((rd_T68 x30 x32).f9) ((rd_T68 x30 x32).f10) ((rd_T68 x30 x32).f11) ((rd_T68 x30 x32).f12) ((rd_T68 x30 x32).f13) ((rd_T68 x30 x32).f14) ((rd_T68 x30 x32).f15) ((rd_T68 x30 x32).f16) ((rd_T68 x30 x32).f17) ((rd_T68 x30 x32).f18) ((rd_T68 x30 x32).f19) ((rd_T68 x30 x32).f20) ((rd_T68 x30 x32).f21) ((rd_T68 x30 x32).f22) ((rd_T68 x30 x32).f23)).bind fun t121=>(if t121≤x2 then (if x9.length < 17592186044416 then (impl_ConfusedFlags.l0 k x0 x1 x2 (x9 ++ [x32]) x30 x31 (wrap64 (x32 + 1))) else (none)) else (impl_ConfusedFlags.l0 k x0 x1 x2 x9 x30 x31 (wrap64 (x32 + 1))))) else (none)) else (none))) else (none)) else (none)) else (some (x9,0))
end
def impl_ConfusedFlags.f (k:Nat) (l0:List (S68)) (a1:Int) (a2:Int):Option (List Int × Int):=(impl_setCode.f l0 0).bind fun t101=>((impl_size_Flag.f l0).bind fun t102=>((impl_within.f a1 0 (wrap64 (t102 - 1))).bind fun t103=>(if t103=true then ((impl_within.f a2 0 6).bind fun t104=>((impl_unless.f t104 2).bind fun t105=>((impl_firstOf.f k (([t101,t105]:List Int))).bind fun t109=>(impl_ConfusedFlags.j0 k l0 a1 a2 t109)))) else ((impl_unless.f false 2).bind fun t110=>((impl_firstOf.f k (([t101,t110]:List Int))).bind fun t114=>(impl_ConfusedFlags.j0 k l0 a1 a2 t114))))))
set_option maxHeartbeats 8000000 in
set_option maxRecDepth 100000 in
theorem impl_ConfusedFlags.calls (k:Nat) (A0:Option Addr) (c0:Nat) (l0:List (S68)) (a1:Int) (a2:Int) (r1:List Int) (r2:Int) (w:World) (hr0:Kd.C k68 w A0 l0.length l0) (hc0:l0.length≤c0) (h:impl_ConfusedFlags.f k l0 a1 a2=some (r1,r2)) :
  Calls Try.prog 36 #[.slice A0 l0.length c0,.int .i64 a1,.int .i64 a2] w fun e w'=>∃ v0_:Value,e=.returned (.tuple #[v0_,.int .i64 r2])∧Kd.R (Kd.int .i64) 2 w' w.heap.size (fun _=>True) v0_ r1∧Below w.heap.size w w':=by
 have HR0:=am hr0;have HC0:=am hc0;clear hr0 hc0;have HB:=am (Below.refl w.heap.size w);have H:((impl_setCode.f l0 0).bind fun t101=>((impl_size_Flag.f l0).bind fun t102=>((impl_within.f a1 0 (wrap64 (t102 - 1))).bind fun t103=>(if t103=true then ((impl_within.f a2 0 6).bind fun t104=>((impl_unless.f t104 2).bind fun t105=>((impl_firstOf.f k (([t101,t105]:List Int))).bind fun t109=>(impl_ConfusedFlags.j0 k l0 a1 a2 t109)))) else ((impl_unless.f false 2).bind fun t110=>((impl_firstOf.f k (([t101,t110]:List Int))).bind fun t114=>(impl_ConfusedFlags.j0 k l0 a1 a2 t114)))))))=some (r1,r2):=h;clear h;have HC4:=am H;clear H
 go_enter Try.func36,Try.ntmps36
 go_upto_region 1 with (fail)
 repeat (go_quiet (fail);go_upto_region 1 with (fail))
 go_cut [8] (fun v8 wc=>∃ (kq:Nat) (x8_3:Int),v8=.int .i64 x8_3∧Aside0 (impl_ConfusedFlags.j0 kq l0 a1 a2 x8_3=some (r1,r2))∧Aside0 (kq≤k)∧Aside0 (Below w.heap.size w wc))
 case first =>
  have H:=HC4.out;clear HC4;replace H:=Option.bind_eq_some_iff.mp H;obtain ⟨t101,A50,H⟩:=H;replace H:((impl_size_Flag.f l0).bind fun t102=>((impl_within.f a1 0 (wrap64 (t102 - 1))).bind fun t103=>(if t103=true then ((impl_within.f a2 0 6).bind fun t104=>((impl_unless.f t104 2).bind fun t105=>((impl_firstOf.f k (([t101,t105]:List Int))).bind fun t109=>(impl_ConfusedFlags.j0 k l0 a1 a2 t109)))) else ((impl_unless.f false 2).bind fun t110=>((impl_firstOf.f k (([t101,t110]:List Int))).bind fun t114=>(impl_ConfusedFlags.j0 k l0 a1 a2 t114))))))=some (r1,r2):=H;have A5:=am A50;clear A50;replace H:=Option.bind_eq_some_iff.mp H;obtain ⟨t102,A60,H⟩:=H;replace H:((impl_within.f a1 0 (wrap64 (t102 - 1))).bind fun t103=>(if t103=true then ((impl_within.f a2 0 6).bind fun t104=>((impl_unless.f t104 2).bind fun t105=>((impl_firstOf.f k (([t101,t105]:List Int))).bind fun t109=>(impl_ConfusedFlags.j0 k l0 a1 a2 t109)))) else ((impl_unless.f false 2).bind fun t110=>((impl_firstOf.f k (([t101,t110]:List Int))).bind fun t114=>(impl_ConfusedFlags.j0 k l0 a1 a2 t114)))))=some (r1,r2):=H;have A6:=am A60;clear A60;replace H:=Option.bind_eq_some_iff.mp H;obtain ⟨t103,A70,H⟩:=H;replace H:(if t103=true then ((impl_within.f a2 0 6).bind fun t104=>((impl_unless.f t104 2).bind fun t105=>((impl_firstOf.f k (([t101,t105]:List Int))).bind fun t109=>(impl_ConfusedFlags.j0 k l0 a1 a2 t109)))) else ((impl_unless.f false 2).bind fun t110=>((impl_firstOf.f k (([t101,t110]:List Int))).bind fun t114=>(impl_ConfusedFlags.j0 k l0 a1 a2 t114))))=some (r1,r2):=H;have A7:=am A70;clear A70
  by_cases c8:t103=true
  ·subst c8
   have H1:((impl_within.f a2 0 6).bind fun t104=>((impl_unless.f t104 2).bind fun t105=>((impl_firstOf.f k (([t101,t105]:List Int))).bind fun t109=>(impl_ConfusedFlags.j0 k l0 a1 a2 t109))))=some (r1,r2):=by rw [if_pos rfl] at H;exact H
   clear H;have H:=H1;clear H1;replace H:=Option.bind_eq_some_iff.mp H;obtain ⟨t104,A90,H⟩:=H;replace H:((impl_unless.f t104 2).bind fun t105=>((impl_firstOf.f k (([t101,t105]:List Int))).bind fun t109=>(impl_ConfusedFlags.j0 k l0 a1 a2 t109)))=some (r1,r2):=H;have A9:=am A90;clear A90;replace H:=Option.bind_eq_some_iff.mp H;obtain ⟨t105,A100,H⟩:=H;replace H:((impl_firstOf.f k (([t101,t105]:List Int))).bind fun t109=>(impl_ConfusedFlags.j0 k l0 a1 a2 t109))=some (r1,r2):=H;have A10:=am A100;clear A100;obtain ⟨y106,hy106⟩:∃ y_:List Int,y_=(([t101,t105]:List Int)):=⟨_,rfl⟩
   replace H:((impl_firstOf.f k y106).bind fun t109=>(impl_ConfusedFlags.j0 k l0 a1 a2 t109))=some (r1,r2):=by first|(rw [hy106];with_reducible exact H)|(have H2_:=(Option.bind_some _ _).symm.trans H;rw [hy106];with_reducible exact H2_)|(have H2_:=(Option.bind_some _ _).symm.trans H;with_reducible exact H2_)|with_reducible exact H|(rw [hy106];exact H)|exact H
   have Ny106:=am hy106;clear hy106;replace H:=Option.bind_eq_some_iff.mp H;obtain ⟨t109,A110,H⟩:=H;replace H:(impl_ConfusedFlags.j0 k l0 a1 a2 t109)=some (r1,r2):=H;have A11:=am A110;clear A110;have H':=am H;clear H
   go_wp2_with (first|(go_at_call 64;(with_reducible refine (impl_setCode.calls _ _ l0 0 t101 _ ?side1 ?side2 A5.out).mono ?_);(case side1=>exact zq12);(case side2=>exact HC0.out);rintro e w12 ⟨rfl,hb⟩;have n0_:=am (below_step zq2 hb);clear HB;have HB:=n0_;clear n0_;(try clear hb);(try clear hb2);(try clear hk);(try clear hi))|(go_at_call 66;(with_reducible refine (impl_size_Flag.calls _ _ l0 t102 _ ?side1 ?side2 A6.out).mono ?_);(case side1=>exact zq12);(case side2=>exact HC0.out);rintro e w' ⟨rfl,⟨nd,rfl⟩⟩;(try first|exact ⟨rfl,_,World.drewN_drewN _ _ _⟩|exact ⟨rfl,_,Eq.trans (World.drewN_drewN _ _ _) (congrArg (World.drewN _) (Nat.add_assoc _ _ _))⟩))|(go_at_call 45;(with_reducible refine (impl_within.calls a1 0 (wrap64 (t102 - 1)) true _ A7.out).mono ?_);rintro e w' ⟨rfl,⟨nd,rfl⟩⟩;(try first|exact ⟨rfl,_,World.drewN_drewN _ _ _⟩|exact ⟨rfl,_,Eq.trans (World.drewN_drewN _ _ _) (congrArg (World.drewN _) (Nat.add_assoc _ _ _))⟩))|(go_at_call 45;(with_reducible refine (impl_within.calls a2 0 6 t104 _ A9.out).mono ?_);rintro e w' ⟨rfl,⟨nd,rfl⟩⟩;(try first|exact ⟨rfl,_,World.drewN_drewN _ _ _⟩|exact ⟨rfl,_,Eq.trans (World.drewN_drewN _ _ _) (congrArg (World.drewN _) (Nat.add_assoc _ _ _))⟩))|(go_at_call 71;(with_reducible refine (impl_unless.calls t104 2 t105 _ A10.out).mono ?_);rintro e w' ⟨rfl,⟨nd,rfl⟩⟩;(try first|exact ⟨rfl,_,World.drewN_drewN _ _ _⟩|exact ⟨rfl,_,Eq.trans (World.drewN_drewN _ _ _) (congrArg (World.drewN _) (Nat.add_assoc _ _ _))⟩))|((with_reducible refine gate_dst (N:=24) rfl ?_);refine Kd.R_lit (Kd.int .i64) _ 2 ?hg (N:=24) ?hd (xs:=([t101,t105]:List Int)) (inner:=[.int .i64 t101,.int .i64 t105]) (ok:=fun _=>True) (okp:=fun _=>True) ?hr ?hp (fun _ hk=>hk) trivial (Below.refl _ _) (Nat.le_refl _) (by simp) ?_;(case hd=>rfl);(case hg=>rfl);(case hr=>exact zq15);(case hp=>exact (Reps.one (show Kd.M (Kd.int .i64) _ _ _ t101 [.int .i64 t101] from rfl) (Reps.one (show Kd.M (Kd.int .i64) _ _ _ t105 [.int .i64 t105] from rfl) (Reps.none _ _))));intro v107 w13 ho14 hb hg_ hnew_;clear hg_ hnew_;(first|rw [← Ny106.out] at ho14|(simp only [Int.reduceToNat] at ho14;rw [← Ny106.out] at ho14));have n0_:=am (Kd.R_lower ho14 (below_size zq2));have n1_:=am (below_step zq2 hb);clear HB;have HO108:=n0_;have HB:=n1_;clear n0_ n1_;clear hb ho14;obtain ⟨Ao15,co15,eo15⟩:=Kd.R_slice HO108.out;subst eo15)|(go_at_call 70;(with_reducible refine (impl_firstOf.calls k _ _ y106 t109 _ ?side1 ?side2 A11.out).mono ?_);(case side1=>exact zq31);(case side2=>exact (Kd.R_reads' HO108.out).2.1);rintro e w' ⟨rfl,⟨nd,rfl⟩⟩;(try first|exact ⟨rfl,_,World.drewN_drewN _ _ _⟩|exact ⟨rfl,_,Eq.trans (World.drewN_drewN _ _ _) (congrArg (World.drewN _) (Nat.add_assoc _ _ _))⟩)))
   repeat (go_quiet (first|(go_at_call 66;(with_reducible refine (impl_size_Flag.calls _ _ l0 t102 _ ?side1 ?side2 A6.out).mono ?_);(case side1=>exact zq12);(case side2=>exact HC0.out);rintro e w' ⟨rfl,⟨nd,rfl⟩⟩;(try first|exact ⟨rfl,_,World.drewN_drewN _ _ _⟩|exact ⟨rfl,_,Eq.trans (World.drewN_drewN _ _ _) (congrArg (World.drewN _) (Nat.add_assoc _ _ _))⟩))|(go_at_call 45;(with_reducible refine (impl_within.calls a1 0 (wrap64 (t102 - 1)) true _ A7.out).mono ?_);rintro e w' ⟨rfl,⟨nd,rfl⟩⟩;(try first|exact ⟨rfl,_,World.drewN_drewN _ _ _⟩|exact ⟨rfl,_,Eq.trans (World.drewN_drewN _ _ _) (congrArg (World.drewN _) (Nat.add_assoc _ _ _))⟩))|(go_at_call 45;(with_reducible refine (impl_within.calls a2 0 6 t104 _ A9.out).mono ?_);rintro e w' ⟨rfl,⟨nd,rfl⟩⟩;(try first|exact ⟨rfl,_,World.drewN_drewN _ _ _⟩|exact ⟨rfl,_,Eq.trans (World.drewN_drewN _ _ _) (congrArg (World.drewN _) (Nat.add_assoc _ _ _))⟩))|(go_at_call 71;(with_reducible refine (impl_unless.calls t104 2 t105 _ A10.out).mono ?_);rintro e w' ⟨rfl,⟨nd,rfl⟩⟩;(try first|exact ⟨rfl,_,World.drewN_drewN _ _ _⟩|exact ⟨rfl,_,Eq.trans (World.drewN_drewN _ _ _) (congrArg (World.drewN _) (Nat.add_assoc _ _ _))⟩))|(go_at_call 70;(with_reducible refine (impl_firstOf.calls k _ _ y106 t109 _ ?side1 ?side2 A11.out).mono ?_);(case side1=>exact zq31);(case side2=>exact (Kd.R_reads' HO108.out).2.1);rintro e w' ⟨rfl,⟨nd,rfl⟩⟩;(try first|exact ⟨rfl,_,World.drewN_drewN _ _ _⟩|exact ⟨rfl,_,Eq.trans (World.drewN_drewN _ _ _) (congrArg (World.drewN _) (Nat.add_assoc _ _ _))⟩)));try go_wp2_with (first|(go_at_call 64;(with_reducible refine (impl_setCode.calls _ _ l0 0 t101 _ ?side1 ?side2 A5.out).mono ?_);(case side1=>exact zq12);(case side2=>exact HC0.out);rintro e w12 ⟨rfl,hb⟩;have n0_:=am (below_step zq2 hb);clear HB;have HB:=n0_;clear n0_;(try clear hb);(try clear hb2);(try clear hk);(try clear hi))|(go_at_call 66;(with_reducible refine (impl_size_Flag.calls _ _ l0 t102 _ ?side1 ?side2 A6.out).mono ?_);(case side1=>exact zq12);(case side2=>exact HC0.out);rintro e w' ⟨rfl,⟨nd,rfl⟩⟩;(try first|exact ⟨rfl,_,World.drewN_drewN _ _ _⟩|exact ⟨rfl,_,Eq.trans (World.drewN_drewN _ _ _) (congrArg (World.drewN _) (Nat.add_assoc _ _ _))⟩))|(go_at_call 45;(with_reducible refine (impl_within.calls a1 0 (wrap64 (t102 - 1)) true _ A7.out).mono ?_);rintro e w' ⟨rfl,⟨nd,rfl⟩⟩;(try first|exact ⟨rfl,_,World.drewN_drewN _ _ _⟩|exact ⟨rfl,_,Eq.trans (World.drewN_drewN _ _ _) (congrArg (World.drewN _) (Nat.add_assoc _ _ _))⟩))|(go_at_call 45;(with_reducible refine (impl_within.calls a2 0 6 t104 _ A9.out).mono ?_);rintro e w' ⟨rfl,⟨nd,rfl⟩⟩;(try first|exact ⟨rfl,_,World.drewN_drewN _ _ _⟩|exact ⟨rfl,_,Eq.trans (World.drewN_drewN _ _ _) (congrArg (World.drewN _) (Nat.add_assoc _ _ _))⟩))|(go_at_call 71;(with_reducible refine (impl_unless.calls t104 2 t105 _ A10.out).mono ?_);rintro e w' ⟨rfl,⟨nd,rfl⟩⟩;(try first|exact ⟨rfl,_,World.drewN_drewN _ _ _⟩|exact ⟨rfl,_,Eq.trans (World.drewN_drewN _ _ _) (congrArg (World.drewN _) (Nat.add_assoc _ _ _))⟩))|((with_reducible refine gate_dst (N:=24) rfl ?_);refine Kd.R_lit (Kd.int .i64) _ 2 ?hg (N:=24) ?hd (xs:=([t101,t105]:List Int)) (inner:=[.int .i64 t101,.int .i64 t105]) (ok:=fun _=>True) (okp:=fun _=>True) ?hr ?hp (fun _ hk=>hk) trivial (Below.refl _ _) (Nat.le_refl _) (by simp) ?_;(case hd=>rfl);(case hg=>rfl);(case hr=>exact zq15);(case hp=>exact (Reps.one (show Kd.M (Kd.int .i64) _ _ _ t101 [.int .i64 t101] from rfl) (Reps.one (show Kd.M (Kd.int .i64) _ _ _ t105 [.int .i64 t105] from rfl) (Reps.none _ _))));intro v107 w13 ho14 hb hg_ hnew_;clear hg_ hnew_;(first|rw [← Ny106.out] at ho14|(simp only [Int.reduceToNat] at ho14;rw [← Ny106.out] at ho14));have n0_:=am (Kd.R_lower ho14 (below_size zq2));have n1_:=am (below_step zq2 hb);clear HB;have HO108:=n0_;have HB:=n1_;clear n0_ n1_;clear hb ho14;obtain ⟨Ao15,co15,eo15⟩:=Kd.R_slice HO108.out;subst eo15)|(go_at_call 70;(with_reducible refine (impl_firstOf.calls k _ _ y106 t109 _ ?side1 ?side2 A11.out).mono ?_);(case side1=>exact zq31);(case side2=>exact (Kd.R_reads' HO108.out).2.1);rintro e w' ⟨rfl,⟨nd,rfl⟩⟩;(try first|exact ⟨rfl,_,World.drewN_drewN _ _ _⟩|exact ⟨rfl,_,Eq.trans (World.drewN_drewN _ _ _) (congrArg (World.drewN _) (Nat.add_assoc _ _ _))⟩))))
   go_meet
   case rel=>exact ⟨_,(t109),zq3,H',⟨by first|omega|exact Nat.le_refl _⟩,⟨by repeat (first|(with_reducible first|exact HB.out|apply below_alloc|apply pw_below_drewN|apply below_drew1)|exact HB.out)⟩⟩
  ·replace c8:=Bool.eq_false_iff.mpr c8;subst c8
   have H1:((impl_unless.f false 2).bind fun t110=>((impl_firstOf.f k (([t101,t110]:List Int))).bind fun t114=>(impl_ConfusedFlags.j0 k l0 a1 a2 t114)))=some (r1,r2):=by rw [if_neg (show ¬ (false=true) by decide)] at H;exact H
   clear H;have H:=H1;clear H1;replace H:=Option.bind_eq_some_iff.mp H;obtain ⟨t110,A160,H⟩:=H;replace H:((impl_firstOf.f k (([t101,t110]:List Int))).bind fun t114=>(impl_ConfusedFlags.j0 k l0 a1 a2 t114))=some (r1,r2):=H;have A16:=am A160;clear A160;obtain ⟨y111,hy111⟩:∃ y_:List Int,y_=(([t101,t110]:List Int)):=⟨_,rfl⟩
   replace H:((impl_firstOf.f k y111).bind fun t114=>(impl_ConfusedFlags.j0 k l0 a1 a2 t114))=some (r1,r2):=by first|(rw [hy111];with_reducible exact H)|(have H2_:=(Option.bind_some _ _).symm.trans H;rw [hy111];with_reducible exact H2_)|(have H2_:=(Option.bind_some _ _).symm.trans H;with_reducible exact H2_)|with_reducible exact H|(rw [hy111];exact H)|exact H
   have Ny111:=am hy111;clear hy111;replace H:=Option.bind_eq_some_iff.mp H;obtain ⟨t114,A170,H⟩:=H;replace H:(impl_ConfusedFlags.j0 k l0 a1 a2 t114)=some (r1,r2):=H;have A17:=am A170;clear A170;have H':=am H;clear H
   go_wp2_with (first|(go_at_call 64;(with_reducible refine (impl_setCode.calls _ _ l0 0 t101 _ ?side1 ?side2 A5.out).mono ?_);(case side1=>exact zq12);(case side2=>exact HC0.out);rintro e w18 ⟨rfl,hb⟩;have n0_:=am (below_step zq2 hb);clear HB;have HB:=n0_;clear n0_;(try clear hb);(try clear hb2);(try clear hk);(try clear hi))|(go_at_call 66;(with_reducible refine (impl_size_Flag.calls _ _ l0 t102 _ ?side1 ?side2 A6.out).mono ?_);(case side1=>exact zq12);(case side2=>exact HC0.out);rintro e w' ⟨rfl,⟨nd,rfl⟩⟩;(try first|exact ⟨rfl,_,World.drewN_drewN _ _ _⟩|exact ⟨rfl,_,Eq.trans (World.drewN_drewN _ _ _) (congrArg (World.drewN _) (Nat.add_assoc _ _ _))⟩))|(go_at_call 45;(with_reducible refine (impl_within.calls a1 0 (wrap64 (t102 - 1)) false _ A7.out).mono ?_);rintro e w' ⟨rfl,⟨nd,rfl⟩⟩;(try first|exact ⟨rfl,_,World.drewN_drewN _ _ _⟩|exact ⟨rfl,_,Eq.trans (World.drewN_drewN _ _ _) (congrArg (World.drewN _) (Nat.add_assoc _ _ _))⟩))|(go_at_call 71;(with_reducible refine (impl_unless.calls false 2 t110 _ A16.out).mono ?_);rintro e w' ⟨rfl,⟨nd,rfl⟩⟩;(try first|exact ⟨rfl,_,World.drewN_drewN _ _ _⟩|exact ⟨rfl,_,Eq.trans (World.drewN_drewN _ _ _) (congrArg (World.drewN _) (Nat.add_assoc _ _ _))⟩))|((with_reducible refine gate_dst (N:=24) rfl ?_);refine Kd.R_lit (Kd.int .i64) _ 2 ?hg (N:=24) ?hd (xs:=([t101,t110]:List Int)) (inner:=[.int .i64 t101,.int .i64 t110]) (ok:=fun _=>True) (okp:=fun _=>True) ?hr ?hp (fun _ hk=>hk) trivial (Below.refl _ _) (Nat.le_refl _) (by simp) ?_;(case hd=>rfl);(case hg=>rfl);(case hr=>exact zq15);(case hp=>exact (Reps.one (show Kd.M (Kd.int .i64) _ _ _ t101 [.int .i64 t101] from rfl) (Reps.one (show Kd.M (Kd.int .i64) _ _ _ t110 [.int .i64 t110] from rfl) (Reps.none _ _))));intro v112 w19 ho20 hb hg_ hnew_;clear hg_ hnew_;(first|rw [← Ny111.out] at ho20|(simp only [Int.reduceToNat] at ho20;rw [← Ny111.out] at ho20));have n0_:=am (Kd.R_lower ho20 (below_size zq2));have n1_:=am (below_step zq2 hb);clear HB;have HO113:=n0_;have HB:=n1_;clear n0_ n1_;clear hb ho20;obtain ⟨Ao21,co21,eo21⟩:=Kd.R_slice HO113.out;subst eo21)|(go_at_call 70;(with_reducible refine (impl_firstOf.calls k _ _ y111 t114 _ ?side1 ?side2 A17.out).mono ?_);(case side1=>exact zq44);(case side2=>exact (Kd.R_reads' HO113.out).2.1);rintro e w' ⟨rfl,⟨nd,rfl⟩⟩;(try first|exact ⟨rfl,_,World.drewN_drewN _ _ _⟩|exact ⟨rfl,_,Eq.trans (World.drewN_drewN _ _ _) (congrArg (World.drewN _) (Nat.add_assoc _ _ _))⟩)))
   repeat (go_quiet (first|(go_at_call 66;(with_reducible refine (impl_size_Flag.calls _ _ l0 t102 _ ?side1 ?side2 A6.out).mono ?_);(case side1=>exact zq12);(case side2=>exact HC0.out);rintro e w' ⟨rfl,⟨nd,rfl⟩⟩;(try first|exact ⟨rfl,_,World.drewN_drewN _ _ _⟩|exact ⟨rfl,_,Eq.trans (World.drewN_drewN _ _ _) (congrArg (World.drewN _) (Nat.add_assoc _ _ _))⟩))|(go_at_call 45;(with_reducible refine (impl_within.calls a1 0 (wrap64 (t102 - 1)) false _ A7.out).mono ?_);rintro e w' ⟨rfl,⟨nd,rfl⟩⟩;(try first|exact ⟨rfl,_,World.drewN_drewN _ _ _⟩|exact ⟨rfl,_,Eq.trans (World.drewN_drewN _ _ _) (congrArg (World.drewN _) (Nat.add_assoc _ _ _))⟩))|(go_at_call 71;(with_reducible refine (impl_unless.calls false 2 t110 _ A16.out).mono ?_);rintro e w' ⟨rfl,⟨nd,rfl⟩⟩;(try first|exact ⟨rfl,_,World.drewN_drewN _ _ _⟩|exact ⟨rfl,_,Eq.trans (World.drewN_drewN _ _ _) (congrArg (World.drewN _) (Nat.add_assoc _ _ _))⟩))|(go_at_call 70;(with_reducible refine (impl_firstOf.calls k _ _ y111 t114 _ ?side1 ?side2 A17.out).mono ?_);(case side1=>exact zq44);(case side2=>exact (Kd.R_reads' HO113.out).2.1);rintro e w' ⟨rfl,⟨nd,rfl⟩⟩;(try first|exact ⟨rfl,_,World.drewN_drewN _ _ _⟩|exact ⟨rfl,_,Eq.trans (World.drewN_drewN _ _ _) (congrArg (World.drewN _) (Nat.add_assoc _ _ _))⟩)));try go_wp2_with (first|(go_at_call 64;(with_reducible refine (impl_setCode.calls _ _ l0 0 t101 _ ?side1 ?side2 A5.out).mono ?_);(case side1=>exact zq12);(case side2=>exact HC0.out);rintro e w18 ⟨rfl,hb⟩;have n0_:=am (below_step zq2 hb);clear HB;have HB:=n0_;clear n0_;(try clear hb);(try clear hb2);(try clear hk);(try clear hi))|(go_at_call 66;(with_reducible refine (impl_size_Flag.calls _ _ l0 t102 _ ?side1 ?side2 A6.out).mono ?_);(case side1=>exact zq12);(case side2=>exact HC0.out);rintro e w' ⟨rfl,⟨nd,rfl⟩⟩;(try first|exact ⟨rfl,_,World.drewN_drewN _ _ _⟩|exact ⟨rfl,_,Eq.trans (World.drewN_drewN _ _ _) (congrArg (World.drewN _) (Nat.add_assoc _ _ _))⟩))|(go_at_call 45;(with_reducible refine (impl_within.calls a1 0 (wrap64 (t102 - 1)) false _ A7.out).mono ?_);rintro e w' ⟨rfl,⟨nd,rfl⟩⟩;(try first|exact ⟨rfl,_,World.drewN_drewN _ _ _⟩|exact ⟨rfl,_,Eq.trans (World.drewN_drewN _ _ _) (congrArg (World.drewN _) (Nat.add_assoc _ _ _))⟩))|(go_at_call 71;(with_reducible refine (impl_unless.calls false 2 t110 _ A16.out).mono ?_);rintro e w' ⟨rfl,⟨nd,rfl⟩⟩;(try first|exact ⟨rfl,_,World.drewN_drewN _ _ _⟩|exact ⟨rfl,_,Eq.trans (World.drewN_drewN _ _ _) (congrArg (World.drewN _) (Nat.add_assoc _ _ _))⟩))|((with_reducible refine gate_dst (N:=24) rfl ?_);refine Kd.R_lit (Kd.int .i64) _ 2 ?hg (N:=24) ?hd (xs:=([t101,t110]:List Int)) (inner:=[.int .i64 t101,.int .i64 t110]) (ok:=fun _=>True) (okp:=fun _=>True) ?hr ?hp (fun _ hk=>hk) trivial (Below.refl _ _) (Nat.le_refl _) (by simp) ?_;(case hd=>rfl);(case hg=>rfl);(case hr=>exact zq15);(case hp=>exact (Reps.one (show Kd.M (Kd.int .i64) _ _ _ t101 [.int .i64 t101] from rfl) (Reps.one (show Kd.M (Kd.int .i64) _ _ _ t110 [.int .i64 t110] from rfl) (Reps.none _ _))));intro v112 w19 ho20 hb hg_ hnew_;clear hg_ hnew_;(first|rw [← Ny111.out] at ho20|(simp only [Int.reduceToNat] at ho20;rw [← Ny111.out] at ho20));have n0_:=am (Kd.R_lower ho20 (below_size zq2));have n1_:=am (below_step zq2 hb);clear HB;have HO113:=n0_;have HB:=n1_;clear n0_ n1_;clear hb ho20;obtain ⟨Ao21,co21,eo21⟩:=Kd.R_slice HO113.out;subst eo21)|(go_at_call 70;(with_reducible refine (impl_firstOf.calls k _ _ y111 t114 _ ?side1 ?side2 A17.out).mono ?_);(case side1=>exact zq44);(case side2=>exact (Kd.R_reads' HO113.out).2.1);rintro e w' ⟨rfl,⟨nd,rfl⟩⟩;(try first|exact ⟨rfl,_,World.drewN_drewN _ _ _⟩|exact ⟨rfl,_,Eq.trans (World.drewN_drewN _ _ _) (congrArg (World.drewN _) (Nat.add_assoc _ _ _))⟩))))
   go_meet
   case rel=>exact ⟨_,(t114),zq3,H',⟨by first|omega|exact Nat.le_refl _⟩,⟨by repeat (first|(with_reducible first|exact HB.out|apply below_alloc|apply pw_below_drewN|apply below_drew1)|exact HB.out)⟩⟩
 case rest =>
  clear HC4;(try clear p2);(try clear c3);(try clear p6);(try clear c8);obtain ⟨kq,x8_3,rfl,HA,HJ3,HB⟩:=hcut
  cases kq with
  | zero=>exact absurd HA.out (by simp [impl_ConfusedFlags.j0])
  | succ kj3 =>
   have H:=HA.out;clear HA;simp only [impl_ConfusedFlags.j0] at H
   by_cases c22:x8_3=0
   ·rw [if_pos c22] at H;have c22b0:(x8_3 == 0)=true:=beq_iff_eq.mpr c22;have c22b1:(x8_3 != 0)=false:=bne_eq_false_iff_eq.mpr c22;clear c22;obtain ⟨y115,hy115⟩:∃ y_:List Int,y_=(([]:List Int)):=⟨_,rfl⟩
    replace H:(impl_ConfusedFlags.l0 kj3 l0 a1 a2 y115 l0 (l0.length:Int) 0)=some (r1,r2):=by first|(rw [hy115];with_reducible exact H)|(have H2_:=(Option.bind_some _ _).symm.trans H;rw [hy115];with_reducible exact H2_)|(have H2_:=(Option.bind_some _ _).symm.trans H;with_reducible exact H2_)|with_reducible exact H|(rw [hy115];exact H)|exact H
    have Ny115:=am hy115;clear hy115;have H':=am H;clear H
    go_wp2_with (first|((with_reducible refine gate_dst (N:=29) rfl ?_);refine Kd.R_lit (Kd.int .i64) _ 2 ?hg (N:=29) ?hd (xs:=([]:List Int)) (inner:=[]) (ok:=fun _=>True) (okp:=fun _=>True) ?hr ?hp (fun _ hk=>hk) trivial (Below.refl _ _) (Nat.le_refl _) (by simp) ?_;(case hd=>rfl);(case hg=>rfl);(case hr=>exact zq15);(case hp=>exact (Reps.none _ _));intro v116 w23 ho24 hb hg_ hnew_;clear hg_ hnew_;(first|rw [← Ny115.out] at ho24|(simp only [Int.reduceToNat] at ho24;rw [← Ny115.out] at ho24));have n0_:=am (Kd.R_lower ho24 (below_size zq2));have n1_:=am (below_step zq2 hb);clear HB;have HO117:=n0_;have HB:=n1_;clear n0_ n1_;clear hb ho24))
    repeat (go_quiet (fail);try go_wp2_with (first|((with_reducible refine gate_dst (N:=29) rfl ?_);refine Kd.R_lit (Kd.int .i64) _ 2 ?hg (N:=29) ?hd (xs:=([]:List Int)) (inner:=[]) (ok:=fun _=>True) (okp:=fun _=>True) ?hr ?hp (fun _ hk=>hk) trivial (Below.refl _ _) (Nat.le_refl _) (by simp) ?_;(case hd=>rfl);(case hg=>rfl);(case hr=>exact zq15);(case hp=>exact (Reps.none _ _));intro v116 w23 ho24 hb hg_ hnew_;clear hg_ hnew_;(first|rw [← Ny115.out] at ho24|(simp only [Int.reduceToNat] at ho24;rw [← Ny115.out] at ho24));have n0_:=am (Kd.R_lower ho24 (below_size zq2));have n1_:=am (below_step zq2 hb);clear HB;have HO117:=n0_;have HB:=n1_;clear n0_ n1_;clear hb ho24)))
    go_loopg [9,32] kj3 (fun kq v9 v32 w'=>∃ (x9_2:List Int) (x32_2:Int),v32=.int .i64 x32_2∧Aside0 (impl_ConfusedFlags.l0 kq l0 a1 a2 x9_2 l0 (l0.length:Int) x32_2=some (r1,r2))∧Aside0 (kq≤kj3)∧Aside0 (Kd.R (Kd.int .i64) 2 w' w.heap.size (fun _=>True) v9 x9_2)∧Aside0 (Below w.heap.size w w'))
    case atStart=>exact ⟨(y115),(0),zq3,H',⟨Nat.le_refl _⟩,⟨by (with_reducible repeat (first|apply Kd.R_alloc|apply Kd.R_drewN|apply Kd.R_drew));exact HO117.out⟩,⟨by repeat (first|(with_reducible first|exact HB.out|apply below_alloc|apply pw_below_drewN|apply below_drew1)|exact HB.out)⟩⟩
    case round =>
     clear H';(try clear c2);(try clear p2);(try clear c3);(try clear p6);(try clear c8);(try clear c22);(try clear c22b0);(try clear c22b1);(try clear p2);(try clear p6);obtain ⟨x9_2,x32_2,rfl,HA,HK2,HO_9,HB⟩:=hrel
     cases gk with
     | zero=>exact absurd HA.out (by simp [impl_ConfusedFlags.l0])
     | succ k2 =>
      have H:=HA.out;clear HA;simp only [impl_ConfusedFlags.l0] at H
      by_cases c25:x32_2 < (l0.length:Int)
      ·rw [if_pos c25] at H;have c25b0:decide (x32_2 < (l0.length:Int))=true:=decide_eq_true c25;clear c25
       by_cases c26:0≤x32_2
       ·rw [if_pos c26] at H;have c26b0:decide (0≤x32_2)=true:=decide_eq_true c26;clear c26
        by_cases c27:x32_2 < (l0.length:Int)
        ·rw [if_pos c27] at H;have c27b0:decide (x32_2 < (l0.length:Int))=true:=decide_eq_true c27;clear c27
         by_cases c28:x32_2=a1
         ·rw [if_pos c28] at H;have c28b0:(x32_2 == a1)=true:=beq_iff_eq.mpr c28;have c28b1:(x32_2 != a1)=false:=bne_eq_false_iff_eq.mpr c28;clear c28;have H':=am H;clear H;have p118:0≤(x32_2:Int):=of_decide_eq_true zq9;have q118:x32_2 < (l0.length:Int):=of_decide_eq_true zq9;obtain ⟨ad118,e118,hrow_⟩:=row_T68 HR0.out x32_2 p118 q118;cases e118;have HYR:=am (show ∀ j v,(nums .u8 (arrL68 (rd_T68 l0 x32_2)))[j]?=some v→wr.cell? ((ad118.add ((x32_2).toNat * 24)).add j)=some v from row_below68 hrow_ HB.out);have HLY:=am (show (arrL68 (rd_T68 l0 x32_2)).length=24 from rfl);clear hrow_;generalize arrL68 (rd_T68 l0 x32_2)=ya at HYR HLY;replace p118:=eq_true p118;replace q118:=eq_true q118
          go_wp2_with (first|((with_reducible refine gate_load (t:=68) rfl ?_);refine load_any rfl rfl (ad:=ad118.add ((x32_2).toNat * 24)) rfl HYR.out Try.underlying68 rfl (by rw [nums_len,HLY.out];exact size68) ?_)|((with_reducible refine gate_dst (N:=11) rfl ?_);refine box_event ?hg (N:=11) ?hd (cs:=(nums .u8 (List.replicate 24 0)).toArray) (t:=68) ?hr ?_;(case hd=>rfl);(case hg=>rfl);(case hr=>exact zq15);intro b11 hg_ wt hb_ hB_;have HQ1:=am hB_;have G11:=am (show wr.heap.size≤b11 by rw [hg_];exact Nat.le_refl _);have BK1:=am (show IsBox .u8 68 wt b11 (List.replicate 24 0) from hb_);clear hb_ hB_ hg_)|((with_reducible refine gate_store (t:=68) (p:=11) rfl ?_);refine box_store (k:=.u8) (t:=68) (b:=b11) (xs:=(List.replicate 24 0)) (ys:=ya) rfl rfl rfl rfl rfl BK1.out (by rw [HLY.out,List.length_replicate]) (by rw [HLY.out];exact size68) ?_;intro w9 hw9;have BK:=am (show IsBox .u8 68 w9 b11 ya by rw [hw9];exact box_row BK1.out ya);have HQ0:=am (show Below wr.heap.size wr w9 by rw [hw9];exact Go.below_setRow HQ1.out G11.out _);clear hw9))
          have HQ:=am (below_drew1 HQ0.out);refine start_ (n:=13) (S:=fun w'=>True) (ds:=[]) #[false,false,false,false,false,false,false,false,false,false,false,false,false] zq16 rfl rfl trivial (fun hHeld=>?_);generalize w9.drew=wd at HQ ⊢;refine pure_ (i:=0) (N:=some 37) (v:=?_) (a':=?_) #[true,false,false,false,false,false,false,false,false,false,false,false,false] rfl rfl zq16 (fun _ _ _ h=>h) (Or.inl ⟨by rfl,?_⟩) ?_ ?_;rotate_left
          ·intro w';go_simp;with_reducible rfl
          rotate_left
          ·simp only [Act.put,List.setIfInBounds_toArray,List.set_cons_zero,List.set_cons_succ,i64_w,i32_w];rfl
          refine pure_ (i:=1) (N:=some 38) (v:=?_) (a':=?_) #[true,true,false,false,false,false,false,false,false,false,false,false,false] rfl rfl zq16 (fun _ _ _ h=>h) (Or.inl ⟨by rfl,?_⟩) ?_ ?_;rotate_left
          ·intro w';go_simp;with_reducible rfl
          rotate_left
          ·simp only [Act.put,List.setIfInBounds_toArray,List.set_cons_zero,List.set_cons_succ,i64_w,i32_w];rfl
          refine pure_ (i:=2) (N:=some 39) (v:=?_) (a':=?_) #[true,true,true,false,false,false,false,false,false,false,false,false,false] rfl rfl zq16 (fun _ _ _ h=>h) (Or.inl ⟨by rfl,?_⟩) ?_ ?_;rotate_left
          ·intro w';go_simp;with_reducible rfl
          rotate_left
          ·simp only [Act.put,List.setIfInBounds_toArray,List.set_cons_zero,List.set_cons_succ,i64_w,i32_w];rfl
          refine pure_ (i:=3) (N:=some 40) (v:=?_) (a':=?_) #[true,true,true,true,false,false,false,false,false,false,false,false,false] rfl rfl zq16 (fun _ _ _ h=>h) (Or.inl ⟨by rfl,?_⟩) ?_ ?_;rotate_left
          ·intro w';go_simp;with_reducible rfl
          rotate_left
          ·simp only [Act.put,List.setIfInBounds_toArray,List.set_cons_zero,List.set_cons_succ,i64_w,i32_w];rfl
          refine pure_ (i:=4) (N:=some 41) (v:=undef) (a':=?_) #[true,true,true,true,true,false,false,false,false,false,false,false,false] rfl rfl zq16 (fun _ _ _ h=>h) (Or.inr ⟨by rfl,rfl⟩) ?_ ?_;rotate_left
          ·simp only [Act.put,List.setIfInBounds_toArray,List.set_cons_zero,List.set_cons_succ,i64_w,i32_w];rfl
          refine pure_ (i:=5) (N:=some 42) (v:=undef) (a':=?_) #[true,true,true,true,true,true,false,false,false,false,false,false,false] rfl rfl zq16 (fun _ _ _ h=>h) (Or.inr ⟨by rfl,rfl⟩) ?_ ?_;rotate_left
          ·simp only [Act.put,List.setIfInBounds_toArray,List.set_cons_zero,List.set_cons_succ,i64_w,i32_w];rfl
          refine pure_ (i:=6) (N:=some 43) (v:=undef) (a':=?_) #[true,true,true,true,true,true,true,false,false,false,false,false,false] rfl rfl zq16 (fun _ _ _ h=>h) (Or.inr ⟨by rfl,rfl⟩) ?_ ?_;rotate_left
          ·simp only [Act.put,List.setIfInBounds_toArray,List.set_cons_zero,List.set_cons_succ,i64_w,i32_w];rfl
          refine pure_ (i:=7) (N:=some 44) (v:=undef) (a':=?_) #[true,true,true,true,true,true,true,true,false,false,false,false,false] rfl rfl zq16 (fun _ _ _ h=>h) (Or.inr ⟨by rfl,rfl⟩) ?_ ?_;rotate_left
          ·simp only [Act.put,List.setIfInBounds_toArray,List.set_cons_zero,List.set_cons_succ,i64_w,i32_w];rfl
          refine pure_ (i:=8) (N:=some 45) (v:=undef) (a':=?_) #[true,true,true,true,true,true,true,true,true,false,false,false,false] rfl rfl zq16 (fun _ _ _ h=>h) (Or.inr ⟨by rfl,rfl⟩) ?_ ?_;rotate_left
          ·simp only [Act.put,List.setIfInBounds_toArray,List.set_cons_zero,List.set_cons_succ,i64_w,i32_w];rfl
          refine pure_ (i:=9) (N:=some 46) (v:=undef) (a':=?_) #[true,true,true,true,true,true,true,true,true,true,false,false,false] rfl rfl zq16 (fun _ _ _ h=>h) (Or.inr ⟨by rfl,rfl⟩) ?_ ?_;rotate_left
          ·simp only [Act.put,List.setIfInBounds_toArray,List.set_cons_zero,List.set_cons_succ,i64_w,i32_w];rfl
          refine pure_ (i:=10) (N:=some 47) (v:=undef) (a':=?_) #[true,true,true,true,true,true,true,true,true,true,true,false,false] rfl rfl zq16 (fun _ _ _ h=>h) (Or.inr ⟨by rfl,rfl⟩) ?_ ?_;rotate_left
          ·simp only [Act.put,List.setIfInBounds_toArray,List.set_cons_zero,List.set_cons_succ,i64_w,i32_w];rfl
          refine pure_ (i:=11) (N:=some 48) (v:=undef) (a':=?_) #[true,true,true,true,true,true,true,true,true,true,true,true,false] rfl rfl zq16 (fun _ _ _ h=>h) (Or.inr ⟨by rfl,rfl⟩) ?_ ?_;rotate_left
          ·simp only [Act.put,List.setIfInBounds_toArray,List.set_cons_zero,List.set_cons_succ,i64_w,i32_w];rfl
          refine pure_ (i:=12) (N:=some 49) (v:=?_) (a':=?_) #[true,true,true,true,true,true,true,true,true,true,true,true,true] rfl rfl zq16 (fun _ _ _ h=>h) (Or.inl ⟨by rfl,?_⟩) ?_ ?_;rotate_left
          ·intro w';go_simp;with_reducible rfl
          rotate_left
          ·simp only [Act.put,List.setIfInBounds_toArray,List.set_cons_zero,List.set_cons_succ,i64_w,i32_w];rfl
          refine done_ zq16 ?_;have n0_:=am (below_step HB.out HQ.out);have n1_:=am (Kd.R_below HO_9.out HQ.out);clear HB HO_9;have HB:=n0_;have HO_9:=n1_;clear n0_ n1_
          go_wp2
          go_roundg k2
          case measure=>have:=HJ3.out;have:=HK2.out;omega
          case rel=>exact ⟨(x9_2),(wrap64 (x32_2 + 1)),zq3,H',⟨by have:=HJ3.out;have:=HK2.out;omega⟩,⟨by (with_reducible repeat (first|apply Kd.R_alloc|apply Kd.R_drewN|apply Kd.R_drew));exact HO_9.out⟩,⟨by repeat (first|(with_reducible first|exact HB.out|apply below_alloc|apply pw_below_drewN|apply below_drew1)|exact HB.out)⟩⟩
         ·rw [if_neg c28] at H;have c28b0:(x32_2 == a1)=false:=beq_eq_false_iff_ne.mpr c28;have c28b1:(x32_2 != a1)=true:=bne_iff_ne.mpr c28
          by_cases c31:0≤a1
          ·rw [if_pos c31] at H;have c31b0:decide (0≤a1)=true:=decide_eq_true c31;clear c31
           by_cases c32:a1 < (l0.length:Int)
           ·rw [if_pos c32] at H;have c32b0:decide (a1 < (l0.length:Int))=true:=decide_eq_true c32;clear c32;replace H:=Option.bind_eq_some_iff.mp H;obtain ⟨t121,A330,H⟩:=H;replace H:(if t121≤a2 then (if x9_2.length < 17592186044416 then (impl_ConfusedFlags.l0 k2 l0 a1 a2 (x9_2 ++ [x32_2]) l0 (l0.length:Int) (wrap64 (x32_2 + 1))) else (none)) else (impl_ConfusedFlags.l0 k2 l0 a1 a2 x9_2 l0 (l0.length:Int) (wrap64 (x32_2 + 1))))=some (r1,r2):=H;have A33:=am A330;clear A330
            by_cases c34:t121≤a2
            ·rw [if_pos c34] at H;have c34b0:decide (t121≤a2)=true:=decide_eq_true c34;clear c34
             by_cases c35:x9_2.length < 17592186044416
             ·rw [if_pos c35] at H;have LMc35:=am c35;clear c35;obtain ⟨y122,hy122⟩:∃ y_:List Int,y_=(x9_2 ++ [x32_2]):=⟨_,rfl⟩
              replace H:(impl_ConfusedFlags.l0 k2 l0 a1 a2 y122 l0 (l0.length:Int) (wrap64 (x32_2 + 1)))=some (r1,r2):=by first|(rw [hy122];with_reducible exact H)|(have H2_:=(Option.bind_some _ _).symm.trans H;rw [hy122];with_reducible exact H2_)|(have H2_:=(Option.bind_some _ _).symm.trans H;with_reducible exact H2_)|with_reducible exact H|(rw [hy122];exact H)|exact H
              have Ny122:=am hy122;clear hy122;have H':=am H;clear H;have p118:0≤(x32_2:Int):=of_decide_eq_true zq9;have q118:x32_2 < (l0.length:Int):=of_decide_eq_true zq9;obtain ⟨ad118,e118,hrow_⟩:=row_T68 HR0.out x32_2 p118 q118;cases e118;have p119:0≤(a1:Int):=of_decide_eq_true (by assumption);have q119:a1 < (l0.length:Int):=of_decide_eq_true (by assumption);obtain ⟨ad119,e119,hrow2_⟩:=row_T68 HR0.out a1 p119 q119;cases e119;have HYR:=am (show ∀ j v,(nums .u8 (arrL68 (rd_T68 l0 x32_2)))[j]?=some v→wr.cell? ((ad118.add ((x32_2).toNat * 24)).add j)=some v from row_below68 hrow_ HB.out);have HLY:=am (show (arrL68 (rd_T68 l0 x32_2)).length=24 from rfl);have HXR:=am (show ∀ j v,(nums .u8 (arrL68 (rd_T68 l0 a1)))[j]?=some v→wr.cell? ((ad118.add ((a1).toNat * 24)).add j)=some v from row_below68 hrow2_ HB.out);have HLX:=am (show (arrL68 (rd_T68 l0 a1)).length=24 from rfl);have HCALL:Aside0 (∀ W:World,Calls Try.prog 72 #[.agg (nums .u8 (arrL68 (rd_T68 l0 a1))).toArray,.agg (nums .u8 (arrL68 (rd_T68 l0 x32_2))).toArray] W fun e w2=>e=.returned (.int .i64 t121)∧Below W.heap.size W w2):=⟨fun W=>impl_afar.calls _ _ _ _ _ _ _ _ _ _ _ _ _ _ _ _ _ _ _ _ _ _ _ _ _ _ _ _ _ _ _ _ _ _ _ _ _ _ _ _ _ _ _ _ _ _ _ _ _ _ W A33.out⟩;clear hrow2_ A33;generalize arrL68 (rd_T68 l0 a1)=xa at HXR HLX HCALL;clear hrow_;generalize arrL68 (rd_T68 l0 x32_2)=ya at HYR HLY HCALL;replace p119:=eq_true p119;replace q119:=eq_true q119;replace p118:=eq_true p118;replace q118:=eq_true q118
              go_wp2_with (first|((with_reducible refine gate_load (t:=68) rfl ?_);refine load_any rfl rfl (ad:=ad118.add ((x32_2).toNat * 24)) rfl HYR.out Try.underlying68 rfl (by rw [nums_len,HLY.out];exact size68) ?_)|((with_reducible refine gate_dst (N:=11) rfl ?_);refine box_event ?hg (N:=11) ?hd (cs:=(nums .u8 (List.replicate 24 0)).toArray) (t:=68) ?hr ?_;(case hd=>rfl);(case hg=>rfl);(case hr=>exact zq15);intro b11 hg_ wt hb_ hB_;have HQ1:=am hB_;have G11:=am (show wr.heap.size≤b11 by rw [hg_];exact Nat.le_refl _);have BK1:=am (show IsBox .u8 68 wt b11 (List.replicate 24 0) from hb_);clear hb_ hB_ hg_)|((with_reducible refine gate_store (t:=68) (p:=11) rfl ?_);refine box_store (k:=.u8) (t:=68) (b:=b11) (xs:=(List.replicate 24 0)) (ys:=ya) rfl rfl rfl rfl rfl BK1.out (by rw [HLY.out,List.length_replicate]) (by rw [HLY.out];exact size68) ?_;intro w9 hw9;have BK:=am (show IsBox .u8 68 w9 b11 ya by rw [hw9];exact box_row BK1.out ya);have HQ0:=am (show Below wr.heap.size wr w9 by rw [hw9];exact Go.below_setRow HQ1.out G11.out _);clear hw9))
              have HQ:=am (below_drew1 HQ0.out);have HXA:=am (show ∀ j v,(nums .u8 xa)[j]?=some v→w9.drew.cell? ((ad118.add ((a1).toNat * 24)).add j)=some v from fun j v hv=>(HQ.out.cell (World.block_lt_of_cell? _ _ (HXR.out j v hv))).trans (HXR.out j v hv));have HYA:=am (show ∀ j v,(nums .u8 ya)[j]?=some v→w9.drew.cell? ((⟨b11,0,none⟩:Addr).add j)=some v from fun j v hv=>by rw [add_plain];exact (blk_cell (box_below BK.out (below_drew1 (Below.refl _ _))) j).trans (by simpa using hv));refine start_ (n:=13) (S:=fun w'=>(∀ j v,(nums .u8 xa)[j]?=some v→w'.cell? ((ad118.add ((a1).toNat * 24)).add j)=some v)∧(∀ j v,(nums .u8 ya)[j]?=some v→w'.cell? ((⟨b11,0,none⟩:Addr).add j)=some v)) (ds:=[]) #[false,false,false,false,false,false,false,false,false,false,false,false,false] zq16 rfl rfl ⟨HXA.out,HYA.out⟩ (fun hHeld=>?_);generalize w9.drew=wd at HQ hHeld ⊢;refine pure_ (i:=0) (N:=some 37) (v:=?_) (a':=?_) #[true,false,false,false,false,false,false,false,false,false,false,false,false] rfl rfl zq16 (fun _ _ _ h=>h) (Or.inl ⟨by rfl,?_⟩) ?_ ?_;rotate_left
              ·intro w';go_simp;with_reducible rfl
              rotate_left
              ·simp only [Act.put,List.setIfInBounds_toArray,List.set_cons_zero,List.set_cons_succ,i64_w,i32_w];rfl
              refine pure_ (i:=1) (N:=some 38) (v:=?_) (a':=?_) #[true,true,false,false,false,false,false,false,false,false,false,false,false] rfl rfl zq16 (fun _ _ _ h=>h) (Or.inl ⟨by rfl,?_⟩) ?_ ?_;rotate_left
              ·intro w';go_simp;with_reducible rfl
              rotate_left
              ·simp only [Act.put,List.setIfInBounds_toArray,List.set_cons_zero,List.set_cons_succ,i64_w,i32_w];rfl
              refine pure_ (i:=2) (N:=some 39) (v:=?_) (a':=?_) #[true,true,true,false,false,false,false,false,false,false,false,false,false] rfl rfl zq16 (fun _ _ _ h=>h) (Or.inl ⟨by rfl,?_⟩) ?_ ?_;rotate_left
              ·intro w';go_simp;with_reducible rfl
              rotate_left
              ·simp only [Act.put,List.setIfInBounds_toArray,List.set_cons_zero,List.set_cons_succ,i64_w,i32_w];rfl
              refine pure_ (i:=3) (N:=some 40) (v:=?_) (a':=?_) #[true,true,true,true,false,false,false,false,false,false,false,false,false] rfl rfl zq16 (fun _ _ _ h=>h) (Or.inl ⟨by rfl,?_⟩) ?_ ?_;rotate_left
              ·intro w';go_simp;with_reducible rfl
              rotate_left
              ·simp only [Act.put,List.setIfInBounds_toArray,List.set_cons_zero,List.set_cons_succ,i64_w,i32_w];rfl
              refine pure_ (i:=4) (N:=some 41) (v:=?_) (a':=?_) #[true,true,true,true,true,false,false,false,false,false,false,false,false] rfl rfl zq16 (fun _ _ _ h=>h) (Or.inl ⟨by rfl,?_⟩) ?_ ?_;rotate_left
              ·intro w';go_simp;with_reducible rfl
              rotate_left
              ·simp only [Act.put,List.setIfInBounds_toArray,List.set_cons_zero,List.set_cons_succ,i64_w,i32_w];rfl
              refine pure_ (i:=5) (N:=some 42) (v:=?_) (a':=?_) #[true,true,true,true,true,true,false,false,false,false,false,false,false] rfl rfl zq16 (fun _ _ _ h=>h) (Or.inl ⟨by rfl,?_⟩) ?_ ?_;rotate_left
              ·intro w';go_simp;with_reducible rfl
              rotate_left
              ·simp only [Act.put,List.setIfInBounds_toArray,List.set_cons_zero,List.set_cons_succ,i64_w,i32_w];rfl
              refine pure_ (i:=6) (N:=some 43) (v:=?_) (a':=?_) #[true,true,true,true,true,true,true,false,false,false,false,false,false] rfl rfl zq16 (fun _ _ _ h=>h) (Or.inl ⟨by rfl,?_⟩) ?_ ?_;rotate_left
              ·intro w';go_simp;with_reducible rfl
              rotate_left
              ·simp only [Act.put,List.setIfInBounds_toArray,List.set_cons_zero,List.set_cons_succ,i64_w,i32_w];rfl
              refine pure_ (i:=10) (N:=some 47) (v:=?_) (a':=?_) #[true,true,true,true,true,true,true,false,false,false,true,false,false] rfl rfl zq16 (fun _ _ _ h=>h) (Or.inl ⟨by rfl,?_⟩) ?_ ?_;rotate_left
              ·intro w';go_simp;with_reducible rfl
              rotate_left
              ·simp only [Act.put,List.setIfInBounds_toArray,List.set_cons_zero,List.set_cons_succ,i64_w,i32_w];rfl
              refine take_ (i:=7) (N:=some 44) (v:=?_) (a':=?_) #[true,true,true,true,true,true,true,true,false,false,true,false,false] rfl rfl zq16 (fun _ _ _ h=>h) (Or.inl ⟨by rfl,?_⟩) hHeld ?_ ?_;rotate_left
              ·rintro w' ⟨s0,s1⟩
               (refine exec_load_any (p:=.tmp 43) ?_ ?_ s0 Try.underlying68 rfl ?_;(rfl);(rfl);(rw [nums_len,HLX.out];exact size68))
              rotate_left
              ·simp only [Act.put,List.setIfInBounds_toArray,List.set_cons_zero,List.set_cons_succ,i64_w,i32_w];rfl
              refine take_ (i:=8) (N:=some 45) (v:=?_) (a':=?_) #[true,true,true,true,true,true,true,true,true,false,true,false,false] rfl rfl zq16 (fun _ _ _ h=>h) (Or.inl ⟨by rfl,?_⟩) hHeld ?_ ?_;rotate_left
              ·rintro w' ⟨s0,s1⟩
               (refine exec_load_any (p:=.tmp 11) ?_ ?_ s1 Try.underlying68 rfl ?_;(rfl);(rfl);(rw [nums_len,HLY.out];exact size68))
              rotate_left
              ·simp only [Act.put,List.setIfInBounds_toArray,List.set_cons_zero,List.set_cons_succ,i64_w,i32_w];rfl
              refine one_ (i:=9) (N:=some 46) #[true,true,true,true,true,true,true,true,true,true,true,false,false] rfl rfl zq16 (by decide) (fun K hK=>?_);refine goes_ Try.func72 zq16 rfl #[.agg (nums .u8 xa).toArray,.agg (nums .u8 ya).toArray] (by rfl) rfl rfl zq82 ?_;refine (HCALL.out _).mono ?_
              rintro e w3 ⟨rfl,hb⟩
              refine ⟨_,rfl,?_⟩;have n0_:=am (below_step HQ.out hb);clear HQ;have HQ:=n0_;clear n0_;refine hK.out _ _ ⟨(fun j v hv=>(hb.cell (World.block_lt_of_cell? _ _ (hHeld.1 j v hv))).trans (hHeld.1 j v hv)),(fun j v hv=>(hb.cell (World.block_lt_of_cell? _ _ (hHeld.2 j v hv))).trans (hHeld.2 j v hv))⟩ (fun hHeld=>?_);clear hK K;refine norm_ (a':=?_) ?_ ?_;rotate_left
              ·show Act.put _ (some 46) _=_
               simp only [Act.put,List.setIfInBounds_toArray,List.set_cons_zero,List.set_cons_succ,i64_w,i32_w];rfl
              refine pure_ (i:=11) (N:=some 48) (v:=?_) (a':=?_) #[true,true,true,true,true,true,true,true,true,true,true,true,false] rfl rfl zq16 (fun _ _ _ h=>h) (Or.inl ⟨by rfl,?_⟩) ?_ ?_;rotate_left
              ·intro w';go_simp;with_reducible rfl
              rotate_left
              ·simp only [Act.put,List.setIfInBounds_toArray,List.set_cons_zero,List.set_cons_succ,i64_w,i32_w];rfl
              refine pure_ (i:=12) (N:=some 49) (v:=?_) (a':=?_) #[true,true,true,true,true,true,true,true,true,true,true,true,true] rfl rfl zq16 (fun _ _ _ h=>h) (Or.inl ⟨by rfl,?_⟩) ?_ ?_;rotate_left
              ·intro w';go_simp;with_reducible rfl
              rotate_left
              ·simp only [Act.put,List.setIfInBounds_toArray,List.set_cons_zero,List.set_cons_succ,i64_w,i32_w];rfl
              refine done_ zq16 ?_;have n0_:=am (below_step HB.out HQ.out);have n1_:=am (Kd.R_below HO_9.out HQ.out);clear HB HO_9;have HB:=n0_;have HO_9:=n1_;clear n0_ n1_
              go_wp2_with (first|((with_reducible refine gate_builtin (b:=.append) (xs:=#[.tmp 50,.tmp 52]) rfl ?_);at_builtin;refine Kd.R_append (Kd.int .i64) (w0:=w) w.heap.size rfl (.tmp 50) (.tmp 52) 49 2 (.int .i64 0) 8 rfl Try.underlying49 info2 rfl (by decide) (by omega) u9 x9_2 x32_2 [.int .i64 x32_2] (fun _=>True) (fun _=>False) rfl rfl ?aP (fun _ hk=>hk.elim) ?aF ?aO ?aB ?aS ?aL ?_;(case aP=>exact rfl);(case aB=>exact zq2);(case aF=>exact (fun _ _=>trivial));(case aO=>exact (by (with_reducible repeat (first|apply Kd.R_alloc|apply Kd.R_drewN|apply Kd.R_drew));exact HO_9.out));(case aS=>exact (below_size zq2));(case aL=>have:=LMc35.out;omega);intro v123 w39 ho hb hg hat;rw [← Ny122.out] at ho;have n1_:=am (hb);have n2_:=am (ho);clear HB;clear HO_9;have HB:=n1_;have HO124:=n2_;clear n1_ n2_;clear ho hb hg hat))
              go_roundg k2
              case measure=>have:=HJ3.out;have:=HK2.out;omega
              case rel=>exact ⟨(y122),(wrap64 (x32_2 + 1)),zq3,H',⟨by have:=HJ3.out;have:=HK2.out;omega⟩,⟨by (with_reducible repeat (first|apply Kd.R_alloc|apply Kd.R_drewN|apply Kd.R_drew));exact HO124.out⟩,⟨by repeat (first|(with_reducible first|exact HB.out|apply below_alloc|apply pw_below_drewN|apply below_drew1)|exact HB.out)⟩⟩
             ·rw [if_neg c35] at H;exact absurd H (by simp)
            ·rw [if_neg c34] at H;have c34b0:decide (t121≤a2)=false:=decide_eq_false c34;clear c34;have H':=am H;clear H;have p118:0≤(x32_2:Int):=of_decide_eq_true zq9;have q118:x32_2 < (l0.length:Int):=of_decide_eq_true zq9;obtain ⟨ad118,e118,hrow_⟩:=row_T68 HR0.out x32_2 p118 q118;cases e118;have p119:0≤(a1:Int):=of_decide_eq_true (by assumption);have q119:a1 < (l0.length:Int):=of_decide_eq_true (by assumption);obtain ⟨ad119,e119,hrow2_⟩:=row_T68 HR0.out a1 p119 q119;cases e119;have HYR:=am (show ∀ j v,(nums .u8 (arrL68 (rd_T68 l0 x32_2)))[j]?=some v→wr.cell? ((ad118.add ((x32_2).toNat * 24)).add j)=some v from row_below68 hrow_ HB.out);have HLY:=am (show (arrL68 (rd_T68 l0 x32_2)).length=24 from rfl);have HXR:=am (show ∀ j v,(nums .u8 (arrL68 (rd_T68 l0 a1)))[j]?=some v→wr.cell? ((ad118.add ((a1).toNat * 24)).add j)=some v from row_below68 hrow2_ HB.out);have HLX:=am (show (arrL68 (rd_T68 l0 a1)).length=24 from rfl);have HCALL:Aside0 (∀ W:World,Calls Try.prog 72 #[.agg (nums .u8 (arrL68 (rd_T68 l0 a1))).toArray,.agg (nums .u8 (arrL68 (rd_T68 l0 x32_2))).toArray] W fun e w2=>e=.returned (.int .i64 t121)∧Below W.heap.size W w2):=⟨fun W=>impl_afar.calls _ _ _ _ _ _ _ _ _ _ _ _ _ _ _ _ _ _ _ _ _ _ _ _ _ _ _ _ _ _ _ _ _ _ _ _ _ _ _ _ _ _ _ _ _ _ _ _ _ _ W A33.out⟩;clear hrow2_ A33;generalize arrL68 (rd_T68 l0 a1)=xa at HXR HLX HCALL;clear hrow_;generalize arrL68 (rd_T68 l0 x32_2)=ya at HYR HLY HCALL;replace p119:=eq_true p119;replace q119:=eq_true q119;replace p118:=eq_true p118;replace q118:=eq_true q118
             go_wp2_with (first|((with_reducible refine gate_load (t:=68) rfl ?_);refine load_any rfl rfl (ad:=ad118.add ((x32_2).toNat * 24)) rfl HYR.out Try.underlying68 rfl (by rw [nums_len,HLY.out];exact size68) ?_)|((with_reducible refine gate_dst (N:=11) rfl ?_);refine box_event ?hg (N:=11) ?hd (cs:=(nums .u8 (List.replicate 24 0)).toArray) (t:=68) ?hr ?_;(case hd=>rfl);(case hg=>rfl);(case hr=>exact zq15);intro b11 hg_ wt hb_ hB_;have HQ1:=am hB_;have G11:=am (show wr.heap.size≤b11 by rw [hg_];exact Nat.le_refl _);have BK1:=am (show IsBox .u8 68 wt b11 (List.replicate 24 0) from hb_);clear hb_ hB_ hg_)|((with_reducible refine gate_store (t:=68) (p:=11) rfl ?_);refine box_store (k:=.u8) (t:=68) (b:=b11) (xs:=(List.replicate 24 0)) (ys:=ya) rfl rfl rfl rfl rfl BK1.out (by rw [HLY.out,List.length_replicate]) (by rw [HLY.out];exact size68) ?_;intro w9 hw9;have BK:=am (show IsBox .u8 68 w9 b11 ya by rw [hw9];exact box_row BK1.out ya);have HQ0:=am (show Below wr.heap.size wr w9 by rw [hw9];exact Go.below_setRow HQ1.out G11.out _);clear hw9))
             have HQ:=am (below_drew1 HQ0.out);have HXA:=am (show ∀ j v,(nums .u8 xa)[j]?=some v→w9.drew.cell? ((ad118.add ((a1).toNat * 24)).add j)=some v from fun j v hv=>(HQ.out.cell (World.block_lt_of_cell? _ _ (HXR.out j v hv))).trans (HXR.out j v hv));have HYA:=am (show ∀ j v,(nums .u8 ya)[j]?=some v→w9.drew.cell? ((⟨b11,0,none⟩:Addr).add j)=some v from fun j v hv=>by rw [add_plain];exact (blk_cell (box_below BK.out (below_drew1 (Below.refl _ _))) j).trans (by simpa using hv));refine start_ (n:=13) (S:=fun w'=>(∀ j v,(nums .u8 xa)[j]?=some v→w'.cell? ((ad118.add ((a1).toNat * 24)).add j)=some v)∧(∀ j v,(nums .u8 ya)[j]?=some v→w'.cell? ((⟨b11,0,none⟩:Addr).add j)=some v)) (ds:=[]) #[false,false,false,false,false,false,false,false,false,false,false,false,false] zq16 rfl rfl ⟨HXA.out,HYA.out⟩ (fun hHeld=>?_);generalize w9.drew=wd at HQ hHeld ⊢;refine pure_ (i:=0) (N:=some 37) (v:=?_) (a':=?_) #[true,false,false,false,false,false,false,false,false,false,false,false,false] rfl rfl zq16 (fun _ _ _ h=>h) (Or.inl ⟨by rfl,?_⟩) ?_ ?_;rotate_left
             ·intro w';go_simp;with_reducible rfl
             rotate_left
             ·simp only [Act.put,List.setIfInBounds_toArray,List.set_cons_zero,List.set_cons_succ,i64_w,i32_w];rfl
             refine pure_ (i:=1) (N:=some 38) (v:=?_) (a':=?_) #[true,true,false,false,false,false,false,false,false,false,false,false,false] rfl rfl zq16 (fun _ _ _ h=>h) (Or.inl ⟨by rfl,?_⟩) ?_ ?_;rotate_left
             ·intro w';go_simp;with_reducible rfl
             rotate_left
             ·simp only [Act.put,List.setIfInBounds_toArray,List.set_cons_zero,List.set_cons_succ,i64_w,i32_w];rfl
             refine pure_ (i:=2) (N:=some 39) (v:=?_) (a':=?_) #[true,true,true,false,false,false,false,false,false,false,false,false,false] rfl rfl zq16 (fun _ _ _ h=>h) (Or.inl ⟨by rfl,?_⟩) ?_ ?_;rotate_left
             ·intro w';go_simp;with_reducible rfl
             rotate_left
             ·simp only [Act.put,List.setIfInBounds_toArray,List.set_cons_zero,List.set_cons_succ,i64_w,i32_w];rfl
             refine pure_ (i:=3) (N:=some 40) (v:=?_) (a':=?_) #[true,true,true,true,false,false,false,false,false,false,false,false,false] rfl rfl zq16 (fun _ _ _ h=>h) (Or.inl ⟨by rfl,?_⟩) ?_ ?_;rotate_left
             ·intro w';go_simp;with_reducible rfl
             rotate_left
             ·simp only [Act.put,List.setIfInBounds_toArray,List.set_cons_zero,List.set_cons_succ,i64_w,i32_w];rfl
             refine pure_ (i:=4) (N:=some 41) (v:=?_) (a':=?_) #[true,true,true,true,true,false,false,false,false,false,false,false,false] rfl rfl zq16 (fun _ _ _ h=>h) (Or.inl ⟨by rfl,?_⟩) ?_ ?_;rotate_left
             ·intro w';go_simp;with_reducible rfl
             rotate_left
             ·simp only [Act.put,List.setIfInBounds_toArray,List.set_cons_zero,List.set_cons_succ,i64_w,i32_w];rfl
             refine pure_ (i:=5) (N:=some 42) (v:=?_) (a':=?_) #[true,true,true,true,true,true,false,false,false,false,false,false,false] rfl rfl zq16 (fun _ _ _ h=>h) (Or.inl ⟨by rfl,?_⟩) ?_ ?_;rotate_left
             ·intro w';go_simp;with_reducible rfl
             rotate_left
             ·simp only [Act.put,List.setIfInBounds_toArray,List.set_cons_zero,List.set_cons_succ,i64_w,i32_w];rfl
             refine pure_ (i:=6) (N:=some 43) (v:=?_) (a':=?_) #[true,true,true,true,true,true,true,false,false,false,false,false,false] rfl rfl zq16 (fun _ _ _ h=>h) (Or.inl ⟨by rfl,?_⟩) ?_ ?_;rotate_left
             ·intro w';go_simp;with_reducible rfl
             rotate_left
             ·simp only [Act.put,List.setIfInBounds_toArray,List.set_cons_zero,List.set_cons_succ,i64_w,i32_w];rfl
             refine pure_ (i:=10) (N:=some 47) (v:=?_) (a':=?_) #[true,true,true,true,true,true,true,false,false,false,true,false,false] rfl rfl zq16 (fun _ _ _ h=>h) (Or.inl ⟨by rfl,?_⟩) ?_ ?_;rotate_left
             ·intro w';go_simp;with_reducible rfl
             rotate_left
             ·simp only [Act.put,List.setIfInBounds_toArray,List.set_cons_zero,List.set_cons_succ,i64_w,i32_w];rfl
             refine take_ (i:=7) (N:=some 44) (v:=?_) (a':=?_) #[true,true,true,true,true,true,true,true,false,false,true,false,false] rfl rfl zq16 (fun _ _ _ h=>h) (Or.inl ⟨by rfl,?_⟩) hHeld ?_ ?_;rotate_left
             ·rintro w' ⟨s0,s1⟩
              (refine exec_load_any (p:=.tmp 43) ?_ ?_ s0 Try.underlying68 rfl ?_;(rfl);(rfl);(rw [nums_len,HLX.out];exact size68))
             rotate_left
             ·simp only [Act.put,List.setIfInBounds_toArray,List.set_cons_zero,List.set_cons_succ,i64_w,i32_w];rfl
             refine take_ (i:=8) (N:=some 45) (v:=?_) (a':=?_) #[true,true,true,true,true,true,true,true,true,false,true,false,false] rfl rfl zq16 (fun _ _ _ h=>h) (Or.inl ⟨by rfl,?_⟩) hHeld ?_ ?_;rotate_left
             ·rintro w' ⟨s0,s1⟩
              (refine exec_load_any (p:=.tmp 11) ?_ ?_ s1 Try.underlying68 rfl ?_;(rfl);(rfl);(rw [nums_len,HLY.out];exact size68))
             rotate_left
             ·simp only [Act.put,List.setIfInBounds_toArray,List.set_cons_zero,List.set_cons_succ,i64_w,i32_w];rfl
             refine one_ (i:=9) (N:=some 46) #[true,true,true,true,true,true,true,true,true,true,true,false,false] rfl rfl zq16 (by decide) (fun K hK=>?_);refine goes_ Try.func72 zq16 rfl #[.agg (nums .u8 xa).toArray,.agg (nums .u8 ya).toArray] (by rfl) rfl rfl zq82 ?_;refine (HCALL.out _).mono ?_
             rintro e w3 ⟨rfl,hb⟩
             refine ⟨_,rfl,?_⟩;have n0_:=am (below_step HQ.out hb);clear HQ;have HQ:=n0_;clear n0_;refine hK.out _ _ ⟨(fun j v hv=>(hb.cell (World.block_lt_of_cell? _ _ (hHeld.1 j v hv))).trans (hHeld.1 j v hv)),(fun j v hv=>(hb.cell (World.block_lt_of_cell? _ _ (hHeld.2 j v hv))).trans (hHeld.2 j v hv))⟩ (fun hHeld=>?_);clear hK K;refine norm_ (a':=?_) ?_ ?_;rotate_left
             ·show Act.put _ (some 46) _=_
              simp only [Act.put,List.setIfInBounds_toArray,List.set_cons_zero,List.set_cons_succ,i64_w,i32_w];rfl
             refine pure_ (i:=11) (N:=some 48) (v:=?_) (a':=?_) #[true,true,true,true,true,true,true,true,true,true,true,true,false] rfl rfl zq16 (fun _ _ _ h=>h) (Or.inl ⟨by rfl,?_⟩) ?_ ?_;rotate_left
             ·intro w';go_simp;with_reducible rfl
             rotate_left
             ·simp only [Act.put,List.setIfInBounds_toArray,List.set_cons_zero,List.set_cons_succ,i64_w,i32_w];rfl
             refine pure_ (i:=12) (N:=some 49) (v:=?_) (a':=?_) #[true,true,true,true,true,true,true,true,true,true,true,true,true] rfl rfl zq16 (fun _ _ _ h=>h) (Or.inl ⟨by rfl,?_⟩) ?_ ?_;rotate_left
             ·intro w';go_simp;with_reducible rfl
             rotate_left
             ·simp only [Act.put,List.setIfInBounds_toArray,List.set_cons_zero,List.set_cons_succ,i64_w,i32_w];rfl
             refine done_ zq16 ?_;have n0_:=am (below_step HB.out HQ.out);have n1_:=am (Kd.R_below HO_9.out HQ.out);clear HB HO_9;have HB:=n0_;have HO_9:=n1_;clear n0_ n1_
             go_wp2
             go_roundg k2
             case measure=>have:=HJ3.out;have:=HK2.out;omega
             case rel=>exact ⟨(x9_2),(wrap64 (x32_2 + 1)),zq3,H',⟨by have:=HJ3.out;have:=HK2.out;omega⟩,⟨by (with_reducible repeat (first|apply Kd.R_alloc|apply Kd.R_drewN|apply Kd.R_drew));exact HO_9.out⟩,⟨by repeat (first|(with_reducible first|exact HB.out|apply below_alloc|apply pw_below_drewN|apply below_drew1)|exact HB.out)⟩⟩
           ·rw [if_neg c32] at H;exact absurd H (by simp)
          ·rw [if_neg c31] at H;exact absurd H (by simp)
        ·rw [if_neg c27] at H;exact absurd H (by simp)
       ·rw [if_neg c26] at H;exact absurd H (by simp)
      ·rw [if_neg c25] at H;have c25b0:decide (x32_2 < (l0.length:Int))=false:=decide_eq_false c25;clear c25;simp only [Option.some.injEq,Prod.mk.injEq] at H;obtain ⟨rfl,rfl⟩:=H
       go_wp2
       repeat (go_quiet (fail);try go_wp2)
       go_ret2
       exact ⟨_,by first|rfl|(simp [errW_none,errW_some,IntKind.wrap_i64,wrap64];done)|(simp [errW_none,errW_some] <;> rfl)|(simp [*,errW_none,errW_some] <;> rfl),by (with_reducible repeat (first|apply Kd.R_alloc|apply Kd.R_drewN|apply Kd.R_drew));exact HO_9.out,by repeat (first|(with_reducible first|exact HB.out|apply below_alloc|apply pw_below_drewN|apply below_drew1)|exact HB.out)⟩
   ·rw [if_neg c22] at H;have c22b0:(x8_3 == 0)=false:=beq_eq_false_iff_ne.mpr c22;have c22b1:(x8_3 != 0)=true:=bne_iff_ne.mpr c22;simp only [Option.some.injEq,Prod.mk.injEq] at H;obtain ⟨rfl,rfl⟩:=H
    go_wp2
    repeat (go_quiet (fail);try go_wp2)
    go_ret2
    exact ⟨_,by first|rfl|(simp [errW_none,errW_some,IntKind.wrap_i64,wrap64];done)|(simp [errW_none,errW_some] <;> rfl)|(simp [*,errW_none,errW_some] <;> rfl),by first|exact Kd.R_nil _ _ _ _ _|exact Kd.N_nil _ _ _ _ _|exact Kd.V_nil _ _ _ _ _|exact Kd.Q_nil _ _ _ _ _|exact Kd.S_nil _ _ _ _ _,by repeat (first|(with_reducible first|exact HB.out|apply below_alloc|apply pw_below_drewN|apply below_drew1)|exact HB.out)⟩
end Go.Proofs.Ytgfknljhogfeaaa.G
end

section
namespace Go.Proofs.Ytgfknljhogfeaaa.G
open Go.RowKit Go.Proofs.YtgfknljhogfeaaaW.PrintWords Go.Proofs.YtgfknljhogfeaaaW.PrintLast Go.Proofs.YtgfknljhogfeaaaW.PrintMore
attribute [local go_sem] max2_int min2_int max_two min_two max_three min_three max_four min_four
set_option linter.unusedVariables false
set_option linter.unusedSimpArgs false
def impl_NearestWords_1.f (a0:Int) (a1:Int) (l2:List (List (S61))):Option (Int):=if 0≤a0 then (if a0 < (l2.length:Int) then (if 0≤a1 then (if a1 < (l2.length:Int) then ((impl_sightsApart.f (rd_L10 l2 a0) (rd_L10 l2 a1)).bind fun t103=>(some t103)) else (none)) else (none)) else (none)) else (none)
set_option maxHeartbeats 8000000 in
set_option maxRecDepth 100000 in
theorem impl_NearestWords_1.calls (a0:Int) (a1:Int) (A2:Option Addr) (c2:Nat) (l2:List (List (S61))) (b2:Nat) (r:Int) (w:World) (hr2:Kd.C (Kd.slice 61 k61) w A2 l2.length l2) (hc2:l2.length≤c2) (hb2:w.heap[b2]?=some (.cells #[.slice A2 l2.length c2] 87 (0,0))) (h:impl_NearestWords_1.f a0 a1 l2=some r) :
  Calls Try.prog 55 #[.int .i64 a0,.int .i64 a1,.pointer (some ⟨b2,0,none⟩)] w fun e w'=>e=.returned (.int .i64 r)∧Drawn0 w w':=by
 have HR2:=am hr2;have HC2:=am hc2;clear hr2 hc2;have BK2:=am hb2;clear hb2;have H:(if 0≤a0 then (if a0 < (l2.length:Int) then (if 0≤a1 then (if a1 < (l2.length:Int) then ((impl_sightsApart.f (rd_L10 l2 a0) (rd_L10 l2 a1)).bind fun t103=>(some t103)) else (none)) else (none)) else (none)) else (none))=some r:=h;clear h
 by_cases c4:0≤a0
 ·rw [if_pos c4] at H;have c4b0:decide (0≤a0)=true:=decide_eq_true c4;clear c4
  by_cases c5:a0 < (l2.length:Int)
  ·rw [if_pos c5] at H;have c5b0:decide (a0 < (l2.length:Int))=true:=decide_eq_true c5;clear c5
   by_cases c6:0≤a1
   ·rw [if_pos c6] at H;have c6b0:decide (0≤a1)=true:=decide_eq_true c6;clear c6
    by_cases c7:a1 < (l2.length:Int)
    ·rw [if_pos c7] at H;have c7b0:decide (a1 < (l2.length:Int))=true:=decide_eq_true c7;clear c7;replace H:=Option.bind_eq_some_iff.mp H;obtain ⟨t103,A80,H⟩:=H;replace H:(some t103)=some r:=H;have A8:=am A80;clear A80;obtain rfl:=Option.some.inj H;have hcz9_0:w.cell? ⟨b2,0,none⟩=some (.slice A2 l2.length c2):=(blk_cell BK2.out 0).trans rfl;have hfz9_0:=blk_frozen BK2.out 0;have p101:0≤(a0:Int):=of_decide_eq_true zq9;have q101:a0 < (l2.length:Int):=of_decide_eq_true zq9;obtain ⟨ad101,A101_0,c101_0,e101,hx101_0,hl101_0,hi101_0⟩:=at_L10 HR2.out a0 p101 q101;cases e101;have HR101_0:=am hi101_0;have HC101_0:=am hl101_0;clear hi101_0 hl101_0;replace p101:=eq_true p101;replace q101:=eq_true q101;have p102:0≤(a1:Int):=of_decide_eq_true zq9;have q102:a1 < (l2.length:Int):=of_decide_eq_true zq9;obtain ⟨ad102,A102_0,c102_0,e102,hx102_0,hl102_0,hi102_0⟩:=at_L10 HR2.out a1 p102 q102;obtain rfl:ad101=ad102:=(by injection e102);have HR102_0:=am hi102_0;have HC102_0:=am hl102_0;clear hi102_0 hl102_0;replace p102:=eq_true p102;replace q102:=eq_true q102
     go_enter Try.func55,Try.ntmps55
     go_wp2_with (first|(go_at_call 56;(with_reducible refine (impl_sightsApart.calls _ _ (rd_L10 l2 a0) _ _ (rd_L10 l2 a1) t103 _ ?side1 ?side2 ?side3 ?side4 A8.out).mono ?_);(case side1=>exact zq23);(case side2=>exact HC101_0.out);(case side3=>exact zq62);(case side4=>exact HC102_0.out);rintro e w' ⟨rfl,⟨nd,rfl⟩⟩;(try first|exact ⟨rfl,_,World.drewN_drewN _ _ _⟩|exact ⟨rfl,_,Eq.trans (World.drewN_drewN _ _ _) (congrArg (World.drewN _) (Nat.add_assoc _ _ _))⟩)))
     repeat (go_quiet (first|(go_at_call 56;(with_reducible refine (impl_sightsApart.calls _ _ (rd_L10 l2 a0) _ _ (rd_L10 l2 a1) t103 _ ?side1 ?side2 ?side3 ?side4 A8.out).mono ?_);(case side1=>exact zq23);(case side2=>exact HC101_0.out);(case side3=>exact zq62);(case side4=>exact HC102_0.out);rintro e w' ⟨rfl,⟨nd,rfl⟩⟩;(try first|exact ⟨rfl,_,World.drewN_drewN _ _ _⟩|exact ⟨rfl,_,Eq.trans (World.drewN_drewN _ _ _) (congrArg (World.drewN _) (Nat.add_assoc _ _ _))⟩)));try go_wp2_with (first|(go_at_call 56;(with_reducible refine (impl_sightsApart.calls _ _ (rd_L10 l2 a0) _ _ (rd_L10 l2 a1) t103 _ ?side1 ?side2 ?side3 ?side4 A8.out).mono ?_);(case side1=>exact zq23);(case side2=>exact HC101_0.out);(case side3=>exact zq62);(case side4=>exact HC102_0.out);rintro e w' ⟨rfl,⟨nd,rfl⟩⟩;(try first|exact ⟨rfl,_,World.drewN_drewN _ _ _⟩|exact ⟨rfl,_,Eq.trans (World.drewN_drewN _ _ _) (congrArg (World.drewN _) (Nat.add_assoc _ _ _))⟩))))
     go_ret
     exact ⟨by first|rfl|(simp only [IntKind.wrap_i64,wrap64];done)|(simp;done)|(simp [*];done),by repeat (first|exact Drawn0.refl _|apply Drawn0.step)⟩
    ·rw [if_neg c7] at H;exact absurd H (by simp)
   ·rw [if_neg c6] at H;exact absurd H (by simp)
  ·rw [if_neg c5] at H;exact absurd H (by simp)
 ·rw [if_neg c4] at H;exact absurd H (by simp)
end Go.Proofs.Ytgfknljhogfeaaa.G
end

section
namespace Go.Proofs.Ytgfknljhogfeaaa.G
open Go.RowKit Go.Proofs.YtgfknljhogfeaaaW.PrintWords Go.Proofs.YtgfknljhogfeaaaW.PrintLast Go.Proofs.YtgfknljhogfeaaaW.PrintMore
attribute [local go_sem] max2_int min2_int max_two min_two max_three min_three max_four min_four
set_option linter.unusedVariables false
set_option linter.unusedSimpArgs false
mutual
def impl_nearest__impl_NearestWords_1.l0:Nat→Int→Int→Int→Int→Int→Int→List (List (S61))→Option (Int × Int × Int × Bool)
 | 0,_,_,_,_,_,_,_=>none
 | k + 1,x0,x8,x9,x10,x14,x15,x2000=>if x15 < x14 then (impl_nearest__impl_NearestWords_1.l1 k x0 x8 x9 x10 x15 (wrap64 (x15 + 1)) x14 x15 x2000) else (some (x8,x9,x10,decide (x10≥0)))
def impl_nearest__impl_NearestWords_1.l1:Nat→Int→Int→Int→Int→Int→Int→Int→Int→List (List (S61))→Option (Int × Int × Int × Bool)
 | 0,_,_,_,_,_,_,_,_,_=>none
 | k + 1,x0,x8,x9,x10,x11,x12,x14,x15,x2000=>if x12 < x0 then ((impl_NearestWords_1.f x11 x12 x2000).bind fun t101=>(if x10 < 0 then (impl_nearest__impl_NearestWords_1.l1 k x0 x11 x12 t101 x11 (wrap64 (x12 + 1)) x14 x15 x2000) else (if t101 < x10 then (impl_nearest__impl_NearestWords_1.l1 k x0 x11 x12 t101 x11 (wrap64 (x12 + 1)) x14 x15 x2000) else (impl_nearest__impl_NearestWords_1.l1 k x0 x8 x9 x10 x11 (wrap64 (x12 + 1)) x14 x15 x2000)))) else (impl_nearest__impl_NearestWords_1.l0 k x0 x8 x9 x10 x14 (wrap64 (x15 + 1)) x2000)
end
def impl_nearest__impl_NearestWords_1.f (k:Nat) (a0:Int) (l1:List (List (S61))):Option (Int × Int × Int × Bool):=impl_nearest__impl_NearestWords_1.l0 k a0 0 0 (-1) a0 0 l1
set_option maxHeartbeats 8000000 in
set_option maxRecDepth 100000 in
theorem impl_nearest__impl_NearestWords_1.calls (k:Nat) (a0:Int) (A1:Option Addr) (c1:Nat) (l1:List (List (S61))) (b1:Nat) (r1:Int) (r2:Int) (r3:Int) (r4:Bool) (w:World) (hr1:Kd.C (Kd.slice 61 k61) w A1 l1.length l1) (hc1:l1.length≤c1) (hb1:w.heap[b1]?=some (.cells #[.slice A1 l1.length c1] 87 (0,0))) (h:impl_nearest__impl_NearestWords_1.f k a0 l1=some (r1,r2,r3,r4)) :
  Calls Try.prog 54 #[.int .i64 a0,.func (.func 55) #[] #[.pointer (some ⟨b1,0,none⟩)]] w fun e w'=>e=.returned (.tuple #[.int .i64 r1,.int .i64 r2,.int .i64 r3,.bool r4])∧Drawn0 w w':=by
 have HR1:=am hr1;have HC1:=am hc1;clear hr1 hc1;have BK1:=am hb1;clear hb1;have H:(impl_nearest__impl_NearestWords_1.l0 k a0 0 0 (-1) a0 0 l1)=some (r1,r2,r3,r4):=h;clear h;have H':=am H;clear H
 go_enter Try.func54,Try.ntmps54
 go_wp2
 go_loopg [8,9,10,15] k (fun kq v8 v9 v10 v15 w'=>∃ (x8_1:Int) (x9_1:Int) (x10_1:Int) (x15_1:Int),v8=.int .i64 x8_1∧v9=.int .i64 x9_1∧v10=.int .i64 x10_1∧v15=.int .i64 x15_1∧Aside0 (impl_nearest__impl_NearestWords_1.l0 kq a0 x8_1 x9_1 x10_1 a0 x15_1 l1=some (r1,r2,r3,r4))∧Aside0 (kq≤k)∧Aside0 (w'.heap[b1]?=some (.cells #[(.slice A1 l1.length c1)] 87 (0,0)))∧Drawn0 w w')
 case atStart=>exact ⟨(0),(0),((-1)),(0),zq3,zq3,zq3,zq3,H',⟨Nat.le_refl _⟩,⟨by (with_reducible repeat (first|refine blk_drewN ?_ _|refine blk_drew ?_|refine blk_alloc ?_ _));exact BK1.out⟩,by repeat (first|exact Drawn0.refl _|apply Drawn0.step)⟩
 case round =>
  clear H';(try clear c1);(try clear p2);obtain ⟨x8_1,x9_1,x10_1,x15_1,rfl,rfl,rfl,rfl,HA,HK1,BK1,⟨m1,rfl⟩⟩:=hrel
  cases gk with
  | zero=>exact absurd HA.out (by simp [impl_nearest__impl_NearestWords_1.l0])
  | succ k1 =>
   have H:=HA.out;clear HA;simp only [impl_nearest__impl_NearestWords_1.l0] at H
   by_cases c3:x15_1 < a0
   ·rw [if_pos c3] at H;have c3b0:decide (x15_1 < a0)=true:=decide_eq_true c3;clear c3;have H':=am H;clear H
    go_wp2
    go_loopg [8,9,10,12] k1 (fun kq v8 v9 v10 v12 w'=>∃ (x8_2:Int) (x9_2:Int) (x10_2:Int) (x12_2:Int),v8=.int .i64 x8_2∧v9=.int .i64 x9_2∧v10=.int .i64 x10_2∧v12=.int .i64 x12_2∧Aside0 (impl_nearest__impl_NearestWords_1.l1 kq a0 x8_2 x9_2 x10_2 x15_1 x12_2 a0 x15_1 l1=some (r1,r2,r3,r4))∧Aside0 (kq≤k1)∧Aside0 (w'.heap[b1]?=some (.cells #[(.slice A1 l1.length c1)] 87 (0,0)))∧Drawn0 w w')
    case atStart=>exact ⟨(x8_1),(x9_1),(x10_1),(wrap64 (x15_1 + 1)),zq3,zq3,zq3,zq3,H',⟨Nat.le_refl _⟩,⟨by (with_reducible repeat (first|refine blk_drewN ?_ _|refine blk_drew ?_|refine blk_alloc ?_ _));exact BK1.out⟩,by repeat (first|exact Drawn0.refl _|apply Drawn0.step)⟩
    case round =>
     clear H';(try clear c1);(try clear p2);(try clear c3);(try clear c3b0);(try clear p2);obtain ⟨x8_2,x9_2,x10_2,x12_2,rfl,rfl,rfl,rfl,HA,HK2,BK1,⟨m2,rfl⟩⟩:=hrel
     cases gk with
     | zero=>exact absurd HA.out (by simp [impl_nearest__impl_NearestWords_1.l1])
     | succ k2 =>
      have H:=HA.out;clear HA;simp only [impl_nearest__impl_NearestWords_1.l1] at H
      by_cases c4:x12_2 < a0
      ·rw [if_pos c4] at H;have c4b0:decide (x12_2 < a0)=true:=decide_eq_true c4;clear c4;replace H:=Option.bind_eq_some_iff.mp H;obtain ⟨t101,A50,H⟩:=H;replace H:(if x10_2 < 0 then (impl_nearest__impl_NearestWords_1.l1 k2 a0 x15_1 x12_2 t101 x15_1 (wrap64 (x12_2 + 1)) a0 x15_1 l1) else (if t101 < x10_2 then (impl_nearest__impl_NearestWords_1.l1 k2 a0 x15_1 x12_2 t101 x15_1 (wrap64 (x12_2 + 1)) a0 x15_1 l1) else (impl_nearest__impl_NearestWords_1.l1 k2 a0 x8_2 x9_2 x10_2 x15_1 (wrap64 (x12_2 + 1)) a0 x15_1 l1)))=some (r1,r2,r3,r4):=H;have A5:=am A50;clear A50
       by_cases c6:x10_2 < 0
       ·rw [if_pos c6] at H;have c6b0:decide (x10_2 < 0)=true:=decide_eq_true c6;clear c6;have H':=am H;clear H
        go_wp2_with (first|((with_reducible refine gate_calleeD rfl ?_);refine goesLD_ (some 28) rfl rfl Try.func55 zq16 rfl #[.pointer (some ⟨b1,0,none⟩)] #[.int .i64 x15_1,.int .i64 x12_2,.pointer (some ⟨b1,0,none⟩)] rfl rfl zq0 ?_;(with_reducible refine (impl_NearestWords_1.calls x15_1 x12_2 A1 c1 l1 b1 t101 _ ?side1 ?side2 ?side3 A5.out).mono ?_);(case side1=>exact zq38);(case side2=>exact HC1.out);(case side3=>exact zq47);rintro e w' ⟨rfl,⟨nd,rfl⟩⟩;refine ⟨_,rfl,?_⟩))
        go_roundg k2
        case measure=>have:=HK1.out;have:=HK2.out;omega
        case rel=>exact ⟨(x15_1),(x12_2),(t101),(wrap64 (x12_2 + 1)),zq3,zq3,zq3,zq3,H',⟨by have:=HK1.out;have:=HK2.out;omega⟩,⟨by (with_reducible repeat (first|refine blk_drewN ?_ _|refine blk_drew ?_|refine blk_alloc ?_ _));exact BK1.out⟩,by repeat (first|exact Drawn0.refl _|apply Drawn0.step)⟩
       ·rw [if_neg c6] at H;have c6b0:decide (x10_2 < 0)=false:=decide_eq_false c6;clear c6
        by_cases c7:t101 < x10_2
        ·rw [if_pos c7] at H;have c7b0:decide (t101 < x10_2)=true:=decide_eq_true c7;clear c7;have H':=am H;clear H
         go_wp2_with (first|((with_reducible refine gate_calleeD rfl ?_);refine goesLD_ (some 28) rfl rfl Try.func55 zq16 rfl #[.pointer (some ⟨b1,0,none⟩)] #[.int .i64 x15_1,.int .i64 x12_2,.pointer (some ⟨b1,0,none⟩)] rfl rfl zq0 ?_;(with_reducible refine (impl_NearestWords_1.calls x15_1 x12_2 A1 c1 l1 b1 t101 _ ?side1 ?side2 ?side3 A5.out).mono ?_);(case side1=>exact zq38);(case side2=>exact HC1.out);(case side3=>exact zq47);rintro e w' ⟨rfl,⟨nd,rfl⟩⟩;refine ⟨_,rfl,?_⟩))
         go_roundg k2
         case measure=>have:=HK1.out;have:=HK2.out;omega
         case rel=>exact ⟨(x15_1),(x12_2),(t101),(wrap64 (x12_2 + 1)),zq3,zq3,zq3,zq3,H',⟨by have:=HK1.out;have:=HK2.out;omega⟩,⟨by (with_reducible repeat (first|refine blk_drewN ?_ _|refine blk_drew ?_|refine blk_alloc ?_ _));exact BK1.out⟩,by repeat (first|exact Drawn0.refl _|apply Drawn0.step)⟩
        ·rw [if_neg c7] at H;have c7b0:decide (t101 < x10_2)=false:=decide_eq_false c7;clear c7;have H':=am H;clear H
         go_wp2_with (first|((with_reducible refine gate_calleeD rfl ?_);refine goesLD_ (some 28) rfl rfl Try.func55 zq16 rfl #[.pointer (some ⟨b1,0,none⟩)] #[.int .i64 x15_1,.int .i64 x12_2,.pointer (some ⟨b1,0,none⟩)] rfl rfl zq0 ?_;(with_reducible refine (impl_NearestWords_1.calls x15_1 x12_2 A1 c1 l1 b1 t101 _ ?side1 ?side2 ?side3 A5.out).mono ?_);(case side1=>exact zq38);(case side2=>exact HC1.out);(case side3=>exact zq47);rintro e w' ⟨rfl,⟨nd,rfl⟩⟩;refine ⟨_,rfl,?_⟩))
         go_roundg k2
         case measure=>have:=HK1.out;have:=HK2.out;omega
         case rel=>exact ⟨(x8_2),(x9_2),(x10_2),(wrap64 (x12_2 + 1)),zq3,zq3,zq3,zq3,H',⟨by have:=HK1.out;have:=HK2.out;omega⟩,⟨by (with_reducible repeat (first|refine blk_drewN ?_ _|refine blk_drew ?_|refine blk_alloc ?_ _));exact BK1.out⟩,by repeat (first|exact Drawn0.refl _|apply Drawn0.step)⟩
      ·rw [if_neg c4] at H;have c4b0:decide (x12_2 < a0)=false:=decide_eq_false c4;clear c4;have H':=am H;clear H
       go_wp2
       go_roundg k2
       case measure=>have:=HK1.out;have:=HK2.out;omega
       case rel=>exact ⟨(x8_2),(x9_2),(x10_2),(wrap64 (x15_1 + 1)),zq3,zq3,zq3,zq3,H',⟨by have:=HK1.out;have:=HK2.out;omega⟩,⟨by (with_reducible repeat (first|refine blk_drewN ?_ _|refine blk_drew ?_|refine blk_alloc ?_ _));exact BK1.out⟩,by repeat (first|exact Drawn0.refl _|apply Drawn0.step)⟩
   ·rw [if_neg c3] at H;have c3b0:decide (x15_1 < a0)=false:=decide_eq_false c3;clear c3;simp only [Option.some.injEq,Prod.mk.injEq] at H;obtain ⟨rfl,rfl,rfl,rfl⟩:=H
    go_wp2
    refine bodyPost_ret (results_list (rs:=[.tmp 4,.tmp 5,.tmp 6,.tmp 7]) rfl (by simp) (.tmp (.tmp (.tmp (.tmp .nil))))) rfl ?_;exact ⟨by first|rfl|(simp only [IntKind.wrap_i64,wrap64];done)|(simp;done)|(simp [*];done),by repeat (first|exact Drawn0.refl _|apply Drawn0.step)⟩
end Go.Proofs.Ytgfknljhogfeaaa.G
end
