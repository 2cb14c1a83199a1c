/- The law's functions, their contracts, and the plain lemmas: texts of this claim, laid together. -/
import Derived.Test.YtfeehhbnlmhflaaGreatDoorMFnRepaired0
section
namespace Go.Proofs.YtfeehhbnlmhflaaGreatDoor.G
open Go.RowKit Go.Proofs.YtfeehhbnlmhflaaGreatDoorW.PrintWords Go.Proofs.YtfeehhbnlmhflaaGreatDoorW.PrintLast Go.Proofs.YtfeehhbnlmhflaaGreatDoorW.PrintMore
attribute [local go_sem] max2_int min2_int max_two min_two max_three min_three max_four min_four
set_option linter.unusedVariables false
set_option linter.unusedSimpArgs false
def impl_wordAt.l0:Nat→Int→Int→List Int→Int→Option (List Int)
 | 0,_,_,_,_=>none
 | k + 1,x0,x2,x7,x8=>if x8≥0 then (if x0=0 then (none) else (if 0≤x8 then (if x8 < (x7.length:Int) then (impl_wordAt.l0 k x0 (wrap64 (Int.tdiv x2 x0)) (x7.set (x8:Int).toNat ((Int.tmod x2 x0) % 256)) (wrap64 (x8 - 1))) else (none)) else (none))) else (some x7)
def impl_wordAt.f (k:Nat) (a0:Int) (a1:Int) (a2:Int):Option (List Int):=if 0≤a1 then (if (a1:Int).toNat≤281474976710656 then (impl_wordAt.l0 k a0 a2 (List.replicate (a1:Int).toNat 0) (wrap64 (a1 - 1))) else (none)) else (none)
set_option maxHeartbeats 8000000 in
set_option maxRecDepth 100000 in
theorem impl_wordAt.calls (k:Nat) (a0:Int) (a1:Int) (a2:Int) (r:List Int) (w:World) (h:impl_wordAt.f k a0 a1 a2=some r) :
  Calls Tryz.prog 40 #[.int .i64 a0,.int .i64 a1,.int .i64 a2] w fun e w'=>∃ v0_:Value,e=.returned (v0_)∧Kd.R (Kd.int .u8) 5 w' w.heap.size (fun _=>True) v0_ r∧Below w.heap.size w w':=by
 have HB:=am (Below.refl w.heap.size w);have H:(if 0≤a1 then (if (a1:Int).toNat≤281474976710656 then (impl_wordAt.l0 k a0 a2 (List.replicate (a1:Int).toNat 0) (wrap64 (a1 - 1))) else (none)) else (none))=some r:=h;clear h
 by_cases c4:0≤a1
 ·rw [if_pos c4] at H;have c4b0:=eq_true c4;have c4b1:=decide_eq_true c4;clear c4
  by_cases c5:(a1:Int).toNat≤281474976710656
  ·rw [if_pos c5] at H;have c5b0:=eq_true c5;have c5b1:=decide_eq_true c5;clear c5;obtain ⟨y101,hy101⟩:∃ y_:List Int,y_=(List.replicate (a1:Int).toNat 0):=⟨_,rfl⟩
   replace H:(impl_wordAt.l0 k a0 a2 y101 (wrap64 (a1 - 1)))=some r:=by first|(rw [hy101];with_reducible exact H)|(have H2_:=(Option.bind_some _ _).symm.trans H;rw [hy101];with_reducible exact H2_)|(have H2_:=(Option.bind_some _ _).symm.trans H;with_reducible exact H2_)|with_reducible exact H|(rw [hy101];exact H)|exact H
   have Ny101:=am hy101;clear hy101;have H':=am H;clear H
   go_enter Tryz.func40,Tryz.ntmps40
   go_wp2_with (first|((with_reducible refine gate_dst (N:=10) rfl ?_);refine Kd.R_make (Kd.int .u8) _ 5 rfl (N:=10) rfl 26 _ _ rfl a1 rfl rfl Tryz.underlying26 (.int .u8 0) 1 info5 rfl (by decide) (by omega) 0 (ok:=fun _=>True) (okp:=fun _=>True) rfl (fun _ hk=>hk) trivial (of_decide_eq_true zq4) (Nat.le_trans (Nat.mul_le_mul_right _ (of_decide_eq_true zq4:a1.toNat≤281474976710656)) (by omega)) (Below.refl _ _) (Nat.le_refl _) ?_;intro v102 w6 ho7 hb hg_ hnew_;clear hg_ hnew_;(first|rw [← Ny101.out] at ho7|(simp only [Int.reduceToNat] at ho7;rw [← Ny101.out] at ho7));have n0_:=am (Kd.R_lower ho7 (below_size zq0));have n1_:=am (below_step zq0 hb);clear HB;have HO103:=n0_;have HB:=n1_;clear n0_ n1_;clear hb ho7))
   go_loopg [2,8] k (fun kq v2 v8 w'=>∃ (x2_1:Int) (x7_1:List Int) (x8_1:Int),v2=.int .i64 x2_1∧v8=.int .i64 x8_1∧Aside0 (impl_wordAt.l0 kq a0 x2_1 x7_1 x8_1=some r)∧Aside0 (kq≤k)∧Aside0 (Kd.R (Kd.int .u8) 5 w' w.heap.size (fun _=>True) v102 x7_1)∧Aside0 (Below w.heap.size w w'))
   case atStart=>exact ⟨(a2),(y101),(wrap64 (a1 - 1)),zq2,zq2,H',⟨Nat.le_refl _⟩,⟨by (with_reducible repeat (first|apply Kd.R_alloc|apply Kd.R_drewN|apply Kd.R_drew));exact HO103.out⟩,⟨by repeat (first|(with_reducible first|exact HB.out|apply below_alloc|apply pw_below_drewN|apply below_drew1)|exact HB.out)⟩⟩
   case round =>
    clear H';(try clear p2);(try clear c4);(try clear c4b0);(try clear c4b1);(try clear c5);(try clear c5b0);(try clear c5b1);(try clear p6);obtain ⟨x2_1,x7_1,x8_1,rfl,rfl,HA,HK1,HO_7,HB⟩:=hrel
    cases gk with
    | zero=>exact absurd HA.out (by simp [impl_wordAt.l0])
    | succ k1 =>
     have H:=HA.out;clear HA;simp only [impl_wordAt.l0] at H
     by_cases c8:x8_1≥0
     ·rw [if_pos c8] at H;have c8b0:decide (0≤x8_1)=true:=decide_eq_true c8;clear c8
      by_cases c9:a0=0
      ·rw [if_pos c9] at H;exact absurd H (by simp)
      ·rw [if_neg c9] at H;have c9b0:=beq_eq_false_iff_ne.mpr c9;have c9b1:=bne_iff_ne.mpr c9
       by_cases c10:0≤x8_1
       ·rw [if_pos c10] at H;have c10b0:=decide_eq_true c10;clear c10
        by_cases c11:x8_1 < (x7_1.length:Int)
        ·rw [if_pos c11] at H;have c11b0:=decide_eq_true c11;clear c11;obtain ⟨y104,hy104⟩:∃ y_:List Int,y_=(x7_1.set (x8_1:Int).toNat ((Int.tmod x2_1 a0) % 256)):=⟨_,rfl⟩
         replace H:(impl_wordAt.l0 k1 a0 (wrap64 (Int.tdiv x2_1 a0)) y104 (wrap64 (x8_1 - 1)))=some r:=by first|(rw [hy104];with_reducible exact H)|(have H2_:=(Option.bind_some _ _).symm.trans H;rw [hy104];with_reducible exact H2_)|(have H2_:=(Option.bind_some _ _).symm.trans H;with_reducible exact H2_)|with_reducible exact H|(rw [hy104];exact H)|exact H
         have Ny104:=am hy104;clear hy104;have H':=am H;clear H;have p12:0≤(x8_1:Int):=of_decide_eq_true zq4;have q12:(x8_1:Int) < ((x7_1.length:Int):Int):=of_decide_eq_true zq4;obtain ⟨go12,co12,eo12,gb12,gl12,cl12,HG12⟩:=Kd.R_form HO_7.out (by omega);(first|cases eo12|(injection eo12 with ea_ en_ ec_;(first|subst ea_|(injection ea_ with ea_;subst ea_));subst ec_;clear en_));have GB12:=am gb12;have GG12:=am HG12;clear gb12 gl12 HG12;obtain ⟨hx12_0,hf12_0⟩:=Kd.R_celln 0 HO_7.out (x8_1:Int) p12 q12;replace p12:=eq_true p12;replace q12:=eq_true q12;have HP13:=Kd.R_putg HO_7.out (x8_1:Int) ((Int.tmod x2_1 a0) % 256)
         go_wp2_with (first|((with_reducible refine gate_store (t:=5) (p:=23) rfl ?_);refine store_event (t:=5) (p:=23) (v:=?vo_w14) (w1:=(wr.setCell ⟨go12,(x8_1:Int).toNat,none⟩ (.int .u8 ((Int.tmod x2_1 a0) % 256)))) ?hg ?ho ?hn ?hr ?_;(case ho=>rfl);(case hg=>rfl);(case hn=>rfl);(case hr=>exact zq14);intro w14 hw;have hg:wr.grownBy w14 (some go12):=(by rw [hw];exact HP13.2);have hp_:Kd.R (Kd.int .u8) 5 w14 w.heap.size (fun _=>True) (.slice (some ⟨go12,0,none⟩) x7_1.length co12) y104:=(by rw [hw,Ny104.out];exact HP13.1);clear HP13;have n0_:=am (hp_);have n1_:=am ((by rw [hw];exact below_set (HB.out) GB12.out:Below w.heap.size w w14));clear HO_7;clear HB;have HO_7:=n0_;have HB:=n1_;clear n0_ n1_;clear hg hw hp_))
         go_roundg k1
         case measure=>have:=HK1.out;omega
         case rel=>exact ⟨(wrap64 (Int.tdiv x2_1 a0)),(y104),(wrap64 (x8_1 - 1)),zq2,zq2,H',⟨by have:=HK1.out;omega⟩,⟨by (with_reducible repeat (first|apply Kd.R_alloc|apply Kd.R_drewN|apply Kd.R_drew));exact HO_7.out⟩,⟨by repeat (first|(with_reducible first|exact HB.out|apply below_alloc|apply pw_below_drewN|apply below_drew1)|exact HB.out)⟩⟩
        ·rw [if_neg c11] at H;exact absurd H (by simp)
       ·rw [if_neg c10] at H;exact absurd H (by simp)
     ·rw [if_neg c8] at H;have c8b0:decide (0≤x8_1)=false:=decide_eq_false c8;clear c8;obtain rfl:=Option.some.inj H
      go_wp2
      go_ret
      exact ⟨_,by first|rfl|(simp [errW_none,errW_some,IntKind.wrap_i64,wrap64];done)|(simp [errW_none,errW_some] <;> rfl)|(simp [*,errW_none,errW_some] <;> rfl),by (with_reducible repeat (first|apply Kd.R_alloc|apply Kd.R_drewN|apply Kd.R_drew));exact HO_7.out,by repeat (first|(with_reducible first|exact HB.out|apply below_alloc|apply pw_below_drewN|apply below_drew1)|exact HB.out)⟩
  ·rw [if_neg c5] at H;exact absurd H (by simp)
 ·rw [if_neg c4] at H;exact absurd H (by simp)
def impl_WordAt.f (k:Nat) (a0:Int) (a1:Int) (a2:Int):Option (List Int × Int):=(impl_apartCode.f a0 a1 1).bind fun t101=>(if t101=0 then ((impl_power.f k a0 a1).bind fun t102=>((impl_within.f a2 0 (wrap64 (t102 - 1))).bind fun t103=>(if t103=true then ((impl_wordAt.f k a0 a1 a2).bind fun t104=>(some (t104,0))) else (some (([]:List Int),2))))) else (some (([]:List Int),t101)))
set_option maxHeartbeats 8000000 in
set_option maxRecDepth 100000 in
theorem impl_WordAt.calls (k:Nat) (a0:Int) (a1:Int) (a2:Int) (r1:List Int) (r2:Int) (w:World) (h:impl_WordAt.f k a0 a1 a2=some (r1,r2)) :
  Calls Tryz.prog 17 #[.int .i64 a0,.int .i64 a1,.int .i64 a2] w fun e w'=>∃ v0_:Value,e=.returned (.tuple #[v0_,.int .i64 r2])∧Kd.R (Kd.int .u8) 5 w' w.heap.size (fun _=>True) v0_ r1∧Below w.heap.size w w':=by
 have HB:=am (Below.refl w.heap.size w);have H:((impl_apartCode.f a0 a1 1).bind fun t101=>(if t101=0 then ((impl_power.f k a0 a1).bind fun t102=>((impl_within.f a2 0 (wrap64 (t102 - 1))).bind fun t103=>(if t103=true then ((impl_wordAt.f k a0 a1 a2).bind fun t104=>(some (t104,0))) else (some (([]:List Int),2))))) else (some (([]:List Int),t101))))=some (r1,r2):=h;clear h;replace H:=Option.bind_eq_some_iff.mp H;obtain ⟨t101,A40,H⟩:=H;replace H:(if t101=0 then ((impl_power.f k a0 a1).bind fun t102=>((impl_within.f a2 0 (wrap64 (t102 - 1))).bind fun t103=>(if t103=true then ((impl_wordAt.f k a0 a1 a2).bind fun t104=>(some (t104,0))) else (some (([]:List Int),2))))) else (some (([]:List Int),t101)))=some (r1,r2):=H;have A4:=am A40;clear A40
 by_cases c5:t101=0
 ·rw [if_pos c5] at H;have c5b0:=beq_iff_eq.mpr c5;have c5b1:=bne_eq_false_iff_eq.mpr c5;clear c5;replace H:=Option.bind_eq_some_iff.mp H;obtain ⟨t102,A60,H⟩:=H;replace H:((impl_within.f a2 0 (wrap64 (t102 - 1))).bind fun t103=>(if t103=true then ((impl_wordAt.f k a0 a1 a2).bind fun t104=>(some (t104,0))) else (some (([]:List Int),2))))=some (r1,r2):=H;have A6:=am A60;clear A60;replace H:=Option.bind_eq_some_iff.mp H;obtain ⟨t103,A70,H⟩:=H;replace H:(if t103=true then ((impl_wordAt.f k a0 a1 a2).bind fun t104=>(some (t104,0))) else (some (([]:List Int),2)))=some (r1,r2):=H;have A7:=am A70;clear A70
  by_cases c8:t103=true
  ·subst c8
   have H1:((impl_wordAt.f k a0 a1 a2).bind fun t104=>(some (t104,0)))=some (r1,r2):=by rw [if_pos rfl] at H;exact H
   clear H;have H:=H1;clear H1;replace H:=Option.bind_eq_some_iff.mp H;obtain ⟨t104,A90,H⟩:=H;replace H:(some (t104,0))=some (r1,r2):=H;have A9:=am A90;clear A90;simp only [Option.some.injEq,Prod.mk.injEq] at H;obtain ⟨rfl,rfl⟩:=H
   go_enter Tryz.func17,Tryz.ntmps17
   go_wp2_with (first|((with_reducible refine gate_callee (f:=38) rfl ?_);refine goesL_ (some 11) rfl rfl Tryz.func38 zq10 rfl #[.int .i64 a0,.int .i64 a1,.int .i64 1] rfl zq1 ?_;(with_reducible refine (impl_apartCode.calls a0 a1 1 t101 _ A4.out).mono ?_);rintro e w' ⟨rfl,⟨nd,rfl⟩⟩;refine ⟨_,rfl,?_⟩)|((with_reducible refine gate_callee (f:=39) rfl ?_);refine goesL_ (some 18) rfl rfl Tryz.func39 zq10 rfl #[.int .i64 a0,.int .i64 a1] rfl zq1 ?_;(with_reducible refine (impl_power.calls k a0 a1 t102 _ A6.out).mono ?_);rintro e w' ⟨rfl,⟨nd,rfl⟩⟩;refine ⟨_,rfl,?_⟩)|((with_reducible refine gate_callee (f:=34) rfl ?_);refine goesL_ (some 20) rfl rfl Tryz.func34 zq10 rfl #[.int .i64 a2,.int .i64 0,.int .i64 (wrap64 (t102 - 1))] rfl zq1 ?_;(with_reducible refine (impl_within.calls a2 0 (wrap64 (t102 - 1)) true _ A7.out).mono ?_);rintro e w' ⟨rfl,⟨nd,rfl⟩⟩;refine ⟨_,rfl,?_⟩)|((with_reducible refine gate_callee (f:=40) rfl ?_);refine goesL_ (some 25) rfl rfl Tryz.func40 zq10 rfl #[.int .i64 a0,.int .i64 a1,.int .i64 a2] rfl zq1 ?_;(with_reducible refine (impl_wordAt.calls k a0 a1 a2 t104 _ A9.out).mono ?_);rintro e w10 ⟨v105,rfl,ho0,hb⟩;refine ⟨_,rfl,?_⟩;have n0_:=am (Kd.R_lower ho0 (below_size zq0));have n1_:=am (below_step zq0 hb);clear HB;have HO106:=n0_;have HB:=n1_;clear n0_ n1_;(try clear hb);(try clear hb2);(try clear hk);(try clear hi);(try clear ho0)))
   go_ret2
   exact ⟨_,by first|rfl|(simp [errW_none,errW_some,IntKind.wrap_i64,wrap64];done)|(simp [errW_none,errW_some] <;> rfl)|(simp [*,errW_none,errW_some] <;> rfl),by (with_reducible repeat (first|apply Kd.R_alloc|apply Kd.R_drewN|apply Kd.R_drew));exact HO106.out,by repeat (first|(with_reducible first|exact HB.out|apply below_alloc|apply pw_below_drewN|apply below_drew1)|exact HB.out)⟩
  ·replace c8:=Bool.eq_false_iff.mpr c8;subst c8
   have H1:(some (([]:List Int),2))=some (r1,r2):=by rw [if_neg (show ¬ (false=true) by decide)] at H;exact H
   clear H;have H:=H1;clear H1;simp only [Option.some.injEq,Prod.mk.injEq] at H;obtain ⟨rfl,rfl⟩:=H
   go_enter Tryz.func17,Tryz.ntmps17
   go_wp2_with (first|((with_reducible refine gate_callee (f:=38) rfl ?_);refine goesL_ (some 11) rfl rfl Tryz.func38 zq10 rfl #[.int .i64 a0,.int .i64 a1,.int .i64 1] rfl zq1 ?_;(with_reducible refine (impl_apartCode.calls a0 a1 1 t101 _ A4.out).mono ?_);rintro e w' ⟨rfl,⟨nd,rfl⟩⟩;refine ⟨_,rfl,?_⟩)|((with_reducible refine gate_callee (f:=39) rfl ?_);refine goesL_ (some 18) rfl rfl Tryz.func39 zq10 rfl #[.int .i64 a0,.int .i64 a1] rfl zq1 ?_;(with_reducible refine (impl_power.calls k a0 a1 t102 _ A6.out).mono ?_);rintro e w' ⟨rfl,⟨nd,rfl⟩⟩;refine ⟨_,rfl,?_⟩)|((with_reducible refine gate_callee (f:=34) rfl ?_);refine goesL_ (some 20) rfl rfl Tryz.func34 zq10 rfl #[.int .i64 a2,.int .i64 0,.int .i64 (wrap64 (t102 - 1))] rfl zq1 ?_;(with_reducible refine (impl_within.calls a2 0 (wrap64 (t102 - 1)) false _ A7.out).mono ?_);rintro e w' ⟨rfl,⟨nd,rfl⟩⟩;refine ⟨_,rfl,?_⟩))
   go_ret2
   exact ⟨_,by first|rfl|(simp [errW_none,errW_some,IntKind.wrap_i64,wrap64];done)|(simp [errW_none,errW_some] <;> rfl)|(simp [*,errW_none,errW_some] <;> rfl),by first|exact Kd.R_nil _ _ _ _ _|exact Kd.N_nil _ _ _ _ _|exact Kd.V_nil _ _ _ _ _|exact Kd.Q_nil _ _ _ _ _|exact Kd.S_nil _ _ _ _ _,by repeat (first|(with_reducible first|exact HB.out|apply below_alloc|apply pw_below_drewN|apply below_drew1)|exact HB.out)⟩
 ·rw [if_neg c5] at H;have c5b0:=beq_eq_false_iff_ne.mpr c5;have c5b1:=bne_iff_ne.mpr c5;simp only [Option.some.injEq,Prod.mk.injEq] at H;obtain ⟨rfl,rfl⟩:=H
  go_enter Tryz.func17,Tryz.ntmps17
  go_wp2_with (first|((with_reducible refine gate_callee (f:=38) rfl ?_);refine goesL_ (some 11) rfl rfl Tryz.func38 zq10 rfl #[.int .i64 a0,.int .i64 a1,.int .i64 1] rfl zq1 ?_;(with_reducible refine (impl_apartCode.calls a0 a1 1 t101 _ A4.out).mono ?_);rintro e w' ⟨rfl,⟨nd,rfl⟩⟩;refine ⟨_,rfl,?_⟩))
  go_ret2
  exact ⟨_,by first|rfl|(simp [errW_none,errW_some,IntKind.wrap_i64,wrap64];done)|(simp [errW_none,errW_some] <;> rfl)|(simp [*,errW_none,errW_some] <;> rfl),by first|exact Kd.R_nil _ _ _ _ _|exact Kd.N_nil _ _ _ _ _|exact Kd.V_nil _ _ _ _ _|exact Kd.Q_nil _ _ _ _ _|exact Kd.S_nil _ _ _ _ _,by repeat (first|(with_reducible first|exact HB.out|apply below_alloc|apply pw_below_drewN|apply below_drew1)|exact HB.out)⟩
def strings_Join.f (l0:List ByteArray) (a1:ByteArray):Option ByteArray:=if l0.length≤140737488355328 then (if (Lib.join (l0.map (·.data.toList)) a1.data.toList).length≤140737488355328 then some ⟨(Lib.join (l0.map (·.data.toList)) a1.data.toList).toArray⟩ else none) else none
theorem strings_Join.calls (A0:Option Addr) (c0:Nat) (l0:List ByteArray) (a1:ByteArray) (r:ByteArray) (w:World) (hr0:Kd.C Kd.string w A0 l0.length l0) (hc0:l0.length≤c0) (h:strings_Join.f l0 a1=some r) :
  Calls Tryz.prog 44 #[.slice A0 l0.length c0,.string a1] w fun e w'=>e=.returned (.string r)∧Below w.heap.size w w':=by
 unfold strings_Join.f at h
 split at h
 ·split at h
  ·rename_i h0 h1
   obtain rfl:=Option.some.inj h
   by_cases hl:l0.length=0
   ·obtain rfl:=List.eq_nil_of_length_eq_zero hl
    exact (Tryz.strings_Join_none A0 c0 a1 w).mono fun e w' ⟨he,hw⟩=>⟨he,hw ▸ Below.refl _ _⟩
   ·obtain ⟨ad,rfl,hx⟩:=Kd.at_string hr0 0 (by omega) (by omega)
    have hsp:ad.spot=none:=by
     rw [show (0:Int).toNat=0 from rfl,Addr.add_zero'] at hx
     unfold World.cell? at hx
     split at hx
     ·split at hx
      ·cases hx
      ·rename_i hs
       cases e:ad.spot with
       | none=>rfl
       | some s=>rw [e] at hs;exact absurd rfl hs
     ·cases hx
    obtain ⟨bk,o,sp⟩:=ad;obtain rfl:sp=none:=hsp
    refine (Tryz.strings_Join bk o c0 l0 a1 w (fun j x hj=>?_) ?_ h0 hc0 h1).mono fun e w' ⟨he,hw⟩=>⟨he,hw⟩
    ·have hjl:j < l0.length:=(List.getElem?_eq_some_iff.1 hj).1;obtain ⟨ad',e,hx'⟩:=Kd.at_string hr0 (j:Int) (by omega) (by omega);obtain rfl:=Option.some.inj e
     have hrd:rdOf ByteArray.empty l0 (j:Int)=x:=by
      rw [show rdOf ByteArray.empty l0 (j:Int)=l0.getD j ByteArray.empty from rfl,List.getD_eq_getElem?_getD,hj];rfl
     rw [hrd,Int.toNat_natCast] at hx'
     have:Addr.add ⟨bk,o,none⟩ j=⟨bk,o + j,none⟩:=by
      unfold Addr.add
      split
      ·rename_i hj0
       subst hj0;rfl
      ·rfl
     rwa [this] at hx'
    ·exact World.block_lt_of_cell? w _ hx
  ·cases h
 ·cases h
def impl_WordText.l0:Nat→List ByteArray→List Int→Int→Int→Option (ByteArray)
 | 0,_,_,_,_=>none
 | k + 1,x3,x10,x11,x12=>if x12 < x11 then (if 0≤x12 then (if x12 < (x10.length:Int) then ((impl_decimal.f (wrap64 (rd x10 x12))).bind fun t106=>(if x3.length < 8796093022208 then (impl_WordText.l0 k (x3 ++ [t106]) x10 x11 (wrap64 (x12 + 1))) else (none))) else (none)) else (none)) else ((strings_Join.f x3 (⟨#[32]⟩:ByteArray)).bind fun t110=>(some t110))
def impl_WordText.f (k:Nat) (l0:List Int):Option (ByteArray):=(impl_Word_isWord.f l0 37).bind fun t101=>(if t101=true then (impl_WordText.l0 k (([]:List ByteArray)) l0 (l0.length:Int) 0) else (some (⟨#[]⟩:ByteArray)))
set_option maxHeartbeats 8000000 in
set_option maxRecDepth 100000 in
theorem impl_WordText.calls (k:Nat) (A0:Option Addr) (c0:Nat) (l0:List Int) (r:ByteArray) (w:World) (hr0:Kd.C (Kd.int .u8) w A0 l0.length l0) (hc0:l0.length≤c0) (henv:Env w) (h:impl_WordText.f k l0=some r) :
  Calls Tryz.prog 19 #[.slice A0 l0.length c0] w fun e w'=>e=.returned (.string r)∧Below w.heap.size w w':=by
 have HR0:=am hr0;have HC0:=am hc0;clear hr0 hc0;have HENV:=am henv;clear henv;have HB:=am (Below.refl w.heap.size w);have H:((impl_Word_isWord.f l0 37).bind fun t101=>(if t101=true then (impl_WordText.l0 k (([]:List ByteArray)) l0 (l0.length:Int) 0) else (some (⟨#[]⟩:ByteArray))))=some r:=h;clear h;replace H:=Option.bind_eq_some_iff.mp H;obtain ⟨t101,A20,H⟩:=H;replace H:(if t101=true then (impl_WordText.l0 k (([]:List ByteArray)) l0 (l0.length:Int) 0) else (some (⟨#[]⟩:ByteArray)))=some r:=H;have A2:=am A20;clear A20
 by_cases c3:t101=true
 ·subst c3
  have H1:(impl_WordText.l0 k (([]:List ByteArray)) l0 (l0.length:Int) 0)=some r:=by rw [if_pos rfl] at H;exact H
  clear H;have H:=H1;clear H1;obtain ⟨y102,hy102⟩:∃ y_:List ByteArray,y_=(([]:List ByteArray)):=⟨_,rfl⟩
  replace H:(impl_WordText.l0 k y102 l0 (l0.length:Int) 0)=some r:=by first|(rw [hy102];with_reducible exact H)|(have H2_:=(Option.bind_some _ _).symm.trans H;rw [hy102];with_reducible exact H2_)|(have H2_:=(Option.bind_some _ _).symm.trans H;with_reducible exact H2_)|with_reducible exact H|(rw [hy102];exact H)|exact H
  have Ny102:=am hy102;clear hy102;have H':=am H;clear H
  go_enter Tryz.func19,Tryz.ntmps19
  go_wp2_with (first|((with_reducible refine gate_callee (f:=32) rfl ?_);refine goesL_ (some 7) rfl rfl Tryz.func32 zq10 rfl #[.slice A0 l0.length c0,.int .i64 37] rfl zq1 ?_;(with_reducible refine (impl_Word_isWord.calls _ _ l0 37 true _ ?side1 ?side2 A2.out).mono ?_);(case side1=>exact zq15);(case side2=>exact HC0.out);rintro e w4 ⟨rfl,hb⟩;refine ⟨_,rfl,?_⟩;have n0_:=am (below_step zq0 hb);clear HB;have HB:=n0_;clear n0_;(try clear hb);(try clear hb2);(try clear hk);(try clear hi))|((with_reducible refine gate_dst (N:=9) rfl ?_);refine Kd.R_lit Kd.string _ 9 ?hg (N:=9) ?hd (xs:=([]:List ByteArray)) (inner:=[]) (ok:=fun _=>True) (okp:=fun _=>True) ?hr ?hp (fun _ hk=>hk) trivial (Below.refl _ _) (Nat.le_refl _) (by simp) ?_;(case hd=>rfl);(case hg=>rfl);(case hr=>exact zq14);(case hp=>exact (Reps.none _ _));intro v103 w5 ho6 hb hg_ hnew_;clear hg_ hnew_;(first|rw [← Ny102.out] at ho6|(simp only [Int.reduceToNat] at ho6;rw [← Ny102.out] at ho6));have n0_:=am (Kd.R_lower ho6 (below_size zq0));have n1_:=am (below_step zq0 hb);clear HB;have HO104:=n0_;have HB:=n1_;clear n0_ n1_;clear hb ho6))
  go_loopg [3,12] k (fun kq v3 v12 w'=>∃ (x3_1:List ByteArray) (x12_1:Int),v12=.int .i64 x12_1∧Aside0 (impl_WordText.l0 kq x3_1 l0 (l0.length:Int) x12_1=some r)∧Aside0 (kq≤k)∧Aside0 (Kd.R Kd.string 9 w' w.heap.size (fun _=>True) v3 x3_1)∧Aside0 (Below w.heap.size w w'))
  case atStart=>exact ⟨(y102),(0),zq2,H',⟨Nat.le_refl _⟩,⟨by (with_reducible repeat (first|apply Kd.R_alloc|apply Kd.R_drewN|apply Kd.R_drew));exact HO104.out⟩,⟨by repeat (first|(with_reducible first|exact HB.out|apply below_alloc|apply pw_below_drewN|apply below_drew1)|exact HB.out)⟩⟩
  case round =>
   clear H';(try clear c1);(try clear p2);(try clear c3);obtain ⟨x3_1,x12_1,rfl,HA,HK1,HO_3,HB⟩:=hrel
   cases gk with
   | zero=>exact absurd HA.out (by simp [impl_WordText.l0])
   | succ k1 =>
    have H:=HA.out;clear HA;simp only [impl_WordText.l0] at H
    by_cases c7:x12_1 < (l0.length:Int)
    ·rw [if_pos c7] at H;have c7b0:=decide_eq_true c7;clear c7
     by_cases c8:0≤x12_1
     ·rw [if_pos c8] at H;have c8b0:=decide_eq_true c8;clear c8
      by_cases c9:x12_1 < (l0.length:Int)
      ·rw [if_pos c9] at H;have c9b0:=decide_eq_true c9;clear c9;replace H:=Option.bind_eq_some_iff.mp H;obtain ⟨t106,A100,H⟩:=H;replace H:(if x3_1.length < 8796093022208 then (impl_WordText.l0 k1 (x3_1 ++ [t106]) l0 (l0.length:Int) (wrap64 (x12_1 + 1))) else (none))=some r:=H;have A10:=am A100;clear A100
       by_cases c11:x3_1.length < 8796093022208
       ·rw [if_pos c11] at H;have LMc11:=am c11;clear c11;obtain ⟨y107,hy107⟩:∃ y_:List ByteArray,y_=(x3_1 ++ [t106]):=⟨_,rfl⟩
        replace H:(impl_WordText.l0 k1 y107 l0 (l0.length:Int) (wrap64 (x12_1 + 1)))=some r:=by first|(rw [hy107];with_reducible exact H)|(have H2_:=(Option.bind_some _ _).symm.trans H;rw [hy107];with_reducible exact H2_)|(have H2_:=(Option.bind_some _ _).symm.trans H;with_reducible exact H2_)|with_reducible exact H|(rw [hy107];exact H)|exact H
        have Ny107:=am hy107;clear hy107;have H':=am H;clear H;have p105:0≤(x12_1:Int):=of_decide_eq_true zq4;have q105:x12_1 < (l0.length:Int):=of_decide_eq_true zq4;obtain ⟨ad105,e105,hx105_0⟩:=Kd.at_int HR0.out x12_1 p105 q105;cases e105;replace hx105_0:=(HB.out.cell (World.block_lt_of_cell? w _ hx105_0)).trans hx105_0;replace p105:=eq_true p105;replace q105:=eq_true q105
        go_wp2_with (first|((with_reducible refine gate_callee (f:=43) rfl ?_);refine goesL_ (some 19) rfl rfl Tryz.func43 zq10 rfl #[.int .i64 (wrap64 (rd l0 x12_1))] rfl zq1 ?_;(with_reducible refine (impl_decimal.calls (wrap64 (rd l0 x12_1)) t106 _ ?side1 A10.out).mono ?_);(case side1=>exact Env_on HENV.out zq0);rintro e w12 ⟨rfl,hb⟩;refine ⟨_,rfl,?_⟩;have n0_:=am (Kd.R_below zq33 hb);have n1_:=am (below_step zq0 hb);clear HO_3;clear HB;have HO_3:=n0_;have HB:=n1_;clear n0_ n1_;(try clear hb);(try clear hb2);(try clear hk);(try clear hi))|((with_reducible refine gate_builtin (b:=.append) (xs:=#[.tmp 16,.tmp 20]) rfl ?_);at_builtin;refine Kd.R_append Kd.string (w0:=w) w.heap.size rfl (.tmp 16) (.tmp 20) 60 9 (.string ⟨#[]⟩) 16 rfl Tryz.underlying60 info9 rfl (by decide) (by omega) u3 x3_1 t106 [.string t106] (fun _=>True) (fun _=>False) rfl rfl ?aP (fun _ hk=>hk.elim) ?aF ?aO ?aB ?aS ?aL ?_;(case aP=>exact rfl);(case aB=>exact zq0);(case aF=>exact (fun _ _=>trivial));(case aO=>exact zq33);(case aS=>exact (below_size zq0));(case aL=>have:=LMc11.out;omega);intro v108 w13 ho hb hg hat;rw [← Ny107.out] at ho;have n0_:=am (hb);have n1_:=am (ho);clear HB;clear HO_3;have HB:=n0_;have HO109:=n1_;clear n0_ n1_;clear ho hb hg hat))
        go_roundg k1
        case measure=>have:=HK1.out;omega
        case rel=>exact ⟨(y107),(wrap64 (x12_1 + 1)),zq2,H',⟨by have:=HK1.out;omega⟩,⟨by (with_reducible repeat (first|apply Kd.R_alloc|apply Kd.R_drewN|apply Kd.R_drew));exact HO109.out⟩,⟨by repeat (first|(with_reducible first|exact HB.out|apply below_alloc|apply pw_below_drewN|apply below_drew1)|exact HB.out)⟩⟩
       ·rw [if_neg c11] at H;exact absurd H (by simp)
      ·rw [if_neg c9] at H;exact absurd H (by simp)
     ·rw [if_neg c8] at H;exact absurd H (by simp)
    ·rw [if_neg c7] at H;have c7b0:=decide_eq_false c7;clear c7;replace H:=Option.bind_eq_some_iff.mp H;obtain ⟨t110,A140,H⟩:=H;replace H:(some t110)=some r:=H;have A14:=am A140;clear A140;obtain rfl:=Option.some.inj H;obtain ⟨Ao15,co15,eo15⟩:=Kd.R_slice HO_3.out;subst eo15
     go_wp2_with (first|((with_reducible refine gate_callee (f:=44) rfl ?_);refine goesL_ (some 24) rfl rfl Tryz.func44 zq10 rfl #[.slice Ao15 x3_1.length co15,.string (⟨#[32]⟩:ByteArray)] rfl zq1 ?_;(with_reducible refine (strings_Join.calls _ _ x3_1 (⟨#[32]⟩:ByteArray) t110 _ ?side1 ?side2 A14.out).mono ?_);(case side1=>repeat (first|exact (Kd.R_reads' HO_3.out).2.2|(with_reducible refine Kd.C_alloc ?_ _)|(with_reducible refine Kd.C_drewN ?_ _)|(with_reducible refine Kd.C_drew ?_)));(case side2=>exact (Kd.R_reads' HO_3.out).2.1);rintro e w16 ⟨rfl,hb⟩;refine ⟨_,rfl,?_⟩;have n0_:=am (Kd.R_below zq33 hb);have n1_:=am (below_step zq0 hb);clear HO_3;clear HB;have HO_3:=n0_;have HB:=n1_;clear n0_ n1_;(try clear hb);(try clear hb2);(try clear hk);(try clear hi)))
     go_ret
     exact ⟨by first|rfl|(simp [errW_none,errW_some,IntKind.wrap_i64,wrap64];done)|(simp [errW_none,errW_some] <;> rfl)|(simp [*,errW_none,errW_some] <;> rfl),by repeat (first|(with_reducible first|exact HB.out|apply below_alloc|apply pw_below_drewN|apply below_drew1)|exact HB.out)⟩
 ·replace c3:=Bool.eq_false_iff.mpr c3;subst c3
  have H1:(some (⟨#[]⟩:ByteArray))=some r:=by rw [if_neg (show ¬ (false=true) by decide)] at H;exact H
  clear H;have H:=H1;clear H1;obtain rfl:=Option.some.inj H
  go_enter Tryz.func19,Tryz.ntmps19
  go_wp2_with (first|((with_reducible refine gate_callee (f:=32) rfl ?_);refine goesL_ (some 7) rfl rfl Tryz.func32 zq10 rfl #[.slice A0 l0.length c0,.int .i64 37] rfl zq1 ?_;(with_reducible refine (impl_Word_isWord.calls _ _ l0 37 false _ ?side1 ?side2 A2.out).mono ?_);(case side1=>exact zq15);(case side2=>exact HC0.out);rintro e w17 ⟨rfl,hb⟩;refine ⟨_,rfl,?_⟩;have n0_:=am (below_step zq0 hb);clear HB;have HB:=n0_;clear n0_;(try clear hb);(try clear hb2);(try clear hk);(try clear hi)))
  go_ret
  exact ⟨by first|rfl|(simp [errW_none,errW_some,IntKind.wrap_i64,wrap64];done)|(simp [errW_none,errW_some] <;> rfl)|(simp [*,errW_none,errW_some] <;> rfl),by repeat (first|(with_reducible first|exact HB.out|apply below_alloc|apply pw_below_drewN|apply below_drew1)|exact HB.out)⟩
def laws_f6big.f (l0:List Int):Option (Bool):=some (decide ((l0.length:Int) > 4096))
set_option maxHeartbeats 8000000 in
set_option maxRecDepth 100000 in
theorem laws_f6big.calls (A0:Option Addr) (c0:Nat) (l0:List Int) (r:Bool) (w:World) (hr0:Kd.C (Kd.int .u8) w A0 l0.length l0) (hc0:l0.length≤c0) (h:laws_f6big.f l0=some r) :
  Calls Tryz.prog 4 #[.slice A0 l0.length c0] w fun e w'=>e=.returned (.bool r)∧Drawn0 w w':=by
 have HR0:=am hr0;have HC0:=am hc0;clear hr0 hc0;have H:(some (decide ((l0.length:Int) > 4096)))=some r:=h;clear h;obtain rfl:=Option.some.inj H
 go_enter Tryz.func4,Tryz.ntmps4
 go_wp2
 go_ret
 exact ⟨by first|rfl|(simp only [IntKind.wrap_i64,wrap64];done)|(simp;done)|(simp [*];done),by repeat (first|exact Drawn0.refl _|apply Drawn0.step)⟩
def IsS68 (w0 W:World) (g:Nat) (f0:List Int) (f1:Int) (f2:Int):Prop:=∃ A0 c0,W.heap[g]?=some (.cells #[.slice A0 f0.length c0,.int .i64 f1,.int .u64 f2] 68 (0,0))∧w0.heap.size≤g∧Kd.C (Kd.int .u8) w0 A0 f0.length f0
theorem IsS68.grown {w0 W:World} {g:Nat} {f0:List Int} {f1:Int} {f2:Int} {W1:World} {row:Option Nat} (h:IsS68 w0 W g f0 f1 f2) (hw:W.grownBy W1 row) (hne:some g≠row):IsS68 w0 W1 g f0 f1 f2:=by
 obtain ⟨A0,c0,hb,hg,hr0⟩:=h;exact ⟨A0,c0,blk_grown hb hw hne,hg,hr0⟩
theorem IsS68.below {w0 W:World} {g:Nat} {f0:List Int} {f1:Int} {f2:Int} {W1:World} (h:IsS68 w0 W g f0 f1 f2) (hw:Below W.heap.size W W1):IsS68 w0 W1 g f0 f1 f2:=h.grown (grown_of_below hw none) (by simp)
theorem IsS68.alloc {w0 W:World} {g:Nat} {f0:List Int} {f1:Int} {f2:Int} (h:IsS68 w0 W g f0 f1 f2) (o:Obj):IsS68 w0 (W.alloc o) g f0 f1 f2:=h.below (below_alloc (Below.refl _ _) o)
theorem IsS68.drewN {w0 W:World} {g:Nat} {f0:List Int} {f1:Int} {f2:Int} (h:IsS68 w0 W g f0 f1 f2) (m:Nat):IsS68 w0 (W.drewN m) g f0 f1 f2:=h
theorem IsS68.drew {w0 W:World} {g:Nat} {f0:List Int} {f1:Int} {f2:Int} (h:IsS68 w0 W g f0 f1 f2):IsS68 w0 W.drew g f0 f1 f2:=h
theorem IsS68.apart {w0 W:World} {g:Nat} {f0:List Int} {f1:Int} {f2:Int} {α:Type} {d:Kd α} {e:Nat} {base:Nat} {ok:Nat→Prop} {v:Value} {xs:List α} (h:IsS68 w0 W g f0 f1 f2) (ho:d.R e W base ok v xs) (ht:∀ q,q∈e :: d.E→q≠68):d.R e W base (fun k=>ok k∧k≠g) v xs:=by
 obtain ⟨A0,c0,hb,hg,hr0⟩:=h;exact Kd.R_types ho hb ht
theorem IsS68.own_ne {w0 W:World} {g:Nat} {f0:List Int} {f1:Int} {f2:Int} {α:Type} {d:Kd α} {e:Nat} {base:Nat} {ok:Nat→Prop} {v:Value} {xs:List α} (h:IsS68 w0 W g f0 f1 f2) (ho:d.R e W base ok v xs) (ht:e≠68):some g≠v.ownBlock:=by
 obtain ⟨A0,c0,hb,hg,hr0⟩:=h;exact Kd.R_ne ho hb ht
theorem IsS68.ge {w0 W:World} {g:Nat} {f0:List Int} {f1:Int} {f2:Int} (h:IsS68 w0 W g f0 f1 f2):w0.heap.size≤g:=by
 obtain ⟨A0,c0,hb,hg,hr0⟩:=h;exact hg
theorem cellS68_0 {W:World} {g:Nat} {A0:Option Addr} {c0:Nat} {f0:List Int} {f1:Int} {f2:Int} (h:W.heap[g]?=some (.cells #[.slice A0 f0.length c0,.int .i64 f1,.int .u64 f2] 68 (0,0))):W.cell? ⟨g,0,none⟩=some (.slice A0 f0.length c0):=(blk_cell h 0).trans rfl
theorem cellS68_1 {W:World} {g:Nat} {A0:Option Addr} {c0:Nat} {f0:List Int} {f1:Int} {f2:Int} (h:W.heap[g]?=some (.cells #[.slice A0 f0.length c0,.int .i64 f1,.int .u64 f2] 68 (0,0))):W.cell? ⟨g,1,none⟩=some (.int .i64 f1):=(blk_cell h 1).trans rfl
theorem IsS68.set_1 {w0 W:World} {g:Nat} {f0:List Int} {f1:Int} {f2:Int} (h:IsS68 w0 W g f0 f1 f2) (x:Int):IsS68 w0 (W.setCell ⟨g,1,none⟩ (.int .i64 x)) g f0 x f2:=by
 obtain ⟨A0,c0,hb,hg,hr0⟩:=h;exact ⟨A0,c0,by simpa using blk_set hb 1 (.int .i64 x),hg,hr0⟩
theorem cellS68_2 {W:World} {g:Nat} {A0:Option Addr} {c0:Nat} {f0:List Int} {f1:Int} {f2:Int} (h:W.heap[g]?=some (.cells #[.slice A0 f0.length c0,.int .i64 f1,.int .u64 f2] 68 (0,0))):W.cell? ⟨g,2,none⟩=some (.int .u64 f2):=(blk_cell h 2).trans rfl
theorem IsS68.set_2 {w0 W:World} {g:Nat} {f0:List Int} {f1:Int} {f2:Int} (h:IsS68 w0 W g f0 f1 f2) (x:Int):IsS68 w0 (W.setCell ⟨g,2,none⟩ (.int .u64 x)) g f0 f1 x:=by
 obtain ⟨A0,c0,hb,hg,hr0⟩:=h;exact ⟨A0,c0,by simpa using blk_set hb 2 (.int .u64 x),hg,hr0⟩
def spec_l00From.f (l0:List Int):Option (List Int × Int × Int):=some (l0,0,0)
set_option maxHeartbeats 8000000 in
set_option maxRecDepth 100000 in
theorem spec_l00From.calls (A0:Option Addr) (c0:Nat) (l0:List Int) (r1:List Int) (r2:Int) (r3:Int) (w0 w:World) (hB:Below w0.heap.size w0 w) (hr0:Kd.C (Kd.int .u8) w0 A0 l0.length l0) (hc0:l0.length≤c0) (h:spec_l00From.f l0=some (r1,r2,r3)) :
  Calls Tryz.prog 20 #[.slice A0 l0.length c0] w fun e w'=>∃ g_:Nat,e=.returned (.pointer (some ⟨g_,0,none⟩))∧IsS68 w0 w' g_ r1 r2 r3∧Below w0.heap.size w0 w'∧Below w.heap.size w w':=by
 have hu68:=Tryz.underlying68;have HR0:=am hr0;have HC0:=am hc0;clear hr0 hc0;have HBW:=am (Below.refl w.heap.size w);have HW0:=am hB.size;have HB:=am hB;clear hB;have H:(some (l0,0,0))=some (r1,r2,r3):=h;clear h;simp only [Option.some.injEq,Prod.mk.injEq] at H;obtain ⟨rfl,rfl,rfl⟩:=H
 go_enter Tryz.func20,Tryz.ntmps20
 go_wp2_with (first|((with_reducible refine gate_dst (N:=5) rfl ?_);refine box_event ?hg (N:=5) ?hd (cs:=#[.slice A0 l0.length c0,.int .i64 0,.int .u64 0]) (t:=68) ?hr ?_;(case hd=>rfl);(case hg=>rfl);(case hr=>exact zq14);intro gb101 hg w2 hbox hb;have n0_:=am (below_step HBW.out hb);have n1_:=am (below_step zq0 hb);have n2_:=am (hbox);have n3_:=am ((by rw [hg];exact (below_size zq41):w.heap.size≤gb101));have n4_:=am ((Nat.le_trans HW0.out (by rw [hg];exact (below_size zq41):w.heap.size≤gb101):w0.heap.size≤gb101));clear HBW;clear HB;have HBW:=n0_;have HB:=n1_;have BK101:=n2_;have GW101:=n3_;have GE101:=n4_;clear n0_ n1_ n2_ n3_ n4_;clear hb hbox hg))
 go_ret
 exact ⟨_,rfl,(show IsS68 w0 _ gb101 l0 0 0 from ⟨_,_,by (with_reducible repeat (first|refine blk_drewN ?_ _|refine blk_drew ?_|refine blk_alloc ?_ _));exact BK101.out,GE101.out,HR0.out⟩),by repeat (first|(with_reducible first|exact HB.out|apply below_alloc|apply pw_below_drewN|apply below_drew1|refine below_set ?_ GE101.out)|exact HB.out),by repeat (first|(with_reducible first|exact HBW.out|apply below_alloc|apply pw_below_drewN|apply below_drew1|refine below_set ?_ GW101.out)|exact HBW.out)⟩
def spec_l00Src_next.f (s0_0:List Int) (s0_1:Int) (s0_2:Int):Option (Int × Int × Int):=if s0_1 < (s0_0.length:Int) then (if 0≤s0_1 then (if (wrap64 (s0_1 + 1))≤(s0_0.length:Int) then (some (wrap64 (rd s0_0 s0_1),wrap64 (s0_1 + 1),IntKind.u64.wrap ((IntKind.u64.wrap ((IntKind.u64.wrap (s0_2 * 6364136223846793005)) + (IntKind.u64.wrap (wrap64 (rd s0_0 s0_1))))) + 1442695040888963407))) else (some (wrap64 (Go.bits .and .u64 ((IntKind.u64.wrap ((IntKind.u64.wrap ((IntKind.u64.wrap (s0_2 * 6364136223846793005)) + (IntKind.u64.wrap (wrap64 (rd s0_0 s0_1))))) + 1442695040888963407)) / 1099511627776) 255),wrap64 (s0_1 + 1),IntKind.u64.wrap ((IntKind.u64.wrap ((IntKind.u64.wrap (s0_2 * 6364136223846793005)) + (IntKind.u64.wrap (wrap64 (rd s0_0 s0_1))))) + 1442695040888963407)))) else (none)) else (if (wrap64 (s0_1 + 1))≤(s0_0.length:Int) then (some (0,wrap64 (s0_1 + 1),IntKind.u64.wrap ((IntKind.u64.wrap ((IntKind.u64.wrap (s0_2 * 6364136223846793005)))) + 1442695040888963407))) else (some (wrap64 (Go.bits .and .u64 ((IntKind.u64.wrap ((IntKind.u64.wrap ((IntKind.u64.wrap (s0_2 * 6364136223846793005)))) + 1442695040888963407)) / 1099511627776) 255),wrap64 (s0_1 + 1),IntKind.u64.wrap ((IntKind.u64.wrap ((IntKind.u64.wrap (s0_2 * 6364136223846793005)))) + 1442695040888963407))))
set_option maxHeartbeats 8000000 in
set_option maxRecDepth 100000 in
theorem spec_l00Src_next.calls (g:Nat) (s0_0:List Int) (s0_1:Int) (s0_2:Int) (r1:Int) (r2:Int) (r3:Int) (w0 w:World) (hI:IsS68 w0 w g s0_0 s0_1 s0_2) (hB:Below w0.heap.size w0 w) (h:spec_l00Src_next.f s0_0 s0_1 s0_2=some (r1,r2,r3)) :
  Calls Tryz.prog 45 #[.pointer (some ⟨g,0,none⟩)] w fun e w'=>e=.returned (.int .i64 r1)∧IsS68 w0 w' g s0_0 r2 r3∧Below w0.heap.size w0 w'∧KeepBut w w' g none:=by
 have HI0:=am hI;have HK:=am (KeepBut.refl w g none);have HL:=am hB.size;clear hI;have HW0:=am hB.size;have HB:=am hB;clear hB;have H:(if s0_1 < (s0_0.length:Int) then (if 0≤s0_1 then (if (wrap64 (s0_1 + 1))≤(s0_0.length:Int) then (some (wrap64 (rd s0_0 s0_1),wrap64 (s0_1 + 1),IntKind.u64.wrap ((IntKind.u64.wrap ((IntKind.u64.wrap (s0_2 * 6364136223846793005)) + (IntKind.u64.wrap (wrap64 (rd s0_0 s0_1))))) + 1442695040888963407))) else (some (wrap64 (Go.bits .and .u64 ((IntKind.u64.wrap ((IntKind.u64.wrap ((IntKind.u64.wrap (s0_2 * 6364136223846793005)) + (IntKind.u64.wrap (wrap64 (rd s0_0 s0_1))))) + 1442695040888963407)) / 1099511627776) 255),wrap64 (s0_1 + 1),IntKind.u64.wrap ((IntKind.u64.wrap ((IntKind.u64.wrap (s0_2 * 6364136223846793005)) + (IntKind.u64.wrap (wrap64 (rd s0_0 s0_1))))) + 1442695040888963407)))) else (none)) else (if (wrap64 (s0_1 + 1))≤(s0_0.length:Int) then (some (0,wrap64 (s0_1 + 1),IntKind.u64.wrap ((IntKind.u64.wrap ((IntKind.u64.wrap (s0_2 * 6364136223846793005)))) + 1442695040888963407))) else (some (wrap64 (Go.bits .and .u64 ((IntKind.u64.wrap ((IntKind.u64.wrap ((IntKind.u64.wrap (s0_2 * 6364136223846793005)))) + 1442695040888963407)) / 1099511627776) 255),wrap64 (s0_1 + 1),IntKind.u64.wrap ((IntKind.u64.wrap ((IntKind.u64.wrap (s0_2 * 6364136223846793005)))) + 1442695040888963407)))))=some (r1,r2,r3):=h;clear h
 by_cases c2:s0_1 < (s0_0.length:Int)
 ·rw [if_pos c2] at H;have c2b0:=decide_eq_true c2;clear c2
  by_cases c3:0≤s0_1
  ·rw [if_pos c3] at H;have c3b0:=decide_eq_true c3;clear c3
   by_cases c4:(wrap64 (s0_1 + 1))≤(s0_0.length:Int)
   ·rw [if_pos c4] at H;have c4b0:=decide_eq_true c4;clear c4;simp only [Option.some.injEq,Prod.mk.injEq] at H;obtain ⟨rfl,rfl,rfl⟩:=H;obtain ⟨ASz5_0,cSz5_0,HGz5,hgz5,HSz5_0⟩:=HI0.out;have hcz5_0:=cellS68_0 HGz5;have hcz5_1:=cellS68_1 HGz5;have hcz5_2:=cellS68_2 HGz5;have hfz5_1:=blk_frozen HGz5 1;have hfz5_2:=blk_frozen HGz5 2;clear HGz5 hgz5;have p101:0≤(s0_1:Int):=of_decide_eq_true zq4;have q101:s0_1 < (s0_0.length:Int):=of_decide_eq_true zq4;obtain ⟨ad101,e101,hx101_0⟩:=Kd.at_int HSz5_0 s0_1 p101 q101;cases e101;replace hx101_0:=pw_cell_below HB.out hx101_0;replace p101:=eq_true p101;replace q101:=eq_true q101
    go_enter Tryz.func45,Tryz.ntmps45
    go_wp2
    repeat (go_quiet (fail);try go_wp2)
    go_ret
    exact ⟨by first|rfl|(simp [errW_none,errW_some,IntKind.wrap_i64,wrap64];done)|(simp [errW_none,errW_some] <;> rfl)|(simp [*,errW_none,errW_some] <;> rfl),by repeat (first|(with_reducible first|exact HI0.out|apply IsS68.alloc|apply IsS68.drewN|apply IsS68.drew|apply IsS68.set_1|apply IsS68.set_2)|exact HI0.out),by repeat (first|(with_reducible first|exact HB.out|apply below_alloc|apply pw_below_drewN|apply below_drew1|refine below_set ?_ (IsS68.ge HI0.out))|exact HB.out),by repeat (first|(with_reducible first|exact HK.out|apply KeepBut.set_|apply keep_drewN|apply keep_drew|apply keep_alloc)|exact HK.out)⟩
   ·rw [if_neg c4] at H;have c4b0:=decide_eq_false c4;clear c4;simp only [Option.some.injEq,Prod.mk.injEq] at H;obtain ⟨rfl,rfl,rfl⟩:=H;obtain ⟨ASz6_0,cSz6_0,HGz6,hgz6,HSz6_0⟩:=HI0.out;have hcz6_0:=cellS68_0 HGz6;have hcz6_1:=cellS68_1 HGz6;have hcz6_2:=cellS68_2 HGz6;have hfz6_1:=blk_frozen HGz6 1;have hfz6_2:=blk_frozen HGz6 2;clear HGz6 hgz6;have p101:0≤(s0_1:Int):=of_decide_eq_true zq4;have q101:s0_1 < (s0_0.length:Int):=of_decide_eq_true zq4;obtain ⟨ad101,e101,hx101_0⟩:=Kd.at_int HSz6_0 s0_1 p101 q101;cases e101;replace hx101_0:=pw_cell_below HB.out hx101_0;replace p101:=eq_true p101;replace q101:=eq_true q101
    go_enter Tryz.func45,Tryz.ntmps45
    go_wp2
    repeat (go_quiet (fail);try go_wp2)
    go_ret
    exact ⟨by first|rfl|(simp [errW_none,errW_some,IntKind.wrap_i64,wrap64];done)|(simp [errW_none,errW_some] <;> rfl)|(simp [*,errW_none,errW_some] <;> rfl),by repeat (first|(with_reducible first|exact HI0.out|apply IsS68.alloc|apply IsS68.drewN|apply IsS68.drew|apply IsS68.set_1|apply IsS68.set_2)|exact HI0.out),by repeat (first|(with_reducible first|exact HB.out|apply below_alloc|apply pw_below_drewN|apply below_drew1|refine below_set ?_ (IsS68.ge HI0.out))|exact HB.out),by repeat (first|(with_reducible first|exact HK.out|apply KeepBut.set_|apply keep_drewN|apply keep_drew|apply keep_alloc)|exact HK.out)⟩
  ·rw [if_neg c3] at H;exact absurd H (by simp)
 ·rw [if_neg c2] at H;have c2b0:=decide_eq_false c2;clear c2
  by_cases c7:(wrap64 (s0_1 + 1))≤(s0_0.length:Int)
  ·rw [if_pos c7] at H;have c7b0:=decide_eq_true c7;clear c7;simp only [Option.some.injEq,Prod.mk.injEq] at H;obtain ⟨rfl,rfl,rfl⟩:=H;obtain ⟨ASz8_0,cSz8_0,HGz8,hgz8,HSz8_0⟩:=HI0.out;have hcz8_0:=cellS68_0 HGz8;have hcz8_1:=cellS68_1 HGz8;have hcz8_2:=cellS68_2 HGz8;have hfz8_1:=blk_frozen HGz8 1;have hfz8_2:=blk_frozen HGz8 2;clear HGz8 hgz8
   go_enter Tryz.func45,Tryz.ntmps45
   go_wp2
   repeat (go_quiet (fail);try go_wp2)
   go_ret
   exact ⟨by first|rfl|(simp [errW_none,errW_some,IntKind.wrap_i64,wrap64];done)|(simp [errW_none,errW_some] <;> rfl)|(simp [*,errW_none,errW_some] <;> rfl),by repeat (first|(with_reducible first|exact HI0.out|apply IsS68.alloc|apply IsS68.drewN|apply IsS68.drew|apply IsS68.set_1|apply IsS68.set_2)|exact HI0.out),by repeat (first|(with_reducible first|exact HB.out|apply below_alloc|apply pw_below_drewN|apply below_drew1|refine below_set ?_ (IsS68.ge HI0.out))|exact HB.out),by repeat (first|(with_reducible first|exact HK.out|apply KeepBut.set_|apply keep_drewN|apply keep_drew|apply keep_alloc)|exact HK.out)⟩
  ·rw [if_neg c7] at H;have c7b0:=decide_eq_false c7;clear c7;simp only [Option.some.injEq,Prod.mk.injEq] at H;obtain ⟨rfl,rfl,rfl⟩:=H;obtain ⟨ASz9_0,cSz9_0,HGz9,hgz9,HSz9_0⟩:=HI0.out;have hcz9_0:=cellS68_0 HGz9;have hcz9_1:=cellS68_1 HGz9;have hcz9_2:=cellS68_2 HGz9;have hfz9_1:=blk_frozen HGz9 1;have hfz9_2:=blk_frozen HGz9 2;clear HGz9 hgz9
   go_enter Tryz.func45,Tryz.ntmps45
   go_wp2
   repeat (go_quiet (fail);try go_wp2)
   go_ret
   exact ⟨by first|rfl|(simp [errW_none,errW_some,IntKind.wrap_i64,wrap64];done)|(simp [errW_none,errW_some] <;> rfl)|(simp [*,errW_none,errW_some] <;> rfl),by repeat (first|(with_reducible first|exact HI0.out|apply IsS68.alloc|apply IsS68.drewN|apply IsS68.drew|apply IsS68.set_1|apply IsS68.set_2)|exact HI0.out),by repeat (first|(with_reducible first|exact HB.out|apply below_alloc|apply pw_below_drewN|apply below_drew1|refine below_set ?_ (IsS68.ge HI0.out))|exact HB.out),by repeat (first|(with_reducible first|exact HK.out|apply KeepBut.set_|apply keep_drewN|apply keep_drew|apply keep_alloc)|exact HK.out)⟩
def spec_l00Src_pick.f (s0_0:List Int) (s0_1:Int) (s0_2:Int) (a1:Int):Option (Int × Int × Int):=if a1≤1 then (some (0,s0_1,s0_2)) else ((spec_l00Src_next.f s0_0 s0_1 s0_2).bind fun bt101=>(if a1 > 200 then ((spec_l00Src_next.f s0_0 bt101.2.1 bt101.2.2).bind fun bt104=>(if a1=0 then (none) else (some (Int.tmod (wrap64 ((wrap64 (bt101.1 * 256)) + bt104.1)) a1,bt104.2.1,bt104.2.2)))) else (if a1=0 then (none) else (some (Int.tmod bt101.1 a1,bt101.2.1,bt101.2.2)))))
set_option maxHeartbeats 8000000 in
set_option maxRecDepth 100000 in
theorem spec_l00Src_pick.calls (g:Nat) (s0_0:List Int) (s0_1:Int) (s0_2:Int) (a1:Int) (r1:Int) (r2:Int) (r3:Int) (w0 w:World) (hI:IsS68 w0 w g s0_0 s0_1 s0_2) (hB:Below w0.heap.size w0 w) (h:spec_l00Src_pick.f s0_0 s0_1 s0_2 a1=some (r1,r2,r3)) :
  Calls Tryz.prog 21 #[.pointer (some ⟨g,0,none⟩),.int .i64 a1] w fun e w'=>e=.returned (.int .i64 r1)∧IsS68 w0 w' g s0_0 r2 r3∧Below w0.heap.size w0 w'∧KeepBut w w' g none:=by
 have HI0:=am hI;have HK:=am (KeepBut.refl w g none);have HL:=am hB.size;clear hI;have HW0:=am hB.size;have HB:=am hB;clear hB;have H:(if a1≤1 then (some (0,s0_1,s0_2)) else ((spec_l00Src_next.f s0_0 s0_1 s0_2).bind fun bt101=>(if a1 > 200 then ((spec_l00Src_next.f s0_0 bt101.2.1 bt101.2.2).bind fun bt104=>(if a1=0 then (none) else (some (Int.tmod (wrap64 ((wrap64 (bt101.1 * 256)) + bt104.1)) a1,bt104.2.1,bt104.2.2)))) else (if a1=0 then (none) else (some (Int.tmod bt101.1 a1,bt101.2.1,bt101.2.2))))))=some (r1,r2,r3):=h;clear h
 by_cases c3:a1≤1
 ·rw [if_pos c3] at H;have c3b0:=decide_eq_true c3;clear c3;simp only [Option.some.injEq,Prod.mk.injEq] at H;obtain ⟨rfl,rfl,rfl⟩:=H
  go_enter Tryz.func21,Tryz.ntmps21
  go_wp2
  go_ret
  exact ⟨by first|rfl|(simp [errW_none,errW_some,IntKind.wrap_i64,wrap64];done)|(simp [errW_none,errW_some] <;> rfl)|(simp [*,errW_none,errW_some] <;> rfl),by repeat (first|(with_reducible first|exact HI0.out|apply IsS68.alloc|apply IsS68.drewN|apply IsS68.drew|apply IsS68.set_1|apply IsS68.set_2)|exact HI0.out),by repeat (first|(with_reducible first|exact HB.out|apply below_alloc|apply pw_below_drewN|apply below_drew1|refine below_set ?_ (IsS68.ge HI0.out))|exact HB.out),by repeat (first|(with_reducible first|exact HK.out|apply KeepBut.set_|apply keep_drewN|apply keep_drew|apply keep_alloc)|exact HK.out)⟩
 ·rw [if_neg c3] at H;have c3b0:=decide_eq_false c3;clear c3;replace H:=Option.bind_eq_some_iff.mp H;obtain ⟨⟨t101,t102,t103⟩,A40,H⟩:=H;replace H:(if a1 > 200 then ((spec_l00Src_next.f s0_0 t102 t103).bind fun bt104=>(if a1=0 then (none) else (some (Int.tmod (wrap64 ((wrap64 (t101 * 256)) + bt104.1)) a1,bt104.2.1,bt104.2.2)))) else (if a1=0 then (none) else (some (Int.tmod t101 a1,t102,t103))))=some (r1,r2,r3):=H;have A4:=am A40;clear A40
  by_cases c5:a1 > 200
  ·rw [if_pos c5] at H;have c5b0:decide (200 < a1)=true:=decide_eq_true c5;clear c5;replace H:=Option.bind_eq_some_iff.mp H;obtain ⟨⟨t104,t105,t106⟩,A60,H⟩:=H;replace H:(if a1=0 then (none) else (some (Int.tmod (wrap64 ((wrap64 (t101 * 256)) + t104)) a1,t105,t106)))=some (r1,r2,r3):=H;have A6:=am A60;clear A60
   by_cases c7:a1=0
   ·rw [if_pos c7] at H;exact absurd H (by simp)
   ·rw [if_neg c7] at H;have c7b0:=beq_eq_false_iff_ne.mpr c7;have c7b1:=bne_iff_ne.mpr c7;simp only [Option.some.injEq,Prod.mk.injEq] at H;obtain ⟨rfl,rfl,rfl⟩:=H
    go_enter Tryz.func21,Tryz.ntmps21
    go_wp2_with (first|((with_reducible refine gate_callee (f:=45) rfl ?_);refine goesL_ (some 9) rfl rfl Tryz.func45 zq10 rfl #[.pointer (some ⟨g,0,none⟩)] rfl zq1 ?_;(with_reducible refine (spec_l00Src_next.calls g s0_0 s0_1 s0_2 t101 t102 t103 w0 _ ?side1 ?side2 A4.out).mono ?_);(case side1=>exact zq13);(case side2=>exact zq12);rintro e w8 ⟨rfl,hi,hb,hk⟩;refine ⟨_,rfl,?_⟩;have n0_:=am (KeepBut.trans zq9 hk (.inl rfl));have n1_:=am (hb);have n2_:=am (hi);clear HK;clear HB;clear HI0;have HK:=n0_;have HB:=n1_;have HI0:=n2_;clear n0_ n1_ n2_;(try clear hb);(try clear hb2);(try clear hk);(try clear hi))|((with_reducible refine gate_callee (f:=45) rfl ?_);refine goesL_ (some 15) rfl rfl Tryz.func45 zq10 rfl #[.pointer (some ⟨g,0,none⟩)] rfl zq1 ?_;(with_reducible refine (spec_l00Src_next.calls g s0_0 t102 t103 t104 t105 t106 w0 _ ?side1 ?side2 A6.out).mono ?_);(case side1=>exact zq13);(case side2=>exact zq12);rintro e w9 ⟨rfl,hi,hb,hk⟩;refine ⟨_,rfl,?_⟩;have n0_:=am (KeepBut.trans zq9 hk (.inl rfl));have n1_:=am (hb);have n2_:=am (hi);clear HK;clear HB;clear HI0;have HK:=n0_;have HB:=n1_;have HI0:=n2_;clear n0_ n1_ n2_;(try clear hb);(try clear hb2);(try clear hk);(try clear hi)))
    go_ret
    exact ⟨by first|rfl|(simp [errW_none,errW_some,IntKind.wrap_i64,wrap64];done)|(simp [errW_none,errW_some] <;> rfl)|(simp [*,errW_none,errW_some] <;> rfl),by repeat (first|(with_reducible first|exact HI0.out|apply IsS68.alloc|apply IsS68.drewN|apply IsS68.drew|apply IsS68.set_1|apply IsS68.set_2)|exact HI0.out),by repeat (first|(with_reducible first|exact HB.out|apply below_alloc|apply pw_below_drewN|apply below_drew1|refine below_set ?_ (IsS68.ge HI0.out))|exact HB.out),by repeat (first|(with_reducible first|exact HK.out|apply KeepBut.set_|apply keep_drewN|apply keep_drew|apply keep_alloc)|exact HK.out)⟩
  ·rw [if_neg c5] at H;have c5b0:decide (200 < a1)=false:=decide_eq_false c5;clear c5
   by_cases c10:a1=0
   ·rw [if_pos c10] at H;exact absurd H (by simp)
   ·rw [if_neg c10] at H;have c10b0:=beq_eq_false_iff_ne.mpr c10;have c10b1:=bne_iff_ne.mpr c10;simp only [Option.some.injEq,Prod.mk.injEq] at H;obtain ⟨rfl,rfl,rfl⟩:=H
    go_enter Tryz.func21,Tryz.ntmps21
    go_wp2_with (first|((with_reducible refine gate_callee (f:=45) rfl ?_);refine goesL_ (some 9) rfl rfl Tryz.func45 zq10 rfl #[.pointer (some ⟨g,0,none⟩)] rfl zq1 ?_;(with_reducible refine (spec_l00Src_next.calls g s0_0 s0_1 s0_2 t101 t102 t103 w0 _ ?side1 ?side2 A4.out).mono ?_);(case side1=>exact zq13);(case side2=>exact zq12);rintro e w11 ⟨rfl,hi,hb,hk⟩;refine ⟨_,rfl,?_⟩;have n0_:=am (KeepBut.trans zq9 hk (.inl rfl));have n1_:=am (hb);have n2_:=am (hi);clear HK;clear HB;clear HI0;have HK:=n0_;have HB:=n1_;have HI0:=n2_;clear n0_ n1_ n2_;(try clear hb);(try clear hb2);(try clear hk);(try clear hi)))
    go_ret
    exact ⟨by first|rfl|(simp [errW_none,errW_some,IntKind.wrap_i64,wrap64];done)|(simp [errW_none,errW_some] <;> rfl)|(simp [*,errW_none,errW_some] <;> rfl),by repeat (first|(with_reducible first|exact HI0.out|apply IsS68.alloc|apply IsS68.drewN|apply IsS68.drew|apply IsS68.set_1|apply IsS68.set_2)|exact HI0.out),by repeat (first|(with_reducible first|exact HB.out|apply below_alloc|apply pw_below_drewN|apply below_drew1|refine below_set ?_ (IsS68.ge HI0.out))|exact HB.out),by repeat (first|(with_reducible first|exact HK.out|apply KeepBut.set_|apply keep_drewN|apply keep_drew|apply keep_alloc)|exact HK.out)⟩
def spec_P6Pick.f (l0:List Int) (a1:Int):Option (Int):=(spec_l00From.f l0).bind fun bt101=>((spec_l00Src_pick.f bt101.1 bt101.2.1 bt101.2.2 a1).bind fun bt105=>(some bt105.1))
set_option maxHeartbeats 8000000 in
set_option maxRecDepth 100000 in
theorem spec_P6Pick.calls (A0:Option Addr) (c0:Nat) (l0:List Int) (a1:Int) (r:Int) (w:World) (hr0:Kd.C (Kd.int .u8) w A0 l0.length l0) (hc0:l0.length≤c0) (h:spec_P6Pick.f l0 a1=some r) :
  Calls Tryz.prog 5 #[.slice A0 l0.length c0,.int .i64 a1] w fun e w'=>e=.returned (.int .i64 r)∧Below w.heap.size w w':=by
 have HR0:=am hr0;have HC0:=am hc0;clear hr0 hc0;have HB:=am (Below.refl w.heap.size w);have H:((spec_l00From.f l0).bind fun bt101=>((spec_l00Src_pick.f bt101.1 bt101.2.1 bt101.2.2 a1).bind fun bt105=>(some bt105.1)))=some r:=h;clear h;replace H:=Option.bind_eq_some_iff.mp H;obtain ⟨⟨t101,t102,t103⟩,A30,H⟩:=H;replace H:((spec_l00Src_pick.f t101 t102 t103 a1).bind fun bt105=>(some bt105.1))=some r:=H;have A3:=am A30;clear A30;replace H:=Option.bind_eq_some_iff.mp H;obtain ⟨⟨t105,t106,t107⟩,A40,H⟩:=H;replace H:(some t105)=some r:=H;have A4:=am A40;clear A40;obtain rfl:=Option.some.inj H
 go_enter Tryz.func5,Tryz.ntmps5
 go_wp2_with (first|((with_reducible refine gate_callee (f:=20) rfl ?_);refine goesL_ (some 6) rfl rfl Tryz.func20 zq10 rfl #[.slice A0 l0.length c0] rfl zq1 ?_;(with_reducible refine (spec_l00From.calls _ _ l0 t101 t102 t103 w _ ?side1 ?side2 ?side3 A3.out).mono ?_);(case side1=>exact zq0);(case side2=>exact HR0.out);(case side3=>exact HC0.out);rintro e w5 ⟨g104,rfl,hi,hb,hb2⟩;refine ⟨_,rfl,?_⟩;have n0_:=am (hb);have n1_:=am (hi);clear HB;have HB:=n0_;have HI104:=n1_;clear n0_ n1_;(try clear hb);(try clear hb2);(try clear hk);(try clear hi))|((with_reducible refine gate_callee (f:=21) rfl ?_);refine goesL_ (some 8) rfl rfl Tryz.func21 zq10 rfl #[.pointer (some ⟨g104,0,none⟩),.int .i64 a1] rfl zq1 ?_;(with_reducible refine (spec_l00Src_pick.calls g104 t101 t102 t103 a1 t105 t106 t107 w _ ?side1 ?side2 A4.out).mono ?_);(case side1=>exact zq34);(case side2=>exact zq22);rintro e w6 ⟨rfl,hi,hb,hk⟩;refine ⟨_,rfl,?_⟩;have n0_:=am (hb);have n1_:=am (hi);clear HB;clear HI104;have HB:=n0_;have HI104:=n1_;clear n0_ n1_;(try clear hb);(try clear hb2);(try clear hk);(try clear hi)))
 go_ret
 exact ⟨by first|rfl|(simp [errW_none,errW_some,IntKind.wrap_i64,wrap64];done)|(simp [errW_none,errW_some] <;> rfl)|(simp [*,errW_none,errW_some] <;> rfl),by repeat (first|(with_reducible first|exact HB.out|apply below_alloc|apply pw_below_drewN|apply below_drew1|refine below_set ?_ (IsS68.ge HI104.out))|exact HB.out)⟩
def spec_l05Spelled.l0:Nat→Int→Int→List Int→Int→List Int→Int→Int→Option (List Int × Int × Int)
 | 0,_,_,_,_,_,_,_=>none
 | k + 1,x1,x2,x7,x8,x1000,x1001,x1002=>if x8 < x2 then ((spec_l00Src_pick.f x1000 x1001 x1002 x1).bind fun bt104=>(if x7.length < 140737488355328 then (spec_l05Spelled.l0 k x1 x2 (x7 ++ [(bt104.1) % 256]) (wrap64 (x8 + 1)) x1000 bt104.2.1 bt104.2.2) else (none))) else (some (x7,x1001,x1002))
def spec_l05Spelled.f (k:Nat) (s0_0:List Int) (s0_1:Int) (s0_2:Int) (a1:Int) (a2:Int):Option (List Int × Int × Int):=spec_l05Spelled.l0 k a1 a2 (([]:List Int)) 0 s0_0 s0_1 s0_2
set_option maxHeartbeats 8000000 in
set_option maxRecDepth 100000 in
theorem spec_l05Spelled.calls (k:Nat) (g:Nat) (s0_0:List Int) (s0_1:Int) (s0_2:Int) (a1:Int) (a2:Int) (r1:List Int) (r2:Int) (r3:Int) (w0 w:World) (hI:IsS68 w0 w g s0_0 s0_1 s0_2) (hB:Below w0.heap.size w0 w) (h:spec_l05Spelled.f k s0_0 s0_1 s0_2 a1 a2=some (r1,r2,r3)) :
  Calls Tryz.prog 22 #[.pointer (some ⟨g,0,none⟩),.int .i64 a1,.int .i64 a2] w fun e w'=>∃ v0_:Value,e=.returned (v0_)∧Kd.R (Kd.int .u8) 5 w' w.heap.size (fun _=>True) v0_ r1∧IsS68 w0 w' g s0_0 r2 r3∧Below w0.heap.size w0 w'∧KeepBut w w' g none:=by
 have HI0:=am hI;have HK:=am (KeepBut.refl w g none);have HL:=am hB.size;clear hI;have HW0:=am hB.size;have HB:=am hB;clear hB;have H:(spec_l05Spelled.l0 k a1 a2 (([]:List Int)) 0 s0_0 s0_1 s0_2)=some (r1,r2,r3):=h;clear h;obtain ⟨y101,hy101⟩:∃ y_:List Int,y_=(([]:List Int)):=⟨_,rfl⟩
 replace H:(spec_l05Spelled.l0 k a1 a2 y101 0 s0_0 s0_1 s0_2)=some (r1,r2,r3):=by first|(rw [hy101];with_reducible exact H)|(have H2_:=(Option.bind_some _ _).symm.trans H;rw [hy101];with_reducible exact H2_)|(have H2_:=(Option.bind_some _ _).symm.trans H;with_reducible exact H2_)|with_reducible exact H|(rw [hy101];exact H)|exact H
 have Ny101:=am hy101;clear hy101;have H':=am H;clear H
 go_enter Tryz.func22,Tryz.ntmps22
 go_wp2_with (first|((with_reducible refine gate_dst (N:=9) rfl ?_);refine Kd.R_lit (Kd.int .u8) _ 5 ?hg (N:=9) ?hd (xs:=([]:List Int)) (inner:=[]) (ok:=fun _=>True) (okp:=fun _=>True) ?hr ?hp (fun _ hk=>hk) trivial (Below.refl _ _) (Nat.le_refl _) (by simp) ?_;(case hd=>rfl);(case hg=>rfl);(case hr=>exact zq14);(case hp=>exact (Reps.none _ _));intro v102 w4 ho5 hb hg_ hnew_;clear hg_ hnew_;(first|rw [← Ny101.out] at ho5|(simp only [Int.reduceToNat] at ho5;rw [← Ny101.out] at ho5));have n0_:=am (Kd.R_lower ho5 (keep_size (w:=w) (g:=g) (row:=none) zq9));have n1_:=am (IsS68.below zq13 hb);have n2_:=am (KeepBut.trans zq9 (KeepBut.of_below hb g none) (.inl rfl));have n3_:=am (below_step zq12 hb);clear HI0;clear HK;clear HB;have HO103:=n0_;have HI0:=n1_;have HK:=n2_;have HB:=n3_;clear n0_ n1_ n2_ n3_;clear hb ho5))
 go_loopg [7,8] k (fun kq v7 v8 w'=>∃ (x7_1:List Int) (x8_1:Int) (x1001_1:Int) (x1002_1:Int),v8=.int .i64 x8_1∧Aside0 (spec_l05Spelled.l0 kq a1 a2 x7_1 x8_1 s0_0 x1001_1 x1002_1=some (r1,r2,r3))∧Aside0 (kq≤k)∧Aside0 (Kd.R (Kd.int .u8) 5 w' w.heap.size (fun _=>True) v7 x7_1)∧Aside0 (IsS68 w0 w' g s0_0 x1001_1 x1002_1)∧Aside0 (KeepBut w w' g none)∧Aside0 (Below w0.heap.size w0 w'))
 case atStart=>exact ⟨(y101),(0),(s0_1),(s0_2),zq2,H',⟨Nat.le_refl _⟩,⟨by (with_reducible repeat (first|apply Kd.R_alloc|apply Kd.R_drewN|apply Kd.R_drew));exact HO103.out⟩,⟨by repeat (first|(with_reducible first|exact HI0.out|apply IsS68.alloc|apply IsS68.drewN|apply IsS68.drew|apply IsS68.set_1|apply IsS68.set_2)|exact HI0.out)⟩,⟨by repeat (first|(with_reducible first|exact HK.out|apply KeepBut.set_|apply keep_drewN|apply keep_drew|apply keep_alloc)|exact HK.out)⟩,⟨by repeat (first|(with_reducible first|exact HB.out|apply below_alloc|apply pw_below_drewN|apply below_drew1|refine below_set ?_ (IsS68.ge HI0.out))|exact HB.out)⟩⟩
 case round =>
  clear H';(try clear c2);(try clear p2);obtain ⟨x7_1,x8_1,x1001_1,x1002_1,rfl,HA,HK1,HO_7,HI0,HK,HB⟩:=hrel
  cases gk with
  | zero=>exact absurd HA.out (by simp [spec_l05Spelled.l0])
  | succ k1 =>
   have H:=HA.out;clear HA;simp only [spec_l05Spelled.l0] at H
   by_cases c6:x8_1 < a2
   ·rw [if_pos c6] at H;have c6b0:=decide_eq_true c6;clear c6;replace H:=Option.bind_eq_some_iff.mp H;obtain ⟨⟨t104,t105,t106⟩,A70,H⟩:=H;replace H:(if x7_1.length < 140737488355328 then (spec_l05Spelled.l0 k1 a1 a2 (x7_1 ++ [(t104) % 256]) (wrap64 (x8_1 + 1)) s0_0 t105 t106) else (none))=some (r1,r2,r3):=H;have A7:=am A70;clear A70
    by_cases c8:x7_1.length < 140737488355328
    ·rw [if_pos c8] at H;have LMc8:=am c8;clear c8;obtain ⟨y107,hy107⟩:∃ y_:List Int,y_=(x7_1 ++ [(t104) % 256]):=⟨_,rfl⟩
     replace H:(spec_l05Spelled.l0 k1 a1 a2 y107 (wrap64 (x8_1 + 1)) s0_0 t105 t106)=some (r1,r2,r3):=by first|(rw [hy107];with_reducible exact H)|(have H2_:=(Option.bind_some _ _).symm.trans H;rw [hy107];with_reducible exact H2_)|(have H2_:=(Option.bind_some _ _).symm.trans H;with_reducible exact H2_)|with_reducible exact H|(rw [hy107];exact H)|exact H
     have Ny107:=am hy107;clear hy107;have H':=am H;clear H
     go_wp2_with (first|((with_reducible refine gate_callee (f:=21) rfl ?_);refine goesL_ (some 18) rfl rfl Tryz.func21 zq10 rfl #[.pointer (some ⟨g,0,none⟩),.int .i64 a1] rfl zq1 ?_;(with_reducible refine (spec_l00Src_pick.calls g s0_0 x1001_1 x1002_1 a1 t104 t105 t106 w0 _ ?side1 ?side2 A7.out).mono ?_);(case side1=>exact zq13);(case side2=>exact zq12);rintro e w9 ⟨rfl,hi,hb,hk⟩;refine ⟨_,rfl,?_⟩;have n0_:=am (Kd.R_mono (Kd.R_keep (IsS68.apart (show IsS68 w0 _ g s0_0 x1001_1 x1002_1 from by repeat (first|(with_reducible first|exact HI0.out|apply IsS68.alloc|apply IsS68.drewN|apply IsS68.drew|apply IsS68.set_1|apply IsS68.set_2)|exact HI0.out)) (by (with_reducible repeat (first|apply Kd.R_alloc|apply Kd.R_drewN|apply Kd.R_drew));exact HO_7.out) (by decide)) hk (fun _ h=>h.2)) (fun _ h=>h.1));have n1_:=am (KeepBut.trans zq9 hk (.inl rfl));have n2_:=am (hb);have n3_:=am (hi);clear HO_7;clear HK;clear HB;clear HI0;have HO_7:=n0_;have HK:=n1_;have HB:=n2_;have HI0:=n3_;clear n0_ n1_ n2_ n3_;(try clear hb);(try clear hb2);(try clear hk);(try clear hi))|((with_reducible refine gate_builtin (b:=.append) (xs:=#[.tmp 15,.tmp 20]) rfl ?_);at_builtin;refine Kd.R_append (Kd.int .u8) w.heap.size rfl (.tmp 15) (.tmp 20) 26 5 (.int .u8 0) 1 rfl Tryz.underlying26 info5 rfl (by decide) (by omega) u7 x7_1 ((t104) % 256) [.int .u8 ((t104) % 256)] (fun _=>True) (fun _=>False) rfl rfl ?aP (fun _ hk=>hk.elim) ?aF ?aO (Below.refl _ _) ?aS ?aL ?_;(case aP=>exact rfl);(case aF=>exact (fun _ _=>trivial));(case aO=>exact (by (with_reducible repeat (first|apply Kd.R_alloc|apply Kd.R_drewN|apply Kd.R_drew));exact HO_7.out));(case aS=>exact (keep_size (w:=w) (g:=g) (row:=none) zq9));(case aL=>have:=LMc8.out;omega);intro v108 w10 ho hb hg hat;rw [← Ny107.out] at ho;have n0_:=am (IsS68.grown zq13 hg (IsS68.own_ne HI0.out HO_7.out (by decide)));have n1_:=am (below_weaken zq12 HL.out hb);have n2_:=am (KeepBut.trans zq9 (KeepBut.of_grown hg g) (Kd.R_base2 HO_7.out));have n3_:=am (ho);clear HI0;clear HB;clear HK;clear HO_7;have HI0:=n0_;have HB:=n1_;have HK:=n2_;have HO109:=n3_;clear n0_ n1_ n2_ n3_;clear ho hb hg hat))
     go_roundg k1
     case measure=>have:=HK1.out;omega
     case rel=>exact ⟨(y107),(wrap64 (x8_1 + 1)),(t105),(t106),zq2,H',⟨by have:=HK1.out;omega⟩,⟨by (with_reducible repeat (first|apply Kd.R_alloc|apply Kd.R_drewN|apply Kd.R_drew));exact HO109.out⟩,⟨by repeat (first|(with_reducible first|exact HI0.out|apply IsS68.alloc|apply IsS68.drewN|apply IsS68.drew|apply IsS68.set_1|apply IsS68.set_2)|exact HI0.out)⟩,⟨by repeat (first|(with_reducible first|exact HK.out|apply KeepBut.set_|apply keep_drewN|apply keep_drew|apply keep_alloc)|exact HK.out)⟩,⟨by repeat (first|(with_reducible first|exact HB.out|apply below_alloc|apply pw_below_drewN|apply below_drew1|refine below_set ?_ (IsS68.ge HI0.out))|exact HB.out)⟩⟩
    ·rw [if_neg c8] at H;exact absurd H (by simp)
   ·rw [if_neg c6] at H;have c6b0:=decide_eq_false c6;clear c6;simp only [Option.some.injEq,Prod.mk.injEq] at H;obtain ⟨rfl,rfl,rfl⟩:=H
    go_wp2
    go_ret
    exact ⟨_,by first|rfl|(simp [errW_none,errW_some,IntKind.wrap_i64,wrap64];done)|(simp [errW_none,errW_some] <;> rfl)|(simp [*,errW_none,errW_some] <;> rfl),by (with_reducible repeat (first|apply Kd.R_alloc|apply Kd.R_drewN|apply Kd.R_drew));exact HO_7.out,by repeat (first|(with_reducible first|exact HI0.out|apply IsS68.alloc|apply IsS68.drewN|apply IsS68.drew|apply IsS68.set_1|apply IsS68.set_2)|exact HI0.out),by repeat (first|(with_reducible first|exact HB.out|apply below_alloc|apply pw_below_drewN|apply below_drew1|refine below_set ?_ (IsS68.ge HI0.out))|exact HB.out),by repeat (first|(with_reducible first|exact HK.out|apply KeepBut.set_|apply keep_drewN|apply keep_drew|apply keep_alloc)|exact HK.out)⟩
def spec_P6Word.f (k:Nat) (l0:List Int) (a1:Int) (a2:Int):Option (List Int):=(spec_l00From.f l0).bind fun bt101=>((spec_l05Spelled.f k bt101.1 bt101.2.1 bt101.2.2 a1 a2).bind fun bt105=>(some bt105.1))
set_option maxHeartbeats 8000000 in
set_option maxRecDepth 100000 in
theorem spec_P6Word.calls (k:Nat) (A0:Option Addr) (c0:Nat) (l0:List Int) (a1:Int) (a2:Int) (r:List Int) (w:World) (hr0:Kd.C (Kd.int .u8) w A0 l0.length l0) (hc0:l0.length≤c0) (h:spec_P6Word.f k l0 a1 a2=some r) :
  Calls Tryz.prog 6 #[.slice A0 l0.length c0,.int .i64 a1,.int .i64 a2] w fun e w'=>∃ v0_:Value,e=.returned (v0_)∧Kd.R (Kd.int .u8) 5 w' w.heap.size (fun _=>True) v0_ r∧Below w.heap.size w w':=by
 have HR0:=am hr0;have HC0:=am hc0;clear hr0 hc0;have HB:=am (Below.refl w.heap.size w);have H:((spec_l00From.f l0).bind fun bt101=>((spec_l05Spelled.f k bt101.1 bt101.2.1 bt101.2.2 a1 a2).bind fun bt105=>(some bt105.1)))=some r:=h;clear h;replace H:=Option.bind_eq_some_iff.mp H;obtain ⟨⟨t101,t102,t103⟩,A40,H⟩:=H;replace H:((spec_l05Spelled.f k t101 t102 t103 a1 a2).bind fun bt105=>(some bt105.1))=some r:=H;have A4:=am A40;clear A40;replace H:=Option.bind_eq_some_iff.mp H;obtain ⟨⟨t105,t108,t109⟩,A50,H⟩:=H;replace H:(some t105)=some r:=H;have A5:=am A50;clear A50;obtain rfl:=Option.some.inj H
 go_enter Tryz.func6,Tryz.ntmps6
 go_wp2_with (first|((with_reducible refine gate_callee (f:=20) rfl ?_);refine goesL_ (some 8) rfl rfl Tryz.func20 zq10 rfl #[.slice A0 l0.length c0] rfl zq1 ?_;(with_reducible refine (spec_l00From.calls _ _ l0 t101 t102 t103 w _ ?side1 ?side2 ?side3 A4.out).mono ?_);(case side1=>exact zq0);(case side2=>exact HR0.out);(case side3=>exact HC0.out);rintro e w6 ⟨g104,rfl,hi,hb,hb2⟩;refine ⟨_,rfl,?_⟩;have n0_:=am (hb);have n1_:=am (hi);clear HB;have HB:=n0_;have HI104:=n1_;clear n0_ n1_;(try clear hb);(try clear hb2);(try clear hk);(try clear hi))|((with_reducible refine gate_callee (f:=22) rfl ?_);refine goesL_ (some 11) rfl rfl Tryz.func22 zq10 rfl #[.pointer (some ⟨g104,0,none⟩),.int .i64 a1,.int .i64 a2] rfl zq1 ?_;(with_reducible refine (spec_l05Spelled.calls k g104 t101 t102 t103 a1 a2 t105 t108 t109 w _ ?side1 ?side2 A5.out).mono ?_);(case side1=>exact zq34);(case side2=>exact zq22);rintro e w7 ⟨v106,rfl,ho0,hi,hb,hk⟩;refine ⟨_,rfl,?_⟩;have n0_:=am (Kd.R_lower ho0 (below_size zq22));have n1_:=am (hb);have n2_:=am (hi);clear HB;clear HI104;have HO107:=n0_;have HB:=n1_;have HI104:=n2_;clear n0_ n1_ n2_;(try clear hb);(try clear hb2);(try clear hk);(try clear hi);(try clear ho0)))
 go_ret
 exact ⟨_,by first|rfl|(simp [errW_none,errW_some,IntKind.wrap_i64,wrap64];done)|(simp [errW_none,errW_some] <;> rfl)|(simp [*,errW_none,errW_some] <;> rfl),by (with_reducible repeat (first|apply Kd.R_alloc|apply Kd.R_drewN|apply Kd.R_drew));exact HO107.out,by repeat (first|(with_reducible first|exact HB.out|apply below_alloc|apply pw_below_drewN|apply below_drew1|refine below_set ?_ (IsS68.ge HI104.out))|exact HB.out)⟩
def spec_l00In.f (a0:Int) (a1:Int) (a2:Int):Option (Bool):=if a0≥a1 then (some (decide (a0≤a2))) else (some false)
set_option maxHeartbeats 8000000 in
set_option maxRecDepth 100000 in
theorem spec_l00In.calls (a0:Int) (a1:Int) (a2:Int) (r:Bool) (w:World) (h:spec_l00In.f a0 a1 a2=some r) :
  Calls Tryz.prog 35 #[.int .i64 a0,.int .i64 a1,.int .i64 a2] w fun e w'=>e=.returned (.bool r)∧Drawn0 w w':=by
 have H:(if a0≥a1 then (some (decide (a0≤a2))) else (some false))=some r:=h;clear h
 by_cases c4:a0≥a1
 ·rw [if_pos c4] at H;have c4b0:decide (a1≤a0)=true:=decide_eq_true c4;clear c4;obtain rfl:=Option.some.inj H
  go_enter Tryz.func35,Tryz.ntmps35
  go_wp2
  go_ret
  exact ⟨by first|rfl|(simp only [IntKind.wrap_i64,wrap64];done)|(simp;done)|(simp [*];done),by repeat (first|exact Drawn0.refl _|apply Drawn0.step)⟩
 ·rw [if_neg c4] at H;have c4b0:decide (a1≤a0)=false:=decide_eq_false c4;clear c4;obtain rfl:=Option.some.inj H
  go_enter Tryz.func35,Tryz.ntmps35
  go_wp2
  go_ret
  exact ⟨by first|rfl|(simp only [IntKind.wrap_i64,wrap64];done)|(simp;done)|(simp [*];done),by repeat (first|exact Drawn0.refl _|apply Drawn0.step)⟩
def spec_l05Below.l0:Nat→Int→List Int→Int→Option (Bool)
 | 0,_,_,_=>none
 | k + 1,x0,x1,x5=>if x5 < (x1.length:Int) then (if 0≤x5 then (if (wrap64 (rd x1 x5))≥x0 then (some false) else (spec_l05Below.l0 k x0 x1 (wrap64 (x5 + 1)))) else (none)) else (some true)
def spec_l05Below.f (k:Nat) (a0:Int) (l1:List Int):Option (Bool):=spec_l05Below.l0 k a0 l1 0
set_option maxHeartbeats 8000000 in
set_option maxRecDepth 100000 in
theorem spec_l05Below.calls (k:Nat) (a0:Int) (A1:Option Addr) (c1:Nat) (l1:List Int) (r:Bool) (w:World) (hr1:Kd.C (Kd.int .u8) w A1 l1.length l1) (hc1:l1.length≤c1) (h:spec_l05Below.f k a0 l1=some r) :
  Calls Tryz.prog 37 #[.int .i64 a0,.slice A1 l1.length c1] w fun e w'=>e=.returned (.bool r)∧Drawn0 w w':=by
 have HR1:=am hr1;have HC1:=am hc1;clear hr1 hc1;have H:(spec_l05Below.l0 k a0 l1 0)=some r:=h;clear h;have H':=am H;clear H
 go_enter Tryz.func37,Tryz.ntmps37
 go_wp2
 go_loopg [5] k (fun kq v5 w'=>∃ (x5_1:Int),v5=.int .i64 x5_1∧Aside0 (spec_l05Below.l0 kq a0 l1 x5_1=some r)∧Aside0 (kq≤k)∧Drawn0 w w')
 case atStart=>exact ⟨(0),zq2,H',⟨Nat.le_refl _⟩,by repeat (first|exact Drawn0.refl _|apply Drawn0.step)⟩
 case round =>
  clear H';(try clear c1);(try clear p2);obtain ⟨x5_1,rfl,HA,HK1,⟨m1,rfl⟩⟩:=hrel
  cases gk with
  | zero=>exact absurd HA.out (by simp [spec_l05Below.l0])
  | succ k1 =>
   have H:=HA.out;clear HA;simp only [spec_l05Below.l0] at H
   by_cases c3:x5_1 < (l1.length:Int)
   ·rw [if_pos c3] at H;have c3b0:=decide_eq_true c3;clear c3
    by_cases c4:0≤x5_1
    ·rw [if_pos c4] at H;have c4b0:=decide_eq_true c4;clear c4
     by_cases c5:(wrap64 (rd l1 x5_1))≥a0
     ·rw [if_pos c5] at H;have c5b0:decide (a0≤(wrap64 (rd l1 x5_1)))=true:=decide_eq_true c5;clear c5;obtain rfl:=Option.some.inj H;have p101:0≤(x5_1:Int):=of_decide_eq_true zq4;have q101:x5_1 < (l1.length:Int):=of_decide_eq_true zq4;obtain ⟨ad101,e101,hx101_0⟩:=Kd.at_int HR1.out x5_1 p101 q101;cases e101;replace p101:=eq_true p101;replace q101:=eq_true q101
      go_wp2
      go_ret
      exact ⟨by first|rfl|(simp only [IntKind.wrap_i64,wrap64];done)|(simp;done)|(simp [*];done),by repeat (first|exact Drawn0.refl _|apply Drawn0.step)⟩
     ·rw [if_neg c5] at H;have c5b0:decide (a0≤(wrap64 (rd l1 x5_1)))=false:=decide_eq_false c5;clear c5;have H':=am H;clear H;have p101:0≤(x5_1:Int):=of_decide_eq_true zq4;have q101:x5_1 < (l1.length:Int):=of_decide_eq_true zq4;obtain ⟨ad101,e101,hx101_0⟩:=Kd.at_int HR1.out x5_1 p101 q101;cases e101;replace p101:=eq_true p101;replace q101:=eq_true q101
      go_wp2
      go_roundg k1
      case measure=>have:=HK1.out;omega
      case rel=>exact ⟨(wrap64 (x5_1 + 1)),zq2,H',⟨by have:=HK1.out;omega⟩,by repeat (first|exact Drawn0.refl _|apply Drawn0.step)⟩
    ·rw [if_neg c4] at H;exact absurd H (by simp)
   ·rw [if_neg c3] at H;have c3b0:=decide_eq_false c3;clear c3;obtain rfl:=Option.some.inj H
    go_wp2
    go_ret
    exact ⟨by first|rfl|(simp only [IntKind.wrap_i64,wrap64];done)|(simp;done)|(simp [*];done),by repeat (first|exact Drawn0.refl _|apply Drawn0.step)⟩
def spec_l05Word.l0:Nat→List Int→Int→Option (Bool)
 | 0,_,_=>none
 | k + 1,x0,x3=>if x3 < (x0.length:Int) then (if 0≤x3 then (if (rd x0 x3)≥37 then (some false) else (spec_l05Word.l0 k x0 (wrap64 (x3 + 1)))) else (none)) else ((spec_l00In.f (x0.length:Int) 1 8).bind fun t102=>(some t102))
def spec_l05Word.f (k:Nat) (l0:List Int):Option (Bool):=spec_l05Word.l0 k l0 0
set_option maxHeartbeats 8000000 in
set_option maxRecDepth 100000 in
theorem spec_l05Word.calls (k:Nat) (A0:Option Addr) (c0:Nat) (l0:List Int) (r:Bool) (w:World) (hr0:Kd.C (Kd.int .u8) w A0 l0.length l0) (hc0:l0.length≤c0) (h:spec_l05Word.f k l0=some r) :
  Calls Tryz.prog 36 #[.slice A0 l0.length c0] w fun e w'=>e=.returned (.bool r)∧Drawn0 w w':=by
 have HR0:=am hr0;have HC0:=am hc0;clear hr0 hc0;have H:(spec_l05Word.l0 k l0 0)=some r:=h;clear h;have H':=am H;clear H
 go_enter Tryz.func36,Tryz.ntmps36
 go_wp2
 go_loopg [3] k (fun kq v3 w'=>∃ (x3_1:Int),v3=.int .i64 x3_1∧Aside0 (spec_l05Word.l0 kq l0 x3_1=some r)∧Aside0 (kq≤k)∧Drawn0 w w')
 case atStart=>exact ⟨(0),zq2,H',⟨Nat.le_refl _⟩,by repeat (first|exact Drawn0.refl _|apply Drawn0.step)⟩
 case round =>
  clear H';obtain ⟨x3_1,rfl,HA,HK1,⟨m1,rfl⟩⟩:=hrel
  cases gk with
  | zero=>exact absurd HA.out (by simp [spec_l05Word.l0])
  | succ k1 =>
   have H:=HA.out;clear HA;simp only [spec_l05Word.l0] at H
   by_cases c2:x3_1 < (l0.length:Int)
   ·rw [if_pos c2] at H;have c2b0:=decide_eq_true c2;clear c2
    by_cases c3:0≤x3_1
    ·rw [if_pos c3] at H;have c3b0:=decide_eq_true c3;clear c3
     by_cases c4:(rd l0 x3_1)≥37
     ·rw [if_pos c4] at H;have c4b0:decide (37≤(rd l0 x3_1))=true:=decide_eq_true c4;clear c4;obtain rfl:=Option.some.inj H;have p101:0≤(x3_1:Int):=of_decide_eq_true zq4;have q101:x3_1 < (l0.length:Int):=of_decide_eq_true zq4;obtain ⟨ad101,e101,hx101_0⟩:=Kd.at_int HR0.out x3_1 p101 q101;cases e101;replace p101:=eq_true p101;replace q101:=eq_true q101
      go_wp2
      go_ret
      exact ⟨by first|rfl|(simp only [IntKind.wrap_i64,wrap64];done)|(simp;done)|(simp [*];done),by repeat (first|exact Drawn0.refl _|apply Drawn0.step)⟩
     ·rw [if_neg c4] at H;have c4b0:decide (37≤(rd l0 x3_1))=false:=decide_eq_false c4;clear c4;have H':=am H;clear H;have p101:0≤(x3_1:Int):=of_decide_eq_true zq4;have q101:x3_1 < (l0.length:Int):=of_decide_eq_true zq4;obtain ⟨ad101,e101,hx101_0⟩:=Kd.at_int HR0.out x3_1 p101 q101;cases e101;replace p101:=eq_true p101;replace q101:=eq_true q101
      go_wp2
      go_roundg k1
      case measure=>have:=HK1.out;omega
      case rel=>exact ⟨(wrap64 (x3_1 + 1)),zq2,H',⟨by have:=HK1.out;omega⟩,by repeat (first|exact Drawn0.refl _|apply Drawn0.step)⟩
    ·rw [if_neg c3] at H;exact absurd H (by simp)
   ·rw [if_neg c2] at H;have c2b0:=decide_eq_false c2;clear c2;replace H:=Option.bind_eq_some_iff.mp H;obtain ⟨t102,A50,H⟩:=H;replace H:(some t102)=some r:=H;have A5:=am A50;clear A50;obtain rfl:=Option.some.inj H
    go_wp2_with (first|((with_reducible refine gate_callee (f:=35) rfl ?_);refine goesL_ (some 17) rfl rfl Tryz.func35 zq10 rfl #[.int .i64 (l0.length:Int),.int .i64 1,.int .i64 8] rfl zq1 ?_;(with_reducible refine (spec_l00In.calls (l0.length:Int) 1 8 t102 _ A5.out).mono ?_);rintro e w' ⟨rfl,⟨nd,rfl⟩⟩;refine ⟨_,rfl,?_⟩))
    go_ret
    exact ⟨by first|rfl|(simp only [IntKind.wrap_i64,wrap64];done)|(simp;done)|(simp [*];done),by repeat (first|exact Drawn0.refl _|apply Drawn0.step)⟩
mutual
def spec_RankOfWord.j0:Nat→Int→List Int→Bool→Option (Int × Int)
 | 0,_,_,_=>none
 | k + 1,x0,x1,x19=>if x19=true then (some (0,1)) else (spec_RankOfWord.l0 k x0 x1 0 0)
def spec_RankOfWord.l0:Nat→Int→List Int→Int→Int→Option (Int × Int)
 | 0,_,_,_,_=>none
 | k + 1,x0,x1,x6,x7=>if x7 < (x1.length:Int) then (if 0≤x7 then (spec_RankOfWord.l0 k x0 x1 (wrap64 ((wrap64 (x6 * x0)) + (wrap64 (rd x1 x7)))) (wrap64 (x7 + 1))) else (none)) else (some (x6,0))
end
def spec_RankOfWord.f (k:Nat) (a0:Int) (l1:List Int):Option (Int × Int):=(spec_l00In.f a0 2 37).bind fun t101=>(if t101=true then ((spec_l05Word.f k l1).bind fun t102=>(if t102=true then ((spec_l05Below.f k a0 l1).bind fun t103=>(spec_RankOfWord.j0 k a0 l1 (!t103))) else (spec_RankOfWord.j0 k a0 l1 true))) else (some (0,2)))
set_option maxHeartbeats 8000000 in
set_option maxRecDepth 100000 in
theorem spec_RankOfWord.calls (k:Nat) (a0:Int) (A1:Option Addr) (c1:Nat) (l1:List Int) (r1:Int) (r2:Int) (w:World) (hr1:Kd.C (Kd.int .u8) w A1 l1.length l1) (hc1:l1.length≤c1) (h:spec_RankOfWord.f k a0 l1=some (r1,r2)) :
  Calls Tryz.prog 16 #[.int .i64 a0,.slice A1 l1.length c1] w fun e w'=>e=.returned (.tuple #[.int .i64 r1,.int .i64 r2])∧Drawn0 w w':=by
 have HR1:=am hr1;have HC1:=am hc1;clear hr1 hc1;have H:((spec_l00In.f a0 2 37).bind fun t101=>(if t101=true then ((spec_l05Word.f k l1).bind fun t102=>(if t102=true then ((spec_l05Below.f k a0 l1).bind fun t103=>(spec_RankOfWord.j0 k a0 l1 (!t103))) else (spec_RankOfWord.j0 k a0 l1 true))) else (some (0,2))))=some (r1,r2):=h;clear h;replace H:=Option.bind_eq_some_iff.mp H;obtain ⟨t101,A30,H⟩:=H;replace H:(if t101=true then ((spec_l05Word.f k l1).bind fun t102=>(if t102=true then ((spec_l05Below.f k a0 l1).bind fun t103=>(spec_RankOfWord.j0 k a0 l1 (!t103))) else (spec_RankOfWord.j0 k a0 l1 true))) else (some (0,2)))=some (r1,r2):=H;have A3:=am A30;clear A30
 by_cases c4:t101=true
 ·subst c4
  have H1:((spec_l05Word.f k l1).bind fun t102=>(if t102=true then ((spec_l05Below.f k a0 l1).bind fun t103=>(spec_RankOfWord.j0 k a0 l1 (!t103))) else (spec_RankOfWord.j0 k a0 l1 true)))=some (r1,r2):=by rw [if_pos rfl] at H;exact H
  clear H;have H:=H1;clear H1;have HC5:=am H;clear H
  go_enter Tryz.func16,Tryz.ntmps16
  go_upto_region 3 with (first|((with_reducible refine gate_callee (f:=35) rfl ?_);refine goesL_ (some 9) rfl rfl Tryz.func35 zq10 rfl #[.int .i64 a0,.int .i64 2,.int .i64 37] rfl zq1 ?_;(with_reducible refine (spec_l00In.calls a0 2 37 true _ A3.out).mono ?_);rintro e w' ⟨rfl,⟨nd,rfl⟩⟩;refine ⟨_,rfl,?_⟩))
  (try simp only [Act.put,List.setIfInBounds_toArray,List.set_cons_zero,List.set_cons_succ])
  go_cut [19] (fun v19 wc=>∃ (kq:Nat) (x19_4:Bool),v19=.bool x19_4∧Aside0 (spec_RankOfWord.j0 kq a0 l1 x19_4=some (r1,r2))∧Aside0 (kq≤k)∧Drawn0 w wc)
  case first =>
   have H:=HC5.out;clear HC5;replace H:=Option.bind_eq_some_iff.mp H;obtain ⟨t102,A60,H⟩:=H;replace H:(if t102=true then ((spec_l05Below.f k a0 l1).bind fun t103=>(spec_RankOfWord.j0 k a0 l1 (!t103))) else (spec_RankOfWord.j0 k a0 l1 true))=some (r1,r2):=H;have A6:=am A60;clear A60
   by_cases c7:t102=true
   ·subst c7
    have H1:((spec_l05Below.f k a0 l1).bind fun t103=>(spec_RankOfWord.j0 k a0 l1 (!t103)))=some (r1,r2):=by rw [if_pos rfl] at H;exact H
    clear H;have H:=H1;clear H1;replace H:=Option.bind_eq_some_iff.mp H;obtain ⟨t103,A80,H⟩:=H;replace H:(spec_RankOfWord.j0 k a0 l1 (!t103))=some (r1,r2):=H;have A8:=am A80;clear A80;have H':=am H;clear H
    go_wp2_with (first|((with_reducible refine gate_callee (f:=36) rfl ?_);refine goesL_ (some 12) rfl rfl Tryz.func36 zq10 rfl #[.slice A1 l1.length c1] rfl zq1 ?_;(with_reducible refine (spec_l05Word.calls k _ _ l1 true _ ?side1 ?side2 A6.out).mono ?_);(case side1=>exact zq3);(case side2=>exact HC1.out);rintro e w' ⟨rfl,⟨nd,rfl⟩⟩;refine ⟨_,rfl,?_⟩)|(go_at_call 37;(with_reducible refine (spec_l05Below.calls k a0 _ _ l1 t103 _ ?side1 ?side2 A8.out).mono ?_);(case side1=>exact zq3);(case side2=>exact HC1.out);rintro e w' ⟨rfl,⟨nd,rfl⟩⟩))
    go_meet
    case rel=>exact ⟨_,(!t103),zq2,H',⟨by first|omega|exact Nat.le_refl _⟩,by repeat (first|exact Drawn0.refl _|apply Drawn0.step)⟩
   ·replace c7:=Bool.eq_false_iff.mpr c7;subst c7
    have H1:(spec_RankOfWord.j0 k a0 l1 true)=some (r1,r2):=by rw [if_neg (show ¬ (false=true) by decide)] at H;exact H
    clear H;have H:=H1;clear H1;have H':=am H;clear H
    go_wp2_with (first|((with_reducible refine gate_callee (f:=36) rfl ?_);refine goesL_ (some 12) rfl rfl Tryz.func36 zq10 rfl #[.slice A1 l1.length c1] rfl zq1 ?_;(with_reducible refine (spec_l05Word.calls k _ _ l1 false _ ?side1 ?side2 A6.out).mono ?_);(case side1=>exact zq3);(case side2=>exact HC1.out);rintro e w' ⟨rfl,⟨nd,rfl⟩⟩;refine ⟨_,rfl,?_⟩))
    go_meet
    case rel=>exact ⟨_,(true),zq2,H',⟨by first|omega|exact Nat.le_refl _⟩,by repeat (first|exact Drawn0.refl _|apply Drawn0.step)⟩
  case rest =>
   clear HC5;(try clear c1);(try clear p2);(try clear c3);(try clear c4);(try clear c7);obtain ⟨kq,x19_4,rfl,HA,HJ4,⟨mc4,rfl⟩⟩:=hcut
   cases kq with
   | zero=>exact absurd HA.out (by simp [spec_RankOfWord.j0])
   | succ kj4 =>
    have H:=HA.out;clear HA;simp only [spec_RankOfWord.j0] at H
    by_cases c9:x19_4=true
    ·subst c9
     have H1:(some (0,1))=some (r1,r2):=by rw [if_pos rfl] at H;exact H
     clear H;have H:=H1;clear H1;simp only [Option.some.injEq,Prod.mk.injEq] at H;obtain ⟨rfl,rfl⟩:=H
     go_wp2
     go_ret2
     exact ⟨by first|rfl|(simp only [IntKind.wrap_i64,wrap64];done)|(simp;done)|(simp [*];done),by repeat (first|exact Drawn0.refl _|apply Drawn0.step)⟩
    ·replace c9:=Bool.eq_false_iff.mpr c9;subst c9
     have H1:(spec_RankOfWord.l0 kj4 a0 l1 0 0)=some (r1,r2):=by rw [if_neg (show ¬ (false=true) by decide)] at H;exact H
     clear H;have H:=H1;clear H1;have H':=am H;clear H
     go_wp2
     go_loopg [6,7] kj4 (fun kq v6 v7 w'=>∃ (x6_2:Int) (x7_2:Int),v6=.int .i64 x6_2∧v7=.int .i64 x7_2∧Aside0 (spec_RankOfWord.l0 kq a0 l1 x6_2 x7_2=some (r1,r2))∧Aside0 (kq≤kj4)∧Drawn0 w w')
     case atStart=>exact ⟨(0),(0),zq2,zq2,H',⟨Nat.le_refl _⟩,by repeat (first|exact Drawn0.refl _|apply Drawn0.step)⟩
     case round =>
      clear H';(try clear c1);(try clear p2);(try clear c3);(try clear c4);(try clear c7);(try clear c9);(try clear p2);obtain ⟨x6_2,x7_2,rfl,rfl,HA,HK2,⟨m2,rfl⟩⟩:=hrel
      cases gk with
      | zero=>exact absurd HA.out (by simp [spec_RankOfWord.l0])
      | succ k2 =>
       have H:=HA.out;clear HA;simp only [spec_RankOfWord.l0] at H
       by_cases c10:x7_2 < (l1.length:Int)
       ·rw [if_pos c10] at H;have c10b0:=decide_eq_true c10;clear c10
        by_cases c11:0≤x7_2
        ·rw [if_pos c11] at H;have c11b0:=decide_eq_true c11;clear c11;have H':=am H;clear H;have p104:0≤(x7_2:Int):=of_decide_eq_true zq4;have q104:x7_2 < (l1.length:Int):=of_decide_eq_true zq4;obtain ⟨ad104,e104,hx104_0⟩:=Kd.at_int HR1.out x7_2 p104 q104;cases e104;replace p104:=eq_true p104;replace q104:=eq_true q104
         go_wp2
         go_roundg k2
         case measure=>have:=HJ4.out;have:=HK2.out;omega
         case rel=>exact ⟨(wrap64 ((wrap64 (x6_2 * a0)) + (wrap64 (rd l1 x7_2)))),(wrap64 (x7_2 + 1)),zq2,zq2,H',⟨by have:=HJ4.out;have:=HK2.out;omega⟩,by repeat (first|exact Drawn0.refl _|apply Drawn0.step)⟩
        ·rw [if_neg c11] at H;exact absurd H (by simp)
       ·rw [if_neg c10] at H;have c10b0:=decide_eq_false c10;clear c10;simp only [Option.some.injEq,Prod.mk.injEq] at H;obtain ⟨rfl,rfl⟩:=H
        go_wp2
        go_ret2
        exact ⟨by first|rfl|(simp only [IntKind.wrap_i64,wrap64];done)|(simp;done)|(simp [*];done),by repeat (first|exact Drawn0.refl _|apply Drawn0.step)⟩
 ·replace c4:=Bool.eq_false_iff.mpr c4;subst c4
  have H1:(some (0,2))=some (r1,r2):=by rw [if_neg (show ¬ (false=true) by decide)] at H;exact H
  clear H;have H:=H1;clear H1;simp only [Option.some.injEq,Prod.mk.injEq] at H;obtain ⟨rfl,rfl⟩:=H
  go_enter Tryz.func16,Tryz.ntmps16
  go_wp2_with (first|((with_reducible refine gate_callee (f:=35) rfl ?_);refine goesL_ (some 9) rfl rfl Tryz.func35 zq10 rfl #[.int .i64 a0,.int .i64 2,.int .i64 37] rfl zq1 ?_;(with_reducible refine (spec_l00In.calls a0 2 37 false _ A3.out).mono ?_);rintro e w' ⟨rfl,⟨nd,rfl⟩⟩;refine ⟨_,rfl,?_⟩))
  go_ret2
  exact ⟨by first|rfl|(simp only [IntKind.wrap_i64,wrap64];done)|(simp;done)|(simp [*];done),by repeat (first|exact Drawn0.refl _|apply Drawn0.step)⟩
def spec_l05Prime.l0:Nat→Int→Int→Option (Bool)
 | 0,_,_=>none
 | k + 1,x0,x3=>if x3 < x0 then (if x3=0 then (none) else (if (Int.tmod x0 x3)=0 then (some false) else (spec_l05Prime.l0 k x0 (wrap64 (x3 + 1))))) else (some true)
def spec_l05Prime.f (k:Nat) (a0:Int):Option (Bool):=(spec_l00In.f a0 3 37).bind fun t101=>(if t101=true then (spec_l05Prime.l0 k a0 2) else (some false))
set_option maxHeartbeats 8000000 in
set_option maxRecDepth 100000 in
theorem spec_l05Prime.calls (k:Nat) (a0:Int) (r:Bool) (w:World) (h:spec_l05Prime.f k a0=some r) :
  Calls Tryz.prog 48 #[.int .i64 a0] w fun e w'=>e=.returned (.bool r)∧Drawn0 w w':=by
 have H:((spec_l00In.f a0 3 37).bind fun t101=>(if t101=true then (spec_l05Prime.l0 k a0 2) else (some false)))=some r:=h;clear h;replace H:=Option.bind_eq_some_iff.mp H;obtain ⟨t101,A20,H⟩:=H;replace H:(if t101=true then (spec_l05Prime.l0 k a0 2) else (some false))=some r:=H;have A2:=am A20;clear A20
 by_cases c3:t101=true
 ·subst c3
  have H1:(spec_l05Prime.l0 k a0 2)=some r:=by rw [if_pos rfl] at H;exact H
  clear H;have H:=H1;clear H1;have H':=am H;clear H
  go_enter Tryz.func48,Tryz.ntmps48
  go_wp2_with (first|((with_reducible refine gate_callee (f:=35) rfl ?_);refine goesL_ (some 5) rfl rfl Tryz.func35 zq10 rfl #[.int .i64 a0,.int .i64 3,.int .i64 37] rfl zq1 ?_;(with_reducible refine (spec_l00In.calls a0 3 37 true _ A2.out).mono ?_);rintro e w' ⟨rfl,⟨nd,rfl⟩⟩;refine ⟨_,rfl,?_⟩))
  go_loopg [3] k (fun kq v3 w'=>∃ (x3_1:Int),v3=.int .i64 x3_1∧Aside0 (spec_l05Prime.l0 kq a0 x3_1=some r)∧Aside0 (kq≤k)∧Drawn0 w w')
  case atStart=>exact ⟨(2),zq2,H',⟨Nat.le_refl _⟩,by repeat (first|exact Drawn0.refl _|apply Drawn0.step)⟩
  case round =>
   clear H';(try clear p2);(try clear c3);obtain ⟨x3_1,rfl,HA,HK1,⟨m1,rfl⟩⟩:=hrel
   cases gk with
   | zero=>exact absurd HA.out (by simp [spec_l05Prime.l0])
   | succ k1 =>
    have H:=HA.out;clear HA;simp only [spec_l05Prime.l0] at H
    by_cases c4:x3_1 < a0
    ·rw [if_pos c4] at H;have c4b0:=decide_eq_true c4;clear c4
     by_cases c5:x3_1=0
     ·rw [if_pos c5] at H;exact absurd H (by simp)
     ·rw [if_neg c5] at H;have c5b0:=beq_eq_false_iff_ne.mpr c5;have c5b1:=bne_iff_ne.mpr c5
      by_cases c6:(Int.tmod a0 x3_1)=0
      ·rw [if_pos c6] at H;have c6b0:=beq_iff_eq.mpr c6;have c6b1:=bne_eq_false_iff_eq.mpr c6;clear c6;obtain rfl:=Option.some.inj H
       go_wp2
       go_ret
       exact ⟨by first|rfl|(simp only [IntKind.wrap_i64,wrap64];done)|(simp;done)|(simp [*];done),by repeat (first|exact Drawn0.refl _|apply Drawn0.step)⟩
      ·rw [if_neg c6] at H;have c6b0:=beq_eq_false_iff_ne.mpr c6;have c6b1:=bne_iff_ne.mpr c6;have H':=am H;clear H
       go_wp2
       go_roundg k1
       case measure=>have:=HK1.out;omega
       case rel=>exact ⟨(wrap64 (x3_1 + 1)),zq2,H',⟨by have:=HK1.out;omega⟩,by repeat (first|exact Drawn0.refl _|apply Drawn0.step)⟩
    ·rw [if_neg c4] at H;have c4b0:=decide_eq_false c4;clear c4;obtain rfl:=Option.some.inj H
     go_wp2
     go_ret
     exact ⟨by first|rfl|(simp only [IntKind.wrap_i64,wrap64];done)|(simp;done)|(simp [*];done),by repeat (first|exact Drawn0.refl _|apply Drawn0.step)⟩
 ·replace c3:=Bool.eq_false_iff.mpr c3;subst c3
  have H1:(some false)=some r:=by rw [if_neg (show ¬ (false=true) by decide)] at H;exact H
  clear H;have H:=H1;clear H1;obtain rfl:=Option.some.inj H
  go_enter Tryz.func48,Tryz.ntmps48
  go_wp2_with (first|((with_reducible refine gate_callee (f:=35) rfl ?_);refine goesL_ (some 5) rfl rfl Tryz.func35 zq10 rfl #[.int .i64 a0,.int .i64 3,.int .i64 37] rfl zq1 ?_;(with_reducible refine (spec_l00In.calls a0 3 37 false _ A2.out).mono ?_);rintro e w' ⟨rfl,⟨nd,rfl⟩⟩;refine ⟨_,rfl,?_⟩))
  go_ret
  exact ⟨by first|rfl|(simp only [IntKind.wrap_i64,wrap64];done)|(simp;done)|(simp [*];done),by repeat (first|exact Drawn0.refl _|apply Drawn0.step)⟩
def spec_l05Checked.f (k:Nat) (a0:Int) (l1:List Int):Option (Int):=(spec_l05Prime.f k a0).bind fun t101=>(if t101=true then ((spec_l05Word.f k l1).bind fun t102=>(if t102=true then ((spec_l05Below.f k a0 l1).bind fun t103=>(if t103=true then (if (l1.length:Int) > (wrap64 (a0 - 1)) then (some 1) else (some 0)) else (some 1))) else (some 1))) else (some 2))
set_option maxHeartbeats 8000000 in
set_option maxRecDepth 100000 in
theorem spec_l05Checked.calls (k:Nat) (a0:Int) (A1:Option Addr) (c1:Nat) (l1:List Int) (r:Int) (w:World) (hr1:Kd.C (Kd.int .u8) w A1 l1.length l1) (hc1:l1.length≤c1) (h:spec_l05Checked.f k a0 l1=some r) :
  Calls Tryz.prog 27 #[.int .i64 a0,.slice A1 l1.length c1] w fun e w'=>e=.returned (.int .i64 r)∧Drawn0 w w':=by
 have HR1:=am hr1;have HC1:=am hc1;clear hr1 hc1;have H:((spec_l05Prime.f k a0).bind fun t101=>(if t101=true then ((spec_l05Word.f k l1).bind fun t102=>(if t102=true then ((spec_l05Below.f k a0 l1).bind fun t103=>(if t103=true then (if (l1.length:Int) > (wrap64 (a0 - 1)) then (some 1) else (some 0)) else (some 1))) else (some 1))) else (some 2)))=some r:=h;clear h;replace H:=Option.bind_eq_some_iff.mp H;obtain ⟨t101,A30,H⟩:=H;replace H:(if t101=true then ((spec_l05Word.f k l1).bind fun t102=>(if t102=true then ((spec_l05Below.f k a0 l1).bind fun t103=>(if t103=true then (if (l1.length:Int) > (wrap64 (a0 - 1)) then (some 1) else (some 0)) else (some 1))) else (some 1))) else (some 2))=some r:=H;have A3:=am A30;clear A30
 by_cases c4:t101=true
 ·subst c4
  have H1:((spec_l05Word.f k l1).bind fun t102=>(if t102=true then ((spec_l05Below.f k a0 l1).bind fun t103=>(if t103=true then (if (l1.length:Int) > (wrap64 (a0 - 1)) then (some 1) else (some 0)) else (some 1))) else (some 1)))=some r:=by rw [if_pos rfl] at H;exact H
  clear H;have H:=H1;clear H1;replace H:=Option.bind_eq_some_iff.mp H;obtain ⟨t102,A50,H⟩:=H;replace H:(if t102=true then ((spec_l05Below.f k a0 l1).bind fun t103=>(if t103=true then (if (l1.length:Int) > (wrap64 (a0 - 1)) then (some 1) else (some 0)) else (some 1))) else (some 1))=some r:=H;have A5:=am A50;clear A50
  by_cases c6:t102=true
  ·subst c6
   have H1:((spec_l05Below.f k a0 l1).bind fun t103=>(if t103=true then (if (l1.length:Int) > (wrap64 (a0 - 1)) then (some 1) else (some 0)) else (some 1)))=some r:=by rw [if_pos rfl] at H;exact H
   clear H;have H:=H1;clear H1;replace H:=Option.bind_eq_some_iff.mp H;obtain ⟨t103,A70,H⟩:=H;replace H:(if t103=true then (if (l1.length:Int) > (wrap64 (a0 - 1)) then (some 1) else (some 0)) else (some 1))=some r:=H;have A7:=am A70;clear A70
   by_cases c8:t103=true
   ·subst c8
    have H1:(if (l1.length:Int) > (wrap64 (a0 - 1)) then (some 1) else (some 0))=some r:=by rw [if_pos rfl] at H;exact H
    clear H;have H:=H1;clear H1
    by_cases c9:(l1.length:Int) > (wrap64 (a0 - 1))
    ·rw [if_pos c9] at H;have c9b0:decide ((wrap64 (a0 - 1)) < (l1.length:Int))=true:=decide_eq_true c9;clear c9;obtain rfl:=Option.some.inj H
     go_enter Tryz.func27,Tryz.ntmps27
     go_wp2_with (first|((with_reducible refine gate_callee (f:=48) rfl ?_);refine goesL_ (some 6) rfl rfl Tryz.func48 zq10 rfl #[.int .i64 a0] rfl zq1 ?_;(with_reducible refine (spec_l05Prime.calls k a0 true _ A3.out).mono ?_);rintro e w' ⟨rfl,⟨nd,rfl⟩⟩;refine ⟨_,rfl,?_⟩)|((with_reducible refine gate_callee (f:=36) rfl ?_);refine goesL_ (some 9) rfl rfl Tryz.func36 zq10 rfl #[.slice A1 l1.length c1] rfl zq1 ?_;(with_reducible refine (spec_l05Word.calls k _ _ l1 true _ ?side1 ?side2 A5.out).mono ?_);(case side1=>exact zq3);(case side2=>exact HC1.out);rintro e w' ⟨rfl,⟨nd,rfl⟩⟩;refine ⟨_,rfl,?_⟩)|(go_at_call 37;(with_reducible refine (spec_l05Below.calls k a0 _ _ l1 true _ ?side1 ?side2 A7.out).mono ?_);(case side1=>exact zq3);(case side2=>exact HC1.out);rintro e w' ⟨rfl,⟨nd,rfl⟩⟩))
     go_ret
     exact ⟨by first|rfl|(simp only [IntKind.wrap_i64,wrap64];done)|(simp;done)|(simp [*];done),by repeat (first|exact Drawn0.refl _|apply Drawn0.step)⟩
    ·rw [if_neg c9] at H;have c9b0:decide ((wrap64 (a0 - 1)) < (l1.length:Int))=false:=decide_eq_false c9;clear c9;obtain rfl:=Option.some.inj H
     go_enter Tryz.func27,Tryz.ntmps27
     go_wp2_with (first|((with_reducible refine gate_callee (f:=48) rfl ?_);refine goesL_ (some 6) rfl rfl Tryz.func48 zq10 rfl #[.int .i64 a0] rfl zq1 ?_;(with_reducible refine (spec_l05Prime.calls k a0 true _ A3.out).mono ?_);rintro e w' ⟨rfl,⟨nd,rfl⟩⟩;refine ⟨_,rfl,?_⟩)|((with_reducible refine gate_callee (f:=36) rfl ?_);refine goesL_ (some 9) rfl rfl Tryz.func36 zq10 rfl #[.slice A1 l1.length c1] rfl zq1 ?_;(with_reducible refine (spec_l05Word.calls k _ _ l1 true _ ?side1 ?side2 A5.out).mono ?_);(case side1=>exact zq3);(case side2=>exact HC1.out);rintro e w' ⟨rfl,⟨nd,rfl⟩⟩;refine ⟨_,rfl,?_⟩)|(go_at_call 37;(with_reducible refine (spec_l05Below.calls k a0 _ _ l1 true _ ?side1 ?side2 A7.out).mono ?_);(case side1=>exact zq3);(case side2=>exact HC1.out);rintro e w' ⟨rfl,⟨nd,rfl⟩⟩))
     go_ret
     exact ⟨by first|rfl|(simp only [IntKind.wrap_i64,wrap64];done)|(simp;done)|(simp [*];done),by repeat (first|exact Drawn0.refl _|apply Drawn0.step)⟩
   ·replace c8:=Bool.eq_false_iff.mpr c8;subst c8
    have H1:(some 1)=some r:=by rw [if_neg (show ¬ (false=true) by decide)] at H;exact H
    clear H;have H:=H1;clear H1;obtain rfl:=Option.some.inj H
    go_enter Tryz.func27,Tryz.ntmps27
    go_wp2_with (first|((with_reducible refine gate_callee (f:=48) rfl ?_);refine goesL_ (some 6) rfl rfl Tryz.func48 zq10 rfl #[.int .i64 a0] rfl zq1 ?_;(with_reducible refine (spec_l05Prime.calls k a0 true _ A3.out).mono ?_);rintro e w' ⟨rfl,⟨nd,rfl⟩⟩;refine ⟨_,rfl,?_⟩)|((with_reducible refine gate_callee (f:=36) rfl ?_);refine goesL_ (some 9) rfl rfl Tryz.func36 zq10 rfl #[.slice A1 l1.length c1] rfl zq1 ?_;(with_reducible refine (spec_l05Word.calls k _ _ l1 true _ ?side1 ?side2 A5.out).mono ?_);(case side1=>exact zq3);(case side2=>exact HC1.out);rintro e w' ⟨rfl,⟨nd,rfl⟩⟩;refine ⟨_,rfl,?_⟩)|(go_at_call 37;(with_reducible refine (spec_l05Below.calls k a0 _ _ l1 false _ ?side1 ?side2 A7.out).mono ?_);(case side1=>exact zq3);(case side2=>exact HC1.out);rintro e w' ⟨rfl,⟨nd,rfl⟩⟩))
    go_ret
    exact ⟨by first|rfl|(simp only [IntKind.wrap_i64,wrap64];done)|(simp;done)|(simp [*];done),by repeat (first|exact Drawn0.refl _|apply Drawn0.step)⟩
  ·replace c6:=Bool.eq_false_iff.mpr c6;subst c6
   have H1:(some 1)=some r:=by rw [if_neg (show ¬ (false=true) by decide)] at H;exact H
   clear H;have H:=H1;clear H1;obtain rfl:=Option.some.inj H
   go_enter Tryz.func27,Tryz.ntmps27
   go_wp2_with (first|((with_reducible refine gate_callee (f:=48) rfl ?_);refine goesL_ (some 6) rfl rfl Tryz.func48 zq10 rfl #[.int .i64 a0] rfl zq1 ?_;(with_reducible refine (spec_l05Prime.calls k a0 true _ A3.out).mono ?_);rintro e w' ⟨rfl,⟨nd,rfl⟩⟩;refine ⟨_,rfl,?_⟩)|((with_reducible refine gate_callee (f:=36) rfl ?_);refine goesL_ (some 9) rfl rfl Tryz.func36 zq10 rfl #[.slice A1 l1.length c1] rfl zq1 ?_;(with_reducible refine (spec_l05Word.calls k _ _ l1 false _ ?side1 ?side2 A5.out).mono ?_);(case side1=>exact zq3);(case side2=>exact HC1.out);rintro e w' ⟨rfl,⟨nd,rfl⟩⟩;refine ⟨_,rfl,?_⟩))
   go_ret
   exact ⟨by first|rfl|(simp only [IntKind.wrap_i64,wrap64];done)|(simp;done)|(simp [*];done),by repeat (first|exact Drawn0.refl _|apply Drawn0.step)⟩
 ·replace c4:=Bool.eq_false_iff.mpr c4;subst c4
  have H1:(some 2)=some r:=by rw [if_neg (show ¬ (false=true) by decide)] at H;exact H
  clear H;have H:=H1;clear H1;obtain rfl:=Option.some.inj H
  go_enter Tryz.func27,Tryz.ntmps27
  go_wp2_with (first|((with_reducible refine gate_callee (f:=48) rfl ?_);refine goesL_ (some 6) rfl rfl Tryz.func48 zq10 rfl #[.int .i64 a0] rfl zq1 ?_;(with_reducible refine (spec_l05Prime.calls k a0 false _ A3.out).mono ?_);rintro e w' ⟨rfl,⟨nd,rfl⟩⟩;refine ⟨_,rfl,?_⟩))
  go_ret
  exact ⟨by first|rfl|(simp only [IntKind.wrap_i64,wrap64];done)|(simp;done)|(simp [*];done),by repeat (first|exact Drawn0.refl _|apply Drawn0.step)⟩
def spec_l05Mod.f (a0:Int) (a1:Int):Option (Int):=if a1=0 then (none) else (some (Int.tmod (wrap64 ((Int.tmod a0 a1) + a1)) a1))
set_option maxHeartbeats 8000000 in
set_option maxRecDepth 100000 in
theorem spec_l05Mod.calls (a0:Int) (a1:Int) (r:Int) (w:World) (h:spec_l05Mod.f a0 a1=some r) :
  Calls Tryz.prog 29 #[.int .i64 a0,.int .i64 a1] w fun e w'=>e=.returned (.int .i64 r)∧Drawn0 w w':=by
 have H:(if a1=0 then (none) else (some (Int.tmod (wrap64 ((Int.tmod a0 a1) + a1)) a1)))=some r:=h;clear h
 by_cases c3:a1=0
 ·rw [if_pos c3] at H;exact absurd H (by simp)
 ·rw [if_neg c3] at H;have c3b0:=beq_eq_false_iff_ne.mpr c3;have c3b1:=bne_iff_ne.mpr c3;obtain rfl:=Option.some.inj H
  go_enter Tryz.func29,Tryz.ntmps29
  go_wp2
  go_ret
  exact ⟨by first|rfl|(simp only [IntKind.wrap_i64,wrap64];done)|(simp;done)|(simp [*];done),by repeat (first|exact Drawn0.refl _|apply Drawn0.step)⟩
def spec_l05Syndromes.l0:Nat→Int→List Int→Int→Int→Int→Option (Int × Int)
 | 0,_,_,_,_,_=>none
 | k + 1,x0,x1,x6,x7,x8=>if x8 < (x1.length:Int) then (if 0≤x8 then (spec_l05Syndromes.l0 k x0 x1 (wrap64 (x6 + (wrap64 (rd x1 x8)))) (wrap64 (x7 + (wrap64 ((wrap64 (x8 + 1)) * (wrap64 (rd x1 x8)))))) (wrap64 (x8 + 1))) else (none)) else (if x0=0 then (none) else (some (Int.tmod x6 x0,Int.tmod x7 x0)))
def spec_l05Syndromes.f (k:Nat) (a0:Int) (l1:List Int):Option (Int × Int):=spec_l05Syndromes.l0 k a0 l1 0 0 0
set_option maxHeartbeats 8000000 in
set_option maxRecDepth 100000 in
theorem spec_l05Syndromes.calls (k:Nat) (a0:Int) (A1:Option Addr) (c1:Nat) (l1:List Int) (r1:Int) (r2:Int) (w:World) (hr1:Kd.C (Kd.int .u8) w A1 l1.length l1) (hc1:l1.length≤c1) (h:spec_l05Syndromes.f k a0 l1=some (r1,r2)) :
  Calls Tryz.prog 28 #[.int .i64 a0,.slice A1 l1.length c1] w fun e w'=>e=.returned (.tuple #[.int .i64 r1,.int .i64 r2])∧Drawn0 w w':=by
 have HR1:=am hr1;have HC1:=am hc1;clear hr1 hc1;have H:(spec_l05Syndromes.l0 k a0 l1 0 0 0)=some (r1,r2):=h;clear h;have H':=am H;clear H
 go_enter Tryz.func28,Tryz.ntmps28
 go_wp2
 repeat (go_quiet (fail);try go_wp2)
 go_loopg [6,7,8] k (fun kq v6 v7 v8 w'=>∃ (x6_1:Int) (x7_1:Int) (x8_1:Int),v6=.int .i64 x6_1∧v7=.int .i64 x7_1∧v8=.int .i64 x8_1∧Aside0 (spec_l05Syndromes.l0 kq a0 l1 x6_1 x7_1 x8_1=some (r1,r2))∧Aside0 (kq≤k)∧Drawn0 w w')
 case atStart=>exact ⟨(0),(0),(0),zq2,zq2,zq2,H',⟨Nat.le_refl _⟩,by repeat (first|exact Drawn0.refl _|apply Drawn0.step)⟩
 case round =>
  clear H';(try clear c1);(try clear c2);(try clear p2);obtain ⟨x6_1,x7_1,x8_1,rfl,rfl,rfl,HA,HK1,⟨m1,rfl⟩⟩:=hrel
  cases gk with
  | zero=>exact absurd HA.out (by simp [spec_l05Syndromes.l0])
  | succ k1 =>
   have H:=HA.out;clear HA;simp only [spec_l05Syndromes.l0] at H
   by_cases c3:x8_1 < (l1.length:Int)
   ·rw [if_pos c3] at H;have c3b0:=decide_eq_true c3;clear c3
    by_cases c4:0≤x8_1
    ·rw [if_pos c4] at H;have c4b0:=decide_eq_true c4;clear c4;have H':=am H;clear H;have p101:0≤(x8_1:Int):=of_decide_eq_true zq4;have q101:x8_1 < (l1.length:Int):=of_decide_eq_true zq4;obtain ⟨ad101,e101,hx101_0⟩:=Kd.at_int HR1.out x8_1 p101 q101;cases e101;replace p101:=eq_true p101;replace q101:=eq_true q101;have p102:0≤(x8_1:Int):=of_decide_eq_true zq4;have q102:x8_1 < (l1.length:Int):=of_decide_eq_true zq4;obtain ⟨ad102,e102,hx102_0⟩:=Kd.at_int HR1.out x8_1 p102 q102;obtain rfl:ad101=ad102:=(by injection e102);replace p102:=eq_true p102;replace q102:=eq_true q102
     go_wp2
     repeat (go_quiet (fail);try go_wp2)
     go_roundg k1
     case measure=>have:=HK1.out;omega
     case rel=>exact ⟨(wrap64 (x6_1 + (wrap64 (rd l1 x8_1)))),(wrap64 (x7_1 + (wrap64 ((wrap64 (x8_1 + 1)) * (wrap64 (rd l1 x8_1)))))),(wrap64 (x8_1 + 1)),zq2,zq2,zq2,H',⟨by have:=HK1.out;omega⟩,by repeat (first|exact Drawn0.refl _|apply Drawn0.step)⟩
    ·rw [if_neg c4] at H;exact absurd H (by simp)
   ·rw [if_neg c3] at H;have c3b0:=decide_eq_false c3;clear c3
    by_cases c5:a0=0
    ·rw [if_pos c5] at H;exact absurd H (by simp)
    ·rw [if_neg c5] at H;have c5b0:=beq_eq_false_iff_ne.mpr c5;have c5b1:=bne_iff_ne.mpr c5;simp only [Option.some.injEq,Prod.mk.injEq] at H;obtain ⟨rfl,rfl⟩:=H
     go_wp2
     repeat (go_quiet (fail);try go_wp2)
     go_ret2
     exact ⟨by first|rfl|(simp only [IntKind.wrap_i64,wrap64];done)|(simp;done)|(simp [*];done),by repeat (first|exact Drawn0.refl _|apply Drawn0.step)⟩
mutual
def spec_RepairWord.j0:Nat→Int→List Int→Int→Int→List Int→Bool→Option (List Int × Int × Int)
 | 0,_,_,_,_,_,_=>none
 | k + 1,x0,x1,x8,x9,x10,x33=>if x33=true then (some (x10,(-1),0)) else (spec_RepairWord.l0 k x0 x1 x8 x9 x10 0)
def spec_RepairWord.l0:Nat→Int→List Int→Int→Int→List Int→Int→Option (List Int × Int × Int)
 | 0,_,_,_,_,_,_=>none
 | k + 1,x0,x1,x8,x9,x10,x11=>if x11 < (x1.length:Int) then (spec_RepairWord.j2 k x0 x1 x8 x9 x10 x11 (x8 != 0)) else (spec_RepairWord.j2 k x0 x1 x8 x9 x10 x11 false)
def spec_RepairWord.j2:Nat→Int→List Int→Int→Int→List Int→Int→Bool→Option (List Int × Int × Int)
 | 0,_,_,_,_,_,_,_=>none
 | k + 1,x0,x1,x8,x9,x10,x11,x42=>if x42=true then ((spec_l05Mod.f (wrap64 ((wrap64 ((wrap64 (x11 + 1)) * x8)) - x9)) x0).bind fun t116=>(if t116=0 then (if 0≤x11 then (if x11 < (x1.length:Int) then ((spec_l05Mod.f (wrap64 ((wrap64 (rd x1 x11)) - x8)) x0).bind fun t118=>(if x11 < (x10.length:Int) then (some ((x10.set (x11:Int).toNat ((t118) % 256)),x11,0)) else (none))) else (none)) else (none)) else (spec_RepairWord.l0 k x0 x1 x8 x9 x10 (wrap64 (x11 + 1))))) else (some ((([]:List Int)),0,8))
end
def spec_RepairWord.f (k:Nat) (a0:Int) (l1:List Int):Option (List Int × Int × Int):=(spec_l05Checked.f k a0 l1).bind fun t101=>(if t101=0 then ((spec_l05Syndromes.f k a0 l1).bind fun bt105=>((some (([]:List Int):List Int)).bind fun y107=>(if y107.length + l1.length < 140737488355328 then ((some (y107 ++ l1:List Int)).bind fun y110=>(if bt105.1=0 then (spec_RepairWord.j0 k a0 l1 bt105.1 bt105.2 y110 (bt105.2 == 0)) else (spec_RepairWord.j0 k a0 l1 bt105.1 bt105.2 y110 false))) else (none)))) else (some ((([]:List Int)),0,t101)))
set_option maxHeartbeats 8000000 in
set_option maxRecDepth 100000 in
theorem spec_RepairWord.calls (k:Nat) (a0:Int) (A1:Option Addr) (c1:Nat) (l1:List Int) (r1:List Int) (r2:Int) (r3:Int) (w:World) (hr1:Kd.C (Kd.int .u8) w A1 l1.length l1) (hc1:l1.length≤c1) (h:spec_RepairWord.f k a0 l1=some (r1,r2,r3)) :
  Calls Tryz.prog 14 #[.int .i64 a0,.slice A1 l1.length c1] w fun e w'=>∃ v0_:Value,e=.returned (.tuple #[v0_,.int .i64 r2,.int .i64 r3])∧Kd.R (Kd.int .u8) 5 w' w.heap.size (fun _=>True) v0_ r1∧Below w.heap.size w w':=by
 have HR1:=am hr1;have HC1:=am hc1;clear hr1 hc1;have HB:=am (Below.refl w.heap.size w);have H:((spec_l05Checked.f k a0 l1).bind fun t101=>(if t101=0 then ((spec_l05Syndromes.f k a0 l1).bind fun bt105=>((some (([]:List Int):List Int)).bind fun y107=>(if y107.length + l1.length < 140737488355328 then ((some (y107 ++ l1:List Int)).bind fun y110=>(if bt105.1=0 then (spec_RepairWord.j0 k a0 l1 bt105.1 bt105.2 y110 (bt105.2 == 0)) else (spec_RepairWord.j0 k a0 l1 bt105.1 bt105.2 y110 false))) else (none)))) else (some ((([]:List Int)),0,t101))))=some (r1,r2,r3):=h;clear h;replace H:=Option.bind_eq_some_iff.mp H;obtain ⟨t101,A30,H⟩:=H;replace H:(if t101=0 then ((spec_l05Syndromes.f k a0 l1).bind fun bt105=>((some (([]:List Int):List Int)).bind fun y107=>(if y107.length + l1.length < 140737488355328 then ((some (y107 ++ l1:List Int)).bind fun y110=>(if bt105.1=0 then (spec_RepairWord.j0 k a0 l1 bt105.1 bt105.2 y110 (bt105.2 == 0)) else (spec_RepairWord.j0 k a0 l1 bt105.1 bt105.2 y110 false))) else (none)))) else (some ((([]:List Int)),0,t101)))=some (r1,r2,r3):=H;have A3:=am A30;clear A30
 by_cases c4:t101=0
 ·rw [if_pos c4] at H;have c4b0:=beq_iff_eq.mpr c4;have c4b1:=bne_eq_false_iff_eq.mpr c4;clear c4;replace H:=Option.bind_eq_some_iff.mp H;obtain ⟨⟨t105,t106⟩,A50,H⟩:=H;replace H:((some (([]:List Int):List Int)).bind fun y107=>(if y107.length + l1.length < 140737488355328 then ((some (y107 ++ l1:List Int)).bind fun y110=>(if t105=0 then (spec_RepairWord.j0 k a0 l1 t105 t106 y110 (t106 == 0)) else (spec_RepairWord.j0 k a0 l1 t105 t106 y110 false))) else (none)))=some (r1,r2,r3):=H;have A5:=am A50;clear A50;obtain ⟨y107,hy107⟩:∃ y_:List Int,y_=(([]:List Int)):=⟨_,rfl⟩
  replace H:(if y107.length + l1.length < 140737488355328 then ((some (y107 ++ l1:List Int)).bind fun y110=>(if t105=0 then (spec_RepairWord.j0 k a0 l1 t105 t106 y110 (t106 == 0)) else (spec_RepairWord.j0 k a0 l1 t105 t106 y110 false))) else (none))=some (r1,r2,r3):=by first|(rw [hy107];with_reducible exact H)|(have H2_:=(Option.bind_some _ _).symm.trans H;rw [hy107];with_reducible exact H2_)|(have H2_:=(Option.bind_some _ _).symm.trans H;with_reducible exact H2_)|with_reducible exact H|(rw [hy107];exact H)|exact H
  have Ny107:=am hy107;clear hy107
  by_cases c6:y107.length + l1.length < 140737488355328
  ·rw [if_pos c6] at H;have LMc6:=am c6;clear c6;obtain ⟨y110,hy110⟩:∃ y_:List Int,y_=(y107 ++ l1):=⟨_,rfl⟩
   replace H:(if t105=0 then (spec_RepairWord.j0 k a0 l1 t105 t106 y110 (t106 == 0)) else (spec_RepairWord.j0 k a0 l1 t105 t106 y110 false))=some (r1,r2,r3):=by first|(rw [hy110];with_reducible exact H)|(have H2_:=(Option.bind_some _ _).symm.trans H;rw [hy110];with_reducible exact H2_)|(have H2_:=(Option.bind_some _ _).symm.trans H;with_reducible exact H2_)|with_reducible exact H|(rw [hy110];exact H)|exact H
   have Ny110:=am hy110;clear hy110;have HC7:=am H;clear H
   go_enter Tryz.func14,Tryz.ntmps14
   go_upto_region 6 with (first|((with_reducible refine gate_callee (f:=27) rfl ?_);refine goesL_ (some 14) rfl rfl Tryz.func27 zq10 rfl #[.int .i64 a0,.slice A1 l1.length c1] rfl zq1 ?_;(with_reducible refine (spec_l05Checked.calls k a0 _ _ l1 t101 _ ?side1 ?side2 A3.out).mono ?_);(case side1=>exact zq3);(case side2=>exact HC1.out);rintro e w' ⟨rfl,⟨nd,rfl⟩⟩;refine ⟨_,rfl,?_⟩)|((with_reducible refine gate_callee (f:=28) rfl ?_);refine goesL_ (some 22) rfl rfl Tryz.func28 zq10 rfl #[.int .i64 a0,.slice A1 l1.length c1] rfl zq1 ?_;(with_reducible refine (spec_l05Syndromes.calls k a0 _ _ l1 t105 t106 _ ?side1 ?side2 A5.out).mono ?_);(case side1=>exact zq3);(case side2=>exact HC1.out);rintro e w' ⟨rfl,⟨nd,rfl⟩⟩;refine ⟨_,rfl,?_⟩)|((with_reducible refine gate_dst (N:=25) rfl ?_);refine Kd.R_lit (Kd.int .u8) _ 5 ?hg (N:=25) ?hd (xs:=([]:List Int)) (inner:=[]) (ok:=fun _=>True) (okp:=fun _=>True) ?hr ?hp (fun _ hk=>hk) trivial (Below.refl _ _) (Nat.le_refl _) (by simp) ?_;(case hd=>rfl);(case hg=>rfl);(case hr=>exact zq14);(case hp=>exact (Reps.none _ _));intro v108 w8 ho9 hb hg_ hnew_;clear hg_ hnew_;(first|rw [← Ny107.out] at ho9|(simp only [Int.reduceToNat] at ho9;rw [← Ny107.out] at ho9));have n0_:=am (Kd.R_lower ho9 (below_size zq0));have n1_:=am (below_step zq0 hb);clear HB;have HO109:=n0_;have HB:=n1_;clear n0_ n1_;clear hb ho9)|((with_reducible refine gate_builtin (b:=.append) (xs:=#[.tmp 25,.tmp 26]) rfl ?_);at_builtin;refine Kd.R_append_rows (Kd.int .u8) (w0:=w) w.heap.size rfl (.tmp 25) (.tmp 26) 26 5 (.int .u8 0) 1 rfl Tryz.underlying26 info5 rfl (by decide) (by omega) v108 y107 l1 _ _ _ (fun _=>True) (fun _=>False) rfl rfl ?aO ?aR (fun _ _ h=>h) (fun _ h=>h.elim) ?aF ?aB ?aS ?aL ?_;(case aR=>exact zq6);(case aB=>exact zq0);(case aF=>exact (fun _ _=>trivial));(case aO=>exact (by (with_reducible repeat (first|apply Kd.R_alloc|apply Kd.R_drewN|apply Kd.R_drew));exact HO109.out));(case aS=>exact (below_size zq0));(case aL=>have:=LMc6.out;omega);intro v111 w10 ho hb hg hat;rw [← Ny110.out] at ho;have n0_:=am (hb);have n1_:=am (ho);clear HB;clear HO109;have HB:=n0_;have HO112:=n1_;clear n0_ n1_;clear ho hb hg hat))
   (try simp only [Act.put,List.setIfInBounds_toArray,List.set_cons_zero,List.set_cons_succ])
   go_cut [33] (fun v33 wc=>∃ (kq:Nat) (x33_6:Bool),v33=.bool x33_6∧Aside0 (spec_RepairWord.j0 kq a0 l1 t105 t106 y110 x33_6=some (r1,r2,r3))∧Aside0 (kq≤k)∧Aside0 (Kd.R (Kd.int .u8) 5 wc w.heap.size (fun _=>True) v111 y110)∧Aside0 (Below w.heap.size w wc))
   case first =>
    have H:=HC7.out;clear HC7
    by_cases c11:t105=0
    ·rw [if_pos c11] at H;have c11b0:=beq_iff_eq.mpr c11;have c11b1:=bne_eq_false_iff_eq.mpr c11;clear c11;(first|rw [c11b0]|(simp only [i64_w,i32_w];rw [c11b0])|skip);have H':=am H;clear H
     go_wp2
     go_meet
     case rel=>exact ⟨_,((t106 == 0)),zq2,H',⟨by first|omega|exact Nat.le_refl _⟩,⟨by (with_reducible repeat (first|apply Kd.R_alloc|apply Kd.R_drewN|apply Kd.R_drew));exact HO112.out⟩,⟨by repeat (first|(with_reducible first|exact HB.out|apply below_alloc|apply pw_below_drewN|apply below_drew1)|exact HB.out)⟩⟩
    ·rw [if_neg c11] at H;have c11b0:=beq_eq_false_iff_ne.mpr c11;have c11b1:=bne_iff_ne.mpr c11;(first|rw [c11b0]|(simp only [i64_w,i32_w];rw [c11b0])|skip);have H':=am H;clear H
     go_wp2
     go_meet
     case rel=>exact ⟨_,(false),zq2,H',⟨by first|omega|exact Nat.le_refl _⟩,⟨by (with_reducible repeat (first|apply Kd.R_alloc|apply Kd.R_drewN|apply Kd.R_drew));exact HO112.out⟩,⟨by repeat (first|(with_reducible first|exact HB.out|apply below_alloc|apply pw_below_drewN|apply below_drew1)|exact HB.out)⟩⟩
   case rest =>
    clear HC7;(try clear c1);(try clear c2);(try clear p2);(try clear c4);(try clear c4b0);(try clear c4b1);(try clear c6);(try clear c11);(try clear c11b0);(try clear c11b1);obtain ⟨kq,x33_6,rfl,HA,HJ6,HO_10,HB⟩:=hcut
    cases kq with
    | zero=>exact absurd HA.out (by simp [spec_RepairWord.j0])
    | succ kj6 =>
     have H:=HA.out;clear HA;simp only [spec_RepairWord.j0] at H
     by_cases c12:x33_6=true
     ·subst c12
      have H1:(some (y110,(-1),0))=some (r1,r2,r3):=by rw [if_pos rfl] at H;exact H
      clear H;have H:=H1;clear H1;simp only [Option.some.injEq,Prod.mk.injEq] at H;obtain ⟨rfl,rfl,rfl⟩:=H
      go_wp2
      go_ret3
      exact ⟨_,by first|rfl|(simp [errW_none,errW_some,IntKind.wrap_i64,wrap64];done)|(simp [errW_none,errW_some] <;> rfl)|(simp [*,errW_none,errW_some] <;> rfl),by (with_reducible repeat (first|apply Kd.R_alloc|apply Kd.R_drewN|apply Kd.R_drew));exact HO_10.out,by repeat (first|(with_reducible first|exact HB.out|apply below_alloc|apply pw_below_drewN|apply below_drew1)|exact HB.out)⟩
     ·replace c12:=Bool.eq_false_iff.mpr c12;subst c12
      have H1:(spec_RepairWord.l0 kj6 a0 l1 t105 t106 y110 0)=some (r1,r2,r3):=by rw [if_neg (show ¬ (false=true) by decide)] at H;exact H
      clear H;have H:=H1;clear H1;have H':=am H;clear H
      go_wp2
      go_loopg [11] kj6 (fun kq v11 w'=>∃ (x10_2:List Int) (x11_2:Int),v11=.int .i64 x11_2∧Aside0 (spec_RepairWord.l0 kq a0 l1 t105 t106 x10_2 x11_2=some (r1,r2,r3))∧Aside0 (kq≤kj6)∧Aside0 (Kd.R (Kd.int .u8) 5 w' w.heap.size (fun _=>True) v111 x10_2)∧Aside0 (Below w.heap.size w w'))
      case atStart=>exact ⟨(y110),(0),zq2,H',⟨Nat.le_refl _⟩,⟨by (with_reducible repeat (first|apply Kd.R_alloc|apply Kd.R_drewN|apply Kd.R_drew));exact HO_10.out⟩,⟨by repeat (first|(with_reducible first|exact HB.out|apply below_alloc|apply pw_below_drewN|apply below_drew1)|exact HB.out)⟩⟩
      case round =>
       clear H';(try clear c1);(try clear c2);(try clear p2);(try clear c4);(try clear c4b0);(try clear c4b1);(try clear c6);(try clear c11);(try clear c11b0);(try clear c11b1);(try clear c12);(try clear p2);obtain ⟨x10_2,x11_2,rfl,HA,HK2,HO_10,HB⟩:=hrel
       cases gk with
       | zero=>exact absurd HA.out (by simp [spec_RepairWord.l0])
       | succ k2 =>
        have H:=HA.out;clear HA;simp only [spec_RepairWord.l0] at H;have HC13:=am H;clear H
        go_upto_region 9 with (fail)
        go_cut [42] (fun v42 wc=>∃ (kq:Nat) (x42_12:Bool),v42=.bool x42_12∧Aside0 (spec_RepairWord.j2 kq a0 l1 t105 t106 x10_2 x11_2 x42_12=some (r1,r2,r3))∧Aside0 (kq≤k2)∧Aside0 (Kd.R (Kd.int .u8) 5 wc w.heap.size (fun _=>True) v111 x10_2)∧Aside0 (Below w.heap.size w wc))
        case first =>
         have H:=HC13.out;clear HC13
         by_cases c14:x11_2 < (l1.length:Int)
         ·rw [if_pos c14] at H;have c14b0:=decide_eq_true c14;clear c14;(first|rw [c14b0]|(simp only [i64_w,i32_w];rw [c14b0])|skip);have H':=am H;clear H
          go_wp2
          go_meet
          case rel=>exact ⟨_,((t105 != 0)),zq2,H',⟨by have:=HJ6.out;have:=HK2.out;first|omega|exact Nat.le_refl _⟩,⟨by (with_reducible repeat (first|apply Kd.R_alloc|apply Kd.R_drewN|apply Kd.R_drew));exact HO_10.out⟩,⟨by repeat (first|(with_reducible first|exact HB.out|apply below_alloc|apply pw_below_drewN|apply below_drew1)|exact HB.out)⟩⟩
         ·rw [if_neg c14] at H;have c14b0:=decide_eq_false c14;clear c14;(first|rw [c14b0]|(simp only [i64_w,i32_w];rw [c14b0])|skip);have H':=am H;clear H
          go_wp2
          go_meet
          case rel=>exact ⟨_,(false),zq2,H',⟨by have:=HJ6.out;have:=HK2.out;first|omega|exact Nat.le_refl _⟩,⟨by (with_reducible repeat (first|apply Kd.R_alloc|apply Kd.R_drewN|apply Kd.R_drew));exact HO_10.out⟩,⟨by repeat (first|(with_reducible first|exact HB.out|apply below_alloc|apply pw_below_drewN|apply below_drew1)|exact HB.out)⟩⟩
        case rest =>
         clear HC13;(try clear c1);(try clear c2);(try clear p2);(try clear c4);(try clear c4b0);(try clear c4b1);(try clear c6);(try clear c11);(try clear c11b0);(try clear c11b1);(try clear c12);(try clear c14);(try clear c14b0);(try clear p2);obtain ⟨kq,x42_12,rfl,HA,HJ12,HO_10,HB⟩:=hcut
         cases kq with
         | zero=>exact absurd HA.out (by simp [spec_RepairWord.j2])
         | succ kj12 =>
          have H:=HA.out;clear HA;simp only [spec_RepairWord.j2] at H
          by_cases c15:x42_12=true
          ·subst c15
           have H1:((spec_l05Mod.f (wrap64 ((wrap64 ((wrap64 (x11_2 + 1)) * t105)) - t106)) a0).bind fun t116=>(if t116=0 then (if 0≤x11_2 then (if x11_2 < (l1.length:Int) then ((spec_l05Mod.f (wrap64 ((wrap64 (rd l1 x11_2)) - t105)) a0).bind fun t118=>(if x11_2 < (x10_2.length:Int) then (some ((x10_2.set (x11_2:Int).toNat ((t118) % 256)),x11_2,0)) else (none))) else (none)) else (none)) else (spec_RepairWord.l0 kj12 a0 l1 t105 t106 x10_2 (wrap64 (x11_2 + 1)))))=some (r1,r2,r3):=by rw [if_pos rfl] at H;exact H
           clear H;have H:=H1;clear H1;replace H:=Option.bind_eq_some_iff.mp H;obtain ⟨t116,A160,H⟩:=H;replace H:(if t116=0 then (if 0≤x11_2 then (if x11_2 < (l1.length:Int) then ((spec_l05Mod.f (wrap64 ((wrap64 (rd l1 x11_2)) - t105)) a0).bind fun t118=>(if x11_2 < (x10_2.length:Int) then (some ((x10_2.set (x11_2:Int).toNat ((t118) % 256)),x11_2,0)) else (none))) else (none)) else (none)) else (spec_RepairWord.l0 kj12 a0 l1 t105 t106 x10_2 (wrap64 (x11_2 + 1))))=some (r1,r2,r3):=H;have A16:=am A160;clear A160
           by_cases c17:t116=0
           ·rw [if_pos c17] at H;have c17b0:=beq_iff_eq.mpr c17;have c17b1:=bne_eq_false_iff_eq.mpr c17;clear c17
            by_cases c18:0≤x11_2
            ·rw [if_pos c18] at H;have c18b0:=decide_eq_true c18;clear c18
             by_cases c19:x11_2 < (l1.length:Int)
             ·rw [if_pos c19] at H;have c19b0:=decide_eq_true c19;clear c19;replace H:=Option.bind_eq_some_iff.mp H;obtain ⟨t118,A200,H⟩:=H;replace H:(if x11_2 < (x10_2.length:Int) then (some ((x10_2.set (x11_2:Int).toNat ((t118) % 256)),x11_2,0)) else (none))=some (r1,r2,r3):=H;have A20:=am A200;clear A200
              by_cases c21:x11_2 < (x10_2.length:Int)
              ·rw [if_pos c21] at H;have c21b0:=decide_eq_true c21;clear c21;obtain ⟨y119,hy119⟩:∃ y_:List Int,y_=(x10_2.set (x11_2:Int).toNat ((t118) % 256)):=⟨_,rfl⟩
               replace H:(some (y119,x11_2,0))=some (r1,r2,r3):=by first|(rw [hy119];with_reducible exact H)|(have H2_:=(Option.bind_some _ _).symm.trans H;rw [hy119];with_reducible exact H2_)|(have H2_:=(Option.bind_some _ _).symm.trans H;with_reducible exact H2_)|with_reducible exact H|(rw [hy119];exact H)|exact H
               have Ny119:=am hy119;clear hy119;simp only [Option.some.injEq,Prod.mk.injEq] at H;obtain ⟨rfl,rfl,rfl⟩:=H
               go_wp2_with (first|((with_reducible refine gate_callee (f:=29) rfl ?_);refine goesL_ (some 52) rfl rfl Tryz.func29 zq10 rfl #[.int .i64 (wrap64 ((wrap64 ((wrap64 (x11_2 + 1)) * t105)) - t106)),.int .i64 a0] rfl zq1 ?_;(with_reducible refine (spec_l05Mod.calls (wrap64 ((wrap64 ((wrap64 (x11_2 + 1)) * t105)) - t106)) a0 t116 _ A16.out).mono ?_);rintro e w' ⟨rfl,⟨nd,rfl⟩⟩;refine ⟨_,rfl,?_⟩;(try (rw [drewN_self wc];generalize hq_:World.drewN wc _=wc;have n0_:Aside0 (Kd.R (Kd.int .u8) 5 wc w.heap.size (fun _=>True) v111 x10_2):=⟨by rw [← hq_];exact zq5⟩;have n1_:Aside0 (Below w.heap.size w wc):=⟨by rw [← hq_];exact zq0⟩;clear HO_10 HB hq_;have HO_10:=n0_;have HB:=n1_;clear n0_ n1_));have p117:0≤(x11_2:Int):=of_decide_eq_true zq4;have q117:x11_2 < (l1.length:Int):=of_decide_eq_true zq4;obtain ⟨ad117,e117,hx117_0⟩:=Kd.at_int HR1.out x11_2 p117 q117;cases e117;replace hx117_0:=(HB.out.cell (World.block_lt_of_cell? w _ hx117_0)).trans hx117_0;replace p117:=eq_true p117;replace q117:=eq_true q117)|((with_reducible refine gate_callee (f:=29) rfl ?_);refine goesL_ (some 64) rfl rfl Tryz.func29 zq10 rfl #[.int .i64 (wrap64 ((wrap64 (rd l1 x11_2)) - t105)),.int .i64 a0] rfl zq1 ?_;(with_reducible refine (spec_l05Mod.calls (wrap64 ((wrap64 (rd l1 x11_2)) - t105)) a0 t118 _ A20.out).mono ?_);rintro e w' ⟨rfl,⟨nd,rfl⟩⟩;refine ⟨_,rfl,?_⟩;(try (rw [drewN_self wc];generalize hq_:World.drewN wc _=wc;have n0_:Aside0 (Kd.R (Kd.int .u8) 5 wc w.heap.size (fun _=>True) v111 x10_2):=⟨by rw [← hq_];exact zq5⟩;have n1_:Aside0 (Below w.heap.size w wc):=⟨by rw [← hq_];exact zq0⟩;clear HO_10 HB hq_;have HO_10:=n0_;have HB:=n1_;clear n0_ n1_));have p22:0≤(x11_2:Int):=of_decide_eq_true zq4;have q22:(x11_2:Int) < ((x10_2.length:Int):Int):=of_decide_eq_true zq4;obtain ⟨go22,co22,eo22,gb22,gl22,cl22,HG22⟩:=Kd.R_form HO_10.out (by omega);(first|cases eo22|(injection eo22 with ea_ en_ ec_;(first|subst ea_|(injection ea_ with ea_;subst ea_));subst ec_;clear en_));have GB22:=am gb22;have GG22:=am HG22;clear gb22 gl22 HG22;obtain ⟨hx22_0,hf22_0⟩:=Kd.R_celln 0 HO_10.out (x11_2:Int) p22 q22;replace p22:=eq_true p22;replace q22:=eq_true q22;obtain ⟨hy23_,hz23_⟩:=Kd.R_celln 0 HO_10.out (x11_2:Int) (of_decide_eq_true zq4) (of_decide_eq_true zq4);have HP23:=Kd.R_putg HO_10.out (x11_2:Int) ((t118) % 256))|((with_reducible refine gate_store (t:=5) (p:=66) rfl ?_);refine store_event (t:=5) (p:=66) (v:=?vo_w24) (w1:=(wc.setCell ⟨go22,(x11_2:Int).toNat,none⟩ (.int .u8 ((t118) % 256)))) ?hg ?ho ?hn ?hr ?_;(case ho=>rfl);(case hg=>rfl);(case hn=>rfl);(case hr=>exact zq14);intro w24 hw;have hg:wc.grownBy w24 (some go22):=(by rw [hw];exact HP23.2);have hp_:Kd.R (Kd.int .u8) 5 w24 w.heap.size (fun _=>True) (.slice (some ⟨go22,0,none⟩) x10_2.length co22) y119:=(by rw [hw,Ny119.out];exact HP23.1);clear HP23;have n0_:=am (hp_);have n1_:=am ((by rw [hw];exact below_set (HB.out) GB22.out:Below w.heap.size w w24));clear HO_10;clear HB;have HO_10:=n0_;have HB:=n1_;clear n0_ n1_;clear hg hw hp_))
               go_ret3
               exact ⟨_,by first|rfl|(simp [errW_none,errW_some,IntKind.wrap_i64,wrap64];done)|(simp [errW_none,errW_some] <;> rfl)|(simp [*,errW_none,errW_some] <;> rfl),by (with_reducible repeat (first|apply Kd.R_alloc|apply Kd.R_drewN|apply Kd.R_drew));exact HO_10.out,by repeat (first|(with_reducible first|exact HB.out|apply below_alloc|apply pw_below_drewN|apply below_drew1)|exact HB.out)⟩
              ·rw [if_neg c21] at H;exact absurd H (by simp)
             ·rw [if_neg c19] at H;exact absurd H (by simp)
            ·rw [if_neg c18] at H;exact absurd H (by simp)
           ·rw [if_neg c17] at H;have c17b0:=beq_eq_false_iff_ne.mpr c17;have c17b1:=bne_iff_ne.mpr c17;have H':=am H;clear H
            go_wp2_with (first|((with_reducible refine gate_callee (f:=29) rfl ?_);refine goesL_ (some 52) rfl rfl Tryz.func29 zq10 rfl #[.int .i64 (wrap64 ((wrap64 ((wrap64 (x11_2 + 1)) * t105)) - t106)),.int .i64 a0] rfl zq1 ?_;(with_reducible refine (spec_l05Mod.calls (wrap64 ((wrap64 ((wrap64 (x11_2 + 1)) * t105)) - t106)) a0 t116 _ A16.out).mono ?_);rintro e w' ⟨rfl,⟨nd,rfl⟩⟩;refine ⟨_,rfl,?_⟩))
            go_roundg kj12
            case measure=>have:=HJ6.out;have:=HK2.out;have:=HJ12.out;omega
            case rel=>exact ⟨(x10_2),(wrap64 (x11_2 + 1)),zq2,H',⟨by have:=HJ6.out;have:=HK2.out;have:=HJ12.out;omega⟩,⟨by (with_reducible repeat (first|apply Kd.R_alloc|apply Kd.R_drewN|apply Kd.R_drew));exact HO_10.out⟩,⟨by repeat (first|(with_reducible first|exact HB.out|apply below_alloc|apply pw_below_drewN|apply below_drew1)|exact HB.out)⟩⟩
          ·replace c15:=Bool.eq_false_iff.mpr c15;subst c15
           have H1:(some ((([]:List Int)),0,8))=some (r1,r2,r3):=by rw [if_neg (show ¬ (false=true) by decide)] at H;exact H
           clear H;have H:=H1;clear H1;obtain ⟨y113,hy113⟩:∃ y_:List Int,y_=(([]:List Int)):=⟨_,rfl⟩
           replace H:(some (y113,0,8))=some (r1,r2,r3):=by first|(rw [hy113];with_reducible exact H)|(have H2_:=(Option.bind_some _ _).symm.trans H;rw [hy113];with_reducible exact H2_)|(have H2_:=(Option.bind_some _ _).symm.trans H;with_reducible exact H2_)|with_reducible exact H|(rw [hy113];exact H)|exact H
           have Ny113:=am hy113;clear hy113;simp only [Option.some.injEq,Prod.mk.injEq] at H;obtain ⟨rfl,rfl,rfl⟩:=H
           go_wp2_with (first|((with_reducible refine gate_dst (N:=69) rfl ?_);refine Kd.R_lit (Kd.int .u8) _ 5 ?hg (N:=69) ?hd (xs:=([]:List Int)) (inner:=[]) (ok:=fun _=>True) (okp:=fun _=>True) ?hr ?hp (fun _ hk=>hk) trivial (Below.refl _ _) (Nat.le_refl _) (by simp) ?_;(case hd=>rfl);(case hg=>rfl);(case hr=>exact zq14);(case hp=>exact (Reps.none _ _));intro v114 w25 ho26 hb hg_ hnew_;clear hg_ hnew_;(first|rw [← Ny113.out] at ho26|(simp only [Int.reduceToNat] at ho26;rw [← Ny113.out] at ho26));have n0_:=am (Kd.R_elder' zq5 (Kd.R_base ho26) hb);have n1_:=am (Kd.R_lower (Kd.R_new' ho26 (Kd.R_lt zq5)) (below_size zq0));have n2_:=am (below_step zq0 hb);clear HO_10;clear HB;have HO_10:=n0_;have HO115:=n1_;have HB:=n2_;clear n0_ n1_ n2_;clear hb ho26))
           go_ret3
           exact ⟨_,by first|rfl|(simp [errW_none,errW_some,IntKind.wrap_i64,wrap64];done)|(simp [errW_none,errW_some] <;> rfl)|(simp [*,errW_none,errW_some] <;> rfl),by (with_reducible repeat (first|apply Kd.R_alloc|apply Kd.R_drewN|apply Kd.R_drew));exact Kd.R_mono HO115.out (fun _ hk=>trivial),by repeat (first|(with_reducible first|exact HB.out|apply below_alloc|apply pw_below_drewN|apply below_drew1)|exact HB.out)⟩
  ·rw [if_neg c6] at H;exact absurd H (by simp)
 ·rw [if_neg c4] at H;have c4b0:=beq_eq_false_iff_ne.mpr c4;have c4b1:=bne_iff_ne.mpr c4;obtain ⟨y102,hy102⟩:∃ y_:List Int,y_=(([]:List Int)):=⟨_,rfl⟩
  replace H:(some (y102,0,t101))=some (r1,r2,r3):=by first|(rw [hy102];with_reducible exact H)|(have H2_:=(Option.bind_some _ _).symm.trans H;rw [hy102];with_reducible exact H2_)|(have H2_:=(Option.bind_some _ _).symm.trans H;with_reducible exact H2_)|with_reducible exact H|(rw [hy102];exact H)|exact H
  have Ny102:=am hy102;clear hy102;simp only [Option.some.injEq,Prod.mk.injEq] at H;obtain ⟨rfl,rfl,rfl⟩:=H
  go_enter Tryz.func14,Tryz.ntmps14
  go_wp2_with (first|((with_reducible refine gate_callee (f:=27) rfl ?_);refine goesL_ (some 14) rfl rfl Tryz.func27 zq10 rfl #[.int .i64 a0,.slice A1 l1.length c1] rfl zq1 ?_;(with_reducible refine (spec_l05Checked.calls k a0 _ _ l1 t101 _ ?side1 ?side2 A3.out).mono ?_);(case side1=>exact zq3);(case side2=>exact HC1.out);rintro e w' ⟨rfl,⟨nd,rfl⟩⟩;refine ⟨_,rfl,?_⟩)|((with_reducible refine gate_dst (N:=17) rfl ?_);refine Kd.R_lit (Kd.int .u8) _ 5 ?hg (N:=17) ?hd (xs:=([]:List Int)) (inner:=[]) (ok:=fun _=>True) (okp:=fun _=>True) ?hr ?hp (fun _ hk=>hk) trivial (Below.refl _ _) (Nat.le_refl _) (by simp) ?_;(case hd=>rfl);(case hg=>rfl);(case hr=>exact zq14);(case hp=>exact (Reps.none _ _));intro v103 w27 ho28 hb hg_ hnew_;clear hg_ hnew_;(first|rw [← Ny102.out] at ho28|(simp only [Int.reduceToNat] at ho28;rw [← Ny102.out] at ho28));have n0_:=am (Kd.R_lower ho28 (below_size zq0));have n1_:=am (below_step zq0 hb);clear HB;have HO104:=n0_;have HB:=n1_;clear n0_ n1_;clear hb ho28))
  go_ret3
  exact ⟨_,by first|rfl|(simp [errW_none,errW_some,IntKind.wrap_i64,wrap64];done)|(simp [errW_none,errW_some] <;> rfl)|(simp [*,errW_none,errW_some] <;> rfl),by (with_reducible repeat (first|apply Kd.R_alloc|apply Kd.R_drewN|apply Kd.R_drew));exact HO104.out,by repeat (first|(with_reducible first|exact HB.out|apply below_alloc|apply pw_below_drewN|apply below_drew1)|exact HB.out)⟩
def spec_l05Same.l0:Nat→List Int→List Int→Int→Option (Bool)
 | 0,_,_,_=>none
 | k + 1,x0,x1,x5=>if x5 < (x0.length:Int) then (if 0≤x5 then (if x5 < (x1.length:Int) then (if (rd x0 x5)=(rd x1 x5) then (spec_l05Same.l0 k x0 x1 (wrap64 (x5 + 1))) else (some false)) else (none)) else (none)) else (some true)
def spec_l05Same.f (k:Nat) (l0:List Int) (l1:List Int):Option (Bool):=if (l0.length:Int)=(l1.length:Int) then (spec_l05Same.l0 k l0 l1 0) else (some false)
set_option maxHeartbeats 8000000 in
set_option maxRecDepth 100000 in
theorem spec_l05Same.calls (k:Nat) (A0:Option Addr) (c0:Nat) (l0:List Int) (A1:Option Addr) (c1:Nat) (l1:List Int) (r:Bool) (w:World) (hr0:Kd.C (Kd.int .u8) w A0 l0.length l0) (hc0:l0.length≤c0) (hr1:Kd.C (Kd.int .u8) w A1 l1.length l1) (hc1:l1.length≤c1) (h:spec_l05Same.f k l0 l1=some r) :
  Calls Tryz.prog 31 #[.slice A0 l0.length c0,.slice A1 l1.length c1] w fun e w'=>e=.returned (.bool r)∧Drawn0 w w':=by
 have HR0:=am hr0;have HC0:=am hc0;clear hr0 hc0;have HR1:=am hr1;have HC1:=am hc1;clear hr1 hc1;have H:(if (l0.length:Int)=(l1.length:Int) then (spec_l05Same.l0 k l0 l1 0) else (some false))=some r:=h;clear h
 by_cases c3:(l0.length:Int)=(l1.length:Int)
 ·rw [if_pos c3] at H;have c3b0:=beq_iff_eq.mpr c3;have c3b1:=bne_eq_false_iff_eq.mpr c3
  have c3b2:(l0.length == l1.length)=true:=by first|simpa using c3|(simp at c3 ⊢;omega)
  clear c3;have H':=am H;clear H
  go_enter Tryz.func31,Tryz.ntmps31
  go_wp2
  repeat (go_quiet (fail);try go_wp2)
  go_loopg [5] k (fun kq v5 w'=>∃ (x5_1:Int),v5=.int .i64 x5_1∧Aside0 (spec_l05Same.l0 kq l0 l1 x5_1=some r)∧Aside0 (kq≤k)∧Drawn0 w w')
  case atStart=>exact ⟨(0),zq2,H',⟨Nat.le_refl _⟩,by repeat (first|exact Drawn0.refl _|apply Drawn0.step)⟩
  case round =>
   clear H';(try clear c1);(try clear p2);(try clear c3);(try clear c3b0);(try clear c3b1);(try clear c3b2);obtain ⟨x5_1,rfl,HA,HK1,⟨m1,rfl⟩⟩:=hrel
   cases gk with
   | zero=>exact absurd HA.out (by simp [spec_l05Same.l0])
   | succ k1 =>
    have H:=HA.out;clear HA;simp only [spec_l05Same.l0] at H
    by_cases c4:x5_1 < (l0.length:Int)
    ·rw [if_pos c4] at H;have c4b0:=decide_eq_true c4;clear c4
     by_cases c5:0≤x5_1
     ·rw [if_pos c5] at H;have c5b0:=decide_eq_true c5;clear c5
      by_cases c6:x5_1 < (l1.length:Int)
      ·rw [if_pos c6] at H;have c6b0:=decide_eq_true c6;clear c6
       by_cases c7:(rd l0 x5_1)=(rd l1 x5_1)
       ·rw [if_pos c7] at H;have c7b0:=beq_iff_eq.mpr c7;have c7b1:=bne_eq_false_iff_eq.mpr c7;clear c7;have H':=am H;clear H;have p101:0≤(x5_1:Int):=of_decide_eq_true zq4;have q101:x5_1 < (l0.length:Int):=of_decide_eq_true zq4;obtain ⟨ad101,e101,hx101_0⟩:=Kd.at_int HR0.out x5_1 p101 q101;cases e101;replace p101:=eq_true p101;replace q101:=eq_true q101;have p102:0≤(x5_1:Int):=of_decide_eq_true zq4;have q102:x5_1 < (l1.length:Int):=of_decide_eq_true zq4;obtain ⟨ad102,e102,hx102_0⟩:=Kd.at_int HR1.out x5_1 p102 q102;cases e102;replace p102:=eq_true p102;replace q102:=eq_true q102
        go_wp2
        repeat (go_quiet (fail);try go_wp2)
        go_roundg k1
        case measure=>have:=HK1.out;omega
        case rel=>exact ⟨(wrap64 (x5_1 + 1)),zq2,H',⟨by have:=HK1.out;omega⟩,by repeat (first|exact Drawn0.refl _|apply Drawn0.step)⟩
       ·rw [if_neg c7] at H;have c7b0:=beq_eq_false_iff_ne.mpr c7;have c7b1:=bne_iff_ne.mpr c7;obtain rfl:=Option.some.inj H;have p101:0≤(x5_1:Int):=of_decide_eq_true zq4;have q101:x5_1 < (l0.length:Int):=of_decide_eq_true zq4;obtain ⟨ad101,e101,hx101_0⟩:=Kd.at_int HR0.out x5_1 p101 q101;cases e101;replace p101:=eq_true p101;replace q101:=eq_true q101;have p102:0≤(x5_1:Int):=of_decide_eq_true zq4;have q102:x5_1 < (l1.length:Int):=of_decide_eq_true zq4;obtain ⟨ad102,e102,hx102_0⟩:=Kd.at_int HR1.out x5_1 p102 q102;cases e102;replace p102:=eq_true p102;replace q102:=eq_true q102
        go_wp2
        repeat (go_quiet (fail);try go_wp2)
        go_ret
        exact ⟨by first|rfl|(simp only [IntKind.wrap_i64,wrap64];done)|(simp;done)|(simp [*];done),by repeat (first|exact Drawn0.refl _|apply Drawn0.step)⟩
      ·rw [if_neg c6] at H;exact absurd H (by simp)
     ·rw [if_neg c5] at H;exact absurd H (by simp)
    ·rw [if_neg c4] at H;have c4b0:=decide_eq_false c4;clear c4;obtain rfl:=Option.some.inj H
     go_wp2
     repeat (go_quiet (fail);try go_wp2)
     go_ret
     exact ⟨by first|rfl|(simp only [IntKind.wrap_i64,wrap64];done)|(simp;done)|(simp [*];done),by repeat (first|exact Drawn0.refl _|apply Drawn0.step)⟩
 ·rw [if_neg c3] at H;have c3b0:=beq_eq_false_iff_ne.mpr c3;have c3b1:=bne_iff_ne.mpr c3
  have c3b2:(l0.length == l1.length)=false:=by first|simpa using c3|(simp at c3 ⊢;omega)
  obtain rfl:=Option.some.inj H
  go_enter Tryz.func31,Tryz.ntmps31
  go_wp2
  repeat (go_quiet (fail);try go_wp2)
  go_ret
  exact ⟨by first|rfl|(simp only [IntKind.wrap_i64,wrap64];done)|(simp;done)|(simp [*];done),by repeat (first|exact Drawn0.refl _|apply Drawn0.step)⟩
def spec_SameWord.f (k:Nat) (l0:List Int) (l1:List Int):Option (Bool):=(spec_l05Same.f k l0 l1).bind fun t101=>(some t101)
set_option maxHeartbeats 8000000 in
set_option maxRecDepth 100000 in
theorem spec_SameWord.calls (k:Nat) (A0:Option Addr) (c0:Nat) (l0:List Int) (A1:Option Addr) (c1:Nat) (l1:List Int) (r:Bool) (w:World) (hr0:Kd.C (Kd.int .u8) w A0 l0.length l0) (hc0:l0.length≤c0) (hr1:Kd.C (Kd.int .u8) w A1 l1.length l1) (hc1:l1.length≤c1) (h:spec_SameWord.f k l0 l1=some r) :
  Calls Tryz.prog 11 #[.slice A0 l0.length c0,.slice A1 l1.length c1] w fun e w'=>e=.returned (.bool r)∧Drawn0 w w':=by
 have HR0:=am hr0;have HC0:=am hc0;clear hr0 hc0;have HR1:=am hr1;have HC1:=am hc1;clear hr1 hc1;have H:((spec_l05Same.f k l0 l1).bind fun t101=>(some t101))=some r:=h;clear h;replace H:=Option.bind_eq_some_iff.mp H;obtain ⟨t101,A30,H⟩:=H;replace H:(some t101)=some r:=H;have A3:=am A30;clear A30;obtain rfl:=Option.some.inj H
 go_enter Tryz.func11,Tryz.ntmps11
 go_wp2_with (first|((with_reducible refine gate_callee (f:=31) rfl ?_);refine goesL_ (some 7) rfl rfl Tryz.func31 zq10 rfl #[.slice A0 l0.length c0,.slice A1 l1.length c1] rfl zq1 ?_;(with_reducible refine (spec_l05Same.calls k _ _ l0 _ _ l1 t101 _ ?side1 ?side2 ?side3 ?side4 A3.out).mono ?_);(case side1=>exact zq15);(case side2=>exact HC0.out);(case side3=>exact zq3);(case side4=>exact HC1.out);rintro e w' ⟨rfl,⟨nd,rfl⟩⟩;refine ⟨_,rfl,?_⟩))
 go_ret
 exact ⟨by first|rfl|(simp only [IntKind.wrap_i64,wrap64];done)|(simp;done)|(simp [*];done),by repeat (first|exact Drawn0.refl _|apply Drawn0.step)⟩
def spec_WithChecks.j0:Nat→Int→List Int→Int→Bool→Option (List Int × Int)
 | 0,_,_,_,_=>none
 | k + 1,x0,x1,x7,x30=>if x30=true then (some ((([]:List Int)),3)) else ((spec_l05Syndromes.f k x0 x1).bind fun bt108=>((spec_l05Mod.f (wrap64 ((wrap64 ((wrap64 (x7 + 1)) * bt108.1)) - bt108.2)) x0).bind fun t110=>((spec_l05Mod.f (wrap64 ((wrap64 (-bt108.1)) - t110)) x0).bind fun t111=>((some (([]:List Int):List Int)).bind fun y112=>(if y112.length + x1.length < 140737488355328 then ((some (y112 ++ x1:List Int)).bind fun y115=>((some (([(t111) % 256,(t110) % 256]:List Int):List Int)).bind fun y118=>(if y115.length + y118.length < 140737488355328 then (some ((y115 ++ y118),0)) else (none)))) else (none))))))
def spec_WithChecks.f (k:Nat) (a0:Int) (l1:List Int):Option (List Int × Int):=(spec_l05Checked.f k a0 l1).bind fun t101=>(if t101=0 then (if (wrap64 ((l1.length:Int) + 2)) > 8 then (spec_WithChecks.j0 k a0 l1 (l1.length:Int) true) else (spec_WithChecks.j0 k a0 l1 (l1.length:Int) (decide ((wrap64 ((l1.length:Int) + 2)) > (wrap64 (a0 - 1)))))) else (some ((([]:List Int)),t101)))
set_option maxHeartbeats 8000000 in
set_option maxRecDepth 100000 in
theorem spec_WithChecks.calls (k:Nat) (a0:Int) (A1:Option Addr) (c1:Nat) (l1:List Int) (r1:List Int) (r2:Int) (w:World) (hr1:Kd.C (Kd.int .u8) w A1 l1.length l1) (hc1:l1.length≤c1) (h:spec_WithChecks.f k a0 l1=some (r1,r2)) :
  Calls Tryz.prog 8 #[.int .i64 a0,.slice A1 l1.length c1] w fun e w'=>∃ v0_:Value,e=.returned (.tuple #[v0_,.int .i64 r2])∧Kd.R (Kd.int .u8) 5 w' w.heap.size (fun _=>True) v0_ r1∧Below w.heap.size w w':=by
 have HR1:=am hr1;have HC1:=am hc1;clear hr1 hc1;have HB:=am (Below.refl w.heap.size w);have H:((spec_l05Checked.f k a0 l1).bind fun t101=>(if t101=0 then (if (wrap64 ((l1.length:Int) + 2)) > 8 then (spec_WithChecks.j0 k a0 l1 (l1.length:Int) true) else (spec_WithChecks.j0 k a0 l1 (l1.length:Int) (decide ((wrap64 ((l1.length:Int) + 2)) > (wrap64 (a0 - 1)))))) else (some ((([]:List Int)),t101))))=some (r1,r2):=h;clear h;replace H:=Option.bind_eq_some_iff.mp H;obtain ⟨t101,A30,H⟩:=H;replace H:(if t101=0 then (if (wrap64 ((l1.length:Int) + 2)) > 8 then (spec_WithChecks.j0 k a0 l1 (l1.length:Int) true) else (spec_WithChecks.j0 k a0 l1 (l1.length:Int) (decide ((wrap64 ((l1.length:Int) + 2)) > (wrap64 (a0 - 1)))))) else (some ((([]:List Int)),t101)))=some (r1,r2):=H;have A3:=am A30;clear A30
 by_cases c4:t101=0
 ·rw [if_pos c4] at H;have c4b0:=beq_iff_eq.mpr c4;have c4b1:=bne_eq_false_iff_eq.mpr c4;clear c4;have HC5:=am H;clear H
  go_enter Tryz.func8,Tryz.ntmps8
  go_upto_region 5 with (first|((with_reducible refine gate_callee (f:=27) rfl ?_);refine goesL_ (some 14) rfl rfl Tryz.func27 zq10 rfl #[.int .i64 a0,.slice A1 l1.length c1] rfl zq1 ?_;(with_reducible refine (spec_l05Checked.calls k a0 _ _ l1 t101 _ ?side1 ?side2 A3.out).mono ?_);(case side1=>exact zq3);(case side2=>exact HC1.out);rintro e w' ⟨rfl,⟨nd,rfl⟩⟩;refine ⟨_,rfl,?_⟩))
  (try simp only [Act.put,List.setIfInBounds_toArray,List.set_cons_zero,List.set_cons_succ])
  go_cut [30] (fun v30 wc=>∃ (kq:Nat) (x30_4:Bool),v30=.bool x30_4∧Aside0 (spec_WithChecks.j0 kq a0 l1 (l1.length:Int) x30_4=some (r1,r2))∧Aside0 (kq≤k)∧Aside0 (Below w.heap.size w wc))
  case first =>
   have H:=HC5.out;clear HC5
   by_cases c6:(wrap64 ((l1.length:Int) + 2)) > 8
   ·rw [if_pos c6] at H;have c6b0:decide (8 < (wrap64 ((l1.length:Int) + 2)))=true:=decide_eq_true c6;clear c6;(first|rw [c6b0]|(simp only [i64_w,i32_w];rw [c6b0])|skip);have H':=am H;clear H
    go_wp2
    go_meet
    case rel=>exact ⟨_,(true),zq2,H',⟨by first|omega|exact Nat.le_refl _⟩,⟨by repeat (first|(with_reducible first|exact HB.out|apply below_alloc|apply pw_below_drewN|apply below_drew1)|exact HB.out)⟩⟩
   ·rw [if_neg c6] at H;have c6b0:decide (8 < (wrap64 ((l1.length:Int) + 2)))=false:=decide_eq_false c6;clear c6;(first|rw [c6b0]|(simp only [i64_w,i32_w];rw [c6b0])|skip);have H':=am H;clear H
    go_wp2
    go_meet
    case rel=>exact ⟨_,(decide ((wrap64 ((l1.length:Int) + 2)) > (wrap64 (a0 - 1)))),zq2,H',⟨by first|omega|exact Nat.le_refl _⟩,⟨by repeat (first|(with_reducible first|exact HB.out|apply below_alloc|apply pw_below_drewN|apply below_drew1)|exact HB.out)⟩⟩
  case rest =>
   clear HC5;(try clear c1);(try clear c2);(try clear p2);(try clear c4);(try clear c4b0);(try clear c4b1);(try clear c6);(try clear c6b0);(try clear p6);obtain ⟨kq,x30_4,rfl,HA,HJ4,HB⟩:=hcut
   cases kq with
   | zero=>exact absurd HA.out (by simp [spec_WithChecks.j0])
   | succ kj4 =>
    have H:=HA.out;clear HA;simp only [spec_WithChecks.j0] at H
    by_cases c7:x30_4=true
    ·subst c7
     have H1:(some ((([]:List Int)),3))=some (r1,r2):=by rw [if_pos rfl] at H;exact H
     clear H;have H:=H1;clear H1;obtain ⟨y105,hy105⟩:∃ y_:List Int,y_=(([]:List Int)):=⟨_,rfl⟩
     replace H:(some (y105,3))=some (r1,r2):=by first|(rw [hy105];with_reducible exact H)|(have H2_:=(Option.bind_some _ _).symm.trans H;rw [hy105];with_reducible exact H2_)|(have H2_:=(Option.bind_some _ _).symm.trans H;with_reducible exact H2_)|with_reducible exact H|(rw [hy105];exact H)|exact H
     have Ny105:=am hy105;clear hy105;simp only [Option.some.injEq,Prod.mk.injEq] at H;obtain ⟨rfl,rfl⟩:=H
     go_wp2_with (first|((with_reducible refine gate_dst (N:=31) rfl ?_);refine Kd.R_lit (Kd.int .u8) _ 5 ?hg (N:=31) ?hd (xs:=([]:List Int)) (inner:=[]) (ok:=fun _=>True) (okp:=fun _=>True) ?hr ?hp (fun _ hk=>hk) trivial (Below.refl _ _) (Nat.le_refl _) (by simp) ?_;(case hd=>rfl);(case hg=>rfl);(case hr=>exact zq14);(case hp=>exact (Reps.none _ _));intro v106 w8 ho9 hb hg_ hnew_;clear hg_ hnew_;(first|rw [← Ny105.out] at ho9|(simp only [Int.reduceToNat] at ho9;rw [← Ny105.out] at ho9));have n0_:=am (Kd.R_lower ho9 (below_size zq0));have n1_:=am (below_step zq0 hb);clear HB;have HO107:=n0_;have HB:=n1_;clear n0_ n1_;clear hb ho9))
     go_ret2
     exact ⟨_,by first|rfl|(simp [errW_none,errW_some,IntKind.wrap_i64,wrap64];done)|(simp [errW_none,errW_some] <;> rfl)|(simp [*,errW_none,errW_some] <;> rfl),by (with_reducible repeat (first|apply Kd.R_alloc|apply Kd.R_drewN|apply Kd.R_drew));exact HO107.out,by repeat (first|(with_reducible first|exact HB.out|apply below_alloc|apply pw_below_drewN|apply below_drew1)|exact HB.out)⟩
    ·replace c7:=Bool.eq_false_iff.mpr c7;subst c7
     have H1:((spec_l05Syndromes.f kj4 a0 l1).bind fun bt108=>((spec_l05Mod.f (wrap64 ((wrap64 ((wrap64 ((l1.length:Int) + 1)) * bt108.1)) - bt108.2)) a0).bind fun t110=>((spec_l05Mod.f (wrap64 ((wrap64 (-bt108.1)) - t110)) a0).bind fun t111=>((some (([]:List Int):List Int)).bind fun y112=>(if y112.length + l1.length < 140737488355328 then ((some (y112 ++ l1:List Int)).bind fun y115=>((some (([(t111) % 256,(t110) % 256]:List Int):List Int)).bind fun y118=>(if y115.length + y118.length < 140737488355328 then (some ((y115 ++ y118),0)) else (none)))) else (none))))))=some (r1,r2):=by rw [if_neg (show ¬ (false=true) by decide)] at H;exact H
     clear H;have H:=H1;clear H1;replace H:=Option.bind_eq_some_iff.mp H;obtain ⟨⟨t108,t109⟩,A100,H⟩:=H;replace H:((spec_l05Mod.f (wrap64 ((wrap64 ((wrap64 ((l1.length:Int) + 1)) * t108)) - t109)) a0).bind fun t110=>((spec_l05Mod.f (wrap64 ((wrap64 (-t108)) - t110)) a0).bind fun t111=>((some (([]:List Int):List Int)).bind fun y112=>(if y112.length + l1.length < 140737488355328 then ((some (y112 ++ l1:List Int)).bind fun y115=>((some (([(t111) % 256,(t110) % 256]:List Int):List Int)).bind fun y118=>(if y115.length + y118.length < 140737488355328 then (some ((y115 ++ y118),0)) else (none)))) else (none)))))=some (r1,r2):=H;have A10:=am A100;clear A100;replace H:=Option.bind_eq_some_iff.mp H;obtain ⟨t110,A110,H⟩:=H;replace H:((spec_l05Mod.f (wrap64 ((wrap64 (-t108)) - t110)) a0).bind fun t111=>((some (([]:List Int):List Int)).bind fun y112=>(if y112.length + l1.length < 140737488355328 then ((some (y112 ++ l1:List Int)).bind fun y115=>((some (([(t111) % 256,(t110) % 256]:List Int):List Int)).bind fun y118=>(if y115.length + y118.length < 140737488355328 then (some ((y115 ++ y118),0)) else (none)))) else (none))))=some (r1,r2):=H;have A11:=am A110;clear A110;replace H:=Option.bind_eq_some_iff.mp H;obtain ⟨t111,A120,H⟩:=H;replace H:((some (([]:List Int):List Int)).bind fun y112=>(if y112.length + l1.length < 140737488355328 then ((some (y112 ++ l1:List Int)).bind fun y115=>((some (([(t111) % 256,(t110) % 256]:List Int):List Int)).bind fun y118=>(if y115.length + y118.length < 140737488355328 then (some ((y115 ++ y118),0)) else (none)))) else (none)))=some (r1,r2):=H;have A12:=am A120;clear A120;obtain ⟨y112,hy112⟩:∃ y_:List Int,y_=(([]:List Int)):=⟨_,rfl⟩
     replace H:(if y112.length + l1.length < 140737488355328 then ((some (y112 ++ l1:List Int)).bind fun y115=>((some (([(t111) % 256,(t110) % 256]:List Int):List Int)).bind fun y118=>(if y115.length + y118.length < 140737488355328 then (some ((y115 ++ y118),0)) else (none)))) else (none))=some (r1,r2):=by first|(rw [hy112];with_reducible exact H)|(have H2_:=(Option.bind_some _ _).symm.trans H;rw [hy112];with_reducible exact H2_)|(have H2_:=(Option.bind_some _ _).symm.trans H;with_reducible exact H2_)|with_reducible exact H|(rw [hy112];exact H)|exact H
     have Ny112:=am hy112;clear hy112
     by_cases c13:y112.length + l1.length < 140737488355328
     ·rw [if_pos c13] at H;have LMc13:=am c13;clear c13;obtain ⟨y115,hy115⟩:∃ y_:List Int,y_=(y112 ++ l1):=⟨_,rfl⟩
      replace H:((some (([(t111) % 256,(t110) % 256]:List Int):List Int)).bind fun y118=>(if y115.length + y118.length < 140737488355328 then (some ((y115 ++ y118),0)) else (none)))=some (r1,r2):=by first|(rw [hy115];with_reducible exact H)|(have H2_:=(Option.bind_some _ _).symm.trans H;rw [hy115];with_reducible exact H2_)|(have H2_:=(Option.bind_some _ _).symm.trans H;with_reducible exact H2_)|with_reducible exact H|(rw [hy115];exact H)|exact H
      have Ny115:=am hy115;clear hy115;obtain ⟨y118,hy118⟩:∃ y_:List Int,y_=(([(t111) % 256,(t110) % 256]:List Int)):=⟨_,rfl⟩
      replace H:(if y115.length + y118.length < 140737488355328 then (some ((y115 ++ y118),0)) else (none))=some (r1,r2):=by first|(rw [hy118];with_reducible exact H)|(have H2_:=(Option.bind_some _ _).symm.trans H;rw [hy118];with_reducible exact H2_)|(have H2_:=(Option.bind_some _ _).symm.trans H;with_reducible exact H2_)|with_reducible exact H|(rw [hy118];exact H)|exact H
      have Ny118:=am hy118;clear hy118
      by_cases c14:y115.length + y118.length < 140737488355328
      ·rw [if_pos c14] at H;have LMc14:=am c14;clear c14;obtain ⟨y121,hy121⟩:∃ y_:List Int,y_=(y115 ++ y118):=⟨_,rfl⟩
       replace H:(some (y121,0))=some (r1,r2):=by first|(rw [hy121];with_reducible exact H)|(have H2_:=(Option.bind_some _ _).symm.trans H;rw [hy121];with_reducible exact H2_)|(have H2_:=(Option.bind_some _ _).symm.trans H;with_reducible exact H2_)|with_reducible exact H|(rw [hy121];exact H)|exact H
       have Ny121:=am hy121;clear hy121;simp only [Option.some.injEq,Prod.mk.injEq] at H;obtain ⟨rfl,rfl⟩:=H
       go_wp2_with (first|((with_reducible refine gate_callee (f:=28) rfl ?_);refine goesL_ (some 35) rfl rfl Tryz.func28 zq10 rfl #[.int .i64 a0,.slice A1 l1.length c1] rfl zq1 ?_;(with_reducible refine (spec_l05Syndromes.calls kj4 a0 _ _ l1 t108 t109 _ ?side1 ?side2 A10.out).mono ?_);(case side1=>exact zq6);(case side2=>exact HC1.out);rintro e w' ⟨rfl,⟨nd,rfl⟩⟩;refine ⟨_,rfl,?_⟩)|((with_reducible refine gate_callee (f:=29) rfl ?_);refine goesL_ (some 45) rfl rfl Tryz.func29 zq10 rfl #[.int .i64 (wrap64 ((wrap64 ((wrap64 ((l1.length:Int) + 1)) * t108)) - t109)),.int .i64 a0] rfl zq1 ?_;(with_reducible refine (spec_l05Mod.calls (wrap64 ((wrap64 ((wrap64 ((l1.length:Int) + 1)) * t108)) - t109)) a0 t110 _ A11.out).mono ?_);rintro e w' ⟨rfl,⟨nd,rfl⟩⟩;refine ⟨_,rfl,?_⟩)|((with_reducible refine gate_callee (f:=29) rfl ?_);refine goesL_ (some 51) rfl rfl Tryz.func29 zq10 rfl #[.int .i64 (wrap64 ((wrap64 (-t108)) - t110)),.int .i64 a0] rfl zq1 ?_;(with_reducible refine (spec_l05Mod.calls (wrap64 ((wrap64 (-t108)) - t110)) a0 t111 _ A12.out).mono ?_);rintro e w' ⟨rfl,⟨nd,rfl⟩⟩;refine ⟨_,rfl,?_⟩)|((with_reducible refine gate_dst (N:=52) rfl ?_);refine Kd.R_lit (Kd.int .u8) _ 5 ?hg (N:=52) ?hd (xs:=([]:List Int)) (inner:=[]) (ok:=fun _=>True) (okp:=fun _=>True) ?hr ?hp (fun _ hk=>hk) trivial (Below.refl _ _) (Nat.le_refl _) (by simp) ?_;(case hd=>rfl);(case hg=>rfl);(case hr=>exact zq14);(case hp=>exact (Reps.none _ _));intro v113 w15 ho16 hb hg_ hnew_;clear hg_ hnew_;(first|rw [← Ny112.out] at ho16|(simp only [Int.reduceToNat] at ho16;rw [← Ny112.out] at ho16));have n0_:=am (Kd.R_lower ho16 (below_size zq0));have n1_:=am (below_step zq0 hb);clear HB;have HO114:=n0_;have HB:=n1_;clear n0_ n1_;clear hb ho16)|((with_reducible refine gate_builtin (b:=.append) (xs:=#[.tmp 52,.tmp 53]) rfl ?_);at_builtin;refine Kd.R_append_rows (Kd.int .u8) (w0:=w) w.heap.size rfl (.tmp 52) (.tmp 53) 26 5 (.int .u8 0) 1 rfl Tryz.underlying26 info5 rfl (by decide) (by omega) v113 y112 l1 _ _ _ (fun _=>True) (fun _=>False) rfl rfl ?aO ?aR (fun _ _ h=>h) (fun _ h=>h.elim) ?aF ?aB ?aS ?aL ?_;(case aR=>exact zq6);(case aB=>exact zq0);(case aF=>exact (fun _ _=>trivial));(case aO=>exact (by (with_reducible repeat (first|apply Kd.R_alloc|apply Kd.R_drewN|apply Kd.R_drew));exact HO114.out));(case aS=>exact (below_size zq0));(case aL=>have:=LMc13.out;omega);intro v116 w17 ho hb hg hat;rw [← Ny115.out] at ho;have n0_:=am (hb);have n1_:=am (ho);clear HB;clear HO114;have HB:=n0_;have HO117:=n1_;clear n0_ n1_;clear ho hb hg hat)|((with_reducible refine gate_dst (N:=59) rfl ?_);refine Kd.R_lit (Kd.int .u8) _ 5 ?hg (N:=59) ?hd (xs:=([(t111) % 256,(t110) % 256]:List Int)) (inner:=[.int .u8 ((t111) % 256),.int .u8 ((t110) % 256)]) (ok:=fun _=>True) (okp:=fun _=>True) ?hr ?hp (fun _ hk=>hk) trivial (Below.refl _ _) (Nat.le_refl _) (by simp) ?_;(case hd=>rfl);(case hg=>rfl);(case hr=>exact zq14);(case hp=>exact (Reps.one (show Kd.M (Kd.int .u8) _ _ _ ((t111) % 256) [.int .u8 ((t111) % 256)] from rfl) (Reps.one (show Kd.M (Kd.int .u8) _ _ _ ((t110) % 256) [.int .u8 ((t110) % 256)] from rfl) (Reps.none _ _))));intro v119 w18 ho19 hb hg_ hnew_;clear hg_ hnew_;(first|rw [← Ny118.out] at ho19|(simp only [Int.reduceToNat] at ho19;rw [← Ny118.out] at ho19));have n0_:=am (Kd.R_elder' (by (with_reducible repeat (first|apply Kd.R_alloc|apply Kd.R_drewN|apply Kd.R_drew));exact HO117.out) (Kd.R_base ho19) hb);have n1_:=am (Kd.R_lower (Kd.R_new' ho19 (Kd.R_lt (by (with_reducible repeat (first|apply Kd.R_alloc|apply Kd.R_drewN|apply Kd.R_drew));exact HO117.out))) (below_size zq0));have n2_:=am (below_step zq0 hb);clear HO117;clear HB;have HO117:=n0_;have HO120:=n1_;have HB:=n2_;clear n0_ n1_ n2_;clear hb ho19;obtain ⟨Ao21,co21,eo21⟩:=Kd.R_slice HO120.out;subst eo21)|((with_reducible refine gate_builtin (b:=.append) (xs:=#[.tmp 54,.tmp 59]) rfl ?_);at_builtin;refine Kd.R_append_rows (Kd.int .u8) (w0:=w) w.heap.size rfl (.tmp 54) (.tmp 59) 26 5 (.int .u8 0) 1 rfl Tryz.underlying26 info5 rfl (by decide) (by omega) v116 y115 y118 _ _ _ (fun k_=>some k_≠(.slice Ao21 y118.length co21:Value).ownBlock) (fun _=>False) rfl rfl ?aO ?aR (fun _ _ h=>h) (fun _ h=>h.elim) ?aF ?aB ?aS ?aL ?_;(case aR=>repeat (first|exact (Kd.R_reads' HO120.out).2.2|(with_reducible refine Kd.C_alloc ?_ _)|(with_reducible refine Kd.C_drewN ?_ _)|(with_reducible refine Kd.C_drew ?_)));(case aB=>exact zq0);(case aF=>exact (fun k_ hk=>Kd.fresh' (Kd.R_lt (by (with_reducible repeat (first|apply Kd.R_alloc|apply Kd.R_drewN|apply Kd.R_drew));exact HO120.out)) k_ hk));(case aO=>exact (by (with_reducible repeat (first|apply Kd.R_alloc|apply Kd.R_drewN|apply Kd.R_drew));exact Kd.R_mono HO117.out (fun _ hk=>hk.2)));(case aS=>exact (below_size zq0));(case aL=>have:=LMc14.out;omega);intro v122 w20 ho hb hg hat;rw [← Ny121.out] at ho;have n0_:=am (Kd.R_after (ok:=(fun _=>True)) (by (with_reducible repeat (first|apply Kd.R_alloc|apply Kd.R_drewN|apply Kd.R_drew));exact HO120.out) hg hat);have n1_:=am (hb);have n2_:=am (ho);clear HO120;clear HB;clear HO117;have HO120:=n0_;have HB:=n1_;have HO123:=n2_;clear n0_ n1_ n2_;clear ho hb hg hat))
       go_ret2
       exact ⟨_,by first|rfl|(simp [errW_none,errW_some,IntKind.wrap_i64,wrap64];done)|(simp [errW_none,errW_some] <;> rfl)|(simp [*,errW_none,errW_some] <;> rfl),by (with_reducible repeat (first|apply Kd.R_alloc|apply Kd.R_drewN|apply Kd.R_drew));exact Kd.R_mono HO123.out (fun _ hk=>trivial),by repeat (first|(with_reducible first|exact HB.out|apply below_alloc|apply pw_below_drewN|apply below_drew1)|exact HB.out)⟩
      ·rw [if_neg c14] at H;exact absurd H (by simp)
     ·rw [if_neg c13] at H;exact absurd H (by simp)
 ·rw [if_neg c4] at H;have c4b0:=beq_eq_false_iff_ne.mpr c4;have c4b1:=bne_iff_ne.mpr c4;obtain ⟨y102,hy102⟩:∃ y_:List Int,y_=(([]:List Int)):=⟨_,rfl⟩
  replace H:(some (y102,t101))=some (r1,r2):=by first|(rw [hy102];with_reducible exact H)|(have H2_:=(Option.bind_some _ _).symm.trans H;rw [hy102];with_reducible exact H2_)|(have H2_:=(Option.bind_some _ _).symm.trans H;with_reducible exact H2_)|with_reducible exact H|(rw [hy102];exact H)|exact H
  have Ny102:=am hy102;clear hy102;simp only [Option.some.injEq,Prod.mk.injEq] at H;obtain ⟨rfl,rfl⟩:=H
  go_enter Tryz.func8,Tryz.ntmps8
  go_wp2_with (first|((with_reducible refine gate_callee (f:=27) rfl ?_);refine goesL_ (some 14) rfl rfl Tryz.func27 zq10 rfl #[.int .i64 a0,.slice A1 l1.length c1] rfl zq1 ?_;(with_reducible refine (spec_l05Checked.calls k a0 _ _ l1 t101 _ ?side1 ?side2 A3.out).mono ?_);(case side1=>exact zq3);(case side2=>exact HC1.out);rintro e w' ⟨rfl,⟨nd,rfl⟩⟩;refine ⟨_,rfl,?_⟩)|((with_reducible refine gate_dst (N:=17) rfl ?_);refine Kd.R_lit (Kd.int .u8) _ 5 ?hg (N:=17) ?hd (xs:=([]:List Int)) (inner:=[]) (ok:=fun _=>True) (okp:=fun _=>True) ?hr ?hp (fun _ hk=>hk) trivial (Below.refl _ _) (Nat.le_refl _) (by simp) ?_;(case hd=>rfl);(case hg=>rfl);(case hr=>exact zq14);(case hp=>exact (Reps.none _ _));intro v103 w22 ho23 hb hg_ hnew_;clear hg_ hnew_;(first|rw [← Ny102.out] at ho23|(simp only [Int.reduceToNat] at ho23;rw [← Ny102.out] at ho23));have n0_:=am (Kd.R_lower ho23 (below_size zq0));have n1_:=am (below_step zq0 hb);clear HB;have HO104:=n0_;have HB:=n1_;clear n0_ n1_;clear hb ho23))
  go_ret2
  exact ⟨_,by first|rfl|(simp [errW_none,errW_some,IntKind.wrap_i64,wrap64];done)|(simp [errW_none,errW_some] <;> rfl)|(simp [*,errW_none,errW_some] <;> rfl),by (with_reducible repeat (first|apply Kd.R_alloc|apply Kd.R_drewN|apply Kd.R_drew));exact HO104.out,by repeat (first|(with_reducible first|exact HB.out|apply below_alloc|apply pw_below_drewN|apply below_drew1)|exact HB.out)⟩
end Go.Proofs.YtfeehhbnlmhflaaGreatDoor.G
end
