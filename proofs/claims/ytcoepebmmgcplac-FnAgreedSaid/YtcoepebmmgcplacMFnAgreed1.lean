/- The law's functions, their contracts, and the plain lemmas: texts of this claim, laid together. -/
import Derived.Lib.AppendZeros
import Derived.Sort.Grow
import Derived.Shelf.SlSortCmp.NoneTotal
import Derived.Ground.SlsfProg
import Derived.Shelf.Small.Bits
import Derived.Shelf.Strconv.Itoa0
import Derived.Test.YtcoepebmmgcplacProg
import Derived.Sort.Statements
import Derived.Test.YtcoepebmmgcplacMFnAgreed0
section
namespace Go.Proofs.Ytcoepebmmgcplac.G
open Go.RowKit Go.Proofs.YtcoepebmmgcplacW.PrintWords Go.Proofs.YtcoepebmmgcplacW.PrintLast Go.Proofs.YtcoepebmmgcplacW.PrintMore
attribute [local go_sem] max2_int min2_int max_two min_two max_three min_three max_four min_four
set_option linter.unusedVariables false
set_option linter.unusedSimpArgs false
attribute [local go_sem high] eqA35
def slices_Compact_Log_Entry.eq (x y:S35):Bool:=x.f0 == y.f0 && (x.f1 == y.f1 && (x.f2 == y.f2))
def slices_Compact_Log_Entry.to (l:List S35):Nat→List S35
 | 0=>[]
 | j + 1=>if j=0∨slices_Compact_Log_Entry.eq (l.getD j z35) (l.getD (j - 1) z35)=false then slices_Compact_Log_Entry.to l j ++ [l.getD j z35] else slices_Compact_Log_Entry.to l j
def slices_Compact_Log_Entry.f (l0:List S35):Option (List S35):=some (slices_Compact_Log_Entry.to l0 l0.length)
theorem slices_Compact_Log_Entry.zc {m:Nat} (u:Value) (hu:u∈(Builtin.zeroCells #[.int .i64 0,.int .i64 0,.bool false] m).toList):u.oneCell'=true:=by
 rw [Array.mem_toList_iff] at hu
 unfold Builtin.zeroCells at hu
 obtain ⟨i,_,rfl⟩:=Array.mem_map.1 hu;have h:i % (#[.int .i64 0,.int .i64 0,.bool false]:Array Value).size < 3:=Nat.mod_lt _ (by decide);generalize i % (#[.int .i64 0,.int .i64 0,.bool false]:Array Value).size=q at *
 rcases (by omega:q=0∨q=1∨q=2) with rfl|rfl|rfl <;> rfl
theorem slices_Compact_Log_Entry.same {l0 xs:List S35} {i j:Nat} (h:xs.drop i=l0.drop i) (hij:i≤j):xs.getD j z35=l0.getD j z35:=by
 have h1:=congrArg (fun l=>l[j - i]?) h;simp only [List.getElem?_drop] at h1;rw [show i + (j - i)=j by omega] at h1;rw [List.getD_eq_getElem?_getD,h1,List.getD_eq_getElem?_getD]
theorem slices_Compact_Log_Entry.cmp {l0 xs:List S35} {i p:Nat} (hi:i≤p) (hp:p + 1 < l0.length) (h1:xs.length=l0.length) (h2:xs.take i=slices_Compact_Log_Entry.to l0 (p + 1)) (h3:xs.drop i=l0.drop i) :
  (slices_Compact_Log_Entry.eq (xs.getD (p + 1) z35) (xs.getD p z35)=true→xs.take i=slices_Compact_Log_Entry.to l0 (p + 2))∧(slices_Compact_Log_Entry.eq (xs.getD (p + 1) z35) (xs.getD p z35)=false→(xs.set i (xs.getD (p + 1) z35)).take (i + 1)=slices_Compact_Log_Entry.to l0 (p + 2))∧(xs.set i (xs.getD (p + 1) z35)).drop (i + 1)=l0.drop (i + 1):=by
 have ex:=slices_Compact_Log_Entry.same h3 (show i≤p + 1 by omega);have ey:=slices_Compact_Log_Entry.same h3 hi;rw [ex,ey];refine ⟨fun h=>?_,fun h=>?_,?_⟩
 ·rw [h2];simp only [slices_Compact_Log_Entry.to,Nat.add_sub_cancel,h]
  simp
 ·rw [List.take_succ_eq_append_getElem (by simp;omega),List.take_set_of_le (Nat.le_refl _),h2];simp only [slices_Compact_Log_Entry.to,Nat.add_sub_cancel,h]
  simp
 ·rw [List.drop_set_of_lt (by omega)];have h4:=congrArg (List.drop 1) h3
  simpa [List.drop_drop] using h4
theorem slices_Compact_Log_Entry.get {l0:List S35} {j:Nat} (h:j < l0.length):l0.getD j z35=l0[j]:=by
 rw [List.getD_eq_getElem?_getD,List.getElem?_eq_getElem h];rfl
theorem slices_Compact_Log_Entry.one {l0:List S35} (h:1≤l0.length):slices_Compact_Log_Entry.to l0 (0 + 1)=l0.take (0 + 1):=by
 rcases l0 with _|⟨x,l⟩
 ·simp at h
 ·simp [slices_Compact_Log_Entry.to]
theorem slices_Compact_Log_Entry.more {l0:List S35} {m:Nat} (h:m + 1 < l0.length) (h1:slices_Compact_Log_Entry.to l0 (m + 1)=l0.take (m + 1)) (h2:slices_Compact_Log_Entry.eq (l0.getD (m + 1) z35) (l0.getD m z35)=false):slices_Compact_Log_Entry.to l0 (m + 2)=l0.take (m + 2):=by
 have e:slices_Compact_Log_Entry.to l0 (m + 2)=slices_Compact_Log_Entry.to l0 (m + 1) ++ [l0.getD (m + 1) z35]:=by
  conv=>lhs;unfold slices_Compact_Log_Entry.to
  simp only [Nat.add_sub_cancel,h2,or_true,if_true]
 rw [e,h1,slices_Compact_Log_Entry.get h,← List.take_succ_eq_append_getElem h]
theorem slices_Compact_Log_Entry.less {l0:List S35} {m:Nat} (h1:slices_Compact_Log_Entry.to l0 (m + 1)=l0.take (m + 1)) (h2:slices_Compact_Log_Entry.eq (l0.getD (m + 1) z35) (l0.getD m z35)=true):slices_Compact_Log_Entry.to l0 (m + 2)=l0.take (m + 1):=by
 have e:slices_Compact_Log_Entry.to l0 (m + 2)=slices_Compact_Log_Entry.to l0 (m + 1):=by
  conv=>lhs;unfold slices_Compact_Log_Entry.to
  simp only [Nat.add_sub_cancel,h2]
  simp
 rw [e,h1]
set_option maxHeartbeats 4000000 in
set_option maxRecDepth 100000 in
theorem slices_Compact_Log_Entry.calls (P0_:Nat→Prop) (u9000_:Value) (l0:List (S35)) (r:List S35) (w0 w:World) (hB:Below w0.heap.size w0 w) (ho0:Kd.R k35 35 w w0.heap.size P0_ u9000_ l0) (h:slices_Compact_Log_Entry.f l0=some r) :
  Calls Try.prog 33 #[u9000_] w fun e w'=>∃ v0_:Value,e=.returned (v0_)∧Kd.R k35 35 w' w0.heap.size (fun k_=>(P0_ k_∨w.heap.size≤k_)) v0_ r∧Below w0.heap.size w0 w'∧Kept w w' (fun k_=>P0_ k_):=by
 obtain rfl:=Option.some.inj h;clear h;obtain ⟨A0,c,rfl⟩:=Kd.R_slice ho0;obtain ⟨_,hc,hC⟩:=Kd.R_reads' ho0;have hl:l0.length≤9223372036854775807:=hC.2.1;have hu:=Try.underlying35;have HO:=am ho0;have HB:=am hB
 by_cases hl2:l0.length < 2
 ·have hd:decide ((l0.length:Int) < 2)=true:=decide_eq_true (by omega)
  have he:slices_Compact_Log_Entry.to l0 l0.length=l0:=by
   rcases l0 with _|⟨x,_|⟨y,l⟩⟩
   ·rfl
   ·rfl
   ·exact absurd hl2 (by simp)
  have HE:=am he;clear ho0 hB hC he
  go_enter Try.func33,Try.ntmps33
  go_wp2
  go_ret
  rw [HE.out];exact ⟨_,rfl,Kd.R_mono HO.out (fun _ hk=>.inl hk),HB.out,Kept.refl w _⟩
 ·have hd:decide ((l0.length:Int) < 2)=false:=decide_eq_false (by omega);obtain ⟨b0,c0,e0,hbg,hg,cells,hcells⟩:=Kd.R_form ho0 (by omega);cases e0;have GB:=am hbg;have PG:=am (ho0.1 b0 rfl);generalize hn:l0.length=n at *;have Hn:=am hn
  have hn2:2≤n:=by omega
  clear hn ho0 hB hC hcells hbg hl2
  go_enter Try.func33,Try.ntmps33
  go_wp2
  go_loopg [3] n (fun gg s3 wr=>∃ m:Nat,m + 1≤n∧n - (m + 1)≤gg∧s3=.int .i64 ((m:Int) + 1)∧Aside0 (slices_Compact_Log_Entry.to l0 (m + 1)=l0.take (m + 1))∧Aside0 (Kd.R k35 35 wr w0.heap.size P0_ (.slice (some ⟨b0,0,none⟩) n c) l0)∧Aside0 (Below w0.heap.size w0 wr)∧Aside0 (Kept w wr P0_))
  case atStart =>
   refine ⟨0,by omega,by omega,by go_num,⟨slices_Compact_Log_Entry.one (by rw [Hn.out];omega)⟩,⟨by (with_reducible repeat (first|apply Kd.R_alloc|apply Kd.R_drewN|apply Kd.R_drew));exact HO.out⟩,⟨by repeat (first|exact HB.out|apply below_drew1)⟩,⟨by repeat (first|exact Kept.refl w _|apply Kept.drew)⟩⟩
  case round =>
   obtain ⟨m,hm,hg',rfl,HX,HOr,HBr,HKr⟩:=hrel;clear HO HB
   by_cases hlt:m + 1 < n
   ·have hltz:(m:Int) + 1 < (n:Int):=by omega
    have hw1:IntKind.i64.wrap ((m:Int) + 1 - 1)=(m:Int):=by rw [IntKind.wrap_i64];omega
    obtain ⟨ceR,hclR,hMR,hccR,hfrR⟩:=Kd.R_elem HOr.out z35 ((m + 1:Nat):Int) (by omega) (by omega);obtain rfl:=k35_openM hMR;have hx0:=hccR 0 _ rfl
    try simp only [show (k35).sz=3 from rfl,Nat.mul_one,Nat.add_zero] at hx0
    have hx1:=hccR 1 _ rfl
    try simp only [show (k35).sz=3 from rfl,Nat.mul_one,Nat.add_zero] at hx1
    have hx2:=hccR 2 _ rfl
    try simp only [show (k35).sz=3 from rfl,Nat.mul_one,Nat.add_zero] at hx2
    clear hclR hccR hfrR hMR;obtain ⟨ceR,hclR,hMR,hccR,hfrR⟩:=Kd.R_elem HOr.out z35 (m:Int) (by omega) (by omega);obtain rfl:=k35_openM hMR;have hy0:=hccR 0 _ rfl
    try simp only [show (k35).sz=3 from rfl,Nat.mul_one,Nat.add_zero] at hy0
    have hy1:=hccR 1 _ rfl
    try simp only [show (k35).sz=3 from rfl,Nat.mul_one,Nat.add_zero] at hy1
    have hy2:=hccR 2 _ rfl
    try simp only [show (k35).sz=3 from rfl,Nat.mul_one,Nat.add_zero] at hy2
    clear hclR hccR hfrR hMR;simp only [Int.toNat_natCast] at hx0 hx1 hx2 hy0 hy1 hy2
    have hyy:∀ j:Nat,rdOf z35 l0 (j:Int)=l0.getD j z35:=fun _=>rfl
    try simp only [hyy] at hx0 hx1 hx2 hy0 hy1 hy2
    clear hyy
    have hX2:slices_Compact_Log_Entry.eq (l0.getD (m + 1) z35) (l0.getD m z35)=false→slices_Compact_Log_Entry.to l0 (m + 2)=l0.take (m + 2):=fun he=>slices_Compact_Log_Entry.more (by rw [Hn.out];omega) HX.out he
    have hX3:slices_Compact_Log_Entry.eq (l0.getD (m + 1) z35) (l0.getD m z35)=true→slices_Compact_Log_Entry.to l0 (m + 2)=l0.take (m + 1):=fun he=>slices_Compact_Log_Entry.less HX.out he
    have HX2:=am hX2;have HX3:=am hX3;clear hX2 hX3
    have ht:((m:Int) + 1).toNat=m + 1:=by omega
    have hp:(0≤(m:Int) + 1)=True:=eq_true (by omega);have hp1:(0≤(m:Int))=True:=eq_true (by omega);have hp2:((m:Int) < (n:Int))=True:=eq_true (by omega)
    cases hq:slices_Compact_Log_Entry.eq (l0.getD (m + 1) z35) (l0.getD m z35) with
    | false =>
     have HQ:=am hq
     unfold slices_Compact_Log_Entry.eq at hq
     generalize l0.getD (m + 1) z35=x at *;generalize l0.getD m z35=y at *
     go_wp2
     repeat (go_quiet (fail);try go_wp2)
     go_roundg (n - (m + 2))
     case measure=>omega
     case rel=>exact ⟨m + 1,by omega,by omega,by go_num,⟨HX2.out HQ.out⟩,⟨by (with_reducible repeat (first|apply Kd.R_alloc|apply Kd.R_drewN|apply Kd.R_drew));exact HOr.out⟩,⟨by repeat (first|exact HBr.out|apply pw_below_drewN|apply below_drew1)⟩,⟨by repeat (first|exact HKr.out|apply Kept.drewN|apply Kept.drew)⟩⟩
    | true =>
     have HQ:=am hq
     unfold slices_Compact_Log_Entry.eq at hq
     generalize l0.getD (m + 1) z35=x at *;generalize l0.getD m z35=y at *;have hcm:(c=m + 1)=False:=eq_false (by omega);have hcm1:((m:Int) + 1≤(n:Int))=True:=eq_true (by omega);have hcm2:((m:Int) + 1≤(c:Int))=True:=eq_true (by omega);have hcm3:(m + 1≤c)=True:=eq_true (by omega);have hcm4:(m + 1≤n)=True:=eq_true (by omega)
     go_wp2
     repeat (go_quiet (fail);try go_wp2)
     have HX4:=am (HX3.out HQ.out);clear HX2 HX3 HQ HX hg' hltz;clear hx0 hx1 hx2 hy0 hy1 hy2 hcm hcm1 hcm2 hcm3 hcm4 hp hp1 hp2 ht hw1 hq;obtain ⟨q,hqe⟩:∃ q,q=m + 1:=⟨_,rfl⟩
     have hqi:((m:Int) + 1)=(q:Int):=by omega
     rw [show m + 2=q + 1 by omega,← hqe] at HX4;simp only [hqi];rw [← hqe]
     have hqn:q < n:=by omega
     clear hqi hqe hm hlt;obtain ⟨nn,hnn0⟩:∃ nn,nn=n - q:=⟨_,rfl⟩;rw [← hnn0]
     have hnn:q + nn=n:=by omega
     clear hnn0
     go_loopg [3,5] nn (fun gg s3 s5 wr=>∃ (i t:Nat) (xs:List S35),t + 1≤nn∧nn - (t + 1)≤gg∧i≤q + t∧s3=.int .i64 i∧s5=.int .i64 ((t:Int) + 1)∧Aside0 (xs.length=n∧xs.take i=slices_Compact_Log_Entry.to l0 (q + t + 1)∧xs.drop i=l0.drop i)∧Aside0 (Kd.R k35 35 wr w0.heap.size P0_ (.slice (some ⟨b0,0,none⟩) n c) xs)∧Aside0 (Below w0.heap.size w0 wr)∧Aside0 (Kept w wr P0_))
     case atStart=>exact ⟨q,0,l0,by omega,by omega,by omega,rfl,by go_num,⟨Hn.out,HX4.out.symm,rfl⟩,⟨by (with_reducible repeat (first|apply Kd.R_alloc|apply Kd.R_drewN|apply Kd.R_drew));exact HOr.out⟩,⟨by repeat (first|exact HBr.out|apply pw_below_drewN|apply below_drew1)⟩,⟨by repeat (first|exact HKr.out|apply Kept.drewN|apply Kept.drew)⟩⟩
     case round =>
      clear HOr HBr HKr HX4;obtain ⟨i,t,xs,htn,hg2,hit,rfl,rfl,HX,HOr,HBr,HKr⟩:=hrel
      by_cases hlt:t + 1 < nn
      ·have hltz:(t:Int) + 1 < (nn:Int):=by omega
       have hw1:IntKind.i64.wrap ((t:Int) + 1 - 1)=(t:Int):=by rw [IntKind.wrap_i64];omega
       have hlen:=HX.out.1;obtain ⟨ceR,hclR,hMR,hccR,hfrR⟩:=Kd.R_elem HOr.out z35 ((q + t + 1:Nat):Int) (by omega) (by omega);obtain rfl:=k35_openM hMR;have hx0:=hccR 0 _ rfl;have hx1:=hccR 1 _ rfl;have hx2:=hccR 2 _ rfl;clear hclR hccR hfrR hMR;obtain ⟨ceR,hclR,hMR,hccR,hfrR⟩:=Kd.R_elem HOr.out z35 ((q + t:Nat):Int) (by omega) (by omega);obtain rfl:=k35_openM hMR;have hy0:=hccR 0 _ rfl;have hy1:=hccR 1 _ rfl;have hy2:=hccR 2 _ rfl;clear hclR hccR hfrR hMR
       have e1:(q + t + 1) * 3=q * 3 + (t + 1) * 3:=by omega
       have e2:(q + t) * 3=q * 3 + t * 3:=by omega
       simp only [Int.toNat_natCast,show (k35).sz=3 from rfl,Nat.add_zero,e1,e2] at hx0 hx1 hx2 hy0 hy1 hy2;clear e1 e2;have HF:=am (slices_Compact_Log_Entry.cmp (l0:=l0) (xs:=xs) (i:=i) (p:=q + t) hit (by rw [Hn.out];omega) (by rw [Hn.out];exact HX.out.1) HX.out.2.1 HX.out.2.2)
       have ht:((t:Int) + 1).toNat=t + 1:=by omega
       have hp:(0≤(t:Int) + 1)=True:=eq_true (by omega);have hp1:(0≤(t:Int))=True:=eq_true (by omega);have hp2:((t:Int) < (nn:Int))=True:=eq_true (by omega)
       cases hq:slices_Compact_Log_Entry.eq (xs.getD (q + t + 1) z35) (xs.getD (q + t) z35) with
       | true =>
        have HQ:=am hq
        unfold slices_Compact_Log_Entry.eq at hq
        generalize xs.getD (q + t + 1) z35=x' at *;generalize xs.getD (q + t) z35=y' at *
        go_wp2
        repeat (go_quiet (fail);try go_wp2)
        go_roundg (nn - (t + 2))
        case measure=>omega
        case rel=>exact ⟨i,t + 1,xs,by omega,by omega,by omega,rfl,by go_num,⟨hlen,HF.out.1 HQ.out,HX.out.2.2⟩,⟨by (with_reducible repeat (first|apply Kd.R_alloc|apply Kd.R_drewN|apply Kd.R_drew));exact HOr.out⟩,⟨by repeat (first|exact HBr.out|apply pw_below_drewN|apply below_drew1)⟩,⟨by repeat (first|exact HKr.out|apply Kept.drewN|apply Kept.drew)⟩⟩
       | false =>
        have HQ:=am hq
        unfold slices_Compact_Log_Entry.eq at hq
        generalize xs.getD (q + t + 1) z35=x' at *;generalize xs.getD (q + t) z35=y' at *
        have hiz:(i:Int) < (n:Int):=by omega
        have HV0:=am hx0;have HV1:=am hx1;have HV2:=am hx2
        go_wp2
        go_quiet (fail)
        obtain ⟨w9,hw9⟩:∃ w9,w9=wr.drewN nq:=⟨_,rfl⟩;have HO9:=am (show Kd.R k35 35 w9 w0.heap.size P0_ (.slice (some ⟨b0,0,none⟩) n c) xs from by rw [hw9];(with_reducible repeat (first|apply Kd.R_drewN|apply Kd.R_drew));exact HOr.out);have HB9:=am (show Below w0.heap.size w0 w9 from by rw [hw9];repeat (first|exact HBr.out|apply pw_below_drewN|apply below_drew1));have HK9:=am (show Kept w w9 P0_ from by rw [hw9];repeat (first|exact HKr.out|apply Kept.drewN|apply Kept.drew))
        have hz0:w9.cell? ⟨b0,q * 3 + (t + 1) * 3,none⟩=some (.int .i64 x'.f0):=by rw [hw9];exact HV0.out
        have hz1:w9.cell? ⟨b0,q * 3 + (t + 1) * 3 + 1,none⟩=some (.int .i64 x'.f1):=by rw [hw9];exact HV1.out
        have hz2:w9.cell? ⟨b0,q * 3 + (t + 1) * 3 + 2,none⟩=some (.bool x'.f2):=by rw [hw9];exact HV2.out
        rw [← hw9];clear hw9 hx0 hx1 hx2 hy0 hy1 hy2 HOr HBr HKr HV0 HV1 HV2;obtain ⟨ce,hcl,hM,hcc,hfr⟩:=Kd.R_elem HO9.out z35 (i:Int) (by omega) (by omega);obtain rfl:=k35_openM hM;have HP9:=am (Kd.R_seg HO9.out (i:Int) (by omega) (by omega) (seg:=[.int .i64 x'.f0,.int .i64 x'.f1,.bool x'.f2]) (j:=0) hcl hcc (show 3≤3 from by decide) (x':=x') (k35_mkM _ _ _ x') (fun _ hk=>hk));have hr0:=hcc 0 _ rfl;have hr1:=hcc 1 _ rfl;have hr2:=hcc 2 _ rfl;have hs0:=hfr 0;have hs1:=hfr 1;have hs2:=hfr 2;simp only [Int.toNat_natCast,show (k35).sz=3 from rfl,Nat.add_zero] at hr0 hr1 hr2 hs0 hs1 hs2;clear hcl hcc hfr hM
        go_wp2_with (first|((with_reducible refine gate_store (t:=35) (p:=51) rfl ?_);refine store_event (t:=35) (p:=51) (v:=?vo) (w1:=(((w9.setCell ⟨b0,i * 3,none⟩ (.int .i64 x'.f0)).setCell ⟨b0,i * 3 + 1,none⟩ (.int .i64 x'.f1)).setCell ⟨b0,i * 3 + 2,none⟩ (.bool x'.f2))) ?hg ?ho ?hn ?hr ?_;(case ho=>rfl);(case hg=>rfl);(case hn=>rfl);(case hr=>exact zq14);intro w10 hw;have HO10:=am (show Kd.R k35 35 w10 w0.heap.size P0_ (.slice (some ⟨b0,0,none⟩) n c) (xs.set i x') from by rw [hw];exact HP9.out.1);have HB10:=am (show Below w0.heap.size w0 w10 from by rw [hw];exact (((HB9.out).setCell GB.out (.int .i64 x'.f0)).setCell GB.out (.int .i64 x'.f1)).setCell GB.out (.bool x'.f2));have HK10:=am (show Kept w w10 P0_ from by rw [hw];exact (((HK9.out).setCell (.inl PG.out) (.int .i64 x'.f0)).setCell (.inl PG.out) (.int .i64 x'.f1)).setCell (.inl PG.out) (.bool x'.f2));clear hw))
        go_roundg (nn - (t + 2))
        case measure=>omega
        case rel=>exact ⟨i + 1,t + 1,xs.set i x',by omega,by omega,by omega,by go_num,by go_num,⟨by rw [List.length_set];exact hlen,HF.out.2.1 HQ.out,HF.out.2.2⟩,HO10,HB10,HK10⟩
      ·have hltz:¬ (t:Int) + 1 < (nn:Int):=by omega
       have hlen:=HX.out.1
       have hin:i < n:=by omega
       have htn2:q + t + 1=n:=by omega
       have hT:=Kd.R_take HOr.out (m:=i) (by omega);have ht:=Try.underlying25;obtain ⟨w2,hcl,ho2,hg2⟩:=R_cleared (P:=Try.prog) (n:=n - i) hT 25 0 (.agg #[(.int .i64 0),(.int .i64 0),(.bool false)]) ht (fun w=>by kernel_rfl) rfl (fun u hu=>slices_Compact_Log_Entry.zc _ hu) (by omega) (by omega);rw [show i * (k35).sz=i * 3 from rfl] at hcl;have HO2:=am ho2;have HG2:=am hg2;have hcm:(c=i)=False:=eq_false (by omega);have hcm1:((i:Int)≤(c:Int))=True:=eq_true (by omega);have hcm2:(i≤c)=True:=eq_true (by omega);have hcm3:((i:Int)≤(n:Int))=True:=eq_true (by omega);have hcm4:(i≤n)=True:=eq_true (by omega);have HE:=HX.out.2.1;rw [htn2] at HE;have HE2:=am HE;clear ho2 hg2 hT HX HE htn2
       go_wp2
       go_ret
       rw [← HE2.out];refine ⟨_,rfl,Kd.R_mono HO2.out (fun _ hk=>.inl hk),HBr.out.grown HG2.out HBr.out.size (fun k hk=>?_),Kept.of_grown HG2.out HKr.out ?_⟩
       ·injection hk with hk
        subst hk;exact GB.out
       ·intro k hk
        injection hk with hk
        subst hk;exact .inl PG.out
   ·have hltz:¬ (m:Int) + 1 < (n:Int):=by omega
    have:m + 1=n:=by omega
    have HE:=HX.out;rw [this,List.take_of_length_le (by rw [Hn.out];exact Nat.le_refl _)] at HE;have HE2:=am HE;clear HX HE
    go_wp2
    go_ret
    rw [HE2.out];exact ⟨_,rfl,Kd.R_mono (by (with_reducible repeat (first|apply Kd.R_alloc|apply Kd.R_drewN|apply Kd.R_drew));exact HOr.out) (fun _ hk=>.inl hk),by repeat (first|exact HBr.out|apply pw_below_drewN|apply below_drew1),by repeat (first|exact HKr.out|apply Kept.drewN|apply Kept.drew)⟩
end Go.Proofs.Ytcoepebmmgcplac.G
end
section
namespace Go.Proofs.Ytcoepebmmgcplac.G
open Go.RowKit Go.Proofs.YtcoepebmmgcplacW.PrintWords Go.Proofs.YtcoepebmmgcplacW.PrintLast Go.Proofs.YtcoepebmmgcplacW.PrintMore
attribute [local go_sem] max2_int min2_int max_two min_two max_three min_three max_four min_four
set_option linter.unusedVariables false
set_option linter.unusedSimpArgs false
set_option maxRecDepth 100000 in
set_option maxHeartbeats 2000000 in
theorem slices_Grow_Log_Entry.nil (n:Nat) (h1:n < 5864062014805) (w:World) :
  Calls Try.prog 55 #[.slice none 0 0,.int .i64 n] w fun e w'=>∃ v0_:Value,e=.returned v0_∧Kd.R k35 35 w' w.heap.size (fun _=>True) v0_ []∧Below w.heap.size w w':=by
 have hneg:decide ((n:Int) < 0)=false:=decide_eq_false (by omega)
 by_cases hn:n=0
 ·subst hn
  go_enter Try.func55,Try.ntmps55
  go_wp2
  go_ret
  exact ⟨_,rfl,Kd.R_nil _ _ _ _ _,by repeat (first|exact Below.refl _ _|apply below_drew1)⟩
 ·obtain ⟨i0,hi,hz0,hz1,hz2⟩:=info_parts info35;have happ:=Lib.run_append_nil_zeros (P:=Try.prog) w 25 3 25 35 i0 (.agg #[(.int .i64 0),(.int .i64 0),(.bool false)]) .i64 .i64 Try.underlying25 Try.underlying3 hi hz0 n (by omega) (by rw [hz1];decide) (by omega) (by rw [hz2];omega);generalize hcap:grownCap w n 0 35=cap2 at happ
  have hcapge:n≤cap2:=by rw [← hcap];exact grownCap_ge w _ 0 35
  have hcaple:cap2≤maxLen:=by rw [← hcap];exact grownCap_le_maxLen w _ 0 35 (by unfold maxLen;omega)
  generalize hZ:(Builtin.zeroCells (Value.agg #[(.int .i64 0),(.int .i64 0),(.bool false)]).cells n ++ Builtin.zeroCells (Value.agg #[(.int .i64 0),(.int .i64 0),(.bool false)]).cells (cap2 - n))=Z at happ
  have hZs:Z.size=cap2 * 3:=by rw [← hZ];simp [size_zeroCells,Value.cells];omega
  have hpos:decide ((n:Int) > 0)=true:=decide_eq_true (by omega);have hpos1:decide (0 < (n:Int))=true:=decide_eq_true (by omega)
  have hw0:IntKind.i64.wrap (n:Int)=n:=by rw [IntKind.wrap_i64];omega
  clear hcap hZ
  go_enter Try.func55,Try.ntmps55
  go_wp2_with (at_builtin;refine Lib.wpList_append_run _ rfl _ _ _ _ rfl _ _ rfl rfl _ _ happ ?_)
  go_ret
  refine ⟨_,rfl,?_,below_drew1 (below_alloc (Below.refl _ _) _)⟩;exact ⟨fun _ _=>trivial,[],⟨by simp,.inr ⟨w.heap.size,cap2,Z,rfl,Nat.le_refl _,heap_alloc_new w _,Nat.zero_le _,hcaple,hZs,by simp⟩⟩,Reps.none _ _⟩
def slices_Concat_Log_Entry.f (l0:List (List (S35))):Option (List (S35)):=if l0.flatten.length < 5864062014805 then some l0.flatten else none
theorem slices_Concat_Log_Entry.succ {l0:List (List (S35))} {k:Nat} {x:List (S35)} (h:l0[k]?=some x):(l0.take (k + 1)).flatten=(l0.take k).flatten ++ x:=by
 obtain ⟨hk,rfl⟩:=List.getElem?_eq_some_iff.1 h;rw [List.take_succ_eq_append_getElem hk,List.flatten_append]
 simp
theorem slices_Concat_Log_Entry.le (l0:List (List (S35))) (k:Nat):(l0.take k).flatten.length≤l0.flatten.length:=by
 conv=>rhs;rw [← List.take_append_drop k l0]
 rw [List.flatten_append,List.length_append]
 omega
set_option maxHeartbeats 8000000 in
theorem slices_Concat_Log_Entry.calls (A0:Option Addr) (c0:Nat) (l0:List (List (S35))) (r:List (S35)) (w:World) (hr0:Kd.C (Kd.slice 35 k35) w A0 l0.length l0) (hc0:l0.length≤c0) (h:slices_Concat_Log_Entry.f l0=some r) :
  Calls Try.prog 29 #[.slice A0 l0.length c0] w fun e w'=>∃ v0_:Value,e=.returned v0_∧Kd.R k35 35 w' w.heap.size (fun _=>True) v0_ r∧Below w.heap.size w w':=by
 unfold slices_Concat_Log_Entry.f at h
 by_cases hl:l0.flatten.length < 5864062014805
 ·rw [if_pos hl] at h;obtain rfl:=Option.some.inj h;clear h;have hl9:l0.length≤9223372036854775807:=hr0.2.1;have hle:=slices_Concat_Log_Entry.le l0;have HR0:=am hr0;have HLE:=am hle;clear hr0 hle;generalize hn:l0.length=n at *;have Hn:=am hn;clear hn;have HF:=am hl;clear hl
  go_enter Try.func29,Try.ntmps29
  go_wp2
  go_loopg [3,11] n (fun gg s3 s11 wr=>∃ kk:Nat,kk≤n∧n - kk≤gg∧s11=.int .i64 kk∧s3=.int .i64 ((l0.take kk).flatten.length:Nat)∧Aside0 (Below w.heap.size w wr))
  case atStart=>exact ⟨0,Nat.zero_le _,by omega,rfl,by simp,⟨by repeat (first|exact Below.refl _ _|apply below_drew1)⟩⟩
  case round =>
   obtain ⟨kk,hkk,hg,rfl,rfl,BW⟩:=hrel
   by_cases hlt:kk < n
   ·have hltz:(kk:Int) < (n:Int):=by omega
    obtain ⟨ad,A1,c1,e0,hx0,hlc,hC1⟩:=at_L4 HR0.out (kk:Int) (by omega) (by omega);cases e0;simp only [Int.toNat_natCast] at hx0;replace hx0:=(BW.out.cell (World.block_lt_of_cell? w _ hx0)).trans hx0
    have hm:l0[kk]?=some (rd_L4 l0 (kk:Int)):=by
     have h1:kk < l0.length:=by rw [Hn.out];exact hlt
     simp [rd_L4,rdOf,List.getD_eq_getElem?_getD,List.getElem?_eq_getElem h1]
    generalize rd_L4 l0 (kk:Int)=x at *;have hs:=congrArg List.length (slices_Concat_Log_Entry.succ hm);rw [List.length_append] at hs;have hs1:=HLE.out (kk + 1);have hs2:=HF.out;have HM:=am hm;clear hm hC1 hlc;generalize (l0.take kk).flatten.length=a at *;have HS:=am hs;have ha:decide (IntKind.i64.wrap ((a:Int) + (x.length:Int)) < 0)=false:=decide_eq_false (by rw [IntKind.wrap_i64];omega);have ha1:decide ((a:Int) + (x.length:Int) < 0)=false:=decide_eq_false (by omega)
    have ha2:IntKind.i64.wrap ((a:Int) + (x.length:Int))=(a:Int) + (x.length:Int):=by rw [IntKind.wrap_i64];omega
    clear hs hs1 hs2
    go_wp2
    go_roundg (n - (kk + 1))
    case measure=>omega
    case rel=>exact ⟨kk + 1,by omega,by omega,by go_num,by rw [HS.out];simp,⟨by repeat (first|exact BW.out|apply below_drew1)⟩⟩
   ·have hltz:¬ (kk:Int) < (n:Int):=by omega
    have:kk=n:=by omega
    subst this
    have hT:(l0.take kk).flatten.length=l0.flatten.length:=by rw [List.take_of_length_le (by rw [Hn.out];exact Nat.le_refl _)]
    obtain ⟨T,hTe⟩:∃ T,T=l0.flatten.length:=⟨_,rfl⟩;rw [hT,← hTe];have HT:=am (show T < 5864062014805 by rw [hTe];exact HF.out);clear hT hTe
    go_wp2_with (go_at_call 55;refine (slices_Grow_Log_Entry.nil T HT.out _).mono ?_;rintro e w1 ⟨v1,rfl,ho1,hb1⟩;have HO:=am (show Kd.R k35 35 w1 w.heap.size (fun _=>True) v1 [] from Kd.R_lower ho1 (below_size BW.out));have HB:=am (show Below w.heap.size w w1 from below_step BW.out hb1);clear ho1 hb1)
    go_loopg [6,27] kk (fun gg s6 s27 wr=>∃ (ii:Nat) (v:Value),ii≤kk∧kk - ii≤gg∧s27=.int .i64 ii∧s6=v∧Aside0 (Kd.R k35 35 wr w.heap.size (fun _=>True) v (l0.take ii).flatten)∧Aside0 (Below w.heap.size w wr))
    case atStart=>exact ⟨0,_,Nat.zero_le _,by omega,rfl,rfl,⟨by (with_reducible repeat (first|apply Kd.R_alloc|apply Kd.R_drewN|apply Kd.R_drew));exact HO.out⟩,⟨by repeat (first|exact HB.out|apply below_drew1)⟩⟩
    case round =>
     clear HO HB BW;obtain ⟨ii,v,hii,hg2,rfl,rfl,HO,HB⟩:=hrel
     by_cases hlt:ii < kk
     ·have hltz:(ii:Int) < (kk:Int):=by omega
      obtain ⟨ad,A1,c1,e0,hx0,hlc,hC1⟩:=at_L4 HR0.out (ii:Int) (by omega) (by omega);cases e0;simp only [Int.toNat_natCast] at hx0;replace hx0:=(HB.out.cell (World.block_lt_of_cell? w _ hx0)).trans hx0
      have hm:l0[ii]?=some (rd_L4 l0 (ii:Int)):=by
       have h1:ii < l0.length:=by rw [Hn.out];exact hlt
       simp [rd_L4,List.getD_eq_getElem?_getD,List.getElem?_eq_getElem h1]
      generalize rd_L4 l0 (ii:Int)=x at *;have hs:=congrArg List.length (slices_Concat_Log_Entry.succ hm);rw [List.length_append] at hs;have hs1:=HLE.out (ii + 1);have hs2:=HF.out;have HC:=am hC1;have HS:=am (slices_Concat_Log_Entry.succ hm)
      have hlim:((l0.take ii).flatten.length + x.length) * 24≤140737488355328:=by omega
      have HL:=am hlim;clear hm hC1 hs hs1 hs2 hlim
      go_wp2_with (at_builtin;refine Kd.R_append_rows k35 (w0:=w) w.heap.size rfl (.tmp 31) (.tmp 32) 25 35 (.agg #[(.int .i64 0),(.int .i64 0),(.bool false)]) 24 rfl Try.underlying25 info35 rfl (by decide) (by omega) _ (l0.take ii).flatten x _ _ _ (fun _=>True) (fun _=>False) rfl rfl (by (with_reducible repeat (first|apply Kd.R_alloc|apply Kd.R_drewN|apply Kd.R_drew));exact HO.out) (Kd.C_below HC.out (by repeat (first|exact HB.out|apply below_drew1))) (fun _ _ h=>h) (fun _ h=>h.elim) (fun _ _=>trivial) (by repeat (first|exact HB.out|apply below_drew1)) (Below.size (by repeat (first|exact HB.out|apply below_drew1))) HL.out ?_;intro v2 w2 ho2 hb2 _ _;have HO2:=am ho2;have HB2:=am hb2;clear ho2 hb2)
      go_roundg (kk - (ii + 1))
      case measure=>omega
      case rel=>exact ⟨ii + 1,v2,by omega,by omega,by go_num,rfl,⟨by rw [HS.out];exact HO2.out⟩,HB2⟩
     ·have:ii=kk:=by omega
      subst this
      have hltz:¬ (ii:Int) < (ii:Int):=by omega
      go_wp2
      go_ret
      refine ⟨_,rfl,?_,by repeat (first|exact HB.out|apply below_drew1)⟩;have h1:=HO.out;rw [List.take_of_length_le (by rw [Hn.out];exact Nat.le_refl _)] at h1;(with_reducible repeat (first|apply Kd.R_alloc|apply Kd.R_drewN|apply Kd.R_drew));exact h1
 ·rw [if_neg hl] at h;cases h
end Go.Proofs.Ytcoepebmmgcplac.G
end
section
namespace Go.Proofs.Ytcoepebmmgcplac.G
open Go.RowKit Go.Proofs.YtcoepebmmgcplacW.PrintWords Go.Proofs.YtcoepebmmgcplacW.PrintLast Go.Proofs.YtcoepebmmgcplacW.PrintMore
attribute [local go_sem] max2_int min2_int max_two min_two max_three min_three max_four min_four
set_option linter.unusedVariables false
set_option linter.unusedSimpArgs false
attribute [local go_sem high] eqA35
def slices_Index_Log_Entry.l0:Nat→List (S35)→Int→Int→Int→Int→Bool→Option (Int)
 | 0,_,_,_,_,_,_=>none
 | k + 1,x0,x7,x8,x102000,x102001,x102002=>if x8 < x7 then (if 0≤x8 then (if x8 < (x0.length:Int) then (if (x102000 == ((rd_T35 x0 x8).f0) && (x102001 == ((rd_T35 x0 x8).f1) && (x102002 == ((rd_T35 x0 x8).f2))))=true then (some x8) else (slices_Index_Log_Entry.l0 k x0 x7 (wrap64 (x8 + 1)) x102000 x102001 x102002)) else (none)) else (none)) else (some (-1))
def slices_Index_Log_Entry.f (k:Nat) (l0:List (S35)) (a1_0:Int) (a1_1:Int) (a1_2:Bool):Option (Int):=slices_Index_Log_Entry.l0 k l0 (l0.length:Int) 0 a1_0 a1_1 a1_2
set_option maxHeartbeats 8000000 in
set_option maxRecDepth 100000 in
theorem slices_Index_Log_Entry.calls (k:Nat) (A0:Option Addr) (c0:Nat) (l0:List (S35)) (a1_0:Int) (a1_1:Int) (a1_2:Bool) (r:Int) (w:World) (hr0:Kd.C k35 w A0 l0.length l0) (hc0:l0.length≤c0) (h:slices_Index_Log_Entry.f k l0 a1_0 a1_1 a1_2=some r) :
  Calls Try.prog 61 #[.slice A0 l0.length c0,.agg #[.int .i64 a1_0,.int .i64 a1_1,.bool a1_2]] w fun e w'=>e=.returned (.int .i64 r)∧Below w.heap.size w w':=by
 have hu35:=Try.underlying35;have HR0:=am hr0;have HC0:=am hc0;clear hr0 hc0;have HB:=am (Below.refl w.heap.size w);have H:(slices_Index_Log_Entry.l0 k l0 (l0.length:Int) 0 a1_0 a1_1 a1_2)=some r:=h;clear h;have H':=am H;clear H
 go_enter Try.func61,Try.ntmps61
 go_wp2_with (first|((with_reducible refine gate_dst (N:=3) rfl ?_);refine box_event ?hg (N:=3) ?hd (cs:=#[.int .i64 a1_0,.int .i64 a1_1,.bool a1_2]) (t:=35) ?hr ?_;(case hd=>rfl);(case hg=>rfl);(case hr=>exact zq14);intro gb101 hg w3 hbox hb;have n0_:=am (below_step zq0 hb);have n1_:=am (hbox);have n2_:=am ((by rw [hg];exact (below_size zq0):w.heap.size≤gb101));have n3_:=am ((by rw [hg];exact (below_size zq0):w.heap.size≤gb101));clear HB;have HB:=n0_;have BK101:=n1_;have GW101:=n2_;have GE101:=n3_;clear n0_ n1_ n2_ n3_;clear hb hbox hg))
 repeat (go_quiet (fail);try go_wp2_with (first|((with_reducible refine gate_dst (N:=3) rfl ?_);refine box_event ?hg (N:=3) ?hd (cs:=#[.int .i64 a1_0,.int .i64 a1_1,.bool a1_2]) (t:=35) ?hr ?_;(case hd=>rfl);(case hg=>rfl);(case hr=>exact zq14);intro gb101 hg w3 hbox hb;have n0_:=am (below_step zq0 hb);have n1_:=am (hbox);have n2_:=am ((by rw [hg];exact (below_size zq0):w.heap.size≤gb101));have n3_:=am ((by rw [hg];exact (below_size zq0):w.heap.size≤gb101));clear HB;have HB:=n0_;have BK101:=n1_;have GW101:=n2_;have GE101:=n3_;clear n0_ n1_ n2_ n3_;clear hb hbox hg)))
 go_loopg [8] k (fun kq v8 w'=>∃ (x8_1:Int),v8=.int .i64 x8_1∧Aside0 (slices_Index_Log_Entry.l0 kq l0 (l0.length:Int) x8_1 a1_0 a1_1 a1_2=some r)∧Aside0 (kq≤k)∧Aside0 (w'.heap[gb101]?=some (.cells #[.int .i64 a1_0,.int .i64 a1_1,.bool a1_2] 35 (0,0)))∧Aside0 (Below w.heap.size w w'))
 case atStart=>exact ⟨(0),zq2,H',⟨Nat.le_refl _⟩,⟨by (with_reducible repeat (first|refine blk_drewN ?_ _|refine blk_drew ?_|refine blk_alloc ?_ _));exact BK101.out⟩,⟨by repeat (first|(with_reducible first|exact HB.out|apply below_alloc|apply pw_below_drewN|apply below_drew1|refine below_set ?_ GE101.out)|exact HB.out)⟩⟩
 case round =>
  clear H';(try clear p2);obtain ⟨x8_1,rfl,HA,HK1,BK101,HB⟩:=hrel
  cases gk with
  | zero=>exact absurd HA.out (by simp [slices_Index_Log_Entry.l0])
  | succ k1 =>
   have H:=HA.out;clear HA;simp only [slices_Index_Log_Entry.l0] at H
   by_cases c4:x8_1 < (l0.length:Int)
   ·rw [if_pos c4] at H;have c4b0:=decide_eq_true c4;clear c4
    by_cases c5:0≤x8_1
    ·rw [if_pos c5] at H;have c5b0:=decide_eq_true c5;clear c5
     by_cases c6:x8_1 < (l0.length:Int)
     ·rw [if_pos c6] at H;have c6b0:=decide_eq_true c6;clear c6
      by_cases c7:(a1_0 == ((rd_T35 l0 x8_1).f0) && (a1_1 == ((rd_T35 l0 x8_1).f1) && (a1_2 == ((rd_T35 l0 x8_1).f2))))=true
      ·rw [if_pos c7] at H;have c7b0:(a1_0 == ((rd_T35 l0 x8_1).f0) && (a1_1 == ((rd_T35 l0 x8_1).f1) && (a1_2 == ((rd_T35 l0 x8_1).f2))))=true:=c7;(try (have c7b1:decide (a1_0=((rd_T35 l0 x8_1).f0) && (a1_1 == ((rd_T35 l0 x8_1).f1) && (a1_2 == ((rd_T35 l0 x8_1).f2))))=true:=by simpa using c7));(try (have c7b2:(a1_0 == ((rd_T35 l0 x8_1).f0) && (a1_1 == ((rd_T35 l0 x8_1).f1) && (a1_2 == ((rd_T35 l0 x8_1).f2))))=true:=by simpa using c7));clear c7;obtain rfl:=Option.some.inj H;have hcz8_0:wr.cell? ⟨gb101,0,none⟩=some (.int .i64 a1_0):=(blk_cell BK101.out 0).trans rfl;have hcz8_1:wr.cell? ⟨gb101,1,none⟩=some (.int .i64 a1_1):=(blk_cell BK101.out 1).trans rfl;have hcz8_2:wr.cell? ⟨gb101,2,none⟩=some (.bool a1_2):=(blk_cell BK101.out 2).trans rfl;have hfz8_0:=blk_frozen BK101.out 0;have hfz8_1:=blk_frozen BK101.out 1;have hfz8_2:=blk_frozen BK101.out 2;have p102:0≤(x8_1:Int):=of_decide_eq_true zq3;have q102:x8_1 < (l0.length:Int):=of_decide_eq_true zq3;obtain ⟨ad102,e102,hx102_0,hx102_1,hx102_2⟩:=at_T35 HR0.out x8_1 p102 q102;cases e102;replace hx102_0:=(HB.out.cell (World.block_lt_of_cell? w _ hx102_0)).trans hx102_0;replace hx102_1:=(HB.out.cell (World.block_lt_of_cell? w _ hx102_1)).trans hx102_1;replace hx102_2:=(HB.out.cell (World.block_lt_of_cell? w _ hx102_2)).trans hx102_2;replace p102:=eq_true p102;replace q102:=eq_true q102
       go_wp2
       repeat (go_quiet (fail);try go_wp2)
       go_ret
       exact ⟨by first|rfl|(simp [errW_none,errW_some,IntKind.wrap_i64,wrap64];done)|(simp [errW_none,errW_some] <;> rfl)|(simp [*,errW_none,errW_some] <;> rfl),by repeat (first|(with_reducible first|exact HB.out|apply below_alloc|apply pw_below_drewN|apply below_drew1|refine below_set ?_ GE101.out)|exact HB.out)⟩
      ·rw [if_neg c7] at H
       have c7b0:(a1_0 == ((rd_T35 l0 x8_1).f0) && (a1_1 == ((rd_T35 l0 x8_1).f1) && (a1_2 == ((rd_T35 l0 x8_1).f2))))=false:=by simpa using c7
       (try (have c7b1:decide (a1_0=((rd_T35 l0 x8_1).f0) && (a1_1 == ((rd_T35 l0 x8_1).f1) && (a1_2 == ((rd_T35 l0 x8_1).f2))))=false:=by simpa using c7));(try (have c7b2:(a1_0 == ((rd_T35 l0 x8_1).f0) && (a1_1 == ((rd_T35 l0 x8_1).f1) && (a1_2 == ((rd_T35 l0 x8_1).f2))))=false:=by simpa using c7));(try (have c7b3:¬ (a1_0=((rd_T35 l0 x8_1).f0) && (a1_1 == ((rd_T35 l0 x8_1).f1) && (a1_2 == ((rd_T35 l0 x8_1).f2)))):=by simpa using c7));clear c7;have H':=am H;clear H;have hcz9_0:wr.cell? ⟨gb101,0,none⟩=some (.int .i64 a1_0):=(blk_cell BK101.out 0).trans rfl;have hcz9_1:wr.cell? ⟨gb101,1,none⟩=some (.int .i64 a1_1):=(blk_cell BK101.out 1).trans rfl;have hcz9_2:wr.cell? ⟨gb101,2,none⟩=some (.bool a1_2):=(blk_cell BK101.out 2).trans rfl;have hfz9_0:=blk_frozen BK101.out 0;have hfz9_1:=blk_frozen BK101.out 1;have hfz9_2:=blk_frozen BK101.out 2;have p102:0≤(x8_1:Int):=of_decide_eq_true zq3;have q102:x8_1 < (l0.length:Int):=of_decide_eq_true zq3;obtain ⟨ad102,e102,hx102_0,hx102_1,hx102_2⟩:=at_T35 HR0.out x8_1 p102 q102;cases e102;replace hx102_0:=(HB.out.cell (World.block_lt_of_cell? w _ hx102_0)).trans hx102_0;replace hx102_1:=(HB.out.cell (World.block_lt_of_cell? w _ hx102_1)).trans hx102_1;replace hx102_2:=(HB.out.cell (World.block_lt_of_cell? w _ hx102_2)).trans hx102_2;replace p102:=eq_true p102;replace q102:=eq_true q102
       go_wp2
       repeat (go_quiet (fail);try go_wp2)
       go_roundg k1
       case measure=>have:=HK1.out;omega
       case rel=>exact ⟨(wrap64 (x8_1 + 1)),zq2,H',⟨by have:=HK1.out;omega⟩,⟨by (with_reducible repeat (first|refine blk_drewN ?_ _|refine blk_drew ?_|refine blk_alloc ?_ _));exact BK101.out⟩,⟨by repeat (first|(with_reducible first|exact HB.out|apply below_alloc|apply pw_below_drewN|apply below_drew1|refine below_set ?_ GE101.out)|exact HB.out)⟩⟩
     ·rw [if_neg c6] at H;exact absurd H (by simp)
    ·rw [if_neg c5] at H;exact absurd H (by simp)
   ·rw [if_neg c4] at H;have c4b0:=decide_eq_false c4;clear c4;obtain rfl:=Option.some.inj H
    go_wp2
    repeat (go_quiet (fail);try go_wp2)
    go_ret
    exact ⟨by first|rfl|(simp [errW_none,errW_some,IntKind.wrap_i64,wrap64];done)|(simp [errW_none,errW_some] <;> rfl)|(simp [*,errW_none,errW_some] <;> rfl),by repeat (first|(with_reducible first|exact HB.out|apply below_alloc|apply pw_below_drewN|apply below_drew1|refine below_set ?_ GE101.out)|exact HB.out)⟩
end Go.Proofs.Ytcoepebmmgcplac.G
end
section
namespace Go.Proofs.Ytcoepebmmgcplac.G
open Go.RowKit Go.Proofs.YtcoepebmmgcplacW.PrintWords Go.Proofs.YtcoepebmmgcplacW.PrintLast Go.Proofs.YtcoepebmmgcplacW.PrintMore
attribute [local go_sem] max2_int min2_int max_two min_two max_three min_three max_four min_four
set_option linter.unusedVariables false
set_option linter.unusedSimpArgs false
def slices_Contains_Log_Entry.f (k:Nat) (l0:List (S35)) (a1_0:Int) (a1_1:Int) (a1_2:Bool):Option (Bool):=(slices_Index_Log_Entry.f k l0 a1_0 a1_1 a1_2).bind fun t102=>(some (decide (t102≥0)))
set_option maxHeartbeats 8000000 in
set_option maxRecDepth 100000 in
theorem slices_Contains_Log_Entry.calls (k:Nat) (A0:Option Addr) (c0:Nat) (l0:List (S35)) (a1_0:Int) (a1_1:Int) (a1_2:Bool) (r:Bool) (w:World) (hr0:Kd.C k35 w A0 l0.length l0) (hc0:l0.length≤c0) (h:slices_Contains_Log_Entry.f k l0 a1_0 a1_1 a1_2=some r) :
  Calls Try.prog 35 #[.slice A0 l0.length c0,.agg #[.int .i64 a1_0,.int .i64 a1_1,.bool a1_2]] w fun e w'=>e=.returned (.bool r)∧Below w.heap.size w w':=by
 have hu35:=Try.underlying35;have HR0:=am hr0;have HC0:=am hc0;clear hr0 hc0;have HB:=am (Below.refl w.heap.size w);have H:((slices_Index_Log_Entry.f k l0 a1_0 a1_1 a1_2).bind fun t102=>(some (decide (t102≥0))))=some r:=h;clear h;replace H:=Option.bind_eq_some_iff.mp H;obtain ⟨t102,A30,H⟩:=H;replace H:(some (decide (t102≥0)))=some r:=H;have A3:=am A30;clear A30;obtain rfl:=Option.some.inj H
 go_enter Try.func35,Try.ntmps35
 go_wp2_with (first|((with_reducible refine gate_dst (N:=3) rfl ?_);refine box_event ?hg (N:=3) ?hd (cs:=#[.int .i64 a1_0,.int .i64 a1_1,.bool a1_2]) (t:=35) ?hr ?_;(case hd=>rfl);(case hg=>rfl);(case hr=>exact zq14);intro gb101 hg w4 hbox hb;have n0_:=am (below_step zq0 hb);have n1_:=am (hbox);have n2_:=am ((by rw [hg];exact (below_size zq0):w.heap.size≤gb101));have n3_:=am ((by rw [hg];exact (below_size zq0):w.heap.size≤gb101));clear HB;have HB:=n0_;have BK101:=n1_;have GW101:=n2_;have GE101:=n3_;clear n0_ n1_ n2_ n3_;clear hb hbox hg;have hcz5_0:w4.cell? ⟨gb101,0,none⟩=some (.int .i64 a1_0):=(blk_cell BK101.out 0).trans rfl;have hcz5_1:w4.cell? ⟨gb101,1,none⟩=some (.int .i64 a1_1):=(blk_cell BK101.out 1).trans rfl;have hcz5_2:w4.cell? ⟨gb101,2,none⟩=some (.bool a1_2):=(blk_cell BK101.out 2).trans rfl;have hfz5_0:=blk_frozen BK101.out 0;have hfz5_1:=blk_frozen BK101.out 1;have hfz5_2:=blk_frozen BK101.out 2)|((with_reducible refine gate_callee (f:=61) rfl ?_);refine goesL_ (some 7) rfl rfl Try.func61 zq19 rfl #[.slice A0 l0.length c0,.agg #[.int .i64 a1_0,.int .i64 a1_1,.bool a1_2]] rfl zq1 ?_;(with_reducible refine (slices_Index_Log_Entry.calls k _ _ l0 a1_0 a1_1 a1_2 t102 _ ?side1 ?side2 A3.out).mono ?_);(case side1=>exact zq11);(case side2=>exact HC0.out);rintro e w6 ⟨rfl,hb⟩;refine ⟨_,rfl,?_⟩;have n0_:=am (blk_below (g:=gb101) (o:=.cells #[.int .i64 a1_0,.int .i64 a1_1,.bool a1_2] 35 (0,0)) zq4 hb);have n1_:=am (below_step zq5 hb);clear BK101;clear HB;have BK101:=n0_;have HB:=n1_;clear n0_ n1_;(try clear hb);(try clear hb2);(try clear hk);(try clear hi)))
 go_ret
 exact ⟨by first|rfl|(simp [errW_none,errW_some,IntKind.wrap_i64,wrap64];done)|(simp [errW_none,errW_some] <;> rfl)|(simp [*,errW_none,errW_some] <;> rfl),by repeat (first|(with_reducible first|exact HB.out|apply below_alloc|apply pw_below_drewN|apply below_drew1|refine below_set ?_ GE101.out)|exact HB.out)⟩
def impl_AgreedLog_1.l0:Nat→Int→List (List (S35))→Int→Int→Int→Int→Int→Bool→Option (Bool)
 | 0,_,_,_,_,_,_,_,_=>none
 | k + 1,x5,x8,x9,x10,x3000,x102000,x102001,x102002=>if x10 < x9 then (if 0≤x10 then (if x10 < (x8.length:Int) then ((slices_Contains_Log_Entry.f k (rd_L4 x8 x10) x102000 x102001 x102002).bind fun t103=>(if t103=true then (impl_AgreedLog_1.l0 k (wrap64 (x5 + 1)) x8 x9 (wrap64 (x10 + 1)) x3000 x102000 x102001 x102002) else (impl_AgreedLog_1.l0 k x5 x8 x9 (wrap64 (x10 + 1)) x3000 x102000 x102001 x102002))) else (none)) else (none)) else (some (decide (x5 < x3000)))
def impl_AgreedLog_1.f (k:Nat) (a0_0:Int) (a0_1:Int) (a0_2:Bool) (l1:List (List (S35))) (a2:Int):Option (Bool):=impl_AgreedLog_1.l0 k 0 l1 (l1.length:Int) 0 a2 a0_0 a0_1 a0_2
set_option maxHeartbeats 8000000 in
set_option maxRecDepth 100000 in
theorem impl_AgreedLog_1.calls (k:Nat) (a0_0:Int) (a0_1:Int) (a0_2:Bool) (A1:Option Addr) (c1:Nat) (l1:List (List (S35))) (b1:Nat) (a2:Int) (b2:Nat) (r:Bool) (w:World) (hr1:Kd.C (Kd.slice 35 k35) w A1 l1.length l1) (hc1:l1.length≤c1) (hb1:w.heap[b1]?=some (.cells #[.slice A1 l1.length c1] 27 (0,0))) (hb2:w.heap[b2]?=some (.cells #[.int .i64 a2] 2 (0,0))) (hn1_2:b1≠b2) (h:impl_AgreedLog_1.f k a0_0 a0_1 a0_2 l1 a2=some r) :
  Calls Try.prog 34 #[.agg #[.int .i64 a0_0,.int .i64 a0_1,.bool a0_2],.pointer (some ⟨b1,0,none⟩),.pointer (some ⟨b2,0,none⟩)] w fun e w'=>e=.returned (.bool r)∧Below w.heap.size w w':=by
 have hu35:=Try.underlying35;have HR1:=am hr1;have HC1:=am hc1;clear hr1 hc1;have BK1:=am hb1;clear hb1;have BK2:=am hb2;clear hb2;have NB1_2:=am hn1_2;have NB2_1:=am (Ne.symm hn1_2);clear hn1_2;have HB:=am (Below.refl w.heap.size w);have H:(impl_AgreedLog_1.l0 k 0 l1 (l1.length:Int) 0 a2 a0_0 a0_1 a0_2)=some r:=h;clear h;have H':=am H;clear H
 go_enter Try.func34,Try.ntmps34
 go_wp2_with (first|((with_reducible refine gate_dst (N:=3) rfl ?_);refine box_event ?hg (N:=3) ?hd (cs:=#[.int .i64 a0_0,.int .i64 a0_1,.bool a0_2]) (t:=35) ?hr ?_;(case hd=>rfl);(case hg=>rfl);(case hr=>exact zq14);intro gb101 hg w4 hbox hb;have n0_:=am (blk_below (g:=b1) (o:=.cells #[.slice A1 l1.length c1] 27 (0,0)) zq42 hb);have n1_:=am (blk_below (g:=b2) (o:=.cells #[.int .i64 a2] 2 (0,0)) zq24 hb);have n2_:=am (below_step zq48 hb);have n3_:=am (hbox);have n4_:=am ((by rw [hg];exact (below_size zq48):w.heap.size≤gb101));have n5_:=am ((by rw [hg];exact (below_size zq48):w.heap.size≤gb101));have n6_:=am ((by rw [hg];exact Nat.ne_of_lt (blk_lt (g:=b1) (o:=.cells #[.slice A1 l1.length c1] 27 (0,0)) zq42):b1≠gb101));have n7_:=am ((by rw [hg];exact Nat.ne_of_gt (blk_lt (g:=b1) (o:=.cells #[.slice A1 l1.length c1] 27 (0,0)) zq42):gb101≠b1));have n8_:=am ((by rw [hg];exact Nat.ne_of_lt (blk_lt (g:=b2) (o:=.cells #[.int .i64 a2] 2 (0,0)) zq24):b2≠gb101));have n9_:=am ((by rw [hg];exact Nat.ne_of_gt (blk_lt (g:=b2) (o:=.cells #[.int .i64 a2] 2 (0,0)) zq24):gb101≠b2));clear BK1;clear BK2;clear HB;have BK1:=n0_;have BK2:=n1_;have HB:=n2_;have BK101:=n3_;have GW101:=n4_;have GE101:=n5_;have NB1_101:=n6_;have NB101_1:=n7_;have NB2_101:=n8_;have NB101_2:=n9_;clear n0_ n1_ n2_ n3_ n4_ n5_ n6_ n7_ n8_ n9_;clear hb hbox hg;have hnb5:=NB1_2.out;have hnc5:=NB2_1.out;have hnb6:=NB1_101.out;have hnc6:=NB101_1.out;have hcz7_0:w4.cell? ⟨b1,0,none⟩=some (.slice A1 l1.length c1):=(blk_cell BK1.out 0).trans rfl;have hfz7_0:=blk_frozen BK1.out 0))
 go_loopg [5,10] k (fun kq v5 v10 w'=>∃ (x5_1:Int) (x10_1:Int),v5=.int .i64 x5_1∧v10=.int .i64 x10_1∧Aside0 (impl_AgreedLog_1.l0 kq x5_1 l1 (l1.length:Int) x10_1 a2 a0_0 a0_1 a0_2=some r)∧Aside0 (kq≤k)∧Aside0 (w'.heap[b1]?=some (.cells #[(.slice A1 l1.length c1)] 27 (0,0)))∧Aside0 (w'.heap[b2]?=some (.cells #[.int .i64 a2] 2 (0,0)))∧Aside0 (w'.heap[gb101]?=some (.cells #[.int .i64 a0_0,.int .i64 a0_1,.bool a0_2] 35 (0,0)))∧Aside0 (Below w.heap.size w w'))
 case atStart=>exact ⟨(0),(0),zq2,zq2,H',⟨Nat.le_refl _⟩,⟨by (with_reducible repeat (first|refine blk_drewN ?_ _|refine blk_drew ?_|refine blk_alloc ?_ _));exact BK1.out⟩,⟨by (with_reducible repeat (first|refine blk_drewN ?_ _|refine blk_drew ?_|refine blk_alloc ?_ _));exact BK2.out⟩,⟨by (with_reducible repeat (first|refine blk_drewN ?_ _|refine blk_drew ?_|refine blk_alloc ?_ _));exact BK101.out⟩,⟨by repeat (first|(with_reducible first|exact HB.out|apply below_alloc|apply pw_below_drewN|apply below_drew1|refine below_set ?_ GE1.out|refine below_set ?_ GE2.out|refine below_set ?_ GE101.out)|exact HB.out)⟩⟩
 case round =>
  clear H';(try clear c1);(try clear p2);(try clear c3);(try clear c5);(try clear c6);(try clear hcz7_0);(try clear hfz7_0);obtain ⟨x5_1,x10_1,rfl,rfl,HA,HK1,BK1,BK2,BK101,HB⟩:=hrel
  cases gk with
  | zero=>exact absurd HA.out (by simp [impl_AgreedLog_1.l0])
  | succ k1 =>
   have H:=HA.out;clear HA;simp only [impl_AgreedLog_1.l0] at H
   by_cases c8:x10_1 < (l1.length:Int)
   ·rw [if_pos c8] at H;have c8b0:=decide_eq_true c8;clear c8
    by_cases c9:0≤x10_1
    ·rw [if_pos c9] at H;have c9b0:=decide_eq_true c9;clear c9
     by_cases c10:x10_1 < (l1.length:Int)
     ·rw [if_pos c10] at H;have c10b0:=decide_eq_true c10;clear c10;replace H:=Option.bind_eq_some_iff.mp H;obtain ⟨t103,A110,H⟩:=H;replace H:(if t103=true then (impl_AgreedLog_1.l0 k1 (wrap64 (x5_1 + 1)) l1 (l1.length:Int) (wrap64 (x10_1 + 1)) a2 a0_0 a0_1 a0_2) else (impl_AgreedLog_1.l0 k1 x5_1 l1 (l1.length:Int) (wrap64 (x10_1 + 1)) a2 a0_0 a0_1 a0_2))=some r:=H;have A11:=am A110;clear A110
      by_cases c12:t103=true
      ·subst c12
       have H1:(impl_AgreedLog_1.l0 k1 (wrap64 (x5_1 + 1)) l1 (l1.length:Int) (wrap64 (x10_1 + 1)) a2 a0_0 a0_1 a0_2)=some r:=by rw [if_pos rfl] at H;exact H
       clear H;have H:=H1;clear H1;have H':=am H;clear H;have p102:0≤(x10_1:Int):=of_decide_eq_true zq3;have q102:x10_1 < (l1.length:Int):=of_decide_eq_true zq3;obtain ⟨ad102,A102_0,c102_0,e102,hx102_0,hl102_0,hi102_0⟩:=at_L4 HR1.out x10_1 p102 q102;cases e102;replace hx102_0:=(HB.out.cell (World.block_lt_of_cell? w _ hx102_0)).trans hx102_0;have HR102_0:=am hi102_0;have HC102_0:=am hl102_0;clear hi102_0 hl102_0;replace p102:=eq_true p102;replace q102:=eq_true q102;have hnb13:=NB101_1.out;have hnc13:=NB1_101.out;have hnb14:=NB101_2.out;have hnc14:=NB2_101.out;have hcz15_0:wr.cell? ⟨gb101,0,none⟩=some (.int .i64 a0_0):=(blk_cell BK101.out 0).trans rfl;have hcz15_1:wr.cell? ⟨gb101,1,none⟩=some (.int .i64 a0_1):=(blk_cell BK101.out 1).trans rfl;have hcz15_2:wr.cell? ⟨gb101,2,none⟩=some (.bool a0_2):=(blk_cell BK101.out 2).trans rfl;have hfz15_0:=blk_frozen BK101.out 0;have hfz15_1:=blk_frozen BK101.out 1;have hfz15_2:=blk_frozen BK101.out 2
       go_wp2_with (first|((with_reducible refine gate_callee (f:=35) rfl ?_);refine goesL_ (some 16) rfl rfl Try.func35 zq19 rfl #[.slice A102_0 (rd_L4 l1 x10_1).length c102_0,.agg #[.int .i64 a0_0,.int .i64 a0_1,.bool a0_2]] rfl zq1 ?_;(with_reducible refine (slices_Contains_Log_Entry.calls k1 _ _ (rd_L4 l1 x10_1) a0_0 a0_1 a0_2 true _ ?side1 ?side2 A11.out).mono ?_);(case side1=>exact zq36);(case side2=>exact HC102_0.out);rintro e w16 ⟨rfl,hb⟩;refine ⟨_,rfl,?_⟩;have n0_:=am (blk_below (g:=b1) (o:=.cells #[.slice (some ad102) l1.length c1] 27 (0,0)) zq42 hb);have n1_:=am (blk_below (g:=b2) (o:=.cells #[.int .i64 a2] 2 (0,0)) zq24 hb);have n2_:=am (blk_below (g:=gb101) (o:=.cells #[.int .i64 a0_0,.int .i64 a0_1,.bool a0_2] 35 (0,0)) zq4 hb);have n3_:=am (below_step zq61 hb);clear BK1;clear BK2;clear BK101;clear HB;have BK1:=n0_;have BK2:=n1_;have BK101:=n2_;have HB:=n3_;clear n0_ n1_ n2_ n3_;(try clear hb);(try clear hb2);(try clear hk);(try clear hi)))
       go_roundg k1
       case measure=>have:=HK1.out;omega
       case rel=>exact ⟨(wrap64 (x5_1 + 1)),(wrap64 (x10_1 + 1)),zq2,zq2,H',⟨by have:=HK1.out;omega⟩,⟨by (with_reducible repeat (first|refine blk_drewN ?_ _|refine blk_drew ?_|refine blk_alloc ?_ _));exact BK1.out⟩,⟨by (with_reducible repeat (first|refine blk_drewN ?_ _|refine blk_drew ?_|refine blk_alloc ?_ _));exact BK2.out⟩,⟨by (with_reducible repeat (first|refine blk_drewN ?_ _|refine blk_drew ?_|refine blk_alloc ?_ _));exact BK101.out⟩,⟨by repeat (first|(with_reducible first|exact HB.out|apply below_alloc|apply pw_below_drewN|apply below_drew1|refine below_set ?_ GE1.out|refine below_set ?_ GE2.out|refine below_set ?_ GE101.out)|exact HB.out)⟩⟩
      ·replace c12:=Bool.eq_false_iff.mpr c12;subst c12
       have H1:(impl_AgreedLog_1.l0 k1 x5_1 l1 (l1.length:Int) (wrap64 (x10_1 + 1)) a2 a0_0 a0_1 a0_2)=some r:=by rw [if_neg (show ¬ (false=true) by decide)] at H;exact H
       clear H;have H:=H1;clear H1;have H':=am H;clear H;have p102:0≤(x10_1:Int):=of_decide_eq_true zq3;have q102:x10_1 < (l1.length:Int):=of_decide_eq_true zq3;obtain ⟨ad102,A102_0,c102_0,e102,hx102_0,hl102_0,hi102_0⟩:=at_L4 HR1.out x10_1 p102 q102;cases e102;replace hx102_0:=(HB.out.cell (World.block_lt_of_cell? w _ hx102_0)).trans hx102_0;have HR102_0:=am hi102_0;have HC102_0:=am hl102_0;clear hi102_0 hl102_0;replace p102:=eq_true p102;replace q102:=eq_true q102;have hnb17:=NB101_1.out;have hnc17:=NB1_101.out;have hnb18:=NB101_2.out;have hnc18:=NB2_101.out;have hcz19_0:wr.cell? ⟨gb101,0,none⟩=some (.int .i64 a0_0):=(blk_cell BK101.out 0).trans rfl;have hcz19_1:wr.cell? ⟨gb101,1,none⟩=some (.int .i64 a0_1):=(blk_cell BK101.out 1).trans rfl;have hcz19_2:wr.cell? ⟨gb101,2,none⟩=some (.bool a0_2):=(blk_cell BK101.out 2).trans rfl;have hfz19_0:=blk_frozen BK101.out 0;have hfz19_1:=blk_frozen BK101.out 1;have hfz19_2:=blk_frozen BK101.out 2
       go_wp2_with (first|((with_reducible refine gate_callee (f:=35) rfl ?_);refine goesL_ (some 16) rfl rfl Try.func35 zq19 rfl #[.slice A102_0 (rd_L4 l1 x10_1).length c102_0,.agg #[.int .i64 a0_0,.int .i64 a0_1,.bool a0_2]] rfl zq1 ?_;(with_reducible refine (slices_Contains_Log_Entry.calls k1 _ _ (rd_L4 l1 x10_1) a0_0 a0_1 a0_2 false _ ?side1 ?side2 A11.out).mono ?_);(case side1=>exact zq36);(case side2=>exact HC102_0.out);rintro e w20 ⟨rfl,hb⟩;refine ⟨_,rfl,?_⟩;have n0_:=am (blk_below (g:=b1) (o:=.cells #[.slice (some ad102) l1.length c1] 27 (0,0)) zq42 hb);have n1_:=am (blk_below (g:=b2) (o:=.cells #[.int .i64 a2] 2 (0,0)) zq24 hb);have n2_:=am (blk_below (g:=gb101) (o:=.cells #[.int .i64 a0_0,.int .i64 a0_1,.bool a0_2] 35 (0,0)) zq4 hb);have n3_:=am (below_step zq61 hb);clear BK1;clear BK2;clear BK101;clear HB;have BK1:=n0_;have BK2:=n1_;have BK101:=n2_;have HB:=n3_;clear n0_ n1_ n2_ n3_;(try clear hb);(try clear hb2);(try clear hk);(try clear hi)))
       go_roundg k1
       case measure=>have:=HK1.out;omega
       case rel=>exact ⟨(x5_1),(wrap64 (x10_1 + 1)),zq2,zq2,H',⟨by have:=HK1.out;omega⟩,⟨by (with_reducible repeat (first|refine blk_drewN ?_ _|refine blk_drew ?_|refine blk_alloc ?_ _));exact BK1.out⟩,⟨by (with_reducible repeat (first|refine blk_drewN ?_ _|refine blk_drew ?_|refine blk_alloc ?_ _));exact BK2.out⟩,⟨by (with_reducible repeat (first|refine blk_drewN ?_ _|refine blk_drew ?_|refine blk_alloc ?_ _));exact BK101.out⟩,⟨by repeat (first|(with_reducible first|exact HB.out|apply below_alloc|apply pw_below_drewN|apply below_drew1|refine below_set ?_ GE1.out|refine below_set ?_ GE2.out|refine below_set ?_ GE101.out)|exact HB.out)⟩⟩
     ·rw [if_neg c10] at H;exact absurd H (by simp)
    ·rw [if_neg c9] at H;exact absurd H (by simp)
   ·rw [if_neg c8] at H;have c8b0:=decide_eq_false c8;clear c8;obtain rfl:=Option.some.inj H;have hnb21:=NB2_1.out;have hnc21:=NB1_2.out;have hnb22:=NB2_101.out;have hnc22:=NB101_2.out;have hcz23_0:wr.cell? ⟨b2,0,none⟩=some (.int .i64 a2):=(blk_cell BK2.out 0).trans rfl;have hfz23_0:=blk_frozen BK2.out 0
    go_wp2
    go_ret
    exact ⟨by first|rfl|(simp [errW_none,errW_some,IntKind.wrap_i64,wrap64];done)|(simp [errW_none,errW_some] <;> rfl)|(simp [*,errW_none,errW_some] <;> rfl),by repeat (first|(with_reducible first|exact HB.out|apply below_alloc|apply pw_below_drewN|apply below_drew1|refine below_set ?_ GE1.out|refine below_set ?_ GE2.out|refine below_set ?_ GE101.out)|exact HB.out)⟩
set_option maxHeartbeats 2000000 in
theorem slices_IndexFunc_Log_Entry.calls (A0:Option Addr) (c0:Nat) (l0:List (S35)) (g:Nat) (lb:Array Value) (eg:∀ args w,(callFunc g args).run Try.prog w=.ok (.enter g args) w) (p:S35→Bool) (w:World)
  (hr0:Kd.C k35 w A0 l0.length l0) (hc0:l0.length≤c0)
  (hp:∀ W,Below w.heap.size w W→∀ x∈l0,Calls Try.prog g (#[.agg #[.int .i64 x.f0,.int .i64 x.f1,.bool x.f2]] ++ lb) W fun e w'=>e=.returned (.bool (p x))∧Below w.heap.size w w') :
  Calls Try.prog 60 #[.slice A0 l0.length c0,.func (.func g) #[] lb] w fun e w'=>e=.returned (.int .i64 (idxP p l0))∧Below w.heap.size w w':=by
 have hu:=Try.underlying35;have hl:l0.length≤9223372036854775807:=hr0.2.1;have HR0:=am hr0;have HP:=am hp;clear hr0 hp;generalize hn:l0.length=n at *;have Hn:=am hn;clear hn
 go_enter Try.func60,Try.ntmps60
 go_wp2
 go_loopg [5,8] n (fun gg _ s8 wr=>∃ kk:Nat,kk≤n∧n - kk≤gg∧s8=.int .i64 kk∧Aside0 (Below w.heap.size w wr)∧Aside0 (∀ j x,j < kk→l0[j]?=some x→p x=false))
 case atStart=>exact ⟨0,Nat.zero_le _,by omega,rfl,⟨Below.refl _ w⟩,⟨fun j _ hj=>absurd hj (Nat.not_lt_zero _)⟩⟩
 case round =>
  obtain ⟨kk,hkk,hg,rfl,BW,AF⟩:=hrel
  by_cases hlt:kk < n
  ·have hltz:(kk:Int) < (n:Int):=by omega
   obtain ⟨ad,e0,hx0,hx1,hx2⟩:=at_T35 HR0.out (kk:Int) (by omega) (by omega);cases e0;simp only [Int.toNat_natCast] at hx0 hx1 hx2;replace hx0:=(BW.out.cell (World.block_lt_of_cell? w _ hx0)).trans hx0;replace hx1:=(BW.out.cell (World.block_lt_of_cell? w _ hx1)).trans hx1;replace hx2:=(BW.out.cell (World.block_lt_of_cell? w _ hx2)).trans hx2
   have hm:l0[kk]?=some (rd_T35 l0 (kk:Int)):=by
    have h1:kk < l0.length:=by rw [Hn.out];exact hlt
    simp [rd_T35,List.getD_eq_getElem?_getD,List.getElem?_eq_getElem h1]
   have hcall:=HP.out wr BW.out (rd_T35 l0 (kk:Int)) (List.mem_of_getElem? hm);generalize hy:rd_T35 l0 (kk:Int)=y at *;clear hy;have HM:=am hm;clear hm
   cases hq:p y with
   | true =>
    rw [hq] at hcall;have HQ:=am hq;clear hq
    go_wp2_with (go_at_fn g;refine hcall.mono ?_;rintro e w' ⟨rfl,hb'⟩)
    go_ret
    refine ⟨?_,hb'⟩;rw [idxP_hit HM.out HQ.out AF.out];rfl
   | false =>
    rw [hq] at hcall;have HQ:=am hq;clear hq
    go_wp2_with (go_at_fn g;refine hcall.mono ?_;rintro e w' ⟨rfl,hb'⟩)
    go_roundg (n - (kk + 1))
    case measure=>omega
    case rel =>
     refine ⟨kk + 1,by omega,by omega,by go_num,⟨hb'⟩,⟨fun j x hj hx=>?_⟩⟩
     by_cases e:j=kk
     ·subst e;rw [HM.out] at hx;cases hx;exact HQ.out
     ·exact AF.out j x (by omega) hx
  ·have hltz:¬ (kk:Int) < (n:Int):=by omega
   have:kk=n:=by omega
   subst this
   go_wp2
   go_ret
   refine ⟨?_,BW.out⟩
   rw [idxP_miss (fun x hx=>by
    obtain ⟨j,hj,rfl⟩:=List.mem_iff_getElem.1 hx
    exact AF.out j _ (by rw [← Hn.out];exact hj) (List.getElem?_eq_getElem hj))]
   rfl
theorem slices_DeleteFunc_Log_Entry.stored {w0 w wr w8:World} {P0_:Nat→Prop} {gb:Nat} {v:Value} {xs:List (S35)} (y:S35) (h:Kd.R k35 35 wr w0.heap.size P0_ v xs) (HB:Below w0.heap.size w0 wr) (HK:Kept w wr P0_) (hge:wr.heap.size≤gb) (hb:Below wr.heap.size wr w8) (hbox:w8.heap[gb]?=some (.cells #[.int .i64 0,.int .i64 0,.bool false] 35 (0,0))) :
  Kd.R k35 35 (((w8.setCell ⟨gb,0,none⟩ (.int .i64 y.f0)).setCell ⟨gb,1,none⟩ (.int .i64 y.f1)).setCell ⟨gb,2,none⟩ (.bool y.f2)) w0.heap.size P0_ v xs∧Below w0.heap.size w0 (((w8.setCell ⟨gb,0,none⟩ (.int .i64 y.f0)).setCell ⟨gb,1,none⟩ (.int .i64 y.f1)).setCell ⟨gb,2,none⟩ (.bool y.f2))∧Kept w (((w8.setCell ⟨gb,0,none⟩ (.int .i64 y.f0)).setCell ⟨gb,1,none⟩ (.int .i64 y.f1)).setCell ⟨gb,2,none⟩ (.bool y.f2)) P0_∧(((w8.setCell ⟨gb,0,none⟩ (.int .i64 y.f0)).setCell ⟨gb,1,none⟩ (.int .i64 y.f1)).setCell ⟨gb,2,none⟩ (.bool y.f2)).heap[gb]?=some (.cells #[.int .i64 y.f0,.int .i64 y.f1,.bool y.f2] 35 (0,0)):=by
 have hbg:w0.heap.size≤gb:=Nat.le_trans HB.size hge;have hbk:w.heap.size≤gb:=Nat.le_trans HK.1 hge;exact ⟨Kd.R_mono (Kd.R_far (p:=⟨gb,2,none⟩) (Kd.R_far (p:=⟨gb,1,none⟩) (Kd.R_far (p:=⟨gb,0,none⟩) (Kd.R_below (Kd.R_elderB h gb hge) hb) (fun _ hk=>hk.2) (.int .i64 y.f0)) (fun _ hk=>hk.2) (.int .i64 y.f1)) (fun _ hk=>hk.2) (.bool y.f2)) (fun _ hk=>hk.1),(((below_then HB HB.size hb).setCell hbg (.int .i64 y.f0)).setCell hbg (.int .i64 y.f1)).setCell hbg (.bool y.f2),(((Kept.below HK hb).setCell (.inr hbk) (.int .i64 y.f0)).setCell (.inr hbk) (.int .i64 y.f1)).setCell (.inr hbk) (.bool y.f2),blk_put (cs:=#[.int .i64 y.f0,.int .i64 y.f1,.bool false]) (blk_put (cs:=#[.int .i64 y.f0,.int .i64 0,.bool false]) (blk_put (cs:=#[.int .i64 0,.int .i64 0,.bool false]) (hbox) 0 _ rfl) 1 _ rfl) 2 _ rfl⟩
theorem slices_DeleteFunc_Log_Entry.zc {m:Nat} (u:Value) (hu:u∈(Builtin.zeroCells #[.int .i64 0,.int .i64 0,.bool false] m).toList):u.oneCell'=true:=by
 rw [Array.mem_toList_iff] at hu
 unfold Builtin.zeroCells at hu
 obtain ⟨i,_,rfl⟩:=Array.mem_map.1 hu;have h:i % (#[.int .i64 0,.int .i64 0,.bool false]:Array Value).size < 3:=Nat.mod_lt _ (by decide);generalize i % (#[.int .i64 0,.int .i64 0,.bool false]:Array Value).size=q at *
 rcases (by omega:q=0∨q=1∨q=2) with rfl|rfl|rfl <;> rfl
theorem slices_DeleteFunc_Log_Entry.flt {l0 xs:List (S35)} {p:S35→Bool} {i j:Nat} (hij:i≤j) (hj:j < l0.length) (h1:xs.length=l0.length) (h2:xs.take i=(l0.take j).filter (fun x=>!p x)) (h3:xs.drop j=l0.drop j) :
  (p (xs.getD j z35)=true→xs.take i=(l0.take (j + 1)).filter (fun x=>!p x))∧(p (xs.getD j z35)=false→(xs.set i (xs.getD j z35)).take (i + 1)=(l0.take (j + 1)).filter (fun x=>!p x))∧xs.drop (j + 1)=l0.drop (j + 1)∧(xs.set i (xs.getD j z35)).drop (j + 1)=l0.drop (j + 1)∧xs.getD j z35∈l0:=by
 have hjx:j < xs.length:=by omega
 have e0:xs[j]?=l0[j]?:=by
  have:=congrArg (fun l=>l[0]?) h3
  simpa using this
 have e1:xs.getD j z35=l0[j]:=by
  rw [List.getD_eq_getElem?_getD,e0,List.getElem?_eq_getElem hj];rfl
 rw [e1]
 have hd:xs.drop (j + 1)=l0.drop (j + 1):=by
  have:=congrArg (List.drop 1) h3
  simpa using this
 have ht:l0.take (j + 1)=l0.take j ++ [l0[j]]:=List.take_succ_eq_append_getElem hj;refine ⟨fun hp=>?_,fun hp=>?_,hd,?_,List.getElem_mem hj⟩
 ·rw [ht,List.filter_append,h2]
  simp [hp]
 ·rw [ht,List.filter_append,← h2,List.take_succ_eq_append_getElem (by simpa using (by omega:i < xs.length))]
  simp [hp,List.take_set_of_le]
 ·rw [List.drop_set,if_pos (by omega),hd]
set_option maxHeartbeats 4000000 in
set_option maxRecDepth 20000 in
theorem slices_DeleteFunc_Log_Entry.calls (P0_:Nat→Prop) (u9000_:Value) (l0:List (S35)) (g:Nat) (lb:Array Value) (eg:∀ args w,(callFunc g args).run Try.prog w=.ok (.enter g args) w) (p:S35→Bool) (w0 w:World) (hB:Below w0.heap.size w0 w) (ho0:Kd.R k35 35 w w0.heap.size P0_ u9000_ l0)
  (hp:∀ W,Below w0.heap.size w0 W→Kept w W P0_→∀ x∈l0,Calls Try.prog g (#[.agg #[.int .i64 x.f0,.int .i64 x.f1,.bool x.f2]] ++ lb) W fun e w'=>e=.returned (.bool (p x))∧Below W.heap.size W w') :
  Calls Try.prog 32 #[u9000_,.func (.func g) #[] lb] w fun e w'=>∃ v0_:Value,e=.returned (v0_)∧Kd.R k35 35 w' w0.heap.size (fun k_=>(P0_ k_∨w.heap.size≤k_)) v0_ (l0.filter (fun x=>!p x))∧Below w0.heap.size w0 w'∧Kept w w' (fun k_=>P0_ k_):=by
 obtain ⟨A0,c,rfl⟩:=Kd.R_slice ho0;obtain ⟨_,hc,hC⟩:=Kd.R_reads' ho0;have hl:l0.length≤9223372036854775807:=hC.2.1;have HI:=am (slices_IndexFunc_Log_Entry.calls A0 c l0 g lb eg p w hC hc (fun W hW x hx=>(hp W (below_then hB hB.size hW) (Kept.below (Kept.refl w _) hW) x hx).mono fun _ _ h=>⟨h.1,below_then hW hW.size h.2⟩));have hu:=Try.underlying35;have HO:=am ho0;have HB:=am hB;have HP:=am hp
 by_cases hany:l0.any p=true
 ·obtain ⟨k,y0,hk,hy,hbef⟩:∃ (k:Nat) (y:S35),l0[k]?=some y∧p y=true∧∀ j x,j < k→l0[j]?=some x→p x=false:=by
   cases e:l0.findIdx? p with
   | none=>rw [List.findIdx?_eq_none_iff] at e;obtain ⟨x,hx,hpx⟩:=List.any_eq_true.1 hany;rw [e x hx] at hpx;cases hpx
   | some k =>
    rw [List.findIdx?_eq_some_iff_getElem] at e;obtain ⟨h,hq,hb⟩:=e;refine ⟨k,l0[k],List.getElem?_eq_getElem h,hq,fun j x hj hx=>?_⟩;obtain ⟨_,rfl⟩:=List.getElem?_eq_some_iff.1 hx
    simpa using hb j hj
  have hkl:k < l0.length:=(List.getElem?_eq_some_iff.1 hk).1;rw [idxP_hit hk hy hbef] at HI;obtain ⟨b0,c0,e0,hbg,hg,cells,hcells⟩:=Kd.R_form ho0 (by omega);cases e0;have GB:=am hbg;have PG:=am (ho0.1 b0 rfl)
  have F0:Aside0 (l0.take k=(l0.take (k + 1)).filter (fun x=>!p x)):=⟨by
   have h1:(l0.take k).filter (fun x=>!p x)=l0.take k:=List.filter_eq_self.2 fun x hx=>by
    obtain ⟨j,hj,rfl⟩:=List.mem_iff_getElem.1 hx;rw [List.length_take] at hj;rw [List.getElem_take];rw [hbef j _ (by omega) (List.getElem?_eq_getElem (by omega))]
    first|rfl|done
   rw [List.take_succ_eq_append_getElem hkl,List.filter_append,h1]
   have:p l0[k]=true:=by rw [(List.getElem?_eq_some_iff.1 hk).2];exact hy
   simp [this]⟩
  generalize hn:l0.length=n at *;have Hn:=am hn;have hm1:decide ((k:Int)=-1)=false:=decide_eq_false (by omega)
  have hm2:((k:Int) == -1)=false:=by first|(simp;done)|(simp;omega)
  clear hn ho0 hB hp hC hcells hbef hk hy hany hbg
  go_enter Try.func32,Try.ntmps32
  go_wp2_with (go_at_call 60;refine HI.out.mono ?_;rintro e w1 ⟨rfl,hb1⟩;have HO1:=am (Kd.R_below HO.out hb1);have HB1:=am (below_then HB.out HB.out.size hb1);have HK1:=am (Kept.below (Kept.refl w P0_) hb1);clear hb1)
  go_loopg [5,6] n (fun gg s5 s6 wr=>∃ (ii jj:Nat) (xs:List (S35)),ii < jj∧jj≤n∧n - jj≤gg∧s5=.int .i64 ii∧s6=.int .i64 jj∧Aside0 (xs.length=n∧xs.take ii=(l0.take jj).filter (fun x=>!p x)∧xs.drop jj=l0.drop jj)∧Aside0 (Kd.R k35 35 wr w0.heap.size P0_ (.slice (some ⟨b0,0,none⟩) n c) xs)∧Aside0 (Below w0.heap.size w0 wr)∧Aside0 (Kept w wr P0_))
  case atStart=>exact ⟨k,k + 1,l0,by omega,by omega,by omega,rfl,by go_num,⟨Hn.out,F0.out,rfl⟩,HO1,HB1,HK1⟩
  case round =>
   obtain ⟨ii,jj,xs,hij,hjn,hg',rfl,rfl,HX,HOr,HBr,HKr⟩:=hrel;clear hm1 hm2 HO1 HB1 HK1 F0
   by_cases hlt:jj < n
   ·have hltz:(jj:Int) < (n:Int):=by omega
    have HF:=am (slices_DeleteFunc_Log_Entry.flt (l0:=l0) (p:=p) (Nat.le_of_lt hij) (by rw [Hn.out];exact hlt) (by rw [Hn.out];exact HX.out.1) HX.out.2.1 HX.out.2.2);obtain ⟨ceR,hclR,hMR,hccR,hfrR⟩:=Kd.R_elem HOr.out z35 (jj:Int) (by omega) (by omega);obtain rfl:=k35_openM hMR;have hx0:=hccR 0 _ rfl
    try simp only [show (k35).sz=3 from rfl,Nat.mul_one,Nat.add_zero] at hx0
    have hx1:=hccR 1 _ rfl
    try simp only [show (k35).sz=3 from rfl,Nat.mul_one,Nat.add_zero] at hx1
    have hx2:=hccR 2 _ rfl
    try simp only [show (k35).sz=3 from rfl,Nat.mul_one,Nat.add_zero] at hx2
    clear hclR hccR hfrR hMR;simp only [Int.toNat_natCast] at hx0 hx1 hx2;have hyy:rd_T35 xs (jj:Int)=xs.getD jj z35:=rfl;have hyz:rdOf z35 xs (jj:Int)=xs.getD jj z35:=rfl;(try simp only [hyy,hyz] at hx0 hx1 hx2);clear hyy hyz;generalize xs.getD jj z35=y at *;have HC:=am (HP.out)
    have hii:(ii:Int) < (n:Int):=by omega
    have hjj1:(ii:Int)≤(c:Int):=by omega
    cases hq:p y with
    | true =>
     have HQ:=am hq;clear hq
     go_wp2_with (first|((with_reducible refine gate_dst (N:=7) rfl ?_);refine box_event ?hg (N:=7) ?hd (cs:=#[.int .i64 0,.int .i64 0,.bool false]) (t:=35) ?hr ?_;(case hd=>rfl);(case hg=>rfl);(case hr=>exact zq14);intro gb hgb w8 hbox hb8;have ST:=am (slices_DeleteFunc_Log_Entry.stored (w:=w) y HOr.out HBr.out HKr.out (Nat.le_of_eq hgb.symm) hb8 hbox);have BE8:=am hbox;have hcz0:w8.cell? ⟨gb,0,none⟩=some (.int .i64 0):=(blk_cell BE8.out 0).trans rfl;have hfz0:=blk_frozen BE8.out 0;have hcz1:w8.cell? ⟨gb,1,none⟩=some (.int .i64 0):=(blk_cell BE8.out 1).trans rfl;have hfz1:=blk_frozen BE8.out 1;have hcz2:w8.cell? ⟨gb,2,none⟩=some (.bool false):=(blk_cell BE8.out 2).trans rfl;have hfz2:=blk_frozen BE8.out 2; clear hb8 hbox hgb)|(go_at_fn g;refine (HP.out _ ST.out.2.1 ST.out.2.2.1 y HF.out.2.2.2.2).mono ?_;rintro e w9 ⟨rfl,hb9⟩;rw [HQ.out];have HO9:=am (Kd.R_below ST.out.1 hb9);have HB9:=am (below_then ST.out.2.1 ST.out.2.1.size hb9);have HK9:=am (Kept.below ST.out.2.2.1 hb9);clear hb9))
     go_roundg (n - (jj + 1))
     case measure=>omega
     case rel=>exact ⟨ii,jj + 1,xs,by omega,by omega,by omega,rfl,by go_num,⟨HX.out.1,HF.out.1 HQ.out,HF.out.2.2.1⟩,HO9,HB9,HK9⟩
    | false =>
     have HQ:=am hq;clear hq
     go_wp2_with (first|((with_reducible refine gate_dst (N:=7) rfl ?_);refine box_event ?hg (N:=7) ?hd (cs:=#[.int .i64 0,.int .i64 0,.bool false]) (t:=35) ?hr ?_;(case hd=>rfl);(case hg=>rfl);(case hr=>exact zq14);intro gb hgb w8 hbox hb8;have ST:=am (slices_DeleteFunc_Log_Entry.stored (w:=w) y HOr.out HBr.out HKr.out (Nat.le_of_eq hgb.symm) hb8 hbox);have BE8:=am hbox;have hcz0:w8.cell? ⟨gb,0,none⟩=some (.int .i64 0):=(blk_cell BE8.out 0).trans rfl;have hfz0:=blk_frozen BE8.out 0;have hcz1:w8.cell? ⟨gb,1,none⟩=some (.int .i64 0):=(blk_cell BE8.out 1).trans rfl;have hfz1:=blk_frozen BE8.out 1;have hcz2:w8.cell? ⟨gb,2,none⟩=some (.bool false):=(blk_cell BE8.out 2).trans rfl;have hfz2:=blk_frozen BE8.out 2; clear hb8 hbox hgb)|(go_at_fn g;refine (HP.out _ ST.out.2.1 ST.out.2.2.1 y HF.out.2.2.2.2).mono ?_;rintro e w9 ⟨rfl,hb9⟩;rw [HQ.out];have HO9:=am (Kd.R_below ST.out.1 hb9);have HB9:=am (below_then ST.out.2.1 ST.out.2.1.size hb9);have HK9:=am (Kept.below ST.out.2.2.1 hb9);have BE9:=am (blk_below ST.out.2.2.2 hb9);have hcy0:w9.cell? ⟨gb,0,none⟩=some (.int .i64 y.f0):=(blk_cell BE9.out 0).trans rfl;have hcy1:w9.cell? ⟨gb,1,none⟩=some (.int .i64 y.f1):=(blk_cell BE9.out 1).trans rfl;have hcy2:w9.cell? ⟨gb,2,none⟩=some (.bool y.f2):=(blk_cell BE9.out 2).trans rfl; obtain ⟨ce,hcl,hM,hcc,hfr⟩:=Kd.R_elem HO9.out z35 (ii:Int) (by omega) (by omega);obtain rfl:=k35_openM hM;have HP9:=am (Kd.R_seg HO9.out (ii:Int) (by omega) (by omega) (seg:=[.int .i64 y.f0,.int .i64 y.f1,.bool y.f2]) (j:=0) hcl hcc (show 3≤3 from by decide) (x':=y) (k35_mkM _ _ _ y) (fun _ hk=>hk));have hr0:=hcc 0 _ rfl;(try simp only [show (k35).sz=3 from rfl,Nat.mul_one,Nat.add_zero] at hr0);have hs0:=hfr 0;(try simp only [show (k35).sz=3 from rfl,Nat.mul_one,Nat.add_zero] at hs0);have hr1:=hcc 1 _ rfl;(try simp only [show (k35).sz=3 from rfl,Nat.mul_one,Nat.add_zero] at hr1);have hs1:=hfr 1;(try simp only [show (k35).sz=3 from rfl,Nat.mul_one,Nat.add_zero] at hs1);have hr2:=hcc 2 _ rfl;(try simp only [show (k35).sz=3 from rfl,Nat.mul_one,Nat.add_zero] at hr2);have hs2:=hfr 2;(try simp only [show (k35).sz=3 from rfl,Nat.mul_one,Nat.add_zero] at hs2);(try simp only [Int.toNat_natCast] at hr0);(try simp only [Int.toNat_natCast] at hs0);(try simp only [Int.toNat_natCast] at hr1);(try simp only [Int.toNat_natCast] at hs1);(try simp only [Int.toNat_natCast] at hr2);(try simp only [Int.toNat_natCast] at hs2); clear hcl hcc hfr hM;clear hb9)|((with_reducible refine gate_store (t:=35) (p:=33) rfl ?_);refine store_event (t:=35) (p:=33) (v:=?vo) (w1:=(((w9.setCell ⟨b0,ii * 3,none⟩ (.int .i64 y.f0)).setCell ⟨b0,ii * 3 + 1,none⟩ (.int .i64 y.f1)).setCell ⟨b0,ii * 3 + 2,none⟩ (.bool y.f2))) ?hg ?ho ?hn ?hr ?_;(case ho=>rfl);(case hg=>rfl);(case hn=>rfl);(case hr=>exact zq14);intro w10 hw;have HO10:=am (show Kd.R k35 35 w10 w0.heap.size P0_ (.slice (some ⟨b0,0,none⟩) n c) (xs.set ii y) from by rw [hw];exact HP9.out.1);have HB10:=am (show Below w0.heap.size w0 w10 from by rw [hw];exact (((HB9.out).setCell GB.out (.int .i64 y.f0)).setCell GB.out (.int .i64 y.f1)).setCell GB.out (.bool y.f2));have HK10:=am (show Kept w w10 P0_ from by rw [hw];exact (((HK9.out).setCell (.inl PG.out) (.int .i64 y.f0)).setCell (.inl PG.out) (.int .i64 y.f1)).setCell (.inl PG.out) (.bool y.f2));clear hw))
     go_roundg (n - (jj + 1))
     case measure=>omega
     case rel=>exact ⟨ii + 1,jj + 1,xs.set ii y,by omega,by omega,by omega,by go_num,by go_num,⟨by rw [List.length_set];exact HX.out.1,HF.out.2.1 HQ.out,HF.out.2.2.2.1⟩,HO10,HB10,HK10⟩
   ·have hltz:¬ (jj:Int) < (n:Int):=by omega
    have:jj=n:=by omega
    subst this;have hT:=Kd.R_take HOr.out (m:=ii) (by have:=HX.out.1;omega);have ht:=Try.underlying25;obtain ⟨w2,hcl,ho2,hg2⟩:=R_cleared (P:=Try.prog) (n:=jj - ii) hT 25 0 (.agg #[(.int .i64 0),(.int .i64 0),(.bool false)]) ht (fun w=>by kernel_rfl) rfl (fun u hu=>slices_DeleteFunc_Log_Entry.zc _ hu) (by omega) (by omega);rw [show ii * (k35).sz=ii * 3 from rfl] at hcl;have HO2:=am ho2;have HG2:=am hg2;have hcm:(c=ii)=False:=eq_false (by omega);have hcm1:((ii:Int)≤(c:Int))=True:=eq_true (by omega);have hcm2:(ii≤c)=True:=eq_true (by omega);have hcm3:((ii:Int)≤(jj:Int))=True:=eq_true (by omega);have hcm4:(ii≤jj)=True:=eq_true (by omega);clear ho2 hg2 hT
    go_wp2
    go_ret
    have HE:=HX.out.2.1;rw [List.take_of_length_le (i:=jj) (by rw [Hn.out];exact Nat.le_refl _)] at HE;rw [← HE];refine ⟨_,rfl,Kd.R_mono HO2.out (fun _ hk=>.inl hk),HBr.out.grown HG2.out HBr.out.size (fun k hk=>?_),Kept.of_grown HG2.out HKr.out ?_⟩
    ·injection hk with hk
     subst hk;exact GB.out
    ·intro k hk
     injection hk with hk
     subst hk;exact .inl PG.out
 ·have hall:∀ x∈l0,p x=false:=fun x hx=>by
   cases e:p x with
   | false=>rfl
   | true=>exact absurd (List.any_eq_true.2 ⟨x,hx,e⟩) hany
  rw [idxP_miss hall] at HI;rw [List.filter_eq_self.2 (fun x hx=>by rw [hall x hx];rfl)];clear ho0 hB hp hC hany hall HP
  go_enter Try.func32,Try.ntmps32
  go_wp2_with (go_at_call 60;refine HI.out.mono ?_;rintro e w1 ⟨rfl,hb1⟩;have HO1:=am (Kd.R_below HO.out hb1);have HB1:=am (below_then HB.out HB.out.size hb1);have HK1:=am (Kept.below (Kept.refl w P0_) hb1);clear hb1)
  go_ret
  exact ⟨_,rfl,Kd.R_mono HO1.out (fun _ hk=>.inl hk),HB1.out,HK1.out⟩
def slices_DeleteFunc_Log_Entry__impl_AgreedLog_1.f (k:Nat) (l0:List (S35)) (l1:List (List (S35))) (a2:Int):Option (List (S35)):=delO (fun x=>impl_AgreedLog_1.f k x.f0 x.f1 x.f2 l1 a2) l0
set_option maxHeartbeats 2000000 in
theorem slices_DeleteFunc_Log_Entry__impl_AgreedLog_1.calls (k:Nat) (P0_:Nat→Prop) (u9000_:Value) (l0:List (S35)) (A1:Option Addr) (c1:Nat) (l1:List (List (S35))) (b1:Nat) (a2:Int) (b2:Nat) (r:List (S35)) (w0 w:World) (hB:Below w0.heap.size w0 w) (ho0:Kd.R k35 35 w w0.heap.size P0_ u9000_ l0) (hr1:Kd.C (Kd.slice 35 k35) w0 A1 l1.length l1) (hc1:l1.length≤c1) (hb1:w.heap[b1]?=some (.cells #[.slice A1 l1.length c1] 27 (0,0))) (hb2:w.heap[b2]?=some (.cells #[.int .i64 a2] 2 (0,0))) (hn1_2:b1≠b2) (h:slices_DeleteFunc_Log_Entry__impl_AgreedLog_1.f k l0 l1 a2=some r) :
  Calls Try.prog 32 #[u9000_,.func (.func 34) #[] #[.pointer (some ⟨b1,0,none⟩),.pointer (some ⟨b2,0,none⟩)]] w fun e w'=>∃ v0_:Value,e=.returned (v0_)∧Kd.R k35 35 w' w0.heap.size (fun k_=>(P0_ k_∨w.heap.size≤k_)) v0_ r∧Below w0.heap.size w0 w'∧Kept w w' (fun k_=>P0_ k_):=by
 have eg:=enters_of Try.func34 zq19 rfl;obtain ⟨hall,rfl⟩:=delO_some h;have hty:=Kd.R_typed ho0
 have far_:∀ (T b:Nat) (cs:Array Value),w.heap[b]?=some (.cells cs T (0,0))→T≠35→∀ W:World,Kept w W (fun k_=>some k_=u9000_.ownBlock)→W.heap[b]?=some (.cells cs T (0,0)):=fun T b cs hb hne W hk=>by
  refine (hk.2 b (blk_lt hb) (fun e=>?_)).trans hb;obtain ⟨c_,hc_⟩:=hty b e.symm;rw [hb] at hc_
  injection hc_ with h1_
  injection h1_ with _ h2_
  exact hne h2_
 refine (slices_DeleteFunc_Log_Entry.calls (fun k_=>some k_=u9000_.ownBlock) u9000_ l0 _ #[.pointer (some ⟨b1,0,none⟩),.pointer (some ⟨b2,0,none⟩)] eg (fun x=>impl_AgreedLog_1.f k x.f0 x.f1 x.f2 l1 a2 == some true) w0 w hB (Kd.R_tight rfl ho0) (fun W hW hK_ x hx=>?_)).mono fun e w' ⟨v0_,he,hR,hb,hk⟩=>⟨v0_,he,Kd.R_mono hR (fun k_ hk_=>hk_.elim (fun e_=>.inl (ho0.1 k_ e_.symm)) .inr),hb,Kept.mono hk (fun k_ e_=>ho0.1 k_ e_.symm)⟩
 obtain ⟨b,hb⟩:=Option.isSome_iff_exists.1 (hall x hx);rw [show (#[.agg #[.int .i64 x.f0,.int .i64 x.f1,.bool x.f2]] ++ #[.pointer (some ⟨b1,0,none⟩),.pointer (some ⟨b2,0,none⟩)]:Array Value)=#[.agg #[.int .i64 x.f0,.int .i64 x.f1,.bool x.f2],.pointer (some ⟨b1,0,none⟩),.pointer (some ⟨b2,0,none⟩)] from rfl]
 exact (impl_AgreedLog_1.calls k x.f0 x.f1 x.f2 A1 c1 l1 b1 a2 b2 b W (Kd.C_below hr1 hW) hc1 (far_ 27 b1 _ hb1 (by decide) W hK_) (far_ 2 b2 _ hb2 (by decide) W hK_) hn1_2 hb).mono fun e w' ⟨he,hw⟩=>⟨he.trans (by rw [hb];cases b <;> rfl),hw⟩
def cmp_isNaN_int64.f (a0:Int):Option (Bool):=some (a0 != a0)
set_option maxHeartbeats 8000000 in
set_option maxRecDepth 100000 in
theorem cmp_isNaN_int64.calls (a0:Int) (r:Bool) (w:World) (h:cmp_isNaN_int64.f a0=some r) :
  Calls Try.prog 81 #[.int .i64 a0] w fun e w'=>e=.returned (.bool r)∧Drawn0 w w':=by
 have H:(some (a0 != a0))=some r:=h;clear h;obtain rfl:=Option.some.inj H
 go_enter Try.func81,Try.ntmps81
 go_wp2
 go_ret
 exact ⟨by first|rfl|(simp only [IntKind.wrap_i64,wrap64];done)|(simp;done)|(simp [*];done),by repeat (first|exact Drawn0.refl _|apply Drawn0.step)⟩
def cmp_Compare_int64.f (a0:Int) (a1:Int):Option (Int):=(cmp_isNaN_int64.f a0).bind fun t101=>((cmp_isNaN_int64.f a1).bind fun t102=>(if t101=true then (if t102=true then (some 0) else (some (-1))) else (if t102=true then (some 1) else (if a0 < a1 then (some (-1)) else (if a0 > a1 then (some 1) else (some 0))))))
set_option maxHeartbeats 8000000 in
set_option maxRecDepth 100000 in
theorem cmp_Compare_int64.calls (a0:Int) (a1:Int) (r:Int) (w:World) (h:cmp_Compare_int64.f a0 a1=some r) :
  Calls Try.prog 59 #[.int .i64 a0,.int .i64 a1] w fun e w'=>e=.returned (.int .i64 r)∧Drawn0 w w':=by
 have H:((cmp_isNaN_int64.f a0).bind fun t101=>((cmp_isNaN_int64.f a1).bind fun t102=>(if t101=true then (if t102=true then (some 0) else (some (-1))) else (if t102=true then (some 1) else (if a0 < a1 then (some (-1)) else (if a0 > a1 then (some 1) else (some 0)))))))=some r:=h;clear h;replace H:=Option.bind_eq_some_iff.mp H;obtain ⟨t101,A30,H⟩:=H;replace H:((cmp_isNaN_int64.f a1).bind fun t102=>(if t101=true then (if t102=true then (some 0) else (some (-1))) else (if t102=true then (some 1) else (if a0 < a1 then (some (-1)) else (if a0 > a1 then (some 1) else (some 0))))))=some r:=H;have A3:=am A30;clear A30;replace H:=Option.bind_eq_some_iff.mp H;obtain ⟨t102,A40,H⟩:=H;replace H:(if t101=true then (if t102=true then (some 0) else (some (-1))) else (if t102=true then (some 1) else (if a0 < a1 then (some (-1)) else (if a0 > a1 then (some 1) else (some 0)))))=some r:=H;have A4:=am A40;clear A40
 by_cases c5:t101=true
 ·subst c5
  have H1:(if t102=true then (some 0) else (some (-1)))=some r:=by rw [if_pos rfl] at H;exact H
  clear H;have H:=H1;clear H1
  by_cases c6:t102=true
  ·subst c6
   have H1:(some 0)=some r:=by rw [if_pos rfl] at H;exact H
   clear H;have H:=H1;clear H1;obtain rfl:=Option.some.inj H
   go_enter Try.func59,Try.ntmps59
   go_wp2_with (first|((with_reducible refine gate_callee (f:=81) rfl ?_);refine goesL_ (some 8) rfl rfl Try.func81 zq19 rfl #[.int .i64 a0] rfl zq1 ?_;(with_reducible refine (cmp_isNaN_int64.calls a0 true _ A3.out).mono ?_);rintro e w' ⟨rfl,⟨nd,rfl⟩⟩;refine ⟨_,rfl,?_⟩)|((with_reducible refine gate_callee (f:=81) rfl ?_);refine goesL_ (some 10) rfl rfl Try.func81 zq19 rfl #[.int .i64 a1] rfl zq1 ?_;(with_reducible refine (cmp_isNaN_int64.calls a1 true _ A4.out).mono ?_);rintro e w' ⟨rfl,⟨nd,rfl⟩⟩;refine ⟨_,rfl,?_⟩))
   go_ret
   exact ⟨by first|rfl|(simp only [IntKind.wrap_i64,wrap64];done)|(simp;done)|(simp [*];done),by repeat (first|exact Drawn0.refl _|apply Drawn0.step)⟩
  ·replace c6:=Bool.eq_false_iff.mpr c6;subst c6
   have H1:(some (-1))=some r:=by rw [if_neg (show ¬ (false=true) by decide)] at H;exact H
   clear H;have H:=H1;clear H1;obtain rfl:=Option.some.inj H
   go_enter Try.func59,Try.ntmps59
   go_wp2_with (first|((with_reducible refine gate_callee (f:=81) rfl ?_);refine goesL_ (some 8) rfl rfl Try.func81 zq19 rfl #[.int .i64 a0] rfl zq1 ?_;(with_reducible refine (cmp_isNaN_int64.calls a0 true _ A3.out).mono ?_);rintro e w' ⟨rfl,⟨nd,rfl⟩⟩;refine ⟨_,rfl,?_⟩)|((with_reducible refine gate_callee (f:=81) rfl ?_);refine goesL_ (some 10) rfl rfl Try.func81 zq19 rfl #[.int .i64 a1] rfl zq1 ?_;(with_reducible refine (cmp_isNaN_int64.calls a1 false _ A4.out).mono ?_);rintro e w' ⟨rfl,⟨nd,rfl⟩⟩;refine ⟨_,rfl,?_⟩))
   go_ret
   exact ⟨by first|rfl|(simp only [IntKind.wrap_i64,wrap64];done)|(simp;done)|(simp [*];done),by repeat (first|exact Drawn0.refl _|apply Drawn0.step)⟩
 ·replace c5:=Bool.eq_false_iff.mpr c5;subst c5
  have H1:(if t102=true then (some 1) else (if a0 < a1 then (some (-1)) else (if a0 > a1 then (some 1) else (some 0))))=some r:=by rw [if_neg (show ¬ (false=true) by decide)] at H;exact H
  clear H;have H:=H1;clear H1
  by_cases c7:t102=true
  ·subst c7
   have H1:(some 1)=some r:=by rw [if_pos rfl] at H;exact H
   clear H;have H:=H1;clear H1;obtain rfl:=Option.some.inj H
   go_enter Try.func59,Try.ntmps59
   go_wp2_with (first|((with_reducible refine gate_callee (f:=81) rfl ?_);refine goesL_ (some 8) rfl rfl Try.func81 zq19 rfl #[.int .i64 a0] rfl zq1 ?_;(with_reducible refine (cmp_isNaN_int64.calls a0 false _ A3.out).mono ?_);rintro e w' ⟨rfl,⟨nd,rfl⟩⟩;refine ⟨_,rfl,?_⟩)|((with_reducible refine gate_callee (f:=81) rfl ?_);refine goesL_ (some 10) rfl rfl Try.func81 zq19 rfl #[.int .i64 a1] rfl zq1 ?_;(with_reducible refine (cmp_isNaN_int64.calls a1 true _ A4.out).mono ?_);rintro e w' ⟨rfl,⟨nd,rfl⟩⟩;refine ⟨_,rfl,?_⟩))
   go_ret
   exact ⟨by first|rfl|(simp only [IntKind.wrap_i64,wrap64];done)|(simp;done)|(simp [*];done),by repeat (first|exact Drawn0.refl _|apply Drawn0.step)⟩
  ·replace c7:=Bool.eq_false_iff.mpr c7;subst c7
   have H1:(if a0 < a1 then (some (-1)) else (if a0 > a1 then (some 1) else (some 0)))=some r:=by rw [if_neg (show ¬ (false=true) by decide)] at H;exact H
   clear H;have H:=H1;clear H1
   by_cases c8:a0 < a1
   ·rw [if_pos c8] at H;have c8b0:=decide_eq_true c8;clear c8;obtain rfl:=Option.some.inj H
    go_enter Try.func59,Try.ntmps59
    go_wp2_with (first|((with_reducible refine gate_callee (f:=81) rfl ?_);refine goesL_ (some 8) rfl rfl Try.func81 zq19 rfl #[.int .i64 a0] rfl zq1 ?_;(with_reducible refine (cmp_isNaN_int64.calls a0 false _ A3.out).mono ?_);rintro e w' ⟨rfl,⟨nd,rfl⟩⟩;refine ⟨_,rfl,?_⟩)|((with_reducible refine gate_callee (f:=81) rfl ?_);refine goesL_ (some 10) rfl rfl Try.func81 zq19 rfl #[.int .i64 a1] rfl zq1 ?_;(with_reducible refine (cmp_isNaN_int64.calls a1 false _ A4.out).mono ?_);rintro e w' ⟨rfl,⟨nd,rfl⟩⟩;refine ⟨_,rfl,?_⟩))
    go_ret
    exact ⟨by first|rfl|(simp only [IntKind.wrap_i64,wrap64];done)|(simp;done)|(simp [*];done),by repeat (first|exact Drawn0.refl _|apply Drawn0.step)⟩
   ·rw [if_neg c8] at H;have c8b0:=decide_eq_false c8;clear c8
    by_cases c9:a0 > a1
    ·rw [if_pos c9] at H;have c9b0:decide (a1 < a0)=true:=decide_eq_true c9;clear c9;obtain rfl:=Option.some.inj H
     go_enter Try.func59,Try.ntmps59
     go_wp2_with (first|((with_reducible refine gate_callee (f:=81) rfl ?_);refine goesL_ (some 8) rfl rfl Try.func81 zq19 rfl #[.int .i64 a0] rfl zq1 ?_;(with_reducible refine (cmp_isNaN_int64.calls a0 false _ A3.out).mono ?_);rintro e w' ⟨rfl,⟨nd,rfl⟩⟩;refine ⟨_,rfl,?_⟩)|((with_reducible refine gate_callee (f:=81) rfl ?_);refine goesL_ (some 10) rfl rfl Try.func81 zq19 rfl #[.int .i64 a1] rfl zq1 ?_;(with_reducible refine (cmp_isNaN_int64.calls a1 false _ A4.out).mono ?_);rintro e w' ⟨rfl,⟨nd,rfl⟩⟩;refine ⟨_,rfl,?_⟩))
     go_ret
     exact ⟨by first|rfl|(simp only [IntKind.wrap_i64,wrap64];done)|(simp;done)|(simp [*];done),by repeat (first|exact Drawn0.refl _|apply Drawn0.step)⟩
    ·rw [if_neg c9] at H;have c9b0:decide (a1 < a0)=false:=decide_eq_false c9;clear c9;obtain rfl:=Option.some.inj H
     go_enter Try.func59,Try.ntmps59
     go_wp2_with (first|((with_reducible refine gate_callee (f:=81) rfl ?_);refine goesL_ (some 8) rfl rfl Try.func81 zq19 rfl #[.int .i64 a0] rfl zq1 ?_;(with_reducible refine (cmp_isNaN_int64.calls a0 false _ A3.out).mono ?_);rintro e w' ⟨rfl,⟨nd,rfl⟩⟩;refine ⟨_,rfl,?_⟩)|((with_reducible refine gate_callee (f:=81) rfl ?_);refine goesL_ (some 10) rfl rfl Try.func81 zq19 rfl #[.int .i64 a1] rfl zq1 ?_;(with_reducible refine (cmp_isNaN_int64.calls a1 false _ A4.out).mono ?_);rintro e w' ⟨rfl,⟨nd,rfl⟩⟩;refine ⟨_,rfl,?_⟩))
     go_ret
     exact ⟨by first|rfl|(simp only [IntKind.wrap_i64,wrap64];done)|(simp;done)|(simp [*];done),by repeat (first|exact Drawn0.refl _|apply Drawn0.step)⟩
def cmp_Or_int.l0:Nat→Int→List Int→Int→Int→Option (Int)
 | 0,_,_,_,_=>none
 | k + 1,x3,x6,x7,x8=>if x8 < x7 then (if 0≤x8 then (if x8 < (x6.length:Int) then (if (rd x6 x8)=x3 then (cmp_Or_int.l0 k x3 x6 x7 (wrap64 (x8 + 1))) else (some (rd x6 x8))) else (none)) else (none)) else (some x3)
def cmp_Or_int.f (k:Nat) (l0:List Int):Option (Int):=cmp_Or_int.l0 k 0 l0 (l0.length:Int) 0
set_option maxHeartbeats 8000000 in
set_option maxRecDepth 100000 in
theorem cmp_Or_int.calls (k:Nat) (A0:Option Addr) (c0:Nat) (l0:List Int) (r:Int) (w:World) (hr0:Kd.C (Kd.int .i64) w A0 l0.length l0) (hc0:l0.length≤c0) (h:cmp_Or_int.f k l0=some r) :
  Calls Try.prog 58 #[.slice A0 l0.length c0] w fun e w'=>e=.returned (.int .i64 r)∧Drawn0 w w':=by
 have HR0:=am hr0;have HC0:=am hc0;clear hr0 hc0;have H:(cmp_Or_int.l0 k 0 l0 (l0.length:Int) 0)=some r:=h;clear h;have H':=am H;clear H
 go_enter Try.func58,Try.ntmps58
 go_wp2
 go_loopg [8] k (fun kq v8 w'=>∃ (x8_1:Int),v8=.int .i64 x8_1∧Aside0 (cmp_Or_int.l0 kq 0 l0 (l0.length:Int) x8_1=some r)∧Aside0 (kq≤k)∧Drawn0 w w')
 case atStart=>exact ⟨(0),zq2,H',⟨Nat.le_refl _⟩,by repeat (first|exact Drawn0.refl _|apply Drawn0.step)⟩
 case round =>
  clear H';obtain ⟨x8_1,rfl,HA,HK1,⟨m1,rfl⟩⟩:=hrel
  cases gk with
  | zero=>exact absurd HA.out (by simp [cmp_Or_int.l0])
  | succ k1 =>
   have H:=HA.out;clear HA;simp only [cmp_Or_int.l0] at H
   by_cases c2:x8_1 < (l0.length:Int)
   ·rw [if_pos c2] at H;have c2b0:=decide_eq_true c2;clear c2
    by_cases c3:0≤x8_1
    ·rw [if_pos c3] at H;have c3b0:=decide_eq_true c3;clear c3
     by_cases c4:x8_1 < (l0.length:Int)
     ·rw [if_pos c4] at H;have c4b0:=decide_eq_true c4;clear c4
      by_cases c5:(rd l0 x8_1)=0
      ·rw [if_pos c5] at H;have c5b0:=beq_iff_eq.mpr c5;have c5b1:=bne_eq_false_iff_eq.mpr c5;clear c5;have H':=am H;clear H;have p101:0≤(x8_1:Int):=of_decide_eq_true zq3;have q101:x8_1 < (l0.length:Int):=of_decide_eq_true zq3;obtain ⟨ad101,e101,hx101_0⟩:=Kd.at_int HR0.out x8_1 p101 q101;cases e101;replace p101:=eq_true p101;replace q101:=eq_true q101
       go_wp2
       go_roundg k1
       case measure=>have:=HK1.out;omega
       case rel=>exact ⟨(wrap64 (x8_1 + 1)),zq2,H',⟨by have:=HK1.out;omega⟩,by repeat (first|exact Drawn0.refl _|apply Drawn0.step)⟩
      ·rw [if_neg c5] at H;have c5b0:=beq_eq_false_iff_ne.mpr c5;have c5b1:=bne_iff_ne.mpr c5;obtain rfl:=Option.some.inj H;have p101:0≤(x8_1:Int):=of_decide_eq_true zq3;have q101:x8_1 < (l0.length:Int):=of_decide_eq_true zq3;obtain ⟨ad101,e101,hx101_0⟩:=Kd.at_int HR0.out x8_1 p101 q101;cases e101;replace p101:=eq_true p101;replace q101:=eq_true q101
       go_wp2
       go_ret
       exact ⟨by first|rfl|(simp only [IntKind.wrap_i64,wrap64];done)|(simp;done)|(simp [*];done),by repeat (first|exact Drawn0.refl _|apply Drawn0.step)⟩
     ·rw [if_neg c4] at H;exact absurd H (by simp)
    ·rw [if_neg c3] at H;exact absurd H (by simp)
   ·rw [if_neg c2] at H;have c2b0:=decide_eq_false c2;clear c2;obtain rfl:=Option.some.inj H
    go_wp2
    go_ret
    exact ⟨by first|rfl|(simp only [IntKind.wrap_i64,wrap64];done)|(simp;done)|(simp [*];done),by repeat (first|exact Drawn0.refl _|apply Drawn0.step)⟩
def impl_compareEntries.j0:Nat→Int→Bool→Int→Int→Bool→Option (Int)
 | 0,_,_,_,_,_=>none
 | k + 1,x5,x26,x103000,x103001,x103002=>if x26=true then (some x5) else (if x103002=true then (some (-1)) else (some 1))
def impl_compareEntries.f (k:Nat) (a0_0:Int) (a0_1:Int) (a0_2:Bool) (a1_0:Int) (a1_1:Int) (a1_2:Bool):Option (Int):=(cmp_Compare_int64.f a0_0 a1_0).bind fun t103=>((cmp_Compare_int64.f a0_1 a1_1).bind fun t104=>((cmp_Or_int.f k (([t103,t104]:List Int))).bind fun t108=>(if t108=0 then (impl_compareEntries.j0 k t108 (a0_2 == a1_2) a1_0 a1_1 a1_2) else (impl_compareEntries.j0 k t108 true a1_0 a1_1 a1_2))))
def impl_compareEntries.T1:Bool × List (List Nat × List Nat):=(true,[([],[]),([0],[0]),([],[]),([2],[2]),([1,3],[1,3]),([],[]),([5],[5]),([],[]),([7],[7]),([6,8,4],[6,8]),([4,9],[4,9]),([10,9],[10]),([11,11,0,1,2,3,4,5,6,7,8,9,10,11],[11])])
def impl_compareEntries.B1:List Nat:=[0,1,0,4,15,0,32,0,128,511,1023,2047,4095]
theorem impl_compareEntries.tab1:rtab .any (opsOf Try.f31 1)=impl_compareEntries.T1:=by kernel_rfl
theorem impl_compareEntries.bits1:waitsOk impl_compareEntries.T1.2 impl_compareEntries.B1=true:=by kernel_rfl
def BelowD (w W:World):Prop:=Below w.heap.size w W∧w.drawn≤W.drawn
theorem BelowD.refl (w:World):BelowD w w:=⟨Below.refl _ _,Nat.le_refl _⟩
theorem belowD_alloc {w W:World} (h:BelowD w W) (o:Obj):BelowD w (W.alloc o):=⟨below_alloc h.1 o,h.2⟩
theorem belowD_drewN {w W:World} (h:BelowD w W) (n:Nat):BelowD w (W.drewN n):=⟨pw_below_drewN h.1 n,Nat.le_trans h.2 (Nat.le_add_right _ _)⟩
theorem belowD_drew1 {w W:World} (h:BelowD w W):BelowD w W.drew:=⟨below_drew1 h.1,Nat.le_trans h.2 (Nat.le_add_right _ _)⟩
theorem belowD_set {w W:World} {g j:Nat} {v:Value} (h:BelowD w W) (hg:w.heap.size≤g):BelowD w (W.setCell ⟨g,j,none⟩ v):=⟨below_set h.1 hg,by rw [show (W.setCell ⟨g,j,none⟩ v).drawn=W.drawn from by unfold World.setCell;split <;> rfl];exact h.2⟩
theorem belowD_size {w W:World} (h:BelowD w W):w.heap.size≤W.heap.size:=h.1.size
theorem belowD_step {w W w2:World} (h:BelowD w W) (k:BelowD W w2):BelowD w w2:=⟨below_step h.1 k.1,Nat.le_trans h.2 k.2⟩
theorem blk_belowD {w w1:World} {g:Nat} {o:Obj} (h:w.heap[g]?=some o) (hb:BelowD w w1):w1.heap[g]?=some o:=blk_below h hb.1
theorem belowD_grow {w W:World} (h:BelowD w W):∃ q os,W=Go.Sort.grow (w.drewN q) os:=by
 obtain ⟨hb,hd⟩:=h;refine ⟨W.drawn - w.drawn,W.heap.extract w.heap.size W.heap.size,?_⟩
 have hh:W.heap=w.heap ++ W.heap.extract w.heap.size W.heap.size:=by
  apply Array.ext'
  apply List.ext_getElem?
  intro i
  rcases Nat.lt_or_ge i w.heap.size with h1|h1
  ·have:=hb.block i h1;simp only [Array.toList_append,Array.getElem?_toList];rw [List.getElem?_append_left (by simpa using h1),Array.getElem?_toList];exact this
  ·have hs:=hb.size;simp only [Array.toList_append,Array.getElem?_toList];rw [List.getElem?_append_right (by simpa using h1),Array.getElem?_toList,Array.getElem?_extract];simp only [Array.length_toList]
   rcases Nat.lt_or_ge i W.heap.size with h2|h2
   ·rw [if_pos (by omega)]
    congr 1
    omega
   ·rw [if_neg (by omega),Array.getElem?_eq_none h2]
 obtain ⟨heap,tape,drawn,os,output⟩:=W;obtain ⟨heap0,tape0,drawn0,os0,output0⟩:=w;have e1:=hb.os;have e2:=hb.tape;have e3:=hb.output;simp only at e1 e2 e3 hh hd;subst e1 e2 e3
 unfold Go.Sort.grow World.drewN
 simp only [World.mk.injEq,and_true,true_and];exact ⟨hh,by omega⟩
section
variable {P:Program} {ops:Array Oper} {rest:List Oper} {o:Oper} {a:Act} {Q:Exit→Act→World→Prop}
theorem box_eventD {W:World} (hgd:o.guard=none) {N:Tmp} (_hd:o.dst=some N) {cs:Array Value} {t:TypeId}
  (hrun:(execOp a.eval o).run P W=.ok (.value (.pointer (some ⟨W.heap.size,0,none⟩))) (W.alloc (.cells cs t (0,0))))
  (h:∀ g,g=W.heap.size→∀ w1,w1.heap[g]?=some (.cells cs t (0,0))→BelowD W w1→wpList P ops Q rest (a.put o.dst (.pointer (some ⟨g,0,none⟩))) w1):wpList P ops Q (o :: rest) a W :=
 Kd.event_run hgd hrun (h _ rfl _ (blk_new W _) (belowD_alloc (BelowD.refl _) _))
theorem litD_step {α:Type} {Kc:Act→World→Prop} (d:Kd α) {W:World} (base e:Nat) (hw:Region.wanted o (yielded ops a.tmps)=true) {N:Tmp} (_hd:o.dst=some N) {xs:List α} {inner:List Value} {ok okp:Nat→Prop}
  (hrun:(execOp a.eval o).run P W=.ok (.value (.slice (some ⟨W.heap.size,0,none⟩) xs.length xs.length)) (W.alloc (.cells inner.toArray e)))
  (hrep:Reps (d.M W base okp) d.sz xs inner) (hok:∀ k,okp k→ok k) (hfresh:ok W.heap.size) (HB:BelowD W W) (hbase:base≤W.heap.size) (hm:xs.length≤9223372036854775807)
  (h:∀ v1 w1,d.R e w1 base ok v1 xs→BelowD W w1→W.grownBy w1 none→(∃ b,v1.ownBlock=some b∧W.heap.size≤b)→Kc (a.put o.dst v1) w1):if Region.wanted o (yielded ops a.tmps)=true then Oper.wp P o a W Kc Q else Kc (a.put o.dst undef) W:=by
 refine event_step hw hrun (h _ _ ⟨fun k hk=>?_,inner,?_,?_⟩ (belowD_alloc HB _) (World.grownBy_alloc W _ none) ⟨W.heap.size,by simp [Value.ownBlock],Nat.le_refl _⟩)
 ·have:W.heap.size=k:=by simpa [Value.ownBlock] using hk
  subst this;exact hfresh
 ·have h2:=World.ownsRow_lit (base:=base) (e:=e) (size:=d.sz) W inner.toArray xs.length hbase (by simpa [maxLen] using hm) (by simpa using hrep.1)
  simpa using h2
 ·refine hrep.imp_ (fun p c hp=>d.M_mono (fun k hk=>⟨hok k hk.1,fun he=>?_⟩) (Kd.M_below (d.M_bound hp) (below_alloc (Below.refl _ _) _)))
  have h3:k=W.heap.size:=by simpa [Value.ownBlock] using he
  have:=hk.2.2.1
  omega
end
set_option maxHeartbeats 8000000 in
set_option maxRecDepth 100000 in
theorem impl_compareEntries.callsD (k:Nat) (a0_0:Int) (a0_1:Int) (a0_2:Bool) (a1_0:Int) (a1_1:Int) (a1_2:Bool) (r:Int) (w:World) (h:impl_compareEntries.f k a0_0 a0_1 a0_2 a1_0 a1_1 a1_2=some r) :
  Calls Try.prog 31 #[.agg #[.int .i64 a0_0,.int .i64 a0_1,.bool a0_2],.agg #[.int .i64 a1_0,.int .i64 a1_1,.bool a1_2]] w fun e w'=>e=.returned (.int .i64 r)∧BelowD w w':=by
 have hu35:=Try.underlying35;have HB:=am (BelowD.refl w);have H:((cmp_Compare_int64.f a0_0 a1_0).bind fun t103=>((cmp_Compare_int64.f a0_1 a1_1).bind fun t104=>((cmp_Or_int.f k (([t103,t104]:List Int))).bind fun t108=>(if t108=0 then (impl_compareEntries.j0 k t108 (a0_2 == a1_2) a1_0 a1_1 a1_2) else (impl_compareEntries.j0 k t108 true a1_0 a1_1 a1_2)))))=some r:=h;clear h;replace H:=Option.bind_eq_some_iff.mp H;obtain ⟨t103,A30,H⟩:=H;replace H:((cmp_Compare_int64.f a0_1 a1_1).bind fun t104=>((cmp_Or_int.f k (([t103,t104]:List Int))).bind fun t108=>(if t108=0 then (impl_compareEntries.j0 k t108 (a0_2 == a1_2) a1_0 a1_1 a1_2) else (impl_compareEntries.j0 k t108 true a1_0 a1_1 a1_2))))=some r:=H;have A3:=am A30;clear A30;replace H:=Option.bind_eq_some_iff.mp H;obtain ⟨t104,A40,H⟩:=H;replace H:((cmp_Or_int.f k (([t103,t104]:List Int))).bind fun t108=>(if t108=0 then (impl_compareEntries.j0 k t108 (a0_2 == a1_2) a1_0 a1_1 a1_2) else (impl_compareEntries.j0 k t108 true a1_0 a1_1 a1_2)))=some r:=H;have A4:=am A40;clear A40;obtain ⟨y105,hy105⟩:∃ y_:List Int,y_=(([t103,t104]:List Int)):=⟨_,rfl⟩
 replace H:((cmp_Or_int.f k y105).bind fun t108=>(if t108=0 then (impl_compareEntries.j0 k t108 (a0_2 == a1_2) a1_0 a1_1 a1_2) else (impl_compareEntries.j0 k t108 true a1_0 a1_1 a1_2)))=some r:=by first|(rw [hy105];with_reducible exact H)|(have H2_:=(Option.bind_some _ _).symm.trans H;rw [hy105];with_reducible exact H2_)|(have H2_:=(Option.bind_some _ _).symm.trans H;with_reducible exact H2_)|with_reducible exact H|(rw [hy105];exact H)|exact H
 have Ny105:=am hy105;clear hy105;replace H:=Option.bind_eq_some_iff.mp H;obtain ⟨t108,A50,H⟩:=H;replace H:(if t108=0 then (impl_compareEntries.j0 k t108 (a0_2 == a1_2) a1_0 a1_1 a1_2) else (impl_compareEntries.j0 k t108 true a1_0 a1_1 a1_2))=some r:=H;have A5:=am A50;clear A50;have HC6:=am H;clear H
 go_enter Try.func31,Try.ntmps31
 try go_wp2_with (first|((with_reducible refine gate_dst (N:=2) rfl ?_);refine box_eventD ?hg (N:=2) ?hd (cs:=#[.int .i64 a0_0,.int .i64 a0_1,.bool a0_2]) (t:=35) ?hr ?_;(case hd=>rfl);(case hg=>rfl);(case hr=>exact zq14);intro gb101 hg w7 hbox hb;have n0_:=am (belowD_step zq59 hb);have n1_:=am (hbox);have n2_:=am ((by rw [hg];exact (belowD_size zq59):w.heap.size≤gb101));have n3_:=am ((by rw [hg];exact (belowD_size zq59):w.heap.size≤gb101));clear HB;have HB:=n0_;have BK101:=n1_;have GW101:=n2_;have GE101:=n3_;clear n0_ n1_ n2_ n3_;clear hb hbox hg)|((with_reducible refine gate_dst (N:=3) rfl ?_);refine box_eventD ?hg (N:=3) ?hd (cs:=#[.int .i64 a1_0,.int .i64 a1_1,.bool a1_2]) (t:=35) ?hr ?_;(case hd=>rfl);(case hg=>rfl);(case hr=>exact zq14);intro gb102 hg w8 hbox hb;have n0_:=am (blk_belowD (g:=gb101) (o:=.cells #[.int .i64 a0_0,.int .i64 a0_1,.bool a0_2] 35 (0,0)) zq4 hb);have n1_:=am (belowD_step zq55 hb);have n2_:=am (hbox);have n3_:=am ((by rw [hg];exact (belowD_size zq55):w.heap.size≤gb102));have n4_:=am ((by rw [hg];exact (belowD_size zq55):w.heap.size≤gb102));have n5_:=am ((by rw [hg];exact Nat.ne_of_lt (blk_lt (g:=gb101) (o:=.cells #[.int .i64 a0_0,.int .i64 a0_1,.bool a0_2] 35 (0,0)) zq4):gb101≠gb102));have n6_:=am ((by rw [hg];exact Nat.ne_of_gt (blk_lt (g:=gb101) (o:=.cells #[.int .i64 a0_0,.int .i64 a0_1,.bool a0_2] 35 (0,0)) zq4):gb102≠gb101));clear BK101;clear HB;have BK101:=n0_;have HB:=n1_;have BK102:=n2_;have GW102:=n3_;have GE102:=n4_;have NB101_102:=n5_;have NB102_101:=n6_;clear n0_ n1_ n2_ n3_ n4_ n5_ n6_;clear hb hbox hg))
 have n0_:=am (blk_drew BK101.out);have n1_:=am (blk_drew BK102.out);have n2_:=am (belowD_drew1 HB.out);clear BK101;clear BK102;clear HB;have BK101:=n0_;have BK102:=n1_;have HB:=n2_;clear n0_ n1_ n2_;refine start_ (n:=13) (S:=fun w'=>w'.cell? ⟨gb101,0,none⟩=some (.int .i64 a0_0)∧w'.cell? ⟨gb101,1,none⟩=some (.int .i64 a0_1)∧w'.cell? ⟨gb101,2,none⟩=some (.bool a0_2)∧w'.cell? ⟨gb102,0,none⟩=some (.int .i64 a1_0)∧w'.cell? ⟨gb102,1,none⟩=some (.int .i64 a1_1)∧w'.cell? ⟨gb102,2,none⟩=some (.bool a1_2)) (ds:=[]) #[false,false,false,false,false,false,false,false,false,false,false,false,false] zq19 rfl rfl ⟨(blk_cell BK101.out 0).trans rfl,(blk_cell BK101.out 1).trans rfl,(blk_cell BK101.out 2).trans rfl,(blk_cell BK102.out 0).trans rfl,(blk_cell BK102.out 1).trans rfl,(blk_cell BK102.out 2).trans rfl⟩ (fun hHeld=>?_);refine with_tabW impl_compareEntries.tab1 impl_compareEntries.bits1 (fun HT_ HW_=>?_);generalize w8.drew=w9 at BK101 BK102 HB hHeld ⊢;refine pw_ 0 6 ?_;refine pw_ 2 8 ?_;refine pw_ 5 11 ?_;refine pw_ 7 13 ?_;refine tw6_ 1 7 ?_;refine tw6_ 3 9 ?_;refine tw6_ 6 12 ?_;refine tw6_ 8 14 ?_;refine ow_ 4 10 (fun K hK=>?_);refine goes_ Try.func59 zq19 rfl #[.int .i64 a0_0,.int .i64 a1_0] (by rfl) rfl rfl zq1 ?_
 with_reducible refine (cmp_Compare_int64.calls a0_0 a1_0 t103 _ A3.out).mono ?_
 rintro e w' ⟨rfl,⟨nd,rfl⟩⟩
 refine ⟨_,rfl,?_⟩;refine hK.out _ _ ⟨(blk_cell BK101.out 0).trans rfl,(blk_cell BK101.out 1).trans rfl,(blk_cell BK101.out 2).trans rfl,(blk_cell BK102.out 0).trans rfl,(blk_cell BK102.out 1).trans rfl,(blk_cell BK102.out 2).trans rfl⟩ (fun hHeld=>?_);clear hK K;refine norm_ (a':=?_) ?_ ?_;rotate_left
 ·show Act.put _ (some 10) _=_
  simp only [Act.put,List.setIfInBounds_toArray,List.set_cons_zero,List.set_cons_succ,i64_w,i32_w];rfl
 refine ow_ 9 15 (fun K hK=>?_);refine goes_ Try.func59 zq19 rfl #[.int .i64 a0_1,.int .i64 a1_1] (by rfl) rfl rfl zq1 ?_
 with_reducible refine (cmp_Compare_int64.calls a0_1 a1_1 t104 _ A4.out).mono ?_
 rintro e w' ⟨rfl,⟨nd,rfl⟩⟩
 refine ⟨_,rfl,?_⟩;refine hK.out _ _ ⟨(blk_cell BK101.out 0).trans rfl,(blk_cell BK101.out 1).trans rfl,(blk_cell BK101.out 2).trans rfl,(blk_cell BK102.out 0).trans rfl,(blk_cell BK102.out 1).trans rfl,(blk_cell BK102.out 2).trans rfl⟩ (fun hHeld=>?_);clear hK K;refine norm_ (a':=?_) ?_ ?_;rotate_left
 ·show Act.put _ (some 15) _=_
  simp only [Act.put,List.setIfInBounds_toArray,List.set_cons_zero,List.set_cons_succ,i64_w,i32_w];rfl
 refine ow_ 10 16 (fun K hK=>?_);refine litD_step (Kd.int .i64) _ 3 ?hg (N:=16) ?hd (xs:=([t103,t104]:List Int)) (inner:=[.int .i64 t103,.int .i64 t104]) (ok:=fun _=>True) (okp:=fun _=>True) ?hr ?hp (fun _ hk=>hk) trivial (BelowD.refl _) (Nat.le_refl _) (by simp) ?_;(case hd=>rfl);(case hg=>rfl);(case hr=>exact zq14);(case hp=>exact (Reps.one (show Kd.M (Kd.int .i64) _ _ _ t103 [.int .i64 t103] from rfl) (Reps.one (show Kd.M (Kd.int .i64) _ _ _ t104 [.int .i64 t104] from rfl) (Reps.none _ _))));intro v106 w10 ho11 hb hg_ hnew_;clear hg_ hnew_;(first|rw [← Ny105.out] at ho11|(simp only [Int.reduceToNat] at ho11;rw [← Ny105.out] at ho11));have n0_:=am (Kd.R_lower ho11 (belowD_size zq66));have n1_:=am (blk_belowD (g:=gb101) (o:=.cells #[.int .i64 a0_0,.int .i64 a0_1,.bool a0_2] 35 (0,0)) zq4 hb);have n2_:=am (blk_belowD (g:=gb102) (o:=.cells #[.int .i64 a1_0,.int .i64 a1_1,.bool a1_2] 35 (0,0)) zq10 hb);have n3_:=am (belowD_step zq66 hb);clear BK101;clear BK102;clear HB;have HO107:=n0_;have BK101:=n1_;have BK102:=n2_;have HB:=n3_;clear n0_ n1_ n2_ n3_;clear hb ho11;obtain ⟨Ao12,co12,eo12⟩:=Kd.R_slice HO107.out;(first|subst eo12|(injection eo12 with f1_ f2_ f3_;have f4_:=f1_.symm;have f5_:=f3_.symm;clear f1_ f2_ f3_;subst f4_;subst f5_));refine hK.out _ _ ⟨(blk_cell BK101.out 0).trans rfl,(blk_cell BK101.out 1).trans rfl,(blk_cell BK101.out 2).trans rfl,(blk_cell BK102.out 0).trans rfl,(blk_cell BK102.out 1).trans rfl,(blk_cell BK102.out 2).trans rfl⟩ (fun hHeld=>?_);clear hK K;refine norm_ (a':=?_) ?_ ?_;rotate_left
 ·show Act.put _ (some 16) _=_
  simp only [Act.put,List.setIfInBounds_toArray,List.set_cons_zero,List.set_cons_succ,i64_w,i32_w];rfl
 refine ow_ 11 17 (fun K hK=>?_);refine goes_ Try.func58 zq19 rfl #[.slice Ao12 y105.length co12] (by rfl) rfl rfl zq1 ?_
 with_reducible refine (cmp_Or_int.calls k _ _ y105 t108 _ ?side1 ?side2 A5.out).mono ?_
 (case side1=>repeat (first|exact (Kd.R_reads' HO107.out).2.2|(with_reducible refine Kd.C_alloc ?_ _)|(with_reducible refine Kd.C_drewN ?_ _)|(with_reducible refine Kd.C_drew ?_)));(case side2=>exact (Kd.R_reads' HO107.out).2.1)
 rintro e w' ⟨rfl,⟨nd,rfl⟩⟩
 refine ⟨_,rfl,?_⟩;refine hK.out _ _ ⟨(blk_cell BK101.out 0).trans rfl,(blk_cell BK101.out 1).trans rfl,(blk_cell BK101.out 2).trans rfl,(blk_cell BK102.out 0).trans rfl,(blk_cell BK102.out 1).trans rfl,(blk_cell BK102.out 2).trans rfl⟩ (fun hHeld=>?_);clear hK K;refine norm_ (a':=?_) ?_ ?_;rotate_left
 ·show Act.put _ (some 17) _=_
  simp only [Act.put,List.setIfInBounds_toArray,List.set_cons_zero,List.set_cons_succ,i64_w,i32_w];rfl
 refine pw_ 12 5 ?_;refine done_ (done_of HT_.out zq19) ?_
 go_upto_region 2 with (fail)
 go_cut [26] (fun v26 wc=>∃ (kq:Nat) (x26_5:Bool),v26=.bool x26_5∧Aside0 (impl_compareEntries.j0 kq t108 x26_5 a1_0 a1_1 a1_2=some r)∧Aside0 (kq≤k)∧Aside0 (wc.heap[gb101]?=some (.cells #[.int .i64 a0_0,.int .i64 a0_1,.bool a0_2] 35 (0,0)))∧Aside0 (wc.heap[gb102]?=some (.cells #[.int .i64 a1_0,.int .i64 a1_1,.bool a1_2] 35 (0,0)))∧Aside0 (BelowD w wc))
 case first =>
  have H:=HC6.out;clear HC6
  by_cases c13:t108=0
  ·rw [if_pos c13] at H;have c13b0:=beq_iff_eq.mpr c13;have c13b1:=bne_eq_false_iff_eq.mpr c13;clear c13;(first|rw [c13b0]|(simp only [i64_w,i32_w];rw [c13b0])|skip);have H':=am H;clear H;have hnb14:=NB101_102.out;have hnc14:=NB102_101.out;have hcz15_0:w10.cell? ⟨gb101,0,none⟩=some (.int .i64 a0_0):=(blk_cell BK101.out 0).trans rfl;have hcz15_1:w10.cell? ⟨gb101,1,none⟩=some (.int .i64 a0_1):=(blk_cell BK101.out 1).trans rfl;have hcz15_2:w10.cell? ⟨gb101,2,none⟩=some (.bool a0_2):=(blk_cell BK101.out 2).trans rfl;have hfz15_0:=blk_frozen BK101.out 0;have hfz15_1:=blk_frozen BK101.out 1;have hfz15_2:=blk_frozen BK101.out 2;have hcz16_0:w10.cell? ⟨gb102,0,none⟩=some (.int .i64 a1_0):=(blk_cell BK102.out 0).trans rfl;have hcz16_1:w10.cell? ⟨gb102,1,none⟩=some (.int .i64 a1_1):=(blk_cell BK102.out 1).trans rfl;have hcz16_2:w10.cell? ⟨gb102,2,none⟩=some (.bool a1_2):=(blk_cell BK102.out 2).trans rfl;have hfz16_0:=blk_frozen BK102.out 0;have hfz16_1:=blk_frozen BK102.out 1;have hfz16_2:=blk_frozen BK102.out 2
   go_wp2
   go_meet
   case rel=>exact ⟨_,((a0_2 == a1_2)),zq2,H',⟨by first|omega|exact Nat.le_refl _⟩,⟨by (with_reducible repeat (first|refine blk_drewN ?_ _|refine blk_drew ?_|refine blk_alloc ?_ _));exact BK101.out⟩,⟨by (with_reducible repeat (first|refine blk_drewN ?_ _|refine blk_drew ?_|refine blk_alloc ?_ _));exact BK102.out⟩,⟨by repeat (first|(with_reducible first|exact HB.out|apply belowD_alloc|apply belowD_drewN|apply belowD_drew1|refine belowD_set ?_ GE101.out|refine belowD_set ?_ GE102.out)|exact HB.out)⟩⟩
  ·rw [if_neg c13] at H;have c13b0:=beq_eq_false_iff_ne.mpr c13;have c13b1:=bne_iff_ne.mpr c13;(first|rw [c13b0]|(simp only [i64_w,i32_w];rw [c13b0])|skip);have H':=am H;clear H
   go_wp2
   go_meet
   case rel=>exact ⟨_,(true),zq2,H',⟨by first|omega|exact Nat.le_refl _⟩,⟨by (with_reducible repeat (first|refine blk_drewN ?_ _|refine blk_drew ?_|refine blk_alloc ?_ _));exact BK101.out⟩,⟨by (with_reducible repeat (first|refine blk_drewN ?_ _|refine blk_drew ?_|refine blk_alloc ?_ _));exact BK102.out⟩,⟨by repeat (first|(with_reducible first|exact HB.out|apply belowD_alloc|apply belowD_drewN|apply belowD_drew1|refine belowD_set ?_ GE101.out|refine belowD_set ?_ GE102.out)|exact HB.out)⟩⟩
 case rest =>
  clear HC6;(try clear c1);(try clear p2);(try clear c3);(try clear c5);(try clear c13);(try clear c13b0);(try clear c13b1);(try clear c14);(try clear hcz15_0);(try clear hcz15_1);(try clear hcz15_2);(try clear hcz16_0);(try clear hcz16_1);(try clear hcz16_2);(try clear hfz15_0);(try clear hfz15_1);(try clear hfz15_2);(try clear hfz16_0);(try clear hfz16_1);(try clear hfz16_2);obtain ⟨kq,x26_5,rfl,HA,HJ5,BK101,BK102,HB⟩:=hcut
  cases kq with
  | zero=>exact absurd HA.out (by simp [impl_compareEntries.j0])
  | succ kj5 =>
   have H:=HA.out;clear HA;simp only [impl_compareEntries.j0] at H
   by_cases c17:x26_5=true
   ·subst c17
    have H1:(some t108)=some r:=by rw [if_pos rfl] at H;exact H
    clear H;have H:=H1;clear H1;obtain rfl:=Option.some.inj H
    go_wp2
    go_ret
    exact ⟨by first|rfl|(simp [errW_none,errW_some,IntKind.wrap_i64,wrap64];done)|(simp [errW_none,errW_some] <;> rfl)|(simp [*,errW_none,errW_some] <;> rfl),by repeat (first|(with_reducible first|exact HB.out|apply belowD_alloc|apply belowD_drewN|apply belowD_drew1|refine belowD_set ?_ GE101.out|refine belowD_set ?_ GE102.out)|exact HB.out)⟩
   ·replace c17:=Bool.eq_false_iff.mpr c17;subst c17
    have H1:(if a1_2=true then (some (-1)) else (some 1))=some r:=by rw [if_neg (show ¬ (false=true) by decide)] at H;exact H
    clear H;have H:=H1;clear H1
    by_cases c18:a1_2=true
    ·subst c18
     have H1:(some (-1))=some r:=by rw [if_pos rfl] at H;exact H
     clear H;have H:=H1;clear H1;obtain rfl:=Option.some.inj H;have hnb19:=NB102_101.out;have hnc19:=NB101_102.out;have hcz20_0:wc.cell? ⟨gb102,0,none⟩=some (.int .i64 a1_0):=(blk_cell BK102.out 0).trans rfl;have hcz20_1:wc.cell? ⟨gb102,1,none⟩=some (.int .i64 a1_1):=(blk_cell BK102.out 1).trans rfl;have hcz20_2:wc.cell? ⟨gb102,2,none⟩=some (.bool true):=(blk_cell BK102.out 2).trans rfl;have hfz20_0:=blk_frozen BK102.out 0;have hfz20_1:=blk_frozen BK102.out 1;have hfz20_2:=blk_frozen BK102.out 2
     go_wp2
     go_ret
     exact ⟨by first|rfl|(simp [errW_none,errW_some,IntKind.wrap_i64,wrap64];done)|(simp [errW_none,errW_some] <;> rfl)|(simp [*,errW_none,errW_some] <;> rfl),by repeat (first|(with_reducible first|exact HB.out|apply belowD_alloc|apply belowD_drewN|apply belowD_drew1|refine belowD_set ?_ GE101.out|refine belowD_set ?_ GE102.out)|exact HB.out)⟩
    ·replace c18:=Bool.eq_false_iff.mpr c18;subst c18
     have H1:(some 1)=some r:=by rw [if_neg (show ¬ (false=true) by decide)] at H;exact H
     clear H;have H:=H1;clear H1;obtain rfl:=Option.some.inj H;have hnb21:=NB102_101.out;have hnc21:=NB101_102.out;have hcz22_0:wc.cell? ⟨gb102,0,none⟩=some (.int .i64 a1_0):=(blk_cell BK102.out 0).trans rfl;have hcz22_1:wc.cell? ⟨gb102,1,none⟩=some (.int .i64 a1_1):=(blk_cell BK102.out 1).trans rfl;have hcz22_2:wc.cell? ⟨gb102,2,none⟩=some (.bool false):=(blk_cell BK102.out 2).trans rfl;have hfz22_0:=blk_frozen BK102.out 0;have hfz22_1:=blk_frozen BK102.out 1;have hfz22_2:=blk_frozen BK102.out 2
     go_wp2
     go_ret
     exact ⟨by first|rfl|(simp [errW_none,errW_some,IntKind.wrap_i64,wrap64];done)|(simp [errW_none,errW_some] <;> rfl)|(simp [*,errW_none,errW_some] <;> rfl),by repeat (first|(with_reducible first|exact HB.out|apply belowD_alloc|apply belowD_drewN|apply belowD_drew1|refine belowD_set ?_ GE101.out|refine belowD_set ?_ GE102.out)|exact HB.out)⟩
end Go.Proofs.Ytcoepebmmgcplac.G
end
section
namespace Go.Proofs
open Go.Shelf
def Try.lays125_ren:Go.Shelf.Ren:=⟨fun|125=>57|128=>79|129=>80|n=>n,fun|46=>82|3=>3|51=>104|53=>74|4=>4|5=>5|9=>9|n=>n,fun|n=>n⟩
theorem Try.lays125:Go.Proofs.Lays.n125 Try.prog Try.lays125_ren:={
 mixed:=by kernel_rfl
 f125:=Try.func57.trans (congrArg some (by kernel_rfl))
 f128:=Try.func79.trans (congrArg some (by kernel_rfl))
 f129:=Try.func80.trans (congrArg some (by kernel_rfl))
 t3:=Try.underlying3
 a3:=Try.isAgg3
 z3:=Try.sizeOf3
 v3:=Try.zeroValue3
 t4:=Try.underlying4
 a4:=Try.isAgg4
 z4:=Try.sizeOf4
 v4:=Try.zeroValue4
 t5:=Try.underlying5
 a5:=Try.isAgg5
 z5:=Try.sizeOf5
 v5:=Try.zeroValue5
 t9:=Try.underlying9
 a9:=Try.isAgg9
 z9:=Try.sizeOf9
 v9:=Try.zeroValue9
 t46:=Try.underlying82
 a46:=Try.isAgg82
 z46:=Try.sizeOf82
 v46:=Try.zeroValue82
 t51:=Try.underlying104
 a51:=Try.isAgg104
 z51:=Try.sizeOf104
 v51:=Try.zeroValue104
 t53:=Try.underlying74
 a53:=Try.isAgg74
 z53:=Try.sizeOf74
 v53:=Try.zeroValue74 }
theorem Try.bits_Len (x:Int) (w:World) (h0:0≤x) (h1:x≤18446744073709551615) :
  Calls Try.prog 57 #[.int .u64 x] w fun e w'=>e=.returned (.int .i64 (Lib.bitLen x.toNat))∧w'=w:=Any.bits_Len Try.lays125 x w h0 h1
def Try.laysSort_ren:Go.Shelf.Ren:=⟨fun|14=>56|20=>71|21=>72|22=>73|23=>74|24=>75|25=>76|26=>77|27=>78|46=>86|47=>87|48=>88|49=>89|50=>90|15=>57|57=>91|28=>79|29=>80|n=>n,fun|24=>35|22=>24|3=>3|25=>57|4=>4|0=>0|46=>97|45=>96|50=>101|66=>109|39=>82|55=>74|70=>113|76=>115|77=>116|53=>104|5=>5|9=>9|n=>n,fun|n=>n⟩
theorem Try.laysSort:Go.Proofs.SlLaysF0.n14 Try.prog Try.laysSort_ren:={
 mixed:=by kernel_rfl
 f14:=⟨Try.f56.name,by decide,Try.func56.trans (congrArg some (by kernel_rfl))⟩
 f15:=Try.func57.trans (congrArg some (by kernel_rfl))
 f20:=⟨Try.f71.name,by decide,Try.func71.trans (congrArg some (by kernel_rfl))⟩
 f21:=⟨Try.f72.name,by decide,Try.func72.trans (congrArg some (by kernel_rfl))⟩
 f22:=⟨Try.f73.name,by decide,Try.func73.trans (congrArg some (by kernel_rfl))⟩
 f23:=⟨Try.f74.name,by decide,Try.func74.trans (congrArg some (by kernel_rfl))⟩
 f24:=⟨Try.f75.name,by decide,Try.func75.trans (congrArg some (by kernel_rfl))⟩
 f25:=⟨Try.f76.name,by decide,Try.func76.trans (congrArg some (by kernel_rfl))⟩
 f26:=⟨Try.f77.name,by decide,Try.func77.trans (congrArg some (by kernel_rfl))⟩
 f27:=⟨Try.f78.name,by decide,Try.func78.trans (congrArg some (by kernel_rfl))⟩
 f28:=Try.func79.trans (congrArg some (by kernel_rfl))
 f29:=Try.func80.trans (congrArg some (by kernel_rfl))
 f46:=⟨Try.f86.name,by decide,Try.func86.trans (congrArg some (by kernel_rfl))⟩
 f47:=Try.func87.trans (congrArg some (by kernel_rfl))
 f48:=Try.func88.trans (congrArg some (by kernel_rfl))
 f49:=⟨Try.f89.name,by decide,Try.func89.trans (congrArg some (by kernel_rfl))⟩
 f50:=⟨Try.f90.name,by decide,Try.func90.trans (congrArg some (by kernel_rfl))⟩
 f57:=⟨Try.f91.name,by decide,Try.func91.trans (congrArg some (by kernel_rfl))⟩
 t0:=Try.underlying0
 a0:=Try.isAgg0
 z0:=Try.sizeOf0
 v0:=Try.zeroValue0
 t3:=Try.underlying3
 a3:=Try.isAgg3
 z3:=Try.sizeOf3
 v3:=Try.zeroValue3
 t4:=Try.underlying4
 a4:=Try.isAgg4
 z4:=Try.sizeOf4
 v4:=Try.zeroValue4
 t5:=Try.underlying5
 a5:=Try.isAgg5
 z5:=Try.sizeOf5
 v5:=Try.zeroValue5
 t9:=Try.underlying9
 a9:=Try.isAgg9
 z9:=Try.sizeOf9
 v9:=Try.zeroValue9
 t22:=Try.underlying24
 a22:=Try.isAgg24
 z22:=Try.sizeOf24
 v22:=Try.zeroValue24
 t25:=Try.underlying57
 a25:=Try.isAgg57
 z25:=Try.sizeOf57
 v25:=Try.zeroValue57
 t39:=Try.underlying82
 a39:=Try.isAgg82
 z39:=Try.sizeOf82
 v39:=Try.zeroValue82
 t45:=Try.underlying96
 a45:=Try.isAgg96
 z45:=Try.sizeOf96
 v45:=Try.zeroValue96
 t46:=Try.underlying97
 a46:=Try.isAgg97
 z46:=Try.sizeOf97
 v46:=Try.zeroValue97
 t50:=Try.underlying101
 a50:=Try.isAgg101
 z50:=Try.sizeOf101
 v50:=Try.zeroValue101
 t53:=Try.underlying104
 a53:=Try.isAgg104
 z53:=Try.sizeOf104
 v53:=Try.zeroValue104
 t55:=Try.underlying74
 a55:=Try.isAgg74
 z55:=Try.sizeOf74
 v55:=Try.zeroValue74
 t66:=Try.underlying109
 a66:=Try.isAgg109
 z66:=Try.sizeOf109
 v66:=Try.zeroValue109
 t70:=Try.underlying113
 a70:=Try.isAgg113
 z70:=Try.sizeOf113
 v70:=Try.zeroValue113
 t76:=Try.underlying115
 a76:=Try.isAgg115
 z76:=Try.sizeOf115
 v76:=Try.zeroValue115
 t77:=Try.underlying116
 a77:=Try.isAgg116
 z77:=Try.sizeOf116
 v77:=Try.zeroValue116 }
end Go.Proofs
end
section
namespace Go.Proofs.Ytcoepebmmgcplac.G
open Go.RowKit Go.Proofs.YtcoepebmmgcplacW.PrintWords Go.Proofs.YtcoepebmmgcplacW.PrintLast Go.Proofs.YtcoepebmmgcplacW.PrintMore
attribute [local go_sem] max2_int min2_int max_two min_two max_three min_three max_four min_four
set_option linter.unusedVariables false
set_option linter.unusedSimpArgs false
instance slices_SortFunc_Log_Entry__impl_compareEntries.inh:Inhabited S35:=⟨z35⟩
def slices_SortFunc_Log_Entry__impl_compareEntries.enc (x:S35):List Value:=[.int .i64 x.f0,.int .i64 x.f1,.bool x.f2]
def slices_SortFunc_Log_Entry__impl_compareEntries.lt (x y:S35):Bool:=decide (x.f0 < y.f0∨(x.f0=y.f0∧(x.f1 < y.f1∨(x.f1=y.f1∧(x.f2=false∧y.f2=true)))))
def slices_SortFunc_Log_Entry__impl_compareEntries.cmp (x y:S35):Int:=if slices_SortFunc_Log_Entry__impl_compareEntries.lt x y=true then -1 else if slices_SortFunc_Log_Entry__impl_compareEntries.lt y x=true then 1 else 0
theorem slices_SortFunc_Log_Entry__impl_compareEntries.ltOf (x y:S35):Go.Proofs.ltOf slices_SortFunc_Log_Entry__impl_compareEntries.cmp x y=slices_SortFunc_Log_Entry__impl_compareEntries.lt x y:=by
 unfold Go.Proofs.ltOf slices_SortFunc_Log_Entry__impl_compareEntries.cmp
 cases slices_SortFunc_Log_Entry__impl_compareEntries.lt x y with
 | true=>simp
 | false =>
  cases slices_SortFunc_Log_Entry__impl_compareEntries.lt y x <;> simp
theorem slices_SortFunc_Log_Entry__impl_compareEntries.swo:Go.Sort.SWO (Go.Proofs.ltOf slices_SortFunc_Log_Entry__impl_compareEntries.cmp) where
 irrefl x:=by rw [slices_SortFunc_Log_Entry__impl_compareEntries.ltOf];unfold slices_SortFunc_Log_Entry__impl_compareEntries.lt;simp
 trans x y z h1 h2:=by
  rw [slices_SortFunc_Log_Entry__impl_compareEntries.ltOf] at *
  unfold slices_SortFunc_Log_Entry__impl_compareEntries.lt at *
  obtain ⟨a0,a1,a2⟩:=x;obtain ⟨b0,b1,b2⟩:=y;obtain ⟨c0,c1,c2⟩:=z;simp only [decide_eq_true_eq] at *
  cases a2 <;> cases b2 <;> cases c2 <;> simp at * <;> omega
 ntrans x y z h1 h2:=by
  rw [slices_SortFunc_Log_Entry__impl_compareEntries.ltOf] at *
  unfold slices_SortFunc_Log_Entry__impl_compareEntries.lt at *
  obtain ⟨a0,a1,a2⟩:=x;obtain ⟨b0,b1,b2⟩:=y;obtain ⟨c0,c1,c2⟩:=z;simp only [decide_eq_false_iff_not] at *
  cases a2 <;> cases b2 <;> cases c2 <;> simp at * <;> omega
theorem slices_SortFunc_Log_Entry__impl_compareEntries.total (x y:S35) (h1:Go.Proofs.ltOf slices_SortFunc_Log_Entry__impl_compareEntries.cmp x y=false) (h2:Go.Proofs.ltOf slices_SortFunc_Log_Entry__impl_compareEntries.cmp y x=false):x=y:=by
 rw [slices_SortFunc_Log_Entry__impl_compareEntries.ltOf] at *
 unfold slices_SortFunc_Log_Entry__impl_compareEntries.lt at *
 obtain ⟨a0,a1,a2⟩:=x;obtain ⟨b0,b1,b2⟩:=y;simp only [decide_eq_false_iff_not] at *
 have:a0=b0∧a1=b1:=by constructor <;> omega
 obtain ⟨rfl,rfl⟩:=this
 cases a2 <;> cases b2 <;> simp at * <;> rfl
theorem slices_SortFunc_Log_Entry__impl_compareEntries.says (x y:S35):impl_compareEntries.f 10 x.f0 x.f1 x.f2 y.f0 y.f1 y.f2=some (slices_SortFunc_Log_Entry__impl_compareEntries.cmp x y):=by
 have hn:∀ a:Int,cmp_isNaN_int64.f a=some false:=fun a=>by simp [cmp_isNaN_int64.f]
 have hc:∀ a b:Int,cmp_Compare_int64.f a b=some (if a < b then -1 else if a > b then 1 else 0):=fun a b=>by
  unfold cmp_Compare_int64.f
  rw [hn,hn];simp only [Option.bind_some];rw [if_neg (by simp),if_neg (by simp)]
  split
  ·rfl
  ·split <;> rfl
 have ho:∀ a b:Int,cmp_Or_int.f 10 [a,b]=some (if a=0 then b else a):=fun a b=>by
  unfold cmp_Or_int.f
  simp only [cmp_Or_int.l0,List.length_cons,List.length_nil,rd,wrap64]
  by_cases h:a=0
  ·subst h
   by_cases h2:b=0
   ·subst h2
    decide
   ·simp [h2]
  ·simp [h]
 obtain ⟨a0,a1,a2⟩:=x;obtain ⟨b0,b1,b2⟩:=y
 unfold impl_compareEntries.f slices_SortFunc_Log_Entry__impl_compareEntries.cmp slices_SortFunc_Log_Entry__impl_compareEntries.lt
 simp only [hc,ho,Option.bind_some]
 rcases Int.lt_trichotomy a0 b0 with h|h|h
 ·simp [h,impl_compareEntries.j0]
 ·subst h
  rcases Int.lt_trichotomy a1 b1 with h|h|h
  ·simp [h,impl_compareEntries.j0]
  ·subst h
   cases a2 <;> cases b2 <;> simp [impl_compareEntries.j0]
  ·have h1:¬ a1 < b1:=by omega
   have h2:¬ a1=b1:=by omega
   simp [h,h1,h2,impl_compareEntries.j0]
 ·have h1:¬ a0 < b0:=by omega
  have h2:¬ a0=b0:=by omega
  simp [h,h1,h2,impl_compareEntries.j0]
theorem slices_SortFunc_Log_Entry__impl_compareEntries.lays (blk off size:Nat) (w:World):Go.Proofs.CmpLays Try.prog 31 #[] slices_SortFunc_Log_Entry__impl_compareEntries.enc 3 slices_SortFunc_Log_Entry__impl_compareEntries.cmp blk off size w:=fun m os dk hdk x y=>by
 rw [show (#[.agg (slices_SortFunc_Log_Entry__impl_compareEntries.enc x).toArray,.agg (slices_SortFunc_Log_Entry__impl_compareEntries.enc y).toArray] ++ #[]:Array Value)=#[.agg #[.int .i64 x.f0,.int .i64 x.f1,.bool x.f2],.agg #[.int .i64 y.f0,.int .i64 y.f1,.bool y.f2]] from rfl]
 exact (impl_compareEntries.callsD 10 x.f0 x.f1 x.f2 y.f0 y.f1 y.f2 (slices_SortFunc_Log_Entry__impl_compareEntries.cmp x y) _ (slices_SortFunc_Log_Entry__impl_compareEntries.says x y)).mono fun e w' ⟨he,hb⟩=>⟨he,belowD_grow hb⟩
def slices_SortFunc_Log_Entry__impl_compareEntries.sorted (l:List S35):List S35:=l.mergeSort fun x y=>!(Go.Proofs.ltOf slices_SortFunc_Log_Entry__impl_compareEntries.cmp) y x
set_option maxHeartbeats 4000000 in
set_option maxRecDepth 100000 in
theorem slices_SortFunc_Log_Entry__impl_compareEntries.some_ (blk cap:Nat) (d:Array S35) (w:World) (hH:Go.Sort.HoldsK slices_SortFunc_Log_Entry__impl_compareEntries.enc 3 w blk 0 d) (hblk:blk < w.heap.size) (hsz:d.size < 4611686018427387904) :
  Calls Try.prog 30 #[.slice (some ⟨blk,0,none⟩) d.size cap,.func (.func 31) #[] #[]] w fun e w'=>e=.returned (.tuple #[])∧∃ n os,w'=Go.Proofs.sortWorldK slices_SortFunc_Log_Entry__impl_compareEntries.enc 3 w blk 0 n (slices_SortFunc_Log_Entry__impl_compareEntries.sorted d.toList).toArray os:=by
 have eg:∀ args w,(callFunc 31 args).run Try.prog w=.ok (.enter 31 args) w:=enters_of Try.func31 zq19 rfl
 have hk:∀ x,(slices_SortFunc_Log_Entry__impl_compareEntries.enc x).length=3:=fun _=>rfl
 have h1:∀ x,∀ v∈slices_SortFunc_Log_Entry__impl_compareEntries.enc x,v.oneCell'=true:=fun x v hv=>by simp [slices_SortFunc_Log_Entry__impl_compareEntries.enc] at hv;rcases hv with rfl|rfl|rfl <;> rfl
 have hlim:Lib.bitLen d.size < 4611686018427387904:=Nat.lt_of_le_of_lt (Lib.bitLen_le d.size 62 (by omega) (by omega)) (by omega);have hp:=AnyQ.pdqsortCmpFunc_all Try.laysSort 3 Try.isAgg35 Try.sizeOf35 slices_SortFunc_Log_Entry__impl_compareEntries.enc slices_SortFunc_Log_Entry__impl_compareEntries.cmp 31 #[] slices_SortFunc_Log_Entry__impl_compareEntries.swo blk 0 cap d w eg (slices_SortFunc_Log_Entry__impl_compareEntries.lays blk 0 d.size w) ⟨hk,h1,hH,hblk⟩ (d.size + 1) 0 d.size (Lib.bitLen d.size) d w (by omega) rfl (SWK.start hH) (Nat.zero_le _) (Nat.le_refl _) hsz hlim (Or.inl rfl)
 have hl:Calls Try.prog 57 #[.int .u64 (d.size:Int)] w fun e w'=>e=.returned (.int .i64 (Lib.bitLen d.size:Nat))∧w'=w:=by
  have h:=Try.bits_Len (d.size:Int) w (by omega) (by omega)
  rwa [Int.toNat_natCast] at h
 have wr:IntKind.u64.wrap (d.size:Int)=d.size:=by simp [IntKind.wrap,IntKind.bits,IntKind.signed];omega
 have hs:=Go.Sort.pdq_sorts (Go.Proofs.ltOf slices_SortFunc_Log_Entry__impl_compareEntries.cmp) slices_SortFunc_Log_Entry__impl_compareEntries.swo d 0 d.size (Lib.bitLen d.size) true true (Nat.zero_le _) (Nat.le_refl _) (Or.inl rfl);have hu:=Go.Sort.sorted_unique_holds slices_SortFunc_Log_Entry__impl_compareEntries.swo slices_SortFunc_Log_Entry__impl_compareEntries.total d _ hs.1 hs.2
 change Calls Try.prog 56 _ _ _ at hp
 clear hH h1 hk;have HU:=am hu;clear hu hs
 go_enter Try.func30,Try.ntmps30
 go_wp2_with (first|(go_at_call 57;refine hl.mono ?_;rintro e w' ⟨rfl,rfl⟩)|(go_at_call 56;refine hp.mono ?_;rintro e w' ⟨rfl,n,os,rfl⟩))
 go_end0
 exact ⟨rfl,n,os,by unfold slices_SortFunc_Log_Entry__impl_compareEntries.sorted;rw [← HU.out]⟩
set_option maxHeartbeats 4000000 in
set_option maxRecDepth 100000 in
theorem slices_SortFunc_Log_Entry__impl_compareEntries.none_ (p:Option Addr) (cap:Nat) (w:World):Calls Try.prog 30 #[.slice p 0 cap,.func (.func 31) #[] #[]] w fun e w'=>e=.returned (.tuple #[])∧w'=w:=by
 have hp:=fun lim W=>AnyF.pdqsortCmpFunc_none Try.laysSort p cap lim (.func (.func 31) #[] #[]) W
 have hl:=fun W=>Try.bits_Len 0 W (by omega) (by omega)
 have hp':∀ (lim:Int) W,Calls Try.prog 56 #[.slice p 0 cap,.int .i64 0,.int .i64 0,.int .i64 lim,.func (.func 31) #[] #[]] W fun e w'=>e=.returned (.tuple #[])∧w'=W:=hp
 clear hp
 go_enter Try.func30,Try.ntmps30
 go_wp2_with (first|(go_at_call 57;refine (hl _).mono ?_;rintro e w' ⟨rfl,rfl⟩)|(go_at_call 56;refine (hp' _ _).mono ?_;rintro e w' ⟨rfl,rfl⟩))
 go_end0
 exact ⟨rfl,rfl⟩
theorem slices_SortFunc_Log_Entry__impl_compareEntries.cellAt {R:S35→List Value→Prop} (hR:∀ p c,R p c→c=slices_SortFunc_Log_Entry__impl_compareEntries.enc p) {ps:List S35} {cs:List Value} (h:Reps R 3 ps cs) (t:Nat) (ht:t < ps.length * 3):cs[t]?=some ((slices_SortFunc_Log_Entry__impl_compareEntries.enc (ps.toArray[t / 3]!))[t % 3]!):=by
 have hj:t / 3 < ps.length:=by omega
 have h1:=congrArg (fun l:List Value=>l[t % 3]?) (hR _ _ (h.2 (t / 3) ps[t / 3] (List.getElem?_eq_getElem hj)));rw [List.getElem?_take_of_lt (by omega),List.getElem?_drop,show t / 3 * 3 + t % 3=t by omega] at h1;rw [h1,show ps.toArray[t / 3]! = ps[t / 3] by simp [hj]];generalize ps[t / 3]=x
 rcases (by omega:t % 3=0∨t % 3=1∨t % 3=2) with e|e|e <;> rw [e] <;> rfl
theorem slices_SortFunc_Log_Entry__impl_compareEntries.put {R:S35→List Value→Prop} (hR:∀ p,R p (slices_SortFunc_Log_Entry__impl_compareEntries.enc p)) {ps:List S35} {cur:Array Value} (hc:ps.length * 3≤cur.size):Reps R 3 ps ((Go.Sort.putCells id 0 (Go.Sort.flatK slices_SortFunc_Log_Entry__impl_compareEntries.enc 3 ps.toArray) cur).toList.take (ps.length * 3)):=by
 have hsz:(Go.Sort.putCells id 0 (Go.Sort.flatK slices_SortFunc_Log_Entry__impl_compareEntries.enc 3 ps.toArray) cur).size=cur.size:=by simp [Go.Sort.putCells]
 have hsl:(Go.Sort.putCells id 0 (Go.Sort.flatK slices_SortFunc_Log_Entry__impl_compareEntries.enc 3 ps.toArray) cur).toList.length=cur.size:=by rw [Array.length_toList,hsz]
 refine ⟨by rw [List.length_take,hsl];omega,fun j p hj=>?_⟩;have hjl:j < ps.length:=(List.getElem?_eq_some_iff.1 hj).1
 have e:(((Go.Sort.putCells id 0 (Go.Sort.flatK slices_SortFunc_Log_Entry__impl_compareEntries.enc 3 ps.toArray) cur).toList.take (ps.length * 3)).drop (j * 3)).take 3=slices_SortFunc_Log_Entry__impl_compareEntries.enc p:=by
  apply List.ext_getElem?
  intro i
  by_cases hi:i < 3
  ·have h1:j * 3 + i < (Go.Sort.putCells id 0 (Go.Sort.flatK slices_SortFunc_Log_Entry__impl_compareEntries.enc 3 ps.toArray) cur).size:=by rw [hsz];omega
   rw [List.getElem?_take_of_lt hi,List.getElem?_drop,List.getElem?_take_of_lt (by omega),Array.getElem?_toList,Array.getElem?_eq_getElem h1]
   have h2:(Go.Sort.putCells id 0 (Go.Sort.flatK slices_SortFunc_Log_Entry__impl_compareEntries.enc 3 ps.toArray) cur)[j * 3 + i]=(Go.Sort.flatK slices_SortFunc_Log_Entry__impl_compareEntries.enc 3 ps.toArray)[j * 3 + i]!:=by
    simp only [Go.Sort.putCells,Array.getElem_mapIdx];rw [if_pos ⟨Nat.zero_le _,by rw [Go.Sort.size_flatK];simp;omega⟩];rfl
   rw [h2,Go.Sort.get_flatK _ _ _ _ (by simp;omega),show (j * 3 + i) / 3=j by omega,show (j * 3 + i) % 3=i by omega]
   have hp:ps.toArray[j]! = p:=by
    rw [List.getElem?_eq_getElem hjl] at hj
    simp [hjl,Option.some.inj hj]
   rw [hp]
   rcases (by omega:i=0∨i=1∨i=2) with e|e|e <;> subst e <;> rfl
  ·rw [List.getElem?_eq_none (by simp;omega),List.getElem?_eq_none (by show 3≤i;omega)]
 rw [e];exact hR p
def slices_SortFunc_Log_Entry__impl_compareEntries.f (l0:List S35):Option (List S35):=if l0.length < 4611686018427387904 then some (slices_SortFunc_Log_Entry__impl_compareEntries.sorted l0) else none
theorem slices_SortFunc_Log_Entry__impl_compareEntries.calls (P0_:Nat→Prop) (u9000_:Value) (l0:List S35) (r:List S35) (w0 w:World) (hB:Below w0.heap.size w0 w) (ho0:Kd.R k35 35 w w0.heap.size P0_ u9000_ l0) (h:slices_SortFunc_Log_Entry__impl_compareEntries.f l0=some r) :
  Calls Try.prog 30 #[u9000_,.func (.func 31) #[] #[]] w fun e w'=>e=.returned (.tuple #[])∧Kd.R k35 35 w' w0.heap.size (fun k_=>(P0_ k_∨w.heap.size≤k_)) u9000_ r∧Below w0.heap.size w0 w'∧Kept w w' (fun k_=>P0_ k_):=by
 unfold slices_SortFunc_Log_Entry__impl_compareEntries.f at h
 split at h
 ·rename_i hsz
  obtain rfl:=Option.some.inj h;clear h;have hRR:=ho0;obtain ⟨hok,inner,hown,hr⟩:=ho0
  have hlen:(slices_SortFunc_Log_Entry__impl_compareEntries.sorted l0).length=l0.length:=by unfold slices_SortFunc_Log_Entry__impl_compareEntries.sorted;exact List.length_mergeSort _
  rcases hown.2 with ⟨rfl,hn⟩|⟨g,cap,cur,rfl,hb,hh,hle,hcm,hcs,htake⟩
  ·obtain rfl:l0=[]:=List.eq_nil_of_length_eq_zero hn;refine (slices_SortFunc_Log_Entry__impl_compareEntries.none_ none 0 w).mono ?_
   rintro e w' ⟨rfl,rfl⟩
   rw [show slices_SortFunc_Log_Entry__impl_compareEntries.sorted []=[] by simp [slices_SortFunc_Log_Entry__impl_compareEntries.sorted]];exact ⟨rfl,Kd.R_mono hRR (fun _ hk=>.inl hk),hB,Kept.refl _ _⟩
  ·have hg:g < w.heap.size:=blk_lt hh;rw [show k35.sz=3 from rfl] at htake hcs
   have hcur:l0.length * 3≤cur.size:=by rw [hcs];exact Nat.mul_le_mul_right 3 hle
   have hH:Go.Sort.HoldsK slices_SortFunc_Log_Entry__impl_compareEntries.enc 3 w g 0 l0.toArray:=fun j hj=>by
    rw [Go.Sort.size_flatK] at hj;simp only [List.size_toArray] at hj;refine ⟨?_,by rw [Nat.zero_add];exact blk_frozen hh j⟩;have h1:=slices_SortFunc_Log_Entry__impl_compareEntries.cellAt (fun p c hM=>k35_openM hM) hr j hj;rw [← htake,List.getElem?_take_of_lt hj,Array.getElem?_toList] at h1;rw [Nat.zero_add,(blk_cell hh j).trans h1,Go.Sort.get_flatK _ _ _ _ (by simpa using hj)];rfl
   have hc:=slices_SortFunc_Log_Entry__impl_compareEntries.some_ g cap l0.toArray w hH hg (by simpa using hsz);simp only [List.size_toArray] at hc;refine hc.mono ?_
   rintro e w' ⟨rfl,n,os,hw⟩
   have hblk:w'.heap[g]?=some (.cells (Go.Sort.putCells id 0 (Go.Sort.flatK slices_SortFunc_Log_Entry__impl_compareEntries.enc 3 (slices_SortFunc_Log_Entry__impl_compareEntries.sorted l0).toArray) cur) 35 (0,0)):=by
    rw [hw]
    unfold Go.Proofs.sortWorldK Go.Sort.putRowK Go.Sort.putRow
    rw [Go.Sort.heap_grow_old _ _ (by simpa [Go.Sort.mapBlock] using hg)];simp only [Go.Sort.mapBlock,Go.Sort.heap_ahead,Array.getElem?_modify,if_true,hh,Option.map_some];rfl
   have hoth:∀ k,k < w.heap.size→k≠g→w'.heap[k]?=w.heap[k]?:=fun k hk hkg=>by
    rw [hw]
    unfold Go.Proofs.sortWorldK Go.Sort.putRowK Go.Sort.putRow
    rw [Go.Sort.heap_grow_old _ _ (by simpa [Go.Sort.mapBlock] using hk)];simp only [Go.Sort.mapBlock,Go.Sort.heap_ahead,Array.getElem?_modify];rw [if_neg (fun e=>hkg e.symm)]
   have hsize:w.heap.size≤w'.heap.size:=by
    rw [hw]
    unfold Go.Proofs.sortWorldK Go.Sort.putRowK
    simp [Go.Sort.size_grow]
   have hbel:Below w0.heap.size w w':=⟨by rw [hw];rfl,by rw [hw];rfl,by rw [hw];rfl,hsize,fun k hk=>hoth k (Nat.lt_of_lt_of_le hk hB.size) (by omega)⟩;refine ⟨rfl,⟨fun k hk=>.inl (hok k hk),_,⟨?_,.inr ⟨g,cap,_,?_,hb,hblk,?_,hcm,?_,rfl⟩⟩,?_⟩,hB.trans hbel,⟨hsize,fun k hk hP=>hoth k hk (fun e=>hP (e ▸ hok g rfl))⟩⟩
   ·have hsl:(Go.Sort.putCells id 0 (Go.Sort.flatK slices_SortFunc_Log_Entry__impl_compareEntries.enc 3 (slices_SortFunc_Log_Entry__impl_compareEntries.sorted l0).toArray) cur).toList.length=cur.size:=by rw [Array.length_toList];simp [Go.Sort.putCells]
    rw [hlen,List.length_take,hsl,show k35.sz=3 from rfl]
    omega
   ·rw [hlen]
   ·rw [hlen];exact hle
   ·simp [Go.Sort.putCells,hcs]
    rfl
   ·exact slices_SortFunc_Log_Entry__impl_compareEntries.put (fun p=>k35_mkM _ _ _ p) (by rw [hlen];exact hcur)
 ·cases h
def impl_AgreedLog.f (k:Nat) (l0:List (List (S35))) (a1:Int):Option ((List (S35)) × Int):=(impl_allCode.f l0).bind fun t103=>((impl_size_Log.f l0).bind fun t104=>((impl_within.f a1 1 t104).bind fun t105=>((impl_unless.f t105 2).bind fun t106=>((impl_firstOf.f k (([t103,t106]:List Int))).bind fun t110=>(if t110=0 then ((slices_Concat_Log_Entry.f l0).bind fun t111=>((slices_SortFunc_Log_Entry__impl_compareEntries.f t111).bind fun t114=>((slices_Compact_Log_Entry.f t114).bind fun t115=>((slices_DeleteFunc_Log_Entry__impl_AgreedLog_1.f k t115 l0 a1).bind fun t118=>(if (t118.length:Int) > 60 then (some (([]:List (S35)),3)) else ((impl_ValidLog.f t118).bind fun t121=>(if t121=true then (some (t118,0)) else (some (([]:List (S35)),4))))))))) else (some (([]:List (S35)),t110)))))))
def impl_AgreedLog.T1:Bool × List (List Nat × List Nat):=(true,[([],[]),([0],[0]),([],[]),([],[]),([3,1],[3]),([2,4,4],[2,4]),([5,5],[5]),([1,6],[1,6]),([7,6],[7]),([8,8,0,1,2,3,4,5,6,7,8],[8])])
def impl_AgreedLog.B1:List Nat:=[0,1,0,0,11,31,63,127,255,511]
theorem impl_AgreedLog.tab1:rtab .any (opsOf Try.f8 1)=impl_AgreedLog.T1:=by kernel_rfl
theorem impl_AgreedLog.bits1:waitsOk impl_AgreedLog.T1.2 impl_AgreedLog.B1=true:=by kernel_rfl
set_option maxHeartbeats 8000000 in
set_option maxRecDepth 100000 in
theorem impl_AgreedLog.calls (k:Nat) (A0:Option Addr) (c0:Nat) (l0:List (List (S35))) (a1:Int) (r1:List (S35)) (r2:Int) (w:World) (hr0:Kd.C (Kd.slice 35 k35) w A0 l0.length l0) (hc0:l0.length≤c0) (h:impl_AgreedLog.f k l0 a1=some (r1,r2)) :
  Calls Try.prog 8 #[.slice A0 l0.length c0,.int .i64 a1] w fun e w'=>∃ v0_:Value,e=.returned (.tuple #[v0_,.int .i64 r2])∧Kd.R k35 35 w' w.heap.size (fun _=>True) v0_ r1∧Below w.heap.size w w':=by
 have HR0:=am hr0;have HC0:=am hc0;clear hr0 hc0;have HB:=am (Below.refl w.heap.size w);have H:((impl_allCode.f l0).bind fun t103=>((impl_size_Log.f l0).bind fun t104=>((impl_within.f a1 1 t104).bind fun t105=>((impl_unless.f t105 2).bind fun t106=>((impl_firstOf.f k (([t103,t106]:List Int))).bind fun t110=>(if t110=0 then ((slices_Concat_Log_Entry.f l0).bind fun t111=>((slices_SortFunc_Log_Entry__impl_compareEntries.f t111).bind fun t114=>((slices_Compact_Log_Entry.f t114).bind fun t115=>((slices_DeleteFunc_Log_Entry__impl_AgreedLog_1.f k t115 l0 a1).bind fun t118=>(if (t118.length:Int) > 60 then (some (([]:List (S35)),3)) else ((impl_ValidLog.f t118).bind fun t121=>(if t121=true then (some (t118,0)) else (some (([]:List (S35)),4))))))))) else (some (([]:List (S35)),t110))))))))=some (r1,r2):=h;clear h;replace H:=Option.bind_eq_some_iff.mp H;obtain ⟨t103,A30,H⟩:=H;replace H:((impl_size_Log.f l0).bind fun t104=>((impl_within.f a1 1 t104).bind fun t105=>((impl_unless.f t105 2).bind fun t106=>((impl_firstOf.f k (([t103,t106]:List Int))).bind fun t110=>(if t110=0 then ((slices_Concat_Log_Entry.f l0).bind fun t111=>((slices_SortFunc_Log_Entry__impl_compareEntries.f t111).bind fun t114=>((slices_Compact_Log_Entry.f t114).bind fun t115=>((slices_DeleteFunc_Log_Entry__impl_AgreedLog_1.f k t115 l0 a1).bind fun t118=>(if (t118.length:Int) > 60 then (some (([]:List (S35)),3)) else ((impl_ValidLog.f t118).bind fun t121=>(if t121=true then (some (t118,0)) else (some (([]:List (S35)),4))))))))) else (some (([]:List (S35)),t110)))))))=some (r1,r2):=H;have A3:=am A30;clear A30;replace H:=Option.bind_eq_some_iff.mp H;obtain ⟨t104,A40,H⟩:=H;replace H:((impl_within.f a1 1 t104).bind fun t105=>((impl_unless.f t105 2).bind fun t106=>((impl_firstOf.f k (([t103,t106]:List Int))).bind fun t110=>(if t110=0 then ((slices_Concat_Log_Entry.f l0).bind fun t111=>((slices_SortFunc_Log_Entry__impl_compareEntries.f t111).bind fun t114=>((slices_Compact_Log_Entry.f t114).bind fun t115=>((slices_DeleteFunc_Log_Entry__impl_AgreedLog_1.f k t115 l0 a1).bind fun t118=>(if (t118.length:Int) > 60 then (some (([]:List (S35)),3)) else ((impl_ValidLog.f t118).bind fun t121=>(if t121=true then (some (t118,0)) else (some (([]:List (S35)),4))))))))) else (some (([]:List (S35)),t110))))))=some (r1,r2):=H;have A4:=am A40;clear A40;replace H:=Option.bind_eq_some_iff.mp H;obtain ⟨t105,A50,H⟩:=H;replace H:((impl_unless.f t105 2).bind fun t106=>((impl_firstOf.f k (([t103,t106]:List Int))).bind fun t110=>(if t110=0 then ((slices_Concat_Log_Entry.f l0).bind fun t111=>((slices_SortFunc_Log_Entry__impl_compareEntries.f t111).bind fun t114=>((slices_Compact_Log_Entry.f t114).bind fun t115=>((slices_DeleteFunc_Log_Entry__impl_AgreedLog_1.f k t115 l0 a1).bind fun t118=>(if (t118.length:Int) > 60 then (some (([]:List (S35)),3)) else ((impl_ValidLog.f t118).bind fun t121=>(if t121=true then (some (t118,0)) else (some (([]:List (S35)),4))))))))) else (some (([]:List (S35)),t110)))))=some (r1,r2):=H;have A5:=am A50;clear A50;replace H:=Option.bind_eq_some_iff.mp H;obtain ⟨t106,A60,H⟩:=H;replace H:((impl_firstOf.f k (([t103,t106]:List Int))).bind fun t110=>(if t110=0 then ((slices_Concat_Log_Entry.f l0).bind fun t111=>((slices_SortFunc_Log_Entry__impl_compareEntries.f t111).bind fun t114=>((slices_Compact_Log_Entry.f t114).bind fun t115=>((slices_DeleteFunc_Log_Entry__impl_AgreedLog_1.f k t115 l0 a1).bind fun t118=>(if (t118.length:Int) > 60 then (some (([]:List (S35)),3)) else ((impl_ValidLog.f t118).bind fun t121=>(if t121=true then (some (t118,0)) else (some (([]:List (S35)),4))))))))) else (some (([]:List (S35)),t110))))=some (r1,r2):=H;have A6:=am A60;clear A60;obtain ⟨y107,hy107⟩:∃ y_:List Int,y_=(([t103,t106]:List Int)):=⟨_,rfl⟩
 replace H:((impl_firstOf.f k y107).bind fun t110=>(if t110=0 then ((slices_Concat_Log_Entry.f l0).bind fun t111=>((slices_SortFunc_Log_Entry__impl_compareEntries.f t111).bind fun t114=>((slices_Compact_Log_Entry.f t114).bind fun t115=>((slices_DeleteFunc_Log_Entry__impl_AgreedLog_1.f k t115 l0 a1).bind fun t118=>(if (t118.length:Int) > 60 then (some (([]:List (S35)),3)) else ((impl_ValidLog.f t118).bind fun t121=>(if t121=true then (some (t118,0)) else (some (([]:List (S35)),4))))))))) else (some (([]:List (S35)),t110))))=some (r1,r2):=by first|(rw [hy107];with_reducible exact H)|(have H2_:=(Option.bind_some _ _).symm.trans H;rw [hy107];with_reducible exact H2_)|(have H2_:=(Option.bind_some _ _).symm.trans H;with_reducible exact H2_)|with_reducible exact H|(rw [hy107];exact H)|exact H
 have Ny107:=am hy107;clear hy107;replace H:=Option.bind_eq_some_iff.mp H;obtain ⟨t110,A70,H⟩:=H;replace H:(if t110=0 then ((slices_Concat_Log_Entry.f l0).bind fun t111=>((slices_SortFunc_Log_Entry__impl_compareEntries.f t111).bind fun t114=>((slices_Compact_Log_Entry.f t114).bind fun t115=>((slices_DeleteFunc_Log_Entry__impl_AgreedLog_1.f k t115 l0 a1).bind fun t118=>(if (t118.length:Int) > 60 then (some (([]:List (S35)),3)) else ((impl_ValidLog.f t118).bind fun t121=>(if t121=true then (some (t118,0)) else (some (([]:List (S35)),4))))))))) else (some (([]:List (S35)),t110)))=some (r1,r2):=H;have A7:=am A70;clear A70
 by_cases c8:t110=0
 ·rw [if_pos c8] at H;have c8b0:=beq_iff_eq.mpr c8;have c8b1:=bne_eq_false_iff_eq.mpr c8;clear c8;replace H:=Option.bind_eq_some_iff.mp H;obtain ⟨t111,A90,H⟩:=H;replace H:((slices_SortFunc_Log_Entry__impl_compareEntries.f t111).bind fun t114=>((slices_Compact_Log_Entry.f t114).bind fun t115=>((slices_DeleteFunc_Log_Entry__impl_AgreedLog_1.f k t115 l0 a1).bind fun t118=>(if (t118.length:Int) > 60 then (some (([]:List (S35)),3)) else ((impl_ValidLog.f t118).bind fun t121=>(if t121=true then (some (t118,0)) else (some (([]:List (S35)),4))))))))=some (r1,r2):=H;have A9:=am A90;clear A90;replace H:=Option.bind_eq_some_iff.mp H;obtain ⟨t114,A100,H⟩:=H;replace H:((slices_Compact_Log_Entry.f t114).bind fun t115=>((slices_DeleteFunc_Log_Entry__impl_AgreedLog_1.f k t115 l0 a1).bind fun t118=>(if (t118.length:Int) > 60 then (some (([]:List (S35)),3)) else ((impl_ValidLog.f t118).bind fun t121=>(if t121=true then (some (t118,0)) else (some (([]:List (S35)),4)))))))=some (r1,r2):=H;have A10:=am A100;clear A100;replace H:=Option.bind_eq_some_iff.mp H;obtain ⟨t115,A110,H⟩:=H;replace H:((slices_DeleteFunc_Log_Entry__impl_AgreedLog_1.f k t115 l0 a1).bind fun t118=>(if (t118.length:Int) > 60 then (some (([]:List (S35)),3)) else ((impl_ValidLog.f t118).bind fun t121=>(if t121=true then (some (t118,0)) else (some (([]:List (S35)),4))))))=some (r1,r2):=H;have A11:=am A110;clear A110;replace H:=Option.bind_eq_some_iff.mp H;obtain ⟨t118,A120,H⟩:=H;replace H:(if (t118.length:Int) > 60 then (some (([]:List (S35)),3)) else ((impl_ValidLog.f t118).bind fun t121=>(if t121=true then (some (t118,0)) else (some (([]:List (S35)),4)))))=some (r1,r2):=H;have A12:=am A120;clear A120
  by_cases c13:(t118.length:Int) > 60
  ·rw [if_pos c13] at H;have c13b0:decide (60 < (t118.length:Int))=true:=decide_eq_true c13;have c13b1:decide (60 < t118.length)=true:=decide_eq_true (by omega);clear c13;simp only [Option.some.injEq,Prod.mk.injEq] at H;obtain ⟨rfl,rfl⟩:=H
   go_enter Try.func8,Try.ntmps8
   try go_wp2_with (first|((with_reducible refine gate_dst (N:=2) rfl ?_);refine box_event ?hg (N:=2) ?hd (cs:=#[.slice A0 l0.length c0]) (t:=27) ?hr ?_;(case hd=>rfl);(case hg=>rfl);(case hr=>exact zq14);intro gb101 hg w14 hbox hb;have n0_:=am (below_step zq0 hb);have n1_:=am (hbox);have n2_:=am ((by rw [hg];exact (below_size zq0):w.heap.size≤gb101));have n3_:=am ((by rw [hg];exact (below_size zq0):w.heap.size≤gb101));clear HB;have HB:=n0_;have BK101:=n1_;have GW101:=n2_;have GE101:=n3_;clear n0_ n1_ n2_ n3_;clear hb hbox hg)|((with_reducible refine gate_dst (N:=3) rfl ?_);refine box_event ?hg (N:=3) ?hd (cs:=#[.int .i64 a1]) (t:=2) ?hr ?_;(case hd=>rfl);(case hg=>rfl);(case hr=>exact zq14);intro gb102 hg w15 hbox hb;have n0_:=am (blk_below (g:=gb101) (o:=.cells #[.slice A0 l0.length c0] 27 (0,0)) zq4 hb);have n1_:=am (below_step zq5 hb);have n2_:=am (hbox);have n3_:=am ((by rw [hg];exact (below_size zq5):w.heap.size≤gb102));have n4_:=am ((by rw [hg];exact (below_size zq5):w.heap.size≤gb102));have n5_:=am ((by rw [hg];exact Nat.ne_of_lt (blk_lt (g:=gb101) (o:=.cells #[.slice A0 l0.length c0] 27 (0,0)) zq4):gb101≠gb102));have n6_:=am ((by rw [hg];exact Nat.ne_of_gt (blk_lt (g:=gb101) (o:=.cells #[.slice A0 l0.length c0] 27 (0,0)) zq4):gb102≠gb101));clear BK101;clear HB;have BK101:=n0_;have HB:=n1_;have BK102:=n2_;have GW102:=n3_;have GE102:=n4_;have NB101_102:=n5_;have NB102_101:=n6_;clear n0_ n1_ n2_ n3_ n4_ n5_ n6_;clear hb hbox hg))
   have n0_:=am (blk_drew BK101.out);have n1_:=am (blk_drew BK102.out);have n2_:=am (below_drew1 HB.out);clear BK101;clear BK102;clear HB;have BK101:=n0_;have BK102:=n1_;have HB:=n2_;clear n0_ n1_ n2_;refine start_ (n:=10) (S:=fun w'=>w'.cell? ⟨gb101,0,none⟩=some (.slice A0 l0.length c0)∧w'.cell? ⟨gb102,0,none⟩=some (.int .i64 a1)) (ds:=[]) #[false,false,false,false,false,false,false,false,false,false] zq19 rfl rfl ⟨(blk_cell BK101.out 0).trans rfl,(blk_cell BK102.out 0).trans rfl⟩ (fun hHeld=>?_);refine with_tabW impl_AgreedLog.tab1 impl_AgreedLog.bits1 (fun HT_ HW_=>?_);generalize w15.drew=w16 at BK101 BK102 HB hHeld ⊢;refine tw2_ 0 8 ?_;refine tw2_ 2 10 ?_;refine tw2_ 3 11 ?_;refine ow_ 1 9 (fun K hK=>?_);refine goes_ Try.func25 zq19 rfl #[.slice A0 l0.length c0] (by rfl) rfl rfl zq1 ?_
   with_reducible refine (impl_allCode.calls _ _ l0 t103 _ ?side1 ?side2 A3.out).mono ?_
   (case side1=>exact zq11);(case side2=>exact HC0.out)
   rintro e w17 ⟨rfl,hb⟩
   refine ⟨_,rfl,?_⟩;have n0_:=am (blk_below (g:=gb101) (o:=.cells #[.slice A0 l0.length c0] 27 (0,0)) zq4 hb);have n1_:=am (blk_below (g:=gb102) (o:=.cells #[.int .i64 a1] 2 (0,0)) zq10 hb);have n2_:=am (below_step zq6 hb);clear BK101;clear BK102;clear HB;have BK101:=n0_;have BK102:=n1_;have HB:=n2_;clear n0_ n1_ n2_;(try clear hb);(try clear hb2);(try clear hk);(try clear hi);refine hK.out _ _ ⟨(blk_cell BK101.out 0).trans rfl,(blk_cell BK102.out 0).trans rfl⟩ (fun hHeld=>?_);clear hK K;refine norm_ (a':=?_) ?_ ?_;rotate_left
   ·show Act.put _ (some 9) _=_
    simp only [Act.put,List.setIfInBounds_toArray,List.set_cons_zero,List.set_cons_succ,i64_w,i32_w];rfl
   refine ow_ 4 12 (fun K hK=>?_);refine goes_ Try.func28 zq19 rfl #[.slice A0 l0.length c0] (by rfl) rfl rfl zq1 ?_
   with_reducible refine (impl_size_Log.calls _ _ l0 t104 _ ?side1 ?side2 A4.out).mono ?_
   (case side1=>exact zq11);(case side2=>exact HC0.out)
   rintro e w' ⟨rfl,⟨nd,rfl⟩⟩
   refine ⟨_,rfl,?_⟩;refine hK.out _ _ ⟨(blk_cell BK101.out 0).trans rfl,(blk_cell BK102.out 0).trans rfl⟩ (fun hHeld=>?_);clear hK K;refine norm_ (a':=?_) ?_ ?_;rotate_left
   ·show Act.put _ (some 12) _=_
    simp only [Act.put,List.setIfInBounds_toArray,List.set_cons_zero,List.set_cons_succ,i64_w,i32_w];rfl
   refine ow_ 5 13 (fun K hK=>?_);refine goes_ Try.func27 zq19 rfl #[.int .i64 a1,.int .i64 1,.int .i64 t104] (by rfl) rfl rfl zq1 ?_
   with_reducible refine (impl_within.calls a1 1 t104 t105 _ A5.out).mono ?_
   rintro e w' ⟨rfl,⟨nd,rfl⟩⟩
   refine ⟨_,rfl,?_⟩;refine hK.out _ _ ⟨(blk_cell BK101.out 0).trans rfl,(blk_cell BK102.out 0).trans rfl⟩ (fun hHeld=>?_);clear hK K;refine norm_ (a':=?_) ?_ ?_;rotate_left
   ·show Act.put _ (some 13) _=_
    simp only [Act.put,List.setIfInBounds_toArray,List.set_cons_zero,List.set_cons_succ,i64_w,i32_w];rfl
   refine ow_ 6 14 (fun K hK=>?_);refine goes_ Try.func26 zq19 rfl #[.bool t105,.int .i64 2] (by rfl) rfl rfl zq1 ?_
   with_reducible refine (impl_unless.calls t105 2 t106 _ A6.out).mono ?_
   rintro e w' ⟨rfl,⟨nd,rfl⟩⟩
   refine ⟨_,rfl,?_⟩;refine hK.out _ _ ⟨(blk_cell BK101.out 0).trans rfl,(blk_cell BK102.out 0).trans rfl⟩ (fun hHeld=>?_);clear hK K;refine norm_ (a':=?_) ?_ ?_;rotate_left
   ·show Act.put _ (some 14) _=_
    simp only [Act.put,List.setIfInBounds_toArray,List.set_cons_zero,List.set_cons_succ,i64_w,i32_w];rfl
   refine ow_ 7 15 (fun K hK=>?_);refine Kd.R_lit_step (Kd.int .i64) _ 2 ?hg (N:=15) ?hd (xs:=([t103,t106]:List Int)) (inner:=[.int .i64 t103,.int .i64 t106]) (ok:=fun _=>True) (okp:=fun _=>True) ?hr ?hp (fun _ hk=>hk) trivial (Below.refl _ _) (Nat.le_refl _) (by simp) ?_;(case hd=>rfl);(case hg=>rfl);(case hr=>exact zq14);(case hp=>exact (Reps.one (show Kd.M (Kd.int .i64) _ _ _ t103 [.int .i64 t103] from rfl) (Reps.one (show Kd.M (Kd.int .i64) _ _ _ t106 [.int .i64 t106] from rfl) (Reps.none _ _))));intro v108 w18 ho19 hb hg_ hnew_;clear hg_ hnew_;(first|rw [← Ny107.out] at ho19|(simp only [Int.reduceToNat] at ho19;rw [← Ny107.out] at ho19));have n0_:=am (Kd.R_lower (Kd.R_newB ho19 (g:=gb102) (o:=.cells #[.int .i64 a1] 2 (0,0)) zq10) (below_size zq6));have n1_:=am (blk_below (g:=gb101) (o:=.cells #[.slice A0 l0.length c0] 27 (0,0)) zq4 hb);have n2_:=am (blk_below (g:=gb102) (o:=.cells #[.int .i64 a1] 2 (0,0)) zq10 hb);have n3_:=am (below_step zq6 hb);clear BK101;clear BK102;clear HB;have HO109:=n0_;have BK101:=n1_;have BK102:=n2_;have HB:=n3_;clear n0_ n1_ n2_ n3_;clear hb ho19;obtain ⟨Ao20,co20,eo20⟩:=Kd.R_slice HO109.out;(first|subst eo20|(injection eo20 with f1_ f2_ f3_;have f4_:=f1_.symm;have f5_:=f3_.symm;clear f1_ f2_ f3_;subst f4_;subst f5_));refine hK.out _ _ ⟨(blk_cell BK101.out 0).trans rfl,(blk_cell BK102.out 0).trans rfl⟩ (fun hHeld=>?_);clear hK K;refine norm_ (a':=?_) ?_ ?_;rotate_left
   ·show Act.put _ (some 15) _=_
    simp only [Act.put,List.setIfInBounds_toArray,List.set_cons_zero,List.set_cons_succ,i64_w,i32_w];rfl
   refine ow_ 8 16 (fun K hK=>?_);refine goes_ Try.func24 zq19 rfl #[.slice Ao20 y107.length co20] (by rfl) rfl rfl zq1 ?_
   with_reducible refine (impl_firstOf.calls k _ _ y107 t110 _ ?side1 ?side2 A7.out).mono ?_
   (case side1=>exact zq37);(case side2=>exact (Kd.R_reads' HO109.out).2.1)
   rintro e w' ⟨rfl,⟨nd,rfl⟩⟩
   refine ⟨_,rfl,?_⟩;refine hK.out _ _ ⟨(blk_cell BK101.out 0).trans rfl,(blk_cell BK102.out 0).trans rfl⟩ (fun hHeld=>?_);clear hK K;refine norm_ (a':=?_) ?_ ?_;rotate_left
   ·show Act.put _ (some 16) _=_
    simp only [Act.put,List.setIfInBounds_toArray,List.set_cons_zero,List.set_cons_succ,i64_w,i32_w];rfl
   refine pw_ 9 6 ?_;refine done_ (done_of HT_.out zq19) ?_;have hnb21:=NB101_102.out;have hnc21:=NB102_101.out;have hcz22_0:w18.cell? ⟨gb101,0,none⟩=some (.slice A0 l0.length c0):=(blk_cell BK101.out 0).trans rfl;have hfz22_0:=blk_frozen BK101.out 0
   try go_wp2_with (first|((with_reducible refine gate_callee (f:=29) rfl ?_);refine goesL_ (some 21) rfl rfl Try.func29 zq19 rfl #[.slice A0 l0.length c0] rfl zq1 ?_;(with_reducible refine (slices_Concat_Log_Entry.calls _ _ l0 t111 _ ?side1 ?side2 A9.out).mono ?_);(case side1=>exact zq85);(case side2=>exact HC0.out);rintro e w23 ⟨v112,rfl,ho0,hb⟩;refine ⟨_,rfl,?_⟩;have n0_:=am (Kd.R_below zq45 hb);have n1_:=am (Kd.R_lower ho0 (below_size zq6));have n2_:=am (blk_below (g:=gb101) (o:=.cells #[.slice A0 l0.length c0] 27 (0,0)) zq4 hb);have n3_:=am (blk_below (g:=gb102) (o:=.cells #[.int .i64 a1] 2 (0,0)) zq10 hb);have n4_:=am (below_step zq6 hb);clear HO109;clear BK101;clear BK102;clear HB;have HO109:=n0_;have HO113:=n1_;have BK101:=n2_;have BK102:=n3_;have HB:=n4_;clear n0_ n1_ n2_ n3_ n4_;(try clear hb);(try clear hb2);(try clear hk);(try clear hi);(try clear ho0);obtain ⟨Ao24,co24,eo24⟩:=Kd.R_slice HO113.out;subst eo24)|((with_reducible refine gate_callee (f:=30) rfl ?_);refine goesL_ (some 23) rfl rfl Try.func30 zq19 rfl #[.slice Ao24 t111.length co24,.func (.func 31) #[] #[]] rfl zq1 ?_;(with_reducible refine (slices_SortFunc_Log_Entry__impl_compareEntries.calls (fun k_=>some k_=(.slice Ao24 t111.length co24:Value).ownBlock) (.slice Ao24 t111.length co24) t111 t114 w _ ?side1 ?side2 A10.out).mono ?_);(case side1=>exact zq6);(case side2=>exact Kd.R_tight rfl HO113.out);rintro e w25 ⟨rfl,hy0,hb,hkp⟩;refine ⟨_,rfl,?_⟩;have n0_:=am (blk_kept zq4 hkp (fun hs_=>(fun e_=>(Kd.R_ne HO113.out BK101.out (by decide)) e_) hs_));have n1_:=am (blk_kept zq10 hkp (fun hs_=>(fun e_=>(Kd.R_ne HO113.out BK102.out (by decide)) e_) hs_));have n2_:=am (Kd.R_mono (ok':=fun k_=>k_≠gb102) (Kd.R_keptB ((Kd.R_apart' HO109.out (Kd.R_typed HO113.out) (by decide))) hkp (fun k_ hk_ hs_=>(hk_.2) hs_)) (fun k_ hk_=>hk_.1.1.2));have n3_:=am (Kd.R_reok rfl hy0 (fun k_ e_=>HO113.out.1 k_ e_));have n4_:=am (hb);clear BK101;clear BK102;clear HO109;clear HO113;clear HB;have BK101:=n0_;have BK102:=n1_;have HO109:=n2_;have HO113:=n3_;have HB:=n4_;clear n0_ n1_ n2_ n3_ n4_;(try clear hb);(try clear hkp);(try clear hy0))|((with_reducible refine gate_callee (f:=33) rfl ?_);refine goesL_ (some 25) rfl rfl Try.func33 zq19 rfl #[.slice Ao24 t111.length co24] rfl zq1 ?_;(with_reducible refine (slices_Compact_Log_Entry.calls (fun k_=>some k_=(.slice Ao24 t111.length co24:Value).ownBlock) (.slice Ao24 t111.length co24) t114 t115 w _ ?side1 ?side2 A11.out).mono ?_);(case side1=>exact zq6);(case side2=>exact Kd.R_tight rfl HO113.out);rintro e w26 ⟨v116,rfl,ho0,hb,hkp⟩;refine ⟨_,rfl,?_⟩;have n0_:=am (blk_kept zq4 hkp (fun hs_=>(fun e_=>(Kd.R_ne HO113.out BK101.out (by decide)) e_) hs_));have n1_:=am (blk_kept zq10 hkp (fun hs_=>(fun e_=>(Kd.R_ne HO113.out BK102.out (by decide)) e_) hs_));have n2_:=am (Kd.R_mono (ok':=fun k_=>k_≠gb102) (Kd.R_keptB ((Kd.R_apart' HO109.out (Kd.R_typed HO113.out) (by decide))) hkp (fun k_ hk_ hs_=>(hk_.2) hs_)) (fun k_ hk_=>hk_.1.1));have n3_:=am (Kd.R_mono (ok':=fun k_=>True) ho0 (fun k_ hk_=>trivial));have n4_:=am (hb);clear BK101;clear BK102;clear HO109;clear HB;clear HO113;have BK101:=n0_;have BK102:=n1_;have HO109:=n2_;have HO117:=n3_;have HB:=n4_;clear n0_ n1_ n2_ n3_ n4_;(try clear hb);(try clear hkp);(try clear ho0);obtain ⟨Ao27,co27,eo27⟩:=Kd.R_slice HO117.out;subst eo27)|((with_reducible refine gate_callee (f:=32) rfl ?_);refine goesL_ (some 27) rfl rfl Try.func32 zq19 rfl #[.slice Ao27 t115.length co27,.func (.func 34) #[] #[.pointer (some ⟨gb101,0,none⟩),.pointer (some ⟨gb102,0,none⟩)]] rfl zq1 ?_;(with_reducible refine (slices_DeleteFunc_Log_Entry__impl_AgreedLog_1.calls k (fun k_=>some k_=(.slice Ao27 t115.length co27:Value).ownBlock) (.slice Ao27 t115.length co27) t115 A0 c0 l0 gb101 a1 gb102 t118 w _ ?side1 ?side2 ?side3 ?side4 ?side5 ?side6 ?side7 A12.out).mono ?_);(case side1=>exact zq6);(case side2=>exact Kd.R_tight rfl HO117.out);(case side3=>exact HR0.out);(case side4=>exact HC0.out);(case side5=>exact zq4);(case side6=>exact zq10);(case side7=>exact NB101_102.out);rintro e w28 ⟨v119,rfl,ho0,hb,hkp⟩;refine ⟨_,rfl,?_⟩;have n0_:=am (blk_kept zq4 hkp (fun hs_=>(fun e_=>(Kd.R_ne HO117.out BK101.out (by decide)) e_) hs_));have n1_:=am (blk_kept zq10 hkp (fun hs_=>(fun e_=>(Kd.R_ne HO117.out BK102.out (by decide)) e_) hs_));have n2_:=am (Kd.R_mono (ok':=fun k_=>k_≠gb102) (Kd.R_keptB ((Kd.R_apart' HO109.out (Kd.R_typed HO117.out) (by decide))) hkp (fun k_ hk_ hs_=>(hk_.2) hs_)) (fun k_ hk_=>hk_.1.1));have n3_:=am (Kd.R_mono (ok':=fun k_=>True) ho0 (fun k_ hk_=>trivial));have n4_:=am (hb);clear BK101;clear BK102;clear HO109;clear HB;clear HO117;have BK101:=n0_;have BK102:=n1_;have HO109:=n2_;have HO120:=n3_;have HB:=n4_;clear n0_ n1_ n2_ n3_ n4_;(try clear hb);(try clear hkp);(try clear ho0);obtain ⟨Ao29,co29,eo29⟩:=Kd.R_slice HO120.out;subst eo29))
   go_ret2
   exact ⟨_,by first|rfl|(simp [errW_none,errW_some,IntKind.wrap_i64,wrap64];done)|(simp [errW_none,errW_some] <;> rfl)|(simp [*,errW_none,errW_some] <;> rfl),by first|exact Kd.R_nil _ _ _ _ _|exact Kd.N_nil _ _ _ _ _|exact Kd.V_nil _ _ _ _ _|exact Kd.Q_nil _ _ _ _ _|exact Kd.S_nil _ _ _ _ _,by repeat (first|(with_reducible first|exact HB.out|apply below_alloc|apply pw_below_drewN|apply below_drew1|refine below_set ?_ GE101.out|refine below_set ?_ GE102.out)|exact HB.out)⟩
  ·rw [if_neg c13] at H;have c13b0:decide (60 < (t118.length:Int))=false:=decide_eq_false c13;have c13b1:decide (60 < t118.length)=false:=decide_eq_false (by omega);clear c13;replace H:=Option.bind_eq_some_iff.mp H;obtain ⟨t121,A300,H⟩:=H;replace H:(if t121=true then (some (t118,0)) else (some (([]:List (S35)),4)))=some (r1,r2):=H;have A30:=am A300;clear A300
   by_cases c31:t121=true
   ·subst c31
    have H1:(some (t118,0))=some (r1,r2):=by rw [if_pos rfl] at H;exact H
    clear H;have H:=H1;clear H1;simp only [Option.some.injEq,Prod.mk.injEq] at H;obtain ⟨rfl,rfl⟩:=H
    go_enter Try.func8,Try.ntmps8
    try go_wp2_with (first|((with_reducible refine gate_dst (N:=2) rfl ?_);refine box_event ?hg (N:=2) ?hd (cs:=#[.slice A0 l0.length c0]) (t:=27) ?hr ?_;(case hd=>rfl);(case hg=>rfl);(case hr=>exact zq14);intro gb101 hg w32 hbox hb;have n0_:=am (below_step zq0 hb);have n1_:=am (hbox);have n2_:=am ((by rw [hg];exact (below_size zq0):w.heap.size≤gb101));have n3_:=am ((by rw [hg];exact (below_size zq0):w.heap.size≤gb101));clear HB;have HB:=n0_;have BK101:=n1_;have GW101:=n2_;have GE101:=n3_;clear n0_ n1_ n2_ n3_;clear hb hbox hg)|((with_reducible refine gate_dst (N:=3) rfl ?_);refine box_event ?hg (N:=3) ?hd (cs:=#[.int .i64 a1]) (t:=2) ?hr ?_;(case hd=>rfl);(case hg=>rfl);(case hr=>exact zq14);intro gb102 hg w33 hbox hb;have n0_:=am (blk_below (g:=gb101) (o:=.cells #[.slice A0 l0.length c0] 27 (0,0)) zq4 hb);have n1_:=am (below_step zq5 hb);have n2_:=am (hbox);have n3_:=am ((by rw [hg];exact (below_size zq5):w.heap.size≤gb102));have n4_:=am ((by rw [hg];exact (below_size zq5):w.heap.size≤gb102));have n5_:=am ((by rw [hg];exact Nat.ne_of_lt (blk_lt (g:=gb101) (o:=.cells #[.slice A0 l0.length c0] 27 (0,0)) zq4):gb101≠gb102));have n6_:=am ((by rw [hg];exact Nat.ne_of_gt (blk_lt (g:=gb101) (o:=.cells #[.slice A0 l0.length c0] 27 (0,0)) zq4):gb102≠gb101));clear BK101;clear HB;have BK101:=n0_;have HB:=n1_;have BK102:=n2_;have GW102:=n3_;have GE102:=n4_;have NB101_102:=n5_;have NB102_101:=n6_;clear n0_ n1_ n2_ n3_ n4_ n5_ n6_;clear hb hbox hg))
    have n0_:=am (blk_drew BK101.out);have n1_:=am (blk_drew BK102.out);have n2_:=am (below_drew1 HB.out);clear BK101;clear BK102;clear HB;have BK101:=n0_;have BK102:=n1_;have HB:=n2_;clear n0_ n1_ n2_;refine start_ (n:=10) (S:=fun w'=>w'.cell? ⟨gb101,0,none⟩=some (.slice A0 l0.length c0)∧w'.cell? ⟨gb102,0,none⟩=some (.int .i64 a1)) (ds:=[]) #[false,false,false,false,false,false,false,false,false,false] zq19 rfl rfl ⟨(blk_cell BK101.out 0).trans rfl,(blk_cell BK102.out 0).trans rfl⟩ (fun hHeld=>?_);refine with_tabW impl_AgreedLog.tab1 impl_AgreedLog.bits1 (fun HT_ HW_=>?_);generalize w33.drew=w34 at BK101 BK102 HB hHeld ⊢;refine tw2_ 0 8 ?_;refine tw2_ 2 10 ?_;refine tw2_ 3 11 ?_;refine ow_ 1 9 (fun K hK=>?_);refine goes_ Try.func25 zq19 rfl #[.slice A0 l0.length c0] (by rfl) rfl rfl zq1 ?_
    with_reducible refine (impl_allCode.calls _ _ l0 t103 _ ?side1 ?side2 A3.out).mono ?_
    (case side1=>exact zq11);(case side2=>exact HC0.out)
    rintro e w35 ⟨rfl,hb⟩
    refine ⟨_,rfl,?_⟩;have n0_:=am (blk_below (g:=gb101) (o:=.cells #[.slice A0 l0.length c0] 27 (0,0)) zq4 hb);have n1_:=am (blk_below (g:=gb102) (o:=.cells #[.int .i64 a1] 2 (0,0)) zq10 hb);have n2_:=am (below_step zq6 hb);clear BK101;clear BK102;clear HB;have BK101:=n0_;have BK102:=n1_;have HB:=n2_;clear n0_ n1_ n2_;(try clear hb);(try clear hb2);(try clear hk);(try clear hi);refine hK.out _ _ ⟨(blk_cell BK101.out 0).trans rfl,(blk_cell BK102.out 0).trans rfl⟩ (fun hHeld=>?_);clear hK K;refine norm_ (a':=?_) ?_ ?_;rotate_left
    ·show Act.put _ (some 9) _=_
     simp only [Act.put,List.setIfInBounds_toArray,List.set_cons_zero,List.set_cons_succ,i64_w,i32_w];rfl
    refine ow_ 4 12 (fun K hK=>?_);refine goes_ Try.func28 zq19 rfl #[.slice A0 l0.length c0] (by rfl) rfl rfl zq1 ?_
    with_reducible refine (impl_size_Log.calls _ _ l0 t104 _ ?side1 ?side2 A4.out).mono ?_
    (case side1=>exact zq11);(case side2=>exact HC0.out)
    rintro e w' ⟨rfl,⟨nd,rfl⟩⟩
    refine ⟨_,rfl,?_⟩;refine hK.out _ _ ⟨(blk_cell BK101.out 0).trans rfl,(blk_cell BK102.out 0).trans rfl⟩ (fun hHeld=>?_);clear hK K;refine norm_ (a':=?_) ?_ ?_;rotate_left
    ·show Act.put _ (some 12) _=_
     simp only [Act.put,List.setIfInBounds_toArray,List.set_cons_zero,List.set_cons_succ,i64_w,i32_w];rfl
    refine ow_ 5 13 (fun K hK=>?_);refine goes_ Try.func27 zq19 rfl #[.int .i64 a1,.int .i64 1,.int .i64 t104] (by rfl) rfl rfl zq1 ?_
    with_reducible refine (impl_within.calls a1 1 t104 t105 _ A5.out).mono ?_
    rintro e w' ⟨rfl,⟨nd,rfl⟩⟩
    refine ⟨_,rfl,?_⟩;refine hK.out _ _ ⟨(blk_cell BK101.out 0).trans rfl,(blk_cell BK102.out 0).trans rfl⟩ (fun hHeld=>?_);clear hK K;refine norm_ (a':=?_) ?_ ?_;rotate_left
    ·show Act.put _ (some 13) _=_
     simp only [Act.put,List.setIfInBounds_toArray,List.set_cons_zero,List.set_cons_succ,i64_w,i32_w];rfl
    refine ow_ 6 14 (fun K hK=>?_);refine goes_ Try.func26 zq19 rfl #[.bool t105,.int .i64 2] (by rfl) rfl rfl zq1 ?_
    with_reducible refine (impl_unless.calls t105 2 t106 _ A6.out).mono ?_
    rintro e w' ⟨rfl,⟨nd,rfl⟩⟩
    refine ⟨_,rfl,?_⟩;refine hK.out _ _ ⟨(blk_cell BK101.out 0).trans rfl,(blk_cell BK102.out 0).trans rfl⟩ (fun hHeld=>?_);clear hK K;refine norm_ (a':=?_) ?_ ?_;rotate_left
    ·show Act.put _ (some 14) _=_
     simp only [Act.put,List.setIfInBounds_toArray,List.set_cons_zero,List.set_cons_succ,i64_w,i32_w];rfl
    refine ow_ 7 15 (fun K hK=>?_);refine Kd.R_lit_step (Kd.int .i64) _ 2 ?hg (N:=15) ?hd (xs:=([t103,t106]:List Int)) (inner:=[.int .i64 t103,.int .i64 t106]) (ok:=fun _=>True) (okp:=fun _=>True) ?hr ?hp (fun _ hk=>hk) trivial (Below.refl _ _) (Nat.le_refl _) (by simp) ?_;(case hd=>rfl);(case hg=>rfl);(case hr=>exact zq14);(case hp=>exact (Reps.one (show Kd.M (Kd.int .i64) _ _ _ t103 [.int .i64 t103] from rfl) (Reps.one (show Kd.M (Kd.int .i64) _ _ _ t106 [.int .i64 t106] from rfl) (Reps.none _ _))));intro v108 w36 ho37 hb hg_ hnew_;clear hg_ hnew_;(first|rw [← Ny107.out] at ho37|(simp only [Int.reduceToNat] at ho37;rw [← Ny107.out] at ho37));have n0_:=am (Kd.R_lower (Kd.R_newB ho37 (g:=gb102) (o:=.cells #[.int .i64 a1] 2 (0,0)) zq10) (below_size zq6));have n1_:=am (blk_below (g:=gb101) (o:=.cells #[.slice A0 l0.length c0] 27 (0,0)) zq4 hb);have n2_:=am (blk_below (g:=gb102) (o:=.cells #[.int .i64 a1] 2 (0,0)) zq10 hb);have n3_:=am (below_step zq6 hb);clear BK101;clear BK102;clear HB;have HO109:=n0_;have BK101:=n1_;have BK102:=n2_;have HB:=n3_;clear n0_ n1_ n2_ n3_;clear hb ho37;obtain ⟨Ao38,co38,eo38⟩:=Kd.R_slice HO109.out;(first|subst eo38|(injection eo38 with f1_ f2_ f3_;have f4_:=f1_.symm;have f5_:=f3_.symm;clear f1_ f2_ f3_;subst f4_;subst f5_));refine hK.out _ _ ⟨(blk_cell BK101.out 0).trans rfl,(blk_cell BK102.out 0).trans rfl⟩ (fun hHeld=>?_);clear hK K;refine norm_ (a':=?_) ?_ ?_;rotate_left
    ·show Act.put _ (some 15) _=_
     simp only [Act.put,List.setIfInBounds_toArray,List.set_cons_zero,List.set_cons_succ,i64_w,i32_w];rfl
    refine ow_ 8 16 (fun K hK=>?_);refine goes_ Try.func24 zq19 rfl #[.slice Ao38 y107.length co38] (by rfl) rfl rfl zq1 ?_
    with_reducible refine (impl_firstOf.calls k _ _ y107 t110 _ ?side1 ?side2 A7.out).mono ?_
    (case side1=>exact zq37);(case side2=>exact (Kd.R_reads' HO109.out).2.1)
    rintro e w' ⟨rfl,⟨nd,rfl⟩⟩
    refine ⟨_,rfl,?_⟩;refine hK.out _ _ ⟨(blk_cell BK101.out 0).trans rfl,(blk_cell BK102.out 0).trans rfl⟩ (fun hHeld=>?_);clear hK K;refine norm_ (a':=?_) ?_ ?_;rotate_left
    ·show Act.put _ (some 16) _=_
     simp only [Act.put,List.setIfInBounds_toArray,List.set_cons_zero,List.set_cons_succ,i64_w,i32_w];rfl
    refine pw_ 9 6 ?_;refine done_ (done_of HT_.out zq19) ?_;have hnb39:=NB101_102.out;have hnc39:=NB102_101.out;have hcz40_0:w36.cell? ⟨gb101,0,none⟩=some (.slice A0 l0.length c0):=(blk_cell BK101.out 0).trans rfl;have hfz40_0:=blk_frozen BK101.out 0
    try go_wp2_with (first|((with_reducible refine gate_callee (f:=29) rfl ?_);refine goesL_ (some 21) rfl rfl Try.func29 zq19 rfl #[.slice A0 l0.length c0] rfl zq1 ?_;(with_reducible refine (slices_Concat_Log_Entry.calls _ _ l0 t111 _ ?side1 ?side2 A9.out).mono ?_);(case side1=>exact zq85);(case side2=>exact HC0.out);rintro e w41 ⟨v112,rfl,ho0,hb⟩;refine ⟨_,rfl,?_⟩;have n0_:=am (Kd.R_below zq45 hb);have n1_:=am (Kd.R_lower ho0 (below_size zq6));have n2_:=am (blk_below (g:=gb101) (o:=.cells #[.slice A0 l0.length c0] 27 (0,0)) zq4 hb);have n3_:=am (blk_below (g:=gb102) (o:=.cells #[.int .i64 a1] 2 (0,0)) zq10 hb);have n4_:=am (below_step zq6 hb);clear HO109;clear BK101;clear BK102;clear HB;have HO109:=n0_;have HO113:=n1_;have BK101:=n2_;have BK102:=n3_;have HB:=n4_;clear n0_ n1_ n2_ n3_ n4_;(try clear hb);(try clear hb2);(try clear hk);(try clear hi);(try clear ho0);obtain ⟨Ao42,co42,eo42⟩:=Kd.R_slice HO113.out;subst eo42)|((with_reducible refine gate_callee (f:=30) rfl ?_);refine goesL_ (some 23) rfl rfl Try.func30 zq19 rfl #[.slice Ao42 t111.length co42,.func (.func 31) #[] #[]] rfl zq1 ?_;(with_reducible refine (slices_SortFunc_Log_Entry__impl_compareEntries.calls (fun k_=>some k_=(.slice Ao42 t111.length co42:Value).ownBlock) (.slice Ao42 t111.length co42) t111 t114 w _ ?side1 ?side2 A10.out).mono ?_);(case side1=>exact zq6);(case side2=>exact Kd.R_tight rfl HO113.out);rintro e w43 ⟨rfl,hy0,hb,hkp⟩;refine ⟨_,rfl,?_⟩;have n0_:=am (blk_kept zq4 hkp (fun hs_=>(fun e_=>(Kd.R_ne HO113.out BK101.out (by decide)) e_) hs_));have n1_:=am (blk_kept zq10 hkp (fun hs_=>(fun e_=>(Kd.R_ne HO113.out BK102.out (by decide)) e_) hs_));have n2_:=am (Kd.R_mono (ok':=fun k_=>k_≠gb102) (Kd.R_keptB ((Kd.R_apart' HO109.out (Kd.R_typed HO113.out) (by decide))) hkp (fun k_ hk_ hs_=>(hk_.2) hs_)) (fun k_ hk_=>hk_.1.1.2));have n3_:=am (Kd.R_reok rfl hy0 (fun k_ e_=>HO113.out.1 k_ e_));have n4_:=am (hb);clear BK101;clear BK102;clear HO109;clear HO113;clear HB;have BK101:=n0_;have BK102:=n1_;have HO109:=n2_;have HO113:=n3_;have HB:=n4_;clear n0_ n1_ n2_ n3_ n4_;(try clear hb);(try clear hkp);(try clear hy0))|((with_reducible refine gate_callee (f:=33) rfl ?_);refine goesL_ (some 25) rfl rfl Try.func33 zq19 rfl #[.slice Ao42 t111.length co42] rfl zq1 ?_;(with_reducible refine (slices_Compact_Log_Entry.calls (fun k_=>some k_=(.slice Ao42 t111.length co42:Value).ownBlock) (.slice Ao42 t111.length co42) t114 t115 w _ ?side1 ?side2 A11.out).mono ?_);(case side1=>exact zq6);(case side2=>exact Kd.R_tight rfl HO113.out);rintro e w44 ⟨v116,rfl,ho0,hb,hkp⟩;refine ⟨_,rfl,?_⟩;have n0_:=am (blk_kept zq4 hkp (fun hs_=>(fun e_=>(Kd.R_ne HO113.out BK101.out (by decide)) e_) hs_));have n1_:=am (blk_kept zq10 hkp (fun hs_=>(fun e_=>(Kd.R_ne HO113.out BK102.out (by decide)) e_) hs_));have n2_:=am (Kd.R_mono (ok':=fun k_=>k_≠gb102) (Kd.R_keptB ((Kd.R_apart' HO109.out (Kd.R_typed HO113.out) (by decide))) hkp (fun k_ hk_ hs_=>(hk_.2) hs_)) (fun k_ hk_=>hk_.1.1));have n3_:=am (Kd.R_mono (ok':=fun k_=>True) ho0 (fun k_ hk_=>trivial));have n4_:=am (hb);clear BK101;clear BK102;clear HO109;clear HB;clear HO113;have BK101:=n0_;have BK102:=n1_;have HO109:=n2_;have HO117:=n3_;have HB:=n4_;clear n0_ n1_ n2_ n3_ n4_;(try clear hb);(try clear hkp);(try clear ho0);obtain ⟨Ao45,co45,eo45⟩:=Kd.R_slice HO117.out;subst eo45)|((with_reducible refine gate_callee (f:=32) rfl ?_);refine goesL_ (some 27) rfl rfl Try.func32 zq19 rfl #[.slice Ao45 t115.length co45,.func (.func 34) #[] #[.pointer (some ⟨gb101,0,none⟩),.pointer (some ⟨gb102,0,none⟩)]] rfl zq1 ?_;(with_reducible refine (slices_DeleteFunc_Log_Entry__impl_AgreedLog_1.calls k (fun k_=>some k_=(.slice Ao45 t115.length co45:Value).ownBlock) (.slice Ao45 t115.length co45) t115 A0 c0 l0 gb101 a1 gb102 t118 w _ ?side1 ?side2 ?side3 ?side4 ?side5 ?side6 ?side7 A12.out).mono ?_);(case side1=>exact zq6);(case side2=>exact Kd.R_tight rfl HO117.out);(case side3=>exact HR0.out);(case side4=>exact HC0.out);(case side5=>exact zq4);(case side6=>exact zq10);(case side7=>exact NB101_102.out);rintro e w46 ⟨v119,rfl,ho0,hb,hkp⟩;refine ⟨_,rfl,?_⟩;have n0_:=am (blk_kept zq4 hkp (fun hs_=>(fun e_=>(Kd.R_ne HO117.out BK101.out (by decide)) e_) hs_));have n1_:=am (blk_kept zq10 hkp (fun hs_=>(fun e_=>(Kd.R_ne HO117.out BK102.out (by decide)) e_) hs_));have n2_:=am (Kd.R_mono (ok':=fun k_=>k_≠gb102) (Kd.R_keptB ((Kd.R_apart' HO109.out (Kd.R_typed HO117.out) (by decide))) hkp (fun k_ hk_ hs_=>(hk_.2) hs_)) (fun k_ hk_=>hk_.1.1));have n3_:=am (Kd.R_mono (ok':=fun k_=>True) ho0 (fun k_ hk_=>trivial));have n4_:=am (hb);clear BK101;clear BK102;clear HO109;clear HB;clear HO117;have BK101:=n0_;have BK102:=n1_;have HO109:=n2_;have HO120:=n3_;have HB:=n4_;clear n0_ n1_ n2_ n3_ n4_;(try clear hb);(try clear hkp);(try clear ho0);obtain ⟨Ao47,co47,eo47⟩:=Kd.R_slice HO120.out;subst eo47)|((with_reducible refine gate_callee (f:=36) rfl ?_);refine goesL_ (some 34) rfl rfl Try.func36 zq19 rfl #[.slice Ao47 t118.length co47] rfl zq1 ?_;(with_reducible refine (impl_ValidLog.calls _ _ t118 true _ ?side1 ?side2 A30.out).mono ?_);(case side1=>exact zq80);(case side2=>exact (Kd.R_reads' HO120.out).2.1);rintro e w48 ⟨rfl,hb⟩;refine ⟨_,rfl,?_⟩;have n0_:=am (Kd.R_below zq45 hb);have n1_:=am (Kd.R_below (by (with_reducible repeat (first|apply Kd.R_alloc|apply Kd.R_drewN|apply Kd.R_drew));exact HO120.out) hb);have n2_:=am (blk_below (g:=gb101) (o:=.cells #[.slice A0 l0.length c0] 27 (0,0)) zq4 hb);have n3_:=am (blk_below (g:=gb102) (o:=.cells #[.int .i64 a1] 2 (0,0)) zq10 hb);have n4_:=am (below_step zq6 hb);clear HO109;clear HO120;clear BK101;clear BK102;clear HB;have HO109:=n0_;have HO120:=n1_;have BK101:=n2_;have BK102:=n3_;have HB:=n4_;clear n0_ n1_ n2_ n3_ n4_;(try clear hb);(try clear hb2);(try clear hk);(try clear hi)))
    go_ret2
    exact ⟨_,by first|rfl|(simp [errW_none,errW_some,IntKind.wrap_i64,wrap64];done)|(simp [errW_none,errW_some] <;> rfl)|(simp [*,errW_none,errW_some] <;> rfl),by (with_reducible repeat (first|apply Kd.R_alloc|apply Kd.R_drewN|apply Kd.R_drew));exact HO120.out,by repeat (first|(with_reducible first|exact HB.out|apply below_alloc|apply pw_below_drewN|apply below_drew1|refine below_set ?_ GE101.out|refine below_set ?_ GE102.out)|exact HB.out)⟩
   ·replace c31:=Bool.eq_false_iff.mpr c31;subst c31
    have H1:(some (([]:List (S35)),4))=some (r1,r2):=by rw [if_neg (show ¬ (false=true) by decide)] at H;exact H
    clear H;have H:=H1;clear H1;simp only [Option.some.injEq,Prod.mk.injEq] at H;obtain ⟨rfl,rfl⟩:=H
    go_enter Try.func8,Try.ntmps8
    try go_wp2_with (first|((with_reducible refine gate_dst (N:=2) rfl ?_);refine box_event ?hg (N:=2) ?hd (cs:=#[.slice A0 l0.length c0]) (t:=27) ?hr ?_;(case hd=>rfl);(case hg=>rfl);(case hr=>exact zq14);intro gb101 hg w49 hbox hb;have n0_:=am (below_step zq0 hb);have n1_:=am (hbox);have n2_:=am ((by rw [hg];exact (below_size zq0):w.heap.size≤gb101));have n3_:=am ((by rw [hg];exact (below_size zq0):w.heap.size≤gb101));clear HB;have HB:=n0_;have BK101:=n1_;have GW101:=n2_;have GE101:=n3_;clear n0_ n1_ n2_ n3_;clear hb hbox hg)|((with_reducible refine gate_dst (N:=3) rfl ?_);refine box_event ?hg (N:=3) ?hd (cs:=#[.int .i64 a1]) (t:=2) ?hr ?_;(case hd=>rfl);(case hg=>rfl);(case hr=>exact zq14);intro gb102 hg w50 hbox hb;have n0_:=am (blk_below (g:=gb101) (o:=.cells #[.slice A0 l0.length c0] 27 (0,0)) zq4 hb);have n1_:=am (below_step zq5 hb);have n2_:=am (hbox);have n3_:=am ((by rw [hg];exact (below_size zq5):w.heap.size≤gb102));have n4_:=am ((by rw [hg];exact (below_size zq5):w.heap.size≤gb102));have n5_:=am ((by rw [hg];exact Nat.ne_of_lt (blk_lt (g:=gb101) (o:=.cells #[.slice A0 l0.length c0] 27 (0,0)) zq4):gb101≠gb102));have n6_:=am ((by rw [hg];exact Nat.ne_of_gt (blk_lt (g:=gb101) (o:=.cells #[.slice A0 l0.length c0] 27 (0,0)) zq4):gb102≠gb101));clear BK101;clear HB;have BK101:=n0_;have HB:=n1_;have BK102:=n2_;have GW102:=n3_;have GE102:=n4_;have NB101_102:=n5_;have NB102_101:=n6_;clear n0_ n1_ n2_ n3_ n4_ n5_ n6_;clear hb hbox hg))
    have n0_:=am (blk_drew BK101.out);have n1_:=am (blk_drew BK102.out);have n2_:=am (below_drew1 HB.out);clear BK101;clear BK102;clear HB;have BK101:=n0_;have BK102:=n1_;have HB:=n2_;clear n0_ n1_ n2_;refine start_ (n:=10) (S:=fun w'=>w'.cell? ⟨gb101,0,none⟩=some (.slice A0 l0.length c0)∧w'.cell? ⟨gb102,0,none⟩=some (.int .i64 a1)) (ds:=[]) #[false,false,false,false,false,false,false,false,false,false] zq19 rfl rfl ⟨(blk_cell BK101.out 0).trans rfl,(blk_cell BK102.out 0).trans rfl⟩ (fun hHeld=>?_);refine with_tabW impl_AgreedLog.tab1 impl_AgreedLog.bits1 (fun HT_ HW_=>?_);generalize w50.drew=w51 at BK101 BK102 HB hHeld ⊢;refine tw2_ 0 8 ?_;refine tw2_ 2 10 ?_;refine tw2_ 3 11 ?_;refine ow_ 1 9 (fun K hK=>?_);refine goes_ Try.func25 zq19 rfl #[.slice A0 l0.length c0] (by rfl) rfl rfl zq1 ?_
    with_reducible refine (impl_allCode.calls _ _ l0 t103 _ ?side1 ?side2 A3.out).mono ?_
    (case side1=>exact zq11);(case side2=>exact HC0.out)
    rintro e w52 ⟨rfl,hb⟩
    refine ⟨_,rfl,?_⟩;have n0_:=am (blk_below (g:=gb101) (o:=.cells #[.slice A0 l0.length c0] 27 (0,0)) zq4 hb);have n1_:=am (blk_below (g:=gb102) (o:=.cells #[.int .i64 a1] 2 (0,0)) zq10 hb);have n2_:=am (below_step zq6 hb);clear BK101;clear BK102;clear HB;have BK101:=n0_;have BK102:=n1_;have HB:=n2_;clear n0_ n1_ n2_;(try clear hb);(try clear hb2);(try clear hk);(try clear hi);refine hK.out _ _ ⟨(blk_cell BK101.out 0).trans rfl,(blk_cell BK102.out 0).trans rfl⟩ (fun hHeld=>?_);clear hK K;refine norm_ (a':=?_) ?_ ?_;rotate_left
    ·show Act.put _ (some 9) _=_
     simp only [Act.put,List.setIfInBounds_toArray,List.set_cons_zero,List.set_cons_succ,i64_w,i32_w];rfl
    refine ow_ 4 12 (fun K hK=>?_);refine goes_ Try.func28 zq19 rfl #[.slice A0 l0.length c0] (by rfl) rfl rfl zq1 ?_
    with_reducible refine (impl_size_Log.calls _ _ l0 t104 _ ?side1 ?side2 A4.out).mono ?_
    (case side1=>exact zq11);(case side2=>exact HC0.out)
    rintro e w' ⟨rfl,⟨nd,rfl⟩⟩
    refine ⟨_,rfl,?_⟩;refine hK.out _ _ ⟨(blk_cell BK101.out 0).trans rfl,(blk_cell BK102.out 0).trans rfl⟩ (fun hHeld=>?_);clear hK K;refine norm_ (a':=?_) ?_ ?_;rotate_left
    ·show Act.put _ (some 12) _=_
     simp only [Act.put,List.setIfInBounds_toArray,List.set_cons_zero,List.set_cons_succ,i64_w,i32_w];rfl
    refine ow_ 5 13 (fun K hK=>?_);refine goes_ Try.func27 zq19 rfl #[.int .i64 a1,.int .i64 1,.int .i64 t104] (by rfl) rfl rfl zq1 ?_
    with_reducible refine (impl_within.calls a1 1 t104 t105 _ A5.out).mono ?_
    rintro e w' ⟨rfl,⟨nd,rfl⟩⟩
    refine ⟨_,rfl,?_⟩;refine hK.out _ _ ⟨(blk_cell BK101.out 0).trans rfl,(blk_cell BK102.out 0).trans rfl⟩ (fun hHeld=>?_);clear hK K;refine norm_ (a':=?_) ?_ ?_;rotate_left
    ·show Act.put _ (some 13) _=_
     simp only [Act.put,List.setIfInBounds_toArray,List.set_cons_zero,List.set_cons_succ,i64_w,i32_w];rfl
    refine ow_ 6 14 (fun K hK=>?_);refine goes_ Try.func26 zq19 rfl #[.bool t105,.int .i64 2] (by rfl) rfl rfl zq1 ?_
    with_reducible refine (impl_unless.calls t105 2 t106 _ A6.out).mono ?_
    rintro e w' ⟨rfl,⟨nd,rfl⟩⟩
    refine ⟨_,rfl,?_⟩;refine hK.out _ _ ⟨(blk_cell BK101.out 0).trans rfl,(blk_cell BK102.out 0).trans rfl⟩ (fun hHeld=>?_);clear hK K;refine norm_ (a':=?_) ?_ ?_;rotate_left
    ·show Act.put _ (some 14) _=_
     simp only [Act.put,List.setIfInBounds_toArray,List.set_cons_zero,List.set_cons_succ,i64_w,i32_w];rfl
    refine ow_ 7 15 (fun K hK=>?_);refine Kd.R_lit_step (Kd.int .i64) _ 2 ?hg (N:=15) ?hd (xs:=([t103,t106]:List Int)) (inner:=[.int .i64 t103,.int .i64 t106]) (ok:=fun _=>True) (okp:=fun _=>True) ?hr ?hp (fun _ hk=>hk) trivial (Below.refl _ _) (Nat.le_refl _) (by simp) ?_;(case hd=>rfl);(case hg=>rfl);(case hr=>exact zq14);(case hp=>exact (Reps.one (show Kd.M (Kd.int .i64) _ _ _ t103 [.int .i64 t103] from rfl) (Reps.one (show Kd.M (Kd.int .i64) _ _ _ t106 [.int .i64 t106] from rfl) (Reps.none _ _))));intro v108 w53 ho54 hb hg_ hnew_;clear hg_ hnew_;(first|rw [← Ny107.out] at ho54|(simp only [Int.reduceToNat] at ho54;rw [← Ny107.out] at ho54));have n0_:=am (Kd.R_lower (Kd.R_newB ho54 (g:=gb102) (o:=.cells #[.int .i64 a1] 2 (0,0)) zq10) (below_size zq6));have n1_:=am (blk_below (g:=gb101) (o:=.cells #[.slice A0 l0.length c0] 27 (0,0)) zq4 hb);have n2_:=am (blk_below (g:=gb102) (o:=.cells #[.int .i64 a1] 2 (0,0)) zq10 hb);have n3_:=am (below_step zq6 hb);clear BK101;clear BK102;clear HB;have HO109:=n0_;have BK101:=n1_;have BK102:=n2_;have HB:=n3_;clear n0_ n1_ n2_ n3_;clear hb ho54;obtain ⟨Ao55,co55,eo55⟩:=Kd.R_slice HO109.out;(first|subst eo55|(injection eo55 with f1_ f2_ f3_;have f4_:=f1_.symm;have f5_:=f3_.symm;clear f1_ f2_ f3_;subst f4_;subst f5_));refine hK.out _ _ ⟨(blk_cell BK101.out 0).trans rfl,(blk_cell BK102.out 0).trans rfl⟩ (fun hHeld=>?_);clear hK K;refine norm_ (a':=?_) ?_ ?_;rotate_left
    ·show Act.put _ (some 15) _=_
     simp only [Act.put,List.setIfInBounds_toArray,List.set_cons_zero,List.set_cons_succ,i64_w,i32_w];rfl
    refine ow_ 8 16 (fun K hK=>?_);refine goes_ Try.func24 zq19 rfl #[.slice Ao55 y107.length co55] (by rfl) rfl rfl zq1 ?_
    with_reducible refine (impl_firstOf.calls k _ _ y107 t110 _ ?side1 ?side2 A7.out).mono ?_
    (case side1=>exact zq37);(case side2=>exact (Kd.R_reads' HO109.out).2.1)
    rintro e w' ⟨rfl,⟨nd,rfl⟩⟩
    refine ⟨_,rfl,?_⟩;refine hK.out _ _ ⟨(blk_cell BK101.out 0).trans rfl,(blk_cell BK102.out 0).trans rfl⟩ (fun hHeld=>?_);clear hK K;refine norm_ (a':=?_) ?_ ?_;rotate_left
    ·show Act.put _ (some 16) _=_
     simp only [Act.put,List.setIfInBounds_toArray,List.set_cons_zero,List.set_cons_succ,i64_w,i32_w];rfl
    refine pw_ 9 6 ?_;refine done_ (done_of HT_.out zq19) ?_;have hnb56:=NB101_102.out;have hnc56:=NB102_101.out;have hcz57_0:w53.cell? ⟨gb101,0,none⟩=some (.slice A0 l0.length c0):=(blk_cell BK101.out 0).trans rfl;have hfz57_0:=blk_frozen BK101.out 0
    try go_wp2_with (first|((with_reducible refine gate_callee (f:=29) rfl ?_);refine goesL_ (some 21) rfl rfl Try.func29 zq19 rfl #[.slice A0 l0.length c0] rfl zq1 ?_;(with_reducible refine (slices_Concat_Log_Entry.calls _ _ l0 t111 _ ?side1 ?side2 A9.out).mono ?_);(case side1=>exact zq85);(case side2=>exact HC0.out);rintro e w58 ⟨v112,rfl,ho0,hb⟩;refine ⟨_,rfl,?_⟩;have n0_:=am (Kd.R_below zq45 hb);have n1_:=am (Kd.R_lower ho0 (below_size zq6));have n2_:=am (blk_below (g:=gb101) (o:=.cells #[.slice A0 l0.length c0] 27 (0,0)) zq4 hb);have n3_:=am (blk_below (g:=gb102) (o:=.cells #[.int .i64 a1] 2 (0,0)) zq10 hb);have n4_:=am (below_step zq6 hb);clear HO109;clear BK101;clear BK102;clear HB;have HO109:=n0_;have HO113:=n1_;have BK101:=n2_;have BK102:=n3_;have HB:=n4_;clear n0_ n1_ n2_ n3_ n4_;(try clear hb);(try clear hb2);(try clear hk);(try clear hi);(try clear ho0);obtain ⟨Ao59,co59,eo59⟩:=Kd.R_slice HO113.out;subst eo59)|((with_reducible refine gate_callee (f:=30) rfl ?_);refine goesL_ (some 23) rfl rfl Try.func30 zq19 rfl #[.slice Ao59 t111.length co59,.func (.func 31) #[] #[]] rfl zq1 ?_;(with_reducible refine (slices_SortFunc_Log_Entry__impl_compareEntries.calls (fun k_=>some k_=(.slice Ao59 t111.length co59:Value).ownBlock) (.slice Ao59 t111.length co59) t111 t114 w _ ?side1 ?side2 A10.out).mono ?_);(case side1=>exact zq6);(case side2=>exact Kd.R_tight rfl HO113.out);rintro e w60 ⟨rfl,hy0,hb,hkp⟩;refine ⟨_,rfl,?_⟩;have n0_:=am (blk_kept zq4 hkp (fun hs_=>(fun e_=>(Kd.R_ne HO113.out BK101.out (by decide)) e_) hs_));have n1_:=am (blk_kept zq10 hkp (fun hs_=>(fun e_=>(Kd.R_ne HO113.out BK102.out (by decide)) e_) hs_));have n2_:=am (Kd.R_mono (ok':=fun k_=>k_≠gb102) (Kd.R_keptB ((Kd.R_apart' HO109.out (Kd.R_typed HO113.out) (by decide))) hkp (fun k_ hk_ hs_=>(hk_.2) hs_)) (fun k_ hk_=>hk_.1.1.2));have n3_:=am (Kd.R_reok rfl hy0 (fun k_ e_=>HO113.out.1 k_ e_));have n4_:=am (hb);clear BK101;clear BK102;clear HO109;clear HO113;clear HB;have BK101:=n0_;have BK102:=n1_;have HO109:=n2_;have HO113:=n3_;have HB:=n4_;clear n0_ n1_ n2_ n3_ n4_;(try clear hb);(try clear hkp);(try clear hy0))|((with_reducible refine gate_callee (f:=33) rfl ?_);refine goesL_ (some 25) rfl rfl Try.func33 zq19 rfl #[.slice Ao59 t111.length co59] rfl zq1 ?_;(with_reducible refine (slices_Compact_Log_Entry.calls (fun k_=>some k_=(.slice Ao59 t111.length co59:Value).ownBlock) (.slice Ao59 t111.length co59) t114 t115 w _ ?side1 ?side2 A11.out).mono ?_);(case side1=>exact zq6);(case side2=>exact Kd.R_tight rfl HO113.out);rintro e w61 ⟨v116,rfl,ho0,hb,hkp⟩;refine ⟨_,rfl,?_⟩;have n0_:=am (blk_kept zq4 hkp (fun hs_=>(fun e_=>(Kd.R_ne HO113.out BK101.out (by decide)) e_) hs_));have n1_:=am (blk_kept zq10 hkp (fun hs_=>(fun e_=>(Kd.R_ne HO113.out BK102.out (by decide)) e_) hs_));have n2_:=am (Kd.R_mono (ok':=fun k_=>k_≠gb102) (Kd.R_keptB ((Kd.R_apart' HO109.out (Kd.R_typed HO113.out) (by decide))) hkp (fun k_ hk_ hs_=>(hk_.2) hs_)) (fun k_ hk_=>hk_.1.1));have n3_:=am (Kd.R_mono (ok':=fun k_=>True) ho0 (fun k_ hk_=>trivial));have n4_:=am (hb);clear BK101;clear BK102;clear HO109;clear HB;clear HO113;have BK101:=n0_;have BK102:=n1_;have HO109:=n2_;have HO117:=n3_;have HB:=n4_;clear n0_ n1_ n2_ n3_ n4_;(try clear hb);(try clear hkp);(try clear ho0);obtain ⟨Ao62,co62,eo62⟩:=Kd.R_slice HO117.out;subst eo62)|((with_reducible refine gate_callee (f:=32) rfl ?_);refine goesL_ (some 27) rfl rfl Try.func32 zq19 rfl #[.slice Ao62 t115.length co62,.func (.func 34) #[] #[.pointer (some ⟨gb101,0,none⟩),.pointer (some ⟨gb102,0,none⟩)]] rfl zq1 ?_;(with_reducible refine (slices_DeleteFunc_Log_Entry__impl_AgreedLog_1.calls k (fun k_=>some k_=(.slice Ao62 t115.length co62:Value).ownBlock) (.slice Ao62 t115.length co62) t115 A0 c0 l0 gb101 a1 gb102 t118 w _ ?side1 ?side2 ?side3 ?side4 ?side5 ?side6 ?side7 A12.out).mono ?_);(case side1=>exact zq6);(case side2=>exact Kd.R_tight rfl HO117.out);(case side3=>exact HR0.out);(case side4=>exact HC0.out);(case side5=>exact zq4);(case side6=>exact zq10);(case side7=>exact NB101_102.out);rintro e w63 ⟨v119,rfl,ho0,hb,hkp⟩;refine ⟨_,rfl,?_⟩;have n0_:=am (blk_kept zq4 hkp (fun hs_=>(fun e_=>(Kd.R_ne HO117.out BK101.out (by decide)) e_) hs_));have n1_:=am (blk_kept zq10 hkp (fun hs_=>(fun e_=>(Kd.R_ne HO117.out BK102.out (by decide)) e_) hs_));have n2_:=am (Kd.R_mono (ok':=fun k_=>k_≠gb102) (Kd.R_keptB ((Kd.R_apart' HO109.out (Kd.R_typed HO117.out) (by decide))) hkp (fun k_ hk_ hs_=>(hk_.2) hs_)) (fun k_ hk_=>hk_.1.1));have n3_:=am (Kd.R_mono (ok':=fun k_=>True) ho0 (fun k_ hk_=>trivial));have n4_:=am (hb);clear BK101;clear BK102;clear HO109;clear HB;clear HO117;have BK101:=n0_;have BK102:=n1_;have HO109:=n2_;have HO120:=n3_;have HB:=n4_;clear n0_ n1_ n2_ n3_ n4_;(try clear hb);(try clear hkp);(try clear ho0);obtain ⟨Ao64,co64,eo64⟩:=Kd.R_slice HO120.out;subst eo64)|((with_reducible refine gate_callee (f:=36) rfl ?_);refine goesL_ (some 34) rfl rfl Try.func36 zq19 rfl #[.slice Ao64 t118.length co64] rfl zq1 ?_;(with_reducible refine (impl_ValidLog.calls _ _ t118 false _ ?side1 ?side2 A30.out).mono ?_);(case side1=>exact zq80);(case side2=>exact (Kd.R_reads' HO120.out).2.1);rintro e w65 ⟨rfl,hb⟩;refine ⟨_,rfl,?_⟩;have n0_:=am (Kd.R_below zq45 hb);have n1_:=am (Kd.R_below (by (with_reducible repeat (first|apply Kd.R_alloc|apply Kd.R_drewN|apply Kd.R_drew));exact HO120.out) hb);have n2_:=am (blk_below (g:=gb101) (o:=.cells #[.slice A0 l0.length c0] 27 (0,0)) zq4 hb);have n3_:=am (blk_below (g:=gb102) (o:=.cells #[.int .i64 a1] 2 (0,0)) zq10 hb);have n4_:=am (below_step zq6 hb);clear HO109;clear HO120;clear BK101;clear BK102;clear HB;have HO109:=n0_;have HO120:=n1_;have BK101:=n2_;have BK102:=n3_;have HB:=n4_;clear n0_ n1_ n2_ n3_ n4_;(try clear hb);(try clear hb2);(try clear hk);(try clear hi)))
    go_ret2
    exact ⟨_,by first|rfl|(simp [errW_none,errW_some,IntKind.wrap_i64,wrap64];done)|(simp [errW_none,errW_some] <;> rfl)|(simp [*,errW_none,errW_some] <;> rfl),by first|exact Kd.R_nil _ _ _ _ _|exact Kd.N_nil _ _ _ _ _|exact Kd.V_nil _ _ _ _ _|exact Kd.Q_nil _ _ _ _ _|exact Kd.S_nil _ _ _ _ _,by repeat (first|(with_reducible first|exact HB.out|apply below_alloc|apply pw_below_drewN|apply below_drew1|refine below_set ?_ GE101.out|refine below_set ?_ GE102.out)|exact HB.out)⟩
 ·rw [if_neg c8] at H;have c8b0:=beq_eq_false_iff_ne.mpr c8;have c8b1:=bne_iff_ne.mpr c8;simp only [Option.some.injEq,Prod.mk.injEq] at H;obtain ⟨rfl,rfl⟩:=H
  go_enter Try.func8,Try.ntmps8
  try go_wp2_with (first|((with_reducible refine gate_dst (N:=2) rfl ?_);refine box_event ?hg (N:=2) ?hd (cs:=#[.slice A0 l0.length c0]) (t:=27) ?hr ?_;(case hd=>rfl);(case hg=>rfl);(case hr=>exact zq14);intro gb101 hg w66 hbox hb;have n0_:=am (below_step zq0 hb);have n1_:=am (hbox);have n2_:=am ((by rw [hg];exact (below_size zq0):w.heap.size≤gb101));have n3_:=am ((by rw [hg];exact (below_size zq0):w.heap.size≤gb101));clear HB;have HB:=n0_;have BK101:=n1_;have GW101:=n2_;have GE101:=n3_;clear n0_ n1_ n2_ n3_;clear hb hbox hg)|((with_reducible refine gate_dst (N:=3) rfl ?_);refine box_event ?hg (N:=3) ?hd (cs:=#[.int .i64 a1]) (t:=2) ?hr ?_;(case hd=>rfl);(case hg=>rfl);(case hr=>exact zq14);intro gb102 hg w67 hbox hb;have n0_:=am (blk_below (g:=gb101) (o:=.cells #[.slice A0 l0.length c0] 27 (0,0)) zq4 hb);have n1_:=am (below_step zq5 hb);have n2_:=am (hbox);have n3_:=am ((by rw [hg];exact (below_size zq5):w.heap.size≤gb102));have n4_:=am ((by rw [hg];exact (below_size zq5):w.heap.size≤gb102));have n5_:=am ((by rw [hg];exact Nat.ne_of_lt (blk_lt (g:=gb101) (o:=.cells #[.slice A0 l0.length c0] 27 (0,0)) zq4):gb101≠gb102));have n6_:=am ((by rw [hg];exact Nat.ne_of_gt (blk_lt (g:=gb101) (o:=.cells #[.slice A0 l0.length c0] 27 (0,0)) zq4):gb102≠gb101));clear BK101;clear HB;have BK101:=n0_;have HB:=n1_;have BK102:=n2_;have GW102:=n3_;have GE102:=n4_;have NB101_102:=n5_;have NB102_101:=n6_;clear n0_ n1_ n2_ n3_ n4_ n5_ n6_;clear hb hbox hg))
  have n0_:=am (blk_drew BK101.out);have n1_:=am (blk_drew BK102.out);have n2_:=am (below_drew1 HB.out);clear BK101;clear BK102;clear HB;have BK101:=n0_;have BK102:=n1_;have HB:=n2_;clear n0_ n1_ n2_;refine start_ (n:=10) (S:=fun w'=>w'.cell? ⟨gb101,0,none⟩=some (.slice A0 l0.length c0)∧w'.cell? ⟨gb102,0,none⟩=some (.int .i64 a1)) (ds:=[]) #[false,false,false,false,false,false,false,false,false,false] zq19 rfl rfl ⟨(blk_cell BK101.out 0).trans rfl,(blk_cell BK102.out 0).trans rfl⟩ (fun hHeld=>?_);refine with_tabW impl_AgreedLog.tab1 impl_AgreedLog.bits1 (fun HT_ HW_=>?_);generalize w67.drew=w68 at BK101 BK102 HB hHeld ⊢;refine tw2_ 0 8 ?_;refine tw2_ 2 10 ?_;refine tw2_ 3 11 ?_;refine ow_ 1 9 (fun K hK=>?_);refine goes_ Try.func25 zq19 rfl #[.slice A0 l0.length c0] (by rfl) rfl rfl zq1 ?_
  with_reducible refine (impl_allCode.calls _ _ l0 t103 _ ?side1 ?side2 A3.out).mono ?_
  (case side1=>exact zq11);(case side2=>exact HC0.out)
  rintro e w69 ⟨rfl,hb⟩
  refine ⟨_,rfl,?_⟩;have n0_:=am (blk_below (g:=gb101) (o:=.cells #[.slice A0 l0.length c0] 27 (0,0)) zq4 hb);have n1_:=am (blk_below (g:=gb102) (o:=.cells #[.int .i64 a1] 2 (0,0)) zq10 hb);have n2_:=am (below_step zq6 hb);clear BK101;clear BK102;clear HB;have BK101:=n0_;have BK102:=n1_;have HB:=n2_;clear n0_ n1_ n2_;(try clear hb);(try clear hb2);(try clear hk);(try clear hi);refine hK.out _ _ ⟨(blk_cell BK101.out 0).trans rfl,(blk_cell BK102.out 0).trans rfl⟩ (fun hHeld=>?_);clear hK K;refine norm_ (a':=?_) ?_ ?_;rotate_left
  ·show Act.put _ (some 9) _=_
   simp only [Act.put,List.setIfInBounds_toArray,List.set_cons_zero,List.set_cons_succ,i64_w,i32_w];rfl
  refine ow_ 4 12 (fun K hK=>?_);refine goes_ Try.func28 zq19 rfl #[.slice A0 l0.length c0] (by rfl) rfl rfl zq1 ?_
  with_reducible refine (impl_size_Log.calls _ _ l0 t104 _ ?side1 ?side2 A4.out).mono ?_
  (case side1=>exact zq11);(case side2=>exact HC0.out)
  rintro e w' ⟨rfl,⟨nd,rfl⟩⟩
  refine ⟨_,rfl,?_⟩;refine hK.out _ _ ⟨(blk_cell BK101.out 0).trans rfl,(blk_cell BK102.out 0).trans rfl⟩ (fun hHeld=>?_);clear hK K;refine norm_ (a':=?_) ?_ ?_;rotate_left
  ·show Act.put _ (some 12) _=_
   simp only [Act.put,List.setIfInBounds_toArray,List.set_cons_zero,List.set_cons_succ,i64_w,i32_w];rfl
  refine ow_ 5 13 (fun K hK=>?_);refine goes_ Try.func27 zq19 rfl #[.int .i64 a1,.int .i64 1,.int .i64 t104] (by rfl) rfl rfl zq1 ?_
  with_reducible refine (impl_within.calls a1 1 t104 t105 _ A5.out).mono ?_
  rintro e w' ⟨rfl,⟨nd,rfl⟩⟩
  refine ⟨_,rfl,?_⟩;refine hK.out _ _ ⟨(blk_cell BK101.out 0).trans rfl,(blk_cell BK102.out 0).trans rfl⟩ (fun hHeld=>?_);clear hK K;refine norm_ (a':=?_) ?_ ?_;rotate_left
  ·show Act.put _ (some 13) _=_
   simp only [Act.put,List.setIfInBounds_toArray,List.set_cons_zero,List.set_cons_succ,i64_w,i32_w];rfl
  refine ow_ 6 14 (fun K hK=>?_);refine goes_ Try.func26 zq19 rfl #[.bool t105,.int .i64 2] (by rfl) rfl rfl zq1 ?_
  with_reducible refine (impl_unless.calls t105 2 t106 _ A6.out).mono ?_
  rintro e w' ⟨rfl,⟨nd,rfl⟩⟩
  refine ⟨_,rfl,?_⟩;refine hK.out _ _ ⟨(blk_cell BK101.out 0).trans rfl,(blk_cell BK102.out 0).trans rfl⟩ (fun hHeld=>?_);clear hK K;refine norm_ (a':=?_) ?_ ?_;rotate_left
  ·show Act.put _ (some 14) _=_
   simp only [Act.put,List.setIfInBounds_toArray,List.set_cons_zero,List.set_cons_succ,i64_w,i32_w];rfl
  refine ow_ 7 15 (fun K hK=>?_);refine Kd.R_lit_step (Kd.int .i64) _ 2 ?hg (N:=15) ?hd (xs:=([t103,t106]:List Int)) (inner:=[.int .i64 t103,.int .i64 t106]) (ok:=fun _=>True) (okp:=fun _=>True) ?hr ?hp (fun _ hk=>hk) trivial (Below.refl _ _) (Nat.le_refl _) (by simp) ?_;(case hd=>rfl);(case hg=>rfl);(case hr=>exact zq14);(case hp=>exact (Reps.one (show Kd.M (Kd.int .i64) _ _ _ t103 [.int .i64 t103] from rfl) (Reps.one (show Kd.M (Kd.int .i64) _ _ _ t106 [.int .i64 t106] from rfl) (Reps.none _ _))));intro v108 w70 ho71 hb hg_ hnew_;clear hg_ hnew_;(first|rw [← Ny107.out] at ho71|(simp only [Int.reduceToNat] at ho71;rw [← Ny107.out] at ho71));have n0_:=am (Kd.R_lower (Kd.R_newB ho71 (g:=gb102) (o:=.cells #[.int .i64 a1] 2 (0,0)) zq10) (below_size zq6));have n1_:=am (blk_below (g:=gb101) (o:=.cells #[.slice A0 l0.length c0] 27 (0,0)) zq4 hb);have n2_:=am (blk_below (g:=gb102) (o:=.cells #[.int .i64 a1] 2 (0,0)) zq10 hb);have n3_:=am (below_step zq6 hb);clear BK101;clear BK102;clear HB;have HO109:=n0_;have BK101:=n1_;have BK102:=n2_;have HB:=n3_;clear n0_ n1_ n2_ n3_;clear hb ho71;obtain ⟨Ao72,co72,eo72⟩:=Kd.R_slice HO109.out;(first|subst eo72|(injection eo72 with f1_ f2_ f3_;have f4_:=f1_.symm;have f5_:=f3_.symm;clear f1_ f2_ f3_;subst f4_;subst f5_));refine hK.out _ _ ⟨(blk_cell BK101.out 0).trans rfl,(blk_cell BK102.out 0).trans rfl⟩ (fun hHeld=>?_);clear hK K;refine norm_ (a':=?_) ?_ ?_;rotate_left
  ·show Act.put _ (some 15) _=_
   simp only [Act.put,List.setIfInBounds_toArray,List.set_cons_zero,List.set_cons_succ,i64_w,i32_w];rfl
  refine ow_ 8 16 (fun K hK=>?_);refine goes_ Try.func24 zq19 rfl #[.slice Ao72 y107.length co72] (by rfl) rfl rfl zq1 ?_
  with_reducible refine (impl_firstOf.calls k _ _ y107 t110 _ ?side1 ?side2 A7.out).mono ?_
  (case side1=>exact zq37);(case side2=>exact (Kd.R_reads' HO109.out).2.1)
  rintro e w' ⟨rfl,⟨nd,rfl⟩⟩
  refine ⟨_,rfl,?_⟩;refine hK.out _ _ ⟨(blk_cell BK101.out 0).trans rfl,(blk_cell BK102.out 0).trans rfl⟩ (fun hHeld=>?_);clear hK K;refine norm_ (a':=?_) ?_ ?_;rotate_left
  ·show Act.put _ (some 16) _=_
   simp only [Act.put,List.setIfInBounds_toArray,List.set_cons_zero,List.set_cons_succ,i64_w,i32_w];rfl
  refine pw_ 9 6 ?_;refine done_ (done_of HT_.out zq19) ?_;(try go_wp2)
  go_ret2
  exact ⟨_,by first|rfl|(simp [errW_none,errW_some,IntKind.wrap_i64,wrap64];done)|(simp [errW_none,errW_some] <;> rfl)|(simp [*,errW_none,errW_some] <;> rfl),by first|exact Kd.R_nil _ _ _ _ _|exact Kd.N_nil _ _ _ _ _|exact Kd.V_nil _ _ _ _ _|exact Kd.Q_nil _ _ _ _ _|exact Kd.S_nil _ _ _ _ _,by repeat (first|(with_reducible first|exact HB.out|apply below_alloc|apply pw_below_drewN|apply below_drew1|refine below_set ?_ GE101.out|refine below_set ?_ GE102.out)|exact HB.out)⟩
def impl_Entry_agree.f (a0_0:Int) (a0_1:Int) (a0_2:Bool) (a1_0:Int) (a1_1:Int) (a1_2:Bool):Option (Bool):=if a0_1=a1_1 then (some (a0_2 == a1_2)) else (some false)
set_option maxHeartbeats 8000000 in
set_option maxRecDepth 100000 in
theorem impl_Entry_agree.calls (a0_0:Int) (a0_1:Int) (a0_2:Bool) (a1_0:Int) (a1_1:Int) (a1_2:Bool) (r:Bool) (w:World) (h:impl_Entry_agree.f a0_0 a0_1 a0_2 a1_0 a1_1 a1_2=some r) :
  Calls Try.prog 85 #[.agg #[.int .i64 a0_0,.int .i64 a0_1,.bool a0_2],.agg #[.int .i64 a1_0,.int .i64 a1_1,.bool a1_2]] w fun e w'=>e=.returned (.bool r)∧Below w.heap.size w w':=by
 have hu35:=Try.underlying35;have HB:=am (Below.refl w.heap.size w);have H:(if a0_1=a1_1 then (some (a0_2 == a1_2)) else (some false))=some r:=h;clear h
 by_cases c3:a0_1=a1_1
 ·rw [if_pos c3] at H;have c3b0:=beq_iff_eq.mpr c3;have c3b1:=bne_eq_false_iff_eq.mpr c3;clear c3;obtain rfl:=Option.some.inj H
  go_enter Try.func85,Try.ntmps85
  go_wp2_with (first|((with_reducible refine gate_dst (N:=2) rfl ?_);refine box_event ?hg (N:=2) ?hd (cs:=#[.int .i64 a0_0,.int .i64 a0_1,.bool a0_2]) (t:=35) ?hr ?_;(case hd=>rfl);(case hg=>rfl);(case hr=>exact zq14);intro gb101 hg w4 hbox hb;have n0_:=am (below_step zq0 hb);have n1_:=am (hbox);have n2_:=am ((by rw [hg];exact (below_size zq0):w.heap.size≤gb101));have n3_:=am ((by rw [hg];exact (below_size zq0):w.heap.size≤gb101));clear HB;have HB:=n0_;have BK101:=n1_;have GW101:=n2_;have GE101:=n3_;clear n0_ n1_ n2_ n3_;clear hb hbox hg)|((with_reducible refine gate_dst (N:=3) rfl ?_);refine box_event ?hg (N:=3) ?hd (cs:=#[.int .i64 a1_0,.int .i64 a1_1,.bool a1_2]) (t:=35) ?hr ?_;(case hd=>rfl);(case hg=>rfl);(case hr=>exact zq14);intro gb102 hg w5 hbox hb;have n0_:=am (blk_below (g:=gb101) (o:=.cells #[.int .i64 a0_0,.int .i64 a0_1,.bool a0_2] 35 (0,0)) zq4 hb);have n1_:=am (below_step zq5 hb);have n2_:=am (hbox);have n3_:=am ((by rw [hg];exact (below_size zq5):w.heap.size≤gb102));have n4_:=am ((by rw [hg];exact (below_size zq5):w.heap.size≤gb102));have n5_:=am ((by rw [hg];exact Nat.ne_of_lt (blk_lt (g:=gb101) (o:=.cells #[.int .i64 a0_0,.int .i64 a0_1,.bool a0_2] 35 (0,0)) zq4):gb101≠gb102));have n6_:=am ((by rw [hg];exact Nat.ne_of_gt (blk_lt (g:=gb101) (o:=.cells #[.int .i64 a0_0,.int .i64 a0_1,.bool a0_2] 35 (0,0)) zq4):gb102≠gb101));clear BK101;clear HB;have BK101:=n0_;have HB:=n1_;have BK102:=n2_;have GW102:=n3_;have GE102:=n4_;have NB101_102:=n5_;have NB102_101:=n6_;clear n0_ n1_ n2_ n3_ n4_ n5_ n6_;clear hb hbox hg;have hnb6:=NB101_102.out;have hnc6:=NB102_101.out;have hcz7_0:w5.cell? ⟨gb101,0,none⟩=some (.int .i64 a0_0):=(blk_cell BK101.out 0).trans rfl;have hcz7_1:w5.cell? ⟨gb101,1,none⟩=some (.int .i64 a0_1):=(blk_cell BK101.out 1).trans rfl;have hcz7_2:w5.cell? ⟨gb101,2,none⟩=some (.bool a0_2):=(blk_cell BK101.out 2).trans rfl;have hfz7_0:=blk_frozen BK101.out 0;have hfz7_1:=blk_frozen BK101.out 1;have hfz7_2:=blk_frozen BK101.out 2;have hcz8_0:w5.cell? ⟨gb102,0,none⟩=some (.int .i64 a1_0):=(blk_cell BK102.out 0).trans rfl;have hcz8_1:w5.cell? ⟨gb102,1,none⟩=some (.int .i64 a1_1):=(blk_cell BK102.out 1).trans rfl;have hcz8_2:w5.cell? ⟨gb102,2,none⟩=some (.bool a1_2):=(blk_cell BK102.out 2).trans rfl;have hfz8_0:=blk_frozen BK102.out 0;have hfz8_1:=blk_frozen BK102.out 1;have hfz8_2:=blk_frozen BK102.out 2))
  go_ret
  exact ⟨by first|rfl|(simp [errW_none,errW_some,IntKind.wrap_i64,wrap64];done)|(simp [errW_none,errW_some] <;> rfl)|(simp [*,errW_none,errW_some] <;> rfl),by repeat (first|(with_reducible first|exact HB.out|apply below_alloc|apply pw_below_drewN|apply below_drew1|refine below_set ?_ GE101.out|refine below_set ?_ GE102.out)|exact HB.out)⟩
 ·rw [if_neg c3] at H;have c3b0:=beq_eq_false_iff_ne.mpr c3;have c3b1:=bne_iff_ne.mpr c3;obtain rfl:=Option.some.inj H
  go_enter Try.func85,Try.ntmps85
  go_wp2_with (first|((with_reducible refine gate_dst (N:=2) rfl ?_);refine box_event ?hg (N:=2) ?hd (cs:=#[.int .i64 a0_0,.int .i64 a0_1,.bool a0_2]) (t:=35) ?hr ?_;(case hd=>rfl);(case hg=>rfl);(case hr=>exact zq14);intro gb101 hg w9 hbox hb;have n0_:=am (below_step zq0 hb);have n1_:=am (hbox);have n2_:=am ((by rw [hg];exact (below_size zq0):w.heap.size≤gb101));have n3_:=am ((by rw [hg];exact (below_size zq0):w.heap.size≤gb101));clear HB;have HB:=n0_;have BK101:=n1_;have GW101:=n2_;have GE101:=n3_;clear n0_ n1_ n2_ n3_;clear hb hbox hg)|((with_reducible refine gate_dst (N:=3) rfl ?_);refine box_event ?hg (N:=3) ?hd (cs:=#[.int .i64 a1_0,.int .i64 a1_1,.bool a1_2]) (t:=35) ?hr ?_;(case hd=>rfl);(case hg=>rfl);(case hr=>exact zq14);intro gb102 hg w10 hbox hb;have n0_:=am (blk_below (g:=gb101) (o:=.cells #[.int .i64 a0_0,.int .i64 a0_1,.bool a0_2] 35 (0,0)) zq4 hb);have n1_:=am (below_step zq5 hb);have n2_:=am (hbox);have n3_:=am ((by rw [hg];exact (below_size zq5):w.heap.size≤gb102));have n4_:=am ((by rw [hg];exact (below_size zq5):w.heap.size≤gb102));have n5_:=am ((by rw [hg];exact Nat.ne_of_lt (blk_lt (g:=gb101) (o:=.cells #[.int .i64 a0_0,.int .i64 a0_1,.bool a0_2] 35 (0,0)) zq4):gb101≠gb102));have n6_:=am ((by rw [hg];exact Nat.ne_of_gt (blk_lt (g:=gb101) (o:=.cells #[.int .i64 a0_0,.int .i64 a0_1,.bool a0_2] 35 (0,0)) zq4):gb102≠gb101));clear BK101;clear HB;have BK101:=n0_;have HB:=n1_;have BK102:=n2_;have GW102:=n3_;have GE102:=n4_;have NB101_102:=n5_;have NB102_101:=n6_;clear n0_ n1_ n2_ n3_ n4_ n5_ n6_;clear hb hbox hg;have hnb11:=NB101_102.out;have hnc11:=NB102_101.out;have hcz12_0:w10.cell? ⟨gb101,0,none⟩=some (.int .i64 a0_0):=(blk_cell BK101.out 0).trans rfl;have hcz12_1:w10.cell? ⟨gb101,1,none⟩=some (.int .i64 a0_1):=(blk_cell BK101.out 1).trans rfl;have hcz12_2:w10.cell? ⟨gb101,2,none⟩=some (.bool a0_2):=(blk_cell BK101.out 2).trans rfl;have hfz12_0:=blk_frozen BK101.out 0;have hfz12_1:=blk_frozen BK101.out 1;have hfz12_2:=blk_frozen BK101.out 2;have hcz13_0:w10.cell? ⟨gb102,0,none⟩=some (.int .i64 a1_0):=(blk_cell BK102.out 0).trans rfl;have hcz13_1:w10.cell? ⟨gb102,1,none⟩=some (.int .i64 a1_1):=(blk_cell BK102.out 1).trans rfl;have hcz13_2:w10.cell? ⟨gb102,2,none⟩=some (.bool a1_2):=(blk_cell BK102.out 2).trans rfl;have hfz13_0:=blk_frozen BK102.out 0;have hfz13_1:=blk_frozen BK102.out 1;have hfz13_2:=blk_frozen BK102.out 2))
  go_ret
  exact ⟨by first|rfl|(simp [errW_none,errW_some,IntKind.wrap_i64,wrap64];done)|(simp [errW_none,errW_some] <;> rfl)|(simp [*,errW_none,errW_some] <;> rfl),by repeat (first|(with_reducible first|exact HB.out|apply below_alloc|apply pw_below_drewN|apply below_drew1|refine below_set ?_ GE101.out|refine below_set ?_ GE102.out)|exact HB.out)⟩
def impl_stepFaults.f (a0_0:Int) (a0_1:Int) (a0_2:Bool) (a1_0:Int) (a1_1:Int) (a1_2:Bool):Option (Int × Bool):=(impl_Entry_agree.f a0_0 a0_1 a0_2 a1_0 a1_1 a1_2).bind fun t103=>(if t103=true then (some (0,true)) else (some (1,(a0_2 == a1_2))))
set_option maxHeartbeats 8000000 in
set_option maxRecDepth 100000 in
theorem impl_stepFaults.calls (a0_0:Int) (a0_1:Int) (a0_2:Bool) (a1_0:Int) (a1_1:Int) (a1_2:Bool) (r1:Int) (r2:Bool) (w:World) (h:impl_stepFaults.f a0_0 a0_1 a0_2 a1_0 a1_1 a1_2=some (r1,r2)) :
  Calls Try.prog 65 #[.agg #[.int .i64 a0_0,.int .i64 a0_1,.bool a0_2],.agg #[.int .i64 a1_0,.int .i64 a1_1,.bool a1_2]] w fun e w'=>e=.returned (.tuple #[.int .i64 r1,.bool r2])∧Below w.heap.size w w':=by
 have hu35:=Try.underlying35;have HB:=am (Below.refl w.heap.size w);have H:((impl_Entry_agree.f a0_0 a0_1 a0_2 a1_0 a1_1 a1_2).bind fun t103=>(if t103=true then (some (0,true)) else (some (1,(a0_2 == a1_2)))))=some (r1,r2):=h;clear h;replace H:=Option.bind_eq_some_iff.mp H;obtain ⟨t103,A30,H⟩:=H;replace H:(if t103=true then (some (0,true)) else (some (1,(a0_2 == a1_2))))=some (r1,r2):=H;have A3:=am A30;clear A30
 by_cases c4:t103=true
 ·subst c4
  have H1:(some (0,true))=some (r1,r2):=by rw [if_pos rfl] at H;exact H
  clear H;have H:=H1;clear H1;simp only [Option.some.injEq,Prod.mk.injEq] at H;obtain ⟨rfl,rfl⟩:=H
  go_enter Try.func65,Try.ntmps65
  go_wp2_with (first|((with_reducible refine gate_dst (N:=2) rfl ?_);refine box_event ?hg (N:=2) ?hd (cs:=#[.int .i64 a0_0,.int .i64 a0_1,.bool a0_2]) (t:=35) ?hr ?_;(case hd=>rfl);(case hg=>rfl);(case hr=>exact zq14);intro gb101 hg w5 hbox hb;have n0_:=am (below_step zq0 hb);have n1_:=am (hbox);have n2_:=am ((by rw [hg];exact (below_size zq0):w.heap.size≤gb101));have n3_:=am ((by rw [hg];exact (below_size zq0):w.heap.size≤gb101));clear HB;have HB:=n0_;have BK101:=n1_;have GW101:=n2_;have GE101:=n3_;clear n0_ n1_ n2_ n3_;clear hb hbox hg)|((with_reducible refine gate_dst (N:=3) rfl ?_);refine box_event ?hg (N:=3) ?hd (cs:=#[.int .i64 a1_0,.int .i64 a1_1,.bool a1_2]) (t:=35) ?hr ?_;(case hd=>rfl);(case hg=>rfl);(case hr=>exact zq14);intro gb102 hg w6 hbox hb;have n0_:=am (blk_below (g:=gb101) (o:=.cells #[.int .i64 a0_0,.int .i64 a0_1,.bool a0_2] 35 (0,0)) zq4 hb);have n1_:=am (below_step zq5 hb);have n2_:=am (hbox);have n3_:=am ((by rw [hg];exact (below_size zq5):w.heap.size≤gb102));have n4_:=am ((by rw [hg];exact (below_size zq5):w.heap.size≤gb102));have n5_:=am ((by rw [hg];exact Nat.ne_of_lt (blk_lt (g:=gb101) (o:=.cells #[.int .i64 a0_0,.int .i64 a0_1,.bool a0_2] 35 (0,0)) zq4):gb101≠gb102));have n6_:=am ((by rw [hg];exact Nat.ne_of_gt (blk_lt (g:=gb101) (o:=.cells #[.int .i64 a0_0,.int .i64 a0_1,.bool a0_2] 35 (0,0)) zq4):gb102≠gb101));clear BK101;clear HB;have BK101:=n0_;have HB:=n1_;have BK102:=n2_;have GW102:=n3_;have GE102:=n4_;have NB101_102:=n5_;have NB102_101:=n6_;clear n0_ n1_ n2_ n3_ n4_ n5_ n6_;clear hb hbox hg;have hnb7:=NB101_102.out;have hnc7:=NB102_101.out;have hcz8_0:w6.cell? ⟨gb101,0,none⟩=some (.int .i64 a0_0):=(blk_cell BK101.out 0).trans rfl;have hcz8_1:w6.cell? ⟨gb101,1,none⟩=some (.int .i64 a0_1):=(blk_cell BK101.out 1).trans rfl;have hcz8_2:w6.cell? ⟨gb101,2,none⟩=some (.bool a0_2):=(blk_cell BK101.out 2).trans rfl;have hfz8_0:=blk_frozen BK101.out 0;have hfz8_1:=blk_frozen BK101.out 1;have hfz8_2:=blk_frozen BK101.out 2;have hcz9_0:w6.cell? ⟨gb102,0,none⟩=some (.int .i64 a1_0):=(blk_cell BK102.out 0).trans rfl;have hcz9_1:w6.cell? ⟨gb102,1,none⟩=some (.int .i64 a1_1):=(blk_cell BK102.out 1).trans rfl;have hcz9_2:w6.cell? ⟨gb102,2,none⟩=some (.bool a1_2):=(blk_cell BK102.out 2).trans rfl;have hfz9_0:=blk_frozen BK102.out 0;have hfz9_1:=blk_frozen BK102.out 1;have hfz9_2:=blk_frozen BK102.out 2)|(go_at_call 85;(with_reducible refine (impl_Entry_agree.calls a0_0 a0_1 a0_2 a1_0 a1_1 a1_2 true _ A3.out).mono ?_);rintro e w10 ⟨rfl,hb⟩;have n0_:=am (blk_below (g:=gb101) (o:=.cells #[.int .i64 a0_0,.int .i64 a0_1,.bool a0_2] 35 (0,0)) zq4 hb);have n1_:=am (blk_below (g:=gb102) (o:=.cells #[.int .i64 a1_0,.int .i64 a1_1,.bool a1_2] 35 (0,0)) zq10 hb);have n2_:=am (below_step zq6 hb);clear BK101;clear BK102;clear HB;have BK101:=n0_;have BK102:=n1_;have HB:=n2_;clear n0_ n1_ n2_;(try clear hb);(try clear hb2);(try clear hk);(try clear hi)))
  repeat (go_quiet (fail);try go_wp2)
  go_ret2
  exact ⟨by first|rfl|(simp [errW_none,errW_some,IntKind.wrap_i64,wrap64];done)|(simp [errW_none,errW_some] <;> rfl)|(simp [*,errW_none,errW_some] <;> rfl),by repeat (first|(with_reducible first|exact HB.out|apply below_alloc|apply pw_below_drewN|apply below_drew1|refine below_set ?_ GE101.out|refine below_set ?_ GE102.out)|exact HB.out)⟩
 ·replace c4:=Bool.eq_false_iff.mpr c4;subst c4
  have H1:(some (1,(a0_2 == a1_2)))=some (r1,r2):=by rw [if_neg (show ¬ (false=true) by decide)] at H;exact H
  clear H;have H:=H1;clear H1;simp only [Option.some.injEq,Prod.mk.injEq] at H;obtain ⟨rfl,rfl⟩:=H
  go_enter Try.func65,Try.ntmps65
  go_wp2_with (first|((with_reducible refine gate_dst (N:=2) rfl ?_);refine box_event ?hg (N:=2) ?hd (cs:=#[.int .i64 a0_0,.int .i64 a0_1,.bool a0_2]) (t:=35) ?hr ?_;(case hd=>rfl);(case hg=>rfl);(case hr=>exact zq14);intro gb101 hg w11 hbox hb;have n0_:=am (below_step zq0 hb);have n1_:=am (hbox);have n2_:=am ((by rw [hg];exact (below_size zq0):w.heap.size≤gb101));have n3_:=am ((by rw [hg];exact (below_size zq0):w.heap.size≤gb101));clear HB;have HB:=n0_;have BK101:=n1_;have GW101:=n2_;have GE101:=n3_;clear n0_ n1_ n2_ n3_;clear hb hbox hg)|((with_reducible refine gate_dst (N:=3) rfl ?_);refine box_event ?hg (N:=3) ?hd (cs:=#[.int .i64 a1_0,.int .i64 a1_1,.bool a1_2]) (t:=35) ?hr ?_;(case hd=>rfl);(case hg=>rfl);(case hr=>exact zq14);intro gb102 hg w12 hbox hb;have n0_:=am (blk_below (g:=gb101) (o:=.cells #[.int .i64 a0_0,.int .i64 a0_1,.bool a0_2] 35 (0,0)) zq4 hb);have n1_:=am (below_step zq5 hb);have n2_:=am (hbox);have n3_:=am ((by rw [hg];exact (below_size zq5):w.heap.size≤gb102));have n4_:=am ((by rw [hg];exact (below_size zq5):w.heap.size≤gb102));have n5_:=am ((by rw [hg];exact Nat.ne_of_lt (blk_lt (g:=gb101) (o:=.cells #[.int .i64 a0_0,.int .i64 a0_1,.bool a0_2] 35 (0,0)) zq4):gb101≠gb102));have n6_:=am ((by rw [hg];exact Nat.ne_of_gt (blk_lt (g:=gb101) (o:=.cells #[.int .i64 a0_0,.int .i64 a0_1,.bool a0_2] 35 (0,0)) zq4):gb102≠gb101));clear BK101;clear HB;have BK101:=n0_;have HB:=n1_;have BK102:=n2_;have GW102:=n3_;have GE102:=n4_;have NB101_102:=n5_;have NB102_101:=n6_;clear n0_ n1_ n2_ n3_ n4_ n5_ n6_;clear hb hbox hg;have hnb13:=NB101_102.out;have hnc13:=NB102_101.out;have hcz14_0:w12.cell? ⟨gb101,0,none⟩=some (.int .i64 a0_0):=(blk_cell BK101.out 0).trans rfl;have hcz14_1:w12.cell? ⟨gb101,1,none⟩=some (.int .i64 a0_1):=(blk_cell BK101.out 1).trans rfl;have hcz14_2:w12.cell? ⟨gb101,2,none⟩=some (.bool a0_2):=(blk_cell BK101.out 2).trans rfl;have hfz14_0:=blk_frozen BK101.out 0;have hfz14_1:=blk_frozen BK101.out 1;have hfz14_2:=blk_frozen BK101.out 2;have hcz15_0:w12.cell? ⟨gb102,0,none⟩=some (.int .i64 a1_0):=(blk_cell BK102.out 0).trans rfl;have hcz15_1:w12.cell? ⟨gb102,1,none⟩=some (.int .i64 a1_1):=(blk_cell BK102.out 1).trans rfl;have hcz15_2:w12.cell? ⟨gb102,2,none⟩=some (.bool a1_2):=(blk_cell BK102.out 2).trans rfl;have hfz15_0:=blk_frozen BK102.out 0;have hfz15_1:=blk_frozen BK102.out 1;have hfz15_2:=blk_frozen BK102.out 2)|(go_at_call 85;(with_reducible refine (impl_Entry_agree.calls a0_0 a0_1 a0_2 a1_0 a1_1 a1_2 false _ A3.out).mono ?_);rintro e w16 ⟨rfl,hb⟩;have n0_:=am (blk_below (g:=gb101) (o:=.cells #[.int .i64 a0_0,.int .i64 a0_1,.bool a0_2] 35 (0,0)) zq4 hb);have n1_:=am (blk_below (g:=gb102) (o:=.cells #[.int .i64 a1_0,.int .i64 a1_1,.bool a1_2] 35 (0,0)) zq10 hb);have n2_:=am (below_step zq6 hb);clear BK101;clear BK102;clear HB;have BK101:=n0_;have BK102:=n1_;have HB:=n2_;clear n0_ n1_ n2_;(try clear hb);(try clear hb2);(try clear hk);(try clear hi);have hcz17_0:w16.cell? ⟨gb101,0,none⟩=some (.int .i64 a0_0):=(blk_cell BK101.out 0).trans rfl;have hcz17_1:w16.cell? ⟨gb101,1,none⟩=some (.int .i64 a0_1):=(blk_cell BK101.out 1).trans rfl;have hcz17_2:w16.cell? ⟨gb101,2,none⟩=some (.bool a0_2):=(blk_cell BK101.out 2).trans rfl;have hfz17_0:=blk_frozen BK101.out 0;have hfz17_1:=blk_frozen BK101.out 1;have hfz17_2:=blk_frozen BK101.out 2;have hcz18_0:w16.cell? ⟨gb102,0,none⟩=some (.int .i64 a1_0):=(blk_cell BK102.out 0).trans rfl;have hcz18_1:w16.cell? ⟨gb102,1,none⟩=some (.int .i64 a1_1):=(blk_cell BK102.out 1).trans rfl;have hcz18_2:w16.cell? ⟨gb102,2,none⟩=some (.bool a1_2):=(blk_cell BK102.out 2).trans rfl;have hfz18_0:=blk_frozen BK102.out 0;have hfz18_1:=blk_frozen BK102.out 1;have hfz18_2:=blk_frozen BK102.out 2))
  repeat (go_quiet (fail);try go_wp2)
  go_ret2
  exact ⟨by first|rfl|(simp [errW_none,errW_some,IntKind.wrap_i64,wrap64];done)|(simp [errW_none,errW_some] <;> rfl)|(simp [*,errW_none,errW_some] <;> rfl),by repeat (first|(with_reducible first|exact HB.out|apply below_alloc|apply pw_below_drewN|apply below_drew1|refine below_set ?_ GE101.out|refine below_set ?_ GE102.out)|exact HB.out)⟩
def impl_faults_1.f (l0:List (List Int)) (a1:Int) (a2:Int) (l3:List (S35)) (l4:List (S35)):Option (Int):=if a1=(l3.length:Int) then (some (wrap64 (2 * (wrap64 ((l4.length:Int) - a2))))) else (if a2=(l4.length:Int) then (some (wrap64 (1 * (wrap64 ((l3.length:Int) - a1))))) else (if 0≤(wrap64 (a1 + 1)) then (if (wrap64 (a1 + 1)) < (l0.length:Int) then (if 0≤a2 then (if a2 < ((rd_L7 l0 (wrap64 (a1 + 1))).length:Int) then (if 0≤a1 then (if a1 < (l0.length:Int) then (if 0≤(wrap64 (a2 + 1)) then (if (wrap64 (a2 + 1)) < ((rd_L7 l0 a1).length:Int) then (if a1 < (l3.length:Int) then (if a2 < (l4.length:Int) then ((impl_stepFaults.f ((rd_T35 l3 a1).f0) ((rd_T35 l3 a1).f1) ((rd_T35 l3 a1).f2) ((rd_T35 l4 a2).f0) ((rd_T35 l4 a2).f1) ((rd_T35 l4 a2).f2)).bind fun bt107=>(if bt107.2=true then (if (wrap64 (a2 + 1)) < ((rd_L7 l0 (wrap64 (a1 + 1))).length:Int) then (some (mn (mn (wrap64 ((rd (rd_L7 l0 (wrap64 (a1 + 1))) a2) + 1)) (wrap64 ((rd (rd_L7 l0 a1) (wrap64 (a2 + 1))) + 2))) (wrap64 ((rd (rd_L7 l0 (wrap64 (a1 + 1))) (wrap64 (a2 + 1))) + bt107.1)))) else (none)) else (some (mn (wrap64 ((rd (rd_L7 l0 (wrap64 (a1 + 1))) a2) + 1)) (wrap64 ((rd (rd_L7 l0 a1) (wrap64 (a2 + 1))) + 2)))))) else (none)) else (none)) else (none)) else (none)) else (none)) else (none)) else (none)) else (none)) else (none)) else (none)))
def impl_faults_1.T5:Bool × List (List Nat × List Nat):=(true,[([],[]),([],[]),([1],[1]),([0,2],[0,2]),([3],[3]),([],[]),([4,5],[4,5]),([6],[6]),([7],[7]),([],[]),([],[]),([9,10],[9,10]),([11],[11]),([],[]),([13],[13]),([12,14],[12,14]),([15],[15]),([16],[16]),([8,17],[8,17]),([18,0,1,2,3,4,5,6,7,8,9,10,11,12,13,14,15,16,17,18],[18])])
def impl_faults_1.B5:List Nat:=[0,0,2,7,15,0,63,127,255,0,0,1536,3584,0,8192,32256,65024,130560,262143,524287]
theorem impl_faults_1.tab5:rtab .any (opsOf Try.f64 5)=impl_faults_1.T5:=by kernel_rfl
theorem impl_faults_1.bits5:waitsOk impl_faults_1.T5.2 impl_faults_1.B5=true:=by kernel_rfl
def impl_faults_1.T6:Bool × List (List Nat × List Nat):=(true,[([],[]),([],[]),([0,1],[0,1]),([2],[2]),([],[]),([],[]),([4,5],[4,5]),([6],[6]),([3,7],[3,7]),([8],[8]),([9],[9]),([9],[9]),([10,8,0,1,2,3,4,5,6,7,8,9,10],[10]),([11,12,0,1,2,3,4,5,6,7,8,9,10,11,12],[11])])
def impl_faults_1.B6:List Nat:=[0,0,3,7,0,0,48,112,255,511,1023,1023,2047,8191]
theorem impl_faults_1.tab6:rtab .any (opsOf Try.f64 6)=impl_faults_1.T6:=by kernel_rfl
theorem impl_faults_1.bits6:waitsOk impl_faults_1.T6.2 impl_faults_1.B6=true:=by kernel_rfl
set_option maxHeartbeats 8000000 in
set_option maxRecDepth 100000 in
theorem impl_faults_1.calls (A0:Option Addr) (c0:Nat) (l0:List (List Int)) (a1:Int) (a2:Int) (A3:Option Addr) (c3:Nat) (l3:List (S35)) (b3:Nat) (A4:Option Addr) (c4:Nat) (l4:List (S35)) (b4:Nat) (r:Int) (w:World) (hr0:Kd.C (Kd.slice 2 (Kd.int .i64)) w A0 l0.length l0) (hc0:l0.length≤c0) (hr3:Kd.C k35 w A3 l3.length l3) (hc3:l3.length≤c3) (hr4:Kd.C k35 w A4 l4.length l4) (hc4:l4.length≤c4) (hb3:w.heap[b3]?=some (.cells #[.slice A3 l3.length c3] 25 (0,0))) (hb4:w.heap[b4]?=some (.cells #[.slice A4 l4.length c4] 25 (0,0))) (hn3_4:b3≠b4) (h:impl_faults_1.f l0 a1 a2 l3 l4=some r) :
  Calls Try.prog 64 #[.slice A0 l0.length c0,.int .i64 a1,.int .i64 a2,.pointer (some ⟨b3,0,none⟩),.pointer (some ⟨b4,0,none⟩)] w fun e w'=>e=.returned (.int .i64 r)∧Below w.heap.size w w':=by
 have hu35:=Try.underlying35;have HR0:=am hr0;have HC0:=am hc0;clear hr0 hc0;have HR3:=am hr3;have HC3:=am hc3;clear hr3 hc3;have HR4:=am hr4;have HC4:=am hc4;clear hr4 hc4;have BK3:=am hb3;clear hb3;have BK4:=am hb4;clear hb4;have NB3_4:=am hn3_4;have NB4_3:=am (Ne.symm hn3_4);clear hn3_4;have HB:=am (Below.refl w.heap.size w);have H:(if a1=(l3.length:Int) then (some (wrap64 (2 * (wrap64 ((l4.length:Int) - a2))))) else (if a2=(l4.length:Int) then (some (wrap64 (1 * (wrap64 ((l3.length:Int) - a1))))) else (if 0≤(wrap64 (a1 + 1)) then (if (wrap64 (a1 + 1)) < (l0.length:Int) then (if 0≤a2 then (if a2 < ((rd_L7 l0 (wrap64 (a1 + 1))).length:Int) then (if 0≤a1 then (if a1 < (l0.length:Int) then (if 0≤(wrap64 (a2 + 1)) then (if (wrap64 (a2 + 1)) < ((rd_L7 l0 a1).length:Int) then (if a1 < (l3.length:Int) then (if a2 < (l4.length:Int) then ((impl_stepFaults.f ((rd_T35 l3 a1).f0) ((rd_T35 l3 a1).f1) ((rd_T35 l3 a1).f2) ((rd_T35 l4 a2).f0) ((rd_T35 l4 a2).f1) ((rd_T35 l4 a2).f2)).bind fun bt107=>(if bt107.2=true then (if (wrap64 (a2 + 1)) < ((rd_L7 l0 (wrap64 (a1 + 1))).length:Int) then (some (mn (mn (wrap64 ((rd (rd_L7 l0 (wrap64 (a1 + 1))) a2) + 1)) (wrap64 ((rd (rd_L7 l0 a1) (wrap64 (a2 + 1))) + 2))) (wrap64 ((rd (rd_L7 l0 (wrap64 (a1 + 1))) (wrap64 (a2 + 1))) + bt107.1)))) else (none)) else (some (mn (wrap64 ((rd (rd_L7 l0 (wrap64 (a1 + 1))) a2) + 1)) (wrap64 ((rd (rd_L7 l0 a1) (wrap64 (a2 + 1))) + 2)))))) else (none)) else (none)) else (none)) else (none)) else (none)) else (none)) else (none)) else (none)) else (none)) else (none))))=some r:=h;clear h
 by_cases c6:a1=(l3.length:Int)
 ·rw [if_pos c6] at H;have c6b0:=beq_iff_eq.mpr c6;have c6b1:=bne_eq_false_iff_eq.mpr c6;clear c6;obtain rfl:=Option.some.inj H;have hnb7:=NB3_4.out;have hnc7:=NB4_3.out;have hcz8_0:w.cell? ⟨b3,0,none⟩=some (.slice A3 l3.length c3):=(blk_cell BK3.out 0).trans rfl;have hfz8_0:=blk_frozen BK3.out 0;have hcz9_0:w.cell? ⟨b4,0,none⟩=some (.slice A4 l4.length c4):=(blk_cell BK4.out 0).trans rfl;have hfz9_0:=blk_frozen BK4.out 0
  go_enter Try.func64,Try.ntmps64
  go_wp2
  go_ret
  exact ⟨by first|rfl|(simp [errW_none,errW_some,IntKind.wrap_i64,wrap64];done)|(simp [errW_none,errW_some] <;> rfl)|(simp [*,errW_none,errW_some] <;> rfl),by repeat (first|(with_reducible first|exact HB.out|apply below_alloc|apply pw_below_drewN|apply below_drew1|refine below_set ?_ GE3.out|refine below_set ?_ GE4.out)|exact HB.out)⟩
 ·rw [if_neg c6] at H;have c6b0:=beq_eq_false_iff_ne.mpr c6;have c6b1:=bne_iff_ne.mpr c6
  by_cases c10:a2=(l4.length:Int)
  ·rw [if_pos c10] at H;have c10b0:=beq_iff_eq.mpr c10;have c10b1:=bne_eq_false_iff_eq.mpr c10;clear c10;obtain rfl:=Option.some.inj H;have hnb11:=NB3_4.out;have hnc11:=NB4_3.out;have hcz12_0:w.cell? ⟨b3,0,none⟩=some (.slice A3 l3.length c3):=(blk_cell BK3.out 0).trans rfl;have hfz12_0:=blk_frozen BK3.out 0;have hcz13_0:w.cell? ⟨b4,0,none⟩=some (.slice A4 l4.length c4):=(blk_cell BK4.out 0).trans rfl;have hfz13_0:=blk_frozen BK4.out 0
   go_enter Try.func64,Try.ntmps64
   go_wp2
   go_ret
   exact ⟨by first|rfl|(simp [errW_none,errW_some,IntKind.wrap_i64,wrap64];done)|(simp [errW_none,errW_some] <;> rfl)|(simp [*,errW_none,errW_some] <;> rfl),by repeat (first|(with_reducible first|exact HB.out|apply below_alloc|apply pw_below_drewN|apply below_drew1|refine below_set ?_ GE3.out|refine below_set ?_ GE4.out)|exact HB.out)⟩
  ·rw [if_neg c10] at H;have c10b0:=beq_eq_false_iff_ne.mpr c10;have c10b1:=bne_iff_ne.mpr c10;obtain ⟨ji14,hji14⟩:∃ j_:Int,(wrap64 (a1 + 1))=j_:=⟨_,rfl⟩
   replace H:(if 0≤(ji14) then (if (ji14) < (l0.length:Int) then (if 0≤a2 then (if a2 < ((rd_L7 l0 (ji14)).length:Int) then (if 0≤a1 then (if a1 < (l0.length:Int) then (if 0≤(wrap64 (a2 + 1)) then (if (wrap64 (a2 + 1)) < ((rd_L7 l0 a1).length:Int) then (if a1 < (l3.length:Int) then (if a2 < (l4.length:Int) then ((impl_stepFaults.f ((rd_T35 l3 a1).f0) ((rd_T35 l3 a1).f1) ((rd_T35 l3 a1).f2) ((rd_T35 l4 a2).f0) ((rd_T35 l4 a2).f1) ((rd_T35 l4 a2).f2)).bind fun bt107=>(if bt107.2=true then (if (wrap64 (a2 + 1)) < ((rd_L7 l0 (ji14)).length:Int) then (some (mn (mn (wrap64 ((rd (rd_L7 l0 (ji14)) a2) + 1)) (wrap64 ((rd (rd_L7 l0 a1) (wrap64 (a2 + 1))) + 2))) (wrap64 ((rd (rd_L7 l0 (ji14)) (wrap64 (a2 + 1))) + bt107.1)))) else (none)) else (some (mn (wrap64 ((rd (rd_L7 l0 (ji14)) a2) + 1)) (wrap64 ((rd (rd_L7 l0 a1) (wrap64 (a2 + 1))) + 2)))))) else (none)) else (none)) else (none)) else (none)) else (none)) else (none)) else (none)) else (none)) else (none)) else (none))=some r:=by first|(rw [hji14] at H;exact H)|(simp only [hji14] at H ⊢;exact H)
   have hji14w:(IntKind.i64.wrap (a1 + 1))=ji14:=(i64_w _).trans hji14
   by_cases c15:0≤(ji14)
   ·rw [if_pos c15] at H;have c15b0:=decide_eq_true c15;clear c15
    by_cases c16:(ji14) < (l0.length:Int)
    ·rw [if_pos c16] at H;have c16b0:=decide_eq_true c16;clear c16
     by_cases c17:0≤a2
     ·rw [if_pos c17] at H;have c17b0:=decide_eq_true c17;clear c17
      by_cases c18:a2 < ((rd_L7 l0 (ji14)).length:Int)
      ·rw [if_pos c18] at H;have c18b0:=decide_eq_true c18;clear c18
       by_cases c19:0≤a1
       ·rw [if_pos c19] at H;have c19b0:=decide_eq_true c19;clear c19
        by_cases c20:a1 < (l0.length:Int)
        ·rw [if_pos c20] at H;have c20b0:=decide_eq_true c20;clear c20;obtain ⟨ji21,hji21⟩:∃ j_:Int,(wrap64 (a2 + 1))=j_:=⟨_,rfl⟩
         replace H:(if 0≤(ji21) then (if (ji21) < ((rd_L7 l0 a1).length:Int) then (if a1 < (l3.length:Int) then (if a2 < (l4.length:Int) then ((impl_stepFaults.f ((rd_T35 l3 a1).f0) ((rd_T35 l3 a1).f1) ((rd_T35 l3 a1).f2) ((rd_T35 l4 a2).f0) ((rd_T35 l4 a2).f1) ((rd_T35 l4 a2).f2)).bind fun bt107=>(if bt107.2=true then (if (ji21) < ((rd_L7 l0 (ji14)).length:Int) then (some (mn (mn (wrap64 ((rd (rd_L7 l0 (ji14)) a2) + 1)) (wrap64 ((rd (rd_L7 l0 a1) (ji21)) + 2))) (wrap64 ((rd (rd_L7 l0 (ji14)) (ji21)) + bt107.1)))) else (none)) else (some (mn (wrap64 ((rd (rd_L7 l0 (ji14)) a2) + 1)) (wrap64 ((rd (rd_L7 l0 a1) (ji21)) + 2)))))) else (none)) else (none)) else (none)) else (none))=some r:=by first|(rw [hji21] at H;exact H)|(simp only [hji21] at H ⊢;exact H)
         have hji21w:(IntKind.i64.wrap (a2 + 1))=ji21:=(i64_w _).trans hji21
         by_cases c22:0≤(ji21)
         ·rw [if_pos c22] at H;have c22b0:=decide_eq_true c22;clear c22
          by_cases c23:(ji21) < ((rd_L7 l0 a1).length:Int)
          ·rw [if_pos c23] at H;have c23b0:=decide_eq_true c23;clear c23;obtain ⟨ji24,hji24⟩:∃ j_:Int,(mn (wrap64 ((rd (rd_L7 l0 (ji14)) a2) + 1)) (wrap64 ((rd (rd_L7 l0 a1) (ji21)) + 2)))=j_:=⟨_,rfl⟩
           replace H:(if a1 < (l3.length:Int) then (if a2 < (l4.length:Int) then ((impl_stepFaults.f ((rd_T35 l3 a1).f0) ((rd_T35 l3 a1).f1) ((rd_T35 l3 a1).f2) ((rd_T35 l4 a2).f0) ((rd_T35 l4 a2).f1) ((rd_T35 l4 a2).f2)).bind fun bt107=>(if bt107.2=true then (if (ji21) < ((rd_L7 l0 (ji14)).length:Int) then (some (mn (ji24) (wrap64 ((rd (rd_L7 l0 (ji14)) (ji21)) + bt107.1)))) else (none)) else (some ji24))) else (none)) else (none))=some r:=by first|(rw [hji24] at H;exact H)|(simp only [hji24] at H ⊢;exact H)
           have hji24_:(if (wrap64 ((rd (rd_L7 l0 a1) (ji21)) + 2)) < (wrap64 ((rd (rd_L7 l0 (ji14)) a2) + 1)) then (wrap64 ((rd (rd_L7 l0 a1) (ji21)) + 2)) else (wrap64 ((rd (rd_L7 l0 (ji14)) a2) + 1)))=ji24:=hji24
           by_cases c25:a1 < (l3.length:Int)
           ·rw [if_pos c25] at H;have c25b0:=decide_eq_true c25;clear c25
            by_cases c26:a2 < (l4.length:Int)
            ·rw [if_pos c26] at H;have c26b0:=decide_eq_true c26;clear c26;replace H:=Option.bind_eq_some_iff.mp H;obtain ⟨⟨t107,t108⟩,A270,H⟩:=H;replace H:(if t108=true then (if (ji21) < ((rd_L7 l0 (ji14)).length:Int) then (some (mn (ji24) (wrap64 ((rd (rd_L7 l0 (ji14)) (ji21)) + t107)))) else (none)) else (some ji24))=some r:=H;have A27:=am A270;clear A270
             by_cases c28:t108=true
             ·subst c28
              have H1:(if (ji21) < ((rd_L7 l0 (ji14)).length:Int) then (some (mn (ji24) (wrap64 ((rd (rd_L7 l0 (ji14)) (ji21)) + t107)))) else (none))=some r:=by rw [if_pos rfl] at H;exact H
              clear H;have H:=H1;clear H1
              by_cases c29:(ji21) < ((rd_L7 l0 (ji14)).length:Int)
              ·rw [if_pos c29] at H;have c29b0:=decide_eq_true c29;clear c29;obtain ⟨ji30,hji30⟩:∃ j_:Int,(mn (ji24) (wrap64 ((rd (rd_L7 l0 (ji14)) (ji21)) + t107)))=j_:=⟨_,rfl⟩
               replace H:(some ji30)=some r:=by first|(rw [hji30] at H;exact H)|(simp only [hji30] at H ⊢;exact H)
               (try rw [hji30] at A27);have hji30_:(if (wrap64 ((rd (rd_L7 l0 (ji14)) (ji21)) + t107)) < (ji24) then (wrap64 ((rd (rd_L7 l0 (ji14)) (ji21)) + t107)) else (ji24))=ji30:=hji30;obtain rfl:=Option.some.inj H;have hnb31:=NB3_4.out;have hnc31:=NB4_3.out;have hcz32_0:w.cell? ⟨b3,0,none⟩=some (.slice A3 l3.length c3):=(blk_cell BK3.out 0).trans rfl;have hfz32_0:=blk_frozen BK3.out 0;have hcz33_0:w.cell? ⟨b4,0,none⟩=some (.slice A4 l4.length c4):=(blk_cell BK4.out 0).trans rfl;have hfz33_0:=blk_frozen BK4.out 0
               go_enter Try.func64,Try.ntmps64
               (try go_wp2);have n0_:=am (blk_drew BK3.out);have n1_:=am (blk_drew BK4.out);have n2_:=am (below_drew1 HB.out);clear BK3;clear BK4;clear HB;have BK3:=n0_;have BK4:=n1_;have HB:=n2_;clear n0_ n1_ n2_;have p101:0≤((ji14):Int):=of_decide_eq_true zq3;have q101:(ji14) < (l0.length:Int):=of_decide_eq_true zq3;obtain ⟨ad101,A101_0,c101_0,e101,hx101_0,hl101_0,hi101_0⟩:=at_L7 HR0.out (ji14) p101 q101;have hw101_0:=hx101_0;cases e101;replace hx101_0:=(HB.out.cell (World.block_lt_of_cell? w _ hx101_0)).trans hx101_0;have HR101_0:=am hi101_0;have HC101_0:=am hl101_0;clear hi101_0 hl101_0;replace p101:=eq_true p101;replace q101:=eq_true q101;have p102:0≤(a2:Int):=of_decide_eq_true zq3;have q102:a2 < ((rd_L7 l0 (ji14)).length:Int):=of_decide_eq_true zq3;obtain ⟨ad102,e102,hx102_0⟩:=Kd.at_int HR101_0.out a2 p102 q102;have hw102_0:=hx102_0;cases e102;replace hx102_0:=(HB.out.cell (World.block_lt_of_cell? w _ hx102_0)).trans hx102_0;replace p102:=eq_true p102;replace q102:=eq_true q102;have p103:0≤(a1:Int):=of_decide_eq_true zq3;have q103:a1 < (l0.length:Int):=of_decide_eq_true zq3;obtain ⟨ad103,A103_0,c103_0,e103,hx103_0,hl103_0,hi103_0⟩:=at_L7 HR0.out a1 p103 q103;have hw103_0:=hx103_0;obtain rfl:ad101=ad103:=(by injection e103);replace hx103_0:=(HB.out.cell (World.block_lt_of_cell? w _ hx103_0)).trans hx103_0;have HR103_0:=am hi103_0;have HC103_0:=am hl103_0;clear hi103_0 hl103_0;replace p103:=eq_true p103;replace q103:=eq_true q103;have p104:0≤((ji21):Int):=of_decide_eq_true zq3;have q104:(ji21) < ((rd_L7 l0 a1).length:Int):=of_decide_eq_true zq3;obtain ⟨ad104,e104,hx104_0⟩:=Kd.at_int HR103_0.out (ji21) p104 q104;have hw104_0:=hx104_0;cases e104;replace hx104_0:=(HB.out.cell (World.block_lt_of_cell? w _ hx104_0)).trans hx104_0;replace p104:=eq_true p104;replace q104:=eq_true q104;refine start_ (n:=20) (S:=fun w'=>w'.cell? (ad101.add ((ji14)).toNat)=some (.slice (some ad102) (rd_L7 l0 (ji14)).length c101_0)∧w'.cell? (ad102.add (a2).toNat)=some (.int .i64 (rd (rd_L7 l0 (ji14)) a2))∧w'.cell? (ad101.add (a1).toNat)=some (.slice (some ad104) (rd_L7 l0 a1).length c103_0)∧w'.cell? (ad104.add ((ji21)).toNat)=some (.int .i64 (rd (rd_L7 l0 a1) (ji21)))) (ds:=[]) #[false,false,false,false,false,false,false,false,false,false,false,false,false,false,false,false,false,false,false,false] zq19 rfl rfl ⟨((HB.out.cell (World.block_lt_of_cell? w _ hw101_0)).trans hw101_0),((HB.out.cell (World.block_lt_of_cell? w _ hw102_0)).trans hw102_0),((HB.out.cell (World.block_lt_of_cell? w _ hw103_0)).trans hw103_0),((HB.out.cell (World.block_lt_of_cell? w _ hw104_0)).trans hw104_0)⟩ (fun hHeld=>?_);refine with_tabW impl_faults_1.tab5 impl_faults_1.bits5 (fun HT_ HW_=>?_);generalize w.drew=w34 at BK3 BK4 HB HR101_0 HR103_0 hx101_0 hx102_0 hx103_0 hx104_0 hHeld ⊢;refine pw_ 0 32 ?_;refine pw_ 1 33 ?_;refine pw_ 2 34 ?_;refine pw_ 3 35 ?_;refine pw_ 5 37 ?_;refine pw_ 9 41 ?_;refine pw_ 10 42 ?_;refine pw_ 11 43 ?_;refine pw_ 13 45 ?_;refine pw_ 14 46 ?_;refine tw4_ 4 36 ?_;refine pw_ 6 38 ?_;refine tw4_ 7 39 ?_;refine pw_ 8 40 ?_;refine tw4_ 12 44 ?_;refine pw_ 15 47 ?_;refine tw4_ 16 48 ?_;refine pw_ 17 49 ?_;refine pw_ 18 50 ?_;refine pw_ 19 9 ?_;refine done_ (done_of HT_.out zq19) ?_;(try go_wp2);have n0_:=am (blk_drew BK3.out);have n1_:=am (blk_drew BK4.out);have n2_:=am (below_drew1 HB.out);clear BK3;clear BK4;clear HB;have BK3:=n0_;have BK4:=n1_;have HB:=n2_;clear n0_ n1_ n2_;have p105:0≤(a1:Int):=of_decide_eq_true zq3;have q105:a1 < (l3.length:Int):=of_decide_eq_true zq3;obtain ⟨ad105,e105,hx105_0,hx105_1,hx105_2⟩:=at_T35 HR3.out a1 p105 q105;have hw105_2:=hx105_2;have hw105_1:=hx105_1;have hw105_0:=hx105_0;cases e105;replace hx105_0:=(HB.out.cell (World.block_lt_of_cell? w _ hx105_0)).trans hx105_0;replace hx105_1:=(HB.out.cell (World.block_lt_of_cell? w _ hx105_1)).trans hx105_1;replace hx105_2:=(HB.out.cell (World.block_lt_of_cell? w _ hx105_2)).trans hx105_2;replace p105:=eq_true p105;replace q105:=eq_true q105;have p106:0≤(a2:Int):=of_decide_eq_true zq3;have q106:a2 < (l4.length:Int):=of_decide_eq_true zq3;obtain ⟨ad106,e106,hx106_0,hx106_1,hx106_2⟩:=at_T35 HR4.out a2 p106 q106;have hw106_2:=hx106_2;have hw106_1:=hx106_1;have hw106_0:=hx106_0;cases e106;replace hx106_0:=(HB.out.cell (World.block_lt_of_cell? w _ hx106_0)).trans hx106_0;replace hx106_1:=(HB.out.cell (World.block_lt_of_cell? w _ hx106_1)).trans hx106_1;replace hx106_2:=(HB.out.cell (World.block_lt_of_cell? w _ hx106_2)).trans hx106_2;replace p106:=eq_true p106;replace q106:=eq_true q106;refine start_ (n:=14) (S:=fun w'=>w'.cell? ⟨b3,0,none⟩=some (.slice (some ad105) l3.length c3)∧w'.cell? ⟨b4,0,none⟩=some (.slice (some ad106) l4.length c4)∧w'.cell? (ad105.add ((a1).toNat * 3))=some (.int .i64 ((rd_T35 l3 a1).f0))∧w'.cell? ⟨(ad105.add ((a1).toNat * 3)).block,(ad105.add ((a1).toNat * 3)).off + 1,none⟩=some (.int .i64 ((rd_T35 l3 a1).f1))∧w'.cell? ⟨(ad105.add ((a1).toNat * 3)).block,(ad105.add ((a1).toNat * 3)).off + 2,none⟩=some (.bool ((rd_T35 l3 a1).f2))∧w'.cell? (ad106.add ((a2).toNat * 3))=some (.int .i64 ((rd_T35 l4 a2).f0))∧w'.cell? ⟨(ad106.add ((a2).toNat * 3)).block,(ad106.add ((a2).toNat * 3)).off + 1,none⟩=some (.int .i64 ((rd_T35 l4 a2).f1))∧w'.cell? ⟨(ad106.add ((a2).toNat * 3)).block,(ad106.add ((a2).toNat * 3)).off + 2,none⟩=some (.bool ((rd_T35 l4 a2).f2))) (ds:=[]) #[false,false,false,false,false,false,false,false,false,false,false,false,false,false] zq19 rfl rfl ⟨(blk_cell BK3.out 0).trans rfl,(blk_cell BK4.out 0).trans rfl,((HB.out.cell (World.block_lt_of_cell? w _ hw105_0)).trans hw105_0),((HB.out.cell (World.block_lt_of_cell? w _ hw105_1)).trans hw105_1),((HB.out.cell (World.block_lt_of_cell? w _ hw105_2)).trans hw105_2),((HB.out.cell (World.block_lt_of_cell? w _ hw106_0)).trans hw106_0),((HB.out.cell (World.block_lt_of_cell? w _ hw106_1)).trans hw106_1),((HB.out.cell (World.block_lt_of_cell? w _ hw106_2)).trans hw106_2)⟩ (fun hHeld=>?_);refine with_tabW impl_faults_1.tab6 impl_faults_1.bits6 (fun HT_ HW_=>?_);generalize w34.drew=w35 at BK3 BK4 HB hx105_0 hx105_1 hx105_2 hx106_0 hx106_1 hx106_2 hHeld ⊢;refine pw_ 1 53 ?_;refine pw_ 5 57 ?_;refine tw8_ 0 52 ?_;refine pw_ 2 54 ?_;refine tw8_ 3 55 ?_;refine tw8_ 4 56 ?_;refine pw_ 6 58 ?_;refine tw8_ 7 59 ?_;refine ow_ 8 60 (fun K hK=>?_);refine goes_ Try.func65 zq19 rfl #[.agg #[.int .i64 ((rd_T35 l3 a1).f0),.int .i64 ((rd_T35 l3 a1).f1),.bool ((rd_T35 l3 a1).f2)],.agg #[.int .i64 ((rd_T35 l4 a2).f0),.int .i64 ((rd_T35 l4 a2).f1),.bool ((rd_T35 l4 a2).f2)]] (by rfl) rfl rfl zq1 ?_
               with_reducible refine (impl_stepFaults.calls ((rd_T35 l3 a1).f0) ((rd_T35 l3 a1).f1) ((rd_T35 l3 a1).f2) ((rd_T35 l4 a2).f0) ((rd_T35 l4 a2).f1) ((rd_T35 l4 a2).f2) t107 true _ A27.out).mono ?_
               rintro e w36 ⟨rfl,hb⟩
               refine ⟨_,rfl,?_⟩;have n0_:=am (blk_below (g:=b3) (o:=.cells #[.slice (some ad105) l3.length c3] 25 (0,0)) zq30 hb);have n1_:=am (blk_below (g:=b4) (o:=.cells #[.slice (some ad106) l4.length c4] 25 (0,0)) zq83 hb);have n2_:=am (below_step zq73 hb);clear BK3;clear BK4;clear HB;have BK3:=n0_;have BK4:=n1_;have HB:=n2_;clear n0_ n1_ n2_;(try clear hb);(try clear hb2);(try clear hk);(try clear hi);refine hK.out _ _ ⟨(blk_cell BK3.out 0).trans rfl,(blk_cell BK4.out 0).trans rfl,((HB.out.cell (World.block_lt_of_cell? w _ hw105_0)).trans hw105_0),((HB.out.cell (World.block_lt_of_cell? w _ hw105_1)).trans hw105_1),((HB.out.cell (World.block_lt_of_cell? w _ hw105_2)).trans hw105_2),((HB.out.cell (World.block_lt_of_cell? w _ hw106_0)).trans hw106_0),((HB.out.cell (World.block_lt_of_cell? w _ hw106_1)).trans hw106_1),((HB.out.cell (World.block_lt_of_cell? w _ hw106_2)).trans hw106_2)⟩ (fun hHeld=>?_);clear hK K;refine norm_ (a':=?_) ?_ ?_;rotate_left
               ·show Act.put _ (some 60) _=_
                simp only [Act.put,List.setIfInBounds_toArray,List.set_cons_zero,List.set_cons_succ,i64_w,i32_w];rfl
               refine pw_ 9 51 ?_;refine pw_ 10 61 ?_;refine pw_ 11 62 ?_;refine pw_ 12 10 ?_;refine pw_ 13 11 ?_;refine done_ (done_of HT_.out zq19) ?_;have p109:0≤((ji14):Int):=of_decide_eq_true zq3;have q109:(ji14) < (l0.length:Int):=of_decide_eq_true zq3;obtain ⟨ad109,A109_0,c109_0,e109,hx109_0,hl109_0,hi109_0⟩:=at_L7 HR0.out (ji14) p109 q109;obtain rfl:ad101=ad109:=(by injection e109);replace hx109_0:=(HB.out.cell (World.block_lt_of_cell? w _ hx109_0)).trans hx109_0;have HR109_0:=am hi109_0;have HC109_0:=am hl109_0;clear hi109_0 hl109_0;replace p109:=eq_true p109;replace q109:=eq_true q109;have p110:0≤((ji21):Int):=of_decide_eq_true zq3;have q110:(ji21) < ((rd_L7 l0 (ji14)).length:Int):=of_decide_eq_true zq3;obtain ⟨ad110,e110,hx110_0⟩:=Kd.at_int HR109_0.out (ji21) p110 q110;cases e110;replace hx110_0:=(HB.out.cell (World.block_lt_of_cell? w _ hx110_0)).trans hx110_0;replace p110:=eq_true p110;replace q110:=eq_true q110;(try go_wp2)
               go_ret
               exact ⟨by first|rfl|(simp [errW_none,errW_some,IntKind.wrap_i64,wrap64];done)|(simp [errW_none,errW_some] <;> rfl)|(simp only [← hji14,← hji21,← hji24,← hji30];first|rfl|(simp [errW_none,errW_some] <;> rfl))|(simp [*,errW_none,errW_some] <;> rfl),by repeat (first|(with_reducible first|exact HB.out|apply below_alloc|apply pw_below_drewN|apply below_drew1|refine below_set ?_ GE3.out|refine below_set ?_ GE4.out)|exact HB.out)⟩
              ·rw [if_neg c29] at H;exact absurd H (by simp)
             ·replace c28:=Bool.eq_false_iff.mpr c28;subst c28
              have H1:(some ji24)=some r:=by rw [if_neg (show ¬ (false=true) by decide)] at H;exact H
              clear H;have H:=H1;clear H1;obtain rfl:=Option.some.inj H;have hnb37:=NB3_4.out;have hnc37:=NB4_3.out;have hcz38_0:w.cell? ⟨b3,0,none⟩=some (.slice A3 l3.length c3):=(blk_cell BK3.out 0).trans rfl;have hfz38_0:=blk_frozen BK3.out 0;have hcz39_0:w.cell? ⟨b4,0,none⟩=some (.slice A4 l4.length c4):=(blk_cell BK4.out 0).trans rfl;have hfz39_0:=blk_frozen BK4.out 0
              go_enter Try.func64,Try.ntmps64
              (try go_wp2);have n0_:=am (blk_drew BK3.out);have n1_:=am (blk_drew BK4.out);have n2_:=am (below_drew1 HB.out);clear BK3;clear BK4;clear HB;have BK3:=n0_;have BK4:=n1_;have HB:=n2_;clear n0_ n1_ n2_;have p101:0≤((ji14):Int):=of_decide_eq_true zq3;have q101:(ji14) < (l0.length:Int):=of_decide_eq_true zq3;obtain ⟨ad101,A101_0,c101_0,e101,hx101_0,hl101_0,hi101_0⟩:=at_L7 HR0.out (ji14) p101 q101;have hw101_0:=hx101_0;cases e101;replace hx101_0:=(HB.out.cell (World.block_lt_of_cell? w _ hx101_0)).trans hx101_0;have HR101_0:=am hi101_0;have HC101_0:=am hl101_0;clear hi101_0 hl101_0;replace p101:=eq_true p101;replace q101:=eq_true q101;have p102:0≤(a2:Int):=of_decide_eq_true zq3;have q102:a2 < ((rd_L7 l0 (ji14)).length:Int):=of_decide_eq_true zq3;obtain ⟨ad102,e102,hx102_0⟩:=Kd.at_int HR101_0.out a2 p102 q102;have hw102_0:=hx102_0;cases e102;replace hx102_0:=(HB.out.cell (World.block_lt_of_cell? w _ hx102_0)).trans hx102_0;replace p102:=eq_true p102;replace q102:=eq_true q102;have p103:0≤(a1:Int):=of_decide_eq_true zq3;have q103:a1 < (l0.length:Int):=of_decide_eq_true zq3;obtain ⟨ad103,A103_0,c103_0,e103,hx103_0,hl103_0,hi103_0⟩:=at_L7 HR0.out a1 p103 q103;have hw103_0:=hx103_0;obtain rfl:ad101=ad103:=(by injection e103);replace hx103_0:=(HB.out.cell (World.block_lt_of_cell? w _ hx103_0)).trans hx103_0;have HR103_0:=am hi103_0;have HC103_0:=am hl103_0;clear hi103_0 hl103_0;replace p103:=eq_true p103;replace q103:=eq_true q103;have p104:0≤((ji21):Int):=of_decide_eq_true zq3;have q104:(ji21) < ((rd_L7 l0 a1).length:Int):=of_decide_eq_true zq3;obtain ⟨ad104,e104,hx104_0⟩:=Kd.at_int HR103_0.out (ji21) p104 q104;have hw104_0:=hx104_0;cases e104;replace hx104_0:=(HB.out.cell (World.block_lt_of_cell? w _ hx104_0)).trans hx104_0;replace p104:=eq_true p104;replace q104:=eq_true q104;refine start_ (n:=20) (S:=fun w'=>w'.cell? (ad101.add ((ji14)).toNat)=some (.slice (some ad102) (rd_L7 l0 (ji14)).length c101_0)∧w'.cell? (ad102.add (a2).toNat)=some (.int .i64 (rd (rd_L7 l0 (ji14)) a2))∧w'.cell? (ad101.add (a1).toNat)=some (.slice (some ad104) (rd_L7 l0 a1).length c103_0)∧w'.cell? (ad104.add ((ji21)).toNat)=some (.int .i64 (rd (rd_L7 l0 a1) (ji21)))) (ds:=[]) #[false,false,false,false,false,false,false,false,false,false,false,false,false,false,false,false,false,false,false,false] zq19 rfl rfl ⟨((HB.out.cell (World.block_lt_of_cell? w _ hw101_0)).trans hw101_0),((HB.out.cell (World.block_lt_of_cell? w _ hw102_0)).trans hw102_0),((HB.out.cell (World.block_lt_of_cell? w _ hw103_0)).trans hw103_0),((HB.out.cell (World.block_lt_of_cell? w _ hw104_0)).trans hw104_0)⟩ (fun hHeld=>?_);refine with_tabW impl_faults_1.tab5 impl_faults_1.bits5 (fun HT_ HW_=>?_);generalize w.drew=w40 at BK3 BK4 HB HR101_0 HR103_0 hx101_0 hx102_0 hx103_0 hx104_0 hHeld ⊢;refine pw_ 0 32 ?_;refine pw_ 1 33 ?_;refine pw_ 2 34 ?_;refine pw_ 3 35 ?_;refine pw_ 5 37 ?_;refine pw_ 9 41 ?_;refine pw_ 10 42 ?_;refine pw_ 11 43 ?_;refine pw_ 13 45 ?_;refine pw_ 14 46 ?_;refine tw4_ 4 36 ?_;refine pw_ 6 38 ?_;refine tw4_ 7 39 ?_;refine pw_ 8 40 ?_;refine tw4_ 12 44 ?_;refine pw_ 15 47 ?_;refine tw4_ 16 48 ?_;refine pw_ 17 49 ?_;refine pw_ 18 50 ?_;refine pw_ 19 9 ?_;refine done_ (done_of HT_.out zq19) ?_;(try go_wp2);have n0_:=am (blk_drew BK3.out);have n1_:=am (blk_drew BK4.out);have n2_:=am (below_drew1 HB.out);clear BK3;clear BK4;clear HB;have BK3:=n0_;have BK4:=n1_;have HB:=n2_;clear n0_ n1_ n2_;have p105:0≤(a1:Int):=of_decide_eq_true zq3;have q105:a1 < (l3.length:Int):=of_decide_eq_true zq3;obtain ⟨ad105,e105,hx105_0,hx105_1,hx105_2⟩:=at_T35 HR3.out a1 p105 q105;have hw105_2:=hx105_2;have hw105_1:=hx105_1;have hw105_0:=hx105_0;cases e105;replace hx105_0:=(HB.out.cell (World.block_lt_of_cell? w _ hx105_0)).trans hx105_0;replace hx105_1:=(HB.out.cell (World.block_lt_of_cell? w _ hx105_1)).trans hx105_1;replace hx105_2:=(HB.out.cell (World.block_lt_of_cell? w _ hx105_2)).trans hx105_2;replace p105:=eq_true p105;replace q105:=eq_true q105;have p106:0≤(a2:Int):=of_decide_eq_true zq3;have q106:a2 < (l4.length:Int):=of_decide_eq_true zq3;obtain ⟨ad106,e106,hx106_0,hx106_1,hx106_2⟩:=at_T35 HR4.out a2 p106 q106;have hw106_2:=hx106_2;have hw106_1:=hx106_1;have hw106_0:=hx106_0;cases e106;replace hx106_0:=(HB.out.cell (World.block_lt_of_cell? w _ hx106_0)).trans hx106_0;replace hx106_1:=(HB.out.cell (World.block_lt_of_cell? w _ hx106_1)).trans hx106_1;replace hx106_2:=(HB.out.cell (World.block_lt_of_cell? w _ hx106_2)).trans hx106_2;replace p106:=eq_true p106;replace q106:=eq_true q106;refine start_ (n:=14) (S:=fun w'=>w'.cell? ⟨b3,0,none⟩=some (.slice (some ad105) l3.length c3)∧w'.cell? ⟨b4,0,none⟩=some (.slice (some ad106) l4.length c4)∧w'.cell? (ad105.add ((a1).toNat * 3))=some (.int .i64 ((rd_T35 l3 a1).f0))∧w'.cell? ⟨(ad105.add ((a1).toNat * 3)).block,(ad105.add ((a1).toNat * 3)).off + 1,none⟩=some (.int .i64 ((rd_T35 l3 a1).f1))∧w'.cell? ⟨(ad105.add ((a1).toNat * 3)).block,(ad105.add ((a1).toNat * 3)).off + 2,none⟩=some (.bool ((rd_T35 l3 a1).f2))∧w'.cell? (ad106.add ((a2).toNat * 3))=some (.int .i64 ((rd_T35 l4 a2).f0))∧w'.cell? ⟨(ad106.add ((a2).toNat * 3)).block,(ad106.add ((a2).toNat * 3)).off + 1,none⟩=some (.int .i64 ((rd_T35 l4 a2).f1))∧w'.cell? ⟨(ad106.add ((a2).toNat * 3)).block,(ad106.add ((a2).toNat * 3)).off + 2,none⟩=some (.bool ((rd_T35 l4 a2).f2))) (ds:=[]) #[false,false,false,false,false,false,false,false,false,false,false,false,false,false] zq19 rfl rfl ⟨(blk_cell BK3.out 0).trans rfl,(blk_cell BK4.out 0).trans rfl,((HB.out.cell (World.block_lt_of_cell? w _ hw105_0)).trans hw105_0),((HB.out.cell (World.block_lt_of_cell? w _ hw105_1)).trans hw105_1),((HB.out.cell (World.block_lt_of_cell? w _ hw105_2)).trans hw105_2),((HB.out.cell (World.block_lt_of_cell? w _ hw106_0)).trans hw106_0),((HB.out.cell (World.block_lt_of_cell? w _ hw106_1)).trans hw106_1),((HB.out.cell (World.block_lt_of_cell? w _ hw106_2)).trans hw106_2)⟩ (fun hHeld=>?_);refine with_tabW impl_faults_1.tab6 impl_faults_1.bits6 (fun HT_ HW_=>?_);generalize w40.drew=w41 at BK3 BK4 HB hx105_0 hx105_1 hx105_2 hx106_0 hx106_1 hx106_2 hHeld ⊢;refine pw_ 1 53 ?_;refine pw_ 5 57 ?_;refine tw8_ 0 52 ?_;refine pw_ 2 54 ?_;refine tw8_ 3 55 ?_;refine tw8_ 4 56 ?_;refine pw_ 6 58 ?_;refine tw8_ 7 59 ?_;refine ow_ 8 60 (fun K hK=>?_);refine goes_ Try.func65 zq19 rfl #[.agg #[.int .i64 ((rd_T35 l3 a1).f0),.int .i64 ((rd_T35 l3 a1).f1),.bool ((rd_T35 l3 a1).f2)],.agg #[.int .i64 ((rd_T35 l4 a2).f0),.int .i64 ((rd_T35 l4 a2).f1),.bool ((rd_T35 l4 a2).f2)]] (by rfl) rfl rfl zq1 ?_
              with_reducible refine (impl_stepFaults.calls ((rd_T35 l3 a1).f0) ((rd_T35 l3 a1).f1) ((rd_T35 l3 a1).f2) ((rd_T35 l4 a2).f0) ((rd_T35 l4 a2).f1) ((rd_T35 l4 a2).f2) t107 false _ A27.out).mono ?_
              rintro e w42 ⟨rfl,hb⟩
              refine ⟨_,rfl,?_⟩;have n0_:=am (blk_below (g:=b3) (o:=.cells #[.slice (some ad105) l3.length c3] 25 (0,0)) zq30 hb);have n1_:=am (blk_below (g:=b4) (o:=.cells #[.slice (some ad106) l4.length c4] 25 (0,0)) zq83 hb);have n2_:=am (below_step zq73 hb);clear BK3;clear BK4;clear HB;have BK3:=n0_;have BK4:=n1_;have HB:=n2_;clear n0_ n1_ n2_;(try clear hb);(try clear hb2);(try clear hk);(try clear hi);refine hK.out _ _ ⟨(blk_cell BK3.out 0).trans rfl,(blk_cell BK4.out 0).trans rfl,((HB.out.cell (World.block_lt_of_cell? w _ hw105_0)).trans hw105_0),((HB.out.cell (World.block_lt_of_cell? w _ hw105_1)).trans hw105_1),((HB.out.cell (World.block_lt_of_cell? w _ hw105_2)).trans hw105_2),((HB.out.cell (World.block_lt_of_cell? w _ hw106_0)).trans hw106_0),((HB.out.cell (World.block_lt_of_cell? w _ hw106_1)).trans hw106_1),((HB.out.cell (World.block_lt_of_cell? w _ hw106_2)).trans hw106_2)⟩ (fun hHeld=>?_);clear hK K;refine norm_ (a':=?_) ?_ ?_;rotate_left
              ·show Act.put _ (some 60) _=_
               simp only [Act.put,List.setIfInBounds_toArray,List.set_cons_zero,List.set_cons_succ,i64_w,i32_w];rfl
              refine pw_ 9 51 ?_;refine pw_ 10 61 ?_;refine pw_ 11 62 ?_;refine pw_ 12 10 ?_;refine pw_ 13 11 ?_;refine done_ (done_of HT_.out zq19) ?_;(try go_wp2)
              go_ret
              exact ⟨by first|rfl|(simp [errW_none,errW_some,IntKind.wrap_i64,wrap64];done)|(simp [errW_none,errW_some] <;> rfl)|(simp only [← hji14,← hji21,← hji24];first|rfl|(simp [errW_none,errW_some] <;> rfl))|(simp [*,errW_none,errW_some] <;> rfl),by repeat (first|(with_reducible first|exact HB.out|apply below_alloc|apply pw_below_drewN|apply below_drew1|refine below_set ?_ GE3.out|refine below_set ?_ GE4.out)|exact HB.out)⟩
            ·rw [if_neg c26] at H;exact absurd H (by simp)
           ·rw [if_neg c25] at H;exact absurd H (by simp)
          ·rw [if_neg c23] at H;exact absurd H (by simp)
         ·rw [if_neg c22] at H;exact absurd H (by simp)
        ·rw [if_neg c20] at H;exact absurd H (by simp)
       ·rw [if_neg c19] at H;exact absurd H (by simp)
      ·rw [if_neg c18] at H;exact absurd H (by simp)
     ·rw [if_neg c17] at H;exact absurd H (by simp)
    ·rw [if_neg c16] at H;exact absurd H (by simp)
   ·rw [if_neg c15] at H;exact absurd H (by simp)
mutual
def impl_table__impl_faults_1.l0:Nat→List (S35)→List (List Int)→Int→List (S35)→List (S35)→Option ((List (List Int)))
 | 0,_,_,_,_,_=>none
 | k + 1,x1,x7,x8,x3000,x4000=>if x8≥0 then (if 0≤(wrap64 ((x1.length:Int) + 1)) then (if (wrap64 ((x1.length:Int) + 1):Int).toNat≤35184372088832 then (if 0≤x8 then (if x8 < (x7.length:Int) then (impl_table__impl_faults_1.l1 k x1 (x7.set (x8:Int).toNat (List.replicate (wrap64 ((x1.length:Int) + 1):Int).toNat 0)) x8 (x1.length:Int) x3000 x4000) else (none)) else (none)) else (none)) else (none)) else (some x7)
def impl_table__impl_faults_1.l1:Nat→List (S35)→List (List Int)→Int→Int→List (S35)→List (S35)→Option ((List (List Int)))
 | 0,_,_,_,_,_,_=>none
 | k + 1,x1,x7,x8,x9,x3000,x4000=>if x9≥0 then (if 0≤x8 then (if x8 < (x7.length:Int) then ((impl_faults_1.f x7 x8 x9 x3000 x4000).bind fun t109=>(if 0≤x9 then (if x9 < ((rd_L7 x7 x8).length:Int) then (impl_table__impl_faults_1.l1 k x1 (x7.set (x8:Int).toNat ((rd_L7 x7 x8).set (x9:Int).toNat t109)) x8 (wrap64 (x9 - 1)) x3000 x4000) else (none)) else (none))) else (none)) else (none)) else (impl_table__impl_faults_1.l0 k x1 x7 (wrap64 (x8 - 1)) x3000 x4000)
end
def impl_table__impl_faults_1.f (k:Nat) (l0:List (S35)) (l1:List (S35)) (l2:List (S35)) (l3:List (S35)):Option ((List (List Int))):=if 0≤(wrap64 ((l0.length:Int) + 1)) then (if (wrap64 ((l0.length:Int) + 1):Int).toNat≤11728124029610 then (impl_table__impl_faults_1.l0 k l1 (List.replicate (wrap64 ((l0.length:Int) + 1):Int).toNat []) (l0.length:Int) l2 l3) else (none)) else (none)
def impl_table__impl_faults_1.T9:Bool × List (List Nat × List Nat):=(true,[([],[]),([],[]),([0,1],[0,1]),([2],[2]),([],[]),([],[]),([],[]),([],[]),([],[]),([5,6,7,8],[5,6,7,8]),([3,4,0,1,2,3,4,5,6,7,8,9],[3,4]),([10,9,9,0,1,2,3,4,5,6,7,8,9],[9,10])])
def impl_table__impl_faults_1.B9:List Nat:=[0,0,3,7,0,0,0,0,0,480,1023,2047]
theorem impl_table__impl_faults_1.tab9:rtab .any (opsOf Try.f63 9)=impl_table__impl_faults_1.T9:=by kernel_rfl
theorem impl_table__impl_faults_1.bits9:waitsOk impl_table__impl_faults_1.T9.2 impl_table__impl_faults_1.B9=true:=by kernel_rfl
set_option maxHeartbeats 8000000 in
set_option maxRecDepth 100000 in
theorem impl_table__impl_faults_1.calls (k:Nat) (A0:Option Addr) (c0:Nat) (l0:List (S35)) (A1:Option Addr) (c1:Nat) (l1:List (S35)) (A2:Option Addr) (c2:Nat) (l2:List (S35)) (b2:Nat) (A3:Option Addr) (c3:Nat) (l3:List (S35)) (b3:Nat) (r:List (List Int)) (w:World) (hr0:Kd.C k35 w A0 l0.length l0) (hc0:l0.length≤c0) (hr1:Kd.C k35 w A1 l1.length l1) (hc1:l1.length≤c1) (hr2:Kd.C k35 w A2 l2.length l2) (hc2:l2.length≤c2) (hr3:Kd.C k35 w A3 l3.length l3) (hc3:l3.length≤c3) (hb2:w.heap[b2]?=some (.cells #[.slice A2 l2.length c2] 25 (0,0))) (hb3:w.heap[b3]?=some (.cells #[.slice A3 l3.length c3] 25 (0,0))) (hn2_3:b2≠b3) (h:impl_table__impl_faults_1.f k l0 l1 l2 l3=some r) :
  Calls Try.prog 63 #[.slice A0 l0.length c0,.slice A1 l1.length c1,.func (.func 64) #[] #[.pointer (some ⟨b2,0,none⟩),.pointer (some ⟨b3,0,none⟩)]] w fun e w'=>∃ v0_:Value,e=.returned (v0_)∧Kd.S (Kd.slice 2 (Kd.int .i64)) 41 w' w.heap.size (fun _=>True) v0_ r∧Below w.heap.size w w':=by
 have HR0:=am hr0;have HC0:=am hc0;clear hr0 hc0;have HR1:=am hr1;have HC1:=am hc1;clear hr1 hc1;have HR2:=am hr2;have HC2:=am hc2;clear hr2 hc2;have HR3:=am hr3;have HC3:=am hc3;clear hr3 hc3;have BK2:=am hb2;clear hb2;have BK3:=am hb3;clear hb3;have NB2_3:=am hn2_3;have NB3_2:=am (Ne.symm hn2_3);clear hn2_3;have HB:=am (Below.refl w.heap.size w);have H:(if 0≤(wrap64 ((l0.length:Int) + 1)) then (if (wrap64 ((l0.length:Int) + 1):Int).toNat≤11728124029610 then (impl_table__impl_faults_1.l0 k l1 (List.replicate (wrap64 ((l0.length:Int) + 1):Int).toNat []) (l0.length:Int) l2 l3) else (none)) else (none))=some r:=h;clear h;obtain ⟨ji5,hji5⟩:∃ j_:Int,(wrap64 ((l0.length:Int) + 1))=j_:=⟨_,rfl⟩
 replace H:(if 0≤(ji5) then (if (ji5:Int).toNat≤11728124029610 then (impl_table__impl_faults_1.l0 k l1 (List.replicate (ji5:Int).toNat []) (l0.length:Int) l2 l3) else (none)) else (none))=some r:=by first|(rw [hji5] at H;exact H)|(simp only [hji5] at H ⊢;exact H)
 have hji5w:(IntKind.i64.wrap ((l0.length:Int) + 1))=ji5:=(i64_w _).trans hji5
 by_cases c6:0≤(ji5)
 ·rw [if_pos c6] at H;have c6b0:=eq_true c6;have c6b1:=decide_eq_true c6;clear c6
  by_cases c7:(ji5:Int).toNat≤11728124029610
  ·rw [if_pos c7] at H;have c7b0:=eq_true c7;have c7b1:=decide_eq_true c7;clear c7;obtain ⟨y101,hy101⟩:∃ y_:List (List Int),y_=(List.replicate (ji5:Int).toNat []):=⟨_,rfl⟩
   replace H:(impl_table__impl_faults_1.l0 k l1 y101 (l0.length:Int) l2 l3)=some r:=by first|(rw [hy101];with_reducible exact H)|(have H2_:=(Option.bind_some _ _).symm.trans H;rw [hy101];with_reducible exact H2_)|(have H2_:=(Option.bind_some _ _).symm.trans H;with_reducible exact H2_)|with_reducible exact H|(rw [hy101];exact H)|exact H
   have Ny101:=am hy101;clear hy101;have H':=am H;clear H
   go_enter Try.func63,Try.ntmps63
   go_wp2_with (first|((with_reducible refine gate_dst (N:=13) rfl ?_);refine Kd.S_make (Kd.slice 2 (Kd.int .i64)) _ 41 rfl (N:=13) rfl 63 _ _ rfl ji5 rfl rfl Try.underlying63 (.slice none 0 0) 24 info41 rfl (by decide) (by omega) [] (ok:=fun _=>True) (okp:=fun _=>True) ⟨_,rfl,Kd.R_nil _ _ _ _ _⟩ (fun _ hk=>hk) trivial (of_decide_eq_true zq3) (Nat.le_trans (Nat.mul_le_mul_right _ (of_decide_eq_true zq3:ji5.toNat≤11728124029610)) (by omega)) (Below.refl _ _) (Nat.le_refl _) ?_;intro v102 w8 ho9 hb hg_ hnew_;clear hg_ hnew_;(first|rw [← Ny101.out] at ho9|(simp only [Int.reduceToNat] at ho9;rw [← Ny101.out] at ho9));have n0_:=am (Kd.S_lower ho9 (below_size zq27));have n1_:=am (blk_below (g:=b2) (o:=.cells #[.slice A2 l2.length c2] 25 (0,0)) zq24 hb);have n2_:=am (blk_below (g:=b3) (o:=.cells #[.slice A3 l3.length c3] 25 (0,0)) zq30 hb);have n3_:=am (below_step zq27 hb);clear BK2;clear BK3;clear HB;have HO103:=n0_;have BK2:=n1_;have BK3:=n2_;have HB:=n3_;clear n0_ n1_ n2_ n3_;clear hb ho9))
   go_loopg [8] k (fun kq v8 w'=>∃ (x7_1:List (List Int)) (x8_1:Int),v8=.int .i64 x8_1∧Aside0 (impl_table__impl_faults_1.l0 kq l1 x7_1 x8_1 l2 l3=some r)∧Aside0 (kq≤k)∧Aside0 (Kd.S (Kd.slice 2 (Kd.int .i64)) 41 w' w.heap.size (fun _=>True) v102 x7_1)∧Aside0 (w'.heap[b2]?=some (.cells #[(.slice A2 l2.length c2)] 25 (0,0)))∧Aside0 (w'.heap[b3]?=some (.cells #[(.slice A3 l3.length c3)] 25 (0,0)))∧Aside0 (Below w.heap.size w w'))
   case atStart=>exact ⟨(y101),((l0.length:Int)),zq2,H',⟨Nat.le_refl _⟩,⟨by (with_reducible repeat (first|apply Kd.S_alloc|apply Kd.S_drewN|apply Kd.S_drew));exact HO103.out⟩,⟨by (with_reducible repeat (first|refine blk_drewN ?_ _|refine blk_drew ?_|refine blk_alloc ?_ _));exact BK2.out⟩,⟨by (with_reducible repeat (first|refine blk_drewN ?_ _|refine blk_drew ?_|refine blk_alloc ?_ _));exact BK3.out⟩,⟨by repeat (first|(with_reducible first|exact HB.out|apply below_alloc|apply pw_below_drewN|apply below_drew1|refine below_set ?_ GE2.out|refine below_set ?_ GE3.out)|exact HB.out)⟩⟩
   case round =>
    clear H';(try clear c1);(try clear c2);(try clear p2);(try clear c3);(try clear c6);(try clear c6b0);(try clear c6b1);(try clear p6);(try clear c7);(try clear c7b0);(try clear c7b1);obtain ⟨x7_1,x8_1,rfl,HA,HK1,HO_7,BK2,BK3,HB⟩:=hrel
    cases gk with
    | zero=>exact absurd HA.out (by simp [impl_table__impl_faults_1.l0])
    | succ k1 =>
     have H:=HA.out;clear HA;simp only [impl_table__impl_faults_1.l0] at H
     by_cases c10:x8_1≥0
     ·rw [if_pos c10] at H;have c10b0:decide (0≤x8_1)=true:=decide_eq_true c10;clear c10;obtain ⟨ji11,hji11⟩:∃ j_:Int,(wrap64 ((l1.length:Int) + 1))=j_:=⟨_,rfl⟩
      replace H:(if 0≤(ji11) then (if (ji11:Int).toNat≤35184372088832 then (if 0≤x8_1 then (if x8_1 < (x7_1.length:Int) then (impl_table__impl_faults_1.l1 k1 l1 (x7_1.set (x8_1:Int).toNat (List.replicate (ji11:Int).toNat 0)) x8_1 (l1.length:Int) l2 l3) else (none)) else (none)) else (none)) else (none))=some r:=by first|(rw [hji11] at H;exact H)|(simp only [hji11] at H ⊢;exact H)
      have hji11w:(IntKind.i64.wrap ((l1.length:Int) + 1))=ji11:=(i64_w _).trans hji11
      by_cases c12:0≤(ji11)
      ·rw [if_pos c12] at H;have c12b0:=eq_true c12;have c12b1:=decide_eq_true c12;clear c12
       by_cases c13:(ji11:Int).toNat≤35184372088832
       ·rw [if_pos c13] at H;have c13b0:=eq_true c13;have c13b1:=decide_eq_true c13;clear c13;obtain ⟨y104,hy104⟩:∃ y_:List Int,y_=(List.replicate (ji11:Int).toNat 0):=⟨_,rfl⟩
        replace H:(if 0≤x8_1 then (if x8_1 < (x7_1.length:Int) then (impl_table__impl_faults_1.l1 k1 l1 (x7_1.set (x8_1:Int).toNat y104) x8_1 (l1.length:Int) l2 l3) else (none)) else (none))=some r:=by first|(rw [hy104];with_reducible exact H)|(have H2_:=(Option.bind_some _ _).symm.trans H;rw [hy104];with_reducible exact H2_)|(have H2_:=(Option.bind_some _ _).symm.trans H;with_reducible exact H2_)|with_reducible exact H|(rw [hy104];exact H)|exact H
        have Ny104:=am hy104;clear hy104
        by_cases c14:0≤x8_1
        ·rw [if_pos c14] at H;have c14b0:=decide_eq_true c14;clear c14
         by_cases c15:x8_1 < (x7_1.length:Int)
         ·rw [if_pos c15] at H;have c15b0:=decide_eq_true c15;clear c15;obtain ⟨y107,hy107⟩:∃ y_:List (List Int),y_=(x7_1.set (x8_1:Int).toNat y104):=⟨_,rfl⟩
          replace H:(impl_table__impl_faults_1.l1 k1 l1 y107 x8_1 (l1.length:Int) l2 l3)=some r:=by first|(rw [hy107];with_reducible exact H)|(have H2_:=(Option.bind_some _ _).symm.trans H;rw [hy107];with_reducible exact H2_)|(have H2_:=(Option.bind_some _ _).symm.trans H;with_reducible exact H2_)|with_reducible exact H|(rw [hy107];exact H)|exact H
          have Ny107:=am hy107;clear hy107;have H':=am H;clear H
          go_wp2_with (first|((with_reducible refine gate_dst (N:=25) rfl ?_);refine Kd.R_make (Kd.int .i64) _ 2 rfl (N:=25) rfl 41 _ _ rfl ji11 rfl rfl Try.underlying41 (.int .i64 0) 8 info2 rfl (by decide) (by omega) 0 (ok:=fun _=>True) (okp:=fun _=>True) rfl (fun _ hk=>hk) trivial (of_decide_eq_true zq3) (Nat.le_trans (Nat.mul_le_mul_right _ (of_decide_eq_true zq3:ji11.toNat≤35184372088832)) (by omega)) (Below.refl _ _) (Nat.le_refl _) ?_;intro v105 w17 ho18 hb hg_ hnew_;clear hg_ hnew_;(first|rw [← Ny104.out] at ho18|(simp only [Int.reduceToNat] at ho18;rw [← Ny104.out] at ho18));have n0_:=am (Kd.S_elder' (by (with_reducible repeat (first|apply Kd.S_alloc|apply Kd.S_drewN|apply Kd.S_drew));exact HO_7.out) (Kd.R_base ho18) hb);have n1_:=am (Kd.R_lower ho18 (below_size zq27));have n2_:=am (blk_below (g:=b2) (o:=.cells #[.slice A2 l2.length c2] 25 (0,0)) zq24 hb);have n3_:=am (blk_below (g:=b3) (o:=.cells #[.slice A3 l3.length c3] 25 (0,0)) zq30 hb);have n4_:=am (below_step zq27 hb);clear HO_7;clear BK2;clear BK3;clear HB;have HO_7:=n0_;have HO106:=n1_;have BK2:=n2_;have BK3:=n3_;have HB:=n4_;clear n0_ n1_ n2_ n3_ n4_;clear hb ho18;have p16:0≤(x8_1:Int):=of_decide_eq_true zq3;have q16:(x8_1:Int) < ((x7_1.length:Int):Int):=of_decide_eq_true zq3;obtain ⟨go16,co16,eo16,gb16,gl16,cl16,HG16⟩:=Kd.S_form HO_7.out (by omega);(first|cases eo16|(injection eo16 with ea_ en_ ec_;(first|subst ea_|(injection ea_ with ea_;subst ea_));subst ec_;clear en_));have GB16:=am gb16;have GG16:=am HG16;clear gb16 gl16 HG16;obtain ⟨_,ce16,hcl16,hM16,hcc16,hfr16,_,_⟩:=Kd.S_elem HO_7.out [] (x8_1:Int) p16 q16;obtain ⟨ve16_0,rfl,ge16_0⟩:=hM16;have hx16_0:=hcc16 0 _ rfl;have hf16_0:=hfr16 0;(try simp only [show ((Kd.slice 2 (Kd.int .i64))).sz=1 from rfl,Nat.mul_one,Nat.add_zero] at hx16_0);(try simp only [show ((Kd.slice 2 (Kd.int .i64))).sz=1 from rfl,Nat.mul_one,Nat.add_zero] at hf16_0);(clear hcl16 hcc16 hfr16;(try clear hM16));replace p16:=eq_true p16;replace q16:=eq_true q16;have n_:=am (Kd.S_mono (ok':=(fun k_=>some k_≠(v105:Value).ownBlock)) HO_7.out (fun k_ hk=>hk.2));clear HO_7;have HO_7:=n_;clear n_;have HX19:=am (show Kd.S (Kd.slice 2 (Kd.int .i64)) 41 w17 w.heap.size (fun k_=>((fun _=>True)) k_∧¬ ((fun k_=>some k_=(v105:Value).ownBlock)) k_) (.slice (some ⟨go16,0,none⟩) x7_1.length co16) x7_1 from (by (with_reducible repeat (first|apply Kd.S_alloc|apply Kd.S_drewN|apply Kd.S_drew));exact Kd.S_mono HO_7.out (fun k_ hk=>⟨trivial,fun e_=>hk e_⟩)));obtain ⟨oki19,ce19,hcl19,hM19,hcc19,hfr19,hoki19,hH19⟩:=Kd.S_elem HX19.out [] (x8_1:Int) (of_decide_eq_true zq3) zq86;obtain ⟨ve19_0,rfl,ge19_0⟩:=hM19;have HP19:=Kd.S_seg hH19 (of_decide_eq_true zq3) zq86 (seg:=[v105]) (j:=0) (show 1≤1 from by decide) (x':=y104) (Kd.M_row (Kd.R_mono (Kd.R_tight rfl (Kd.R_mono (ok':=fun k_=>((fun _=>True)) k_∧k_≠go16) (Kd.R_apart' (HO106.out) (Kd.S_typed HO_7.out) (by decide)) (fun k_ hk=>⟨trivial,fun e_=>(hk.2) (by rw [e_];rfl)⟩))) (fun _ h_=>Or.inr (h_)))) (fun _ hk=>hk) (fun k_ hk_=>((Kd.R_mono (ok':=fun k_=>((fun _=>True)) k_∧k_≠go16) (Kd.R_apart' (HO106.out) (Kd.S_typed HO_7.out) (by decide)) (fun k_ hk=>⟨trivial,fun e_=>(hk.2) (by rw [e_];rfl)⟩))).1 k_ hk_.symm);have hx19_0:=hcc19 0 _ rfl;(try simp only [show ((Kd.slice 2 (Kd.int .i64))).sz=1 from rfl,Nat.mul_one,Nat.add_zero] at hx19_0);have hf19_0:=hfr19 0;(try simp only [show ((Kd.slice 2 (Kd.int .i64))).sz=1 from rfl,Nat.mul_one,Nat.add_zero] at hf19_0);(clear hcl19 hcc19 hfr19 hoki19 hH19;(try clear hM19));(try simp only [show ((Kd.slice 2 (Kd.int .i64))).sz=1 from rfl,Nat.mul_one,Nat.add_zero] at HP19))|((with_reducible refine gate_store (t:=41) (p:=26) rfl ?_);refine store_event (t:=41) (p:=26) (v:=?vo_w20) (w1:=(w17.setCell ⟨go16,(x8_1:Int).toNat,none⟩ (v105))) ?hg ?ho ?hn ?hr ?_;(case ho=>rfl);(case hg=>rfl);(case hn=>rfl);(case hr=>(try (obtain ⟨A_,c_,e_⟩:=Kd.R_slice HO106.out;subst e_));first|(go_simp;done)|(go_simp;rfl));intro w20 hw;have hg:w17.grownBy w20 (some go16):=(by rw [hw];exact HP19.2);have hp_:Kd.S (Kd.slice 2 (Kd.int .i64)) 41 w20 w.heap.size (fun _=>True) (.slice (some ⟨go16,0,none⟩) x7_1.length co16) y107:=(by rw [hw,Ny107.out];exact HP19.1);clear HP19;have n0_:=am (hp_);have n1_:=am (blk_grown (g:=b2) (o:=.cells #[.slice A2 l2.length c2] 25 (0,0)) zq24 hg (Kd.S_ne HO_7.out BK2.out (by decide)));have n2_:=am (blk_grown (g:=b3) (o:=.cells #[.slice A3 l3.length c3] 25 (0,0)) zq30 hg (Kd.S_ne HO_7.out BK3.out (by decide)));have n3_:=am ((by rw [hw];exact below_set (HB.out) GB16.out:Below w.heap.size w w20));clear HO_7;clear BK2;clear BK3;clear HB;clear HO106;have HO_7:=n0_;have BK2:=n1_;have BK3:=n2_;have HB:=n3_;clear n0_ n1_ n2_ n3_;clear hg hw hp_))
          go_loopg [9] k1 (fun kq v9 w'=>∃ (x7_2:List (List Int)) (x9_2:Int),v9=.int .i64 x9_2∧Aside0 (impl_table__impl_faults_1.l1 kq l1 x7_2 x8_1 x9_2 l2 l3=some r)∧Aside0 (kq≤k1)∧Aside0 (Kd.S (Kd.slice 2 (Kd.int .i64)) 41 w' w.heap.size (fun _=>True) (.slice (some ⟨go16,0,none⟩) x7_1.length co16) x7_2)∧Aside0 (w'.heap[b2]?=some (.cells #[(.slice A2 l2.length c2)] 25 (0,0)))∧Aside0 (w'.heap[b3]?=some (.cells #[(.slice A3 l3.length c3)] 25 (0,0)))∧Aside0 (Below w.heap.size w w'))
          case atStart=>exact ⟨(y107),((l1.length:Int)),zq2,H',⟨Nat.le_refl _⟩,⟨by (with_reducible repeat (first|apply Kd.S_alloc|apply Kd.S_drewN|apply Kd.S_drew));exact HO_7.out⟩,⟨by (with_reducible repeat (first|refine blk_drewN ?_ _|refine blk_drew ?_|refine blk_alloc ?_ _));exact BK2.out⟩,⟨by (with_reducible repeat (first|refine blk_drewN ?_ _|refine blk_drew ?_|refine blk_alloc ?_ _));exact BK3.out⟩,⟨by repeat (first|(with_reducible first|exact HB.out|apply below_alloc|apply pw_below_drewN|apply below_drew1|refine below_set ?_ GE2.out|refine below_set ?_ GE3.out)|exact HB.out)⟩⟩
          case round =>
           clear H';(try clear c1);(try clear p1);(try clear q1);(try clear hx1);(try clear c2);(try clear p2);(try clear c3);(try clear c6);(try clear c6b0);(try clear c6b1);(try clear p6);(try clear c7);(try clear c7b0);(try clear c7b1);(try clear c10);(try clear c10b0);(try clear c11);(try clear c12);(try clear c12b0);(try clear c12b1);(try clear c13);(try clear c13b0);(try clear c13b1);(try clear c14);(try clear c14b0);(try clear c15);(try clear c15b0);(try clear c16);(try clear p16);(try clear q16);(try clear hx16);(try clear hf16);(try clear c19);(try clear hx19);(try clear hf19);(try clear hx16_0);(try clear hx19_0);(try clear p16);(try clear p2);(try clear p6);(try clear q16);obtain ⟨x7_2,x9_2,rfl,HA,HK2,HO_7,BK2,BK3,HB⟩:=hrel;have hl7_2:=(Kd.S_reads' HO_7.out).1;rw [hl7_2] at HO_7;(try simp only [hl7_2]);(try simp only [hl7_2] at BK2);(try simp only [hl7_2] at BK3)
           cases gk with
           | zero=>exact absurd HA.out (by simp [impl_table__impl_faults_1.l1])
           | succ k2 =>
            have H:=HA.out;clear HA;simp only [impl_table__impl_faults_1.l1] at H
            by_cases c21:x9_2≥0
            ·rw [if_pos c21] at H;have c21b0:decide (0≤x9_2)=true:=decide_eq_true c21;clear c21
             by_cases c22:0≤x8_1
             ·rw [if_pos c22] at H;have c22b0:=decide_eq_true c22;clear c22
              by_cases c23:x8_1 < (x7_2.length:Int)
              ·rw [if_pos c23] at H;have c23b0:=decide_eq_true c23;clear c23;replace H:=Option.bind_eq_some_iff.mp H;obtain ⟨t109,A240,H⟩:=H;replace H:(if 0≤x9_2 then (if x9_2 < ((rd_L7 x7_2 x8_1).length:Int) then (impl_table__impl_faults_1.l1 k2 l1 (x7_2.set (x8_1:Int).toNat ((rd_L7 x7_2 x8_1).set (x9_2:Int).toNat t109)) x8_1 (wrap64 (x9_2 - 1)) l2 l3) else (none)) else (none))=some r:=H;have A24:=am A240;clear A240
               by_cases c25:0≤x9_2
               ·rw [if_pos c25] at H;have c25b0:=decide_eq_true c25;clear c25
                by_cases c26:x9_2 < ((rd_L7 x7_2 x8_1).length:Int)
                ·rw [if_pos c26] at H;have c26b0:=decide_eq_true c26;clear c26;obtain ⟨y110,hy110⟩:∃ y_:List Int,y_=((rd_L7 x7_2 x8_1).set (x9_2:Int).toNat t109):=⟨_,rfl⟩
                 replace H:(impl_table__impl_faults_1.l1 k2 l1 (x7_2.set (x8_1:Int).toNat y110) x8_1 (wrap64 (x9_2 - 1)) l2 l3)=some r:=by first|(rw [hy110];with_reducible exact H)|(have H2_:=(Option.bind_some _ _).symm.trans H;rw [hy110];with_reducible exact H2_)|(have H2_:=(Option.bind_some _ _).symm.trans H;with_reducible exact H2_)|with_reducible exact H|(rw [hy110];exact H)|exact H
                 have Ny110:=am hy110;clear hy110;obtain ⟨y112,hy112⟩:∃ y_:List (List Int),y_=(x7_2.set (x8_1:Int).toNat y110):=⟨_,rfl⟩
                 replace H:(impl_table__impl_faults_1.l1 k2 l1 y112 x8_1 (wrap64 (x9_2 - 1)) l2 l3)=some r:=by first|(rw [hy112];with_reducible exact H)|(have H2_:=(Option.bind_some _ _).symm.trans H;rw [hy112];with_reducible exact H2_)|(have H2_:=(Option.bind_some _ _).symm.trans H;with_reducible exact H2_)|with_reducible exact H|(rw [hy112];exact H)|exact H
                 have Ny112:=am hy112;clear hy112;have H':=am H;clear H;(try go_wp2);have n0_:=am (Kd.S_drew HO_7.out);have n1_:=am (blk_drew BK2.out);have n2_:=am (blk_drew BK3.out);have n3_:=am (below_drew1 HB.out);clear HO_7;clear BK2;clear BK3;clear HB;have HO_7:=n0_;have BK2:=n1_;have BK3:=n2_;have HB:=n3_;clear n0_ n1_ n2_ n3_;have p108:0≤(x8_1:Int):=of_decide_eq_true zq3;have q108:x8_1 < (x7_2.length:Int):=of_decide_eq_true zq3;obtain ⟨ad108,A108_0,c108_0,e108,hx108_0,hl108_0,hi108_0⟩:=at_L7 (Kd.S_reads' HO_7.out).2.2 x8_1 p108 q108;obtain rfl:(⟨go16,0,none⟩:Addr)=ad108:=(by injection e108);obtain ⟨ce108,hce108,hMe108,hcc108⟩:=Kd.S_get HO_7.out [] x8_1 p108 (by first|exact q108|exact of_decide_eq_true zq3|(have e_:=(Kd.S_reads' HO_7.out).1;omega));obtain ⟨ve108_0,rfl,ge108_0⟩:=hMe108;have hv108_0:=hcc108 0 _ rfl;rw [Nat.add_zero,show ((Kd.slice 2 (Kd.int .i64))).sz=1 from rfl,Nat.mul_one] at hv108_0;replace hv108_0:=Option.some.inj (hv108_0.symm.trans hx108_0);rw [hv108_0] at ge108_0;have HL108_0:=am (show Kd.R (Kd.int .i64) 2 _ _ _ _ (rd_L7 x7_2 x8_1) from ge108_0);clear hv108_0 ge108_0;have HX108_0:=am hx108_0;clear hcc108 hce108;(first|simp only [add_plain] at hx108_0|simp only [add_at] at hx108_0|simp only [Addr.add,Nat.zero_add] at hx108_0|skip);have HR108_0:=am hi108_0;have HC108_0:=am hl108_0;clear hi108_0 hl108_0;replace p108:=eq_true p108;replace q108:=eq_true q108;refine start_ (n:=12) (S:=fun w'=>w'.cell? ⟨go16,(x8_1).toNat,none⟩=some (.slice A108_0 (rd_L7 x7_2 x8_1).length c108_0)) (ds:=[11]) #[false,false,false,false,false,false,false,false,false,false,false,false] zq19 rfl rfl (hx108_0) (fun hHeld=>?_);refine with_tabW impl_table__impl_faults_1.tab9 impl_table__impl_faults_1.bits9 (fun HT_ HW_=>?_);generalize wr.drew=w28 at HO_7 BK2 BK3 HB HL108_0 HR108_0 HX108_0 hx108_0 hHeld ⊢;refine pw_ 0 33 ?_;refine pw_ 1 34 ?_;refine pw_ 2 35 ?_;refine pw_ 4 37 ?_;refine pw_ 5 38 ?_;refine pw_ 6 39 ?_;refine pw_ 7 40 ?_;refine pw_ 8 41 ?_;refine tw0_ 3 36 ?_;refine ow_ 9 42 (fun K hK=>?_);refine goesD_ Try.func64 zq19 rfl #[.pointer (some ⟨b2,0,none⟩),.pointer (some ⟨b3,0,none⟩)] #[.slice (some ⟨go16,0,none⟩) x7_2.length co16,.int .i64 x8_1,.int .i64 x9_2,.pointer (some ⟨b2,0,none⟩),.pointer (some ⟨b3,0,none⟩)] (by rfl) rfl rfl rfl zq1 ?_
                 with_reducible refine (impl_faults_1.calls _ _ x7_2 x8_1 x9_2 A2 c2 l2 b2 A3 c3 l3 b3 t109 _ ?side1 ?side2 ?side3 ?side4 ?side5 ?side6 ?side7 ?side8 ?side9 A24.out).mono ?_
                 (case side1=>repeat (first|exact (Kd.S_reads' HO_7.out).2.2|(with_reducible refine Kd.C_alloc ?_ _)|(with_reducible refine Kd.C_drewN ?_ _)|(with_reducible refine Kd.C_drew ?_)));(case side2=>exact (Kd.S_reads' HO_7.out).2.1);(case side3=>repeat (first|exact (Kd.C_below HR2.out HB.out)|(with_reducible refine Kd.C_alloc ?_ _)|(with_reducible refine Kd.C_drewN ?_ _)|(with_reducible refine Kd.C_drew ?_)));(case side4=>exact HC2.out);(case side5=>repeat (first|exact (Kd.C_below HR3.out HB.out)|(with_reducible refine Kd.C_alloc ?_ _)|(with_reducible refine Kd.C_drewN ?_ _)|(with_reducible refine Kd.C_drew ?_)));(case side6=>exact HC3.out);(case side7=>exact zq24);(case side8=>exact zq30);(case side9=>exact NB2_3.out)
                 rintro e w29 ⟨rfl,hb⟩
                 have HS0_:=(hb.cell (World.block_lt_of_cell? _ _ (hHeld))).trans (hHeld);refine ⟨_,rfl,?_⟩;have n0_:=am (Kd.S_below (by (with_reducible repeat (first|apply Kd.S_alloc|apply Kd.S_drewN|apply Kd.S_drew));exact HO_7.out) hb);have n1_:=am (Kd.R_below (by (with_reducible repeat (first|apply Kd.R_alloc|apply Kd.R_drewN|apply Kd.R_drew));exact HL108_0.out) hb);have n2_:=am (blk_below (g:=b2) (o:=.cells #[.slice A2 l2.length c2] 25 (0,0)) zq24 hb);have n3_:=am (blk_below (g:=b3) (o:=.cells #[.slice A3 l3.length c3] 25 (0,0)) zq30 hb);have n4_:=am (Kd.C_below zq71 hb);have n5_:=am (pw_cell_below hb HX108_0.out);have n6_:=am (below_step zq27 hb);clear HO_7;clear HL108_0;clear BK2;clear BK3;clear HR108_0;clear HX108_0;clear HB;have HO_7:=n0_;have HL108_0:=n1_;have BK2:=n2_;have BK3:=n3_;have HR108_0:=n4_;have HX108_0:=n5_;have HB:=n6_;clear n0_ n1_ n2_ n3_ n4_ n5_ n6_;(try clear hb);(try clear hb2);(try clear hk);(try clear hi);have p27:0≤(x9_2:Int):=of_decide_eq_true zq3;have q27:(x9_2:Int) < (((rd_L7 x7_2 x8_1).length:Int):Int):=of_decide_eq_true zq3;obtain ⟨go27,co27,eo27,gb27,gl27,cl27,HG27⟩:=Kd.R_form HL108_0.out (by omega);(first|cases eo27|(injection eo27 with ea_ en_ ec_;(first|subst ea_|(injection ea_ with ea_;subst ea_));subst ec_;clear en_));have GB27:=am gb27;have GG27:=am HG27;clear gb27 gl27 HG27;obtain ⟨hx27_0,hf27_0⟩:=Kd.R_celln 0 HL108_0.out (x9_2:Int) p27 q27;replace p27:=eq_true p27;replace q27:=eq_true q27;have hq30:(x8_1:Int) < (x7_2.length:Int):=(by have h_:(x8_1:Int) < ((x7_2.length:Int):Int):=of_decide_eq_true zq3;first|exact h_|(have e_:=(Kd.S_reads' HO_7.out).1;omega)|simpa only [List.length_set,List.length_set] using h_);obtain ⟨oki30,ce30,hcl30,hM30,hcc30,hok30,hbk30⟩:=Kd.S_borrow HO_7.out [] (x8_1:Int) (of_decide_eq_true zq3) hq30;obtain ⟨ve30_0,rfl,ge30_0⟩:=hM30;have hv30:=hcc30 0 _ rfl;rw [Nat.add_zero,show ((Kd.slice 2 (Kd.int .i64))).sz=1 from rfl,Nat.mul_one] at hv30;replace hv30:=Option.some.inj (hv30.symm.trans HX108_0.out);subst hv30;clear hcc30 hcl30;replace ge30_0:=(show Kd.R (Kd.int .i64) 2 _ _ _ _ (rd_L7 x7_2 x8_1) from ge30_0);have HP30:=Kd.R_putg ge30_0 (x9_2:Int) t109;rw [← Ny110.out] at HP30;have HS30:=hbk30 HP30.2 (fun k_ e_=>by injection e_ with e_;subst e_;exact ge30_0.1 _ rfl) (x':=y110) (Kd.M_row HP30.1);rw [← Ny112.out] at HS30;have HQ30:=am HS30;clear HP30 HS30 hbk30 hok30;refine hK.out _ _ (HS0_) (fun hHeld=>?_);clear hK K;refine norm_ (a':=?_) ?_ ?_;rotate_left
                 ·show Act.put _ (some 42) _=_
                  simp only [Act.put,List.setIfInBounds_toArray,List.set_cons_zero,List.set_cons_succ,i64_w,i32_w];rfl
                 refine pw_ 10 43 ?_;refine last_ (i:=11) (N:=none) #[true,true,true,true,true,true,true,true,true,true,true,true] rfl rfl (one_of HT_.out zq19) (by decide) (fun K hK=>?_);refine skip_ (w1:=?_) (by rfl) rfl ?_ ?_;rotate_left
                 ·go_simp;rfl
                 refine hK.out _ _ ?_;clear hK K;refine done_ (done_of HT_.out zq19) ?_;(try go_wp2);(try simp only [← hl7_2])
                 go_roundg k2
                 case measure=>have:=HK1.out;have:=HK2.out;omega
                 case rel=>exact ⟨(y112),(wrap64 (x9_2 - 1)),zq2,H',⟨by have:=HK1.out;have:=HK2.out;omega⟩,⟨by (try simp only [hl7_2]);(with_reducible repeat (first|apply Kd.S_alloc|apply Kd.S_drewN|apply Kd.S_drew));exact HQ30.out⟩,⟨by (try simp only [hl7_2]);(with_reducible repeat (first|refine blk_drewN ?_ _|refine blk_drew ?_|refine blk_alloc ?_ _));refine blk_far ?_ (by have h_:=Kd.R_ne HL108_0.out BK2.out (by decide);intro e_;exact h_ (by rw [e_];rfl)) _;(with_reducible repeat (first|refine blk_drewN ?_ _|refine blk_drew ?_|refine blk_alloc ?_ _));exact BK2.out⟩,⟨by (try simp only [hl7_2]);(with_reducible repeat (first|refine blk_drewN ?_ _|refine blk_drew ?_|refine blk_alloc ?_ _));refine blk_far ?_ (by have h_:=Kd.R_ne HL108_0.out BK3.out (by decide);intro e_;exact h_ (by rw [e_];rfl)) _;(with_reducible repeat (first|refine blk_drewN ?_ _|refine blk_drew ?_|refine blk_alloc ?_ _));exact BK3.out⟩,⟨by repeat (first|(with_reducible first|exact HB.out|apply below_alloc|apply pw_below_drewN|apply below_drew1|refine below_set ?_ GB27.out|refine below_set ?_ GE2.out|refine below_set ?_ GE3.out)|exact HB.out)⟩⟩
                ·rw [if_neg c26] at H;exact absurd H (by simp)
               ·rw [if_neg c25] at H;exact absurd H (by simp)
              ·rw [if_neg c23] at H;exact absurd H (by simp)
             ·rw [if_neg c22] at H;exact absurd H (by simp)
            ·rw [if_neg c21] at H;have c21b0:decide (0≤x9_2)=false:=decide_eq_false c21;clear c21;have H':=am H;clear H
             go_wp2
             (try simp only [← hl7_2])
             go_roundg k2
             case measure=>have:=HK1.out;have:=HK2.out;omega
             case rel=>exact ⟨(x7_2),(wrap64 (x8_1 - 1)),zq2,H',⟨by have:=HK1.out;have:=HK2.out;omega⟩,⟨by (try simp only [hl7_2]);(with_reducible repeat (first|apply Kd.S_alloc|apply Kd.S_drewN|apply Kd.S_drew));exact HO_7.out⟩,⟨by (try simp only [hl7_2]);(with_reducible repeat (first|refine blk_drewN ?_ _|refine blk_drew ?_|refine blk_alloc ?_ _));exact BK2.out⟩,⟨by (try simp only [hl7_2]);(with_reducible repeat (first|refine blk_drewN ?_ _|refine blk_drew ?_|refine blk_alloc ?_ _));exact BK3.out⟩,⟨by repeat (first|(with_reducible first|exact HB.out|apply below_alloc|apply pw_below_drewN|apply below_drew1|refine below_set ?_ GE2.out|refine below_set ?_ GE3.out)|exact HB.out)⟩⟩
         ·rw [if_neg c15] at H;exact absurd H (by simp)
        ·rw [if_neg c14] at H;exact absurd H (by simp)
       ·rw [if_neg c13] at H;exact absurd H (by simp)
      ·rw [if_neg c12] at H;exact absurd H (by simp)
     ·rw [if_neg c10] at H;have c10b0:decide (0≤x8_1)=false:=decide_eq_false c10;clear c10;obtain rfl:=Option.some.inj H
      go_wp2
      go_ret
      exact ⟨_,by first|rfl|(simp [errW_none,errW_some,IntKind.wrap_i64,wrap64];done)|(simp [errW_none,errW_some] <;> rfl)|(simp only [← hji5];first|rfl|(simp [errW_none,errW_some] <;> rfl))|(simp [*,errW_none,errW_some] <;> rfl),by (with_reducible repeat (first|apply Kd.S_alloc|apply Kd.S_drewN|apply Kd.S_drew));exact HO_7.out,by repeat (first|(with_reducible first|exact HB.out|apply below_alloc|apply pw_below_drewN|apply below_drew1|refine below_set ?_ GE2.out|refine below_set ?_ GE3.out)|exact HB.out)⟩
  ·rw [if_neg c7] at H;exact absurd H (by simp)
 ·rw [if_neg c6] at H;exact absurd H (by simp)
def impl_faults.f (k:Nat) (l0:List (S35)) (l1:List (S35)):Option ((List (List Int))):=(impl_table__impl_faults_1.f k l0 l1 l0 l1).bind fun t103=>(some t103)
set_option maxHeartbeats 8000000 in
set_option maxRecDepth 100000 in
theorem impl_faults.calls (k:Nat) (A0:Option Addr) (c0:Nat) (l0:List (S35)) (A1:Option Addr) (c1:Nat) (l1:List (S35)) (r:List (List Int)) (w:World) (hr0:Kd.C k35 w A0 l0.length l0) (hc0:l0.length≤c0) (hr1:Kd.C k35 w A1 l1.length l1) (hc1:l1.length≤c1) (h:impl_faults.f k l0 l1=some r) :
  Calls Try.prog 42 #[.slice A0 l0.length c0,.slice A1 l1.length c1] w fun e w'=>∃ v0_:Value,e=.returned (v0_)∧Kd.S (Kd.slice 2 (Kd.int .i64)) 41 w' w.heap.size (fun _=>True) v0_ r∧Below w.heap.size w w':=by
 have HR0:=am hr0;have HC0:=am hc0;clear hr0 hc0;have HR1:=am hr1;have HC1:=am hc1;clear hr1 hc1;have HB:=am (Below.refl w.heap.size w);have H:((impl_table__impl_faults_1.f k l0 l1 l0 l1).bind fun t103=>(some t103))=some r:=h;clear h;replace H:=Option.bind_eq_some_iff.mp H;obtain ⟨t103,A30,H⟩:=H;replace H:(some t103)=some r:=H;have A3:=am A30;clear A30;obtain rfl:=Option.some.inj H
 go_enter Try.func42,Try.ntmps42
 go_wp2_with (first|((with_reducible refine gate_dst (N:=2) rfl ?_);refine box_event ?hg (N:=2) ?hd (cs:=#[.slice A0 l0.length c0]) (t:=25) ?hr ?_;(case hd=>rfl);(case hg=>rfl);(case hr=>exact zq14);intro gb101 hg w4 hbox hb;have n0_:=am (below_step zq0 hb);have n1_:=am (hbox);have n2_:=am ((by rw [hg];exact (below_size zq0):w.heap.size≤gb101));have n3_:=am ((by rw [hg];exact (below_size zq0):w.heap.size≤gb101));clear HB;have HB:=n0_;have BK101:=n1_;have GW101:=n2_;have GE101:=n3_;clear n0_ n1_ n2_ n3_;clear hb hbox hg)|((with_reducible refine gate_dst (N:=3) rfl ?_);refine box_event ?hg (N:=3) ?hd (cs:=#[.slice A1 l1.length c1]) (t:=25) ?hr ?_;(case hd=>rfl);(case hg=>rfl);(case hr=>exact zq14);intro gb102 hg w5 hbox hb;have n0_:=am (blk_below (g:=gb101) (o:=.cells #[.slice A0 l0.length c0] 25 (0,0)) zq4 hb);have n1_:=am (below_step zq5 hb);have n2_:=am (hbox);have n3_:=am ((by rw [hg];exact (below_size zq5):w.heap.size≤gb102));have n4_:=am ((by rw [hg];exact (below_size zq5):w.heap.size≤gb102));have n5_:=am ((by rw [hg];exact Nat.ne_of_lt (blk_lt (g:=gb101) (o:=.cells #[.slice A0 l0.length c0] 25 (0,0)) zq4):gb101≠gb102));have n6_:=am ((by rw [hg];exact Nat.ne_of_gt (blk_lt (g:=gb101) (o:=.cells #[.slice A0 l0.length c0] 25 (0,0)) zq4):gb102≠gb101));clear BK101;clear HB;have BK101:=n0_;have HB:=n1_;have BK102:=n2_;have GW102:=n3_;have GE102:=n4_;have NB101_102:=n5_;have NB102_101:=n6_;clear n0_ n1_ n2_ n3_ n4_ n5_ n6_;clear hb hbox hg;have hnb6:=NB101_102.out;have hnc6:=NB102_101.out;have hcz7_0:w5.cell? ⟨gb101,0,none⟩=some (.slice A0 l0.length c0):=(blk_cell BK101.out 0).trans rfl;have hfz7_0:=blk_frozen BK101.out 0;have hcz8_0:w5.cell? ⟨gb102,0,none⟩=some (.slice A1 l1.length c1):=(blk_cell BK102.out 0).trans rfl;have hfz8_0:=blk_frozen BK102.out 0)|((with_reducible refine gate_callee (f:=63) rfl ?_);refine goesL_ (some 8) rfl rfl Try.func63 zq19 rfl #[.slice A0 l0.length c0,.slice A1 l1.length c1,.func (.func 64) #[] #[.pointer (some ⟨gb101,0,none⟩),.pointer (some ⟨gb102,0,none⟩)]] rfl zq1 ?_;(with_reducible refine (impl_table__impl_faults_1.calls k _ _ l0 _ _ l1 A0 c0 l0 gb101 A1 c1 l1 gb102 t103 _ ?side1 ?side2 ?side3 ?side4 ?side5 ?side6 ?side7 ?side8 ?side9 ?side10 ?side11 A3.out).mono ?_);(case side1=>exact zq11);(case side2=>exact HC0.out);(case side3=>exact zq21);(case side4=>exact HC1.out);(case side5=>exact zq11);(case side6=>exact HC0.out);(case side7=>exact zq21);(case side8=>exact HC1.out);(case side9=>exact zq4);(case side10=>exact zq10);(case side11=>exact NB101_102.out);rintro e w9 ⟨v104,rfl,ho0,hb⟩;refine ⟨_,rfl,?_⟩;have n0_:=am (Kd.S_lower ho0 (below_size zq6));have n1_:=am (blk_below (g:=gb101) (o:=.cells #[.slice A0 l0.length c0] 25 (0,0)) zq4 hb);have n2_:=am (blk_below (g:=gb102) (o:=.cells #[.slice A1 l1.length c1] 25 (0,0)) zq10 hb);have n3_:=am (below_step zq6 hb);clear BK101;clear BK102;clear HB;have HO105:=n0_;have BK101:=n1_;have BK102:=n2_;have HB:=n3_;clear n0_ n1_ n2_ n3_;(try clear hb);(try clear hb2);(try clear hk);(try clear hi);(try clear ho0)))
 go_ret
 exact ⟨_,by first|rfl|(simp [errW_none,errW_some,IntKind.wrap_i64,wrap64];done)|(simp [errW_none,errW_some] <;> rfl)|(simp [*,errW_none,errW_some] <;> rfl),by (with_reducible repeat (first|apply Kd.S_alloc|apply Kd.S_drewN|apply Kd.S_drew));exact HO105.out,by repeat (first|(with_reducible first|exact HB.out|apply below_alloc|apply pw_below_drewN|apply below_drew1|refine below_set ?_ GE101.out|refine below_set ?_ GE102.out)|exact HB.out)⟩
mutual
def impl_BestLog.l0:Nat→List (List (S35))→Int→Int→List (List (S35))→Int→Int→Option (Int × Int × Int)
 | 0,_,_,_,_,_,_=>none
 | k + 1,x0,x6,x7,x18,x19,x20=>if x20 < x19 then (if 0≤x20 then (if x20 < (x18.length:Int) then (impl_BestLog.l1 k x0 x6 x7 x20 (rd_L4 x18 x20) 0 x18 x19 x20 x0 (x0.length:Int) 0) else (none)) else (none)) else (some (x6,x7,0))
def impl_BestLog.l1:Nat→List (List (S35))→Int→Int→Int→List (S35)→Int→List (List (S35))→Int→Int→List (List (S35))→Int→Int→Option (Int × Int × Int)
 | 0,_,_,_,_,_,_,_,_,_,_,_,_=>none
 | k + 1,x0,x6,x7,x8,x9,x10,x18,x19,x20,x25,x26,x27=>if x27 < x26 then (if 0≤x27 then (if x27 < (x25.length:Int) then (if x27=x8 then (impl_BestLog.l1 k x0 x6 x7 x8 x9 x10 x18 x19 x20 x25 x26 (wrap64 (x27 + 1))) else ((impl_faults.f k x9 (rd_L4 x25 x27)).bind fun t104=>(if 0 < (t104.length:Int) then (if 0 < ((rd_L7 t104 0).length:Int) then (impl_BestLog.l1 k x0 x6 x7 x8 x9 (wrap64 (x10 + (rd (rd_L7 t104 0) 0))) x18 x19 x20 x25 x26 (wrap64 (x27 + 1))) else (none)) else (none)))) else (none)) else (none)) else (if x7 < 0 then (impl_BestLog.l0 k x0 x8 x10 x18 x19 (wrap64 (x20 + 1))) else (if x10 < x7 then (impl_BestLog.l0 k x0 x8 x10 x18 x19 (wrap64 (x20 + 1))) else (impl_BestLog.l0 k x0 x6 x7 x18 x19 (wrap64 (x20 + 1)))))
end
def impl_BestLog.f (k:Nat) (l0:List (List (S35))):Option (Int × Int × Int):=(impl_allCode.f l0).bind fun t101=>(if t101=0 then (impl_BestLog.l0 k l0 0 (-1) l0 (l0.length:Int) 0) else (some (0,0,t101)))
set_option maxHeartbeats 8000000 in
set_option maxRecDepth 100000 in
theorem impl_BestLog.calls (k:Nat) (A0:Option Addr) (c0:Nat) (l0:List (List (S35))) (r1:Int) (r2:Int) (r3:Int) (w:World) (hr0:Kd.C (Kd.slice 35 k35) w A0 l0.length l0) (hc0:l0.length≤c0) (h:impl_BestLog.f k l0=some (r1,r2,r3)) :
  Calls Try.prog 12 #[.slice A0 l0.length c0] w fun e w'=>e=.returned (.tuple #[.int .i64 r1,.int .i64 r2,.int .i64 r3])∧Below w.heap.size w w':=by
 have HR0:=am hr0;have HC0:=am hc0;clear hr0 hc0;have HB:=am (Below.refl w.heap.size w);have H:((impl_allCode.f l0).bind fun t101=>(if t101=0 then (impl_BestLog.l0 k l0 0 (-1) l0 (l0.length:Int) 0) else (some (0,0,t101))))=some (r1,r2,r3):=h;clear h;replace H:=Option.bind_eq_some_iff.mp H;obtain ⟨t101,A20,H⟩:=H;replace H:(if t101=0 then (impl_BestLog.l0 k l0 0 (-1) l0 (l0.length:Int) 0) else (some (0,0,t101)))=some (r1,r2,r3):=H;have A2:=am A20;clear A20
 by_cases c3:t101=0
 ·rw [if_pos c3] at H;have c3b0:=beq_iff_eq.mpr c3;have c3b1:=bne_eq_false_iff_eq.mpr c3;clear c3;have H':=am H;clear H
  go_enter Try.func12,Try.ntmps12
  go_wp2_with (first|((with_reducible refine gate_callee (f:=25) rfl ?_);refine goesL_ (some 14) rfl rfl Try.func25 zq19 rfl #[.slice A0 l0.length c0] rfl zq1 ?_;(with_reducible refine (impl_allCode.calls _ _ l0 t101 _ ?side1 ?side2 A2.out).mono ?_);(case side1=>exact zq15);(case side2=>exact HC0.out);rintro e w4 ⟨rfl,hb⟩;refine ⟨_,rfl,?_⟩;have n0_:=am (below_step zq0 hb);clear HB;have HB:=n0_;clear n0_;(try clear hb);(try clear hb2);(try clear hk);(try clear hi)))
  go_loopg [6,7,20] k (fun kq v6 v7 v20 w'=>∃ (x6_1:Int) (x7_1:Int) (x20_1:Int),v6=.int .i64 x6_1∧v7=.int .i64 x7_1∧v20=.int .i64 x20_1∧Aside0 (impl_BestLog.l0 kq l0 x6_1 x7_1 l0 (l0.length:Int) x20_1=some (r1,r2,r3))∧Aside0 (kq≤k)∧Aside0 (Below w.heap.size w w'))
  case atStart=>exact ⟨(0),((-1)),(0),zq2,zq2,zq2,H',⟨Nat.le_refl _⟩,⟨by repeat (first|(with_reducible first|exact HB.out|apply below_alloc|apply pw_below_drewN|apply below_drew1)|exact HB.out)⟩⟩
  case round =>
   clear H';(try clear c1);(try clear c2);(try clear p2);(try clear c3);(try clear c3b0);(try clear c3b1);obtain ⟨x6_1,x7_1,x20_1,rfl,rfl,rfl,HA,HK1,HB⟩:=hrel
   cases gk with
   | zero=>exact absurd HA.out (by simp [impl_BestLog.l0])
   | succ k1 =>
    have H:=HA.out;clear HA;simp only [impl_BestLog.l0] at H
    by_cases c5:x20_1 < (l0.length:Int)
    ·rw [if_pos c5] at H;have c5b0:=decide_eq_true c5;clear c5
     by_cases c6:0≤x20_1
     ·rw [if_pos c6] at H;have c6b0:=decide_eq_true c6;clear c6
      by_cases c7:x20_1 < (l0.length:Int)
      ·rw [if_pos c7] at H;have c7b0:=decide_eq_true c7;clear c7;have H':=am H;clear H;have p102:0≤(x20_1:Int):=of_decide_eq_true zq3;have q102:x20_1 < (l0.length:Int):=of_decide_eq_true zq3;obtain ⟨ad102,A102_0,c102_0,e102,hx102_0,hl102_0,hi102_0⟩:=at_L4 HR0.out x20_1 p102 q102;cases e102;replace hx102_0:=(HB.out.cell (World.block_lt_of_cell? w _ hx102_0)).trans hx102_0;have HR102_0:=am hi102_0;have HC102_0:=am hl102_0;clear hi102_0 hl102_0;replace p102:=eq_true p102;replace q102:=eq_true q102
       go_wp2
       go_loopg [10,27] k1 (fun kq v10 v27 w'=>∃ (x10_2:Int) (x27_2:Int),v10=.int .i64 x10_2∧v27=.int .i64 x27_2∧Aside0 (impl_BestLog.l1 kq l0 x6_1 x7_1 x20_1 (rd_L4 l0 x20_1) x10_2 l0 (l0.length:Int) x20_1 l0 (l0.length:Int) x27_2=some (r1,r2,r3))∧Aside0 (kq≤k1)∧Aside0 (Below w.heap.size w w'))
       case atStart=>exact ⟨(0),(0),zq2,zq2,H',⟨Nat.le_refl _⟩,⟨by repeat (first|(with_reducible first|exact HB.out|apply below_alloc|apply pw_below_drewN|apply below_drew1)|exact HB.out)⟩⟩
       case round =>
        clear H';(try clear c1);(try clear p1);(try clear q1);(try clear hx1);(try clear c2);(try clear p2);(try clear c3);(try clear c3b0);(try clear c3b1);(try clear c5);(try clear c5b0);(try clear c6);(try clear c6b0);(try clear c7);(try clear c7b0);(try clear hx102_0);(try clear p102);(try clear p2);(try clear q102);obtain ⟨x10_2,x27_2,rfl,rfl,HA,HK2,HB⟩:=hrel
        cases gk with
        | zero=>exact absurd HA.out (by simp [impl_BestLog.l1])
        | succ k2 =>
         have H:=HA.out;clear HA;simp only [impl_BestLog.l1] at H
         by_cases c8:x27_2 < (l0.length:Int)
         ·rw [if_pos c8] at H;have c8b0:=decide_eq_true c8;clear c8
          by_cases c9:0≤x27_2
          ·rw [if_pos c9] at H;have c9b0:=decide_eq_true c9;clear c9
           by_cases c10:x27_2 < (l0.length:Int)
           ·rw [if_pos c10] at H;have c10b0:=decide_eq_true c10;clear c10
            by_cases c11:x27_2=x20_1
            ·rw [if_pos c11] at H;have c11b0:=beq_iff_eq.mpr c11;have c11b1:=bne_eq_false_iff_eq.mpr c11;clear c11;have H':=am H;clear H;have p103:0≤(x27_2:Int):=of_decide_eq_true zq3;have q103:x27_2 < (l0.length:Int):=of_decide_eq_true zq3;obtain ⟨ad103,A103_0,c103_0,e103,hx103_0,hl103_0,hi103_0⟩:=at_L4 HR0.out x27_2 p103 q103;obtain rfl:ad102=ad103:=(by injection e103);replace hx103_0:=(HB.out.cell (World.block_lt_of_cell? w _ hx103_0)).trans hx103_0;have HR103_0:=am hi103_0;have HC103_0:=am hl103_0;clear hi103_0 hl103_0;replace p103:=eq_true p103;replace q103:=eq_true q103
             go_wp2
             go_roundg k2
             case measure=>have:=HK1.out;have:=HK2.out;omega
             case rel=>exact ⟨(x10_2),(wrap64 (x27_2 + 1)),zq2,zq2,H',⟨by have:=HK1.out;have:=HK2.out;omega⟩,⟨by repeat (first|(with_reducible first|exact HB.out|apply below_alloc|apply pw_below_drewN|apply below_drew1)|exact HB.out)⟩⟩
            ·rw [if_neg c11] at H;have c11b0:=beq_eq_false_iff_ne.mpr c11;have c11b1:=bne_iff_ne.mpr c11;replace H:=Option.bind_eq_some_iff.mp H;obtain ⟨t104,A120,H⟩:=H;replace H:(if 0 < (t104.length:Int) then (if 0 < ((rd_L7 t104 0).length:Int) then (impl_BestLog.l1 k2 l0 x6_1 x7_1 x20_1 (rd_L4 l0 x20_1) (wrap64 (x10_2 + (rd (rd_L7 t104 0) 0))) l0 (l0.length:Int) x20_1 l0 (l0.length:Int) (wrap64 (x27_2 + 1))) else (none)) else (none))=some (r1,r2,r3):=H;have A12:=am A120;clear A120
             by_cases c13:0 < (t104.length:Int)
             ·rw [if_pos c13] at H;have c13b0:=decide_eq_true c13;have c13b1:decide (0 < t104.length)=true:=decide_eq_true (by omega);clear c13
              by_cases c14:0 < ((rd_L7 t104 0).length:Int)
              ·rw [if_pos c14] at H;have c14b0:=decide_eq_true c14;have c14b1:decide (0 < (rd_L7 t104 0).length)=true:=decide_eq_true (by omega);clear c14;have H':=am H;clear H;have p103:0≤(x27_2:Int):=of_decide_eq_true zq3;have q103:x27_2 < (l0.length:Int):=of_decide_eq_true zq3;obtain ⟨ad103,A103_0,c103_0,e103,hx103_0,hl103_0,hi103_0⟩:=at_L4 HR0.out x27_2 p103 q103;obtain rfl:ad102=ad103:=(by injection e103);replace hx103_0:=(HB.out.cell (World.block_lt_of_cell? w _ hx103_0)).trans hx103_0;have HR103_0:=am hi103_0;have HC103_0:=am hl103_0;clear hi103_0 hl103_0;replace p103:=eq_true p103;replace q103:=eq_true q103
               go_wp2_with (first|((with_reducible refine gate_callee (f:=42) rfl ?_);refine goesL_ (some 38) rfl rfl Try.func42 zq19 rfl #[.slice A102_0 (rd_L4 l0 x20_1).length c102_0,.slice A103_0 (rd_L4 l0 x27_2).length c103_0] rfl zq1 ?_;(with_reducible refine (impl_faults.calls k2 _ _ (rd_L4 l0 x20_1) _ _ (rd_L4 l0 x27_2) t104 _ ?side1 ?side2 ?side3 ?side4 A12.out).mono ?_);(case side1=>exact zq36);(case side2=>exact HC102_0.out);(case side3=>exact zq76);(case side4=>exact HC103_0.out);rintro e w15 ⟨v105,rfl,ho0,hb⟩;refine ⟨_,rfl,?_⟩;have n0_:=am (Kd.S_lower ho0 (below_size zq0));have n1_:=am (below_step zq0 hb);clear HB;have HO106:=n0_;have HB:=n1_;clear n0_ n1_;(try clear hb);(try clear hb2);(try clear hk);(try clear hi);(try clear ho0);obtain ⟨Ao16,co16,eo16⟩:=Kd.S_slice HO106.out;subst eo16;have p107:0≤(0:Int):=(by omega);have q107:0 < (t104.length:Int):=of_decide_eq_true zq3;obtain ⟨ad107,A107_0,c107_0,e107,hx107_0,hl107_0,hi107_0⟩:=at_L7 (Kd.S_reads' HO106.out).2.2 0 p107 q107;cases e107;obtain ⟨ce107,hce107,hMe107,hcc107⟩:=Kd.S_get HO106.out [] 0 p107 (by first|exact q107|exact of_decide_eq_true zq3|(have e_:=(Kd.S_reads' HO106.out).1;omega));obtain ⟨ve107_0,rfl,ge107_0⟩:=hMe107;have hv107_0:=hcc107 0 _ rfl;rw [Nat.add_zero,show ((Kd.slice 2 (Kd.int .i64))).sz=1 from rfl,Nat.mul_one] at hv107_0;replace hv107_0:=Option.some.inj (hv107_0.symm.trans hx107_0);rw [hv107_0] at ge107_0;have HL107_0:=am (show Kd.R (Kd.int .i64) 2 _ _ _ _ (rd_L7 t104 0) from ge107_0);clear hv107_0 ge107_0;clear hcc107 hce107;have qi107:(0 < t104.length)=True:=eq_true (by omega);(try rw [show ((0:Int)).toNat=0 from rfl] at hx107_0);(try rw [Addr.add_zero'] at hx107_0);have HR107_0:=am hi107_0;have HC107_0:=am hl107_0;clear hi107_0 hl107_0;replace p107:=eq_true p107;replace q107:=eq_true q107;have p108:0≤(0:Int):=(by omega);have q108:0 < ((rd_L7 t104 0).length:Int):=of_decide_eq_true zq3;obtain ⟨ad108,e108,hx108_0⟩:=Kd.at_int zq72 0 p108 q108;cases e108;have qi108:(0 < (rd_L7 t104 0).length)=True:=eq_true (by omega);(try rw [show ((0:Int)).toNat=0 from rfl] at hx108_0);(try rw [Addr.add_zero'] at hx108_0);replace p108:=eq_true p108;replace q108:=eq_true q108))
               go_roundg k2
               case measure=>have:=HK1.out;have:=HK2.out;omega
               case rel=>exact ⟨(wrap64 (x10_2 + (rd (rd_L7 t104 0) 0))),(wrap64 (x27_2 + 1)),zq2,zq2,H',⟨by have:=HK1.out;have:=HK2.out;omega⟩,⟨by repeat (first|(with_reducible first|exact HB.out|apply below_alloc|apply pw_below_drewN|apply below_drew1)|exact HB.out)⟩⟩
              ·rw [if_neg c14] at H;exact absurd H (by simp)
             ·rw [if_neg c13] at H;exact absurd H (by simp)
           ·rw [if_neg c10] at H;exact absurd H (by simp)
          ·rw [if_neg c9] at H;exact absurd H (by simp)
         ·rw [if_neg c8] at H;have c8b0:=decide_eq_false c8;clear c8
          by_cases c17:x7_1 < 0
          ·rw [if_pos c17] at H;have c17b0:=decide_eq_true c17;clear c17;have H':=am H;clear H
           go_wp2
           go_roundg k2
           case measure=>have:=HK1.out;have:=HK2.out;omega
           case rel=>exact ⟨(x20_1),(x10_2),(wrap64 (x20_1 + 1)),zq2,zq2,zq2,H',⟨by have:=HK1.out;have:=HK2.out;omega⟩,⟨by repeat (first|(with_reducible first|exact HB.out|apply below_alloc|apply pw_below_drewN|apply below_drew1)|exact HB.out)⟩⟩
          ·rw [if_neg c17] at H;have c17b0:=decide_eq_false c17;clear c17
           by_cases c18:x10_2 < x7_1
           ·rw [if_pos c18] at H;have c18b0:=decide_eq_true c18;clear c18;have H':=am H;clear H
            go_wp2
            go_roundg k2
            case measure=>have:=HK1.out;have:=HK2.out;omega
            case rel=>exact ⟨(x20_1),(x10_2),(wrap64 (x20_1 + 1)),zq2,zq2,zq2,H',⟨by have:=HK1.out;have:=HK2.out;omega⟩,⟨by repeat (first|(with_reducible first|exact HB.out|apply below_alloc|apply pw_below_drewN|apply below_drew1)|exact HB.out)⟩⟩
           ·rw [if_neg c18] at H;have c18b0:=decide_eq_false c18;clear c18;have H':=am H;clear H
            go_wp2
            go_roundg k2
            case measure=>have:=HK1.out;have:=HK2.out;omega
            case rel=>exact ⟨(x6_1),(x7_1),(wrap64 (x20_1 + 1)),zq2,zq2,zq2,H',⟨by have:=HK1.out;have:=HK2.out;omega⟩,⟨by repeat (first|(with_reducible first|exact HB.out|apply below_alloc|apply pw_below_drewN|apply below_drew1)|exact HB.out)⟩⟩
      ·rw [if_neg c7] at H;exact absurd H (by simp)
     ·rw [if_neg c6] at H;exact absurd H (by simp)
    ·rw [if_neg c5] at H;have c5b0:=decide_eq_false c5;clear c5;simp only [Option.some.injEq,Prod.mk.injEq] at H;obtain ⟨rfl,rfl,rfl⟩:=H
     go_wp2
     go_ret3
     exact ⟨by first|rfl|(simp [errW_none,errW_some,IntKind.wrap_i64,wrap64];done)|(simp [errW_none,errW_some] <;> rfl)|(simp [*,errW_none,errW_some] <;> rfl),by repeat (first|(with_reducible first|exact HB.out|apply below_alloc|apply pw_below_drewN|apply below_drew1)|exact HB.out)⟩
 ·rw [if_neg c3] at H;have c3b0:=beq_eq_false_iff_ne.mpr c3;have c3b1:=bne_iff_ne.mpr c3;simp only [Option.some.injEq,Prod.mk.injEq] at H;obtain ⟨rfl,rfl,rfl⟩:=H
  go_enter Try.func12,Try.ntmps12
  go_wp2_with (first|((with_reducible refine gate_callee (f:=25) rfl ?_);refine goesL_ (some 14) rfl rfl Try.func25 zq19 rfl #[.slice A0 l0.length c0] rfl zq1 ?_;(with_reducible refine (impl_allCode.calls _ _ l0 t101 _ ?side1 ?side2 A2.out).mono ?_);(case side1=>exact zq15);(case side2=>exact HC0.out);rintro e w19 ⟨rfl,hb⟩;refine ⟨_,rfl,?_⟩;have n0_:=am (below_step zq0 hb);clear HB;have HB:=n0_;clear n0_;(try clear hb);(try clear hb2);(try clear hk);(try clear hi)))
  go_ret3
  exact ⟨by first|rfl|(simp [errW_none,errW_some,IntKind.wrap_i64,wrap64];done)|(simp [errW_none,errW_some] <;> rfl)|(simp [*,errW_none,errW_some] <;> rfl),by repeat (first|(with_reducible first|exact HB.out|apply below_alloc|apply pw_below_drewN|apply below_drew1)|exact HB.out)⟩
end Go.Proofs.Ytcoepebmmgcplac.G
end
