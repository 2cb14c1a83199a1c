/- The law's functions, their contracts, and the plain lemmas: texts of this claim, laid together. -/
import Derived.Deep.Slices
import Derived.Deep.Fields
import Derived.ChangeSame
import Derived.OpenShut
import Derived.Lib.ItoaNum
import Derived.Lib.ParseIntB
import Derived.Lib.Atoi
import Derived.Lib.SplitLaws
import Derived.Lib.Join
import Derived.Test.YtmcfbnglocojkabGreatDoorMFnNoted0
import Derived.Test.YtmcfbnglocojkabGreatDoorMFnNoted1
import Derived.Test.YtmcfbnglocojkabGreatDoorMFnNoted2
import Derived.Test.YtmcfbnglocojkabGreatDoorMFnNoted3
section
namespace Go.Proofs.YtmcfbnglocojkabGreatDoor.G
open Go.RowKit Go.Proofs.YtmcfbnglocojkabGreatDoorW.PrintWords Go.Proofs.YtmcfbnglocojkabGreatDoorW.PrintLast Go.Proofs.YtmcfbnglocojkabGreatDoorW.PrintMore
attribute [local go_sem] max2_int min2_int max_two min_two max_three min_three max_four min_four
set_option linter.unusedVariables false
set_option linter.unusedSimpArgs false
open Go.ChangeShapes Go.WideShapes Go.Deep in
structure Opens {α:Type} (P:Program) (t:TypeId) (d:Kd α) (Wf:α→Prop):Prop where
  sz:P.cellsOf t=d.sz
  op:∀ {H:Type} {enc:TypeId × Value→H} {w:World} {base:Nat} {spare:Nat→Bool} {held:Bool} {fuel:Nat} {cs:List Value} {x:DataW H × List MemPlace},DataW.trod enc P w base spare held fuel t cs=some x→∃ a:α,d.K w a cs∧Wf a
theorem opens_int {P:Program} {t:TypeId} {k:IntKind} (ht:P.underlying t=some (.int k)) (hC:P.cellsOf t=1):Opens P t (Kd.int k) (fun n=>(Lit.int k n).wf=true) where
  sz:=hC
  op:=fun h=>by
    obtain ⟨n,rfl,_,hw⟩:=DataW.trod_int ht h
    exact ⟨n,rfl,hw⟩
theorem list_of {α:Type} {Q:Nat→α→Prop}:∀ n,(∀ i,i < n→∃ y,Q i y)→∃ l:List α,l.length=n∧∀ i y,l[i]?=some y→Q i y
  | 0,_=>⟨[],rfl,fun i y h=>by simp at h⟩
  | n + 1,h=>by
    obtain ⟨l,hl,hq⟩:=list_of n (fun i hi=>h i (by omega))
    obtain ⟨y,hy⟩:=h n (by omega)
    refine ⟨l ++ [y],by simp [hl],fun i z hz=>?_⟩
    rcases Nat.lt_or_ge i l.length with hi|hi
    · rw [List.getElem?_append_left hi] at hz
      exact hq i z hz
    · rw [List.getElem?_append_right hi] at hz
      have:i - l.length=0:=by
        rcases Nat.eq_zero_or_pos (i - l.length) with h0|h0
        · exact h0
        · rw [List.getElem?_eq_none (by simp; omega)] at hz
          cases hz
      rw [this] at hz
      have e:y=z:=by simpa using hz
      subst e
      have:i=n:=by omega
      subst this
      exact hy
theorem opens_slice {α:Type} {P:Program} {t e:TypeId} {d:Kd α} {Wf:α→Prop} (ht:P.underlying t=some (.slice e)) (hC:P.cellsOf t=1) (he:Opens P e d Wf):Opens P t (Kd.slice e d) (fun l=>l.length≤9223372036854775807∧∀ x∈l,Wf x) where
  sz:=hC
  op:=fun {H enc w base spare held fuel cs x} h=>by
    rcases Go.Deep.open_slice ht h with ⟨rfl,_⟩|⟨a,len,cap,m,n,D,Pl,rfl,hb,hl,hm,hmm,_,hi⟩
    · exact ⟨[],⟨none,0,rfl,Nat.le_refl _,rfl,by simp,fun h=>absurd h (by simp)⟩,by simp,by simp⟩
    · have hlen:len≤m:=by rw [hmm]; split <;> omega
      obtain ⟨l,hll,hq⟩:=list_of (Q:=fun i y=>(∃ c,c.length=d.sz∧d.K w y c∧∀ j u,c[j]?=some u→w.cell? (a.add (i * d.sz + j))=some u)∧Wf y) len (fun i him=>by
        obtain ⟨cs',hc,ht'⟩:=hi i (by omega)
        obtain ⟨y,hK,hW⟩:=he.op ht'
        obtain ⟨_,hcl,hat⟩:=World.cells?_some hc
        refine ⟨y,⟨cs',d.K_len hK,hK,fun j u hu=>?_⟩,hW⟩
        have hj:j < cs'.length:=(List.getElem?_eq_some_iff.1 hu).1
        have h1:=hat j (by rw [he.sz,← d.K_len hK]; exact hj)
        rw [← he.sz,← Go.Deep.add_add,h1,hu])
      refine ⟨l,⟨some a,cap,by rw [hll],by rw [hll]; exact hl,rfl,by rw [hll]; have:=hm; unfold maxLen at this; omega,fun _=>⟨a,rfl,fun j p hj=>(hq j p hj).1⟩⟩,by rw [hll]; have:=hm; unfold maxLen at this; omega,fun y hy=>?_⟩
      obtain ⟨j,hj,rfl⟩:=List.mem_iff_getElem.1 hy
      exact (hq j _ (List.getElem?_eq_getElem hj)).2
theorem op5:Opens Tryz.prog 5 (Kd.int .u8) (fun x:Int=>(Lit.int .u8 x).wf=true):=opens_int (k:=.u8) Tryz.underlying5 (by kernel_rfl)
theorem op22:Opens Tryz.prog 22 (Kd.slice 5 (Kd.int .u8)) (fun x:List Int=>(x.length≤9223372036854775807∧∀ x_∈x,(Lit.int .u8 x_).wf=true)):=opens_slice Tryz.underlying22 (by kernel_rfl) op5
end Go.Proofs.YtmcfbnglocojkabGreatDoor.G
end
section
namespace Go.Proofs.YtmcfbnglocojkabGreatDoor.G.Pure
open Go.RowKit Go.Proofs.YtmcfbnglocojkabGreatDoor.G Go.Proofs.YtmcfbnglocojkabGreatDoorW.PrintWords Go.Proofs.YtmcfbnglocojkabGreatDoorW.PrintLast Go.Proofs.YtmcfbnglocojkabGreatDoorW.PrintMore
set_option linter.unusedVariables false
set_option linter.unusedSimpArgs false
theorem w64 {n:Int} (h0:-9223372036854775808≤n) (h1:n≤9223372036854775807):wrap64 n=n:=by
 unfold wrap64
 omega
theorem loop_inv {σ γ:Type} (L:Nat→σ→Option γ) (n:Nat) (I:Nat→σ→Prop) (R:γ→Prop)
  (hs:∀ k i s,i < n→I i s→(∃ s',I (i + 1) s'∧L (k + 1) s=L k s')∨(∃ r,R r∧L (k + 1) s=some r))
  (he:∀ k s,I n s→∃ r,R r∧L (k + 1) s=some r):∀ k s,I 0 s→n < k→∃ r,R r∧L k s=some r:=by
 have go:∀ d i k s,i + d=n→I i s→d < k→∃ r,R r∧L k s=some r:=by
  intro d
  induction d with
  | zero =>
   intro i k s hi hI hk
   obtain ⟨k,rfl⟩:∃ m,k=m + 1:=⟨k - 1,by omega⟩
   obtain rfl:i=n:=by omega
   exact he k s hI
  | succ d ih =>
   intro i k s hi hI hk
   obtain ⟨k,rfl⟩:∃ m,k=m + 1:=⟨k - 1,by omega⟩
   rcases hs k i s (by omega) hI with ⟨s',hI',h⟩|h
   ·rw [h]
    exact ih (i + 1) k s' (by omega) hI' (by omega)
   ·exact h
 intro k s hI hk
 exact go n 0 k s (by omega) hI hk
theorem take_set_succ {α:Type} {l:List α} {i:Nat} (h:i < l.length) (v:α):(l.set i v).take (i + 1)=l.take i ++ [v]:=by
 rw [List.take_succ_eq_append_getElem (by simpa using h)]
 simp [List.take_set_of_le]
theorem rd_nat {l:List Int} {i:Nat} (h:i < l.length):rd l (i:Int)=l[i]:=by
 simp [rd,List.getD_eq_getElem?_getD,List.getElem?_eq_getElem h]
theorem u64_range (y:Int):0≤IntKind.u64.wrap y∧IntKind.u64.wrap y≤18446744073709551615:=by
 rw [IntKind.wrap_u64]
 omega
theorem low_byte {x:Int} (h:0≤x∧x≤18446744073709551615):0≤wrap64 (Go.bits .and .u64 (x / 1099511627776) 255)∧wrap64 (Go.bits .and .u64 (x / 1099511627776) 255)≤255:=by
 have hx:0≤x / 1099511627776∧x / 1099511627776≤18446744073709551615:=by omega
 generalize x / 1099511627776=y at *
 obtain ⟨n,rfl⟩:∃ n:Nat,y=(n:Int):=⟨y.toNat,by omega⟩
 have e:Go.bits .and .u64 (n:Int) ((255:Nat):Int)=((n &&& 255:Nat):Int):=bits_and_u64_nat n 255 (by omega) (by omega)
 have e2:Go.bits .and .u64 (n:Int) 255=((n &&& 255:Nat):Int):=e
 have hb:n &&& 255≤255:=Nat.and_le_right
 rw [e2,w64 (by omega) (by omega)]
 omega
def Bytes (code:List Int):Prop:=∀ x∈code,0≤x∧x≤255
theorem bytes_at {code:List Int} (hc:Bytes code) {i:Int} (h0:0≤i) (h1:i < (code.length:Int)):0≤rd code i∧rd code i≤255:=by
 obtain ⟨j,rfl⟩:∃ j:Nat,i=(j:Int):=⟨i.toNat,by omega⟩
 have hj:j < code.length:=by omega
 have:rd code (j:Int)=code[j]:=by simp [rd,List.getD_eq_getElem?_getD,List.getElem?_eq_getElem hj]
 rw [this]
 exact hc _ (List.getElem_mem hj)
theorem next_ok {code:List Int} (hc:Bytes code) {at_ seed:Int} (ha:0≤at_∧at_≤1000000):∃ n s,spec_l00Src_next.f code at_ seed=some (n,at_ + 1,s)∧0≤n∧n≤255:=by
 unfold spec_l00Src_next.f
 rw [w64 (n:=at_ + 1) (by omega) (by omega)]
 by_cases h1:at_ < (code.length:Int)
 ·have hb:=bytes_at hc ha.1 h1
  rw [if_pos h1,if_pos ha.1,if_pos (by omega)]
  exact ⟨_,_,rfl,by rw [w64 (by omega) (by omega)];exact hb⟩
 ·rw [if_neg h1,if_neg (by omega)]
  exact ⟨_,_,rfl,low_byte (u64_range _)⟩
theorem pick_ok {code:List Int} (hc:Bytes code) {at_ seed a:Int} (ha:0≤at_∧at_≤1000000) (h1:1 < a) (h2:a≤200):∃ n s,spec_l00Src_pick.f code at_ seed a=some (n,at_ + 1,s)∧0≤n∧n < a:=by
 obtain ⟨n,s,e,hn⟩:=next_ok hc (seed:=seed) ha
 unfold spec_l00Src_pick.f
 rw [if_neg (by omega),e]
 simp only [Option.bind_some]
 rw [if_neg (by omega),if_neg (by omega)]
 refine ⟨_,_,rfl,?_⟩
 rw [Int.tmod_eq_emod_of_nonneg hn.1]
 exact ⟨Int.emod_nonneg _ (by omega),Int.emod_lt_of_pos _ (by omega)⟩
abbrev En:=S41
theorem rd_impl_Entry {l:List En} {i:Nat} (h:i < l.length):rd_T41 l (i:Int)=l[i]:=by
 simp [rd_T41,List.getD_eq_getElem?_getD,List.getElem?_eq_getElem h]
theorem loop_inv2 {σ γ:Type} (L:Nat→σ→Option γ) (n K0:Nat) (I:Nat→σ→Prop) (R:γ→Prop)
  (hs:∀ k i s,i < n→K0≤k→I i s→(∃ s',I (i + 1) s'∧L (k + 1) s=L k s')∨(∃ r,R r∧L (k + 1) s=some r))
  (he:∀ k s,K0≤k→I n s→∃ r,R r∧L (k + 1) s=some r):∀ k s,I 0 s→n + K0 < k→∃ r,R r∧L k s=some r:=by
 have go:∀ d i k s,i + d=n→I i s→d + K0 < k→∃ r,R r∧L k s=some r:=by
  intro d
  induction d with
  | zero =>
   intro i k s hi hI hk
   obtain ⟨k,rfl⟩:∃ m,k=m + 1:=⟨k - 1,by omega⟩
   obtain rfl:i=n:=by omega
   exact he k s (by omega) hI
  | succ d ih =>
   intro i k s hi hI hk
   obtain ⟨k,rfl⟩:∃ m,k=m + 1:=⟨k - 1,by omega⟩
   rcases hs k i s (by omega) (by omega) hI with ⟨s',hI',h⟩|h
   ·rw [h]
    exact ih (i + 1) k s' (by omega) hI' (by omega)
   ·exact h
 intro k s hI hk
 exact go n 0 k s (by omega) hI (by omega)
def atE (l:List En) (i:Nat) (out:List Int):Int:=impl_Log_up.at l (rd_T41 l (i:Int)) out
def upsStep (l:List En) (i:Nat) (out:List Int):Option (List Int) :=
  if decide (atE l i out < 0)=(rd_T41 l (i:Int)).f2 then none else if (rd_T41 l (i:Int)).f2=true then some (out.eraseIdx (atE l i out).toNat) else some (out ++ [(i:Int)])
def ups (l:List En):Nat→Option (List Int)
  | 0=>some []
  | n + 1=>(ups l n).bind (upsStep l n)
def lastT (l:List En):Nat→Int
  | 0=>0
  | n + 1=>(rd_T41 l (n:Int)).f0
def gd (l:List En):Nat→Bool
  | 0=>true
  | n + 1=>gd l n && impl_Log_up.good (lastT l n) (rd_T41 l (n:Int))
theorem to_eq (l:List En) (n:Nat):impl_Log_up.to l n=if gd l n=true then (ups l n).map (fun o=>(lastT l n,o)) else none:=by
  induction n with
  | zero=>rfl
  | succ n ih =>
    rw [impl_Log_up.to,ih,ups,gd]
    cases hg:gd l n with
    | false=>simp
    | true =>
      cases hu:ups l n with
      | none=>simp
      | some o =>
        simp only [if_true,Option.map_some,Option.bind_some,Bool.true_and]
        unfold impl_Log_up.step upsStep atE
        cases hgd:impl_Log_up.good (lastT l n) (rd_T41 l (n:Int)) with
        | false=>simp [hgd]
        | true =>
          simp only [hgd,Bool.true_eq_false,if_false,if_true]
          split
          · rfl
          · split <;> rfl
theorem gd_false {l:List En} {i n:Nat} (h:gd l i=false) (hi:i≤n):gd l n=false:=by
  induction n with
  | zero => obtain rfl : i = 0 := by omega
            exact h
  | succ n ih =>
    rcases Nat.lt_or_ge i (n + 1) with h1|h1
    · rw [gd,ih (by omega)]
      rfl
    · obtain rfl:i=n + 1:=by omega
      exact h
theorem ups_none {l:List En} {i n:Nat} (h:ups l i=none) (hi:i≤n):ups l n=none:=by
  induction n with
  | zero => obtain rfl : i = 0 := by omega
            exact h
  | succ n ih =>
    rcases Nat.lt_or_ge i (n + 1) with h1|h1
    · rw [ups,ih (by omega)]
      rfl
    · obtain rfl:i=n + 1:=by omega
      exact h
theorem idxP_none {α:Type} {p:α→Bool} {l:List α} (h:idxP p l < 0):∀ x∈l,p x=false:=by
  have:=idxP_nonneg p l
  rw [decide_eq_false (by omega)] at this
  intro x hx
  exact List.any_eq_false.1 this.symm x hx |> (by simpa using ·)
theorem ups_ok {l:List En} {n:Nat} {out:List Int} (h:ups l n=some out):out.length≤n∧(∀ x∈out,0≤x∧x < (n:Int))∧out.Pairwise (fun a b=>(rd_T41 l a).f1≠(rd_T41 l b).f1):=by
  induction n generalizing out with
  | zero =>
    cases h
    simp
  | succ n ih =>
    rw [ups] at h
    obtain ⟨s0,h0,h1⟩:=Option.bind_eq_some_iff.1 h
    obtain ⟨i1,i2,i3⟩:=ih h0
    unfold upsStep at h1
    split at h1
    · cases h1
    · rename_i hne
      split at h1
      · cases h1
        refine ⟨?_,fun x hx=>?_,i3.sublist (List.eraseIdx_sublist ..)⟩
        · have:=List.length_eraseIdx_le (l:=s0) (i:=(atE l n s0).toNat)
          omega
        · have:=i2 x (List.mem_of_mem_eraseIdx hx)
          omega
      · rename_i hf
        cases h1
        refine ⟨by simp; omega,fun x hx=>?_,?_⟩
        · simp only [List.mem_append,List.mem_singleton] at hx
          rcases hx with hx|rfl
          · have:=i2 x hx
            omega
          · omega
        · rw [List.pairwise_append]
          refine ⟨i3,by simp,fun a ha b hb=>?_⟩
          simp only [List.mem_singleton] at hb
          subst hb
          have hk:atE l n s0 < 0:=by
            apply Classical.byContradiction
            intro hh
            rw [decide_eq_false hh] at hne
            simp only [Bool.not_eq_true] at hf
            exact hne hf.symm
          have:=idxP_none hk a ha
          simpa using this
theorem idxP_take {p:Int→Bool} {out:List Int} {j:Nat} (hj:j < out.length) (hu:∀ a b (ha:a < out.length) (hb:b < out.length),a < b→p out[a]=true→p out[b]=true→False):idxP p (out.take (j + 1))=if p out[j]=true then (j:Int) else idxP p (out.take j):=by
  split
  · rename_i h
    refine idxP_hit (k:=j) (y:=out[j]) (by rw [List.getElem?_take_of_lt (by omega)]; exact List.getElem?_eq_getElem hj) h (fun a x ha hx=>?_)
    rw [List.getElem?_take_of_lt (by omega)] at hx
    obtain ⟨h1,rfl⟩:=List.getElem?_eq_some_iff.1 hx
    cases hp:p out[a] with
    | false=>rfl
    | true=>exact (hu a j h1 hj ha hp h).elim
  · rename_i h
    simp only [Bool.not_eq_true] at h
    unfold idxP
    rw [List.take_succ_eq_append_getElem hj,List.findIdx?_append]
    cases e:(out.take j).findIdx? p with
    | some i=>simp
    | none=>simp [h]
set_option maxHeartbeats 400000 in
theorem specUp_inner {l:List En} {n:Int} {out:List Int} {i:Nat} (hi:i < l.length) (hl:l.length≤60) (ho:out.length≤i∧(∀ x∈out,0≤x∧x < (i:Int))∧out.Pairwise (fun a b=>(rd_T41 l a).f1≠(rd_T41 l b).f1)) :
    ∀ (d j K:Nat),j + d=out.length→spec_l07Up.l1 (K + d + 1) l n out (i:Int) (idxP (fun m=>(rd_T41 l m).f1 == (rd_T41 l (i:Int)).f1) (out.take j)) (j:Int)=spec_l07Up.l1 (K + 1) l n out (i:Int) (atE l i out) (out.length:Int):=by
  intro d
  induction d with
  | zero =>
    intro j K hj
    obtain rfl:j=out.length:=by omega
    rw [List.take_length]
    rfl
  | succ d ih =>
    intro j K hj
    have hjo:j < out.length:=by omega
    obtain ⟨h1,h2,h3⟩:=ho
    have hm:=h2 out[j] (List.getElem_mem hjo)
    rw [← ih (j + 1) K (by omega),show K + (d + 1) + 1=(K + d + 1) + 1 by omega]
    conv=>lhs; unfold spec_l07Up.l1
    rw [if_pos (by omega),if_pos (by omega),rd_nat hjo,if_pos (by omega),if_pos (by omega),if_pos (by omega),if_pos (by omega),w64 (by omega) (by omega),idxP_take hjo (fun a b ha hb hab pa pb=>?_)]
    · by_cases hq:(rd_T41 l out[j]).f1=(rd_T41 l (i:Int)).f1
      · rw [if_pos hq,if_pos (by simpa using hq)]
        rfl
      · rw [if_neg hq,if_neg (by simpa using hq)]
        rfl
    · have:=List.pairwise_iff_getElem.1 h3 a b ha hb hab
      simp only [beq_iff_eq] at pa pb
      exact this (pa.trans pb.symm)
set_option maxHeartbeats 1000000 in
theorem specUp_outer {l:List En} {n:Nat} (hn:n≤l.length) (hl:l.length≤60):∀ (d i:Nat) (out:List Int) (K:Nat),i + d=n→ups l i=some out→70 * (d + 1)≤K→spec_l07Up.l0 K l (n:Int) out (i:Int)=some (match ups l n with|some o=>(o,true)|none=>([],false)):=by
  intro d
  induction d with
  | zero =>
    intro i out K hi hu hK
    obtain ⟨K,rfl⟩:∃ m,K=m + 1:=⟨K - 1,by omega⟩
    obtain rfl:i=n:=by omega
    simp only [spec_l07Up.l0]
    rw [if_neg (by omega),hu]
  | succ d ih =>
    intro i out K hi hu hK
    have ho:=ups_ok hu
    obtain ⟨h1,h2,h3⟩:=ho
    obtain ⟨K,rfl⟩:∃ m,K=m + out.length + 2:=⟨K - out.length - 2,by omega⟩
    have hK2:70 * (d + 1)≤K:=by omega
    have hi2:i + 1 + d=n:=by omega
    have hsucc:((i + 1:Nat):Int)=(i:Int) + 1:=by omega
    simp only [spec_l07Up.l0]
    rw [if_pos (by omega)]
    have e:=specUp_inner (n:=(n:Int)) (l:=l) (out:=out) (i:=i) (by omega) hl ⟨h1,h2,h3⟩ out.length 0 K (by omega)
    rw [show idxP (fun m=>(rd_T41 l m).f1 == (rd_T41 l (i:Int)).f1) (out.take 0)=-1 from rfl] at e
    rw [show ((0:Nat):Int)=0 from rfl] at e
    rw [e]
    have hlt:=impl_Log_up.idx_lt (fun m=>(rd_T41 l m).f1 == (rd_T41 l (i:Int)).f1) out
    have hs:ups l (i + 1)=upsStep l i out:=by rw [ups,hu]; rfl
    have hat:idxP (fun m=>(rd_T41 l m).f1 == (rd_T41 l (i:Int)).f1) out=atE l i out:=rfl
    rw [hat] at hlt
    conv=>lhs; unfold spec_l07Up.l1
    rw [if_neg (by omega),if_pos (by omega),if_pos (by omega)]
    unfold upsStep at hs
    by_cases hneg:atE l i out < 0
    · rw [decide_eq_true hneg] at hs
      rw [show decide (atE l i out≥0)=false from decide_eq_false (by omega)]
      cases hf:(rd_T41 l (i:Int)).f2 with
      | true =>
        rw [hf,if_pos rfl] at hs
        rw [if_pos (by rfl),ups_none hs (by omega)]
      | false =>
        rw [hf,if_neg (by simp),if_neg (by simp)] at hs
        rw [if_neg (by simp),if_pos hneg,if_pos (by omega),w64 (by omega) (by omega)]
        have e2:=ih (i + 1) _ K hi2 hs hK2
        rw [hsucc] at e2
        rw [e2]
    · rw [decide_eq_false hneg] at hs
      rw [show decide (atE l i out≥0)=true from decide_eq_true (by omega)]
      cases hf:(rd_T41 l (i:Int)).f2 with
      | false =>
        rw [hf,if_pos rfl] at hs
        rw [if_pos (by rfl),ups_none hs (by omega)]
      | true =>
        rw [hf,if_neg (by simp),if_pos rfl] at hs
        rw [if_neg (by simp),if_neg hneg]
        simp only [Option.bind_some,List.nil_append]
        obtain ⟨q,hq⟩:∃ q:Nat,atE l i out=(q:Int):=⟨(atE l i out).toNat,by omega⟩
        rw [hq] at hs hlt ⊢
        rw [if_pos (by omega),if_pos (by omega),if_pos (by simp; omega),if_pos (by rw [w64 (by omega) (by omega)]; omega),w64 (n:=(q:Int) + 1) (by omega) (by omega),if_pos (by omega),if_pos (by simp; omega),w64 (n:=(i:Int) + 1) (by omega) (by omega)]
        rw [Int.toNat_natCast,show ((q:Int) + 1).toNat=q + 1 by omega,← List.eraseIdx_eq_take_drop_succ]
        have e2:=ih (i + 1) (out.eraseIdx q) K hi2 (by rw [hs,Int.toNat_natCast]) hK2
        rw [hsucc] at e2
        rw [e2]
theorem specUp_eq {l:List En} {n K:Nat} (hn:n≤l.length) (hl:l.length≤60) (hK:5000 < K):spec_l07Up.f K l (n:Int)=some (match ups l n with|some o=>(o,true)|none=>([],false)):=by
  unfold spec_l07Up.f
  exact specUp_outer hn hl n 0 [] K (by omega) rfl (by omega)
def validG (l:List En):Bool:=decide (l.length≤60) && gd l l.length && (ups l l.length).isSome
theorem implValid_log {l:List En} (hl:l.length≤1048576):impl_ValidLog.f l=some (validG l):=by
  unfold impl_ValidLog.f impl_Log_up.f validG
  rw [if_pos hl,to_eq]
  cases hg:gd l l.length with
  | false=>simp
  | true =>
    cases hu:ups l l.length with
    | none=>simp
    | some o=>simp; omega
theorem in_log (n lo hi:Int):spec_l00In.f n lo hi=some (decide (lo≤n) && decide (n≤hi)):=by
  unfold spec_l00In.f
  by_cases h:lo≤n
  · rw [if_pos h,decide_eq_true h]
    rfl
  · rw [if_neg h,decide_eq_false h]
    rfl
theorem specOk_log {k:Nat} {l:List En} (hk:6000 < k):spec_l07Ok.f k l=some (validG l):=by
  unfold spec_l07Ok.f
  by_cases hl:l.length≤60
  · rw [if_neg (by omega)]
    obtain ⟨r,hr,h⟩:=loop_inv2 (fun k (s:Int × Int)=>spec_l07Ok.l0 k l s.1 s.2) l.length 5001 (fun i s=>s.2=(i:Int)∧s.1=lastT l i∧gd l i=true) (fun r=>r=validG l)
      (fun k i s hi hk ⟨h1,h2,h3⟩=>by
        obtain ⟨a,x⟩:=s
        simp only at h1 h2 h3
        subst h1 h2
        simp only [spec_l07Ok.l0]
        rw [if_pos (by omega),if_pos (by omega),in_log]
        simp only [Option.bind_some]
        have hg:gd l (i + 1)=impl_Log_up.good (lastT l i) (rd_T41 l (i:Int)):=by rw [gd,h3]; rfl
        unfold impl_Log_up.good at hg
        have hbad:gd l (i + 1)=false→false=validG l:=fun h=>by
          unfold validG
          rw [gd_false h (by omega)]
          simp
        cases hb1:(decide (lastT l i≤(rd_T41 l (i:Int)).f0) && decide ((rd_T41 l (i:Int)).f0≤100000)) with
        | false =>
          rw [hb1] at hg
          exact .inr ⟨false,hbad hg,by simp⟩
        | true =>
          rw [hb1] at hg
          rw [if_pos rfl,in_log]
          simp only [Option.bind_some]
          cases hb2:(decide (0≤(rd_T41 l (i:Int)).f1) && decide ((rd_T41 l (i:Int)).f1≤9999)) with
          | false =>
            rw [hb2] at hg
            exact .inr ⟨false,hbad hg,by simp⟩
          | true =>
            rw [hb2] at hg
            refine .inl ⟨((rd_T41 l (i:Int)).f0,((i + 1:Nat):Int)),⟨rfl,rfl,hg⟩,?_⟩
            rw [if_pos rfl,w64 (by omega) (by omega)]
            rfl)
      (fun k s hk ⟨h1,h2,h3⟩=>by
        obtain ⟨a,x⟩:=s
        simp only at h1 h2 h3
        subst h1 h2
        refine ⟨validG l,rfl,?_⟩
        simp only [spec_l07Ok.l0]
        rw [if_neg (by omega),specUp_eq (Nat.le_refl _) hl (by omega)]
        unfold validG
        rw [h3]
        cases ups l l.length <;> simp [hl]) k (0,0) ⟨rfl,rfl,rfl⟩ (by omega)
    subst hr
    exact h
  · rw [if_pos (by omega)]
    unfold validG
    simp [hl]
def resExec (l:List En):List En × Int:=if validG l=true then (l.flatMap (fun x=>if x.f2=true then [x] else []),0) else ([],1)
theorem flat_filter {α:Type} (p:α→Bool) (l:List α):l.flatMap (fun x=>if p x=true then [x] else [])=l.filter p:=by
 induction l with
 | nil=>rfl
 | cons a l ih =>
  rw [List.flatMap_cons,ih,List.filter_cons]
  split <;> rfl
theorem implExec_eq {l:List En} (hl:l.length≤1048576):impl_ExecutedIn.f l=some (resExec l):=by
 unfold impl_ExecutedIn.f resExec
 rw [implValid_log hl]
 simp only [Option.bind_some]
 cases hv:validG l with
 | false=>rfl
 | true =>
  simp only [if_true]
  rw [slices_Clone_Log_Entry.f,if_pos (by omega)]
  simp only [Option.bind_some]
  rw [slices_DeleteFunc_Log_Entry__impl_ExecutedIn_1.f,delO_eq (p:=fun x:En=>impl_ExecutedIn_1.f x.f0 x.f1 x.f2) (q:=fun x:En=>!x.f2) (fun x _=>rfl)]
  simp only [Option.bind_some,Bool.not_not]
  rw [flat_filter]
abbrev bs (l:List UInt8):ByteArray:=⟨l.toArray⟩
theorem bs_append (l m:List UInt8):bs l ++ bs m=bs (l ++ m):=by
 apply ByteArray.ext
 simp [bs]
theorem bs_size (l:List UInt8):(bs l).size=l.length:=by simp [bs,ByteArray.size]
theorem dec_len (k:Nat):∀ n:Nat,n < 10 ^ (k + 1)→(Lib.decDigits n).length≤k + 1:=by
 induction k with
 | zero =>
  intro n h
  rw [Lib.decDigits_one (by omega)]
  simp
 | succ k ih =>
  intro n h
  by_cases h1:n < 10
  ·rw [Lib.decDigits_one h1]
   simp
  ·rw [Lib.decDigits,dif_neg h1,List.length_append]
   have:=ih (n / 10) (by rw [Nat.pow_succ] at h;omega)
   simp
   omega
theorem itoa_len {n:Nat} (h:n < 1000000000000000000):(Lib.itoa (n:Int)).length≤18:=by
 unfold Lib.itoa
 rw [if_neg (by omega)]
 exact dec_len 17 n (by omega)
theorem itoa_nn {x:Int} (h0:0≤x) (h1:x < 1000000000000000000):(Lib.itoa x).length≤18:=by
 obtain ⟨n,rfl⟩:∃ n:Nat,x=(n:Int):=⟨x.toNat,by omega⟩
 exact itoa_len (by omega)
theorem decFrom_snoc (b:UInt8):∀ (l:List UInt8) (acc:Nat),Lib.decFrom acc (l ++ [b])=(Lib.decFrom acc l).bind fun m=>(Lib.digitVal b).map fun d=>m * 10 + d
 | [],acc=>by
  simp only [List.nil_append,Lib.decFrom,Option.bind_some]
  cases Lib.digitVal b <;> rfl
 | a :: l,acc=>by
  simp only [List.cons_append,Lib.decFrom]
  cases Lib.digitVal a with
  | none=>rfl
  | some d=>exact decFrom_snoc b l _
theorem ofNat_toNat {d:Nat} (h:d < 10):(UInt8.ofNat (48 + d)).toNat=48 + d:=by
 simp only [UInt8.toNat_ofNat']
 omega
theorem digit_byte {d:Nat} (h:d < 10):Lib.digitVal (UInt8.ofNat (48 + d))=some d:=by
 unfold Lib.digitVal
 rw [ofNat_toNat h,if_pos (by omega)]
 congr 1
 omega
theorem byte_digit {b:UInt8} {d:Nat} (h:Lib.digitVal b=some d):d < 10∧b=UInt8.ofNat (48 + d):=by
 obtain ⟨h0,h1,h2⟩:=Lib.digitVal_eq h
 refine ⟨by omega,UInt8.toNat_inj.1 ?_⟩
 rw [ofNat_toNat (by omega)]
 omega
theorem digits_from (n:Nat):Lib.decFrom 0 (Lib.decDigits n)=some n:=by
 induction n using Nat.strongRecOn with
 | _ n ih =>
  by_cases h:n < 10
  ·rw [Lib.decDigits_one h]
   simp only [Lib.decFrom,digit_byte h]
   congr 1
   omega
  ·rw [Lib.decDigits,dif_neg h,decFrom_snoc,ih (n / 10) (by omega),Option.bind_some,digit_byte (by omega)]
   simp only [Option.map_some]
   congr 1
   omega
theorem digits_head (n:Nat):10≤n→∃ b r,Lib.decDigits n=b :: r∧b≠48:=by
 induction n using Nat.strongRecOn with
 | _ n ih =>
  intro h
  rw [Lib.decDigits,dif_neg (by omega)]
  by_cases h1:n / 10 < 10
  ·rw [Lib.decDigits_one h1]
   refine ⟨_,_,rfl,fun e=>?_⟩
   have:=congrArg UInt8.toNat e
   rw [ofNat_toNat h1] at this
   have e48:(48:UInt8).toNat=48:=rfl
   omega
  ·obtain ⟨b,r,e,hb⟩:=ih (n / 10) (by omega) (by omega)
   rw [e]
   exact ⟨b,_,rfl,hb⟩
theorem digits_back:∀ (k:Nat) (l:List UInt8),l.length=k + 1→∀ n,Lib.decFrom 0 l=some n→(l.head?=some 48→l.length=1)→l=Lib.decDigits n:=by
 intro k
 induction k with
 | zero =>
  intro l hl n h _
  match l,hl with
  | [b],_ =>
   simp only [Lib.decFrom] at h
   cases e:Lib.digitVal b with
   | none=>rw [e] at h;cases h
   | some d =>
    rw [e] at h
    obtain ⟨hd,hb⟩:=byte_digit e
    simp only [Option.some.injEq] at h
    have:n=d:=by omega
    subst this
    rw [Lib.decDigits_one hd,hb]
 | succ k ih =>
  intro l hl n h hh
  have hne:l≠[]:=by intro e;rw [e] at hl;simp at hl
  obtain ⟨p,b,rfl⟩:∃ p b,l=p ++ [b]:=⟨_,_,(List.dropLast_concat_getLast hne).symm⟩
  rw [List.length_append,List.length_singleton] at hl
  rw [decFrom_snoc] at h
  cases em:Lib.decFrom 0 p with
  | none=>rw [em] at h;cases h
  | some m =>
   rw [em,Option.bind_some] at h
   cases ed:Lib.digitVal b with
   | none=>rw [ed] at h;cases h
   | some d =>
    rw [ed,Option.map_some,Option.some.injEq] at h
    obtain ⟨hd,hb⟩:=byte_digit ed
    obtain ⟨c,r,hp⟩:∃ c r,p=c :: r:=by
     cases p with
     | nil=>simp at hl
     | cons c r=>exact ⟨c,r,rfl⟩
    have hc:¬ p.head?=some 48:=fun e=>by
     have:=hh (by rw [hp] at e ⊢;simpa using e)
     rw [List.length_append,List.length_singleton] at this
     omega
    have e:=ih p (by omega) m em (fun e=>absurd e hc)
    have hm:1≤m:=by
     rcases Nat.eq_zero_or_pos m with h0|h0
     ·subst h0
      rw [Lib.decDigits_one (by omega)] at e
      exact absurd (by rw [e];rfl) hc
     ·exact h0
    rw [Lib.decDigits,dif_neg (by omega),show n / 10=m by omega,show n % 10=d by omega,← e,← hb]
def numO (l:List UInt8):Option Nat:=if l=[] then none else if 9 < l.length then none else if l.head?=some 48∧1 < l.length then none else Lib.decFrom 0 l
theorem numO_some {l:List UInt8} {n:Nat} (h:numO l=some n):l=Lib.decDigits n∧n < 1000000000:=by
 unfold numO at h
 split at h
 ·cases h
 ·split at h
  ·cases h
  ·split at h
   ·cases h
   ·rename_i h1 h2 h3
    have hl:1≤l.length:=by
     cases l with
     | nil=>exact absurd rfl h1
     | cons _ _=>simp
    refine ⟨digits_back (l.length - 1) l (by omega) n h (fun e=>?_),?_⟩
    ·rcases Nat.lt_or_ge 1 l.length with h4|h4
     ·exact absurd ⟨e,h4⟩ h3
     ·omega
    ·have:=Lib.decFrom_lt l 0 n h
     have h5:10 ^ l.length≤10 ^ 9:=Nat.pow_le_pow_right (by omega) (by omega)
     omega
theorem digits_ne (n:Nat):Lib.decDigits n≠[]:=fun e=>by
 by_cases h:n < 10
 ·rw [Lib.decDigits_one h] at e
  cases e
 ·obtain ⟨b,r,e1,_⟩:=digits_head n (by omega)
  rw [e1] at e
  cases e
theorem numO_digits {n:Nat} (h:n < 1000000000):numO (Lib.decDigits n)=some n:=by
 unfold numO
 have hl:=dec_len 8 n (by omega)
 rw [if_neg (digits_ne n),if_neg (by omega),if_neg,digits_from]
 rintro ⟨h1,h2⟩
 by_cases h3:n < 10
 ·rw [Lib.decDigits_one h3] at h2
  simp at h2
 ·obtain ⟨b,r,e,hb⟩:=digits_head n (by omega)
  rw [e] at h1
  exact hb (by simpa using h1)
theorem decFrom_ge:∀ (l:List UInt8) (acc n:Nat),Lib.decFrom acc l=some n→acc≤n
 | [],acc,n,h=>by
  simp only [Lib.decFrom,Option.some.injEq] at h
  omega
 | b :: l,acc,n,h=>by
  simp only [Lib.decFrom] at h
  cases e:Lib.digitVal b with
  | none=>rw [e] at h;cases h
  | some d =>
   rw [e] at h
   have:=decFrom_ge l _ n h
   omega
theorem parseM_of:∀ (l:List UInt8) (acc n:Nat),Lib.decFrom acc l=some n→n < 1000000000000000000→Lib.parseUintM (2 ^ 64 - 1) acc l=.ok n
 | [],acc,n,h,_=>by
  simp only [Lib.decFrom,Option.some.injEq] at h
  subst h
  rfl
 | b :: l,acc,n,h,hn=>by
  simp only [Lib.decFrom] at h
  cases e:Lib.digitVal b with
  | none=>rw [e] at h;cases h
  | some d =>
   rw [e] at h
   obtain ⟨h0,h1,h2⟩:=Lib.digitVal_eq e
   have h3:=decFrom_ge l _ n h
   unfold Lib.parseUintM
   rw [if_pos ⟨h0,h1⟩,if_neg (by omega),if_neg (by omega),← h2]
   exact parseM_of l _ n h hn
theorem parse_digits {n:Nat} (h:n < 1000000000):Lib.parseIntB 64 (Lib.decDigits n)=.ok (n:Int):=by
 have hf:=digits_from n
 have hne:=digits_ne n
 generalize Lib.decDigits n=l at hf hne
 cases l with
 | nil=>exact absurd rfl hne
 | cons c r =>
  have hc:48≤c.toNat:=by
   simp only [Lib.decFrom] at hf
   cases e:Lib.digitVal c with
   | none=>rw [e] at hf;cases hf
   | some d=>exact (Lib.digitVal_eq e).1
  have hp:=parseM_of _ _ _ hf (by omega)
  unfold Lib.parseIntB Lib.parseUintB
  simp only
  rw [if_neg (show ¬ (c.toNat=43∨c.toNat=45) by omega),if_neg (show ¬ (c :: r=[]) by simp),hp]
  simp only
  rw [if_neg (by omega),if_neg (by omega),if_neg (by omega)]
def spl (c:UInt8):List UInt8→List (List UInt8)
 | []=>[[]]
 | b :: l=>if b=c then [] :: spl c l else (match spl c l with|[]=>[[b]]|h :: t=>(b :: h) :: t)
theorem spl_ne (c:UInt8) (l:List UInt8):spl c l≠[]:=by
 cases l with
 | nil=>simp [spl]
 | cons b l =>
  unfold spl
  split
  ·simp
  ·split <;> simp
theorem spl_miss (c:UInt8):∀ (s:List UInt8),(∀ b∈s,b≠c)→spl c s=[s]
 | [],_=>rfl
 | b :: l,h=>by
  unfold spl
  rw [if_neg (h b (by simp)),spl_miss c l (fun x hx=>h x (by simp [hx]))]
theorem spl_hit (c:UInt8) (t:List UInt8):∀ (p:List UInt8),(∀ b∈p,b≠c)→spl c (p ++ c :: t)=p :: spl c t
 | [],_=>by
  simp only [List.nil_append]
  conv=>lhs;unfold spl
  rw [if_pos rfl]
 | b :: p,h=>by
  simp only [List.cons_append]
  conv=>lhs;unfold spl
  rw [if_neg (h b (by simp)),spl_hit c t p (fun x hx=>h x (by simp [hx]))]
theorem bs_extract (s:List UInt8) (a b:Nat):(bs s).extract a b=bs ((s.take b).drop a):=by
 apply ByteArray.ext
 simp [bs,ByteArray.data_extract,List.extract_eq_take_drop,List.drop_take]
theorem split_eq (c:UInt8):∀ (k:Nat) (s:List UInt8),Lib.countB (bs s) (bs [c])=k→Lib.splitB (bs [c]) 0 k (bs s)=(spl c s).map bs:=by
 have h1:(bs [c]).size=1:=rfl
 intro k
 induction k with
 | zero =>
  intro s hk
  rw [Lib.splitB_zero]
  have:Lib.indexB (bs s) (bs [c])=-1:=by
   rcases Lib.indexB_cases (bs s) (bs [c]) with h|⟨i,h,_⟩
   ·exact h
   ·have:=Lib.countB_hit (bs s) (bs [c]) i (by omega) h
    omega
  have h2:Lib.indexByte s c=-1:=by
   rw [← Lib.index_one]
   exact this
  rw [spl_miss c s (fun b hb e=>by
   obtain ⟨j,hj,rfl⟩:=List.mem_iff_getElem.1 hb
   exact Lib.indexByte_none h2 j (by rw [List.getElem?_eq_getElem hj,e]))]
  rfl
 | succ k ih =>
  intro s hk
  rcases Lib.indexB_cases (bs s) (bs [c]) with h|⟨i,h,hi⟩
  ·rw [Lib.countB_miss _ _ h] at hk
   omega
  ·have hc:=Lib.countB_hit (bs s) (bs [c]) i (by omega) h
   have h2:Lib.indexByte s c=(i:Int):=by
    rw [← Lib.index_one]
    exact h
   obtain ⟨hg,hb⟩:=Lib.indexByte_some h2
   have hil:i < s.length:=(List.getElem?_eq_some_iff.1 hg).1
   have hs:s=s.take i ++ c :: s.drop (i + 1):=by
    have e3:s[i]=c:=(List.getElem?_eq_some_iff.1 hg).2
    rw [show c :: s.drop (i + 1)=s[i] :: s.drop (i + 1) by rw [e3],← List.drop_eq_getElem_cons hil,List.take_append_drop]
   have hsz:(bs s).size=s.length:=bs_size s
   rw [Lib.splitB_hit _ _ _ _ i h,bs_extract,bs_extract,h1,hsz]
   rw [bs_extract,h1,hsz] at hc
   have e1:(s.take s.length).drop (i + 1)=s.drop (i + 1):=by rw [List.take_of_length_le (Nat.le_refl _)]
   have e2:(s.take (i + 0)).drop 0=s.take i:=by simp
   rw [e1] at hc ⊢
   rw [e2,ih _ (by omega)]
   conv=>rhs;rw [hs]
   rw [spl_hit c _ _ (fun b hb' e=>by
    obtain ⟨j,hj,rfl⟩:=List.mem_iff_getElem.1 hb'
    rw [List.length_take] at hj
    rw [List.getElem_take] at e
    exact hb j (by omega) ((List.getElem?_eq_getElem (by omega)).trans (congrArg some e)))]
   rfl
theorem from_digits:∀ (l:List UInt8) (acc n:Nat),Lib.decFrom acc l=some n→∀ b∈l,∃ d,Lib.digitVal b=some d
 | [],_,_,_,b,hb=>by simp at hb
 | c :: l,acc,n,h,b,hb=>by
  unfold Lib.decFrom at h
  cases hd:Lib.digitVal c with
  | none=>rw [hd] at h;simp at h
  | some d =>
   rw [hd] at h
   rcases List.mem_cons.1 hb with e|e
   ·rw [e]
    exact ⟨d,hd⟩
   ·exact from_digits l _ n h b e
theorem digit_ne {b:UInt8} {d:Nat} (h:Lib.digitVal b=some d):b≠32∧b≠47:=by
 obtain ⟨h1,h2⟩:=byte_digit h
 have h3:=ofNat_toNat h1
 rw [← h2] at h3
 refine ⟨fun e=>?_,fun e=>?_⟩
 ·rw [e] at h3
  have:(32:UInt8).toNat=32:=rfl
  omega
 ·rw [e] at h3
  have:(47:UInt8).toNat=47:=rfl
  omega
theorem itoa_ne {x:Int} (h0:0≤x):∀ b∈Lib.itoa x,b≠32∧b≠47:=fun b hb=>by
 unfold Lib.itoa at hb
 rw [if_neg (by omega)] at hb
 obtain ⟨d,hd⟩:=from_digits _ 0 _ (digits_from x.toNat) b hb
 exact digit_ne hd
theorem numO_itoa {x:Int} (h0:0≤x) (h1:x < 1000000000):numO (Lib.itoa x)=some x.toNat:=by
 unfold Lib.itoa
 rw [if_neg (by omega)]
 exact numO_digits (by omega)
theorem itoa_nat (n:Nat):Lib.itoa (n:Int)=Lib.decDigits n:=by
 unfold Lib.itoa
 rw [if_neg (by omega)]
 rfl
theorem implNumber (l:List UInt8) (hl:l.length≤281474976710656) (most:Int) (h1:most < 1000000000):impl_number.f (bs l) most=some (match numO l with|some n=>if (n:Int)≤most then ((n:Int),true) else (0,false)|none=>(0,false)):=by
 unfold impl_number.f
 rw [bs_size,if_pos hl]
 have hd:(bs l).data.toList=l:=rfl
 rw [hd]
 cases hn:numO l with
 | some n =>
  obtain ⟨he,hb⟩:=numO_some hn
  rw [he,parse_digits hb]
  simp only
  have:impl_number.is (bs (Lib.decDigits n)) most (n:Int)=decide ((n:Int)≤most):=by
   unfold impl_number.is
   rw [decide_eq_true (show Lib.itoa (n:Int)=(bs (Lib.decDigits n)).data.toList from itoa_nat n),decide_eq_true (show (0:Int)≤(n:Int) by omega)]
   simp
  rw [this]
  by_cases h:(n:Int)≤most
  ·rw [if_pos h,decide_eq_true h]
   rfl
  ·rw [if_neg h,decide_eq_false h]
   rfl
 | none =>
  cases hp:Lib.parseIntB 64 l with
  | «syntax»=>rfl
  | range=>rfl
  | ok v =>
   simp only
   have:impl_number.is (bs l) most v=false:=by
    cases e:impl_number.is (bs l) most v with
    | false=>rfl
    | true =>
     unfold impl_number.is at e
     simp only [Bool.and_eq_true,decide_eq_true_eq] at e
     obtain ⟨e1,e2,e3⟩:=e
     obtain ⟨n,rfl⟩:∃ n:Nat,v=(n:Int):=⟨v.toNat,by omega⟩
     rw [itoa_nat] at e1
     have e4:l=Lib.decDigits n:=e1.symm
     rw [e4,numO_digits (by omega)] at hn
     cases hn
   rw [this]
   rfl
theorem dec_impl_int {x:Int} (h0:0≤x) (h1:x < 1000000000000000000):impl_decimal.f x=some (bs (Lib.itoa x)):=by
 unfold impl_decimal.f
 rw [if_pos (by omega),if_pos (by omega)]
def entTxt (x:En):List UInt8:=Lib.itoa x.f0 ++ (if x.f2=true then [32,100,111,119,110,32] else [32,117,112,32]) ++ Lib.itoa x.f1 ++ [10]
def okEnt (x:En):Prop:=(0≤x.f0∧x.f0≤100000)∧(0≤x.f1∧x.f1≤9999)
theorem entTxt_le {x:En} (h:okEnt x):(entTxt x).length≤43:=by
 obtain ⟨⟨h0,h1⟩,⟨h2,h3⟩⟩:=h
 have:=itoa_nn h0 (by omega)
 have:=itoa_nn h2 (by omega)
 unfold entTxt
 split <;> simp only [List.length_append,List.length_cons,List.length_nil] <;> omega
theorem gd_last {l:List En}:∀ n,gd l n=true→0≤lastT l n
 | 0,_=>Int.le_refl _
 | n + 1,hg=>by
  unfold gd at hg
  rw [Bool.and_eq_true] at hg
  have h1:=gd_last n hg.1
  have h2:=hg.2
  unfold impl_Log_up.good at h2
  simp only [Bool.and_eq_true,decide_eq_true_eq] at h2
  show 0≤(rd_T41 l (n:Int)).f0
  omega
theorem gd_ok {l:List En}:∀ n,gd l n=true→∀ i (h:i < l.length),i < n→okEnt l[i]
 | 0,_,i,_,h=>absurd h (Nat.not_lt_zero _)
 | n + 1,hg,i,hl,hi=>by
  unfold gd at hg
  rw [Bool.and_eq_true] at hg
  by_cases e:i=n
  ·subst e
   have h1:=gd_last i hg.1
   have h2:=hg.2
   unfold impl_Log_up.good at h2
   simp only [Bool.and_eq_true,decide_eq_true_eq] at h2
   rw [rd_impl_Entry hl] at h2
   unfold okEnt
   omega
  ·exact gd_ok n hg.1 i hl (by omega)
theorem validG_ok {l:List En} (h:validG l=true):l.length≤60∧∀ i (hi:i < l.length),okEnt l[i]:=by
 unfold validG at h
 simp only [Bool.and_eq_true,decide_eq_true_eq] at h
 exact ⟨h.1.1,fun i hi=>gd_ok _ h.1.2 i hi hi⟩
def logTxt (l:List En):List UInt8:=l.flatMap entTxt
theorem implLine {x:En} (h:okEnt x):impl_LogText.line x=some (bs (entTxt x)):=by
 obtain ⟨⟨h0,h1⟩,⟨h2,h3⟩⟩:=h
 unfold impl_LogText.line
 rw [dec_impl_int h0 (by omega),dec_impl_int h2 (by omega)]
 simp only [Option.bind_some]
 rw [show (⟨#[32,100,111,119,110,32]⟩:ByteArray)=bs [32,100,111,119,110,32] from rfl,show (⟨#[32,117,112,32]⟩:ByteArray)=bs [32,117,112,32] from rfl,show (⟨#[10]⟩:ByteArray)=bs [10] from rfl]
 unfold entTxt
 cases x.f2 <;> simp [bs_append]
theorem implLogTxt:∀ (l:List En) (acc:List UInt8),(∀ i (hi:i < l.length),okEnt l[i])→acc.length + 43 * l.length≤1000000→impl_LogText.l0 l (bs acc)=some (bs (acc ++ logTxt l))
 | [],acc,_,_=>by simp [impl_LogText.l0,logTxt]
 | x :: r,acc,hb,hl=>by
  have hx:okEnt x:=hb 0 (by simp)
  have hle:=entTxt_le hx
  simp only [List.length_cons] at hl
  have key:=implLogTxt r (acc ++ entTxt x) (fun i hi=>hb (i + 1) (by simp;omega)) (by simp only [List.length_append];omega)
  have hlog:logTxt (x :: r)=entTxt x ++ logTxt r:=rfl
  simp only [impl_LogText.l0]
  rw [implLine hx]
  simp only [Option.bind_some]
  rw [if_pos (by rw [bs_size,bs_size];omega),bs_append,key,hlog,List.append_assoc]
theorem impl_LogText_eq (l:List En) (hl:l.length≤1048576):impl_LogText.f l=some (bs (if validG l=true then logTxt l else [])):=by
 unfold impl_LogText.f
 rw [implValid_log hl]
 simp only [Option.bind_some]
 by_cases h:validG l=true
 ·obtain ⟨h1,h2⟩:=validG_ok h
  rw [if_pos h,if_pos h,show (⟨#[]⟩:ByteArray)=bs [] from rfl,implLogTxt l [] h2 (by simp;omega)]
  rfl
 ·rw [if_neg h,if_neg h]
def trim (l:List UInt8):List UInt8:=if l.getLast?=some 10 then l.dropLast else l
theorem trim_line (p:List UInt8):trim (p ++ [10])=p:=by simp [trim]
def entBody (x:En):List UInt8:=Lib.itoa x.f0 ++ (if x.f2=true then [32,100,111,119,110,32] else [32,117,112,32]) ++ Lib.itoa x.f1
theorem entTxt_body (x:En):entTxt x=entBody x ++ [10]:=rfl
theorem body_ne {x:En} (h0:0≤x.f0) (h1:0≤x.f1):∀ b∈entBody x,b≠10:=fun b hb=>by
 unfold entBody at hb
 have key:∀ y:Int,0≤y→∀ b∈Lib.itoa y,b≠10:=fun y hy b hb e=>by
  unfold Lib.itoa at hb
  rw [if_neg (by omega)] at hb
  obtain ⟨d,hd⟩:=from_digits _ 0 _ (digits_from y.toNat) b hb
  obtain ⟨h1,h2⟩:=byte_digit hd
  have h3:=ofNat_toNat h1
  rw [← h2,e] at h3
  have:(10:UInt8).toNat=10:=rfl
  omega
 rcases List.mem_append.1 hb with hb|hb
 ·rcases List.mem_append.1 hb with hb|hb
  ·exact key _ h0 b hb
  ·intro e
   subst e
   split at hb <;> revert hb <;> decide
 ·exact key _ h1 b hb
theorem spl_body {x:En} (h0:0≤x.f0) (h1:0≤x.f1):spl 32 (entBody x)=[Lib.itoa x.f0,(if x.f2=true then [100,111,119,110] else [117,112]),Lib.itoa x.f1]:=by
 have e:entBody x=Lib.itoa x.f0 ++ 32 :: ((if x.f2=true then [100,111,119,110] else [117,112]) ++ 32 :: Lib.itoa x.f1):=by
  unfold entBody
  cases x.f2 <;> simp
 rw [e,spl_hit 32 _ _ (fun b hb=>(itoa_ne h0 b hb).1),spl_hit 32 _ _ (fun b hb e=>by subst e;split at hb <;> revert hb <;> decide),spl_miss 32 _ (fun b hb=>(itoa_ne h1 b hb).1)]
theorem lines_log:∀ (g:List En),(∀ x∈g,okEnt x)→impl_ReadLog.lines (logTxt g)=g.map entTxt
 | [],_=>rfl
 | x :: g,h=>by
  have hx:=h x (by simp)
  have e:logTxt (x :: g)=entBody x ++ 10 :: logTxt g:=by
   show entTxt x ++ logTxt g=_
   rw [entTxt_body,List.append_assoc]
   rfl
  rw [e,impl_ReadLog.lines_hit _ _ (body_ne hx.1.1 hx.2.1),lines_log g (fun y hy=>h y (by simp [hy]))]
  rfl
def lineI (l:List UInt8):Option En:=match spl 32 l with
 | [p,q,z]=>(match numO p,numO z with
  | some a,some b=>if (a:Int)≤100000∧(b:Int)≤9999 then some ⟨(a:Int),(b:Int),decide (q=[100,111,119,110])⟩ else none
  | _,_=>none)
 | _=>none
theorem lineI_body {x:En} (h:okEnt x):lineI (entBody x)=some x:=by
 obtain ⟨⟨h0,h1⟩,⟨h2,h3⟩⟩:=h
 unfold lineI
 rw [spl_body h0 h2]
 simp only
 rw [numO_itoa h0 (by omega),numO_itoa h2 (by omega)]
 obtain ⟨a,b,c⟩:=x
 simp only at h0 h1 h2 h3 ⊢
 rw [Int.toNat_of_nonneg h0,Int.toNat_of_nonneg h2,if_pos ⟨h1,h3⟩]
 cases c <;> rfl
theorem beq_dec (a b:List UInt8):(a == b)=decide (a=b):=by
 by_cases h:a=b
 ·rw [decide_eq_true h]
  exact beq_iff_eq.2 h
 ·rw [decide_eq_false h]
  exact beq_eq_false_iff_ne.2 h
theorem implSplit (c:UInt8) (l:List UInt8) (hl:l.length≤1048576):strings_Split.f (bs l) (bs [c])=some ((spl c l).map bs):=by
 unfold strings_Split.f
 rw [bs_size,bs_size,if_pos (by omega),if_pos (by simp),split_eq c _ l rfl]
theorem spl_len (c:UInt8):∀ l:List UInt8,(spl c l).length≤l.length + 1∧∀ x∈spl c l,x.length≤l.length
 | []=>by simp [spl]
 | b :: l=>by
  obtain ⟨h1,h2⟩:=spl_len c l
  unfold spl
  split
  ·refine ⟨by simpa using h1,fun x hx=>?_⟩
   rcases List.mem_cons.1 hx with rfl|hx
   ·simp
   ·have:=h2 x hx
    simp
    omega
  ·cases e:spl c l with
   | nil=>exact absurd e (spl_ne c l)
   | cons y r =>
    rw [e] at h1 h2
    simp only
    refine ⟨by simp at h1 ⊢;omega,fun x hx=>?_⟩
    rcases List.mem_cons.1 hx with rfl|hx
    ·have:=h2 y (by simp)
     simp
     omega
    ·have:=h2 x (by simp [hx])
     simp
     omega
def foldI:List (List UInt8)→List En→Option (List En)
 | [],acc=>some acc
 | l :: r,acc=>if acc.length=60 then none else match lineI (trim l) with
  | some x=>foldI r (acc ++ [x])
  | none=>none
def resI (l:List UInt8):List En × Int:=match foldI (impl_ReadLog.lines l) [] with
 | some g=>if (if validG g=true then logTxt g else [])=l then (g,0) else ([],5)
 | none=>([],5)
theorem toList_bs (l:List UInt8):(bs l).toList=l:=by rw [ByteArray.toList_eq]
theorem trimSuffix (l:List UInt8) (hl:l.length≤1048576):strings_TrimSuffix.f (bs l) (bs [10])=some (bs (trim l)):=by
 unfold strings_TrimSuffix.f stringslite_TrimSuffix.f stringslite_HasSuffix.f
 rw [bs_size,bs_size,toList_bs]
 simp only [List.length_cons,List.length_nil]
 by_cases h:l=[]
 ·subst h
  rw [if_neg (by simp)]
  rfl
 ·have hp:0 < l.length:=List.length_pos_iff.2 h
  have hw:wrap64 ((l.length:Int) - ((0 + 1:Nat):Int))=((l.length - 1:Nat):Int):=by rw [w64 (by omega) (by omega)];omega
  rw [if_pos (by omega),hw,if_pos (by omega),if_pos (by omega),Int.toNat_natCast,bs_extract,toList_bs,List.take_of_length_le (Nat.le_refl _)]
  simp only [Option.bind_some]
  have hd:l.drop (l.length - 1)=[l.getLast h]:=by
   have e:=List.dropLast_concat_getLast h
   have e2:l.drop (l.length - 1)=(l.dropLast ++ [l.getLast h]).drop l.dropLast.length:=by rw [e,List.length_dropLast]
   rw [e2,List.drop_left]
  rw [hd]
  by_cases hb:l.getLast h=10
  ·rw [hb,if_pos (by simp),if_pos (by omega),if_pos (by omega),bs_extract,List.drop_zero,← List.dropLast_eq_take]
   simp only [Option.bind_some]
   unfold trim
   rw [if_pos (by rw [List.getLast?_eq_some_getLast h,hb])]
  ·rw [if_neg (by simpa using hb)]
   simp only [Option.bind_some]
   unfold trim
   rw [if_neg (by rw [List.getLast?_eq_some_getLast h];simpa using hb)]
theorem trim_len (l:List UInt8):(trim l).length≤l.length:=by
 unfold trim
 split <;> simp
theorem lineI_no {l:List UInt8} (h:¬ (spl 32 l).length=3):lineI l=none:=by
 unfold lineI
 split
 ·rename_i e
  rw [e] at h
  exact absurd rfl h
 ·rfl
theorem implOne (l:List UInt8) (acc:List En) (hl:l.length≤1048576):impl_ReadLog.one l acc=some (if acc.length=60 then none else lineI (trim l)):=by
 have ht:=trim_len l
 unfold impl_ReadLog.one
 rw [show (⟨#[10]⟩:ByteArray)=bs [10] from rfl,show (⟨#[32]⟩:ByteArray)=bs [32] from rfl,trimSuffix l hl]
 simp only [Option.bind_some]
 rw [implSplit 32 _ (by omega)]
 simp only [Option.bind_some,List.length_map]
 have hlen:=(spl_len 32 (trim l)).2
 by_cases h3:(spl 32 (trim l)).length=3
 ·unfold lineI
  rw [if_pos h3]
  by_cases h60:acc.length=60
  ·rw [if_pos h60,if_pos h60]
  ·rw [if_neg h60,if_neg h60]
   obtain ⟨p,q,z,hpq⟩:∃ p q z,spl 32 (trim l)=[p,q,z]:=by
    rcases e:spl 32 (trim l) with _|⟨p,_|⟨q,_|⟨z,_|⟨u,r⟩⟩⟩⟩ <;> rw [e] at h3 <;> simp at h3
    exact ⟨p,q,z,rfl⟩
   rw [hpq] at hlen ⊢
   have lp:=hlen p (by simp)
   have lz:=hlen z (by simp)
   have r0:([p,q,z].map bs).getD 0 ByteArray.empty=bs p:=rfl
   have r1:([p,q,z].map bs).getD 1 ByteArray.empty=bs q:=rfl
   have r2:([p,q,z].map bs).getD 2 ByteArray.empty=bs z:=rfl
   rw [r0,r1,r2,implNumber p (by omega) 100000 (by omega),implNumber z (by omega) 9999 (by omega),toList_bs]
   simp only [Option.bind_some]
   cases numO p with
   | none=>cases numO z <;> simp
   | some a =>
    cases numO z with
    | none=>simp
    | some c =>
     simp only
     by_cases ha:(a:Int)≤100000
     ·by_cases hc:(c:Int)≤9999
      ·rw [if_pos ha,if_pos hc,if_pos ⟨rfl,rfl⟩,if_pos ⟨ha,hc⟩,beq_dec]
      ·rw [if_pos ha,if_neg hc,if_neg (by simp),if_neg (fun h=>hc h.2)]
     ·rw [if_neg ha,if_neg (by simp),if_neg (fun h=>ha h.1)]
 ·rw [if_neg h3]
  rw [lineI_no h3]
  simp
theorem implRounds:∀ (ls:List (List UInt8)) (acc:List En),(∀ x∈ls,x.length≤1048576)→impl_ReadLog.l0 ls acc=some (foldI ls acc)
 | [],_,_=>rfl
 | l :: r,acc,h=>by
  simp only [impl_ReadLog.l0,foldI]
  rw [implOne l acc (h l (by simp))]
  simp only [Option.bind_some]
  by_cases h60:acc.length=60
  ·rw [if_pos h60,if_pos h60]
  ·rw [if_neg h60,if_neg h60]
   cases lineI (trim l) with
   | none=>rfl
   | some x=>exact implRounds r _ (fun y hy=>h y (by simp [hy]))
theorem foldI_len:∀ (ls:List (List UInt8)) (acc g:List En),foldI ls acc=some g→acc.length≤60→g.length≤60
 | [],acc,g,h,ha=>by
  simp only [foldI,Option.some.injEq] at h
  rw [← h]
  exact ha
 | l :: r,acc,g,h,ha=>by
  simp only [foldI] at h
  by_cases h60:acc.length=60
  ·rw [if_pos h60] at h
   cases h
  ·rw [if_neg h60] at h
   cases hl:lineI (trim l) with
   | none=>rw [hl] at h;cases h
   | some x =>
    rw [hl] at h
    exact foldI_len r _ g h (by simp;omega)
theorem lines_len:∀ (l:List UInt8),∀ x∈impl_ReadLog.lines l,x.length≤l.length
 | [],x,hx=>by simp [impl_ReadLog.lines] at hx
 | b :: l,x,hx=>by
  have ih:=lines_len l
  unfold impl_ReadLog.lines at hx
  by_cases h:b=10
  ·rw [if_pos h] at hx
   rcases List.mem_cons.1 hx with rfl|hx
   ·simp
   ·have:=ih x hx
    simp
    omega
  ·rw [if_neg h] at hx
   cases e:impl_ReadLog.lines l with
   | nil =>
    rw [e] at hx
    simp only [List.mem_singleton] at hx
    subst hx
    simp
   | cons y r =>
    rw [e] at hx ih
    rcases List.mem_cons.1 hx with rfl|hx
    ·have:=ih y (by simp)
     simp
     omega
    ·have:=ih x (by simp [hx])
     simp
     omega
theorem implReadLog (l:List UInt8) (hl:l.length≤1048576):impl_ReadLog.f (bs l)=some (resI l):=by
 have hd:(bs l).data.toList=l:=rfl
 unfold impl_ReadLog.f resI
 rw [bs_size,if_pos (by omega),hd,implRounds _ _ (fun x hx=>by have:=lines_len l x hx;omega)]
 simp only [Option.bind_some]
 cases hf:foldI (impl_ReadLog.lines l) [] with
 | none=>rfl
 | some g =>
  simp only
  have:=foldI_len _ _ _ hf (by simp)
  rw [impl_LogText_eq g (by omega)]
  simp only [Option.bind_some]
  rw [toList_bs,toList_bs]
  by_cases e:(if validG g=true then logTxt g else [])=l
  ·rw [if_pos e,if_pos e]
  ·rw [if_neg e,if_neg e]
theorem okEnts {g:List En} (h:validG g=true):g.length≤60∧∀ x∈g,okEnt x:=by
 obtain ⟨h1,h2⟩:=validG_ok h
 exact ⟨h1,fun x hx=>by obtain ⟨i,hi,rfl⟩:=List.mem_iff_getElem.1 hx;exact h2 i hi⟩
theorem foldI_log:∀ (g acc:List En),(∀ x∈g,okEnt x)→acc.length + g.length≤60→foldI (g.map entTxt) acc=some (acc ++ g)
 | [],acc,_,_=>by simp [foldI]
 | x :: g,acc,h,hn=>by
  simp only [List.length_cons] at hn
  simp only [List.map_cons,foldI]
  rw [if_neg (by omega),entTxt_body,trim_line,lineI_body (h x (by simp))]
  simp only
  rw [foldI_log g _ (fun y hy=>h y (by simp [hy])) (by simp;omega)]
  simp
theorem resI_log {g:List En} (h:validG g=true):resI (logTxt g)=(g,0):=by
 obtain ⟨h1,h2⟩:=okEnts h
 unfold resI
 rw [lines_log g h2,foldI_log g [] h2 (by simpa using h1)]
 simp [h]
def mv (by_:Int) (x:En):En:=⟨x.f0 + by_,x.f1,x.f2⟩
theorem rdE_map {l:List En} {i:Nat} (b:Int) (h:i < l.length):rd_T41 (l.map (mv b)) (i:Int)=mv b (rd_T41 l (i:Int)):=by
  rw [rd_impl_Entry (by simpa using h),rd_impl_Entry h]
  simp
theorem idxP_congr {α:Type} {p q:α→Bool} {l:List α} (h:∀ x∈l,p x=q x):idxP p l=idxP q l:=by
  have e:l.findIdx? p=l.findIdx? q:=by
    induction l with
    | nil=>rfl
    | cons a l ih =>
      rw [List.findIdx?_cons,List.findIdx?_cons,h a (by simp),ih (fun x hx=>h x (by simp [hx]))]
  simp [idxP,e]
theorem ups_mv (b:Int) {l:List En} {n:Nat} (hn:n≤l.length):ups (l.map (mv b)) n=ups l n:=by
  induction n with
  | zero=>rfl
  | succ n ih =>
    rw [ups,ups,ih (by omega)]
    cases hu:ups l n with
    | none=>rfl
    | some out =>
      obtain ⟨h1,h2,h3⟩:=ups_ok hu
      have hat:atE (l.map (mv b)) n out=atE l n out:=by
        unfold atE impl_Log_up.at
        rw [rdE_map b (by omega)]
        refine idxP_congr (fun x hx=>?_)
        have:=h2 x hx
        obtain ⟨q,rfl⟩:∃ q:Nat,x=(q:Int):=⟨x.toNat,by omega⟩
        rw [rdE_map b (by omega)]
        rfl
      simp only [Option.bind_some]
      unfold upsStep
      rw [hat,rdE_map b (by omega)]
      rfl
def inT (b:Int) (x:En):Bool:=decide (0≤x.f0 + b) && decide (x.f0 + b≤100000)
def allT (b:Int) (l:List En):Nat→Bool
  | 0=>true
  | n + 1=>allT b l n && inT b (rd_T41 l (n:Int))
theorem allT_false {b:Int} {l:List En} {i n:Nat} (h:allT b l i=false) (hi:i≤n):allT b l n=false:=by
  induction n with
  | zero => obtain rfl : i = 0 := by omega
            exact h
  | succ n ih =>
    rcases Nat.lt_or_ge i (n + 1) with h1|h1
    · rw [allT,ih (by omega)]
      rfl
    · obtain rfl:i=n + 1:=by omega
      exact h
theorem gd_at {l:List En} {n:Nat} (h:gd l n=true) {i:Nat} (hi:i < n):impl_Log_up.good (lastT l i) (rd_T41 l (i:Int))=true:=by
  induction n with
  | zero=>omega
  | succ n ih =>
    rw [gd,Bool.and_eq_true] at h
    rcases Nat.lt_or_ge i n with h1|h1
    · exact ih h.1 h1
    · obtain rfl:i=n:=by omega
      exact h.2
theorem lastT_nonneg {l:List En} {n:Nat} (h:gd l n=true):0≤lastT l n:=by
  induction n with
  | zero=>simp [lastT]
  | succ n ih =>
    rw [gd,Bool.and_eq_true] at h
    have h1:=ih h.1
    have h2:=h.2
    unfold impl_Log_up.good at h2
    simp only [Bool.and_eq_true,decide_eq_true_eq] at h2
    rw [lastT]
    omega
theorem gd_mv (b:Int) {l:List En} {n:Nat} (hn:n≤l.length) (h:gd l n=true):gd (l.map (mv b)) n=allT b l n:=by
  induction n with
  | zero=>rfl
  | succ n ih =>
    rw [gd,allT]
    rw [gd,Bool.and_eq_true] at h
    obtain ⟨h0,hg⟩:=h
    rw [ih (by omega) h0,rdE_map b (by omega)]
    cases ha:allT b l n with
    | false=>rfl
    | true =>
      have hl0:=lastT_nonneg h0
      simp only [Bool.true_and]
      unfold impl_Log_up.good at hg ⊢
      simp only [Bool.and_eq_true,decide_eq_true_eq] at hg
      unfold inT
      simp only [show ∀ x:En,(mv b x).f0=x.f0 + b from fun _=>rfl,show ∀ x:En,(mv b x).f1=x.f1 from fun _=>rfl]
      have hlast:lastT (l.map (mv b)) n≤(rd_T41 l (n:Int)).f0 + b ↔ 0≤(rd_T41 l (n:Int)).f0 + b:=by
        cases n with
        | zero=>exact Iff.rfl
        | succ m =>
          rw [lastT,rdE_map b (by omega)]
          rw [allT,Bool.and_eq_true] at ha
          have:=ha.2
          unfold inT at this
          simp only [Bool.and_eq_true,decide_eq_true_eq] at this
          rw [lastT] at hg
          show (rd_T41 l (m:Int)).f0 + b≤_ ↔ _
          omega
      rw [show decide (lastT (l.map (mv b)) n≤(rd_T41 l (n:Int)).f0 + b)=decide (0≤(rd_T41 l (n:Int)).f0 + b) from decide_eq_decide.2 hlast,decide_eq_true hg.2.1,decide_eq_true hg.2.2]
      simp
theorem validG_mv {b:Int} {l:List En} (h:validG l=true):validG (l.map (mv b))=allT b l l.length:=by
  unfold validG at h ⊢
  simp only [Bool.and_eq_true,decide_eq_true_eq] at h
  obtain ⟨⟨h1,h2⟩,h3⟩:=h
  rw [List.length_map,ups_mv b (Nat.le_refl _),gd_mv b (Nat.le_refl _) h2,h3,decide_eq_true h1]
  simp
theorem valid_times {l:List En} (h:validG l=true) {i:Nat} (hi:i < l.length):0≤(rd_T41 l (i:Int)).f0∧(rd_T41 l (i:Int)).f0≤100000:=by
  unfold validG at h
  simp only [Bool.and_eq_true,decide_eq_true_eq] at h
  obtain ⟨⟨h1,h2⟩,h3⟩:=h
  have hg:=gd_at h2 hi
  have hl:=lastT_nonneg (l:=l) (n:=i) (by
    cases hgi:gd l i with
    | true=>rfl
    | false=>rw [gd_false hgi (by omega)] at h2; cases h2)
  unfold impl_Log_up.good at hg
  simp only [Bool.and_eq_true,decide_eq_true_eq] at hg
  omega
theorem valid_len {l:List En} (h:validG l=true):l.length≤60:=by
  unfold validG at h
  simp only [Bool.and_eq_true,decide_eq_true_eq] at h
  exact h.1.1
def resShift (l:List En) (b:Int):List En × Int:=if validG l=true then (if (decide (-100000≤b) && decide (b≤100000))=true then (if allT b l l.length=true then (l.map (mv b),0) else ([],2)) else ([],2)) else ([],1)
theorem rdE_take {l:List En} {n i:Nat} (h:i < n):rd_T41 (l.take n) (i:Int)=rd_T41 l (i:Int):=by
 simp [rd_T41,List.getD_eq_getElem?_getD,List.getElem?_take_of_lt h]
theorem rdE_take' {l:List En} {n:Nat} {i:Int} (h0:0≤i) (h:i < (n:Int)):rd_T41 (l.take n) i=rd_T41 l i:=by
 obtain ⟨j,rfl⟩:∃ j:Nat,i=(j:Int):=⟨i.toNat,by omega⟩
 exact rdE_take (by omega)
theorem idxP_congr' {α:Type} {p q:α→Bool} {l:List α} (h:∀ x∈l,p x=q x):idxP p l=idxP q l:=by
 have e:l.findIdx? p=l.findIdx? q:=by
  induction l with
  | nil=>rfl
  | cons a l ih=>simp [List.findIdx?_cons,h a (by simp),ih (fun x hx=>h x (by simp [hx]))]
 unfold idxP
 rw [e]
theorem ups_take {l:List En} {n m:Nat} (h:m≤n):ups (l.take n) m=ups l m:=by
 induction m with
 | zero=>rfl
 | succ m ih =>
  rw [ups,ups,ih (by omega)]
  cases hu:ups l m with
  | none=>rfl
  | some out =>
   have ho:=(ups_ok hu).2.1
   simp only [Option.bind_some]
   have ha:atE (l.take n) m out=atE l m out:=by
    unfold atE impl_Log_up.at
    rw [rdE_take (by omega)]
    exact idxP_congr' fun x hx=>by rw [rdE_take' (ho x hx).1 (by have:=(ho x hx).2;omega)]
   unfold upsStep
   rw [ha,rdE_take (by omega)]
theorem lastT_take {l:List En} {n m:Nat} (h:m≤n):lastT (l.take n) m=lastT l m:=by
 cases m with
 | zero=>rfl
 | succ m=>rw [lastT,lastT,rdE_take (by omega)]
theorem gd_take {l:List En} {n m:Nat} (h:m≤n):gd (l.take n) m=gd l m:=by
 induction m with
 | zero=>rfl
 | succ m ih=>rw [gd,gd,ih (by omega),lastT_take (by omega),rdE_take (by omega)]
theorem valid_parts {l:List En} (h:validG l=true):l.length≤60∧gd l l.length=true∧∃ o,ups l l.length=some o:=by
 unfold validG at h
 simp only [Bool.and_eq_true,decide_eq_true_eq] at h
 exact ⟨h.1.1,h.1.2,Option.isSome_iff_exists.1 h.2⟩
theorem ups_some {l:List En} (h:validG l=true) {n:Nat} (hn:n≤l.length):∃ o,ups l n=some o:=by
 obtain ⟨_,_,o,ho⟩:=valid_parts h
 cases e:ups l n with
 | some o=>exact ⟨o,rfl⟩
 | none=>rw [ups_none e hn] at ho;cases ho
theorem gd_some {l:List En} (h:validG l=true) {n:Nat} (hn:n≤l.length):gd l n=true:=by
 obtain ⟨_,hg,_⟩:=valid_parts h
 cases e:gd l n with
 | true=>rfl
 | false=>rw [gd_false e hn] at hg;cases hg
theorem up_take {l:List En} (h:validG l=true) {n:Nat} (hn:n≤l.length):impl_Log_up.f (l.take n)=some ((ups l n).getD [],true):=by
 obtain ⟨hl,_⟩:=valid_parts h
 obtain ⟨o,ho⟩:=ups_some h hn
 unfold impl_Log_up.f
 rw [if_pos (by rw [List.length_take];omega),to_eq,List.length_take,Nat.min_eq_left hn,gd_take (Nat.le_refl _),gd_some h hn,if_pos rfl,ups_take (Nat.le_refl _),ho]
 simp only [Option.map_some,Option.getD_some,Option.some.injEq,Prod.mk.injEq,true_and,decide_eq_true_eq]
 omega
def cutAt (l:List En) (t:Int):Nat:=l.findIdx (fun x=>decide (x.f0 > t))
def sigs (l:List En) (o:List Int):List Int:=(List.range o.length).flatMap fun (i:Nat)=>[(rd_T41 l (rd o (i:Int))).f1]
theorem rdI_mem {o:List Int} {i:Nat} (h:i < o.length):rd o (i:Int)∈o:=by
 rw [rd_nat h]
 exact List.getElem_mem h
theorem cut_le (l:List En) (t:Int):cutAt l t≤l.length:=List.findIdx_le_length
theorem idx_cut (l:List En) (t:Int):(idxP (fun x=>decide (x.f0 > t)) l < 0→cutAt l t=l.length)∧(¬ idxP (fun x=>decide (x.f0 > t)) l < 0→idxP (fun x=>decide (x.f0 > t)) l=(cutAt l t:Int)):=by
 unfold idxP cutAt
 cases e:l.findIdx? (fun x=>decide (x.f0 > t)) with
 | none =>
  refine ⟨fun _=>?_,fun h=>absurd (by decide) h⟩
  rw [List.findIdx?_eq_none_iff] at e
  exact List.findIdx_eq_length.2 e
 | some i =>
  refine ⟨fun h=>?_,fun _=>?_⟩
  ·simp only at h
   omega
  ·rw [List.findIdx?_eq_some_iff_findIdx_eq] at e
   simp only
   rw [e.2]
theorem last_up {l:List En}:∀ n {out:List Int},ups l n=some out→∀ j∈out,impl_LongestUp.last l (rd_T41 l j).f1 n=j:=by
 intro n
 induction n with
 | zero=>intro out h;cases h;simp
 | succ n ih =>
  intro out h j hj
  rw [ups] at h
  obtain ⟨s0,h0,h1⟩:=Option.bind_eq_some_iff.1 h
  have i1:=ih h0
  unfold upsStep at h1
  split at h1
  ·cases h1
  ·rename_i hne
   split at h1
   ·rename_i hf
    cases h1
    rw [impl_LongestUp.last,if_neg (by rw [hf];simp)]
    exact i1 j (List.mem_of_mem_eraseIdx hj)
   ·rename_i hf
    cases h1
    have hf':(rd_T41 l (n:Int)).f2=false:=by simpa using hf
    rcases List.mem_append.1 hj with hj|hj
    ·have hk:atE l n s0 < 0:=by
      apply Classical.byContradiction
      intro hh
      rw [decide_eq_false hh] at hne
      exact hne hf'.symm
     have:=idxP_none hk j hj
     have hne2:(rd_T41 l j).f1≠(rd_T41 l (n:Int)).f1:=by simpa using this
     rw [impl_LongestUp.last,if_neg (fun h=>hne2 h.2.symm)]
     exact i1 j hj
    ·simp only [List.mem_singleton] at hj
     subst hj
     rw [impl_LongestUp.last,if_pos ⟨hf',rfl⟩]
def lgS (l:List En) (i:Int) (p:Int × Int) (j:Int):Int × Int:=if (rd_T41 l j).f1=(rd_T41 l i).f1 then (if p.2 < (rd_T41 l i).f0 - (rd_T41 l j).f0 then (j,(rd_T41 l i).f0 - (rd_T41 l j).f0) else p) else p
theorem fold_one {l:List En} {i:Int} {A B:List Int} {j:Int} {p:Int × Int} (hA:∀ x∈A,(rd_T41 l x).f1≠(rd_T41 l i).f1) (hB:∀ x∈B,(rd_T41 l x).f1≠(rd_T41 l i).f1):(A ++ j :: B).foldl (lgS l i) p=lgS l i p j:=by
 have none_:∀ (C:List Int) (p:Int × Int),(∀ x∈C,(rd_T41 l x).f1≠(rd_T41 l i).f1)→C.foldl (lgS l i) p=p:=by
  intro C
  induction C with
  | nil=>intro p _;rfl
  | cons a C ih =>
   intro p h
   rw [List.foldl_cons,show lgS l i p a=p from if_neg (h a (by simp)),ih p (fun x hx=>h x (by simp [hx]))]
 rw [List.foldl_append,none_ A p hA,List.foldl_cons,none_ B _ hB]
theorem validT {l:List En} (h:validG l=true) {j:Int} (h0:0≤j) (h1:j < (l.length:Int)):0≤(rd_T41 l j).f0∧(rd_T41 l j).f0≤100000:=by
 obtain ⟨i,rfl⟩:∃ i:Nat,j=(i:Int):=⟨j.toNat,by omega⟩
 exact valid_times h (by omega)
theorem specLong_in {l:List En} (hv:validG l=true) {i:Nat} (hi:i < l.length) {out:List Int} (ho:∀ x∈out,0≤x∧x < (i:Int)) (hol:out.length≤60) (K:Nat):∀ d q (p:Int × Int),q + d=out.length →
  spec_LongestUp.l1 (K + d + 1) l p.1 p.2 (i:Int) out (q:Int)=spec_LongestUp.l0 K l ((out.drop q).foldl (lgS l (i:Int)) p).1 ((out.drop q).foldl (lgS l (i:Int)) p).2 ((i:Int) + 1):=by
 intro d
 have hl60:=(valid_parts hv).1
 induction d with
 | zero =>
  intro q p hq
  simp only [spec_LongestUp.l1,Nat.add_zero]
  rw [if_neg (by omega),List.drop_of_length_le (by omega),w64 (by omega) (by omega)]
  rfl
 | succ d ih =>
  intro q p hq
  have hql:q < out.length:=by omega
  have hm:=ho _ (List.getElem_mem hql)
  have t1:=validT hv (j:=(i:Int)) (by omega) (by omega)
  have t2:=validT hv (j:=out[q]) hm.1 (by omega)
  rw [show K + (d + 1) + 1=(K + d + 1) + 1 by omega]
  simp only [spec_LongestUp.l1]
  rw [if_pos (by omega),if_pos (by omega),rd_nat hql,if_pos hm.1,if_pos (by omega),if_pos (by omega),if_pos (by omega),w64 (n:=(rd_T41 l (i:Int)).f0 - (rd_T41 l out[q]).f0) (by omega) (by omega),w64 (n:=(q:Int) + 1) (by omega) (by omega),List.drop_eq_getElem_cons hql,List.foldl_cons]
  have e:=fun p'=>ih (q + 1) p' (by omega)
  rw [show ((q + 1:Nat):Int)=(q:Int) + 1 by omega] at e
  by_cases h1:(rd_T41 l out[q]).f1=(rd_T41 l (i:Int)).f1
  ·rw [if_pos h1]
   by_cases h2:p.2 < (rd_T41 l (i:Int)).f0 - (rd_T41 l out[q]).f0
   ·rw [if_pos (by omega),show lgS l (i:Int) p out[q]=(out[q],(rd_T41 l (i:Int)).f0 - (rd_T41 l out[q]).f0) from by unfold lgS;rw [if_pos h1,if_pos h2]]
    exact e (out[q],(rd_T41 l (i:Int)).f0 - (rd_T41 l out[q]).f0)
   ·rw [if_neg (by omega),show lgS l (i:Int) p out[q]=p from by unfold lgS;rw [if_pos h1,if_neg h2]]
    exact e p
  ·rw [if_neg h1,show lgS l (i:Int) p out[q]=p from if_neg h1]
   exact e p
theorem step_fold {l:List En} (hv:validG l=true) {i:Nat} (hi:i < l.length) {out:List Int} (hu:ups l i=some out) (hf:(rd_T41 l (i:Int)).f2=true) (p:Int × Int):out.foldl (lgS l (i:Int)) p=impl_LongestUp.step l i p:=by
 obtain ⟨o2,ho2⟩:=ups_some hv (n:=i + 1) (by omega)
 rw [ups,hu,Option.bind_some] at ho2
 unfold upsStep at ho2
 have hat:¬ atE l i out < 0:=by
  intro hh
  rw [decide_eq_true hh,hf,if_pos rfl] at ho2
  cases ho2
 have hlt:=impl_Log_up.idx_lt (fun m=>(rd_T41 l m).f1 == (rd_T41 l (i:Int)).f1) out
 have hae:idxP (fun m=>(rd_T41 l m).f1 == (rd_T41 l (i:Int)).f1) out=atE l i out:=rfl
 rw [hae] at hlt
 obtain ⟨q,hq⟩:∃ q:Nat,atE l i out=(q:Int):=⟨(atE l i out).toNat,by omega⟩
 have hql:q < out.length:=by omega
 have hsig:(rd_T41 l out[q]).f1=(rd_T41 l (i:Int)).f1:=by
  unfold atE impl_Log_up.at idxP at hq
  cases e:out.findIdx? (fun m=>(rd_T41 l m).f1 == (rd_T41 l (i:Int)).f1) with
  | none=>rw [e] at hq;simp only at hq;omega
  | some z =>
   rw [e] at hq
   simp only at hq
   obtain rfl:z=q:=by omega
   rw [List.findIdx?_eq_some_iff_getElem] at e
   obtain ⟨_,h,_⟩:=e
   simpa using h
 have hpw:=(ups_ok hu).2.2
 have hsplit:out=out.take q ++ out[q] :: out.drop (q + 1):=by
  rw [← List.drop_eq_getElem_cons hql,List.take_append_drop]
 have hl:=last_up i hu out[q] (List.getElem_mem hql)
 rw [hsig] at hl
 rw [List.pairwise_iff_getElem] at hpw
 conv=>lhs;rw [hsplit]
 rw [fold_one]
 ·unfold lgS impl_LongestUp.step
  rw [if_pos hsig,if_pos hf,hl]
 ·intro x hx
  obtain ⟨z,hz,rfl⟩:=List.mem_iff_getElem.1 hx
  rw [List.length_take] at hz
  rw [List.getElem_take]
  rw [← hsig]
  exact hpw z q (by omega) hql (by omega)
 ·intro x hx
  obtain ⟨z,hz,rfl⟩:=List.mem_iff_getElem.1 hx
  rw [List.length_drop] at hz
  rw [List.getElem_drop]
  rw [← hsig]
  exact (hpw q (q + 1 + z) hql (by omega) (by omega)).symm
def resLong (l:List En):Int × Int × Int:=if validG l=true then (if (impl_LongestUp.to l l.length).2 < 0 then (0,0,6) else ((impl_LongestUp.to l l.length).1,(impl_LongestUp.to l l.length).2,0)) else (0,0,1)
theorem specLong_all {l:List En} (hv:validG l=true):∀ d i K,i + d=l.length→10000 + d * 70≤K→spec_LongestUp.l0 K l (impl_LongestUp.to l i).1 (impl_LongestUp.to l i).2 (i:Int)=some (if (impl_LongestUp.to l l.length).2 < 0 then (0,0,6) else ((impl_LongestUp.to l l.length).1,(impl_LongestUp.to l l.length).2,0)):=by
 have hl60:=(valid_parts hv).1
 intro d
 induction d with
 | zero =>
  intro i K hi hK
  obtain ⟨K,rfl⟩:∃ m,K=m + 1:=⟨K - 1,by omega⟩
  obtain rfl:i=l.length:=by omega
  simp only [spec_LongestUp.l0]
  rw [if_neg (by omega)]
  split <;> rfl
 | succ d ih =>
  intro i K hi hK
  have hil:i < l.length:=by omega
  simp only [Nat.succ_mul] at hK
  cases hf:(rd_T41 l (i:Int)).f2 with
  | false =>
   obtain ⟨K,rfl⟩:∃ m,K=m + 1:=⟨K - 1,by omega⟩
   have e:=ih (i + 1) K (by omega) (by omega)
   rw [impl_LongestUp.to,show impl_LongestUp.step l i (impl_LongestUp.to l i)=impl_LongestUp.to l i from by unfold impl_LongestUp.step;rw [if_neg (by rw [hf];simp)],show ((i + 1:Nat):Int)=(i:Int) + 1 by omega] at e
   rw [← e]
   simp only [spec_LongestUp.l0]
   rw [if_pos (by omega),if_pos (by omega),if_neg (by rw [hf];simp),w64 (by omega) (by omega)]
  | true =>
   obtain ⟨out,hu⟩:=ups_some hv (n:=i) (by omega)
   obtain ⟨o1,o2,_⟩:=ups_ok hu
   obtain ⟨K,rfl⟩:∃ m,K=m + out.length + 1 + 1:=⟨K - out.length - 2,by omega⟩
   have e:=ih (i + 1) K (by omega) (by omega)
   have e2:=specLong_in hv hil o2 (by omega) K out.length 0 (impl_LongestUp.to l i) (by omega)
   rw [List.drop_zero,step_fold hv hil hu hf] at e2
   rw [impl_LongestUp.to,show ((i + 1:Nat):Int)=(i:Int) + 1 by omega] at e
   rw [← e,← e2]
   simp only [spec_LongestUp.l0]
   rw [if_pos (by omega),if_pos (by omega),if_pos hf,specUp_eq (by omega) hl60 (by omega),hu]
   rfl
theorem specLong_eq {k:Nat} {l:List En} (hk:100000 < k):spec_LongestUp.f k l=some (resLong l):=by
 unfold spec_LongestUp.f resLong
 rw [specOk_log (by omega)]
 simp only [Option.bind_some]
 cases hv:validG l with
 | false=>rfl
 | true =>
  have hl60:=(valid_parts hv).1
  have e:=specLong_all hv l.length 0 k (by omega) (by omega)
  simp only [if_true]
  exact e
theorem valid_all {l:List En} (hv:validG l=true):l.all impl_LongestUp.inb=true:=by
 rw [List.all_eq_true]
 intro x hx
 obtain ⟨i,hi,rfl⟩:=List.mem_iff_getElem.1 hx
 have t:=valid_times hv hi
 have g:=gd_at (valid_parts hv).2.1 hi
 rw [rd_impl_Entry hi] at t g
 unfold impl_Log_up.good at g
 unfold impl_LongestUp.inb
 simp only [Bool.and_eq_true,decide_eq_true_eq] at g ⊢
 exact ⟨t,g.2⟩
theorem implLong_eq {l:List En} (hl:l.length≤1048576):impl_LongestUp.f l=some (resLong l):=by
 unfold impl_LongestUp.f resLong
 rw [implValid_log hl]
 simp only [Option.bind_some]
 cases hv:validG l with
 | false=>rfl
 | true =>
  rw [if_neg (by simp),if_pos ⟨(valid_parts hv).1,valid_all hv⟩]
  rfl
theorem valid_snoc {g:List En} (hg:validG g=true) (hl:g.length < 60) {out:List Int} (ho:ups g g.length=some out) {x:En} (hx:lastT g g.length≤x.f0∧x.f0≤100000∧0≤x.f1∧x.f1≤9999) (hd:x.f2=out.any (fun m=>(rd_T41 g m).f1 == x.f1)) :
  validG (g ++ [x])=true∧lastT (g ++ [x]) (g.length + 1)=x.f0:=by
 have ht:(g ++ [x]).take g.length=g:=by simp
 have hrd:rd_T41 (g ++ [x]) (g.length:Int)=x:=by simp [rd_T41,List.getD_eq_getElem?_getD]
 have hin:=(ups_ok ho).2.1
 have hu:ups (g ++ [x]) g.length=some out:=by
  have:=ups_take (l:=g ++ [x]) (Nat.le_refl g.length)
  rw [ht] at this
  rw [← this];exact ho
 have hgd:gd (g ++ [x]) g.length=true:=by
  have:=gd_take (l:=g ++ [x]) (Nat.le_refl g.length)
  rw [ht] at this
  rw [← this];exact (valid_parts hg).2.1
 have hla:lastT (g ++ [x]) g.length=lastT g g.length:=by
  have:=lastT_take (l:=g ++ [x]) (Nat.le_refl g.length)
  rw [ht] at this
  exact this.symm
 have hat:decide (atE (g ++ [x]) g.length out < 0)=!x.f2:=by
  unfold atE impl_Log_up.at
  rw [hrd,hd]
  have hc:out.any (fun m=>(rd_T41 g m).f1 == x.f1)=out.any (fun n=>(rd_T41 (g ++ [x]) n).f1 == x.f1):=by
   rw [Bool.eq_iff_iff,List.any_eq_true,List.any_eq_true]
   have hm:∀ m∈out,rd_T41 (g ++ [x]) m=rd_T41 g m:=fun m hm=>by
    have h1:=hin m hm
    have:=rdE_take' (l:=g ++ [x]) (n:=g.length) (i:=m) h1.1 h1.2
    rw [ht] at this
    exact this.symm
   constructor
   ·rintro ⟨m,h1,h2⟩;exact ⟨m,h1,by rw [hm m h1];exact h2⟩
   ·rintro ⟨m,h1,h2⟩;exact ⟨m,h1,by rw [hm m h1] at h2;exact h2⟩
  rw [hc,← idxP_nonneg]
  rw [Bool.eq_iff_iff]
  simp only [decide_eq_true_eq,Bool.not_eq_true',decide_eq_false_iff_not]
  omega
 have hst:∃ o,upsStep (g ++ [x]) g.length out=some o:=by
  unfold upsStep
  rw [hrd,hat]
  rw [if_neg (by cases x.f2 <;> simp)]
  split
  ·exact ⟨_,rfl⟩
  ·exact ⟨_,rfl⟩
 refine ⟨?_,?_⟩
 ·unfold validG
  rw [List.length_append,List.length_singleton]
  simp only [Bool.and_eq_true,decide_eq_true_eq]
  refine ⟨⟨by omega,?_⟩,?_⟩
  ·rw [gd,hgd,hla,hrd]
   unfold impl_Log_up.good
   rw [decide_eq_true hx.1,decide_eq_true hx.2.1,decide_eq_true hx.2.2.1,decide_eq_true hx.2.2.2];rfl
  ·obtain ⟨o,h⟩:=hst
   rw [ups,hu]
   simp only [Option.bind_some]
   rw [h];rfl
 ·rw [lastT,hrd]
theorem any_loop {g:List En} {out:List Int} (hin:∀ x∈out,0≤x∧x < (g.length:Int)) (hol:out.length≤60) (time x5:Int) (code:List Int) (at_ seed sig:Int):∀ d j k (b:Bool),j + d=out.length→d < k →
  spec_l07Drawn.l1 k g time x5 out (j:Int) code at_ seed time sig b=spec_l07Drawn.l1 (k - d) g time x5 out (out.length:Int) code at_ seed time sig (b || (out.drop j).any (fun m=>(rd_T41 g m).f1 == sig)):=by
 intro d
 induction d with
 | zero =>
  intro j k b hj hk
  obtain rfl:j=out.length:=by omega
  rw [List.drop_of_length_le (by omega)]
  simp
 | succ d ih =>
  intro j k b hj hk
  obtain ⟨k,rfl⟩:∃ m,k=m + 1:=⟨k - 1,by omega⟩
  have hjl:j < out.length:=by omega
  have e:=fun b=>ih (j + 1) k b (by omega) (by omega)
  rw [show ((j + 1:Nat):Int)=(j:Int) + 1 by omega] at e
  have hr:rd out (j:Int)=out[j]:=by simp [rd,List.getD_eq_getElem?_getD,List.getElem?_eq_getElem hjl]
  have hi:=hin _ (List.getElem_mem hjl)
  rw [List.drop_eq_getElem_cons hjl,List.any_cons,show k + 1 - (d + 1)=k - d by omega]
  rw [spec_l07Drawn.l1,if_pos (by omega),w64 (n:=(j:Int) + 1) (by omega) (by omega),hr]
  cases b with
  | true =>
   rw [if_pos rfl,e true]
   simp
  | false =>
   rw [if_neg (by decide),if_pos (by omega),if_pos hi.1,if_pos hi.2,e _]
   simp
theorem noted_in {code:List Int} (hc:Bytes code):∀ (n k:Nat) (g:List En) (time at_ seed:Int),20000 + 200 * n < k→g.length + n≤10→validG g=true→lastT g g.length≤time→0≤time→time + 8 * (n:Int)≤200→0≤at_→at_ + 2 * (n:Int)≤1000 →
  ∃ l a s,spec_l07Drawn.l0 k g time (n:Int) code at_ seed=some (l,a,s)∧validG l=true∧lastT l l.length≤200:=by
 intro n
 induction n with
 | zero =>
  intro k g time at_ seed hk hl hg h1 h2 h3 h4 h5
  obtain ⟨k,rfl⟩:∃ m,k=m + 1:=⟨k - 1,by omega⟩
  rw [spec_l07Drawn.l0,if_neg (by decide)]
  exact ⟨g,at_,seed,rfl,hg,by omega⟩
 | succ n ih =>
  intro k g time at_ seed hk hl hg h1 h2 h3 h4 h5
  obtain ⟨k,rfl⟩:∃ m,k=m + 1:=⟨k - 1,by omega⟩
  obtain ⟨p1,s1,e1,b1⟩:=pick_ok hc (seed:=seed) (a:=5) (at_:=at_) (by omega) (by omega) (by omega)
  obtain ⟨p2,s2,e2,b2⟩:=pick_ok hc (seed:=s1) (a:=8) (at_:=at_ + 1) (by omega) (by omega) (by omega)
  obtain ⟨out,ho⟩:=ups_some hg (Nat.le_refl g.length)
  have hok:=ups_ok ho
  have hv:=valid_snoc hg (by omega) ho (x:=⟨time,p1,out.any (fun m=>(rd_T41 g m).f1 == p1)⟩) ⟨h1,by simp only;omega,by simp only;omega,by simp only;omega⟩ rfl
  rw [spec_l07Drawn.l0,if_pos (by omega),e1]
  simp only [Option.bind_some]
  rw [specUp_eq (Nat.le_refl _) (by omega) (by omega),ho]
  simp only [Option.bind_some]
  have e:=any_loop hok.2.1 (by omega) time ((n + 1:Nat):Int) code (at_ + 1) s1 p1 out.length 0 k false (by omega) (by omega)
  rw [show ((0:Nat):Int)=0 by rfl] at e
  rw [e,List.drop_zero,Bool.false_or]
  obtain ⟨K,hK⟩:∃ K,k - out.length=K + 1:=⟨k - out.length - 1,by omega⟩
  rw [hK,spec_l07Drawn.l1,if_neg (by omega),if_pos (by omega),e2]
  simp only [Option.bind_some]
  rw [w64 (n:=time + p2) (by omega) (by omega),w64 (n:=((n + 1:Nat):Int) - 1) (by omega) (by omega),show ((n + 1:Nat):Int) - 1=(n:Int) by omega]
  exact ih K _ (time + p2) (at_ + 1 + 1) s2 (by omega) (by simp only [List.length_append,List.length_singleton];omega) hv.1 (by rw [List.length_append,List.length_singleton,hv.2];simp only;omega) (by omega) (by omega) (by omega) (by omega)
theorem noted_ok {code:List Int} (hc:Bytes code) {k:Nat} (hk:30000 < k):∃ l,spec_P6Log.f k code=some l∧validG l=true∧lastT l l.length≤200:=by
 obtain ⟨p1,s1,e1,b1⟩:=pick_ok hc (seed:=0) (a:=20) (at_:=0) (by omega) (by omega) (by omega)
 obtain ⟨p2,s2,e2,b2⟩:=pick_ok hc (seed:=s1) (a:=10) (at_:=0 + 1) (by omega) (by omega) (by omega)
 obtain ⟨n,hn⟩:∃ n:Nat,p2=(n:Int):=⟨p2.toNat,by omega⟩
 subst hn
 obtain ⟨l,a,s,q1,q2⟩:=noted_in hc n k [] p1 (0 + 1 + 1) s2 (by omega) (by simp only [List.length_nil];omega) rfl (by show (0:Int)≤p1;omega) (by omega) (by omega) (by omega) (by omega)
 unfold spec_P6Log.f spec_l00From.f spec_l07Drawn.f
 simp only [Option.bind_some]
 rw [e1]
 simp only [Option.bind_some]
 rw [e2]
 simp only [Option.bind_some]
 rw [q1]
 exact ⟨l,rfl,q2⟩
def neE (x y:En):Bool:=(!(x.f0 == y.f0) || (!(x.f1 == y.f1) || (!(x.f2 == y.f2))))
def eqG:List En→List En→Bool
 | [],[]=>true
 | x :: xs,y :: ys=>!neE x y && eqG xs ys
 | _,_=>false
theorem eqG_drop {a b:List En} {i:Nat} (ha:i < a.length) (hb:i < b.length):eqG (a.drop i) (b.drop i)=(!neE a[i] b[i] && eqG (a.drop (i + 1)) (b.drop (i + 1))):=by
 rw [List.drop_eq_getElem_cons ha,List.drop_eq_getElem_cons hb]
 rfl
theorem eqG_len:∀ {a b:List En},a.length≠b.length→eqG a b=false
 | [],[],h=>absurd rfl h
 | [],_ :: _,_=>rfl
 | _ :: _,[],_=>rfl
 | x :: xs,y :: ys,h=>by
  simp only [eqG]
  rw [eqG_len (a:=xs) (b:=ys) (by simpa using h),Bool.and_false]
theorem specSameLog_eq (k:Nat) (a b:List En) (hl:a.length≤1048576) (hk:a.length < k):spec_SameLog.f k a b=some (eqG a b):=by
 unfold spec_SameLog.f
 by_cases h0:(a.length:Int)=(b.length:Int)
 ·rw [if_pos h0]
  obtain ⟨r,hr,h⟩:=loop_inv (fun k (s:Int)=>spec_SameLog.l0 k a b s) a.length (fun i s=>s=(i:Int)∧eqG a b=eqG (a.drop i) (b.drop i)) (fun r=>r=eqG a b)
   (fun k i s hi ⟨h1,h2⟩=>by
    subst h1
    have hb:i < b.length:=by omega
    rw [eqG_drop hi hb] at h2
    cases hq:neE a[i] b[i] with
    | true =>
     refine .inr ⟨false,by rw [h2,hq];rfl,?_⟩
     simp only [spec_SameLog.l0]
     rw [if_pos (by omega),if_pos (by omega),if_pos (by omega),rd_impl_Entry hi,rd_impl_Entry hb,if_pos (by exact hq)]
    | false =>
     refine .inl ⟨((i + 1:Nat):Int),⟨rfl,by rw [h2,hq];rfl⟩,?_⟩
     simp only [spec_SameLog.l0]
     rw [if_pos (by omega),if_pos (by omega),if_pos (by omega),rd_impl_Entry hi,rd_impl_Entry hb,if_neg (by show ¬ neE a[i] b[i]=true;rw [hq];simp),w64 (by omega) (by omega)]
     rfl)
   (fun k s ⟨h1,h2⟩=>by
    subst h1
    refine ⟨eqG a b,rfl,?_⟩
    simp only [spec_SameLog.l0]
    rw [if_neg (by omega),h2,List.drop_eq_nil_of_le (by omega),List.drop_eq_nil_of_le (by omega)]
    rfl) k 0 ⟨rfl,rfl⟩ hk
  subst hr
  exact h
 ·rw [if_neg h0,eqG_len (by omega)]
theorem implSameLog_eq (k:Nat) (a b:List En) (hl:a.length≤1048576) (hk:a.length < k):slices_Equal_Log_Entry.f k a b=some (eqG a b):=by
 unfold slices_Equal_Log_Entry.f
 by_cases h0:(a.length:Int)=(b.length:Int)
 ·rw [if_pos h0]
  obtain ⟨r,hr,h⟩:=loop_inv (fun k (s:Int)=>slices_Equal_Log_Entry.l0 k a b (a.length:Int) s) a.length (fun i s=>s=(i:Int)∧eqG a b=eqG (a.drop i) (b.drop i)) (fun r=>r=eqG a b)
   (fun k i s hi ⟨h1,h2⟩=>by
    subst h1
    have hb:i < b.length:=by omega
    rw [eqG_drop hi hb] at h2
    cases hq:neE a[i] b[i] with
    | true =>
     refine .inr ⟨false,by rw [h2,hq];rfl,?_⟩
     simp only [slices_Equal_Log_Entry.l0]
     rw [if_pos (by omega),if_pos (by omega),if_pos (by omega),if_pos (by omega),rd_impl_Entry hi,rd_impl_Entry hb,if_pos (by exact hq)]
    | false =>
     refine .inl ⟨((i + 1:Nat):Int),⟨rfl,by rw [h2,hq];rfl⟩,?_⟩
     simp only [slices_Equal_Log_Entry.l0]
     rw [if_pos (by omega),if_pos (by omega),if_pos (by omega),if_pos (by omega),rd_impl_Entry hi,rd_impl_Entry hb,if_neg (by show ¬ neE a[i] b[i]=true;rw [hq];simp),w64 (by omega) (by omega)]
     rfl)
   (fun k s ⟨h1,h2⟩=>by
    subst h1
    refine ⟨eqG a b,rfl,?_⟩
    simp only [slices_Equal_Log_Entry.l0]
    rw [if_neg (by omega),h2,List.drop_eq_nil_of_le (by omega),List.drop_eq_nil_of_le (by omega)]
    rfl) k 0 ⟨rfl,rfl⟩ hk
  subst hr
  exact h
 ·rw [if_neg h0,eqG_len (by omega)]
theorem gd_mono {l:List En}:∀ n,gd l n=true→∀ i,i < n→(rd_T41 l (i:Int)).f0≤lastT l n
 | 0,_,i,hi=>absurd hi (Nat.not_lt_zero _)
 | n + 1,hg,i,hi=>by
  rw [gd,Bool.and_eq_true] at hg
  rw [lastT]
  have h2:=hg.2
  unfold impl_Log_up.good at h2
  simp only [Bool.and_eq_true,decide_eq_true_eq] at h2
  rcases Nat.lt_or_ge i n with h|h
  ·have:=gd_mono n hg.1 i h
   omega
  ·obtain rfl:i=n:=by omega
   exact Int.le_refl _
theorem valid_gd {l:List En} (h:validG l=true) {n:Nat} (hn:n≤l.length):gd l n=true:=gd_some h hn
theorem valid_mono {l:List En} (h:validG l=true) {i j:Nat} (hij:i≤j) (hj:j < l.length):(rd_T41 l (i:Int)).f0≤(rd_T41 l (j:Int)).f0:=by
 rcases Nat.lt_or_ge i j with h1|h1
 ·have g1:=gd_mono j (valid_gd h (by omega)) i h1
  have g2:=gd_at (valid_gd h (Nat.le_refl _)) hj
  unfold impl_Log_up.good at g2
  simp only [Bool.and_eq_true,decide_eq_true_eq] at g2
  omega
 ·obtain rfl:i=j:=by omega
  exact Int.le_refl _
theorem allT_true {b:Int} {l:List En}:∀ n:Nat,(∀ i:Nat,i < n→inT b (rd_T41 l (i:Int))=true)→allT b l n=true
 | 0,_=>rfl
 | n + 1,h=>by
  rw [allT,allT_true n (fun i hi=>h i (by omega)),h n (by omega)]
  rfl
theorem mv_back (b:Int) (l:List En):(l.map (mv b)).map (mv (-b))=l:=by
 rw [List.map_map]
 have:(mv (-b) ∘ mv b)=id:=funext fun x=>by
  obtain ⟨a,c,d⟩:=x
  simp only [Function.comp,mv,id]
  rw [show a + b + -b=a by omega]
 rw [this]
 simp
theorem shift_there {g:List En} (hv:validG g=true) (h2:lastT g g.length≤200) {b:Int} (h0:0≤b) (h1:b < 40):resShift g b=(g.map (mv b),0)∧resShift (g.map (mv b)) (-b)=(g,0)∧validG (g.map (mv b))=true:=by
 have ht:∀ i:Nat,i < g.length→0≤(rd_T41 g (i:Int)).f0∧(rd_T41 g (i:Int)).f0≤200:=fun i hi=>by
  have:=gd_mono _ (valid_gd hv (Nat.le_refl _)) i hi
  have:=valid_times hv hi
  omega
 have ha:allT b g g.length=true:=allT_true _ fun i hi=>by
  have:=ht i hi
  unfold inT
  simp only [Bool.and_eq_true,decide_eq_true_eq]
  omega
 have hd:validG (g.map (mv b))=true:=by rw [validG_mv hv,ha]
 have hb:allT (-b) (g.map (mv b)) (g.map (mv b)).length=true:=allT_true _ fun i hi=>by
  rw [List.length_map] at hi
  have:=ht i hi
  rw [rdE_map b hi]
  unfold inT mv
  simp only [Bool.and_eq_true,decide_eq_true_eq]
  omega
 have c1:(decide (-100000≤b) && decide (b≤100000))=true:=by simp only [Bool.and_eq_true,decide_eq_true_eq];omega
 have c2:(decide (-100000≤-b) && decide (-b≤100000))=true:=by simp only [Bool.and_eq_true,decide_eq_true_eq];omega
 refine ⟨?_,?_,hd⟩
 ·unfold resShift
  rw [if_pos hv,if_pos c1,if_pos ha]
 ·unfold resShift
  rw [if_pos hd,if_pos c2,if_pos hb,mv_back]
def upN (l:List En):Nat→Nat
 | 0=>0
 | n + 1=>upN l n + if (rd_T41 l (n:Int)).f2=true then 0 else 1
def dnN (l:List En):Nat→Nat
 | 0=>0
 | n + 1=>dnN l n + if (rd_T41 l (n:Int)).f2=true then 1 else 0
theorem idxP_in {α:Type} {p:α→Bool} {l:List α} (h:¬ idxP p l < 0):(idxP p l).toNat < l.length:=by
 unfold idxP at h ⊢
 cases e:l.findIdx? p with
 | none=>rw [e] at h;exact absurd (by decide) h
 | some i =>
  rw [List.findIdx?_eq_some_iff_findIdx_eq] at e
  simp only [Int.toNat_natCast]
  exact e.1
theorem ups_count {l:List En}:∀ n out,ups l n=some out→out.length + dnN l n=upN l n
 | 0,out,h=>by
  cases h
  rfl
 | n + 1,out,h=>by
  rw [ups] at h
  obtain ⟨s0,h0,h1⟩:=Option.bind_eq_some_iff.1 h
  have ih:=ups_count n s0 h0
  rw [upN,dnN]
  unfold upsStep at h1
  split at h1
  ·cases h1
  ·rename_i hne
   split at h1
   ·rename_i hf
    cases h1
    rw [if_pos hf,if_pos hf]
    have hat:¬ atE l n s0 < 0:=fun hc=>hne (by rw [hf];simpa using hc)
    have:=idxP_in (p:=fun m=>(rd_T41 l m).f1 == (rd_T41 l (n:Int)).f1) (l:=s0) hat
    have e:atE l n s0=idxP (fun m=>(rd_T41 l m).f1 == (rd_T41 l (n:Int)).f1) s0:=rfl
    rw [← e] at this
    rw [List.length_eraseIdx_of_lt this]
    omega
   ·rename_i hf
    cases h1
    rw [if_neg hf,if_neg hf]
    simp only [List.length_append,List.length_singleton]
    omega
def upT (l:List En) (t:Int):Nat→Nat
 | 0=>0
 | n + 1=>upT l t n + if (rd_T41 l (n:Int)).f0 > t then 0 else if (rd_T41 l (n:Int)).f2=true then 0 else 1
def dnT (l:List En) (t:Int):Nat→Nat
 | 0=>0
 | n + 1=>dnT l t n + if (rd_T41 l (n:Int)).f0 > t then 0 else if (rd_T41 l (n:Int)).f2=true then 1 else 0
theorem cut_before {l:List En} {t:Int} {i:Nat} (h:i < cutAt l t):¬ (rd_T41 l (i:Int)).f0 > t:=by
 have hl:i < l.length:=Nat.lt_of_lt_of_le h (cut_le l t)
 have:=List.not_of_lt_findIdx h
 rw [rd_impl_Entry hl]
 simpa using this
theorem cut_behind {l:List En} (hv:validG l=true) {t:Int} {i:Nat} (h:cutAt l t≤i) (hi:i < l.length):(rd_T41 l (i:Int)).f0 > t:=by
 have hc:cutAt l t < l.length:=by omega
 have h1:(rd_T41 l (cutAt l t:Int)).f0 > t:=by
  have:=List.findIdx_getElem (p:=fun x:En=>decide (x.f0 > t)) (xs:=l) (w:=hc)
  rw [rd_impl_Entry hc]
  exact of_decide_eq_true this
 have:=valid_mono hv h hi
 omega
theorem cut_count {l:List En} (hv:validG l=true) (t:Int):∀ n,n≤l.length→upT l t n=upN l (min n (cutAt l t))∧dnT l t n=dnN l (min n (cutAt l t))
 | 0,_=>by simp [upT,dnT,upN,dnN]
 | n + 1,h=>by
  obtain ⟨h1,h2⟩:=cut_count hv t n (by omega)
  rw [upT,dnT,h1,h2]
  rcases Nat.lt_or_ge n (cutAt l t) with hc|hc
  ·rw [if_neg (cut_before hc),if_neg (cut_before hc),Nat.min_eq_left (by omega),Nat.min_eq_left (by omega),upN,dnN]
   exact ⟨rfl,rfl⟩
  ·rw [if_pos (cut_behind hv hc (by omega)),if_pos (cut_behind hv hc (by omega)),Nat.min_eq_right (by omega),Nat.min_eq_right (by omega)]
   exact ⟨rfl,rfl⟩
theorem count_le (l:List En) (t:Int):∀ n,upT l t n≤n∧dnT l t n≤n∧dnN l n≤n∧upN l n≤n
 | 0=>by simp [upT,dnT,dnN,upN]
 | n + 1=>by
  have:=count_le l t n
  rw [upT,dnT,dnN,upN]
  split <;> split <;> omega
def dns (l:List En):List En:=l.filter fun x=>x.f2
theorem dns_take (l:List En):∀ n,n≤l.length→(dns (l.take n)).length=dnN l n
 | 0,_=>rfl
 | n + 1,h=>by
  rw [List.take_succ_eq_append_getElem (by omega),dnN,rd_impl_Entry (by omega),← dns_take l n (by omega)]
  unfold dns
  rw [List.filter_append,List.length_append]
  by_cases hf:l[n].f2=true
  ·rw [if_pos hf,List.filter_cons_of_pos (by exact hf)]
   rfl
  ·rw [if_neg hf,List.filter_cons_of_neg (by exact hf)]
   rfl
theorem dns_len (l:List En):(dns l).length=dnN l l.length:=by
 have:=dns_take l l.length (Nat.le_refl _)
 rwa [List.take_of_length_le (Nat.le_refl _)] at this
theorem dns_at {l:List En} {i:Nat} (hi:i < l.length) (hf:l[i].f2=true):∃ h:dnN l i < (dns l).length,(dns l)[dnN l i]=l[i]:=by
 have e:dns l=dns (l.take i) ++ l[i] :: dns (l.drop (i + 1)):=by
  have e1:l=l.take i ++ l[i] :: l.drop (i + 1):=by rw [← List.drop_eq_getElem_cons hi,List.take_append_drop]
  conv=>lhs;rw [e1]
  unfold dns
  rw [List.filter_append,List.filter_cons_of_pos (by exact hf)]
 have hl:=dns_take l i (by omega)
 have h:dnN l i < (dns l).length:=by
  rw [e,List.length_append,hl]
  simp
 refine ⟨h,?_⟩
 have q:(dns l)[dnN l i]?=some l[i]:=by
  rw [e,List.getElem?_append_right (by omega),hl]
  simp
 rw [List.getElem?_eq_getElem h] at q
 exact Option.some.inj q
theorem long_sign {l:List En} (hv:validG l=true):∀ n,n≤l.length→(dnN l n=0∧(impl_LongestUp.to l n).2=-1)∨(0 < dnN l n∧0≤(impl_LongestUp.to l n).2)
 | 0,_=>.inl ⟨rfl,rfl⟩
 | n + 1,h=>by
  have ih:=long_sign hv n (by omega)
  rw [dnN,impl_LongestUp.to]
  unfold impl_LongestUp.step
  by_cases hf:(rd_T41 l (n:Int)).f2=true
  ·rw [if_pos hf,if_pos hf]
   refine .inr ⟨by omega,?_⟩
   obtain ⟨q1,q2⟩:=impl_LongestUp.last_in l (rd_T41 l (n:Int)).f1 n
   obtain ⟨m,hm⟩:∃ m:Nat,impl_LongestUp.last l (rd_T41 l (n:Int)).f1 n=(m:Int):=⟨(impl_LongestUp.last l (rd_T41 l (n:Int)).f1 n).toNat,by omega⟩
   rw [hm] at q1 q2 ⊢
   have:=valid_mono hv (i:=m) (j:=n) (by omega) (by omega)
   split
   ·simp only
    omega
   ·rename_i hc
    omega
  ·rw [if_neg hf,if_neg hf]
   exact ih
theorem flat_one (f:Nat→Int) (l:List Nat):(l.flatMap fun i=>[f i]).length=l.length:=by
 induction l with
 | nil=>rfl
 | cons x l ih=>simp only [List.flatMap_cons,List.length_append,ih,List.length_cons,List.length_nil];omega
theorem sigs_len (l:List En) (o:List Int):(sigs l o).length=o.length:=by
 unfold sigs
 rw [flat_one,List.length_range]
theorem eqG_same:∀ l:List En,eqG l l=true
 | []=>rfl
 | x :: l=>by simp [eqG,neE,eqG_same l]
theorem bytes_ofQ {l:List Int} (h:∀ x∈l,(Lit.int .u8 x).wf=true):Bytes l:=fun x hx=>by
 have:=h x hx
 simp [Lit.wf,IntKind.min,IntKind.max,IntKind.signed,IntKind.bits] at this
 omega
def alike {α:Type} [DecidableEq α] (l m:List α):Nat:=(l.map fun x=>m.count x).sum
theorem sum_perm {l m:List Nat} (h:l.Perm m):l.sum=m.sum:=by
 induction h with
 | nil=>rfl
 | cons x _ ih=>simp only [List.sum_cons,ih]
 | swap x y l=>simp only [List.sum_cons];omega
 | trans _ _ h1 h2=>rw [h1,h2]
theorem alike_perm {α:Type} [DecidableEq α] {l l' m m':List α} (h:l.Perm l') (h':m.Perm m'):alike l m=alike l' m':=by
 unfold alike
 have e:(fun x=>m.count x)=fun x=>m'.count x:=funext fun x=>h'.count_eq x
 rw [e]
 exact sum_perm (h.map _)
theorem sum_cons_count {α:Type} [DecidableEq α] (x:α) (l m:List α):(l.map fun y=>(x :: m).count y).sum=l.count x + alike l m:=by
 unfold alike
 induction l with
 | nil=>simp
 | cons y l ih =>
  simp only [List.map_cons,List.sum_cons,ih]
  by_cases e:x=y
  ·subst e
   simp only [List.count_cons_self]
   omega
  ·rw [List.count_cons_of_ne e,List.count_cons_of_ne (fun h=>e h.symm)]
   omega
theorem alike_cons {α:Type} [DecidableEq α] (x:α) (l m:List α):alike (x :: l) (x :: m)=1 + m.count x + l.count x + alike l m:=by
 have:=sum_cons_count x l m
 unfold alike at this ⊢
 simp only [List.map_cons,List.sum_cons,List.count_cons_self]
 omega
theorem alike_none {α:Type} [DecidableEq α] {l m:List α} (h:∀ x∈l,x ∉ m):alike l m=0:=by
 unfold alike
 induction l with
 | nil=>rfl
 | cons x l ih =>
  simp only [List.map_cons,List.sum_cons]
  rw [ih (fun y hy=>h y (List.mem_cons_of_mem _ hy)),List.count_eq_zero_of_not_mem (h x (by simp))]
theorem alike_two {α:Type} [DecidableEq α]:∀ (n:Nat) (l m:List α),l.length≤n→2 * alike l m≤alike l l + alike m m
 | 0,l,m,h=>by
  obtain rfl:l=[]:=List.eq_nil_of_length_eq_zero (by omega)
  simp [alike]
 | n + 1,l,m,h=>by
  by_cases hx:∃ x,x∈l∧x∈m
  ·obtain ⟨x,h1,h2⟩:=hx
   have p1:=List.perm_cons_erase h1
   have p2:=List.perm_cons_erase h2
   rw [alike_perm p1 p2,alike_perm p1 p1,alike_perm p2 p2,alike_cons,alike_cons,alike_cons]
   have:=alike_two n (l.erase x) (m.erase x) (by have:=List.length_erase_of_mem h1;omega)
   omega
  ·rw [alike_none (fun x h1 h2=>hx ⟨x,h1,h2⟩)]
   omega
theorem alike_map {α:Type} [DecidableEq α] (f:α→α) (hf:∀ x y,f x=f y→x=y) (l:List α):alike (l.map f) (l.map f)=alike l l:=by
 unfold alike
 rw [List.map_map]
 congr 1
 refine List.map_congr_left fun x hx=>?_
 clear hx
 show (l.map f).count (f x)=l.count x
 induction l with
 | nil=>rfl
 | cons y l ih =>
  simp only [List.map_cons,List.count_cons,ih]
  by_cases e:y=x
  ·subst e
   simp
  ·have:¬ f y=f x:=fun h=>e (hf _ _ h)
   simp [e,this]
theorem alike_shift {α:Type} [DecidableEq α] (f:α→α) (hf:∀ x y,f x=f y→x=y) (l:List α):alike (l.map f) l≤alike l l:=by
 have h1:=alike_two _ (l.map f) l (Nat.le_refl _)
 rw [alike_map f hf] at h1
 omega
theorem alike_self {α:Type} [DecidableEq α] (l:List α):l.length≤alike l l:=by
 have key:∀ m:List α,(∀ x∈m,x∈l)→m.length≤(m.map fun x=>l.count x).sum:=by
  intro m
  induction m with
  | nil=>intro _;simp
  | cons x m ih =>
   intro h
   have h1:=ih (fun y hy=>h y (List.mem_cons_of_mem _ hy))
   have h2:=List.count_pos_iff.2 (h x (by simp))
   simp only [List.map_cons,List.sum_cons,List.length_cons]
   omega
 exact key l (fun x hx=>hx)
def cn {α:Type} [DecidableEq α] (x:α) (l:List α):Nat:=l.count x
theorem cn_append {α:Type} [DecidableEq α] (x:α) (l m:List α):cn x (l ++ m)=cn x l + cn x m:=List.count_append
theorem cn_one {α:Type} [DecidableEq α] (x y:α):cn x [y]=if y=x then 1 else 0:=by
 unfold cn
 by_cases e:y=x
 ·rw [if_pos e,e]
  simp
 ·rw [if_neg e,List.count_cons_of_ne e]
  rfl
def ky (x:En):Int × Int × Bool:=(x.f0,x.f1,x.f2)
def sh (s:Int) (k:Int × Int × Bool):Int × Int × Bool:=(k.1 + s,k.2)
theorem sh_inj (s:Int) (x y:Int × Int × Bool) (h:sh s x=sh s y):x=y:=by
 obtain ⟨a,b⟩:=x
 obtain ⟨a',b'⟩:=y
 simp only [sh,Prod.mk.injEq] at h ⊢
 exact ⟨by omega,h.2⟩
theorem sh_zero (k:Int × Int × Bool):sh 0 k=k:=by
 obtain ⟨a,b⟩:=k
 simp [sh]
theorem dif_count (x y:En) (s:Int):(impl_OffsetOf.dif x y).count s=if sh s (ky y)=ky x then 1 else 0:=by
 obtain ⟨a,b,c⟩:=x
 obtain ⟨a',b',c'⟩:=y
 unfold impl_OffsetOf.dif sh ky
 simp only [Prod.mk.injEq]
 by_cases h:b=b'∧c=c'
 ·rw [if_pos h]
  obtain ⟨rfl,rfl⟩:=h
  by_cases e:a' + s=a
  ·rw [if_pos ⟨e,rfl,rfl⟩,show a - a'=s by omega]
   simp
  ·rw [if_neg (fun h=>e h.1)]
   rw [List.count_eq_zero]
   simp only [List.mem_singleton]
   omega
 ·rw [if_neg h,if_neg (fun q=>h ⟨q.2.1.symm,q.2.2.symm⟩)]
  rfl
theorem din_count (x:En) (l:List En) (s:Int):∀ n,n≤l.length→(impl_OffsetOf.din x l n).count s=cn (ky x) (((l.take n).map ky).map (sh s))
 | 0,_=>by simp [impl_OffsetOf.din,cn]
 | n + 1,h=>by
  rw [impl_OffsetOf.din,List.count_append,din_count x l s n (by omega),dif_count,rd_impl_Entry (by omega),List.take_succ_eq_append_getElem (by omega),List.map_append,List.map_append]
  rw [cn_append]
  simp only [List.map_cons,List.map_nil]
  rw [cn_one]
theorem dou_count (a b:List En) (s:Int):∀ n,n≤a.length→(impl_OffsetOf.dou a b n).count s=alike ((a.take n).map ky) ((b.map ky).map (sh s))
 | 0,_=>by simp [impl_OffsetOf.dou,alike]
 | n + 1,h=>by
  rw [impl_OffsetOf.dou,List.count_append,dou_count a b s n (by omega),din_count _ _ _ _ (Nat.le_refl _),List.take_of_length_le (Nat.le_refl _),rd_impl_Entry (by omega),List.take_succ_eq_append_getElem (by omega)]
  unfold alike
  rw [List.map_append,List.map_append,List.sum_append]
  rfl
theorem dou_all (a b:List En) (s:Int):(impl_OffsetOf.dou a b a.length).count s=alike (a.map ky) ((b.map ky).map (sh s)):=by
 rw [dou_count a b s _ (Nat.le_refl _),List.take_of_length_le (Nat.le_refl _)]
theorem alike_comm {α:Type} [DecidableEq α] (l m:List α):alike l m=alike m l:=by
 induction l with
 | nil =>
  unfold alike
  induction m with
  | nil=>rfl
  | cons y m ih=>simp only [List.map_cons,List.sum_cons,← ih];simp
 | cons x l ih =>
  have h1:alike m (x :: l)=m.count x + alike m l:=sum_cons_count x m l
  rw [h1,← ih]
  simp [alike]
theorem own_off {g:List En} (hg:g≠[]):∃ m,impl_OffsetOf.res (impl_OffsetOf.dou g g g.length)=(0,m,0):=by
 have hpos:0 < g.length:=List.length_pos_iff.2 hg
 have e0:(impl_OffsetOf.dou g g g.length).count 0=alike (g.map ky) (g.map ky):=by
  rw [dou_all,show (g.map ky).map (sh 0)=g.map ky from by rw [show (sh 0)=id from funext sh_zero];simp]
 have hs:=alike_self (g.map ky)
 rw [List.length_map] at hs
 have hc0:0 < impl_OffsetOf.cnt (impl_OffsetOf.dou g g g.length) 0:=by
  unfold impl_OffsetOf.cnt
  rw [e0]
  omega
 have hle:∀ s,impl_OffsetOf.cnt (impl_OffsetOf.dou g g g.length) s≤impl_OffsetOf.cnt (impl_OffsetOf.dou g g g.length) 0:=fun s=>by
  unfold impl_OffsetOf.cnt
  rw [e0,dou_all,alike_comm]
  have:=alike_shift (sh s) (sh_inj s) (g.map ky)
  omega
 refine ⟨impl_OffsetOf.cnt (impl_OffsetOf.dou g g g.length) 0,?_⟩
 rw [impl_OffsetOf.res_of (b:=0) (m:=impl_OffsetOf.cnt (impl_OffsetOf.dou g g g.length) 0) (.inr ⟨impl_OffsetOf.cnt_pos.1 hc0,rfl,hc0,fun s _=>?_⟩),if_neg (by omega)]
 rw [← Bool.not_eq_true,impl_OffsetOf.bet_iff]
 have:=hle s
 unfold impl_OffsetOf.ab
 omega
theorem due_off {g:List En} (hg:g≠[]) (by_:Int):∃ b m,impl_OffsetOf.res (impl_OffsetOf.dou (g.map (mv by_)) g (g.map (mv by_)).length)=(b,m,0)∧(g.length:Int)≤m:=by
 have hpos:0 < g.length:=List.length_pos_iff.2 hg
 have e:=dou_all (g.map (mv by_)) g by_
 have e2:(g.map (mv by_)).map ky=(g.map ky).map (sh by_):=by
  rw [List.map_map,List.map_map]
  rfl
 rw [e2] at e
 have hs:=alike_self ((g.map ky).map (sh by_))
 rw [List.length_map,List.length_map] at hs
 generalize (g.map (mv by_)).length=n at *
 have hc:(g.length:Int)≤impl_OffsetOf.cnt (impl_OffsetOf.dou (g.map (mv by_)) g n) by_:=by
  unfold impl_OffsetOf.cnt
  rw [e]
  omega
 have hh:=impl_OffsetOf.best_fold (impl_OffsetOf.cnt (impl_OffsetOf.dou (g.map (mv by_)) g n)) (impl_OffsetOf.dou (g.map (mv by_)) g n) (fun _=>False) 0 0 (impl_OffsetOf.IsBest.zero _ (fun s h=>h)) (fun x hx=>impl_OffsetOf.cnt_pos.2 hx)
 have hin:=impl_OffsetOf.cnt_pos.1 (show 0 < impl_OffsetOf.cnt (impl_OffsetOf.dou (g.map (mv by_)) g n) by_ by omega)
 unfold impl_OffsetOf.res
 rcases hh with ⟨_,_,h⟩|⟨h1,h2,h3,h4⟩
 ·exact absurd (.inr hin) (h by_)
 ·rw [if_neg (by omega)]
  refine ⟨_,_,rfl,?_⟩
  have:=h4 by_ (.inr hin)
  rw [← Bool.not_eq_true,impl_OffsetOf.bet_iff] at this
  omega
theorem logsCode_eq {a b:List En} (ha:a.length≤1048576) (hb:b.length≤1048576):impl_logsCode.f a b=some (if validG a=true∧validG b=true then 0 else 1):=by
 unfold impl_logsCode.f
 rw [implValid_log ha,implValid_log hb]
 simp only [Option.bind_some]
 cases validG a <;> cases validG b <;> simp [impl_unless.f]
def resOff (a b:List En):Int × Int × Int:=if validG a=true∧validG b=true then impl_OffsetOf.res (impl_OffsetOf.dou a b a.length) else (0,0,1)
theorem valid_allO {l:List En} (hv:validG l=true):l.all impl_OffsetOf.inb=true:=by
 rw [List.all_eq_true]
 intro x hx
 obtain ⟨i,hi,rfl⟩:=List.mem_iff_getElem.1 hx
 have t:=valid_times hv hi
 rw [rd_impl_Entry hi] at t
 unfold impl_OffsetOf.inb
 simp only [Bool.and_eq_true,decide_eq_true_eq]
 exact t
theorem implOff_eq {a b:List En} (ha:a.length≤1048576) (hb:b.length≤1048576):impl_OffsetOf.f a b=some (resOff a b):=by
 unfold impl_OffsetOf.f resOff
 rw [logsCode_eq ha hb]
 simp only [Option.bind_some]
 by_cases hv:validG a=true∧validG b=true
 ·rw [if_pos hv,if_pos hv,if_neg (by simp),if_pos ⟨(valid_parts hv.1).1,(valid_parts hv.2).1,valid_allO hv.1,valid_allO hv.2⟩]
 ·rw [if_neg hv,if_neg hv,if_pos (by decide)]
theorem agree_off (e f:En):spec_l07Agree.f e.f0 e.f1 e.f2 f.f0 f.f1 f.f2=some (decide (e.f1=f.f1∧e.f2=f.f2)):=by
 unfold spec_l07Agree.f
 by_cases h1:e.f1=f.f1
 ·rw [if_pos h1];simp only [h1,true_and];cases e.f2 <;> cases f.f2 <;> rfl
 ·rw [if_neg h1];simp only [h1,false_and,decide_false]
theorem dif_yes {x y:En} (h:x.f1=y.f1∧x.f2=y.f2):impl_OffsetOf.dif x y=[x.f0 - y.f0]:=if_pos h
theorem dif_no {x y:En} (h:¬ (x.f1=y.f1∧x.f2=y.f2)):impl_OffsetOf.dif x y=[]:=if_neg h
theorem pairs_in {a b:List En} (ha:validG a=true) (hb:validG b=true) {by_:Int} (hby:-100000≤by_∧by_≤100000) {i:Nat} (hi:i < a.length) (K:Nat):∀ d j,j + d=b.length →
  spec_l07Pairs.l1 (K + d + 1) a b by_ (impl_OffsetOf.cnt (impl_OffsetOf.dou a b i ++ impl_OffsetOf.din (rd_T41 a (i:Int)) b j) by_) (i:Int) (j:Int)=spec_l07Pairs.l0 K a b by_ (impl_OffsetOf.cnt (impl_OffsetOf.dou a b (i + 1)) by_) ((i:Int) + 1):=by
 intro d
 have hl0:=(valid_parts ha).1
 have hl1:=(valid_parts hb).1
 induction d with
 | zero =>
  intro j hj
  obtain rfl:j=b.length:=by omega
  simp only [spec_l07Pairs.l1,Nat.add_zero]
  rw [if_neg (by omega),w64 (by omega) (by omega),impl_OffsetOf.dou]
 | succ d ih =>
  intro j hj
  have hjl:j < b.length:=by omega
  have hx:=valid_times ha hi
  have hy:=valid_times hb hjl
  have e:=ih (j + 1) (by omega)
  rw [impl_OffsetOf.din,← List.append_assoc,show ((j + 1:Nat):Int)=(j:Int) + 1 by omega] at e
  have hcl:=impl_OffsetOf.cnt_le (impl_OffsetOf.dou a b i ++ impl_OffsetOf.din (rd_T41 a (i:Int)) b j) by_
  have hll:(impl_OffsetOf.dou a b i ++ impl_OffsetOf.din (rd_T41 a (i:Int)) b j).length≤10000:=by
   have q1:=impl_OffsetOf.dou_len a b hl1 i
   have q2:=impl_OffsetOf.din_len (rd_T41 a (i:Int)) b j
   rw [List.length_append]
   omega
  generalize impl_OffsetOf.dou a b i ++ impl_OffsetOf.din (rd_T41 a (i:Int)) b j=L at *
  rw [show K + (d + 1) + 1=(K + d + 1) + 1 by omega]
  rw [spec_l07Pairs.l1]
  rw [if_pos (by omega),if_pos (by omega),if_pos (by omega),if_pos (by omega),agree_off]
  simp only [Option.bind_some,decide_eq_true_eq]
  rw [w64 (n:=(j:Int) + 1) (by omega) (by omega),w64 (n:=(rd_T41 b (j:Int)).f0 + by_) (by omega) (by omega),w64 (n:=impl_OffsetOf.cnt L by_ + 1) (by omega) (by omega)]
  generalize rd_T41 a (i:Int)=x at *
  generalize rd_T41 b (j:Int)=y at *
  by_cases hag:x.f1=y.f1∧x.f2=y.f2
  ·rw [dif_yes hag,impl_OffsetOf.cnt_snoc] at e
   rw [if_pos hag]
   by_cases ht:x.f0=y.f0 + by_
   ·rw [if_pos ht]
    rw [if_pos (by omega)] at e
    exact e
   ·rw [if_neg ht]
    rw [if_neg (by omega),Int.add_zero] at e
    exact e
  ·rw [dif_no hag,List.append_nil] at e
   rw [if_neg hag]
   exact e
theorem pairs_all {a b:List En} (ha:validG a=true) (hb:validG b=true) {by_:Int} (hby:-100000≤by_∧by_≤100000):∀ d i K,i + d=a.length→100 + 100 * d≤K →
  spec_l07Pairs.l0 K a b by_ (impl_OffsetOf.cnt (impl_OffsetOf.dou a b i) by_) (i:Int)=some (impl_OffsetOf.cnt (impl_OffsetOf.dou a b a.length) by_):=by
 intro d
 have hl1:=(valid_parts hb).1
 induction d with
 | zero =>
  intro i K hi hK
  obtain ⟨K,rfl⟩:∃ m,K=m + 1:=⟨K - 1,by omega⟩
  obtain rfl:i=a.length:=by omega
  rw [spec_l07Pairs.l0,if_neg (by omega)]
 | succ d ih =>
  intro i K hi hK
  obtain ⟨K,rfl⟩:∃ m,K=m + b.length + 1 + 1:=⟨K - b.length - 2,by omega⟩
  have e:=ih (i + 1) K (by omega) (by omega)
  rw [show ((i + 1:Nat):Int)=(i:Int) + 1 by omega] at e
  have e2:=pairs_in ha hb hby (i:=i) (by omega) K b.length 0 (by omega)
  rw [impl_OffsetOf.din,List.append_nil] at e2
  rw [spec_l07Pairs.l0,if_pos (by omega)]
  exact e2.trans e
theorem pairs_eq {a b:List En} (ha:validG a=true) (hb:validG b=true) {by_:Int} (hby:-100000≤by_∧by_≤100000) {k:Nat} (hk:10000≤k):spec_l07Pairs.f k a b by_=some (impl_OffsetOf.cnt (impl_OffsetOf.dou a b a.length) by_):=by
 have hl0:=(valid_parts ha).1
 exact pairs_all ha hb hby a.length 0 k (by omega) (by omega)
theorem size_off {n:Int} (h:-1000000≤n∧n≤1000000):spec_l07Size.f n=some (impl_OffsetOf.ab n):=by
 unfold spec_l07Size.f impl_OffsetOf.ab
 split
 ·rw [w64 (by omega) (by omega)]
 ·rfl
theorem has_off {s:Int} {t:List Int} (ht:t.length≤4000):∀ d i K,i + d=t.length→d + 1≤K→spec_l00Has.l0 K t s (i:Int)=some (decide (s∈t.drop i)):=by
 intro d
 induction d with
 | zero =>
  intro i K hi hK
  obtain ⟨K,rfl⟩:∃ m,K=m + 1:=⟨K - 1,by omega⟩
  rw [spec_l00Has.l0,if_neg (by omega),List.drop_of_length_le (by omega)]
  simp
 | succ d ih =>
  intro i K hi hK
  obtain ⟨K,rfl⟩:∃ m,K=m + 1:=⟨K - 1,by omega⟩
  have e:=ih (i + 1) K (by omega) (by omega)
  have hil:i < t.length:=by omega
  rw [spec_l00Has.l0,if_pos (by omega),if_pos (by omega),w64 (by omega) (by omega),show (i:Int) + 1=((i + 1:Nat):Int) by omega,e]
  have hr:rd t (i:Int)=t[i]:=by simp [rd,List.getD_eq_getElem?_getD,List.getElem?_eq_getElem hil]
  have hd:(s∈t.drop i) ↔ (s=t[i]∨s∈t.drop (i + 1)):=by rw [List.drop_eq_getElem_cons hil];exact List.mem_cons
  rw [hr]
  by_cases h:t[i]=s
  ·rw [if_pos h,decide_eq_true (hd.2 (.inl h.symm))]
  ·rw [if_neg h]
   exact congrArg some (decide_eq_decide.2 ⟨fun q=>hd.2 (.inr q),fun q=>(hd.1 q).resolve_left (fun h_=>h h_.symm)⟩)
theorem has_eqO {s:Int} {t:List Int} (ht:t.length≤4000) {k:Nat} (hk:10000≤k):spec_l00Has.f k t s=some (decide (s∈t)):=by
 have:=has_off (s:=s) ht t.length 0 k (by omega) (by omega)
 rw [List.drop_zero] at this
 exact this
theorem off_j3 {a b:List En} (ha:validG a=true) (hb:validG b=true) {best most s:Int} {t:List Int} {i j:Int} {K:Nat} (hs:-100000≤s∧s≤100000) (hbs:-100000≤best∧best≤100000) (ht:t.length≤4000) (hK:10000≤K) (hj:0≤j∧j≤60) :
  spec_OffsetOf.j3 (K + 1) a b best most t i j s false=spec_OffsetOf.l1 K a b (if impl_OffsetOf.bet most best (impl_OffsetOf.cnt (impl_OffsetOf.dou a b a.length) s) s=true then s else best) (if impl_OffsetOf.bet most best (impl_OffsetOf.cnt (impl_OffsetOf.dou a b a.length) s) s=true then impl_OffsetOf.cnt (impl_OffsetOf.dou a b a.length) s else most) (t ++ [s]) i (j + 1):=by
 rw [spec_OffsetOf.j3,if_neg (by decide),if_pos (by omega),w64 (n:=j + 1) (by omega) (by omega),pairs_eq ha hb hs hK,size_off (n:=s) (by omega),size_off (n:=best) (by omega)]
 simp only [Option.bind_some]
 generalize impl_OffsetOf.cnt (impl_OffsetOf.dou a b a.length) s=n
 by_cases hq:impl_OffsetOf.bet most best n s=true
 ·rw [if_pos hq,if_pos hq]
  rw [impl_OffsetOf.bet_iff] at hq
  generalize impl_OffsetOf.ab s=p at *
  generalize impl_OffsetOf.ab best=q at *
  repeat' split
  all_goals first|rfl|(exfalso;omega)
 ·rw [if_neg hq,if_neg hq]
  rw [impl_OffsetOf.bet_iff] at hq
  generalize impl_OffsetOf.ab s=p at *
  generalize impl_OffsetOf.ab best=q at *
  repeat' split
  all_goals first|rfl|(exfalso;omega)
structure OffInv (a b:List En) (P t:List Int) (best most:Int):Prop where
 best_:impl_OffsetOf.IsBest (impl_OffsetOf.cnt (impl_OffsetOf.dou a b a.length)) (fun s=>s∈t) best most
 mem:∀ s,s∈t ↔ s∈P
 len:t.length≤P.length
theorem din_mem {a b:List En} {i:Nat} (hi:i < a.length) {j:Nat} (hj:j≤b.length):∀ s∈impl_OffsetOf.din (rd_T41 a (i:Int)) b j,s∈impl_OffsetOf.dou a b a.length:=by
 have h1:∀ d j,j + d=b.length→∀ s∈impl_OffsetOf.din (rd_T41 a (i:Int)) b j,s∈impl_OffsetOf.din (rd_T41 a (i:Int)) b b.length:=by
  intro d
  induction d with
  | zero=>intro j hj s hs;obtain rfl:j=b.length:=(by omega);exact hs
  | succ d ih=>intro j hj s hs;exact ih (j + 1) (by omega) s (by rw [impl_OffsetOf.din];exact List.mem_append_left _ hs)
 have h2:∀ d n,n + d=a.length→∀ s∈impl_OffsetOf.dou a b n,s∈impl_OffsetOf.dou a b a.length:=by
  intro d
  induction d with
  | zero=>intro j hj s hs;obtain rfl:j=a.length:=(by omega);exact hs
  | succ d ih=>intro j hj s hs;exact ih (j + 1) (by omega) s (by rw [impl_OffsetOf.dou];exact List.mem_append_left _ hs)
 intro s hs
 exact h2 (a.length - (i + 1)) (i + 1) (by omega) s (by rw [impl_OffsetOf.dou];exact List.mem_append_right _ (h1 (b.length - j) j (by omega) s hs))
theorem off_in {a b:List En} (ha:validG a=true) (hb:validG b=true) {i:Nat} (hi:i < a.length) (K:Nat) (hK:10000≤K):∀ d j best most t,j + d=b.length→OffInv a b (impl_OffsetOf.dou a b i ++ impl_OffsetOf.din (rd_T41 a (i:Int)) b j) t best most →
  ∃ best' most' t',OffInv a b (impl_OffsetOf.dou a b (i + 1)) t' best' most'∧spec_OffsetOf.l1 (K + 2 * d + 1) a b best most t (i:Int) (j:Int)=spec_OffsetOf.l0 K a b best' most' t' ((i:Int) + 1):=by
 intro d
 have hl0:=(valid_parts ha).1
 have hl1:=(valid_parts hb).1
 induction d with
 | zero =>
  intro j best most t hj hI
  obtain rfl:j=b.length:=by omega
  refine ⟨best,most,t,by rw [impl_OffsetOf.dou];exact hI,?_⟩
  simp only [spec_OffsetOf.l1,Nat.mul_zero,Nat.add_zero]
  rw [if_neg (by omega),w64 (by omega) (by omega)]
 | succ d ih =>
  intro j best most t hj hI
  have hjl:j < b.length:=by omega
  have hx:=valid_times ha hi
  have hy:=valid_times hb hjl
  have hin:=din_mem (a:=a) (b:=b) hi (j:=j + 1) (by omega)
  have hall:=impl_OffsetOf.dou_in (valid_allO ha) (valid_allO hb) (Nat.le_refl a.length)
  have hll:(impl_OffsetOf.dou a b i ++ impl_OffsetOf.din (rd_T41 a (i:Int)) b j).length≤3660:=by
   have q1:=impl_OffsetOf.dou_len a b hl1 i
   have q2:=impl_OffsetOf.din_len (rd_T41 a (i:Int)) b j
   rw [List.length_append]
   omega
  have hbs:-100000≤best∧best≤100000:=by
   rcases hI.best_ with ⟨rfl,_⟩|⟨hk,hc,hp,_⟩
   ·omega
   ·exact hall best (impl_OffsetOf.cnt_pos.1 (by rw [hc];exact hp))
  have e:=ih (j + 1)
  rw [show ((j + 1:Nat):Int)=(j:Int) + 1 by omega] at e
  rw [show K + 2 * (d + 1) + 1=(K + 2 * d + 1) + 1 + 1 by omega]
  rw [spec_OffsetOf.l1]
  rw [if_pos (by omega),if_pos (by omega),if_pos (by omega),if_pos (by omega),agree_off]
  simp only [Option.bind_some,decide_eq_true_eq]
  rw [w64 (n:=(rd_T41 a (i:Int)).f0 - (rd_T41 b (j:Int)).f0) (by omega) (by omega)]
  rw [impl_OffsetOf.din] at e hin
  generalize hL:impl_OffsetOf.din (rd_T41 a (i:Int)) b j=L at *
  generalize rd_T41 a (i:Int)=x at *
  generalize rd_T41 b (j:Int)=y at *
  by_cases hag:x.f1=y.f1∧x.f2=y.f2
  ·rw [dif_yes hag] at e hin
   rw [if_pos hag,has_eqO (by have:=hI.len;omega) (by omega)]
   simp only [Option.bind_some]
   have hd:x.f0 - y.f0∈impl_OffsetOf.dou a b a.length:=hin _ (List.mem_append_right _ (List.mem_singleton.2 rfl))
   by_cases hm:x.f0 - y.f0∈t
   ·rw [decide_eq_true hm,spec_OffsetOf.j3,if_pos rfl,w64 (by omega) (by omega)]
    refine e best most t (by omega) ⟨hI.best_,fun s=>?_,by have:=hI.len;simp only [List.length_append] at this ⊢;omega⟩
    rw [hI.mem,← List.append_assoc,List.mem_append (t:=[x.f0 - y.f0]),List.mem_singleton]
    refine ⟨.inl,fun h_=>h_.elim id (fun h_=>?_)⟩
    rw [h_]
    exact (hI.mem _).1 hm
   ·rw [decide_eq_false hm,off_j3 ha hb (by omega) hbs (by have:=hI.len;omega) (by omega) (by omega)]
    refine e _ _ _ (by omega) ⟨?_,fun s=>?_,by have:=hI.len;simp only [List.length_append,List.length_singleton] at this ⊢;omega⟩
    ·exact hI.best_.step (fun s=>by rw [List.mem_append,List.mem_singleton]) (impl_OffsetOf.cnt_pos.2 hd)
    ·rw [List.mem_append,hI.mem,← List.append_assoc,List.mem_append (t:=[x.f0 - y.f0])]
  ·rw [dif_no hag,List.append_nil] at e
   rw [if_neg hag,spec_OffsetOf.j3,if_pos rfl,w64 (by omega) (by omega)]
   exact e best most t (by omega) hI
theorem off_all {a b:List En} (ha:validG a=true) (hb:validG b=true):∀ d i K best most t,i + d=a.length→20000 + 200 * d≤K→OffInv a b (impl_OffsetOf.dou a b i) t best most →
  spec_OffsetOf.l0 K a b best most t (i:Int)=some (impl_OffsetOf.res (impl_OffsetOf.dou a b a.length)):=by
 intro d
 have hl1:=(valid_parts hb).1
 induction d with
 | zero =>
  intro i K best most t hi hK hI
  obtain ⟨K,rfl⟩:∃ m,K=m + 1:=⟨K - 1,by omega⟩
  obtain rfl:i=a.length:=by omega
  have:=impl_OffsetOf.res_of (hI.best_.same (K':=fun s=>s∈impl_OffsetOf.dou a b a.length) (fun s=>(hI.mem s).symm))
  rw [spec_OffsetOf.l0,if_neg (by omega),this]
  split <;> rfl
 | succ d ih =>
  intro i K best most t hi hK hI
  obtain ⟨K,rfl⟩:∃ m,K=m + 2 * b.length + 1 + 1:=⟨K - 2 * b.length - 2,by omega⟩
  obtain ⟨best',most',t',hI',e⟩:=off_in ha hb (i:=i) (by omega) K (by omega) b.length 0 best most t (by omega) (by rw [impl_OffsetOf.din,List.append_nil];exact hI)
  have e2:=ih (i + 1) K best' most' t' (by omega) (by omega) hI'
  rw [show ((i + 1:Nat):Int)=(i:Int) + 1 by omega] at e2
  rw [spec_OffsetOf.l0,if_pos (by omega)]
  exact e.trans e2
theorem specOff_eq {k:Nat} {a b:List En} (hk:100000 < k):spec_OffsetOf.f k a b=some (resOff a b):=by
 unfold spec_OffsetOf.f resOff
 rw [specOk_log (by omega),specOk_log (by omega)]
 simp only [Option.bind_some]
 obtain ⟨k,rfl⟩:∃ m,k=m + 1:=⟨k - 1,by omega⟩
 cases ha:validG a with
 | false=>simp [spec_OffsetOf.j0]
 | true =>
  cases hb:validG b with
  | false=>simp [spec_OffsetOf.j0]
  | true =>
   have hl0:=(valid_parts ha).1
   have e:=off_all ha hb a.length 0 k 0 0 [] (by omega) (by omega) ⟨impl_OffsetOf.IsBest.zero _ (fun s h_=>by cases h_),fun s=>Iff.rfl,Nat.zero_le _⟩
   simp only [if_true,and_self,spec_OffsetOf.j0,Bool.not_true,Bool.false_eq_true,if_false]
   exact e
theorem sameNL_in {l:List Int} (hl:l.length≤1000):∀ (d i k:Nat),i + d=l.length→d < k→spec_l00Same.l0 k l l (i:Int)=some true:=by
 intro d
 induction d with
 | zero =>
  intro i k hi hk
  obtain ⟨k,rfl⟩:∃ m,k=m + 1:=⟨k - 1,by omega⟩
  rw [spec_l00Same.l0,if_neg (by omega)]
 | succ d ih =>
  intro i k hi hk
  obtain ⟨k,rfl⟩:∃ m,k=m + 1:=⟨k - 1,by omega⟩
  have e:=ih (i + 1) k (by omega) (by omega)
  rw [show ((i + 1:Nat):Int)=(i:Int) + 1 by omega] at e
  rw [spec_l00Same.l0]
  simp only [if_pos (show (i:Int) < (l.length:Int) by omega),if_pos (show (0:Int)≤(i:Int) by omega),if_true,w64 (n:=(i:Int) + 1) (by omega) (by omega)]
  exact e
theorem implShift_eq {k:Nat} {l:List En} {b:Int} (hl:l.length≤1048576) (hk:1000 < k):impl_ShiftLog.f k l b=some (resShift l b):=by
 unfold impl_ShiftLog.f resShift
 rw [implValid_log hl,impl_Log_up.within]
 simp only [Option.bind_some]
 by_cases hv:validG l=true
 ·rw [if_pos hv,if_pos hv]
  by_cases hb:(decide (-100000≤b) && decide (b≤100000))=true
  ·rw [if_pos hb,if_pos hb]
   simp only [Bool.and_eq_true,decide_eq_true_eq] at hb
   have h60:=valid_len hv
   unfold slices_Clone_Log_Entry.f
   rw [if_pos (by omega)]
   simp only [Option.bind_some]
   obtain ⟨r,hr,h⟩:=loop_inv (fun k (s:List En × Int)=>impl_ShiftLog.l0 k b s.1 (l.length:Int) s.2) l.length
    (fun i s=>s.2=(i:Int)∧s.1.length=l.length∧s.1.take i=(l.map (mv b)).take i∧s.1.drop i=l.drop i) (fun r=>r=if allT b l l.length=true then (l.map (mv b),0) else ([],2))
    (fun k i s hi ⟨h1,h2,h3,h4⟩=>by
     obtain ⟨acc,x⟩:=s
     simp only at h1 h2 h3 h4
     subst h1
     have ha:acc[i]=l[i]:=by
      have:=congrArg (·[0]?) h4
      simp only [List.getElem?_drop,Nat.add_zero] at this
      rw [List.getElem?_eq_getElem (by omega),List.getElem?_eq_getElem hi] at this
      exact Option.some.inj this
     have ht:=valid_times hv hi
     rw [rd_impl_Entry hi] at ht
     refine .inl ⟨(acc.set i (mv b l[i]),((i + 1:Nat):Int)),⟨rfl,by simpa using h2,?_,?_⟩,?_⟩
     ·simp only
      rw [take_set_succ (by omega),h3,List.take_succ_eq_append_getElem (by simpa using hi)]
      simp
     ·simp only
      rw [List.drop_set_of_lt (by omega)]
      have:=congrArg (List.drop 1) h4
      simpa [List.drop_drop] using this
     ·simp only [impl_ShiftLog.l0]
      rw [if_pos (by omega),if_pos (by omega),if_pos (by omega),rd_impl_Entry (by omega),ha,w64 (n:=l[i].f0 + b) (by omega) (by omega),w64 (n:=(i:Int) + 1) (by omega) (by omega)]
      rfl)
    (fun k s ⟨h1,h2,h3,h4⟩=>by
     obtain ⟨acc,x⟩:=s
     simp only at h1 h2 h3 h4
     subst h1
     rw [List.take_of_length_le (by omega),List.take_of_length_le (by simp)] at h3
     subst h3
     refine ⟨_,rfl,?_⟩
     simp only [impl_ShiftLog.l0]
     rw [if_neg (by omega),implValid_log (by omega),validG_mv hv]
     simp only [Option.bind_some]
     split <;> rfl) k (l,0) ⟨rfl,rfl,by simp,by simp⟩ (by omega)
   subst hr
   exact h
  ·rw [if_neg hb,if_neg hb]
 ·rw [if_neg hv,if_neg hv]
theorem spec_j1_false (k:Nat) (l:List En) (b:Int):spec_ShiftLog.j1 (k + 1) l b false=some ([],2):=by
 simp only [spec_ShiftLog.j1]
 rfl
theorem spec_l1_eq {k:Nat} {l:List En} {b:Int} (hv:validG l=true) (hb:-100000≤b∧b≤100000) (hk:l.length < k):spec_ShiftLog.l1 k l b [] 0=some (l.map (mv b),0):=by
 have h60:=valid_len hv
 obtain ⟨r,hr,h⟩:=loop_inv (fun k (s:List En × Int)=>spec_ShiftLog.l1 k l b s.1 s.2) l.length
  (fun i s=>s.2=(i:Int)∧s.1=(l.map (mv b)).take i) (fun r=>r=(l.map (mv b),0))
  (fun k i s hi ⟨h1,h2⟩=>by
   obtain ⟨acc,x⟩:=s
   simp only at h1 h2
   subst h1 h2
   have ht:=valid_times hv hi
   rw [rd_impl_Entry hi] at ht
   refine .inl ⟨((l.map (mv b)).take (i + 1),((i + 1:Nat):Int)),⟨rfl,rfl⟩,?_⟩
   simp only [spec_ShiftLog.l1]
   rw [if_pos (by omega),if_pos (by omega),if_pos (by simp;omega),rd_impl_Entry hi,w64 (n:=l[i].f0 + b) (by omega) (by omega),w64 (n:=(i:Int) + 1) (by omega) (by omega),List.take_succ_eq_append_getElem (by simpa using hi)]
   simp only [List.getElem_map]
   rfl)
  (fun k s ⟨h1,h2⟩=>by
   obtain ⟨acc,x⟩:=s
   simp only at h1 h2
   subst h1 h2
   refine ⟨_,rfl,?_⟩
   simp only [spec_ShiftLog.l1]
   rw [if_neg (by omega),List.take_of_length_le (by simp)]) k ([],0) ⟨rfl,by simp⟩ hk
 subst hr
 exact h
theorem specShift_eq {k:Nat} {l:List En} {b:Int} (hk:10000 < k):spec_ShiftLog.f k l b=some (resShift l b):=by
 unfold spec_ShiftLog.f resShift
 rw [specOk_log (by omega),in_log]
 simp only [Option.bind_some]
 by_cases hv:validG l=true
 ·rw [if_pos hv,if_pos hv]
  have h60:=valid_len hv
  by_cases hb:(decide (-100000≤b) && decide (b≤100000))=true
  ·rw [hb,if_pos rfl]
   simp only [Bool.and_eq_true,decide_eq_true_eq] at hb
   obtain ⟨r,hr,h⟩:=loop_inv2 (fun k (s:Bool × Int)=>spec_ShiftLog.l0 k l b s.1 s.2) l.length 200 (fun i s=>s.2=(i:Int)∧s.1=allT b l i) (fun r=>r=if allT b l l.length=true then (l.map (mv b),0) else ([],2))
    (fun k i s hi hk ⟨h1,h2⟩=>by
     obtain ⟨a,x⟩:=s
     simp only at h1 h2
     subst h1 h2
     have ht:=valid_times hv hi
     simp only [spec_ShiftLog.l0]
     rw [if_pos (by omega)]
     cases ha:allT b l i with
     | false =>
      refine .inr ⟨_,rfl,?_⟩
      obtain ⟨k,rfl⟩:∃ m,k=m + 1:=⟨k - 1,by omega⟩
      rw [if_neg (by simp),spec_j1_false,allT_false ha (by omega),if_neg (by simp)]
     | true =>
      refine .inl ⟨(allT b l (i + 1),((i + 1:Nat):Int)),⟨rfl,rfl⟩,?_⟩
      rw [if_pos rfl,if_pos (by omega),w64 (n:=(rd_T41 l (i:Int)).f0 + b) (by omega) (by omega),spec_l07Time.f,in_log]
      simp only [Option.bind_some]
      rw [w64 (n:=(i:Int) + 1) (by omega) (by omega),allT,ha]
      simp only [Bool.true_and]
      rfl)
    (fun k s hk ⟨h1,h2⟩=>by
     obtain ⟨a,x⟩:=s
     simp only at h1 h2
     subst h1 h2
     refine ⟨_,rfl,?_⟩
     obtain ⟨k,rfl⟩:∃ m,k=m + 1:=⟨k - 1,by omega⟩
     simp only [spec_ShiftLog.l0]
     rw [if_neg (by omega)]
     cases ha:allT b l l.length with
     | false=>rw [spec_j1_false,if_neg (by simp)]
     | true =>
      simp only [spec_ShiftLog.j1]
      simp only [if_true]
      rw [spec_l1_eq hv hb (by omega)]) k (true,0) ⟨rfl,rfl⟩ (by omega)
   subst hr
   exact h
  ·rw [if_neg hb]
   simp only [Bool.not_eq_true] at hb
   rw [hb]
   obtain ⟨k,rfl⟩:∃ m,k=m + 2:=⟨k - 2,by omega⟩
   simp only [spec_ShiftLog.l0]
   split
   ·rw [if_neg (by simp),spec_j1_false]
   ·rw [spec_j1_false]
 ·rw [if_neg hv,if_neg hv]
theorem loop_acc {β γ:Type} (L:Nat→List β→Int→Option γ) (n:Nat) (g:Nat→List β) (R:List β→γ) (hb:∀ i,i < n→(g i).length≤1)
  (hs:∀ k i acc,i < n→acc.length≤i→L (k + 1) acc (i:Int)=L k (acc ++ g i) ((i + 1:Nat):Int))
  (he:∀ k acc,acc.length≤n→L (k + 1) acc (n:Int)=some (R acc)):∀ k,n < k→L k [] 0=some (R ((List.range n).flatMap g)):=by
 intro k hk
 obtain ⟨r,hr,h⟩:=loop_inv (fun k (s:List β × Int)=>L k s.1 s.2) n (fun i s=>s.2=(i:Int)∧s.1=(List.range i).flatMap g∧s.1.length≤i) (fun r=>r=R ((List.range n).flatMap g))
  (fun k i s hi ⟨h1,h2,h3⟩=>by
   obtain ⟨acc,x⟩:=s
   simp only at h1 h2 h3
   subst h1
   refine .inl ⟨(acc ++ g i,((i + 1:Nat):Int)),⟨rfl,?_,?_⟩,hs k i acc hi h3⟩
   ·rw [h2,List.range_succ,List.flatMap_append]
    simp
   ·have:=hb i hi
    simp only [List.length_append]
    omega)
  (fun k s ⟨h1,h2,h3⟩=>by
   obtain ⟨acc,x⟩:=s
   simp only at h1 h2 h3
   subst h1
   exact ⟨_,by rw [h2],he k acc h3⟩) k ([],0) ⟨rfl,rfl,Nat.zero_le _⟩ hk
 subst hr
 exact h
def resUpAt (l:List En) (t:Int):List Int × Int:=if validG l=true then (if (decide (0≤t) && decide (t≤100000))=true then (sigs l ((ups l (cutAt l t)).getD []),0) else ([],2)) else ([],1)
theorem implSigs {k:Nat} {l:List En} {o:List Int} (ho:∀ x∈o,0≤x∧x < (l.length:Int)) (hl:o.length≤60) (hk:o.length < k):impl_UpAt.l0 k l [] o (o.length:Int) 0=some (sigs l o,0):=by
 refine loop_acc (fun k acc i=>impl_UpAt.l0 k l acc o (o.length:Int) i) o.length (fun (i:Nat)=>[(rd_T41 l (rd o (i:Int))).f1]) (fun acc=>(acc,0)) (fun _ _=>by simp) (fun k i acc hi ha=>?_) (fun k acc ha=>?_) k hk
 ·have hm:=ho _ (rdI_mem hi)
  simp only [impl_UpAt.l0]
  rw [if_pos (by omega),if_pos (by omega),if_pos (by omega),if_pos hm.1,if_pos hm.2,if_pos (by omega),w64 (by omega) (by omega)]
  rfl
 ·simp only [impl_UpAt.l0]
  rw [if_neg (by omega)]
theorem specSigs {k:Nat} {l:List En} {o:List Int} (ho:∀ x∈o,0≤x∧x < (l.length:Int)) (hl:o.length≤60) (hk:o.length < k):spec_UpAt.l1 k l o [] 0=some (sigs l o,0):=by
 refine loop_acc (fun k acc i=>spec_UpAt.l1 k l o acc i) o.length (fun (i:Nat)=>[(rd_T41 l (rd o (i:Int))).f1]) (fun acc=>(acc,0)) (fun _ _=>by simp) (fun k i acc hi ha=>?_) (fun k acc ha=>?_) k hk
 ·have hm:=ho _ (rdI_mem hi)
  simp only [spec_UpAt.l1]
  rw [if_pos (by omega),if_pos (by omega),if_pos hm.1,if_pos hm.2,if_pos (by omega),w64 (by omega) (by omega)]
  rfl
 ·simp only [spec_UpAt.l1]
  rw [if_neg (by omega)]
theorem implUpAt_eq {k:Nat} {l:List En} {t:Int} (hl:l.length≤1048576) (hk:10000 < k):impl_UpAt.f k l t=some (resUpAt l t):=by
 unfold impl_UpAt.f resUpAt
 rw [implValid_log hl,impl_Log_up.within]
 simp only [Option.bind_some]
 cases hv:validG l with
 | false=>rfl
 | true =>
  cases ht:(decide (0≤t) && decide (t≤100000)) with
  | false=>rfl
  | true =>
   simp only [if_true]
   rw [slices_IndexFunc_Log_Entry__impl_UpAt_1.f,idxO_eq (p:=fun x:En=>impl_UpAt_1.f x.f0 x.f1 x.f2 t) (q:=fun x:En=>decide (x.f0 > t)) (fun x _=>rfl)]
   simp only [Option.bind_some]
   obtain ⟨c1,c2⟩:=idx_cut l t
   have hc:=cut_le l t
   obtain ⟨o,ho⟩:=ups_some hv hc
   obtain ⟨k,rfl⟩:∃ m,k=m + 1:=⟨k - 1,by omega⟩
   obtain ⟨b1,b2,_⟩:=ups_ok ho
   have hl60:=(valid_parts hv).1
   have goal:impl_UpAt.j0 (k + 1) l (cutAt l t:Int)=some (sigs l ((ups l (cutAt l t)).getD []),0):=by
    simp only [impl_UpAt.j0]
    rw [if_pos (by omega),if_pos (by omega),Int.toNat_natCast,up_take hv hc,ho]
    simp only [Option.bind_some,Option.getD_some]
    exact implSigs (fun x hx=>⟨(b2 x hx).1,by have:=(b2 x hx).2;omega⟩) (by omega) (by omega)
   split
   ·rename_i hneg
    rw [← goal,c1 hneg]
   ·rename_i hneg
    rw [c2 hneg,goal]
theorem specCut {k:Nat} {l:List En} {t:Int} (hl:l.length≤60):∀ d i,i + d=cutAt l t→d < k→spec_UpAt.l0 k l t (i:Int)=spec_UpAt.j1 (k - d - 1) l (cutAt l t:Int):=by
 intro d
 induction d generalizing k with
 | zero =>
  intro i hi hk
  obtain ⟨k,rfl⟩:∃ m,k=m + 1:=⟨k - 1,by omega⟩
  obtain rfl:i=cutAt l t:=by omega
  have hc:=cut_le l t
  simp only [spec_UpAt.l0]
  by_cases h:cutAt l t < l.length
  ·rw [if_pos (by omega),if_pos (by omega),rd_impl_Entry h]
   have:=List.findIdx_getElem (p:=fun x:En=>decide (x.f0 > t)) (xs:=l) (w:=h)
   simp only [decide_eq_true_eq] at this
   rw [if_neg (by unfold cutAt;omega)]
   simp
  ·rw [if_neg (by omega)]
   simp
 | succ d ih =>
  intro i hi hk
  obtain ⟨k,rfl⟩:∃ m,k=m + 1:=⟨k - 1,by omega⟩
  have hc:=cut_le l t
  have hi':i < l.length:=by omega
  simp only [spec_UpAt.l0]
  have:=List.not_of_lt_findIdx (p:=fun x:En=>decide (x.f0 > t)) (xs:=l) (i:=i) (by unfold cutAt at hi;omega)
  simp only [decide_eq_true_eq,Bool.not_eq_true,decide_eq_false_iff_not] at this
  rw [if_pos (by omega),if_pos (by omega),rd_impl_Entry hi',if_pos (by omega),w64 (by omega) (by omega)]
  have e:=ih (k:=k) (i + 1) (by omega) (by omega)
  rw [show ((i + 1:Nat):Int)=(i:Int) + 1 by omega] at e
  rw [e,show k + 1 - (d + 1) - 1=k - d - 1 by omega]
theorem specUpAt_eq {k:Nat} {l:List En} {t:Int} (hk:10000 < k):spec_UpAt.f k l t=some (resUpAt l t):=by
 unfold spec_UpAt.f resUpAt
 rw [specOk_log (by omega)]
 simp only [Option.bind_some]
 cases hv:validG l with
 | false=>rfl
 | true =>
  simp only [if_true]
  rw [show spec_l07Time.f t=some (decide (0≤t) && decide (t≤100000)) from by unfold spec_l07Time.f;rw [in_log];rfl]
  simp only [Option.bind_some]
  cases ht:(decide (0≤t) && decide (t≤100000)) with
  | false=>rfl
  | true =>
   simp only [if_true]
   have hc:=cut_le l t
   obtain ⟨o,ho⟩:=ups_some hv hc
   obtain ⟨b1,b2,_⟩:=ups_ok ho
   have hl60:=(valid_parts hv).1
   have e:=specCut (k:=k) (l:=l) (t:=t) hl60 (cutAt l t) 0 (by omega) (by omega)
   rw [show ((0:Nat):Int)=0 from rfl] at e
   rw [e]
   obtain ⟨m,hm⟩:∃ m,k - cutAt l t - 1=m + 1:=⟨k - cutAt l t - 2,by omega⟩
   rw [hm]
   simp only [spec_UpAt.j1]
   rw [specUp_eq hc hl60 (by omega),ho]
   simp only [Option.bind_some,Option.getD_some]
   exact specSigs (fun x hx=>⟨(b2 x hx).1,by have:=(b2 x hx).2;omega⟩) (by omega) (by omega)
theorem noted_end {g:List En} (hv:validG g=true) {b:Int} (hd:validG (g.map (mv b))=true) (k:Nat) (hk:200000≤k):laws_FnNoted.j4 k g (g.map (mv b)) (dns g) false=some true:=by
 obtain ⟨k,rfl⟩:∃ m,k=m + 2:=⟨k - 2,by omega⟩
 have hl:=valid_len hv
 have hl2:(g.map (mv b)).length≤1048576:=by rw [List.length_map];omega
 have hR1:resOff (g.map (mv b)) g=impl_OffsetOf.res (impl_OffsetOf.dou (g.map (mv b)) g (g.map (mv b)).length):=by unfold resOff;rw [if_pos ⟨hd,hv⟩]
 have hR2:resOff g g=impl_OffsetOf.res (impl_OffsetOf.dou g g g.length):=by unfold resOff;rw [if_pos ⟨hv,hv⟩]
 have hsix:((resLong g).2.2 == 0)=decide (((dns g).length:Int) > 0):=by
  unfold resLong
  rw [if_pos hv,dns_len]
  rcases long_sign hv g.length (Nat.le_refl _) with ⟨q1,q2⟩|⟨q1,q2⟩
  ·rw [if_pos (by omega),q1]
   rfl
  ·rw [if_neg (by omega),decide_eq_true (by omega)]
   rfl
 have hoff:∃ b1 m1 m2,(g=[]∧resOff (g.map (mv b)) g=(0,0,6)∧resOff g g=(0,0,6))∨(g≠[]∧resOff (g.map (mv b)) g=(b1,m1,0)∧(g.length:Int)≤m1∧resOff g g=(0,m2,0)):=by
  by_cases hg:g=[]
  ·subst hg
   exact ⟨0,0,0,.inl ⟨rfl,by rw [hR1];rfl,by rw [hR2];rfl⟩⟩
  ·obtain ⟨b1,m1,q1,q2⟩:=due_off hg b
   obtain ⟨m2,q3⟩:=own_off hg
   exact ⟨b1,m1,m2,.inr ⟨hg,by rw [hR1,q1],q2,by rw [hR2,q3]⟩⟩
 rw [laws_FnNoted.j4,if_neg (by decide),implLong_eq (by omega),specLong_eq (by omega),implOff_eq hl2 (by omega),specOff_eq (by omega),implOff_eq (by omega) (by omega)]
 simp only [Option.bind_some]
 rw [if_pos (by first|trivial|rfl),if_pos (by first|trivial|rfl),if_pos (by first|trivial|rfl),hsix,if_neg (by simp),if_pos (by first|trivial|rfl),if_pos (by first|trivial|rfl),bne_self_eq_false,laws_FnNoted.j5,if_neg (by decide)]
 obtain ⟨b1,m1,m2,⟨hg,e1,e2⟩|⟨hg,e1,hm,e2⟩⟩:=hoff
 ·rw [e1,e2,hg]
  rfl
 ·have hpos:0 < g.length:=List.length_pos_iff.2 hg
  rw [e1,e2]
  rw [if_neg (by omega),if_pos rfl,if_pos (by omega),if_pos rfl]
  rfl
theorem noted_loop {g due:List En} {t:Int} {list:List Int} (hg:g.length≤60) (hlist:(list.length:Int)=(upT g t g.length:Int) - (dnT g t g.length:Int)) (hend:∀ k,200000≤k→laws_FnNoted.j4 k g due (dns g) false=some true) :
  ∀ (d i K:Nat),i + d=g.length→2 * d + 200001≤K→laws_FnNoted.l0 K g due t list (dns g) (upT g t i:Int) (dnT g t i:Int) (dnN g i:Int) (i:Int)=some true:=by
 intro d
 induction d with
 | zero =>
  intro i K hi hK
  obtain ⟨k,rfl⟩:∃ m,K=m + 1:=⟨K - 1,by omega⟩
  obtain rfl:i=g.length:=by omega
  obtain ⟨c1,c2,c3,c4⟩:=count_le g t g.length
  rw [laws_FnNoted.l0,if_neg (by omega),if_pos (by rw [dns_len]),w64 (by omega) (by omega),hlist,bne_self_eq_false]
  exact hend k (by omega)
 | succ d ih =>
  intro i K hi hK
  obtain ⟨k,rfl⟩:∃ m,K=m + 2:=⟨K - 2,by omega⟩
  have hil:i < g.length:=by omega
  obtain ⟨c1,c2,c3,c4⟩:=count_le g t i
  have key:=ih (i + 1) k (by omega) (by omega)
  rw [upT,dnT,dnN] at key
  have hj3:∀ z:Int,z=((dnN g i + if (rd_T41 g (i:Int)).f2=true then 1 else 0:Nat):Int)→laws_FnNoted.j3 (k + 1) g due t list (dns g) (upT g t i:Int) (dnT g t i:Int) z (i:Int)=some true:=by
   intro z hz
   subst hz
   rw [laws_FnNoted.j3,if_pos (by omega),if_pos (by omega),w64 (n:=(i:Int) + 1) (by omega) (by omega),w64 (n:=(dnT g t i:Int) + 1) (by omega) (by omega),w64 (n:=(upT g t i:Int) + 1) (by omega) (by omega)]
   by_cases ht:(rd_T41 g (i:Int)).f0 > t
   ·rw [if_pos ht] at key ⊢
    rw [if_pos ht] at key
    exact key
   ·rw [if_neg ht] at key ⊢
    rw [if_neg ht] at key
    by_cases hf:(rd_T41 g (i:Int)).f2=true
    ·simp only [if_pos hf] at key ⊢
     exact key
    ·simp only [if_neg hf] at key ⊢
     exact key
  rw [laws_FnNoted.l0,if_pos (by omega),if_pos (by omega)]
  by_cases hf:(rd_T41 g (i:Int)).f2=true
  ·rw [if_pos hf]
   have hf':g[i].f2=true:=by rw [rd_impl_Entry hil] at hf;exact hf
   obtain ⟨hd,he⟩:=dns_at hil hf'
   rw [if_neg (by omega),if_pos (by omega),if_pos (by omega),rd_impl_Entry hd,he,rd_impl_Entry hil,if_neg (by simp),w64 (by omega) (by omega)]
   exact hj3 _ (by rw [if_pos hf];rfl)
  ·rw [if_neg hf]
   exact hj3 _ (by rw [if_neg hf];rfl)
theorem noted_all {code more:List Int} (hc:Bytes code) (hm:Bytes more) {k:Nat} (hk:1000000≤k):laws_FnNoted.j0 k code more false=some true:=by
 obtain ⟨k,rfl⟩:∃ m,k=m + 2:=⟨k - 2,by omega⟩
 obtain ⟨g,e1,hv,h2⟩:=noted_ok hc (k:=k + 1) (by omega)
 obtain ⟨b,s,e4,b0,b1⟩:=pick_ok hm (seed:=0) (a:=40) (at_:=0) (by omega) (by omega) (by omega)
 obtain ⟨t,s',e5,t0,t1⟩:=pick_ok hm (seed:=0) (a:=60) (at_:=0) (by omega) (by omega) (by omega)
 have p40:spec_P6Pick.f more 40=some b:=by
  unfold spec_P6Pick.f spec_l00From.f
  simp only [Option.bind_some]
  rw [e4]
  rfl
 have p60:spec_P6Pick.f more 60=some t:=by
  unfold spec_P6Pick.f spec_l00From.f
  simp only [Option.bind_some]
  rw [e5]
  rfl
 have hl:=valid_len hv
 obtain ⟨s1,s2,hd⟩:=shift_there hv h2 b0 b1
 have hl2:(g.map (mv b)).length≤60:=by rw [List.length_map];exact hl
 obtain ⟨g1,g2⟩:=okEnts hv
 have hlt:(logTxt g).length≤1048576:=by
  have key:∀ g:List En,(∀ x∈g,okEnt x)→(logTxt g).length≤43 * g.length:=by
   intro g
   induction g with
   | nil=>intro _;simp [logTxt]
   | cons x g ih =>
    intro h
    have e:logTxt (x :: g)=entTxt x ++ logTxt g:=rfl
    have h1:=entTxt_le (h x (by simp))
    have h2:=ih (fun y hy=>h y (List.mem_cons_of_mem _ hy))
    rw [e,List.length_append,List.length_cons]
    omega
  have:=key g g2
  omega
 obtain ⟨o,ho⟩:=ups_some hv (cut_le g t)
 have hup:resUpAt g t=(sigs g o,0):=by
  unfold resUpAt
  rw [if_pos hv,if_pos (by simp only [Bool.and_eq_true,decide_eq_true_eq];omega),ho]
  rfl
 have hex:resExec g=(dns g,0):=by
  unfold resExec
  rw [if_pos hv,flat_filter]
  rfl
 have hsl:(sigs g o).length≤60:=by
  rw [sigs_len]
  have:=(ups_ok ho).1
  have:=cut_le g t
  omega
 have hlist:((sigs g o).length:Int)=(upT g t g.length:Int) - (dnT g t g.length:Int):=by
  obtain ⟨q1,q2⟩:=cut_count hv t g.length (Nat.le_refl _)
  rw [Nat.min_eq_right (cut_le g t)] at q1 q2
  have:=ups_count _ _ ho
  rw [sigs_len,q1,q2]
  omega
 have hsame:spec_SameNumbers.f (k + 1) (sigs g o) (sigs g o)=some true:=by
  unfold spec_SameNumbers.f spec_l00Same.f
  rw [if_pos rfl]
  have:=sameNL_in (l:=sigs g o) (by omega) (sigs g o).length 0 (k + 1) (by omega) (by omega)
  rw [show ((0:Nat):Int)=0 from rfl] at this
  rw [this]
  rfl
 have hs1:∀ l:List En,l.length≤60→spec_SameLog.f (k + 1) l l=some true:=fun l h=>by rw [specSameLog_eq _ _ _ (by omega) (by omega),eqG_same]
 have hs2:impl_SameLog.f (k + 1) g g=some true:=by
  unfold impl_SameLog.f
  rw [implSameLog_eq _ _ _ (by omega) (by omega),eqG_same]
  rfl
 have hloop:=noted_loop (due:=g.map (mv b)) (t:=t) (list:=sigs g o) hl hlist (fun k hk=>noted_end hv hd k hk) g.length 0 k (by omega) (by omega)
 rw [laws_FnNoted.j0,if_neg (by decide),e1]
 simp only [Option.bind_some]
 rw [impl_LogText_eq g (by omega),if_pos hv]
 simp only [Option.bind_some]
 rw [implReadLog _ hlt,resI_log hv]
 simp only [Option.bind_some]
 rw [p40]
 simp only [Option.bind_some]
 rw [implShift_eq (by omega) (by omega),specShift_eq (by omega),s1]
 simp only [Option.bind_some]
 rw [w64 (n:=-b) (by omega) (by omega),implShift_eq (by omega) (by omega),s2]
 simp only [Option.bind_some]
 rw [p60]
 simp only [Option.bind_some]
 rw [implUpAt_eq (by omega) (by omega),specUpAt_eq (by omega),hup]
 simp only [Option.bind_some]
 rw [implExec_eq (by omega),hex]
 simp only [Option.bind_some]
 rw [if_pos (by first|trivial|rfl),hs1 g hl]
 simp only [Option.bind_some]
 rw [if_pos (by first|trivial|rfl),hs2]
 simp only [Option.bind_some]
 rw [if_pos (by first|trivial|rfl),implValid_log (by omega),hv]
 simp only [Option.bind_some]
 rw [if_pos (by first|trivial|rfl),if_pos (by first|trivial|rfl),if_pos (by first|trivial|rfl),hs1 _ hl2]
 simp only [Option.bind_some]
 rw [if_pos (by first|trivial|rfl),if_pos (by first|trivial|rfl)]
 simp only [Option.bind_some,if_true]
 rw [hsame]
 simp only [Option.bind_some,if_true]
 rw [bne_self_eq_false,laws_FnNoted.j1,if_neg (by decide)]
 exact hloop
theorem FnNoted (l0:List Int) (l1:List Int) (h00:l0.length≤9223372036854775807) (h01:(∀ x∈l0,(Lit.int .u8 x).wf=true)) (h10:l1.length≤9223372036854775807) (h11:(∀ x∈l1,(Lit.int .u8 x).wf=true)):∃ k,laws_FnNoted.f k l0 l1=some true:=by
 refine ⟨1000001,?_⟩
 unfold laws_FnNoted.f laws_f6big.f
 simp only [Option.bind_some]
 have hj0:∀ b,laws_FnNoted.j0 1000001 l0 l1 b=some true:=by
  intro b
  cases b with
  | true=>rw [laws_FnNoted.j0,if_pos rfl]
  | false=>exact noted_all (bytes_ofQ h01) (bytes_ofQ h11) (by omega)
 split
 ·exact hj0 true
 ·exact hj0 _
end Go.Proofs.YtmcfbnglocojkabGreatDoor.G.Pure
end
