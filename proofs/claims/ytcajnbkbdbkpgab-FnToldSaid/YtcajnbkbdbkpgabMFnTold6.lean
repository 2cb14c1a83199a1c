/- The law's functions, their contracts, and the plain lemmas: texts of this claim, laid together. -/
import Derived.Deep.Slices
import Derived.Deep.Fields
import Derived.ChangeSame
import Derived.OpenShut
import Derived.Test.YtcajnbkbdbkpgabMFnTold0
import Derived.Test.YtcajnbkbdbkpgabMFnTold1
import Derived.Test.YtcajnbkbdbkpgabMFnTold2
import Derived.Test.YtcajnbkbdbkpgabMFnTold3
import Derived.Test.YtcajnbkbdbkpgabMFnTold4
import Derived.Test.YtcajnbkbdbkpgabMFnTold5
section
namespace Go.Proofs.Ytcajnbkbdbkpgab.G
open Go.RowKit Go.Proofs.YtcajnbkbdbkpgabW.PrintWords Go.Proofs.YtcajnbkbdbkpgabW.PrintLast Go.Proofs.YtcajnbkbdbkpgabW.PrintMore
attribute [local go_sem] max2_int min2_int max_two min_two max_three min_three max_four min_four
set_option linter.unusedVariables false
set_option linter.unusedSimpArgs false
open Go.ChangeShapes Go.WideShapes Go.Deep in
structure Opens {α:Type} (P:Program) (t:TypeId) (d:Kd α) (Wf:α→Prop):Prop where
  sz:P.cellsOf t=d.sz
  op:∀ {H:Type} {enc:TypeId × Value→H} {w:World} {base:Nat} {spare:Nat→Bool} {held:Bool} {fuel:Nat} {cs:List Value} {x:DataW H × List MemPlace},DataW.trod enc P w base spare held fuel t cs=some x→∃ a:α,d.K w a cs∧Wf a
theorem opens_int {P:Program} {t:TypeId} {k:IntKind} (ht:P.underlying t=some (.int k)) (hC:P.cellsOf t=1):Opens P t (Kd.int k) (fun n=>(Lit.int k n).wf=true) where
  sz:=hC
  op:=fun h=>by
    obtain ⟨n,rfl,_,hw⟩:=DataW.trod_int ht h
    exact ⟨n,rfl,hw⟩
theorem list_of {α:Type} {Q:Nat→α→Prop}:∀ n,(∀ i,i < n→∃ y,Q i y)→∃ l:List α,l.length=n∧∀ i y,l[i]?=some y→Q i y
  | 0,_=>⟨[],rfl,fun i y h=>by simp at h⟩
  | n + 1,h=>by
    obtain ⟨l,hl,hq⟩:=list_of n (fun i hi=>h i (by omega))
    obtain ⟨y,hy⟩:=h n (by omega)
    refine ⟨l ++ [y],by simp [hl],fun i z hz=>?_⟩
    rcases Nat.lt_or_ge i l.length with hi|hi
    · rw [List.getElem?_append_left hi] at hz
      exact hq i z hz
    · rw [List.getElem?_append_right hi] at hz
      have:i - l.length=0:=by
        rcases Nat.eq_zero_or_pos (i - l.length) with h0|h0
        · exact h0
        · rw [List.getElem?_eq_none (by simp; omega)] at hz
          cases hz
      rw [this] at hz
      have e:y=z:=by simpa using hz
      subst e
      have:i=n:=by omega
      subst this
      exact hy
theorem opens_slice {α:Type} {P:Program} {t e:TypeId} {d:Kd α} {Wf:α→Prop} (ht:P.underlying t=some (.slice e)) (hC:P.cellsOf t=1) (he:Opens P e d Wf):Opens P t (Kd.slice e d) (fun l=>l.length≤9223372036854775807∧∀ x∈l,Wf x) where
  sz:=hC
  op:=fun {H enc w base spare held fuel cs x} h=>by
    rcases Go.Deep.open_slice ht h with ⟨rfl,_⟩|⟨a,len,cap,m,n,D,Pl,rfl,hb,hl,hm,hmm,_,hi⟩
    · exact ⟨[],⟨none,0,rfl,Nat.le_refl _,rfl,by simp,fun h=>absurd h (by simp)⟩,by simp,by simp⟩
    · have hlen:len≤m:=by rw [hmm]; split <;> omega
      obtain ⟨l,hll,hq⟩:=list_of (Q:=fun i y=>(∃ c,c.length=d.sz∧d.K w y c∧∀ j u,c[j]?=some u→w.cell? (a.add (i * d.sz + j))=some u)∧Wf y) len (fun i him=>by
        obtain ⟨cs',hc,ht'⟩:=hi i (by omega)
        obtain ⟨y,hK,hW⟩:=he.op ht'
        obtain ⟨_,hcl,hat⟩:=World.cells?_some hc
        refine ⟨y,⟨cs',d.K_len hK,hK,fun j u hu=>?_⟩,hW⟩
        have hj:j < cs'.length:=(List.getElem?_eq_some_iff.1 hu).1
        have h1:=hat j (by rw [he.sz,← d.K_len hK]; exact hj)
        rw [← he.sz,← Go.Deep.add_add,h1,hu])
      refine ⟨l,⟨some a,cap,by rw [hll],by rw [hll]; exact hl,rfl,by rw [hll]; have:=hm; unfold maxLen at this; omega,fun _=>⟨a,rfl,fun j p hj=>(hq j p hj).1⟩⟩,by rw [hll]; have:=hm; unfold maxLen at this; omega,fun y hy=>?_⟩
      obtain ⟨j,hj,rfl⟩:=List.mem_iff_getElem.1 hy
      exact (hq j _ (List.getElem?_eq_getElem hj)).2
theorem op5:Opens Try.prog 5 (Kd.int .u8) (fun x:Int=>(Lit.int .u8 x).wf=true):=opens_int (k:=.u8) Try.underlying5 (by kernel_rfl)
theorem op22:Opens Try.prog 22 (Kd.slice 5 (Kd.int .u8)) (fun x:List Int=>(x.length≤9223372036854775807∧∀ x_∈x,(Lit.int .u8 x_).wf=true)):=opens_slice Try.underlying22 (by kernel_rfl) op5
end Go.Proofs.Ytcajnbkbdbkpgab.G
end
section
namespace Go.Proofs.Ytcajnbkbdbkpgab.G.Pure
open Go.RowKit Go.Proofs.Ytcajnbkbdbkpgab.G Go.Proofs.YtcajnbkbdbkpgabW.PrintWords Go.Proofs.YtcajnbkbdbkpgabW.PrintLast Go.Proofs.YtcajnbkbdbkpgabW.PrintMore
set_option linter.unusedVariables false
set_option linter.unusedSimpArgs false
theorem w64 {n:Int} (h0:-9223372036854775808≤n) (h1:n≤9223372036854775807):wrap64 n=n:=by
 unfold wrap64
 omega
theorem loop_inv {σ γ:Type} (L:Nat→σ→Option γ) (n:Nat) (I:Nat→σ→Prop) (R:γ→Prop)
  (hs:∀ k i s,i < n→I i s→(∃ s',I (i + 1) s'∧L (k + 1) s=L k s')∨(∃ r,R r∧L (k + 1) s=some r))
  (he:∀ k s,I n s→∃ r,R r∧L (k + 1) s=some r):∀ k s,I 0 s→n < k→∃ r,R r∧L k s=some r:=by
 have go:∀ d i k s,i + d=n→I i s→d < k→∃ r,R r∧L k s=some r:=by
  intro d
  induction d with
  | zero =>
   intro i k s hi hI hk
   obtain ⟨k,rfl⟩:∃ m,k=m + 1:=⟨k - 1,by omega⟩
   obtain rfl:i=n:=by omega
   exact he k s hI
  | succ d ih =>
   intro i k s hi hI hk
   obtain ⟨k,rfl⟩:∃ m,k=m + 1:=⟨k - 1,by omega⟩
   rcases hs k i s (by omega) hI with ⟨s',hI',h⟩|h
   ·rw [h]
    exact ih (i + 1) k s' (by omega) hI' (by omega)
   ·exact h
 intro k s hI hk
 exact go n 0 k s (by omega) hI hk
theorem rd_nat {l:List Int} {i:Nat} (h:i < l.length):rd l (i:Int)=l[i]:=by
 simp [rd,List.getD_eq_getElem?_getD,List.getElem?_eq_getElem h]
abbrev En:=S43
theorem loop_inv2 {σ γ:Type} (L:Nat→σ→Option γ) (n K0:Nat) (I:Nat→σ→Prop) (R:γ→Prop)
  (hs:∀ k i s,i < n→K0≤k→I i s→(∃ s',I (i + 1) s'∧L (k + 1) s=L k s')∨(∃ r,R r∧L (k + 1) s=some r))
  (he:∀ k s,K0≤k→I n s→∃ r,R r∧L (k + 1) s=some r):∀ k s,I 0 s→n + K0 < k→∃ r,R r∧L k s=some r:=by
 have go:∀ d i k s,i + d=n→I i s→d + K0 < k→∃ r,R r∧L k s=some r:=by
  intro d
  induction d with
  | zero =>
   intro i k s hi hI hk
   obtain ⟨k,rfl⟩:∃ m,k=m + 1:=⟨k - 1,by omega⟩
   obtain rfl:i=n:=by omega
   exact he k s (by omega) hI
  | succ d ih =>
   intro i k s hi hI hk
   obtain ⟨k,rfl⟩:∃ m,k=m + 1:=⟨k - 1,by omega⟩
   rcases hs k i s (by omega) (by omega) hI with ⟨s',hI',h⟩|h
   ·rw [h]
    exact ih (i + 1) k s' (by omega) hI' (by omega)
   ·exact h
 intro k s hI hk
 exact go n 0 k s (by omega) hI (by omega)
def atE (l:List En) (i:Nat) (out:List Int):Int:=impl_Log_up.at l (rd_T43 l (i:Int)) out
def upsStep (l:List En) (i:Nat) (out:List Int):Option (List Int) :=
  if decide (atE l i out < 0)=(rd_T43 l (i:Int)).f2 then none else if (rd_T43 l (i:Int)).f2=true then some (out.eraseIdx (atE l i out).toNat) else some (out ++ [(i:Int)])
def ups (l:List En):Nat→Option (List Int)
  | 0=>some []
  | n + 1=>(ups l n).bind (upsStep l n)
def lastT (l:List En):Nat→Int
  | 0=>0
  | n + 1=>(rd_T43 l (n:Int)).f0
def gd (l:List En):Nat→Bool
  | 0=>true
  | n + 1=>gd l n && impl_Log_up.good (lastT l n) (rd_T43 l (n:Int))
theorem to_eq (l:List En) (n:Nat):impl_Log_up.to l n=if gd l n=true then (ups l n).map (fun o=>(lastT l n,o)) else none:=by
  induction n with
  | zero=>rfl
  | succ n ih =>
    rw [impl_Log_up.to,ih,ups,gd]
    cases hg:gd l n with
    | false=>simp
    | true =>
      cases hu:ups l n with
      | none=>simp
      | some o =>
        simp only [if_true,Option.map_some,Option.bind_some,Bool.true_and]
        unfold impl_Log_up.step upsStep atE
        cases hgd:impl_Log_up.good (lastT l n) (rd_T43 l (n:Int)) with
        | false=>simp [hgd]
        | true =>
          simp only [hgd,Bool.true_eq_false,if_false,if_true]
          split
          · rfl
          · split <;> rfl
theorem gd_false {l:List En} {i n:Nat} (h:gd l i=false) (hi:i≤n):gd l n=false:=by
  induction n with
  | zero => obtain rfl : i = 0 := by omega
            exact h
  | succ n ih =>
    rcases Nat.lt_or_ge i (n + 1) with h1|h1
    · rw [gd,ih (by omega)]
      rfl
    · obtain rfl:i=n + 1:=by omega
      exact h
theorem ups_none {l:List En} {i n:Nat} (h:ups l i=none) (hi:i≤n):ups l n=none:=by
  induction n with
  | zero => obtain rfl : i = 0 := by omega
            exact h
  | succ n ih =>
    rcases Nat.lt_or_ge i (n + 1) with h1|h1
    · rw [ups,ih (by omega)]
      rfl
    · obtain rfl:i=n + 1:=by omega
      exact h
theorem idxP_none {α:Type} {p:α→Bool} {l:List α} (h:idxP p l < 0):∀ x∈l,p x=false:=by
  have:=idxP_nonneg p l
  rw [decide_eq_false (by omega)] at this
  intro x hx
  exact List.any_eq_false.1 this.symm x hx |> (by simpa using ·)
theorem ups_ok {l:List En} {n:Nat} {out:List Int} (h:ups l n=some out):out.length≤n∧(∀ x∈out,0≤x∧x < (n:Int))∧out.Pairwise (fun a b=>(rd_T43 l a).f1≠(rd_T43 l b).f1):=by
  induction n generalizing out with
  | zero =>
    cases h
    simp
  | succ n ih =>
    rw [ups] at h
    obtain ⟨s0,h0,h1⟩:=Option.bind_eq_some_iff.1 h
    obtain ⟨i1,i2,i3⟩:=ih h0
    unfold upsStep at h1
    split at h1
    · cases h1
    · rename_i hne
      split at h1
      · cases h1
        refine ⟨?_,fun x hx=>?_,i3.sublist (List.eraseIdx_sublist ..)⟩
        · have:=List.length_eraseIdx_le (l:=s0) (i:=(atE l n s0).toNat)
          omega
        · have:=i2 x (List.mem_of_mem_eraseIdx hx)
          omega
      · rename_i hf
        cases h1
        refine ⟨by simp; omega,fun x hx=>?_,?_⟩
        · simp only [List.mem_append,List.mem_singleton] at hx
          rcases hx with hx|rfl
          · have:=i2 x hx
            omega
          · omega
        · rw [List.pairwise_append]
          refine ⟨i3,by simp,fun a ha b hb=>?_⟩
          simp only [List.mem_singleton] at hb
          subst hb
          have hk:atE l n s0 < 0:=by
            apply Classical.byContradiction
            intro hh
            rw [decide_eq_false hh] at hne
            simp only [Bool.not_eq_true] at hf
            exact hne hf.symm
          have:=idxP_none hk a ha
          simpa using this
theorem idxP_take {p:Int→Bool} {out:List Int} {j:Nat} (hj:j < out.length) (hu:∀ a b (ha:a < out.length) (hb:b < out.length),a < b→p out[a]=true→p out[b]=true→False):idxP p (out.take (j + 1))=if p out[j]=true then (j:Int) else idxP p (out.take j):=by
  split
  · rename_i h
    refine idxP_hit (k:=j) (y:=out[j]) (by rw [List.getElem?_take_of_lt (by omega)]; exact List.getElem?_eq_getElem hj) h (fun a x ha hx=>?_)
    rw [List.getElem?_take_of_lt (by omega)] at hx
    obtain ⟨h1,rfl⟩:=List.getElem?_eq_some_iff.1 hx
    cases hp:p out[a] with
    | false=>rfl
    | true=>exact (hu a j h1 hj ha hp h).elim
  · rename_i h
    simp only [Bool.not_eq_true] at h
    unfold idxP
    rw [List.take_succ_eq_append_getElem hj,List.findIdx?_append]
    cases e:(out.take j).findIdx? p with
    | some i=>simp
    | none=>simp [h]
set_option maxHeartbeats 400000 in
theorem specUp_inner {l:List En} {n:Int} {out:List Int} {i:Nat} (hi:i < l.length) (hl:l.length≤60) (ho:out.length≤i∧(∀ x∈out,0≤x∧x < (i:Int))∧out.Pairwise (fun a b=>(rd_T43 l a).f1≠(rd_T43 l b).f1)) :
    ∀ (d j K:Nat),j + d=out.length→spec_l07Up.l1 (K + d + 1) l n out (i:Int) (idxP (fun m=>(rd_T43 l m).f1 == (rd_T43 l (i:Int)).f1) (out.take j)) (j:Int)=spec_l07Up.l1 (K + 1) l n out (i:Int) (atE l i out) (out.length:Int):=by
  intro d
  induction d with
  | zero =>
    intro j K hj
    obtain rfl:j=out.length:=by omega
    rw [List.take_length]
    rfl
  | succ d ih =>
    intro j K hj
    have hjo:j < out.length:=by omega
    obtain ⟨h1,h2,h3⟩:=ho
    have hm:=h2 out[j] (List.getElem_mem hjo)
    rw [← ih (j + 1) K (by omega),show K + (d + 1) + 1=(K + d + 1) + 1 by omega]
    conv=>lhs; unfold spec_l07Up.l1
    rw [if_pos (by omega),if_pos (by omega),rd_nat hjo,if_pos (by omega),if_pos (by omega),if_pos (by omega),if_pos (by omega),w64 (by omega) (by omega),idxP_take hjo (fun a b ha hb hab pa pb=>?_)]
    · by_cases hq:(rd_T43 l out[j]).f1=(rd_T43 l (i:Int)).f1
      · rw [if_pos hq,if_pos (by simpa using hq)]
        rfl
      · rw [if_neg hq,if_neg (by simpa using hq)]
        rfl
    · have:=List.pairwise_iff_getElem.1 h3 a b ha hb hab
      simp only [beq_iff_eq] at pa pb
      exact this (pa.trans pb.symm)
set_option maxHeartbeats 1000000 in
theorem specUp_outer {l:List En} {n:Nat} (hn:n≤l.length) (hl:l.length≤60):∀ (d i:Nat) (out:List Int) (K:Nat),i + d=n→ups l i=some out→70 * (d + 1)≤K→spec_l07Up.l0 K l (n:Int) out (i:Int)=some (match ups l n with|some o=>(o,true)|none=>([],false)):=by
  intro d
  induction d with
  | zero =>
    intro i out K hi hu hK
    obtain ⟨K,rfl⟩:∃ m,K=m + 1:=⟨K - 1,by omega⟩
    obtain rfl:i=n:=by omega
    simp only [spec_l07Up.l0]
    rw [if_neg (by omega),hu]
  | succ d ih =>
    intro i out K hi hu hK
    have ho:=ups_ok hu
    obtain ⟨h1,h2,h3⟩:=ho
    obtain ⟨K,rfl⟩:∃ m,K=m + out.length + 2:=⟨K - out.length - 2,by omega⟩
    have hK2:70 * (d + 1)≤K:=by omega
    have hi2:i + 1 + d=n:=by omega
    have hsucc:((i + 1:Nat):Int)=(i:Int) + 1:=by omega
    simp only [spec_l07Up.l0]
    rw [if_pos (by omega)]
    have e:=specUp_inner (n:=(n:Int)) (l:=l) (out:=out) (i:=i) (by omega) hl ⟨h1,h2,h3⟩ out.length 0 K (by omega)
    rw [show idxP (fun m=>(rd_T43 l m).f1 == (rd_T43 l (i:Int)).f1) (out.take 0)=-1 from rfl] at e
    rw [show ((0:Nat):Int)=0 from rfl] at e
    rw [e]
    have hlt:=impl_Log_up.idx_lt (fun m=>(rd_T43 l m).f1 == (rd_T43 l (i:Int)).f1) out
    have hs:ups l (i + 1)=upsStep l i out:=by rw [ups,hu]; rfl
    have hat:idxP (fun m=>(rd_T43 l m).f1 == (rd_T43 l (i:Int)).f1) out=atE l i out:=rfl
    rw [hat] at hlt
    conv=>lhs; unfold spec_l07Up.l1
    rw [if_neg (by omega),if_pos (by omega),if_pos (by omega)]
    unfold upsStep at hs
    by_cases hneg:atE l i out < 0
    · rw [decide_eq_true hneg] at hs
      rw [show decide (atE l i out≥0)=false from decide_eq_false (by omega)]
      cases hf:(rd_T43 l (i:Int)).f2 with
      | true =>
        rw [hf,if_pos rfl] at hs
        rw [if_pos (by rfl),ups_none hs (by omega)]
      | false =>
        rw [hf,if_neg (by simp),if_neg (by simp)] at hs
        rw [if_neg (by simp),if_pos hneg,if_pos (by omega),w64 (by omega) (by omega)]
        have e2:=ih (i + 1) _ K hi2 hs hK2
        rw [hsucc] at e2
        rw [e2]
    · rw [decide_eq_false hneg] at hs
      rw [show decide (atE l i out≥0)=true from decide_eq_true (by omega)]
      cases hf:(rd_T43 l (i:Int)).f2 with
      | false =>
        rw [hf,if_pos rfl] at hs
        rw [if_pos (by rfl),ups_none hs (by omega)]
      | true =>
        rw [hf,if_neg (by simp),if_pos rfl] at hs
        rw [if_neg (by simp),if_neg hneg]
        simp only [Option.bind_some,List.nil_append]
        obtain ⟨q,hq⟩:∃ q:Nat,atE l i out=(q:Int):=⟨(atE l i out).toNat,by omega⟩
        rw [hq] at hs hlt ⊢
        rw [if_pos (by omega),if_pos (by omega),if_pos (by simp; omega),if_pos (by rw [w64 (by omega) (by omega)]; omega),w64 (n:=(q:Int) + 1) (by omega) (by omega),if_pos (by omega),if_pos (by simp; omega),w64 (n:=(i:Int) + 1) (by omega) (by omega)]
        rw [Int.toNat_natCast,show ((q:Int) + 1).toNat=q + 1 by omega,← List.eraseIdx_eq_take_drop_succ]
        have e2:=ih (i + 1) (out.eraseIdx q) K hi2 (by rw [hs,Int.toNat_natCast]) hK2
        rw [hsucc] at e2
        rw [e2]
theorem specUp_eq {l:List En} {n K:Nat} (hn:n≤l.length) (hl:l.length≤60) (hK:5000 < K):spec_l07Up.f K l (n:Int)=some (match ups l n with|some o=>(o,true)|none=>([],false)):=by
  unfold spec_l07Up.f
  exact specUp_outer hn hl n 0 [] K (by omega) rfl (by omega)
def validG (l:List En):Bool:=decide (l.length≤60) && gd l l.length && (ups l l.length).isSome
theorem implValid_log {l:List En} (hl:l.length≤1048576):impl_ValidLog.f l=some (validG l):=by
  unfold impl_ValidLog.f impl_Log_up.f validG
  rw [if_pos hl,to_eq]
  cases hg:gd l l.length with
  | false=>simp
  | true =>
    cases hu:ups l l.length with
    | none=>simp
    | some o=>simp; omega
theorem in_log (n lo hi:Int):spec_l00In.f n lo hi=some (decide (lo≤n) && decide (n≤hi)):=by
  unfold spec_l00In.f
  by_cases h:lo≤n
  · rw [if_pos h,decide_eq_true h]
    rfl
  · rw [if_neg h,decide_eq_false h]
    rfl
theorem specOk_log {k:Nat} {l:List En} (hk:6000 < k):spec_l07Ok.f k l=some (validG l):=by
  unfold spec_l07Ok.f
  by_cases hl:l.length≤60
  · rw [if_neg (by omega)]
    obtain ⟨r,hr,h⟩:=loop_inv2 (fun k (s:Int × Int)=>spec_l07Ok.l0 k l s.1 s.2) l.length 5001 (fun i s=>s.2=(i:Int)∧s.1=lastT l i∧gd l i=true) (fun r=>r=validG l)
      (fun k i s hi hk ⟨h1,h2,h3⟩=>by
        obtain ⟨a,x⟩:=s
        simp only at h1 h2 h3
        subst h1 h2
        simp only [spec_l07Ok.l0]
        rw [if_pos (by omega),if_pos (by omega),in_log]
        simp only [Option.bind_some]
        have hg:gd l (i + 1)=impl_Log_up.good (lastT l i) (rd_T43 l (i:Int)):=by rw [gd,h3]; rfl
        unfold impl_Log_up.good at hg
        have hbad:gd l (i + 1)=false→false=validG l:=fun h=>by
          unfold validG
          rw [gd_false h (by omega)]
          simp
        cases hb1:(decide (lastT l i≤(rd_T43 l (i:Int)).f0) && decide ((rd_T43 l (i:Int)).f0≤100000)) with
        | false =>
          rw [hb1] at hg
          exact .inr ⟨false,hbad hg,by simp⟩
        | true =>
          rw [hb1] at hg
          rw [if_pos rfl,in_log]
          simp only [Option.bind_some]
          cases hb2:(decide (0≤(rd_T43 l (i:Int)).f1) && decide ((rd_T43 l (i:Int)).f1≤9999)) with
          | false =>
            rw [hb2] at hg
            exact .inr ⟨false,hbad hg,by simp⟩
          | true =>
            rw [hb2] at hg
            refine .inl ⟨((rd_T43 l (i:Int)).f0,((i + 1:Nat):Int)),⟨rfl,rfl,hg⟩,?_⟩
            rw [if_pos rfl,w64 (by omega) (by omega)]
            rfl)
      (fun k s hk ⟨h1,h2,h3⟩=>by
        obtain ⟨a,x⟩:=s
        simp only at h1 h2 h3
        subst h1 h2
        refine ⟨validG l,rfl,?_⟩
        simp only [spec_l07Ok.l0]
        rw [if_neg (by omega),specUp_eq (Nat.le_refl _) hl (by omega)]
        unfold validG
        rw [h3]
        cases ups l l.length <;> simp [hl]) k (0,0) ⟨rfl,rfl,rfl⟩ (by omega)
    subst hr
    exact h
  · rw [if_pos (by omega)]
    unfold validG
    simp [hl]
theorem valid_len {l:List En} (h:validG l=true):l.length≤60:=by
 unfold validG at h
 simp only [Bool.and_eq_true,decide_eq_true_eq] at h
 exact h.1.1
abbrev St:=S41
theorem rd_impl_Step {l:List St} {i:Nat} (h:i < l.length):rd_T41 l (i:Int)=l[i]:=by
 simp [rd_T41,List.getD_eq_getElem?_getD,List.getElem?_eq_getElem h]
def fitC (e f:En):Bool:=decide (e.f2=f.f2)
def costC (e f:En):Int:=if e.f1=f.f1 then 0 else 1
def chk (a b:List En):List St→Int→Nat→Nat→Int × Int
 | [],all,i,k=>if i < a.length then (0,8) else if k < b.length then (0,8) else (all,0)
 | s :: ss,all,i,k =>
  if s.f0=(i:Int)∧i < a.length then
   (if s.f1=(k:Int)∧k < b.length then
    (if fitC (rd_T43 a (i:Int)) (rd_T43 b (k:Int))=true then chk a b ss (all + costC (rd_T43 a (i:Int)) (rd_T43 b (k:Int))) (i + 1) (k + 1) else (0,8))
   else if s.f1=-1 then chk a b ss (all + 1) (i + 1) k else (0,8))
  else (if s.f1=(k:Int)∧k < b.length then (if s.f0=-1 then chk a b ss (all + 2) i (k + 1) else (0,8)) else (0,8))
theorem small64 {x:Int} (h0:0≤x) (h1:x≤100000000):wrap64 x=x:=w64 (by omega) (by omega)
theorem ar1 {all c:Int} {i k:Nat} (h0:0≤all) (h1:all≤2 * ((i:Int) + k)) (hc:0≤c∧c≤1):0≤all + c∧all + c≤2 * (((i + 1:Nat):Int) + ((k + 1:Nat):Int)):=by omega
theorem ar2 {all:Int} {i k:Nat} (h0:0≤all) (h1:all≤2 * ((i:Int) + k)):0≤all + 1∧all + 1≤2 * (((i + 1:Nat):Int) + (k:Int)):=by omega
theorem ar3 {all:Int} {i k:Nat} (h0:0≤all) (h1:all≤2 * ((i:Int) + k)):0≤all + 2∧all + 2≤2 * ((i:Int) + ((k + 1:Nat):Int)):=by omega
theorem ar4 {all c:Int} (h0:0≤all) (h1:all≤240) (hc:0≤c∧c≤1):wrap64 (all + c)=all + c:=small64 (by omega) (by omega)
theorem costC_b (e f:En):0≤costC e f∧costC e f≤1:=by
 unfold costC
 split <;> omega
theorem stepFaults_eq (e f:En):impl_stepFaults.f e.f0 e.f1 e.f2 f.f0 f.f1 f.f2=some (if fitC e f=true then (costC e f,true) else (1,false)):=by
 unfold impl_stepFaults.f impl_Entry_agree.f fitC costC
 by_cases h:e.f1=f.f1
 ·rw [if_pos h,if_pos h]
  cases e.f2 <;> cases f.f2 <;> rfl
 ·rw [if_neg h,if_neg h]
  cases e.f2 <;> cases f.f2 <;> rfl
theorem cost_eq (e f:En):spec_l07Cost.f e.f0 e.f1 e.f2 f.f0 f.f1 f.f2=some (if fitC e f=true then costC e f else -1):=by
 unfold spec_l07Cost.f fitC costC
 by_cases h:e.f1=f.f1
 ·rw [if_pos h,if_pos h]
  cases e.f2 <;> cases f.f2 <;> rfl
 ·rw [if_neg h,if_neg h]
  cases e.f2 <;> cases f.f2 <;> rfl
theorem is_l0 (K:Nat) (a b:List En) (all i k:Int) (st:List St) (j:Nat) (hj:j < st.length):impl_CheckStory.l0 (K + 1) a b all i k st (st.length:Int) (j:Int)=impl_CheckStory.j1 K a b all i k (decide (st[j].f0=i) && decide (i < (a.length:Int))) (decide (st[j].f1=k) && decide (k < (b.length:Int))) st (st.length:Int) (j:Int) st[j].f0 st[j].f1:=by
 simp only [impl_CheckStory.l0,impl_size_Entry.f,Option.bind_some]
 rw [if_pos (by omega),if_pos (by omega),if_pos (by omega),rd_impl_Step hj]
 by_cases p:st[j].f0=i
 ·rw [if_pos p,decide_eq_true p,Bool.true_and]
  by_cases q:st[j].f1=k
  ·rw [if_pos q,decide_eq_true q,Bool.true_and]
  ·rw [if_neg q,decide_eq_false q,Bool.false_and]
 ·rw [if_neg p,decide_eq_false p,Bool.false_and]
  by_cases q:st[j].f1=k
  ·rw [if_pos q,decide_eq_true q,Bool.true_and]
  ·rw [if_neg q,decide_eq_false q,Bool.false_and]
theorem is_j1 (K:Nat) (a b:List En) (all i k:Int) (f g:Bool) (st:List St) (n j s0 s1:Int):impl_CheckStory.j1 (K + 1) a b all i k f g st n j s0 s1=impl_CheckStory.j2 K a b all i k f g st n j (f && g) s0 s1:=by
 simp only [impl_CheckStory.j1]
 cases f with
 | true=>rw [if_pos rfl,Bool.true_and]
 | false=>rw [if_neg (by simp),Bool.false_and]
theorem is_j2t (K:Nat) (a b:List En) (all:Int) (i k:Nat) (f g:Bool) (st:List St) (n j s0 s1:Int) (hi:i < a.length) (hk:k < b.length):impl_CheckStory.j2 (K + 1) a b all i k f g st n j true s0 s1=if fitC (rd_T43 a (i:Int)) (rd_T43 b (k:Int))=true then impl_CheckStory.l0 K a b (wrap64 (all + costC (rd_T43 a (i:Int)) (rd_T43 b (k:Int)))) (wrap64 ((i:Int) + 1)) (wrap64 ((k:Int) + 1)) st n (wrap64 (j + 1)) else some (0,8):=by
 simp only [impl_CheckStory.j2,if_true]
 rw [if_pos (by omega),if_pos (by omega),if_pos (by omega),if_pos (by omega),stepFaults_eq]
 simp only [Option.bind_some]
 split <;> simp
theorem is_j2f (K:Nat) (a b:List En) (all i k:Int) (f g:Bool) (st:List St) (n j s0 s1:Int):impl_CheckStory.j2 (K + 1) a b all i k f g st n j false s0 s1=impl_CheckStory.j3 K a b all i k g st n j (f && (s1 == -1)) s0 s1:=by
 simp only [impl_CheckStory.j2]
 rw [if_neg (by simp)]
 cases f with
 | true=>rw [if_pos rfl,Bool.true_and]
 | false=>rw [if_neg (by simp),Bool.false_and]
theorem is_j3t (K:Nat) (a b:List En) (all i k:Int) (g:Bool) (st:List St) (n j s0 s1:Int):impl_CheckStory.j3 (K + 1) a b all i k g st n j true s0 s1=impl_CheckStory.l0 K a b (wrap64 (all + 1)) (wrap64 (i + 1)) k st n (wrap64 (j + 1)):=by
 simp only [impl_CheckStory.j3,if_true]
theorem is_j3f (K:Nat) (a b:List En) (all i k:Int) (g:Bool) (st:List St) (n j s0 s1:Int):impl_CheckStory.j3 (K + 1) a b all i k g st n j false s0 s1=if g=true then (if s0=-1 then impl_CheckStory.l0 K a b (wrap64 (all + 2)) i (wrap64 (k + 1)) st n (wrap64 (j + 1)) else some (0,8)) else some (0,8):=by
 simp only [impl_CheckStory.j3]
 rw [if_neg (by simp)]
theorem implStory_go {a b:List En} (ha:a.length≤60) (hb:b.length≤60) (st:List St) (hst:st.length≤1048576):∀ (d j i k:Nat) (all:Int) (K:Nat),j + d=st.length→i≤a.length→k≤b.length→0≤all→all≤2 * ((i:Int) + k)→5 * d < K →
  impl_CheckStory.l0 K a b all (i:Int) (k:Int) st (st.length:Int) (j:Int)=some (chk a b (st.drop j) all i k):=by
 intro d
 induction d with
 | zero =>
  intro j i k all K hj hi hk h0 h1 hK
  obtain ⟨K,rfl⟩:∃ m,K=m + 1:=⟨K - 1,by omega⟩
  obtain rfl:j=st.length:=by omega
  simp only [impl_CheckStory.l0,impl_size_Entry.f,Option.bind_some]
  rw [if_neg (by omega),List.drop_length,chk]
  by_cases hia:i < a.length
  ·rw [if_pos (by omega),if_pos hia]
  ·rw [if_neg (by omega),if_neg hia]
   by_cases hkb:k < b.length
   ·rw [if_pos (by omega),if_pos hkb]
   ·rw [if_neg (by omega),if_neg hkb]
 | succ d ih =>
  intro j i k all K hj hi hk h0 h1 hK
  obtain ⟨K,rfl⟩:∃ m,K=m + 1 + 1 + 1 + 1 + 1:=⟨K - 5,by omega⟩
  have hK1:5 * d < K + 1:=by omega
  have hK2:5 * d < K + 1 + 1:=by omega
  clear hK
  have hi6:(i:Int)≤60:=by omega
  have hk6:(k:Int)≤60:=by omega
  have hall:all≤240:=by omega
  have hj6:(j:Int)≤1048576:=by omega
  have hjl:j < st.length:=by omega
  have hj':j + 1 + d=st.length:=by omega
  have wj:wrap64 ((j:Int) + 1)=((j + 1:Nat):Int):=small64 (by omega) (by omega)
  have wi:wrap64 ((i:Int) + 1)=((i + 1:Nat):Int):=small64 (by omega) (by omega)
  have wk:wrap64 ((k:Int) + 1)=((k + 1:Nat):Int):=small64 (by omega) (by omega)
  have w1:wrap64 (all + 1)=all + 1:=small64 (by omega) (by omega)
  have w2:wrap64 (all + 2)=all + 2:=small64 (by omega) (by omega)
  rw [List.drop_eq_getElem_cons hjl,is_l0 _ a b all i k st j hjl,is_j1,chk]
  generalize st[j]=s
  rw [show decide ((i:Int) < (a.length:Int))=decide (i < a.length) from decide_eq_decide.2 Int.ofNat_lt,show decide ((k:Int) < (b.length:Int))=decide (k < b.length) from decide_eq_decide.2 Int.ofNat_lt]
  by_cases p:s.f0=(i:Int)∧i < a.length
  ·rw [if_pos p,show (decide (s.f0=(i:Int)) && decide (i < a.length))=true by simp [p]]
   by_cases q:s.f1=(k:Int)∧k < b.length
   ·rw [if_pos q,show (decide (s.f1=(k:Int)) && decide (k < b.length))=true by simp [q],Bool.true_and,is_j2t _ a b all i k _ _ _ _ _ _ _ p.2 q.2]
    have hc:=costC_b (rd_T43 a (i:Int)) (rd_T43 b (k:Int))
    by_cases hf:fitC (rd_T43 a (i:Int)) (rd_T43 b (k:Int))=true
    ·rw [if_pos hf,if_pos hf,ar4 h0 hall hc,wi,wk,wj]
     exact ih (j + 1) (i + 1) (k + 1) _ _ hj' p.2 q.2 (ar1 h0 h1 hc).1 (ar1 h0 h1 hc).2 hK2
    ·rw [if_neg hf,if_neg hf]
   ·rw [if_neg q,show (decide (s.f1=(k:Int)) && decide (k < b.length))=false by simpa using q,Bool.and_false,is_j2f]
    by_cases m:s.f1=-1
    ·rw [if_pos m,m,show (true && ((-1:Int) == -1))=true from rfl,is_j3t,wi,w1,wj]
     exact ih (j + 1) (i + 1) k _ _ hj' p.2 hk (ar2 h0 h1).1 (ar2 h0 h1).2 hK1
    ·rw [if_neg m,show (true && (s.f1 == -1))=false by simpa using m,is_j3f,if_neg (by simp)]
  ·rw [if_neg p,show (decide (s.f0=(i:Int)) && decide (i < a.length))=false by simpa using p,Bool.false_and,is_j2f,Bool.false_and,is_j3f]
   by_cases q:s.f1=(k:Int)∧k < b.length
   ·rw [if_pos q,show (decide (s.f1=(k:Int)) && decide (k < b.length))=true by simp [q],if_pos rfl]
    by_cases m:s.f0=-1
    ·rw [if_pos m,if_pos m,wk,w2,wj]
     exact ih (j + 1) i (k + 1) _ _ hj' hi q.2 (ar3 h0 h1).1 (ar3 h0 h1).2 hK1
    ·rw [if_neg m,if_neg m]
   ·rw [if_neg q,show (decide (s.f1=(k:Int)) && decide (k < b.length))=false by simpa using q,if_neg (by simp)]
def resStory (a b:List En) (st:List St):Int × Int:=if validG a=true∧validG b=true then chk a b st 0 0 0 else (0,1)
theorem implStory_eq {K:Nat} {a b:List En} {st:List St} (ha:a.length≤1048576) (hb:b.length≤1048576) (hst:st.length≤1048576) (hK:9000000 < K):impl_CheckStory.f K a b st=some (resStory a b st):=by
 unfold impl_CheckStory.f impl_logsCode.f resStory impl_unless.f
 rw [implValid_log ha,implValid_log hb]
 simp only [Option.bind_some]
 by_cases va:validG a=true
 ·rw [if_pos va]
  by_cases vb:validG b=true
  ·rw [if_pos vb,if_pos ⟨va,vb⟩]
   simp only [Option.bind_some,if_true]
   exact implStory_go (valid_len va) (valid_len vb) st hst st.length 0 0 0 0 K (by omega) (by omega) (by omega) (by omega) (by omega) (by omega)
  ·rw [if_neg vb,if_neg (fun h=>vb h.2)]
   rfl
 ·rw [if_neg va,if_neg (by simp),if_neg (fun h=>va h.1)]
  rfl
def agr (a b:List En) (i k:Nat):Bool:=decide ((rd_T43 a (i:Int)).f1=(rd_T43 b (k:Int)).f1) && decide ((rd_T43 a (i:Int)).f2=(rd_T43 b (k:Int)).f2)
def lcsW (a b:List En):Nat→Nat→Int
 | 0,_=>0
 | _ + 1,0=>0
 | p + 1,q + 1=>if agr a b (a.length - (p + 1)) (b.length - (q + 1))=true then lcsW a b p q + 1 else mx (lcsW a b p (q + 1)) (lcsW a b (p + 1) q)
def lcsV (a b:List En) (i k:Nat):Int:=lcsW a b (a.length - i) (b.length - k)
theorem mx_ge (x y:Int):x≤mx x y∧y≤mx x y∧(mx x y=x∨mx x y=y):=by
 unfold mx
 split <;> refine ⟨?_,?_,?_⟩ <;> first|omega|exact .inl rfl|exact .inr rfl
theorem lcsW_step (a b:List En):∀ p q,(lcsW a b (p + 1) q≤lcsW a b p q + 1∧lcsW a b p q≤lcsW a b (p + 1) q)∧lcsW a b p (q + 1)≤lcsW a b p q + 1∧lcsW a b p q≤lcsW a b p (q + 1):=by
 intro p
 induction p with
 | zero =>
  intro q
  have h0:∀ q,lcsW a b 0 q=0:=fun q=>by rw [lcsW]
  have h1:∀ q,lcsW a b 1 q≤1∧0≤lcsW a b 1 q:=by
   intro q
   induction q with
   | zero=>rw [lcsW];omega
   | succ q ih =>
    rw [lcsW,h0,h0]
    simp only [Nat.zero_add]
    have:=mx_ge 0 (lcsW a b 1 q)
    split <;> omega
  have:=h1 q
  rw [h0,h0]
  simp only [Nat.zero_add]
  omega
 | succ p ihp =>
  intro q
  induction q with
  | zero =>
   have e:∀ p,lcsW a b p 0=0:=fun p=>by cases p <;> rw [lcsW]
   have h1:=(ihp 0).2
   have h2:=(ihp 1).1
   have h3:=(ihp 0).1
   rw [e] at h1 h3
   rw [e,e]
   refine ⟨by omega,?_⟩
   rw [lcsW,e]
   have:=mx_ge (lcsW a b p (0 + 1)) (lcsW a b (p + 1) 0)
   rw [e] at this
   rw [e]
   split <;> omega
  | succ q ihq =>
   obtain ⟨⟨a1,a2⟩,a3,a4⟩:=ihp q
   obtain ⟨⟨b1,b2⟩,b3,b4⟩:=ihp (q + 1)
   obtain ⟨⟨c1,c2⟩,c3,c4⟩:=ihq
   have key:∀ p q,(lcsW a b (p + 1) q≤lcsW a b p q + 1∧lcsW a b p q≤lcsW a b (p + 1) q)→(lcsW a b p (q + 1)≤lcsW a b p q + 1∧lcsW a b p q≤lcsW a b p (q + 1))→(lcsW a b (p + 1) (q + 1)≤lcsW a b p (q + 1) + 1∧lcsW a b p (q + 1)≤lcsW a b (p + 1) (q + 1))∧(lcsW a b (p + 1) (q + 1)≤lcsW a b (p + 1) q + 1∧lcsW a b (p + 1) q≤lcsW a b (p + 1) (q + 1)):=by
    intro p q h1 h2
    rw [lcsW]
    have:=mx_ge (lcsW a b p (q + 1)) (lcsW a b (p + 1) q)
    split <;> omega
   have k1:=key (p + 1) q ⟨c1,c2⟩ ⟨c3,c4⟩
   have k2:=key p (q + 1) ⟨b1,b2⟩ ⟨b3,b4⟩
   exact ⟨k1.1,k2.2⟩
theorem lcsV_end {a b:List En} {i k:Nat} (h:a.length≤i∨b.length≤k):lcsV a b i k=0:=by
 unfold lcsV
 rcases h with h|h
 ·rw [show a.length - i=0 by omega,lcsW]
 ·rw [show b.length - k=0 by omega]
  cases a.length - i <;> rw [lcsW]
theorem lcsV_in {a b:List En} {i k:Nat} (hi:i < a.length) (hk:k < b.length):lcsV a b i k=if agr a b i k=true then lcsV a b (i + 1) (k + 1) + 1 else mx (lcsV a b (i + 1) k) (lcsV a b i (k + 1)):=by
 unfold lcsV
 obtain ⟨p,hp⟩:∃ p,a.length - i=p + 1:=⟨a.length - i - 1,by omega⟩
 obtain ⟨q,hq⟩:∃ q,b.length - k=q + 1:=⟨b.length - k - 1,by omega⟩
 rw [hp,hq,lcsW,show a.length - (i + 1)=p by omega,show b.length - (k + 1)=q by omega,show a.length - (p + 1)=i by omega,show b.length - (q + 1)=k by omega]
theorem lcsV_i {a b:List En} (i k:Nat):lcsV a b i k≤lcsV a b (i + 1) k + 1∧lcsV a b (i + 1) k≤lcsV a b i k:=by
 unfold lcsV
 rcases Nat.lt_or_ge i a.length with h|h
 ·obtain ⟨p,hp⟩:∃ p,a.length - i=p + 1:=⟨a.length - i - 1,by omega⟩
  rw [hp,show a.length - (i + 1)=p by omega]
  exact (lcsW_step a b p _).1
 ·rw [show a.length - i=0 by omega,show a.length - (i + 1)=0 by omega]
  omega
theorem lcsV_k {a b:List En} (i k:Nat):lcsV a b i k≤lcsV a b i (k + 1) + 1∧lcsV a b i (k + 1)≤lcsV a b i k:=by
 unfold lcsV
 rcases Nat.lt_or_ge k b.length with h|h
 ·obtain ⟨q,hq⟩:∃ q,b.length - k=q + 1:=⟨b.length - k - 1,by omega⟩
  rw [hq,show b.length - (k + 1)=q by omega]
  exact (lcsW_step a b _ q).2
 ·rw [show b.length - k=0 by omega,show b.length - (k + 1)=0 by omega]
  omega
theorem lcsV_b {a b:List En} (i k:Nat):0≤lcsV a b i k∧lcsV a b i k≤(a.length:Int):=by
 have h:∀ d i,i + d=a.length→0≤lcsV a b i k∧lcsV a b i k≤(d:Int):=by
  intro d
  induction d with
  | zero =>
   intro i hi
   rw [lcsV_end (.inl (by omega))]
   omega
  | succ d ih =>
   intro i hi
   have:=ih (i + 1) (by omega)
   have:=lcsV_i (a:=a) (b:=b) i k
   omega
 rcases Nat.lt_or_ge i a.length with hi|hi
 ·have:=h (a.length - i) i (by omega)
  omega
 ·rw [lcsV_end (.inl hi)]
  omega
theorem lcs_pick {a b:List En} {i:Nat} (hi:i < a.length):∀ d k,k + d=b.length→lcsV a b i k=lcsV a b (i + 1) k∨∃ m,k≤m∧m < b.length∧agr a b i m=true∧lcsV a b (i + 1) (m + 1)=lcsV a b i k - 1:=by
 intro d
 induction d with
 | zero =>
  intro k hk
  left
  rw [lcsV_end (.inr (by omega)),lcsV_end (.inr (by omega))]
 | succ d ih =>
  intro k hk
  have hv:=lcsV_in (a:=a) (b:=b) hi (show k < b.length by omega)
  by_cases hag:agr a b i k=true
  ·rw [if_pos hag] at hv
   exact .inr ⟨k,Nat.le_refl _,by omega,hag,by omega⟩
  ·rw [if_neg hag] at hv
   have m:=mx_ge (lcsV a b (i + 1) k) (lcsV a b i (k + 1))
   have h1:=lcsV_k (a:=a) (b:=b) (i + 1) k
   rcases m.2.2 with e|e
   ·left
    omega
   ·rcases ih (k + 1) (by omega) with h|⟨m',h2,h3,h4,h5⟩
    ·left
     omega
    ·right
     exact ⟨m',by omega,h3,h4,by omega⟩
def pickF (a b:List En) (i k:Nat) (m:Nat):Bool:=decide (k≤m) && (agr a b i m && decide (lcsV a b (i + 1) (m + 1)=lcsV a b i k - 1))
def pickAt (a b:List En) (i k:Nat):Option Nat:=(List.range b.length).find? (pickF a b i k)
def picks (a b:List En):Nat→Nat→List St
 | 0,_=>[]
 | d + 1,k=>match pickAt a b (a.length - (d + 1)) k with|some m=>(⟨((a.length - (d + 1):Nat):Int),(m:Int)⟩:St) :: picks a b d (m + 1)|none=>picks a b d k
theorem pickAt_some {a b:List En} {i k m:Nat} (h:pickAt a b i k=some m):k≤m∧m < b.length∧agr a b i m=true∧lcsV a b (i + 1) (m + 1)=lcsV a b i k - 1∧∀ j,j < m→pickF a b i k j=false:=by
 unfold pickAt at h
 rw [List.find?_range_eq_some] at h
 obtain ⟨h1,h2,h3⟩:=h
 unfold pickF at h1
 simp only [Bool.and_eq_true,decide_eq_true_eq] at h1
 exact ⟨h1.1,by simpa using h2,h1.2.1,h1.2.2,fun j hj=>by simpa using h3 j hj⟩
theorem pickAt_none {a b:List En} {i k:Nat} (h:pickAt a b i k=none):∀ j,j < b.length→pickF a b i k j=false:=by
 unfold pickAt at h
 rw [List.find?_eq_none] at h
 intro j hj
 simpa using h j (List.mem_range.2 hj)
theorem pick_pass {a b:List En} {i k:Nat} (hi:i < a.length) (hk:k≤b.length) (h:pickAt a b i k=none):lcsV a b (i + 1) k=lcsV a b i k:=by
 rcases lcs_pick (a:=a) (b:=b) hi (b.length - k) k (by omega) with e|⟨m,h1,h2,h3,h4⟩
 ·exact e.symm
 ·have:=pickAt_none h m h2
  unfold pickF at this
  rw [h3,decide_eq_true h1,decide_eq_true h4] at this
  cases this
theorem picks_zero {a b:List En}:∀ d k,d≤a.length→lcsV a b (a.length - d) k=0→k≤b.length→picks a b d k=[]:=by
 intro d
 induction d with
 | zero=>intro k _ _ _;rfl
 | succ d ih =>
  intro k hd h0 hk
  rw [picks]
  cases hp:pickAt a b (a.length - (d + 1)) k with
  | some m =>
   have:=(pickAt_some hp).2.2.2.1
   have:=lcsV_b (a:=a) (b:=b) (a.length - (d + 1) + 1) (m + 1)
   omega
  | none =>
   have:=pick_pass (a:=a) (b:=b) (by omega) hk hp
   simp only
   exact ih k (by omega) (by rw [show a.length - d=a.length - (d + 1) + 1 by omega];omega) hk
theorem picks_len {a b:List En}:∀ d k,(picks a b d k).length≤d:=by
 intro d
 induction d with
 | zero=>intro k;simp [picks]
 | succ d ih =>
  intro k
  rw [picks]
  cases pickAt a b (a.length - (d + 1)) k with
  | some m =>
   have:=ih (m + 1)
   simp only [List.length_cons]
   omega
  | none =>
   have:=ih k
   simp only
   omega
theorem loop_acc {β γ:Type} (L:Nat→List β→Int→Option γ) (n:Nat) (g:Nat→List β) (R:List β→γ) (hb:∀ i,i < n→(g i).length≤1)
  (hs:∀ k i acc,i < n→acc.length≤i→L (k + 1) acc (i:Int)=L k (acc ++ g i) ((i + 1:Nat):Int))
  (he:∀ k acc,acc.length≤n→L (k + 1) acc (n:Int)=some (R acc)):∀ k,n < k→L k [] 0=some (R ((List.range n).flatMap g)):=by
 intro k hk
 obtain ⟨r,hr,h⟩:=loop_inv (fun k (s:List β × Int)=>L k s.1 s.2) n (fun i s=>s.2=(i:Int)∧s.1=(List.range i).flatMap g∧s.1.length≤i) (fun r=>r=R ((List.range n).flatMap g))
  (fun k i s hi ⟨h1,h2,h3⟩=>by
   obtain ⟨acc,x⟩:=s
   simp only at h1 h2 h3
   subst h1
   refine .inl ⟨(acc ++ g i,((i + 1:Nat):Int)),⟨rfl,?_,?_⟩,hs k i acc hi h3⟩
   ·rw [h2,List.range_succ,List.flatMap_append]
    simp
   ·have:=hb i hi
    simp only [List.length_append]
    omega)
  (fun k s ⟨h1,h2,h3⟩=>by
   obtain ⟨acc,x⟩:=s
   simp only at h1 h2 h3
   subst h1
   exact ⟨_,by rw [h2],he k acc h3⟩) k ([],0) ⟨rfl,rfl,Nat.zero_le _⟩ hk
 subst hr
 exact h
def atL {α β:Type} (l:List α) (h:α→List β) (i:Nat):List β:=match l[i]? with|some x=>h x|none=>[]
theorem atL_some {α β:Type} {l:List α} {h:α→List β} {i:Nat} (hi:i < l.length):atL l h i=h l[i]:=by
 unfold atL
 rw [List.getElem?_eq_getElem hi]
theorem flat_take {α β:Type} (l:List α) (h:α→List β):∀ n,n≤l.length→(List.range n).flatMap (atL l h)=(l.take n).flatMap h:=by
 intro n
 induction n with
 | zero=>simp
 | succ n ih =>
  intro hn
  rw [List.range_succ,List.flatMap_append,ih (by omega),List.take_succ_eq_append_getElem (by omega),List.flatMap_append]
  simp [atL_some (by omega:n < l.length)]
theorem flat_list {α β:Type} (l:List α) (h:α→List β):(List.range l.length).flatMap (atL l h)=l.flatMap h:=by
 rw [flat_take l h l.length (Nat.le_refl _),List.take_length]
def rowOf (n:Nat) (V:Nat→Int):List Int:=(List.range (n + 1)).map V
def tabOf (m n:Nat) (V:Nat→Nat→Int):List (List Int):=(List.range (m + 1)).map fun i=>rowOf n (V i)
def RowSt (n:Nat) (V:Nat→Int) (q:Nat) (r:List Int):Prop:=r.length=n + 1∧∀ k,q≤k→k≤n→r[k]?=some (V k)
def TabSt (m n:Nat) (V:Nat→Nat→Int) (P:List Int→Prop) (i q:Nat) (T:List (List Int)):Prop :=
 T.length=m + 1∧(∀ i',i < i'→i'≤m→RowSt n (V i') 0 (T.getD i' []))∧RowSt n (V i) q (T.getD i [])∧∀ i',i' < i→P (T.getD i' [])
theorem rowSt_eq {n:Nat} {V:Nat→Int} {r:List Int} (h:RowSt n V 0 r):r=rowOf n V:=by
 obtain ⟨h1,h2⟩:=h
 apply List.ext_getElem?
 intro k
 unfold rowOf
 rcases Nat.lt_or_ge k (n + 1) with hk|hk
 ·rw [h2 k (Nat.zero_le _) (by omega)]
  simp [List.getElem?_range hk]
 ·rw [List.getElem?_eq_none (by omega),List.getElem?_eq_none (by simp;omega)]
theorem rowSt_get {n:Nat} {V:Nat→Int} {q:Nat} {r:List Int} (h:RowSt n V q r) {k:Nat} (hq:q≤k) (hk:k≤n):rd r (k:Int)=V k:=by
 have:=h.2 k hq hk
 simp [rd,List.getD_eq_getElem?_getD,this]
theorem rowSt_set {n:Nat} {V:Nat→Int} {q:Nat} {r:List Int} (h:RowSt n V (q + 1) r) (hq:q≤n):RowSt n V q (r.set q (V q)):=by
 refine ⟨by rw [List.length_set];exact h.1,fun k hk hn=>?_⟩
 by_cases e:q=k
 ·subst e
  rw [List.getElem?_set_self (by rw [h.1];omega)]
 ·rw [List.getElem?_set_ne e]
  exact h.2 k (by omega) hn
theorem getD_set_self {T:List (List Int)} {i:Nat} {r:List Int} (h:i < T.length):(T.set i r).getD i []=r:=by
 rw [List.getD_eq_getElem?_getD,List.getElem?_set_self h]
 rfl
theorem getD_set_ne {T:List (List Int)} {i j:Nat} {r:List Int} (h:i≠j):(T.set i r).getD j []=T.getD j []:=by
 rw [List.getD_eq_getElem?_getD,List.getElem?_set_ne h,List.getD_eq_getElem?_getD]
theorem tabSt_set {m n:Nat} {V:Nat→Nat→Int} {P:List Int→Prop} {i q:Nat} {T:List (List Int)} (h:TabSt m n V P i (q + 1) T) (hi:i≤m) (hq:q≤n):TabSt m n V P i q (T.set i ((T.getD i []).set q (V i q))):=by
 obtain ⟨h1,h2,h3,h4⟩:=h
 refine ⟨by rw [List.length_set];exact h1,fun i' hi' hm=>?_,?_,fun i' hi'=>?_⟩
 ·rw [getD_set_ne (by omega)]
  exact h2 i' hi' hm
 ·rw [getD_set_self (by omega)]
  exact rowSt_set h3 hq
 ·rw [getD_set_ne (by omega)]
  exact h4 i' hi'
theorem tab_eq {m n:Nat} {V:Nat→Nat→Int} {T:List (List Int)} (h1:T.length=m + 1) (h2:∀ i',i'≤m→RowSt n (V i') 0 (T.getD i' [])):T=tabOf m n V:=by
 apply List.ext_getElem?
 intro i
 unfold tabOf
 rcases Nat.lt_or_ge i (m + 1) with hi|hi
 ·have:=rowSt_eq (h2 i (by omega))
  rw [List.getElem?_eq_getElem (by omega)]
  rw [List.getD_eq_getElem?_getD,List.getElem?_eq_getElem (by omega)] at this
  simp only [Option.getD_some] at this
  rw [this]
  simp [List.getElem?_range hi]
 ·rw [List.getElem?_eq_none (by omega),List.getElem?_eq_none (by simp;omega)]
theorem tab_row {m n:Nat} {V:Nat→Nat→Int} {i:Nat} (hi:i≤m):rd_L6 (tabOf m n V) (i:Int)=rowOf n (V i):=by
 show (tabOf m n V).getD i []=_
 unfold tabOf
 rw [List.getD_eq_getElem?_getD,List.getElem?_map,List.getElem?_range (by omega)]
 rfl
theorem row_at {n:Nat} {V:Nat→Int} {k:Nat} (hk:k≤n):rd (rowOf n V) (k:Int)=V k:=by
 unfold rowOf
 simp [rd,List.getD_eq_getElem?_getD,List.getElem?_range (by omega:k < n + 1)]
theorem row_len {n:Nat} {V:Nat→Int}:(rowOf n V).length=n + 1:=by simp [rowOf]
theorem tab_len {m n:Nat} {V:Nat→Nat→Int}:(tabOf m n V).length=m + 1:=by simp [tabOf]
theorem tab_loop {γ:Type} (m n c:Nat) (V:Nat→Nat→Int) (P:List Int→Prop) (L0:Nat→List (List Int)→Int→Option γ) (L1:Nat→List (List Int)→Int→Int→Option γ) (R:List (List Int)→γ) (hm:m≤60) (hn:n≤60) (hc:c≤20)
  (init:∀ K T i,i≤m→T.length=m + 1→P (T.getD i [])→∃ r:List Int,r.length=n + 1∧L0 (K + 1) T (i:Int)=L1 K (T.set i r) (i:Int) (n:Int))
  (step:∀ K T i q,i≤m→q≤n→TabSt m n V P i (q + 1) T→L1 (K + c) T (i:Int) (q:Int)=L1 K (T.set i ((T.getD i []).set q (V i q))) (i:Int) ((q:Int) - 1))
  (out:∀ K T i,i≤m→L1 (K + 1) T (i:Int) (-1)=L0 K T ((i:Int) - 1))
  (fin:∀ K T,L0 (K + 1) T (-1)=some (R T)) (T0:List (List Int)) (h0:T0.length=m + 1) (hP:∀ i,i≤m→P (T0.getD i [])) :
  ∀ K,100000≤K→L0 K T0 (m:Int)=some (R (tabOf m n V)):=by
 have inner:∀ q K T i,i≤m→q≤n + 1→TabSt m n V P i q T→∃ T',TabSt m n V P i 0 T'∧L1 (K + q * c) T (i:Int) ((q:Int) - 1)=L1 K T' (i:Int) (-1):=by
  intro q
  induction q with
  | zero=>exact fun K T i hi hq h=>⟨T,h,by simp⟩
  | succ q ih =>
   intro K T i hi hq h
   obtain ⟨T',h1,h2⟩:=ih K _ i hi (by omega) (tabSt_set h hi (by omega))
   refine ⟨T',h1,?_⟩
   rw [← h2,← step (K + q * c) T i q hi (by omega) h,Nat.succ_mul,Nat.add_assoc]
   congr 1
   omega
 have outer:∀ j K T,j≤m + 1→T.length=m + 1→(∀ i',j≤i'→i'≤m→RowSt n (V i') 0 (T.getD i' []))→(∀ i',i' < j→P (T.getD i' []))→L0 (K + 1 + j * ((n + 1) * c + 2)) T ((j:Int) - 1)=some (R (tabOf m n V)):=by
  intro j
  induction j with
  | zero =>
   intro K T hj hl hr hp
   rw [show ((0:Nat):Int) - 1=-1 from rfl,Nat.zero_mul,Nat.add_zero,fin,tab_eq hl (fun i' hi'=>hr i' (Nat.zero_le _) hi')]
  | succ j ih =>
   intro K T hj hl hr hp
   obtain ⟨r,hr1,hr2⟩:=init (K + 1 + j * ((n + 1) * c + 2) + 1 + (n + 1) * c) T j (by omega) hl (hp j (by omega))
   have hst:TabSt m n V P j (n + 1) (T.set j r):=by
    refine ⟨by rw [List.length_set];exact hl,fun i' hi' hm'=>?_,?_,fun i' hi'=>?_⟩
    ·rw [getD_set_ne (by omega)]
     exact hr i' (by omega) hm'
    ·rw [getD_set_self (by omega)]
     exact ⟨hr1,fun k hk hn=>by omega⟩
    ·rw [getD_set_ne (by omega)]
     exact hp i' (by omega)
   obtain ⟨T',h1,h2⟩:=inner (n + 1) (K + 1 + j * ((n + 1) * c + 2) + 1) _ j (by omega) (Nat.le_refl _) hst
   rw [show ((n + 1:Nat):Int) - 1=(n:Int) by omega] at h2
   rw [show K + 1 + (j + 1) * ((n + 1) * c + 2)=K + 1 + j * ((n + 1) * c + 2) + 1 + (n + 1) * c + 1 by rw [Nat.succ_mul];omega,show ((j + 1:Nat):Int) - 1=(j:Int) by omega,hr2,h2,out _ _ _ (by omega)]
   refine ih K T' (by omega) h1.1 (fun i' hi' hm'=>?_) (fun i' hi'=>h1.2.2.2 i' hi')
   rcases Nat.eq_or_lt_of_le hi' with e|e
   ·subst e
    exact h1.2.2.1
   ·exact h1.2.1 i' e hm'
 intro K hK
 have hb:(m + 1) * ((n + 1) * c + 2)≤61 * (61 * 20 + 2):=Nat.mul_le_mul (by omega) (Nat.add_le_add_right (Nat.mul_le_mul (by omega) hc) _)
 have e:=outer (m + 1) (K - 1 - (m + 1) * ((n + 1) * c + 2)) T0 (Nat.le_refl _) h0 (fun i' h1 h2=>by omega) (fun i' hi'=>hP i' (by omega))
 rw [show K - 1 - (m + 1) * ((n + 1) * c + 2) + 1 + (m + 1) * ((n + 1) * c + 2)=K by omega,show ((m + 1:Nat):Int) - 1=(m:Int) by omega] at e
 exact e
theorem rdE_take {l:List En} {n i:Nat} (h:i < n):rd_T43 (l.take n) (i:Int)=rd_T43 l (i:Int):=by
 simp [rd_T43,List.getD_eq_getElem?_getD,List.getElem?_take_of_lt h]
theorem rdE_take' {l:List En} {n:Nat} {i:Int} (h0:0≤i) (h:i < (n:Int)):rd_T43 (l.take n) i=rd_T43 l i:=by
 obtain ⟨j,rfl⟩:∃ j:Nat,i=(j:Int):=⟨i.toNat,by omega⟩
 exact rdE_take (by omega)
theorem idxP_congr' {α:Type} {p q:α→Bool} {l:List α} (h:∀ x∈l,p x=q x):idxP p l=idxP q l:=by
 have e:l.findIdx? p=l.findIdx? q:=by
  induction l with
  | nil=>rfl
  | cons a l ih=>simp [List.findIdx?_cons,h a (by simp),ih (fun x hx=>h x (by simp [hx]))]
 unfold idxP
 rw [e]
theorem ups_take {l:List En} {n m:Nat} (h:m≤n):ups (l.take n) m=ups l m:=by
 induction m with
 | zero=>rfl
 | succ m ih =>
  rw [ups,ups,ih (by omega)]
  cases hu:ups l m with
  | none=>rfl
  | some out =>
   have ho:=(ups_ok hu).2.1
   simp only [Option.bind_some]
   have ha:atE (l.take n) m out=atE l m out:=by
    unfold atE impl_Log_up.at
    rw [rdE_take (by omega)]
    exact idxP_congr' fun x hx=>by rw [rdE_take' (ho x hx).1 (by have:=(ho x hx).2;omega)]
   unfold upsStep
   rw [ha,rdE_take (by omega)]
theorem lastT_take {l:List En} {n m:Nat} (h:m≤n):lastT (l.take n) m=lastT l m:=by
 cases m with
 | zero=>rfl
 | succ m=>rw [lastT,lastT,rdE_take (by omega)]
theorem gd_take {l:List En} {n m:Nat} (h:m≤n):gd (l.take n) m=gd l m:=by
 induction m with
 | zero=>rfl
 | succ m ih=>rw [gd,gd,ih (by omega),lastT_take (by omega),rdE_take (by omega)]
theorem valid_parts {l:List En} (h:validG l=true):l.length≤60∧gd l l.length=true∧∃ o,ups l l.length=some o:=by
 unfold validG at h
 simp only [Bool.and_eq_true,decide_eq_true_eq] at h
 exact ⟨h.1.1,h.1.2,Option.isSome_iff_exists.1 h.2⟩
theorem ups_some {l:List En} (h:validG l=true) {n:Nat} (hn:n≤l.length):∃ o,ups l n=some o:=by
 obtain ⟨_,_,o,ho⟩:=valid_parts h
 cases e:ups l n with
 | some o=>exact ⟨o,rfl⟩
 | none=>rw [ups_none e hn] at ho;cases ho
def costW (a b:List En):Nat→Nat→Int
 | 0,q=>2 * (q:Int)
 | p + 1,0=>(p:Int) + 1
 | p + 1,q + 1 =>
  if fitC (rd_T43 a ((a.length - (p + 1):Nat):Int)) (rd_T43 b ((b.length - (q + 1):Nat):Int))=true then mn (mn (costW a b p (q + 1) + 1) (costW a b (p + 1) q + 2)) (costW a b p q + costC (rd_T43 a ((a.length - (p + 1):Nat):Int)) (rd_T43 b ((b.length - (q + 1):Nat):Int)))
  else mn (costW a b p (q + 1) + 1) (costW a b (p + 1) q + 2)
def costV (a b:List En) (i k:Nat):Int:=costW a b (a.length - i) (b.length - k)
theorem mn_le (x y:Int):mn x y≤x∧mn x y≤y∧(mn x y=x∨mn x y=y):=by
 unfold mn
 split <;> refine ⟨?_,?_,?_⟩ <;> first|omega|exact .inl rfl|exact .inr rfl
theorem costW_b (a b:List En):∀ p q,0≤costW a b p q∧costW a b p q≤(p:Int) + 2 * (q:Int):=by
 intro p
 induction p with
 | zero =>
  intro q
  rw [costW]
  omega
 | succ p ih =>
  intro q
  induction q with
  | zero =>
   rw [costW]
   omega
  | succ q ihq =>
   have h1:=ih (q + 1)
   have h2:=ih q
   have h3:=costC_b (rd_T43 a ((a.length - (p + 1):Nat):Int)) (rd_T43 b ((b.length - (q + 1):Nat):Int))
   rw [costW]
   have m1:=mn_le (costW a b p (q + 1) + 1) (costW a b (p + 1) q + 2)
   have m2:=mn_le (mn (costW a b p (q + 1) + 1) (costW a b (p + 1) q + 2)) (costW a b p q + costC (rd_T43 a ((a.length - (p + 1):Nat):Int)) (rd_T43 b ((b.length - (q + 1):Nat):Int)))
   split <;> omega
theorem costV_b {a b:List En} (ha:a.length≤60) (hb:b.length≤60) (i k:Nat):0≤costV a b i k∧costV a b i k≤180:=by
 have:=costW_b a b (a.length - i) (b.length - k)
 unfold costV
 omega
theorem costV_end1 {a b:List En} {k:Nat} (hk:k≤b.length):costV a b a.length k=2 * ((b.length:Int) - (k:Int)):=by
 unfold costV
 rw [Nat.sub_self,costW]
 omega
theorem costV_end2 {a b:List En} {i:Nat} (hi:i < a.length):costV a b i b.length=(a.length:Int) - (i:Int):=by
 unfold costV
 obtain ⟨p,hp⟩:∃ p,a.length - i=p + 1:=⟨a.length - i - 1,by omega⟩
 rw [Nat.sub_self,hp,costW]
 omega
theorem costV_in {a b:List En} {i k:Nat} (hi:i < a.length) (hk:k < b.length):costV a b i k =
  if fitC (rd_T43 a (i:Int)) (rd_T43 b (k:Int))=true then mn (mn (costV a b (i + 1) k + 1) (costV a b i (k + 1) + 2)) (costV a b (i + 1) (k + 1) + costC (rd_T43 a (i:Int)) (rd_T43 b (k:Int)))
  else mn (costV a b (i + 1) k + 1) (costV a b i (k + 1) + 2):=by
 unfold costV
 obtain ⟨p,hp⟩:∃ p,a.length - i=p + 1:=⟨a.length - i - 1,by omega⟩
 obtain ⟨q,hq⟩:∃ q,b.length - k=q + 1:=⟨b.length - k - 1,by omega⟩
 rw [hp,hq,costW,show a.length - (i + 1)=p by omega,show b.length - (k + 1)=q by omega,show a.length - (p + 1)=i by omega,show b.length - (q + 1)=k by omega]
set_option maxHeartbeats 1000000 in
theorem numV {a b:List En} (ha:a.length≤60) (hb:b.length≤60) {P:List Int→Prop} {T:List (List Int)} {i q:Nat} (hi:i≤a.length) (hq:q≤b.length) (h:TabSt a.length b.length (costV a b) P i (q + 1) T) :
  impl_faults_1.f T (i:Int) (q:Int) a b=some (costV a b i q):=by
 obtain ⟨h1,h2,h3,h4⟩:=h
 unfold impl_faults_1.f
 by_cases e1:i=a.length
 ·rw [if_pos (by omega),e1,costV_end1 hq,w64 (n:=(b.length:Int) - (q:Int)) (by omega) (by omega),w64 (by omega) (by omega)]
 ·rw [if_neg (by omega)]
  by_cases e2:q=b.length
  ·rw [if_pos (by omega),e2,costV_end2 (by omega),w64 (n:=(a.length:Int) - (i:Int)) (by omega) (by omega),w64 (by omega) (by omega),Int.one_mul]
  ·rw [if_neg (by omega),w64 (n:=(i:Int) + 1) (by omega) (by omega),w64 (n:=(q:Int) + 1) (by omega) (by omega)]
   have r1:=h2 (i + 1) (by omega) (by omega)
   have d1:rd_L6 T ((i:Int) + 1)=T.getD (i + 1) []:=by rw [show (i:Int) + 1=((i + 1:Nat):Int) by omega];rfl
   have d0:rd_L6 T (i:Int)=T.getD i []:=rfl
   rw [d1,d0]
   have g1:=rowSt_get r1 (Nat.zero_le q) (by omega)
   have g2:rd (T.getD (i + 1) []) ((q:Int) + 1)=costV a b (i + 1) (q + 1):=by
    have:=rowSt_get r1 (Nat.zero_le (q + 1)) (by omega)
    rwa [show ((q + 1:Nat):Int)=(q:Int) + 1 by omega] at this
   have g3:rd (T.getD i []) ((q:Int) + 1)=costV a b i (q + 1):=by
    have:=rowSt_get h3 (Nat.le_refl (q + 1)) (by omega)
    rwa [show ((q + 1:Nat):Int)=(q:Int) + 1 by omega] at this
   have l1:=r1.1
   have l0:=h3.1
   have b1:=costV_b ha hb (i + 1) q
   have b2:=costV_b ha hb (i + 1) (q + 1)
   have b3:=costV_b ha hb i (q + 1)
   have c1:=costC_b (rd_T43 a (i:Int)) (rd_T43 b (q:Int))
   rw [if_pos (by omega),if_pos (by omega),if_pos (by omega),if_pos (by omega),if_pos (by omega),if_pos (by omega),if_pos (by omega),if_pos (by omega),if_pos (by omega),if_pos (by omega),stepFaults_eq]
   simp only [Option.bind_some]
   rw [g1,g2,g3,costV_in (i:=i) (k:=q) (by omega) (by omega)]
   cases hf:fitC (rd_T43 a (i:Int)) (rd_T43 b (q:Int)) with
   | false =>
    simp only [Bool.false_eq_true,if_false]
    rw [w64 (by omega) (by omega),w64 (by omega) (by omega)]
   | true =>
    simp only [if_true]
    rw [if_pos (by omega),w64 (by omega) (by omega),w64 (by omega) (by omega),w64 (by omega) (by omega)]
theorem implFaults_eq {k:Nat} {a b:List En} (ha:a.length≤60) (hb:b.length≤60) (hk:100000≤k):impl_faults.f k a b=some (tabOf a.length b.length (costV a b)):=by
 unfold impl_faults.f impl_table__impl_faults_1.f
 rw [w64 (by omega) (by omega),if_pos (by omega),if_pos (by omega)]
 have e:=tab_loop a.length b.length 1 (costV a b) (fun _=>True) (fun K T i=>impl_table__impl_faults_1.l0 K b T i a b) (fun K T i q=>impl_table__impl_faults_1.l1 K b T i q a b) (fun T=>T) ha hb (by omega)
  (fun K T i hi hl _=>by
   refine ⟨List.replicate (b.length + 1) 0,by simp,?_⟩
   simp only [impl_table__impl_faults_1.l0]
   rw [if_pos (by omega),w64 (by omega) (by omega),if_pos (by omega),if_pos (by omega),if_pos (by omega),if_pos (by omega)]
   rw [show ((b.length:Int) + 1).toNat=b.length + 1 by omega,Int.toNat_natCast])
  (fun K T i q hi hq h=>by
   have l0:=h.2.2.1.1
   have l1:=h.1
   simp only [impl_table__impl_faults_1.l1]
   rw [if_pos (by omega),if_pos (by omega),if_pos (by omega),numV ha hb hi hq h]
   simp only [Option.bind_some]
   have d0:rd_L6 T (i:Int)=T.getD i []:=rfl
   rw [d0,if_pos (by omega),if_pos (by omega),w64 (by omega) (by omega),Int.toNat_natCast,Int.toNat_natCast])
  (fun K T i hi=>by
   simp only [impl_table__impl_faults_1.l1]
   rw [if_neg (by omega),w64 (by omega) (by omega)])
  (fun K T=>by
   simp only [impl_table__impl_faults_1.l0]
   rw [if_neg (by omega)]) (List.replicate (a.length + 1) []) (by simp) (fun _ _=>trivial) k hk
 rw [show ((a.length:Int) + 1).toNat=a.length + 1 by omega]
 try simp only at e
 rw [e]
 rfl
theorem const_flat {α:Type} (x:α) (n:Nat):(List.range n).flatMap (fun _=>[x])=List.replicate n x:=by
 induction n with
 | zero=>rfl
 | succ n ih =>
  rw [List.range_succ,List.flatMap_append,ih,List.replicate_succ']
  rfl
theorem l00Max_eq (x y:Int):spec_l00Max.f x y=some (mx x y):=by
 unfold spec_l00Max.f mx
 split <;> split <;> first|rfl|(congr 1;omega)|omega
theorem specBegin_eq {k:Nat} {a b:List En} (ha:a.length≤60) (hb:b.length≤60) (hk:100000≤k):spec_l07Begin.f k a b=some (List.replicate (a.length + 1) (List.replicate (b.length + 1) 0)):=by
 unfold spec_l07Begin.f
 have e:=loop_acc (fun k acc i=>spec_l07Begin.l0 k a b acc i) (a.length + 1) (fun _=>[List.replicate (b.length + 1) 0]) (fun T=>T) (fun _ _=>by simp)
  (fun k i acc hi ha'=>by
   simp only [spec_l07Begin.l0]
   rw [if_pos (by omega),w64 (by omega) (by omega),if_pos (by omega),if_pos (by omega),if_pos (by omega),w64 (by omega) (by omega),show ((b.length:Int) + 1).toNat=b.length + 1 by omega]
   rfl)
  (fun k acc h=>by
   simp only [spec_l07Begin.l0]
   rw [if_neg (by omega)]) k (by omega)
 rw [e,const_flat]
theorem specStep {a b:List En} (ha:a.length≤60) (hb:b.length≤60) {K:Nat} {T:List (List Int)} {i q:Nat} (hi:i≤a.length) (hq:q≤b.length) (h:TabSt a.length b.length (costV a b) (fun r=>r.length=b.length + 1) i (q + 1) T) :
  spec_l07Costs.l1 (K + 5) a b T (i:Int) (q:Int)=spec_l07Costs.l1 K a b (T.set i ((T.getD i []).set q (costV a b i q))) (i:Int) ((q:Int) - 1):=by
 obtain ⟨h1,h2,h3,h4⟩:=h
 have d0:rd_L6 T (i:Int)=T.getD i []:=rfl
 have d1:rd_L6 T ((i:Int) + 1)=T.getD (i + 1) []:=by rw [show (i:Int) + 1=((i + 1:Nat):Int) by omega];rfl
 have l0:=h3.1
 have hb3:=costV_b ha hb i (q + 1)
 have hb1:=costV_b ha hb (i + 1) q
 have hb2:=costV_b ha hb (i + 1) (q + 1)
 have hst:∀ (K:Nat) (x:Int),mx x 0=costV a b i q→(if 0≤(i:Int) then (if (i:Int) < (T.length:Int) then ((spec_l00Max.f x 0).bind fun t133=>(if 0≤(q:Int) then (if (q:Int) < ((T.getD i []).length:Int) then (spec_l07Costs.l1 K a b (T.set ((i:Int)).toNat ((T.getD i []).set ((q:Int)).toNat t133)) (i:Int) (wrap64 ((q:Int) - 1))) else none) else none)) else none) else none)=spec_l07Costs.l1 K a b (T.set i ((T.getD i []).set q (costV a b i q))) (i:Int) ((q:Int) - 1):=fun K x hx=>by
  rw [if_pos (by omega),if_pos (by omega),l00Max_eq,hx]
  simp only [Option.bind_some]
  rw [if_pos (by omega),if_pos (by omega),w64 (by omega) (by omega),Int.toNat_natCast,Int.toNat_natCast]
 have g3:q < b.length→rd (T.getD i []) ((q:Int) + 1)=costV a b i (q + 1):=fun hqb=>by
  have:=rowSt_get h3 (Nat.le_refl (q + 1)) (by omega)
  rwa [show ((q + 1:Nat):Int)=(q:Int) + 1 by omega] at this
 rcases Nat.eq_or_lt_of_le hi with e1|e1
 ·subst e1
  rw [show K + 5=(K + 4) + 1 from rfl]
  simp only [spec_l07Costs.l1]
  rw [if_pos (by omega),if_neg (by omega),show K + 4=(K + 3) + 1 from rfl]
  simp only [spec_l07Costs.j2]
  rcases Nat.eq_or_lt_of_le hq with e2|e2
  ·subst e2
   rw [if_neg (by omega),show K + 3=(K + 2) + 1 from rfl]
   simp only [spec_l07Costs.j3]
   rw [if_neg (by simp),show K + 2=(K + 1) + 1 from rfl]
   simp only [spec_l07Costs.j4]
   rw [if_neg (by omega)]
   simp only [spec_l07Costs.j5]
   rw [if_neg (by simp),d0]
   exact hst K (-1) (by rw [costV_end1 (Nat.le_refl _)];unfold mx;omega)
  ·rw [if_pos (by omega),if_pos (by omega),show K + 3=(K + 2) + 1 from rfl]
   simp only [spec_l07Costs.j3]
   rw [if_pos trivial,if_pos (by omega),if_pos (by omega),w64 (n:=(q:Int) + 1) (by omega) (by omega),if_pos (by omega),d0,if_pos (by omega),g3 e2,w64 (by omega) (by omega),show K + 2=(K + 1) + 1 from rfl]
   simp only [spec_l07Costs.j4]
   rw [if_neg (by omega)]
   simp only [spec_l07Costs.j5]
   rw [if_neg (by simp),d0]
   exact hst K _ (by rw [costV_end1 (by omega),costV_end1 (by omega)];unfold mx;rw [if_neg (by omega)];omega)
 ·have r1:=h2 (i + 1) (by omega) (by omega)
  have l1:=r1.1
  have g1:=rowSt_get r1 (Nat.zero_le q) hq
  rw [show K + 5=(K + 4) + 1 from rfl]
  simp only [spec_l07Costs.l1]
  rw [if_pos (by omega),if_pos (by omega),w64 (n:=(i:Int) + 1) (by omega) (by omega),if_pos (by omega),if_pos (by omega),if_pos (by omega),d1,if_pos (by omega),g1,w64 (by omega) (by omega),show K + 4=(K + 3) + 1 from rfl]
  simp only [spec_l07Costs.j2]
  rcases Nat.eq_or_lt_of_le hq with e2|e2
  ·subst e2
   rw [if_neg (by omega),show K + 3=(K + 2) + 1 from rfl]
   simp only [spec_l07Costs.j3]
   rw [if_neg (by simp),show K + 2=(K + 1) + 1 from rfl]
   simp only [spec_l07Costs.j4]
   rw [if_pos (by omega),decide_eq_false (by omega)]
   simp only [spec_l07Costs.j5]
   rw [if_neg (by simp),d0]
   refine hst K _ ?_
   rw [costV_end2 e1]
   by_cases e3:i + 1=a.length
   ·rw [e3,costV_end1 (Nat.le_refl _)]
    unfold mx
    rw [if_neg (by omega)]
    omega
   ·rw [costV_end2 (by omega)]
    unfold mx
    rw [if_neg (by omega)]
    omega
  ·have g2:rd (T.getD (i + 1) []) ((q:Int) + 1)=costV a b (i + 1) (q + 1):=by
    have:=rowSt_get r1 (Nat.zero_le (q + 1)) (by omega)
    rwa [show ((q + 1:Nat):Int)=(q:Int) + 1 by omega] at this
   have c1:=costC_b (rd_T43 a (i:Int)) (rd_T43 b (q:Int))
   rw [if_pos (by omega),if_neg (by omega),if_pos (by omega),if_pos (by omega),w64 (n:=(q:Int) + 1) (by omega) (by omega),if_pos (by omega),d0,if_pos (by omega),g3 e2,w64 (n:=2 + costV a b i (q + 1)) (by omega) (by omega)]
   have hj:spec_l07Costs.j3 (K + 3) a b T (i:Int) (q:Int) (1 + costV a b (i + 1) q) (decide (2 + costV a b i (q + 1) < 1 + costV a b (i + 1) q))=spec_l07Costs.j4 (K + 2) a b T (i:Int) (q:Int) (mn (costV a b (i + 1) q + 1) (costV a b i (q + 1) + 2)):=by
    simp only [spec_l07Costs.j3]
    by_cases hlt:2 + costV a b i (q + 1) < 1 + costV a b (i + 1) q
    ·rw [decide_eq_true hlt,if_pos rfl,if_pos (by omega),if_pos (by omega),w64 (n:=(q:Int) + 1) (by omega) (by omega),if_pos (by omega),d0,if_pos (by omega),g3 e2,w64 (by omega) (by omega)]
     congr 1
     unfold mn
     rw [if_pos (by omega)]
     omega
    ·rw [decide_eq_false hlt,if_neg (by simp)]
     congr 1
     unfold mn
     split <;> omega
   rw [hj]
   have hm:=mn_le (costV a b (i + 1) q + 1) (costV a b i (q + 1) + 2)
   have hv:=costV_in (a:=a) (b:=b) e1 e2
   generalize mn (costV a b (i + 1) q + 1) (costV a b i (q + 1) + 2)=x at *
   rw [show K + 2=(K + 1) + 1 from rfl]
   simp only [spec_l07Costs.j4]
   rw [if_pos (by omega),decide_eq_true (by omega)]
   simp only [spec_l07Costs.j5]
   rw [if_pos trivial,if_pos (by omega),if_pos (by omega),if_pos (by omega),if_pos (by omega),cost_eq]
   simp only [Option.bind_some]
   rw [d0,w64 (n:=(i:Int) + 1) (by omega) (by omega),w64 (n:=(q:Int) + 1) (by omega) (by omega),d1,g2]
   have hx0:0≤x:=by omega
   cases hf:fitC (rd_T43 a (i:Int)) (rd_T43 b (q:Int)) with
   | false =>
    rw [hf] at hv
    simp only [Bool.false_eq_true,if_false] at hv ⊢
    rw [if_neg (by omega)]
    have:=hst K x (by rw [hv];unfold mx;split <;> omega)
    rw [if_pos (by omega)] at this
    rw [← this]
    by_cases hh:(i:Int) < (T.length:Int)
    ·rw [if_pos hh,if_pos hh]
     congr 1
     first|done|(funext t;rw [if_pos (by omega)])
    ·omega
   | true =>
    rw [hf] at hv
    simp only [if_true] at hv ⊢
    rw [if_pos (by omega),if_pos (by omega),if_pos (by omega),if_pos (by omega),if_pos (by omega),w64 (by omega) (by omega)]
    have key:∀ y:Int,mx y 0=costV a b i q→(if (i:Int) < (T.length:Int) then ((spec_l00Max.f y 0).bind fun t118=>(if (q:Int) < ((T.getD i []).length:Int) then (spec_l07Costs.l1 K a b (T.set ((i:Int)).toNat ((T.getD i []).set ((q:Int)).toNat t118)) (i:Int) (wrap64 ((q:Int) - 1))) else none)) else none)=spec_l07Costs.l1 K a b (T.set i ((T.getD i []).set q (costV a b i q))) (i:Int) ((q:Int) - 1):=fun y hy=>by
     rw [if_pos (by omega),l00Max_eq,hy]
     simp only [Option.bind_some]
     rw [if_pos (by omega),w64 (by omega) (by omega),Int.toNat_natCast,Int.toNat_natCast]
    split
    ·rename_i hlt
     exact key _ (by rw [hv];unfold mx mn;split <;> split <;> omega)
    ·rename_i hlt
     exact key _ (by rw [hv];unfold mx mn;split <;> split <;> omega)
theorem specCosts_eq {k:Nat} {a b:List En} (ha:a.length≤60) (hb:b.length≤60) (hk:100000≤k):spec_l07Costs.f k a b=some (tabOf a.length b.length (costV a b)):=by
 unfold spec_l07Costs.f
 rw [specBegin_eq ha hb hk]
 simp only [Option.bind_some]
 exact tab_loop a.length b.length 5 (costV a b) (fun r=>r.length=b.length + 1) (fun K T i=>spec_l07Costs.l0 K a b T i) (fun K T i q=>spec_l07Costs.l1 K a b T i q) (fun T=>T) ha hb (by omega)
  (fun K T i hi hl hp=>by
   refine ⟨T.getD i [],hp,?_⟩
   simp only [spec_l07Costs.l0]
   rw [if_pos (by omega)]
   congr 1
   rw [List.getD_eq_getElem?_getD,List.getElem?_eq_getElem (by omega)]
   simp)
  (fun K T i q hi hq h=>specStep ha hb hi hq h)
  (fun K T i hi=>by
   simp only [spec_l07Costs.l1]
   rw [if_neg (by omega),w64 (by omega) (by omega)])
  (fun K T=>by
   simp only [spec_l07Costs.l0]
   rw [if_neg (by omega)]) _ (by simp) (fun i hi=>by
    rw [List.getD_eq_getElem?_getD,List.getElem?_replicate,if_pos (by omega)]
    simp) k hk
def resFaults (a b:List En):Int × Int:=if validG a=true∧validG b=true then (costV a b 0 0,0) else (0,1)
theorem logsCode_eq {a b:List En} (ha:a.length≤1048576) (hb:b.length≤1048576):impl_logsCode.f a b=some (if validG a=true∧validG b=true then 0 else 1):=by
 unfold impl_logsCode.f
 rw [implValid_log ha,implValid_log hb]
 simp only [Option.bind_some]
 cases validG a <;> cases validG b <;> simp [impl_unless.f]
theorem tab00 {m n:Nat} {V:Nat→Nat→Int}:(if 0 < ((tabOf m n V).length:Int) then (if 0 < ((rd_L6 (tabOf m n V) 0).length:Int) then (some (rd (rd_L6 (tabOf m n V) 0) 0,(0:Int))) else none) else none)=some (V 0 0,0):=by
 have e:=tab_row (m:=m) (n:=n) (V:=V) (Nat.zero_le m)
 rw [show ((0:Nat):Int)=0 from rfl] at e
 have e2:=row_at (n:=n) (V:=V 0) (Nat.zero_le n)
 rw [show ((0:Nat):Int)=0 from rfl] at e2
 have l1:=tab_len (m:=m) (n:=n) (V:=V)
 have l2:=row_len (n:=n) (V:=V 0)
 rw [e,if_pos (by omega),if_pos (by omega),e2]
theorem implFaultsOf_eq {k:Nat} {a b:List En} (ha:a.length≤1048576) (hb:b.length≤1048576) (hk:100000≤k):impl_FaultsOf.f k a b=some (resFaults a b):=by
 unfold impl_FaultsOf.f resFaults
 rw [logsCode_eq ha hb]
 simp only [Option.bind_some]
 by_cases hv:validG a=true∧validG b=true
 ·rw [if_pos hv,if_pos rfl,if_pos hv,implFaults_eq (valid_parts hv.1).1 (valid_parts hv.2).1 hk]
  simp only [Option.bind_some]
  exact tab00
 ·rw [if_neg hv,if_neg (by omega),if_neg hv]
theorem specFaultsOf_eq {k:Nat} {a b:List En} (hk:100000≤k):spec_FaultsOf.f k a b=some (resFaults a b):=by
 unfold spec_FaultsOf.f resFaults
 rw [specOk_log (by omega),specOk_log (by omega)]
 simp only [Option.bind_some]
 cases h1:validG a with
 | false=>simp
 | true =>
  cases h2:validG b with
  | false=>simp
  | true =>
   simp only [if_true,and_self]
   rw [specCosts_eq (valid_parts h1).1 (valid_parts h2).1 hk]
   simp only [Option.bind_some]
   exact tab00
def bothS (a b:List En) (i k:Nat):Bool:=decide (i < a.length) && decide (k < b.length) && fitC (rd_T43 a (i:Int)) (rd_T43 b (k:Int)) && (costV a b i k == costV a b (i + 1) (k + 1) + costC (rd_T43 a (i:Int)) (rd_T43 b (k:Int)))
def dropS (a b:List En) (i k:Nat):Bool:=decide (i < a.length) && (costV a b i k == costV a b (i + 1) k + 1)
def nxtS (a b:List En) (i k:Nat):St × Nat × Nat:=if bothS a b i k=true then (⟨(i:Int),(k:Int)⟩,i + 1,k + 1) else if dropS a b i k=true then (⟨(i:Int),-1⟩,i + 1,k) else (⟨-1,(k:Int)⟩,i,k + 1)
def sto (a b:List En):Nat→Nat→Nat→List St
 | 0,_,_=>[]
 | d + 1,i,k=>if i < a.length∨k < b.length then (nxtS a b i k).1 :: sto a b d (nxtS a b i k).2.1 (nxtS a b i k).2.2 else []
theorem tab_dims {a b:List En} {i k:Nat} (hi:i≤a.length) (hk:k≤b.length):((tabOf a.length b.length (costV a b)).length:Int)=(a.length:Int) + 1∧((rd_L6 (tabOf a.length b.length (costV a b)) (i:Int)).length:Int)=(b.length:Int) + 1∧rd (rd_L6 (tabOf a.length b.length (costV a b)) (i:Int)) (k:Int)=costV a b i k:=by
 refine ⟨?_,?_,?_⟩
 ·rw [tab_len];omega
 ·rw [tab_row hi,row_len];omega
 ·rw [tab_row hi,row_at hk]
theorem nxt_in {a b:List En} {i k:Nat} (hi:i≤a.length) (hk:k≤b.length) (h:i < a.length∨k < b.length):(nxtS a b i k).2.1≤a.length∧(nxtS a b i k).2.2≤b.length∧i + k < (nxtS a b i k).2.1 + (nxtS a b i k).2.2:=by
 unfold nxtS
 split
 ·rename_i hb
  simp only [bothS,Bool.and_eq_true,decide_eq_true_eq] at hb
  simp only
  omega
 ·split
  ·rename_i hd
   simp only [dropS,Bool.and_eq_true,decide_eq_true_eq] at hd
   simp only
   omega
  ·rename_i hd
   have:k < b.length:=by
    rcases Nat.lt_or_ge k b.length with h1|h1
    ·exact h1
    ·obtain rfl:k=b.length:=by omega
     have hia:i < a.length:=by omega
     exfalso
     apply hd
     simp only [dropS,Bool.and_eq_true,decide_eq_true_eq,beq_iff_eq]
     refine ⟨hia,?_⟩
     rw [costV_end2 hia]
     rcases Nat.lt_or_ge (i + 1) a.length with h2|h2
     ·rw [costV_end2 h2];omega
     ·rw [show i + 1=a.length by omega,costV_end1 (Nat.le_refl _)];omega
   simp only
   omega
set_option maxHeartbeats 1000000 in
theorem implStory_step {a b:List En} (ha:a.length≤60) (hb:b.length≤60) (K:Nat) (acc:List St) {i k:Nat} (hi:i≤a.length) (hk:k≤b.length) (h:i < a.length∨k < b.length) (hacc:acc.length≤1000) :
  impl_story.l0 (K + 4) a b (tabOf a.length b.length (costV a b)) acc (i:Int) (k:Int)=impl_story.l0 K a b (tabOf a.length b.length (costV a b)) (acc ++ [(nxtS a b i k).1]) ((nxtS a b i k).2.1:Int) ((nxtS a b i k).2.2:Int):=by
 obtain ⟨t1,t2,t3⟩:=tab_dims (a:=a) (b:=b) hi hk
 have bv:=costV_b ha hb i k
 have c1:=costC_b (rd_T43 a (i:Int)) (rd_T43 b (k:Int))
 have e1:impl_story.l0 (K + 4) a b (tabOf a.length b.length (costV a b)) acc (i:Int) (k:Int)=impl_story.j1 (K + 3) a b (tabOf a.length b.length (costV a b)) acc (i:Int) (k:Int) true:=by
  simp only [impl_story.l0]
  by_cases h1:i < a.length
  ·rw [if_pos (by omega)]
  ·rw [if_neg (by omega),decide_eq_true (by omega)]
 have e2:impl_story.j1 (K + 3) a b (tabOf a.length b.length (costV a b)) acc (i:Int) (k:Int) true=impl_story.j2 (K + 2) a b (tabOf a.length b.length (costV a b)) acc (i:Int) (k:Int) false (decide (i < a.length) && decide (k < b.length)):=by
  simp only [impl_story.j1]
  rw [if_pos trivial]
  by_cases h1:i < a.length
  ·rw [if_pos (by omega),decide_eq_true h1,Bool.true_and]
   congr 1
   simp
  ·rw [if_neg (by omega),decide_eq_false h1,Bool.false_and]
 have e3:impl_story.j2 (K + 2) a b (tabOf a.length b.length (costV a b)) acc (i:Int) (k:Int) false (decide (i < a.length) && decide (k < b.length))=impl_story.j3 (K + 1) a b (tabOf a.length b.length (costV a b)) acc (i:Int) (k:Int) (bothS a b i k):=by
  simp only [impl_story.j2]
  by_cases h2:i < a.length∧k < b.length
  ·obtain ⟨h2,h3⟩:=h2
   obtain ⟨_,s2,s3⟩:=tab_dims (a:=a) (b:=b) (i:=i + 1) (k:=k + 1) (by omega) (by omega)
   rw [show ((i + 1:Nat):Int)=(i:Int) + 1 by omega] at s2 s3
   rw [show ((k + 1:Nat):Int)=(k:Int) + 1 by omega] at s3
   have bv2:=costV_b ha hb (i + 1) (k + 1)
   unfold bothS
   rw [decide_eq_true h2,decide_eq_true h3]
   simp only [Bool.and_true,Bool.true_and]
   rw [if_pos trivial,if_pos (by omega),if_pos (by omega),if_pos (by omega),if_pos (by omega),stepFaults_eq]
   simp only [Option.bind_some]
   cases hf:fitC (rd_T43 a (i:Int)) (rd_T43 b (k:Int)) with
   | false=>simp
   | true =>
    simp only [if_true,Bool.true_and]
    rw [if_pos (by omega),if_pos (by omega),w64 (n:=(i:Int) + 1) (by omega) (by omega),w64 (n:=(k:Int) + 1) (by omega) (by omega),if_pos (by omega),if_pos (by omega),if_pos (by omega),if_pos (by omega),t3,s3,w64 (by omega) (by omega)]
  ·have:(decide (i < a.length) && decide (k < b.length))=false:=by
    rw [Bool.and_eq_false_iff]
    simp only [decide_eq_false_iff_not]
    omega
   unfold bothS
   rw [this]
   simp
 rw [e1,e2,e3]
 simp only [impl_story.j3]
 unfold nxtS
 cases hbo:bothS a b i k with
 | true =>
  simp only [if_true]
  rw [if_pos (by omega),w64 (by omega) (by omega),w64 (by omega) (by omega)]
  rfl
 | false =>
  simp only [Bool.false_eq_true,if_false]
  by_cases h1:i < a.length
  ·obtain ⟨_,s2,s3⟩:=tab_dims (a:=a) (b:=b) (i:=i + 1) (k:=k) (by omega) hk
   rw [show ((i + 1:Nat):Int)=(i:Int) + 1 by omega] at s2 s3
   have bv2:=costV_b ha hb (i + 1) k
   rw [if_pos (by omega),if_pos (by omega),if_pos (by omega),if_pos (by omega),if_pos (by omega),w64 (n:=(i:Int) + 1) (by omega) (by omega),if_pos (by omega),if_pos (by omega),if_pos (by omega),t3,s3,w64 (n:=costV a b (i + 1) k + 1) (by omega) (by omega)]
   by_cases hd:costV a b i k=costV a b (i + 1) k + 1
   ·rw [if_pos hd,if_pos (by omega),if_pos (by unfold dropS;simp [h1,hd])]
    rfl
   ·rw [if_neg hd,if_pos (by omega),if_neg (by unfold dropS;simp [h1,hd]),w64 (by omega) (by omega)]
    rfl
  ·rw [if_neg (by omega),if_pos (by omega),if_neg (by unfold dropS;simp [h1]),w64 (by omega) (by omega)]
   rfl
theorem implStory_all {a b:List En} (ha:a.length≤60) (hb:b.length≤60):∀ d i k acc K,a.length + b.length≤d + (i + k)→i≤a.length→k≤b.length→acc.length≤i + k→4 * d + 2≤K →
  impl_story.l0 K a b (tabOf a.length b.length (costV a b)) acc (i:Int) (k:Int)=some (acc ++ sto a b d i k):=by
 intro d
 induction d with
 | zero =>
  intro i k acc K hd hi hk hacc hK
  obtain ⟨K,rfl⟩:∃ m,K=m + 2:=⟨K - 2,by omega⟩
  simp only [impl_story.l0,impl_story.j1,sto]
  rw [if_neg (by omega),decide_eq_false (by omega),if_neg (by simp),List.append_nil]
 | succ d ih =>
  intro i k acc K hd hi hk hacc hK
  by_cases h:i < a.length∨k < b.length
  ·obtain ⟨n1,n2,n3⟩:=nxt_in hi hk h
   obtain ⟨K,rfl⟩:∃ m,K=m + 4:=⟨K - 4,by omega⟩
   rw [implStory_step ha hb K acc hi hk h (by omega),ih _ _ _ K (by omega) n1 n2 (by rw [List.length_append,List.length_singleton];omega) (by omega),sto,if_pos h,List.append_assoc]
   rfl
  ·obtain ⟨K,rfl⟩:∃ m,K=m + 2:=⟨K - 2,by omega⟩
   simp only [impl_story.l0,impl_story.j1,sto]
   rw [if_neg (by omega),decide_eq_false (by omega),if_neg (by simp),if_neg h,List.append_nil]
def storyL (a b:List En):List St:=sto a b (a.length + b.length) 0 0
theorem implStoryL {K:Nat} {a b:List En} (ha:a.length≤60) (hb:b.length≤60) (hK:100000≤K):impl_story.f K a b=some (storyL a b):=by
 unfold impl_story.f
 rw [implFaults_eq ha hb hK]
 simp only [Option.bind_some]
 have e:=implStory_all ha hb (a.length + b.length) 0 0 [] K (by omega) (by omega) (by omega) (by simp) (by omega)
 rw [show ((0:Nat):Int)=0 from rfl] at e
 rw [e]
 rfl
set_option maxHeartbeats 1000000 in
theorem specStory_step {a b:List En} (ha:a.length≤60) (hb:b.length≤60) (K:Nat) (acc:List St) {i k:Nat} (hi:i≤a.length) (hk:k≤b.length) (h:i < a.length∨k < b.length) (hacc:acc.length≤1000) :
  spec_l07Story.l0 (K + 5) a b (tabOf a.length b.length (costV a b)) acc (i:Int) (k:Int)=spec_l07Story.l0 K a b (tabOf a.length b.length (costV a b)) (acc ++ [(nxtS a b i k).1]) ((nxtS a b i k).2.1:Int) ((nxtS a b i k).2.2:Int):=by
 obtain ⟨t1,t2,t3⟩:=tab_dims (a:=a) (b:=b) hi hk
 have bv:=costV_b ha hb i k
 have c1:=costC_b (rd_T43 a (i:Int)) (rd_T43 b (k:Int))
 have e1:spec_l07Story.l0 (K + 5) a b (tabOf a.length b.length (costV a b)) acc (i:Int) (k:Int)=spec_l07Story.j1 (K + 4) a b (tabOf a.length b.length (costV a b)) acc (i:Int) (k:Int) true:=by
  simp only [spec_l07Story.l0]
  by_cases h1:i < a.length
  ·rw [if_pos (by omega)]
  ·rw [if_neg (by omega),decide_eq_true (by omega)]
 have e2:spec_l07Story.j1 (K + 4) a b (tabOf a.length b.length (costV a b)) acc (i:Int) (k:Int) true=spec_l07Story.j2 (K + 3) a b (tabOf a.length b.length (costV a b)) acc (i:Int) (k:Int) (-1) (decide (i < a.length) && decide (k < b.length)):=by
  simp only [spec_l07Story.j1]
  rw [if_pos trivial]
  by_cases h1:i < a.length
  ·rw [if_pos (by omega),decide_eq_true h1,Bool.true_and]
   congr 1
   simp
  ·rw [if_neg (by omega),decide_eq_false h1,Bool.false_and]
 have e3:spec_l07Story.j2 (K + 3) a b (tabOf a.length b.length (costV a b)) acc (i:Int) (k:Int) (-1) (decide (i < a.length) && decide (k < b.length))=spec_l07Story.j4 (K + 1) a b (tabOf a.length b.length (costV a b)) acc (i:Int) (k:Int) (bothS a b i k):=by
  simp only [spec_l07Story.j2]
  by_cases h2:i < a.length∧k < b.length
  ·obtain ⟨h2,h3⟩:=h2
   obtain ⟨_,s2,s3⟩:=tab_dims (a:=a) (b:=b) (i:=i + 1) (k:=k + 1) (by omega) (by omega)
   rw [show ((i + 1:Nat):Int)=(i:Int) + 1 by omega] at s2 s3
   rw [show ((k + 1:Nat):Int)=(k:Int) + 1 by omega] at s3
   have bv2:=costV_b ha hb (i + 1) (k + 1)
   unfold bothS
   rw [decide_eq_true h2,decide_eq_true h3]
   simp only [Bool.and_true,Bool.true_and]
   rw [if_pos trivial,if_pos (by omega),if_pos (by omega),if_pos (by omega),if_pos (by omega),cost_eq]
   simp only [Option.bind_some,spec_l07Story.j3]
   cases hf:fitC (rd_T43 a (i:Int)) (rd_T43 b (k:Int)) with
   | false =>
    simp only [Bool.false_eq_true,if_false,Bool.false_and]
    rw [if_neg (by omega)]
   | true =>
    simp only [if_true,Bool.true_and]
    rw [if_pos (by omega),w64 (n:=(i:Int) + 1) (by omega) (by omega),w64 (n:=(k:Int) + 1) (by omega) (by omega),if_pos (by omega),if_pos (by omega),if_pos (by omega),if_pos (by omega),if_pos (by omega),if_pos (by omega),if_pos (by omega),if_pos (by omega),t3,s3,w64 (by omega) (by omega)]
    congr 1
    rw [Bool.eq_iff_iff]
    simp only [beq_iff_eq]
    omega
  ·have:(decide (i < a.length) && decide (k < b.length))=false:=by
    rw [Bool.and_eq_false_iff]
    simp only [decide_eq_false_iff_not]
    omega
   unfold bothS
   rw [this]
   simp only [Bool.false_eq_true,if_false,Bool.false_and,spec_l07Story.j3]
   rw [if_neg (by omega)]
 rw [e1,e2,e3]
 simp only [spec_l07Story.j4]
 unfold nxtS
 cases hbo:bothS a b i k with
 | true =>
  simp only [if_true]
  rw [if_pos (by omega),w64 (by omega) (by omega),w64 (by omega) (by omega)]
  rfl
 | false =>
  simp only [Bool.false_eq_true,if_false]
  by_cases h1:i < a.length
  ·obtain ⟨_,s2,s3⟩:=tab_dims (a:=a) (b:=b) (i:=i + 1) (k:=k) (by omega) hk
   rw [show ((i + 1:Nat):Int)=(i:Int) + 1 by omega] at s2 s3
   have bv2:=costV_b ha hb (i + 1) k
   rw [if_pos (by omega),w64 (n:=(i:Int) + 1) (by omega) (by omega),if_pos (by omega),if_pos (by omega),if_pos (by omega),if_pos (by omega),if_pos (by omega),if_pos (by omega),if_pos (by omega),t3,s3,w64 (n:=1 + costV a b (i + 1) k) (by omega) (by omega)]
   by_cases hd:costV a b i k=costV a b (i + 1) k + 1
   ·rw [if_pos (by omega),if_pos (by omega),if_pos (by unfold dropS;simp [h1,hd])]
    rfl
   ·rw [if_neg (by omega),if_pos (by omega),if_neg (by unfold dropS;simp [h1,hd]),w64 (by omega) (by omega)]
    rfl
  ·rw [if_neg (by omega),if_pos (by omega),if_neg (by unfold dropS;simp [h1]),w64 (by omega) (by omega)]
   rfl
theorem specStory_all {a b:List En} (ha:a.length≤60) (hb:b.length≤60):∀ d i k acc K,a.length + b.length≤d + (i + k)→i≤a.length→k≤b.length→acc.length≤i + k→5 * d + 2≤K →
  spec_l07Story.l0 K a b (tabOf a.length b.length (costV a b)) acc (i:Int) (k:Int)=some (acc ++ sto a b d i k):=by
 intro d
 induction d with
 | zero =>
  intro i k acc K hd hi hk hacc hK
  obtain ⟨K,rfl⟩:∃ m,K=m + 2:=⟨K - 2,by omega⟩
  simp only [spec_l07Story.l0,spec_l07Story.j1,sto]
  rw [if_neg (by omega),decide_eq_false (by omega),if_neg (by simp),List.append_nil]
 | succ d ih =>
  intro i k acc K hd hi hk hacc hK
  by_cases h:i < a.length∨k < b.length
  ·obtain ⟨n1,n2,n3⟩:=nxt_in hi hk h
   obtain ⟨K,rfl⟩:∃ m,K=m + 5:=⟨K - 5,by omega⟩
   rw [specStory_step ha hb K acc hi hk h (by omega),ih _ _ _ K (by omega) n1 n2 (by rw [List.length_append,List.length_singleton];omega) (by omega),sto,if_pos h,List.append_assoc]
   rfl
  ·obtain ⟨K,rfl⟩:∃ m,K=m + 2:=⟨K - 2,by omega⟩
   simp only [spec_l07Story.l0,spec_l07Story.j1,sto]
   rw [if_neg (by omega),decide_eq_false (by omega),if_neg (by simp),if_neg h,List.append_nil]
theorem specStoryL {K:Nat} {a b:List En} (ha:a.length≤60) (hb:b.length≤60) (hK:100000≤K):spec_l07Story.f K a b=some (storyL a b):=by
 unfold spec_l07Story.f
 rw [specCosts_eq ha hb hK]
 simp only [Option.bind_some]
 have e:=specStory_all ha hb (a.length + b.length) 0 0 [] K (by omega) (by omega) (by omega) (by simp) (by omega)
 rw [show ((0:Nat):Int)=0 from rfl] at e
 rw [e]
 rfl
def stepOk (a b:List En) (s:St):Prop:=(∃ i k:Nat,i < a.length∧k < b.length∧s=⟨(i:Int),(k:Int)⟩∧fitC (rd_T43 a (i:Int)) (rd_T43 b (k:Int))=true)∨(∃ i:Nat,i < a.length∧s=⟨(i:Int),-1⟩)∨∃ k:Nat,k < b.length∧s=⟨-1,(k:Int)⟩
theorem sto_ok {a b:List En}:∀ d i k,i≤a.length→k≤b.length→(∀ s∈sto a b d i k,stepOk a b s)∧(sto a b d i k).length≤d:=by
 intro d
 induction d with
 | zero=>intro i k _ _;simp [sto]
 | succ d ih =>
  intro i k hi hk
  rw [sto]
  split
  ·rename_i h
   obtain ⟨n1,n2,n3⟩:=nxt_in hi hk h
   obtain ⟨i1,i2⟩:=ih _ _ n1 n2
   refine ⟨fun s hs=>?_,by simp only [List.length_cons];omega⟩
   rcases List.mem_cons.1 hs with rfl|hs
   ·unfold nxtS
    unfold nxtS at n1 n2
    split
    ·rename_i hb
     simp only [bothS,Bool.and_eq_true,decide_eq_true_eq] at hb
     exact .inl ⟨i,k,hb.1.1.1,hb.1.1.2,rfl,hb.1.2⟩
    ·rename_i hb
     rw [if_neg hb] at n1 n2
     split
     ·rename_i hd
      simp only [dropS,Bool.and_eq_true,decide_eq_true_eq] at hd
      exact .inr (.inl ⟨i,hd.1,rfl⟩)
     ·rename_i hd
      rw [if_neg hd] at n1 n2
      exact .inr (.inr ⟨k,by simp only at n2;omega,rfl⟩)
   ·exact i1 s hs
  ·simp
theorem storyL_ok {a b:List En}:(∀ s∈storyL a b,stepOk a b s)∧(storyL a b).length≤a.length + b.length:=sto_ok _ 0 0 (Nat.zero_le _) (Nat.zero_le _)
def resStoryOf (a b:List En):List St × Int:=if validG a=true∧validG b=true then (storyL a b,0) else ([],1)
theorem implStoryOf_eq {K:Nat} {a b:List En} (ha:a.length≤1048576) (hb:b.length≤1048576) (hK:100000≤K):impl_StoryOf.f K a b=some (resStoryOf a b):=by
 unfold impl_StoryOf.f resStoryOf
 rw [logsCode_eq ha hb]
 simp only [Option.bind_some]
 by_cases hv:validG a=true∧validG b=true
 ·rw [if_pos hv,if_pos rfl,if_pos hv,implStoryL (valid_parts hv.1).1 (valid_parts hv.2).1 hK]
  rfl
 ·rw [if_neg hv,if_neg (by omega),if_neg hv]
theorem specStoryOf_eq {K:Nat} {a b:List En} (hK:100000≤K):spec_StoryOf.f K a b=some (resStoryOf a b):=by
 unfold spec_StoryOf.f resStoryOf
 rw [specOk_log (by omega),specOk_log (by omega)]
 simp only [Option.bind_some]
 cases h1:validG a with
 | false=>simp
 | true =>
  cases h2:validG b with
  | false=>simp
  | true =>
   simp only [if_true,and_self]
   rw [specStoryL (valid_parts h1).1 (valid_parts h2).1 hK]
   rfl
def pickM (s:St):List Int:=if s.f1 < 0 then [s.f0] else []
def pickR (a b:List En) (s:St):List Int:=if 0≤s.f0∧0≤s.f1∧(rd_T43 a s.f0).f1≠(rd_T43 b s.f1).f1 then [s.f0] else []
theorem pickM_len (s:St):(pickM s).length≤1:=by unfold pickM;split <;> simp
theorem pickR_len (a b:List En) (s:St):(pickR a b s).length≤1:=by unfold pickR;split <;> simp
def resMissed (a b:List En):List Int × Int:=if validG a=true∧validG b=true then ((storyL a b).flatMap pickM,0) else ([],1)
def resMisread (a b:List En):List Int × Int:=if validG a=true∧validG b=true then ((storyL a b).flatMap (pickR a b),0) else ([],1)
theorem implMissed_l0 {k:Nat} {a b:List En} {st:List St} (hs:∀ s∈st,stepOk a b s) (hl:st.length≤1000) (hk:st.length < k):impl_flownIn__impl_MissedIn_1.l0 k [] st (st.length:Int) 0=some (st.flatMap pickM,0):=by
 rw [← flat_list]
 refine loop_acc (fun k acc i=>impl_flownIn__impl_MissedIn_1.l0 k acc st (st.length:Int) i) st.length (atL st pickM) (fun acc=>(acc,0)) (fun i hi=>by rw [atL_some hi];exact pickM_len _) (fun k i acc hi ha=>?_) (fun k acc ha=>?_) k hk
 ·have h:=hs _ (List.getElem_mem hi)
  simp only [impl_flownIn__impl_MissedIn_1.l0]
  rw [if_pos (by omega),if_pos (by omega),if_pos (by omega),rd_impl_Step hi,atL_some hi,w64 (by omega) (by omega)]
  unfold pickM
  rcases h with ⟨x,y,h1,h2,h3,h4⟩|⟨x,h1,h2⟩|⟨y,h1,h2⟩
  ·rw [h3]
   rw [if_pos (show (x:Int)≥0 by omega)]
   simp only [impl_MissedIn_1.f,Option.bind_some]
   rw [decide_eq_false (show ¬ (y:Int) < 0 by omega),if_neg (by simp),if_neg (by omega),List.append_nil]
   rfl
  ·rw [h2]
   rw [if_pos (show (x:Int)≥0 by omega)]
   simp only [impl_MissedIn_1.f,Option.bind_some]
   rw [decide_eq_true (show (-1:Int) < 0 by omega),if_pos rfl,if_pos (by omega),if_pos (by omega)]
   rfl
  ·rw [h2]
   rw [if_neg (show ¬ (-1:Int)≥0 by omega),if_neg (by simp only;omega),List.append_nil]
   rfl
 ·simp only [impl_flownIn__impl_MissedIn_1.l0]
  rw [if_neg (by omega)]
theorem agree_eq (e f:En):impl_Entry_agree.f e.f0 e.f1 e.f2 f.f0 f.f1 f.f2=some (decide (e.f1=f.f1) && decide (e.f2=f.f2)):=by
 unfold impl_Entry_agree.f
 by_cases h:e.f1=f.f1 <;> simp [h,Bool.beq_eq_decide_eq]
theorem implMisread_l0 {k:Nat} {a b:List En} {st:List St} (hs:∀ s∈st,stepOk a b s) (hl:st.length≤1000) (hk:st.length < k):impl_flownIn__impl_MisreadIn_1.l0 k [] st (st.length:Int) 0 a b=some (st.flatMap (pickR a b),0):=by
 rw [← flat_list]
 refine loop_acc (fun k acc i=>impl_flownIn__impl_MisreadIn_1.l0 k acc st (st.length:Int) i a b) st.length (atL st (pickR a b)) (fun acc=>(acc,0)) (fun i hi=>by rw [atL_some hi];exact pickR_len a b _) (fun k i acc hi ha=>?_) (fun k acc ha=>?_) k hk
 ·have h:=hs _ (List.getElem_mem hi)
  simp only [impl_flownIn__impl_MisreadIn_1.l0]
  rw [if_pos (by omega),if_pos (by omega),if_pos (by omega),rd_impl_Step hi,atL_some hi,w64 (by omega) (by omega)]
  unfold pickR
  rcases h with ⟨x,y,h1,h2,h3,h4⟩|⟨x,h1,h2⟩|⟨y,h1,h2⟩
  ·rw [h3]
   rw [if_pos (show (x:Int)≥0 by omega)]
   simp only [impl_MisreadIn_1.f]
   rw [if_pos (by omega),if_pos (by omega),if_pos (by omega),if_pos (by omega),if_pos (by omega),agree_eq]
   simp only [Option.bind_some]
   unfold fitC at h4
   rw [h4,Bool.and_true]
   by_cases hq:(rd_T43 a (x:Int)).f1=(rd_T43 b (y:Int)).f1
   ·rw [decide_eq_true hq,if_neg (by simp),if_neg (fun h=>h.2.2 hq),List.append_nil]
    rfl
   ·rw [decide_eq_false hq,if_pos (by rfl),if_pos (by omega),if_pos ⟨by omega,by omega,hq⟩]
    rfl
  ·rw [h2]
   rw [if_pos (show (x:Int)≥0 by omega)]
   simp only [impl_MisreadIn_1.f]
   rw [if_neg (by omega)]
   simp only [Option.bind_some]
   rw [if_neg (by simp),if_neg (by omega),List.append_nil]
   rfl
  ·rw [h2]
   rw [if_neg (show ¬ (-1:Int)≥0 by omega),if_neg (by simp only;omega),List.append_nil]
   rfl
 ·simp only [impl_flownIn__impl_MisreadIn_1.l0]
  rw [if_neg (by omega)]
theorem specPicked_l0 {k:Nat} {a b:List En} {m:Bool} {st:List St} (hs:∀ s∈st,stepOk a b s) (hl:st.length≤1000) (hk:st.length < k):spec_l07Picked.l0 k a b m st [] 0=some (st.flatMap (if m=true then pickM else pickR a b),0):=by
 rw [← flat_list]
 refine loop_acc (fun k acc i=>spec_l07Picked.l0 k a b m st acc i) st.length (atL st (if m=true then pickM else pickR a b)) (fun acc=>(acc,0)) (fun i hi=>by rw [atL_some hi];split;exact pickM_len _;exact pickR_len a b _) (fun k i acc hi ha=>?_) (fun k acc ha=>?_) k hk
 ·have h:=hs _ (List.getElem_mem hi)
  simp only [spec_l07Picked.l0]
  rw [if_pos (by omega),if_pos (by omega),rd_impl_Step hi,atL_some hi,w64 (by omega) (by omega)]
  rcases h with ⟨x,y,h1,h2,h3,h4⟩|⟨x,h1,h2⟩|⟨y,h1,h2⟩
  ·rw [h3]
   simp only
   rw [if_pos (show (x:Int)≥0 by omega),if_pos (show (y:Int)≥0 by omega),if_pos (by omega),if_pos (by omega),if_pos (by omega),if_pos (by omega)]
   cases m with
   | true =>
    simp only [if_true,pickM]
    rw [if_neg (by omega),if_neg (by omega),List.append_nil]
    rfl
   | false =>
    simp only [Bool.false_eq_true,if_false,pickR]
    by_cases hq:(rd_T43 a (x:Int)).f1=(rd_T43 b (y:Int)).f1
    ·rw [if_pos hq,if_neg (fun h=>h.2.2 hq),List.append_nil]
     rfl
    ·rw [if_neg hq,if_pos (by omega),if_pos ⟨by omega,by omega,hq⟩]
     rfl
  ·rw [h2]
   simp only
   rw [if_pos (show (x:Int)≥0 by omega),if_neg (show ¬ (-1:Int)≥0 by omega)]
   cases m with
   | true =>
    simp only [if_true,pickM]
    rw [if_pos (by omega),if_pos (by omega),if_pos (by omega)]
    rfl
   | false =>
    simp only [Bool.false_eq_true,if_false,pickR]
    rw [if_neg (by omega),List.append_nil]
    rfl
  ·rw [h2]
   simp only
   rw [if_neg (show ¬ (-1:Int)≥0 by omega)]
   cases m with
   | true =>
    simp only [if_true,pickM]
    rw [if_neg (by omega),if_neg (by omega),List.append_nil]
    rfl
   | false =>
    simp only [Bool.false_eq_true,if_false,pickR]
    rw [if_neg (by omega),List.append_nil]
    rfl
 ·simp only [spec_l07Picked.l0]
  rw [if_neg (by omega)]
theorem specPicked_eq {k:Nat} {a b:List En} {m:Bool} (hk:110000≤k):spec_l07Picked.f k a b m=some (if m=true then resMissed a b else resMisread a b):=by
 unfold spec_l07Picked.f resMissed resMisread
 rw [specOk_log (by omega),specOk_log (by omega)]
 simp only [Option.bind_some]
 obtain ⟨k,rfl⟩:∃ j,k=j + 1:=⟨k - 1,by omega⟩
 cases h1:validG a with
 | false=>simp [spec_l07Picked.j0]
 | true =>
  cases h2:validG b with
  | false=>simp [spec_l07Picked.j0]
  | true =>
   have l1:=(valid_parts h1).1
   have l2:=(valid_parts h2).1
   obtain ⟨s1,s2⟩:=storyL_ok (a:=a) (b:=b)
   simp only [if_true,and_self,spec_l07Picked.j0,Bool.not_true,Bool.false_eq_true,if_false]
   rw [specStoryL l1 l2 (by omega)]
   simp only [Option.bind_some]
   rw [specPicked_l0 s1 (by omega) (by omega)]
   cases m <;> rfl
theorem implMissed_eq {k:Nat} {a b:List En} (ha:a.length≤1048576) (hb:b.length≤1048576) (hk:110000≤k):impl_MissedIn.f k a b=some (resMissed a b):=by
 unfold impl_MissedIn.f impl_flownIn__impl_MissedIn_1.f resMissed
 rw [implStoryOf_eq ha hb (by omega)]
 simp only [Option.bind_some]
 unfold resStoryOf
 by_cases hv:validG a=true∧validG b=true
 ·obtain ⟨s1,s2⟩:=storyL_ok (a:=a) (b:=b)
  have l1:=(valid_parts hv.1).1
  have l2:=(valid_parts hv.2).1
  rw [if_pos hv,if_pos hv]
  simp only [if_true]
  rw [implMissed_l0 s1 (by omega) (by omega)]
  rfl
 ·rw [if_neg hv,if_neg hv]
  simp only
  rw [if_neg (by omega)]
  rfl
theorem implMisread_eq {k:Nat} {a b:List En} (ha:a.length≤1048576) (hb:b.length≤1048576) (hk:110000≤k):impl_MisreadIn.f k a b=some (resMisread a b):=by
 unfold impl_MisreadIn.f impl_flownIn__impl_MisreadIn_1.f resMisread
 rw [implStoryOf_eq ha hb (by omega)]
 simp only [Option.bind_some]
 unfold resStoryOf
 by_cases hv:validG a=true∧validG b=true
 ·obtain ⟨s1,s2⟩:=storyL_ok (a:=a) (b:=b)
  have l1:=(valid_parts hv.1).1
  have l2:=(valid_parts hv.2).1
  rw [if_pos hv,if_pos hv]
  simp only [if_true]
  rw [implMisread_l0 s1 (by omega) (by omega)]
  rfl
 ·rw [if_neg hv,if_neg hv]
  simp only
  rw [if_neg (by omega)]
  rfl
theorem flatMap_len {α β:Type} {l:List α} {h:α→List β} (hb:∀ x,(h x).length≤1):(l.flatMap h).length≤l.length:=by
 induction l with
 | nil=>simp
 | cons a l ih =>
  rw [List.flatMap_cons,List.length_append,List.length_cons]
  have:=hb a
  omega
theorem agree_spec (e f:En):spec_l07Agree.f e.f0 e.f1 e.f2 f.f0 f.f1 f.f2=some (decide (e.f1=f.f1) && decide (e.f2=f.f2)):=by
 unfold spec_l07Agree.f
 by_cases h:e.f1=f.f1 <;> simp [h,Bool.beq_eq_decide_eq]
theorem agr_impl (a b:List En) (i k:Nat):impl_Entry_agree.f (rd_T43 a (i:Int)).f0 (rd_T43 a (i:Int)).f1 (rd_T43 a (i:Int)).f2 (rd_T43 b (k:Int)).f0 (rd_T43 b (k:Int)).f1 (rd_T43 b (k:Int)).f2=some (agr a b i k):=agree_eq _ _
theorem agr_spec (a b:List En) (i k:Nat):spec_l07Agree.f (rd_T43 a (i:Int)).f0 (rd_T43 a (i:Int)).f1 (rd_T43 a (i:Int)).f2 (rd_T43 b (k:Int)).f0 (rd_T43 b (k:Int)).f1 (rd_T43 b (k:Int)).f2=some (agr a b i k):=agree_spec _ _
set_option maxHeartbeats 1000000 in
theorem numC {a b:List En} (ha:a.length≤60) (hb:b.length≤60) {P:List Int→Prop} {T:List (List Int)} {i q:Nat} (hi:i≤a.length) (hq:q≤b.length) (h:TabSt a.length b.length (lcsV a b) P i (q + 1) T) (K:Nat) :
  impl_CommonOf_1.f (K + 1) T (i:Int) (q:Int) a b=some (lcsV a b i q):=by
 obtain ⟨h1,h2,h3,h4⟩:=h
 unfold impl_CommonOf_1.f
 simp only [impl_CommonOf_1.j0]
 by_cases e1:i=a.length
 ·rw [if_pos (by omega),if_pos trivial,lcsV_end (.inl (by omega))]
 ·rw [if_neg (by omega)]
  by_cases e2:q=b.length
  ·rw [if_pos (by simp [e2]),lcsV_end (.inr (by omega))]
  ·rw [if_neg (by simp;omega),if_pos (by omega),if_pos (by omega),if_pos (by omega),if_pos (by omega),agr_impl,w64 (n:=(i:Int) + 1) (by omega) (by omega),w64 (n:=(q:Int) + 1) (by omega) (by omega)]
   simp only [Option.bind_some]
   have r1:=h2 (i + 1) (by omega) (by omega)
   have d1:rd_L6 T ((i:Int) + 1)=T.getD (i + 1) []:=by rw [show (i:Int) + 1=((i + 1:Nat):Int) by omega];rfl
   have d0:rd_L6 T (i:Int)=T.getD i []:=rfl
   rw [d1,d0]
   have g1:=rowSt_get r1 (Nat.zero_le q) (by omega)
   have g2:rd (T.getD (i + 1) []) ((q:Int) + 1)=lcsV a b (i + 1) (q + 1):=by
    have:=rowSt_get r1 (Nat.zero_le (q + 1)) (by omega)
    rwa [show ((q + 1:Nat):Int)=(q:Int) + 1 by omega] at this
   have g3:rd (T.getD i []) ((q:Int) + 1)=lcsV a b i (q + 1):=by
    have:=rowSt_get h3 (Nat.le_refl (q + 1)) (by omega)
    rwa [show ((q + 1:Nat):Int)=(q:Int) + 1 by omega] at this
   have l1:=r1.1
   have l0:=h3.1
   have b2:=lcsV_b (a:=a) (b:=b) (i + 1) (q + 1)
   rw [g1,g2,g3,lcsV_in (i:=i) (k:=q) (by omega) (by omega)]
   by_cases hag:agr a b i q=true
   ·rw [if_pos hag,if_pos hag,if_pos (by omega),if_pos (by omega),if_pos (by omega),if_pos (by omega),w64 (by omega) (by omega)]
   ·rw [if_neg hag,if_neg hag,if_pos (by omega),if_pos (by omega),if_pos (by omega),if_pos (by omega),if_pos (by omega),if_pos (by omega)]
theorem implTab {k:Nat} {a b:List En} (ha:a.length≤60) (hb:b.length≤60) (hk:100001≤k):impl_table__impl_CommonOf_1.f k a b a b=some (tabOf a.length b.length (lcsV a b)):=by
 obtain ⟨k,rfl⟩:∃ j,k=j + 1:=⟨k - 1,by omega⟩
 unfold impl_table__impl_CommonOf_1.f
 rw [w64 (by omega) (by omega),if_pos (by omega),if_pos (by omega)]
 have e:=tab_loop a.length b.length 1 (lcsV a b) (fun _=>True) (fun K T i=>impl_table__impl_CommonOf_1.l0 (K + 1) b T i a b) (fun K T i q=>impl_table__impl_CommonOf_1.l1 (K + 1) b T i q a b) (fun T=>T) ha hb (by omega)
  (fun K T i hi hl _=>by
   refine ⟨List.replicate (b.length + 1) 0,by simp,?_⟩
   generalize K + 1=K1
   simp only [impl_table__impl_CommonOf_1.l0]
   rw [if_pos (by omega),w64 (by omega) (by omega),if_pos (by omega),if_pos (by omega),if_pos (by omega),if_pos (by omega)]
   rw [show ((b.length:Int) + 1).toNat=b.length + 1 by omega,Int.toNat_natCast])
  (fun K T i q hi hq h=>by
   have l0:=h.2.2.1.1
   have l1:=h.1
   have hn:=numC ha hb hi hq h K
   generalize K + 1=K1 at *
   simp only [impl_table__impl_CommonOf_1.l1]
   rw [if_pos (by omega),if_pos (by omega),if_pos (by omega),hn]
   simp only [Option.bind_some]
   have d0:rd_L6 T (i:Int)=T.getD i []:=rfl
   rw [d0,if_pos (by omega),if_pos (by omega),w64 (by omega) (by omega),Int.toNat_natCast,Int.toNat_natCast])
  (fun K T i hi=>by
   generalize K + 1=K1
   simp only [impl_table__impl_CommonOf_1.l1]
   rw [if_neg (by omega),w64 (by omega) (by omega)])
  (fun K T=>by
   generalize K + 1=K1
   simp only [impl_table__impl_CommonOf_1.l0]
   rw [if_neg (by omega)]) (List.replicate (a.length + 1) []) (by simp) (fun _ _=>trivial) k (by omega)
 rw [show ((a.length:Int) + 1).toNat=a.length + 1 by omega]
 try simp only at e
 rw [e]
theorem implRow {a b:List En} (ha:a.length≤60) (hb:b.length≤60) {i k:Nat} (hi:i < a.length) (hk:k≤b.length) (out:List St) (ho:out.length≤60) (hp:0 < lcsV a b i k) (K:Nat):∀ d m,m + d=b.length→k≤m→(∀ j,j < m→pickF a b i k j=false) →
  impl_CommonOf.l1 (K + 2 * d + 2) (tabOf a.length b.length (lcsV a b)) out (i:Int) (k:Int) (lcsV a b i k) (m:Int) a b=(match pickAt a b i k with|some m'=>impl_CommonOf.l0 (K + 2 * (b.length - m')) (tabOf a.length b.length (lcsV a b)) (out ++ [(⟨(i:Int),(m':Int)⟩:St)]) ((i:Int) + 1) ((m':Int) + 1) a b|none=>impl_CommonOf.l0 K (tabOf a.length b.length (lcsV a b)) out ((i:Int) + 1) (k:Int) a b):=by
 have t0:=tab_row (m:=a.length) (n:=b.length) (V:=lcsV a b) (i:=i) (by omega)
 have t1:=tab_row (m:=a.length) (n:=b.length) (V:=lcsV a b) (i:=i + 1) (by omega)
 rw [show ((i + 1:Nat):Int)=(i:Int) + 1 by omega] at t1
 have tl:=tab_len (m:=a.length) (n:=b.length) (V:=lcsV a b)
 have rl:=fun i=>row_len (n:=b.length) (V:=lcsV a b i)
 have b0:=lcsV_b (a:=a) (b:=b) i k
 intro d
 induction d with
 | zero =>
  intro m hm hkm hno
  have hnone:pickAt a b i k=none:=by
   unfold pickAt
   rw [List.find?_eq_none]
   intro j hj
   rw [hno j (by have:=List.mem_range.1 hj;omega)]
   simp
  rw [hnone]
  simp only [Nat.mul_zero,Nat.add_zero]
  rw [show K + 2=(K + 1) + 1 from rfl]
  generalize hK:K + 1=K1
  simp only [impl_CommonOf.l1]
  rw [if_neg (by omega),← hK]
  simp only [impl_CommonOf.j2]
  rw [if_neg (by simp),w64 (by omega) (by omega)]
 | succ d ih =>
  intro m hm hkm hno
  have hml:m < b.length:=by omega
  rw [show K + 2 * (d + 1) + 2=(K + 2 * d + 2 + 1) + 1 by omega]
  generalize hK:K + 2 * d + 2 + 1=K1
  simp only [impl_CommonOf.l1]
  have hrow:=row_at (n:=b.length) (V:=lcsV a b i) (k:=k) (by omega)
  rw [if_pos (by omega),if_pos (by omega),if_pos (by omega),if_pos (by omega),t0,if_pos (by rw [rl];omega),hrow,← hK]
  simp only [impl_CommonOf.j2]
  have hrow1:=row_at (n:=b.length) (V:=lcsV a b (i + 1)) (k:=m + 1) (by omega)
  rw [show ((m + 1:Nat):Int)=(m:Int) + 1 by omega] at hrow1
  rw [if_pos (by simp),if_pos (by omega),if_pos (by omega),if_pos (by omega),if_pos (by omega),agr_impl,w64 (n:=(i:Int) + 1) (by omega) (by omega),w64 (n:=(m:Int) + 1) (by omega) (by omega),t1,hrow1,w64 (n:=lcsV a b i k - 1) (by omega) (by omega)]
  simp only [Option.bind_some]
  have hnext:pickF a b i k m=false→impl_CommonOf.l1 (K + 2 * d + 2) (tabOf a.length b.length (lcsV a b)) out (i:Int) (k:Int) (lcsV a b i k) ((m:Int) + 1) a b=(match pickAt a b i k with|some m'=>impl_CommonOf.l0 (K + 2 * (b.length - m')) (tabOf a.length b.length (lcsV a b)) (out ++ [(⟨(i:Int),(m':Int)⟩:St)]) ((i:Int) + 1) ((m':Int) + 1) a b|none=>impl_CommonOf.l0 K (tabOf a.length b.length (lcsV a b)) out ((i:Int) + 1) (k:Int) a b):=fun hf=>by
   have:=ih (m + 1) (by omega) (by omega) (fun j hj=>by
    rcases Nat.lt_succ_iff_lt_or_eq.1 hj with e|e
    ·exact hno j e
    ·subst e;exact hf)
   rwa [show ((m + 1:Nat):Int)=(m:Int) + 1 by omega] at this
  by_cases hag:agr a b i m=true
  ·rw [if_pos hag,if_pos (by omega),if_pos (by omega),if_pos (by omega),if_pos (by rw [rl];omega)]
   by_cases hv:lcsV a b (i + 1) (m + 1)=lcsV a b i k - 1
   ·rw [if_pos hv,if_pos (by omega)]
    have hs:pickAt a b i k=some m:=by
     unfold pickAt
     rw [List.find?_range_eq_some]
     refine ⟨?_,by simpa using hml,fun j hj=>by simp [hno j hj]⟩
     unfold pickF
     rw [decide_eq_true hkm,hag,decide_eq_true hv]
     rfl
    rw [hs]
    simp only
    rw [show K + 2 * (b.length - m)=K + 2 * d + 2 by omega]
   ·rw [if_neg hv]
    exact hnext (by unfold pickF;rw [decide_eq_false hv,Bool.and_false,Bool.and_false])
  ·rw [if_neg hag]
   exact hnext (by unfold pickF;rw [show agr a b i m=false by simpa using hag,Bool.false_and,Bool.and_false])
theorem implSteps {a b:List En} (ha:a.length≤60) (hb:b.length≤60):∀ d k (out:List St) K,d≤a.length→k≤b.length→out.length + d≤60→130 * d + 1≤K→impl_CommonOf.l0 K (tabOf a.length b.length (lcsV a b)) out ((a.length - d:Nat):Int) (k:Int) a b=some (out ++ picks a b d k,0):=by
 intro d
 induction d with
 | zero =>
  intro k out K hd hk ho hK
  obtain ⟨K,rfl⟩:∃ m,K=m + 1:=⟨K - 1,by omega⟩
  have t0:=tab_row (m:=a.length) (n:=b.length) (V:=lcsV a b) (i:=a.length) (by omega)
  have tl:=tab_len (m:=a.length) (n:=b.length) (V:=lcsV a b)
  have rl:=row_len (n:=b.length) (V:=lcsV a b a.length)
  have hrow:=row_at (n:=b.length) (V:=lcsV a b a.length) (k:=k) (by omega)
  simp only [impl_CommonOf.l0,Nat.sub_zero]
  rw [if_pos (by omega),if_pos (by omega),if_pos (by omega),t0,if_pos (by omega),hrow,lcsV_end (.inl (Nat.le_refl _)),if_neg (by omega),picks,List.append_nil]
 | succ d ih =>
  intro k out K hd hk ho hK
  have hil:a.length - (d + 1) < a.length:=by omega
  have hn1:((a.length - d:Nat):Int)=((a.length - (d + 1):Nat):Int) + 1:=by omega
  have t0:=tab_row (m:=a.length) (n:=b.length) (V:=lcsV a b) (i:=a.length - (d + 1)) (by omega)
  have tl:=tab_len (m:=a.length) (n:=b.length) (V:=lcsV a b)
  have rl:=row_len (n:=b.length) (V:=lcsV a b (a.length - (d + 1)))
  have hrow:=row_at (n:=b.length) (V:=lcsV a b (a.length - (d + 1))) (k:=k) (by omega)
  obtain ⟨K,rfl⟩:∃ m,K=(m + 2 * (b.length - k) + 2) + 1:=⟨K - 2 * (b.length - k) - 3,by omega⟩
  generalize hK2:K + 2 * (b.length - k) + 2=K2
  by_cases hp:0 < lcsV a b (a.length - (d + 1)) k
  ·have e:=implRow ha hb hil hk out (by omega) hp K (b.length - k) k (by omega) (Nat.le_refl _) (fun j hj=>by
    unfold pickF
    rw [decide_eq_false (by omega),Bool.false_and])
   rw [hK2] at e
   simp only [impl_CommonOf.l0]
   rw [if_pos (by omega),if_pos (by omega),if_pos (by omega),t0,if_pos (by omega),hrow,if_pos hp,e,picks]
   cases hpk:pickAt a b (a.length - (d + 1)) k with
   | some m =>
    obtain ⟨p1,p2,p3,p4,p5⟩:=pickAt_some hpk
    simp only
    have:=ih (m + 1) (out ++ [(⟨((a.length - (d + 1):Nat):Int),(m:Int)⟩:St)]) (K + 2 * (b.length - m)) (by omega) (by omega) (by rw [List.length_append,List.length_singleton];omega) (by omega)
    rw [hn1,show ((m + 1:Nat):Int)=(m:Int) + 1 by omega] at this
    rw [this,List.append_assoc]
    rfl
   | none =>
    simp only
    have:=ih k out K (by omega) hk (by omega) (by omega)
    rw [hn1] at this
    exact this
  ·have h0:lcsV a b (a.length - (d + 1)) k=0:=by have:=lcsV_b (a:=a) (b:=b) (a.length - (d + 1)) k;omega
   simp only [impl_CommonOf.l0]
   rw [if_pos (by omega),if_pos (by omega),if_pos (by omega),t0,if_pos (by omega),hrow,if_neg hp,picks_zero (d + 1) k hd h0 hk,List.append_nil]
def resCommon (a b:List En):List St × Int:=if validG a=true∧validG b=true then (picks a b a.length 0,0) else ([],1)
theorem implCommon_eq {k:Nat} {a b:List En} (ha:a.length≤1048576) (hb:b.length≤1048576) (hk:100001≤k):impl_CommonOf.f k a b=some (resCommon a b):=by
 unfold impl_CommonOf.f resCommon
 rw [logsCode_eq ha hb]
 simp only [Option.bind_some]
 by_cases hv:validG a=true∧validG b=true
 ·have h1:=(valid_parts hv.1).1
  have h2:=(valid_parts hv.2).1
  rw [if_pos hv,if_pos rfl,if_pos hv,implTab h1 h2 hk]
  simp only [Option.bind_some]
  have e:=implSteps h1 h2 a.length 0 [] k (Nat.le_refl _) (Nat.zero_le _) (by simpa using h1) (by omega)
  rw [Nat.sub_self] at e
  exact e
 ·rw [if_neg hv,if_neg (by omega),if_neg hv]
theorem specInner {a b:List En} (ha:a.length≤60) (hb:b.length≤60) {P:List Int→Prop} {i:Nat} (hi:i < a.length):∀ q K T,q≤b.length→TabSt a.length b.length (lcsV a b) P i q T→∃ T',TabSt a.length b.length (lcsV a b) P i 0 T'∧spec_CommonOf.l1 (K + q) a b T (i:Int) ((q:Int) - 1)=spec_CommonOf.l1 K a b T' (i:Int) (-1):=by
 intro q
 induction q with
 | zero=>exact fun K T hq h=>⟨T,h,by simp⟩
 | succ q ih =>
  intro K T hq h
  obtain ⟨T',g1,g2⟩:=ih K _ (by omega) (tabSt_set h (by omega) (by omega))
  refine ⟨T',g1,?_⟩
  rw [← g2]
  obtain ⟨h1,h2,h3,h4⟩:=h
  have r1:=h2 (i + 1) (by omega) (by omega)
  have d1:rd_L6 T ((i:Int) + 1)=T.getD (i + 1) []:=by rw [show (i:Int) + 1=((i + 1:Nat):Int) by omega];rfl
  have d0:rd_L6 T (i:Int)=T.getD i []:=rfl
  have e1:=rowSt_get r1 (Nat.zero_le q) (by omega)
  have e2:rd (T.getD (i + 1) []) ((q:Int) + 1)=lcsV a b (i + 1) (q + 1):=by
   have:=rowSt_get r1 (Nat.zero_le (q + 1)) (by omega)
   rwa [show ((q + 1:Nat):Int)=(q:Int) + 1 by omega] at this
  have e3:rd (T.getD i []) ((q:Int) + 1)=lcsV a b i (q + 1):=by
   have:=rowSt_get h3 (Nat.le_refl (q + 1)) (by omega)
   rwa [show ((q + 1:Nat):Int)=(q:Int) + 1 by omega] at this
  have l1:=r1.1
  have l0:=h3.1
  have b2:=lcsV_b (a:=a) (b:=b) (i + 1) (q + 1)
  have hv:=lcsV_in (a:=a) (b:=b) hi (show q < b.length by omega)
  rw [show K + (q + 1)=(K + q) + 1 by omega,show ((q + 1:Nat):Int) - 1=(q:Int) by omega]
  generalize K + q=K1
  simp only [spec_CommonOf.l1]
  rw [if_pos (by omega),if_pos (by omega),if_pos (by omega),w64 (n:=(i:Int) + 1) (by omega) (by omega),w64 (n:=(q:Int) + 1) (by omega) (by omega),if_pos (by omega),if_pos (by omega),if_pos (by omega),d1,if_pos (by omega),if_pos (by omega),d0,if_pos (by omega),e1,e3,l00Max_eq]
  simp only [Option.bind_some]
  rw [if_pos (by omega),if_pos (by omega),if_pos (by omega),agr_spec]
  simp only [Option.bind_some,Int.toNat_natCast]
  generalize hx:mx (lcsV a b (i + 1) q) (lcsV a b i (q + 1))=x at *
  have f0:rd_L6 (T.set i ((T.getD i []).set q x)) (i:Int)=(T.getD i []).set q x:=getD_set_self (by omega)
  have f1:rd_L6 (T.set i ((T.getD i []).set q x)) ((i:Int) + 1)=T.getD (i + 1) []:=by
   rw [show (i:Int) + 1=((i + 1:Nat):Int) by omega]
   exact getD_set_ne (by omega)
  by_cases hag:agr a b i q=true
  ·rw [if_pos hag] at hv
   have m:=mx_ge (lcsV a b (i + 1) q) (lcsV a b i (q + 1))
   rw [hx] at m
   have s1:=lcsV_k (a:=a) (b:=b) (i + 1) q
   have s2:=lcsV_i (a:=a) (b:=b) i (q + 1)
   have s0:=lcsV_b (a:=a) (b:=b) i q
   have g0:rd ((T.getD i []).set q x) (q:Int)=x:=by
    have hq':q < (T.getD i []).length:=by omega
    revert hq'
    generalize T.getD i []=r
    intro hq'
    simp [rd,List.getD_eq_getElem?_getD,List.getElem?_set_self hq']
   rw [if_pos hag,f0,if_pos (by rw [List.length_set];omega),f1,if_pos (by omega),g0,e2,w64 (n:=1 + lcsV a b (i + 1) (q + 1)) (by omega) (by omega),l00Max_eq]
   simp only [Option.bind_some]
   rw [List.set_set,List.set_set,w64 (by omega) (by omega),show mx x (1 + lcsV a b (i + 1) (q + 1))=lcsV a b i q by unfold mx;split <;> omega]
  ·rw [if_neg hag] at hv
   rw [if_neg hag,w64 (by omega) (by omega),hv]
theorem specOuter {a b:List En} (ha:a.length≤60) (hb:b.length≤60):∀ j K T,j≤a.length→T.length=a.length + 1→(∀ i',j≤i'→i'≤a.length→RowSt b.length (lcsV a b i') 0 (T.getD i' []))→(∀ i',i' < j→T.getD i' []=List.replicate (b.length + 1) 0)→spec_CommonOf.l0 (K + 1 + j * (b.length + 2)) a b T ((j:Int) - 1)=spec_CommonOf.l2 K a b (tabOf a.length b.length (lcsV a b)) [] 0 0:=by
 intro j
 induction j with
 | zero =>
  intro K T hj hl hr hp
  rw [Nat.zero_mul,Nat.add_zero,show ((0:Nat):Int) - 1=-1 from rfl]
  simp only [spec_CommonOf.l0]
  rw [if_neg (by omega),tab_eq hl (fun i' hi'=>hr i' (Nat.zero_le _) hi')]
 | succ j ih =>
  intro K T hj hl hr hp
  have hst:TabSt a.length b.length (lcsV a b) (fun r=>r=List.replicate (b.length + 1) 0) j b.length T:=by
   refine ⟨hl,fun i' hi' hm'=>hr i' (by omega) hm',?_,fun i' hi'=>hp i' (by omega)⟩
   rw [hp j (by omega)]
   refine ⟨by simp,fun k hk hn=>?_⟩
   obtain rfl:k=b.length:=by omega
   rw [lcsV_end (.inr (Nat.le_refl _)),List.getElem?_replicate,if_pos (by omega)]
  obtain ⟨T',g1,g2⟩:=specInner ha hb (by omega:j < a.length) b.length (K + 1 + j * (b.length + 2) + 1) T (Nat.le_refl _) hst
  have hK:K + 1 + (j + 1) * (b.length + 2)=(K + 1 + j * (b.length + 2) + 1 + b.length) + 1:=by rw [Nat.succ_mul];omega
  rw [hK,show ((j + 1:Nat):Int) - 1=(j:Int) by omega]
  generalize hK2:K + 1 + j * (b.length + 2) + 1 + b.length=K2 at *
  simp only [spec_CommonOf.l0]
  rw [if_pos (by omega),w64 (by omega) (by omega),g2]
  generalize hK3:K + 1 + j * (b.length + 2)=K3 at *
  simp only [spec_CommonOf.l1]
  rw [if_neg (by omega),w64 (by omega) (by omega),← hK3]
  refine ih K T' (by omega) g1.1 (fun i' hi' hm'=>?_) (fun i' hi'=>g1.2.2.2 i' hi')
  rcases Nat.eq_or_lt_of_le hi' with e|e
  ·subst e
   exact g1.2.2.1
  ·exact g1.2.1 i' e hm'
theorem specRow {a b:List En} (ha:a.length≤60) (hb:b.length≤60) {i k:Nat} (hi:i < a.length) (hk:k≤b.length) (out:List St) (ho:out.length≤60) (hinv:(out.length:Int) + lcsV a b i k=lcsV a b 0 0) (K:Nat):∀ d m,m + d=b.length→k≤m→(∀ j,j < m→pickF a b i k j=false) →
  spec_CommonOf.l3 (K + d + 1) a b (tabOf a.length b.length (lcsV a b)) out (k:Int) (i:Int) (m:Int)=(match pickAt a b i k with|some m'=>spec_CommonOf.l2 (K + (b.length - m')) a b (tabOf a.length b.length (lcsV a b)) (out ++ [(⟨(i:Int),(m':Int)⟩:St)]) ((m':Int) + 1) ((i:Int) + 1)|none=>spec_CommonOf.l2 K a b (tabOf a.length b.length (lcsV a b)) out (k:Int) ((i:Int) + 1)):=by
 have t1:=tab_row (m:=a.length) (n:=b.length) (V:=lcsV a b) (i:=i + 1) (by omega)
 rw [show ((i + 1:Nat):Int)=(i:Int) + 1 by omega] at t1
 have t00:=tab_row (m:=a.length) (n:=b.length) (V:=lcsV a b) (i:=0) (by omega)
 rw [show ((0:Nat):Int)=0 from rfl] at t00
 have r00:=row_at (n:=b.length) (V:=lcsV a b 0) (k:=0) (by omega)
 rw [show ((0:Nat):Int)=0 from rfl] at r00
 have tl:=tab_len (m:=a.length) (n:=b.length) (V:=lcsV a b)
 have rl:=fun i=>row_len (n:=b.length) (V:=lcsV a b i)
 intro d
 induction d with
 | zero =>
  intro m hm hkm hno
  have hnone:pickAt a b i k=none:=by
   unfold pickAt
   rw [List.find?_eq_none]
   intro j hj
   rw [hno j (by have:=List.mem_range.1 hj;omega)]
   simp
  rw [hnone]
  simp only [Nat.add_zero]
  simp only [spec_CommonOf.l3]
  rw [if_neg (by omega),w64 (by omega) (by omega)]
 | succ d ih =>
  intro m hm hkm hno
  have hml:m < b.length:=by omega
  rw [show K + (d + 1) + 1=(K + d + 1) + 1 by omega]
  generalize hK:K + d + 1=K1
  simp only [spec_CommonOf.l3]
  have hrow1:=row_at (n:=b.length) (V:=lcsV a b (i + 1)) (k:=m + 1) (by omega)
  rw [show ((m + 1:Nat):Int)=(m:Int) + 1 by omega] at hrow1
  have b1:=lcsV_b (a:=a) (b:=b) (i + 1) (m + 1)
  rw [if_pos (by omega),if_pos (by omega),if_pos (by omega),if_pos (by omega),agr_spec,w64 (n:=(i:Int) + 1) (by omega) (by omega),w64 (n:=(m:Int) + 1) (by omega) (by omega),t1,hrow1,w64 (n:=(out.length:Int) + 1) (by omega) (by omega),w64 (n:=(out.length:Int) + 1 + lcsV a b (i + 1) (m + 1)) (by omega) (by omega),t00,r00]
  simp only [Option.bind_some]
  have hnext:pickF a b i k m=false→spec_CommonOf.l3 K1 a b (tabOf a.length b.length (lcsV a b)) out (k:Int) (i:Int) ((m:Int) + 1)=(match pickAt a b i k with|some m'=>spec_CommonOf.l2 (K + (b.length - m')) a b (tabOf a.length b.length (lcsV a b)) (out ++ [(⟨(i:Int),(m':Int)⟩:St)]) ((m':Int) + 1) ((i:Int) + 1)|none=>spec_CommonOf.l2 K a b (tabOf a.length b.length (lcsV a b)) out (k:Int) ((i:Int) + 1)):=fun hf=>by
   have:=ih (m + 1) (by omega) (by omega) (fun j hj=>by
    rcases Nat.lt_succ_iff_lt_or_eq.1 hj with e|e
    ·exact hno j e
    ·subst e;exact hf)
   rw [hK] at this
   rwa [show ((m + 1:Nat):Int)=(m:Int) + 1 by omega] at this
  by_cases hag:agr a b i m=true
  ·rw [if_pos hag,if_pos (by omega),if_pos (by omega),if_pos (by omega),if_pos (by rw [rl];omega),if_pos (by omega),if_pos (by rw [rl];omega)]
   by_cases hv:lcsV a b (i + 1) (m + 1)=lcsV a b i k - 1
   ·rw [if_pos (by omega),if_pos (by omega)]
    have hs:pickAt a b i k=some m:=by
     unfold pickAt
     rw [List.find?_range_eq_some]
     refine ⟨?_,by simpa using hml,fun j hj=>by simp [hno j hj]⟩
     unfold pickF
     rw [decide_eq_true hkm,hag,decide_eq_true hv]
     rfl
    rw [hs,← hK]
    simp only
    rw [show K + (b.length - m)=K + d + 1 by omega]
   ·rw [if_neg (by omega)]
    exact hnext (by unfold pickF;rw [decide_eq_false hv,Bool.and_false,Bool.and_false])
  ·rw [if_neg hag]
   exact hnext (by unfold pickF;rw [show agr a b i m=false by simpa using hag,Bool.false_and,Bool.and_false])
theorem specSteps {a b:List En} (ha:a.length≤60) (hb:b.length≤60):∀ d k (out:List St) K,d≤a.length→k≤b.length→out.length + d≤60→(out.length:Int) + lcsV a b (a.length - d) k=lcsV a b 0 0→70 * d + 1≤K→spec_CommonOf.l2 K a b (tabOf a.length b.length (lcsV a b)) out (k:Int) ((a.length - d:Nat):Int)=some (out ++ picks a b d k,0):=by
 intro d
 induction d with
 | zero =>
  intro k out K hd hk ho hinv hK
  obtain ⟨K,rfl⟩:∃ m,K=m + 1:=⟨K - 1,by omega⟩
  simp only [spec_CommonOf.l2,Nat.sub_zero]
  rw [if_neg (by omega),picks,List.append_nil]
 | succ d ih =>
  intro k out K hd hk ho hinv hK
  have hil:a.length - (d + 1) < a.length:=by omega
  have hn1:((a.length - d:Nat):Int)=((a.length - (d + 1):Nat):Int) + 1:=by omega
  obtain ⟨K,rfl⟩:∃ m,K=(m + (b.length - k) + 1) + 1:=⟨K - (b.length - k) - 2,by omega⟩
  have e:=specRow ha hb hil hk out (by omega) hinv K (b.length - k) k (by omega) (Nat.le_refl _) (fun j hj=>by
   unfold pickF
   rw [decide_eq_false (by omega),Bool.false_and])
  generalize hK2:K + (b.length - k) + 1=K2 at *
  simp only [spec_CommonOf.l2]
  rw [if_pos (by omega),e,picks]
  cases hpk:pickAt a b (a.length - (d + 1)) k with
  | some m =>
   obtain ⟨p1,p2,p3,p4,p5⟩:=pickAt_some hpk
   simp only
   have:=ih (m + 1) (out ++ [(⟨((a.length - (d + 1):Nat):Int),(m:Int)⟩:St)]) (K + (b.length - m)) (by omega) (by omega) (by rw [List.length_append,List.length_singleton];omega) (by
    rw [List.length_append,List.length_singleton,show a.length - d=a.length - (d + 1) + 1 by omega]
    omega) (by omega)
   rw [hn1,show ((m + 1:Nat):Int)=(m:Int) + 1 by omega] at this
   rw [this,List.append_assoc]
   rfl
  | none =>
   have hps:=pick_pass hil hk hpk
   simp only
   have:=ih k out K (by omega) hk (by omega) (by rw [show a.length - d=a.length - (d + 1) + 1 by omega,hps];exact hinv) (by omega)
   rw [hn1] at this
   exact this
theorem specCommon_eq {k:Nat} {a b:List En} (hk:100100≤k):spec_CommonOf.f k a b=some (resCommon a b):=by
 unfold spec_CommonOf.f resCommon
 rw [specOk_log (by omega),specOk_log (by omega)]
 simp only [Option.bind_some]
 obtain ⟨k,rfl⟩:∃ j,k=j + 1:=⟨k - 1,by omega⟩
 cases h1:validG a with
 | false=>simp [spec_CommonOf.j0]
 | true =>
  cases h2:validG b with
  | false=>simp [spec_CommonOf.j0]
  | true =>
   have ha:=(valid_parts h1).1
   have hb:=(valid_parts h2).1
   simp only [if_true,and_self,Bool.not_true]
   simp only [spec_CommonOf.j0]
   rw [if_neg (by simp),specBegin_eq ha hb (by omega)]
   simp only [Option.bind_some]
   rw [w64 (by omega) (by omega)]
   have hm:a.length * (b.length + 2)≤60 * 62:=Nat.mul_le_mul ha (by omega)
   have e:=specOuter ha hb a.length (k - 1 - a.length * (b.length + 2)) (List.replicate (a.length + 1) (List.replicate (b.length + 1) 0)) (Nat.le_refl _) (by simp) (fun i' h3 h4=>by
    obtain rfl:i'=a.length:=by omega
    rw [List.getD_eq_getElem?_getD,List.getElem?_replicate,if_pos (by omega)]
    refine ⟨by simp,fun k hk hn=>?_⟩
    simp only [Option.getD_some]
    rw [lcsV_end (.inl (Nat.le_refl _)),List.getElem?_replicate,if_pos (by omega)]) (fun i' hi'=>by
    rw [List.getD_eq_getElem?_getD,List.getElem?_replicate,if_pos (by omega)]
    rfl)
   rw [show k - 1 - a.length * (b.length + 2) + 1 + a.length * (b.length + 2)=k by omega] at e
   rw [e]
   have e2:=specSteps ha hb a.length 0 [] (k - 1 - a.length * (b.length + 2)) (Nat.le_refl _) (Nat.zero_le _) (by simpa using ha) (by simp [Nat.sub_self]) (by omega)
   rw [Nat.sub_self] at e2
   exact e2
theorem u64_range (y:Int):0≤IntKind.u64.wrap y∧IntKind.u64.wrap y≤18446744073709551615:=by
 rw [IntKind.wrap_u64]
 omega
theorem low_byte {x:Int} (h:0≤x∧x≤18446744073709551615):0≤wrap64 (Go.bits .and .u64 (x / 1099511627776) 255)∧wrap64 (Go.bits .and .u64 (x / 1099511627776) 255)≤255:=by
 have hx:0≤x / 1099511627776∧x / 1099511627776≤18446744073709551615:=by omega
 generalize x / 1099511627776=y at *
 obtain ⟨n,rfl⟩:∃ n:Nat,y=(n:Int):=⟨y.toNat,by omega⟩
 have e:Go.bits .and .u64 (n:Int) ((255:Nat):Int)=((n &&& 255:Nat):Int):=bits_and_u64_nat n 255 (by omega) (by omega)
 have e2:Go.bits .and .u64 (n:Int) 255=((n &&& 255:Nat):Int):=e
 have hb:n &&& 255≤255:=Nat.and_le_right
 rw [e2,w64 (by omega) (by omega)]
 omega
def Bytes (code:List Int):Prop:=∀ x∈code,0≤x∧x≤255
theorem bytes_at {code:List Int} (hc:Bytes code) {i:Int} (h0:0≤i) (h1:i < (code.length:Int)):0≤rd code i∧rd code i≤255:=by
 obtain ⟨j,rfl⟩:∃ j:Nat,i=(j:Int):=⟨i.toNat,by omega⟩
 have hj:j < code.length:=by omega
 have:rd code (j:Int)=code[j]:=by simp [rd,List.getD_eq_getElem?_getD,List.getElem?_eq_getElem hj]
 rw [this]
 exact hc _ (List.getElem_mem hj)
theorem next_ok {code:List Int} (hc:Bytes code) {at_ seed:Int} (ha:0≤at_∧at_≤1000000):∃ n s,spec_l00Src_next.f code at_ seed=some (n,at_ + 1,s)∧0≤n∧n≤255:=by
 unfold spec_l00Src_next.f
 rw [w64 (n:=at_ + 1) (by omega) (by omega)]
 by_cases h1:at_ < (code.length:Int)
 ·have hb:=bytes_at hc ha.1 h1
  rw [if_pos h1,if_pos ha.1,if_pos (by omega)]
  exact ⟨_,_,rfl,by rw [w64 (by omega) (by omega)];exact hb⟩
 ·rw [if_neg h1,if_neg (by omega)]
  exact ⟨_,_,rfl,low_byte (u64_range _)⟩
theorem pick_ok {code:List Int} (hc:Bytes code) {at_ seed a:Int} (ha:0≤at_∧at_≤1000000) (h1:1 < a) (h2:a≤200):∃ n s,spec_l00Src_pick.f code at_ seed a=some (n,at_ + 1,s)∧0≤n∧n < a:=by
 obtain ⟨n,s,e,hn⟩:=next_ok hc (seed:=seed) ha
 unfold spec_l00Src_pick.f
 rw [if_neg (by omega),e]
 simp only [Option.bind_some]
 rw [if_neg (by omega),if_neg (by omega)]
 refine ⟨_,_,rfl,?_⟩
 rw [Int.tmod_eq_emod_of_nonneg hn.1]
 exact ⟨Int.emod_nonneg _ (by omega),Int.emod_lt_of_pos _ (by omega)⟩
theorem nxt3 {a b:List En} {i k:Nat} (hi:i≤a.length) (hk:k≤b.length) (h:i < a.length∨k < b.length) :
  (i < a.length∧k < b.length∧fitC (rd_T43 a (i:Int)) (rd_T43 b (k:Int))=true∧costV a b i k=costV a b (i + 1) (k + 1) + costC (rd_T43 a (i:Int)) (rd_T43 b (k:Int))∧nxtS a b i k=(⟨(i:Int),(k:Int)⟩,i + 1,k + 1)) ∨
  (i < a.length∧costV a b i k=costV a b (i + 1) k + 1∧nxtS a b i k=(⟨(i:Int),-1⟩,i + 1,k)) ∨
  (k < b.length∧costV a b i k=costV a b i (k + 1) + 2∧nxtS a b i k=(⟨-1,(k:Int)⟩,i,k + 1)):=by
 have hn:=nxt_in hi hk h
 by_cases hb:bothS a b i k=true
 ·left
  have hb':=hb
  simp only [bothS,Bool.and_eq_true,decide_eq_true_eq,beq_iff_eq] at hb
  exact ⟨hb.1.1.1,hb.1.1.2,hb.1.2,hb.2,by unfold nxtS;rw [if_pos hb']⟩
 ·by_cases hd:dropS a b i k=true
  ·right;left
   have hd':=hd
   simp only [dropS,Bool.and_eq_true,decide_eq_true_eq,beq_iff_eq] at hd
   exact ⟨hd.1,hd.2,by unfold nxtS;rw [if_neg hb,if_pos hd']⟩
  ·right;right
   have e:nxtS a b i k=(⟨-1,(k:Int)⟩,i,k + 1):=by unfold nxtS;rw [if_neg hb,if_neg hd]
   rw [e] at hn
   have hkb:k < b.length:=by simp only at hn;omega
   refine ⟨hkb,?_,e⟩
   rcases Nat.lt_or_ge i a.length with hia|hia
   ·have hin:=costV_in (a:=a) (b:=b) hia hkb
    have m1:=mn_le (costV a b (i + 1) k + 1) (costV a b i (k + 1) + 2)
    have m2:=mn_le (mn (costV a b (i + 1) k + 1) (costV a b i (k + 1) + 2)) (costV a b (i + 1) (k + 1) + costC (rd_T43 a (i:Int)) (rd_T43 b (k:Int)))
    have hd2:costV a b i k≠costV a b (i + 1) k + 1:=fun h_=>hd (by simp only [dropS,Bool.and_eq_true,decide_eq_true_eq,beq_iff_eq];exact ⟨hia,h_⟩)
    by_cases hf:fitC (rd_T43 a (i:Int)) (rd_T43 b (k:Int))=true
    ·have hb2:costV a b i k≠costV a b (i + 1) (k + 1) + costC (rd_T43 a (i:Int)) (rd_T43 b (k:Int)):=fun h_=>hb (by simp only [bothS,Bool.and_eq_true,decide_eq_true_eq,beq_iff_eq];exact ⟨⟨⟨hia,hkb⟩,hf⟩,h_⟩)
     rw [if_pos hf] at hin
     omega
    ·rw [if_neg hf] at hin
     omega
   ·obtain rfl:i=a.length:=by omega
    rw [costV_end1 hk,costV_end1 (by omega)]
    omega
def extN (l:List St):Nat:=(l.filter (fun s=>decide (s.f0 < 0))).length
theorem extN_cons (s:St) (l:List St):extN (s :: l)=(if s.f0 < 0 then 1 else 0) + extN l:=by
 unfold extN
 rw [List.filter_cons]
 by_cases h:s.f0 < 0
 ·rw [if_pos (by simpa using h),if_pos h,List.length_cons];omega
 ·rw [if_neg (by simpa using h),if_neg h];omega
structure StoTold (a b:List En) (S:List St) (i k:Nat):Prop where
 chk_:∀ all,chk a b S all i k=(all + costV a b i k,0)
 cost:costV a b i k=((S.flatMap pickM).length:Int) + ((S.flatMap (pickR a b)).length:Int) + 2 * (extN S:Int)
 count:(a.length:Int) - i - ((S.flatMap pickM).length:Int)=(b.length:Int) - k - (extN S:Int)
 lcs:(a.length:Int) - i - ((S.flatMap pickM).length:Int) - ((S.flatMap (pickR a b)).length:Int)≤lcsV a b i k
theorem sto_told {a b:List En}:∀ d i k,i≤a.length→k≤b.length→a.length + b.length≤d + (i + k)→StoTold a b (sto a b d i k) i k:=by
 intro d
 induction d with
 | zero =>
  intro i k hi hk hd
  obtain rfl:i=a.length:=by omega
  obtain rfl:k=b.length:=by omega
  have hc:=costV_end1 (a:=a) (b:=b) (Nat.le_refl b.length)
  have hl:=lcsV_b (a:=a) (b:=b) a.length b.length
  refine ⟨fun all=>?_,?_,?_,?_⟩
  ·rw [sto,chk,if_neg (by omega),if_neg (by omega),hc];simp
  ·rw [hc];simp [sto,extN]
  ·simp [sto,extN]
  ·simp only [sto,List.flatMap_nil,List.length_nil];omega
 | succ d ih =>
  intro i k hi hk hd
  rw [sto]
  by_cases h:i < a.length∨k < b.length
  ·rw [if_pos h]
   rcases nxt3 hi hk h with ⟨h1,h2,h3,h4,h5⟩|⟨h1,h4,h5⟩|⟨h2,h4,h5⟩
   ·have I:=ih (i + 1) (k + 1) (by omega) (by omega) (by omega)
    rw [h5]
    simp only
    generalize sto a b d (i + 1) (k + 1)=S at *
    have hM:pickM ⟨(i:Int),(k:Int)⟩=[]:=if_neg (by simp only;omega)
    have hE:extN (⟨(i:Int),(k:Int)⟩ :: S)=extN S:=by rw [extN_cons,if_neg (by simp only;omega)];omega
    have hlc:lcsV a b (i + 1) (k + 1)≤lcsV a b i k:=by
     have q1:=lcsV_i (a:=a) (b:=b) i (k + 1)
     have q2:=lcsV_k (a:=a) (b:=b) i k
     omega
    have c1:=I.cost
    have c2:=I.count
    have c3:=I.lcs
    by_cases hs:(rd_T43 a (i:Int)).f1=(rd_T43 b (k:Int)).f1
    ·have hR:pickR a b ⟨(i:Int),(k:Int)⟩=[]:=if_neg (fun h_=>h_.2.2 hs)
     have hC:costC (rd_T43 a (i:Int)) (rd_T43 b (k:Int))=0:=if_pos hs
     have hag:agr a b i k=true:=by
      unfold agr
      unfold fitC at h3
      rw [decide_eq_true hs,h3];rfl
     have hl2:=lcsV_in (a:=a) (b:=b) h1 h2
     rw [if_pos hag] at hl2
     refine ⟨fun all=>?_,?_,?_,?_⟩
     ·rw [chk,if_pos ⟨rfl,h1⟩,if_pos ⟨rfl,h2⟩,if_pos h3,I.chk_,h4,Int.add_assoc,Int.add_comm (costC _ _)]
     ·rw [List.flatMap_cons,List.flatMap_cons,hM,hR,hE,h4,hC];simp only [List.nil_append];omega
     ·rw [List.flatMap_cons,hM,hE];simp only [List.nil_append];omega
     ·rw [List.flatMap_cons,List.flatMap_cons,hM,hR];simp only [List.nil_append];omega
    ·have hR:pickR a b ⟨(i:Int),(k:Int)⟩=[(i:Int)]:=if_pos ⟨by simp only;omega,by simp only;omega,hs⟩
     have hC:costC (rd_T43 a (i:Int)) (rd_T43 b (k:Int))=1:=if_neg hs
     refine ⟨fun all=>?_,?_,?_,?_⟩
     ·rw [chk,if_pos ⟨rfl,h1⟩,if_pos ⟨rfl,h2⟩,if_pos h3,I.chk_,h4,Int.add_assoc,Int.add_comm (costC _ _)]
     ·rw [List.flatMap_cons,List.flatMap_cons,hM,hR,hE,h4,hC];simp only [List.nil_append,List.length_append,List.length_singleton];omega
     ·rw [List.flatMap_cons,hM,hE];simp only [List.nil_append];omega
     ·rw [List.flatMap_cons,List.flatMap_cons,hM,hR];simp only [List.nil_append,List.length_append,List.length_singleton];omega
   ·have I:=ih (i + 1) k (by omega) (by omega) (by omega)
    rw [h5]
    simp only
    generalize sto a b d (i + 1) k=S at *
    have hM:pickM ⟨(i:Int),-1⟩=[(i:Int)]:=if_pos (by simp only;omega)
    have hR:pickR a b ⟨(i:Int),-1⟩=[]:=if_neg (fun h_=>by have:=h_.2.1;simp only at this;omega)
    have hE:extN (⟨(i:Int),-1⟩ :: S)=extN S:=by rw [extN_cons,if_neg (by simp only;omega)];omega
    have hlc:=(lcsV_i (a:=a) (b:=b) i k).2
    have c1:=I.cost
    have c2:=I.count
    have c3:=I.lcs
    refine ⟨fun all=>?_,?_,?_,?_⟩
    ·rw [chk,if_pos ⟨rfl,h1⟩,if_neg (fun h_=>by have:=h_.1;simp only at this;omega),if_pos rfl,I.chk_,h4,Int.add_assoc,Int.add_comm 1]
    ·rw [List.flatMap_cons,List.flatMap_cons,hM,hR,hE,h4];simp only [List.nil_append,List.length_append,List.length_singleton];omega
    ·rw [List.flatMap_cons,hM,hE];simp only [List.length_append,List.length_singleton];omega
    ·rw [List.flatMap_cons,List.flatMap_cons,hM,hR];simp only [List.nil_append,List.length_append,List.length_singleton];omega
   ·have I:=ih i (k + 1) (by omega) (by omega) (by omega)
    rw [h5]
    simp only
    generalize sto a b d i (k + 1)=S at *
    have hM:pickM ⟨-1,(k:Int)⟩=[]:=if_neg (by simp only;omega)
    have hR:pickR a b ⟨-1,(k:Int)⟩=[]:=if_neg (fun h_=>by have:=h_.1;simp only at this;omega)
    have hE:extN (⟨-1,(k:Int)⟩ :: S)=1 + extN S:=by rw [extN_cons,if_pos (by simp only;omega)]
    have hlc:=(lcsV_k (a:=a) (b:=b) i k).2
    have c1:=I.cost
    have c2:=I.count
    have c3:=I.lcs
    refine ⟨fun all=>?_,?_,?_,?_⟩
    ·rw [chk,if_neg (fun h_=>by have:=h_.1;simp only at this;omega),if_pos ⟨rfl,h2⟩,if_pos rfl,I.chk_,h4,Int.add_assoc,Int.add_comm 2]
    ·rw [List.flatMap_cons,List.flatMap_cons,hM,hR,hE,h4];simp only [List.nil_append];omega
    ·rw [List.flatMap_cons,hM,hE];simp only [List.nil_append];omega
    ·rw [List.flatMap_cons,List.flatMap_cons,hM,hR];simp only [List.nil_append];omega
  ·rw [if_neg h]
   obtain rfl:i=a.length:=by omega
   obtain rfl:k=b.length:=by omega
   have hc:=costV_end1 (a:=a) (b:=b) (Nat.le_refl b.length)
   have hl:=lcsV_b (a:=a) (b:=b) a.length b.length
   refine ⟨fun all=>?_,?_,?_,?_⟩
   ·rw [chk,if_neg (by omega),if_neg (by omega),hc];simp
   ·rw [hc];simp [extN]
   ·simp [extN]
   ·simp only [List.flatMap_nil,List.length_nil];omega
theorem story_told (a b:List En):StoTold a b (storyL a b) 0 0:=sto_told _ 0 0 (Nat.zero_le _) (Nat.zero_le _) (by omega)
theorem cost_self {a:List En}:∀ d i,i + d=a.length→costV a a i i=0:=by
 intro d
 induction d with
 | zero =>
  intro i hi
  obtain rfl:i=a.length:=by omega
  rw [costV_end1 (Nat.le_refl _)];omega
 | succ d ih =>
  intro i hi
  have h1:i < a.length:=by omega
  have e:=ih (i + 1) (by omega)
  have b1:=costW_b a a (a.length - (i + 1)) (a.length - i)
  have b2:=costW_b a a (a.length - i) (a.length - (i + 1))
  have hf:fitC (rd_T43 a (i:Int)) (rd_T43 a (i:Int))=true:=by simp [fitC]
  have hc:costC (rd_T43 a (i:Int)) (rd_T43 a (i:Int))=0:=if_pos rfl
  rw [costV_in h1 h1,if_pos hf,e,hc]
  have m1:=mn_le (costV a a (i + 1) i + 1) (costV a a i (i + 1) + 2)
  have m2:=mn_le (mn (costV a a (i + 1) i + 1) (costV a a i (i + 1) + 2)) (0 + 0)
  unfold costV at m1 m2 ⊢
  omega
def dropL (i n:Nat):List St:=(List.range' i n).map fun (j:Nat)=>⟨(j:Int),-1⟩
def extL (k n:Nat):List St:=(List.range' k n).map fun (j:Nat)=>⟨-1,(j:Int)⟩
theorem chk_ext {a b:List En}:∀ d k all,k + d=b.length→chk a b (extL k d) all a.length k=(all + 2 * (d:Int),0):=by
 intro d
 induction d with
 | zero=>intro k all hk;unfold extL;rw [List.range'_zero,List.map_nil,chk,if_neg (by omega),if_neg (by omega)];simp
 | succ d ih =>
  intro k all hk
  unfold extL
  rw [List.range'_succ,List.map_cons,chk,if_neg (fun h_=>by have:=h_.2;omega),if_pos ⟨rfl,by omega⟩,if_pos rfl]
  have:=ih (k + 1) (all + 2) (by omega)
  unfold extL at this
  rw [this]
  simp only [Prod.mk.injEq,and_true]
  omega
theorem chk_drop {a b:List En} (E:List St):∀ d i all,i + d=a.length→chk a b (dropL i d ++ E) all i 0=chk a b E (all + (d:Int)) a.length 0:=by
 intro d
 induction d with
 | zero =>
  intro i all hi
  obtain rfl:i=a.length:=by omega
  unfold dropL
  rw [List.range'_zero,List.map_nil,List.nil_append]
  simp
 | succ d ih =>
  intro i all hi
  unfold dropL
  rw [List.range'_succ,List.map_cons,List.cons_append,chk,if_pos ⟨rfl,by omega⟩,if_neg (fun h_=>by have:=h_.1;simp only at this;omega),if_pos rfl]
  have:=ih (i + 1) (all + 1) (by omega)
  unfold dropL at this
  rw [this,Int.add_assoc,show (1:Int) + (d:Int)=((d + 1:Nat):Int) by omega]
theorem chk_all (a b:List En):chk a b (dropL 0 a.length ++ extL 0 b.length) 0 0 0=((a.length:Int) + 2 * (b.length:Int),0):=by
 rw [chk_drop _ a.length 0 0 (by omega),chk_ext b.length 0 _ (by omega)]
 simp
theorem cost_most (a b:List En):costV a b 0 0≤(a.length:Int) + 2 * (b.length:Int):=by
 have:=costW_b a b a.length b.length
 unfold costV
 simpa using this.2
theorem picks_lcs {a b:List En}:∀ d k,d≤a.length→k≤b.length→((picks a b d k).length:Int)=lcsV a b (a.length - d) k:=by
 intro d
 induction d with
 | zero =>
  intro k _ _
  rw [picks,lcsV_end (.inl (by omega))]
  rfl
 | succ d ih =>
  intro k hd hk
  rw [picks]
  cases hp:pickAt a b (a.length - (d + 1)) k with
  | some m =>
   have h:=pickAt_some hp
   have e:=ih (m + 1) (by omega) (by omega)
   rw [show a.length - d=a.length - (d + 1) + 1 by omega] at e
   simp only [List.length_cons]
   omega
  | none =>
   have h:=pick_pass (a:=a) (b:=b) (by omega) hk hp
   have e:=ih k (by omega) hk
   rw [show a.length - d=a.length - (d + 1) + 1 by omega] at e
   simp only
   omega
def Rising (a b:List En):Int→Int→List St→Prop
 | _,_,[]=>True
 | p,q,s :: ss=>p < s.f0∧q < s.f1∧s.f0 < (a.length:Int)∧s.f1 < (b.length:Int)∧(rd_T43 a s.f0).f1=(rd_T43 b s.f1).f1∧(rd_T43 a s.f0).f2=(rd_T43 b s.f1).f2∧Rising a b s.f0 s.f1 ss
theorem Rising.weak {a b:List En} {p q p' q':Int} {l:List St} (h:Rising a b p q l) (hp:p'≤p) (hq:q'≤q):Rising a b p' q' l:=by
 cases l with
 | nil=>trivial
 | cons s ss=>exact ⟨by have:=h.1;omega,by have:=h.2.1;omega,h.2.2⟩
theorem picks_rising {a b:List En}:∀ d k,d≤a.length→k≤b.length→Rising a b (((a.length - d:Nat):Int) - 1) ((k:Int) - 1) (picks a b d k):=by
 intro d
 induction d with
 | zero=>intro k _ _;rw [picks];trivial
 | succ d ih =>
  intro k hd hk
  rw [picks]
  cases hp:pickAt a b (a.length - (d + 1)) k with
  | some m =>
   have h:=pickAt_some hp
   have e:=ih (m + 1) (by omega) (by omega)
   have hag:=h.2.2.1
   simp only [agr,Bool.and_eq_true,decide_eq_true_eq] at hag
   simp only
   exact ⟨by simp only;omega,by simp only;omega,by simp only;omega,by simp only;omega,hag.1,hag.2,e.weak (by simp only;omega) (by simp only;omega)⟩
  | none=>exact (ih k (by omega) hk).weak (by omega) (by omega)
theorem one_okT {code:List Int} (hc:Bytes code) {at_ seed a:Int} (ha:0≤at_∧at_≤1000000) (h1:1 < a) (h2:a≤200):∃ b s,spec_l00Src_one.f code at_ seed a=some (b,at_ + 1,s):=by
 obtain ⟨n,s,e,hn⟩:=pick_ok hc (seed:=seed) ha h1 h2
 unfold spec_l00Src_one.f
 rw [e]
 exact ⟨_,_,rfl⟩
theorem seen_in {g:List En} (hg:validG g=true) (lost other from_ by_:Int) (code:List Int) (at_ seed:Int):∀ d i k (out:List En),i + d=g.length→out.length≤i→7000 + d < k →
  ∃ l,spec_l07Seen.l0 k g out lost other from_ by_ (i:Int) code at_ seed=some (l,at_,seed)∧validG l=true:=by
 have h60:=(valid_parts hg).1
 intro d
 induction d with
 | zero =>
  intro i k out hi ho hk
  obtain ⟨k,rfl⟩:∃ m,k=m + 1:=⟨k - 1,by omega⟩
  rw [spec_l07Seen.l0,if_neg (by omega),specOk_log (by omega)]
  simp only [Option.bind_some]
  by_cases h:validG out=true
  ·rw [if_pos h];exact ⟨out,rfl,h⟩
  ·rw [if_neg h,if_pos (by simp only [List.length_nil];omega)]
   exact ⟨g,rfl,hg⟩
 | succ d ih =>
  intro i k out hi ho hk
  obtain ⟨k,rfl⟩:∃ m,k=m + 1:=⟨k - 1,by omega⟩
  have e:=fun o h=>ih (i + 1) k o (by omega) h (by omega)
  rw [show ((i + 1:Nat):Int)=(i:Int) + 1 by omega] at e
  rw [spec_l07Seen.l0,if_pos (by omega),if_pos (by omega),w64 (n:=(i:Int) + 1) (by omega) (by omega)]
  split
  ·exact e _ (by omega)
  ·split
   ·rw [if_pos (by omega)]
    exact e _ (by simp only [List.length_append,List.length_singleton];omega)
   ·rw [if_pos (by omega)]
    exact e _ (by simp only [List.length_append,List.length_singleton];omega)
theorem seen_ok {g:List En} (hg:validG g=true) {code:List Int} (hc:Bytes code) {k:Nat} (hk:10000 < k):∃ l,spec_P6Seen.f k code g=some l∧validG l=true:=by
 have h60:=(valid_parts hg).1
 have hj:∀ lost at_ seed,0≤at_→at_≤100→∃ l a s,spec_l07Seen.j0 k g [] lost code at_ seed=some (l,a,s)∧validG l=true:=by
  intro lost at_ seed h0 h1
  obtain ⟨k,rfl⟩:∃ m,k=m + 1:=⟨k - 1,by omega⟩
  obtain ⟨p1,s1,e1,_⟩:=pick_ok hc (seed:=seed) (a:=9) (at_:=at_) (by omega) (by omega) (by omega)
  obtain ⟨p2,s2,e2,_⟩:=pick_ok hc (seed:=s1) (a:=5) (at_:=at_ + 1) (by omega) (by omega) (by omega)
  obtain ⟨p3,s3,e3,_⟩:=pick_ok hc (seed:=s2) (a:=3) (at_:=at_ + 1 + 1) (by omega) (by omega) (by omega)
  obtain ⟨l,q1,q2⟩:=seen_in hg lost p1 p2 p3 code (at_ + 1 + 1 + 1) s3 g.length 0 k [] (by omega) (by simp) (by omega)
  rw [spec_l07Seen.j0,e1]
  simp only [Option.bind_some]
  rw [e2]
  simp only [Option.bind_some]
  rw [e3]
  simp only [Option.bind_some]
  exact ⟨l,_,_,q1,q2⟩
 unfold spec_P6Seen.f spec_l00From.f spec_l07Seen.f
 simp only [Option.bind_some]
 obtain ⟨b,s,e⟩:=one_okT hc (seed:=0) (a:=2) (at_:=0) (by omega) (by omega) (by omega)
 rw [e]
 simp only [Option.bind_some]
 split
 ·obtain ⟨p,s',e',_⟩:=pick_ok hc (seed:=s) (a:=5) (at_:=0 + 1) (by omega) (by omega) (by omega)
  rw [e']
  simp only [Option.bind_some]
  obtain ⟨l,a,s2,q1,q2⟩:=hj p (0 + 1 + 1) s' (by omega) (by omega)
  rw [q1]
  exact ⟨l,rfl,q2⟩
 ·obtain ⟨l,a,s2,q1,q2⟩:=hj (-1) (0 + 1) s (by omega) (by omega)
  rw [q1]
  exact ⟨l,rfl,q2⟩
theorem valid_snoc {g:List En} (hg:validG g=true) (hl:g.length < 60) {out:List Int} (ho:ups g g.length=some out) {x:En} (hx:lastT g g.length≤x.f0∧x.f0≤100000∧0≤x.f1∧x.f1≤9999) (hd:x.f2=out.any (fun m=>(rd_T43 g m).f1 == x.f1)) :
  validG (g ++ [x])=true∧lastT (g ++ [x]) (g.length + 1)=x.f0:=by
 have ht:(g ++ [x]).take g.length=g:=by simp
 have hrd:rd_T43 (g ++ [x]) (g.length:Int)=x:=by simp [rd_T43,List.getD_eq_getElem?_getD]
 have hin:=(ups_ok ho).2.1
 have hu:ups (g ++ [x]) g.length=some out:=by
  have:=ups_take (l:=g ++ [x]) (Nat.le_refl g.length)
  rw [ht] at this
  rw [← this];exact ho
 have hgd:gd (g ++ [x]) g.length=true:=by
  have:=gd_take (l:=g ++ [x]) (Nat.le_refl g.length)
  rw [ht] at this
  rw [← this];exact (valid_parts hg).2.1
 have hla:lastT (g ++ [x]) g.length=lastT g g.length:=by
  have:=lastT_take (l:=g ++ [x]) (Nat.le_refl g.length)
  rw [ht] at this
  exact this.symm
 have hat:decide (atE (g ++ [x]) g.length out < 0)=!x.f2:=by
  unfold atE impl_Log_up.at
  rw [hrd,hd]
  have hc:out.any (fun m=>(rd_T43 g m).f1 == x.f1)=out.any (fun n=>(rd_T43 (g ++ [x]) n).f1 == x.f1):=by
   rw [Bool.eq_iff_iff,List.any_eq_true,List.any_eq_true]
   have hm:∀ m∈out,rd_T43 (g ++ [x]) m=rd_T43 g m:=fun m hm=>by
    have h1:=hin m hm
    have:=rdE_take' (l:=g ++ [x]) (n:=g.length) (i:=m) h1.1 h1.2
    rw [ht] at this
    exact this.symm
   constructor
   ·rintro ⟨m,h1,h2⟩;exact ⟨m,h1,by rw [hm m h1];exact h2⟩
   ·rintro ⟨m,h1,h2⟩;exact ⟨m,h1,by rw [hm m h1] at h2;exact h2⟩
  rw [hc,← idxP_nonneg]
  rw [Bool.eq_iff_iff]
  simp only [decide_eq_true_eq,Bool.not_eq_true',decide_eq_false_iff_not]
  omega
 have hst:∃ o,upsStep (g ++ [x]) g.length out=some o:=by
  unfold upsStep
  rw [hrd,hat]
  rw [if_neg (by cases x.f2 <;> simp)]
  split
  ·exact ⟨_,rfl⟩
  ·exact ⟨_,rfl⟩
 refine ⟨?_,?_⟩
 ·unfold validG
  rw [List.length_append,List.length_singleton]
  simp only [Bool.and_eq_true,decide_eq_true_eq]
  refine ⟨⟨by omega,?_⟩,?_⟩
  ·rw [gd,hgd,hla,hrd]
   unfold impl_Log_up.good
   rw [decide_eq_true hx.1,decide_eq_true hx.2.1,decide_eq_true hx.2.2.1,decide_eq_true hx.2.2.2];rfl
  ·obtain ⟨o,h⟩:=hst
   rw [ups,hu]
   simp only [Option.bind_some]
   rw [h];rfl
 ·rw [lastT,hrd]
theorem any_loop {g:List En} {out:List Int} (hin:∀ x∈out,0≤x∧x < (g.length:Int)) (hol:out.length≤60) (time x5:Int) (code:List Int) (at_ seed sig:Int):∀ d j k (b:Bool),j + d=out.length→d < k →
  spec_l07Drawn.l1 k g time x5 out (j:Int) code at_ seed time sig b=spec_l07Drawn.l1 (k - d) g time x5 out (out.length:Int) code at_ seed time sig (b || (out.drop j).any (fun m=>(rd_T43 g m).f1 == sig)):=by
 intro d
 induction d with
 | zero =>
  intro j k b hj hk
  obtain rfl:j=out.length:=by omega
  rw [List.drop_of_length_le (by omega)]
  simp
 | succ d ih =>
  intro j k b hj hk
  obtain ⟨k,rfl⟩:∃ m,k=m + 1:=⟨k - 1,by omega⟩
  have hjl:j < out.length:=by omega
  have e:=fun b=>ih (j + 1) k b (by omega) (by omega)
  rw [show ((j + 1:Nat):Int)=(j:Int) + 1 by omega] at e
  have hr:rd out (j:Int)=out[j]:=by simp [rd,List.getD_eq_getElem?_getD,List.getElem?_eq_getElem hjl]
  have hi:=hin _ (List.getElem_mem hjl)
  rw [List.drop_eq_getElem_cons hjl,List.any_cons,show k + 1 - (d + 1)=k - d by omega]
  rw [spec_l07Drawn.l1,if_pos (by omega),w64 (n:=(j:Int) + 1) (by omega) (by omega),hr]
  cases b with
  | true =>
   rw [if_pos rfl,e true]
   simp
  | false =>
   rw [if_neg (by decide),if_pos (by omega),if_pos hi.1,if_pos hi.2,e _]
   simp
theorem drawnLog_in {code:List Int} (hc:Bytes code):∀ (n k:Nat) (g:List En) (time at_ seed:Int),20000 + 200 * n < k→g.length + n≤10→validG g=true→lastT g g.length≤time→0≤time→time + 8 * (n:Int)≤200→0≤at_→at_ + 2 * (n:Int)≤1000 →
  ∃ l a s,spec_l07Drawn.l0 k g time (n:Int) code at_ seed=some (l,a,s)∧validG l=true:=by
 intro n
 induction n with
 | zero =>
  intro k g time at_ seed hk hl hg h1 h2 h3 h4 h5
  obtain ⟨k,rfl⟩:∃ m,k=m + 1:=⟨k - 1,by omega⟩
  rw [spec_l07Drawn.l0,if_neg (by decide)]
  exact ⟨g,at_,seed,rfl,hg⟩
 | succ n ih =>
  intro k g time at_ seed hk hl hg h1 h2 h3 h4 h5
  obtain ⟨k,rfl⟩:∃ m,k=m + 1:=⟨k - 1,by omega⟩
  obtain ⟨p1,s1,e1,b1⟩:=pick_ok hc (seed:=seed) (a:=5) (at_:=at_) (by omega) (by omega) (by omega)
  obtain ⟨p2,s2,e2,b2⟩:=pick_ok hc (seed:=s1) (a:=8) (at_:=at_ + 1) (by omega) (by omega) (by omega)
  obtain ⟨out,ho⟩:=ups_some hg (Nat.le_refl g.length)
  have hok:=ups_ok ho
  have hv:=valid_snoc hg (by omega) ho (x:=⟨time,p1,out.any (fun m=>(rd_T43 g m).f1 == p1)⟩) ⟨h1,by simp only;omega,by simp only;omega,by simp only;omega⟩ rfl
  rw [spec_l07Drawn.l0,if_pos (by omega),e1]
  simp only [Option.bind_some]
  rw [specUp_eq (Nat.le_refl _) (by omega) (by omega),ho]
  simp only [Option.bind_some]
  have e:=any_loop hok.2.1 (by omega) time ((n + 1:Nat):Int) code (at_ + 1) s1 p1 out.length 0 k false (by omega) (by omega)
  rw [show ((0:Nat):Int)=0 by rfl] at e
  rw [e,List.drop_zero,Bool.false_or]
  obtain ⟨K,hK⟩:∃ K,k - out.length=K + 1:=⟨k - out.length - 1,by omega⟩
  rw [hK,spec_l07Drawn.l1,if_neg (by omega),if_pos (by omega),e2]
  simp only [Option.bind_some]
  rw [w64 (n:=time + p2) (by omega) (by omega),w64 (n:=((n + 1:Nat):Int) - 1) (by omega) (by omega),show ((n + 1:Nat):Int) - 1=(n:Int) by omega]
  exact ih K _ (time + p2) (at_ + 1 + 1) s2 (by omega) (by simp only [List.length_append,List.length_singleton];omega) hv.1 (by rw [List.length_append,List.length_singleton,hv.2];simp only;omega) (by omega) (by omega) (by omega) (by omega)
theorem drawnLog_ok {code:List Int} (hc:Bytes code) {k:Nat} (hk:30000 < k):∃ l,spec_P6Log.f k code=some l∧validG l=true:=by
 obtain ⟨p1,s1,e1,b1⟩:=pick_ok hc (seed:=0) (a:=20) (at_:=0) (by omega) (by omega) (by omega)
 obtain ⟨p2,s2,e2,b2⟩:=pick_ok hc (seed:=s1) (a:=10) (at_:=0 + 1) (by omega) (by omega) (by omega)
 obtain ⟨n,hn⟩:∃ n:Nat,p2=(n:Int):=⟨p2.toNat,by omega⟩
 subst hn
 obtain ⟨l,a,s,q1,q2⟩:=drawnLog_in hc n k [] p1 (0 + 1 + 1) s2 (by omega) (by simp only [List.length_nil];omega) rfl (by show (0:Int)≤p1;omega) (by omega) (by omega) (by omega) (by omega)
 unfold spec_P6Log.f spec_l00From.f spec_l07Drawn.f
 simp only [Option.bind_some]
 rw [e1]
 simp only [Option.bind_some]
 rw [e2]
 simp only [Option.bind_some]
 rw [q1]
 exact ⟨l,rfl,q2⟩
theorem bytes_ofT {l:List Int} (h:∀ x∈l,(Lit.int .u8 x).wf=true):Bytes l:=fun x hx=>by
 have:=h x hx
 simp [Lit.wf,IntKind.min,IntKind.max,IntKind.signed,IntKind.bits] at this
 omega
theorem sameSteps_in {l:List St} (hl:l.length≤1000):∀ (d i k:Nat),i + d=l.length→d < k→spec_SameSteps.l0 k l l (i:Int)=some true:=by
 intro d
 induction d with
 | zero =>
  intro i k hi hk
  obtain ⟨k,rfl⟩:∃ m,k=m + 1:=⟨k - 1,by omega⟩
  rw [spec_SameSteps.l0,if_neg (by omega)]
 | succ d ih =>
  intro i k hi hk
  obtain ⟨k,rfl⟩:∃ m,k=m + 1:=⟨k - 1,by omega⟩
  have e:=ih (i + 1) k (by omega) (by omega)
  rw [show ((i + 1:Nat):Int)=(i:Int) + 1 by omega] at e
  rw [spec_SameSteps.l0]
  simp only [if_pos (show (i:Int) < (l.length:Int) by omega),if_pos (show (0:Int)≤(i:Int) by omega),beq_self_eq_true,Bool.not_true,Bool.or_self,Bool.false_eq_true,if_false,w64 (n:=(i:Int) + 1) (by omega) (by omega)]
  exact e
theorem sameSteps {l:List St} (hl:l.length≤1000) {k:Nat} (hk:2000 < k):spec_SameSteps.f k l l=some true:=by
 unfold spec_SameSteps.f
 rw [if_pos rfl]
 exact sameSteps_in hl l.length 0 k (by omega) (by omega)
theorem sameNums_in {l:List Int} (hl:l.length≤1000):∀ (d i k:Nat),i + d=l.length→d < k→spec_l00Same.l0 k l l (i:Int)=some true:=by
 intro d
 induction d with
 | zero =>
  intro i k hi hk
  obtain ⟨k,rfl⟩:∃ m,k=m + 1:=⟨k - 1,by omega⟩
  rw [spec_l00Same.l0,if_neg (by omega)]
 | succ d ih =>
  intro i k hi hk
  obtain ⟨k,rfl⟩:∃ m,k=m + 1:=⟨k - 1,by omega⟩
  have e:=ih (i + 1) k (by omega) (by omega)
  rw [show ((i + 1:Nat):Int)=(i:Int) + 1 by omega] at e
  rw [spec_l00Same.l0]
  simp only [if_pos (show (i:Int) < (l.length:Int) by omega),if_pos (show (0:Int)≤(i:Int) by omega),if_true,w64 (n:=(i:Int) + 1) (by omega) (by omega)]
  exact e
theorem sameNums {l:List Int} (hl:l.length≤1000) {k:Nat} (hk:2000 < k):spec_SameNumbers.f k l l=some true:=by
 unfold spec_SameNumbers.f spec_l00Same.f
 have e:=sameNums_in hl l.length 0 k (by omega) (by omega)
 rw [show ((0:Nat):Int)=0 from rfl] at e
 rw [if_pos rfl,e]
 rfl
theorem rdS {l:List St} {i:Nat} (h:i < l.length):rd_T41 l (i:Int)=l[i]:=by
 simp [rd_T41,List.getD_eq_getElem?_getD,List.getElem?_eq_getElem h]
theorem ext_loop {a b:List En} {S:List St} (hS:S.length≤1000) (least:Int) (lost wrong:List Int):∀ d i k,i + d=S.length→d < k →
  laws_FnTold.l0 k a b S least lost wrong ((extN (S.take i):Nat):Int) (i:Int)=laws_FnTold.l0 (k - d) a b S least lost wrong ((extN S:Nat):Int) (S.length:Int):=by
 intro d
 induction d with
 | zero =>
  intro i k hi hk
  obtain rfl:i=S.length:=by omega
  rw [List.take_length,Nat.sub_zero]
 | succ d ih =>
  intro i k hi hk
  obtain ⟨k,rfl⟩:∃ m,k=m + 1:=⟨k - 1,by omega⟩
  have hil:i < S.length:=by omega
  have e:=ih (i + 1) k (by omega) (by omega)
  have hle:extN (S.take i)≤1000:=by
   unfold extN
   have:=List.length_filter_le (fun s:St=>decide (s.f0 < 0)) (S.take i)
   rw [List.length_take] at this
   omega
  have ht:extN (S.take (i + 1))=extN (S.take i) + (if S[i].f0 < 0 then 1 else 0):=by
   unfold extN
   rw [List.take_add_one,List.getElem?_eq_getElem hil,List.filter_append,List.length_append]
   simp only [Option.toList_some,List.filter_cons,List.filter_nil]
   by_cases h:S[i].f0 < 0
   ·simp [h]
   ·simp [h]
  rw [show ((i + 1:Nat):Int)=(i:Int) + 1 by omega,ht] at e
  rw [show k + 1 - (d + 1)=k - d by omega,laws_FnTold.l0,if_pos (by omega),if_pos (by omega),rdS hil,w64 (n:=(i:Int) + 1) (by omega) (by omega),w64 (n:=(extN (S.take i):Int) + 1) (by omega) (by omega)]
  by_cases h:S[i].f0 < 0
  ·rw [if_pos h]
   rw [if_pos h,show ((extN (S.take i) + 1:Nat):Int)=(extN (S.take i):Int) + 1 by omega] at e
   exact e
  ·rw [if_neg h]
   rw [if_neg h,Nat.add_zero] at e
   exact e
theorem drop_snoc (n:Nat):dropL 0 (n + 1)=dropL 0 n ++ [⟨(n:Int),-1⟩]:=by
 unfold dropL
 rw [List.range'_concat,List.map_append]
 simp
theorem ext_snoc (n:Nat):extL 0 (n + 1)=extL 0 n ++ [⟨-1,(n:Int)⟩]:=by
 unfold extL
 rw [List.range'_concat,List.map_append]
 simp
theorem dropL_len (i n:Nat):(dropL i n).length=n:=by simp [dropL]
theorem extL_len (i n:Nat):(extL i n).length=n:=by simp [extL]
theorem drops_loop {a b:List En} (ha:a.length≤60) (least:Int) (lost wrong:List Int):∀ d i k,i + d=a.length→d < k →
  laws_FnTold.l1 k a b least lost wrong (dropL 0 i) (i:Int)=laws_FnTold.l2 (k - d - 1) a b least lost wrong (dropL 0 a.length) 0:=by
 intro d
 induction d with
 | zero =>
  intro i k hi hk
  obtain ⟨k,rfl⟩:∃ m,k=m + 1:=⟨k - 1,by omega⟩
  obtain rfl:i=a.length:=by omega
  rw [laws_FnTold.l1,if_neg (by omega),show k + 1 - 0 - 1=k by omega]
 | succ d ih =>
  intro i k hi hk
  obtain ⟨k,rfl⟩:∃ m,k=m + 1:=⟨k - 1,by omega⟩
  have e:=ih (i + 1) k (by omega) (by omega)
  rw [show ((i + 1:Nat):Int)=(i:Int) + 1 by omega,drop_snoc] at e
  rw [laws_FnTold.l1,if_pos (by omega),if_pos (by rw [dropL_len];omega),w64 (by omega) (by omega),e,show k + 1 - (d + 1) - 1=k - d - 1 by omega]
theorem exts_loop {a b:List En} (ha:a.length≤60) (hb:b.length≤60) (least:Int) (lost wrong:List Int):∀ d i k,i + d=b.length→d < k →
  laws_FnTold.l2 k a b least lost wrong (dropL 0 a.length ++ extL 0 i) (i:Int)=laws_FnTold.l2 (k - d) a b least lost wrong (dropL 0 a.length ++ extL 0 b.length) (b.length:Int):=by
 intro d
 induction d with
 | zero =>
  intro i k hi hk
  obtain rfl:i=b.length:=by omega
  rw [Nat.sub_zero]
 | succ d ih =>
  intro i k hi hk
  obtain ⟨k,rfl⟩:∃ m,k=m + 1:=⟨k - 1,by omega⟩
  have e:=ih (i + 1) k (by omega) (by omega)
  rw [show ((i + 1:Nat):Int)=(i:Int) + 1 by omega,ext_snoc,← List.append_assoc] at e
  rw [laws_FnTold.l2,if_pos (by omega),if_pos (by rw [List.length_append,dropL_len,extL_len];omega),w64 (by omega) (by omega),e,show k + 1 - (d + 1)=k - d by omega]
theorem common_loop {a b:List En} {L:List St} (hL:L.length≤1000):∀ d i k p q,i + d=L.length→2 * d < k→-1≤p→-1≤q→Rising a b p q (L.drop i)→(∀ j,i=j + 1→∀ s,L[j]?=some s→s.f0=p∧s.f1=q) →
  laws_FnTold.l3 k a b L (i:Int)=some true:=by
 intro d
 induction d with
 | zero =>
  intro i k p q hi hk hp hq hr hj
  obtain ⟨k,rfl⟩:∃ m,k=m + 1:=⟨k - 1,by omega⟩
  rw [laws_FnTold.l3,if_neg (by omega)]
 | succ d ih =>
  intro i k p q hi hk hp hq hr hj
  obtain ⟨k,rfl⟩:∃ m,k=m + 1 + 1:=⟨k - 2,by omega⟩
  have hil:i < L.length:=by omega
  rw [List.drop_eq_getElem_cons hil] at hr
  obtain ⟨r1,r2,r3,r4,r5,r6,r7⟩:=hr
  have e:=ih (i + 1) k L[i].f0 L[i].f1 (by omega) (by omega) (by omega) (by omega) r7 (fun j hj s hs=>by
   obtain rfl:j=i:=by omega
   rw [List.getElem?_eq_getElem hil] at hs
   cases hs
   exact ⟨rfl,rfl⟩)
  rw [show ((i + 1:Nat):Int)=(i:Int) + 1 by omega] at e
  have hj10:laws_FnTold.j10 (k + 1) a b L (i:Int) false L[i].f0 L[i].f1=some true:=by
   rw [laws_FnTold.j10,if_neg (by decide),if_pos (by omega),if_pos r3,if_pos (by omega),if_pos r4,if_pos r5,r6,if_neg (by simp),w64 (by omega) (by omega)]
   exact e
  rw [laws_FnTold.l3,if_pos (by omega),if_pos (by omega),rdS hil,if_neg (by omega),if_neg (by omega),if_neg (by omega),if_neg (by omega)]
  by_cases h0:(i:Int) > 0
  ·obtain ⟨j,rfl⟩:∃ j,i=j + 1:=⟨i - 1,by omega⟩
   have hjl:j < L.length:=by omega
   have hpj:=hj j rfl L[j] (List.getElem?_eq_getElem hjl)
   rw [if_pos h0,w64 (n:=((j + 1:Nat):Int) - 1) (by omega) (by omega),show ((j + 1:Nat):Int) - 1=(j:Int) by omega,if_pos (by omega),if_pos (by omega),rdS hjl,if_neg (by omega),decide_eq_false (by omega)]
   exact hj10
  ·rw [if_neg h0]
   exact hj10
theorem specMissed_eqT {k:Nat} {a b:List En} (hk:110000≤k):spec_MissedIn.f k a b=some (resMissed a b):=by
 unfold spec_MissedIn.f
 rw [specPicked_eq hk,if_pos rfl]
 rfl
theorem specMisread_eqT {k:Nat} {a b:List En} (hk:110000≤k):spec_MisreadIn.f k a b=some (resMisread a b):=by
 unfold spec_MisreadIn.f
 rw [specPicked_eq hk,if_neg (by decide)]
 rfl
theorem told_all {a b:List En} (va:validG a=true) (vb:validG b=true) {K:Nat} (hK:10000000 < K):laws_FnTold.j1 (K + 1000) a b=some true:=by
 have ha:=(valid_parts va).1
 have hb:=(valid_parts vb).1
 have T:=story_told a b
 have hsl:=(storyL_ok (a:=a) (b:=b)).2
 have t1:=T.chk_ 0
 have t2:=T.cost
 have t3:=T.count
 have t4:=T.lcs
 have hcb:=costV_b (a:=a) (b:=b) ha hb 0 0
 have rS:resStoryOf a b=(storyL a b,0):=if_pos ⟨va,vb⟩
 have rF:resFaults a b=(costV a b 0 0,0):=if_pos ⟨va,vb⟩
 have rFs:resFaults a a=(0,0):=by
  unfold resFaults
  rw [if_pos ⟨va,va⟩,cost_self a.length 0 (by omega)]
 have rC:∀ S,resStory a b S=chk a b S 0 0 0:=fun S=>if_pos ⟨va,vb⟩
 have rM:resMissed a b=((storyL a b).flatMap pickM,0):=if_pos ⟨va,vb⟩
 have rR:resMisread a b=((storyL a b).flatMap (pickR a b),0):=if_pos ⟨va,vb⟩
 have rL:resCommon a b=(picks a b a.length 0,0):=if_pos ⟨va,vb⟩
 have lM:((storyL a b).flatMap pickM).length≤(storyL a b).length:=flatMap_len pickM_len
 have lR:((storyL a b).flatMap (pickR a b)).length≤(storyL a b).length:=flatMap_len (pickR_len a b)
 have lE:extN (storyL a b)≤(storyL a b).length:=List.length_filter_le _ _
 have lP:=picks_len (a:=a) (b:=b) a.length 0
 have hP:=picks_lcs (a:=a) (b:=b) a.length 0 (Nat.le_refl _) (Nat.zero_le _)
 rw [Nat.sub_self] at hP
 generalize hSeq:storyL a b=S at *
 generalize hMeq:S.flatMap pickM=M at *
 generalize hReq:S.flatMap (pickR a b)=R at *
 -- from the end on
 have hl3:∀ k,1000 < k→laws_FnTold.l3 k a b (picks a b a.length 0) 0=some true:=fun k hk=>by
  have hr:=picks_rising (a:=a) (b:=b) a.length 0 (Nat.le_refl _) (Nat.zero_le _)
  exact common_loop (L:=picks a b a.length 0) (by omega) (picks a b a.length 0).length 0 k (-1) (-1) (by omega) (by omega) (by omega) (by omega) (by rw [List.drop_zero];exact hr.weak (by omega) (by omega)) (fun j h=>by omega)
 have hj7:∀ k,9500000 < k→laws_FnTold.j7 (k + 1) a b M R false=some true:=fun k hk=>by
  obtain ⟨k,rfl⟩:∃ m,k=m + 1:=⟨k - 1,by omega⟩
  rw [laws_FnTold.j7,if_neg (by decide),implCommon_eq (by omega) (by omega) (by omega),specCommon_eq (by omega),rL]
  simp only [Option.bind_some,if_true]
  rw [sameSteps (by omega) (by omega)]
  simp only [Option.bind_some,if_true]
  rw [w64 (n:=(a.length:Int) - (M.length:Int)) (by omega) (by omega),w64 (n:=(a.length:Int) - (M.length:Int) - (R.length:Int)) (by omega) (by omega),decide_eq_false (by omega),laws_FnTold.j8,if_neg (by decide)]
  exact hl3 k (by omega)
 have hl2:∀ k,9600000 < k→laws_FnTold.l2 k a b (costV a b 0 0) M R (dropL 0 a.length) 0=some true:=fun k hk=>by
  have e:=exts_loop (a:=a) (b:=b) ha hb (costV a b 0 0) M R b.length 0 k (by omega) (by omega)
  rw [show extL 0 0=[] from rfl,List.append_nil,show ((0:Nat):Int)=0 from rfl] at e
  rw [e]
  obtain ⟨m,hm⟩:∃ m,k - b.length=m + 1 + 1:=⟨k - b.length - 2,by omega⟩
  have hcm:=cost_most a b
  rw [hm,laws_FnTold.l2,if_neg (by omega),implStory_eq (by omega) (by omega) (by rw [List.length_append,dropL_len,extL_len];omega) (by omega),rC,chk_all]
  simp only [Option.bind_some,if_true]
  rw [decide_eq_false (by omega)]
  exact hj7 m (by omega)
 have hj4:∀ k,9700000 < k→laws_FnTold.j4 (k + 1) a b (costV a b 0 0) M R false=some true:=fun k hk=>by
  rw [laws_FnTold.j4,if_neg (by decide)]
  have e:=drops_loop (a:=a) (b:=b) ha (costV a b 0 0) M R a.length 0 k (by omega) (by omega)
  rw [show dropL 0 0=[] from rfl,show ((0:Nat):Int)=0 from rfl] at e
  rw [e]
  exact hl2 _ (by omega)
 have hl0:∀ k,9800000 < k→laws_FnTold.l0 k a b S (costV a b 0 0) M R 0 0=some true:=fun k hk=>by
  have e:=ext_loop (a:=a) (b:=b) (S:=S) (by omega) (costV a b 0 0) M R S.length 0 k (by omega) (by omega)
  rw [List.take_zero,show ((extN ([]:List St):Nat):Int)=0 from rfl,show ((0:Nat):Int)=0 from rfl] at e
  rw [e]
  obtain ⟨m,hm⟩:∃ m,k - S.length=m + 1 + 1:=⟨k - S.length - 2,by omega⟩
  rw [hm,laws_FnTold.l0,if_neg (by omega),w64 (n:=(M.length:Int) * 1) (by omega) (by omega),w64 (n:=(R.length:Int) * 1) (by omega) (by omega),w64 (n:=(M.length:Int) * 1 + (R.length:Int) * 1) (by omega) (by omega),w64 (n:=(extN S:Int) * 2) (by omega) (by omega),w64 (n:=(M.length:Int) * 1 + (R.length:Int) * 1 + (extN S:Int) * 2) (by omega) (by omega),if_pos (by omega),w64 (n:=(a.length:Int) - (M.length:Int)) (by omega) (by omega),w64 (n:=(b.length:Int) - (extN S:Int)) (by omega) (by omega)]
  rw [show ((a.length:Int) - (M.length:Int) != (b.length:Int) - (extN S:Int))=false from bne_eq_false_iff_eq.mpr (by omega)]
  exact hj4 m (by omega)
 obtain ⟨k,hk⟩:∃ k,K + 1000=k + 1 + 1:=⟨K + 998,by omega⟩
 rw [hk,laws_FnTold.j1,implStoryOf_eq (by omega) (by omega) (by omega),specStoryOf_eq (by omega),implFaultsOf_eq (a:=a) (b:=b) (by omega) (by omega) (by omega),specFaultsOf_eq (by omega),rS,rF]
 simp only [Option.bind_some]
 rw [implStory_eq (by omega) (by omega) (by omega) (by omega),rC,t1,implFaultsOf_eq (a:=a) (b:=a) (by omega) (by omega) (by omega),rFs,implMissed_eq (by omega) (by omega) (by omega),specMissed_eqT (by omega),implMisread_eq (by omega) (by omega) (by omega),specMisread_eqT (by omega),rM,rR]
 simp only [Option.bind_some,if_true]
 rw [sameSteps (by omega) (by omega)]
 simp only [Option.bind_some,if_true,Int.zero_add]
 rw [sameNums (l:=M) (by omega) (by omega)]
 simp only [Option.bind_some,if_true]
 rw [sameNums (l:=R) (by omega) (by omega)]
 simp only [Option.bind_some,Bool.not_true]
 rw [laws_FnTold.j2,if_neg (by decide)]
 exact hl0 k (by omega)
theorem FnTold (l0:List Int) (l1:List Int) (h00:l0.length≤9223372036854775807) (h01:(∀ x∈l0,(Lit.int .u8 x).wf=true)) (h10:l1.length≤9223372036854775807) (h11:(∀ x∈l1,(Lit.int .u8 x).wf=true)):∃ k,laws_FnTold.f k l0 l1=some true:=by
 obtain ⟨K,hK⟩:∃ K,10000000 < K:=⟨_,Nat.lt_succ_self _⟩
 refine ⟨K + 1000 + 1,?_⟩
 unfold laws_FnTold.f laws_f6big.f
 simp only [Option.bind_some]
 have hj0:∀ b,(b=false→True)→laws_FnTold.j0 (K + 1000 + 1) l0 l1 b=some true:=by
  intro b _
  rw [laws_FnTold.j0]
  by_cases hb:b=true
  ·rw [if_pos hb]
  ·rw [if_neg hb]
   obtain ⟨a,e1,va⟩:=drawnLog_ok (bytes_ofT h01) (k:=K + 1000) (by omega)
   obtain ⟨b1,e2,vb1⟩:=seen_ok va (bytes_ofT h11) (k:=K + 1000) (by omega)
   obtain ⟨b2,e3,vb2⟩:=drawnLog_ok (bytes_ofT h11) (k:=K + 1000) (by omega)
   obtain ⟨p,s,e4,_⟩:=pick_ok (bytes_ofT h11) (seed:=0) (a:=3) (at_:=0) (by omega) (by omega) (by omega)
   have e5:spec_P6Pick.f l1 3=some p:=by
    unfold spec_P6Pick.f spec_l00From.f
    simp only [Option.bind_some]
    rw [e4]
    rfl
   rw [e1]
   simp only [Option.bind_some]
   rw [e2]
   simp only [Option.bind_some]
   rw [e5]
   simp only [Option.bind_some]
   split
   ·rw [e3]
    simp only [Option.bind_some]
    exact told_all va vb2 hK
   ·exact told_all va vb1 hK
 split
 ·exact hj0 true (fun _=>trivial)
 ·exact hj0 _ (fun _=>trivial)
end Go.Proofs.Ytcajnbkbdbkpgab.G.Pure
end
