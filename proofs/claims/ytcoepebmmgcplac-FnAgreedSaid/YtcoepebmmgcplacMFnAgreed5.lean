/- The law's functions, their contracts, and the plain lemmas: texts of this claim, laid together. -/
import Derived.Deep.Slices
import Derived.Deep.Fields
import Derived.ChangeSame
import Derived.OpenShut
import Derived.Test.YtcoepebmmgcplacMFnAgreed0
import Derived.Test.YtcoepebmmgcplacMFnAgreed1
import Derived.Test.YtcoepebmmgcplacMFnAgreed2
import Derived.Test.YtcoepebmmgcplacMFnAgreed3
import Derived.Test.YtcoepebmmgcplacMFnAgreed4
section
namespace Go.Proofs.Ytcoepebmmgcplac.G
open Go.RowKit Go.Proofs.YtcoepebmmgcplacW.PrintWords Go.Proofs.YtcoepebmmgcplacW.PrintLast Go.Proofs.YtcoepebmmgcplacW.PrintMore
attribute [local go_sem] max2_int min2_int max_two min_two max_three min_three max_four min_four
set_option linter.unusedVariables false
set_option linter.unusedSimpArgs false
open Go.ChangeShapes Go.WideShapes Go.Deep in
structure Opens {α:Type} (P:Program) (t:TypeId) (d:Kd α) (Wf:α→Prop):Prop where
  sz:P.cellsOf t=d.sz
  op:∀ {H:Type} {enc:TypeId × Value→H} {w:World} {base:Nat} {spare:Nat→Bool} {held:Bool} {fuel:Nat} {cs:List Value} {x:DataW H × List MemPlace},DataW.trod enc P w base spare held fuel t cs=some x→∃ a:α,d.K w a cs∧Wf a
theorem opens_int {P:Program} {t:TypeId} {k:IntKind} (ht:P.underlying t=some (.int k)) (hC:P.cellsOf t=1):Opens P t (Kd.int k) (fun n=>(Lit.int k n).wf=true) where
  sz:=hC
  op:=fun h=>by
    obtain ⟨n,rfl,_,hw⟩:=DataW.trod_int ht h
    exact ⟨n,rfl,hw⟩
theorem list_of {α:Type} {Q:Nat→α→Prop}:∀ n,(∀ i,i < n→∃ y,Q i y)→∃ l:List α,l.length=n∧∀ i y,l[i]?=some y→Q i y
  | 0,_=>⟨[],rfl,fun i y h=>by simp at h⟩
  | n + 1,h=>by
    obtain ⟨l,hl,hq⟩:=list_of n (fun i hi=>h i (by omega))
    obtain ⟨y,hy⟩:=h n (by omega)
    refine ⟨l ++ [y],by simp [hl],fun i z hz=>?_⟩
    rcases Nat.lt_or_ge i l.length with hi|hi
    · rw [List.getElem?_append_left hi] at hz
      exact hq i z hz
    · rw [List.getElem?_append_right hi] at hz
      have:i - l.length=0:=by
        rcases Nat.eq_zero_or_pos (i - l.length) with h0|h0
        · exact h0
        · rw [List.getElem?_eq_none (by simp; omega)] at hz
          cases hz
      rw [this] at hz
      have e:y=z:=by simpa using hz
      subst e
      have:i=n:=by omega
      subst this
      exact hy
theorem opens_slice {α:Type} {P:Program} {t e:TypeId} {d:Kd α} {Wf:α→Prop} (ht:P.underlying t=some (.slice e)) (hC:P.cellsOf t=1) (he:Opens P e d Wf):Opens P t (Kd.slice e d) (fun l=>l.length≤9223372036854775807∧∀ x∈l,Wf x) where
  sz:=hC
  op:=fun {H enc w base spare held fuel cs x} h=>by
    rcases Go.Deep.open_slice ht h with ⟨rfl,_⟩|⟨a,len,cap,m,n,D,Pl,rfl,hb,hl,hm,hmm,_,hi⟩
    · exact ⟨[],⟨none,0,rfl,Nat.le_refl _,rfl,by simp,fun h=>absurd h (by simp)⟩,by simp,by simp⟩
    · have hlen:len≤m:=by rw [hmm]; split <;> omega
      obtain ⟨l,hll,hq⟩:=list_of (Q:=fun i y=>(∃ c,c.length=d.sz∧d.K w y c∧∀ j u,c[j]?=some u→w.cell? (a.add (i * d.sz + j))=some u)∧Wf y) len (fun i him=>by
        obtain ⟨cs',hc,ht'⟩:=hi i (by omega)
        obtain ⟨y,hK,hW⟩:=he.op ht'
        obtain ⟨_,hcl,hat⟩:=World.cells?_some hc
        refine ⟨y,⟨cs',d.K_len hK,hK,fun j u hu=>?_⟩,hW⟩
        have hj:j < cs'.length:=(List.getElem?_eq_some_iff.1 hu).1
        have h1:=hat j (by rw [he.sz,← d.K_len hK]; exact hj)
        rw [← he.sz,← Go.Deep.add_add,h1,hu])
      refine ⟨l,⟨some a,cap,by rw [hll],by rw [hll]; exact hl,rfl,by rw [hll]; have:=hm; unfold maxLen at this; omega,fun _=>⟨a,rfl,fun j p hj=>(hq j p hj).1⟩⟩,by rw [hll]; have:=hm; unfold maxLen at this; omega,fun y hy=>?_⟩
      obtain ⟨j,hj,rfl⟩:=List.mem_iff_getElem.1 hy
      exact (hq j _ (List.getElem?_eq_getElem hj)).2
theorem op5:Opens Try.prog 5 (Kd.int .u8) (fun x:Int=>(Lit.int .u8 x).wf=true):=opens_int (k:=.u8) Try.underlying5 (by kernel_rfl)
theorem op22:Opens Try.prog 22 (Kd.slice 5 (Kd.int .u8)) (fun x:List Int=>(x.length≤9223372036854775807∧∀ x_∈x,(Lit.int .u8 x_).wf=true)):=opens_slice Try.underlying22 (by kernel_rfl) op5
end Go.Proofs.Ytcoepebmmgcplac.G
end
section
namespace Go.Proofs.Ytcoepebmmgcplac.G.Pure
open Go.RowKit Go.Proofs.Ytcoepebmmgcplac.G Go.Proofs.YtcoepebmmgcplacW.PrintWords Go.Proofs.YtcoepebmmgcplacW.PrintLast Go.Proofs.YtcoepebmmgcplacW.PrintMore
set_option linter.unusedVariables false
set_option linter.unusedSimpArgs false
theorem w64 {n:Int} (h0:-9223372036854775808≤n) (h1:n≤9223372036854775807):wrap64 n=n:=by
 unfold wrap64
 omega
theorem loop_inv {σ γ:Type} (L:Nat→σ→Option γ) (n:Nat) (I:Nat→σ→Prop) (R:γ→Prop)
  (hs:∀ k i s,i < n→I i s→(∃ s',I (i + 1) s'∧L (k + 1) s=L k s')∨(∃ r,R r∧L (k + 1) s=some r))
  (he:∀ k s,I n s→∃ r,R r∧L (k + 1) s=some r):∀ k s,I 0 s→n < k→∃ r,R r∧L k s=some r:=by
 have go:∀ d i k s,i + d=n→I i s→d < k→∃ r,R r∧L k s=some r:=by
  intro d
  induction d with
  | zero =>
   intro i k s hi hI hk
   obtain ⟨k,rfl⟩:∃ m,k=m + 1:=⟨k - 1,by omega⟩
   obtain rfl:i=n:=by omega
   exact he k s hI
  | succ d ih =>
   intro i k s hi hI hk
   obtain ⟨k,rfl⟩:∃ m,k=m + 1:=⟨k - 1,by omega⟩
   rcases hs k i s (by omega) hI with ⟨s',hI',h⟩|h
   ·rw [h]
    exact ih (i + 1) k s' (by omega) hI' (by omega)
   ·exact h
 intro k s hI hk
 exact go n 0 k s (by omega) hI hk
theorem rd_nat {l:List Int} {i:Nat} (h:i < l.length):rd l (i:Int)=l[i]:=by
 simp [rd,List.getD_eq_getElem?_getD,List.getElem?_eq_getElem h]
abbrev En:=S35
theorem rd_impl_Entry {l:List En} {i:Nat} (h:i < l.length):rd_T35 l (i:Int)=l[i]:=by
 simp [rd_T35,List.getD_eq_getElem?_getD,List.getElem?_eq_getElem h]
instance enDec:DecidableEq En:=fun x y=>decidable_of_iff (x.f0=y.f0∧x.f1=y.f1∧x.f2=y.f2) ⟨fun h=>by
  obtain ⟨a0,a1,a2⟩:=x
  obtain ⟨b0,b1,b2⟩:=y
  obtain ⟨rfl,rfl,rfl⟩:=h
  rfl,fun h=>by subst h;exact ⟨rfl,rfl,rfl⟩⟩
def cntE (g:List (List En)) (x:En):Nat:=(g.filter fun l=>decide (x∈l)).length
theorem has_eq (l:List En) (hl:l.length≤1048576) (x:En) (K:Nat) (hK:l.length < K):spec_l07Has.f K l x.f0 x.f1 x.f2=some (decide (x∈l)):=by
 unfold spec_l07Has.f
 have key:∀ d i k,i + d=l.length→d < k→spec_l07Has.l0 k l (i:Int) x.f0 x.f1 x.f2=some (decide (x∈l.drop i)):=by
  intro d
  induction d with
  | zero =>
   intro i k hi hk
   obtain ⟨k,rfl⟩:∃ m,k=m + 1:=⟨k - 1,by omega⟩
   simp only [spec_l07Has.l0]
   rw [if_neg (by omega),List.drop_eq_nil_of_le (by omega)]
   simp
  | succ d ih =>
   intro i k hi hk
   obtain ⟨k,rfl⟩:∃ m,k=m + 1:=⟨k - 1,by omega⟩
   have hil:i < l.length:=by omega
   simp only [spec_l07Has.l0]
   rw [if_pos (by omega),if_pos (by omega),rd_impl_Entry hil,List.drop_eq_getElem_cons hil]
   have he:((l[i].f0 == x.f0 && (l[i].f1 == x.f1 && (l[i].f2 == x.f2)))=true) ↔ x=l[i]:=by
    generalize l[i]=y
    obtain ⟨a0,a1,a2⟩:=x
    obtain ⟨b0,b1,b2⟩:=y
    simp only [Bool.and_eq_true,beq_iff_eq]
    constructor
    ·rintro ⟨rfl,rfl,rfl⟩
     rfl
    ·intro h
     injection h with h1 h2 h3
     exact ⟨h1.symm,h2.symm,h3.symm⟩
   by_cases h:x=l[i]
   ·rw [if_pos (he.2 h),decide_eq_true (List.mem_cons.2 (.inl h))]
   ·rw [if_neg (fun q=>h (he.1 q)),w64 (by omega) (by omega),show ((i:Int) + 1)=((i + 1:Nat):Int) by omega,ih (i + 1) k (by omega) (by omega)]
    exact congrArg some (decide_eq_decide.2 ⟨fun q=>List.mem_cons_of_mem _ q,fun q=>(List.mem_cons.1 q).resolve_left h⟩)
 have:=key l.length 0 K (by omega) hK
 rw [List.drop_zero] at this
 exact this
theorem contains_eq (l:List En) (hl:l.length≤1048576) (x:En) (K:Nat) (hK:l.length < K):slices_Contains_Log_Entry.f K l x.f0 x.f1 x.f2=some (decide (x∈l)):=by
 unfold slices_Contains_Log_Entry.f slices_Index_Log_Entry.f
 have key:∀ d i k,i + d=l.length→d < k→∃ r,slices_Index_Log_Entry.l0 k l (l.length:Int) (i:Int) x.f0 x.f1 x.f2=some r∧(r≥0 ↔ x∈l.drop i):=by
  intro d
  induction d with
  | zero =>
   intro i k hi hk
   obtain ⟨k,rfl⟩:∃ m,k=m + 1:=⟨k - 1,by omega⟩
   simp only [slices_Index_Log_Entry.l0]
   rw [if_neg (by omega),List.drop_eq_nil_of_le (by omega)]
   exact ⟨-1,rfl,by simp⟩
  | succ d ih =>
   intro i k hi hk
   obtain ⟨k,rfl⟩:∃ m,k=m + 1:=⟨k - 1,by omega⟩
   have hil:i < l.length:=by omega
   simp only [slices_Index_Log_Entry.l0]
   rw [if_pos (by omega),if_pos (by omega),if_pos (by omega),rd_impl_Entry hil,List.drop_eq_getElem_cons hil]
   have he:((x.f0 == l[i].f0 && (x.f1 == l[i].f1 && (x.f2 == l[i].f2)))=true) ↔ x=l[i]:=by
    generalize l[i]=y
    obtain ⟨a0,a1,a2⟩:=x
    obtain ⟨b0,b1,b2⟩:=y
    simp
   by_cases h:x=l[i]
   ·rw [if_pos (he.2 h)]
    exact ⟨_,rfl,⟨fun _=>List.mem_cons.2 (.inl h),fun _=>by omega⟩⟩
   ·rw [if_neg (fun q=>h (he.1 q)),w64 (by omega) (by omega),show ((i:Int) + 1)=((i + 1:Nat):Int) by omega]
    obtain ⟨r,h1,h2⟩:=ih (i + 1) k (by omega) (by omega)
    exact ⟨r,h1,h2.trans ⟨fun q=>List.mem_cons_of_mem _ q,fun q=>(List.mem_cons.1 q).resolve_left h⟩⟩
 obtain ⟨r,h1,h2⟩:=key l.length 0 K (by omega) hK
 rw [show ((0:Nat):Int)=0 from rfl] at h1
 rw [h1,List.drop_zero] at *
 simp only [Option.bind_some]
 rw [decide_eq_decide.2 h2]
def eLt (x y:En):Prop:=x.f0 < y.f0∨(x.f0=y.f0∧(x.f1 < y.f1∨(x.f1=y.f1∧(x.f2=false∧y.f2=true))))
instance eLtDec (x y:En):Decidable (eLt x y):=by unfold eLt;infer_instance
theorem eLt_irr (x:En):¬ eLt x x:=by unfold eLt;simp
theorem eLt_trans {x y z:En} (h1:eLt x y) (h2:eLt y z):eLt x z:=by
 obtain ⟨a0,a1,a2⟩:=x
 obtain ⟨b0,b1,b2⟩:=y
 obtain ⟨c0,c1,c2⟩:=z
 unfold eLt at *
 simp only at *
 cases a2 <;> cases b2 <;> cases c2 <;> simp at * <;> omega
theorem eLt_tri {x y:En} (h1:¬ eLt x y) (h2:¬ eLt y x):x=y:=by
 obtain ⟨a0,a1,a2⟩:=x
 obtain ⟨b0,b1,b2⟩:=y
 unfold eLt at *
 simp only at *
 have:a0=b0∧a1=b1:=by constructor <;> omega
 obtain ⟨rfl,rfl⟩:=this
 cases a2 <;> cases b2 <;> simp at * <;> rfl
theorem strict_unique:∀ a b:List En,a.Pairwise eLt→b.Pairwise eLt→(∀ x,x∈a ↔ x∈b)→a=b
 | [],[],_,_,_=>rfl
 | [],y :: b,_,_,h=>absurd ((h y).2 (List.mem_cons_self)) (by simp)
 | x :: a,[],_,_,h=>absurd ((h x).1 (List.mem_cons_self)) (by simp)
 | x :: a,y :: b,ha,hb,h=>by
  rw [List.pairwise_cons] at ha hb
  have hxy:x=y:=by
   rcases List.mem_cons.1 ((h x).1 List.mem_cons_self) with e|e
   ·exact e
   ·rcases List.mem_cons.1 ((h y).2 List.mem_cons_self) with e2|e2
    ·exact e2.symm
    ·exact absurd (eLt_trans (hb.1 x e) (ha.1 y e2)) (eLt_irr y)
  subst hxy
  rw [strict_unique a b ha.2 hb.2 (fun z=>?_)]
  have hz:=h z
  simp only [List.mem_cons] at hz
  constructor
  ·intro hza
   rcases hz.1 (.inr hza) with e|e
   ·subst e
    exact absurd (ha.1 z hza) (eLt_irr z)
   ·exact e
  ·intro hzb
   rcases hz.2 (.inr hzb) with e|e
   ·subst e
    exact absurd (hb.1 z hzb) (eLt_irr z)
   ·exact e
theorem compact_eq {x y:En}:slices_Compact_Log_Entry.eq x y=true ↔ x=y:=by
 obtain ⟨a0,a1,a2⟩:=x
 obtain ⟨b0,b1,b2⟩:=y
 unfold slices_Compact_Log_Entry.eq
 simp
theorem compact_ok {l:List En} (hs:l.Pairwise (fun x y=>¬ eLt y x)):∀ n,n≤l.length→(slices_Compact_Log_Entry.to l n).Pairwise eLt∧(∀ x,x∈slices_Compact_Log_Entry.to l n ↔ x∈l.take n)∧∀ x∈slices_Compact_Log_Entry.to l n,∀ p,l[n - 1]?=some p→x=p∨eLt x p
 | 0,_=>by simp [slices_Compact_Log_Entry.to]
 | n + 1,hn=>by
  obtain ⟨h1,h2,h3⟩:=compact_ok hs n (by omega)
  have hy:l.getD n z35=l[n]:=by
   rw [List.getD_eq_getElem?_getD,List.getElem?_eq_getElem (by omega)]
   rfl
  simp only [slices_Compact_Log_Entry.to]
  rw [slices_Compact_Log_Entry.get (by omega),List.take_succ_eq_append_getElem (by omega)]
  by_cases h0:n=0
  ·subst h0
   simp [slices_Compact_Log_Entry.to]
   intro p hpp
   rw [List.getElem?_eq_getElem (by omega)] at hpp
   exact .inl (Option.some.inj hpp)
  ·have hp:l[n - 1]?=some l[n - 1]:=List.getElem?_eq_getElem (by omega)
   have hle:¬ eLt l[n] l[n - 1]:=List.pairwise_iff_getElem.1 hs (n - 1) n (by omega) (by omega) (by omega)
   rw [slices_Compact_Log_Entry.get (by omega:n - 1 < l.length)]
   by_cases he:l[n]=l[n - 1]
   ·rw [if_neg (by rw [compact_eq.2 he];simp [h0])]
    refine ⟨h1,fun x=>?_,fun x hx p hpp=>?_⟩
    ·rw [h2,List.mem_append,List.mem_singleton]
     refine ⟨.inl,fun h=>h.elim id (fun e=>?_)⟩
     rw [e,he]
     exact List.mem_take_iff_getElem.2 ⟨n - 1,by omega,rfl⟩
    ·rw [Nat.add_sub_cancel,List.getElem?_eq_getElem (by omega)] at hpp
     rw [← Option.some.inj hpp,he]
     exact h3 x hx _ hp
   ·have hlt:eLt l[n - 1] l[n]:=by
     by_cases h:eLt l[n - 1] l[n]
     ·exact h
     ·exact absurd (eLt_tri hle h) he
    have hall:∀ x∈slices_Compact_Log_Entry.to l n,eLt x l[n]:=fun x hx=>(h3 x hx _ hp).elim (fun e=>e ▸ hlt) (fun e=>eLt_trans e hlt)
    have hf:slices_Compact_Log_Entry.eq l[n] l[n - 1]=false:=by
     cases hq:slices_Compact_Log_Entry.eq l[n] l[n - 1] with
     | false=>rfl
     | true=>exact absurd (compact_eq.1 hq) he
    rw [if_pos (.inr hf)]
    refine ⟨?_,fun x=>by rw [List.mem_append,List.mem_append,h2],fun x hx p hpp=>?_⟩
    ·rw [List.pairwise_append]
     exact ⟨h1,by simp,fun a ha b hb=>by rw [List.mem_singleton.1 hb];exact hall a ha⟩
    ·rw [Nat.add_sub_cancel,List.getElem?_eq_getElem (by omega)] at hpp
     rw [← Option.some.inj hpp]
     rcases List.mem_append.1 hx with h|h
     ·exact .inr (hall x h)
     ·exact .inl (List.mem_singleton.1 h)
theorem srt_lt (x y:En):Go.Proofs.ltOf slices_SortFunc_Log_Entry__impl_compareEntries.cmp x y=decide (eLt x y):=by
 rw [slices_SortFunc_Log_Entry__impl_compareEntries.ltOf]
 unfold slices_SortFunc_Log_Entry__impl_compareEntries.lt eLt
 congr
theorem sorted_mem (l:List En) (x:En):x∈slices_SortFunc_Log_Entry__impl_compareEntries.sorted l ↔ x∈l:=by
 unfold slices_SortFunc_Log_Entry__impl_compareEntries.sorted
 exact (List.mergeSort_perm _ _).mem_iff
theorem sorted_pw (l:List En):(slices_SortFunc_Log_Entry__impl_compareEntries.sorted l).Pairwise (fun x y=>¬ eLt y x):=by
 unfold slices_SortFunc_Log_Entry__impl_compareEntries.sorted
 have h:=List.pairwise_mergeSort (le:=fun x y:En=>!(Go.Proofs.ltOf slices_SortFunc_Log_Entry__impl_compareEntries.cmp) y x)
  (fun a b c h1 h2=>by
   simp only [srt_lt,Bool.not_eq_true',decide_eq_false_iff_not] at *
   intro h3
   by_cases h4:eLt b a
   ·exact h1 h4
   ·by_cases h5:eLt a b
    ·exact h2 (eLt_trans h3 h5)
    ·rw [eLt_tri h5 h4] at h3
     exact h2 h3)
  (fun a b=>by
   simp only [srt_lt,Bool.or_eq_true,Bool.not_eq_true',decide_eq_false_iff_not]
   by_cases h:eLt b a
   ·exact .inr (fun h2=>eLt_irr a (eLt_trans h2 h))
   ·exact .inl h) l
 refine h.imp (fun {x y} hxy=>?_)
 simpa [srt_lt] using hxy
theorem loop_inv2 {σ γ:Type} (L:Nat→σ→Option γ) (n K0:Nat) (I:Nat→σ→Prop) (R:γ→Prop)
  (hs:∀ k i s,i < n→K0≤k→I i s→(∃ s',I (i + 1) s'∧L (k + 1) s=L k s')∨(∃ r,R r∧L (k + 1) s=some r))
  (he:∀ k s,K0≤k→I n s→∃ r,R r∧L (k + 1) s=some r):∀ k s,I 0 s→n + K0 < k→∃ r,R r∧L k s=some r:=by
 have go:∀ d i k s,i + d=n→I i s→d + K0 < k→∃ r,R r∧L k s=some r:=by
  intro d
  induction d with
  | zero =>
   intro i k s hi hI hk
   obtain ⟨k,rfl⟩:∃ m,k=m + 1:=⟨k - 1,by omega⟩
   obtain rfl:i=n:=by omega
   exact he k s (by omega) hI
  | succ d ih =>
   intro i k s hi hI hk
   obtain ⟨k,rfl⟩:∃ m,k=m + 1:=⟨k - 1,by omega⟩
   rcases hs k i s (by omega) (by omega) hI with ⟨s',hI',h⟩|h
   ·rw [h]
    exact ih (i + 1) k s' (by omega) hI' (by omega)
   ·exact h
 intro k s hI hk
 exact go n 0 k s (by omega) hI (by omega)
def atE (l:List En) (i:Nat) (out:List Int):Int:=impl_Log_up.at l (rd_T35 l (i:Int)) out
def upsStep (l:List En) (i:Nat) (out:List Int):Option (List Int) :=
  if decide (atE l i out < 0)=(rd_T35 l (i:Int)).f2 then none else if (rd_T35 l (i:Int)).f2=true then some (out.eraseIdx (atE l i out).toNat) else some (out ++ [(i:Int)])
def ups (l:List En):Nat→Option (List Int)
  | 0=>some []
  | n + 1=>(ups l n).bind (upsStep l n)
def lastT (l:List En):Nat→Int
  | 0=>0
  | n + 1=>(rd_T35 l (n:Int)).f0
def gd (l:List En):Nat→Bool
  | 0=>true
  | n + 1=>gd l n && impl_Log_up.good (lastT l n) (rd_T35 l (n:Int))
theorem to_eq (l:List En) (n:Nat):impl_Log_up.to l n=if gd l n=true then (ups l n).map (fun o=>(lastT l n,o)) else none:=by
  induction n with
  | zero=>rfl
  | succ n ih =>
    rw [impl_Log_up.to,ih,ups,gd]
    cases hg:gd l n with
    | false=>simp
    | true =>
      cases hu:ups l n with
      | none=>simp
      | some o =>
        simp only [if_true,Option.map_some,Option.bind_some,Bool.true_and]
        unfold impl_Log_up.step upsStep atE
        cases hgd:impl_Log_up.good (lastT l n) (rd_T35 l (n:Int)) with
        | false=>simp [hgd]
        | true =>
          simp only [hgd,Bool.true_eq_false,if_false,if_true]
          split
          · rfl
          · split <;> rfl
theorem gd_false {l:List En} {i n:Nat} (h:gd l i=false) (hi:i≤n):gd l n=false:=by
  induction n with
  | zero => obtain rfl : i = 0 := by omega
            exact h
  | succ n ih =>
    rcases Nat.lt_or_ge i (n + 1) with h1|h1
    · rw [gd,ih (by omega)]
      rfl
    · obtain rfl:i=n + 1:=by omega
      exact h
theorem ups_none {l:List En} {i n:Nat} (h:ups l i=none) (hi:i≤n):ups l n=none:=by
  induction n with
  | zero => obtain rfl : i = 0 := by omega
            exact h
  | succ n ih =>
    rcases Nat.lt_or_ge i (n + 1) with h1|h1
    · rw [ups,ih (by omega)]
      rfl
    · obtain rfl:i=n + 1:=by omega
      exact h
theorem idxP_none {α:Type} {p:α→Bool} {l:List α} (h:idxP p l < 0):∀ x∈l,p x=false:=by
  have:=idxP_nonneg p l
  rw [decide_eq_false (by omega)] at this
  intro x hx
  exact List.any_eq_false.1 this.symm x hx |> (by simpa using ·)
theorem ups_ok {l:List En} {n:Nat} {out:List Int} (h:ups l n=some out):out.length≤n∧(∀ x∈out,0≤x∧x < (n:Int))∧out.Pairwise (fun a b=>(rd_T35 l a).f1≠(rd_T35 l b).f1):=by
  induction n generalizing out with
  | zero =>
    cases h
    simp
  | succ n ih =>
    rw [ups] at h
    obtain ⟨s0,h0,h1⟩:=Option.bind_eq_some_iff.1 h
    obtain ⟨i1,i2,i3⟩:=ih h0
    unfold upsStep at h1
    split at h1
    · cases h1
    · rename_i hne
      split at h1
      · cases h1
        refine ⟨?_,fun x hx=>?_,i3.sublist (List.eraseIdx_sublist ..)⟩
        · have:=List.length_eraseIdx_le (l:=s0) (i:=(atE l n s0).toNat)
          omega
        · have:=i2 x (List.mem_of_mem_eraseIdx hx)
          omega
      · rename_i hf
        cases h1
        refine ⟨by simp; omega,fun x hx=>?_,?_⟩
        · simp only [List.mem_append,List.mem_singleton] at hx
          rcases hx with hx|rfl
          · have:=i2 x hx
            omega
          · omega
        · rw [List.pairwise_append]
          refine ⟨i3,by simp,fun a ha b hb=>?_⟩
          simp only [List.mem_singleton] at hb
          subst hb
          have hk:atE l n s0 < 0:=by
            apply Classical.byContradiction
            intro hh
            rw [decide_eq_false hh] at hne
            simp only [Bool.not_eq_true] at hf
            exact hne hf.symm
          have:=idxP_none hk a ha
          simpa using this
theorem idxP_take {p:Int→Bool} {out:List Int} {j:Nat} (hj:j < out.length) (hu:∀ a b (ha:a < out.length) (hb:b < out.length),a < b→p out[a]=true→p out[b]=true→False):idxP p (out.take (j + 1))=if p out[j]=true then (j:Int) else idxP p (out.take j):=by
  split
  · rename_i h
    refine idxP_hit (k:=j) (y:=out[j]) (by rw [List.getElem?_take_of_lt (by omega)]; exact List.getElem?_eq_getElem hj) h (fun a x ha hx=>?_)
    rw [List.getElem?_take_of_lt (by omega)] at hx
    obtain ⟨h1,rfl⟩:=List.getElem?_eq_some_iff.1 hx
    cases hp:p out[a] with
    | false=>rfl
    | true=>exact (hu a j h1 hj ha hp h).elim
  · rename_i h
    simp only [Bool.not_eq_true] at h
    unfold idxP
    rw [List.take_succ_eq_append_getElem hj,List.findIdx?_append]
    cases e:(out.take j).findIdx? p with
    | some i=>simp
    | none=>simp [h]
set_option maxHeartbeats 400000 in
theorem specUp_inner {l:List En} {n:Int} {out:List Int} {i:Nat} (hi:i < l.length) (hl:l.length≤60) (ho:out.length≤i∧(∀ x∈out,0≤x∧x < (i:Int))∧out.Pairwise (fun a b=>(rd_T35 l a).f1≠(rd_T35 l b).f1)) :
    ∀ (d j K:Nat),j + d=out.length→spec_l07Up.l1 (K + d + 1) l n out (i:Int) (idxP (fun m=>(rd_T35 l m).f1 == (rd_T35 l (i:Int)).f1) (out.take j)) (j:Int)=spec_l07Up.l1 (K + 1) l n out (i:Int) (atE l i out) (out.length:Int):=by
  intro d
  induction d with
  | zero =>
    intro j K hj
    obtain rfl:j=out.length:=by omega
    rw [List.take_length]
    rfl
  | succ d ih =>
    intro j K hj
    have hjo:j < out.length:=by omega
    obtain ⟨h1,h2,h3⟩:=ho
    have hm:=h2 out[j] (List.getElem_mem hjo)
    rw [← ih (j + 1) K (by omega),show K + (d + 1) + 1=(K + d + 1) + 1 by omega]
    conv=>lhs; unfold spec_l07Up.l1
    rw [if_pos (by omega),if_pos (by omega),rd_nat hjo,if_pos (by omega),if_pos (by omega),if_pos (by omega),if_pos (by omega),w64 (by omega) (by omega),idxP_take hjo (fun a b ha hb hab pa pb=>?_)]
    · by_cases hq:(rd_T35 l out[j]).f1=(rd_T35 l (i:Int)).f1
      · rw [if_pos hq,if_pos (by simpa using hq)]
        rfl
      · rw [if_neg hq,if_neg (by simpa using hq)]
        rfl
    · have:=List.pairwise_iff_getElem.1 h3 a b ha hb hab
      simp only [beq_iff_eq] at pa pb
      exact this (pa.trans pb.symm)
set_option maxHeartbeats 1000000 in
theorem specUp_outer {l:List En} {n:Nat} (hn:n≤l.length) (hl:l.length≤60):∀ (d i:Nat) (out:List Int) (K:Nat),i + d=n→ups l i=some out→70 * (d + 1)≤K→spec_l07Up.l0 K l (n:Int) out (i:Int)=some (match ups l n with|some o=>(o,true)|none=>([],false)):=by
  intro d
  induction d with
  | zero =>
    intro i out K hi hu hK
    obtain ⟨K,rfl⟩:∃ m,K=m + 1:=⟨K - 1,by omega⟩
    obtain rfl:i=n:=by omega
    simp only [spec_l07Up.l0]
    rw [if_neg (by omega),hu]
  | succ d ih =>
    intro i out K hi hu hK
    have ho:=ups_ok hu
    obtain ⟨h1,h2,h3⟩:=ho
    obtain ⟨K,rfl⟩:∃ m,K=m + out.length + 2:=⟨K - out.length - 2,by omega⟩
    have hK2:70 * (d + 1)≤K:=by omega
    have hi2:i + 1 + d=n:=by omega
    have hsucc:((i + 1:Nat):Int)=(i:Int) + 1:=by omega
    simp only [spec_l07Up.l0]
    rw [if_pos (by omega)]
    have e:=specUp_inner (n:=(n:Int)) (l:=l) (out:=out) (i:=i) (by omega) hl ⟨h1,h2,h3⟩ out.length 0 K (by omega)
    rw [show idxP (fun m=>(rd_T35 l m).f1 == (rd_T35 l (i:Int)).f1) (out.take 0)=-1 from rfl] at e
    rw [show ((0:Nat):Int)=0 from rfl] at e
    rw [e]
    have hlt:=impl_Log_up.idx_lt (fun m=>(rd_T35 l m).f1 == (rd_T35 l (i:Int)).f1) out
    have hs:ups l (i + 1)=upsStep l i out:=by rw [ups,hu]; rfl
    have hat:idxP (fun m=>(rd_T35 l m).f1 == (rd_T35 l (i:Int)).f1) out=atE l i out:=rfl
    rw [hat] at hlt
    conv=>lhs; unfold spec_l07Up.l1
    rw [if_neg (by omega),if_pos (by omega),if_pos (by omega)]
    unfold upsStep at hs
    by_cases hneg:atE l i out < 0
    · rw [decide_eq_true hneg] at hs
      rw [show decide (atE l i out≥0)=false from decide_eq_false (by omega)]
      cases hf:(rd_T35 l (i:Int)).f2 with
      | true =>
        rw [hf,if_pos rfl] at hs
        rw [if_pos (by rfl),ups_none hs (by omega)]
      | false =>
        rw [hf,if_neg (by simp),if_neg (by simp)] at hs
        rw [if_neg (by simp),if_pos hneg,if_pos (by omega),w64 (by omega) (by omega)]
        have e2:=ih (i + 1) _ K hi2 hs hK2
        rw [hsucc] at e2
        rw [e2]
    · rw [decide_eq_false hneg] at hs
      rw [show decide (atE l i out≥0)=true from decide_eq_true (by omega)]
      cases hf:(rd_T35 l (i:Int)).f2 with
      | false =>
        rw [hf,if_pos rfl] at hs
        rw [if_pos (by rfl),ups_none hs (by omega)]
      | true =>
        rw [hf,if_neg (by simp),if_pos rfl] at hs
        rw [if_neg (by simp),if_neg hneg]
        simp only [Option.bind_some,List.nil_append]
        obtain ⟨q,hq⟩:∃ q:Nat,atE l i out=(q:Int):=⟨(atE l i out).toNat,by omega⟩
        rw [hq] at hs hlt ⊢
        rw [if_pos (by omega),if_pos (by omega),if_pos (by simp; omega),if_pos (by rw [w64 (by omega) (by omega)]; omega),w64 (n:=(q:Int) + 1) (by omega) (by omega),if_pos (by omega),if_pos (by simp; omega),w64 (n:=(i:Int) + 1) (by omega) (by omega)]
        rw [Int.toNat_natCast,show ((q:Int) + 1).toNat=q + 1 by omega,← List.eraseIdx_eq_take_drop_succ]
        have e2:=ih (i + 1) (out.eraseIdx q) K hi2 (by rw [hs,Int.toNat_natCast]) hK2
        rw [hsucc] at e2
        rw [e2]
theorem specUp_eq {l:List En} {n K:Nat} (hn:n≤l.length) (hl:l.length≤60) (hK:5000 < K):spec_l07Up.f K l (n:Int)=some (match ups l n with|some o=>(o,true)|none=>([],false)):=by
  unfold spec_l07Up.f
  exact specUp_outer hn hl n 0 [] K (by omega) rfl (by omega)
def validG (l:List En):Bool:=decide (l.length≤60) && gd l l.length && (ups l l.length).isSome
theorem implValid_log {l:List En} (hl:l.length≤1048576):impl_ValidLog.f l=some (validG l):=by
  unfold impl_ValidLog.f impl_Log_up.f validG
  rw [if_pos hl,to_eq]
  cases hg:gd l l.length with
  | false=>simp
  | true =>
    cases hu:ups l l.length with
    | none=>simp
    | some o=>simp; omega
theorem in_log (n lo hi:Int):spec_l00In.f n lo hi=some (decide (lo≤n) && decide (n≤hi)):=by
  unfold spec_l00In.f
  by_cases h:lo≤n
  · rw [if_pos h,decide_eq_true h]
    rfl
  · rw [if_neg h,decide_eq_false h]
    rfl
theorem specOk_log {k:Nat} {l:List En} (hk:6000 < k):spec_l07Ok.f k l=some (validG l):=by
  unfold spec_l07Ok.f
  by_cases hl:l.length≤60
  · rw [if_neg (by omega)]
    obtain ⟨r,hr,h⟩:=loop_inv2 (fun k (s:Int × Int)=>spec_l07Ok.l0 k l s.1 s.2) l.length 5001 (fun i s=>s.2=(i:Int)∧s.1=lastT l i∧gd l i=true) (fun r=>r=validG l)
      (fun k i s hi hk ⟨h1,h2,h3⟩=>by
        obtain ⟨a,x⟩:=s
        simp only at h1 h2 h3
        subst h1 h2
        simp only [spec_l07Ok.l0]
        rw [if_pos (by omega),if_pos (by omega),in_log]
        simp only [Option.bind_some]
        have hg:gd l (i + 1)=impl_Log_up.good (lastT l i) (rd_T35 l (i:Int)):=by rw [gd,h3]; rfl
        unfold impl_Log_up.good at hg
        have hbad:gd l (i + 1)=false→false=validG l:=fun h=>by
          unfold validG
          rw [gd_false h (by omega)]
          simp
        cases hb1:(decide (lastT l i≤(rd_T35 l (i:Int)).f0) && decide ((rd_T35 l (i:Int)).f0≤100000)) with
        | false =>
          rw [hb1] at hg
          exact .inr ⟨false,hbad hg,by simp⟩
        | true =>
          rw [hb1] at hg
          rw [if_pos rfl,in_log]
          simp only [Option.bind_some]
          cases hb2:(decide (0≤(rd_T35 l (i:Int)).f1) && decide ((rd_T35 l (i:Int)).f1≤9999)) with
          | false =>
            rw [hb2] at hg
            exact .inr ⟨false,hbad hg,by simp⟩
          | true =>
            rw [hb2] at hg
            refine .inl ⟨((rd_T35 l (i:Int)).f0,((i + 1:Nat):Int)),⟨rfl,rfl,hg⟩,?_⟩
            rw [if_pos rfl,w64 (by omega) (by omega)]
            rfl)
      (fun k s hk ⟨h1,h2,h3⟩=>by
        obtain ⟨a,x⟩:=s
        simp only at h1 h2 h3
        subst h1 h2
        refine ⟨validG l,rfl,?_⟩
        simp only [spec_l07Ok.l0]
        rw [if_neg (by omega),specUp_eq (Nat.le_refl _) hl (by omega)]
        unfold validG
        rw [h3]
        cases ups l l.length <;> simp [hl]) k (0,0) ⟨rfl,rfl,rfl⟩ (by omega)
    subst hr
    exact h
  · rw [if_pos (by omega)]
    unfold validG
    simp [hl]
abbrev Gs:=List (List En)
theorem rdL_impl {l:Gs} {i:Nat} (h:i < l.length):rd_L4 l (i:Int)=l[i]:=by
 simp [rd_L4,List.getD_eq_getElem?_getD,List.getElem?_eq_getElem h]
def codeGs (l:Gs):Int:=if l.all validG=true then (if (decide (1≤(l.length:Int)) && decide ((l.length:Int)≤8))=true then 0 else 2) else 1
theorem implAllCode {l:Gs} (hi:∀ x∈l,x.length≤1048576):impl_allCode.f l=some (codeGs l):=by
 unfold impl_allCode.f slices_ContainsFunc_Log_Log__impl_allCode_1.f codeGs
 rw [anyO_eq (p:=fun x=>impl_allCode_1.f x) (q:=fun x=>!validG x) (fun x hx=>by unfold impl_allCode_1.f;rw [implValid_log (hi x hx)];rfl)]
 simp only [Option.bind_some]
 cases ha:l.all validG with
 | true =>
  have:l.any (fun x=>!validG x)=false:=by
   rw [List.any_eq_false]
   intro x hx
   rw [List.all_eq_true.1 ha x hx]
   simp
  rw [this]
  simp only [Bool.false_eq_true,if_false,if_true,impl_size_Log.f,Option.bind_some,impl_Log_up.within]
  cases (decide (1≤(l.length:Int)) && decide ((l.length:Int)≤8)) <;> rfl
 | false =>
  have:l.any (fun x=>!validG x)=true:=by
   rw [List.any_eq_true]
   obtain ⟨x,hx,h⟩:=List.all_eq_false.1 ha
   exact ⟨x,hx,by simpa using h⟩
  rw [this]
  rfl
theorem specLogs {k:Nat} {l:Gs} (hl:l.length≤1048576) (hk:1100000 < k):spec_l07Logs.f k l=some (codeGs l):=by
 unfold spec_l07Logs.f
 obtain ⟨r,hr,h⟩:=loop_inv2 (fun k (s:Int)=>spec_l07Logs.l0 k l s) l.length 6001 (fun i s=>s=(i:Int)∧∀ j (h:j < l.length),j < i→validG l[j]=true) (fun r=>r=codeGs l)
  (fun k i s hil hk ⟨h1,h2⟩=>by
   subst h1
   simp only [spec_l07Logs.l0]
   rw [if_pos (by omega),if_pos (by omega),rdL_impl hil,specOk_log (by omega)]
   simp only [Option.bind_some]
   cases hv:validG l[i] with
   | true =>
    simp only [if_true]
    rw [w64 (by omega) (by omega)]
    refine .inl ⟨((i + 1:Nat):Int),⟨rfl,fun j hj hji=>?_⟩,rfl⟩
    rcases Nat.lt_succ_iff_lt_or_eq.1 hji with e|e
    ·exact h2 j hj e
    ·subst e
     exact hv
   | false =>
    refine .inr ⟨1,?_,by simp⟩
    unfold codeGs
    rw [if_neg]
    intro h
    rw [List.all_eq_true.1 h _ (List.getElem_mem hil)] at hv
    cases hv)
  (fun k s hk ⟨h1,h2⟩=>by
   subst h1
   refine ⟨codeGs l,rfl,?_⟩
   simp only [spec_l07Logs.l0]
   rw [if_neg (by omega),in_log]
   simp only [Option.bind_some]
   unfold codeGs
   rw [if_pos (List.all_eq_true.2 fun x hx=>by
    obtain ⟨j,hj,rfl⟩:=List.mem_iff_getElem.1 hx
    exact h2 j hj hj)]
   split <;> rfl) k 0 ⟨rfl,fun j _ h=>absurd h (Nat.not_lt_zero _)⟩ (by omega)
 subst hr
 exact h
theorem codeGs_valid {l:Gs} (h:codeGs l=0):(∀ x∈l,validG x=true)∧1≤l.length∧l.length≤8:=by
 unfold codeGs at h
 split at h
 ·rename_i ha
  split at h
  ·rename_i hb
   simp only [Bool.and_eq_true,decide_eq_true_eq] at hb
   exact ⟨List.all_eq_true.1 ha,by omega,by omega⟩
  ·omega
 ·omega
theorem cntE_cons (l:List En) (g:List (List En)) (x:En):cntE (l :: g) x=(if x∈l then 1 else 0) + cntE g x:=by
 unfold cntE
 by_cases h:x∈l
 ·rw [List.filter_cons_of_pos (by simpa using h),if_pos h,List.length_cons,Nat.add_comm]
 ·rw [List.filter_cons_of_neg (by simpa using h),if_neg h,Nat.zero_add]
theorem cnt_impl (g:List (List En)) (hg:g.length≤8) (hl:∀ l∈g,l.length≤60) (x:En) (q:Int) (K:Nat) (hK:200≤K):impl_AgreedLog_1.f K x.f0 x.f1 x.f2 g q=some (decide ((cntE g x:Int) < q)):=by
 unfold impl_AgreedLog_1.f
 have key:∀ d j k c,j + d=g.length→100 + d < k→c≤j→impl_AgreedLog_1.l0 k (c:Int) g (g.length:Int) (j:Int) q x.f0 x.f1 x.f2=some (decide (((c + cntE (g.drop j) x:Nat):Int) < q)):=by
  intro d
  induction d with
  | zero =>
   intro j k c hj hk hc
   obtain ⟨k,rfl⟩:∃ m,k=m + 1:=⟨k - 1,by omega⟩
   simp only [impl_AgreedLog_1.l0]
   rw [if_neg (by omega),List.drop_eq_nil_of_le (by omega)]
   rw [show cntE [] x=0 from rfl,Nat.add_zero]
  | succ d ih =>
   intro j k c hj hk hc
   obtain ⟨k,rfl⟩:∃ m,k=m + 1:=⟨k - 1,by omega⟩
   have hjl:j < g.length:=by omega
   have hx:=hl _ (List.getElem_mem hjl)
   simp only [impl_AgreedLog_1.l0]
   rw [if_pos (by omega),if_pos (by omega),if_pos (by omega),rdL_impl hjl,contains_eq _ (by omega) x k (by omega)]
   simp only [Option.bind_some,decide_eq_true_eq]
   rw [List.drop_eq_getElem_cons hjl,cntE_cons,w64 (n:=(j:Int) + 1) (by omega) (by omega),show ((j:Int) + 1)=((j + 1:Nat):Int) by omega]
   by_cases h:x∈g[j]
   ·rw [if_pos h,if_pos h,w64 (by omega) (by omega),show ((c:Int) + 1)=((c + 1:Nat):Int) by omega,ih (j + 1) k (c + 1) (by omega) (by omega) (by omega),Nat.add_assoc]
   ·rw [if_neg h,if_neg h,ih (j + 1) k c (by omega) (by omega) (by omega),Nat.zero_add]
 have:=key g.length 0 K 0 (by omega) (by omega) (by omega)
 rw [List.drop_zero,Nat.zero_add] at this
 exact this
theorem before_eq (x y:En):spec_l07Before.f x.f0 x.f1 x.f2 y.f0 y.f1 y.f2=some (decide (eLt x y)):=by
 obtain ⟨a0,a1,a2⟩:=x
 obtain ⟨b0,b1,b2⟩:=y
 unfold spec_l07Before.f eLt
 simp only
 by_cases h0:a0=b0
 ·rw [if_pos h0]
  by_cases h1:a1=b1
  ·rw [if_pos h1]
   subst h0 h1
   cases a2 <;> cases b2 <;> simp
  ·rw [if_neg h1]
   subst h0
   refine congrArg some (decide_eq_decide.2 ⟨fun h=>.inr ⟨rfl,.inl h⟩,fun h=>?_⟩)
   rcases h with h|⟨_,h|⟨h,_⟩⟩
   ·omega
   ·exact h
   ·exact absurd h h1
 ·rw [if_neg h0]
  refine congrArg some (decide_eq_decide.2 ⟨fun h=>.inl h,fun h=>?_⟩)
  rcases h with h|⟨h,_⟩
  ·exact h
  ·exact absurd h h0
def insE (x:En):List En→List En
 | []=>[x]
 | y :: l=>if eLt y x then y :: insE x l else x :: y :: l
theorem insE_mem (x y:En):∀ l,y∈insE x l ↔ y=x∨y∈l
 | []=>by simp [insE]
 | z :: l=>by
  unfold insE
  split
  ·rw [List.mem_cons,insE_mem x y l,List.mem_cons]
   constructor
   ·rintro (h|h|h)
    ·exact .inr (.inl h)
    ·exact .inl h
    ·exact .inr (.inr h)
   ·rintro (h|h|h)
    ·exact .inr (.inl h)
    ·exact .inl h
    ·exact .inr (.inr h)
  ·rw [List.mem_cons]
theorem insE_len (x:En):∀ l,(insE x l).length=l.length + 1
 | []=>rfl
 | z :: l=>by
  unfold insE
  split
  ·rw [List.length_cons,insE_len x l,List.length_cons]
  ·rfl
theorem insE_pw (x:En):∀ l,l.Pairwise eLt→x ∉ l→(insE x l).Pairwise eLt
 | [],_,_=>by simp [insE]
 | z :: l,h,hx=>by
  rw [List.pairwise_cons] at h
  rw [List.mem_cons] at hx
  unfold insE
  split
  ·rename_i hz
   rw [List.pairwise_cons]
   refine ⟨fun a ha=>?_,insE_pw x l h.2 (fun q=>hx (.inr q))⟩
   rcases (insE_mem x a l).1 ha with e|e
   ·rw [e]
    exact hz
   ·exact h.1 a e
  ·rename_i hz
   have hxz:eLt x z:=by
    by_cases q:eLt x z
    ·exact q
    ·exact absurd (eLt_tri q hz) (fun e=>hx (.inl e))
   rw [List.pairwise_cons]
   refine ⟨fun a ha=>?_,List.pairwise_cons.2 h⟩
   rcases List.mem_cons.1 ha with e|e
   ·rw [e]
    exact hxz
   ·exact eLt_trans hxz (h.1 a e)
theorem spec_counts (g:List (List En)) (q:Int) (out:List En) (i m:Int) (x:En) (hg:g.length≤8) (hl:∀ l∈g,l.length≤60) (ho:out.length≤500) (K:Nat) (hK:600≤K) :
  ∀ d j c,j + d=g.length→c≤j→spec_AgreedLog.l2 (K + d + 1) g q out i m (c:Int) (j:Int) x.f0 x.f1 x.f2=spec_AgreedLog.j5 K g q out i m (decide (((c + cntE (g.drop j) x:Nat):Int) < q) || decide (x∈out)) x.f0 x.f1 x.f2:=by
 intro d
 induction d with
 | zero =>
  intro j c hj hc
  simp only [spec_AgreedLog.l2]
  rw [if_neg (by omega),List.drop_eq_nil_of_le (by omega),show cntE [] x=0 from rfl,Nat.add_zero,has_eq _ (by omega) x K (by omega)]
  by_cases h:(c:Int) < q
  ·rw [if_pos h,decide_eq_true h]
   rfl
  ·rw [if_neg h,decide_eq_false h]
   rfl
 | succ d ih =>
  intro j c hj hc
  have hjl:j < g.length:=by omega
  have hx:=hl _ (List.getElem_mem hjl)
  obtain ⟨Q,hQ⟩:∃ Q,Q=K + d + 1:=⟨_,rfl⟩
  rw [show K + (d + 1) + 1=Q + 1 by omega]
  simp only [spec_AgreedLog.l2]
  rw [if_pos (by omega),if_pos (by omega),rdL_impl hjl,has_eq _ (by omega) x _ (by omega)]
  simp only [Option.bind_some,decide_eq_true_eq]
  rw [List.drop_eq_getElem_cons hjl,cntE_cons,w64 (n:=(j:Int) + 1) (by omega) (by omega),show ((j:Int) + 1)=((j + 1:Nat):Int) by omega]
  by_cases h:x∈g[j]
  ·rw [if_pos h,if_pos h,w64 (by omega) (by omega),show ((c:Int) + 1)=((c + 1:Nat):Int) by omega,hQ,ih (j + 1) (c + 1) (by omega) (by omega),Nat.add_assoc]
  ·rw [if_neg h,if_neg h,hQ,ih (j + 1) c (by omega) (by omega),Nat.zero_add]
theorem spec_places (g:List (List En)) (q:Int) (out:List En) (i:Int) (m:Int) (x:En) (ho:out.length≤500) (K:Nat) :
  ∀ d p,p + d=out.length→∃ K',K≤K'∧spec_AgreedLog.l3 (K + d + 1) g q out i m (p:Int) x.f0 x.f1 x.f2=spec_AgreedLog.l1 K' g q (out.take p ++ insE x (out.drop p)) i (wrap64 (m + 1)):=by
 intro d
 induction d with
 | zero =>
  intro p hp
  refine ⟨K,Nat.le_refl _,?_⟩
  simp only [spec_AgreedLog.l3]
  rw [if_neg (by omega)]
  simp only [Option.bind_some]
  rw [if_pos (by omega),if_pos (by omega),Int.toNat_natCast,List.drop_eq_nil_of_le (by omega)]
  rw [if_pos (by simp),if_pos (by simp;omega),if_pos (by simp;omega)]
  simp [insE]
 | succ d ih =>
  intro p hp
  have hpl:p < out.length:=by omega
  obtain ⟨Q,hQ⟩:∃ Q,Q=K + d + 1:=⟨_,rfl⟩
  rw [show K + (d + 1) + 1=Q + 1 by omega]
  simp only [spec_AgreedLog.l3]
  rw [if_pos (by omega),if_pos (by omega),rd_impl_Entry hpl,before_eq]
  simp only [Option.bind_some,decide_eq_true_eq]
  rw [List.drop_eq_getElem_cons hpl]
  by_cases h:eLt out[p] x
  ·rw [if_pos h,w64 (n:=(p:Int) + 1) (by omega) (by omega),show ((p:Int) + 1)=((p + 1:Nat):Int) by omega]
   obtain ⟨K',h1,h2⟩:=ih (p + 1) (by omega)
   refine ⟨K',h1,?_⟩
   rw [hQ,h2,List.take_succ_eq_append_getElem hpl]
   unfold insE
   rw [if_pos h,List.append_assoc]
   cases out.drop (p + 1) <;> simp [insE]
  ·rw [if_neg h]
   refine ⟨Q,by omega,?_⟩
   rw [if_pos (by omega),Int.toNat_natCast]
   rw [if_pos (by simp;omega),if_pos (by simp;omega),if_pos (by simp;omega),List.drop_eq_getElem_cons hpl]
   unfold insE
   rw [if_neg h]
   simp
def Kept (g:List (List En)) (q:Int) (i m:Nat) (out:List En):Prop:=out.Pairwise eLt∧out.length≤60 * i + m∧∀ x,x∈out ↔ (x∈(g.take i).flatten∨x∈(g.getD i []).take m)∧¬ (cntE g x:Int) < q
theorem spec_row (g:List (List En)) (q:Int) (hg:g.length≤8) (hl:∀ l∈g,l.length≤60) (i:Nat) (hi:i < g.length) :
  ∀ d m K out,m + d=g[i].length→700 * (d + 1) + 600≤K→Kept g q i m out→∃ K' out',K≤K' + 700 * (d + 1)∧Kept g q i g[i].length out'∧spec_AgreedLog.l1 K g q out (i:Int) (m:Int)=spec_AgreedLog.l0 K' g q out' ((i + 1:Nat):Int):=by
 have hil:=hl _ (List.getElem_mem hi)
 have hgi:g.getD i []=g[i]:=by rw [List.getD_eq_getElem?_getD,List.getElem?_eq_getElem hi];rfl
 intro d
 induction d with
 | zero =>
  intro m K out hm hK hk
  obtain ⟨K,rfl⟩:∃ n,K=n + 1:=⟨K - 1,by omega⟩
  refine ⟨K,out,by omega,?_,?_⟩
  ·rw [show g[i].length=m by omega]
   exact hk
  ·simp only [spec_AgreedLog.l1]
   rw [if_pos (by omega),if_pos (by omega),rdL_impl hi,if_neg (by omega),w64 (by omega) (by omega)]
   rfl
 | succ d ih =>
  intro m K out hm hK hk
  obtain ⟨h1,h2,h3⟩:=hk
  have hml:m < g[i].length:=by omega
  have hs:((m + 1:Nat):Int)=(m:Int) + 1:=by omega
  obtain ⟨K,rfl⟩:∃ n,K=n + 1:=⟨K - 1,by omega⟩
  obtain ⟨Q,rfl⟩:∃ n,K=(n + 1) + g.length + 1:=⟨K - g.length - 2,by omega⟩
  have htk:∀ x,x∈g[i].take (m + 1) ↔ x∈g[i].take m∨x=g[i][m]:=fun x=>by
   rw [List.take_succ_eq_append_getElem hml,List.mem_append,List.mem_singleton]
  rw [show (Q + 1) + g.length + 1 + 1=((Q + 1) + g.length + 1) + 1 by omega]
  have e:=spec_counts g q out (i:Int) (m:Int) g[i][m] hg hl (by omega) (Q + 1) (by omega) g.length 0 0 (by omega) (by omega)
  rw [show ((0:Nat):Int)=0 from rfl,Nat.zero_add,List.drop_zero] at e
  generalize hR:Q + 1 + g.length + 1=R at *
  simp only [spec_AgreedLog.l1]
  rw [if_pos (by omega),if_pos (by omega),rdL_impl hi,if_pos (by omega),if_pos (by omega),rd_impl_Entry hml,e]
  simp only [spec_AgreedLog.j5]
  by_cases hc:(cntE g g[i][m]:Int) < q
  ·rw [decide_eq_true hc,Bool.true_or,if_pos rfl,w64 (n:=(m:Int) + 1) (by omega) (by omega),← hs]
   obtain ⟨K',out',g1,g2,g3⟩:=ih (m + 1) Q out (by omega) (by omega) ⟨h1,by omega,fun x=>by
    rw [h3,hgi,htk]
    refine ⟨fun h=>⟨h.1.imp id .inl,h.2⟩,fun h=>⟨?_,h.2⟩⟩
    rcases h.1 with a|a|a
    ·exact .inl a
    ·exact .inr a
    ·rw [a] at h
     exact absurd hc h.2⟩
   exact ⟨K',out',by omega,g2,g3⟩
  ·rw [decide_eq_false hc,Bool.false_or]
   by_cases hx:g[i][m]∈out
   ·rw [decide_eq_true hx,if_pos rfl,w64 (n:=(m:Int) + 1) (by omega) (by omega),← hs]
    obtain ⟨K',out',g1,g2,g3⟩:=ih (m + 1) Q out (by omega) (by omega) ⟨h1,by omega,fun x=>by
     rw [h3,hgi,htk]
     refine ⟨fun h=>⟨h.1.imp id .inl,h.2⟩,fun h=>⟨?_,h.2⟩⟩
     rcases h.1 with a|a|a
     ·exact .inl a
     ·exact .inr a
     ·rw [h3,hgi] at hx
      rw [a]
      exact hx.1⟩
    exact ⟨K',out',by omega,g2,g3⟩
   ·rw [decide_eq_false hx,if_neg (by simp)]
    obtain ⟨P,hP⟩:∃ n,Q=n + out.length + 1:=⟨Q - out.length - 1,by omega⟩
    obtain ⟨K1,k1,k2⟩:=spec_places g q out (i:Int) (m:Int) g[i][m] (by omega) P out.length 0 (by omega)
    rw [show ((0:Nat):Int)=0 from rfl] at k2
    rw [hP,k2,List.take_zero,List.drop_zero,List.nil_append,w64 (n:=(m:Int) + 1) (by omega) (by omega),← hs]
    obtain ⟨K',out',g1,g2,g3⟩:=ih (m + 1) K1 (insE g[i][m] out) (by omega) (by omega) ⟨insE_pw _ _ h1 hx,by rw [insE_len];omega,fun x=>by
     rw [insE_mem,h3,hgi,htk]
     constructor
     ·rintro (a|⟨a,b⟩)
      ·rw [a]
       exact ⟨.inr (.inr rfl),hc⟩
      ·exact ⟨a.imp id .inl,b⟩
     ·rintro ⟨a|a|a,b⟩
      ·exact .inr ⟨.inl a,b⟩
      ·exact .inr ⟨.inr a,b⟩
      ·exact .inl a⟩
    exact ⟨K',out',by omega,g2,g3⟩
theorem spec_rounds (g:List (List En)) (q:Int) (hg:g.length≤8) (hl:∀ l∈g,l.length≤60) :
  ∀ d i K out,i + d=g.length→50000 * d + 10000≤K→Kept g q i 0 out→∃ K' out',6001≤K'∧Kept g q g.length 0 out'∧spec_AgreedLog.l0 K g q out (i:Int)=(if (out'.length:Int) > 60 then some (([]:List En),3) else (spec_l07Ok.f K' out').bind fun t=>if t=true then some (out',0) else some (([]:List En),4)):=by
 intro d
 induction d with
 | zero =>
  intro i K out hi hK hk
  obtain ⟨K,rfl⟩:∃ n,K=n + 1:=⟨K - 1,by omega⟩
  rw [show i=g.length by omega] at *
  refine ⟨K,out,by omega,hk,?_⟩
  simp only [spec_AgreedLog.l0]
  rw [if_neg (by omega)]
 | succ d ih =>
  intro i K out hi hK hk
  have hil:i < g.length:=by omega
  have hx:=hl _ (List.getElem_mem hil)
  have hgi:g.getD i []=g[i]:=by rw [List.getD_eq_getElem?_getD,List.getElem?_eq_getElem hil];rfl
  obtain ⟨K,rfl⟩:∃ n,K=n + 1:=⟨K - 1,by omega⟩
  simp only [spec_AgreedLog.l0]
  rw [if_pos (by omega)]
  obtain ⟨K1,out1,g1,g2,g3⟩:=spec_row g q hg hl i hil g[i].length 0 K out (by omega) (by omega) hk
  rw [show ((0:Nat):Int)=0 from rfl] at g3
  rw [g3]
  obtain ⟨K',out',r1,r2,r3⟩:=ih (i + 1) K1 out1 (by omega) (by omega) (by
   obtain ⟨a,b,c⟩:=g2
   refine ⟨a,by omega,fun x=>?_⟩
   rw [c,hgi,List.take_length,List.take_succ_eq_append_getElem hil,List.flatten_append,List.mem_append]
   simp)
  exact ⟨K',out',r1,r2,r3⟩
def agrG (g:List (List En)) (q:Int):List En:=(slices_Compact_Log_Entry.to (slices_SortFunc_Log_Entry__impl_compareEntries.sorted g.flatten) (slices_SortFunc_Log_Entry__impl_compareEntries.sorted g.flatten).length).filter fun x=>!decide ((cntE g x:Int) < q)
theorem agrG_ok (g:List (List En)) (q:Int):(agrG g q).Pairwise eLt∧∀ x,x∈agrG g q ↔ x∈g.flatten∧¬ (cntE g x:Int) < q:=by
 obtain ⟨h1,h2,_⟩:=compact_ok (sorted_pw g.flatten) _ (Nat.le_refl _)
 refine ⟨h1.filter _,fun x=>?_⟩
 unfold agrG
 rw [List.mem_filter,h2,List.take_length,sorted_mem]
 simp
def resAgr (g:List (List En)) (q:Int):List En × Int :=
 if codeGs g=0 then (if (decide (1≤q) && decide (q≤(g.length:Int)))=true then (if (agrG g q).length > 60 then ([],3) else if validG (agrG g q)=true then (agrG g q,0) else ([],4)) else ([],2)) else ([],codeGs g)
theorem validG_len {l:List En} (h:validG l=true):l.length≤60:=by
 unfold validG at h
 simp only [Bool.and_eq_true,decide_eq_true_eq] at h
 exact h.1.1
theorem specAgreed (g:List (List En)) (q:Int) (hL:g.length≤1048576) (K:Nat) (hK:1200000 < K):spec_AgreedLog.f K g q=some (resAgr g q):=by
 unfold spec_AgreedLog.f resAgr
 rw [specLogs hL (by omega)]
 simp only [Option.bind_some]
 obtain ⟨K,rfl⟩:∃ n,K=n + 2:=⟨K - 2,by omega⟩
 by_cases h0:codeGs g=0
 ·rw [if_pos h0,if_pos h0,in_log]
  simp only [Option.bind_some]
  cases hb:(decide (1≤q) && decide (q≤(g.length:Int))) with
  | false =>
   simp only [spec_AgreedLog.j0,spec_AgreedLog.j1]
   simp
  | true =>
   obtain ⟨hv,hg1,hg⟩:=codeGs_valid h0
   have hl:∀ l∈g,l.length≤60:=fun l h=>validG_len (hv l h)
   simp only [spec_AgreedLog.j0,spec_AgreedLog.j1]
   rw [if_neg (by simp),if_pos h0]
   simp only [if_true]
   obtain ⟨K',out',r1,r2,r3⟩:=spec_rounds g q hg hl g.length 0 K [] (by omega) (by omega) ⟨by simp,by simp,fun x=>by simp⟩
   rw [show ((0:Nat):Int)=0 from rfl] at r3
   have he:out'=agrG g q:=by
    obtain ⟨a1,a2⟩:=agrG_ok g q
    refine strict_unique _ _ r2.1 a1 (fun x=>?_)
    rw [r2.2.2,a2,List.take_length]
    simp
   rw [r3,he,specOk_log (by omega)]
   simp only [Option.bind_some]
   by_cases hlen:(agrG g q).length > 60
   ·rw [if_pos (by omega),if_pos hlen]
   ·rw [if_neg (by omega),if_neg hlen]
    cases validG (agrG g q) <;> rfl
 ·rw [if_neg h0,if_neg h0]
  simp only [spec_AgreedLog.j0,spec_AgreedLog.j1]
  rw [if_neg (by simp),if_neg h0]
theorem firstOf_eq (k:Nat) (a b:Int) (hk:3≤k):impl_firstOf.f k [a,b]=some (if a=0 then b else a):=by
 obtain ⟨k,rfl⟩:∃ m,k=m + 3:=⟨k - 3,by omega⟩
 unfold impl_firstOf.f
 have r0:rd [a,b] 0=a:=rfl
 have r1:rd [a,b] 1=b:=rfl
 unfold impl_firstOf.l0
 simp only [List.length_cons,List.length_nil]
 rw [if_pos (by omega),if_pos (by omega),if_pos (by omega),r0]
 by_cases h:a=0
 ·rw [if_pos h,if_pos h,w64 (by omega) (by omega)]
  unfold impl_firstOf.l0
  simp only [List.length_cons,List.length_nil]
  rw [if_pos (by omega),if_pos (by omega),if_pos (by omega),show (0:Int) + 1=1 from rfl,r1]
  by_cases h1:b=0
  ·rw [if_pos h1,w64 (by omega) (by omega)]
   unfold impl_firstOf.l0
   rw [if_neg (by simp),h1]
  ·rw [if_neg h1]
 ·rw [if_neg h,if_neg h]
theorem flat_small {g:List (List En)} (hl:∀ l∈g,l.length≤60):g.flatten.length≤60 * g.length:=by
 induction g with
 | nil=>simp
 | cons x g ih =>
  rw [List.flatten_cons,List.length_append,List.length_cons]
  have h1:=hl x List.mem_cons_self
  have h2:=ih (fun l h=>hl l (List.mem_cons_of_mem _ h))
  omega
theorem agrG_len {g:List (List En)} (hg:g.length≤8) (hl:∀ l∈g,l.length≤60) (q:Int):(agrG g q).length≤1048576:=by
 have h1:=flat_small hl
 unfold agrG
 refine Nat.le_trans (List.length_filter_le _ _) ?_
 have h2:∀ (l:List En) n,(slices_Compact_Log_Entry.to l n).length≤n:=fun l n=>by
  induction n with
  | zero=>simp [slices_Compact_Log_Entry.to]
  | succ n ih =>
   unfold slices_Compact_Log_Entry.to
   split
   ·rw [List.length_append,List.length_singleton]
    omega
   ·omega
 refine Nat.le_trans (h2 _ _) ?_
 unfold slices_SortFunc_Log_Entry__impl_compareEntries.sorted
 rw [List.length_mergeSort]
 omega
theorem implAgreed (g:List (List En)) (q:Int) (hI:∀ x∈g,x.length≤1048576) (K:Nat) (hK:1200000 < K):impl_AgreedLog.f K g q=some (resAgr g q):=by
 unfold impl_AgreedLog.f resAgr
 rw [implAllCode hI]
 simp only [Option.bind_some,impl_size_Log.f,impl_Log_up.within]
 have hu:∀ b,impl_unless.f b 2=some (if b=true then 0 else 2):=fun b=>by cases b <;> rfl
 rw [hu]
 simp only [Option.bind_some]
 rw [firstOf_eq K _ _ (by omega)]
 simp only [Option.bind_some]
 by_cases h0:codeGs g=0
 ·rw [if_pos h0,if_pos h0]
  cases hb:(decide (1≤q) && decide (q≤(g.length:Int))) with
  | false=>simp
  | true =>
   obtain ⟨hv,hg1,hg⟩:=codeGs_valid h0
   have hl:∀ l∈g,l.length≤60:=fun l h=>validG_len (hv l h)
   have hf:=flat_small hl
   have hal:=agrG_len hg hl q
   simp only [if_true]
   unfold slices_Concat_Log_Entry.f slices_SortFunc_Log_Entry__impl_compareEntries.f slices_Compact_Log_Entry.f slices_DeleteFunc_Log_Entry__impl_AgreedLog_1.f
   rw [if_pos (by omega)]
   simp only [Option.bind_some]
   rw [if_pos (by omega)]
   simp only [Option.bind_some]
   rw [delO_eq (q:=fun x=>decide ((cntE g x:Int) < q)) (fun x _=>cnt_impl g hg hl x q K (by omega))]
   simp only [Option.bind_some]
   have hagr:((slices_Compact_Log_Entry.to (slices_SortFunc_Log_Entry__impl_compareEntries.sorted g.flatten) (slices_SortFunc_Log_Entry__impl_compareEntries.sorted g.flatten).length).filter fun x=>!decide ((cntE g x:Int) < q))=agrG g q:=rfl
   rw [hagr,implValid_log hal]
   simp only [Option.bind_some]
   by_cases hlen:(agrG g q).length > 60
   ·rw [if_pos (by omega),if_pos hlen]
   ·rw [if_neg (by omega),if_neg hlen]
    cases validG (agrG g q) <;> rfl
 ·simp only [h0,if_false]
theorem u64_range (y:Int):0≤IntKind.u64.wrap y∧IntKind.u64.wrap y≤18446744073709551615:=by
 rw [IntKind.wrap_u64]
 omega
theorem low_byte {x:Int} (h:0≤x∧x≤18446744073709551615):0≤wrap64 (Go.bits .and .u64 (x / 1099511627776) 255)∧wrap64 (Go.bits .and .u64 (x / 1099511627776) 255)≤255:=by
 have hx:0≤x / 1099511627776∧x / 1099511627776≤18446744073709551615:=by omega
 generalize x / 1099511627776=y at *
 obtain ⟨n,rfl⟩:∃ n:Nat,y=(n:Int):=⟨y.toNat,by omega⟩
 have e:Go.bits .and .u64 (n:Int) ((255:Nat):Int)=((n &&& 255:Nat):Int):=bits_and_u64_nat n 255 (by omega) (by omega)
 have e2:Go.bits .and .u64 (n:Int) 255=((n &&& 255:Nat):Int):=e
 have hb:n &&& 255≤255:=Nat.and_le_right
 rw [e2,w64 (by omega) (by omega)]
 omega
def Bytes (code:List Int):Prop:=∀ x∈code,0≤x∧x≤255
theorem bytes_at {code:List Int} (hc:Bytes code) {i:Int} (h0:0≤i) (h1:i < (code.length:Int)):0≤rd code i∧rd code i≤255:=by
 obtain ⟨j,rfl⟩:∃ j:Nat,i=(j:Int):=⟨i.toNat,by omega⟩
 have hj:j < code.length:=by omega
 have:rd code (j:Int)=code[j]:=by simp [rd,List.getD_eq_getElem?_getD,List.getElem?_eq_getElem hj]
 rw [this]
 exact hc _ (List.getElem_mem hj)
theorem next_ok {code:List Int} (hc:Bytes code) {at_ seed:Int} (ha:0≤at_∧at_≤1000000):∃ n s,spec_l00Src_next.f code at_ seed=some (n,at_ + 1,s)∧0≤n∧n≤255:=by
 unfold spec_l00Src_next.f
 rw [w64 (n:=at_ + 1) (by omega) (by omega)]
 by_cases h1:at_ < (code.length:Int)
 ·have hb:=bytes_at hc ha.1 h1
  rw [if_pos h1,if_pos ha.1,if_pos (by omega)]
  exact ⟨_,_,rfl,by rw [w64 (by omega) (by omega)];exact hb⟩
 ·rw [if_neg h1,if_neg (by omega)]
  exact ⟨_,_,rfl,low_byte (u64_range _)⟩
theorem pick_ok {code:List Int} (hc:Bytes code) {at_ seed a:Int} (ha:0≤at_∧at_≤1000000) (h1:1 < a) (h2:a≤200):∃ n s,spec_l00Src_pick.f code at_ seed a=some (n,at_ + 1,s)∧0≤n∧n < a:=by
 obtain ⟨n,s,e,hn⟩:=next_ok hc (seed:=seed) ha
 unfold spec_l00Src_pick.f
 rw [if_neg (by omega),e]
 simp only [Option.bind_some]
 rw [if_neg (by omega),if_neg (by omega)]
 refine ⟨_,_,rfl,?_⟩
 rw [Int.tmod_eq_emod_of_nonneg hn.1]
 exact ⟨Int.emod_nonneg _ (by omega),Int.emod_lt_of_pos _ (by omega)⟩
theorem rdE_take {l:List En} {n i:Nat} (h:i < n):rd_T35 (l.take n) (i:Int)=rd_T35 l (i:Int):=by
 simp [rd_T35,List.getD_eq_getElem?_getD,List.getElem?_take_of_lt h]
theorem rdE_take' {l:List En} {n:Nat} {i:Int} (h0:0≤i) (h:i < (n:Int)):rd_T35 (l.take n) i=rd_T35 l i:=by
 obtain ⟨j,rfl⟩:∃ j:Nat,i=(j:Int):=⟨i.toNat,by omega⟩
 exact rdE_take (by omega)
theorem idxP_congr' {α:Type} {p q:α→Bool} {l:List α} (h:∀ x∈l,p x=q x):idxP p l=idxP q l:=by
 have e:l.findIdx? p=l.findIdx? q:=by
  induction l with
  | nil=>rfl
  | cons a l ih=>simp [List.findIdx?_cons,h a (by simp),ih (fun x hx=>h x (by simp [hx]))]
 unfold idxP
 rw [e]
theorem ups_take {l:List En} {n m:Nat} (h:m≤n):ups (l.take n) m=ups l m:=by
 induction m with
 | zero=>rfl
 | succ m ih =>
  rw [ups,ups,ih (by omega)]
  cases hu:ups l m with
  | none=>rfl
  | some out =>
   have ho:=(ups_ok hu).2.1
   simp only [Option.bind_some]
   have ha:atE (l.take n) m out=atE l m out:=by
    unfold atE impl_Log_up.at
    rw [rdE_take (by omega)]
    exact idxP_congr' fun x hx=>by rw [rdE_take' (ho x hx).1 (by have:=(ho x hx).2;omega)]
   unfold upsStep
   rw [ha,rdE_take (by omega)]
theorem lastT_take {l:List En} {n m:Nat} (h:m≤n):lastT (l.take n) m=lastT l m:=by
 cases m with
 | zero=>rfl
 | succ m=>rw [lastT,lastT,rdE_take (by omega)]
theorem gd_take {l:List En} {n m:Nat} (h:m≤n):gd (l.take n) m=gd l m:=by
 induction m with
 | zero=>rfl
 | succ m ih=>rw [gd,gd,ih (by omega),lastT_take (by omega),rdE_take (by omega)]
theorem valid_parts {l:List En} (h:validG l=true):l.length≤60∧gd l l.length=true∧∃ o,ups l l.length=some o:=by
 unfold validG at h
 simp only [Bool.and_eq_true,decide_eq_true_eq] at h
 exact ⟨h.1.1,h.1.2,Option.isSome_iff_exists.1 h.2⟩
theorem ups_some {l:List En} (h:validG l=true) {n:Nat} (hn:n≤l.length):∃ o,ups l n=some o:=by
 obtain ⟨_,_,o,ho⟩:=valid_parts h
 cases e:ups l n with
 | some o=>exact ⟨o,rfl⟩
 | none=>rw [ups_none e hn] at ho;cases ho
theorem one_okT {code:List Int} (hc:Bytes code) {at_ seed a:Int} (ha:0≤at_∧at_≤1000000) (h1:1 < a) (h2:a≤200):∃ b s,spec_l00Src_one.f code at_ seed a=some (b,at_ + 1,s):=by
 obtain ⟨n,s,e,hn⟩:=pick_ok hc (seed:=seed) ha h1 h2
 unfold spec_l00Src_one.f
 rw [e]
 exact ⟨_,_,rfl⟩
theorem valid_snoc {g:List En} (hg:validG g=true) (hl:g.length < 60) {out:List Int} (ho:ups g g.length=some out) {x:En} (hx:lastT g g.length≤x.f0∧x.f0≤100000∧0≤x.f1∧x.f1≤9999) (hd:x.f2=out.any (fun m=>(rd_T35 g m).f1 == x.f1)) :
  validG (g ++ [x])=true∧lastT (g ++ [x]) (g.length + 1)=x.f0:=by
 have ht:(g ++ [x]).take g.length=g:=by simp
 have hrd:rd_T35 (g ++ [x]) (g.length:Int)=x:=by simp [rd_T35,List.getD_eq_getElem?_getD]
 have hin:=(ups_ok ho).2.1
 have hu:ups (g ++ [x]) g.length=some out:=by
  have:=ups_take (l:=g ++ [x]) (Nat.le_refl g.length)
  rw [ht] at this
  rw [← this];exact ho
 have hgd:gd (g ++ [x]) g.length=true:=by
  have:=gd_take (l:=g ++ [x]) (Nat.le_refl g.length)
  rw [ht] at this
  rw [← this];exact (valid_parts hg).2.1
 have hla:lastT (g ++ [x]) g.length=lastT g g.length:=by
  have:=lastT_take (l:=g ++ [x]) (Nat.le_refl g.length)
  rw [ht] at this
  exact this.symm
 have hat:decide (atE (g ++ [x]) g.length out < 0)=!x.f2:=by
  unfold atE impl_Log_up.at
  rw [hrd,hd]
  have hc:out.any (fun m=>(rd_T35 g m).f1 == x.f1)=out.any (fun n=>(rd_T35 (g ++ [x]) n).f1 == x.f1):=by
   rw [Bool.eq_iff_iff,List.any_eq_true,List.any_eq_true]
   have hm:∀ m∈out,rd_T35 (g ++ [x]) m=rd_T35 g m:=fun m hm=>by
    have h1:=hin m hm
    have:=rdE_take' (l:=g ++ [x]) (n:=g.length) (i:=m) h1.1 h1.2
    rw [ht] at this
    exact this.symm
   constructor
   ·rintro ⟨m,h1,h2⟩;exact ⟨m,h1,by rw [hm m h1];exact h2⟩
   ·rintro ⟨m,h1,h2⟩;exact ⟨m,h1,by rw [hm m h1] at h2;exact h2⟩
  rw [hc,← idxP_nonneg]
  rw [Bool.eq_iff_iff]
  simp only [decide_eq_true_eq,Bool.not_eq_true',decide_eq_false_iff_not]
  omega
 have hst:∃ o,upsStep (g ++ [x]) g.length out=some o:=by
  unfold upsStep
  rw [hrd,hat]
  rw [if_neg (by cases x.f2 <;> simp)]
  split
  ·exact ⟨_,rfl⟩
  ·exact ⟨_,rfl⟩
 refine ⟨?_,?_⟩
 ·unfold validG
  rw [List.length_append,List.length_singleton]
  simp only [Bool.and_eq_true,decide_eq_true_eq]
  refine ⟨⟨by omega,?_⟩,?_⟩
  ·rw [gd,hgd,hla,hrd]
   unfold impl_Log_up.good
   rw [decide_eq_true hx.1,decide_eq_true hx.2.1,decide_eq_true hx.2.2.1,decide_eq_true hx.2.2.2];rfl
  ·obtain ⟨o,h⟩:=hst
   rw [ups,hu]
   simp only [Option.bind_some]
   rw [h];rfl
 ·rw [lastT,hrd]
theorem any_loop {g:List En} {out:List Int} (hin:∀ x∈out,0≤x∧x < (g.length:Int)) (hol:out.length≤60) (time x5:Int) (code:List Int) (at_ seed sig:Int):∀ d j k (b:Bool),j + d=out.length→d < k →
  spec_l07Drawn.l1 k g time x5 out (j:Int) code at_ seed time sig b=spec_l07Drawn.l1 (k - d) g time x5 out (out.length:Int) code at_ seed time sig (b || (out.drop j).any (fun m=>(rd_T35 g m).f1 == sig)):=by
 intro d
 induction d with
 | zero =>
  intro j k b hj hk
  obtain rfl:j=out.length:=by omega
  rw [List.drop_of_length_le (by omega)]
  simp
 | succ d ih =>
  intro j k b hj hk
  obtain ⟨k,rfl⟩:∃ m,k=m + 1:=⟨k - 1,by omega⟩
  have hjl:j < out.length:=by omega
  have e:=fun b=>ih (j + 1) k b (by omega) (by omega)
  rw [show ((j + 1:Nat):Int)=(j:Int) + 1 by omega] at e
  have hr:rd out (j:Int)=out[j]:=by simp [rd,List.getD_eq_getElem?_getD,List.getElem?_eq_getElem hjl]
  have hi:=hin _ (List.getElem_mem hjl)
  rw [List.drop_eq_getElem_cons hjl,List.any_cons,show k + 1 - (d + 1)=k - d by omega]
  rw [spec_l07Drawn.l1,if_pos (by omega),w64 (n:=(j:Int) + 1) (by omega) (by omega),hr]
  cases b with
  | true =>
   rw [if_pos rfl,e true]
   simp
  | false =>
   rw [if_neg (by decide),if_pos (by omega),if_pos hi.1,if_pos hi.2,e _]
   simp
theorem seenLen_in {g:List En} (hg:validG g=true) (lost other from_ by_:Int) (code:List Int) (at_ seed:Int):∀ d i k (out:List En),i + d=g.length→out.length≤i→7000 + d < k →
  ∃ l,spec_l07Seen.l0 k g out lost other from_ by_ (i:Int) code at_ seed=some (l,at_,seed)∧validG l=true∧l.length≤g.length:=by
 have h60:=(valid_parts hg).1
 intro d
 induction d with
 | zero =>
  intro i k out hi ho hk
  obtain ⟨k,rfl⟩:∃ m,k=m + 1:=⟨k - 1,by omega⟩
  rw [spec_l07Seen.l0,if_neg (by omega),specOk_log (by omega)]
  simp only [Option.bind_some]
  by_cases h:validG out=true
  ·rw [if_pos h];exact ⟨out,rfl,h,by omega⟩
  ·rw [if_neg h,if_pos (by simp only [List.length_nil];omega)]
   exact ⟨g,rfl,hg,Nat.le_refl _⟩
 | succ d ih =>
  intro i k out hi ho hk
  obtain ⟨k,rfl⟩:∃ m,k=m + 1:=⟨k - 1,by omega⟩
  have e:=fun o h=>ih (i + 1) k o (by omega) h (by omega)
  rw [show ((i + 1:Nat):Int)=(i:Int) + 1 by omega] at e
  rw [spec_l07Seen.l0,if_pos (by omega),if_pos (by omega),w64 (n:=(i:Int) + 1) (by omega) (by omega)]
  split
  ·exact e _ (by omega)
  ·split
   ·rw [if_pos (by omega)]
    exact e _ (by simp only [List.length_append,List.length_singleton];omega)
   ·rw [if_pos (by omega)]
    exact e _ (by simp only [List.length_append,List.length_singleton];omega)
theorem seenLen_ok {g:List En} (hg:validG g=true) {code:List Int} (hc:Bytes code) {k:Nat} (hk:10000 < k):∃ l,spec_P6Seen.f k code g=some l∧validG l=true∧l.length≤g.length:=by
 have h60:=(valid_parts hg).1
 have hj:∀ lost at_ seed,0≤at_→at_≤100→∃ l a s,spec_l07Seen.j0 k g [] lost code at_ seed=some (l,a,s)∧validG l=true∧l.length≤g.length:=by
  intro lost at_ seed h0 h1
  obtain ⟨k,rfl⟩:∃ m,k=m + 1:=⟨k - 1,by omega⟩
  obtain ⟨p1,s1,e1,_⟩:=pick_ok hc (seed:=seed) (a:=9) (at_:=at_) (by omega) (by omega) (by omega)
  obtain ⟨p2,s2,e2,_⟩:=pick_ok hc (seed:=s1) (a:=5) (at_:=at_ + 1) (by omega) (by omega) (by omega)
  obtain ⟨p3,s3,e3,_⟩:=pick_ok hc (seed:=s2) (a:=3) (at_:=at_ + 1 + 1) (by omega) (by omega) (by omega)
  obtain ⟨l,q1,q2⟩:=seenLen_in hg lost p1 p2 p3 code (at_ + 1 + 1 + 1) s3 g.length 0 k [] (by omega) (by simp) (by omega)
  rw [spec_l07Seen.j0,e1]
  simp only [Option.bind_some]
  rw [e2]
  simp only [Option.bind_some]
  rw [e3]
  simp only [Option.bind_some]
  exact ⟨l,_,_,q1,q2⟩
 unfold spec_P6Seen.f spec_l00From.f spec_l07Seen.f
 simp only [Option.bind_some]
 obtain ⟨b,s,e⟩:=one_okT hc (seed:=0) (a:=2) (at_:=0) (by omega) (by omega) (by omega)
 rw [e]
 simp only [Option.bind_some]
 split
 ·obtain ⟨p,s',e',_⟩:=pick_ok hc (seed:=s) (a:=5) (at_:=0 + 1) (by omega) (by omega) (by omega)
  rw [e']
  simp only [Option.bind_some]
  obtain ⟨l,a,s2,q1,q2⟩:=hj p (0 + 1 + 1) s' (by omega) (by omega)
  rw [q1]
  exact ⟨l,rfl,q2⟩
 ·obtain ⟨l,a,s2,q1,q2⟩:=hj (-1) (0 + 1) s (by omega) (by omega)
  rw [q1]
  exact ⟨l,rfl,q2⟩
theorem drawnLen_in {code:List Int} (hc:Bytes code):∀ (n k:Nat) (g:List En) (time at_ seed:Int),20000 + 200 * n < k→g.length + n≤10→validG g=true→lastT g g.length≤time→0≤time→time + 8 * (n:Int)≤200→0≤at_→at_ + 2 * (n:Int)≤1000 →
  ∃ l a s,spec_l07Drawn.l0 k g time (n:Int) code at_ seed=some (l,a,s)∧validG l=true∧l.length≤10:=by
 intro n
 induction n with
 | zero =>
  intro k g time at_ seed hk hl hg h1 h2 h3 h4 h5
  obtain ⟨k,rfl⟩:∃ m,k=m + 1:=⟨k - 1,by omega⟩
  rw [spec_l07Drawn.l0,if_neg (by decide)]
  exact ⟨g,at_,seed,rfl,hg,by omega⟩
 | succ n ih =>
  intro k g time at_ seed hk hl hg h1 h2 h3 h4 h5
  obtain ⟨k,rfl⟩:∃ m,k=m + 1:=⟨k - 1,by omega⟩
  obtain ⟨p1,s1,e1,b1⟩:=pick_ok hc (seed:=seed) (a:=5) (at_:=at_) (by omega) (by omega) (by omega)
  obtain ⟨p2,s2,e2,b2⟩:=pick_ok hc (seed:=s1) (a:=8) (at_:=at_ + 1) (by omega) (by omega) (by omega)
  obtain ⟨out,ho⟩:=ups_some hg (Nat.le_refl g.length)
  have hok:=ups_ok ho
  have hv:=valid_snoc hg (by omega) ho (x:=⟨time,p1,out.any (fun m=>(rd_T35 g m).f1 == p1)⟩) ⟨h1,by simp only;omega,by simp only;omega,by simp only;omega⟩ rfl
  rw [spec_l07Drawn.l0,if_pos (by omega),e1]
  simp only [Option.bind_some]
  rw [specUp_eq (Nat.le_refl _) (by omega) (by omega),ho]
  simp only [Option.bind_some]
  have e:=any_loop hok.2.1 (by omega) time ((n + 1:Nat):Int) code (at_ + 1) s1 p1 out.length 0 k false (by omega) (by omega)
  rw [show ((0:Nat):Int)=0 by rfl] at e
  rw [e,List.drop_zero,Bool.false_or]
  obtain ⟨K,hK⟩:∃ K,k - out.length=K + 1:=⟨k - out.length - 1,by omega⟩
  rw [hK,spec_l07Drawn.l1,if_neg (by omega),if_pos (by omega),e2]
  simp only [Option.bind_some]
  rw [w64 (n:=time + p2) (by omega) (by omega),w64 (n:=((n + 1:Nat):Int) - 1) (by omega) (by omega),show ((n + 1:Nat):Int) - 1=(n:Int) by omega]
  exact ih K _ (time + p2) (at_ + 1 + 1) s2 (by omega) (by simp only [List.length_append,List.length_singleton];omega) hv.1 (by rw [List.length_append,List.length_singleton,hv.2];simp only;omega) (by omega) (by omega) (by omega) (by omega)
theorem drawnLen_ok {code:List Int} (hc:Bytes code) {k:Nat} (hk:30000 < k):∃ l,spec_P6Log.f k code=some l∧validG l=true∧l.length≤10:=by
 obtain ⟨p1,s1,e1,b1⟩:=pick_ok hc (seed:=0) (a:=20) (at_:=0) (by omega) (by omega) (by omega)
 obtain ⟨p2,s2,e2,b2⟩:=pick_ok hc (seed:=s1) (a:=10) (at_:=0 + 1) (by omega) (by omega) (by omega)
 obtain ⟨n,hn⟩:∃ n:Nat,p2=(n:Int):=⟨p2.toNat,by omega⟩
 subst hn
 obtain ⟨l,a,s,q1,q2⟩:=drawnLen_in hc n k [] p1 (0 + 1 + 1) s2 (by omega) (by simp only [List.length_nil];omega) rfl (by show (0:Int)≤p1;omega) (by omega) (by omega) (by omega) (by omega)
 unfold spec_P6Log.f spec_l00From.f spec_l07Drawn.f
 simp only [Option.bind_some]
 rw [e1]
 simp only [Option.bind_some]
 rw [e2]
 simp only [Option.bind_some]
 rw [q1]
 exact ⟨l,rfl,q2⟩
theorem loop_acc {β γ:Type} (L:Nat→List β→Int→Option γ) (n:Nat) (g:Nat→List β) (R:List β→γ) (hb:∀ i,i < n→(g i).length≤1)
  (hs:∀ k i acc,i < n→acc.length≤i→L (k + 1) acc (i:Int)=L k (acc ++ g i) ((i + 1:Nat):Int))
  (he:∀ k acc,acc.length≤n→L (k + 1) acc (n:Int)=some (R acc)):∀ k,n < k→L k [] 0=some (R ((List.range n).flatMap g)):=by
 intro k hk
 obtain ⟨r,hr,h⟩:=loop_inv (fun k (s:List β × Int)=>L k s.1 s.2) n (fun i s=>s.2=(i:Int)∧s.1=(List.range i).flatMap g∧s.1.length≤i) (fun r=>r=R ((List.range n).flatMap g))
  (fun k i s hi ⟨h1,h2,h3⟩=>by
   obtain ⟨acc,x⟩:=s
   simp only at h1 h2 h3
   subst h1
   refine .inl ⟨(acc ++ g i,((i + 1:Nat):Int)),⟨rfl,?_,?_⟩,hs k i acc hi h3⟩
   ·rw [h2,List.range_succ,List.flatMap_append]
    simp
   ·have:=hb i hi
    simp only [List.length_append]
    omega)
  (fun k s ⟨h1,h2,h3⟩=>by
   obtain ⟨acc,x⟩:=s
   simp only at h1 h2 h3
   subst h1
   exact ⟨_,by rw [h2],he k acc h3⟩) k ([],0) ⟨rfl,rfl,Nat.zero_le _⟩ hk
 subst hr
 exact h
def fitC (e f:En):Bool:=decide (e.f2=f.f2)
def costC (e f:En):Int:=if e.f1=f.f1 then 0 else 1
theorem costC_b (e f:En):0≤costC e f∧costC e f≤1:=by
 unfold costC
 split <;> omega
theorem stepFaults_eq (e f:En):impl_stepFaults.f e.f0 e.f1 e.f2 f.f0 f.f1 f.f2=some (if fitC e f=true then (costC e f,true) else (1,false)):=by
 unfold impl_stepFaults.f impl_Entry_agree.f fitC costC
 by_cases h:e.f1=f.f1
 ·rw [if_pos h,if_pos h]
  cases e.f2 <;> cases f.f2 <;> rfl
 ·rw [if_neg h,if_neg h]
  cases e.f2 <;> cases f.f2 <;> rfl
theorem cost_eq (e f:En):spec_l07Cost.f e.f0 e.f1 e.f2 f.f0 f.f1 f.f2=some (if fitC e f=true then costC e f else -1):=by
 unfold spec_l07Cost.f fitC costC
 by_cases h:e.f1=f.f1
 ·rw [if_pos h,if_pos h]
  cases e.f2 <;> cases f.f2 <;> rfl
 ·rw [if_neg h,if_neg h]
  cases e.f2 <;> cases f.f2 <;> rfl
def rowOf (n:Nat) (V:Nat→Int):List Int:=(List.range (n + 1)).map V
def tabOf (m n:Nat) (V:Nat→Nat→Int):List (List Int):=(List.range (m + 1)).map fun i=>rowOf n (V i)
def RowSt (n:Nat) (V:Nat→Int) (q:Nat) (r:List Int):Prop:=r.length=n + 1∧∀ k,q≤k→k≤n→r[k]?=some (V k)
def TabSt (m n:Nat) (V:Nat→Nat→Int) (P:List Int→Prop) (i q:Nat) (T:List (List Int)):Prop :=
 T.length=m + 1∧(∀ i',i < i'→i'≤m→RowSt n (V i') 0 (T.getD i' []))∧RowSt n (V i) q (T.getD i [])∧∀ i',i' < i→P (T.getD i' [])
theorem rowSt_eq {n:Nat} {V:Nat→Int} {r:List Int} (h:RowSt n V 0 r):r=rowOf n V:=by
 obtain ⟨h1,h2⟩:=h
 apply List.ext_getElem?
 intro k
 unfold rowOf
 rcases Nat.lt_or_ge k (n + 1) with hk|hk
 ·rw [h2 k (Nat.zero_le _) (by omega)]
  simp [List.getElem?_range hk]
 ·rw [List.getElem?_eq_none (by omega),List.getElem?_eq_none (by simp;omega)]
theorem rowSt_get {n:Nat} {V:Nat→Int} {q:Nat} {r:List Int} (h:RowSt n V q r) {k:Nat} (hq:q≤k) (hk:k≤n):rd r (k:Int)=V k:=by
 have:=h.2 k hq hk
 simp [rd,List.getD_eq_getElem?_getD,this]
theorem rowSt_set {n:Nat} {V:Nat→Int} {q:Nat} {r:List Int} (h:RowSt n V (q + 1) r) (hq:q≤n):RowSt n V q (r.set q (V q)):=by
 refine ⟨by rw [List.length_set];exact h.1,fun k hk hn=>?_⟩
 by_cases e:q=k
 ·subst e
  rw [List.getElem?_set_self (by rw [h.1];omega)]
 ·rw [List.getElem?_set_ne e]
  exact h.2 k (by omega) hn
theorem getD_set_self {T:List (List Int)} {i:Nat} {r:List Int} (h:i < T.length):(T.set i r).getD i []=r:=by
 rw [List.getD_eq_getElem?_getD,List.getElem?_set_self h]
 rfl
theorem getD_set_ne {T:List (List Int)} {i j:Nat} {r:List Int} (h:i≠j):(T.set i r).getD j []=T.getD j []:=by
 rw [List.getD_eq_getElem?_getD,List.getElem?_set_ne h,List.getD_eq_getElem?_getD]
theorem tabSt_set {m n:Nat} {V:Nat→Nat→Int} {P:List Int→Prop} {i q:Nat} {T:List (List Int)} (h:TabSt m n V P i (q + 1) T) (hi:i≤m) (hq:q≤n):TabSt m n V P i q (T.set i ((T.getD i []).set q (V i q))):=by
 obtain ⟨h1,h2,h3,h4⟩:=h
 refine ⟨by rw [List.length_set];exact h1,fun i' hi' hm=>?_,?_,fun i' hi'=>?_⟩
 ·rw [getD_set_ne (by omega)]
  exact h2 i' hi' hm
 ·rw [getD_set_self (by omega)]
  exact rowSt_set h3 hq
 ·rw [getD_set_ne (by omega)]
  exact h4 i' hi'
theorem tab_eq {m n:Nat} {V:Nat→Nat→Int} {T:List (List Int)} (h1:T.length=m + 1) (h2:∀ i',i'≤m→RowSt n (V i') 0 (T.getD i' [])):T=tabOf m n V:=by
 apply List.ext_getElem?
 intro i
 unfold tabOf
 rcases Nat.lt_or_ge i (m + 1) with hi|hi
 ·have:=rowSt_eq (h2 i (by omega))
  rw [List.getElem?_eq_getElem (by omega)]
  rw [List.getD_eq_getElem?_getD,List.getElem?_eq_getElem (by omega)] at this
  simp only [Option.getD_some] at this
  rw [this]
  simp [List.getElem?_range hi]
 ·rw [List.getElem?_eq_none (by omega),List.getElem?_eq_none (by simp;omega)]
theorem tab_row {m n:Nat} {V:Nat→Nat→Int} {i:Nat} (hi:i≤m):rd_L7 (tabOf m n V) (i:Int)=rowOf n (V i):=by
 show (tabOf m n V).getD i []=_
 unfold tabOf
 rw [List.getD_eq_getElem?_getD,List.getElem?_map,List.getElem?_range (by omega)]
 rfl
theorem row_at {n:Nat} {V:Nat→Int} {k:Nat} (hk:k≤n):rd (rowOf n V) (k:Int)=V k:=by
 unfold rowOf
 simp [rd,List.getD_eq_getElem?_getD,List.getElem?_range (by omega:k < n + 1)]
theorem row_len {n:Nat} {V:Nat→Int}:(rowOf n V).length=n + 1:=by simp [rowOf]
theorem tab_len {m n:Nat} {V:Nat→Nat→Int}:(tabOf m n V).length=m + 1:=by simp [tabOf]
theorem tab_loop {γ:Type} (m n c:Nat) (V:Nat→Nat→Int) (P:List Int→Prop) (L0:Nat→List (List Int)→Int→Option γ) (L1:Nat→List (List Int)→Int→Int→Option γ) (R:List (List Int)→γ) (hm:m≤60) (hn:n≤60) (hc:c≤20)
  (init:∀ K T i,i≤m→T.length=m + 1→P (T.getD i [])→∃ r:List Int,r.length=n + 1∧L0 (K + 1) T (i:Int)=L1 K (T.set i r) (i:Int) (n:Int))
  (step:∀ K T i q,i≤m→q≤n→TabSt m n V P i (q + 1) T→L1 (K + c) T (i:Int) (q:Int)=L1 K (T.set i ((T.getD i []).set q (V i q))) (i:Int) ((q:Int) - 1))
  (out:∀ K T i,i≤m→L1 (K + 1) T (i:Int) (-1)=L0 K T ((i:Int) - 1))
  (fin:∀ K T,L0 (K + 1) T (-1)=some (R T)) (T0:List (List Int)) (h0:T0.length=m + 1) (hP:∀ i,i≤m→P (T0.getD i [])) :
  ∀ K,100000≤K→L0 K T0 (m:Int)=some (R (tabOf m n V)):=by
 have inner:∀ q K T i,i≤m→q≤n + 1→TabSt m n V P i q T→∃ T',TabSt m n V P i 0 T'∧L1 (K + q * c) T (i:Int) ((q:Int) - 1)=L1 K T' (i:Int) (-1):=by
  intro q
  induction q with
  | zero=>exact fun K T i hi hq h=>⟨T,h,by simp⟩
  | succ q ih =>
   intro K T i hi hq h
   obtain ⟨T',h1,h2⟩:=ih K _ i hi (by omega) (tabSt_set h hi (by omega))
   refine ⟨T',h1,?_⟩
   rw [← h2,← step (K + q * c) T i q hi (by omega) h,Nat.succ_mul,Nat.add_assoc]
   congr 1
   omega
 have outer:∀ j K T,j≤m + 1→T.length=m + 1→(∀ i',j≤i'→i'≤m→RowSt n (V i') 0 (T.getD i' []))→(∀ i',i' < j→P (T.getD i' []))→L0 (K + 1 + j * ((n + 1) * c + 2)) T ((j:Int) - 1)=some (R (tabOf m n V)):=by
  intro j
  induction j with
  | zero =>
   intro K T hj hl hr hp
   rw [show ((0:Nat):Int) - 1=-1 from rfl,Nat.zero_mul,Nat.add_zero,fin,tab_eq hl (fun i' hi'=>hr i' (Nat.zero_le _) hi')]
  | succ j ih =>
   intro K T hj hl hr hp
   obtain ⟨r,hr1,hr2⟩:=init (K + 1 + j * ((n + 1) * c + 2) + 1 + (n + 1) * c) T j (by omega) hl (hp j (by omega))
   have hst:TabSt m n V P j (n + 1) (T.set j r):=by
    refine ⟨by rw [List.length_set];exact hl,fun i' hi' hm'=>?_,?_,fun i' hi'=>?_⟩
    ·rw [getD_set_ne (by omega)]
     exact hr i' (by omega) hm'
    ·rw [getD_set_self (by omega)]
     exact ⟨hr1,fun k hk hn=>by omega⟩
    ·rw [getD_set_ne (by omega)]
     exact hp i' (by omega)
   obtain ⟨T',h1,h2⟩:=inner (n + 1) (K + 1 + j * ((n + 1) * c + 2) + 1) _ j (by omega) (Nat.le_refl _) hst
   rw [show ((n + 1:Nat):Int) - 1=(n:Int) by omega] at h2
   rw [show K + 1 + (j + 1) * ((n + 1) * c + 2)=K + 1 + j * ((n + 1) * c + 2) + 1 + (n + 1) * c + 1 by rw [Nat.succ_mul];omega,show ((j + 1:Nat):Int) - 1=(j:Int) by omega,hr2,h2,out _ _ _ (by omega)]
   refine ih K T' (by omega) h1.1 (fun i' hi' hm'=>?_) (fun i' hi'=>h1.2.2.2 i' hi')
   rcases Nat.eq_or_lt_of_le hi' with e|e
   ·subst e
    exact h1.2.2.1
   ·exact h1.2.1 i' e hm'
 intro K hK
 have hb:(m + 1) * ((n + 1) * c + 2)≤61 * (61 * 20 + 2):=Nat.mul_le_mul (by omega) (Nat.add_le_add_right (Nat.mul_le_mul (by omega) hc) _)
 have e:=outer (m + 1) (K - 1 - (m + 1) * ((n + 1) * c + 2)) T0 (Nat.le_refl _) h0 (fun i' h1 h2=>by omega) (fun i' hi'=>hP i' (by omega))
 rw [show K - 1 - (m + 1) * ((n + 1) * c + 2) + 1 + (m + 1) * ((n + 1) * c + 2)=K by omega,show ((m + 1:Nat):Int) - 1=(m:Int) by omega] at e
 exact e
def costW (a b:List En):Nat→Nat→Int
 | 0,q=>2 * (q:Int)
 | p + 1,0=>(p:Int) + 1
 | p + 1,q + 1 =>
  if fitC (rd_T35 a ((a.length - (p + 1):Nat):Int)) (rd_T35 b ((b.length - (q + 1):Nat):Int))=true then mn (mn (costW a b p (q + 1) + 1) (costW a b (p + 1) q + 2)) (costW a b p q + costC (rd_T35 a ((a.length - (p + 1):Nat):Int)) (rd_T35 b ((b.length - (q + 1):Nat):Int)))
  else mn (costW a b p (q + 1) + 1) (costW a b (p + 1) q + 2)
def costV (a b:List En) (i k:Nat):Int:=costW a b (a.length - i) (b.length - k)
theorem mn_le (x y:Int):mn x y≤x∧mn x y≤y∧(mn x y=x∨mn x y=y):=by
 unfold mn
 split <;> refine ⟨?_,?_,?_⟩ <;> first|omega|exact .inl rfl|exact .inr rfl
theorem costW_b (a b:List En):∀ p q,0≤costW a b p q∧costW a b p q≤(p:Int) + 2 * (q:Int):=by
 intro p
 induction p with
 | zero =>
  intro q
  rw [costW]
  omega
 | succ p ih =>
  intro q
  induction q with
  | zero =>
   rw [costW]
   omega
  | succ q ihq =>
   have h1:=ih (q + 1)
   have h2:=ih q
   have h3:=costC_b (rd_T35 a ((a.length - (p + 1):Nat):Int)) (rd_T35 b ((b.length - (q + 1):Nat):Int))
   rw [costW]
   have m1:=mn_le (costW a b p (q + 1) + 1) (costW a b (p + 1) q + 2)
   have m2:=mn_le (mn (costW a b p (q + 1) + 1) (costW a b (p + 1) q + 2)) (costW a b p q + costC (rd_T35 a ((a.length - (p + 1):Nat):Int)) (rd_T35 b ((b.length - (q + 1):Nat):Int)))
   split <;> omega
theorem costV_b {a b:List En} (ha:a.length≤60) (hb:b.length≤60) (i k:Nat):0≤costV a b i k∧costV a b i k≤180:=by
 have:=costW_b a b (a.length - i) (b.length - k)
 unfold costV
 omega
theorem costV_end1 {a b:List En} {k:Nat} (hk:k≤b.length):costV a b a.length k=2 * ((b.length:Int) - (k:Int)):=by
 unfold costV
 rw [Nat.sub_self,costW]
 omega
theorem costV_end2 {a b:List En} {i:Nat} (hi:i < a.length):costV a b i b.length=(a.length:Int) - (i:Int):=by
 unfold costV
 obtain ⟨p,hp⟩:∃ p,a.length - i=p + 1:=⟨a.length - i - 1,by omega⟩
 rw [Nat.sub_self,hp,costW]
 omega
theorem costV_in {a b:List En} {i k:Nat} (hi:i < a.length) (hk:k < b.length):costV a b i k =
  if fitC (rd_T35 a (i:Int)) (rd_T35 b (k:Int))=true then mn (mn (costV a b (i + 1) k + 1) (costV a b i (k + 1) + 2)) (costV a b (i + 1) (k + 1) + costC (rd_T35 a (i:Int)) (rd_T35 b (k:Int)))
  else mn (costV a b (i + 1) k + 1) (costV a b i (k + 1) + 2):=by
 unfold costV
 obtain ⟨p,hp⟩:∃ p,a.length - i=p + 1:=⟨a.length - i - 1,by omega⟩
 obtain ⟨q,hq⟩:∃ q,b.length - k=q + 1:=⟨b.length - k - 1,by omega⟩
 rw [hp,hq,costW,show a.length - (i + 1)=p by omega,show b.length - (k + 1)=q by omega,show a.length - (p + 1)=i by omega,show b.length - (q + 1)=k by omega]
set_option maxHeartbeats 1000000 in
theorem numV {a b:List En} (ha:a.length≤60) (hb:b.length≤60) {P:List Int→Prop} {T:List (List Int)} {i q:Nat} (hi:i≤a.length) (hq:q≤b.length) (h:TabSt a.length b.length (costV a b) P i (q + 1) T) :
  impl_faults_1.f T (i:Int) (q:Int) a b=some (costV a b i q):=by
 obtain ⟨h1,h2,h3,h4⟩:=h
 unfold impl_faults_1.f
 by_cases e1:i=a.length
 ·rw [if_pos (by omega),e1,costV_end1 hq,w64 (n:=(b.length:Int) - (q:Int)) (by omega) (by omega),w64 (by omega) (by omega)]
 ·rw [if_neg (by omega)]
  by_cases e2:q=b.length
  ·rw [if_pos (by omega),e2,costV_end2 (by omega),w64 (n:=(a.length:Int) - (i:Int)) (by omega) (by omega),w64 (by omega) (by omega),Int.one_mul]
  ·rw [if_neg (by omega),w64 (n:=(i:Int) + 1) (by omega) (by omega),w64 (n:=(q:Int) + 1) (by omega) (by omega)]
   have r1:=h2 (i + 1) (by omega) (by omega)
   have d1:rd_L7 T ((i:Int) + 1)=T.getD (i + 1) []:=by rw [show (i:Int) + 1=((i + 1:Nat):Int) by omega];rfl
   have d0:rd_L7 T (i:Int)=T.getD i []:=rfl
   rw [d1,d0]
   have g1:=rowSt_get r1 (Nat.zero_le q) (by omega)
   have g2:rd (T.getD (i + 1) []) ((q:Int) + 1)=costV a b (i + 1) (q + 1):=by
    have:=rowSt_get r1 (Nat.zero_le (q + 1)) (by omega)
    rwa [show ((q + 1:Nat):Int)=(q:Int) + 1 by omega] at this
   have g3:rd (T.getD i []) ((q:Int) + 1)=costV a b i (q + 1):=by
    have:=rowSt_get h3 (Nat.le_refl (q + 1)) (by omega)
    rwa [show ((q + 1:Nat):Int)=(q:Int) + 1 by omega] at this
   have l1:=r1.1
   have l0:=h3.1
   have b1:=costV_b ha hb (i + 1) q
   have b2:=costV_b ha hb (i + 1) (q + 1)
   have b3:=costV_b ha hb i (q + 1)
   have c1:=costC_b (rd_T35 a (i:Int)) (rd_T35 b (q:Int))
   rw [if_pos (by omega),if_pos (by omega),if_pos (by omega),if_pos (by omega),if_pos (by omega),if_pos (by omega),if_pos (by omega),if_pos (by omega),if_pos (by omega),if_pos (by omega),stepFaults_eq]
   simp only [Option.bind_some]
   rw [g1,g2,g3,costV_in (i:=i) (k:=q) (by omega) (by omega)]
   cases hf:fitC (rd_T35 a (i:Int)) (rd_T35 b (q:Int)) with
   | false =>
    simp only [Bool.false_eq_true,if_false]
    rw [w64 (by omega) (by omega),w64 (by omega) (by omega)]
   | true =>
    simp only [if_true]
    rw [if_pos (by omega),w64 (by omega) (by omega),w64 (by omega) (by omega),w64 (by omega) (by omega)]
theorem implFaults_eq {k:Nat} {a b:List En} (ha:a.length≤60) (hb:b.length≤60) (hk:100000≤k):impl_faults.f k a b=some (tabOf a.length b.length (costV a b)):=by
 unfold impl_faults.f impl_table__impl_faults_1.f
 rw [w64 (by omega) (by omega),if_pos (by omega),if_pos (by omega)]
 have e:=tab_loop a.length b.length 1 (costV a b) (fun _=>True) (fun K T i=>impl_table__impl_faults_1.l0 K b T i a b) (fun K T i q=>impl_table__impl_faults_1.l1 K b T i q a b) (fun T=>T) ha hb (by omega)
  (fun K T i hi hl _=>by
   refine ⟨List.replicate (b.length + 1) 0,by simp,?_⟩
   simp only [impl_table__impl_faults_1.l0]
   rw [if_pos (by omega),w64 (by omega) (by omega),if_pos (by omega),if_pos (by omega),if_pos (by omega),if_pos (by omega)]
   rw [show ((b.length:Int) + 1).toNat=b.length + 1 by omega,Int.toNat_natCast])
  (fun K T i q hi hq h=>by
   have l0:=h.2.2.1.1
   have l1:=h.1
   simp only [impl_table__impl_faults_1.l1]
   rw [if_pos (by omega),if_pos (by omega),if_pos (by omega),numV ha hb hi hq h]
   simp only [Option.bind_some]
   have d0:rd_L7 T (i:Int)=T.getD i []:=rfl
   rw [d0,if_pos (by omega),if_pos (by omega),w64 (by omega) (by omega),Int.toNat_natCast,Int.toNat_natCast])
  (fun K T i hi=>by
   simp only [impl_table__impl_faults_1.l1]
   rw [if_neg (by omega),w64 (by omega) (by omega)])
  (fun K T=>by
   simp only [impl_table__impl_faults_1.l0]
   rw [if_neg (by omega)]) (List.replicate (a.length + 1) []) (by simp) (fun _ _=>trivial) k hk
 rw [show ((a.length:Int) + 1).toNat=a.length + 1 by omega]
 try simp only at e
 rw [e]
 rfl
theorem const_flat {α:Type} (x:α) (n:Nat):(List.range n).flatMap (fun _=>[x])=List.replicate n x:=by
 induction n with
 | zero=>rfl
 | succ n ih =>
  rw [List.range_succ,List.flatMap_append,ih,List.replicate_succ']
  rfl
theorem l00Max_eq (x y:Int):spec_l00Max.f x y=some (mx x y):=by
 unfold spec_l00Max.f mx
 split <;> split <;> first|rfl|(congr 1;omega)|omega
theorem specBegin_eq {k:Nat} {a b:List En} (ha:a.length≤60) (hb:b.length≤60) (hk:100000≤k):spec_l07Begin.f k a b=some (List.replicate (a.length + 1) (List.replicate (b.length + 1) 0)):=by
 unfold spec_l07Begin.f
 have e:=loop_acc (fun k acc i=>spec_l07Begin.l0 k a b acc i) (a.length + 1) (fun _=>[List.replicate (b.length + 1) 0]) (fun T=>T) (fun _ _=>by simp)
  (fun k i acc hi ha'=>by
   simp only [spec_l07Begin.l0]
   rw [if_pos (by omega),w64 (by omega) (by omega),if_pos (by omega),if_pos (by omega),if_pos (by omega),w64 (by omega) (by omega),show ((b.length:Int) + 1).toNat=b.length + 1 by omega]
   rfl)
  (fun k acc h=>by
   simp only [spec_l07Begin.l0]
   rw [if_neg (by omega)]) k (by omega)
 rw [e,const_flat]
theorem specStep {a b:List En} (ha:a.length≤60) (hb:b.length≤60) {K:Nat} {T:List (List Int)} {i q:Nat} (hi:i≤a.length) (hq:q≤b.length) (h:TabSt a.length b.length (costV a b) (fun r=>r.length=b.length + 1) i (q + 1) T) :
  spec_l07Costs.l1 (K + 5) a b T (i:Int) (q:Int)=spec_l07Costs.l1 K a b (T.set i ((T.getD i []).set q (costV a b i q))) (i:Int) ((q:Int) - 1):=by
 obtain ⟨h1,h2,h3,h4⟩:=h
 have d0:rd_L7 T (i:Int)=T.getD i []:=rfl
 have d1:rd_L7 T ((i:Int) + 1)=T.getD (i + 1) []:=by rw [show (i:Int) + 1=((i + 1:Nat):Int) by omega];rfl
 have l0:=h3.1
 have hb3:=costV_b ha hb i (q + 1)
 have hb1:=costV_b ha hb (i + 1) q
 have hb2:=costV_b ha hb (i + 1) (q + 1)
 have hst:∀ (K:Nat) (x:Int),mx x 0=costV a b i q→(if 0≤(i:Int) then (if (i:Int) < (T.length:Int) then ((spec_l00Max.f x 0).bind fun t133=>(if 0≤(q:Int) then (if (q:Int) < ((T.getD i []).length:Int) then (spec_l07Costs.l1 K a b (T.set ((i:Int)).toNat ((T.getD i []).set ((q:Int)).toNat t133)) (i:Int) (wrap64 ((q:Int) - 1))) else none) else none)) else none) else none)=spec_l07Costs.l1 K a b (T.set i ((T.getD i []).set q (costV a b i q))) (i:Int) ((q:Int) - 1):=fun K x hx=>by
  rw [if_pos (by omega),if_pos (by omega),l00Max_eq,hx]
  simp only [Option.bind_some]
  rw [if_pos (by omega),if_pos (by omega),w64 (by omega) (by omega),Int.toNat_natCast,Int.toNat_natCast]
 have g3:q < b.length→rd (T.getD i []) ((q:Int) + 1)=costV a b i (q + 1):=fun hqb=>by
  have:=rowSt_get h3 (Nat.le_refl (q + 1)) (by omega)
  rwa [show ((q + 1:Nat):Int)=(q:Int) + 1 by omega] at this
 rcases Nat.eq_or_lt_of_le hi with e1|e1
 ·subst e1
  rw [show K + 5=(K + 4) + 1 from rfl]
  simp only [spec_l07Costs.l1]
  rw [if_pos (by omega),if_neg (by omega),show K + 4=(K + 3) + 1 from rfl]
  simp only [spec_l07Costs.j2]
  rcases Nat.eq_or_lt_of_le hq with e2|e2
  ·subst e2
   rw [if_neg (by omega),show K + 3=(K + 2) + 1 from rfl]
   simp only [spec_l07Costs.j3]
   rw [if_neg (by simp),show K + 2=(K + 1) + 1 from rfl]
   simp only [spec_l07Costs.j4]
   rw [if_neg (by omega)]
   simp only [spec_l07Costs.j5]
   rw [if_neg (by simp),d0]
   exact hst K (-1) (by rw [costV_end1 (Nat.le_refl _)];unfold mx;omega)
  ·rw [if_pos (by omega),if_pos (by omega),show K + 3=(K + 2) + 1 from rfl]
   simp only [spec_l07Costs.j3]
   rw [if_pos trivial,if_pos (by omega),if_pos (by omega),w64 (n:=(q:Int) + 1) (by omega) (by omega),if_pos (by omega),d0,if_pos (by omega),g3 e2,w64 (by omega) (by omega),show K + 2=(K + 1) + 1 from rfl]
   simp only [spec_l07Costs.j4]
   rw [if_neg (by omega)]
   simp only [spec_l07Costs.j5]
   rw [if_neg (by simp),d0]
   exact hst K _ (by rw [costV_end1 (by omega),costV_end1 (by omega)];unfold mx;rw [if_neg (by omega)];omega)
 ·have r1:=h2 (i + 1) (by omega) (by omega)
  have l1:=r1.1
  have g1:=rowSt_get r1 (Nat.zero_le q) hq
  rw [show K + 5=(K + 4) + 1 from rfl]
  simp only [spec_l07Costs.l1]
  rw [if_pos (by omega),if_pos (by omega),w64 (n:=(i:Int) + 1) (by omega) (by omega),if_pos (by omega),if_pos (by omega),if_pos (by omega),d1,if_pos (by omega),g1,w64 (by omega) (by omega),show K + 4=(K + 3) + 1 from rfl]
  simp only [spec_l07Costs.j2]
  rcases Nat.eq_or_lt_of_le hq with e2|e2
  ·subst e2
   rw [if_neg (by omega),show K + 3=(K + 2) + 1 from rfl]
   simp only [spec_l07Costs.j3]
   rw [if_neg (by simp),show K + 2=(K + 1) + 1 from rfl]
   simp only [spec_l07Costs.j4]
   rw [if_pos (by omega),decide_eq_false (by omega)]
   simp only [spec_l07Costs.j5]
   rw [if_neg (by simp),d0]
   refine hst K _ ?_
   rw [costV_end2 e1]
   by_cases e3:i + 1=a.length
   ·rw [e3,costV_end1 (Nat.le_refl _)]
    unfold mx
    rw [if_neg (by omega)]
    omega
   ·rw [costV_end2 (by omega)]
    unfold mx
    rw [if_neg (by omega)]
    omega
  ·have g2:rd (T.getD (i + 1) []) ((q:Int) + 1)=costV a b (i + 1) (q + 1):=by
    have:=rowSt_get r1 (Nat.zero_le (q + 1)) (by omega)
    rwa [show ((q + 1:Nat):Int)=(q:Int) + 1 by omega] at this
   have c1:=costC_b (rd_T35 a (i:Int)) (rd_T35 b (q:Int))
   rw [if_pos (by omega),if_neg (by omega),if_pos (by omega),if_pos (by omega),w64 (n:=(q:Int) + 1) (by omega) (by omega),if_pos (by omega),d0,if_pos (by omega),g3 e2,w64 (n:=2 + costV a b i (q + 1)) (by omega) (by omega)]
   have hj:spec_l07Costs.j3 (K + 3) a b T (i:Int) (q:Int) (1 + costV a b (i + 1) q) (decide (2 + costV a b i (q + 1) < 1 + costV a b (i + 1) q))=spec_l07Costs.j4 (K + 2) a b T (i:Int) (q:Int) (mn (costV a b (i + 1) q + 1) (costV a b i (q + 1) + 2)):=by
    simp only [spec_l07Costs.j3]
    by_cases hlt:2 + costV a b i (q + 1) < 1 + costV a b (i + 1) q
    ·rw [decide_eq_true hlt,if_pos rfl,if_pos (by omega),if_pos (by omega),w64 (n:=(q:Int) + 1) (by omega) (by omega),if_pos (by omega),d0,if_pos (by omega),g3 e2,w64 (by omega) (by omega)]
     congr 1
     unfold mn
     rw [if_pos (by omega)]
     omega
    ·rw [decide_eq_false hlt,if_neg (by simp)]
     congr 1
     unfold mn
     split <;> omega
   rw [hj]
   have hm:=mn_le (costV a b (i + 1) q + 1) (costV a b i (q + 1) + 2)
   have hv:=costV_in (a:=a) (b:=b) e1 e2
   generalize mn (costV a b (i + 1) q + 1) (costV a b i (q + 1) + 2)=x at *
   rw [show K + 2=(K + 1) + 1 from rfl]
   simp only [spec_l07Costs.j4]
   rw [if_pos (by omega),decide_eq_true (by omega)]
   simp only [spec_l07Costs.j5]
   rw [if_pos trivial,if_pos (by omega),if_pos (by omega),if_pos (by omega),if_pos (by omega),cost_eq]
   simp only [Option.bind_some]
   rw [d0,w64 (n:=(i:Int) + 1) (by omega) (by omega),w64 (n:=(q:Int) + 1) (by omega) (by omega),d1,g2]
   have hx0:0≤x:=by omega
   cases hf:fitC (rd_T35 a (i:Int)) (rd_T35 b (q:Int)) with
   | false =>
    rw [hf] at hv
    simp only [Bool.false_eq_true,if_false] at hv ⊢
    rw [if_neg (by omega)]
    have:=hst K x (by rw [hv];unfold mx;split <;> omega)
    rw [if_pos (by omega)] at this
    rw [← this]
    by_cases hh:(i:Int) < (T.length:Int)
    ·rw [if_pos hh,if_pos hh]
     congr 1
     first|done|(funext t;rw [if_pos (by omega)])
    ·omega
   | true =>
    rw [hf] at hv
    simp only [if_true] at hv ⊢
    rw [if_pos (by omega),if_pos (by omega),if_pos (by omega),if_pos (by omega),if_pos (by omega),w64 (by omega) (by omega)]
    have key:∀ y:Int,mx y 0=costV a b i q→(if (i:Int) < (T.length:Int) then ((spec_l00Max.f y 0).bind fun t118=>(if (q:Int) < ((T.getD i []).length:Int) then (spec_l07Costs.l1 K a b (T.set ((i:Int)).toNat ((T.getD i []).set ((q:Int)).toNat t118)) (i:Int) (wrap64 ((q:Int) - 1))) else none)) else none)=spec_l07Costs.l1 K a b (T.set i ((T.getD i []).set q (costV a b i q))) (i:Int) ((q:Int) - 1):=fun y hy=>by
     rw [if_pos (by omega),l00Max_eq,hy]
     simp only [Option.bind_some]
     rw [if_pos (by omega),w64 (by omega) (by omega),Int.toNat_natCast,Int.toNat_natCast]
    split
    ·rename_i hlt
     exact key _ (by rw [hv];unfold mx mn;split <;> split <;> omega)
    ·rename_i hlt
     exact key _ (by rw [hv];unfold mx mn;split <;> split <;> omega)
theorem specCosts_eq {k:Nat} {a b:List En} (ha:a.length≤60) (hb:b.length≤60) (hk:100000≤k):spec_l07Costs.f k a b=some (tabOf a.length b.length (costV a b)):=by
 unfold spec_l07Costs.f
 rw [specBegin_eq ha hb hk]
 simp only [Option.bind_some]
 exact tab_loop a.length b.length 5 (costV a b) (fun r=>r.length=b.length + 1) (fun K T i=>spec_l07Costs.l0 K a b T i) (fun K T i q=>spec_l07Costs.l1 K a b T i q) (fun T=>T) ha hb (by omega)
  (fun K T i hi hl hp=>by
   refine ⟨T.getD i [],hp,?_⟩
   simp only [spec_l07Costs.l0]
   rw [if_pos (by omega)]
   congr 1
   rw [List.getD_eq_getElem?_getD,List.getElem?_eq_getElem (by omega)]
   simp)
  (fun K T i q hi hq h=>specStep ha hb hi hq h)
  (fun K T i hi=>by
   simp only [spec_l07Costs.l1]
   rw [if_neg (by omega),w64 (by omega) (by omega)])
  (fun K T=>by
   simp only [spec_l07Costs.l0]
   rw [if_neg (by omega)]) _ (by simp) (fun i hi=>by
    rw [List.getD_eq_getElem?_getD,List.getElem?_replicate,if_pos (by omega)]
    simp) k hk
def resFaults (a b:List En):Int × Int:=if validG a=true∧validG b=true then (costV a b 0 0,0) else (0,1)
theorem logsCode_eq {a b:List En} (ha:a.length≤1048576) (hb:b.length≤1048576):impl_logsCode.f a b=some (if validG a=true∧validG b=true then 0 else 1):=by
 unfold impl_logsCode.f
 rw [implValid_log ha,implValid_log hb]
 simp only [Option.bind_some]
 cases validG a <;> cases validG b <;> simp [impl_unless.f]
theorem tab00 {m n:Nat} {V:Nat→Nat→Int}:(if 0 < ((tabOf m n V).length:Int) then (if 0 < ((rd_L7 (tabOf m n V) 0).length:Int) then (some (rd (rd_L7 (tabOf m n V) 0) 0,(0:Int))) else none) else none)=some (V 0 0,0):=by
 have e:=tab_row (m:=m) (n:=n) (V:=V) (Nat.zero_le m)
 rw [show ((0:Nat):Int)=0 from rfl] at e
 have e2:=row_at (n:=n) (V:=V 0) (Nat.zero_le n)
 rw [show ((0:Nat):Int)=0 from rfl] at e2
 have l1:=tab_len (m:=m) (n:=n) (V:=V)
 have l2:=row_len (n:=n) (V:=V 0)
 rw [e,if_pos (by omega),if_pos (by omega),e2]
theorem implFaultsOf_eq {k:Nat} {a b:List En} (ha:a.length≤1048576) (hb:b.length≤1048576) (hk:100000≤k):impl_FaultsOf.f k a b=some (resFaults a b):=by
 unfold impl_FaultsOf.f resFaults
 rw [logsCode_eq ha hb]
 simp only [Option.bind_some]
 by_cases hv:validG a=true∧validG b=true
 ·rw [if_pos hv,if_pos rfl,if_pos hv,implFaults_eq (valid_parts hv.1).1 (valid_parts hv.2).1 hk]
  simp only [Option.bind_some]
  exact tab00
 ·rw [if_neg hv,if_neg (by omega),if_neg hv]
def costL (l:Gs) (i j:Nat):Int:=costV (rd_L4 l (i:Int)) (rd_L4 l (j:Int)) 0 0
def sumB (l:Gs) (i:Nat):Nat→Int
 | 0=>0
 | n + 1=>if n=i then sumB l i n else sumB l i n + costL l i n
def bstep (l:Gs) (i:Nat) (p:Int × Int):Int × Int:=if p.2 < 0∨sumB l i l.length < p.2 then ((i:Int),sumB l i l.length) else p
def bstGo (l:Gs):Nat→Nat→Int × Int→Int × Int
 | 0,_,p=>p
 | d + 1,i,p=>bstGo l d (i + 1) (bstep l i p)
theorem lens_of {l:Gs} (hv:∀ x∈l,validG x=true) {i:Nat} (hi:i < l.length):(rd_L4 l (i:Int)).length≤60:=by
 rw [rdL_impl hi]
 exact (valid_parts (hv _ (List.getElem_mem hi))).1
theorem sumB_b {l:Gs} (hv:∀ x∈l,validG x=true) {i:Nat} (hi:i < l.length):∀ n,n≤l.length→0≤sumB l i n∧sumB l i n≤180 * (n:Int):=by
 intro n
 induction n with
 | zero=>intro _;simp [sumB]
 | succ n ih =>
  intro hn
  have h1:=ih (by omega)
  have h2:=costV_b (lens_of hv hi) (lens_of hv (by omega:n < l.length)) 0 0
  rw [sumB]
  unfold costL
  split <;> omega
theorem implBest_in {l:Gs} (hv:∀ x∈l,validG x=true) (hl:l.length≤8) {i:Nat} (hi:i < l.length) (p:Int × Int) (K:Nat) (hK:100000≤K):∀ d j,j + d=l.length →
  impl_BestLog.l1 (K + d + 1) l p.1 p.2 (i:Int) (rd_L4 l (i:Int)) (sumB l i j) l (l.length:Int) (i:Int) l (l.length:Int) (j:Int)=impl_BestLog.l0 K l (bstep l i p).1 (bstep l i p).2 l (l.length:Int) ((i + 1:Nat):Int):=by
 intro d
 induction d with
 | zero =>
  intro j hj
  obtain rfl:j=l.length:=by omega
  simp only [impl_BestLog.l1,Nat.add_zero]
  rw [if_neg (by omega),w64 (by omega) (by omega)]
  unfold bstep
  by_cases h1:p.2 < 0
  ·rw [if_pos h1,if_pos (.inl h1)]
   rfl
  ·rw [if_neg h1]
   by_cases h2:sumB l i l.length < p.2
   ·rw [if_pos h2,if_pos (.inr h2)]
    rfl
   ·rw [if_neg h2,if_neg (by omega)]
    rfl
 | succ d ih =>
  intro j hj
  have hjl:j < l.length:=by omega
  have e:=ih (j + 1) (by omega)
  have hb:=sumB_b hv hi j (by omega)
  have hc:=costV_b (lens_of hv hi) (lens_of hv hjl) 0 0
  rw [show K + (d + 1) + 1=(K + d + 1) + 1 by omega]
  simp only [impl_BestLog.l1]
  rw [if_pos (by omega),if_pos (by omega),if_pos (by omega),w64 (n:=(j:Int) + 1) (by omega) (by omega)]
  by_cases hji:j=i
  ·rw [if_pos (by omega),← e,sumB,if_pos hji]
   rfl
  ·rw [if_neg (by omega),implFaults_eq (lens_of hv hi) (lens_of hv hjl) (by omega)]
   simp only [Option.bind_some]
   have t:=tab00 (m:=(rd_L4 l (i:Int)).length) (n:=(rd_L4 l (j:Int)).length) (V:=costV (rd_L4 l (i:Int)) (rd_L4 l (j:Int)))
   have t1:=tab_len (m:=(rd_L4 l (i:Int)).length) (n:=(rd_L4 l (j:Int)).length) (V:=costV (rd_L4 l (i:Int)) (rd_L4 l (j:Int)))
   rw [if_pos (by omega)] at t ⊢
   split at t
   ·rename_i h3
    rw [if_pos h3]
    simp only [Option.some.injEq,Prod.mk.injEq,and_true] at t
    rw [t,w64 (by omega) (by omega),← e,sumB,if_neg hji]
    rfl
   ·cases t
theorem implBest_all {l:Gs} (hv:∀ x∈l,validG x=true) (hl:l.length≤8):∀ d i p K,i + d=l.length→100001 + d * 12≤K→impl_BestLog.l0 K l p.1 p.2 l (l.length:Int) (i:Int)=some ((bstGo l d i p).1,(bstGo l d i p).2,0):=by
 intro d
 induction d with
 | zero =>
  intro i p K hi hK
  obtain ⟨K,rfl⟩:∃ m,K=m + 1:=⟨K - 1,by omega⟩
  simp only [impl_BestLog.l0,bstGo]
  rw [if_neg (by omega)]
 | succ d ih =>
  intro i p K hi hK
  obtain ⟨K,rfl⟩:∃ m,K=m + l.length + 1 + 1:=⟨K - l.length - 2,by omega⟩
  have e:=implBest_in hv hl (i:=i) (by omega) p K (by omega) l.length 0 (by omega)
  simp only [impl_BestLog.l0,bstGo]
  rw [if_pos (by omega),if_pos (by omega),if_pos (by omega)]
  rw [show ((0:Nat):Int)=0 from rfl,show sumB l i 0=0 from rfl] at e
  rw [e]
  exact ih (i + 1) _ K (by omega) (by omega)
theorem specBest_in {l:Gs} (hv:∀ x∈l,validG x=true) (hl:l.length≤8) {i:Nat} (hi:i < l.length) (p:Int × Int) (K:Nat) (hK:100000≤K):∀ d j,j + d=l.length →
  spec_BestLog.l1 (K + d + 1) l p.1 p.2 (i:Int) (sumB l i j) (j:Int)=spec_BestLog.l0 K l (bstep l i p).1 (bstep l i p).2 ((i + 1:Nat):Int):=by
 intro d
 induction d with
 | zero =>
  intro j hj
  obtain rfl:j=l.length:=by omega
  simp only [spec_BestLog.l1,Nat.add_zero]
  rw [if_neg (by omega),w64 (by omega) (by omega)]
  unfold bstep
  by_cases h1:p.2 < 0
  ·rw [if_pos h1,if_pos (.inl h1)]
   rfl
  ·rw [if_neg h1]
   by_cases h2:sumB l i l.length < p.2
   ·rw [if_pos h2,if_pos (.inr h2)]
    rfl
   ·rw [if_neg h2,if_neg (by omega)]
    rfl
 | succ d ih =>
  intro j hj
  have hjl:j < l.length:=by omega
  have e:=ih (j + 1) (by omega)
  have hb:=sumB_b hv hi j (by omega)
  have hc:=costV_b (lens_of hv hi) (lens_of hv hjl) 0 0
  rw [show K + (d + 1) + 1=(K + d + 1) + 1 by omega]
  simp only [spec_BestLog.l1]
  rw [if_pos (by omega),w64 (n:=(j:Int) + 1) (by omega) (by omega)]
  by_cases hji:j=i
  ·rw [if_pos (by omega),← e,sumB,if_pos hji]
   rfl
  ·rw [if_neg (by omega),if_pos (by omega),if_pos (by omega),if_pos (by omega),specCosts_eq (lens_of hv hi) (lens_of hv hjl) (by omega)]
   simp only [Option.bind_some]
   have t:=tab00 (m:=(rd_L4 l (i:Int)).length) (n:=(rd_L4 l (j:Int)).length) (V:=costV (rd_L4 l (i:Int)) (rd_L4 l (j:Int)))
   have t1:=tab_len (m:=(rd_L4 l (i:Int)).length) (n:=(rd_L4 l (j:Int)).length) (V:=costV (rd_L4 l (i:Int)) (rd_L4 l (j:Int)))
   rw [if_pos (by omega)] at t ⊢
   split at t
   ·rename_i h3
    rw [if_pos h3]
    simp only [Option.some.injEq,Prod.mk.injEq,and_true] at t
    rw [t,w64 (by omega) (by omega),← e,sumB,if_neg hji]
    rfl
   ·cases t
theorem specBest_all {l:Gs} (hv:∀ x∈l,validG x=true) (hl:l.length≤8):∀ d i p K,i + d=l.length→100001 + d * 12≤K→spec_BestLog.l0 K l p.1 p.2 (i:Int)=some ((bstGo l d i p).1,(bstGo l d i p).2,0):=by
 intro d
 induction d with
 | zero =>
  intro i p K hi hK
  obtain ⟨K,rfl⟩:∃ m,K=m + 1:=⟨K - 1,by omega⟩
  simp only [spec_BestLog.l0,bstGo]
  rw [if_neg (by omega)]
 | succ d ih =>
  intro i p K hi hK
  obtain ⟨K,rfl⟩:∃ m,K=m + l.length + 1 + 1:=⟨K - l.length - 2,by omega⟩
  have e:=specBest_in hv hl (i:=i) (by omega) p K (by omega) l.length 0 (by omega)
  simp only [spec_BestLog.l0,bstGo]
  rw [if_pos (by omega)]
  rw [show ((0:Nat):Int)=0 from rfl,show sumB l i 0=0 from rfl] at e
  rw [e]
  exact ih (i + 1) _ K (by omega) (by omega)
def resBest (l:Gs):Int × Int × Int:=if codeGs l=0 then ((bstGo l l.length 0 (0,-1)).1,(bstGo l l.length 0 (0,-1)).2,0) else (0,0,codeGs l)
theorem implBestLog_eq {k:Nat} {l:Gs} (hi:∀ x∈l,x.length≤1048576) (hk:2200000 < k):impl_BestLog.f k l=some (resBest l):=by
 unfold impl_BestLog.f resBest
 rw [implAllCode hi]
 simp only [Option.bind_some]
 by_cases hc:codeGs l=0
 ·obtain ⟨hv,h1,h8⟩:=codeGs_valid hc
  rw [if_pos hc,if_pos hc]
  exact implBest_all hv h8 l.length 0 (0,-1) k (by omega) (by omega)
 ·rw [if_neg hc,if_neg hc]
theorem specBestLog_eq {k:Nat} {l:Gs} (hl:l.length≤1048576) (hk:2200000 < k):spec_BestLog.f k l=some (resBest l):=by
 unfold spec_BestLog.f resBest
 rw [specLogs hl (by omega)]
 simp only [Option.bind_some]
 by_cases hc:codeGs l=0
 ·obtain ⟨hv,h1,h8⟩:=codeGs_valid hc
  rw [if_pos hc,if_pos hc]
  exact specBest_all hv h8 l.length 0 (0,-1) k (by omega) (by omega)
 ·rw [if_neg hc,if_neg hc]
def isDown (s:Int) (x:En):Bool:=x.f2 && x.f1 == s
def fdI (l:List En) (s:Int):Int:=if idxP (isDown s) l < 0 then -1 else (rd_T35 l (idxP (isDown s) l)).f0
theorem implFirst (l:List En) (s:Int):impl_Log_firstDown.f l s=some (fdI l s):=rfl
theorem specFirst {k:Nat} {l:List En} {s:Int} (hl:l.length≤1048576) (hk:l.length < k):spec_l07First.f k l s=some (fdI l s):=by
 unfold spec_l07First.f
 obtain ⟨r,hr,h⟩:=loop_inv (fun k (x:Int)=>spec_l07First.l0 k l s x) l.length (fun i x=>x=(i:Int)∧∀ j y,j < i→l[j]?=some y→isDown s y=false) (fun r=>r=fdI l s)
  (fun k i x hi ⟨h1,h2⟩=>by
   subst h1
   simp only [spec_l07First.l0]
   rw [if_pos (by omega),if_pos (by omega),rd_impl_Entry hi,w64 (by omega) (by omega)]
   by_cases hd:isDown s l[i]=true
   ·refine .inr ⟨l[i].f0,?_,?_⟩
    ·unfold fdI
     rw [idxP_hit (List.getElem?_eq_getElem hi) hd h2,if_neg (by omega),rd_impl_Entry hi]
    ·unfold isDown at hd
     simp only [Bool.and_eq_true,beq_iff_eq] at hd
     rw [if_pos hd.1,if_pos hd.2]
   ·have hf:isDown s l[i]=false:=by simpa using hd
    refine .inl ⟨((i + 1:Nat):Int),⟨rfl,fun j y hj hy=>?_⟩,?_⟩
    ·rcases Nat.lt_succ_iff_lt_or_eq.1 hj with e|e
     ·exact h2 j y e hy
     ·subst e
      rw [List.getElem?_eq_getElem hi] at hy
      cases hy
      exact hf
    ·unfold isDown at hf
     by_cases h3:l[i].f2=true
     ·rw [if_pos h3,if_neg (by rw [h3] at hf;simpa using hf)]
      rfl
     ·rw [if_neg h3]
      rfl)
  (fun k x ⟨h1,h2⟩=>by
   subst h1
   refine ⟨fdI l s,rfl,?_⟩
   simp only [spec_l07First.l0]
   rw [if_neg (by omega)]
   unfold fdI
   rw [idxP_miss (fun x hx=>by
    obtain ⟨j,hj,rfl⟩:=List.mem_iff_getElem.1 hx
    exact h2 j _ hj (List.getElem?_eq_getElem hj)),if_pos (by omega)]) k 0 ⟨rfl,fun j _ h=>absurd h (Nat.not_lt_zero _)⟩ hk
 subst hr
 exact h
def sprS (p:Int × Int) (t:Int):Int × Int:=(if 0≤t∧(p.1 < 0∨t < p.1) then t else p.1,mx p.2 t)
def sprL (l:Gs) (s:Int):Nat→Int × Int
 | 0=>(-1,-1)
 | n + 1=>sprS (sprL l s n) (fdI (rd_L4 l (n:Int)) s)
theorem sprL_sign (l:Gs) (s:Int):∀ n,((sprL l s n).1 < 0∧(sprL l s n).2 < 0)∨(0≤(sprL l s n).1∧0≤(sprL l s n).2):=by
 intro n
 induction n with
 | zero=>exact .inl ⟨show (-1:Int) < 0 by decide,show (-1:Int) < 0 by decide⟩
 | succ n ih =>
  rw [sprL]
  unfold sprS mx
  generalize fdI (rd_L4 l (n:Int)) s=t at *
  simp only
  split <;> split <;> omega
theorem implSpread {k:Nat} {l:Gs} {s:Int} (hl:l.length≤1048576) (hk:l.length < k):impl_SpreadOf.l0 k s (-1) (-1) l (l.length:Int) 0=some (if (sprL l s l.length).2 < 0 then (0,0,6) else ((sprL l s l.length).1,(sprL l s l.length).2,0)):=by
 obtain ⟨r,hr,h⟩:=loop_inv (fun k (x:(Int × Int) × Int)=>impl_SpreadOf.l0 k s x.1.1 x.1.2 l (l.length:Int) x.2) l.length (fun i x=>x.2=(i:Int)∧x.1=sprL l s i) (fun r=>r=if (sprL l s l.length).2 < 0 then (0,0,6) else ((sprL l s l.length).1,(sprL l s l.length).2,0))
  (fun k i x hi ⟨h1,h2⟩=>by
   obtain ⟨⟨a,b⟩,x⟩:=x
   simp only at h1 h2
   subst h1
   refine .inl ⟨(sprL l s (i + 1),((i + 1:Nat):Int)),⟨rfl,rfl⟩,?_⟩
   simp only [impl_SpreadOf.l0]
   rw [if_pos (by omega),if_pos (by omega),if_pos (by omega),implFirst,w64 (by omega) (by omega)]
   simp only [Option.bind_some,sprL,← h2,sprS]
   generalize fdI (rd_L4 l (i:Int)) s=t at *
   by_cases ht:0≤t
   ·rw [if_pos ht]
    by_cases ha:a < 0
    ·rw [if_pos ha,if_pos ⟨ht,.inl ha⟩]
     rfl
    ·rw [if_neg ha]
     by_cases hb:t < a
     ·rw [if_pos hb,if_pos ⟨ht,.inr hb⟩]
      rfl
     ·rw [if_neg hb,if_neg (by omega)]
      rfl
   ·rw [if_neg ht,if_neg (by omega)]
    rfl)
  (fun k x ⟨h1,h2⟩=>by
   obtain ⟨⟨a,b⟩,x⟩:=x
   simp only at h1 h2
   subst h1
   refine ⟨_,rfl,?_⟩
   simp only [impl_SpreadOf.l0]
   rw [if_neg (by omega),← h2]
   split <;> rfl) k ((-1,-1),0) ⟨rfl,rfl⟩ hk
 subst hr
 exact h
theorem specSpread {k:Nat} {l:Gs} {s:Int} (hl:l.length≤1048576) (hi:∀ x∈l,x.length≤1048576) (hk:2200000 < k):spec_l07Spread.f k l s=some (sprL l s l.length):=by
 unfold spec_l07Spread.f
 obtain ⟨r,hr,h⟩:=loop_inv2 (fun k (x:(Int × Int) × Int)=>spec_l07Spread.l0 k l s x.1.1 x.1.2 x.2) l.length 1048577 (fun i x=>x.2=(i:Int)∧x.1=sprL l s i) (fun r=>r=sprL l s l.length)
  (fun k i x hil hk ⟨h1,h2⟩=>by
   obtain ⟨⟨a,b⟩,x⟩:=x
   simp only at h1 h2
   subst h1
   refine .inl ⟨(sprL l s (i + 1),((i + 1:Nat):Int)),⟨rfl,rfl⟩,?_⟩
   simp only [spec_l07Spread.l0]
   rw [if_pos (by omega),if_pos (by omega),specFirst (by rw [rdL_impl hil];exact hi _ (List.getElem_mem hil)) (by rw [rdL_impl hil];have:=hi _ (List.getElem_mem hil);omega),w64 (by omega) (by omega)]
   simp only [Option.bind_some,sprL,← h2,sprS,l00Max_eq]
   generalize fdI (rd_L4 l (i:Int)) s=t at *
   by_cases ht:0≤t
   ·rw [if_pos ht]
    by_cases ha:a < 0
    ·rw [if_pos ha,if_pos ⟨ht,.inl ha⟩]
     rfl
    ·rw [if_neg ha]
     by_cases hb:t < a
     ·rw [if_pos hb,if_pos ⟨ht,.inr hb⟩]
      rfl
     ·rw [if_neg hb,if_neg (by omega)]
      rfl
   ·rw [if_neg ht,if_neg (by omega)]
    rfl)
  (fun k x hk ⟨h1,h2⟩=>by
   obtain ⟨⟨a,b⟩,x⟩:=x
   simp only at h1 h2
   subst h1
   refine ⟨_,rfl,?_⟩
   simp only [spec_l07Spread.l0]
   rw [if_neg (by omega),← h2]) k ((-1,-1),0) ⟨rfl,rfl⟩ (by omega)
 subst hr
 exact h
def codeS (l:Gs) (s:Int):Int:=if codeGs l=0 then (if (decide (0≤s) && decide (s≤9999))=true then 0 else 2) else codeGs l
def resSpread (l:Gs) (s:Int):Int × Int × Int:=if codeS l s=0 then (if (sprL l s l.length).1 < 0 then (0,0,6) else ((sprL l s l.length).1,(sprL l s l.length).2,0)) else (0,0,codeS l s)
theorem implSpreadOf_eq {k:Nat} {l:Gs} {s:Int} (hl:l.length≤1048576) (hi:∀ x∈l,x.length≤1048576) (hk:2200000 < k):impl_SpreadOf.f k l s=some (resSpread l s):=by
 unfold impl_SpreadOf.f resSpread codeS
 rw [implAllCode hi,impl_Log_up.within]
 simp only [Option.bind_some]
 rw [show ∀ b:Bool,impl_unless.f b 2=some (if b=true then 0 else 2) from fun b=>by cases b <;> rfl]
 simp only [Option.bind_some]
 rw [firstOf_eq k _ _ (by omega)]
 simp only [Option.bind_some]
 by_cases hc:(if codeGs l=0 then (if (decide (0≤s) && decide (s≤9999))=true then (0:Int) else 2) else codeGs l)=0
 ·rw [if_pos hc,if_pos hc,implSpread hl (by omega)]
  rcases sprL_sign l s l.length with h|h
  ·rw [if_pos h.2,if_pos h.1]
  ·rw [if_neg (by omega),if_neg (by omega)]
 ·rw [if_neg hc,if_neg hc]
theorem specSpreadOf_eq {k:Nat} {l:Gs} {s:Int} (hl:l.length≤1048576) (hi:∀ x∈l,x.length≤1048576) (hk:2200002 < k):spec_SpreadOf.f k l s=some (resSpread l s):=by
 unfold spec_SpreadOf.f resSpread codeS
 obtain ⟨k,rfl⟩:∃ j,k=j + 2:=⟨k - 2,by omega⟩
 rw [specLogs hl (by omega)]
 simp only [Option.bind_some]
 have hj:∀ c:Int,spec_SpreadOf.j1 (k + 1) l s c=some (if c=0 then (if (sprL l s l.length).1 < 0 then (0,0,6) else ((sprL l s l.length).1,(sprL l s l.length).2,0)) else (0,0,c)):=fun c=>by
  simp only [spec_SpreadOf.j1]
  by_cases hc:c=0
  ·rw [if_pos hc,specSpread hl hi (by omega),if_pos hc]
   simp only [Option.bind_some]
   split <;> rfl
  ·rw [if_neg hc,if_neg hc]
 by_cases hc:codeGs l=0
 ·rw [if_pos hc,in_log]
  simp only [Option.bind_some,spec_SpreadOf.j0]
  rw [hc,if_pos rfl]
  cases (decide (0≤s) && decide (s≤9999)) with
  | true =>
   rw [if_neg (by simp),hj]
   rfl
  | false =>
   rw [if_pos (by rfl),hj]
   rfl
 ·rw [if_neg hc]
  simp only [spec_SpreadOf.j0]
  rw [if_neg (by simp),hj]
  simp [hc]
def lateTo (l:Gs) (s hi:Int):Nat→List Int
 | 0=>[]
 | n + 1=>lateTo l s hi n ++ (if fdI (rd_L4 l (n:Int)) s < 0∨fdI (rd_L4 l (n:Int)) s > hi then [(n:Int)] else [])
theorem lateTo_len (l:Gs) (s hi:Int):∀ n,(lateTo l s hi n).length≤n:=by
 intro n
 induction n with
 | zero=>simp [lateTo]
 | succ n ih =>
  rw [lateTo,List.length_append]
  split
  ·simp only [List.length_singleton]
   omega
  ·simp only [List.length_nil]
   omega
theorem implLate {k:Nat} {l:Gs} {s w f:Int} (hl:l.length≤1048576) (hk:l.length < k):impl_LateShips.l0 k s w f [] l (l.length:Int) 0=some (lateTo l s (wrap64 (f + w)) l.length,0):=by
 obtain ⟨r,hr,h⟩:=loop_inv (fun k (x:List Int × Int)=>impl_LateShips.l0 k s w f x.1 l (l.length:Int) x.2) l.length (fun i x=>x.2=(i:Int)∧x.1=lateTo l s (wrap64 (f + w)) i) (fun r=>r=(lateTo l s (wrap64 (f + w)) l.length,0))
  (fun k i x hi ⟨h1,h2⟩=>by
   obtain ⟨out,x⟩:=x
   simp only at h1 h2
   subst h1
   have hlen:=lateTo_len l s (wrap64 (f + w)) i
   rw [← h2] at hlen
   refine .inl ⟨(lateTo l s (wrap64 (f + w)) (i + 1),((i + 1:Nat):Int)),⟨rfl,rfl⟩,?_⟩
   simp only [lateTo,← h2]
   rw [show ((i + 1:Nat):Int)=(i:Int) + 1 by omega]
   simp only [impl_LateShips.l0]
   rw [if_pos (by omega),if_pos (by omega),if_pos (by omega),implFirst,w64 (n:=(i:Int) + 1) (by omega) (by omega)]
   simp only [Option.bind_some]
   generalize fdI (rd_L4 l (i:Int)) s=t
   generalize wrap64 (f + w)=b
   by_cases ht:t < 0
   ·rw [if_pos ht,if_pos (by omega),if_pos (.inl ht)]
   ·rw [if_neg ht]
    by_cases hb:t > b
    ·rw [if_pos hb,if_pos (by omega),if_pos (.inr hb)]
    ·rw [if_neg hb,if_neg (by omega),List.append_nil])
  (fun k x ⟨h1,h2⟩=>by
   obtain ⟨out,x⟩:=x
   simp only at h1 h2
   subst h1
   refine ⟨_,rfl,?_⟩
   simp only [impl_LateShips.l0]
   rw [if_neg (by omega),← h2]) k ([],0) ⟨rfl,rfl⟩ hk
 subst hr
 exact h
theorem specLate {k:Nat} {l:Gs} {s w f:Int} (hl:l.length≤1048576) (hi:∀ x∈l,x.length≤1048576) (hk:2200000 < k):spec_LateShips.l0 k l s w f [] 0=some (lateTo l s (wrap64 (f + w)) l.length,0):=by
 obtain ⟨r,hr,h⟩:=loop_inv2 (fun k (x:List Int × Int)=>spec_LateShips.l0 k l s w f x.1 x.2) l.length 1048577 (fun i x=>x.2=(i:Int)∧x.1=lateTo l s (wrap64 (f + w)) i) (fun r=>r=(lateTo l s (wrap64 (f + w)) l.length,0))
  (fun k i x hil hk ⟨h1,h2⟩=>by
   obtain ⟨out,x⟩:=x
   simp only at h1 h2
   subst h1
   have hlen:=lateTo_len l s (wrap64 (f + w)) i
   rw [← h2] at hlen
   have hai:=hi _ (List.getElem_mem hil)
   refine .inl ⟨(lateTo l s (wrap64 (f + w)) (i + 1),((i + 1:Nat):Int)),⟨rfl,rfl⟩,?_⟩
   simp only [lateTo,← h2]
   rw [show ((i + 1:Nat):Int)=(i:Int) + 1 by omega]
   simp only [spec_LateShips.l0]
   rw [if_pos (by omega),if_pos (by omega),specFirst (by rw [rdL_impl hil];exact hai) (by rw [rdL_impl hil];omega),w64 (n:=(i:Int) + 1) (by omega) (by omega)]
   simp only [Option.bind_some]
   generalize fdI (rd_L4 l (i:Int)) s=t
   generalize wrap64 (f + w)=b
   by_cases ht:t < 0
   ·rw [if_pos ht,if_pos (by omega),if_pos (.inl ht)]
   ·rw [if_neg ht]
    by_cases hb:t > b
    ·rw [if_pos hb,if_pos (by omega),if_pos (.inr hb)]
    ·rw [if_neg hb,if_neg (by omega),List.append_nil])
  (fun k x hk ⟨h1,h2⟩=>by
   obtain ⟨out,x⟩:=x
   simp only at h1 h2
   subst h1
   refine ⟨_,rfl,?_⟩
   simp only [spec_LateShips.l0]
   rw [if_neg (by omega),← h2]) k ([],0) ⟨rfl,rfl⟩ (by omega)
 subst hr
 exact h
def codeLate (c w:Int):Int:=if c=0∨c=6 then (if (decide (0≤w) && decide (w≤100000))=true then c else 2) else c
theorem codeLate_in {c:Int} (w:Int) (h:c=0∨c=6):codeLate c w=if (decide (0≤w) && decide (w≤100000))=true then c else 2:=if_pos h
theorem codeLate_out {c:Int} (w:Int) (h:¬(c=0∨c=6)):codeLate c w=c:=if_neg h
def resLate (l:Gs) (s w:Int):List Int × Int:=if codeLate (resSpread l s).2.2 w=0 then (lateTo l s (wrap64 ((resSpread l s).1 + w)) l.length,0) else ([],codeLate (resSpread l s).2.2 w)
theorem implLate_eq {k:Nat} {l:Gs} {s w:Int} (hl:l.length≤1048576) (hi:∀ x∈l,x.length≤1048576) (hk:2200010 < k):impl_LateShips.f k l s w=some (resLate l s w):=by
 unfold impl_LateShips.f resLate
 rw [implSpreadOf_eq hl hi (by omega)]
 simp only [Option.bind_some]
 generalize resSpread l s=r
 obtain ⟨f,g,c⟩:=r
 obtain ⟨k,rfl⟩:∃ j,k=j + 2:=⟨k - 2,by omega⟩
 have hj1:∀ c:Int,impl_LateShips.j1 (k + 1) l s w f c=some (if c=0 then (lateTo l s (wrap64 (f + w)) l.length,0) else ([],c)):=fun c=>by
  simp only [impl_LateShips.j1]
  by_cases hc:c=0
  ·rw [if_pos hc,if_pos hc,implLate hl (by omega)]
  ·rw [if_neg hc,if_neg hc]
 have ht:impl_LateShips.j0 (k + 2) l s w f c true=some (if (if (decide (0≤w) && decide (w≤100000))=true then c else 2)=0 then (lateTo l s (wrap64 (f + w)) l.length,0) else ([],if (decide (0≤w) && decide (w≤100000))=true then c else 2)):=by
  generalize hK:k + 1=K at hj1
  rw [show k + 2=K + 1 by omega]
  simp only [impl_LateShips.j0]
  rw [if_pos trivial,impl_Log_up.within]
  simp only [Option.bind_some]
  rw [show ∀ b:Bool,impl_unless.f b 2=some (if b=true then 0 else 2) from fun b=>by cases b <;> rfl]
  simp only [Option.bind_some]
  rw [firstOf_eq K _ _ (by omega)]
  simp only [Option.bind_some]
  rw [hj1]
  cases (decide (0≤w) && decide (w≤100000)) with
  | true=>simp
  | false=>simp
 have hf:impl_LateShips.j0 (k + 2) l s w f c false=some (if c=0 then (lateTo l s (wrap64 (f + w)) l.length,0) else ([],c)):=by
  generalize hK:k + 1=K at hj1
  rw [show k + 2=K + 1 by omega]
  simp only [impl_LateShips.j0]
  rw [if_neg (by simp),hj1]
 simp only
 by_cases h0:c=0
 ·rw [if_pos h0,ht,codeLate_in w (.inl h0)]
 ·rw [if_neg h0]
  by_cases h6:c=6
  ·rw [show (c == 6)=true from by simp [h6],ht,codeLate_in w (.inr h6)]
  ·rw [show (c == 6)=false from by simp [h6],hf,codeLate_out w (by omega)]
theorem specLate_eq {k:Nat} {l:Gs} {s w:Int} (hl:l.length≤1048576) (hi:∀ x∈l,x.length≤1048576) (hk:2200010 < k):spec_LateShips.f k l s w=some (resLate l s w):=by
 unfold spec_LateShips.f resLate
 rw [specSpreadOf_eq hl hi (by omega)]
 simp only [Option.bind_some]
 generalize resSpread l s=r
 obtain ⟨f,g,c⟩:=r
 obtain ⟨k,rfl⟩:∃ j,k=j + 2:=⟨k - 2,by omega⟩
 have hj1:∀ c:Int,spec_LateShips.j1 (k + 1) l s w f c=some (if c=0 then (lateTo l s (wrap64 (f + w)) l.length,0) else ([],c)):=fun c=>by
  simp only [spec_LateShips.j1]
  by_cases hc:c=0
  ·rw [if_pos hc,if_pos hc,specLate hl hi (by omega)]
  ·rw [if_neg hc,if_neg hc]
 have hj:∀ b:Bool,spec_LateShips.j0 (k + 2) l s w f c b=some (if (if b=true then 2 else c)=0 then (lateTo l s (wrap64 (f + w)) l.length,0) else ([],if b=true then 2 else c)):=fun b=>by
  generalize hK:k + 1=K at hj1
  rw [show k + 2=K + 1 by omega]
  simp only [spec_LateShips.j0]
  cases b with
  | true=>rw [if_pos rfl,hj1];rfl
  | false=>rw [if_neg (by simp),hj1];rfl
 have ht:spec_l07Time.f w=some (decide (0≤w) && decide (w≤100000)):=by
  unfold spec_l07Time.f
  rw [in_log]
  rfl
 rw [ht]
 simp only [Option.bind_some,hj]
 by_cases h0:c=0
 ·rw [if_pos h0,codeLate_in w (.inl h0)]
  cases (decide (0≤w) && decide (w≤100000)) <;> simp [h0]
 ·rw [if_neg h0]
  by_cases h6:c=6
  ·rw [if_pos h6,codeLate_in w (.inr h6)]
   cases (decide (0≤w) && decide (w≤100000)) <;> simp [h6]
  ·rw [if_neg h6,codeLate_out w (by omega)]
   simp [h0]
theorem gd_at {l:List En} {n:Nat} (h:gd l n=true) {i:Nat} (hi:i < n):impl_Log_up.good (lastT l i) (rd_T35 l (i:Int))=true:=by
 induction n with
 | zero=>omega
 | succ n ih =>
  rw [gd,Bool.and_eq_true] at h
  rcases Nat.lt_or_ge i n with h1|h1
  ·exact ih h.1 h1
  ·obtain rfl:i=n:=by omega
   exact h.2
theorem lastT_nonneg {l:List En} {n:Nat} (h:gd l n=true):0≤lastT l n:=by
 induction n with
 | zero=>simp [lastT]
 | succ n ih =>
  rw [gd,Bool.and_eq_true] at h
  have h1:=ih h.1
  have h2:=h.2
  unfold impl_Log_up.good at h2
  simp only [Bool.and_eq_true,decide_eq_true_eq] at h2
  rw [lastT]
  omega
theorem valid_times {l:List En} (h:validG l=true) {i:Nat} (hi:i < l.length):0≤(rd_T35 l (i:Int)).f0∧(rd_T35 l (i:Int)).f0≤100000:=by
 unfold validG at h
 simp only [Bool.and_eq_true,decide_eq_true_eq] at h
 obtain ⟨⟨h1,h2⟩,h3⟩:=h
 have hg:=gd_at h2 hi
 have hl:=lastT_nonneg (l:=l) (n:=i) (by
  cases hgi:gd l i with
  | true=>rfl
  | false=>rw [gd_false hgi (by omega)] at h2;cases h2)
 unfold impl_Log_up.good at hg
 simp only [Bool.and_eq_true,decide_eq_true_eq] at hg
 omega
theorem bytes_ofA {l:List Int} (h:∀ x∈l,(Lit.int .u8 x).wf=true):Bytes l:=fun x hx=>by
 have:=h x hx
 simp [Lit.wf,IntKind.min,IntKind.max,IntKind.signed,IntKind.bits] at this
 omega
theorem sameNumsA_in {l:List Int} (hl:l.length≤1000):∀ (d i k:Nat),i + d=l.length→d < k→spec_l00Same.l0 k l l (i:Int)=some true:=by
 intro d
 induction d with
 | zero =>
  intro i k hi hk
  obtain ⟨k,rfl⟩:∃ m,k=m + 1:=⟨k - 1,by omega⟩
  rw [spec_l00Same.l0,if_neg (by omega)]
 | succ d ih =>
  intro i k hi hk
  obtain ⟨k,rfl⟩:∃ m,k=m + 1:=⟨k - 1,by omega⟩
  have e:=ih (i + 1) k (by omega) (by omega)
  rw [show ((i + 1:Nat):Int)=(i:Int) + 1 by omega] at e
  rw [spec_l00Same.l0]
  simp only [if_pos (show (i:Int) < (l.length:Int) by omega),if_pos (show (0:Int)≤(i:Int) by omega),if_true,w64 (n:=(i:Int) + 1) (by omega) (by omega)]
  exact e
theorem sameNumsA {l:List Int} (hl:l.length≤1000) {k:Nat} (hk:2000 < k):spec_SameNumbers.f k l l=some true:=by
 unfold spec_SameNumbers.f spec_l00Same.f
 have e:=sameNumsA_in hl l.length 0 k (by omega) (by omega)
 rw [show ((0:Nat):Int)=0 from rfl] at e
 rw [if_pos rfl,e]
 rfl
theorem sameLogA_in {l:List En} (hl:l.length≤1000):∀ (d i k:Nat),i + d=l.length→d < k→spec_SameLog.l0 k l l (i:Int)=some true:=by
 intro d
 induction d with
 | zero =>
  intro i k hi hk
  obtain ⟨k,rfl⟩:∃ m,k=m + 1:=⟨k - 1,by omega⟩
  rw [spec_SameLog.l0,if_neg (by omega)]
 | succ d ih =>
  intro i k hi hk
  obtain ⟨k,rfl⟩:∃ m,k=m + 1:=⟨k - 1,by omega⟩
  have e:=ih (i + 1) k (by omega) (by omega)
  rw [show ((i + 1:Nat):Int)=(i:Int) + 1 by omega] at e
  rw [spec_SameLog.l0]
  rw [if_pos (by omega),if_pos (by omega),if_pos (by omega),if_neg (by simp),w64 (n:=(i:Int) + 1) (by omega) (by omega)]
  exact e
theorem sameLogA {l:List En} (hl:l.length≤1000) {k:Nat} (hk:2000 < k):spec_SameLog.f k l l=some true:=by
 unfold spec_SameLog.f
 have e:=sameLogA_in hl l.length 0 k (by omega) (by omega)
 rw [show ((0:Nat):Int)=0 from rfl] at e
 rw [if_pos rfl,e]
theorem fdI_b {l:List En} (hv:validG l=true) (s:Int):-1≤fdI l s∧fdI l s≤100000:=by
 unfold fdI
 split
 ·omega
 ·rename_i h
  have hlt:=impl_Log_up.idx_lt (isDown s) l
  obtain ⟨q,hq⟩:∃ q:Nat,idxP (isDown s) l=(q:Int):=⟨(idxP (isDown s) l).toNat,by omega⟩
  rw [hq] at hlt ⊢
  have:=valid_times hv (i:=q) (by omega)
  omega
theorem sprL_at (l:Gs) (s:Int):∀ n,0≤(sprL l s n).1→(∃ i,i < n∧fdI (rd_L4 l (i:Int)) s=(sprL l s n).1)∧(∃ i,i < n∧fdI (rd_L4 l (i:Int)) s=(sprL l s n).2)∧(sprL l s n).1≤(sprL l s n).2:=by
 intro n
 induction n with
 | zero=>intro h;exact absurd h (by show ¬ (0:Int)≤-1;decide)
 | succ n ih =>
  intro h
  have sg:=sprL_sign l s n
  rw [sprL] at h ⊢
  unfold sprS mx at h ⊢
  simp only at h ⊢
  by_cases hp:0≤(sprL l s n).1
  ·obtain ⟨⟨i1,a1,b1⟩,⟨i2,a2,b2⟩,c⟩:=ih hp
   refine ⟨?_,?_,?_⟩
   ·split
    ·exact ⟨n,by omega,rfl⟩
    ·exact ⟨i1,by omega,b1⟩
   ·split
    ·exact ⟨n,by omega,rfl⟩
    ·exact ⟨i2,by omega,b2⟩
   ·split <;> split <;> omega
  ·have hc:0≤fdI (rd_L4 l (n:Int)) s∧((sprL l s n).1 < 0∨fdI (rd_L4 l (n:Int)) s < (sprL l s n).1):=⟨by split at h <;> omega,.inl (by omega)⟩
   rw [if_pos hc]
   refine ⟨⟨n,by omega,rfl⟩,?_,?_⟩
   ·split
    ·exact ⟨n,by omega,rfl⟩
    ·omega
   ·split <;> omega
theorem lateTo_lt (l:Gs) (s hi:Int) {i:Nat} (h:¬ (fdI (rd_L4 l (i:Int)) s < 0∨fdI (rd_L4 l (i:Int)) s > hi)):∀ n,i < n→(lateTo l s hi n).length < n:=by
 intro n
 induction n with
 | zero=>intro h;omega
 | succ n ih =>
  intro hn
  rw [lateTo,List.length_append]
  have hle:=lateTo_len l s hi n
  by_cases e:i=n
  ·subst e
   rw [if_neg h]
   simp only [List.length_nil]
   omega
  ·have:=ih (by omega)
   split
   ·simp only [List.length_singleton]
    omega
   ·simp only [List.length_nil]
    omega
theorem lateTo_pos (l:Gs) (s hi:Int) {i:Nat} (h:fdI (rd_L4 l (i:Int)) s < 0∨fdI (rd_L4 l (i:Int)) s > hi):∀ n,i < n→0 < (lateTo l s hi n).length:=by
 intro n
 induction n with
 | zero=>intro h;omega
 | succ n ih =>
  intro hn
  rw [lateTo,List.length_append]
  by_cases e:i=n
  ·subst e
   rw [if_pos h]
   simp only [List.length_singleton]
   omega
  ·have:=ih (by omega)
   omega
def Best (l:Gs) (i:Nat) (p:Int × Int):Prop:=(i=0∧p.2=-1)∨(0≤p.2∧p.1 < (i:Int)∧∀ j,j < i→p.2≤sumB l j l.length∧((j:Int) < p.1→sumB l j l.length≠p.2))
theorem best_step {l:Gs} (hv:∀ x∈l,validG x=true) {i:Nat} (hi:i < l.length) {p:Int × Int} (h:Best l i p):Best l (i + 1) (bstep l i p):=by
 have hb:=(sumB_b hv hi l.length (Nat.le_refl _)).1
 unfold bstep
 rcases h with ⟨h1,h2⟩|⟨h1,h2,h3⟩
 ·rw [if_pos (.inl (by omega))]
  refine .inr ⟨hb,by simp only;omega,fun j hj=>?_⟩
  obtain rfl:j=i:=by omega
  exact ⟨Int.le_refl _,fun h=>by simp only at h;omega⟩
 ·split
  ·rename_i hc
   have hc':sumB l i l.length < p.2:=by omega
   refine .inr ⟨hb,by simp only;omega,fun j hj=>?_⟩
   by_cases e:j=i
   ·subst e
    exact ⟨Int.le_refl _,fun h=>by simp only at h;omega⟩
   ·have:=h3 j (by omega)
    simp only
    exact ⟨by omega,fun _=>by omega⟩
  ·rename_i hc
   refine .inr ⟨h1,by omega,fun j hj=>?_⟩
   by_cases e:j=i
   ·subst e
    exact ⟨by omega,fun h=>by omega⟩
   ·exact h3 j (by omega)
theorem best_go {l:Gs} (hv:∀ x∈l,validG x=true):∀ d i p,i + d=l.length→Best l i p→Best l l.length (bstGo l d i p):=by
 intro d
 induction d with
 | zero =>
  intro i p hi h
  obtain rfl:i=l.length:=by omega
  exact h
 | succ d ih =>
  intro i p hi h
  rw [bstGo]
  exact ih (i + 1) _ (by omega) (best_step hv (by omega) h)
theorem cost_self {a:List En}:∀ d i,i + d=a.length→costV a a i i=0:=by
 intro d
 induction d with
 | zero =>
  intro i hi
  obtain rfl:i=a.length:=by omega
  rw [costV_end1 (Nat.le_refl _)];omega
 | succ d ih =>
  intro i hi
  have h1:i < a.length:=by omega
  have e:=ih (i + 1) (by omega)
  have b1:=costW_b a a (a.length - (i + 1)) (a.length - i)
  have b2:=costW_b a a (a.length - i) (a.length - (i + 1))
  have hf:fitC (rd_T35 a (i:Int)) (rd_T35 a (i:Int))=true:=by simp [fitC]
  have hc:costC (rd_T35 a (i:Int)) (rd_T35 a (i:Int))=0:=if_pos rfl
  rw [costV_in h1 h1,if_pos hf,e,hc]
  have m1:=mn_le (costV a a (i + 1) i + 1) (costV a a i (i + 1) + 2)
  have m2:=mn_le (mn (costV a a (i + 1) i + 1) (costV a a i (i + 1) + 2)) (0 + 0)
  unfold costV at m1 m2 ⊢
  omega
theorem flat_ten {g:List (List En)} (hl:∀ l∈g,l.length≤10):g.flatten.length≤10 * g.length:=by
 induction g with
 | nil=>simp
 | cons x g ih =>
  rw [List.flatten_cons,List.length_append,List.length_cons]
  have h1:=hl x List.mem_cons_self
  have h2:=ih (fun l h=>hl l (List.mem_cons_of_mem _ h))
  omega
theorem agrG_flat (g:List (List En)) (q:Int):(agrG g q).length≤g.flatten.length:=by
 unfold agrG
 refine Nat.le_trans (List.length_filter_le _ _) ?_
 have h2:∀ (l:List En) n,(slices_Compact_Log_Entry.to l n).length≤n:=fun l n=>by
  induction n with
  | zero=>simp [slices_Compact_Log_Entry.to]
  | succ n ih =>
   unfold slices_Compact_Log_Entry.to
   split
   ·rw [List.length_append,List.length_singleton]
    omega
   ·omega
 refine Nat.le_trans (h2 _ _) ?_
 unfold slices_SortFunc_Log_Entry__impl_compareEntries.sorted
 rw [List.length_mergeSort]
 exact Nat.le_refl _
def GoodG (gs:Gs):Prop:=(∀ x∈gs,validG x=true)∧(∀ x∈gs,x.length≤10)∧1≤gs.length∧gs.length≤4
theorem good_code {gs:Gs} (h:GoodG gs):codeGs gs=0:=by
 unfold codeGs
 rw [if_pos (List.all_eq_true.2 h.1),if_pos]
 have:=h.2.2
 simp only [Bool.and_eq_true,decide_eq_true_eq]
 omega
theorem resAgr_small {gs:Gs} (h:GoodG gs) {q:Int}:(resAgr gs q).1.length≤60:=by
 have hfl:=flat_ten h.2.1
 have hal:=agrG_flat gs q
 have hn4:=h.2.2.2
 unfold resAgr
 split
 ·split
  ·split
   ·simp
   ·split
    ·simp only
     omega
    ·simp
  ·simp
 ·simp
theorem pickN {code:List Int} (hc:Bytes code) {n:Int} (h1:1≤n) (h2:n≤200):∃ r,spec_P6Pick.f code n=some r∧0≤r∧r < n:=by
 unfold spec_P6Pick.f spec_l00From.f
 simp only [Option.bind_some]
 by_cases h:n=1
 ·subst h
  exact ⟨0,rfl,by omega,by omega⟩
 ·obtain ⟨r,s,e,b⟩:=pick_ok hc (seed:=0) (a:=n) (at_:=0) (by omega) (by omega) (by omega)
  rw [e]
  exact ⟨r,rfl,b⟩
theorem ag_end {gs:Gs} (h:GoodG gs) {x0 x1:List Int} {s w:Int} (e9:spec_P6Pick.f x0 9=some s) (e4:spec_P6Pick.f x1 4=some w) (hs:0≤s∧s < 9) (hw:0≤w∧w < 4) (b le:Int) (K:Nat) (hK:2300000 < K) :
  laws_FnAgreed.l4 (K + 2) x0 x1 gs (gs.length:Int) b le (gs.length:Int)=some true:=by
 obtain ⟨hv,h10,hn1,hn4⟩:=h
 have hI:∀ x∈gs,x.length≤1048576:=fun x hx=>by have:=h10 x hx;omega
 have hcs:codeS gs s=0:=by
  unfold codeS
  rw [if_pos (good_code ⟨hv,h10,hn1,hn4⟩),if_pos]
  simp only [Bool.and_eq_true,decide_eq_true_eq]
  omega
 have hw2:(decide (0≤w) && decide (w≤100000))=true:=by
  simp only [Bool.and_eq_true,decide_eq_true_eq]
  omega
 simp only [laws_FnAgreed.l4]
 rw [if_neg (by omega),e9]
 simp only [Option.bind_some]
 rw [e4]
 simp only [Option.bind_some]
 rw [implSpreadOf_eq (by omega) hI (by omega),specSpreadOf_eq (by omega) hI (by omega),implLate_eq (by omega) hI (by omega),specLate_eq (by omega) hI (by omega)]
 simp only [Option.bind_some,if_true]
 have hlen:(resLate gs s w).1.length≤1000:=by
  unfold resLate
  split
  ·have:=lateTo_len gs s (wrap64 ((resSpread gs s).1 + w)) gs.length
   simp only
   omega
  ·simp
 rw [sameNumsA hlen (by omega)]
 simp only [Option.bind_some,Bool.not_true]
 by_cases hneg:(sprL gs s gs.length).1 < 0
 ·have hS:resSpread gs s=(0,0,6):=by
   unfold resSpread
   rw [if_pos hcs,if_pos hneg]
  have hL:resLate gs s w=([],6):=by
   unfold resLate
   rw [hS]
   simp only
   rw [codeLate_in w (.inr rfl),if_pos hw2,if_neg (by decide)]
  rw [hS,hL]
  simp only [laws_FnAgreed.j10]
  simp
 ·have hS:resSpread gs s=((sprL gs s gs.length).1,(sprL gs s gs.length).2,0):=by
   unfold resSpread
   rw [if_pos hcs,if_neg hneg]
  obtain ⟨⟨i1,a1,b1⟩,⟨i2,a2,b2⟩,c⟩:=sprL_at gs s gs.length (by omega)
  have f1:=fdI_b (hv _ (List.getElem_mem a1)) s
  have f2:=fdI_b (hv _ (List.getElem_mem a2)) s
  rw [← rdL_impl a1,b1] at f1
  rw [← rdL_impl a2,b2] at f2
  have hL:resLate gs s w=(lateTo gs s ((sprL gs s gs.length).1 + w) gs.length,0):=by
   unfold resLate
   rw [hS]
   simp only
   rw [codeLate_in w (.inl rfl),if_pos hw2,if_pos rfl,w64 (by omega) (by omega)]
  have g1:=lateTo_lt gs s ((sprL gs s gs.length).1 + w) (i:=i1) (by omega) gs.length a1
  rw [hS,hL]
  simp only [laws_FnAgreed.j10,if_true]
  rw [if_neg (by decide),if_pos c,if_pos (by omega),w64 (by omega) (by omega)]
  split
  ·rfl
  ·have g2:=lateTo_pos gs s ((sprL gs s gs.length).1 + w) (i:=i2) (by omega) gs.length a2
   rw [decide_eq_true (by omega)]
theorem ag_sums {gs:Gs} (h:GoodG gs) (x0 x1:List Int) {b le:Int} {i:Nat} (hi:i < gs.length) (h1:le≤sumB gs i gs.length) (h2:(i:Int) < b→sumB gs i gs.length≠le) (K:Nat) (hK:100000≤K) :
  ∀ d j,j + d=gs.length→laws_FnAgreed.l5 (K + d + 1) x0 x1 gs (gs.length:Int) b le (i:Int) (sumB gs i j) (j:Int)=laws_FnAgreed.l4 K x0 x1 gs (gs.length:Int) b le ((i + 1:Nat):Int):=by
 obtain ⟨hv,h10,hn1,hn4⟩:=h
 intro d
 induction d with
 | zero =>
  intro j hj
  obtain rfl:j=gs.length:=by omega
  simp only [laws_FnAgreed.l5]
  rw [if_neg (by omega),if_neg (by omega),w64 (by omega) (by omega)]
  by_cases hb:(i:Int) < b
  ·rw [if_pos hb,if_neg (h2 hb)]
   rfl
  ·rw [if_neg hb]
   rfl
 | succ d ih =>
  intro j hj
  have hjl:j < gs.length:=by omega
  have e:=ih (j + 1) (by omega)
  have hb:=sumB_b hv hi j (by omega)
  have hli:=lens_of hv hi
  have hlj:=lens_of hv hjl
  have hc:=costV_b hli hlj 0 0
  have hr:resFaults (rd_L4 gs (i:Int)) (rd_L4 gs (j:Int))=(costL gs i j,0):=by
   unfold resFaults costL
   rw [if_pos ⟨by rw [rdL_impl hi];exact hv _ (List.getElem_mem hi),by rw [rdL_impl hjl];exact hv _ (List.getElem_mem hjl)⟩]
  have hs:sumB gs i j + costL gs i j=sumB gs i (j + 1):=by
   rw [sumB]
   split
   ·rename_i e
    subst e
    unfold costL
    rw [cost_self _ 0 (Nat.zero_add _)]
    omega
   ·rfl
  have hcl:costL gs i j=costV (rd_L4 gs (i:Int)) (rd_L4 gs (j:Int)) 0 0:=rfl
  obtain ⟨Q,hQ⟩:∃ Q,Q=K + d + 1:=⟨_,rfl⟩
  rw [show K + (d + 1) + 1=Q + 1 by omega]
  simp only [laws_FnAgreed.l5]
  rw [if_pos (by omega),if_pos (by omega),if_pos (by omega),if_pos (by omega),if_pos (by omega),implFaultsOf_eq (by omega) (by omega) (by omega),hr]
  simp only [Option.bind_some,if_true]
  rw [w64 (n:=sumB gs i j + costL gs i j) (by omega) (by omega),w64 (n:=(j:Int) + 1) (by omega) (by omega),hs,hQ,← e]
  rfl
theorem ag_best {gs:Gs} (h:GoodG gs) {x0 x1:List Int} {s w:Int} (e9:spec_P6Pick.f x0 9=some s) (e4:spec_P6Pick.f x1 4=some w) (hs:0≤s∧s < 9) (hw:0≤w∧w < 4) {b le:Int} (hB:∀ i,i < gs.length→le≤sumB gs i gs.length∧((i:Int) < b→sumB gs i gs.length≠le)) :
  ∀ d i K,i + d=gs.length→2300003 + 10 * d < K→laws_FnAgreed.l4 K x0 x1 gs (gs.length:Int) b le (i:Int)=some true:=by
 intro d
 induction d with
 | zero =>
  intro i K hi hK
  obtain rfl:i=gs.length:=by omega
  obtain ⟨K,rfl⟩:∃ m,K=m + 2:=⟨K - 2,by omega⟩
  exact ag_end h e9 e4 hs hw b le K (by omega)
 | succ d ih =>
  intro i K hi hK
  have hn4:=h.2.2.2
  obtain ⟨K,rfl⟩:∃ m,K=m + gs.length + 1 + 1:=⟨K - gs.length - 2,by omega⟩
  have e:=ag_sums h x0 x1 (i:=i) (by omega) (hB i (by omega)).1 (hB i (by omega)).2 K (by omega) gs.length 0 (by omega)
  rw [show ((0:Nat):Int)=0 from rfl,show sumB gs i 0=0 from rfl] at e
  simp only [laws_FnAgreed.l4]
  rw [if_pos (by omega),e]
  exact ih (i + 1) K (by omega) (by omega)
theorem ag_rest {gs:Gs} (h:GoodG gs) {x0 x1:List Int} {s w:Int} (e9:spec_P6Pick.f x0 9=some s) (e4:spec_P6Pick.f x1 4=some w) (hs:0≤s∧s < 9) (hw:0≤w∧w < 4) (q c:Int) (due:List En) (at_:Int) (K:Nat) (hK:2400000 < K) :
  laws_FnAgreed.j4 K x0 x1 gs (gs.length:Int) q c due at_ false=some true:=by
 obtain ⟨hv,h10,hn1,hn4⟩:=h
 have hI:∀ x∈gs,x.length≤1048576:=fun x hx=>by have:=h10 x hx;omega
 obtain ⟨K,rfl⟩:∃ m,K=m + 2:=⟨K - 2,by omega⟩
 simp only [laws_FnAgreed.j4]
 rw [if_neg (by decide),implBestLog_eq hI (by omega),specBestLog_eq (by omega) (by omega)]
 have hr:resBest gs=((bstGo gs gs.length 0 (0,-1)).1,(bstGo gs gs.length 0 (0,-1)).2,0):=by
  unfold resBest
  rw [if_pos (good_code ⟨hv,h10,hn1,hn4⟩)]
 rw [hr]
 have hB:=best_go hv gs.length 0 (0,-1) (by omega) (.inl ⟨rfl,rfl⟩)
 generalize bstGo gs gs.length 0 (0,-1)=p at *
 simp only [Option.bind_some,if_true,bne_self_eq_false,laws_FnAgreed.j7]
 rw [if_neg (by decide)]
 have hn0:gs.length≠0:=by omega
 rcases hB with ⟨h0,_⟩|⟨_,_,hB⟩
 ·exact absurd h0 hn0
 ·exact ag_best ⟨hv,h10,hn1,hn4⟩ e9 e4 hs hw hB gs.length 0 K (by omega) (by omega)
theorem ag_counts {gs:Gs} (h:GoodG gs) (x0 x1:List Int) {q c:Int} {due:List En} (hd:∀ x,x∈due ↔ x∈gs.flatten∧¬ (cntE gs x:Int) < q) (hdl:due.length≤60) {i m:Nat} (hi:i < gs.length) (hm:m < gs[i].length) (K:Nat) (hK:1000≤K) :
  ∀ d j n,j + d=gs.length→n≤j→n + cntE (gs.drop j) gs[i][m]=cntE gs gs[i][m]→laws_FnAgreed.l3 (K + d + 1) x0 x1 gs (gs.length:Int) q c due (i:Int) (m:Int) (n:Int) (j:Int)=laws_FnAgreed.l2 K x0 x1 gs (gs.length:Int) q c due (i:Int) ((m + 1:Nat):Int):=by
 obtain ⟨hv,h10,hn1,hn4⟩:=h
 have hli:=h10 _ (List.getElem_mem hi)
 intro d
 induction d with
 | zero =>
  intro j n hj hnj hn
  rw [List.drop_eq_nil_of_le (by omega),show cntE [] gs[i][m]=0 from rfl,Nat.add_zero] at hn
  simp only [laws_FnAgreed.l3]
  rw [if_neg (by omega),if_pos (by omega),if_pos (by omega),if_pos (by omega),rdL_impl hi,if_pos (by omega),rd_impl_Entry hm]
  unfold spec_HasEntry.f
  rw [has_eq _ (by omega) _ _ (by omega)]
  simp only [Option.bind_some]
  have hb:decide (gs[i][m]∈due)=decide ((n:Int)≥q):=by
   refine decide_eq_decide.2 ?_
   rw [hd,← hn]
   refine ⟨fun z=>by have:=z.2;omega,fun z=>⟨List.mem_flatten.2 ⟨gs[i],List.getElem_mem hi,List.getElem_mem hm⟩,by omega⟩⟩
  rw [hb,if_neg (by simp),w64 (n:=(m:Int) + 1) (by omega) (by omega)]
  rfl
 | succ d ih =>
  intro j n hj hnj hn
  have hjl:j < gs.length:=by omega
  have hlj:=h10 _ (List.getElem_mem hjl)
  rw [List.drop_eq_getElem_cons hjl,cntE_cons] at hn
  obtain ⟨Q,hQ⟩:∃ Q,Q=K + d + 1:=⟨_,rfl⟩
  rw [show K + (d + 1) + 1=Q + 1 by omega]
  simp only [laws_FnAgreed.l3]
  rw [if_pos (by omega),if_pos (by omega),if_pos (by omega),if_pos (by omega),if_pos (by omega),rdL_impl hi,if_pos (by omega),rd_impl_Entry hm,rdL_impl hjl]
  unfold spec_HasEntry.f
  rw [has_eq _ (by omega) _ _ (by omega)]
  simp only [Option.bind_some,decide_eq_true_eq]
  rw [w64 (n:=(j:Int) + 1) (by omega) (by omega),show ((j:Int) + 1)=((j + 1:Nat):Int) by omega]
  by_cases hx:gs[i][m]∈gs[j]
  ·rw [if_pos hx] at hn
   rw [if_pos hx,w64 (by omega) (by omega),show ((n:Int) + 1)=((n + 1:Nat):Int) by omega,hQ,ih (j + 1) (n + 1) (by omega) (by omega) (by omega)]
  ·rw [if_neg hx] at hn
   rw [if_neg hx,hQ,ih (j + 1) n (by omega) (by omega) (by omega)]
theorem ag_row {gs:Gs} (h:GoodG gs) (x0 x1:List Int) {q c:Int} {due:List En} (hd:∀ x,x∈due ↔ x∈gs.flatten∧¬ (cntE gs x:Int) < q) (hdl:due.length≤60) {i:Nat} (hi:i < gs.length) :
  ∀ d m K,m + d=gs[i].length→1100 + 10 * d < K→∃ K',K≤K' + 10 * (d + 1)∧laws_FnAgreed.l2 K x0 x1 gs (gs.length:Int) q c due (i:Int) (m:Int)=laws_FnAgreed.l1 K' x0 x1 gs (gs.length:Int) q c due ((i + 1:Nat):Int):=by
 have hli:=h.2.1 _ (List.getElem_mem hi)
 have hn4:=h.2.2.2
 intro d
 induction d with
 | zero =>
  intro m K hm hK
  obtain ⟨K,rfl⟩:∃ z,K=z + 1:=⟨K - 1,by omega⟩
  refine ⟨K,by omega,?_⟩
  simp only [laws_FnAgreed.l2]
  rw [if_pos (by omega),if_pos (by omega),rdL_impl hi,if_neg (by omega),w64 (by omega) (by omega)]
  rfl
 | succ d ih =>
  intro m K hm hK
  obtain ⟨K,rfl⟩:∃ z,K=z + gs.length + 1 + 1:=⟨K - gs.length - 2,by omega⟩
  have hml:m < gs[i].length:=by omega
  have e:=ag_counts h x0 x1 (c:=c) hd hdl hi hml K (by omega) gs.length 0 0 (by omega) (by omega) (by rw [List.drop_zero,Nat.zero_add])
  rw [show ((0:Nat):Int)=0 from rfl] at e
  obtain ⟨K',k1,k2⟩:=ih (m + 1) K (by omega) (by omega)
  refine ⟨K',by omega,?_⟩
  rw [← k2,← e]
  simp only [laws_FnAgreed.l2]
  rw [if_pos (by omega),if_pos (by omega),rdL_impl hi,if_pos (by omega)]
theorem ag_rows {gs:Gs} (h:GoodG gs) {x0 x1:List Int} {s w:Int} (e9:spec_P6Pick.f x0 9=some s) (e4:spec_P6Pick.f x1 4=some w) (hs:0≤s∧s < 9) (hw:0≤w∧w < 4) {q:Int} {due:List En} (hd:∀ x,x∈due ↔ x∈gs.flatten∧¬ (cntE gs x:Int) < q) (hdl:due.length≤60) :
  ∀ d i K,i + d=gs.length→2400010 + 200 * d < K→laws_FnAgreed.l1 K x0 x1 gs (gs.length:Int) q 0 due (i:Int)=some true:=by
 intro d
 induction d with
 | zero =>
  intro i K hi hK
  obtain ⟨K,rfl⟩:∃ z,K=z + 1:=⟨K - 1,by omega⟩
  simp only [laws_FnAgreed.l1]
  rw [if_neg (by omega)]
  exact ag_rest h e9 e4 hs hw q 0 due _ K (by omega)
 | succ d ih =>
  intro i K hi hK
  have hil:i < gs.length:=by omega
  have hli:=h.2.1 _ (List.getElem_mem hil)
  obtain ⟨K,rfl⟩:∃ z,K=z + 2:=⟨K - 2,by omega⟩
  obtain ⟨K',k1,k2⟩:=ag_row h x0 x1 (c:=0) hd hdl hil gs[i].length 0 K (by omega) (by omega)
  rw [show ((0:Nat):Int)=0 from rfl] at k2
  simp only [laws_FnAgreed.l1]
  rw [if_pos (by omega)]
  simp only [laws_FnAgreed.j4]
  rw [if_pos (show ((0:Int) == 0)=true from rfl),k2]
  exact ih (i + 1) K' (by omega) (by omega)
theorem ag_all {gs:Gs} (h:GoodG gs) {x0 x1:List Int} (hc0:Bytes x0) (hc1:Bytes x1) {g:List En} {t p:Int} (ep:spec_P6Pick.f x1 4=some p) (hp:0≤p∧p < 4) (ht:t=1 + p) (K:Nat) (hK:2500000 < K) :
  laws_FnAgreed.l0 K x0 x1 g gs t=some true:=by
 have hh:=h
 obtain ⟨hv,h10,hn1,hn4⟩:=hh
 have hI:∀ x∈gs,x.length≤1048576:=fun x hx=>by have:=h10 x hx;omega
 obtain ⟨s,e9,hs⟩:=pickN hc0 (n:=9) (by omega) (by omega)
 obtain ⟨r,er,hr⟩:=pickN hc0 (n:=(gs.length:Int)) (by omega) (by omega)
 obtain ⟨K,rfl⟩:∃ z,K=z + 2:=⟨K - 2,by omega⟩
 simp only [laws_FnAgreed.l0]
 rw [ep]
 simp only [Option.bind_some]
 rw [if_neg (by omega),er]
 simp only [Option.bind_some]
 rw [w64 (n:=1 + r) (by omega) (by omega),implAgreed gs _ hI _ (by omega),specAgreed gs _ (by omega) _ (by omega)]
 simp only [Option.bind_some,if_true]
 rw [sameLogA (by have:=resAgr_small h (q:=1 + r);omega) (by omega)]
 have hfl:=flat_ten h10
 have hal:=agrG_flat gs (1 + r)
 obtain ⟨a1,a2⟩:=agrG_ok gs (1 + r)
 have hres:resAgr gs (1 + r)=(agrG gs (1 + r),0)∨resAgr gs (1 + r)=([],4):=by
  unfold resAgr
  rw [if_pos (good_code h),if_pos (by simp only [Bool.and_eq_true,decide_eq_true_eq];omega),if_neg (by omega)]
  split
  ·exact .inl rfl
  ·exact .inr rfl
 simp only [Option.bind_some,if_true]
 rcases hres with e|e
 ·rw [e]
  simp only [if_true,laws_FnAgreed.j2]
  rw [if_neg (by decide)]
  have:=ag_rows h e9 ep hs hp (q:=1 + r) (due:=agrG gs (1 + r)) a2 (by omega) gs.length 0 K (by omega) (by omega)
  exact this
 ·rw [e]
  simp only [laws_FnAgreed.j2]
  rw [if_neg (by decide),if_neg (by decide)]
  obtain ⟨K,rfl⟩:∃ z,K=z + 1:=⟨K - 1,by omega⟩
  simp only [laws_FnAgreed.l1]
  rw [if_pos (by omega)]
  exact ag_rest h e9 ep hs hp (1 + r) 4 [] 0 K (by omega)
theorem ag_draws {x0 x1:List Int} (hc0:Bytes x0) (hc1:Bytes x1) (hx1:x1.length≤4096) {g:List En} (hg:validG g=true) (hgl:g.length≤10) {p:Int} (ep:spec_P6Pick.f x1 4=some p) (hp:0≤p∧p < 4) :
  ∀ (d i:Nat) (gs:Gs) (K:Nat),(i:Int) + (d:Int)=1 + p→gs.length=i→(∀ x∈gs,validG x=true)→(∀ x∈gs,x.length≤10)→2500000 + d < K→laws_FnAgreed.l0 K x0 x1 g gs (i:Int)=some true:=by
 intro d
 induction d with
 | zero =>
  intro i gs K hi hgs hv h10 hK
  exact ag_all ⟨hv,h10,by omega,by omega⟩ hc0 hc1 ep hp (by omega) K (by omega)
 | succ d ih =>
  intro i gs K hi hgs hv h10 hK
  obtain ⟨K,rfl⟩:∃ z,K=z + 1:=⟨K - 1,by omega⟩
  have hcb:Bytes ([(i:Int)] ++ x1):=fun x hx=>by
   rcases List.mem_append.1 hx with e|e
   ·rw [List.mem_singleton.1 e]
    omega
   ·exact hc1 x e
  obtain ⟨l,e,vl,ll⟩:=seenLen_ok hg hcb (k:=K) (by omega)
  simp only [laws_FnAgreed.l0]
  rw [ep]
  simp only [Option.bind_some]
  rw [if_pos (by omega),if_pos (by simp only [List.length_singleton];omega),e]
  simp only [Option.bind_some]
  rw [if_pos (by omega),show ((i:Int) + 1) % 256=((i + 1:Nat):Int) by omega]
  refine ih (i + 1) (gs ++ [l]) K (by omega) (by simp [hgs]) (fun x hx=>?_) (fun x hx=>?_) (by omega)
  ·rcases List.mem_append.1 hx with z|z
   ·exact hv x z
   ·rw [List.mem_singleton.1 z]
    exact vl
  ·rcases List.mem_append.1 hx with z|z
   ·exact h10 x z
   ·rw [List.mem_singleton.1 z]
    omega
theorem FnAgreed (l0:List Int) (l1:List Int) (h00:l0.length≤9223372036854775807) (h01:(∀ x∈l0,(Lit.int .u8 x).wf=true)) (h10:l1.length≤9223372036854775807) (h11:(∀ x∈l1,(Lit.int .u8 x).wf=true)):∃ k,laws_FnAgreed.f k l0 l1=some true:=by
 obtain ⟨K,hK⟩:∃ K,10000000 < K:=⟨_,Nat.lt_succ_self _⟩
 refine ⟨K + 1,?_⟩
 unfold laws_FnAgreed.f laws_f6big.f
 simp only [Option.bind_some]
 have hj0:∀ b,(b=false→l1.length≤4096)→laws_FnAgreed.j0 (K + 1) l0 l1 b=some true:=by
  intro b hb
  rw [laws_FnAgreed.j0]
  by_cases h:b=true
  ·rw [if_pos h]
  ·rw [if_neg h]
   obtain ⟨g,e1,vg,gl⟩:=drawnLen_ok (bytes_ofA h01) (k:=K) (by omega)
   obtain ⟨p,ep,hp⟩:=pickN (bytes_ofA h11) (n:=4) (by omega) (by omega)
   rw [e1]
   simp only [Option.bind_some]
   exact ag_draws (bytes_ofA h01) (bytes_ofA h11) (hb (by simpa using h)) vg gl ep hp (1 + p).toNat 0 [] K (by omega) rfl (by simp) (by simp) (by omega)
 split
 ·exact hj0 true (fun h=>by cases h)
 ·exact hj0 _ (fun h=>by simp only [decide_eq_false_iff_not] at h;omega)
end Go.Proofs.Ytcoepebmmgcplac.G.Pure
end
