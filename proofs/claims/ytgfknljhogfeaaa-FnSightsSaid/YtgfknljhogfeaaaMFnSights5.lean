/- The law's functions, their contracts, and the plain lemmas: texts of this claim, laid together. -/
import Derived.Deep.Slices
import Derived.Deep.Fields
import Derived.ChangeSame
import Derived.OpenShut
import Derived.Test.YtgfknljhogfeaaaMFnSights0
import Derived.Test.YtgfknljhogfeaaaMFnSights1
import Derived.Test.YtgfknljhogfeaaaMFnSights2
import Derived.Test.YtgfknljhogfeaaaMFnSights3
import Derived.Test.YtgfknljhogfeaaaMFnSights4
section
namespace Go.Proofs.Ytgfknljhogfeaaa.G
open Go.RowKit Go.Proofs.YtgfknljhogfeaaaW.PrintWords Go.Proofs.YtgfknljhogfeaaaW.PrintLast Go.Proofs.YtgfknljhogfeaaaW.PrintMore
attribute [local go_sem] max2_int min2_int max_two min_two max_three min_three max_four min_four
set_option linter.unusedVariables false
set_option linter.unusedSimpArgs false
open Go.ChangeShapes Go.WideShapes Go.Deep in
structure Opens {α:Type} (P:Program) (t:TypeId) (d:Kd α) (Wf:α→Prop):Prop where
  sz:P.cellsOf t=d.sz
  op:∀ {H:Type} {enc:TypeId × Value→H} {w:World} {base:Nat} {spare:Nat→Bool} {held:Bool} {fuel:Nat} {cs:List Value} {x:DataW H × List MemPlace},DataW.trod enc P w base spare held fuel t cs=some x→∃ a:α,d.K w a cs∧Wf a
theorem opens_int {P:Program} {t:TypeId} {k:IntKind} (ht:P.underlying t=some (.int k)) (hC:P.cellsOf t=1):Opens P t (Kd.int k) (fun n=>(Lit.int k n).wf=true) where
  sz:=hC
  op:=fun h=>by
    obtain ⟨n,rfl,_,hw⟩:=DataW.trod_int ht h
    exact ⟨n,rfl,hw⟩
theorem list_of {α:Type} {Q:Nat→α→Prop}:∀ n,(∀ i,i < n→∃ y,Q i y)→∃ l:List α,l.length=n∧∀ i y,l[i]?=some y→Q i y
  | 0,_=>⟨[],rfl,fun i y h=>by simp at h⟩
  | n + 1,h=>by
    obtain ⟨l,hl,hq⟩:=list_of n (fun i hi=>h i (by omega))
    obtain ⟨y,hy⟩:=h n (by omega)
    refine ⟨l ++ [y],by simp [hl],fun i z hz=>?_⟩
    rcases Nat.lt_or_ge i l.length with hi|hi
    · rw [List.getElem?_append_left hi] at hz
      exact hq i z hz
    · rw [List.getElem?_append_right hi] at hz
      have:i - l.length=0:=by
        rcases Nat.eq_zero_or_pos (i - l.length) with h0|h0
        · exact h0
        · rw [List.getElem?_eq_none (by simp; omega)] at hz
          cases hz
      rw [this] at hz
      have e:y=z:=by simpa using hz
      subst e
      have:i=n:=by omega
      subst this
      exact hy
theorem opens_slice {α:Type} {P:Program} {t e:TypeId} {d:Kd α} {Wf:α→Prop} (ht:P.underlying t=some (.slice e)) (hC:P.cellsOf t=1) (he:Opens P e d Wf):Opens P t (Kd.slice e d) (fun l=>l.length≤9223372036854775807∧∀ x∈l,Wf x) where
  sz:=hC
  op:=fun {H enc w base spare held fuel cs x} h=>by
    rcases Go.Deep.open_slice ht h with ⟨rfl,_⟩|⟨a,len,cap,m,n,D,Pl,rfl,hb,hl,hm,hmm,_,hi⟩
    · exact ⟨[],⟨none,0,rfl,Nat.le_refl _,rfl,by simp,fun h=>absurd h (by simp)⟩,by simp,by simp⟩
    · have hlen:len≤m:=by rw [hmm]; split <;> omega
      obtain ⟨l,hll,hq⟩:=list_of (Q:=fun i y=>(∃ c,c.length=d.sz∧d.K w y c∧∀ j u,c[j]?=some u→w.cell? (a.add (i * d.sz + j))=some u)∧Wf y) len (fun i him=>by
        obtain ⟨cs',hc,ht'⟩:=hi i (by omega)
        obtain ⟨y,hK,hW⟩:=he.op ht'
        obtain ⟨_,hcl,hat⟩:=World.cells?_some hc
        refine ⟨y,⟨cs',d.K_len hK,hK,fun j u hu=>?_⟩,hW⟩
        have hj:j < cs'.length:=(List.getElem?_eq_some_iff.1 hu).1
        have h1:=hat j (by rw [he.sz,← d.K_len hK]; exact hj)
        rw [← he.sz,← Go.Deep.add_add,h1,hu])
      refine ⟨l,⟨some a,cap,by rw [hll],by rw [hll]; exact hl,rfl,by rw [hll]; have:=hm; unfold maxLen at this; omega,fun _=>⟨a,rfl,fun j p hj=>(hq j p hj).1⟩⟩,by rw [hll]; have:=hm; unfold maxLen at this; omega,fun y hy=>?_⟩
      obtain ⟨j,hj,rfl⟩:=List.mem_iff_getElem.1 hy
      exact (hq j _ (List.getElem?_eq_getElem hj)).2
theorem op5:Opens Try.prog 5 (Kd.int .u8) (fun x:Int=>(Lit.int .u8 x).wf=true):=opens_int (k:=.u8) Try.underlying5 (by kernel_rfl)
theorem op55:Opens Try.prog 55 (Kd.slice 5 (Kd.int .u8)) (fun x:List Int=>(x.length≤9223372036854775807∧∀ x_∈x,(Lit.int .u8 x_).wf=true)):=opens_slice Try.underlying55 (by kernel_rfl) op5
end Go.Proofs.Ytgfknljhogfeaaa.G
end

section
namespace Go.Proofs.Ytgfknljhogfeaaa.G.Pure
open Go.RowKit Go.Proofs.Ytgfknljhogfeaaa.G Go.Proofs.YtgfknljhogfeaaaW.PrintWords Go.Proofs.YtgfknljhogfeaaaW.PrintLast Go.Proofs.YtgfknljhogfeaaaW.PrintMore
set_option linter.unusedVariables false
set_option linter.unusedSimpArgs false
theorem w64 {n:Int} (h0:-9223372036854775808≤n) (h1:n≤9223372036854775807):wrap64 n=n:=by
 unfold wrap64
 omega
theorem loop_inv {σ γ:Type} (L:Nat→σ→Option γ) (n:Nat) (I:Nat→σ→Prop) (R:γ→Prop)
  (hs:∀ k i s,i < n→I i s→(∃ s',I (i + 1) s'∧L (k + 1) s=L k s')∨(∃ r,R r∧L (k + 1) s=some r))
  (he:∀ k s,I n s→∃ r,R r∧L (k + 1) s=some r):∀ k s,I 0 s→n < k→∃ r,R r∧L k s=some r:=by
 have go:∀ d i k s,i + d=n→I i s→d < k→∃ r,R r∧L k s=some r:=by
  intro d
  induction d with
  | zero =>
   intro i k s hi hI hk
   obtain ⟨k,rfl⟩:∃ m,k=m + 1:=⟨k - 1,by omega⟩
   obtain rfl:i=n:=by omega
   exact he k s hI
  | succ d ih =>
   intro i k s hi hI hk
   obtain ⟨k,rfl⟩:∃ m,k=m + 1:=⟨k - 1,by omega⟩
   rcases hs k i s (by omega) hI with ⟨s',hI',h⟩|h
   ·rw [h]
    exact ih (i + 1) k s' (by omega) hI' (by omega)
   ·exact h
 intro k s hI hk
 exact go n 0 k s (by omega) hI hk
theorem rd_nat {l:List Int} {i:Nat} (h:i < l.length):rd l (i:Int)=l[i]:=by
 simp [rd,List.getD_eq_getElem?_getD,List.getElem?_eq_getElem h]
end Go.Proofs.Ytgfknljhogfeaaa.G.Pure
end

section
namespace Go.Proofs.Ytgfknljhogfeaaa.G.Pure
open Go.RowKit Go.Proofs.Ytgfknljhogfeaaa.G Go.Proofs.YtgfknljhogfeaaaW.PrintWords Go.Proofs.YtgfknljhogfeaaaW.PrintLast Go.Proofs.YtgfknljhogfeaaaW.PrintMore
set_option linter.unusedVariables false
set_option linter.unusedSimpArgs false
theorem loop_inv2 {σ γ:Type} (L:Nat→σ→Option γ) (n K0:Nat) (I:Nat→σ→Prop) (R:γ→Prop)
  (hs:∀ k i s,i < n→K0≤k→I i s→(∃ s',I (i + 1) s'∧L (k + 1) s=L k s')∨(∃ r,R r∧L (k + 1) s=some r))
  (he:∀ k s,K0≤k→I n s→∃ r,R r∧L (k + 1) s=some r):∀ k s,I 0 s→n + K0 < k→∃ r,R r∧L k s=some r:=by
 have go:∀ d i k s,i + d=n→I i s→d + K0 < k→∃ r,R r∧L k s=some r:=by
  intro d
  induction d with
  | zero =>
   intro i k s hi hI hk
   obtain ⟨k,rfl⟩:∃ m,k=m + 1:=⟨k - 1,by omega⟩
   obtain rfl:i=n:=by omega
   exact he k s (by omega) hI
  | succ d ih =>
   intro i k s hi hI hk
   obtain ⟨k,rfl⟩:∃ m,k=m + 1:=⟨k - 1,by omega⟩
   rcases hs k i s (by omega) (by omega) hI with ⟨s',hI',h⟩|h
   ·rw [h]
    exact ih (i + 1) k s' (by omega) hI' (by omega)
   ·exact h
 intro k s hI hk
 exact go n 0 k s (by omega) hI (by omega)
end Go.Proofs.Ytgfknljhogfeaaa.G.Pure
end

section
namespace Go.Proofs.Ytgfknljhogfeaaa.G.Pure
open Go.RowKit Go.Proofs.Ytgfknljhogfeaaa.G Go.Proofs.YtgfknljhogfeaaaW.PrintWords Go.Proofs.YtgfknljhogfeaaaW.PrintLast Go.Proofs.YtgfknljhogfeaaaW.PrintMore
set_option linter.unusedVariables false
set_option linter.unusedSimpArgs false
abbrev Ws:=List (List Int)
theorem rdX {l:Ws} {i:Nat} (h:i < l.length):rd_L2 l (i:Int)=l[i]:=by
 simp [rd_L2,List.getD_eq_getElem?_getD,List.getElem?_eq_getElem h]
end Go.Proofs.Ytgfknljhogfeaaa.G.Pure
end

section
namespace Go.Proofs.Ytgfknljhogfeaaa.G.Pure
open Go.RowKit Go.Proofs.Ytgfknljhogfeaaa.G Go.Proofs.YtgfknljhogfeaaaW.PrintWords Go.Proofs.YtgfknljhogfeaaaW.PrintLast Go.Proofs.YtgfknljhogfeaaaW.PrintMore
set_option linter.unusedVariables false
set_option linter.unusedSimpArgs false
def okS (ws:Ws) (x:List Int):Bool:=(x.all (fun c=>decide (c < 37)) && (decide (1≤x.length) && decide (x.length≤8))) && decide (x.length=(ws.getD 0 []).length)
def okC (fs:List S68) (ws:Ws):Bool:=decide (1≤fs.length) && decide (fs.length≤40) && decide (ws.length≤60) && ws.all (okS ws) && (fs.all spec_l05Ok.flag && ws.all (spec_l05Ok.word fs.length))
theorem specWord_eq (k:Nat) (x:List Int) (hl:x.length≤1048576) (hk:x.length < k):spec_l05Word.f k x=some (x.all (fun c=>decide (c < 37)) && (decide (1≤x.length) && decide (x.length≤8))):=by
 unfold spec_l05Word.f
 obtain ⟨r,hr,h⟩:=loop_inv (fun k (s:Int)=>spec_l05Word.l0 k x s) x.length (fun i s=>s=(i:Int)∧∀ j (h:j < x.length),j < i→x[j] < 37) (fun r=>r=(x.all (fun c=>decide (c < 37)) && (decide (1≤x.length) && decide (x.length≤8))))
  (fun k i s hi ⟨h1,h2⟩=>by
   subst h1
   simp only [spec_l05Word.l0]
   rw [if_pos (by omega),if_pos (by omega),rd_nat hi]
   by_cases hc:x[i]≥37
   ·rw [if_pos hc]
    refine .inr ⟨false,?_,rfl⟩
    have:x.all (fun c=>decide (c < 37))=false:=by
     rw [List.all_eq_false]
     exact ⟨x[i],List.getElem_mem hi,by simp;omega⟩
    rw [this]
    rfl
   ·rw [if_neg hc,w64 (by omega) (by omega)]
    refine .inl ⟨((i + 1:Nat):Int),⟨rfl,fun j hj hji=>?_⟩,rfl⟩
    rcases Nat.lt_succ_iff_lt_or_eq.1 hji with e|e
    ·exact h2 j hj e
    ·subst e
     omega)
  (fun k s ⟨h1,h2⟩=>by
   subst h1
   have hall:x.all (fun c=>decide (c < 37))=true:=by
    rw [List.all_eq_true]
    intro c hc
    obtain ⟨j,hj,rfl⟩:=List.mem_iff_getElem.1 hc
    exact decide_eq_true (h2 j hj hj)
   refine ⟨_,rfl,?_⟩
   simp only [spec_l05Word.l0,spec_l00In.f]
   rw [if_neg (by omega),hall,Bool.true_and]
   by_cases h1:(x.length:Int)≥1
   ·rw [if_pos h1,decide_eq_true (show 1≤x.length by omega),Bool.true_and]
    simp only [Option.bind_some,Option.some.injEq]
    exact decide_eq_decide.2 (by omega)
   ·rw [if_neg h1,decide_eq_false (show ¬ 1≤x.length by omega),Bool.false_and]
    rfl) k 0 ⟨rfl,fun j _ h=>absurd h (Nat.not_lt_zero _)⟩ hk
 subst hr
 exact h
theorem specWords_eq {k:Nat} {ws:Ws} (hl:ws.length≤1048576) (hi:∀ x∈ws,x.length≤1048576) (hk:2200000 < k):spec_l05Words.f k ws=some (ws.all (okS ws)):=by
 unfold spec_l05Words.f
 obtain ⟨r,hr,h⟩:=loop_inv2 (fun k (s:Int)=>spec_l05Words.l0 k ws s) ws.length 1048577 (fun i s=>s=(i:Int)∧∀ j (h:j < ws.length),j < i→okS ws ws[j]=true) (fun r=>r=ws.all (okS ws))
  (fun k i s hil hk ⟨h1,h2⟩=>by
   subst h1
   have hx:=hi _ (List.getElem_mem hil)
   have hno:okS ws ws[i]=false→ws.all (okS ws)=false:=fun h=>by
    rw [List.all_eq_false]
    exact ⟨ws[i],List.getElem_mem hil,by rw [h];decide⟩
   have h0:rd_L2 ws 0=ws.getD 0 []:=rfl
   simp only [spec_l05Words.l0]
   rw [if_pos (by omega),if_pos (by omega),rdX hil,specWord_eq k _ hx (by omega)]
   simp only [Option.bind_some]
   by_cases hc:(ws[i].all (fun c=>decide (c < 37)) && (decide (1≤ws[i].length) && decide (ws[i].length≤8)))=true
   ·rw [if_pos hc,if_pos (by omega)]
    by_cases he:(ws[i].length:Int)=((rd_L2 ws 0).length:Int)
    ·rw [if_pos he,w64 (by omega) (by omega)]
     refine .inl ⟨((i + 1:Nat):Int),⟨rfl,fun j hj hji=>?_⟩,rfl⟩
     rcases Nat.lt_succ_iff_lt_or_eq.1 hji with e|e
     ·exact h2 j hj e
     ·subst e
      unfold okS
      rw [hc,Bool.true_and]
      rw [h0] at he
      exact decide_eq_true (by omega)
    ·rw [if_neg he]
     refine .inr ⟨false,(hno ?_).symm,rfl⟩
     unfold okS
     rw [h0] at he
     rw [decide_eq_false (show ¬ ws[i].length=(ws.getD 0 []).length by omega),Bool.and_false]
   ·rw [if_neg hc]
    refine .inr ⟨false,(hno ?_).symm,rfl⟩
    unfold okS
    rw [Bool.eq_false_iff.2 hc,Bool.false_and])
  (fun k s hk ⟨h1,h2⟩=>by
   subst h1
   refine ⟨true,?_,?_⟩
   ·symm
    rw [List.all_eq_true]
    intro x hx
    obtain ⟨j,hj,rfl⟩:=List.mem_iff_getElem.1 hx
    exact h2 j hj hj
   ·simp only [spec_l05Words.l0]
    rw [if_neg (by omega)]) k 0 ⟨rfl,fun j _ h=>absurd h (Nat.not_lt_zero _)⟩ (by omega)
 subst hr
 exact h
theorem specOk_eq {k:Nat} {fs:List S68} {ws:Ws} (hl:ws.length≤1048576) (hi:∀ x∈ws,x.length≤1048576) (hk:2200000 < k):spec_l05Ok.f k fs ws=some (okC fs ws):=by
 unfold spec_l05Ok.f spec_l00In.f okC
 by_cases h1:(fs.length:Int)≥1
 ·rw [if_pos h1,decide_eq_true (show 1≤fs.length by omega),Bool.true_and]
  simp only [Option.bind_some]
  by_cases h2:fs.length≤40
  ·rw [decide_eq_true h2,Bool.true_and,if_pos (decide_eq_true (by omega))]
   by_cases h3:(ws.length:Int) > 60
   ·rw [if_pos h3,decide_eq_false (show ¬ ws.length≤60 by omega),Bool.false_and,Bool.false_and]
   ·rw [if_neg h3,decide_eq_true (show ws.length≤60 by omega),Bool.true_and,specWords_eq hl hi hk]
    simp only [Option.bind_some]
    cases ws.all (okS ws)
    ·rfl
    ·rw [if_pos rfl,Bool.true_and]
  ·rw [decide_eq_false h2,if_neg (by simp;omega)]
   rfl
 ·rw [if_neg h1,decide_eq_false (show ¬ 1≤fs.length by omega)]
  rfl
def okI (n:Int) (ws:Ws) (x:List Int):Bool:=((decide (1≤x.length) && decide (x.length≤8)) && x.all (fun c=>!decide (wrap64 c≥mn n 37))) && decide (x.length=(ws.getD 0 []).length)
theorem isWord_eq (x:List Int) (n:Int):impl_Word_isWord.f x n=some ((decide (1≤x.length) && decide (x.length≤8)) && x.all (fun c=>!decide (wrap64 c≥mn n 37))):=by
 have e:slices_ContainsFunc_Word_uint8__impl_Word_isWord_1.f x n=some (x.any fun c=>decide (wrap64 c≥mn n 37)):=anyO_eq fun c _=>rfl
 unfold impl_Word_isWord.f impl_size_uint8.f impl_within.f
 simp only [Option.bind_some]
 by_cases h1:(1:Int)≤(x.length:Int)
 ·rw [if_pos h1,decide_eq_true (show 1≤x.length by omega),Bool.true_and]
  simp only [Option.bind_some]
  by_cases h2:x.length≤8
  ·rw [if_pos (decide_eq_true (by omega)),e,decide_eq_true h2,Bool.true_and]
   simp only [Option.bind_some,Option.some.injEq]
   rw [← List.not_any_eq_all_not]
  ·rw [if_neg (by simp;omega),decide_eq_false h2,Bool.false_and]
 ·rw [if_neg h1,decide_eq_false (show ¬ 1≤x.length by omega)]
  rfl
theorem areWords_eq (ws:Ws) (n:Int):impl_areWords.f ws n=some (ws.all (okI n ws)):=by
 have e:slices_ContainsFunc_Word_Word__impl_areWords_1.f ws n ws=some (ws.any fun x=>!okI n ws x):=anyO_eq fun x hx=>by
  have hp:0 < (ws.length:Int):=by
   have:=List.length_pos_of_mem hx
   omega
  unfold impl_areWords_1.f
  rw [isWord_eq]
  simp only [Option.bind_some]
  unfold okI
  cases ((decide (1≤x.length) && decide (x.length≤8)) && x.all (fun c=>!decide (wrap64 c≥mn n 37)))
  ·rfl
  ·rw [if_pos rfl,if_pos hp,Bool.true_and]
   have h0:rd_L2 ws 0=ws.getD 0 []:=rfl
   rw [h0]
   generalize (ws.getD 0 []).length=m
   congr 1
   by_cases he:x.length=m
   ·rw [he];simp
   ·rw [decide_eq_false he,bne_iff_ne.2 (show ¬ (x.length:Int)=(m:Int) by omega)];rfl
 unfold impl_areWords.f
 rw [e]
 simp only [Option.bind_some,Option.some.injEq]
 rw [List.not_any_eq_all_not]
 simp
theorem implOk_eq {fs:List S68} {ws:Ws} (hw:∀ x∈ws,∀ c∈x,0≤c∧c≤255):impl_ValidCode.f fs ws=some (okC fs ws):=by
 have e1:slices_ContainsFunc_Flag_Flag__impl_setCode_1.f fs=some (fs.any fun x=>!spec_l05Ok.flag x):=anyO_eq fun x _=>by
  show some ((arrL68 x).any fun c=>decide (c≥6))=_
  unfold spec_l05Ok.flag
  rw [List.not_all_eq_any_not]
  congr 2
  funext c
  by_cases h:c≤5
  ·rw [decide_eq_true h,decide_eq_false (by omega)];rfl
  ·rw [decide_eq_false h,decide_eq_true (by omega)];rfl
 have e2:∀ n:Nat,ws.all (okI (n:Int) ws)=(ws.all (okS ws) && ws.all (spec_l05Ok.word n)):=fun n=>by
  rw [Bool.eq_iff_iff]
  simp only [Bool.and_eq_true,List.all_eq_true,okI,okS,spec_l05Ok.word,decide_eq_true_eq,Bool.not_eq_true',decide_eq_false_iff_not]
  constructor
  ·intro h
   refine ⟨fun x hx=>⟨⟨fun c hc=>?_,(h x hx).1.1⟩,(h x hx).2⟩,fun x hx c hc=>?_⟩
   ·have h1:=(h x hx).1.2 c hc
    have h2:=hw x hx c hc
    rw [w64 (by omega) (by omega)] at h1
    unfold mn at h1
    split at h1 <;> omega
   ·have h1:=(h x hx).1.2 c hc
    have h2:=hw x hx c hc
    rw [w64 (by omega) (by omega)] at h1 ⊢
    unfold mn at h1
    split at h1 <;> omega
  ·rintro ⟨ha,hb⟩ x hx
   refine ⟨⟨(ha x hx).1.2,fun c hc=>?_⟩,(ha x hx).2⟩
   have h1:=(ha x hx).1.1 c hc
   have h2:=hw x hx c hc
   have h3:=hb x hx c hc
   rw [w64 (by omega) (by omega)] at h3 ⊢
   unfold mn
   split <;> omega
 unfold impl_ValidCode.f impl_setCode.f impl_within.f impl_unless.f impl_size_Flag.f okC
 rw [e1]
 simp only [Option.bind_some]
 rw [areWords_eq]
 simp only [Option.bind_some]
 rw [e2]
 have hf:(fs.any fun x=>!spec_l05Ok.flag x)=!fs.all spec_l05Ok.flag:=by
  rw [List.not_all_eq_any_not]
 rw [hf]
 by_cases h1:(fs.length:Int) > 0
 ·rw [if_pos h1,decide_eq_true (show 1≤fs.length by omega),Bool.true_and]
  cases hfl:fs.all spec_l05Ok.flag
  ·simp
  ·by_cases h2:fs.length≤40
   ·have h2':¬ (fs.length:Int) > 40:=by omega
    rw [decide_eq_true h2,Bool.true_and]
    by_cases h3:ws.length≤60
    ·have h3':(ws.length:Int)≤60:=by omega
     simp [h2',h3',h3]
    ·have h3':¬ (ws.length:Int)≤60:=by omega
     simp [h2',h3',h3]
   ·have h2':(fs.length:Int) > 40:=by omega
    rw [decide_eq_false h2]
    simp [h2']
 ·rw [if_neg h1,decide_eq_false (show ¬ 1≤fs.length by omega)]
  rfl
end Go.Proofs.Ytgfknljhogfeaaa.G.Pure
end

section
namespace Go.Proofs.Ytgfknljhogfeaaa.G.Pure
open Go.RowKit Go.Proofs.Ytgfknljhogfeaaa.G Go.Proofs.YtgfknljhogfeaaaW.PrintWords Go.Proofs.YtgfknljhogfeaaaW.PrintLast Go.Proofs.YtgfknljhogfeaaaW.PrintMore
set_option linter.unusedVariables false
set_option linter.unusedSimpArgs false
abbrev Fl:=S68
abbrev Sg:=S61
def seeC (fs:List Fl) (x:List Int):List Sg:=x.map (spec_l05Sights.see fs)
structure ValidC (fs:List Fl) (ws:Ws):Prop where
 nf:fs.length≤40
 nw:ws.length≤60
 len:∀ x∈ws,1≤x.length∧x.length≤8∧x.length=(ws.getD 0 []).length
 mem:∀ x∈ws,∀ c∈x,0≤c∧c < (fs.length:Int)
 flag:∀ f∈fs,∀ c∈arrL68 f,0≤c∧c < 6
theorem validC {fs:List Fl} {ws:Ws} (h:okC fs ws=true) (hw:∀ x∈ws,∀ c∈x,0≤c∧c≤255) (hf:∀ f∈fs,∀ c∈arrL68 f,0≤c):ValidC fs ws:=by
 unfold okC at h
 simp only [Bool.and_eq_true,List.all_eq_true,okS,spec_l05Ok.flag,spec_l05Ok.word,decide_eq_true_eq] at h
 obtain ⟨⟨⟨⟨h1,h2⟩,h3⟩,h4⟩,h5,h6⟩:=h
 refine ⟨h2,h3,fun x hx=>⟨(h4 x hx).1.2.1,(h4 x hx).1.2.2,(h4 x hx).2⟩,fun x hx c hc=>?_,fun f hf' c hc=>⟨hf f hf' c hc,?_⟩⟩
 ·have h7:=hw x hx c hc
  have h8:=h6 x hx c hc
  rw [w64 (by omega) (by omega)] at h8
  exact ⟨h7.1,h8⟩
 ·have:=h5 f hf' c hc
  omega
theorem rdF_mem {fs:List Fl} {c:Int} (h0:0≤c) (h1:c < (fs.length:Int)):rd_T68 fs c∈fs:=by
 obtain ⟨j,rfl⟩:∃ j:Nat,c=(j:Int):=⟨c.toNat,by omega⟩
 have hj:j < fs.length:=by omega
 unfold rd_T68
 rw [Int.toNat_natCast,List.getD_eq_getElem?_getD,List.getElem?_eq_getElem hj]
 exact List.getElem_mem hj
theorem flag_all {fs:List Fl} {ws:Ws} (hv:ValidC fs ws) {c:Int} (h0:0≤c) (h1:c < (fs.length:Int)):(arrL68 (rd_T68 fs c)).all (fun d=>decide (0≤d) && decide (d < 6))=true:=by
 rw [List.all_eq_true]
 intro d hd
 have:=hv.flag _ (rdF_mem h0 h1) d hd
 rw [decide_eq_true this.1,decide_eq_true this.2]
 rfl
theorem blur_at (x:Fl) (h:(arrL68 x).all (fun d=>decide (0≤d) && decide (d < 6))=true):impl_Flag_blur.f x.f0 x.f1 x.f2 x.f3 x.f4 x.f5 x.f6 x.f7 x.f8 x.f9 x.f10 x.f11 x.f12 x.f13 x.f14 x.f15 x.f16 x.f17 x.f18 x.f19 x.f20 x.f21 x.f22 x.f23=some (oneB (arrL68 x) 0,oneB (arrL68 x) 1,oneB (arrL68 x) 2,oneB (arrL68 x) 3,oneB (arrL68 x) 4,oneB (arrL68 x) 5):=by
 show (if (arrL68 x).all (fun d=>decide (0≤d) && decide (d < 6))=true then _ else none)=_
 rw [if_pos h]
 rfl
theorem implSights_eq {k:Nat} {fs:List Fl} {ws:Ws} (hv:ValidC fs ws) (ws':Ws) {x:List Int} (hx:x∈ws) (hk:100 < k):impl_Code_sights.f k fs ws' x=some (seeC fs x):=by
 have hl:=hv.len x hx
 have hm:=hv.mem x hx
 unfold impl_Code_sights.f
 obtain ⟨r,hr,h⟩:=loop_inv (fun k (s:List Sg × Int)=>impl_Code_sights.l0 k s.1 x (x.length:Int) s.2 fs ws') x.length (fun i s=>s.2=(i:Int)∧s.1=(x.take i).map (spec_l05Sights.see fs)) (fun r=>r=seeC fs x)
  (fun k i s hi ⟨h1,h2⟩=>by
   obtain ⟨acc,j⟩:=s
   simp only at h1 h2
   subst h1
   have hc:=hm _ (List.getElem_mem hi)
   refine .inl ⟨(acc ++ [spec_l05Sights.see fs x[i]],((i + 1:Nat):Int)),⟨rfl,?_⟩,?_⟩
   ·simp only
    rw [List.take_succ_eq_append_getElem hi,List.map_append,h2]
    rfl
   ·simp only [impl_Code_sights.l0]
    rw [if_pos (by omega),if_pos (by omega),if_pos (by omega),rd_nat hi,if_pos hc.1,if_pos hc.2,blur_at _ (flag_all hv hc.1 hc.2)]
    simp only [Option.bind_some]
    have hal:acc.length≤8:=by rw [h2,List.length_map,List.length_take];omega
    rw [if_pos (by omega),w64 (by omega) (by omega)]
    rfl)
  (fun k s ⟨h1,h2⟩=>by
   obtain ⟨acc,j⟩:=s
   simp only at h1 h2
   subst h1
   refine ⟨acc,?_,?_⟩
   ·rw [h2,List.take_length]
    rfl
   ·simp only [impl_Code_sights.l0]
    rw [if_neg (by omega)]) k ([],0) ⟨rfl,by simp⟩ (by omega)
 subst hr
 exact h
theorem specSights_eq {fs:List Fl} {ws:Ws} (hv:ValidC fs ws) {i:Nat} (hi:i < ws.length):spec_l05Sights.f fs ws (i:Int)=some (seeC fs ws[i]):=by
 have hx:=List.getElem_mem hi
 have hl:=hv.len _ hx
 have hm:=hv.mem _ hx
 unfold spec_l05Sights.f
 have ha:(ws[i]).all (spec_l05Sights.fits fs)=true:=by
  rw [List.all_eq_true]
  intro c hc
  have h:=hm c hc
  unfold spec_l05Sights.fits
  rw [decide_eq_true h.1,decide_eq_true h.2,flag_all hv h.1 h.2]
  rfl
 rw [rdX hi,if_pos ⟨by omega,by omega,by omega,ha⟩]
 rfl
def resS (fs:List Fl) (ws:Ws) (i:Int):List Sg × Int:=if okC fs ws=true then (if 0≤i∧i < (ws.length:Int) then (seeC fs (rd_L2 ws i),0) else ([],2)) else ([],1)
theorem specSightsOf_eq {k:Nat} {fs:List Fl} {ws:Ws} (hl:ws.length≤1048576) (hi:∀ x∈ws,x.length≤1048576) (hw:∀ x∈ws,∀ c∈x,0≤c∧c≤255) (hf:∀ f∈fs,∀ c∈arrL68 f,0≤c) (a:Int) (hk:2200000 < k):spec_SightsOf.f k fs ws a=some (resS fs ws a):=by
 unfold spec_SightsOf.f resS
 rw [specOk_eq hl hi hk]
 simp only [Option.bind_some]
 cases hok:okC fs ws
 ·rfl
 ·have hv:=validC hok hw hf
  rw [if_pos rfl,if_pos rfl,w64 (by omega) (by omega)]
  unfold spec_l00In.f
  by_cases h0:a≥0
  ·rw [if_pos h0]
   simp only [Option.bind_some]
   by_cases h1:a < (ws.length:Int)
   ·rw [if_pos (decide_eq_true (by omega)),if_pos ⟨by omega,h1⟩]
    obtain ⟨j,rfl⟩:∃ j:Nat,a=(j:Int):=⟨a.toNat,by omega⟩
    rw [specSights_eq hv (by omega),rdX (by omega)]
    rfl
   ·rw [if_neg (by simp;omega),if_neg (by omega)]
  ·rw [if_neg h0,if_neg (show ¬ (0≤a∧a < (ws.length:Int)) by omega)]
   rfl
theorem implSightsOf_eq {k:Nat} {fs:List Fl} {ws:Ws} (hl:ws.length≤1048576) (hw:∀ x∈ws,∀ c∈x,0≤c∧c≤255) (hf:∀ f∈fs,∀ c∈arrL68 f,0≤c) (a:Int) (hk:100 < k):impl_SightsOf.f k fs ws a=some (resS fs ws a):=by
 unfold impl_SightsOf.f resS
 rw [implOk_eq hw]
 simp only [Option.bind_some]
 cases hok:okC fs ws
 ·rfl
 ·have hv:=validC hok hw hf
  rw [if_pos rfl,if_pos rfl]
  unfold impl_size_Word.f impl_within.f
  simp only [Option.bind_some]
  rw [w64 (by omega) (by omega)]
  by_cases h0:0≤a
  ·rw [if_pos h0]
   simp only [Option.bind_some]
   by_cases h1:a < (ws.length:Int)
   ·rw [if_pos (decide_eq_true (by omega)),if_pos h0,if_pos h1,if_pos ⟨h0,h1⟩]
    obtain ⟨j,rfl⟩:∃ j:Nat,a=(j:Int):=⟨a.toNat,by omega⟩
    rw [rdX (by omega),implSights_eq hv ws (List.getElem_mem _) hk]
    rfl
   ·rw [if_neg (by simp;omega),if_neg (by omega)]
  ·rw [if_neg h0,if_neg (show ¬ (0≤a∧a < (ws.length:Int)) by omega)]
   rfl
end Go.Proofs.Ytgfknljhogfeaaa.G.Pure
end

section
namespace Go.Proofs.Ytgfknljhogfeaaa.G.Pure
open Go.RowKit Go.Proofs.Ytgfknljhogfeaaa.G Go.Proofs.YtgfknljhogfeaaaW.PrintWords Go.Proofs.YtgfknljhogfeaaaW.PrintLast Go.Proofs.YtgfknljhogfeaaaW.PrintMore
set_option linter.unusedVariables false
set_option linter.unusedSimpArgs false
theorem farTo_eq (a b:List Sg):∀ i,impl_sightsApart.to a b i=spec_l05Far.to a b i
 | 0=>rfl
 | i + 1=>by
  show impl_sightsApart.to a b i + _=spec_l05Far.to a b i + _
  rw [farTo_eq a b i]
def dstC (fs:List Fl) (seen:List Sg) (x:List Int):Nat:=spec_l05Far.to (seeC fs x) seen (seeC fs x).length
theorem specFar_eq {fs:List Fl} {seen:List Sg} {x:List Int} (h:x.length=seen.length) (h8:x.length≤8):spec_l05Far.f (seeC fs x) seen=some ((dstC fs seen x:Nat):Int):=by
 have hl:(seeC fs x).length=x.length:=by unfold seeC;rw [List.length_map]
 unfold spec_l05Far.f
 rw [if_pos ⟨by omega,by omega⟩]
 rfl
theorem implFar_eq {fs:List Fl} {seen:List Sg} {x:List Int} (h:x.length=seen.length) (h8:x.length≤8):impl_sightsApart.f (seeC fs x) seen=some ((dstC fs seen x:Nat):Int):=by
 have hl:(seeC fs x).length=x.length:=by unfold seeC;rw [List.length_map]
 unfold impl_sightsApart.f
 rw [if_pos ⟨by omega,by omega⟩,farTo_eq]
 rfl
theorem farTo_le (a b:List Sg):∀ i,spec_l05Far.to a b i≤6 * i
 | 0=>Nat.le_refl _
 | i + 1=>by
  have h1:=farTo_le a b i
  have h2:=difN_le (arrL61 (rd_T61 a (i:Int))) (arrL61 (rd_T61 b (i:Int))) 6
  show spec_l05Far.to a b i + _≤_
  omega
theorem dstC_le {fs:List Fl} {seen:List Sg} {x:List Int} (h8:x.length≤8):dstC fs seen x≤48:=by
 have hl:(seeC fs x).length=x.length:=by unfold seeC;rw [List.length_map]
 have:=farTo_le (seeC fs x) seen (seeC fs x).length
 unfold dstC
 omega
def distN (fs:List Fl) (ws:Ws) (seen:List Sg) (i:Nat):Nat:=dstC fs seen (ws.getD i [])
def candN (D:Nat→Nat) (w:Int) (n:Nat):List Int:=((List.range n).filter (fun i=>decide ((D i:Int)≤w))).map (fun i:Nat=>(i:Int))
theorem candN_succ (D:Nat→Nat) (w:Int) (n:Nat):candN D w (n + 1)=if (D n:Int)≤w then candN D w n ++ [(n:Int)] else candN D w n:=by
 unfold candN
 rw [List.range_succ,List.filter_append,List.map_append]
 by_cases h:(D n:Int)≤w
 ·rw [if_pos h]
  simp [h]
 ·rw [if_neg h]
  simp [h]
theorem candN_len (D:Nat→Nat) (w:Int) (n:Nat):(candN D w n).length≤n:=by
 unfold candN
 rw [List.length_map]
 have:=List.length_filter_le (fun i=>decide ((D i:Int)≤w)) (List.range n)
 rw [List.length_range] at this
 exact this
theorem implCand_eq {k:Nat} {fs:List Fl} {ws:Ws} {seen:List Sg} (hv:ValidC fs ws) (hs:∀ x∈ws,x.length=seen.length) (w:Int) (hk:200 < k):impl_Code_candidates.f k fs ws seen w=some (candN (distN fs ws seen) w ws.length):=by
 have hn:=hv.nw
 unfold impl_Code_candidates.f
 obtain ⟨r,hr,h⟩:=loop_inv2 (fun k (s:List Int × Int)=>impl_Code_candidates.l0 k seen w s.1 ws (ws.length:Int) s.2 fs ws) ws.length 101 (fun i s=>s.2=(i:Int)∧s.1=candN (distN fs ws seen) w i) (fun r=>r=candN (distN fs ws seen) w ws.length)
  (fun k i s hi hk ⟨h1,h2⟩=>by
   obtain ⟨acc,j⟩:=s
   simp only at h1 h2
   subst h1
   have hx:=List.getElem_mem hi
   have hd:dstC fs seen ws[i]=distN fs ws seen i:=by
    unfold distN
    rw [List.getD_eq_getElem?_getD,List.getElem?_eq_getElem hi]
    rfl
   refine .inl ⟨(candN (distN fs ws seen) w (i + 1),((i + 1:Nat):Int)),⟨rfl,rfl⟩,?_⟩
   simp only [impl_Code_candidates.l0]
   rw [if_pos (by omega),if_pos (by omega),if_pos (by omega),rdX hi,implSights_eq hv ws hx (by omega)]
   simp only [Option.bind_some]
   rw [implFar_eq (hs _ hx) (hv.len _ hx).2.1,hd,candN_succ]
   simp only [Option.bind_some]
   have hal:=candN_len (distN fs ws seen) w i
   rw [w64 (by omega) (by omega)]
   by_cases hc:((distN fs ws seen i:Nat):Int)≤w
   ·rw [if_pos hc,if_pos hc,h2,if_pos (by omega)]
    rfl
   ·rw [if_neg hc,if_neg hc,h2]
    rfl)
  (fun k s hk ⟨h1,h2⟩=>by
   obtain ⟨acc,j⟩:=s
   simp only at h1 h2
   subst h1
   refine ⟨acc,h2,?_⟩
   simp only [impl_Code_candidates.l0]
   rw [if_neg (by omega)]) k ([],0) ⟨rfl,rfl⟩ (by omega)
 subst hr
 exact h
theorem specCand_eq {k:Nat} {fs:List Fl} {ws:Ws} {seen:List Sg} (hv:ValidC fs ws) (hs:∀ x∈ws,x.length=seen.length) (w:Int) (hk:200 < k):spec_CandidatesFor.l0 k seen w [] 0 fs ws=some (candN (distN fs ws seen) w ws.length,0):=by
 have hn:=hv.nw
 obtain ⟨r,hr,h⟩:=loop_inv2 (fun k (s:List Int × Int)=>spec_CandidatesFor.l0 k seen w s.1 s.2 fs ws) ws.length 101 (fun i s=>s.2=(i:Int)∧s.1=candN (distN fs ws seen) w i) (fun r=>r=(candN (distN fs ws seen) w ws.length,(0:Int)))
  (fun k i s hi hk ⟨h1,h2⟩=>by
   obtain ⟨acc,j⟩:=s
   simp only at h1 h2
   subst h1
   have hx:=List.getElem_mem hi
   have hd:dstC fs seen ws[i]=distN fs ws seen i:=by
    unfold distN
    rw [List.getD_eq_getElem?_getD,List.getElem?_eq_getElem hi]
    rfl
   refine .inl ⟨(candN (distN fs ws seen) w (i + 1),((i + 1:Nat):Int)),⟨rfl,rfl⟩,?_⟩
   simp only [spec_CandidatesFor.l0]
   rw [if_pos (by omega),specSights_eq hv hi]
   simp only [Option.bind_some]
   rw [specFar_eq (hs _ hx) (hv.len _ hx).2.1,hd,candN_succ]
   simp only [Option.bind_some]
   have hal:=candN_len (distN fs ws seen) w i
   rw [w64 (by omega) (by omega)]
   by_cases hc:((distN fs ws seen i:Nat):Int)≤w
   ·rw [if_pos hc,if_pos hc,h2,if_pos (by omega)]
    rfl
   ·rw [if_neg hc,if_neg hc,h2]
    rfl)
  (fun k s hk ⟨h1,h2⟩=>by
   obtain ⟨acc,j⟩:=s
   simp only at h1 h2
   subst h1
   refine ⟨(acc,0),by rw [h2],?_⟩
   simp only [spec_CandidatesFor.l0]
   rw [if_neg (by omega)]) k ([],0) ⟨rfl,rfl⟩ (by omega)
 subst hr
 exact h
def seenOk (seen:List Sg):Bool:=seen.all spec_l05Seen.ok
theorem areSights_eq (seen:List Sg):impl_areSights.f seen=some (seenOk seen):=by
 have e1:slices_ContainsFunc_Sight_Sight__impl_areSights_1.f seen=some (seen.any fun x=>!spec_l05Seen.ok x):=anyO_eq fun x _=>by
  show some ((arrL61 x).any fun c=>decide (c≥6))=_
  unfold spec_l05Seen.ok
  rw [List.not_all_eq_any_not]
  congr 2
  funext c
  by_cases h:c≤5
  ·rw [decide_eq_true h,decide_eq_false (by omega)];rfl
  ·rw [decide_eq_false h,decide_eq_true (by omega)];rfl
 unfold impl_areSights.f
 rw [e1]
 simp only [Option.bind_some,Option.some.injEq]
 rw [List.not_any_eq_all_not]
 unfold seenOk
 simp
def fitC (ws:Ws) (seen:List Sg):Bool:=decide (ws.length=0) || decide (seen.length=(ws.getD 0 []).length)
theorem fitC_all {fs:List Fl} {ws:Ws} {seen:List Sg} (hv:ValidC fs ws) (h:fitC ws seen=true):∀ x∈ws,x.length=seen.length:=fun x hx=>by
 unfold fitC at h
 simp only [Bool.or_eq_true,decide_eq_true_eq] at h
 rcases h with h|h
 ·have:=List.length_pos_of_mem hx
  omega
 ·rw [(hv.len x hx).2.2,h]
def resC (fs:List Fl) (ws:Ws) (seen:List Sg) (w:Int):List Int × Int:=if okC fs ws=true∧seenOk seen=true then (if (0≤w∧w≤48)∧fitC ws seen=true then (candN (distN fs ws seen) w ws.length,0) else ([],2)) else ([],1)
theorem isSeen_eq (fs:List Fl) (ws:Ws) (seen:List Sg):impl_Code_isSeen.f fs ws seen=some (fitC ws seen):=by
 unfold impl_Code_isSeen.f fitC
 by_cases h:(ws.length:Int)=0
 ·rw [if_pos h,decide_eq_true (show ws.length=0 by omega)]
  rfl
 ·rw [if_neg h,if_pos (by omega),decide_eq_false (show ¬ ws.length=0 by omega),Bool.false_or]
  have h0:rd_L2 ws 0=ws.getD 0 []:=rfl
  rw [h0]
  generalize (ws.getD 0 []).length=m
  congr 1
  by_cases he:seen.length=m
  ·rw [he];simp
  ·rw [decide_eq_false he,beq_eq_false_iff_ne.2 (show ¬ (seen.length:Int)=(m:Int) by omega)]
theorem implCandFor_eq {k:Nat} {fs:List Fl} {ws:Ws} {seen:List Sg} (hw:∀ x∈ws,∀ c∈x,0≤c∧c≤255) (hf:∀ f∈fs,∀ c∈arrL68 f,0≤c) (w:Int) (hk:1000 < k):impl_CandidatesFor.f k fs ws seen w=some (resC fs ws seen w):=by
 obtain ⟨k,rfl⟩:∃ m,k=m + 1:=⟨k - 1,by omega⟩
 unfold impl_CandidatesFor.f resC
 rw [implOk_eq hw]
 simp only [Option.bind_some]
 cases hok:okC fs ws
 ·simp [impl_CandidatesFor.j0]
 ·have hv:=validC hok hw hf
  rw [if_pos rfl,areSights_eq]
  simp only [Option.bind_some]
  cases hso:seenOk seen
  ·simp [impl_CandidatesFor.j0]
  ·simp only [impl_CandidatesFor.j0,Bool.not_true,Bool.false_eq_true,if_false,and_self,if_true]
   unfold impl_within.f
   rw [isSeen_eq]
   by_cases h0:0≤w
   ·rw [if_pos h0]
    simp only [Option.bind_some]
    by_cases h1:w≤48
    ·rw [if_pos (decide_eq_true h1)]
     cases hfit:fitC ws seen
     ·simp
     ·rw [if_pos rfl,implCand_eq hv (fitC_all hv hfit) w (by omega),if_pos ⟨⟨h0,h1⟩,rfl⟩]
      rfl
    ·rw [if_neg (by simp;omega),if_neg (by omega)]
   ·rw [if_neg h0,if_neg (by omega)]
    rfl
theorem specCandFor_eq {k:Nat} {fs:List Fl} {ws:Ws} {seen:List Sg} (hl:ws.length≤1048576) (hi:∀ x∈ws,x.length≤1048576) (hw:∀ x∈ws,∀ c∈x,0≤c∧c≤255) (hf:∀ f∈fs,∀ c∈arrL68 f,0≤c) (w:Int) (hk:2200002 < k):spec_CandidatesFor.f k fs ws seen w=some (resC fs ws seen w):=by
 obtain ⟨k,rfl⟩:∃ m,k=m + 2:=⟨k - 2,by omega⟩
 unfold spec_CandidatesFor.f resC
 rw [specOk_eq hl hi (by omega)]
 simp only [Option.bind_some]
 cases hok:okC fs ws
 ·simp [spec_CandidatesFor.j0]
 ·have hv:=validC hok hw hf
  rw [if_pos rfl]
  unfold spec_l05Seen.f
  rw [show seen.all spec_l05Seen.ok=seenOk seen from rfl]
  simp only [Option.bind_some]
  cases hso:seenOk seen
  ·simp [spec_CandidatesFor.j0]
  ·simp only [spec_CandidatesFor.j0,Bool.not_true,Bool.false_eq_true,if_false,and_self,if_true]
   unfold spec_l00In.f
   have hj:∀ b,spec_CandidatesFor.j1 (k + 1) seen w b fs ws=if b=true then some ([],2) else spec_CandidatesFor.l0 k seen w [] 0 fs ws:=fun b=>by
    simp only [spec_CandidatesFor.j1]
   have h00:rd_L2 ws 0=ws.getD 0 []:=rfl
   by_cases h0:w≥0
   ·rw [if_pos h0]
    simp only [Option.bind_some]
    by_cases h1:w≤48
    ·rw [if_pos (decide_eq_true h1)]
     have hcond:(if (ws.length:Int) > 0 then (if 0 < (ws.length:Int) then spec_CandidatesFor.j1 (k + 1) seen w ((seen.length:Int) != ((rd_L2 ws 0).length:Int)) fs ws else none) else spec_CandidatesFor.j1 (k + 1) seen w false fs ws)=spec_CandidatesFor.j1 (k + 1) seen w (!fitC ws seen) fs ws:=by
      unfold fitC
      rw [h00]
      by_cases hp:(ws.length:Int) > 0
      ·rw [if_pos hp,if_pos hp,decide_eq_false (show ¬ ws.length=0 by omega),Bool.false_or]
       congr 1
       generalize (ws.getD 0 []).length=m
       by_cases he:seen.length=m
       ·rw [he];simp
       ·rw [decide_eq_false he,bne_iff_ne.2 (show ¬ (seen.length:Int)=(m:Int) by omega)];rfl
      ·rw [if_neg hp,decide_eq_true (show ws.length=0 by omega)]
       rfl
     rw [hcond,hj]
     cases hfit:fitC ws seen
     ·simp
     ·rw [if_neg (by decide),specCand_eq hv (fitC_all hv hfit) w (by omega),if_pos ⟨⟨by omega,h1⟩,rfl⟩]
    ·rw [if_neg (by simp;omega),if_neg (by omega),hj]
     rfl
   ·rw [if_neg h0]
    simp only [Option.bind_some]
    rw [if_neg (by decide),hj,if_pos rfl,if_neg (show ¬ ((0≤w∧w≤48)∧fitC ws seen=true) from fun h=>h0 h.1.1)]
end Go.Proofs.Ytgfknljhogfeaaa.G.Pure
end

section
namespace Go.Proofs.Ytgfknljhogfeaaa.G.Pure
open Go.RowKit Go.Proofs.Ytgfknljhogfeaaa.G Go.Proofs.YtgfknljhogfeaaaW.PrintWords Go.Proofs.YtgfknljhogfeaaaW.PrintLast Go.Proofs.YtgfknljhogfeaaaW.PrintMore
set_option linter.unusedVariables false
set_option linter.unusedSimpArgs false
def pairD (fs:List Fl) (x y:List Int):Nat:=spec_l05Far.to (seeC fs x) (seeC fs y) (seeC fs x).length
theorem seeC_length (fs:List Fl) (x:List Int):(seeC fs x).length=x.length:=by unfold seeC;rw [List.length_map]
theorem specPair_eq {fs:List Fl} {x y:List Int} (h:x.length=y.length) (h8:x.length≤8):spec_l05Far.f (seeC fs x) (seeC fs y)=some ((pairD fs x y:Nat):Int):=by
 have h1:=seeC_length fs x
 have h2:=seeC_length fs y
 unfold spec_l05Far.f
 rw [if_pos ⟨by omega,by omega⟩]
 rfl
theorem implPair_eq {fs:List Fl} {x y:List Int} (h:x.length=y.length) (h8:x.length≤8):impl_sightsApart.f (seeC fs x) (seeC fs y)=some ((pairD fs x y:Nat):Int):=by
 have h1:=seeC_length fs x
 have h2:=seeC_length fs y
 unfold impl_sightsApart.f
 rw [if_pos ⟨by omega,by omega⟩,farTo_eq]
 rfl
theorem implPair_at {fs:List Fl} {ws:Ws} (hv:ValidC fs ws) {i j:Nat} (hi:i < ws.length) (hj:j < ws.length):impl_NearestWords_1.f (i:Int) (j:Int) (ws.map (seeC fs))=some ((pairD fs ws[i] ws[j]:Nat):Int):=by
 have hx:=hv.len _ (List.getElem_mem hi)
 have hy:=hv.len _ (List.getElem_mem hj)
 have rdS:∀ m,(hm:m < ws.length)→rd_L10 (ws.map (seeC fs)) (m:Int)=seeC fs ws[m]:=fun m hm=>by
  unfold rd_L10
  rw [Int.toNat_natCast,List.getD_eq_getElem?_getD,List.getElem?_map,List.getElem?_eq_getElem hm]
  rfl
 unfold impl_NearestWords_1.f
 rw [if_pos (by omega),if_pos (by rw [List.length_map];omega),if_pos (by omega),if_pos (by rw [List.length_map];omega),rdS i hi,rdS j hj,implPair_eq (by omega) (by omega)]
 rfl
def GoodN (x:Option (Int × Int × Int × Bool)) (y:Option (Int × Int × Int × Int)) (pos:Prop):Prop:=∃ q1 q2 q3:Int,x=some (q1,q2,q3,decide (q3≥0))∧y=some (q1,q2,q3,0)∧(pos→0≤q3)
theorem nearIn {fs:List Fl} {ws:Ws} (hv:ValidC fs ws) {i:Nat} (hi:i < ws.length) {K:Nat}
  (next:∀ k a b c,K < k→GoodN (impl_nearest__impl_NearestWords_1.l0 k (ws.length:Int) a b c (ws.length:Int) ((i + 1:Nat):Int) (ws.map (seeC fs))) (spec_NearestWords.l0 k (ws.length:Int) a b c ((i + 1:Nat):Int) fs ws) (0≤c∨i + 3≤ws.length)) :
  ∀ e j,j + e=ws.length→∀ k a b c,K + e < k - 1→GoodN (impl_nearest__impl_NearestWords_1.l1 k (ws.length:Int) a b c (i:Int) (j:Int) (ws.length:Int) (i:Int) (ws.map (seeC fs))) (spec_NearestWords.l1 k (ws.length:Int) a b c (i:Int) (seeC fs ws[i]) (j:Int) fs ws) (0≤c∨j < ws.length∨i + 3≤ws.length):=by
 have hn:=hv.nw
 have hwi:wrap64 ((i:Int) + 1)=((i + 1:Nat):Int):=by rw [w64 (by omega) (by omega)];rfl
 intro e
 induction e with
 | zero =>
  intro j hj k a b c hk
  obtain ⟨k,rfl⟩:∃ m,k=m + 1:=⟨k - 1,by omega⟩
  obtain ⟨q1,q2,q3,h1,h2,h3⟩:=next k a b c (by omega)
  refine ⟨q1,q2,q3,?_,?_,fun hp=>h3 (by omega)⟩
  ·simp only [impl_nearest__impl_NearestWords_1.l1]
   rw [if_neg (by omega),hwi,h1]
  ·simp only [spec_NearestWords.l1]
   rw [if_neg (by omega),hwi,h2]
 | succ e ih =>
  intro j hj k a b c hk
  obtain ⟨k,rfl⟩:∃ m,k=m + 1:=⟨k - 1,by omega⟩
  have hj':j < ws.length:=by omega
  have hwj:wrap64 ((j:Int) + 1)=((j + 1:Nat):Int):=by rw [w64 (by omega) (by omega)];rfl
  have hx:=hv.len _ (List.getElem_mem hi)
  have hy:=hv.len _ (List.getElem_mem hj')
  have ei:impl_nearest__impl_NearestWords_1.l1 (k + 1) (ws.length:Int) a b c (i:Int) (j:Int) (ws.length:Int) (i:Int) (ws.map (seeC fs))=if c < 0∨((pairD fs ws[i] ws[j]:Nat):Int) < c then impl_nearest__impl_NearestWords_1.l1 k (ws.length:Int) (i:Int) (j:Int) ((pairD fs ws[i] ws[j]:Nat):Int) (i:Int) ((j + 1:Nat):Int) (ws.length:Int) (i:Int) (ws.map (seeC fs)) else impl_nearest__impl_NearestWords_1.l1 k (ws.length:Int) a b c (i:Int) ((j + 1:Nat):Int) (ws.length:Int) (i:Int) (ws.map (seeC fs)):=by
   simp only [impl_nearest__impl_NearestWords_1.l1]
   rw [if_pos (by omega),implPair_at hv hi hj',hwj]
   simp only [Option.bind_some]
   by_cases h1:c < 0
   ·rw [if_pos h1,if_pos (.inl h1)]
   ·rw [if_neg h1]
    by_cases h2:((pairD fs ws[i] ws[j]:Nat):Int) < c
    ·rw [if_pos h2,if_pos (.inr h2)]
    ·rw [if_neg h2,if_neg (fun h=>h.elim h1 h2)]
  have es:spec_NearestWords.l1 (k + 1) (ws.length:Int) a b c (i:Int) (seeC fs ws[i]) (j:Int) fs ws=if c < 0∨((pairD fs ws[i] ws[j]:Nat):Int) < c then spec_NearestWords.l1 k (ws.length:Int) (i:Int) (j:Int) ((pairD fs ws[i] ws[j]:Nat):Int) (i:Int) (seeC fs ws[i]) ((j + 1:Nat):Int) fs ws else spec_NearestWords.l1 k (ws.length:Int) a b c (i:Int) (seeC fs ws[i]) ((j + 1:Nat):Int) fs ws:=by
   simp only [spec_NearestWords.l1]
   rw [if_pos (by omega),specSights_eq hv hj']
   simp only [Option.bind_some]
   rw [specPair_eq (by omega) (by omega),hwj]
   simp only [Option.bind_some]
   by_cases h1:c < 0
   ·rw [if_pos h1,if_pos (.inl h1)]
   ·rw [if_neg h1]
    by_cases h2:((pairD fs ws[i] ws[j]:Nat):Int) < c
    ·rw [if_pos h2,if_pos (.inr h2)]
    ·rw [if_neg h2,if_neg (fun h=>h.elim h1 h2)]
  rw [ei,es]
  by_cases hc:c < 0∨((pairD fs ws[i] ws[j]:Nat):Int) < c
  ·rw [if_pos hc,if_pos hc]
   obtain ⟨q1,q2,q3,h1,h2,h3⟩:=ih (j + 1) (by omega) k (i:Int) (j:Int) ((pairD fs ws[i] ws[j]:Nat):Int) (by omega)
   exact ⟨q1,q2,q3,h1,h2,fun _=>h3 (.inl (by omega))⟩
  ·rw [if_neg hc,if_neg hc]
   obtain ⟨q1,q2,q3,h1,h2,h3⟩:=ih (j + 1) (by omega) k a b c (by omega)
   exact ⟨q1,q2,q3,h1,h2,fun _=>h3 (.inl (by omega))⟩
theorem nearOut {fs:List Fl} {ws:Ws} (hv:ValidC fs ws):∀ d i,i + d=ws.length→∀ k a b c,d * 100 + 10 < k→GoodN (impl_nearest__impl_NearestWords_1.l0 k (ws.length:Int) a b c (ws.length:Int) (i:Int) (ws.map (seeC fs))) (spec_NearestWords.l0 k (ws.length:Int) a b c (i:Int) fs ws) (0≤c∨i + 2≤ws.length):=by
 have hn:=hv.nw
 intro d
 induction d with
 | zero =>
  intro i hi k a b c hk
  obtain ⟨k,rfl⟩:∃ m,k=m + 1:=⟨k - 1,by omega⟩
  refine ⟨a,b,c,?_,?_,fun hp=>by omega⟩
  ·simp only [impl_nearest__impl_NearestWords_1.l0]
   rw [if_neg (by omega)]
  ·simp only [spec_NearestWords.l0]
   rw [if_neg (by omega)]
 | succ d ih =>
  intro i hi k a b c hk
  obtain ⟨k,rfl⟩:∃ m,k=m + 1:=⟨k - 1,by omega⟩
  have hi':i < ws.length:=by omega
  have hwi:wrap64 ((i:Int) + 1)=((i + 1:Nat):Int):=by rw [w64 (by omega) (by omega)];rfl
  obtain ⟨q1,q2,q3,h1,h2,h3⟩:=nearIn hv hi' (K:=d * 100 + 10) (fun k a b c hk=>by
   obtain ⟨q1,q2,q3,g1,g2,g3⟩:=ih (i + 1) (by omega) k a b c hk
   exact ⟨q1,q2,q3,g1,g2,fun hp=>g3 (by omega)⟩) (ws.length - (i + 1)) (i + 1) (by omega) k a b c (by omega)
  refine ⟨q1,q2,q3,?_,?_,fun hp=>h3 (by omega)⟩
  ·simp only [impl_nearest__impl_NearestWords_1.l0]
   rw [if_pos (by omega),hwi,h1]
  ·simp only [spec_NearestWords.l0]
   rw [if_pos (by omega),specSights_eq hv hi',hwi]
   simp only [Option.bind_some]
   rw [h2]
theorem near_both {k:Nat} {fs:List Fl} {ws:Ws} (hl:ws.length≤1048576) (hi:∀ x∈ws,x.length≤1048576) (hw:∀ x∈ws,∀ c∈x,0≤c∧c≤255) (hf:∀ f∈fs,∀ c∈arrL68 f,0≤c) (hk:2200002 < k):∃ r,spec_NearestWords.f k fs ws=some r∧impl_NearestWords.f k fs ws=some r:=by
 unfold spec_NearestWords.f impl_NearestWords.f
 rw [specOk_eq hl hi (by omega),implOk_eq hw]
 simp only [Option.bind_some]
 cases hok:okC fs ws
 ·exact ⟨(0,0,0,1),rfl,rfl⟩
 ·have hv:=validC hok hw hf
  have hn:=hv.nw
  have hsee:∀ x∈ws,impl_Code_sights.f k fs ws x=some (seeC fs x):=fun x hx=>implSights_eq hv ws hx (by omega)
  have hall:ws.all (fun x=>(impl_Code_sights.f k fs ws x).isSome)=true:=by
   rw [List.all_eq_true]
   intro x hx
   rw [hsee x hx]
   rfl
  have hmap:ws.map (impl_NearestWords.see k fs ws)=ws.map (seeC fs):=List.map_congr_left fun x hx=>by
   unfold impl_NearestWords.see
   rw [hsee x hx]
   rfl
  have hcnd:ws.length≤1000000∧ws.all (fun x=>(impl_Code_sights.f k fs ws x).isSome)=true:=⟨by omega,hall⟩
  rw [if_pos rfl,if_pos rfl,hmap,if_pos hcnd]
  unfold impl_nearest__impl_NearestWords_1.f
  obtain ⟨q1,q2,q3,h1,h2,h3⟩:=nearOut hv ws.length 0 (by omega) k 0 0 (-1) (by omega)
  have h1:impl_nearest__impl_NearestWords_1.l0 k (ws.length:Int) 0 0 (-1) (ws.length:Int) 0 (ws.map (seeC fs))=some (q1,q2,q3,decide (q3≥0)):=h1
  have h2:spec_NearestWords.l0 k (ws.length:Int) 0 0 (-1) 0 fs ws=some (q1,q2,q3,0):=h2
  by_cases hn2:(ws.length:Int) < 2
  ·rw [if_pos hn2]
   refine ⟨(0,0,0,6),rfl,?_⟩
   have hs:impl_nearest__impl_NearestWords_1.l0 k (ws.length:Int) 0 0 (-1) (ws.length:Int) 0 (ws.map (seeC fs))=some (0,0,-1,false):=by
    obtain ⟨k,rfl⟩:∃ m,k=m + 3:=⟨k - 3,by omega⟩
    by_cases h0:(ws.length:Int)=0
    ·rw [h0]
     simp only [impl_nearest__impl_NearestWords_1.l0]
     rw [if_neg (by decide)]
     rfl
    ·have h1:(ws.length:Int)=1:=by omega
     rw [h1]
     simp only [impl_nearest__impl_NearestWords_1.l0,impl_nearest__impl_NearestWords_1.l1]
     rw [if_pos (by decide),w64 (n:=0 + 1) (by decide) (by decide),if_neg (by decide),if_neg (by decide)]
     rfl
   rw [hs]
   rfl
  ·rw [if_neg hn2,h1,h2]
   refine ⟨_,rfl,?_⟩
   simp only [Option.bind_some]
   rw [decide_eq_true (h3 (by omega)),if_pos rfl]
end Go.Proofs.Ytgfknljhogfeaaa.G.Pure
end

section
namespace Go.Proofs.Ytgfknljhogfeaaa.G.Pure
open Go.RowKit Go.Proofs.Ytgfknljhogfeaaa.G Go.Proofs.YtgfknljhogfeaaaW.PrintWords Go.Proofs.YtgfknljhogfeaaaW.PrintLast Go.Proofs.YtgfknljhogfeaaaW.PrintMore
set_option linter.unusedVariables false
set_option linter.unusedSimpArgs false
def cntN (D:Nat→Nat) (m n:Nat):Nat:=((List.range n).filter (fun i=>decide (D i=m))).length
theorem cntN_succ (D:Nat→Nat) (m n:Nat):cntN D m (n + 1)=cntN D m n + if D n=m then 1 else 0:=by
 unfold cntN
 rw [List.range_succ,List.filter_append,List.length_append]
 by_cases h:D n=m
 ·simp [h]
 ·simp [h]
theorem cntN_none {D:Nat→Nat} {m n:Nat} (h:∀ j,j < n→D j≠m):cntN D m n=0:=by
 unfold cntN
 rw [List.length_eq_zero_iff,List.filter_eq_nil_iff]
 intro j hj
 have:=h j (List.mem_range.1 hj)
 simpa using this
theorem cntN_le (D:Nat→Nat) (m n:Nat):cntN D m n≤n:=by
 have:=List.length_filter_le (fun i=>decide (D i=m)) (List.range n)
 rw [List.length_range] at this
 exact this
theorem candN_none {D:Nat→Nat} {w:Int} {n:Nat} (h:∀ j,j < n→w < (D j:Int)):candN D w n=[]:=by
 unfold candN
 rw [List.map_eq_nil_iff,List.filter_eq_nil_iff]
 intro j hj
 have:=h j (List.mem_range.1 hj)
 simp
 omega
theorem candN_min {D:Nat→Nat} {m n:Nat} (h:∀ j,j < n→m≤D j):(candN D (m:Int) n).length=cntN D m n:=by
 unfold candN cntN
 rw [List.length_map]
 congr 1
 refine List.filter_congr fun j hj=>decide_eq_decide.2 ?_
 have:=h j (List.mem_range.1 hj)
 omega
theorem candN_mem {D:Nat→Nat} {m n b:Nat} (hb:b < n) (hm:D b=m):(b:Int)∈candN D (m:Int) n:=by
 unfold candN
 refine List.mem_map.2 ⟨b,List.mem_filter.2 ⟨List.mem_range.2 hb,?_⟩,rfl⟩
 simp [hm]
theorem specRead_l0 {k:Nat} {fs:List Fl} {ws:Ws} {seen:List Sg} (hv:ValidC fs ws) (hs:∀ x∈ws,x.length=seen.length) (hp:0 < ws.length) (hk:100 < k):∃ r,(∃ b m:Nat,b < ws.length∧distN fs ws seen b=m∧(∀ j,j < ws.length→m≤distN fs ws seen j)∧r=if cntN (distN fs ws seen) m ws.length > 1 then ((0:Int),(0:Int),(8:Int)) else ((b:Int),(m:Int),0))∧spec_ReadSights.l0 (2 * k) seen 0 (-1) 0 0 fs ws=some r:=by
 have hn:=hv.nw
 exact loop_inv (fun k (s:Int × Int × Int × Int)=>spec_ReadSights.l0 (2 * k) seen s.1 s.2.1 s.2.2.1 s.2.2.2 fs ws) ws.length
  (fun i s=>s.2.2.2=(i:Int)∧((i=0∧s.2.1=-1∧s.2.2.1=0)∨∃ b m:Nat,b < i∧distN fs ws seen b=m∧(∀ j,j < i→m≤distN fs ws seen j)∧s.1=(b:Int)∧s.2.1=(m:Int)∧s.2.2.1=(cntN (distN fs ws seen) m i:Int)))
  (fun r=>∃ b m:Nat,b < ws.length∧distN fs ws seen b=m∧(∀ j,j < ws.length→m≤distN fs ws seen j)∧r=if cntN (distN fs ws seen) m ws.length > 1 then ((0:Int),(0:Int),(8:Int)) else ((b:Int),(m:Int),0))
  (fun k i s hi ⟨h1,h2⟩=>by
   obtain ⟨x7,x8,x9,x10⟩:=s
   simp only at h1 h2
   subst h1
   have hx:=List.getElem_mem hi
   have hd:dstC fs seen ws[i]=distN fs ws seen i:=by
    unfold distN
    rw [List.getD_eq_getElem?_getD,List.getElem?_eq_getElem hi]
    rfl
   have e:spec_ReadSights.l0 (2 * (k + 1)) seen x7 x8 x9 (i:Int) fs ws=if x8 < 0 then spec_ReadSights.j2 (2 * k + 1) seen x7 x8 x9 (i:Int) (distN fs ws seen i:Int) true fs ws else spec_ReadSights.j2 (2 * k + 1) seen x7 x8 x9 (i:Int) (distN fs ws seen i:Int) (decide ((distN fs ws seen i:Int) < x8)) fs ws:=by
    show spec_ReadSights.l0 (2 * k + 1 + 1) seen x7 x8 x9 (i:Int) fs ws=_
    simp only [spec_ReadSights.l0]
    rw [if_pos (by omega),specSights_eq hv hi]
    simp only [Option.bind_some]
    rw [specFar_eq (hs _ hx) (hv.len _ hx).2.1,hd]
    rfl
   have hw:wrap64 ((i:Int) + 1)=((i + 1:Nat):Int):=by rw [w64 (by omega) (by omega)];rfl
   simp only
   rw [e]
   generalize hD:distN fs ws seen=D at *
   -- a new best
   have new:(∀ j,j < i→D i < D j)→∃ s':Int × Int × Int × Int,(s'.2.2.2=((i + 1:Nat):Int)∧((i + 1=0∧s'.2.1=-1∧s'.2.2.1=0)∨∃ b m:Nat,b < i + 1∧D b=m∧(∀ j,j < i + 1→m≤D j)∧s'.1=(b:Int)∧s'.2.1=(m:Int)∧s'.2.2.1=(cntN D m (i + 1):Int)))∧spec_ReadSights.j2 (2 * k + 1) seen x7 x8 x9 (i:Int) (D i:Int) true fs ws=spec_ReadSights.l0 (2 * k) seen s'.1 s'.2.1 s'.2.2.1 s'.2.2.2 fs ws:=fun hlt=>by
    refine ⟨((i:Int),(D i:Int),1,((i + 1:Nat):Int)),⟨rfl,.inr ⟨i,D i,by omega,rfl,fun j hj=>?_,rfl,rfl,?_⟩⟩,?_⟩
    ·rcases Nat.lt_succ_iff_lt_or_eq.1 hj with e|e
     ·exact Nat.le_of_lt (hlt j e)
     ·subst e
      exact Nat.le_refl _
    ·simp only
     rw [cntN_succ,if_pos rfl,cntN_none (fun j hj=>by have:=hlt j hj;omega)]
     rfl
    ·simp only [spec_ReadSights.j2,if_true]
     rw [hw]
   rcases h2 with ⟨rfl,rfl,rfl⟩|⟨b,m,hb,hbm,hmin,rfl,rfl,rfl⟩
   ·rw [if_pos (by decide)]
    exact .inl (new fun j hj=>absurd hj (Nat.not_lt_zero _))
   ·rw [if_neg (by omega)]
    by_cases hlt:(D i:Int) < (m:Int)
    ·rw [decide_eq_true hlt]
     exact .inl (new fun j hj=>by have:=hmin j hj;omega)
    ·rw [decide_eq_false hlt]
     have hcl:=cntN_le D m i
     have hmin':∀ j,j < i + 1→m≤D j:=fun j hj=>by
      rcases Nat.lt_succ_iff_lt_or_eq.1 hj with e|e
      ·exact hmin j e
      ·subst e
       omega
     refine .inl ⟨((b:Int),(m:Int),(cntN D m (i + 1):Int),((i + 1:Nat):Int)),⟨rfl,.inr ⟨b,m,by omega,hbm,hmin',rfl,rfl,rfl⟩⟩,?_⟩
     simp only [spec_ReadSights.j2,Bool.false_eq_true,if_false]
     rw [hw,cntN_succ]
     by_cases he:D i=m
     ·rw [if_pos (by omega),if_pos he,w64 (by omega) (by omega)]
      rfl
     ·rw [if_neg (by omega),if_neg he]
      rfl)
  (fun k s ⟨h1,h2⟩=>by
   obtain ⟨x7,x8,x9,x10⟩:=s
   simp only at h1 h2
   subst h1
   rcases h2 with ⟨h,_⟩|⟨b,m,hb,hbm,hmin,rfl,rfl,rfl⟩
   ·omega
   ·refine ⟨_,⟨b,m,hb,hbm,hmin,rfl⟩,?_⟩
    show spec_ReadSights.l0 (2 * k + 1 + 1) seen _ _ _ _ fs ws=_
    simp only [spec_ReadSights.l0]
    rw [if_neg (by omega)]
    by_cases hc:cntN (distN fs ws seen) m ws.length > 1
    ·rw [if_pos (by omega),if_pos hc]
    ·rw [if_neg (by omega),if_neg hc]) k (0,-1,0,0) ⟨rfl,.inl ⟨rfl,rfl,rfl⟩⟩ (by omega)
theorem implRead_l0 {k:Nat} {fs:List Fl} {ws:Ws} {seen:List Sg} (hv:ValidC fs ws) (hs:∀ x∈ws,x.length=seen.length) {b m:Nat} (hb:b < ws.length) (hbm:distN fs ws seen b=m) (hmin:∀ j,j < ws.length→m≤distN fs ws seen j) (hk:1000 < k):impl_ReadSights.l0 k seen 0 fs ws=some (if cntN (distN fs ws seen) m ws.length > 1 then ((0:Int),(0:Int),(8:Int)) else ((b:Int),(m:Int),0)):=by
 have hm48:m≤48:=by
  rw [← hbm]
  unfold distN
  rw [List.getD_eq_getElem?_getD,List.getElem?_eq_getElem hb]
  exact dstC_le (hv.len _ (List.getElem_mem hb)).2.1
 obtain ⟨r,hr,h⟩:=loop_inv2 (fun k (s:Int)=>impl_ReadSights.l0 k seen s fs ws) m 201 (fun i s=>s=(i:Int)) (fun r=>r=if cntN (distN fs ws seen) m ws.length > 1 then ((0:Int),(0:Int),(8:Int)) else ((b:Int),(m:Int),0))
  (fun k i s hi hk h1=>by
   subst h1
   refine .inl ⟨((i + 1:Nat):Int),rfl,?_⟩
   simp only [impl_ReadSights.l0]
   rw [implCand_eq hv hs _ (by omega),candN_none (fun j hj=>by have:=hmin j hj;omega)]
   simp only [Option.bind_some,List.length_nil]
   rw [if_pos (by rfl),w64 (by omega) (by omega)]
   rfl)
  (fun k s hk h1=>by
   subst h1
   refine ⟨_,rfl,?_⟩
   simp only [impl_ReadSights.l0]
   rw [implCand_eq hv hs _ (by omega)]
   simp only [Option.bind_some]
   have hl:=candN_min hmin
   have hmem:=candN_mem hb hbm
   generalize candN (distN fs ws seen) (m:Int) ws.length=L at *
   rw [← hl]
   have hp:=List.length_pos_of_mem hmem
   rw [if_neg (by omega)]
   by_cases h1:L.length=1
   ·rw [if_pos (by omega),if_pos (by omega),if_neg (by omega)]
    obtain ⟨a,rfl⟩:=List.length_eq_one_iff.1 h1
    rw [List.mem_singleton] at hmem
    rw [hmem]
    rfl
   ·rw [if_neg (by omega),if_pos (by omega)]) k 0 rfl (by omega)
 subst hr
 exact h
end Go.Proofs.Ytgfknljhogfeaaa.G.Pure
end

section
namespace Go.Proofs.Ytgfknljhogfeaaa.G.Pure
open Go.RowKit Go.Proofs.Ytgfknljhogfeaaa.G Go.Proofs.YtgfknljhogfeaaaW.PrintWords Go.Proofs.YtgfknljhogfeaaaW.PrintLast Go.Proofs.YtgfknljhogfeaaaW.PrintMore
set_option linter.unusedVariables false
set_option linter.unusedSimpArgs false
theorem u64_range (y:Int):0≤IntKind.u64.wrap y∧IntKind.u64.wrap y≤18446744073709551615:=by
 rw [IntKind.wrap_u64]
 omega
theorem low_byte {x:Int} (h:0≤x∧x≤18446744073709551615):0≤wrap64 (Go.bits .and .u64 (x / 1099511627776) 255)∧wrap64 (Go.bits .and .u64 (x / 1099511627776) 255)≤255:=by
 have hx:0≤x / 1099511627776∧x / 1099511627776≤18446744073709551615:=by omega
 generalize x / 1099511627776=y at *
 obtain ⟨n,rfl⟩:∃ n:Nat,y=(n:Int):=⟨y.toNat,by omega⟩
 have e:Go.bits .and .u64 (n:Int) ((255:Nat):Int)=((n &&& 255:Nat):Int):=bits_and_u64_nat n 255 (by omega) (by omega)
 have e2:Go.bits .and .u64 (n:Int) 255=((n &&& 255:Nat):Int):=e
 have hb:n &&& 255≤255:=Nat.and_le_right
 rw [e2,w64 (by omega) (by omega)]
 omega
def Bytes (code:List Int):Prop:=∀ x∈code,0≤x∧x≤255
theorem bytes_at {code:List Int} (hc:Bytes code) {i:Int} (h0:0≤i) (h1:i < (code.length:Int)):0≤rd code i∧rd code i≤255:=by
 obtain ⟨j,rfl⟩:∃ j:Nat,i=(j:Int):=⟨i.toNat,by omega⟩
 have hj:j < code.length:=by omega
 have:rd code (j:Int)=code[j]:=by simp [rd,List.getD_eq_getElem?_getD,List.getElem?_eq_getElem hj]
 rw [this]
 exact hc _ (List.getElem_mem hj)
theorem next_ok {code:List Int} (hc:Bytes code) {at_ seed:Int} (ha:0≤at_∧at_≤1000000):∃ n s,spec_l00Src_next.f code at_ seed=some (n,at_ + 1,s)∧0≤n∧n≤255:=by
 unfold spec_l00Src_next.f
 rw [w64 (n:=at_ + 1) (by omega) (by omega)]
 by_cases h1:at_ < (code.length:Int)
 ·have hb:=bytes_at hc ha.1 h1
  rw [if_pos h1,if_pos ha.1,if_pos (by omega)]
  exact ⟨_,_,rfl,by rw [w64 (by omega) (by omega)];exact hb⟩
 ·rw [if_neg h1,if_neg (by omega)]
  exact ⟨_,_,rfl,low_byte (u64_range _)⟩
theorem pick_ok {code:List Int} (hc:Bytes code) {at_ seed a:Int} (ha:0≤at_∧at_≤1000000) (h1:1 < a) (h2:a≤200):∃ n s,spec_l00Src_pick.f code at_ seed a=some (n,at_ + 1,s)∧0≤n∧n < a:=by
 obtain ⟨n,s,e,hn⟩:=next_ok hc (seed:=seed) ha
 unfold spec_l00Src_pick.f
 rw [if_neg (by omega),e]
 simp only [Option.bind_some]
 rw [if_neg (by omega),if_neg (by omega)]
 refine ⟨_,_,rfl,?_⟩
 rw [Int.tmod_eq_emod_of_nonneg hn.1]
 exact ⟨Int.emod_nonneg _ (by omega),Int.emod_lt_of_pos _ (by omega)⟩
end Go.Proofs.Ytgfknljhogfeaaa.G.Pure
end

section
namespace Go.Proofs.Ytgfknljhogfeaaa.G.Pure
open Go.RowKit Go.Proofs.Ytgfknljhogfeaaa.G Go.Proofs.YtgfknljhogfeaaaW.PrintWords Go.Proofs.YtgfknljhogfeaaaW.PrintLast Go.Proofs.YtgfknljhogfeaaaW.PrintMore
set_option linter.unusedVariables false
set_option linter.unusedSimpArgs false
theorem sameNL_in {l:List Int} (hl:l.length≤1000):∀ (d i k:Nat),i + d=l.length→d < k→spec_l00Same.l0 k l l (i:Int)=some true:=by
 intro d
 induction d with
 | zero =>
  intro i k hi hk
  obtain ⟨k,rfl⟩:∃ m,k=m + 1:=⟨k - 1,by omega⟩
  rw [spec_l00Same.l0,if_neg (by omega)]
 | succ d ih =>
  intro i k hi hk
  obtain ⟨k,rfl⟩:∃ m,k=m + 1:=⟨k - 1,by omega⟩
  have e:=ih (i + 1) k (by omega) (by omega)
  rw [show ((i + 1:Nat):Int)=(i:Int) + 1 by omega] at e
  rw [spec_l00Same.l0]
  simp only [if_pos (show (i:Int) < (l.length:Int) by omega),if_pos (show (0:Int)≤(i:Int) by omega),if_true,w64 (n:=(i:Int) + 1) (by omega) (by omega)]
  exact e
end Go.Proofs.Ytgfknljhogfeaaa.G.Pure
end

section
namespace Go.Proofs.Ytgfknljhogfeaaa.G.Pure
open Go.RowKit Go.Proofs.Ytgfknljhogfeaaa.G Go.Proofs.YtgfknljhogfeaaaW.PrintWords Go.Proofs.YtgfknljhogfeaaaW.PrintLast Go.Proofs.YtgfknljhogfeaaaW.PrintMore
set_option linter.unusedVariables false
set_option linter.unusedSimpArgs false
def GoodL (l:List Int):Prop:=l.length=24∧∀ c∈l,0≤c∧c < 6
theorem one_okS {code:List Int} (hc:Bytes code) {at_ seed a:Int} (ha:0≤at_∧at_≤1000000) (h1:1 < a) (h2:a≤200):∃ u s,spec_l00Src_one.f code at_ seed a=some (u,at_ + 1,s):=by
 obtain ⟨n,s,e,_⟩:=pick_ok hc (seed:=seed) ha h1 h2
 unfold spec_l00Src_one.f
 rw [e]
 exact ⟨_,_,rfl⟩
theorem goodL_set {l:List Int} (h:GoodL l) (i:Nat) {c:Int} (h0:0≤c) (h1:c < 6):GoodL (l.set i (c % 256)):=by
 refine ⟨by rw [List.length_set];exact h.1,fun d hd=>?_⟩
 rcases List.mem_or_eq_of_mem_set hd with hd|rfl
 ·exact h.2 d hd
 ·omega
theorem goodL_map {f:Nat→Int} (h:∀ i,i < 24→0≤f i∧f i < 6):GoodL ((List.range 24).map f):=by
 refine ⟨by rw [List.length_map,List.length_range],fun d hd=>?_⟩
 obtain ⟨i,hi,rfl⟩:=List.mem_map.1 hd
 exact h i (List.mem_range.1 hi)
theorem drawnFlag_l0 {code:List Int} (hc:Bytes code):∀ (n:Nat) (k:Nat) (l:List Int) (at_ seed:Int),GoodL l→n < k→0≤at_→at_ + 2 * (n:Int)≤1000000→∃ l' a s,spec_l01Drawn.l0 k l (n:Int) code at_ seed=some (l',a,s)∧GoodL l'∧at_≤a∧a≤at_ + 2 * (n:Int)
 | 0,k,l,at_,seed,hl,hk,h0,h1=>by
  obtain ⟨k,rfl⟩:∃ k',k=k' + 1:=⟨k - 1,by omega⟩
  simp only [spec_l01Drawn.l0]
  rw [if_neg (by omega)]
  exact ⟨_,_,_,rfl,hl,by omega,by omega⟩
 | n + 1,k,l,at_,seed,hl,hk,h0,h1=>by
  obtain ⟨k,rfl⟩:∃ k',k=k' + 1:=⟨k - 1,by omega⟩
  obtain ⟨i,s1,e1,hi⟩:=pick_ok hc (seed:=seed) (at_:=at_) (a:=24) ⟨by omega,by omega⟩ (by omega) (by omega)
  obtain ⟨c,s2,e2,hcc⟩:=pick_ok hc (seed:=s1) (at_:=at_ + 1) (a:=6) ⟨by omega,by omega⟩ (by omega) (by omega)
  simp only [spec_l01Drawn.l0]
  rw [if_pos (by omega),e1]
  simp only [Option.bind_some]
  rw [e2]
  simp only [Option.bind_some]
  rw [if_pos (by omega),show wrap64 (((n + 1:Nat):Int) - 1)=(n:Int) by rw [w64 (by omega) (by omega)];omega]
  obtain ⟨l',a,s,e,hg,ha1,ha2⟩:=drawnFlag_l0 hc n k (l.set i.toNat (c % 256)) (at_ + 1 + 1) s2 (goodL_set hl _ hcc.1 hcc.2) (by omega) (by omega) (by omega)
  exact ⟨l',a,s,e,hg,by omega,by omega⟩
theorem drawn_base {code:List Int} (hc:Bytes code) {a b:Int} (ha:0≤a∧a≤5) (hb:0≤b∧b≤5) (kd:Nat) (p:Int) {at_ seed:Int} (h0:0≤at_∧at_≤900000):∃ l t s,spec_l01Drawn.base code a b kd p at_ seed=some (l,t,s)∧GoodL l∧at_≤t∧t≤at_ + 2:=by
 unfold spec_l01Drawn.base
 split
 ·exact ⟨_,_,_,rfl,goodL_map fun i _=>by omega,by omega,by omega⟩
 ·split
  ·obtain ⟨c,s1,e1,h1⟩:=pick_ok hc (seed:=seed) (at_:=at_) (a:=6) ⟨by omega,by omega⟩ (by omega) (by omega)
   obtain ⟨u,s2,e2⟩:=one_okS hc (seed:=s1) (at_:=at_ + 1) (a:=2) ⟨by omega,by omega⟩ (by omega) (by omega)
   rw [e1]
   simp only [Option.bind_some]
   rw [e2]
   simp only [Option.bind_some]
   rw [if_pos (by omega)]
   refine ⟨_,_,_,rfl,goodL_map fun i _=>?_,by omega,by omega⟩
   unfold stripeB
   have hall:∀ x∈[a,b,c],0≤x∧x < 6:=by
    intro x hx
    simp only [List.mem_cons,List.not_mem_nil,or_false] at hx
    rcases hx with rfl|rfl|rfl <;> omega
   rw [List.getD_eq_getElem?_getD]
   cases hq:[a,b,c][(if u=true then i % 6 else i / 6) * 3 / (if u=true then 6 else 4)]? with
   | none=>simp
   | some z=>exact hall z (List.mem_of_getElem? hq)
  ·refine ⟨_,_,_,rfl,goodL_map fun i _=>?_,by omega,by omega⟩
   unfold madeB
   split <;> omega
theorem drawnFlag {code:List Int} (hc:Bytes code) {k:Nat} (hk:100 < k) {at_ seed:Int} (h0:0≤at_∧at_≤800000):∃ l t s,spec_l01Drawn.f k code at_ seed=some (spec_l01Drawn.tup l t s)∧GoodL l∧at_≤t∧t≤at_ + 20:=by
 unfold spec_l01Drawn.f
 obtain ⟨a,s1,e1,h1⟩:=pick_ok hc (seed:=seed) (at_:=at_) (a:=6) ⟨by omega,by omega⟩ (by omega) (by omega)
 obtain ⟨b,s2,e2,h2⟩:=pick_ok hc (seed:=s1) (at_:=at_ + 1) (a:=6) ⟨by omega,by omega⟩ (by omega) (by omega)
 obtain ⟨q,s3,e3,h3⟩:=pick_ok hc (seed:=s2) (at_:=at_ + 1 + 1) (a:=4) ⟨by omega,by omega⟩ (by omega) (by omega)
 obtain ⟨p,s4,e4,h4⟩:=pick_ok hc (seed:=s3) (at_:=at_ + 1 + 1 + 1) (a:=5) ⟨by omega,by omega⟩ (by omega) (by omega)
 rw [e1]
 simp only [Option.bind_some]
 rw [e2]
 simp only [Option.bind_some]
 rw [e3]
 simp only [Option.bind_some]
 rw [e4]
 simp only [Option.bind_some]
 rw [if_pos (by omega)]
 obtain ⟨l,t,s5,e5,hl,ht1,ht2⟩:=drawn_base hc (a:=a) (b:=b) (by omega) (by omega) q.toNat p (at_:=at_ + 1 + 1 + 1 + 1) (seed:=s4) (by omega)
 rw [e5]
 simp only [Option.bind_some]
 obtain ⟨n,s6,e6,h6⟩:=pick_ok hc (seed:=s5) (at_:=t) (a:=4) ⟨by omega,by omega⟩ (by omega) (by omega)
 rw [e6]
 simp only [Option.bind_some]
 obtain ⟨m,rfl⟩:∃ m:Nat,n=(m:Int):=⟨n.toNat,by omega⟩
 obtain ⟨l',a',s7,e7,hl',ha1,ha2⟩:=drawnFlag_l0 hc m k l (t + 1) s6 hl (by omega) (by omega) (by omega)
 rw [e7]
 simp only [Option.bind_some]
 exact ⟨l',a',s7,rfl,hl',by omega,by omega⟩
def GoodF (f:S68):Prop:=∀ c∈arrL68 f,0≤c∧c < 6
theorem goodF {l:List Int} (h:GoodL l):GoodF (arrS68 l):=by
 unfold GoodF
 rw [arrL68_S l h.1]
 exact h.2
theorem drawnSet {code:List Int} (hc:Bytes code):∀ (n:Nat) (k:Nat) (fs:List S68) (at_ seed:Int),(∀ f∈fs,GoodF f)→fs.length + n≤1000→n + 200 < k→0≤at_→at_ + 20 * (n:Int)≤700000→∃ fs' t s,spec_l05Drawn.l0 k (n:Int) code at_ seed fs=spec_l05Drawn.l0 (k - n) 0 code t s fs'∧fs'.length=fs.length + n∧(∀ f∈fs',GoodF f)∧at_≤t∧t≤at_ + 20 * (n:Int)
 | 0,k,fs,at_,seed,hf,hn,hk,h0,h1=>⟨fs,at_,seed,rfl,rfl,hf,by omega,by omega⟩
 | n + 1,k,fs,at_,seed,hf,hn,hk,h0,h1=>by
  obtain ⟨k,rfl⟩:∃ k',k=k' + 1:=⟨k - 1,by omega⟩
  obtain ⟨l,t,s,e,hl,ht1,ht2⟩:=drawnFlag hc (k:=k) (at_:=at_) (seed:=seed) (by omega) (by omega)
  have hstep:spec_l05Drawn.l0 (k + 1) ((n + 1:Nat):Int) code at_ seed fs=spec_l05Drawn.l0 k (n:Int) code t s (fs ++ [arrS68 l]):=by
   simp only [spec_l05Drawn.l0]
   rw [if_pos (by omega),e]
   simp only [Option.bind_some]
   rw [if_pos (by omega),show wrap64 (((n + 1:Nat):Int) - 1)=(n:Int) by rw [w64 (by omega) (by omega)];omega]
   rfl
  obtain ⟨fs',t',s',e',hl',hf',ha,hb⟩:=drawnSet hc n k (fs ++ [arrS68 l]) t s (fun f h=>by
   rcases List.mem_append.1 h with h|h
   ·exact hf f h
   ·rw [List.mem_singleton.1 h];exact goodF hl) (by simp;omega) (by omega) (by omega) (by omega)
  refine ⟨fs',t',s',?_,by rw [hl'];simp;omega,hf',by omega,by omega⟩
  rw [hstep,e',show k + 1 - (n + 1)=k - n by omega]
theorem spelled {code:List Int} (hc:Bytes code) {m:Int} (hm1:1 < m) (hm2:m≤200) (L:Nat) (hL:L≤100):∀ (n:Nat) (k i:Nat) (w:List Int) (at_ seed:Int),i + n=L→w.length=i→(∀ c∈w,0≤c∧c < m)→n < k→0≤at_→at_ + (n:Int)≤900000→∃ w' t s,spec_l05Spelled.l0 k m (L:Int) w (i:Int) code at_ seed=some (w',t,s)∧w'.length=L∧(∀ c∈w',0≤c∧c < m)∧at_≤t∧t≤at_ + (n:Int)
 | 0,k,i,w,at_,seed,hi,hw,hg,hk,h0,h1=>by
  obtain ⟨k,rfl⟩:∃ k',k=k' + 1:=⟨k - 1,by omega⟩
  simp only [spec_l05Spelled.l0]
  rw [if_neg (by omega)]
  exact ⟨_,_,_,rfl,by omega,hg,by omega,by omega⟩
 | n + 1,k,i,w,at_,seed,hi,hw,hg,hk,h0,h1=>by
  obtain ⟨k,rfl⟩:∃ k',k=k' + 1:=⟨k - 1,by omega⟩
  obtain ⟨c,s,e,hcc⟩:=pick_ok hc (seed:=seed) (at_:=at_) (a:=m) ⟨by omega,by omega⟩ (by omega) (by omega)
  simp only [spec_l05Spelled.l0]
  rw [if_pos (by omega),e]
  simp only [Option.bind_some]
  rw [if_pos (by omega),show wrap64 ((i:Int) + 1)=((i + 1:Nat):Int) by rw [w64 (by omega) (by omega)];omega]
  obtain ⟨w',t,s',e',h1',h2',h3',h4'⟩:=spelled hc hm1 hm2 L hL n k (i + 1) (w ++ [c % 256]) (at_ + 1) s (by omega) (by simp [hw]) (fun d hd=>by
   rcases List.mem_append.1 hd with hd|hd
   ·exact hg d hd
   ·rw [List.mem_singleton.1 hd];omega) (by omega) (by omega) (by omega)
  exact ⟨w',t,s',e',h1',h2',by omega,by omega⟩
theorem drawnWords {code:List Int} (hc:Bytes code) {fs:List S68} (h2:2≤fs.length) (h7:fs.length≤7) (L:Nat) (hL:L≤100):∀ (n:Nat) (k:Nat) (ws:List (List Int)) (at_ seed:Int),(∀ w∈ws,w.length=L∧∀ c∈w,0≤c∧c < (fs.length:Int))→ws.length + n≤1000→n + 200 < k→0≤at_→at_ + 100 * (n:Int)≤800000→∃ ws' t s,spec_l05Drawn.l1 k (L:Int) (n:Int) code at_ seed fs ws=some (fs,ws',t,s)∧ws'.length=ws.length + n∧(∀ w∈ws',w.length=L∧∀ c∈w,0≤c∧c < (fs.length:Int))
 | 0,k,ws,at_,seed,hw,hn,hk,h0,h1=>by
  obtain ⟨k,rfl⟩:∃ k',k=k' + 1:=⟨k - 1,by omega⟩
  simp only [spec_l05Drawn.l1]
  rw [if_neg (by omega)]
  exact ⟨_,_,_,rfl,rfl,hw⟩
 | n + 1,k,ws,at_,seed,hw,hn,hk,h0,h1=>by
  obtain ⟨k,rfl⟩:∃ k',k=k' + 1:=⟨k - 1,by omega⟩
  obtain ⟨w,t,s,e,hl,hg,ht1,ht2⟩:=spelled hc (m:=(fs.length:Int)) (by omega) (by omega) L hL L k 0 [] at_ seed (by omega) rfl (by simp) (by omega) (by omega) (by omega)
  simp only [spec_l05Drawn.l1]
  rw [if_pos (by omega)]
  unfold spec_l05Spelled.f
  rw [show (0:Int)=((0:Nat):Int) from rfl,e]
  simp only [Option.bind_some]
  rw [if_pos (by omega),show wrap64 (((n + 1:Nat):Int) - 1)=(n:Int) by rw [w64 (by omega) (by omega)];omega]
  obtain ⟨ws',t',s',e',hl',hw'⟩:=drawnWords hc h2 h7 L hL n k (ws ++ [w]) t s (fun x hx=>by
   rcases List.mem_append.1 hx with hx|hx
   ·exact hw x hx
   ·rw [List.mem_singleton.1 hx];exact ⟨hl,hg⟩) (by simp;omega) (by omega) (by omega) (by omega)
  exact ⟨ws',t',s',e',by rw [hl'];simp;omega,hw'⟩
theorem drawnCode {code:List Int} (hc:Bytes code) {k:Nat} (hk:1000 < k):∃ fs ws L,spec_P6Code.f k code=some (fs,ws)∧2≤fs.length∧fs.length≤7∧(∀ f∈fs,GoodF f)∧ws.length≤6∧1≤L∧L≤4∧(∀ w∈ws,w.length=L∧∀ c∈w,0≤c∧c < (fs.length:Int)):=by
 unfold spec_P6Code.f spec_l00From.f spec_l05Drawn.f
 simp only [Option.bind_some]
 obtain ⟨n,s1,e1,h1⟩:=pick_ok hc (seed:=0) (at_:=0) (a:=6) ⟨by omega,by omega⟩ (by omega) (by omega)
 rw [e1]
 simp only [Option.bind_some]
 obtain ⟨m,rfl⟩:∃ m:Nat,n=(m:Int):=⟨n.toNat,by omega⟩
 rw [show wrap64 (2 + (m:Int))=((m + 2:Nat):Int) by rw [w64 (by omega) (by omega)];omega]
 obtain ⟨fs,t,s,e,hl,hf,ht1,ht2⟩:=drawnSet hc (m + 2) k [] (0 + 1) s1 (by simp) (by simp;omega) (by omega) (by omega) (by omega)
 rw [e]
 obtain ⟨K,hK⟩:∃ K,k - (m + 2)=K + 1:=⟨k - (m + 2) - 1,by omega⟩
 rw [hK]
 simp only [spec_l05Drawn.l0]
 rw [if_neg (by omega)]
 obtain ⟨p,s2,e2,h2⟩:=pick_ok hc (seed:=s) (at_:=t) (a:=4) ⟨by omega,by omega⟩ (by omega) (by omega)
 rw [e2]
 simp only [Option.bind_some]
 obtain ⟨q,s3,e3,h3⟩:=pick_ok hc (seed:=s2) (at_:=t + 1) (a:=7) ⟨by omega,by omega⟩ (by omega) (by omega)
 rw [e3]
 simp only [Option.bind_some]
 obtain ⟨p,rfl⟩:∃ m:Nat,p=(m:Int):=⟨p.toNat,by omega⟩
 obtain ⟨q,rfl⟩:∃ m:Nat,q=(m:Int):=⟨q.toNat,by omega⟩
 rw [show wrap64 (1 + (p:Int))=((p + 1:Nat):Int) by rw [w64 (by omega) (by omega)];omega]
 simp only [List.length_nil,Nat.zero_add] at hl
 obtain ⟨ws,t',s',e',hw1,hw2⟩:=drawnWords hc (fs:=fs) (by omega) (by omega) (p + 1) (by omega) q K [] (t + 1 + 1) s3 (by simp) (by simp;omega) (by omega) (by omega) (by omega)
 rw [e']
 simp only [Option.bind_some]
 simp only [List.length_nil,Nat.zero_add] at hw1
 exact ⟨fs,ws,p + 1,rfl,by omega,by omega,hf,by omega,by omega,by omega,hw2⟩
end Go.Proofs.Ytgfknljhogfeaaa.G.Pure
end

section
namespace Go.Proofs.Ytgfknljhogfeaaa.G.Pure
open Go.RowKit Go.Proofs.Ytgfknljhogfeaaa.G Go.Proofs.YtgfknljhogfeaaaW.PrintWords Go.Proofs.YtgfknljhogfeaaaW.PrintLast Go.Proofs.YtgfknljhogfeaaaW.PrintMore
set_option linter.unusedVariables false
set_option linter.unusedSimpArgs false
theorem okC_drawn {fs:List Fl} {ws:Ws} {L:Nat} (h2:2≤fs.length) (h7:fs.length≤7) (hf:∀ f∈fs,GoodF f) (hw6:ws.length≤6) (hL1:1≤L) (hL4:L≤4) (hw:∀ w∈ws,w.length=L∧∀ c∈w,0≤c∧c < (fs.length:Int)):okC fs ws=true:=by
 have h0:∀ w∈ws,(ws.getD 0 []).length=L:=fun w hm=>by
  cases ws with
  | nil=>simp at hm
  | cons a t=>exact (hw a (List.mem_cons_self ..)).1
 have e1:ws.all (okS ws)=true:=List.all_eq_true.2 fun w hm=>by
  obtain ⟨hl,hc⟩:=hw w hm
  have hall:w.all (fun c=>decide (c < 37))=true:=List.all_eq_true.2 fun c hcm=>decide_eq_true (by have:=hc c hcm;omega)
  unfold okS
  rw [hall,decide_eq_true (by omega),decide_eq_true (by omega),decide_eq_true (by rw [h0 w hm];exact hl)]
  rfl
 have e2:fs.all spec_l05Ok.flag=true:=List.all_eq_true.2 fun f hm=>by
  unfold spec_l05Ok.flag
  exact List.all_eq_true.2 fun c hc=>decide_eq_true (by have:=hf f hm c hc;omega)
 have e3:ws.all (spec_l05Ok.word fs.length)=true:=List.all_eq_true.2 fun w hm=>by
  unfold spec_l05Ok.word
  refine List.all_eq_true.2 fun c hc=>decide_eq_true ?_
  have:=(hw w hm).2 c hc
  rw [w64 (by omega) (by omega)]
  exact this.2
 unfold okC
 rw [decide_eq_true (by omega),decide_eq_true (by omega),decide_eq_true (by omega),e1,e2,e3]
 rfl
theorem difN_self (xs:List Int):∀ n,difN xs xs n=0
 | 0=>rfl
 | n + 1=>by rw [difN,difN_self xs n,if_pos rfl]
theorem difN_put (xs:List Int) (j:Nat) (v:Int):∀ n,difN xs (xs.set j v) n≤if j < n then 1 else 0
 | 0=>by simp [difN]
 | n + 1=>by
  have ih:=difN_put xs j v n
  rw [difN]
  by_cases h:j=n
  ·subst h
   rw [if_neg (Nat.lt_irrefl _)] at ih
   rw [if_pos (Nat.lt_succ_self _)]
   split <;> omega
  ·have e:(xs.set j v).getD n 0=xs.getD n 0:=by
    rw [List.getD_eq_getElem?_getD,List.getElem?_set_ne h,List.getD_eq_getElem?_getD]
   rw [e,if_pos rfl]
   by_cases hj:j < n
   ·rw [if_pos hj] at ih
    rw [if_pos (by omega)]
    omega
   ·rw [if_neg hj] at ih
    rw [if_neg (by omega)]
    omega
theorem far_self (a:List Sg):∀ n,spec_l05Far.to a a n=0
 | 0=>rfl
 | n + 1=>by rw [spec_l05Far.to,far_self a n,difN_self]
theorem far_put (a:List Sg) (k:Nat) {y:Sg} (hy:difN (arrL61 (rd_T61 a (k:Int))) (arrL61 y) 6≤1) (hk:k < a.length):∀ n,spec_l05Far.to a (a.set k y) n≤if k < n then 1 else 0
 | 0=>by simp [spec_l05Far.to]
 | n + 1=>by
  have ih:=far_put a k hy hk n
  rw [spec_l05Far.to]
  by_cases h:k=n
  ·subst h
   rw [if_neg (Nat.lt_irrefl _)] at ih
   rw [if_pos (Nat.lt_succ_self _)]
   have e:rd_T61 (a.set k y) (k:Int)=y:=by
    unfold rd_T61
    rw [Int.toNat_natCast,List.getD_eq_getElem?_getD,List.getElem?_set_self hk]
    rfl
   rw [e]
   omega
  ·have e:rd_T61 (a.set k y) (n:Int)=rd_T61 a (n:Int):=by
    unfold rd_T61
    rw [Int.toNat_natCast,List.getD_eq_getElem?_getD,List.getElem?_set_ne h,List.getD_eq_getElem?_getD]
   rw [e,difN_self]
   by_cases hj:k < n
   ·rw [if_pos hj] at ih
    rw [if_pos (by omega)]
    omega
   ·rw [if_neg hj] at ih
    rw [if_neg (by omega)]
    omega
theorem seenOk_see (fs:List Fl) (x:List Int):seenOk (seeC fs x)=true:=by
 unfold seenOk seeC
 refine List.all_eq_true.2 fun s hs=>?_
 obtain ⟨c,_,rfl⟩:=List.mem_map.1 hs
 unfold spec_l05Seen.ok spec_l05Sights.see
 rw [arrL61_S _ (blurB_len _)]
 refine List.all_eq_true.2 fun d hd=>decide_eq_true ?_
 obtain ⟨b,_,rfl⟩:=List.mem_map.1 hd
 have:=oneB_lt (arrL68 (rd_T68 fs c)) b
 omega
theorem seenOk_put {a:List Sg} (h:seenOk a=true) {k:Nat} (hk:k < a.length) {j:Nat} {v:Int} (hv:v≤5):seenOk (a.set k (arrS61 ((arrL61 (rd_T61 a (k:Int))).set j v)))=true:=by
 unfold seenOk at h ⊢
 refine List.all_eq_true.2 fun s hs=>?_
 rcases List.mem_or_eq_of_mem_set hs with hs|rfl
 ·exact List.all_eq_true.1 h s hs
 ·have hm:rd_T61 a (k:Int)∈a:=by
   unfold rd_T61
   rw [Int.toNat_natCast,List.getD_eq_getElem?_getD,List.getElem?_eq_getElem hk]
   exact List.getElem_mem hk
  have hr:=List.all_eq_true.1 h _ hm
  unfold spec_l05Seen.ok at hr ⊢
  rw [arrL61_S _ (by rw [List.length_set];rfl)]
  refine List.all_eq_true.2 fun d hd=>?_
  rcases List.mem_or_eq_of_mem_set hd with hd|rfl
  ·exact List.all_eq_true.1 hr d hd
  ·exact decide_eq_true hv
theorem difN_cell (s:Sg) (j:Nat) (v:Int):difN (arrL61 s) (arrL61 (arrS61 ((arrL61 s).set j v))) 6≤1:=by
 rw [arrL61_S _ (by rw [List.length_set];rfl)]
 have:=difN_put (arrL61 s) j v 6
 split at this <;> omega
theorem sameSights_self {a:List Sg} (h:a.length≤8):spec_SameSights.f a a=some true:=by
 unfold spec_SameSights.f spec_l05Far.f
 rw [if_pos rfl,if_pos ⟨Nat.le_refl _,by omega⟩,far_self]
 rfl
theorem hasNum_l0 {l:List Int} (hl:l.length≤1000) (a:Int):∀ (d i k:Nat),i + d=l.length→d < k→spec_l00Has.l0 k l a (i:Int)=some (decide (a∈l.drop i))
 | 0,i,k,hi,hk=>by
  obtain ⟨k,rfl⟩:∃ m,k=m + 1:=⟨k - 1,by omega⟩
  rw [spec_l00Has.l0,if_neg (by omega),List.drop_eq_nil_of_le (by omega)]
  rfl
 | d + 1,i,k,hi,hk=>by
  obtain ⟨k,rfl⟩:∃ m,k=m + 1:=⟨k - 1,by omega⟩
  have h:i < l.length:=by omega
  rw [spec_l00Has.l0,if_pos (by omega),if_pos (by omega),rd_nat h,w64 (by omega) (by omega),show (i:Int) + 1=((i + 1:Nat):Int) by omega,hasNum_l0 hl a d (i + 1) k (by omega) (by omega),List.drop_eq_getElem_cons h]
  by_cases he:l[i]=a
  ·rw [if_pos he,decide_eq_true (by rw [he];exact List.mem_cons_self ..)]
  ·rw [if_neg he]
   exact congrArg some (decide_eq_decide.2 ⟨List.mem_cons_of_mem _,fun hm=>(List.mem_cons.1 hm).resolve_left fun e=>he e.symm⟩)
theorem hasNum {l:List Int} (hl:l.length≤1000) (a:Int) {k:Nat} (hk:1001 < k):spec_HasNumber.f k l a=some (decide (a∈l)):=by
 unfold spec_HasNumber.f spec_l00Has.f
 rw [show (0:Int)=((0:Nat):Int) from rfl,hasNum_l0 hl a l.length 0 k (by omega) (by omega)]
 rfl
theorem candN_iff {D:Nat→Nat} {w:Int} {n i:Nat}:(i:Int)∈candN D w n ↔ i < n∧(D i:Int)≤w:=by
 unfold candN
 constructor
 ·intro h
  obtain ⟨j,hj,e⟩:=List.mem_map.1 h
  obtain ⟨h1,h2⟩:=List.mem_filter.1 hj
  have:j=i:=by omega
  subst this
  exact ⟨List.mem_range.1 h1,of_decide_eq_true h2⟩
 ·rintro ⟨h1,h2⟩
  exact List.mem_map.2 ⟨i,List.mem_filter.2 ⟨List.mem_range.2 h1,decide_eq_true h2⟩,rfl⟩
theorem nodup_one {l:List Nat} (hn:l.Nodup) {i:Nat} (hi:i∈l):l.length≤1 ↔ ∀ j∈l,j=i:=by
 constructor
 ·intro h j hj
  match l,h with
  | [],_=>simp at hi
  | [a],_=>rw [List.mem_singleton.1 hi,List.mem_singleton.1 hj]
  | a :: b :: t,h=>simp at h
 ·intro h
  match l,hn with
  | [],_=>simp
  | [a],_=>simp
  | a :: b :: t,hn =>
   have e1:=h a (by simp)
   have e2:=h b (by simp)
   rw [e1,e2] at hn
   simp at hn
theorem cntN_one {D:Nat→Nat} {n i:Nat} (hi:i < n) (h0:D i=0):¬ cntN D 0 n > 1 ↔ ∀ j,j < n→j=i∨0 < D j:=by
 have hn:((List.range n).filter (fun i=>decide (D i=0))).Nodup:=List.Pairwise.filter _ List.nodup_range
 have hm:i∈(List.range n).filter (fun i=>decide (D i=0)):=List.mem_filter.2 ⟨List.mem_range.2 hi,decide_eq_true h0⟩
 have:=nodup_one hn hm
 unfold cntN
 constructor
 ·intro h j hj
  by_cases hd:D j=0
  ·exact .inl (this.1 (by omega) j (List.mem_filter.2 ⟨List.mem_range.2 hj,decide_eq_true hd⟩))
  ·exact .inr (by omega)
 ·intro h
  have:=this.2 fun j hj=>by
   obtain ⟨h1,h2⟩:=List.mem_filter.1 hj
   rcases h j (List.mem_range.1 h1) with e|e
   ·exact e
   ·have:=of_decide_eq_true h2
    omega
  omega
theorem readVal {fs:List Fl} {ws:Ws} {seen:List Sg} {k:Nat} (hl:ws.length≤1048576) (hi:∀ x∈ws,x.length≤1048576) (hw:∀ x∈ws,∀ c∈x,0≤c∧c≤255) (hf:∀ f∈fs,∀ c∈arrL68 f,0≤c) (hk:2200002 < k) (hok:okC fs ws=true) (hso:seenOk seen=true) (hs:∀ x∈ws,x.length=seen.length) (hp:0 < ws.length):∃ b m:Nat,∃ r:Int × Int × Int,b < ws.length∧distN fs ws seen b=m∧(∀ j,j < ws.length→m≤distN fs ws seen j)∧(r=if cntN (distN fs ws seen) m ws.length > 1 then ((0:Int),(0:Int),(8:Int)) else ((b:Int),(m:Int),0))∧spec_ReadSights.f (2 * k + 1) fs ws seen=some r∧∀ k',1000 < k'→impl_ReadSights.f (k' + 1) fs ws seen=some r:=by
 have hv:=validC hok hw hf
 have he:seen.length=(ws.getD 0 []).length:=by
  rw [← hs _ (List.getElem_mem hp),List.getD_eq_getElem?_getD,List.getElem?_eq_getElem hp]
  rfl
 have hfit:fitC ws seen=true:=by
  unfold fitC
  rw [decide_eq_true he,Bool.or_true]
 obtain ⟨r,⟨b,m,hb,hbm,hmin,hr⟩,h⟩:=specRead_l0 (k:=k) hv hs hp (by omega)
 refine ⟨b,m,r,hb,hbm,hmin,hr,?_,fun k' hk'=>?_⟩
 ·unfold spec_ReadSights.f
  rw [specOk_eq hl hi (by omega)]
  unfold spec_l05Seen.f
  rw [show seen.all spec_l05Seen.ok=seenOk seen from rfl]
  simp only [Option.bind_some]
  rw [hok,if_pos rfl,hso]
  simp only [spec_ReadSights.j0,Bool.not_true,Bool.false_eq_true,if_false]
  rw [if_neg (by omega),show rd_L2 ws 0=ws.getD 0 [] from rfl,if_pos (by omega),if_pos (by omega)]
  exact h
 ·unfold impl_ReadSights.f
  rw [implOk_eq hw,areSights_eq]
  simp only [Option.bind_some]
  rw [hok,if_pos rfl,hso]
  simp only [impl_ReadSights.j0,Bool.not_true,Bool.false_eq_true,if_false]
  rw [if_neg (by omega),isSeen_eq]
  simp only [Option.bind_some]
  rw [hfit,if_pos rfl,implRead_l0 hv hs hb hbm hmin (by omega),hr]
theorem readNone {fs:List Fl} {k:Nat} (hok:okC fs []=true):impl_ReadSights.f (k + 1) fs [] []=some (0,0,6):=by
 unfold impl_ReadSights.f
 rw [implOk_eq (by simp),areSights_eq]
 simp only [Option.bind_some]
 rw [hok,if_pos rfl,show seenOk ([]:List Sg)=true from rfl]
 simp [impl_ReadSights.j0]
theorem distVal {fs:List Fl} {seen:List Sg} {x:List Int} (hx:x.length=seen.length) (h8:x.length≤8) (hso:seenOk seen=true) (k:Nat):impl_SightDistance.f (k + 1) (seeC fs x) seen=some (((dstC fs seen x:Nat):Int),0):=by
 unfold impl_SightDistance.f
 rw [areSights_eq,seenOk_see]
 simp only [Option.bind_some]
 rw [if_pos trivial,areSights_eq,hso]
 simp only [Option.bind_some,impl_SightDistance.j0,Bool.not_true,Bool.false_eq_true,if_false]
 rw [if_pos (by rw [seeC_length];omega),implFar_eq hx h8]
 rfl
end Go.Proofs.Ytgfknljhogfeaaa.G.Pure
end

section
namespace Go.Proofs.Ytgfknljhogfeaaa.G.Pure
open Go.RowKit Go.Proofs.Ytgfknljhogfeaaa.G Go.Proofs.YtgfknljhogfeaaaW.PrintWords Go.Proofs.YtgfknljhogfeaaaW.PrintLast Go.Proofs.YtgfknljhogfeaaaW.PrintMore
set_option linter.unusedVariables false
set_option linter.unusedSimpArgs false
def unlN:List Int→List Int→Nat
 | x :: a,y :: b=>(if x=y then 0 else 1) + unlN a b
 | _,_=>0
end Go.Proofs.Ytgfknljhogfeaaa.G.Pure
end

section
namespace Go.Proofs.Ytgfknljhogfeaaa.G.Pure
open Go.RowKit Go.Proofs.Ytgfknljhogfeaaa.G Go.Proofs.YtgfknljhogfeaaaW.PrintWords Go.Proofs.YtgfknljhogfeaaaW.PrintLast Go.Proofs.YtgfknljhogfeaaaW.PrintMore
set_option linter.unusedVariables false
set_option linter.unusedSimpArgs false
theorem firstOf_eq (k:Nat) (a b:Int) (hk:3≤k):impl_firstOf.f k [a,b]=some (if a=0 then b else a):=by
 obtain ⟨k,rfl⟩:∃ m,k=m + 3:=⟨k - 3,by omega⟩
 unfold impl_firstOf.f
 have r0:rd [a,b] 0=a:=rfl
 have r1:rd [a,b] 1=b:=rfl
 unfold impl_firstOf.l0
 simp only [List.length_cons,List.length_nil]
 rw [if_pos (by omega),if_pos (by omega),if_pos (by omega),r0]
 by_cases h:a=0
 ·rw [if_pos h,if_pos h,w64 (by omega) (by omega)]
  unfold impl_firstOf.l0
  simp only [List.length_cons,List.length_nil]
  rw [if_pos (by omega),if_pos (by omega),if_pos (by omega),show (0:Int) + 1=1 from rfl,r1]
  by_cases h1:b=0
  ·rw [if_pos h1,w64 (by omega) (by omega)]
   unfold impl_firstOf.l0
   rw [if_neg (by simp),h1]
  ·rw [if_neg h1]
 ·rw [if_neg h,if_neg h]
end Go.Proofs.Ytgfknljhogfeaaa.G.Pure
end

section
namespace Go.Proofs.Ytgfknljhogfeaaa.G.Pure
open Go.RowKit Go.Proofs.Ytgfknljhogfeaaa.G Go.Proofs.YtgfknljhogfeaaaW.PrintWords Go.Proofs.YtgfknljhogfeaaaW.PrintLast Go.Proofs.YtgfknljhogfeaaaW.PrintMore
set_option linter.unusedVariables false
set_option linter.unusedSimpArgs false
theorem unlN_step {a b:List Int} (h:a.length=b.length) {i:Nat} (hi:i < a.length):unlN (a.drop i) (b.drop i)=(if a[i]=b[i]'(by omega) then 0 else 1) + unlN (a.drop (i + 1)) (b.drop (i + 1)):=by
 rw [List.drop_eq_getElem_cons hi,List.drop_eq_getElem_cons (show i < b.length by omega),unlN]
theorem implUnl {a b:List Int} (h:a.length=b.length) (h8:a.length≤8) {k:Nat} (hk:20 < k):impl_unlike.f k a b=some ((unlN a b:Nat):Int):=by
 unfold impl_unlike.f
 have go:∀ d i k:Nat,∀ c:Nat,i + d=a.length→d < k→c≤i→impl_unlike.l0 k b (c:Int) a (a.length:Int) (i:Int)=some ((c + unlN (a.drop i) (b.drop i):Nat):Int):=by
  intro d
  induction d with
  | zero =>
   intro i k c hi hk _
   obtain ⟨k,rfl⟩:∃ m,k=m + 1:=⟨k - 1,by omega⟩
   rw [impl_unlike.l0,if_neg (by omega),List.drop_eq_nil_of_le (by omega)]
   simp [unlN]
  | succ d ih =>
   intro i k c hi hk hc
   obtain ⟨k,rfl⟩:∃ m,k=m + 1:=⟨k - 1,by omega⟩
   have hia:i < a.length:=by omega
   have hib:i < b.length:=by omega
   rw [impl_unlike.l0,if_pos (by omega),if_pos (by omega),if_pos (by omega),if_pos (by omega),rd_nat hia,rd_nat hib,unlN_step h hia,w64 (n:=(i:Int) + 1) (by omega) (by omega),show (i:Int) + 1=((i + 1:Nat):Int) by omega]
   by_cases e:a[i]=b[i]
   ·rw [if_pos e.symm,if_pos e,ih (i + 1) k c (by omega) (by omega) (by omega),Nat.zero_add]
   ·rw [if_neg (fun h=>e h.symm),if_neg e,w64 (by omega) (by omega),show (c:Int) + 1=((c + 1:Nat):Int) by omega,ih (i + 1) k (c + 1) (by omega) (by omega) (by omega),Nat.add_assoc]
 have:=go a.length 0 k 0 (by omega) (by omega) (by omega)
 simpa using this
end Go.Proofs.Ytgfknljhogfeaaa.G.Pure
end

section
namespace Go.Proofs.Ytgfknljhogfeaaa.G.Pure
open Go.RowKit Go.Proofs.Ytgfknljhogfeaaa.G Go.Proofs.YtgfknljhogfeaaaW.PrintWords Go.Proofs.YtgfknljhogfeaaaW.PrintLast Go.Proofs.YtgfknljhogfeaaaW.PrintMore
set_option linter.unusedVariables false
set_option linter.unusedSimpArgs false
def afarN (f g:Fl):Nat:=unlN (blurB (arrL68 f)) (blurB (arrL68 g))
theorem goodAll {f:Fl} (h:GoodF f):(arrL68 f).all (fun d=>decide (0≤d) && decide (d < 6))=true:=List.all_eq_true.2 fun c hc=>by
 have:=h c hc
 rw [decide_eq_true this.1,decide_eq_true this.2]
 rfl
theorem implAfar {f g:Fl} (hf:GoodF f) (hg:GoodF g) {k:Nat} (hk:20 < k):impl_afar.f k f.f0 f.f1 f.f2 f.f3 f.f4 f.f5 f.f6 f.f7 f.f8 f.f9 f.f10 f.f11 f.f12 f.f13 f.f14 f.f15 f.f16 f.f17 f.f18 f.f19 f.f20 f.f21 f.f22 f.f23 g.f0 g.f1 g.f2 g.f3 g.f4 g.f5 g.f6 g.f7 g.f8 g.f9 g.f10 g.f11 g.f12 g.f13 g.f14 g.f15 g.f16 g.f17 g.f18 g.f19 g.f20 g.f21 g.f22 g.f23=some ((afarN f g:Nat):Int):=by
 unfold impl_afar.f
 rw [blur_at f (goodAll hf)]
 simp only [Option.bind_some]
 rw [blur_at g (goodAll hg)]
 simp only [Option.bind_some]
 exact implUnl (a:=blurB (arrL68 f)) (b:=blurB (arrL68 g)) (by rw [blurB_len,blurB_len]) (by rw [blurB_len];omega) hk
theorem validFlag {f:Fl} (hf:GoodF f):impl_ValidFlag.f f.f0 f.f1 f.f2 f.f3 f.f4 f.f5 f.f6 f.f7 f.f8 f.f9 f.f10 f.f11 f.f12 f.f13 f.f14 f.f15 f.f16 f.f17 f.f18 f.f19 f.f20 f.f21 f.f22 f.f23=some true:=by
 have e:(arrL68 f).any (fun c=>decide (c≥6))=false:=by
  rw [List.any_eq_false]
  intro c hc
  have:=hf c hc
  simp
  omega
 show some (!((arrL68 f).any fun c=>decide (c≥6)))=some true
 rw [e]
 rfl
theorem blurDist {f g:Fl} (hf:GoodF f) (hg:GoodF g) {k:Nat} (hk:20 < k):impl_BlurDistance.f k f.f0 f.f1 f.f2 f.f3 f.f4 f.f5 f.f6 f.f7 f.f8 f.f9 f.f10 f.f11 f.f12 f.f13 f.f14 f.f15 f.f16 f.f17 f.f18 f.f19 f.f20 f.f21 f.f22 f.f23 g.f0 g.f1 g.f2 g.f3 g.f4 g.f5 g.f6 g.f7 g.f8 g.f9 g.f10 g.f11 g.f12 g.f13 g.f14 g.f15 g.f16 g.f17 g.f18 g.f19 g.f20 g.f21 g.f22 g.f23=some (((afarN f g:Nat):Int),0):=by
 unfold impl_BlurDistance.f
 rw [validFlag hf]
 simp only [Option.bind_some]
 rw [if_pos trivial,validFlag hg]
 simp only [Option.bind_some]
 rw [if_pos trivial,implAfar hf hg hk]
 rfl
theorem goodF_rd {fs:List Fl} (hf:∀ f∈fs,GoodF f) {i:Nat} (hi:i < fs.length):GoodF (rd_T68 fs (i:Int)):=by
 unfold rd_T68
 rw [Int.toNat_natCast,List.getD_eq_getElem?_getD,List.getElem?_eq_getElem hi]
 exact hf _ (List.getElem_mem hi)
theorem goodF_rd0 {fs:List Fl} (hf:∀ f∈fs,GoodF f) (hi:0 < fs.length):GoodF (rd_T68 fs 0):=goodF_rd hf (i:=0) hi
theorem setCode_good {fs:List Fl} (hf:∀ f∈fs,GoodF f) (h7:fs.length≤40):impl_setCode.f fs 0=some 0:=by
 have e1:slices_ContainsFunc_Flag_Flag__impl_setCode_1.f fs=some (fs.any fun x=>(arrL68 x).any fun c=>decide (c≥6)):=anyO_eq fun x _=>rfl
 have e2:(fs.any fun x=>(arrL68 x).any fun c=>decide (c≥6))=false:=by
  rw [List.any_eq_false]
  intro x hx hq
  obtain ⟨c,hc,hd⟩:=List.any_eq_true.1 hq
  have h1:=hf x hx c hc
  have h2:=of_decide_eq_true hd
  omega
 unfold impl_setCode.f impl_within.f impl_unless.f
 rw [e1,e2]
 simp only [Option.bind_some]
 rw [if_neg (by decide),if_neg (by omega)]
 rfl
def confD (fs:List Fl) (j:Nat):Nat:=if j=0 then 1000 else afarN (rd_T68 fs 0) (rd_T68 fs (j:Int))
theorem conf_l0 {fs:List Fl} (hf:∀ f∈fs,GoodF f) (h2:2≤fs.length) (h7:fs.length≤7):∀ (d i k:Nat),i + d=fs.length→d + 100 < k→impl_ConfusedFlags.l0 k fs 0 3 (candN (confD fs) 3 i) fs (fs.length:Int) (i:Int)=some (candN (confD fs) 3 fs.length,0)
 | 0,i,k,hi,hk=>by
  obtain ⟨k,rfl⟩:∃ m,k=m + 1:=⟨k - 1,by omega⟩
  rw [impl_ConfusedFlags.l0,if_neg (by omega),show i=fs.length by omega]
 | d + 1,i,k,hi,hk=>by
  obtain ⟨k,rfl⟩:∃ m,k=m + 1:=⟨k - 1,by omega⟩
  have hlt:i < fs.length:=by omega
  have ih:=conf_l0 hf h2 h7 d (i + 1) k (by omega) (by omega)
  have hl:=candN_len (confD fs) 3 i
  rw [candN_succ] at ih
  rw [impl_ConfusedFlags.l0,if_pos (by omega),if_pos (by omega),if_pos (by omega),w64 (by omega) (by omega),show (i:Int) + 1=((i + 1:Nat):Int) by omega]
  by_cases h0:i=0
  ·rw [if_pos (by omega)]
   rw [if_neg (by unfold confD;rw [if_pos h0];decide)] at ih
   exact ih
  ·rw [if_neg (by omega),if_pos (by omega),if_pos (by omega),implAfar (goodF_rd0 hf (by omega)) (goodF_rd hf hlt) (by omega)]
   have e:confD fs i=afarN (rd_T68 fs 0) (rd_T68 fs (i:Int)):=by
    unfold confD
    rw [if_neg h0]
   simp only [Option.bind_some]
   rw [e] at ih
   by_cases h3:((afarN (rd_T68 fs 0) (rd_T68 fs (i:Int)):Nat):Int)≤3
   ·rw [if_pos h3] at ih
    rw [if_pos h3,if_pos (by omega)]
    exact ih
   ·rw [if_neg h3] at ih
    rw [if_neg h3]
    exact ih
theorem confusedVal {fs:List Fl} (hf:∀ f∈fs,GoodF f) (h2:2≤fs.length) (h7:fs.length≤7) {k:Nat} (hk:1000 < k):impl_ConfusedFlags.f k fs 0 3=some (candN (confD fs) 3 fs.length,0):=by
 unfold impl_ConfusedFlags.f impl_size_Flag.f impl_within.f impl_unless.f
 rw [setCode_good hf (by omega)]
 simp only [Option.bind_some]
 rw [w64 (by omega) (by omega),if_pos (by omega)]
 simp only [Option.bind_some]
 rw [decide_eq_true (show (0:Int)≤(fs.length:Int) - 1 by omega),if_pos rfl,if_pos (by omega)]
 simp only [Option.bind_some]
 rw [decide_eq_true (show (3:Int)≤6 by omega),if_pos rfl]
 simp only [Option.bind_some]
 rw [firstOf_eq k 0 0 (by omega)]
 simp only [Option.bind_some]
 obtain ⟨k,rfl⟩:∃ m,k=m + 1:=⟨k - 1,by omega⟩
 rw [impl_ConfusedFlags.j0,if_pos (by simp)]
 exact conf_l0 hf h2 h7 fs.length 0 k (by omega) (by omega)
theorem confused_round {fs:List Fl} (hf:∀ f∈fs,GoodF f) (h2:2≤fs.length) (h7:fs.length≤7) (ws:Ws):∀ (d i k:Nat),i + d=fs.length→1≤i→d + 2000 < k→laws_FnSights.l1 k (candN (confD fs) 3 fs.length) (i:Int) fs ws=some true
 | 0,i,k,hi,h1,hk=>by
  obtain ⟨k,rfl⟩:∃ m,k=m + 1:=⟨k - 1,by omega⟩
  have hl:=candN_len (confD fs) 3 fs.length
  rw [laws_FnSights.l1,if_neg (by omega),hasNum (by omega) _ (by omega)]
  simp only [Option.bind_some]
  rw [decide_eq_false (by
   rw [show (0:Int)=((0:Nat):Int) from rfl,candN_iff]
   rintro ⟨_,h⟩
   unfold confD at h
   rw [if_pos rfl] at h
   omega)]
  rfl
 | d + 1,i,k,hi,h1,hk=>by
  obtain ⟨k,rfl⟩:∃ m,k=m + 1:=⟨k - 1,by omega⟩
  have hlt:i < fs.length:=by omega
  have ih:=confused_round hf h2 h7 ws d (i + 1) k (by omega) (by omega) (by omega)
  have hl:=candN_len (confD fs) 3 fs.length
  rw [laws_FnSights.l1,if_pos (by omega),if_pos (by omega),if_pos (by omega),blurDist (goodF_rd0 hf (by omega)) (goodF_rd hf hlt) (by omega)]
  simp only [Option.bind_some]
  rw [if_pos trivial,hasNum (by omega) _ (by omega)]
  simp only [Option.bind_some]
  have e:decide ((i:Int)∈candN (confD fs) 3 fs.length)=decide (((afarN (rd_T68 fs 0) (rd_T68 fs (i:Int)):Nat):Int)≤3):=decide_eq_decide.2 (by
   rw [candN_iff]
   unfold confD
   rw [if_neg (by omega)]
   exact ⟨fun h=>h.2,fun h=>⟨hlt,h⟩⟩)
  rw [e,bne_self_eq_false,if_neg (by decide),w64 (by omega) (by omega),show (i:Int) + 1=((i + 1:Nat):Int) by omega]
  exact ih
end Go.Proofs.Ytgfknljhogfeaaa.G.Pure
end

section
namespace Go.Proofs.Ytgfknljhogfeaaa.G.Pure
open Go.RowKit Go.Proofs.Ytgfknljhogfeaaa.G Go.Proofs.YtgfknljhogfeaaaW.PrintWords Go.Proofs.YtgfknljhogfeaaaW.PrintLast Go.Proofs.YtgfknljhogfeaaaW.PrintMore
set_option linter.unusedVariables false
set_option linter.unusedSimpArgs false
theorem bytes_si {l:List Int} (h:∀ x∈l,(Lit.int .u8 x).wf=true):Bytes l:=fun x hx=>by
 have:=h x hx
 simp [Lit.wf,IntKind.min,IntKind.max,IntKind.signed,IntKind.bits] at this
 omega
theorem pickSi {code:List Int} (hc:Bytes code) {n:Nat} (h1:1≤n) (h2:n≤200):∃ r:Nat,spec_P6Pick.f code (n:Int)=some (r:Int)∧r < n:=by
 unfold spec_P6Pick.f spec_l00From.f
 simp only [Option.bind_some]
 by_cases h:n=1
 ·subst h
  exact ⟨0,rfl,by omega⟩
 ·obtain ⟨r,s,e,b⟩:=pick_ok hc (seed:=0) (a:=(n:Int)) (at_:=0) (by omega) (by omega) (by omega)
  rw [e]
  refine ⟨r.toNat,?_,by omega⟩
  rw [show ((r.toNat:Nat):Int)=r by omega]
  rfl
theorem sameNumsS {l:List Int} (hl:l.length≤1000) {k:Nat} (hk:2000 < k):spec_SameNumbers.f k l l=some true:=by
 unfold spec_SameNumbers.f spec_l00Same.f
 rw [if_pos rfl,show (0:Int)=((0:Nat):Int) from rfl,sameNL_in hl l.length 0 k (by omega) (by omega)]
 rfl
structure DrawnC (fs:List Fl) (ws:Ws) (L:Nat):Prop where
 h2:2≤fs.length
 h7:fs.length≤7
 hf:∀ f∈fs,GoodF f
 hw6:ws.length≤6
 hL1:1≤L
 hL4:L≤4
 hw:∀ w∈ws,w.length=L∧∀ c∈w,0≤c∧c < (fs.length:Int)
section
variable {fs:List Fl} {ws:Ws} {L:Nat}
theorem DrawnC.dc_ok (h:DrawnC fs ws L):okC fs ws=true:=okC_drawn h.h2 h.h7 h.hf h.hw6 h.hL1 h.hL4 h.hw
theorem DrawnC.dc_b8 (h:DrawnC fs ws L):∀ x∈ws,∀ c∈x,0≤c∧c≤255:=fun x hx c hc=>by
 have:=(h.hw x hx).2 c hc
 have:=h.h7
 omega
theorem DrawnC.dc_f8 (h:DrawnC fs ws L):∀ f∈fs,∀ c∈arrL68 f,0≤c:=fun f hf c hc=>(h.hf f hf c hc).1
theorem DrawnC.dc_li (h:DrawnC fs ws L):∀ x∈ws,x.length≤1048576:=fun x hx=>by
 have:=(h.hw x hx).1
 have:=h.hL4
 omega
theorem DrawnC.dc_lw (h:DrawnC fs ws L):ws.length≤1048576:=by have:=h.hw6;omega
theorem near_code (h:DrawnC fs ws L) {k:Nat} (hk:2200002 < k) {r:Int × Int × Int × Int} (hr:spec_NearestWords.f k fs ws=some r):((r.2.2.2 == 0) != decide ((ws.length:Int) > 1))=false:=by
 have hv:=validC h.dc_ok h.dc_b8 h.dc_f8
 unfold spec_NearestWords.f at hr
 rw [specOk_eq h.dc_lw h.dc_li (by omega),h.dc_ok] at hr
 replace hr:(if (ws.length:Int) < 2 then some (0,0,0,6) else spec_NearestWords.l0 k (ws.length:Int) 0 0 (-1) 0 fs ws)=some r:=hr
 by_cases hn2:(ws.length:Int) < 2
 ·rw [if_pos hn2] at hr
  obtain rfl:=Option.some.inj hr
  rw [decide_eq_false (by omega)]
  rfl
 ·rw [if_neg hn2] at hr
  have:=h.hw6
  obtain ⟨q1,q2,q3,h1,h2,h3⟩:=nearOut hv ws.length 0 (by omega) k 0 0 (-1) (by omega)
  have h2:spec_NearestWords.l0 k (ws.length:Int) 0 0 (-1) 0 fs ws=some (q1,q2,q3,0):=h2
  rw [h2] at hr
  obtain rfl:=Option.some.inj hr
  rw [decide_eq_true (by omega)]
  rfl
theorem sights_j4 (h:DrawnC fs ws L) {k:Nat} (hk:3000000 < k):laws_FnSights.j4 k (ws.length:Int) false fs ws=some true:=by
 obtain ⟨k,rfl⟩:∃ m,k=m + 2:=⟨k - 2,by omega⟩
 obtain ⟨r,hs,hi⟩:=near_both (k:=k + 1) (fs:=fs) h.dc_lw h.dc_li h.dc_b8 h.dc_f8 (by omega)
 have hc:=near_code h (k:=k + 1) (by omega) hs
 rw [laws_FnSights.j4,if_neg (by decide),hi]
 simp only [Option.bind_some]
 rw [hs]
 simp only [Option.bind_some]
 rw [if_pos trivial,if_pos trivial,if_pos trivial,if_pos trivial,hc,laws_FnSights.j5,if_neg (by decide),confusedVal h.hf h.h2 h.h7 (by omega)]
 simp only [Option.bind_some]
 rw [if_pos trivial]
 exact confused_round h.hf h.h2 h.h7 ws (fs.length - 1) 1 k (by have:=h.h2;omega) (by omega) (by have:=h.h7;omega)
theorem dist_at (seen:List Sg) {w:Nat} (hw:w < ws.length):dstC fs seen ws[w]=distN fs ws seen w:=by
 unfold distN
 rw [List.getD_eq_getElem?_getD,List.getElem?_eq_getElem hw]
 rfl
theorem sights_at (h:DrawnC fs ws L) {w:Nat} (hw:w < ws.length):resS fs ws (w:Int)=(seeC fs ws[w],0):=by
 unfold resS
 rw [if_pos h.dc_ok,if_pos (by omega),rdX hw]
theorem sights_l0 (h:DrawnC fs ws L) {i:Nat} (hi:i < ws.length) {seen:List Sg} (hso:seenOk seen=true) (hsl:seen.length=L) {two dist:Int} (htd:two=0→∀ j,j < ws.length→dist≤(distN fs ws seen j:Int)) :
  ∀ (d w k:Nat) (al:Bool),w + d=ws.length→d + 4000000 < k→al=decide (∀ j,j < w→j=i∨0 < distN fs ws (seeC fs ws[i]) j)→laws_FnSights.l0 k (ws.length:Int) (i:Int) (seeC fs ws[i]) seen two dist (candN (distN fs ws seen) 1 ws.length) al (w:Int) fs ws=some true
 | 0,w,k,al,hw,hk,hal=>by
  obtain ⟨k,rfl⟩:∃ m,k=m + 2:=⟨k - 2,by omega⟩
  have hwN:w=ws.length:=by omega
  have hil:=(h.hw _ (List.getElem_mem hi)).1
  have hs:∀ x∈ws,x.length=(seeC fs ws[i]).length:=fun x hx=>by rw [seeC_length,hil];exact (h.hw x hx).1
  obtain ⟨b,m,r,hb,hbm,hmin,hr,_,himp⟩:=readVal (k:=2300000) (fs:=fs) (seen:=seeC fs ws[i]) h.dc_lw h.dc_li h.dc_b8 h.dc_f8 (by omega) h.dc_ok (seenOk_see _ _) hs (by omega)
  have hD0:distN fs ws (seeC fs ws[i]) i=0:=by
   rw [← dist_at _ hi]
   exact far_self _ _
  have hm0:m=0:=by have:=hmin i hi;omega
  subst hm0
  have hone:=cntN_one hi hD0
  rw [laws_FnSights.l0,if_neg (by omega),himp k (by omega)]
  simp only [Option.bind_some]
  rw [hwN] at hal
  by_cases hA:∀ j,j < ws.length→j=i∨0 < distN fs ws (seeC fs ws[i]) j
  ·rw [decide_eq_true hA] at hal
   rw [if_neg (hone.2 hA)] at hr
   have hbi:b=i:=by
    rcases hA b hb with e|e
    ·exact e
    ·omega
   subst hal hr hbi
   rw [if_neg (by simp),if_pos rfl,if_pos rfl]
   exact sights_j4 h (by omega)
  ·rw [decide_eq_false hA] at hal
   have hgt:cntN (distN fs ws (seeC fs ws[i])) 0 ws.length > 1:=by
    by_cases hq:cntN (distN fs ws (seeC fs ws[i])) 0 ws.length > 1
    ·exact hq
    ·exact absurd (hone.1 hq) hA
   rw [if_pos hgt] at hr
   subst hal hr
   rw [if_neg (by decide),if_neg (by decide)]
   exact sights_j4 h (by omega)
 | d + 1,w,k,al,hw,hk,hal=>by
  obtain ⟨k,rfl⟩:∃ m,k=m + 2:=⟨k - 2,by omega⟩
  have hlt:w < ws.length:=by omega
  have h6:=h.hw6
  have hil:=(h.hw _ (List.getElem_mem hi)).1
  have hwl:=(h.hw _ (List.getElem_mem hlt)).1
  have hL4:=h.hL4
  have hcl:=candN_len (distN fs ws seen) 1 ws.length
  have next:∀ al':Bool,al'=decide (∀ j,j < w + 1→j=i∨0 < distN fs ws (seeC fs ws[i]) j)→laws_FnSights.l0 (k + 1) (ws.length:Int) (i:Int) (seeC fs ws[i]) seen two dist (candN (distN fs ws seen) 1 ws.length) al' (wrap64 ((w:Int) + 1)) fs ws=some true:=fun al' ha=>by
   rw [w64 (by omega) (by omega),show (w:Int) + 1=((w + 1:Nat):Int) by omega]
   exact sights_l0 h hi hso hsl htd d (w + 1) (k + 1) al' (by omega) (by omega) ha
  have hsucc:(∀ j,j < w + 1→j=i∨0 < distN fs ws (seeC fs ws[i]) j) ↔ (∀ j,j < w→j=i∨0 < distN fs ws (seeC fs ws[i]) j)∧(w=i∨0 < distN fs ws (seeC fs ws[i]) w):=by
   constructor
   ·intro hq
    exact ⟨fun j hj=>hq j (by omega),hq w (by omega)⟩
   ·rintro ⟨h1,h2⟩ j hj
    by_cases e:j=w
    ·rw [e];exact h2
    ·exact h1 j (by omega)
  have hnear:decide ((w:Int)∈candN (distN fs ws seen) 1 ws.length)=decide ((distN fs ws seen w:Int)≤1):=decide_eq_decide.2 (by
   rw [candN_iff]
   exact ⟨fun hq=>hq.2,fun hq=>⟨hlt,hq⟩⟩)
  rw [laws_FnSights.l0,if_pos (by omega),specSightsOf_eq h.dc_lw h.dc_li h.dc_b8 h.dc_f8 _ (by omega),sights_at h hlt]
  simp only [Option.bind_some]
  rw [distVal (by omega) (by omega) hso,distVal (x:=ws[w]) (seen:=seeC fs ws[i]) (by rw [seeC_length];omega) (by omega) (seenOk_see _ _),dist_at seen hlt,dist_at _ hlt]
  simp only [Option.bind_some]
  rw [if_pos trivial,if_pos trivial,if_pos trivial,hasNum (by omega) _ (by omega),hnear]
  simp only [Option.bind_some,bne_self_eq_false,Bool.false_eq_true,if_false]
  have cont:(if al=true then (if (w:Int)=(i:Int) then laws_FnSights.l0 (k + 1) (ws.length:Int) (i:Int) (seeC fs ws[i]) seen two dist (candN (distN fs ws seen) 1 ws.length) true (wrap64 ((w:Int) + 1)) fs ws else laws_FnSights.l0 (k + 1) (ws.length:Int) (i:Int) (seeC fs ws[i]) seen two dist (candN (distN fs ws seen) 1 ws.length) (decide ((distN fs ws (seeC fs ws[i]) w:Int) > 0)) (wrap64 ((w:Int) + 1)) fs ws) else laws_FnSights.l0 (k + 1) (ws.length:Int) (i:Int) (seeC fs ws[i]) seen two dist (candN (distN fs ws seen) 1 ws.length) false (wrap64 ((w:Int) + 1)) fs ws)=some true:=by
   by_cases hA:∀ j,j < w→j=i∨0 < distN fs ws (seeC fs ws[i]) j
   ·rw [decide_eq_true hA] at hal
    rw [if_pos hal]
    by_cases hwi:w=i
    ·rw [if_pos (by omega)]
     exact next true (decide_eq_true (hsucc.2 ⟨hA,.inl hwi⟩)).symm
    ·rw [if_neg (by omega)]
     refine next _ (decide_eq_decide.2 ?_)
     rw [hsucc]
     constructor
     ·intro hq
      exact ⟨hA,.inr (by omega)⟩
     ·rintro ⟨_,hq⟩
      rcases hq with e|e
      ·exact absurd e hwi
      ·omega
   ·rw [decide_eq_false hA] at hal
    rw [if_neg (by rw [hal];decide)]
    exact next false (decide_eq_false fun hq=>hA (hsucc.1 hq).1).symm
  by_cases h0:two=0
  ·rw [if_pos h0,if_neg (by have:=htd h0 w hlt;omega)]
   exact cont
  ·rw [if_neg h0]
   exact cont
theorem sights_j1 (h:DrawnC fs ws L) {l0 l1:List Int} (hb0:Bytes l0) (hb1:Bytes l1) (hl1:l1.length≤4096) {i:Nat} (hi:i < ws.length) {k:Nat} (hk:5000000 < k):laws_FnSights.j1 (2 * k + 2) l0 l1 (ws.length:Int) (i:Int) (seeC fs ws[i]) false fs ws=some true:=by
 have h6:=h.hw6
 have hL1:=h.hL1
 have hL4:=h.hL4
 have hil:=(h.hw _ (List.getElem_mem hi)).1
 have hdl:(seeC fs ws[i]).length=L:=by rw [seeC_length,hil]
 obtain ⟨a,ea,ha⟩:=pickSi hb1 (n:=(seeC fs ws[i]).length) (by omega) (by omega)
 obtain ⟨j,ej,hj⟩:=pickSi hb0 (n:=6) (by omega) (by omega)
 obtain ⟨v,ev,hv⟩:=pickSi (code:=[2] ++ l1) (fun x hx=>by
  rcases List.mem_append.1 hx with hx|hx
  ·rw [List.mem_singleton.1 hx];omega
  ·exact hb1 x hx) (n:=6) (by omega) (by omega)
 have ej:spec_P6Pick.f l0 6=some (j:Int):=ej
 have ev:spec_P6Pick.f ([2] ++ l1) 6=some (v:Int):=ev
 show laws_FnSights.j1 (2 * k + 1 + 1) l0 l1 (ws.length:Int) (i:Int) (seeC fs ws[i]) false fs ws=some true
 rw [laws_FnSights.j1,if_neg (by decide)]
 simp only [Option.bind_some,List.nil_append]
 rw [if_pos (by simp;omega),ea]
 simp only [Option.bind_some]
 rw [ej]
 simp only [Option.bind_some]
 rw [if_pos (by simp;omega),ev]
 simp only [Option.bind_some]
 rw [if_pos (by omega),if_pos (by omega),if_pos (by omega),if_pos (by omega),show ((v:Int)) % 256=(v:Int) by omega]
 simp only [Int.toNat_natCast]
 have hso:=seenOk_put (seenOk_see fs ws[i]) (k:=a) ha (j:=j) (v:=(v:Int)) (by omega)
 have hsl:((seeC fs ws[i]).set a (arrS61 ((arrL61 (rd_T61 (seeC fs ws[i]) (a:Int))).set j (v:Int)))).length=L:=by rw [List.length_set,hdl]
 have hDi:distN fs ws ((seeC fs ws[i]).set a (arrS61 ((arrL61 (rd_T61 (seeC fs ws[i]) (a:Int))).set j (v:Int)))) i≤1:=by
  rw [← dist_at _ hi]
  unfold dstC
  have:=far_put (seeC fs ws[i]) a (difN_cell (rd_T61 (seeC fs ws[i]) (a:Int)) j (v:Int)) ha (seeC fs ws[i]).length
  rw [if_pos ha] at this
  exact this
 generalize (seeC fs ws[i]).set a (arrS61 ((arrL61 (rd_T61 (seeC fs ws[i]) (a:Int))).set j (v:Int)))=seen at *
 have hs:∀ x∈ws,x.length=seen.length:=fun x hx=>by rw [hsl];exact (h.hw x hx).1
 obtain ⟨b,m,r,hb,hbm,hmin,hr,hspec,himp⟩:=readVal (k:=k) (fs:=fs) (seen:=seen) h.dc_lw h.dc_li h.dc_b8 h.dc_f8 (by omega) h.dc_ok hso hs (by omega)
 have hfit:fitC ws seen=true:=by
  unfold fitC
  rw [decide_eq_true (show seen.length=(ws.getD 0 []).length by
   rw [← hs _ (List.getElem_mem (show 0 < ws.length by omega)),List.getD_eq_getElem?_getD,List.getElem?_eq_getElem (show 0 < ws.length by omega)]
   rfl),Bool.or_true]
 have hres:resC fs ws seen 1=(candN (distN fs ws seen) 1 ws.length,0):=by
  unfold resC
  rw [if_pos ⟨h.dc_ok,hso⟩,if_pos ⟨by omega,hfit⟩]
 have hcl:=candN_len (distN fs ws seen) 1 ws.length
 rw [himp (2 * k) (by omega)]
 simp only [Option.bind_some]
 rw [hspec]
 simp only [Option.bind_some]
 rw [implCandFor_eq h.dc_b8 h.dc_f8 1 (by omega)]
 simp only [Option.bind_some]
 rw [specCandFor_eq h.dc_lw h.dc_li h.dc_b8 h.dc_f8 1 (by omega)]
 simp only [Option.bind_some]
 rw [hres,if_pos trivial,if_pos trivial,if_pos trivial,if_pos trivial,if_pos rfl,sameNumsS (l:=candN (distN fs ws seen) 1 ws.length) (by omega) (by omega)]
 simp only [Option.bind_some]
 rw [if_pos trivial,hasNum (by omega) _ (by omega),decide_eq_true (candN_iff.2 ⟨hi,by omega⟩)]
 simp only [Option.bind_some]
 rw [if_pos trivial]
 have fin:∀ two dist:Int,(two=0→∀ j,j < ws.length→dist≤(distN fs ws seen j:Int))→laws_FnSights.j2 (2 * k + 1) (ws.length:Int) (i:Int) (seeC fs ws[i]) seen two dist (candN (distN fs ws seen) 1 ws.length) false fs ws=some true:=fun two dist htd=>by
  rw [laws_FnSights.j2,if_neg (by decide)]
  exact sights_l0 h hi hso hsl htd ws.length 0 (2 * k) true (by omega) (by omega) (decide_eq_true fun j hj=>absurd hj (Nat.not_lt_zero _)).symm
 by_cases hc:cntN (distN fs ws seen) m ws.length > 1
 ·rw [if_pos hc] at hr
  subst hr
  rw [if_neg (by decide)]
  exact fin 8 0 (fun e=>absurd e (by decide))
 ·rw [if_neg hc] at hr
  subst hr
  rw [if_pos rfl]
  exact fin 0 (m:Int) (fun _ j hj=>by have:=hmin j hj;omega)
end
theorem FnSights (l0:List Int) (l1:List Int) (h00:l0.length≤9223372036854775807) (h01:(∀ x∈l0,(Lit.int .u8 x).wf=true)) (h10:l1.length≤9223372036854775807) (h11:(∀ x∈l1,(Lit.int .u8 x).wf=true)):∃ k,laws_FnSights.f k l0 l1=some true:=by
 obtain ⟨k,hk⟩:∃ k,6000000 < k:=⟨_,Nat.lt_succ_self _⟩
 refine ⟨2 * k + 2 + 1,?_⟩
 unfold laws_FnSights.f laws_f6big.f
 simp only [Option.bind_some]
 by_cases b0:(l0.length:Int) > 4096
 ·rw [decide_eq_true b0,if_pos rfl,laws_FnSights.j0,if_pos rfl]
 ·rw [decide_eq_false b0,if_neg (by decide)]
  by_cases b1:(l1.length:Int) > 4096
  ·rw [decide_eq_true b1,laws_FnSights.j0,if_pos rfl]
  ·have hb0:=bytes_si h01
   have hb1:=bytes_si h11
   rw [decide_eq_false b1,laws_FnSights.j0,if_neg (by decide)]
   obtain ⟨fs,ws,L,hc,q1,q2,q3,q4,q5,q6,q7⟩:=drawnCode hb0 (k:=2 * k + 2) (by omega)
   have h:DrawnC fs ws L:=⟨q1,q2,q3,q4,q5,q6,q7⟩
   rw [hc]
   simp only [Option.bind_some]
   rw [implOk_eq h.dc_b8,h.dc_ok]
   simp only [Option.bind_some]
   rw [if_pos trivial]
   by_cases hn:(ws.length:Int)=0
   ·have:ws=[]:=List.eq_nil_of_length_eq_zero (by omega)
    subst this
    rw [if_pos hn,readNone (k:=2 * k + 1) h.dc_ok]
    rfl
   ·rw [if_neg hn]
    obtain ⟨i,ei,hi⟩:=pickSi hb1 (n:=ws.length) (by omega) (by omega)
    rw [ei]
    simp only [Option.bind_some]
    rw [implSightsOf_eq h.dc_lw h.dc_b8 h.dc_f8 _ (by omega),sights_at h hi]
    simp only [Option.bind_some]
    rw [specSightsOf_eq h.dc_lw h.dc_li h.dc_b8 h.dc_f8 _ (by omega),sights_at h hi]
    simp only [Option.bind_some]
    have hil:=(h.hw _ (List.getElem_mem hi)).1
    rw [if_pos trivial,if_pos trivial,sameSights_self (by rw [seeC_length];omega)]
    simp only [Option.bind_some]
    exact sights_j1 h hb0 hb1 (by omega) hi (by omega)
end Go.Proofs.Ytgfknljhogfeaaa.G.Pure
end
