/- The law's functions, their contracts, and the plain lemmas: texts of this claim, laid together. -/
import Derived.Deep.Slices
import Derived.Deep.Fields
import Derived.ChangeSame
import Derived.OpenShut
import Derived.Lib.Join
import Derived.Lib.ItoaNum
import Derived.Lib.ParseIntB
import Derived.Lib.Atoi
import Derived.Lib.SplitLaws
import Derived.Test.YtcoepebmmgcplabGreatDoorMFnLines0
import Derived.Test.YtcoepebmmgcplabGreatDoorMFnLines1
import Derived.Test.YtcoepebmmgcplabGreatDoorMFnLines2
import Derived.Test.YtcoepebmmgcplabGreatDoorMFnLines3
section
namespace Go.Proofs.YtcoepebmmgcplabGreatDoor.G
open Go.RowKit Go.Proofs.YtcoepebmmgcplabGreatDoorW.PrintWords Go.Proofs.YtcoepebmmgcplabGreatDoorW.PrintLast Go.Proofs.YtcoepebmmgcplabGreatDoorW.PrintMore
attribute [local go_sem] max2_int min2_int max_two min_two max_three min_three max_four min_four
set_option linter.unusedVariables false
set_option linter.unusedSimpArgs false
open Go.ChangeShapes Go.WideShapes Go.Deep in
structure Opens {α:Type} (P:Program) (t:TypeId) (d:Kd α) (Wf:α→Prop):Prop where
  sz:P.cellsOf t=d.sz
  op:∀ {H:Type} {enc:TypeId × Value→H} {w:World} {base:Nat} {spare:Nat→Bool} {held:Bool} {fuel:Nat} {cs:List Value} {x:DataW H × List MemPlace},DataW.trod enc P w base spare held fuel t cs=some x→∃ a:α,d.K w a cs∧Wf a
theorem opens_int {P:Program} {t:TypeId} {k:IntKind} (ht:P.underlying t=some (.int k)) (hC:P.cellsOf t=1):Opens P t (Kd.int k) (fun n=>(Lit.int k n).wf=true) where
  sz:=hC
  op:=fun h=>by
    obtain ⟨n,rfl,_,hw⟩:=DataW.trod_int ht h
    exact ⟨n,rfl,hw⟩
theorem list_of {α:Type} {Q:Nat→α→Prop}:∀ n,(∀ i,i < n→∃ y,Q i y)→∃ l:List α,l.length=n∧∀ i y,l[i]?=some y→Q i y
  | 0,_=>⟨[],rfl,fun i y h=>by simp at h⟩
  | n + 1,h=>by
    obtain ⟨l,hl,hq⟩:=list_of n (fun i hi=>h i (by omega))
    obtain ⟨y,hy⟩:=h n (by omega)
    refine ⟨l ++ [y],by simp [hl],fun i z hz=>?_⟩
    rcases Nat.lt_or_ge i l.length with hi|hi
    · rw [List.getElem?_append_left hi] at hz
      exact hq i z hz
    · rw [List.getElem?_append_right hi] at hz
      have:i - l.length=0:=by
        rcases Nat.eq_zero_or_pos (i - l.length) with h0|h0
        · exact h0
        · rw [List.getElem?_eq_none (by simp; omega)] at hz
          cases hz
      rw [this] at hz
      have e:y=z:=by simpa using hz
      subst e
      have:i=n:=by omega
      subst this
      exact hy
theorem opens_slice {α:Type} {P:Program} {t e:TypeId} {d:Kd α} {Wf:α→Prop} (ht:P.underlying t=some (.slice e)) (hC:P.cellsOf t=1) (he:Opens P e d Wf):Opens P t (Kd.slice e d) (fun l=>l.length≤9223372036854775807∧∀ x∈l,Wf x) where
  sz:=hC
  op:=fun {H enc w base spare held fuel cs x} h=>by
    rcases Go.Deep.open_slice ht h with ⟨rfl,_⟩|⟨a,len,cap,m,n,D,Pl,rfl,hb,hl,hm,hmm,_,hi⟩
    · exact ⟨[],⟨none,0,rfl,Nat.le_refl _,rfl,by simp,fun h=>absurd h (by simp)⟩,by simp,by simp⟩
    · have hlen:len≤m:=by rw [hmm]; split <;> omega
      obtain ⟨l,hll,hq⟩:=list_of (Q:=fun i y=>(∃ c,c.length=d.sz∧d.K w y c∧∀ j u,c[j]?=some u→w.cell? (a.add (i * d.sz + j))=some u)∧Wf y) len (fun i him=>by
        obtain ⟨cs',hc,ht'⟩:=hi i (by omega)
        obtain ⟨y,hK,hW⟩:=he.op ht'
        obtain ⟨_,hcl,hat⟩:=World.cells?_some hc
        refine ⟨y,⟨cs',d.K_len hK,hK,fun j u hu=>?_⟩,hW⟩
        have hj:j < cs'.length:=(List.getElem?_eq_some_iff.1 hu).1
        have h1:=hat j (by rw [he.sz,← d.K_len hK]; exact hj)
        rw [← he.sz,← Go.Deep.add_add,h1,hu])
      refine ⟨l,⟨some a,cap,by rw [hll],by rw [hll]; exact hl,rfl,by rw [hll]; have:=hm; unfold maxLen at this; omega,fun _=>⟨a,rfl,fun j p hj=>(hq j p hj).1⟩⟩,by rw [hll]; have:=hm; unfold maxLen at this; omega,fun y hy=>?_⟩
      obtain ⟨j,hj,rfl⟩:=List.mem_iff_getElem.1 hy
      exact (hq j _ (List.getElem?_eq_getElem hj)).2
theorem op5:Opens Tryz.prog 5 (Kd.int .u8) (fun x:Int=>(Lit.int .u8 x).wf=true):=opens_int (k:=.u8) Tryz.underlying5 (by kernel_rfl)
theorem op22:Opens Tryz.prog 22 (Kd.slice 5 (Kd.int .u8)) (fun x:List Int=>(x.length≤9223372036854775807∧∀ x_∈x,(Lit.int .u8 x_).wf=true)):=opens_slice Tryz.underlying22 (by kernel_rfl) op5
end Go.Proofs.YtcoepebmmgcplabGreatDoor.G
end
section
namespace Go.Proofs.YtcoepebmmgcplabGreatDoor.G.Pure
open Go.RowKit Go.Proofs.YtcoepebmmgcplabGreatDoor.G Go.Proofs.YtcoepebmmgcplabGreatDoorW.PrintWords Go.Proofs.YtcoepebmmgcplabGreatDoorW.PrintLast Go.Proofs.YtcoepebmmgcplabGreatDoorW.PrintMore
set_option linter.unusedVariables false
set_option linter.unusedSimpArgs false
theorem w64 {n:Int} (h0:-9223372036854775808≤n) (h1:n≤9223372036854775807):wrap64 n=n:=by
 unfold wrap64
 omega
theorem i8b {n:Int} (h:(Lit.int .i8 n).wf=true):-128≤n∧n≤127:=by
 simp [Lit.wf,IntKind.min,IntKind.max,IntKind.signed,IntKind.bits] at h
 omega
theorem i8w {n:Int} (h0:-128≤n) (h1:n≤127):IntKind.i8.wrap n=n:=by
 simp only [IntKind.wrap,IntKind.signed,IntKind.bits]
 simp
 omega
theorem loop_inv {σ γ:Type} (L:Nat→σ→Option γ) (n:Nat) (I:Nat→σ→Prop) (R:γ→Prop)
  (hs:∀ k i s,i < n→I i s→(∃ s',I (i + 1) s'∧L (k + 1) s=L k s')∨(∃ r,R r∧L (k + 1) s=some r))
  (he:∀ k s,I n s→∃ r,R r∧L (k + 1) s=some r):∀ k s,I 0 s→n < k→∃ r,R r∧L k s=some r:=by
 have go:∀ d i k s,i + d=n→I i s→d < k→∃ r,R r∧L k s=some r:=by
  intro d
  induction d with
  | zero =>
   intro i k s hi hI hk
   obtain ⟨k,rfl⟩:∃ m,k=m + 1:=⟨k - 1,by omega⟩
   obtain rfl:i=n:=by omega
   exact he k s hI
  | succ d ih =>
   intro i k s hi hI hk
   obtain ⟨k,rfl⟩:∃ m,k=m + 1:=⟨k - 1,by omega⟩
   rcases hs k i s (by omega) hI with ⟨s',hI',h⟩|h
   ·rw [h]
    exact ih (i + 1) k s' (by omega) hI' (by omega)
   ·exact h
 intro k s hI hk
 exact go n 0 k s (by omega) hI hk
theorem rd_nat {l:List Int} {i:Nat} (h:i < l.length):rd l (i:Int)=l[i]:=by
 simp [rd,List.getD_eq_getElem?_getD,List.getElem?_eq_getElem h]
abbrev Sp:=S52
def shipIn (x:Sp):Prop:=0≤x.f0∧x.f0≤6∧0≤x.f1∧x.f1≤120∧0≤x.f2∧x.f2≤60
theorem rd_impl_Ship {l:List (S52)} {i:Nat} (h:i < l.length):rd_T52 l (i:Int)=l[i]:=by
 simp [rd_T52,List.getD_eq_getElem?_getD,List.getElem?_eq_getElem h]
abbrev Tm:=S46
def scan (pre:List Tm) (a:Nat):Nat→Int × Int
 | 0=>(-1,-1)
 | n + 1=>match scan pre a n with
  | (f,s)=>match pre[a + n]? with
   | some t=>if 0≤t.f3∧(f < 0∨t.f3 < s) then (((a + n:Nat):Int),t.f3) else (f,s)
   | none=>(f,s)
def dueL (pre:List Tm) (x:Sp) (read:Int):Tm :=
 if pre.length=0 then ⟨-1,0,0,x.f2⟩ else
  match scan pre (pre.length - x.f0.toNat) (pre.length - (pre.length - x.f0.toNat)) with
  | (f,s)=>if 0≤f then ⟨f,s,s + read,s + read + x.f2⟩ else ⟨-1,-1,-1,-1⟩
def timesGo (ship more:Int):List Sp→List Tm→List Tm
 | [],acc=>acc
 | x :: xs,acc=>timesGo ship more xs (acc ++ [dueL acc x (x.f1 + if (acc.length:Int)=ship then more else 0)])
def timesL (ship more:Int) (l:List Sp):List Tm:=timesGo ship more l []
structure TimesOK (ts:List Tm):Prop where
 first:∀ t,ts[0]?=some t→t.f0=-1∧t.f1=0∧t.f2=0∧0≤t.f3
 bound:∀ (i:Nat) t,ts[i]?=some t→t.f3≤200 * ((i:Int) + 1)∧t.f2≤t.f3∧t.f1≤t.f2
 later:∀ (i:Nat) t,ts[i]?=some t→0 < i→(t=⟨-1,-1,-1,-1⟩)∨(0≤t.f0∧t.f0 < (i:Int)∧0≤t.f1∧∃ u,ts[t.f0.toNat]?=some u∧u.f3=t.f1)
theorem TimesOK.nil:TimesOK []:=⟨fun t h=>by simp at h,fun i t h=>by simp at h,fun i t h=>by simp at h⟩
theorem scan_spec (pre:List Tm) (hok:TimesOK pre) (a n:Nat) (h:a + n≤pre.length) :
  (scan pre a n=(-1,-1)∨(0≤(scan pre a n).1∧(scan pre a n).1 < ((a + n:Nat):Int)∧0≤(scan pre a n).2∧(scan pre a n).2≤200 * ((a + n:Nat):Int)∧∃ u,pre[(scan pre a n).1.toNat]?=some u∧u.f3=(scan pre a n).2)):=by
 induction n with
 | zero=>exact .inl rfl
 | succ n ih =>
  have hi:a + n < pre.length:=by omega
  have e:pre[a + n]?=some pre[a + n]:=List.getElem?_eq_getElem hi
  have hb:=hok.bound _ _ e
  obtain ih:=ih (by omega)
  rcases hs:scan pre a n with ⟨f,s⟩
  rw [hs] at ih
  simp only [scan,hs,e]
  split
  ·right
   exact ⟨by simp only;omega,by simp only;omega,by simp only;omega,by simp only;omega,pre[a + n],by show pre[((a + n:Nat):Int).toNat]?=_;rw [Int.toNat_natCast];exact e,rfl⟩
  ·rcases ih with ih|ih
   ·exact .inl ih
   ·right
    exact ⟨ih.1,by omega,ih.2.2.1,by omega,ih.2.2.2.2⟩
theorem due_ok {pre:List Tm} (hok:TimesOK pre) {x:Sp} {read:Int} (h2:0≤x.f2∧x.f2≤60) (hr:0≤read∧read≤120):TimesOK (pre ++ [dueL pre x read]):=by
 have hs:=scan_spec pre hok (pre.length - x.f0.toNat) (pre.length - (pre.length - x.f0.toNat)) (by omega)
 rw [show pre.length - x.f0.toNat + (pre.length - (pre.length - x.f0.toNat))=pre.length by omega] at hs
 unfold dueL
 rcases hsc:scan pre (pre.length - x.f0.toNat) (pre.length - (pre.length - x.f0.toNat)) with ⟨f,s⟩
 rw [hsc] at hs
 simp only at hs
 refine ⟨fun t ht=>?_,fun i t ht=>?_,fun i t ht hi=>?_⟩
 ·rcases Nat.eq_zero_or_pos pre.length with h0|h0
  ·rw [List.getElem?_append_right (by omega),if_pos h0] at ht
   simp [h0] at ht
   subst ht
   exact ⟨rfl,rfl,rfl,h2.1⟩
  ·rw [List.getElem?_append_left h0] at ht
   exact hok.first t ht
 ·rcases Nat.lt_or_ge i pre.length with hi|hi
  ·rw [List.getElem?_append_left hi] at ht
   exact hok.bound i t ht
  ·rw [List.getElem?_append_right hi] at ht
   have h0:i - pre.length=0:=by
    rcases Nat.eq_zero_or_pos (i - pre.length) with h|h
    ·exact h
    ·rw [List.getElem?_eq_none (by simp;omega)] at ht
     cases ht
   rw [h0] at ht
   simp only [List.getElem?_cons_zero,Option.some.injEq] at ht
   split at ht
   ·subst ht
    simp only
    omega
   ·split at ht
    ·subst ht
     rcases hs with hs|hs
     ·simp only [Prod.mk.injEq] at hs
      omega
     ·simp only
      omega
    ·subst ht
     simp only
     omega
 ·rcases Nat.lt_or_ge i pre.length with hl|hl
  ·rw [List.getElem?_append_left hl] at ht
   rcases hok.later i t ht hi with h|⟨h1,h2,h3,u,hu,h4⟩
   ·exact .inl h
   ·refine .inr ⟨h1,h2,h3,u,?_,h4⟩
    rw [List.getElem?_append_left (by omega)]
    exact hu
  ·rw [List.getElem?_append_right hl] at ht
   have h0:i - pre.length=0:=by
    rcases Nat.eq_zero_or_pos (i - pre.length) with h|h
    ·exact h
    ·rw [List.getElem?_eq_none (by simp;omega)] at ht
     cases ht
   rw [h0] at ht
   simp only [List.getElem?_cons_zero,Option.some.injEq] at ht
   rw [if_neg (by omega)] at ht
   split at ht
   ·rcases hs with hs|⟨h1,h2,h3,h4,u,hu,h5⟩
    ·simp only [Prod.mk.injEq] at hs
     omega
    ·subst ht
     refine .inr ⟨h1,by simp only;omega,h3,u,?_,h5⟩
     simp only
     rw [List.getElem?_append_left (by omega)]
     exact hu
   ·exact .inl ht.symm
theorem timesGo_len (ship more:Int):∀ (l:List Sp) (acc:List Tm),(timesGo ship more l acc).length=acc.length + l.length
 | [],acc=>by simp [timesGo]
 | x :: xs,acc=>by
  simp only [timesGo]
  rw [timesGo_len ship more xs]
  simp
  omega
theorem timesL_len (ship more:Int) (l:List Sp):(timesL ship more l).length=l.length:=by
 simp [timesL,timesGo_len]
theorem timesGo_ok (ship more:Int):∀ (l:List Sp) (acc:List Tm),TimesOK acc→(∀ x∈l,0≤x.f2∧x.f2≤60)→(∀ i x,l[i]?=some x→0≤x.f1 + (if ((acc.length + i:Nat):Int)=ship then more else 0)∧x.f1 + (if ((acc.length + i:Nat):Int)=ship then more else 0)≤120)→TimesOK (timesGo ship more l acc)
 | [],acc,h,_,_=>h
 | x :: xs,acc,h,h2,hr=>by
  simp only [timesGo]
  have h0:=hr 0 x rfl
  refine timesGo_ok ship more xs _ (due_ok h (h2 x (by simp)) (by simpa using h0)) (fun y hy=>h2 y (by simp [hy])) (fun i y hy=>?_)
  have:=hr (i + 1) y (by simpa using hy)
  simp only [List.length_append,List.length_singleton]
  rw [show acc.length + 1 + i=acc.length + (i + 1) by omega]
  exact this
theorem rd_impl_Times {l:List Tm} {i:Nat} (h:i < l.length):rd_T46 l (i:Int)=l[i]:=by
  simp [rd_T46,List.getD_eq_getElem?_getD,List.getElem?_eq_getElem h]
def tup (t:Tm):Int × Int × Int × Int:=(t.f0,t.f1,t.f2,t.f3)
theorem due_eq (k:Nat) (line:List Sp) (pre:List Tm) (i:Nat) (read:Int) (hi:i < line.length) (hp:pre.length=i) (h20:i < 20) (hok:TimesOK pre) (hx:shipIn line[i]) (hr:0≤read∧read≤120) (hk:8 < k) :
    spec_l06Due.f k line pre (i:Int) read=some (tup (dueL pre line[i] read)):=by
  obtain ⟨s0,s1,s2,s3,s4,s5⟩:=hx
  unfold spec_l06Due.f
  rw [if_pos (by omega),if_pos (by omega),rd_impl_Ship hi]
  rw [w64 (n:=(line[i]).f2) (by omega) (by omega),w64 (n:=(line[i]).f0) (by omega) (by omega)]
  by_cases h0:(i:Int)=0
  · rw [if_pos h0]
    simp [dueL,tup,hp,show i=0 by omega]
  · rw [if_neg h0,w64 (by omega) (by omega)]
    have hsc:=fun n (hn:(i - (line[i]).f0.toNat) + n≤pre.length)=>scan_spec pre hok (i - (line[i]).f0.toNat) n hn
    generalize line[i]=x at *
    obtain ⟨r,hr',h⟩:=loop_inv (fun k (s:Int × Int × Int)=>spec_l06Due.l0 k pre (i:Int) read x.f2 s.1 s.2.1 s.2.2 (-1) (-1)) x.f0.toNat
      (fun j s=>s.1=(i:Int) - x.f0 + j∧(s.2.1,s.2.2)=scan pre (i - x.f0.toNat) ((i + j - x.f0.toNat) - (i - x.f0.toNat)))
      (fun r=>r=tup (dueL pre x read))
      (fun k j s hj ⟨h1,h2⟩=>by
        obtain ⟨p,f,s⟩:=s
        simp only at h1 h2
        subst h1
        refine .inl ?_
        by_cases hneg:0≤(i:Int) - x.f0 + j
        · obtain ⟨q,hq⟩:∃ q:Nat,(i:Int) - x.f0 + j=(q:Int):=⟨((i:Int) - x.f0 + j).toNat,by omega⟩
          have hql:q < pre.length:=by omega
          have hb:=hok.bound q _ (List.getElem?_eq_getElem hql)
          have hn:i - x.f0.toNat + (i + j - x.f0.toNat - (i - x.f0.toNat))=q:=by omega
          have hn2:i + (j + 1) - x.f0.toNat - (i - x.f0.toNat)=(i + j - x.f0.toNat - (i - x.f0.toNat)) + 1:=by omega
          refine ⟨((q:Int) + 1,(scan pre (i - x.f0.toNat) (i + (j + 1) - x.f0.toNat - (i - x.f0.toNat))).1,(scan pre (i - x.f0.toNat) (i + (j + 1) - x.f0.toNat - (i - x.f0.toNat))).2),⟨by simp only; omega,rfl⟩,?_⟩
          rw [hn2]
          simp only [scan,← h2,hn,List.getElem?_eq_getElem hql]
          rw [hq]
          simp only [spec_l06Due.l0]
          rw [if_pos (by omega),if_pos (by omega),if_pos (by omega),if_pos (by omega),rd_impl_Times hql,w64 (n:=(q:Int) + 1) (by omega) (by omega),i8w (n:=(q:Int)) (by omega) (by omega)]
          by_cases c1:0≤pre[q].f3
          · rw [if_pos (by omega)]
            by_cases c2:f < 0
            · rw [if_pos c2,if_pos ⟨c1,.inl c2⟩]
            · rw [if_neg c2]
              by_cases c3:pre[q].f3 < s
              · rw [if_pos c3,if_pos ⟨c1,.inr c3⟩]
              · rw [if_neg c3,if_neg (fun h=>h.2.elim c2 c3)]
          · rw [if_neg (by omega),if_neg (fun h=>c1 h.1)]
        · have hn:i + j - x.f0.toNat - (i - x.f0.toNat)=0:=by omega
          have hn2:i + (j + 1) - x.f0.toNat - (i - x.f0.toNat)=0:=by omega
          refine ⟨((i:Int) - x.f0 + j + 1,f,s),⟨by simp only; omega,?_⟩,?_⟩
          · rw [hn2]; rw [hn] at h2; exact h2
          · simp only [spec_l06Due.l0]
            rw [if_pos (by omega),if_neg (by omega),w64 (by omega) (by omega)])
      (fun k s ⟨h1,h2⟩=>by
        obtain ⟨p,f,s⟩:=s
        simp only at h1 h2
        have hp':p=(i:Int):=by omega
        subst hp'
        have hn:i + x.f0.toNat - x.f0.toNat - (i - x.f0.toNat)=pre.length - (pre.length - x.f0.toNat):=by omega
        refine ⟨_,rfl,?_⟩
        have hs:=hsc (pre.length - (pre.length - x.f0.toNat)) (by omega)
        rw [hn] at h2
        rw [← h2] at hs
        simp only [spec_l06Due.l0]
        rw [if_neg (by omega)]
        unfold dueL
        rw [if_neg (show ¬ pre.length=0 by omega),show pre.length - x.f0.toNat=i - x.f0.toNat by omega]
        rw [show pre.length - x.f0.toNat=i - x.f0.toNat by omega] at h2
        rw [← h2]
        simp only
        by_cases c:0≤f
        · rw [if_pos (by omega),if_pos c]
          rcases hs with hs|hs
          · simp only [Prod.mk.injEq] at hs
            omega
          · simp only at hs
            rw [w64 (n:=s + read) (by omega) (by omega),w64 (by omega) (by omega)]
            rfl
        · rw [if_neg (by omega),if_neg c]
          rcases hs with hs|hs
          · simp only [Prod.mk.injEq] at hs
            rw [hs.1,hs.2]
            rfl
          · simp only at hs
            omega) k ((i:Int) - x.f0,-1,-1) ⟨by simp,by
        rw [show i + 0 - x.f0.toNat - (i - x.f0.toNat)=0 by omega]
        rfl⟩ (by omega)
    subst hr'
    exact h
theorem specTimes_eq (k:Nat) (line:List Sp) (ship more:Int) (hl:line.length≤20) (hx:∀ x∈line,shipIn x) (hr:∀ (i:Nat) (x:Sp),line[i]?=some x→0≤x.f1 + (if (i:Int)=ship then more else 0)∧x.f1 + (if (i:Int)=ship then more else 0)≤120) (hm:0≤more∧more≤60) (hk:40 < k) :
    spec_l06Times.f k line ship more=some (timesL ship more line):=by
  unfold spec_l06Times.f
  have go:∀ (rest:List Sp) (k:Nat) (acc:List Tm),line.drop acc.length=rest→TimesOK acc→acc.length≤line.length→rest.length + 10 < k→spec_l06Times.l0 k line ship more acc (acc.length:Int)=some (timesGo ship more rest acc):=by
    intro rest
    induction rest with
    | nil =>
      intro k acc hd hok hle hk
      obtain ⟨k,rfl⟩:∃ m,k=m + 1:=⟨k - 1,by omega⟩
      have:=List.drop_eq_nil_iff.1 hd
      simp only [spec_l06Times.l0]
      rw [if_neg (by omega)]
      rfl
    | cons x xs ih =>
      intro k acc hd hok hle hk
      simp only [List.length_cons] at hk
      obtain ⟨k,rfl⟩:∃ m,k=m + 1:=⟨k - 1,by omega⟩
      have hlt:acc.length < line.length:=by
        have:=congrArg List.length hd
        simp at this
        omega
      have hx0:line[acc.length]=x:=by
        have h1:=List.drop_eq_getElem_cons hlt
        rw [hd] at h1
        exact (List.cons.inj h1).1.symm
      have hxs:line.drop (acc.length + 1)=xs:=by
        have h1:=List.drop_eq_getElem_cons hlt
        rw [hd] at h1
        exact (List.cons.inj h1).2.symm
      have hmem:x∈line:=hx0 ▸ List.getElem_mem hlt
      obtain ⟨s0,s1,s2,s3,s4,s5⟩:=hx x hmem
      have hr':=hr acc.length x (by rw [List.getElem?_eq_getElem hlt,hx0])
      simp only [spec_l06Times.l0]
      rw [if_pos (by omega),if_pos (by omega),rd_impl_Ship hlt,hx0]
      rw [w64 (n:=x.f1) (by omega) (by omega),w64 (n:=(acc.length:Int) + 1) (by omega) (by omega)]
      have step:∀ read,read=x.f1 + (if (acc.length:Int)=ship then more else 0) → 
          ((spec_l06Due.f k line acc (acc.length:Int) read).bind fun bt=>(if acc.length < 4398046511104 then (spec_l06Times.l0 k line ship more (acc ++ [(⟨bt.1,bt.2.1,bt.2.2.1,bt.2.2.2⟩:Tm)]) ((acc.length:Int) + 1)) else none))=some (timesGo ship more (x :: xs) acc):=by
        intro read hread
        rw [due_eq k line acc acc.length read hlt rfl (by omega) hok (by rw [hx0]; exact hx x hmem) (by rw [hread]; exact hr') (by omega)]
        simp only [Option.bind_some]
        rw [if_pos (by omega),hx0]
        have h2:=ih k (acc ++ [dueL acc x read]) (by simpa using hxs) (due_ok hok ⟨s4,s5⟩ (by rw [hread]; exact hr')) (by simp; omega) (by omega)
        rw [show ((acc ++ [dueL acc x read]).length:Int)=(acc.length:Int) + 1 by simp] at h2
        simp only [tup,timesGo]
        rw [← hread]
        exact h2
      by_cases c:(acc.length:Int)=ship
      · rw [if_pos c]
        rw [if_pos c] at hr'
        rw [w64 (n:=x.f1 + more) (by omega) (by omega)]
        exact step _ (by rw [if_pos c])
      · rw [if_neg c]
        exact step _ (by rw [if_neg c,Int.add_zero])
  exact go line k [] rfl TimesOK.nil (by simp) (by omega)
theorem implInner (k:Nat) (acc:List Tm) (line:List Sp) (x:Sp) (i a:Nat) (len x12:Int) (hi:acc.length=i) (h20:i < 20) (h1i:0 < i) (hok:TimesOK acc) (hx:shipIn x) (ha:a≤i) :
  ∀ d n,a + n + d=i→impl_times.l1 (k + d + 1) acc (i:Int) ((a + n:Nat):Int) line len x12 x.f0 x.f1 x.f2 (scan acc a n).1 (scan acc a n).2 (-1) (-1) =
   impl_times.l1 (k + 1) acc (i:Int) (i:Int) line len x12 x.f0 x.f1 x.f2 (scan acc a (i - a)).1 (scan acc a (i - a)).2 (-1) (-1):=by
 intro d
 induction d with
 | zero =>
  intro n hn
  rw [show i - a=n by omega,show a + n=i by omega]
 | succ d ih =>
  intro n hn
  have hql:a + n < acc.length:=by omega
  have hb:=hok.bound (a + n) _ (List.getElem?_eq_getElem hql)
  have hsc:=scan_spec acc hok a n (by omega)
  rw [← ih (n + 1) (by omega)]
  rw [show k + (d + 1) + 1=(k + d + 1) + 1 by omega]
  conv=>lhs;unfold impl_times.l1
  rw [if_pos (by omega),if_pos (by omega),if_pos (by omega),rd_impl_Times hql,w64 (n:=((a + n:Nat):Int) + 1) (by omega) (by omega),i8w (n:=((a + n:Nat):Int)) (by omega) (by omega)]
  rw [show ((a + (n + 1):Nat):Int)=((a + n:Nat):Int) + 1 by omega]
  have hs1:scan acc a (n + 1)=if 0≤acc[a + n].f3∧((scan acc a n).1 < 0∨acc[a + n].f3 < (scan acc a n).2) then (((a + n:Nat):Int),acc[a + n].f3) else scan acc a n:=by
   rcases hs:scan acc a n with ⟨f,s⟩
   simp only [scan,hs,List.getElem?_eq_getElem hql]
  rw [hs1]
  have hneg:(scan acc a n).1 < 0 ↔ (scan acc a n).2 < 0:=by
   rcases hsc with h|h
   ·rw [h]
   ·omega
  by_cases c1:0≤acc[a + n].f3
  ·rw [if_pos (by omega)]
   by_cases c2:(scan acc a n).2 < 0
   ·rw [if_pos c2,if_pos ⟨c1,.inl (hneg.2 c2)⟩]
   ·rw [if_neg c2]
    by_cases c3:acc[a + n].f3 < (scan acc a n).2
    ·rw [if_pos c3,if_pos ⟨c1,.inr c3⟩]
    ·rw [if_neg c3,if_neg (fun h=>h.2.elim (fun h=>c2 (hneg.1 h)) c3)]
  ·rw [if_neg (by omega),if_neg (fun h=>c1 h.1)]
theorem implRound (k:Nat) (acc:List Tm) (line:List Sp) (x:Sp) (hlt:acc.length < line.length) (h20:line.length≤20) (hx0:line[acc.length]=x) (hok:TimesOK acc) (hx:shipIn x) :
  impl_times.l0 (k + (acc.length - (acc.length - x.f0.toNat)) + 3) acc line (line.length:Int) (acc.length:Int)=impl_times.l0 k (acc ++ [dueL acc x x.f1]) line (line.length:Int) ((acc.length:Int) + 1):=by
 obtain ⟨s0,s1,s2,s3,s4,s5⟩:=hx
 have hxx:shipIn x:=⟨s0,s1,s2,s3,s4,s5⟩
 rcases Nat.eq_zero_or_pos acc.length with h0|h0
 ·rw [show k + (acc.length - (acc.length - x.f0.toNat)) + 3=k + 3 by omega]
  conv=>lhs;unfold impl_times.l0
  rw [if_pos (by omega),if_pos (by omega),if_pos (by omega),if_pos (by omega),rd_impl_Ship hlt,hx0]
  conv=>lhs;unfold impl_times.j1
  rw [w64 (n:=x.f0) (by omega) (by omega),w64 (by omega) (by omega)]
  rw [show mx ((acc.length:Int) - x.f0) 0=(acc.length:Int) by unfold mx;split <;> omega]
  conv=>lhs;unfold impl_times.l1
  rw [if_neg (by omega),if_pos (by omega),if_pos (by omega),if_pos (by omega),w64 (n:=x.f2) (by omega) (by omega),w64 (n:=x.f2) (by omega) (by omega),w64 (n:=(acc.length:Int) + 1) (by omega) (by omega)]
  simp [dueL,h0]
 ·obtain ⟨a,ha⟩:∃ a,a=acc.length - x.f0.toNat:=⟨_,rfl⟩
  rw [← ha]
  conv=>lhs;unfold impl_times.l0
  rw [if_pos (by omega),if_pos (by omega),if_pos (by omega),if_neg (by omega),rd_impl_Ship hlt,hx0]
  conv=>lhs;unfold impl_times.j1
  rw [w64 (n:=x.f0) (by omega) (by omega),w64 (n:=(acc.length:Int) - x.f0) (by omega) (by omega)]
  rw [show mx ((acc.length:Int) - x.f0) 0=((a + 0:Nat):Int) by unfold mx;split <;> omega]
  have h1:=implInner k acc line x acc.length a (line.length:Int) (acc.length:Int) rfl (by omega) h0 hok hxx (by omega) (acc.length - a) 0 (by omega)
  simp only [scan] at h1
  rw [h1]
  have hsc:=scan_spec acc hok a (acc.length - a) (by omega)
  have hd:dueL acc x x.f1=if 0≤(scan acc a (acc.length - a)).1 then ⟨(scan acc a (acc.length - a)).1,(scan acc a (acc.length - a)).2,(scan acc a (acc.length - a)).2 + x.f1,(scan acc a (acc.length - a)).2 + x.f1 + x.f2⟩ else ⟨-1,-1,-1,-1⟩:=by
   unfold dueL
   rw [if_neg (show ¬ acc.length=0 by omega),← ha]
  rw [hd]
  rcases hsc with h|h
  ·rw [h]
   conv=>lhs;unfold impl_times.l1
   simp only
   rw [if_neg (by omega),if_neg (by omega),if_pos (by omega),if_neg (by omega),w64 (by omega) (by omega)]
  ·conv=>lhs;unfold impl_times.l1
   rw [if_neg (by omega),if_pos (by omega),if_neg (by omega),if_pos (by omega),if_pos h.1]
   rw [w64 (n:=x.f1) (by omega) (by omega),w64 (n:=x.f2) (by omega) (by omega),w64 (n:=(scan acc a (acc.length - a)).2 + x.f1) (by omega) (by omega),w64 (n:=(scan acc a (acc.length - a)).2 + x.f1 + x.f2) (by omega) (by omega),w64 (n:=(acc.length:Int) + 1) (by omega) (by omega)]
theorem timesGo_plain (xs:List Sp) (acc:List Tm):∀ x,timesGo (-1) 0 (x :: xs) acc=timesGo (-1) 0 xs (acc ++ [dueL acc x x.f1]):=by
 intro x
 simp only [timesGo]
 rw [if_neg (by omega),Int.add_zero]
theorem implTimes_eq (k:Nat) (line:List Sp) (hl:line.length≤20) (hx:∀ x∈line,shipIn x) (hk:200 < k):impl_times.f k line=some (timesL (-1) 0 line):=by
 have go:∀ (rest:List Sp) (k:Nat) (acc:List Tm),line.drop acc.length=rest→TimesOK acc→acc.length≤line.length→9 * rest.length < k→impl_times.l0 k acc line (line.length:Int) (acc.length:Int)=some (timesGo (-1) 0 rest acc):=by
  intro rest
  induction rest with
  | nil =>
   intro k acc hd hok hle hk
   obtain ⟨k,rfl⟩:∃ m,k=m + 1:=⟨k - 1,by omega⟩
   have:=List.drop_eq_nil_iff.1 hd
   unfold impl_times.l0
   rw [if_neg (by omega)]
   rfl
  | cons x xs ih =>
   intro k acc hd hok hle hk
   simp only [List.length_cons] at hk
   have hlt:acc.length < line.length:=by
    have:=congrArg List.length hd
    simp at this
    omega
   have hx0:line[acc.length]=x:=by
    have h1:=List.drop_eq_getElem_cons hlt
    rw [hd] at h1
    exact (List.cons.inj h1).1.symm
   have hxs:line.drop (acc.length + 1)=xs:=by
    have h1:=List.drop_eq_getElem_cons hlt
    rw [hd] at h1
    exact (List.cons.inj h1).2.symm
   have hmem:x∈line:=hx0 ▸ List.getElem_mem hlt
   have hxx:=hx x hmem
   obtain ⟨s0,s1,s2,s3,s4,s5⟩:=hxx
   obtain ⟨m,rfl,hm⟩:∃ m,k=m + (acc.length - (acc.length - x.f0.toNat)) + 3∧9 * xs.length < m:=⟨k - (acc.length - (acc.length - x.f0.toNat)) - 3,by omega,by omega⟩
   rw [implRound m acc line x hlt hl hx0 hok (hx x hmem),timesGo_plain]
   have h2:=ih m (acc ++ [dueL acc x x.f1]) (by simpa using hxs) (due_ok hok ⟨s4,s5⟩ ⟨s2,s3⟩) (by simp;omega) hm
   rw [show ((acc ++ [dueL acc x x.f1]).length:Int)=(acc.length:Int) + 1 by simp] at h2
   exact h2
 unfold impl_times.f
 exact go line k [] rfl TimesOK.nil (by simp) (by omega)
def lastAt (ts:List Tm):Nat→Nat
 | 0=>0
 | i + 1=>if ((ts.getD (lastAt ts i) z46).f2) < ((ts.getD i z46).f2) then i else lastAt ts i
theorem lastAt_lt (ts:List Tm) (i:Nat) (h:0 < i):lastAt ts i < i:=by
 induction i with
 | zero=>omega
 | succ i ih =>
  simp only [lastAt]
  split
  ·omega
  ·rcases Nat.eq_zero_or_pos i with h0|h0
   ·subst h0;simp [lastAt]
   ·have:=ih h0;omega
theorem getD_in {l:List Tm} {i:Nat} (h:i < l.length):l.getD i z46=l[i]:=by
 simp [List.getD_eq_getElem?_getD,List.getElem?_eq_getElem h]
theorem rd_getD (l:List Tm) (i:Nat):rd_T46 l (i:Int)=l.getD i z46:=by
 simp [rd_T46]
theorem implLast_eq (k:Nat) (ts:List Tm) (h0:1≤ts.length) (hc:(ts.getD 0 z46).f2=0) (hl:ts.length≤1048576) (hk:ts.length < k) :
  impl_allClosed.l0 k (-1) 0 ts (ts.length:Int) 0=some ((ts.getD (lastAt ts ts.length) z46).f2,((lastAt ts ts.length:Nat):Int)):=by
 obtain ⟨r,hr,h⟩:=loop_inv (fun k (s:Int × Int × Int)=>impl_allClosed.l0 k s.1 s.2.1 ts (ts.length:Int) s.2.2) ts.length
  (fun i s=>s.2.2=(i:Int)∧(s.1,s.2.1)=if i=0 then ((-1:Int),(0:Int)) else ((ts.getD (lastAt ts i) z46).f2,((lastAt ts i:Nat):Int))) (fun r=>r=((ts.getD (lastAt ts ts.length) z46).f2,((lastAt ts ts.length:Nat):Int)))
  (fun k i s hi ⟨h1,h2⟩=>by
   obtain ⟨m,c,x⟩:=s
   simp only at h1 h2
   subst h1
   have hn:((ts.getD (lastAt ts (i + 1)) z46).f2,((lastAt ts (i + 1):Nat):Int))=if (ts.getD i z46).f2 > m then ((ts.getD i z46).f2,(i:Int)) else (m,c):=by
    by_cases hi0:i=0
    ·subst hi0
     rw [if_pos rfl] at h2
     simp only [Prod.mk.injEq] at h2
     rw [h2.1,h2.2,if_pos (by rw [hc];omega)]
     simp [lastAt]
    ·rw [if_neg hi0] at h2
     simp only [Prod.mk.injEq] at h2
     rw [show lastAt ts (i + 1)=if ((ts.getD (lastAt ts i) z46).f2) < ((ts.getD i z46).f2) then i else lastAt ts i from rfl,h2.1,h2.2]
     split <;> rfl
   refine .inl ⟨((ts.getD (lastAt ts (i + 1)) z46).f2,((lastAt ts (i + 1):Nat):Int),((i + 1:Nat):Int)),⟨rfl,by rw [if_neg (by omega)]⟩,?_⟩
   simp only [impl_allClosed.l0]
   rw [if_pos (by omega),if_pos (by omega),if_pos (by omega),rd_getD,w64 (n:=(i:Int) + 1) (by omega) (by omega)]
   by_cases c1:(ts.getD i z46).f2 > m
   ·rw [if_pos c1] at hn ⊢
    simp only [Prod.mk.injEq] at hn
    rw [hn.1,hn.2]
    rfl
   ·rw [if_neg c1] at hn ⊢
    simp only [Prod.mk.injEq] at hn
    rw [hn.1,hn.2]
    rfl)
  (fun k s ⟨h1,h2⟩=>by
   obtain ⟨m,c,x⟩:=s
   simp only at h1 h2
   subst h1
   rw [if_neg (by omega)] at h2
   refine ⟨_,rfl,?_⟩
   simp only [impl_allClosed.l0]
   rw [if_neg (by omega),h2]) k (-1,0,0) ⟨rfl,rfl⟩ hk
 subst hr
 exact h
def closedL (line:List Sp):Int × Int:=(((timesL (-1) 0 line).getD (lastAt (timesL (-1) 0 line) line.length) z46).f2,((lastAt (timesL (-1) 0 line) line.length:Nat):Int))
theorem timesL_ok {line:List Sp} (h2:∀ x∈line,shipIn x):TimesOK (timesL (-1) 0 line) :=
 timesGo_ok (-1) 0 line [] TimesOK.nil (fun x hx=>by have:=h2 x hx;unfold shipIn at this;omega) (fun i x hx=>by
  have:=h2 x (List.mem_of_getElem? hx)
  unfold shipIn at this
  rw [if_neg (by simp only [List.length_nil];omega)]
  omega)
theorem implAllClosedIn_eq (k:Nat) (line:List Sp) (h0:1≤line.length) (hl:line.length≤20) (hx:∀ x∈line,shipIn x) (hk:300 < k):impl_allClosed.f k line=some (closedL line):=by
 unfold impl_allClosed.f
 rw [implTimes_eq k line hl hx (by omega)]
 simp only [Option.bind_some]
 have hlen:=timesL_len (-1) 0 line
 have hf:=(timesL_ok hx).first _ (List.getElem?_eq_getElem (by rw [hlen];omega))
 rw [implLast_eq k _ (by omega) (by rw [getD_in (by rw [hlen];omega)];exact hf.2.2.1) (by omega) (by omega)]
 unfold closedL
 rw [hlen]
def wfShip (x:Sp):Prop:=(Lit.int .i8 x.f0).wf=true∧(Lit.int .i8 x.f1).wf=true∧(Lit.int .i8 x.f2).wf=true
def validB (l:List Sp):Bool:=decide (1≤(l.length:Int)) && decide ((l.length:Int)≤20) && !l.any shipBad
theorem implValid_eq (l:List Sp):impl_ValidLine.f l=some (validB l):=rfl
theorem shipBad_wf {x:Sp} (h:wfShip x):shipBad x=!(decide (0≤x.f0) && decide (x.f0≤6) && (decide (0≤x.f1) && decide (x.f1≤60)) && (decide (0≤x.f2) && decide (x.f2≤60))):=by
 obtain ⟨h0,h1,h2⟩:=h
 have b0:=i8b h0
 have b1:=i8b h1
 have b2:=i8b h2
 unfold shipBad
 rw [w64 (n:=x.f0) (by omega) (by omega),w64 (n:=x.f1) (by omega) (by omega),w64 (n:=x.f2) (by omega) (by omega)]
structure ValidL (l:List Sp):Prop where
 pos:1≤l.length
 most:l.length≤20
 ships:∀ x∈l,0≤x.f0∧x.f0≤6∧0≤x.f1∧x.f1≤60∧0≤x.f2∧x.f2≤60
theorem ValidL.in_ {l:List Sp} (h:ValidL l):∀ x∈l,shipIn x:=fun x hx=>by
 have:=h.ships x hx
 unfold shipIn
 omega
theorem validB_iff {l:List Sp} (hw:∀ x∈l,wfShip x):validB l=true ↔ ValidL l:=by
 constructor
 ·intro h
  unfold validB at h
  simp only [Bool.and_eq_true,decide_eq_true_eq,Bool.not_eq_true',List.any_eq_false] at h
  obtain ⟨⟨h1,h2⟩,h3⟩:=h
  refine ⟨by omega,by omega,fun x hx=>?_⟩
  have h4:=h3 x hx
  rw [shipBad_wf (hw x hx)] at h4
  simp at h4
  omega
 ·intro h
  unfold validB
  simp only [Bool.and_eq_true,decide_eq_true_eq,Bool.not_eq_true',List.any_eq_false]
  refine ⟨⟨by have:=h.pos;omega,by have:=h.most;omega⟩,fun x hx=>?_⟩
  rw [shipBad_wf (hw x hx)]
  have:=h.ships x hx
  simp
  omega
theorem in_eq (n lo hi:Int):spec_l00In.f n lo hi=some (decide (lo≤n) && decide (n≤hi)):=by
 unfold spec_l00In.f
 split
 ·simp [*]
 ·simp [*]
theorem specOk_eq (k:Nat) (l:List Sp) (hw:∀ x∈l,wfShip x) (hl:l.length≤2097152) (hk:l.length < k):spec_l06Ok.f k l=some (validB l):=by
 unfold spec_l06Ok.f validB
 rw [in_eq]
 simp only [Option.bind_some]
 by_cases h0:(decide (1≤(l.length:Int)) && decide ((l.length:Int)≤20))=true
 ·rw [if_pos h0,h0,Bool.true_and]
  obtain ⟨r,hr,h⟩:=loop_inv (fun k (s:Int)=>spec_l06Ok.l0 k l s) l.length (fun i s=>s=(i:Int)∧∀ j (h:j < l.length),j < i→shipBad l[j]=false) (fun r=>r=!l.any shipBad)
   (fun k i s hi ⟨h1,h2⟩=>by
    subst h1
    have hb:=hw l[i] (List.getElem_mem hi)
    have hbad:=shipBad_wf hb
    obtain ⟨b0,b1,b2⟩:=hb
    have b0:=i8b b0
    have b1:=i8b b1
    have b2:=i8b b2
    cases hq:shipBad l[i] with
    | true =>
     refine .inr ⟨false,?_,?_⟩
     ·have:l.any shipBad=true:=List.any_eq_true.2 ⟨l[i],List.getElem_mem hi,hq⟩
      rw [this];rfl
     ·simp only [spec_l06Ok.l0]
      rw [if_pos (by omega),if_pos (by omega),rd_impl_Ship hi,in_eq,in_eq,in_eq]
      rw [w64 (n:=(l[i]).f0) (by omega) (by omega),w64 (n:=(l[i]).f1) (by omega) (by omega),w64 (n:=(l[i]).f2) (by omega) (by omega)]
      rw [hq] at hbad
      simp only [Option.bind_some]
      generalize (decide (0≤(l[i]).f0) && decide ((l[i]).f0≤6))=c0 at *
      generalize (decide (0≤(l[i]).f1) && decide ((l[i]).f1≤60))=c1 at *
      generalize (decide (0≤(l[i]).f2) && decide ((l[i]).f2≤60))=c2 at *
      cases c0 <;> cases c1 <;> cases c2 <;> first|(exfalso;revert hbad;decide)|rfl
    | false =>
     refine .inl ⟨((i + 1:Nat):Int),⟨rfl,fun j hj hji=>?_⟩,?_⟩
     ·by_cases e:j=i
      ·subst e;exact hq
      ·exact h2 j hj (by omega)
     ·simp only [spec_l06Ok.l0]
      rw [if_pos (by omega),if_pos (by omega),rd_impl_Ship hi,in_eq,in_eq,in_eq]
      rw [w64 (n:=(l[i]).f0) (by omega) (by omega),w64 (n:=(l[i]).f1) (by omega) (by omega),w64 (n:=(l[i]).f2) (by omega) (by omega),w64 (n:=(i:Int) + 1) (by omega) (by omega)]
      rw [hq] at hbad
      simp only [Option.bind_some]
      generalize (decide (0≤(l[i]).f0) && decide ((l[i]).f0≤6))=c0 at *
      generalize (decide (0≤(l[i]).f1) && decide ((l[i]).f1≤60))=c1 at *
      generalize (decide (0≤(l[i]).f2) && decide ((l[i]).f2≤60))=c2 at *
      cases c0 <;> cases c1 <;> cases c2 <;> first|(exfalso;revert hbad;decide)|rfl)
   (fun k s ⟨h1,h2⟩=>by
    subst h1
    refine ⟨true,?_,?_⟩
    ·have:l.any shipBad=false:=by
      rw [List.any_eq_false]
      intro x hx
      obtain ⟨j,hj,rfl⟩:=List.mem_iff_getElem.1 hx
      simp [h2 j hj hj]
     rw [this];rfl
    ·simp only [spec_l06Ok.l0]
     rw [if_neg (by omega)]) k 0 ⟨rfl,fun j _ h=>absurd h (Nat.not_lt_zero _)⟩ hk
  subst hr
  exact h
 ·rw [if_neg h0]
  simp only [Bool.not_eq_true] at h0
  rw [h0,Bool.false_and]
def resAllClosed (line:List Sp):Int × Int × Int:=if validB line=true then ((closedL line).1,(closedL line).2,0) else (0,0,1)
theorem implAllClosed_eq {k:Nat} {line:List Sp} (hw:∀ x∈line,wfShip x) (hk:1099000 < k):impl_AllClosed.f k line=some (resAllClosed line):=by
 unfold impl_AllClosed.f resAllClosed
 rw [implValid_eq]
 simp only [Option.bind_some]
 split
 ·rename_i h
  have v:=(validB_iff hw).1 h
  rw [implAllClosedIn_eq k line v.pos v.most v.in_ (by omega)]
  rfl
 ·rfl
def neT (x y:Tm):Bool:=(!(x.f0 == y.f0) || (!(x.f1 == y.f1) || (!(x.f2 == y.f2) || (!(x.f3 == y.f3)))))
def eqL:List Tm→List Tm→Bool
 | [],[]=>true
 | x :: xs,y :: ys=>!neT x y && eqL xs ys
 | _,_=>false
theorem eqL_drop {a b:List Tm} {i:Nat} (ha:i < a.length) (hb:i < b.length):eqL (a.drop i) (b.drop i)=(!neT a[i] b[i] && eqL (a.drop (i + 1)) (b.drop (i + 1))):=by
 rw [List.drop_eq_getElem_cons ha,List.drop_eq_getElem_cons hb]
 rfl
theorem eqL_len:∀ {a b:List Tm},a.length≠b.length→eqL a b=false
 | [],[],h=>absurd rfl h
 | [],_ :: _,_=>rfl
 | _ :: _,[],_=>rfl
 | x :: xs,y :: ys,h=>by
  simp only [eqL]
  rw [eqL_len (a:=xs) (b:=ys) (by simpa using h),Bool.and_false]
theorem specSameTimes_eq (k:Nat) (a b:List Tm) (hl:a.length≤1048576) (hk:a.length < k):spec_SameTimes.f k a b=some (eqL a b):=by
 unfold spec_SameTimes.f
 by_cases h0:(a.length:Int)=(b.length:Int)
 ·rw [if_pos h0]
  obtain ⟨r,hr,h⟩:=loop_inv (fun k (s:Int)=>spec_SameTimes.l0 k a b s) a.length (fun i s=>s=(i:Int)∧eqL a b=eqL (a.drop i) (b.drop i)) (fun r=>r=eqL a b)
   (fun k i s hi ⟨h1,h2⟩=>by
    subst h1
    have hb:i < b.length:=by omega
    rw [eqL_drop hi hb] at h2
    cases hq:neT a[i] b[i] with
    | true =>
     refine .inr ⟨false,by rw [h2,hq];rfl,?_⟩
     simp only [spec_SameTimes.l0]
     rw [if_pos (by omega),if_pos (by omega),if_pos (by omega),rd_impl_Times hi,rd_impl_Times hb,if_pos (by exact hq)]
    | false =>
     refine .inl ⟨((i + 1:Nat):Int),⟨rfl,by rw [h2,hq];rfl⟩,?_⟩
     simp only [spec_SameTimes.l0]
     rw [if_pos (by omega),if_pos (by omega),if_pos (by omega),rd_impl_Times hi,rd_impl_Times hb,if_neg (by show ¬ neT a[i] b[i]=true;rw [hq];simp),w64 (by omega) (by omega)]
     rfl)
   (fun k s ⟨h1,h2⟩=>by
    subst h1
    refine ⟨eqL a b,rfl,?_⟩
    simp only [spec_SameTimes.l0]
    rw [if_neg (by omega),h2,List.drop_eq_nil_of_le (by omega),List.drop_eq_nil_of_le (by omega)]
    rfl) k 0 ⟨rfl,rfl⟩ hk
  subst hr
  exact h
 ·rw [if_neg h0,eqL_len (by omega)]
theorem implSameTimes_eq (k:Nat) (a b:List Tm) (hl:a.length≤1048576) (hk:a.length < k):slices_Equal_Times_Times.f k a b=some (eqL a b):=by
 unfold slices_Equal_Times_Times.f
 by_cases h0:(a.length:Int)=(b.length:Int)
 ·rw [if_pos h0]
  obtain ⟨r,hr,h⟩:=loop_inv (fun k (s:Int)=>slices_Equal_Times_Times.l0 k a b (a.length:Int) s) a.length (fun i s=>s=(i:Int)∧eqL a b=eqL (a.drop i) (b.drop i)) (fun r=>r=eqL a b)
   (fun k i s hi ⟨h1,h2⟩=>by
    subst h1
    have hb:i < b.length:=by omega
    rw [eqL_drop hi hb] at h2
    cases hq:neT a[i] b[i] with
    | true =>
     refine .inr ⟨false,by rw [h2,hq];rfl,?_⟩
     simp only [slices_Equal_Times_Times.l0]
     rw [if_pos (by omega),if_pos (by omega),if_pos (by omega),if_pos (by omega),rd_impl_Times hi,rd_impl_Times hb,if_pos (by exact hq)]
    | false =>
     refine .inl ⟨((i + 1:Nat):Int),⟨rfl,by rw [h2,hq];rfl⟩,?_⟩
     simp only [slices_Equal_Times_Times.l0]
     rw [if_pos (by omega),if_pos (by omega),if_pos (by omega),if_pos (by omega),rd_impl_Times hi,rd_impl_Times hb,if_neg (by show ¬ neT a[i] b[i]=true;rw [hq];simp),w64 (by omega) (by omega)]
     rfl)
   (fun k s ⟨h1,h2⟩=>by
    subst h1
    refine ⟨eqL a b,rfl,?_⟩
    simp only [slices_Equal_Times_Times.l0]
    rw [if_neg (by omega),h2,List.drop_eq_nil_of_le (by omega),List.drop_eq_nil_of_le (by omega)]
    rfl) k 0 ⟨rfl,rfl⟩ hk
  subst hr
  exact h
 ·rw [if_neg h0,eqL_len (by omega)]
theorem ValidL.specTimes {line:List Sp} (v:ValidL line) {k:Nat} (hk:300 < k):spec_l06Times.f k line (-1) 0=some (timesL (-1) 0 line) :=
 specTimes_eq k line (-1) 0 v.most v.in_ (fun i x hx=>by
  have:=v.ships x (List.mem_of_getElem? hx)
  rw [if_neg (by omega)]
  omega) ⟨by omega,by omega⟩ (by omega)
theorem ValidL.implTimes {line:List Sp} (v:ValidL line) {k:Nat} (hk:300 < k):impl_times.f k line=some (timesL (-1) 0 line) :=
 implTimes_eq k line v.most v.in_ (by omega)
theorem ValidL.timesOK {line:List Sp} (v:ValidL line):TimesOK (timesL (-1) 0 line) :=
 timesGo_ok (-1) 0 line [] TimesOK.nil (fun x hx=>by have:=v.ships x hx;omega) (fun i x hx=>by
  have:=v.ships x (List.mem_of_getElem? hx)
  rw [if_neg (by simp only [List.length_nil];omega)]
  omega)
theorem TimesOK.sign {ts:List Tm} (h:TimesOK ts) {i:Nat} {t:Tm} (ht:ts[i]?=some t):(t.f3 < 0 ↔ t.f2 < 0)∧(t.f3 < 0 ↔ t.f0 < 0∧0 < i):=by
 have hb:=h.bound i t ht
 rcases Nat.eq_zero_or_pos i with h0|h0
 ·subst h0
  have:=h.first t ht
  omega
 ·rcases h.later i t ht h0 with rfl|h1
  ·exact ⟨⟨fun _=>by decide,fun _=>by decide⟩,⟨fun _=>⟨by decide,h0⟩,fun _=>by decide⟩⟩
  ·omega
def resTimesOf (line:List Sp):List Tm × Int:=if validB line=true then (timesL (-1) 0 line,0) else ([],1)
theorem specTimesOf_eq {k:Nat} {line:List Sp} (hw:∀ x∈line,wfShip x) (hl:line.length≤1048576) (hk:1099000 < k):spec_TimesOf.f k line=some (resTimesOf line):=by
 unfold spec_TimesOf.f resTimesOf
 rw [specOk_eq k line hw (by omega) (by omega)]
 simp only [Option.bind_some]
 split
 ·rename_i h
  rw [((validB_iff hw).1 h).specTimes (by omega)]
  rfl
 ·rfl
theorem implTimesOf_eq {k:Nat} {line:List Sp} (hw:∀ x∈line,wfShip x) (hk:1099000 < k):impl_TimesOf.f k line=some (resTimesOf line):=by
 unfold impl_TimesOf.f resTimesOf
 rw [implValid_eq]
 simp only [Option.bind_some]
 split
 ·rename_i h
  rw [((validB_iff hw).1 h).implTimes (by omega)]
  rfl
 ·rfl
def resCheckTimes (line:List Sp) (l:List Tm):Bool × Int:=if validB line=true then (eqL (timesL (-1) 0 line) l,0) else (false,1)
theorem implCheckTimes_eq {k:Nat} {line:List Sp} {l:List Tm} (hw:∀ x∈line,wfShip x) (hk:1099000 < k):impl_CheckTimes.f k line l=some (resCheckTimes line l):=by
 unfold impl_CheckTimes.f resCheckTimes
 rw [implTimesOf_eq hw hk]
 simp only [Option.bind_some,resTimesOf]
 split
 ·rename_i h
  have v:=(validB_iff hw).1 h
  have:=v.most
  rw [if_pos rfl,implSameTimes_eq k _ _ (by rw [timesL_len];omega) (by rw [timesL_len];omega)]
  rfl
 ·rfl
def isIn (time:Int) (t:Tm):Bool:=decide (0≤t.f2) && decide (t.f2≤time)
theorem countP_take {α:Type} (p:α→Bool) (l:List α) {i:Nat} (h:i < l.length):(l.take (i + 1)).countP p=(l.take i).countP p + if p l[i]=true then 1 else 0:=by
 rw [List.take_succ_eq_append_getElem h,List.countP_append,List.countP_singleton]
theorem countP_take_le {α:Type} (p:α→Bool) (l:List α) (i:Nat):(l.take i).countP p≤l.length:=by
 have h1:=List.countP_le_length (p:=p) (l:=l.take i)
 have h2:=List.length_take_le i l
 have:(l.take i).length≤l.length:=by simp;omega
 omega
theorem implCount (k:Nat) (ts:List Tm) (time:Int) (hl:ts.length≤1048576) (hk:ts.length < k):impl_ClosedUntil.l0 k time 0 ts (ts.length:Int) 0=some (((ts.countP (isIn time):Nat):Int),0):=by
 obtain ⟨r,hr,h⟩:=loop_inv (fun k (s:Int × Int)=>impl_ClosedUntil.l0 k time s.1 ts (ts.length:Int) s.2) ts.length (fun i s=>s.2=(i:Int)∧s.1=(((ts.take i).countP (isIn time):Nat):Int)) (fun r=>r=(((ts.countP (isIn time):Nat):Int),0))
  (fun k i s hi ⟨h1,h2⟩=>by
   obtain ⟨c,x⟩:=s
   simp only at h1 h2
   subst h1 h2
   have hle:=countP_take_le (isIn time) ts i
   refine .inl ⟨((((ts.take (i + 1)).countP (isIn time):Nat):Int),((i + 1:Nat):Int)),⟨rfl,rfl⟩,?_⟩
   rw [countP_take _ _ hi]
   simp only [impl_ClosedUntil.l0]
   rw [if_pos (by omega),if_pos (by omega),if_pos (by omega),rd_impl_Times hi,within_eq,w64 (n:=((((ts.take i).countP (isIn time):Nat):Int) + 1)) (by omega) (by omega),w64 (n:=(i:Int) + 1) (by omega) (by omega)]
   simp only [Option.bind_some]
   by_cases c1:isIn time ts[i]=true
   ·rw [if_pos (by exact c1),if_pos c1]
    rfl
   ·rw [if_neg (by exact c1),if_neg c1]
    rfl)
  (fun k s ⟨h1,h2⟩=>by
   obtain ⟨c,x⟩:=s
   simp only at h1 h2
   subst h1 h2
   refine ⟨_,rfl,?_⟩
   simp only [impl_ClosedUntil.l0]
   rw [if_neg (by omega),List.take_length]) k (0,0) ⟨rfl,rfl⟩ hk
 subst hr
 exact h
def resClosedUntil (line:List Sp) (time:Int):Int × Int:=if validB line=true then (if (decide (0≤time) && decide (time≤1000000))=true then ((((timesL (-1) 0 line).countP (isIn time):Nat):Int),0) else (0,2)) else (0,1)
theorem implClosedUntil_eq {k:Nat} {line:List Sp} {time:Int} (hw:∀ x∈line,wfShip x) (hk:1099000 < k):impl_ClosedUntil.f k line time=some (resClosedUntil line time):=by
 unfold impl_ClosedUntil.f resClosedUntil
 rw [implValid_eq,within_eq]
 simp only [Option.bind_some]
 split
 ·rename_i h
  have v:=(validB_iff hw).1 h
  have:=v.most
  rw [v.implTimes (by omega)]
  simp only [Option.bind_some]
  rw [implCount k _ _ (by rw [timesL_len];omega) (by rw [timesL_len];omega)]
  split <;> rfl
 ·rfl
theorem u64_range (y:Int):0≤IntKind.u64.wrap y∧IntKind.u64.wrap y≤18446744073709551615:=by
 rw [IntKind.wrap_u64]
 omega
theorem low_byte {x:Int} (h:0≤x∧x≤18446744073709551615):0≤wrap64 (Go.bits .and .u64 (x / 1099511627776) 255)∧wrap64 (Go.bits .and .u64 (x / 1099511627776) 255)≤255:=by
 have hx:0≤x / 1099511627776∧x / 1099511627776≤18446744073709551615:=by omega
 generalize x / 1099511627776=y at *
 obtain ⟨n,rfl⟩:∃ n:Nat,y=(n:Int):=⟨y.toNat,by omega⟩
 have e:Go.bits .and .u64 (n:Int) ((255:Nat):Int)=((n &&& 255:Nat):Int):=bits_and_u64_nat n 255 (by omega) (by omega)
 have e2:Go.bits .and .u64 (n:Int) 255=((n &&& 255:Nat):Int):=e
 have hb:n &&& 255≤255:=Nat.and_le_right
 rw [e2,w64 (by omega) (by omega)]
 omega
def Bytes (code:List Int):Prop:=∀ x∈code,0≤x∧x≤255
theorem bytes_at {code:List Int} (hc:Bytes code) {i:Int} (h0:0≤i) (h1:i < (code.length:Int)):0≤rd code i∧rd code i≤255:=by
 obtain ⟨j,rfl⟩:∃ j:Nat,i=(j:Int):=⟨i.toNat,by omega⟩
 have hj:j < code.length:=by omega
 have:rd code (j:Int)=code[j]:=by simp [rd,List.getD_eq_getElem?_getD,List.getElem?_eq_getElem hj]
 rw [this]
 exact hc _ (List.getElem_mem hj)
theorem next_ok {code:List Int} (hc:Bytes code) {at_ seed:Int} (ha:0≤at_∧at_≤1000000):∃ n s,spec_l00Src_next.f code at_ seed=some (n,at_ + 1,s)∧0≤n∧n≤255:=by
 unfold spec_l00Src_next.f
 rw [w64 (n:=at_ + 1) (by omega) (by omega)]
 by_cases h1:at_ < (code.length:Int)
 ·have hb:=bytes_at hc ha.1 h1
  rw [if_pos h1,if_pos ha.1,if_pos (by omega)]
  exact ⟨_,_,rfl,by rw [w64 (by omega) (by omega)];exact hb⟩
 ·rw [if_neg h1,if_neg (by omega)]
  exact ⟨_,_,rfl,low_byte (u64_range _)⟩
theorem pick_ok {code:List Int} (hc:Bytes code) {at_ seed a:Int} (ha:0≤at_∧at_≤1000000) (h1:1 < a) (h2:a≤200):∃ n s,spec_l00Src_pick.f code at_ seed a=some (n,at_ + 1,s)∧0≤n∧n < a:=by
 obtain ⟨n,s,e,hn⟩:=next_ok hc (seed:=seed) ha
 unfold spec_l00Src_pick.f
 rw [if_neg (by omega),e]
 simp only [Option.bind_some]
 rw [if_neg (by omega),if_neg (by omega)]
 refine ⟨_,_,rfl,?_⟩
 rw [Int.tmod_eq_emod_of_nonneg hn.1]
 exact ⟨Int.emod_nonneg _ (by omega),Int.emod_lt_of_pos _ (by omega)⟩
theorem one_ok {code:List Int} (hc:Bytes code) {at_ seed a:Int} (ha:0≤at_∧at_≤1000000) (h1:1 < a) (h2:a≤200):∃ b s,spec_l00Src_one.f code at_ seed a=some (b,at_ + 1,s):=by
 obtain ⟨n,s,e,hn⟩:=pick_ok hc (seed:=seed) ha h1 h2
 unfold spec_l00Src_one.f
 rw [e]
 exact ⟨_,_,rfl⟩
def Fine (x:Sp):Prop:=0≤x.f0∧x.f0≤3∧0≤x.f1∧x.f1≤7∧0≤x.f2∧x.f2≤4
theorem drawn_in {code:List Int} (hc:Bytes code):∀ (n k:Nat) (l:List Sp) (at_ seed:Int),n < k→(l.length + n≤8)→0≤at_→at_ + 4 * (n:Int)≤1000→(∀ x∈l,Fine x) →
  ∃ l' a' s',spec_l06Drawn.l0 k l (n:Int) code at_ seed=some (l',a',s')∧l'.length=l.length + n∧∀ x∈l',Fine x:=by
 intro n
 induction n with
 | zero =>
  intro k l at_ seed hk hl h0 h1 hf
  obtain ⟨k,rfl⟩:∃ m,k=m + 1:=⟨k - 1,by omega⟩
  rw [spec_l06Drawn.l0,if_neg (by decide)]
  exact ⟨l,at_,seed,rfl,rfl,hf⟩
 | succ n ih =>
  intro k l at_ seed hk hl h0 h1 hf
  obtain ⟨k,rfl⟩:∃ m,k=m + 1:=⟨k - 1,by omega⟩
  obtain ⟨p1,s1,e1,b1⟩:=pick_ok hc (seed:=seed) (a:=3) (at_:=at_) (by omega) (by omega) (by omega)
  obtain ⟨p2,s2,e2,b2⟩:=pick_ok hc (seed:=s1) (a:=8) (at_:=at_ + 1) (by omega) (by omega) (by omega)
  obtain ⟨p3,s3,e3,b3⟩:=pick_ok hc (seed:=s2) (a:=5) (at_:=at_ + 1 + 1) (by omega) (by omega) (by omega)
  obtain ⟨p4,s4,e4⟩:=one_ok hc (seed:=s3) (a:=16) (at_:=at_ + 1 + 1 + 1) (by omega) (by omega) (by omega)
  rw [spec_l06Drawn.l0,if_pos (by omega),e1]
  simp only [Option.bind_some]
  rw [e2]
  simp only [Option.bind_some]
  rw [e3]
  simp only [Option.bind_some]
  rw [e4]
  simp only [Option.bind_some]
  rw [i8w (n:=p2) (by omega) (by omega),i8w (n:=p3) (by omega) (by omega),w64 (n:=1 + p1) (by omega) (by omega),i8w (n:=1 + p1) (by omega) (by omega),w64 (n:=((n + 1:Nat):Int) - 1) (by omega) (by omega),show ((n + 1:Nat):Int) - 1=(n:Int) by omega]
  have hadd:∀ x:Sp,Fine x→∃ l' a' s',spec_l06Drawn.l0 k (l ++ [x]) (n:Int) code (at_ + 1 + 1 + 1 + 1) s4=some (l',a',s')∧l'.length=l.length + (n + 1)∧∀ y∈l',Fine y:=by
   intro x hx
   obtain ⟨l',a',s',q1,q2,q3⟩:=ih k (l ++ [x]) (at_ + 1 + 1 + 1 + 1) s4 (by omega) (by simp;omega) (by omega) (by omega) (fun y hy=>by
    rcases List.mem_append.1 hy with hy|hy
    ·exact hf y hy
    ·rw [List.mem_singleton] at hy
     subst hy
     exact hx)
   exact ⟨l',a',s',q1,by rw [q2];simp;omega,q3⟩
  split
  ·rw [if_pos (by omega)]
   exact hadd _ ⟨by simp only;omega,by simp only;omega,by simp only;omega,by simp only;omega,by simp only;omega,by simp only;omega⟩
  ·rw [if_pos (by omega)]
   exact hadd _ ⟨by simp only;omega,by simp only;omega,by simp only;omega,by simp only;omega,by simp only;omega,by simp only;omega⟩
theorem line_ok {code:List Int} (hc:Bytes code) {k:Nat} (hk:20 < k):∃ l:List Sp,spec_A2Line.f k code=some l∧ValidL l∧l.length≤8∧∀ x∈l,Fine x:=by
 obtain ⟨n,s,e,hn⟩:=pick_ok hc (seed:=0) (a:=8) (at_:=0) (by omega) (by omega) (by omega)
 obtain ⟨l,a',s',q1,q2,q3⟩:=drawn_in hc (n.toNat + 1) k [] (0 + 1) s (by omega) (by simp;omega) (by omega) (by omega) (by simp)
 refine ⟨l,?_,⟨by rw [q2];simp,by rw [q2];simp;omega,fun x hx=>by have:=q3 x hx;unfold Fine at this;omega⟩,by rw [q2];simp;omega,q3⟩
 unfold spec_A2Line.f spec_l00From.f spec_l06Drawn.f
 simp only [Option.bind_some]
 rw [e]
 simp only [Option.bind_some]
 rw [w64 (n:=1 + n) (by omega) (by omega),show 1 + n=((n.toNat + 1:Nat):Int) by omega,q1]
 rfl
theorem fine_wf {x:Sp} (h:Fine x):wfShip x:=by
 unfold Fine at h
 refine ⟨?_,?_,?_⟩ <;> simp [Lit.wf,IntKind.min,IntKind.max,IntKind.signed,IntKind.bits] <;> omega
theorem l00Max_eq (a b:Int):spec_l00Max.f a b=some (mx a b):=by
 unfold spec_l00Max.f mx
 split
 ·rw [if_neg (by omega)]
 ·split
  ·rfl
  ·congr 1
   omega
def readyTo (ts:List Tm):Nat→List Int
 | 0=>ts.map fun t=>t.f2
 | n + 1=>match ts[ts.length - 1 - n]? with
  | some t=>if 0≤t.f0 then (readyTo ts n).set t.f0.toNat (mx (rd (readyTo ts n) t.f0) (rd (readyTo ts n) ((ts.length - 1 - n:Nat):Int))) else readyTo ts n
  | none=>readyTo ts n
theorem readyTo_len (ts:List Tm):∀ n,(readyTo ts n).length=ts.length
 | 0=>by simp [readyTo]
 | n + 1=>by
  simp only [readyTo]
  split
  ·split
   ·rw [List.length_set];exact readyTo_len ts n
   ·exact readyTo_len ts n
  ·exact readyTo_len ts n
def downTo (ts:List Tm) (r0:Int):Nat→List Int
 | 0=>[]
 | n + 1=>match ts[n]? with
  | some t=>downTo ts r0 n ++ [if n=0 then r0 else if t.f3 < 0 then -1 else wrap64 (rd (downTo ts r0 n) t.f0 + 1)]
  | none=>downTo ts r0 n
theorem downTo_len (ts:List Tm) (r0:Int):∀ n,n≤ts.length→(downTo ts r0 n).length=n
 | 0,_=>rfl
 | n + 1,h=>by
  simp only [downTo,List.getElem?_eq_getElem (show n < ts.length by omega)]
  rw [List.length_append,downTo_len ts r0 n (by omega)]
  rfl
def downL (ts:List Tm):List Int:=downTo ts (mx (rd (readyTo ts (ts.length - 1)) 0) ((ts.getD 0 z46).f3)) ts.length
theorem downL_len (ts:List Tm):(downL ts).length=ts.length:=downTo_len ts _ _ (Nat.le_refl _)
theorem implHauled0 (k:Nat) (ts:List Tm) (hl:ts.length≤1048576) :
  ∀ d i,i + d=ts.length→impl_hauledDown.l0 (k + d + 1) ts ((ts.take i).map fun t=>t.f2) ts (ts.length:Int) (i:Int)=impl_hauledDown.l1 k ts (ts.map fun t=>t.f2) (wrap64 ((ts.length:Int) - 1)):=by
 intro d
 induction d with
 | zero =>
  intro i hi
  unfold impl_hauledDown.l0
  rw [if_neg (by omega),List.take_of_length_le (by omega)]
 | succ d ih =>
  intro i hi
  rw [← ih (i + 1) (by omega),show k + (d + 1) + 1=(k + d + 1) + 1 by omega]
  conv=>lhs;unfold impl_hauledDown.l0
  rw [if_pos (by omega),if_pos (by omega),if_pos (by omega),if_pos (by simp;omega),rd_impl_Times (by omega),w64 (by omega) (by omega)]
  rw [List.take_succ_eq_append_getElem (by omega),List.map_append]
  rfl
theorem implHauled1 (k:Nat) (ts:List Tm) (hok:TimesOK ts) (h1:1≤ts.length) (hl:ts.length≤1048576) :
  ∀ d n,n + d=ts.length - 1→impl_hauledDown.l1 (k + d + 1) ts (readyTo ts n) ((ts.length - 1 - n:Nat):Int)=impl_hauledDown.l2 k (readyTo ts (ts.length - 1)) [] ts (ts.length:Int) 0:=by
 intro d
 induction d with
 | zero =>
  intro n hn
  unfold impl_hauledDown.l1
  rw [if_neg (by omega),show n=ts.length - 1 by omega]
 | succ d ih =>
  intro n hn
  have hq:ts.length - 1 - n < ts.length:=by omega
  have e:=List.getElem?_eq_getElem hq
  have hlt:=hok.later _ _ e (by omega)
  have hlen:=readyTo_len ts n
  rw [← ih (n + 1) (by omega),show k + (d + 1) + 1=(k + d + 1) + 1 by omega]
  conv=>lhs;unfold impl_hauledDown.l1
  rw [if_pos (by omega),if_pos (by omega),if_pos (by omega),rd_impl_Times hq]
  simp only [readyTo,e]
  rw [w64 (n:=((ts.length - 1 - n:Nat):Int) - 1) (by omega) (by omega),show ((ts.length - 1 - n:Nat):Int) - 1=((ts.length - 1 - (n + 1):Nat):Int) by omega]
  by_cases c:0≤(ts[ts.length - 1 - n]).f0
  ·have hf:(ts[ts.length - 1 - n]).f0 < ((ts.length - 1 - n:Nat):Int):=by
    rcases hlt with h|h
    ·rw [h] at c;exact absurd c (by decide)
    ·exact h.2.1
   rw [if_pos (by omega),if_pos c,if_pos (by rw [hlen];omega),if_pos (by rw [hlen];omega),if_pos c]
  ·rw [if_neg (by omega),if_neg c]
theorem implHauled2 (k:Nat) (ts:List Tm) (hok:TimesOK ts) (R:List Int) (hR:R.length=ts.length) (hl:ts.length≤1048576) :
  ∀ d n,n + d=ts.length→impl_hauledDown.l2 (k + d + 1) R (downTo ts (mx (rd R 0) ((ts.getD 0 z46).f3)) n) ts (ts.length:Int) (n:Int)=some (downTo ts (mx (rd R 0) ((ts.getD 0 z46).f3)) ts.length):=by
 intro d
 induction d with
 | zero =>
  intro n hn
  unfold impl_hauledDown.l2
  rw [if_neg (by omega),show n=ts.length by omega]
 | succ d ih =>
  intro n hn
  have hq:n < ts.length:=by omega
  have e:=List.getElem?_eq_getElem hq
  have hlen:=downTo_len ts (mx (rd R 0) ((ts.getD 0 z46).f3)) n (by omega)
  rw [← ih (n + 1) (by omega),show k + (d + 1) + 1=(k + d + 1) + 1 by omega]
  conv=>lhs;unfold impl_hauledDown.l2
  rw [if_pos (by omega),if_pos (by omega),if_pos (by omega),rd_impl_Times hq,w64 (n:=(n:Int) + 1) (by omega) (by omega)]
  simp only [downTo,e]
  by_cases c0:n=0
  ·subst c0
   rw [if_pos (by omega),if_pos (by omega),if_pos (by rw [hlen];omega),if_pos rfl,getD_in (by omega)]
   rfl
  ·rw [if_neg (by omega),if_neg c0]
   have hs:=hok.sign e
   by_cases c:(ts[n]).f3 < 0
   ·rw [if_pos (by omega),if_pos (by rw [hlen];omega),if_pos c]
    rfl
   ·have hf:0≤(ts[n]).f0∧(ts[n]).f0 < (n:Int):=by
     rcases hok.later n _ e (by omega) with h|h
     ·exfalso;apply c;rw [h];decide
     ·omega
    rw [if_neg (by omega),if_pos hf.1,if_pos (by rw [hlen];exact hf.2),if_pos (by rw [hlen];omega),if_neg c]
    rfl
theorem implHauled_eq (k:Nat) (line:List Sp) (v:ValidL line) (hk:1000 < k):impl_hauledDown.f k line=some (downL (timesL (-1) 0 line)):=by
 have hlen:=timesL_len (-1) 0 line
 have h1:=v.pos
 have h20:=v.most
 unfold impl_hauledDown.f
 rw [v.implTimes (by omega)]
 simp only [Option.bind_some]
 generalize hts:timesL (-1) 0 line=ts at *
 have hok:TimesOK ts:=hts ▸ v.timesOK
 obtain ⟨m,rfl⟩:∃ m,k=m + (ts.length + 1 + (ts.length - 1 + 1) + (ts.length + 1)):=⟨k - (ts.length + 1 + (ts.length - 1 + 1) + (ts.length + 1)),by omega⟩
 have a0:=implHauled0 (m + (ts.length + 1) + (ts.length - 1 + 1)) ts (by omega) ts.length 0 (by omega)
 have a1:=implHauled1 (m + (ts.length + 1)) ts hok (by omega) (by omega) (ts.length - 1) 0 (by omega)
 have a2:=implHauled2 m ts hok (readyTo ts (ts.length - 1)) (readyTo_len _ _) (by omega) ts.length 0 (by omega)
 rw [show m + (ts.length + 1 + (ts.length - 1 + 1) + (ts.length + 1))=m + (ts.length + 1) + (ts.length - 1 + 1) + ts.length + 1 by omega]
 simp only [List.take_zero,List.map_nil] at a0
 rw [show (0:Int)=((0:Nat):Int) from rfl,a0,w64 (by omega) (by omega)]
 rw [show (ts.length:Int) - 1=((ts.length - 1 - 0:Nat):Int) by omega]
 simp only [readyTo] at a1
 rw [show m + (ts.length + 1) + (ts.length - 1 + 1)=m + (ts.length + 1) + (ts.length - 1) + 1 by omega,a1]
 exact a2
theorem mx_swap (a b c:Int):mx (mx a b) c=mx (mx a c) b:=by
 unfold mx
 (repeat' split) <;> omega
def SInv (ts:List Tm) (S:List Int) (i:Nat):Prop:=S.length=ts.length∧∀ j,j≤i→∀ t,ts[j]?=some t→0≤t.f3→mx (rd S (j:Int)) t.f2=rd (readyTo ts (ts.length - 1 - i)) (j:Int)
theorem rd_set_ne {l:List Int} {i j:Nat} (h:i≠j) (v:Int):rd (l.set i v) (j:Int)=rd l (j:Int):=by
 simp [rd,List.getD_eq_getElem?_getD,List.getElem?_set,h]
theorem rd_set_eq {l:List Int} {i:Nat} (h:i < l.length) (v:Int):rd (l.set i v) (i:Int)=v:=by
 simp [rd,List.getD_eq_getElem?_getD,List.getElem?_set,h]
theorem specDown0 (k:Nat) (ts:List Tm) (hok:TimesOK ts) (h1:1≤ts.length) (hl:ts.length≤1048576) :
  ∀ d S,d + 1≤ts.length→SInv ts S d→spec_l06Down.l0 (k + d + 2) ts S (d:Int)=spec_l06Down.l1 k ts [mx (rd (readyTo ts (ts.length - 1)) 0) ((ts.getD 0 z46).f3)] 1:=by
 intro d
 induction d with
 | zero =>
  intro S hd ⟨hS,hi⟩
  have hq:0 < ts.length:=by omega
  have e:=List.getElem?_eq_getElem hq
  have hf:=hok.first _ e
  have h2:=hi 0 (Nat.le_refl _) _ e hf.2.2.2
  conv=>lhs;unfold spec_l06Down.l0
  rw [if_pos (by omega),if_pos (by omega),if_pos (by omega),if_pos (by omega),rd_impl_Times hq,l00Max_eq]
  simp only [Option.bind_some]
  rw [if_neg (by omega),h2,w64 (by omega) (by omega)]
  conv=>lhs;unfold spec_l06Down.l0
  rw [if_neg (by omega),if_pos (by rw [List.length_set];omega),if_pos (by omega),l00Max_eq]
  simp only [Option.bind_some]
  rw [show ((0:Nat):Int).toNat=0 from rfl,show (0:Int)=((0:Nat):Int) from rfl,rd_set_eq (by omega),rd_impl_Times hq,getD_in hq]
  rfl
 | succ d ih =>
  intro S hd ⟨hS,hi⟩
  have hq:d + 1 < ts.length:=by omega
  have e:=List.getElem?_eq_getElem hq
  have hs:=hok.sign e
  have hlen:=readyTo_len ts (ts.length - 1 - (d + 1))
  have hR:readyTo ts (ts.length - 1 - d)=if 0≤(ts[d + 1]).f0 then (readyTo ts (ts.length - 1 - (d + 1))).set (ts[d + 1]).f0.toNat (mx (rd (readyTo ts (ts.length - 1 - (d + 1))) (ts[d + 1]).f0) (rd (readyTo ts (ts.length - 1 - (d + 1))) ((d + 1:Nat):Int))) else readyTo ts (ts.length - 1 - (d + 1)):=by
   rw [show ts.length - 1 - d=(ts.length - 1 - (d + 1)) + 1 by omega]
   simp only [readyTo]
   rw [show ts.length - 1 - (ts.length - 1 - (d + 1))=d + 1 by omega,e]
  rw [show k + (d + 1) + 2=(k + d + 2) + 1 by omega]
  conv=>lhs;unfold spec_l06Down.l0
  rw [if_pos (by omega),if_pos (by omega),if_pos (by omega),if_pos (by omega),rd_impl_Times hq,l00Max_eq,Int.toNat_natCast]
  simp only [Option.bind_some]
  rw [w64 (n:=((d + 1:Nat):Int) - 1) (by omega) (by omega),show ((d + 1:Nat):Int) - 1=(d:Int) by omega]
  by_cases c:0≤(ts[d + 1]).f0
  ·have hreach:0≤(ts[d + 1]).f3:=by omega
   have h2:=hi (d + 1) (Nat.le_refl _) _ e hreach
   obtain ⟨q,hqf⟩:∃ q:Nat,(ts[d + 1]).f0=(q:Int):=⟨(ts[d + 1]).f0.toNat,by omega⟩
   have hqd:q < d + 1:=by
    rcases hok.later _ _ e (by omega) with h|h
    ·rw [h] at c;exact absurd c (by decide)
    ·omega
   rw [if_pos (by omega),if_pos c,if_pos (by omega),l00Max_eq,h2,hqf,Int.toNat_natCast]
   simp only [Option.bind_some]
   rw [rd_set_eq (by omega),rd_set_ne (by omega)]
   refine ih _ (by omega) ⟨by simp [hS],fun j hj t ht h3=>?_⟩
   rw [hR,if_pos c,hqf,Int.toNat_natCast]
   by_cases ej:q=j
   ·subst ej
    rw [rd_set_eq (by rw [List.length_set];omega),rd_set_eq (by omega),← hi q (by omega) t ht h3]
    exact mx_swap _ _ _
   ·rw [rd_set_ne ej,rd_set_ne (by omega),rd_set_ne ej]
    exact hi j (by omega) t ht h3
  ·rw [if_neg (by omega)]
   refine ih _ (by omega) ⟨by simp [hS],fun j hj t ht h3=>?_⟩
   rw [hR,if_neg c,rd_set_ne (by omega)]
   exact hi j (by omega) t ht h3
theorem specDown1 (k:Nat) (ts:List Tm) (r0:Int) (hok:TimesOK ts) (hl:ts.length≤1048576) :
  ∀ d n,n + d=ts.length→1≤n→spec_l06Down.l1 (k + d + 1) ts (downTo ts r0 n) (n:Int)=some (downTo ts r0 ts.length):=by
 intro d
 induction d with
 | zero =>
  intro n hn h1
  unfold spec_l06Down.l1
  rw [if_neg (by omega),show n=ts.length by omega]
 | succ d ih =>
  intro n hn h1
  have hq:n < ts.length:=by omega
  have e:=List.getElem?_eq_getElem hq
  have hlen:=downTo_len ts r0 n (by omega)
  rw [← ih (n + 1) (by omega) (by omega),show k + (d + 1) + 1=(k + d + 1) + 1 by omega]
  conv=>lhs;unfold spec_l06Down.l1
  rw [if_pos (by omega),if_pos (by omega),rd_impl_Times hq,w64 (n:=(n:Int) + 1) (by omega) (by omega)]
  simp only [downTo,e]
  rw [if_neg (show ¬ n=0 by omega)]
  by_cases c:(ts[n]).f3 < 0
  ·rw [if_pos c,if_pos (by rw [hlen];omega),if_pos c]
   rfl
  ·have hf:0≤(ts[n]).f0∧(ts[n]).f0 < (n:Int):=by
    rcases hok.later n _ e (by omega) with h|h
    ·exfalso;apply c;rw [h];decide
    ·omega
   rw [if_neg c,if_pos hf.1,if_pos (by rw [hlen];exact hf.2),if_pos (by rw [hlen];omega),if_neg c]
   rfl
theorem specDown_eq (k:Nat) (line:List Sp) (v:ValidL line) (hk:1000 < k):spec_l06Down.f k line=some (downL (timesL (-1) 0 line)):=by
 have hlen:=timesL_len (-1) 0 line
 have h1:=v.pos
 have h20:=v.most
 unfold spec_l06Down.f
 rw [v.specTimes (by omega)]
 simp only [Option.bind_some]
 generalize hts:timesL (-1) 0 line=ts at *
 have hok:TimesOK ts:=hts ▸ v.timesOK
 rw [if_pos (by omega),if_pos (by omega)]
 obtain ⟨m,rfl⟩:∃ m,k=m + ((ts.length - 1 + 1) + (ts.length - 1 + 2)):=⟨k - ((ts.length - 1 + 1) + (ts.length - 1 + 2)),by omega⟩
 have a0:=specDown0 (m + (ts.length - 1 + 1)) ts hok (by omega) (by omega) (ts.length - 1) (List.replicate (ts.length:Int).toNat 0) (by omega) ⟨by simp,fun j hj t ht h3=>by
  rw [show ts.length - 1 - (ts.length - 1)=0 by omega]
  have hjl:j < ts.length:=by omega
  have hb:=(hok.sign ht).1
  rw [rd_nat (by simpa using hjl),rd_nat (by simpa [readyTo] using hjl)]
  simp only [readyTo,List.getElem_map,List.getElem_replicate]
  rw [List.getElem?_eq_getElem hjl] at ht
  cases ht
  unfold mx
  split <;> omega⟩
 have a1:=specDown1 m ts (mx (rd (readyTo ts (ts.length - 1)) 0) ((ts.getD 0 z46).f3)) hok (by omega) (ts.length - 1) 1 (by omega) (by omega)
 rw [w64 (by omega) (by omega),show (ts.length:Int) - 1=((ts.length - 1:Nat):Int) by omega]
 rw [show m + ((ts.length - 1 + 1) + (ts.length - 1 + 2))=m + (ts.length - 1 + 1) + (ts.length - 1) + 2 by omega,a0]
 have hd1:downTo ts (mx (rd (readyTo ts (ts.length - 1)) 0) ((ts.getD 0 z46).f3)) 1=[mx (rd (readyTo ts (ts.length - 1)) 0) ((ts.getD 0 z46).f3)]:=by
  simp only [downTo,List.getElem?_eq_getElem (show 0 < ts.length by omega)]
  rfl
 rw [hd1] at a1
 exact a1
def resHauledDown (line:List Sp):List Int × Int:=if validB line=true then (downL (timesL (-1) 0 line),0) else ([],1)
theorem specHauledDown_eq {k:Nat} {line:List Sp} (hw:∀ x∈line,wfShip x) (hl:line.length≤1048576) (hk:1099000 < k):spec_HauledDown.f k line=some (resHauledDown line):=by
 unfold spec_HauledDown.f resHauledDown
 rw [specOk_eq k line hw (by omega) (by omega)]
 simp only [Option.bind_some]
 split
 ·rename_i h
  rw [specDown_eq k line ((validB_iff hw).1 h) (by omega)]
  rfl
 ·rfl
theorem implHauledDown_eq {k:Nat} {line:List Sp} (hw:∀ x∈line,wfShip x) (hk:1099000 < k):impl_HauledDown.f k line=some (resHauledDown line):=by
 unfold impl_HauledDown.f resHauledDown
 rw [implValid_eq]
 simp only [Option.bind_some]
 split
 ·rename_i h
  rw [implHauled_eq k line ((validB_iff hw).1 h) (by omega)]
  rfl
 ·rfl
def resLastDown (line:List Sp):Int × Int:=if validB line=true then (gmax (downL (timesL (-1) 0 line)),0) else (0,1)
theorem implLastDown_eq {k:Nat} {line:List Sp} (hw:∀ x∈line,wfShip x) (hk:1099000 < k):impl_LastDown.f k line=some (resLastDown line):=by
 unfold impl_LastDown.f resLastDown
 rw [implValid_eq]
 simp only [Option.bind_some]
 split
 ·rename_i h
  have v:=(validB_iff hw).1 h
  have h1:=v.pos
  have hlen:(downL (timesL (-1) 0 line)).length=line.length:=by rw [downL_len,timesL_len]
  rw [implHauled_eq k line v (by omega)]
  simp only [Option.bind_some]
  unfold slices_Max_int64_int64.f
  rw [if_pos (by omega)]
  rfl
 ·rfl
theorem timesGo_pre:∀ (xs:List Sp) (acc:List Tm),(timesGo (-1) 0 xs acc).take acc.length=acc
 | [],acc=>by simp [timesGo]
 | x :: xs,acc=>by
  have h:=timesGo_pre xs (acc ++ [dueL acc x x.f1])
  rw [timesGo_plain]
  have h2:=congrArg (List.take acc.length) h
  rw [List.take_take,List.length_append,List.length_singleton,Nat.min_eq_left (by omega)] at h2
  rw [h2]
  simp
theorem timesGo_at:∀ (xs:List Sp) (acc:List Tm) (i:Nat) (x:Sp),xs[i]?=some x→(timesGo (-1) 0 xs acc)[acc.length + i]?=some (dueL ((timesGo (-1) 0 xs acc).take (acc.length + i)) x x.f1)
 | [],acc,i,x,h=>by simp at h
 | y :: xs,acc,0,x,h=>by
  simp only [List.getElem?_cons_zero,Option.some.injEq] at h
  subst h
  have h0:=timesGo_pre (y :: xs) acc
  rw [Nat.add_zero,h0]
  rw [timesGo_plain]
  have h:=timesGo_pre xs (acc ++ [dueL acc y y.f1])
  have h2:=congrArg (fun l=>l[acc.length]?) h
  simp only [List.length_append,List.length_singleton] at h2
  rw [List.getElem?_take_of_lt (by omega)] at h2
  rw [h2]
  simp
 | y :: xs,acc,i + 1,x,h=>by
  simp only [List.getElem?_cons_succ] at h
  have h2:=timesGo_at xs (acc ++ [dueL acc y y.f1]) i x h
  rw [timesGo_plain]
  rw [List.length_append,List.length_singleton,show acc.length + 1 + i=acc.length + (i + 1) by omega] at h2
  exact h2
theorem scan_lo (pre:List Tm) (a:Nat):∀ n,(scan pre a n).1 < 0∨(a:Int)≤(scan pre a n).1
 | 0=>.inl (by show (-1:Int) < 0;decide)
 | n + 1=>by
  have ih:=scan_lo pre a n
  rcases hs:scan pre a n with ⟨f,s⟩
  rw [hs] at ih
  simp only [scan,hs]
  cases pre[a + n]? with
  | none=>exact ih
  | some t =>
   simp only
   split
   ·exact .inr (by simp only;omega)
   ·exact ih
theorem line_step {line:List Sp} (v:ValidL line) {i:Nat} (hi:i < line.length) (h0:0 < i) {t:Tm} (ht:(timesL (-1) 0 line)[i]?=some t) :
  t=⟨-1,-1,-1,-1⟩∨(0≤t.f0∧(i:Int) - line[i].f0≤t.f0∧t.f2=t.f1 + line[i].f1∧t.f3=t.f2 + line[i].f2):=by
 have hx:=v.ships _ (List.getElem_mem hi)
 have h:=timesGo_at line [] i line[i] (List.getElem?_eq_getElem hi)
 have hl:=timesL_len (-1) 0 line
 unfold timesL at ht hl
 rw [List.length_nil,Nat.zero_add] at h
 rw [h] at ht
 have ht:=(Option.some.inj ht).symm
 have hp:((timesGo (-1) 0 line []).take i).length=i:=by rw [List.length_take];omega
 generalize (timesGo (-1) 0 line []).take i=pre at *
 subst ht
 unfold dueL
 rw [hp,if_neg (by omega)]
 have hlo:=scan_lo pre (i - line[i].f0.toNat) (i - (i - line[i].f0.toNat))
 rcases hs:scan pre (i - line[i].f0.toNat) (i - (i - line[i].f0.toNat)) with ⟨f,s⟩
 rw [hs] at hlo
 simp only at hlo ⊢
 split
 ·refine .inr ⟨by simp only;omega,by simp only;omega,rfl,rfl⟩
 ·exact .inl rfl
theorem lastAt_max (ts:List Tm):∀ n i,i < n→(ts.getD i z46).f2≤(ts.getD (lastAt ts n) z46).f2:=by
 intro n
 induction n with
 | zero=>intro i h;omega
 | succ n ih =>
  intro i h
  simp only [lastAt]
  by_cases e:i=n
  ·subst e
   split <;> omega
  ·have:=ih i (by omega)
   split <;> omega
theorem mxN_ge (x y:Int):x≤mx x y∧y≤mx x y∧(mx x y=x∨mx x y=y):=by
 unfold mx
 split <;> omega
theorem rdN_set {l:List Int} {j:Nat} (v:Int) (i:Nat) (hi:i < l.length):rd (l.set j v) (i:Int)=if j=i then v else rd l (i:Int):=by
 simp only [rd,Int.toNat_natCast,List.getD_eq_getElem?_getD,List.getElem?_set]
 by_cases h:j=i
 ·rw [if_pos h,if_pos h,if_pos (by omega)];rfl
 ·rw [if_neg h,if_neg h]
theorem ready_b {ts:List Tm} (hok:TimesOK ts) {B:Int} (hB:∀ (i:Nat) (t:Tm),ts[i]?=some t→t.f2≤B) (hlo:∀ (i:Nat) (t:Tm),ts[i]?=some t→-1≤t.f2):∀ m,m < ts.length→∀ j,j < ts.length→-1≤rd (readyTo ts m) (j:Int)∧rd (readyTo ts m) (j:Int)≤B:=by
 intro m
 induction m with
 | zero =>
  intro _ j hj
  have e:rd (readyTo ts 0) (j:Int)=ts[j].f2:=by simp [readyTo,rd,List.getD_eq_getElem?_getD,List.getElem?_eq_getElem hj]
  rw [e]
  exact ⟨hlo j _ (List.getElem?_eq_getElem hj),hB j _ (List.getElem?_eq_getElem hj)⟩
 | succ m ih =>
  intro hm j hj
  have ihj:=ih (by omega)
  have hp:ts.length - 1 - m < ts.length:=by omega
  simp only [readyTo,List.getElem?_eq_getElem hp]
  split
  ·rename_i hf
   have hl:=hok.later _ _ (List.getElem?_eq_getElem hp) (by omega)
   have hlt:(ts[ts.length - 1 - m].f0.toNat) < ts.length:=by
    rcases hl with e|e
    ·rw [e] at hf
     exact absurd hf (by decide)
    ·omega
   rw [rdN_set _ j (by rw [readyTo_len];exact hj)]
   split
   ·obtain ⟨q,hq⟩:∃ q:Nat,ts[ts.length - 1 - m].f0=(q:Int):=⟨_,(Int.toNat_of_nonneg hf).symm⟩
    rw [hq] at hlt ⊢
    rw [Int.toNat_natCast] at hlt
    have h1:=ihj q hlt
    have h2:=ihj (ts.length - 1 - m) hp
    have:=mxN_ge (rd (readyTo ts m) (q:Int)) (rd (readyTo ts m) ((ts.length - 1 - m:Nat):Int))
    omega
   ·exact ihj j hj
  ·exact ihj j hj
theorem ready_up {ts:List Tm} (hok:TimesOK ts):∀ m,m < ts.length→∀ (i:Nat) (t:Tm),ts[i]?=some t→0≤t.f3→∃ a,a < ts.length - m∧(∃ u,ts[a]?=some u∧0≤u.f3)∧t.f2≤rd (readyTo ts m) (a:Int):=by
 intro m
 induction m with
 | zero =>
  intro _ i t ht h3
  obtain ⟨hi,rfl⟩:=List.getElem?_eq_some_iff.1 ht
  exact ⟨i,by omega,⟨_,ht,h3⟩,by simp [readyTo,rd,List.getD_eq_getElem?_getD,List.getElem?_eq_getElem hi]⟩
 | succ m ih =>
  intro hm i t ht h3
  obtain ⟨a,ha,⟨u,hu,hu3⟩,hle⟩:=ih (by omega) i t ht h3
  have hp:ts.length - 1 - m < ts.length:=by omega
  have hpe:=List.getElem?_eq_getElem hp
  simp only [readyTo,hpe]
  by_cases e:a=ts.length - 1 - m
  ·rw [e] at hu hle
   rw [hpe] at hu
   have hu:=Option.some.inj hu
   rw [hu]
   rcases hok.later _ _ hpe (by omega) with z|⟨z0,z1,z2,u2,z3,z4⟩
   ·rw [hu] at z
    rw [z] at hu3
    exact absurd hu3 (by decide)
   ·rw [hu] at z0 z1 z2 z3 z4
    obtain ⟨q,hq⟩:∃ q:Nat,u.f0=(q:Int):=⟨_,(Int.toNat_of_nonneg z0).symm⟩
    rw [if_pos z0]
    rw [hq,Int.toNat_natCast] at z3 ⊢
    rw [hq] at z1
    refine ⟨q,by omega,⟨u2,z3,by omega⟩,?_⟩
    rw [rdN_set _ q (by rw [readyTo_len];omega),if_pos rfl]
    have:=mxN_ge (rd (readyTo ts m) (q:Int)) (rd (readyTo ts m) ((ts.length - 1 - m:Nat):Int))
    omega
  ·refine ⟨a,by omega,⟨u,hu,hu3⟩,?_⟩
   split
   ·rename_i hf
    rw [rdN_set _ a (by rw [readyTo_len];omega)]
    split
    ·rename_i hq
     have hq':ts[ts.length - 1 - m].f0=(a:Int):=by omega
     rw [hq']
     have:=mxN_ge (rd (readyTo ts m) (a:Int)) (rd (readyTo ts m) ((ts.length - 1 - m:Nat):Int))
     omega
    ·exact hle
   ·exact hle
theorem down_pre (ts:List Tm) (r0:Int):∀ m n,m≤n→n≤ts.length→(downTo ts r0 n).take m=downTo ts r0 m:=by
 intro m n hmn
 induction n with
 | zero =>
  intro _
  obtain rfl:m=0:=by omega
  rfl
 | succ n ih =>
  intro hn
  by_cases e:m=n + 1
  ·subst e
   rw [List.take_of_length_le (by rw [downTo_len ts r0 _ hn];exact Nat.le_refl _)]
  ·have hl:=downTo_len ts r0 n (by omega)
   rw [downTo,List.getElem?_eq_getElem (show n < ts.length by omega)]
   simp only
   rw [List.take_append_of_le_length (by omega)]
   exact ih (by omega) (by omega)
theorem rd_takeN {l:List Int} {m j:Nat} (h:j < m):rd (l.take m) (j:Int)=rd l (j:Int):=by
 simp only [rd,Int.toNat_natCast,List.getD_eq_getElem?_getD]
 rw [List.getElem?_take_of_lt h]
theorem down_at (ts:List Tm) (r0:Int) {i:Nat} (hi:i < ts.length) (hf:0 < i→0≤ts[i].f3→∃ q:Nat,ts[i].f0=(q:Int)∧q < i):rd (downTo ts r0 ts.length) (i:Int)=if i=0 then r0 else if ts[i].f3 < 0 then -1 else wrap64 (rd (downTo ts r0 ts.length) ts[i].f0 + 1):=by
 have e:=down_pre ts r0 (i + 1) ts.length (by omega) (Nat.le_refl _)
 have hl:=downTo_len ts r0 i (by omega)
 rw [← rd_takeN (l:=downTo ts r0 ts.length) (Nat.lt_succ_self i),show Nat.succ i=i + 1 from rfl,e,downTo,List.getElem?_eq_getElem hi]
 simp only
 have er:rd (downTo ts r0 i ++ [if i=0 then r0 else if ts[i].f3 < 0 then -1 else wrap64 (rd (downTo ts r0 i) ts[i].f0 + 1)]) (i:Int)=if i=0 then r0 else if ts[i].f3 < 0 then -1 else wrap64 (rd (downTo ts r0 i) ts[i].f0 + 1):=by
  simp only [rd,Int.toNat_natCast,List.getD_eq_getElem?_getD]
  rw [List.getElem?_append_right (by omega),hl,Nat.sub_self]
  rfl
 rw [er]
 by_cases h0:i=0
 ·rw [if_pos h0,if_pos h0]
 ·rw [if_neg h0,if_neg h0]
  by_cases h3:ts[i].f3 < 0
  ·rw [if_pos h3,if_pos h3]
  ·rw [if_neg h3,if_neg h3]
   obtain ⟨q,hq,hqi⟩:=hf (by omega) (by omega)
   rw [hq,← down_pre ts r0 i ts.length (by omega) (Nat.le_refl _),rd_takeN hqi]
def whereTo {α:Type} (p:α→Bool) (l:List α) (n:Nat):List Int:=((List.range n).filter fun i=>match l[i]? with|some x=>p x|none=>false).map fun i=>((i:Nat):Int)
theorem whereTo_succ {α:Type} (p:α→Bool) (l:List α) {n:Nat} (h:n < l.length):whereTo p l (n + 1)=whereTo p l n ++ if p l[n]=true then [(n:Int)] else []:=by
 unfold whereTo
 rw [List.range_succ,List.filter_append,List.map_append]
 congr 1
 simp only [List.filter_cons,List.filter_nil,List.getElem?_eq_getElem h]
 split <;> rfl
theorem whereTo_len {α:Type} (p:α→Bool) (l:List α) (n:Nat):(whereTo p l n).length≤n:=by
 unfold whereTo
 rw [List.length_map]
 exact Nat.le_trans (List.length_filter_le _ _) (by simp)
theorem implUnr (k:Nat) (ts:List Tm) (hl:ts.length≤1048576) (hk:ts.length < k):impl_Unreached.l0 k [] ts (ts.length:Int) 0=some (whereTo (fun t=>decide (t.f2 < 0)) ts ts.length,0):=by
 obtain ⟨r,hr,h⟩:=loop_inv (fun k (s:List Int × Int)=>impl_Unreached.l0 k s.1 ts (ts.length:Int) s.2) ts.length (fun i s=>s.2=(i:Int)∧s.1=whereTo (fun t=>decide (t.f2 < 0)) ts i) (fun r=>r=(whereTo (fun t=>decide (t.f2 < 0)) ts ts.length,0))
  (fun k i s hi ⟨h1,h2⟩=>by
   obtain ⟨c,x⟩:=s
   simp only at h1 h2
   subst h1 h2
   have hle:=whereTo_len (fun t=>decide (t.f2 < 0)) ts i
   refine .inl ⟨(whereTo (fun t=>decide (t.f2 < 0)) ts (i + 1),((i + 1:Nat):Int)),⟨rfl,rfl⟩,?_⟩
   rw [whereTo_succ _ _ hi]
   simp only [impl_Unreached.l0]
   rw [if_pos (by omega),if_pos (by omega),if_pos (by omega),rd_impl_Times hi,w64 (n:=(i:Int) + 1) (by omega) (by omega)]
   by_cases c1:(ts[i]).f2 < 0
   ·rw [if_pos c1,if_pos (by omega),if_pos (by simpa using c1)]
    rfl
   ·rw [if_neg c1,if_neg (by simpa using c1),List.append_nil]
    rfl)
  (fun k s ⟨h1,h2⟩=>by
   obtain ⟨c,x⟩:=s
   simp only at h1 h2
   subst h1 h2
   refine ⟨_,rfl,?_⟩
   simp only [impl_Unreached.l0]
   rw [if_neg (by omega)]) k ([],0) ⟨rfl,rfl⟩ hk
 subst hr
 exact h
theorem whereTo_congr {α:Type} {p q:α→Bool} {l:List α} (h:∀ (i:Nat) x,l[i]?=some x→p x=q x) (n:Nat):whereTo p l n=whereTo q l n:=by
 unfold whereTo
 congr 1
 apply List.filter_congr
 intro i _
 cases hx:l[i]? with
 | none=>rfl
 | some x=>exact h i x hx
def resUnreached (line:List Sp):List Int × Int:=if validB line=true then (whereTo (fun t=>decide (t.f3 < 0)) (timesL (-1) 0 line) (timesL (-1) 0 line).length,0) else ([],1)
theorem implUnreached_eq {k:Nat} {line:List Sp} (hw:∀ x∈line,wfShip x) (hk:1099000 < k):impl_Unreached.f k line=some (resUnreached line):=by
 unfold impl_Unreached.f resUnreached
 rw [implTimesOf_eq hw hk]
 simp only [Option.bind_some,resTimesOf]
 split
 ·rename_i h
  have v:=(validB_iff hw).1 h
  have:=v.most
  rw [if_pos rfl]
  simp only
  rw [implUnr k _ (by rw [timesL_len];omega) (by rw [timesL_len];omega)]
  rw [whereTo_congr (p:=fun t:Tm=>decide (t.f2 < 0)) (q:=fun t:Tm=>decide (t.f3 < 0)) (fun i t ht=>by have:=(v.timesOK.sign ht).1;simp [this])]
 ·rfl
def halfRev (l s:List Int) (i:Nat):Prop:=s.length=l.length∧∀ j,j < l.length→rd s (j:Int)=if j < i∨l.length - i≤j then rd l ((l.length - 1 - j:Nat):Int) else rd l (j:Int)
theorem halfRev_succ {l s:List Int} {i:Nat} (hi:2 * i + 1 < l.length) (h:halfRev l s i):halfRev l ((s.set i (rd s ((l.length - 1 - i:Nat):Int))).set (l.length - 1 - i) (rd s (i:Int))) (i + 1):=by
 obtain ⟨hs,h⟩:=h
 refine ⟨by simp [hs],fun j hj=>?_⟩
 by_cases e1:l.length - 1 - i=j
 ·subst e1
  rw [rd_set_eq (by rw [List.length_set];omega),if_pos (by omega),h i (by omega),if_neg (by omega),show l.length - 1 - (l.length - 1 - i)=i by omega]
 ·rw [rd_set_ne e1]
  by_cases e2:i=j
  ·subst e2
   rw [rd_set_eq (by omega),if_pos (by omega),h (l.length - 1 - i) (by omega),if_neg (by omega)]
  ·rw [rd_set_ne e2,h j hj]
   by_cases c:j < i∨l.length - i≤j
   ·rw [if_pos c,if_pos (by omega)]
   ·rw [if_neg c,if_neg (by omega)]
theorem reverse_eq (k:Nat) (l:List Int) (hl:l.length≤1048576) (hk:l.length < k):slices_Reverse_int64_int64.f k l=some l.reverse:=by
 unfold slices_Reverse_int64_int64.f
 obtain ⟨r,hr,h⟩:=loop_inv (fun k (s:List Int × Int × Int)=>slices_Reverse_int64_int64.l0 k s.1 s.2.1 s.2.2) (l.length / 2)
  (fun i s=>s.2.1=(i:Int)∧s.2.2=(l.length:Int) - 1 - i∧halfRev l s.1 i)
  (fun r=>r=l.reverse)
  (fun k i s hi ⟨h1,h2,h3⟩=>by
   obtain ⟨s,a,b⟩:=s
   simp only at h1 h2 h3
   subst h1 h2
   have hs:=h3.1
   refine .inl ⟨((s.set i (rd s ((l.length - 1 - i:Nat):Int))).set (l.length - 1 - i) (rd s (i:Int)),((i + 1:Nat):Int),(l.length:Int) - 1 - ((i + 1:Nat):Int)),⟨rfl,rfl,halfRev_succ (by omega) h3⟩,?_⟩
   simp only [slices_Reverse_int64_int64.l0]
   rw [show (l.length:Int) - 1 - (i:Int)=((l.length - 1 - i:Nat):Int) by omega]
   rw [if_pos (by omega),if_pos (by omega),if_pos (by omega),if_pos (by omega),if_pos (by omega),w64 (n:=(i:Int) + 1) (by omega) (by omega),w64 (n:=((l.length - 1 - i:Nat):Int) - 1) (by omega) (by omega),Int.toNat_natCast,Int.toNat_natCast]
   rw [show ((l.length - 1 - i:Nat):Int) - 1=(l.length:Int) - 1 - ((i + 1:Nat):Int) by omega]
   rfl)
  (fun k s ⟨h1,h2,hs,h3⟩=>by
   obtain ⟨s,a,b⟩:=s
   simp only at h1 h2 hs h3
   subst h1 h2
   refine ⟨s,?_,?_⟩
   ·apply List.ext_getElem (by simp [hs])
    intro j hj hj'
    have h4:=h3 j (by omega)
    rw [rd_nat (by omega),rd_nat (by omega),rd_nat (by omega)] at h4
    rw [h4,List.getElem_reverse]
    split
    ·rfl
    ·congr 1
     omega
   ·simp only [slices_Reverse_int64_int64.l0]
    rw [if_neg (by omega)]) k (l,0,(l.length:Int) - 1) ⟨rfl,by simp,rfl,fun j hj=>by rw [if_neg (by omega)]⟩ (by omega)
 subst hr
 rw [w64 (by omega) (by omega)]
 exact h
def wayBack (ts:List Tm):Nat→Nat→List Int
 | 0,i=>[(i:Int)]
 | n + 1,i=>if i=0 then [0] else (i:Int) :: wayBack ts n ((ts.getD i z46).f0.toNat)
theorem wayBack_len (ts:List Tm):∀ n i,(wayBack ts n i).length≤n + 1
 | 0,i=>by simp [wayBack]
 | n + 1,i=>by
  simp only [wayBack]
  split
  ·simp
  ·have:=wayBack_len ts n ((ts.getD i z46).f0.toNat)
   simp only [List.length_cons]
   omega
theorem implWay (k:Nat) (ts:List Tm) (hok:TimesOK ts) (hl:ts.length≤20) (hk:100 < k) :
  ∀ n (i:Nat) (acc:List Int),i≤n→(hi:i < ts.length)→0≤(ts[i]).f3→acc.length + n≤50→∃ m,100 < m∧impl_WayToShip.l0 (k + n + 1) (i:Int) ts (acc ++ [(i:Int)])=((slices_Reverse_int64_int64.f m (acc ++ wayBack ts n i)).bind fun t=>some (t,0)):=by
 intro n
 induction n with
 | zero =>
  intro i acc hin hi hf ha
  refine ⟨k,hk,?_⟩
  obtain rfl:i=0:=by omega
  unfold impl_WayToShip.l0
  rw [if_neg (by omega)]
  rfl
 | succ n ih =>
  intro i acc hin hi hf ha
  by_cases h0:i=0
  ·subst h0
   refine ⟨k + (n + 1),by omega,?_⟩
   unfold impl_WayToShip.l0
   rw [if_neg (by omega)]
   rfl
  ·have e:=List.getElem?_eq_getElem hi
   rcases hok.later i _ e (by omega) with h|⟨h1,h2,h3,u,hu,h4⟩
   ·rw [h] at hf
    exact absurd hf (by decide)
   ·obtain ⟨q,hq⟩:∃ q:Nat,(ts[i]).f0=(q:Int):=⟨(ts[i]).f0.toNat,by omega⟩
    have hqi:q < i:=by omega
    rw [hq,Int.toNat_natCast] at hu
    have hql:q < ts.length:=by omega
    rw [List.getElem?_eq_getElem hql] at hu
    cases hu
    obtain ⟨m,hm,h⟩:=ih q (acc ++ [(i:Int)]) (by omega) hql (by omega) (by simp;omega)
    refine ⟨m,hm,?_⟩
    rw [show k + (n + 1) + 1=(k + n + 1) + 1 by omega]
    conv=>lhs;unfold impl_WayToShip.l0
    rw [if_pos (by omega),if_pos (by omega),if_pos (by omega),if_pos (by simp;omega),rd_impl_Times hi,hq,w64 (n:=(q:Int)) (by omega) (by omega),h]
    simp only [wayBack,if_neg h0,getD_in hi,hq,Int.toNat_natCast,List.append_assoc,List.singleton_append]
theorem reachQ {ts:List Tm} (hok:TimesOK ts) {i:Nat} (hi:i < ts.length) (h0:0 < i) (h3:0≤ts[i].f3):∃ q:Nat,ts[i].f0=(q:Int)∧q < i∧∃ hq:q < ts.length,ts[q].f3=ts[i].f1∧0≤ts[q].f3:=by
 rcases hok.later i _ (List.getElem?_eq_getElem hi) h0 with e|⟨z0,z1,z2,u,z3,z4⟩
 ·rw [e] at h3
  exact absurd h3 (by decide)
 ·obtain ⟨q,hq⟩:∃ q:Nat,ts[i].f0=(q:Int):=⟨_,(Int.toNat_of_nonneg z0).symm⟩
  rw [hq,Int.toNat_natCast] at z3
  obtain ⟨hql,rfl⟩:=List.getElem?_eq_some_iff.1 z3
  exact ⟨q,hq,by omega,hql,z4,by omega⟩
theorem down_facts {line:List Sp} (v:ValidL line) {ts:List Tm} (hts:timesL (-1) 0 line=ts):∃ r0:Int,0≤r0∧r0≤5000∧(∀ i (h:i < ts.length),ts[i].f2≤r0)∧∀ i (h:i < ts.length),(i=0→rd (downL ts) (i:Int)=r0)∧(0 < i→ts[i].f3 < 0→rd (downL ts) (i:Int)=-1)∧(0 < i→0≤ts[i].f3→rd (downL ts) (i:Int)=rd (downL ts) ts[i].f0 + 1)∧(0≤ts[i].f3→0≤rd (downL ts) (i:Int)∧rd (downL ts) (i:Int)≤r0 + i):=by
 have hok:=v.timesOK
 have hlen:=timesL_len (-1) 0 line
 rw [hts] at hok hlen
 have h1:=v.pos
 have h20:=v.most
 have hB:∀ (i:Nat) (t:Tm),ts[i]?=some t→t.f2≤4200:=fun i t ht=>by
  have h:=hok.bound i t ht
  obtain ⟨hi,_⟩:=List.getElem?_eq_some_iff.1 ht
  omega
 have hlo:∀ (i:Nat) (t:Tm),ts[i]?=some t→-1≤t.f2:=fun i t ht=>by
  rcases Nat.eq_zero_or_pos i with h0|h0
  ·subst h0
   have:=hok.first t ht
   omega
  ·rcases hok.later i t ht h0 with e|e
   ·rw [e]
    decide
   ·have:=hok.bound i t ht
    omega
 have hr:=ready_b hok hB hlo (ts.length - 1) (by omega) 0 (by omega)
 rw [show ((0:Nat):Int)=0 from rfl] at hr
 have hf:=hok.first _ (List.getElem?_eq_getElem (show 0 < ts.length by omega))
 have hfb:=hok.bound _ _ (List.getElem?_eq_getElem (show 0 < ts.length by omega))
 have hg0:(ts.getD 0 z46)=ts[0]:=getD_in (by omega)
 have hm:=mxN_ge (rd (readyTo ts (ts.length - 1)) 0) ts[0].f3
 refine ⟨mx (rd (readyTo ts (ts.length - 1)) 0) ts[0].f3,by omega,by omega,fun i hi=>?_,?_⟩
 ·by_cases h3:0≤ts[i].f3
  ·obtain ⟨a,ha,_,hle⟩:=ready_up hok (ts.length - 1) (by omega) i _ (List.getElem?_eq_getElem hi) h3
   obtain rfl:a=0:=by omega
   rw [show ((0:Nat):Int)=0 from rfl] at hle
   omega
  ·have:=(hok.sign (List.getElem?_eq_getElem hi)).1
   omega
 ·have hd:downL ts=downTo ts (mx (rd (readyTo ts (ts.length - 1)) 0) ts[0].f3) ts.length:=by
   unfold downL
   rw [hg0]
  generalize mx (rd (readyTo ts (ts.length - 1)) 0) ts[0].f3=r0 at *
  have hat:=fun i (hi:i < ts.length)=>down_at ts r0 hi (fun h0 h3=>by
   obtain ⟨q,hq,hqi,_⟩:=reachQ hok hi h0 h3
   exact ⟨q,hq,hqi⟩)
  rw [← hd] at hat
  have key:∀ d i,i≤d→∀ (h:i < ts.length),0≤ts[i].f3→(0 < i→rd (downL ts) (i:Int)=rd (downL ts) ts[i].f0 + 1)∧0≤rd (downL ts) (i:Int)∧rd (downL ts) (i:Int)≤r0 + i:=by
   intro d
   induction d with
   | zero =>
    intro i hid hi h3
    obtain rfl:i=0:=by omega
    rw [hat 0 hi,if_pos rfl]
    exact ⟨fun h=>by omega,by omega,by omega⟩
   | succ d ih =>
    intro i hid hi h3
    by_cases h0:i=0
    ·subst h0
     rw [hat 0 hi,if_pos rfl]
     exact ⟨fun h=>by omega,by omega,by omega⟩
    ·obtain ⟨q,hq,hqi,hql,e1,e2⟩:=reachQ hok hi (by omega) h3
     obtain ⟨_,b1,b2⟩:=ih q (by omega) hql e2
     rw [hat i hi,if_neg h0,if_neg (by omega),hq,w64 (by omega) (by omega)]
     exact ⟨fun _=>rfl,by omega,by omega⟩
  intro i hi
  refine ⟨fun h=>?_,fun h0 h3=>?_,fun h0 h3=>(key i i (Nat.le_refl _) hi h3).1 h0,fun h3=>(key i i (Nat.le_refl _) hi h3).2⟩
  ·rw [hat i hi,if_pos h]
  ·rw [hat i hi,if_neg (by omega),if_pos h3]
theorem back_end {ts:List Tm} (hok:TimesOK ts):∀ n i (h:i < ts.length),i≤n→0≤ts[i].f3→∃ pre,wayBack ts n i=pre ++ [0]:=by
 intro n
 induction n with
 | zero =>
  intro i h hn h3
  obtain rfl:i=0:=by omega
  exact ⟨[],rfl⟩
 | succ n ih =>
  intro i h hn h3
  unfold wayBack
  by_cases h0:i=0
  ·rw [if_pos h0]
   exact ⟨[],rfl⟩
  ·rw [if_neg h0,getD_in h]
   obtain ⟨q,hq,hqi,hql,e1,e2⟩:=reachQ hok h (by omega) h3
   obtain ⟨pre,e⟩:=ih q hql (by omega) e2
   rw [hq,Int.toNat_natCast,e]
   exact ⟨(i:Int) :: pre,rfl⟩
theorem back_head (ts:List Tm):∀ n i,∃ r,wayBack ts n i=(i:Int) :: r
 | 0,i=>⟨[],rfl⟩
 | n + 1,i=>by
  unfold wayBack
  split
  ·rename_i h
   subst h
   exact ⟨[],rfl⟩
  ·exact ⟨_,rfl⟩
theorem rd_tail {l:List Int} {x:Int}:rd (l ++ [x]) ((l.length:Nat):Int)=x:=by
 simp [rd,List.getD_eq_getElem?_getD]
theorem way_ok {ts:List Tm} (hok:TimesOK ts) {i:Nat} (h:i < ts.length) (h20:i≤20) (h3:0≤ts[i].f3):(wayBack ts 20 i).reverse.length≤21∧1≤(wayBack ts 20 i).reverse.length∧rd (wayBack ts 20 i).reverse 0=0∧rd (wayBack ts 20 i).reverse (((wayBack ts 20 i).reverse.length:Int) - 1)=(i:Int)∧(0 < i→2≤(wayBack ts 20 i).reverse.length∧rd (wayBack ts 20 i).reverse (((wayBack ts 20 i).reverse.length:Int) - 2)=ts[i].f0):=by
 have hle:=wayBack_len ts 20 i
 obtain ⟨r,hr⟩:=back_head ts 20 i
 obtain ⟨pre,hp⟩:=back_end hok 20 i h h20 h3
 refine ⟨by rw [List.length_reverse];exact hle,by rw [List.length_reverse,hr,List.length_cons];omega,by rw [hp,List.reverse_append];rfl,?_,fun h0=>?_⟩
 ·rw [hr,List.reverse_cons,List.length_append,List.length_singleton,show (((r.reverse.length + 1:Nat):Int) - 1)=((r.reverse.length:Nat):Int) by omega,rd_tail]
 ·obtain ⟨q,hq,hqi,hql,e1,e2⟩:=reachQ hok h h0 h3
  have e:wayBack ts 20 i=(i:Int) :: wayBack ts 19 q:=by
   rw [show (20:Nat)=19 + 1 from rfl]
   conv=>lhs;unfold wayBack
   rw [if_neg (by omega),getD_in h,hq,Int.toNat_natCast]
  obtain ⟨r2,hr2⟩:=back_head ts 19 q
  rw [e,hr2,hq]
  simp only [List.reverse_cons,List.length_append,List.length_singleton]
  refine ⟨by omega,?_⟩
  rw [show (((r2.reverse.length + 1 + 1:Nat):Int) - 2)=((r2.reverse.length:Nat):Int) by omega]
  have:r2.reverse.length < (r2.reverse ++ [(q:Int)]).length:=by simp
  simp only [rd,Int.toNat_natCast,List.getD_eq_getElem?_getD]
  rw [List.getElem?_append_left this]
  simp
theorem eqL_refl:∀ l:List Tm,eqL l l=true
 | []=>rfl
 | x :: l=>by
  unfold eqL
  rw [eqL_refl l]
  unfold neT
  simp
theorem eqL_set:∀ (l:List Tm) (i:Nat) (x:Tm) (h:i < l.length),l[i].f3≠x.f3→eqL l (l.set i x)=false
 | [],i,x,h,_=>by simp at h
 | y :: l,0,x,_,hn=>by
  simp only [List.getElem_cons_zero] at hn
  rw [List.set_cons_zero]
  unfold eqL neT
  rw [show (y.f3 == x.f3)=false from beq_eq_false_iff_ne.2 hn]
  simp
 | y :: l,i + 1,x,h,hn=>by
  simp only [List.getElem_cons_succ] at hn
  rw [List.set_cons_succ]
  unfold eqL
  rw [eqL_set l i x (by simpa using h) hn,Bool.and_false]
theorem lost_has {ts:List Tm} (i:Nat) (h:i < ts.length):(i:Int)∈whereTo (fun t=>decide (t.f3 < 0)) ts ts.length ↔ ts[i].f3 < 0:=by
 unfold whereTo
 rw [List.mem_map]
 constructor
 ·rintro ⟨j,hj,e⟩
  obtain rfl:j=i:=by omega
  rw [List.mem_filter,List.getElem?_eq_getElem h] at hj
  simpa using hj.2
 ·intro h3
  refine ⟨i,?_,rfl⟩
  rw [List.mem_filter,List.getElem?_eq_getElem h]
  exact ⟨List.mem_range.2 h,by simpa using h3⟩
theorem hasN_in {s:Int} {t:List Int} (ht:t.length≤4000):∀ d i K,i + d=t.length→d + 1≤K→spec_A2Has.l0 K t s (i:Int)=some (decide (s∈t.drop i)):=by
 intro d
 induction d with
 | zero =>
  intro i K hi hK
  obtain ⟨K,rfl⟩:∃ m,K=m + 1:=⟨K - 1,by omega⟩
  rw [spec_A2Has.l0,if_neg (by omega),List.drop_of_length_le (by omega)]
  simp
 | succ d ih =>
  intro i K hi hK
  obtain ⟨K,rfl⟩:∃ m,K=m + 1:=⟨K - 1,by omega⟩
  have e:=ih (i + 1) K (by omega) (by omega)
  have hil:i < t.length:=by omega
  rw [spec_A2Has.l0,if_pos (by omega),if_pos (by omega),w64 (by omega) (by omega),show (i:Int) + 1=((i + 1:Nat):Int) by omega,e]
  have hr:rd t (i:Int)=t[i]:=by simp [rd,List.getD_eq_getElem?_getD,List.getElem?_eq_getElem hil]
  have hd:(s∈t.drop i) ↔ (s=t[i]∨s∈t.drop (i + 1)):=by rw [List.drop_eq_getElem_cons hil];exact List.mem_cons
  rw [hr]
  by_cases h:t[i]=s
  ·rw [if_pos h,decide_eq_true (hd.2 (.inl h.symm))]
  ·rw [if_neg h]
   exact congrArg some (decide_eq_decide.2 ⟨fun q=>hd.2 (.inr q),fun q=>(hd.1 q).resolve_left (fun h_=>h h_.symm)⟩)
theorem hasN {s:Int} {t:List Int} (ht:t.length≤4000) {k:Nat} (hk:10000≤k):spec_A2Has.f k t s=some (decide (s∈t)):=by
 have:=hasN_in (s:=s) ht t.length 0 k (by omega) (by omega)
 rw [List.drop_zero,show ((0:Nat):Int)=0 from rfl] at this
 exact this
theorem sameNL_in {l:List Int} (hl:l.length≤1000):∀ (d i k:Nat),i + d=l.length→d < k→spec_l00Same.l0 k l l (i:Int)=some true:=by
 intro d
 induction d with
 | zero =>
  intro i k hi hk
  obtain ⟨k,rfl⟩:∃ m,k=m + 1:=⟨k - 1,by omega⟩
  rw [spec_l00Same.l0,if_neg (by omega)]
 | succ d ih =>
  intro i k hi hk
  obtain ⟨k,rfl⟩:∃ m,k=m + 1:=⟨k - 1,by omega⟩
  have e:=ih (i + 1) k (by omega) (by omega)
  rw [show ((i + 1:Nat):Int)=(i:Int) + 1 by omega] at e
  rw [spec_l00Same.l0]
  simp only [if_pos (show (i:Int) < (l.length:Int) by omega),if_pos (show (0:Int)≤(i:Int) by omega),if_true,w64 (n:=(i:Int) + 1) (by omega) (by omega)]
  exact e
theorem sameNL {l:List Int} (hl:l.length≤1000) {k:Nat} (hk:2000 < k):spec_A2Same.f k l l=some true:=by
 unfold spec_A2Same.f spec_l00Same.f
 have e:=sameNL_in hl l.length 0 k (by omega) (by omega)
 rw [show ((0:Nat):Int)=0 from rfl] at e
 rw [if_pos rfl,e]
 rfl
theorem sameShN_in {l:List Sp} (hl:l.length≤1000):∀ (d i k:Nat),i + d=l.length→d < k→spec_A2SameLine.l0 k l l (i:Int)=some true:=by
 intro d
 induction d with
 | zero =>
  intro i k hi hk
  obtain ⟨k,rfl⟩:∃ m,k=m + 1:=⟨k - 1,by omega⟩
  rw [spec_A2SameLine.l0,if_neg (by omega)]
 | succ d ih =>
  intro i k hi hk
  obtain ⟨k,rfl⟩:∃ m,k=m + 1:=⟨k - 1,by omega⟩
  have e:=ih (i + 1) k (by omega) (by omega)
  rw [show ((i + 1:Nat):Int)=(i:Int) + 1 by omega] at e
  rw [spec_A2SameLine.l0]
  rw [if_pos (by omega),if_pos (by omega),if_pos (by omega),if_neg (by simp),w64 (n:=(i:Int) + 1) (by omega) (by omega)]
  exact e
theorem sameShN {l:List Sp} (hl:l.length≤1000) {k:Nat} (hk:2000 < k):spec_A2SameLine.f k l l=some true:=by
 unfold spec_A2SameLine.f
 have e:=sameShN_in hl l.length 0 k (by omega) (by omega)
 rw [show ((0:Nat):Int)=0 from rfl] at e
 rw [if_pos rfl,e]
theorem bytes_ofN {l:List Int} (h:∀ x∈l,(Lit.int .u8 x).wf=true):Bytes l:=fun x hx=>by
 have:=h x hx
 simp [Lit.wf,IntKind.min,IntKind.max,IntKind.signed,IntKind.bits] at this
 omega
theorem a2At_ok {l:List Int} (hc:Bytes l) (i n:Int) (hi:0≤i) (hn:1≤n):∃ r,laws_a2At.f l i n=some r∧0≤r∧r < n:=by
 unfold laws_a2At.f
 by_cases h:i≥(l.length:Int)
 ·rw [if_pos h]
  exact ⟨0,rfl,by omega,by omega⟩
 ·rw [if_neg h,if_neg (by omega),if_pos hi,if_pos (by omega),if_neg (by omega)]
  have hb:=bytes_at hc hi (by omega)
  rw [w64 (by omega) (by omega)]
  refine ⟨_,rfl,?_,?_⟩
  ·exact Int.tmod_nonneg _ hb.1
  ·exact Int.tmod_lt_of_pos _ (by omega)
def greatN (D:List Int) (i:Nat):Int:=if i=0 then 0 else gmax (D.take i)
def countN (ts:List Tm) (time:Int) (i:Nat):Int:=(((ts.take i).countP (isIn time):Nat):Int)
structure LCase (line:List Sp) (ts:List Tm):Prop where
 v:ValidL line
 hw:∀ x∈line,wfShip x
 eq:timesL (-1) 0 line=ts
 few:line.length≤8
theorem great_one {line:List Sp} {ts:List Tm} (c:LCase line ts) {i:Nat} (hi:i < ts.length):(0 < i→0≤greatN (downL ts) i)∧(if 0≤ts[i].f3 then mx (greatN (downL ts) i) (rd (downL ts) (i:Int)) else greatN (downL ts) i)=greatN (downL ts) (i + 1):=by
 obtain ⟨r0,g0,g1,g2,g3⟩:=down_facts c.v c.eq
 have hdl:=downL_len ts
 have hok:=c.v.timesOK
 rw [c.eq] at hok
 have step:∀ i (hi:i < ts.length),0≤greatN (downL ts) i→(if 0≤ts[i].f3 then mx (greatN (downL ts) i) (rd (downL ts) (i:Int)) else greatN (downL ts) i)=greatN (downL ts) (i + 1):=fun i hi hg=>by
  obtain ⟨f1,f2,f3,f4⟩:=g3 i hi
  by_cases h0:i=0
  ·subst h0
   have hf:=hok.first _ (List.getElem?_eq_getElem hi)
   rw [if_pos hf.2.2.2]
   have e:=f1 rfl
   have hm:=mxN_ge 0 (rd (downL ts) ((0:Nat):Int))
   rw [e] at hm ⊢
   have hd:(downL ts).take 1=[r0]:=by
    cases hD:downL ts with
    | nil=>rw [hD] at hdl;simp at hdl;omega
    | cons x r =>
     rw [hD] at e
     have:x=r0:=by simpa [rd] using e
     rw [this]
     rfl
   show mx 0 r0=gmax ((downL ts).take 1)
   rw [hd]
   show mx 0 r0=r0
   omega
  ·have hs:=gmax_snoc (l:=downL ts) (k:=i) (by omega) (by omega)
   unfold greatN at hg ⊢
   rw [if_neg h0] at hg ⊢
   rw [if_neg (show ¬ i + 1=0 by omega),hs]
   by_cases h3:0≤ts[i].f3
   ·rw [if_pos h3]
   ·rw [if_neg h3,f2 (by omega) (by omega)]
    have:=mxN_ge (gmax ((downL ts).take i)) (-1)
    omega
 have all:∀ i,i≤ts.length→0≤greatN (downL ts) i:=by
  intro i
  induction i with
  | zero=>intro _;exact Int.le_refl 0
  | succ i ih =>
   intro h
   have h2:=ih (by omega)
   rw [← step i (by omega) h2]
   split
   ·have:=mxN_ge (greatN (downL ts) i) (rd (downL ts) (i:Int))
    omega
   ·exact h2
 exact ⟨fun _=>all i (by omega),step i hi (all i (by omega))⟩
theorem count_one (ts:List Tm) (time:Int) {i:Nat} (hi:i < ts.length):countN ts time (i + 1)=countN ts time i + if isIn time ts[i]=true then 1 else 0:=by
 unfold countN
 rw [countP_take _ _ hi]
 split <;> omega
def codeL (line:List Sp) (ship:Int):Int:=if validB line=true then (if (decide (0≤ship) && decide (ship≤(line.length:Int) - 1))=true then 0 else 2) else 1
theorem implCode_eq {line:List Sp} {ship:Int} (hl:line.length≤1048576):impl_shipCode.f line ship=some (codeL line ship):=by
 unfold impl_shipCode.f codeL impl_size_Ship.f
 rw [implValid_eq]
 simp only [Option.bind_some]
 rw [within_eq,w64 (by omega) (by omega)]
 simp only [Option.bind_some,impl_unless.f]
 split
 ·split <;> rfl
 ·rfl
theorem codeL_zero {line:List Sp} {ship:Int} (hw:∀ x∈line,wfShip x):codeL line ship=0 ↔ ValidL line∧∃ q:Nat,ship=(q:Int)∧q < line.length:=by
 unfold codeL
 constructor
 ·intro h
  split at h
  ·rename_i hv
   split at h
   ·rename_i hs
    simp only [Bool.and_eq_true,decide_eq_true_eq] at hs
    exact ⟨(validB_iff hw).1 hv,ship.toNat,by omega,by omega⟩
   ·omega
  ·omega
 ·rintro ⟨v,q,rfl,hq⟩
  rw [if_pos ((validB_iff hw).2 v),if_pos (by simp;omega)]
def resWay (line:List Sp) (ship:Int):List Int × Int :=
 if codeL line ship=0 then (if ((timesL (-1) 0 line).getD ship.toNat z46).f3 < 0 then ([],6) else ((wayBack (timesL (-1) 0 line) 20 ship.toNat).reverse,0)) else ([],codeL line ship)
theorem implWay_eq {k:Nat} {line:List Sp} {ship:Int} (hw:∀ x∈line,wfShip x) (hl:line.length≤1048576) (hk:1099000 < k):impl_WayToShip.f k line ship=some (resWay line ship):=by
 unfold impl_WayToShip.f resWay
 rw [implCode_eq hl]
 simp only [Option.bind_some]
 by_cases h:codeL line ship=0
 ·rw [if_pos h,if_pos h]
  obtain ⟨v,q,rfl,hq⟩:=(codeL_zero hw).1 h
  have hlen:=timesL_len (-1) 0 line
  have h20:=v.most
  rw [v.implTimes (by omega)]
  simp only [Option.bind_some,Int.toNat_natCast]
  rw [if_pos (by omega),if_pos (by omega),rd_getD]
  have hs:=v.timesOK.sign (i:=q) (List.getElem?_eq_getElem (by omega))
  rw [getD_in (by omega)]
  by_cases c:((timesL (-1) 0 line)[q]'(by omega)).f3 < 0
  ·rw [if_pos (by omega),if_pos c]
  ·rw [if_neg (by omega),if_neg c]
   obtain ⟨m,rfl⟩:∃ m,k=m + 20 + 1:=⟨k - 21,by omega⟩
   obtain ⟨m',hm',h'⟩:=implWay m _ v.timesOK (by omega) (by omega) 20 q [] (by omega) (by omega) (by omega) (by simp)
   have hb:=wayBack_len (timesL (-1) 0 line) 20 q
   rw [List.nil_append] at h'
   rw [h',reverse_eq m' _ (by simp;omega) (by simp;omega)]
   rfl
 ·rw [if_neg h,if_neg h]
theorem ln_first (k:Nat) (x1:List Int) (line:List Sp) (ts:List Tm) (lost D way:List Int) (last endd g cnt time wc:Int) {i:Nat} {t:Tm} (hi:i < ts.length) (ht:ts[i]=t)
  (hway:impl_WayToShip.f k line (i:Int)=some (way,wc)) (hhas:spec_A2Has.f k lost (i:Int)=some (!decide (t.f3≥0))) (hc:(wc == 0)=decide (t.f3≥0)) (h1:t.f2≤last) (hD:i < D.length) (h2:t.f2≤rd D 0) (h3:decide (rd D (i:Int)≥0)=decide (t.f3≥0)) :
  laws_FnLines.l0 (k + 1) x1 line ts lost last D endd g cnt time (i:Int)=laws_FnLines.j2 k x1 line ts lost last D endd g cnt time (i:Int) (decide (t.f3≥0)) way wc false t.f0 t.f1 t.f2 t.f3:=by
 rw [laws_FnLines.l0,if_pos (by omega),if_pos (by omega),hway]
 simp only [Option.bind_some]
 rw [hhas]
 simp only [Option.bind_some]
 rw [rd_impl_Times hi,ht]
 rw [hc,h3,bne_self_eq_false]
 have e1:((!decide (t.f3≥0)) == decide (t.f3≥0))=false:=by cases decide (t.f3≥0) <;> rfl
 rw [e1,if_neg (by decide),if_neg (by decide),if_neg (by omega),if_pos (by omega),if_neg (by omega),if_pos (by omega)]
theorem ln_not (k:Nat) (x1:List Int) (line:List Sp) (ts:List Tm) (lost D way:List Int) (last endd g cnt time:Int) {i:Nat} (hi:(i:Int) + 1≤1000) (f3:Int) :
  laws_FnLines.j2 (k + 1) x1 line ts lost last D endd g cnt time (i:Int) false way 6 false (-1) (-1) (-1) f3=laws_FnLines.l0 k x1 line ts lost last D endd g cnt time ((i + 1:Nat):Int):=by
 rw [laws_FnLines.j2,if_neg (by decide),if_neg (by decide),if_pos rfl,if_pos rfl,if_pos rfl,if_pos rfl,w64 (by omega) (by omega)]
 rfl
theorem ln_yes (k:Nat) (x1:List Int) (line:List Sp) (ts:List Tm) (lost D way:List Int) (last endd g cnt time f0 f1 f2 f3:Int) {i:Nat} (hi:i < D.length) (hc:0≤cnt∧cnt≤1000) :
  laws_FnLines.j2 (k + 1) x1 line ts lost last D endd g cnt time (i:Int) true way 0 false f0 f1 f2 f3=laws_FnLines.j3 k x1 line ts lost last D endd (mx g (rd D (i:Int))) (cnt + if f2≤time then 1 else 0) time (i:Int) way f0 f1 f2 f3:=by
 rw [laws_FnLines.j2,if_neg (by decide),if_pos rfl,if_pos (by omega),if_pos (by omega),w64 (by omega) (by omega)]
 by_cases h:f2≤time
 ·rw [if_pos h,if_pos h]
 ·rw [if_neg h,if_neg h,Int.add_zero]
theorem ln_way (k:Nat) (x1:List Int) (line:List Sp) (ts:List Tm) (lost D way:List Int) (last endd g cnt time f0 f1 f2 f3:Int) {i:Nat} (w0:way.length≤21) (w1:1≤way.length) (w2:rd way 0=0) (w3:rd way ((way.length:Int) - 1)=(i:Int)) :
  laws_FnLines.j3 (k + 1) x1 line ts lost last D endd g cnt time (i:Int) way f0 f1 f2 f3=laws_FnLines.j4 k x1 line ts lost last D endd g cnt time (i:Int) way false f0 f1 f2 f3:=by
 rw [laws_FnLines.j3,if_neg (by omega),if_pos (by omega),if_pos w2,w64 (n:=(way.length:Int) - 1) (by omega) (by omega),if_pos (by omega),if_pos (by omega),w3,bne_self_eq_false]
theorem ln_zero (k:Nat) (x1:List Int) (line:List Sp) (ts:List Tm) (lost D way:List Int) (last endd g cnt time f0 f1 f2 f3:Int) :
  laws_FnLines.j4 (k + 1) x1 line ts lost last D endd g cnt time ((0:Nat):Int) way false f0 f1 f2 f3=laws_FnLines.l0 k x1 line ts lost last D endd g cnt time ((0 + 1:Nat):Int):=by
 rw [laws_FnLines.j4,if_neg (by decide),if_pos (by omega),w64 (by omega) (by omega)]
 rfl
theorem ln_from (k:Nat) (x1:List Int) (line:List Sp) (ts:List Tm) (lost D way:List Int) (last endd g cnt time f1 f2 f3:Int) {i q:Nat} {s:Sp} {u:Tm} (h0:0 < i) (hi8:i≤100) (hqi:q < i) (hil:i < line.length) (hs:line[i]=s) (hql:q < ts.length) (hu:ts[q]=u)
  (s0:0≤s.f0∧s.f0≤6) (s1:0≤s.f1∧s.f1≤60) (s2:0≤s.f2∧s.f2≤60) (p2:(i:Int) - s.f0≤(q:Int)) (b1:-1≤f1∧f1≤100000) (e1:f1=u.f3) (p3:f2=f1 + s.f1) (p4:f3=f2 + s.f2) (hDi:i < D.length) (dq:0≤rd D (q:Int)∧rd D (q:Int)≤100000) (hdn:rd D (i:Int)=rd D (q:Int) + 1) (w0:way.length≤21) (w5:2≤way.length) (w6:rd way ((way.length:Int) - 2)=(q:Int)) :
  laws_FnLines.j4 (k + 1) x1 line ts lost last D endd g cnt time (i:Int) way false (q:Int) f1 f2 f3=laws_FnLines.l0 k x1 line ts lost last D endd g cnt time ((i + 1:Nat):Int):=by
 rw [laws_FnLines.j4,if_neg (by decide),if_neg (by omega),if_neg (by omega)]
 rw [w64 (n:=(q:Int)) (by omega) (by omega),if_neg (by omega),if_pos (by omega),if_pos (by omega)]
 rw [rd_impl_Ship hil,hs,w64 (n:=s.f0) (by omega) (by omega),w64 (n:=(i:Int) - s.f0) (by omega) (by omega),if_neg (by omega),if_pos (by omega),if_pos (by omega)]
 rw [rd_impl_Times hql,hu,if_pos e1]
 rw [w64 (n:=s.f1) (by omega) (by omega),w64 (n:=f1 + s.f1) (by omega) (by omega),if_pos p3]
 rw [w64 (n:=s.f2) (by omega) (by omega),w64 (n:=f2 + s.f2) (by omega) (by omega),if_pos p4]
 rw [if_pos (by omega),if_pos (by omega),w64 (n:=rd D (q:Int) + 1) (by omega) (by omega),if_pos hdn,if_neg (by omega)]
 rw [w64 (n:=(way.length:Int) - 2) (by omega) (by omega),if_pos (by omega),if_pos (by omega),if_pos w6,w64 (by omega) (by omega)]
 rfl
theorem lines_round {line:List Sp} {ts:List Tm} (c:LCase line ts) (x1:List Int) (last endd time:Int) (ht:0≤time∧time≤1000000) (hlast:∀ i (h:i < ts.length),ts[i].f2≤last) {i:Nat} (hi:i < ts.length) (K:Nat) (hK:2000000≤K) :
  ∃ K',K≤K'∧laws_FnLines.l0 (K + 4) x1 line ts (whereTo (fun t=>decide (t.f3 < 0)) ts ts.length) last (downL ts) endd (greatN (downL ts) i) (countN ts time i) time (i:Int)=laws_FnLines.l0 K' x1 line ts (whereTo (fun t=>decide (t.f3 < 0)) ts ts.length) last (downL ts) endd (greatN (downL ts) (i + 1)) (countN ts time (i + 1)) time ((i + 1:Nat):Int):=by
 obtain ⟨r0,g0,g1,g2,g3⟩:=down_facts c.v c.eq
 obtain ⟨f1,f2,f3,f4⟩:=g3 i hi
 have hdl:=downL_len ts
 have hok:=c.v.timesOK
 have hlen:=timesL_len (-1) 0 line
 rw [c.eq] at hok hlen
 have h8:=c.few
 have hgr:=(great_one c hi).2
 have hco:=count_one ts time hi
 have hll:=whereTo_len (fun t:Tm=>decide (t.f3 < 0)) ts ts.length
 have hD0:=(g3 0 (by omega)).1 rfl
 rw [show ((0:Nat):Int)=0 from rfl] at hD0
 have hla:=hlast i hi
 have hb:=g2 i hi
 have hsg:=(hok.sign (List.getElem?_eq_getElem hi)).1
 have hcc:countN ts time i≤8∧0≤countN ts time i:=by
  unfold countN
  have:=countP_take_le (isIn time) ts i
  omega
 have hw:=implWay_eq (k:=K + 3) (line:=line) (ship:=(i:Int)) c.hw (by omega) (by omega)
 have hcode:codeL line (i:Int)=0:=(codeL_zero c.hw).2 ⟨c.v,i,rfl,by omega⟩
 have hrw:resWay line (i:Int)=if ts[i].f3 < 0 then ([],6) else ((wayBack ts 20 i).reverse,0):=by
  unfold resWay
  rw [if_pos hcode,c.eq,Int.toNat_natCast,getD_in hi]
 rw [hrw] at hw
 have hhas:=hasN (s:=(i:Int)) (t:=whereTo (fun t=>decide (t.f3 < 0)) ts ts.length) (by omega) (k:=K + 3) (by omega)
 have hdec:decide ((i:Int)∈whereTo (fun t=>decide (t.f3 < 0)) ts ts.length)=!decide (ts[i].f3≥0):=by
  rw [decide_eq_decide.2 (lost_has i hi)]
  by_cases h3:ts[i].f3 < 0
  ·rw [decide_eq_true h3,decide_eq_false (by omega)]
   rfl
  ·rw [decide_eq_false h3,decide_eq_true (by omega)]
   rfl
 rw [hdec] at hhas
 generalize whereTo (fun t=>decide (t.f3 < 0)) ts ts.length=lost at *
 generalize hD:downL ts=D at *
 generalize ht:ts[i]=t at *
 by_cases h3:t.f3 < 0
 ·have h0:0 < i:=by
   rcases Nat.eq_zero_or_pos i with e|e
   ·subst e
    have:=hok.first t (by rw [List.getElem?_eq_getElem hi,ht])
    omega
   ·exact e
  have he:t=⟨-1,-1,-1,-1⟩:=by
   rcases hok.later i t (by rw [List.getElem?_eq_getElem hi,ht]) h0 with e|e
   ·exact e
   ·have:=hok.bound i t (by rw [List.getElem?_eq_getElem hi,ht])
    omega
  have hm1:=f2 h0 h3
  rw [if_pos h3] at hw
  rw [if_neg (show ¬ 0≤t.f3 by omega)] at hgr
  rw [if_neg (show ¬ isIn time t=true by rw [he];simp [isIn])] at hco
  have hd3:decide (t.f3≥0)=false:=decide_eq_false (by omega)
  refine ⟨K + 2,by omega,?_⟩
  have e1:=ln_first (K + 3) x1 line ts lost D [] last endd (greatN D i) (countN ts time i) time 6 hi ht hw hhas (by rw [hd3];rfl) hla (by omega) (by omega) (by rw [hd3];exact decide_eq_false (by omega))
  rw [hd3] at e1
  rw [show K + 4=K + 3 + 1 by omega,e1,he]
  rw [show K + 3=K + 2 + 1 by omega,ln_not (K + 2) x1 line ts lost D [] last endd _ _ time (by omega),← hgr,hco,Int.add_zero]
 ·have h3':0≤t.f3:=by omega
  obtain ⟨b1,b2⟩:=f4 h3'
  obtain ⟨w0,w1,w2,w3,w4⟩:=way_ok hok hi (by omega) (by rw [ht];exact h3')
  have hbd:=hok.bound i t (by rw [List.getElem?_eq_getElem hi,ht])
  rw [if_pos h3'] at hgr
  rw [if_neg h3] at hw
  rw [ht] at w4
  have hd3:decide (t.f3≥0)=true:=decide_eq_true (by omega)
  refine ⟨K,Nat.le_refl _,?_⟩
  have e1:=ln_first (K + 3) x1 line ts lost D (wayBack ts 20 i).reverse last endd (greatN D i) (countN ts time i) time 0 hi ht hw hhas (by rw [hd3];rfl) hla (by omega) (by omega) (by rw [hd3];exact decide_eq_true (by omega))
  rw [hd3] at e1
  have hcn:countN ts time (i + 1)=countN ts time i + if t.f2≤time then 1 else 0:=by
   rw [hco]
   by_cases hin:t.f2≤time
   ·rw [if_pos hin,if_pos (by unfold isIn;simp only [Bool.and_eq_true,decide_eq_true_eq];omega)]
   ·rw [if_neg hin,if_neg (by unfold isIn;simp only [Bool.and_eq_true,decide_eq_true_eq];omega)]
  rw [show K + 4=K + 3 + 1 by omega,e1,show K + 3=K + 2 + 1 by omega,ln_yes (K + 2) x1 line ts lost D _ last endd _ _ time _ _ _ _ (by omega) (by omega),hgr,← hcn,show K + 2=K + 1 + 1 by omega,ln_way (K + 1) x1 line ts lost D _ last endd _ _ time _ _ _ _ w0 w1 w2 w3]
  by_cases h0:i=0
  ·subst h0
   exact ln_zero K x1 line ts lost D _ last endd _ _ time _ _ _ _
  ·obtain ⟨q,hq,hqi,hql,e1',e2⟩:=reachQ hok hi (by omega) (by rw [ht];exact h3')
   rw [ht] at hq e1'
   obtain ⟨w5,w6⟩:=w4 (by omega)
   have hil:i < line.length:=by omega
   have hsh:=c.v.ships _ (List.getElem_mem hil)
   have hst:=line_step c.v hil (by omega) (t:=t) (by rw [c.eq,List.getElem?_eq_getElem hi,ht])
   obtain ⟨p1,p2,p3,p4⟩:=hst.resolve_left (fun e=>by rw [e] at h3';exact absurd h3' (by decide))
   have hdn:=f3 (by omega) h3'
   obtain ⟨d1,d2⟩:=(g3 q hql).2.2.2 e2
   have hbq:=hok.bound q _ (List.getElem?_eq_getElem hql)
   rw [hq] at p1 p2 w6 hdn ⊢
   exact ln_from K x1 line ts lost D _ last endd _ _ time t.f1 t.f2 t.f3 (by omega) (by omega) hqi hil rfl hql rfl (by omega) (by omega) (by omega) p2 (by omega) e1'.symm p3 p4 (by omega) (by omega) hdn w0 w5 w6
theorem joinTail_le (m c:Nat) (sep:List UInt8) (hs:sep.length≤c):∀ r:List (List UInt8),(∀ x∈r,x.length≤m)→(Lib.joinTail sep r).length≤(m + c) * r.length
 | [],_=>by simp [Lib.joinTail]
 | x :: r,h=>by
  have h1:=joinTail_le m c sep hs r (fun y hy=>h y (List.mem_cons_of_mem _ hy))
  have h2:=h x List.mem_cons_self
  have e:Lib.joinTail sep (x :: r)=(sep ++ x) ++ Lib.joinTail sep r:=by simp [Lib.joinTail]
  rw [e,List.length_append,List.length_append,List.length_cons,Nat.mul_succ]
  omega
theorem join_le (m c:Nat) (sep:List UInt8) (hs:sep.length≤c) (xs:List (List UInt8)) (h:∀ x∈xs,x.length≤m):(Lib.join xs sep).length≤(m + c) * xs.length:=by
 cases xs with
 | nil=>simp [Lib.join_nil]
 | cons x r =>
  have h1:=joinTail_le m c sep hs r (fun y hy=>h y (List.mem_cons_of_mem _ hy))
  have h2:=h x List.mem_cons_self
  rw [Lib.join_cons,List.length_append,List.length_cons,Nat.mul_succ]
  omega
def jtxt {α:Type} (f:α→List UInt8) (l:List α):List UInt8:=Lib.join (l.map f) [32]
theorem jtxt_le {α:Type} (f:α→List UInt8) (m:Nat) (l:List α) (h:∀ x∈l,(f x).length≤m):(jtxt f l).length≤(m + 1) * l.length:=by
 have:=join_le m 1 [32] (by simp) (l.map f) (fun y hy=>by
  obtain ⟨x,hx,rfl⟩:=List.mem_map.1 hy
  exact h x hx)
 simpa [jtxt] using this
abbrev bs (l:List UInt8):ByteArray:=⟨l.toArray⟩
theorem bs_append (l m:List UInt8):bs l ++ bs m=bs (l ++ m):=by
 apply ByteArray.ext
 simp [bs]
theorem bs_size (l:List UInt8):(bs l).size=l.length:=by simp [bs,ByteArray.size]
theorem dec_len (k:Nat):∀ n:Nat,n < 10 ^ (k + 1)→(Lib.decDigits n).length≤k + 1:=by
 induction k with
 | zero =>
  intro n h
  rw [Lib.decDigits_one (by omega)]
  simp
 | succ k ih =>
  intro n h
  by_cases h1:n < 10
  ·rw [Lib.decDigits_one h1]
   simp
  ·rw [Lib.decDigits,dif_neg h1,List.length_append]
   have:=ih (n / 10) (by rw [Nat.pow_succ] at h;omega)
   simp
   omega
theorem itoa_len {n:Nat} (h:n < 1000000000000000000):(Lib.itoa (n:Int)).length≤18:=by
 unfold Lib.itoa
 rw [if_neg (by omega)]
 exact dec_len 17 n (by omega)
theorem itoa_nn {x:Int} (h0:0≤x) (h1:x < 1000000000000000000):(Lib.itoa x).length≤18:=by
 obtain ⟨n,rfl⟩:∃ n:Nat,x=(n:Int):=⟨x.toNat,by omega⟩
 exact itoa_len (by omega)
theorem dec_impl_int {x:Int} (h0:0≤x) (h1:x < 1000000000000000000):impl_decimal.f x=some (bs (Lib.itoa x)):=by
 unfold impl_decimal.f
 rw [if_pos (by omega),if_pos (by omega)]
def shipTxt (x:Sp):List UInt8:=Lib.itoa x.f0 ++ [47] ++ Lib.itoa x.f1 ++ [47] ++ Lib.itoa x.f2
def okShip (x:Sp):Prop:=(0≤x.f0∧x.f0≤127)∧(0≤x.f1∧x.f1≤127)∧(0≤x.f2∧x.f2≤127)
theorem shipTxt_le {x:Sp} (h:okShip x):(shipTxt x).length≤56:=by
 obtain ⟨⟨h0,h1⟩,⟨h2,h3⟩,⟨h4,h5⟩⟩:=h
 have:=itoa_nn h0 (by omega)
 have:=itoa_nn h2 (by omega)
 have:=itoa_nn h4 (by omega)
 unfold shipTxt
 simp only [List.length_append,List.length_singleton]
 omega
theorem implLineTxt (l:List Sp) (hl:l.length≤20) (hb:∀ x∈l,okShip x) (K:Nat) (hK:100≤K):impl_LineText.l0 K [] l (l.length:Int) 0=some (bs (jtxt shipTxt l)):=by
 obtain ⟨r,hr,h⟩:=loop_inv (fun k (s:List ByteArray × Int)=>impl_LineText.l0 k s.1 l (l.length:Int) s.2) l.length (fun i s=>s.2=(i:Int)∧s.1=(l.take i).map (fun x=>bs (shipTxt x))) (fun r=>r=bs (jtxt shipTxt l))
  (fun k i s hi ⟨h1,h2⟩=>by
   obtain ⟨acc,x⟩:=s
   simp only at h1 h2
   subst h1 h2
   have hx:=hb _ (List.getElem_mem hi)
   obtain ⟨⟨h0,h1⟩,⟨h2,h3⟩,⟨h4,h5⟩⟩:=hx
   have l0_:=itoa_nn h0 (by omega)
   have l1_:=itoa_nn h2 (by omega)
   have l2_:=itoa_nn h4 (by omega)
   simp only [impl_LineText.l0]
   rw [rd_impl_Ship hi,w64 (n:=l[i].f0) (by omega) (by omega),w64 (n:=l[i].f1) (by omega) (by omega),w64 (n:=l[i].f2) (by omega) (by omega),dec_impl_int h0 (by omega),dec_impl_int h2 (by omega),dec_impl_int h4 (by omega)]
   simp only [Option.bind_some]
   rw [show (⟨#[47]⟩:ByteArray)=bs [47] from rfl]
   simp only [bs_append,bs_size,List.length_append,List.length_singleton]
   rw [if_pos (by omega),if_pos (by omega),if_pos (by omega),if_pos (by omega),if_pos (by omega),if_pos (by omega),if_pos (by omega),if_pos (by simp;omega),w64 (by omega) (by omega)]
   refine .inl ⟨((l.take (i + 1)).map (fun x=>bs (shipTxt x)),((i + 1:Nat):Int)),⟨rfl,rfl⟩,?_⟩
   rw [List.take_succ_eq_append_getElem hi,List.map_append,List.map_cons,List.map_nil]
   rfl)
  (fun k s ⟨h1,h2⟩=>by
   obtain ⟨acc,x⟩:=s
   simp only at h1 h2
   subst h1 h2
   refine ⟨bs (jtxt shipTxt l),rfl,?_⟩
   simp only [impl_LineText.l0]
   have htl:=jtxt_le shipTxt 56 l (fun y hy=>shipTxt_le (hb y hy))
   have e:(l.map (fun x=>bs (shipTxt x))).map (fun b=>b.data.toList)=l.map shipTxt:=by simp [bs]
   rw [if_neg (by omega),List.take_of_length_le (Nat.le_refl _)]
   unfold strings_Join.f
   rw [if_pos (by simp;omega),e,show (⟨#[32]⟩:ByteArray).data.toList=[32] from rfl,if_pos (by unfold jtxt at htl;omega)]
   rfl) K ([],0) ⟨rfl,rfl⟩ (by omega)
 rw [h,hr]
theorem decFrom_snoc (b:UInt8):∀ (l:List UInt8) (acc:Nat),Lib.decFrom acc (l ++ [b])=(Lib.decFrom acc l).bind fun m=>(Lib.digitVal b).map fun d=>m * 10 + d
 | [],acc=>by
  simp only [List.nil_append,Lib.decFrom,Option.bind_some]
  cases Lib.digitVal b <;> rfl
 | a :: l,acc=>by
  simp only [List.cons_append,Lib.decFrom]
  cases Lib.digitVal a with
  | none=>rfl
  | some d=>exact decFrom_snoc b l _
theorem ofNat_toNat {d:Nat} (h:d < 10):(UInt8.ofNat (48 + d)).toNat=48 + d:=by
 simp only [UInt8.toNat_ofNat']
 omega
theorem digit_byte {d:Nat} (h:d < 10):Lib.digitVal (UInt8.ofNat (48 + d))=some d:=by
 unfold Lib.digitVal
 rw [ofNat_toNat h,if_pos (by omega)]
 congr 1
 omega
theorem byte_digit {b:UInt8} {d:Nat} (h:Lib.digitVal b=some d):d < 10∧b=UInt8.ofNat (48 + d):=by
 obtain ⟨h0,h1,h2⟩:=Lib.digitVal_eq h
 refine ⟨by omega,UInt8.toNat_inj.1 ?_⟩
 rw [ofNat_toNat (by omega)]
 omega
theorem digits_from (n:Nat):Lib.decFrom 0 (Lib.decDigits n)=some n:=by
 induction n using Nat.strongRecOn with
 | _ n ih =>
  by_cases h:n < 10
  ·rw [Lib.decDigits_one h]
   simp only [Lib.decFrom,digit_byte h]
   congr 1
   omega
  ·rw [Lib.decDigits,dif_neg h,decFrom_snoc,ih (n / 10) (by omega),Option.bind_some,digit_byte (by omega)]
   simp only [Option.map_some]
   congr 1
   omega
theorem digits_head (n:Nat):10≤n→∃ b r,Lib.decDigits n=b :: r∧b≠48:=by
 induction n using Nat.strongRecOn with
 | _ n ih =>
  intro h
  rw [Lib.decDigits,dif_neg (by omega)]
  by_cases h1:n / 10 < 10
  ·rw [Lib.decDigits_one h1]
   refine ⟨_,_,rfl,fun e=>?_⟩
   have:=congrArg UInt8.toNat e
   rw [ofNat_toNat h1] at this
   have e48:(48:UInt8).toNat=48:=rfl
   omega
  ·obtain ⟨b,r,e,hb⟩:=ih (n / 10) (by omega) (by omega)
   rw [e]
   exact ⟨b,_,rfl,hb⟩
theorem digits_back:∀ (k:Nat) (l:List UInt8),l.length=k + 1→∀ n,Lib.decFrom 0 l=some n→(l.head?=some 48→l.length=1)→l=Lib.decDigits n:=by
 intro k
 induction k with
 | zero =>
  intro l hl n h _
  match l,hl with
  | [b],_ =>
   simp only [Lib.decFrom] at h
   cases e:Lib.digitVal b with
   | none=>rw [e] at h;cases h
   | some d =>
    rw [e] at h
    obtain ⟨hd,hb⟩:=byte_digit e
    simp only [Option.some.injEq] at h
    have:n=d:=by omega
    subst this
    rw [Lib.decDigits_one hd,hb]
 | succ k ih =>
  intro l hl n h hh
  have hne:l≠[]:=by intro e;rw [e] at hl;simp at hl
  obtain ⟨p,b,rfl⟩:∃ p b,l=p ++ [b]:=⟨_,_,(List.dropLast_concat_getLast hne).symm⟩
  rw [List.length_append,List.length_singleton] at hl
  rw [decFrom_snoc] at h
  cases em:Lib.decFrom 0 p with
  | none=>rw [em] at h;cases h
  | some m =>
   rw [em,Option.bind_some] at h
   cases ed:Lib.digitVal b with
   | none=>rw [ed] at h;cases h
   | some d =>
    rw [ed,Option.map_some,Option.some.injEq] at h
    obtain ⟨hd,hb⟩:=byte_digit ed
    obtain ⟨c,r,hp⟩:∃ c r,p=c :: r:=by
     cases p with
     | nil=>simp at hl
     | cons c r=>exact ⟨c,r,rfl⟩
    have hc:¬ p.head?=some 48:=fun e=>by
     have:=hh (by rw [hp] at e ⊢;simpa using e)
     rw [List.length_append,List.length_singleton] at this
     omega
    have e:=ih p (by omega) m em (fun e=>absurd e hc)
    have hm:1≤m:=by
     rcases Nat.eq_zero_or_pos m with h0|h0
     ·subst h0
      rw [Lib.decDigits_one (by omega)] at e
      exact absurd (by rw [e];rfl) hc
     ·exact h0
    rw [Lib.decDigits,dif_neg (by omega),show n / 10=m by omega,show n % 10=d by omega,← e,← hb]
def numO (l:List UInt8):Option Nat:=if l=[] then none else if 9 < l.length then none else if l.head?=some 48∧1 < l.length then none else Lib.decFrom 0 l
theorem numO_some {l:List UInt8} {n:Nat} (h:numO l=some n):l=Lib.decDigits n∧n < 1000000000:=by
 unfold numO at h
 split at h
 ·cases h
 ·split at h
  ·cases h
  ·split at h
   ·cases h
   ·rename_i h1 h2 h3
    have hl:1≤l.length:=by
     cases l with
     | nil=>exact absurd rfl h1
     | cons _ _=>simp
    refine ⟨digits_back (l.length - 1) l (by omega) n h (fun e=>?_),?_⟩
    ·rcases Nat.lt_or_ge 1 l.length with h4|h4
     ·exact absurd ⟨e,h4⟩ h3
     ·omega
    ·have:=Lib.decFrom_lt l 0 n h
     have h5:10 ^ l.length≤10 ^ 9:=Nat.pow_le_pow_right (by omega) (by omega)
     omega
theorem digits_ne (n:Nat):Lib.decDigits n≠[]:=fun e=>by
 by_cases h:n < 10
 ·rw [Lib.decDigits_one h] at e
  cases e
 ·obtain ⟨b,r,e1,_⟩:=digits_head n (by omega)
  rw [e1] at e
  cases e
theorem numO_digits {n:Nat} (h:n < 1000000000):numO (Lib.decDigits n)=some n:=by
 unfold numO
 have hl:=dec_len 8 n (by omega)
 rw [if_neg (digits_ne n),if_neg (by omega),if_neg,digits_from]
 rintro ⟨h1,h2⟩
 by_cases h3:n < 10
 ·rw [Lib.decDigits_one h3] at h2
  simp at h2
 ·obtain ⟨b,r,e,hb⟩:=digits_head n (by omega)
  rw [e] at h1
  exact hb (by simpa using h1)
theorem decFrom_ge:∀ (l:List UInt8) (acc n:Nat),Lib.decFrom acc l=some n→acc≤n
 | [],acc,n,h=>by
  simp only [Lib.decFrom,Option.some.injEq] at h
  omega
 | b :: l,acc,n,h=>by
  simp only [Lib.decFrom] at h
  cases e:Lib.digitVal b with
  | none=>rw [e] at h;cases h
  | some d =>
   rw [e] at h
   have:=decFrom_ge l _ n h
   omega
theorem parseM_of:∀ (l:List UInt8) (acc n:Nat),Lib.decFrom acc l=some n→n < 1000000000000000000→Lib.parseUintM (2 ^ 64 - 1) acc l=.ok n
 | [],acc,n,h,_=>by
  simp only [Lib.decFrom,Option.some.injEq] at h
  subst h
  rfl
 | b :: l,acc,n,h,hn=>by
  simp only [Lib.decFrom] at h
  cases e:Lib.digitVal b with
  | none=>rw [e] at h;cases h
  | some d =>
   rw [e] at h
   obtain ⟨h0,h1,h2⟩:=Lib.digitVal_eq e
   have h3:=decFrom_ge l _ n h
   unfold Lib.parseUintM
   rw [if_pos ⟨h0,h1⟩,if_neg (by omega),if_neg (by omega),← h2]
   exact parseM_of l _ n h hn
theorem parse_digits {n:Nat} (h:n < 1000000000):Lib.parseIntB 64 (Lib.decDigits n)=.ok (n:Int):=by
 have hf:=digits_from n
 have hne:=digits_ne n
 generalize Lib.decDigits n=l at hf hne
 cases l with
 | nil=>exact absurd rfl hne
 | cons c r =>
  have hc:48≤c.toNat:=by
   simp only [Lib.decFrom] at hf
   cases e:Lib.digitVal c with
   | none=>rw [e] at hf;cases hf
   | some d=>exact (Lib.digitVal_eq e).1
  have hp:=parseM_of _ _ _ hf (by omega)
  unfold Lib.parseIntB Lib.parseUintB
  simp only
  rw [if_neg (show ¬ (c.toNat=43∨c.toNat=45) by omega),if_neg (show ¬ (c :: r=[]) by simp),hp]
  simp only
  rw [if_neg (by omega),if_neg (by omega),if_neg (by omega)]
def spl (c:UInt8):List UInt8→List (List UInt8)
 | []=>[[]]
 | b :: l=>if b=c then [] :: spl c l else (match spl c l with|[]=>[[b]]|h :: t=>(b :: h) :: t)
theorem spl_ne (c:UInt8) (l:List UInt8):spl c l≠[]:=by
 cases l with
 | nil=>simp [spl]
 | cons b l =>
  unfold spl
  split
  ·simp
  ·split <;> simp
theorem spl_miss (c:UInt8):∀ (s:List UInt8),(∀ b∈s,b≠c)→spl c s=[s]
 | [],_=>rfl
 | b :: l,h=>by
  unfold spl
  rw [if_neg (h b (by simp)),spl_miss c l (fun x hx=>h x (by simp [hx]))]
theorem spl_hit (c:UInt8) (t:List UInt8):∀ (p:List UInt8),(∀ b∈p,b≠c)→spl c (p ++ c :: t)=p :: spl c t
 | [],_=>by
  simp only [List.nil_append]
  conv=>lhs;unfold spl
  rw [if_pos rfl]
 | b :: p,h=>by
  simp only [List.cons_append]
  conv=>lhs;unfold spl
  rw [if_neg (h b (by simp)),spl_hit c t p (fun x hx=>h x (by simp [hx]))]
theorem bs_extract (s:List UInt8) (a b:Nat):(bs s).extract a b=bs ((s.take b).drop a):=by
 apply ByteArray.ext
 simp [bs,ByteArray.data_extract,List.extract_eq_take_drop,List.drop_take]
theorem split_eq (c:UInt8):∀ (k:Nat) (s:List UInt8),Lib.countB (bs s) (bs [c])=k→Lib.splitB (bs [c]) 0 k (bs s)=(spl c s).map bs:=by
 have h1:(bs [c]).size=1:=rfl
 intro k
 induction k with
 | zero =>
  intro s hk
  rw [Lib.splitB_zero]
  have:Lib.indexB (bs s) (bs [c])=-1:=by
   rcases Lib.indexB_cases (bs s) (bs [c]) with h|⟨i,h,_⟩
   ·exact h
   ·have:=Lib.countB_hit (bs s) (bs [c]) i (by omega) h
    omega
  have h2:Lib.indexByte s c=-1:=by
   rw [← Lib.index_one]
   exact this
  rw [spl_miss c s (fun b hb e=>by
   obtain ⟨j,hj,rfl⟩:=List.mem_iff_getElem.1 hb
   exact Lib.indexByte_none h2 j (by rw [List.getElem?_eq_getElem hj,e]))]
  rfl
 | succ k ih =>
  intro s hk
  rcases Lib.indexB_cases (bs s) (bs [c]) with h|⟨i,h,hi⟩
  ·rw [Lib.countB_miss _ _ h] at hk
   omega
  ·have hc:=Lib.countB_hit (bs s) (bs [c]) i (by omega) h
   have h2:Lib.indexByte s c=(i:Int):=by
    rw [← Lib.index_one]
    exact h
   obtain ⟨hg,hb⟩:=Lib.indexByte_some h2
   have hil:i < s.length:=(List.getElem?_eq_some_iff.1 hg).1
   have hs:s=s.take i ++ c :: s.drop (i + 1):=by
    have e3:s[i]=c:=(List.getElem?_eq_some_iff.1 hg).2
    rw [show c :: s.drop (i + 1)=s[i] :: s.drop (i + 1) by rw [e3],← List.drop_eq_getElem_cons hil,List.take_append_drop]
   have hsz:(bs s).size=s.length:=bs_size s
   rw [Lib.splitB_hit _ _ _ _ i h,bs_extract,bs_extract,h1,hsz]
   rw [bs_extract,h1,hsz] at hc
   have e1:(s.take s.length).drop (i + 1)=s.drop (i + 1):=by rw [List.take_of_length_le (Nat.le_refl _)]
   have e2:(s.take (i + 0)).drop 0=s.take i:=by simp
   rw [e1] at hc ⊢
   rw [e2,ih _ (by omega)]
   conv=>rhs;rw [hs]
   rw [spl_hit c _ _ (fun b hb' e=>by
    obtain ⟨j,hj,rfl⟩:=List.mem_iff_getElem.1 hb'
    rw [List.length_take] at hj
    rw [List.getElem_take] at e
    exact hb j (by omega) ((List.getElem?_eq_getElem (by omega)).trans (congrArg some e)))]
   rfl
theorem spl_sum (c:UInt8):∀ l:List UInt8,((spl c l).map List.length).sum + (spl c l).length=l.length + 1
 | []=>by simp [spl]
 | b :: l=>by
  have h:=spl_sum c l
  unfold spl
  split
  ·simp only [List.map_cons,List.sum_cons,List.length_nil,List.length_cons]
   omega
  ·cases e:spl c l with
   | nil=>exact absurd e (spl_ne c l)
   | cons y r =>
    rw [e] at h
    simp only [List.map_cons,List.sum_cons,List.length_cons] at h ⊢
    omega
def nums (most:Nat):List (List UInt8)→List Int→Option (List Int)
 | [],acc=>some acc
 | p :: r,acc=>match numO p with
  | some n=>if n≤most then nums most r (acc ++ [(n:Int)]) else none
  | none=>none
def shipI (w:List UInt8):Option Sp:=match nums 60 (spl 47 w) [] with
 | some xs=>if xs.length=3 then some ⟨rd xs 0,rd xs 1,rd xs 2⟩ else none
 | none=>none
def shipS (w:List UInt8):Option Sp:=match spl 47 w with
 | [x,y,z]=>(match numO x,numO y,numO z with
  | some a,some b,some c=>if a≤6∧b≤60∧c≤60 then some ⟨(a:Int),(b:Int),(c:Int)⟩ else none
  | _,_,_=>none)
 | _=>none
def foldO (f:List UInt8→Option Sp):List (List UInt8)→List Sp→Option (List Sp)
 | [],acc=>some acc
 | w :: r,acc=>match f w with
  | some x=>foldO f r (acc ++ [x])
  | none=>none
def finO (o:Option (List Sp)):List Sp × Int:=match o with
 | some l=>if validB l=true then (l,0) else ([],5)
 | none=>([],5)
theorem nums_len (most:Nat):∀ (ps:List (List UInt8)) (acc xs:List Int),nums most ps acc=some xs→xs.length=acc.length + ps.length
 | [],acc,xs,h=>by
  simp only [nums,Option.some.injEq] at h
  subst h
  simp
 | p :: r,acc,xs,h=>by
  simp only [nums] at h
  cases hn:numO p with
  | none=>rw [hn] at h;cases h
  | some n =>
   rw [hn] at h
   simp only at h
   split at h
   ·have:=nums_len most r _ xs h
    simp at this ⊢
    omega
   ·cases h
theorem shipI_three (x y z:List UInt8) (w:List UInt8) (hw:spl 47 w=[x,y,z]):shipI w=(match numO x,numO y,numO z with
  | some a,some b,some c=>if a≤60∧b≤60∧c≤60 then some ⟨(a:Int),(b:Int),(c:Int)⟩ else none
  | _,_,_=>none):=by
 unfold shipI
 rw [hw]
 simp only [nums]
 cases numO x with
 | none=>rfl
 | some a =>
  simp only
  by_cases ha:a≤60
  ·rw [if_pos ha]
   cases numO y with
   | none=>rfl
   | some b =>
    simp only
    by_cases hb:b≤60
    ·rw [if_pos hb]
     cases numO z with
     | none=>rfl
     | some c =>
      simp only
      by_cases hc:c≤60
      ·rw [if_pos hc,if_pos ⟨ha,hb,hc⟩]
       simp [rd]
      ·rw [if_neg hc,if_neg (fun h=>hc h.2.2)]
    ·rw [if_neg hb]
     cases numO z with
     | none=>rfl
     | some c=>simp only;rw [if_neg (fun h=>hb h.2.1)]
  ·rw [if_neg ha]
   cases numO y with
   | none=>rfl
   | some b =>
    cases numO z with
    | none=>rfl
    | some c=>simp only;rw [if_neg (fun h=>ha h.1)]
theorem shipS_three (x y z:List UInt8) (w:List UInt8) (hw:spl 47 w=[x,y,z]):shipS w=(match numO x,numO y,numO z with
  | some a,some b,some c=>if a≤6∧b≤60∧c≤60 then some ⟨(a:Int),(b:Int),(c:Int)⟩ else none
  | _,_,_=>none):=by
 unfold shipS
 rw [hw]
theorem shipI_other (w:List UInt8) (hw:(spl 47 w).length≠3):shipI w=none:=by
 unfold shipI
 cases h:nums 60 (spl 47 w) [] with
 | none=>rfl
 | some xs =>
  have:=nums_len 60 _ _ _ h
  simp only
  rw [if_neg (by simp at this;omega)]
theorem ship_rel (w:List UInt8):(∃ x,shipS w=some x∧shipI w=some x∧(0≤x.f0∧x.f0≤6)∧(0≤x.f1∧x.f1≤60)∧(0≤x.f2∧x.f2≤60))∨(shipS w=none∧(shipI w=none∨∃ x,shipI w=some x∧(6 < x.f0∧x.f0≤60)∧(0≤x.f1∧x.f1≤60)∧(0≤x.f2∧x.f2≤60))):=by
 by_cases h3:(spl 47 w).length=3
 ·obtain ⟨x,y,z,hw⟩:∃ x y z,spl 47 w=[x,y,z]:=by
   rcases e:spl 47 w with _|⟨x,_|⟨y,_|⟨z,_|⟨u,r⟩⟩⟩⟩ <;> rw [e] at h3 <;> simp at h3
   exact ⟨x,y,z,rfl⟩
  rw [shipI_three x y z w hw]
  unfold shipS
  rw [hw]
  simp only
  cases numO x with
  | none=>exact .inr ⟨rfl,.inl rfl⟩
  | some a =>
   cases numO y with
   | none=>exact .inr ⟨rfl,.inl rfl⟩
   | some b =>
    cases numO z with
    | none=>exact .inr ⟨rfl,.inl rfl⟩
    | some c =>
     simp only
     by_cases h:b≤60∧c≤60
     ·by_cases ha:a≤6
      ·rw [if_pos ⟨ha,h⟩,if_pos ⟨by omega,h⟩]
       exact .inl ⟨_,rfl,rfl,by simp only;omega,by simp only;omega,by simp only;omega⟩
      ·rw [if_neg (fun g=>ha g.1)]
       by_cases ha2:a≤60
       ·rw [if_pos ⟨ha2,h⟩]
        exact .inr ⟨rfl,.inr ⟨_,rfl,by simp only;omega,by simp only;omega,by simp only;omega⟩⟩
       ·rw [if_neg (fun g=>ha2 g.1)]
        exact .inr ⟨rfl,.inl rfl⟩
     ·rw [if_neg (fun g=>h g.2),if_neg (fun g=>h g.2)]
      exact .inr ⟨rfl,.inl rfl⟩
 ·rw [shipI_other w h3]
  refine .inr ⟨?_,.inl rfl⟩
  unfold shipS
  split
  ·rename_i e
   rw [e] at h3
   exact absurd rfl h3
  ·rfl
def shipW (x:Sp):Prop:=(0≤x.f0∧x.f0≤60)∧(0≤x.f1∧x.f1≤60)∧(0≤x.f2∧x.f2≤60)
theorem shipW_wf {x:Sp} (h:shipW x):wfShip x:=by
 obtain ⟨⟨h0,h1⟩,⟨h2,h3⟩,⟨h4,h5⟩⟩:=h
 refine ⟨?_,?_,?_⟩ <;> (simp [Lit.wf,IntKind.min,IntKind.max,IntKind.signed,IntKind.bits];omega)
theorem foldI_keeps:∀ (ws:List (List UInt8)) (acc l:List Sp),foldO shipI ws acc=some l→(∀ x∈acc,shipW x)→(∀ x∈l,shipW x)∧∀ x∈acc,x∈l
 | [],acc,l,h,ha=>by
  simp only [foldO,Option.some.injEq] at h
  subst h
  exact ⟨ha,fun x hx=>hx⟩
 | w :: r,acc,l,h,ha=>by
  simp only [foldO] at h
  rcases ship_rel w with ⟨x,_,h2,h3⟩|⟨_,h2|⟨x,h2,h3⟩⟩
  ·rw [h2] at h
   have:=foldI_keeps r _ l h (fun y hy=>by
    rcases List.mem_append.1 hy with hy|hy
    ·exact ha y hy
    ·rw [List.mem_singleton.1 hy]
     exact ⟨by omega,h3.2.1,h3.2.2⟩)
   exact ⟨this.1,fun y hy=>this.2 y (List.mem_append_left _ hy)⟩
  ·rw [h2] at h
   cases h
  ·rw [h2] at h
   have:=foldI_keeps r _ l h (fun y hy=>by
    rcases List.mem_append.1 hy with hy|hy
    ·exact ha y hy
    ·rw [List.mem_singleton.1 hy]
     exact ⟨by omega,h3.2.1,h3.2.2⟩)
   exact ⟨this.1,fun y hy=>this.2 y (List.mem_append_left _ hy)⟩
theorem valid_no {l:List Sp} (hw:∀ x∈l,shipW x) {x:Sp} (hx:x∈l) (h:6 < x.f0):validB l=false:=by
 cases e:validB l with
 | false=>rfl
 | true =>
  have:=((validB_iff (fun y hy=>shipW_wf (hw y hy))).1 e).ships x hx
  omega
theorem fold_eq:∀ (ws:List (List UInt8)) (acc:List Sp),(∀ x∈acc,shipW x)→finO (foldO shipI ws acc)=finO (foldO shipS ws acc)
 | [],acc,_=>rfl
 | w :: r,acc,ha=>by
  simp only [foldO]
  rcases ship_rel w with ⟨x,h1,h2,h3⟩|⟨h1,h2|⟨x,h2,h3⟩⟩
  ·rw [h1,h2]
   exact fold_eq r _ (fun y hy=>by
    rcases List.mem_append.1 hy with hy|hy
    ·exact ha y hy
    ·rw [List.mem_singleton.1 hy]
     exact ⟨by omega,h3.2.1,h3.2.2⟩)
  ·rw [h1,h2]
  ·rw [h1,h2]
   simp only
   have ha':∀ y∈acc ++ [x],shipW y:=fun y hy=>by
    rcases List.mem_append.1 hy with hy|hy
    ·exact ha y hy
    ·rw [List.mem_singleton.1 hy]
     exact ⟨by omega,h3.2.1,h3.2.2⟩
   cases e:foldO shipI r (acc ++ [x]) with
   | none=>rfl
   | some l =>
    obtain ⟨k1,k2⟩:=foldI_keeps r _ l e ha'
    have:=valid_no k1 (k2 x (by simp)) h3.1.1
    simp only [finO]
    rw [this]
    rfl
theorem rdB {ps:List (List UInt8)} {i:Nat} (h:i < ps.length):rdOf ByteArray.empty (ps.map bs) (i:Int)=bs ps[i]:=by
 show (ps.map bs).getD i ByteArray.empty=bs ps[i]
 rw [List.getD_eq_getElem?_getD,List.getElem?_map,List.getElem?_eq_getElem h]
 rfl
theorem itoa_nat (n:Nat):Lib.itoa (n:Int)=Lib.decDigits n:=by
 unfold Lib.itoa
 rw [if_neg (by omega)]
 rfl
theorem implNumber (l:List UInt8) (hl:l.length≤281474976710656) (most:Int) (h1:most < 1000000000):impl_number.f (bs l) most=some (match numO l with|some n=>if (n:Int)≤most then ((n:Int),true) else (0,false)|none=>(0,false)):=by
 unfold impl_number.f
 rw [bs_size,if_pos hl]
 have hd:(bs l).data.toList=l:=rfl
 rw [hd]
 cases hn:numO l with
 | some n =>
  obtain ⟨he,hb⟩:=numO_some hn
  rw [he,parse_digits hb]
  simp only
  have:impl_number.is (bs (Lib.decDigits n)) most (n:Int)=decide ((n:Int)≤most):=by
   unfold impl_number.is
   rw [decide_eq_true (show Lib.itoa (n:Int)=(bs (Lib.decDigits n)).data.toList from itoa_nat n),decide_eq_true (show (0:Int)≤(n:Int) by omega)]
   simp
  rw [this]
  by_cases h:(n:Int)≤most
  ·rw [if_pos h,decide_eq_true h]
   rfl
  ·rw [if_neg h,decide_eq_false h]
   rfl
 | none =>
  cases hp:Lib.parseIntB 64 l with
  | «syntax»=>rfl
  | range=>rfl
  | ok v =>
   simp only
   have:impl_number.is (bs l) most v=false:=by
    cases e:impl_number.is (bs l) most v with
    | false=>rfl
    | true =>
     unfold impl_number.is at e
     simp only [Bool.and_eq_true,decide_eq_true_eq] at e
     obtain ⟨e1,e2,e3⟩:=e
     obtain ⟨n,rfl⟩:∃ n:Nat,v=(n:Int):=⟨v.toNat,by omega⟩
     rw [itoa_nat] at e1
     have e4:l=Lib.decDigits n:=e1.symm
     rw [e4,numO_digits (by omega)] at hn
     cases hn
   rw [this]
   rfl
theorem implSplit (c:UInt8) (l:List UInt8) (hl:l.length≤1048576):strings_Split.f (bs l) (bs [c])=some ((spl c l).map bs):=by
 unfold strings_Split.f
 rw [bs_size,bs_size,if_pos (by omega),if_pos (by simp),split_eq c _ l rfl]
theorem spl_len (c:UInt8):∀ l:List UInt8,(spl c l).length≤l.length + 1∧∀ x∈spl c l,x.length≤l.length
 | []=>by simp [spl]
 | b :: l=>by
  obtain ⟨h1,h2⟩:=spl_len c l
  unfold spl
  split
  ·refine ⟨by simpa using h1,fun x hx=>?_⟩
   rcases List.mem_cons.1 hx with rfl|hx
   ·simp
   ·have:=h2 x hx
    simp
    omega
  ·cases e:spl c l with
   | nil=>exact absurd e (spl_ne c l)
   | cons y r =>
    rw [e] at h1 h2
    simp only
    refine ⟨by simp at h1 ⊢;omega,fun x hx=>?_⟩
    rcases List.mem_cons.1 hx with rfl|hx
    ·have:=h2 y (by simp)
     simp
     omega
    ·have:=h2 x (by simp [hx])
     simp
     omega
theorem i8s {n:Nat} (h:n≤60):IntKind.i8.wrap (n:Int)=(n:Int):=by
 unfold IntKind.wrap
 simp [IntKind.signed,IntKind.bits]
 omega
theorem lineNums (ws:List ByteArray) (wl j:Int) (x4:List Sp) (hx4:x4.length≤1048577) (ps:List (List UInt8)) (hps:ps.length≤1048577) (hp:∀ x∈ps,x.length≤1048576):∀ (d i k:Nat) (acc:List Int),i + d=ps.length→d < k→acc.length=i →
  impl_ReadLine.l1 k x4 acc ws wl j (ps.map bs) (ps.length:Int) (i:Int)=(match nums 60 (ps.drop i) acc with
   | some xs=>if xs.length=3 then impl_ReadLine.l0 (k - d - 1) (x4 ++ [⟨rd xs 0,rd xs 1,rd xs 2⟩]) ws wl (wrap64 (j + 1)) else some ([],5)
   | none=>some ([],5)):=by
 intro d
 induction d with
 | zero =>
  intro i k acc hi hk ha
  obtain ⟨k,rfl⟩:∃ m,k=m + 1:=⟨k - 1,by omega⟩
  rw [List.drop_eq_nil_of_le (by omega)]
  simp only [nums,impl_ReadLine.l1]
  rw [if_neg (by omega)]
  by_cases h:acc.length=3
  ·rw [if_pos (by omega),if_pos (by omega),if_pos (by omega),if_pos (by omega),if_pos (by omega),if_pos h]
   rfl
  ·rw [if_neg (by omega),if_neg h]
 | succ d ih =>
  intro i k acc hi hk ha
  obtain ⟨k,rfl⟩:∃ m,k=m + 1:=⟨k - 1,by omega⟩
  have hil:i < ps.length:=by omega
  have hx:=hp _ (List.getElem_mem hil)
  rw [List.drop_eq_getElem_cons hil]
  simp only [nums,impl_ReadLine.l1]
  rw [if_pos (by omega),if_pos (by omega),if_pos (by rw [List.length_map];omega),rdB hil,implNumber _ (by omega) 60 (by omega)]
  simp only [Option.bind_some]
  cases hn:numO ps[i] with
  | none =>
   simp only
   rw [if_neg (by intro h_;cases h_)]
  | some n =>
   by_cases h60:n≤60
   ·have hv:(if (n:Int)≤60 then ((n:Int),true) else ((0:Int),false))=((n:Int),true):=if_pos (by omega)
    simp only [hv]
    rw [if_pos (by first|trivial|rfl),if_pos (by omega),i8s h60,w64 (by omega) (by omega),if_pos h60]
    have:=ih (i + 1) k (acc ++ [(n:Int)]) (by omega) (by omega) (by simp;omega)
    rw [show ((i:Int) + 1)=((i + 1:Nat):Int) by omega,this,show k + 1 - (d + 1) - 1=k - d - 1 by omega]
   ·have hv:(if (n:Int)≤60 then ((n:Int),true) else ((0:Int),false))=((0:Int),false):=if_neg (by omega)
    simp only [hv]
    rw [if_neg (by intro h_;cases h_),if_neg h60]
def need (ws:List (List UInt8)):Nat:=(ws.map fun w=>(spl 47 w).length + 2).sum
theorem need_cons (w:List UInt8) (r:List (List UInt8)):need (w :: r)=((spl 47 w).length + 2) + need r:=by simp [need]
theorem lineShips (ws:List (List UInt8)) (hws:ws.length≤1048577) (hw:∀ x∈ws,x.length≤1048576):∀ (e j k:Nat) (acc:List Sp),j + e=ws.length→need (ws.drop j) < k→acc.length=j →
  impl_ReadLine.l0 k acc (ws.map bs) (ws.length:Int) (j:Int)=some (finO (foldO shipI (ws.drop j) acc)):=by
 intro e
 induction e with
 | zero =>
  intro j k acc hj hk ha
  obtain ⟨k,rfl⟩:∃ m,k=m + 1:=⟨k - 1,by omega⟩
  rw [List.drop_eq_nil_of_le (by omega)]
  simp only [foldO,finO,impl_ReadLine.l0]
  rw [if_neg (by omega),implValid_eq]
  simp only [Option.bind_some]
  cases validB acc <;> rfl
 | succ e ih =>
  intro j k acc hj hk ha
  obtain ⟨k,rfl⟩:∃ m,k=m + 1:=⟨k - 1,by omega⟩
  have hjl:j < ws.length:=by omega
  have hx:=hw _ (List.getElem_mem hjl)
  obtain ⟨s1,s2⟩:=spl_len 47 ws[j]
  rw [List.drop_eq_getElem_cons hjl] at hk ⊢
  rw [need_cons] at hk
  simp only [impl_ReadLine.l0]
  rw [if_pos (by omega),if_pos (by omega),if_pos (by rw [List.length_map];omega),rdB hjl,show (⟨#[47]⟩:ByteArray)=bs [47] from rfl,implSplit 47 _ hx]
  simp only [Option.bind_some]
  rw [List.length_map]
  have hin:=lineNums (ws.map bs) (ws.length:Int) (j:Int) acc (by omega) (spl 47 ws[j]) (by omega) (fun x hx'=>by have:=s2 x hx';omega) (spl 47 ws[j]).length 0 k [] (by omega) (by omega) rfl
  rw [show ((0:Nat):Int)=0 from rfl] at hin
  rw [hin,List.drop_zero]
  simp only [foldO]
  unfold shipI
  cases nums 60 (spl 47 ws[j]) [] with
  | none=>rfl
  | some xs =>
   simp only
   by_cases h3:xs.length=3
   ·rw [if_pos h3,if_pos h3,w64 (by omega) (by omega)]
    have:=ih (j + 1) (k - (spl 47 ws[j]).length - 1) (acc ++ [⟨rd xs 0,rd xs 1,rd xs 2⟩]) (by omega) (by omega) (by simp;omega)
    rw [show ((j:Int) + 1)=((j + 1:Nat):Int) by omega,this]
    rfl
   ·rw [if_neg h3,if_neg h3]
    rfl
theorem need_le:∀ ws:List (List UInt8),need ws≤(ws.map List.length).sum + 3 * ws.length
 | []=>by simp [need]
 | w :: r=>by
  have h:=need_le r
  have:=(spl_len 47 w).1
  have e:need (w :: r)=((spl 47 w).length + 2) + need r:=by simp [need]
  rw [e]
  simp only [List.map_cons,List.sum_cons,List.length_cons]
  omega
theorem from_digits:∀ (l:List UInt8) (acc n:Nat),Lib.decFrom acc l=some n→∀ b∈l,∃ d,Lib.digitVal b=some d
 | [],_,_,_,b,hb=>by simp at hb
 | c :: l,acc,n,h,b,hb=>by
  unfold Lib.decFrom at h
  cases hd:Lib.digitVal c with
  | none=>rw [hd] at h;simp at h
  | some d =>
   rw [hd] at h
   rcases List.mem_cons.1 hb with e|e
   ·rw [e]
    exact ⟨d,hd⟩
   ·exact from_digits l _ n h b e
theorem digit_ne {b:UInt8} {d:Nat} (h:Lib.digitVal b=some d):b≠32∧b≠47:=by
 obtain ⟨h1,h2⟩:=byte_digit h
 have h3:=ofNat_toNat h1
 rw [← h2] at h3
 refine ⟨fun e=>?_,fun e=>?_⟩
 ·rw [e] at h3
  have:(32:UInt8).toNat=32:=rfl
  omega
 ·rw [e] at h3
  have:(47:UInt8).toNat=47:=rfl
  omega
theorem itoa_ne {x:Int} (h0:0≤x):∀ b∈Lib.itoa x,b≠32∧b≠47:=fun b hb=>by
 unfold Lib.itoa at hb
 rw [if_neg (by omega)] at hb
 obtain ⟨d,hd⟩:=from_digits _ 0 _ (digits_from x.toNat) b hb
 exact digit_ne hd
theorem numO_itoa {x:Int} (h0:0≤x) (h1:x < 1000000000):numO (Lib.itoa x)=some x.toNat:=by
 unfold Lib.itoa
 rw [if_neg (by omega)]
 exact numO_digits (by omega)
theorem spl_ship {x:Sp} (h:okShip x):spl 47 (shipTxt x)=[Lib.itoa x.f0,Lib.itoa x.f1,Lib.itoa x.f2]:=by
 obtain ⟨⟨h0,_⟩,⟨h2,_⟩,⟨h4,_⟩⟩:=h
 have e:shipTxt x=Lib.itoa x.f0 ++ 47 :: (Lib.itoa x.f1 ++ 47 :: Lib.itoa x.f2):=by
  unfold shipTxt
  simp
 rw [e,spl_hit 47 _ _ (fun b hb=>(itoa_ne h0 b hb).2),spl_hit 47 _ _ (fun b hb=>(itoa_ne h2 b hb).2),spl_miss 47 _ (fun b hb=>(itoa_ne h4 b hb).2)]
theorem shipTxt_ne {x:Sp} (h:okShip x):∀ b∈shipTxt x,b≠32:=fun b hb=>by
 obtain ⟨⟨h0,_⟩,⟨h2,_⟩,⟨h4,_⟩⟩:=h
 unfold shipTxt at hb
 simp only [List.mem_append,List.mem_singleton] at hb
 rcases hb with (((a|a)|a)|a)|a
 ·exact (itoa_ne h0 b a).1
 ·rw [a];decide
 ·exact (itoa_ne h2 b a).1
 ·rw [a];decide
 ·exact (itoa_ne h4 b a).1
theorem spl_join:∀ (x:List UInt8) (r:List (List UInt8)),(∀ w∈x :: r,∀ b∈w,b≠32)→spl 32 (Lib.join (x :: r) [32])=x :: r
 | x,[],h=>by rw [Lib.join_one,spl_miss 32 x (h x (by simp))]
 | x,y :: r,h=>by
  have e:Lib.join (x :: y :: r) [32]=x ++ 32 :: Lib.join (y :: r) [32]:=by
   rw [Lib.join_cons,Lib.join_cons]
   simp [Lib.joinTail]
  rw [e,spl_hit 32 _ _ (h x (by simp)),spl_join y r (fun w hw=>h w (List.mem_cons_of_mem _ hw))]
theorem ship_back {x:Sp} (h:okShip x) (h6:x.f0≤6∧x.f1≤60∧x.f2≤60):shipS (shipTxt x)=some x:=by
 obtain ⟨⟨h0,_⟩,⟨h2,_⟩,⟨h4,_⟩⟩:=id h
 rw [shipS_three _ _ _ _ (spl_ship h),numO_itoa h0 (by omega),numO_itoa h2 (by omega),numO_itoa h4 (by omega)]
 simp only
 rw [if_pos (by omega),Int.toNat_of_nonneg h0,Int.toNat_of_nonneg h2,Int.toNat_of_nonneg h4]
theorem fold_back:∀ (l acc:List Sp),(∀ x∈l,okShip x∧(x.f0≤6∧x.f1≤60∧x.f2≤60))→foldO shipS (l.map shipTxt) acc=some (acc ++ l)
 | [],acc,_=>by simp [foldO]
 | x :: l,acc,h=>by
  obtain ⟨h1,h2⟩:=h x (by simp)
  rw [List.map_cons,foldO,ship_back h1 h2]
  simp only
  rw [fold_back l _ (fun y hy=>h y (by simp [hy])),List.append_assoc]
  rfl
theorem line_back {line:List Sp} (v:ValidL line) (hw:∀ x∈line,wfShip x) {k:Nat} (hk:8000000≤k):∃ t,impl_LineText.f k line=some t∧impl_ReadLine.f k t=some (line,0):=by
 have hv:validB line=true:=(validB_iff hw).2 v
 have hok:∀ x∈line,okShip x∧(x.f0≤6∧x.f1≤60∧x.f2≤60):=fun x hx=>by
  have:=v.ships x hx
  unfold okShip
  omega
 have h20:=v.most
 have h1:1≤line.length:=by have:=v.pos;omega
 refine ⟨bs (jtxt shipTxt line),?_,?_⟩
 ·unfold impl_LineText.f
  rw [implValid_eq,hv]
  simp only [Option.bind_some,if_true]
  exact implLineTxt line h20 (fun x hx=>(hok x hx).1) k (by omega)
 ·have hle:=jtxt_le shipTxt 56 line (fun x hx=>shipTxt_le (hok x hx).1)
  have hsp:spl 32 (jtxt shipTxt line)=line.map shipTxt:=by
   unfold jtxt
   cases line with
   | nil=>simp at h1
   | cons x r =>
    rw [List.map_cons]
    refine spl_join _ _ (fun w hw2 b hb=>?_)
    rw [← List.map_cons] at hw2
    obtain ⟨y,hy,rfl⟩:=List.mem_map.1 hw2
    exact shipTxt_ne (hok y hy).1 b hb
  obtain ⟨g1,g2⟩:=spl_len 32 (jtxt shipTxt line)
  have hsum:=spl_sum 32 (jtxt shipTxt line)
  have hneed:=need_le (spl 32 (jtxt shipTxt line))
  unfold impl_ReadLine.f
  rw [show (⟨#[32]⟩:ByteArray)=bs [32] from rfl,implSplit 32 _ (by omega)]
  simp only [Option.bind_some]
  rw [List.length_map]
  have:=lineShips (spl 32 (jtxt shipTxt line)) (by omega) (fun x hx=>by have:=g2 x hx;omega) (spl 32 (jtxt shipTxt line)).length 0 k [] (by omega) (by rw [List.drop_zero];omega) rfl
  rw [List.drop_zero] at this
  refine this.trans ?_
  rw [fold_eq _ [] (by simp),hsp,fold_back line [] hok,List.nil_append]
  simp only [finO]
  rw [if_pos hv]
theorem lines_end {line:List Sp} {ts:List Tm} (c:LCase line ts) {x1:List Int} (hc:Bytes x1) (last time:Int) (ht:0≤time∧time≤1000000) (K:Nat) (hK:2000000≤K) :
  laws_FnLines.l0 (K + 1) x1 line ts (whereTo (fun t=>decide (t.f3 < 0)) ts ts.length) last (downL ts) (gmax (downL ts)) (greatN (downL ts) ts.length) (countN ts time ts.length) time (ts.length:Int)=some true:=by
 have hdl:=downL_len ts
 have hok:=c.v.timesOK
 have hlen:=timesL_len (-1) 0 line
 have h1:=c.v.pos
 rw [c.eq] at hok hlen
 have h8:=c.few
 obtain ⟨q,hq,q0,q1⟩:=a2At_ok hc 1 (ts.length:Int) (by omega) (by omega)
 obtain ⟨e,he,e0,e1⟩:=a2At_ok hc 2 3 (by omega) (by omega)
 obtain ⟨m,rfl⟩:∃ m:Nat,q=(m:Int):=⟨q.toNat,by omega⟩
 have hm:m < ts.length:=by omega
 have hbm:=hok.bound m _ (List.getElem?_eq_getElem hm)
 have hlo:-1≤ts[m].f3:=by
  rcases Nat.eq_zero_or_pos m with h0|h0
  ·subst h0
   have:=hok.first _ (List.getElem?_eq_getElem hm)
   omega
  ·rcases hok.later m _ (List.getElem?_eq_getElem hm) h0 with z|z
   ·rw [z]
    decide
   ·omega
 rw [laws_FnLines.l0,if_neg (by omega),implClosedUntil_eq c.hw (by omega)]
 have hcu:resClosedUntil line time=(countN ts time ts.length,0):=by
  unfold resClosedUntil countN
  rw [if_pos ((validB_iff c.hw).2 c.v),if_pos (by simp only [Bool.and_eq_true,decide_eq_true_eq];omega),c.eq,List.take_length]
 rw [hcu]
 simp only [Option.bind_some,List.nil_append]
 rw [if_pos (by simp only [List.length_nil];omega),hq]
 simp only [Option.bind_some]
 rw [if_pos (by omega),if_pos (by omega),he]
 simp only [Option.bind_some]
 rw [implCheckTimes_eq c.hw (by omega),rd_impl_Times hm,Int.toNat_natCast,w64 (n:=1 + e) (by omega) (by omega),w64 (n:=ts[m].f3 + (1 + e)) (by omega) (by omega)]
 have hct:resCheckTimes line (ts.set m ⟨ts[m].f0,ts[m].f1,ts[m].f2,ts[m].f3 + (1 + e)⟩)=(false,0):=by
  unfold resCheckTimes
  rw [if_pos ((validB_iff c.hw).2 c.v),c.eq,eqL_set ts m _ hm (by simp only;omega)]
 rw [hct]
 simp only [Option.bind_some]
 have hg:greatN (downL ts) ts.length=gmax (downL ts):=by
  unfold greatN
  rw [if_neg (by omega),← hdl,List.take_length]
 rw [hg]
 simp
theorem lines_all {line:List Sp} {ts:List Tm} (c:LCase line ts) {x1:List Int} (hc:Bytes x1) (last time:Int) (ht:0≤time∧time≤1000000) (hlast:∀ i (h:i < ts.length),ts[i].f2≤last) :
  ∀ d i K,i + d=ts.length→2000001 + 4 * d≤K→laws_FnLines.l0 K x1 line ts (whereTo (fun t=>decide (t.f3 < 0)) ts ts.length) last (downL ts) (gmax (downL ts)) (greatN (downL ts) i) (countN ts time i) time (i:Int)=some true:=by
 intro d
 induction d with
 | zero =>
  intro i K hi hK
  obtain ⟨K,rfl⟩:∃ m,K=m + 1:=⟨K - 1,by omega⟩
  obtain rfl:i=ts.length:=by omega
  exact lines_end c hc last time ht K (by omega)
 | succ d ih =>
  intro i K hi hK
  obtain ⟨K,rfl⟩:∃ m,K=m + 4:=⟨K - 4,by omega⟩
  obtain ⟨K',h1,h2⟩:=lines_round c x1 last (gmax (downL ts)) time ht hlast (by omega:i < ts.length) K (by omega)
  rw [h2]
  exact ih (i + 1) K' (by omega) (by omega)
theorem FnLines (l0:List Int) (l1:List Int) (h00:l0.length≤9223372036854775807) (h01:(∀ x∈l0,(Lit.int .u8 x).wf=true)) (h10:l1.length≤9223372036854775807) (h11:(∀ x∈l1,(Lit.int .u8 x).wf=true)):∃ k,laws_FnLines.f k l0 l1=some true:=by
 obtain ⟨K,hK⟩:∃ K,9000000 < K:=⟨_,Nat.lt_succ_self _⟩
 refine ⟨K + 1,?_⟩
 unfold laws_FnLines.f laws_a2Long.f
 obtain ⟨line,e1,v,h8,hf⟩:=line_ok (bytes_ofN h01) (k:=K + 1) (by omega)
 have hw:∀ x∈line,wfShip x:=fun x hx=>fine_wf (hf x hx)
 have hv:validB line=true:=(validB_iff hw).2 v
 have hlen:=timesL_len (-1) 0 line
 have hok:=v.timesOK
 have h1:=v.pos
 obtain ⟨txt,e5,e6⟩:=line_back v hw (k:=K + 1) (by omega)
 obtain ⟨time,ea,a0,a1⟩:=a2At_ok (bytes_ofN h11) 0 40 (by omega) (by omega)
 have c:LCase line (timesL (-1) 0 line):=⟨v,hw,rfl,h8⟩
 have r1:resTimesOf line=(timesL (-1) 0 line,0):=if_pos hv
 have r2:resCheckTimes line (timesL (-1) 0 line)=(true,0):=by
  unfold resCheckTimes
  rw [if_pos hv,eqL_refl]
 have r3:resUnreached line=(whereTo (fun t=>decide (t.f3 < 0)) (timesL (-1) 0 line) (timesL (-1) 0 line).length,0):=if_pos hv
 have r4:resAllClosed line=((closedL line).1,(closedL line).2,0):=if_pos hv
 have r5:resHauledDown line=(downL (timesL (-1) 0 line),0):=if_pos hv
 have r6:resLastDown line=(gmax (downL (timesL (-1) 0 line)),0):=if_pos hv
 have hla:=lastAt_lt (timesL (-1) 0 line) line.length (by omega)
 have hlm:=lastAt_max (timesL (-1) 0 line) line.length
 have hall:∀ i (h:i < (timesL (-1) 0 line).length),(timesL (-1) 0 line)[i].f2≤(closedL line).1:=fun i h=>by
  have:=hlm i (by omega)
  rw [getD_in h] at this
  exact this
 have hdl:=downL_len (timesL (-1) 0 line)
 have fin:=lines_all c (bytes_ofN h11) (closedL line).1 time ⟨a0,by omega⟩ hall (timesL (-1) 0 line).length 0 K (by omega) (by omega)
 rw [show ((0:Nat):Int)=0 from rfl,show greatN (downL (timesL (-1) 0 line)) 0=0 from rfl,show countN (timesL (-1) 0 line) time 0=0 from rfl] at fin
 by_cases hl:(l0.length:Int) > 3000
 ·rw [if_pos hl]
  rfl
 ·rw [if_neg hl]
  simp only [Option.bind_some]
  by_cases hl1:(l1.length:Int) > 3000
  ·rw [decide_eq_true hl1]
   rfl
  ·rw [decide_eq_false hl1,if_neg (by decide),e1]
   simp only [Option.bind_some]
   rw [implTimesOf_eq hw (by omega),specTimesOf_eq hw (by omega) (by omega),r1]
   simp only [Option.bind_some]
   rw [e5]
   simp only [Option.bind_some]
   rw [e6]
   simp only [Option.bind_some]
   rw [implCheckTimes_eq hw (by omega),r2]
   simp only [Option.bind_some]
   rw [implUnreached_eq hw (by omega),r3]
   simp only [Option.bind_some]
   rw [implAllClosed_eq hw (by omega),r4]
   simp only [Option.bind_some]
   rw [implHauledDown_eq hw (by omega),specHauledDown_eq hw (by omega) (by omega),r5]
   simp only [Option.bind_some]
   rw [implLastDown_eq hw (by omega),r6]
   simp only [Option.bind_some,if_true]
   rw [specSameTimes_eq _ _ _ (by omega) (by omega),eqL_refl]
   simp only [Option.bind_some,if_true]
   unfold impl_SameTimes.f
   rw [implSameTimes_eq _ _ _ (by omega) (by omega),eqL_refl]
   simp only [Option.bind_some,if_true]
   rw [if_pos (by omega),sameShN (by omega) (by omega)]
   simp only [Option.bind_some,if_true]
   rw [implValid_eq,hv]
   simp only [Option.bind_some,if_true]
   have hc2:(closedL line).2=((lastAt (timesL (-1) 0 line) line.length:Nat):Int):=rfl
   have hc1:((timesL (-1) 0 line).getD (lastAt (timesL (-1) 0 line) line.length) z46).f2=(closedL line).1:=rfl
   rw [hc2,if_neg (by omega),if_neg (by omega),if_pos (by omega),if_pos (by omega),rd_getD,if_pos hc1,sameNL (by omega) (by omega)]
   simp only [Option.bind_some,if_true]
   rw [if_pos (by omega),laws_FnLines.j0,if_neg (by decide),ea]
   simp only [Option.bind_some]
   exact fin
end Go.Proofs.YtcoepebmmgcplabGreatDoor.G.Pure
end
