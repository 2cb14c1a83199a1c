/- The law's functions, their contracts, and the plain lemmas: texts of this claim, laid together. -/
import Derived.Deep.Slices
import Derived.Deep.Fields
import Derived.ChangeSame
import Derived.OpenShut
import Derived.Test.YtcajnbkbdbkpgacMFnFaults0
import Derived.Test.YtcajnbkbdbkpgacMFnFaults1
import Derived.Test.YtcajnbkbdbkpgacMFnFaults2
import Derived.Test.YtcajnbkbdbkpgacMFnFaults3
import Derived.Test.YtcajnbkbdbkpgacMFnFaults4
import Derived.Test.YtcajnbkbdbkpgacMFnFaults5
section
namespace Go.Proofs.Ytcajnbkbdbkpgac.G
open Go.RowKit Go.Proofs.YtcajnbkbdbkpgacW.PrintWords Go.Proofs.YtcajnbkbdbkpgacW.PrintLast Go.Proofs.YtcajnbkbdbkpgacW.PrintMore
attribute [local go_sem] max2_int min2_int max_two min_two max_three min_three max_four min_four
set_option linter.unusedVariables false
set_option linter.unusedSimpArgs false
open Go.ChangeShapes Go.WideShapes Go.Deep in
structure Opens {α:Type} (P:Program) (t:TypeId) (d:Kd α) (Wf:α→Prop):Prop where
  sz:P.cellsOf t=d.sz
  op:∀ {H:Type} {enc:TypeId × Value→H} {w:World} {base:Nat} {spare:Nat→Bool} {held:Bool} {fuel:Nat} {cs:List Value} {x:DataW H × List MemPlace},DataW.trod enc P w base spare held fuel t cs=some x→∃ a:α,d.K w a cs∧Wf a
theorem opens_int {P:Program} {t:TypeId} {k:IntKind} (ht:P.underlying t=some (.int k)) (hC:P.cellsOf t=1):Opens P t (Kd.int k) (fun n=>(Lit.int k n).wf=true) where
  sz:=hC
  op:=fun h=>by
    obtain ⟨n,rfl,_,hw⟩:=DataW.trod_int ht h
    exact ⟨n,rfl,hw⟩
theorem list_of {α:Type} {Q:Nat→α→Prop}:∀ n,(∀ i,i < n→∃ y,Q i y)→∃ l:List α,l.length=n∧∀ i y,l[i]?=some y→Q i y
  | 0,_=>⟨[],rfl,fun i y h=>by simp at h⟩
  | n + 1,h=>by
    obtain ⟨l,hl,hq⟩:=list_of n (fun i hi=>h i (by omega))
    obtain ⟨y,hy⟩:=h n (by omega)
    refine ⟨l ++ [y],by simp [hl],fun i z hz=>?_⟩
    rcases Nat.lt_or_ge i l.length with hi|hi
    · rw [List.getElem?_append_left hi] at hz
      exact hq i z hz
    · rw [List.getElem?_append_right hi] at hz
      have:i - l.length=0:=by
        rcases Nat.eq_zero_or_pos (i - l.length) with h0|h0
        · exact h0
        · rw [List.getElem?_eq_none (by simp; omega)] at hz
          cases hz
      rw [this] at hz
      have e:y=z:=by simpa using hz
      subst e
      have:i=n:=by omega
      subst this
      exact hy
theorem opens_slice {α:Type} {P:Program} {t e:TypeId} {d:Kd α} {Wf:α→Prop} (ht:P.underlying t=some (.slice e)) (hC:P.cellsOf t=1) (he:Opens P e d Wf):Opens P t (Kd.slice e d) (fun l=>l.length≤9223372036854775807∧∀ x∈l,Wf x) where
  sz:=hC
  op:=fun {H enc w base spare held fuel cs x} h=>by
    rcases Go.Deep.open_slice ht h with ⟨rfl,_⟩|⟨a,len,cap,m,n,D,Pl,rfl,hb,hl,hm,hmm,_,hi⟩
    · exact ⟨[],⟨none,0,rfl,Nat.le_refl _,rfl,by simp,fun h=>absurd h (by simp)⟩,by simp,by simp⟩
    · have hlen:len≤m:=by rw [hmm]; split <;> omega
      obtain ⟨l,hll,hq⟩:=list_of (Q:=fun i y=>(∃ c,c.length=d.sz∧d.K w y c∧∀ j u,c[j]?=some u→w.cell? (a.add (i * d.sz + j))=some u)∧Wf y) len (fun i him=>by
        obtain ⟨cs',hc,ht'⟩:=hi i (by omega)
        obtain ⟨y,hK,hW⟩:=he.op ht'
        obtain ⟨_,hcl,hat⟩:=World.cells?_some hc
        refine ⟨y,⟨cs',d.K_len hK,hK,fun j u hu=>?_⟩,hW⟩
        have hj:j < cs'.length:=(List.getElem?_eq_some_iff.1 hu).1
        have h1:=hat j (by rw [he.sz,← d.K_len hK]; exact hj)
        rw [← he.sz,← Go.Deep.add_add,h1,hu])
      refine ⟨l,⟨some a,cap,by rw [hll],by rw [hll]; exact hl,rfl,by rw [hll]; have:=hm; unfold maxLen at this; omega,fun _=>⟨a,rfl,fun j p hj=>(hq j p hj).1⟩⟩,by rw [hll]; have:=hm; unfold maxLen at this; omega,fun y hy=>?_⟩
      obtain ⟨j,hj,rfl⟩:=List.mem_iff_getElem.1 hy
      exact (hq j _ (List.getElem?_eq_getElem hj)).2
theorem op5:Opens Try.prog 5 (Kd.int .u8) (fun x:Int=>(Lit.int .u8 x).wf=true):=opens_int (k:=.u8) Try.underlying5 (by kernel_rfl)
theorem op22:Opens Try.prog 22 (Kd.slice 5 (Kd.int .u8)) (fun x:List Int=>(x.length≤9223372036854775807∧∀ x_∈x,(Lit.int .u8 x_).wf=true)):=opens_slice Try.underlying22 (by kernel_rfl) op5
end Go.Proofs.Ytcajnbkbdbkpgac.G
end

section
namespace Go.Proofs.Ytcajnbkbdbkpgac.G.Pure
open Go.RowKit Go.Proofs.Ytcajnbkbdbkpgac.G Go.Proofs.YtcajnbkbdbkpgacW.PrintWords Go.Proofs.YtcajnbkbdbkpgacW.PrintLast Go.Proofs.YtcajnbkbdbkpgacW.PrintMore
set_option linter.unusedVariables false
set_option linter.unusedSimpArgs false
theorem w64 {n:Int} (h0:-9223372036854775808≤n) (h1:n≤9223372036854775807):wrap64 n=n:=by
 unfold wrap64
 omega
theorem i8b {n:Int} (h:(Lit.int .i8 n).wf=true):-128≤n∧n≤127:=by
 simp [Lit.wf,IntKind.min,IntKind.max,IntKind.signed,IntKind.bits] at h
 omega
theorem i8w {n:Int} (h0:-128≤n) (h1:n≤127):IntKind.i8.wrap n=n:=by
 simp only [IntKind.wrap,IntKind.signed,IntKind.bits]
 simp
 omega
theorem loop_inv {σ γ:Type} (L:Nat→σ→Option γ) (n:Nat) (I:Nat→σ→Prop) (R:γ→Prop)
  (hs:∀ k i s,i < n→I i s→(∃ s',I (i + 1) s'∧L (k + 1) s=L k s')∨(∃ r,R r∧L (k + 1) s=some r))
  (he:∀ k s,I n s→∃ r,R r∧L (k + 1) s=some r):∀ k s,I 0 s→n < k→∃ r,R r∧L k s=some r:=by
 have go:∀ d i k s,i + d=n→I i s→d < k→∃ r,R r∧L k s=some r:=by
  intro d
  induction d with
  | zero =>
   intro i k s hi hI hk
   obtain ⟨k,rfl⟩:∃ m,k=m + 1:=⟨k - 1,by omega⟩
   obtain rfl:i=n:=by omega
   exact he k s hI
  | succ d ih =>
   intro i k s hi hI hk
   obtain ⟨k,rfl⟩:∃ m,k=m + 1:=⟨k - 1,by omega⟩
   rcases hs k i s (by omega) hI with ⟨s',hI',h⟩|h
   ·rw [h]
    exact ih (i + 1) k s' (by omega) hI' (by omega)
   ·exact h
 intro k s hI hk
 exact go n 0 k s (by omega) hI hk
theorem rd_nat {l:List Int} {i:Nat} (h:i < l.length):rd l (i:Int)=l[i]:=by
 simp [rd,List.getD_eq_getElem?_getD,List.getElem?_eq_getElem h]
end Go.Proofs.Ytcajnbkbdbkpgac.G.Pure
end

section
namespace Go.Proofs.Ytcajnbkbdbkpgac.G.Pure
open Go.RowKit Go.Proofs.Ytcajnbkbdbkpgac.G Go.Proofs.YtcajnbkbdbkpgacW.PrintWords Go.Proofs.YtcajnbkbdbkpgacW.PrintLast Go.Proofs.YtcajnbkbdbkpgacW.PrintMore
set_option linter.unusedVariables false
set_option linter.unusedSimpArgs false
theorem u64_range (y:Int):0≤IntKind.u64.wrap y∧IntKind.u64.wrap y≤18446744073709551615:=by
 rw [IntKind.wrap_u64]
 omega
theorem low_byte {x:Int} (h:0≤x∧x≤18446744073709551615):0≤wrap64 (Go.bits .and .u64 (x / 1099511627776) 255)∧wrap64 (Go.bits .and .u64 (x / 1099511627776) 255)≤255:=by
 have hx:0≤x / 1099511627776∧x / 1099511627776≤18446744073709551615:=by omega
 generalize x / 1099511627776=y at *
 obtain ⟨n,rfl⟩:∃ n:Nat,y=(n:Int):=⟨y.toNat,by omega⟩
 have e:Go.bits .and .u64 (n:Int) ((255:Nat):Int)=((n &&& 255:Nat):Int):=bits_and_u64_nat n 255 (by omega) (by omega)
 have e2:Go.bits .and .u64 (n:Int) 255=((n &&& 255:Nat):Int):=e
 have hb:n &&& 255≤255:=Nat.and_le_right
 rw [e2,w64 (by omega) (by omega)]
 omega
def Bytes (code:List Int):Prop:=∀ x∈code,0≤x∧x≤255
theorem bytes_at {code:List Int} (hc:Bytes code) {i:Int} (h0:0≤i) (h1:i < (code.length:Int)):0≤rd code i∧rd code i≤255:=by
 obtain ⟨j,rfl⟩:∃ j:Nat,i=(j:Int):=⟨i.toNat,by omega⟩
 have hj:j < code.length:=by omega
 have:rd code (j:Int)=code[j]:=by simp [rd,List.getD_eq_getElem?_getD,List.getElem?_eq_getElem hj]
 rw [this]
 exact hc _ (List.getElem_mem hj)
theorem next_ok {code:List Int} (hc:Bytes code) {at_ seed:Int} (ha:0≤at_∧at_≤1000000):∃ n s,spec_l00Src_next.f code at_ seed=some (n,at_ + 1,s)∧0≤n∧n≤255:=by
 unfold spec_l00Src_next.f
 rw [w64 (n:=at_ + 1) (by omega) (by omega)]
 by_cases h1:at_ < (code.length:Int)
 ·have hb:=bytes_at hc ha.1 h1
  rw [if_pos h1,if_pos ha.1,if_pos (by omega)]
  exact ⟨_,_,rfl,by rw [w64 (by omega) (by omega)];exact hb⟩
 ·rw [if_neg h1,if_neg (by omega)]
  exact ⟨_,_,rfl,low_byte (u64_range _)⟩
theorem pick_ok {code:List Int} (hc:Bytes code) {at_ seed a:Int} (ha:0≤at_∧at_≤1000000) (h1:1 < a) (h2:a≤200):∃ n s,spec_l00Src_pick.f code at_ seed a=some (n,at_ + 1,s)∧0≤n∧n < a:=by
 obtain ⟨n,s,e,hn⟩:=next_ok hc (seed:=seed) ha
 unfold spec_l00Src_pick.f
 rw [if_neg (by omega),e]
 simp only [Option.bind_some]
 rw [if_neg (by omega),if_neg (by omega)]
 refine ⟨_,_,rfl,?_⟩
 rw [Int.tmod_eq_emod_of_nonneg hn.1]
 exact ⟨Int.emod_nonneg _ (by omega),Int.emod_lt_of_pos _ (by omega)⟩
end Go.Proofs.Ytcajnbkbdbkpgac.G.Pure
end

section
namespace Go.Proofs.Ytcajnbkbdbkpgac.G.Pure
open Go.RowKit Go.Proofs.Ytcajnbkbdbkpgac.G Go.Proofs.YtcajnbkbdbkpgacW.PrintWords Go.Proofs.YtcajnbkbdbkpgacW.PrintLast Go.Proofs.YtcajnbkbdbkpgacW.PrintMore
set_option linter.unusedVariables false
set_option linter.unusedSimpArgs false
abbrev Sp:=S74
abbrev Tm:=S47
def scan (pre:List Tm) (a:Nat):Nat→Int × Int
 | 0=>(-1,-1)
 | n + 1=>match scan pre a n with
  | (f,s)=>match pre[a + n]? with
   | some t=>if 0≤t.f3∧(f < 0∨t.f3 < s) then (((a + n:Nat):Int),t.f3) else (f,s)
   | none=>(f,s)
def dueL (pre:List Tm) (x:Sp) (read:Int):Tm :=
 if pre.length=0 then ⟨-1,0,0,x.f2⟩ else
  match scan pre (pre.length - x.f0.toNat) (pre.length - (pre.length - x.f0.toNat)) with
  | (f,s)=>if 0≤f then ⟨f,s,s + read,s + read + x.f2⟩ else ⟨-1,-1,-1,-1⟩
def timesGo (ship more:Int):List Sp→List Tm→List Tm
 | [],acc=>acc
 | x :: xs,acc=>timesGo ship more xs (acc ++ [dueL acc x (x.f1 + if (acc.length:Int)=ship then more else 0)])
def timesL (ship more:Int) (l:List Sp):List Tm:=timesGo ship more l []
structure TimesOK (ts:List Tm):Prop where
 first:∀ t,ts[0]?=some t→t.f0=-1∧t.f1=0∧t.f2=0∧0≤t.f3
 bound:∀ (i:Nat) t,ts[i]?=some t→t.f3≤200 * ((i:Int) + 1)∧t.f2≤t.f3∧t.f1≤t.f2
 later:∀ (i:Nat) t,ts[i]?=some t→0 < i→(t=⟨-1,-1,-1,-1⟩)∨(0≤t.f0∧t.f0 < (i:Int)∧0≤t.f1∧∃ u,ts[t.f0.toNat]?=some u∧u.f3=t.f1)
theorem TimesOK.nil:TimesOK []:=⟨fun t h=>by simp at h,fun i t h=>by simp at h,fun i t h=>by simp at h⟩
theorem scan_spec (pre:List Tm) (hok:TimesOK pre) (a n:Nat) (h:a + n≤pre.length) :
  (scan pre a n=(-1,-1)∨(0≤(scan pre a n).1∧(scan pre a n).1 < ((a + n:Nat):Int)∧0≤(scan pre a n).2∧(scan pre a n).2≤200 * ((a + n:Nat):Int)∧∃ u,pre[(scan pre a n).1.toNat]?=some u∧u.f3=(scan pre a n).2)):=by
 induction n with
 | zero=>exact .inl rfl
 | succ n ih =>
  have hi:a + n < pre.length:=by omega
  have e:pre[a + n]?=some pre[a + n]:=List.getElem?_eq_getElem hi
  have hb:=hok.bound _ _ e
  obtain ih:=ih (by omega)
  rcases hs:scan pre a n with ⟨f,s⟩
  rw [hs] at ih
  simp only [scan,hs,e]
  split
  ·right
   exact ⟨by simp only;omega,by simp only;omega,by simp only;omega,by simp only;omega,pre[a + n],by show pre[((a + n:Nat):Int).toNat]?=_;rw [Int.toNat_natCast];exact e,rfl⟩
  ·rcases ih with ih|ih
   ·exact .inl ih
   ·right
    exact ⟨ih.1,by omega,ih.2.2.1,by omega,ih.2.2.2.2⟩
def shipIn (x:Sp):Prop:=0≤x.f0∧x.f0≤6∧0≤x.f1∧x.f1≤120∧0≤x.f2∧x.f2≤60
theorem due_ok {pre:List Tm} (hok:TimesOK pre) {x:Sp} {read:Int} (h2:0≤x.f2∧x.f2≤60) (hr:0≤read∧read≤120):TimesOK (pre ++ [dueL pre x read]):=by
 have hs:=scan_spec pre hok (pre.length - x.f0.toNat) (pre.length - (pre.length - x.f0.toNat)) (by omega)
 rw [show pre.length - x.f0.toNat + (pre.length - (pre.length - x.f0.toNat))=pre.length by omega] at hs
 unfold dueL
 rcases hsc:scan pre (pre.length - x.f0.toNat) (pre.length - (pre.length - x.f0.toNat)) with ⟨f,s⟩
 rw [hsc] at hs
 simp only at hs
 refine ⟨fun t ht=>?_,fun i t ht=>?_,fun i t ht hi=>?_⟩
 ·rcases Nat.eq_zero_or_pos pre.length with h0|h0
  ·rw [List.getElem?_append_right (by omega),if_pos h0] at ht
   simp [h0] at ht
   subst ht
   exact ⟨rfl,rfl,rfl,h2.1⟩
  ·rw [List.getElem?_append_left h0] at ht
   exact hok.first t ht
 ·rcases Nat.lt_or_ge i pre.length with hi|hi
  ·rw [List.getElem?_append_left hi] at ht
   exact hok.bound i t ht
  ·rw [List.getElem?_append_right hi] at ht
   have h0:i - pre.length=0:=by
    rcases Nat.eq_zero_or_pos (i - pre.length) with h|h
    ·exact h
    ·rw [List.getElem?_eq_none (by simp;omega)] at ht
     cases ht
   rw [h0] at ht
   simp only [List.getElem?_cons_zero,Option.some.injEq] at ht
   split at ht
   ·subst ht
    simp only
    omega
   ·split at ht
    ·subst ht
     rcases hs with hs|hs
     ·simp only [Prod.mk.injEq] at hs
      omega
     ·simp only
      omega
    ·subst ht
     simp only
     omega
 ·rcases Nat.lt_or_ge i pre.length with hl|hl
  ·rw [List.getElem?_append_left hl] at ht
   rcases hok.later i t ht hi with h|⟨h1,h2,h3,u,hu,h4⟩
   ·exact .inl h
   ·refine .inr ⟨h1,h2,h3,u,?_,h4⟩
    rw [List.getElem?_append_left (by omega)]
    exact hu
  ·rw [List.getElem?_append_right hl] at ht
   have h0:i - pre.length=0:=by
    rcases Nat.eq_zero_or_pos (i - pre.length) with h|h
    ·exact h
    ·rw [List.getElem?_eq_none (by simp;omega)] at ht
     cases ht
   rw [h0] at ht
   simp only [List.getElem?_cons_zero,Option.some.injEq] at ht
   rw [if_neg (by omega)] at ht
   split at ht
   ·rcases hs with hs|⟨h1,h2,h3,h4,u,hu,h5⟩
    ·simp only [Prod.mk.injEq] at hs
     omega
    ·subst ht
     refine .inr ⟨h1,by simp only;omega,h3,u,?_,h5⟩
     simp only
     rw [List.getElem?_append_left (by omega)]
     exact hu
   ·exact .inl ht.symm
theorem timesGo_len (ship more:Int):∀ (l:List Sp) (acc:List Tm),(timesGo ship more l acc).length=acc.length + l.length
 | [],acc=>by simp [timesGo]
 | x :: xs,acc=>by
  simp only [timesGo]
  rw [timesGo_len ship more xs]
  simp
  omega
theorem timesL_len (ship more:Int) (l:List Sp):(timesL ship more l).length=l.length:=by
 simp [timesL,timesGo_len]
theorem timesGo_ok (ship more:Int):∀ (l:List Sp) (acc:List Tm),TimesOK acc→(∀ x∈l,0≤x.f2∧x.f2≤60)→(∀ i x,l[i]?=some x→0≤x.f1 + (if ((acc.length + i:Nat):Int)=ship then more else 0)∧x.f1 + (if ((acc.length + i:Nat):Int)=ship then more else 0)≤120)→TimesOK (timesGo ship more l acc)
 | [],acc,h,_,_=>h
 | x :: xs,acc,h,h2,hr=>by
  simp only [timesGo]
  have h0:=hr 0 x rfl
  refine timesGo_ok ship more xs _ (due_ok h (h2 x (by simp)) (by simpa using h0)) (fun y hy=>h2 y (by simp [hy])) (fun i y hy=>?_)
  have:=hr (i + 1) y (by simpa using hy)
  simp only [List.length_append,List.length_singleton]
  rw [show acc.length + 1 + i=acc.length + (i + 1) by omega]
  exact this
end Go.Proofs.Ytcajnbkbdbkpgac.G.Pure
end

section
namespace Go.Proofs.Ytcajnbkbdbkpgac.G.Pure
open Go.RowKit Go.Proofs.Ytcajnbkbdbkpgac.G Go.Proofs.YtcajnbkbdbkpgacW.PrintWords Go.Proofs.YtcajnbkbdbkpgacW.PrintLast Go.Proofs.YtcajnbkbdbkpgacW.PrintMore
set_option linter.unusedVariables false
set_option linter.unusedSimpArgs false
theorem rd_impl_Ship {l:List (S74)} {i:Nat} (h:i < l.length):rd_T74 l (i:Int)=l[i]:=by
 simp [rd_T74,List.getD_eq_getElem?_getD,List.getElem?_eq_getElem h]
end Go.Proofs.Ytcajnbkbdbkpgac.G.Pure
end

section
namespace Go.Proofs.Ytcajnbkbdbkpgac.G.Pure
open Go.RowKit Go.Proofs.Ytcajnbkbdbkpgac.G Go.Proofs.YtcajnbkbdbkpgacW.PrintWords Go.Proofs.YtcajnbkbdbkpgacW.PrintLast Go.Proofs.YtcajnbkbdbkpgacW.PrintMore
set_option linter.unusedVariables false
set_option linter.unusedSimpArgs false
def wfShip (x:Sp):Prop:=(Lit.int .i8 x.f0).wf=true∧(Lit.int .i8 x.f1).wf=true∧(Lit.int .i8 x.f2).wf=true
def validB (l:List Sp):Bool:=decide (1≤(l.length:Int)) && decide ((l.length:Int)≤20) && !l.any shipBad
theorem implValid_eq (l:List Sp):impl_ValidLine.f l=some (validB l):=rfl
theorem shipBad_wf {x:Sp} (h:wfShip x):shipBad x=!(decide (0≤x.f0) && decide (x.f0≤6) && (decide (0≤x.f1) && decide (x.f1≤60)) && (decide (0≤x.f2) && decide (x.f2≤60))):=by
 obtain ⟨h0,h1,h2⟩:=h
 have b0:=i8b h0
 have b1:=i8b h1
 have b2:=i8b h2
 unfold shipBad
 rw [w64 (n:=x.f0) (by omega) (by omega),w64 (n:=x.f1) (by omega) (by omega),w64 (n:=x.f2) (by omega) (by omega)]
structure ValidL (l:List Sp):Prop where
 pos:1≤l.length
 most:l.length≤20
 ships:∀ x∈l,0≤x.f0∧x.f0≤6∧0≤x.f1∧x.f1≤60∧0≤x.f2∧x.f2≤60
theorem ValidL.in_ {l:List Sp} (h:ValidL l):∀ x∈l,shipIn x:=fun x hx=>by
 have:=h.ships x hx
 unfold shipIn
 omega
theorem validB_iff {l:List Sp} (hw:∀ x∈l,wfShip x):validB l=true ↔ ValidL l:=by
 constructor
 ·intro h
  unfold validB at h
  simp only [Bool.and_eq_true,decide_eq_true_eq,Bool.not_eq_true',List.any_eq_false] at h
  obtain ⟨⟨h1,h2⟩,h3⟩:=h
  refine ⟨by omega,by omega,fun x hx=>?_⟩
  have h4:=h3 x hx
  rw [shipBad_wf (hw x hx)] at h4
  simp at h4
  omega
 ·intro h
  unfold validB
  simp only [Bool.and_eq_true,decide_eq_true_eq,Bool.not_eq_true',List.any_eq_false]
  refine ⟨⟨by have:=h.pos;omega,by have:=h.most;omega⟩,fun x hx=>?_⟩
  rw [shipBad_wf (hw x hx)]
  have:=h.ships x hx
  simp
  omega
theorem in_eq (n lo hi:Int):spec_l00In.f n lo hi=some (decide (lo≤n) && decide (n≤hi)):=by
 unfold spec_l00In.f
 split
 ·simp [*]
 ·simp [*]
theorem specOk_eq (k:Nat) (l:List Sp) (hw:∀ x∈l,wfShip x) (hl:l.length≤1048576) (hk:l.length < k):spec_l06Ok.f k l=some (validB l):=by
 unfold spec_l06Ok.f validB
 rw [in_eq]
 simp only [Option.bind_some]
 by_cases h0:(decide (1≤(l.length:Int)) && decide ((l.length:Int)≤20))=true
 ·rw [if_pos h0,h0,Bool.true_and]
  obtain ⟨r,hr,h⟩:=loop_inv (fun k (s:Int)=>spec_l06Ok.l0 k l s) l.length (fun i s=>s=(i:Int)∧∀ j (h:j < l.length),j < i→shipBad l[j]=false) (fun r=>r=!l.any shipBad)
   (fun k i s hi ⟨h1,h2⟩=>by
    subst h1
    have hb:=hw l[i] (List.getElem_mem hi)
    have hbad:=shipBad_wf hb
    obtain ⟨b0,b1,b2⟩:=hb
    have b0:=i8b b0
    have b1:=i8b b1
    have b2:=i8b b2
    cases hq:shipBad l[i] with
    | true =>
     refine .inr ⟨false,?_,?_⟩
     ·have:l.any shipBad=true:=List.any_eq_true.2 ⟨l[i],List.getElem_mem hi,hq⟩
      rw [this];rfl
     ·simp only [spec_l06Ok.l0]
      rw [if_pos (by omega),if_pos (by omega),rd_impl_Ship hi,in_eq,in_eq,in_eq]
      rw [w64 (n:=(l[i]).f0) (by omega) (by omega),w64 (n:=(l[i]).f1) (by omega) (by omega),w64 (n:=(l[i]).f2) (by omega) (by omega)]
      rw [hq] at hbad
      simp only [Option.bind_some]
      generalize (decide (0≤(l[i]).f0) && decide ((l[i]).f0≤6))=c0 at *
      generalize (decide (0≤(l[i]).f1) && decide ((l[i]).f1≤60))=c1 at *
      generalize (decide (0≤(l[i]).f2) && decide ((l[i]).f2≤60))=c2 at *
      cases c0 <;> cases c1 <;> cases c2 <;> first|(exfalso;revert hbad;decide)|rfl
    | false =>
     refine .inl ⟨((i + 1:Nat):Int),⟨rfl,fun j hj hji=>?_⟩,?_⟩
     ·by_cases e:j=i
      ·subst e;exact hq
      ·exact h2 j hj (by omega)
     ·simp only [spec_l06Ok.l0]
      rw [if_pos (by omega),if_pos (by omega),rd_impl_Ship hi,in_eq,in_eq,in_eq]
      rw [w64 (n:=(l[i]).f0) (by omega) (by omega),w64 (n:=(l[i]).f1) (by omega) (by omega),w64 (n:=(l[i]).f2) (by omega) (by omega),w64 (n:=(i:Int) + 1) (by omega) (by omega)]
      rw [hq] at hbad
      simp only [Option.bind_some]
      generalize (decide (0≤(l[i]).f0) && decide ((l[i]).f0≤6))=c0 at *
      generalize (decide (0≤(l[i]).f1) && decide ((l[i]).f1≤60))=c1 at *
      generalize (decide (0≤(l[i]).f2) && decide ((l[i]).f2≤60))=c2 at *
      cases c0 <;> cases c1 <;> cases c2 <;> first|(exfalso;revert hbad;decide)|rfl)
   (fun k s ⟨h1,h2⟩=>by
    subst h1
    refine ⟨true,?_,?_⟩
    ·have:l.any shipBad=false:=by
      rw [List.any_eq_false]
      intro x hx
      obtain ⟨j,hj,rfl⟩:=List.mem_iff_getElem.1 hx
      simp [h2 j hj hj]
     rw [this];rfl
    ·simp only [spec_l06Ok.l0]
     rw [if_neg (by omega)]) k 0 ⟨rfl,fun j _ h=>absurd h (Nat.not_lt_zero _)⟩ hk
  subst hr
  exact h
 ·rw [if_neg h0]
  simp only [Bool.not_eq_true] at h0
  rw [h0,Bool.false_and]
end Go.Proofs.Ytcajnbkbdbkpgac.G.Pure
end

section
namespace Go.Proofs.Ytcajnbkbdbkpgac.G.Pure
open Go.RowKit Go.Proofs.Ytcajnbkbdbkpgac.G Go.Proofs.YtcajnbkbdbkpgacW.PrintWords Go.Proofs.YtcajnbkbdbkpgacW.PrintLast Go.Proofs.YtcajnbkbdbkpgacW.PrintMore
set_option linter.unusedVariables false
set_option linter.unusedSimpArgs false
theorem one_ok {code:List Int} (hc:Bytes code) {at_ seed a:Int} (ha:0≤at_∧at_≤1000000) (h1:1 < a) (h2:a≤200):∃ b s,spec_l00Src_one.f code at_ seed a=some (b,at_ + 1,s):=by
 obtain ⟨n,s,e,hn⟩:=pick_ok hc (seed:=seed) ha h1 h2
 unfold spec_l00Src_one.f
 rw [e]
 exact ⟨_,_,rfl⟩
def Fine (x:Sp):Prop:=0≤x.f0∧x.f0≤3∧0≤x.f1∧x.f1≤7∧0≤x.f2∧x.f2≤4
theorem drawn_in {code:List Int} (hc:Bytes code):∀ (n k:Nat) (l:List Sp) (at_ seed:Int),n < k→(l.length + n≤8)→0≤at_→at_ + 4 * (n:Int)≤1000→(∀ x∈l,Fine x) →
  ∃ l' a' s',spec_l06Drawn.l0 k l (n:Int) code at_ seed=some (l',a',s')∧l'.length=l.length + n∧∀ x∈l',Fine x:=by
 intro n
 induction n with
 | zero =>
  intro k l at_ seed hk hl h0 h1 hf
  obtain ⟨k,rfl⟩:∃ m,k=m + 1:=⟨k - 1,by omega⟩
  rw [spec_l06Drawn.l0,if_neg (by decide)]
  exact ⟨l,at_,seed,rfl,rfl,hf⟩
 | succ n ih =>
  intro k l at_ seed hk hl h0 h1 hf
  obtain ⟨k,rfl⟩:∃ m,k=m + 1:=⟨k - 1,by omega⟩
  obtain ⟨p1,s1,e1,b1⟩:=pick_ok hc (seed:=seed) (a:=3) (at_:=at_) (by omega) (by omega) (by omega)
  obtain ⟨p2,s2,e2,b2⟩:=pick_ok hc (seed:=s1) (a:=8) (at_:=at_ + 1) (by omega) (by omega) (by omega)
  obtain ⟨p3,s3,e3,b3⟩:=pick_ok hc (seed:=s2) (a:=5) (at_:=at_ + 1 + 1) (by omega) (by omega) (by omega)
  obtain ⟨p4,s4,e4⟩:=one_ok hc (seed:=s3) (a:=16) (at_:=at_ + 1 + 1 + 1) (by omega) (by omega) (by omega)
  rw [spec_l06Drawn.l0,if_pos (by omega),e1]
  simp only [Option.bind_some]
  rw [e2]
  simp only [Option.bind_some]
  rw [e3]
  simp only [Option.bind_some]
  rw [e4]
  simp only [Option.bind_some]
  rw [i8w (n:=p2) (by omega) (by omega),i8w (n:=p3) (by omega) (by omega),w64 (n:=1 + p1) (by omega) (by omega),i8w (n:=1 + p1) (by omega) (by omega),w64 (n:=((n + 1:Nat):Int) - 1) (by omega) (by omega),show ((n + 1:Nat):Int) - 1=(n:Int) by omega]
  have hadd:∀ x:Sp,Fine x→∃ l' a' s',spec_l06Drawn.l0 k (l ++ [x]) (n:Int) code (at_ + 1 + 1 + 1 + 1) s4=some (l',a',s')∧l'.length=l.length + (n + 1)∧∀ y∈l',Fine y:=by
   intro x hx
   obtain ⟨l',a',s',q1,q2,q3⟩:=ih k (l ++ [x]) (at_ + 1 + 1 + 1 + 1) s4 (by omega) (by simp;omega) (by omega) (by omega) (fun y hy=>by
    rcases List.mem_append.1 hy with hy|hy
    ·exact hf y hy
    ·rw [List.mem_singleton] at hy
     subst hy
     exact hx)
   exact ⟨l',a',s',q1,by rw [q2];simp;omega,q3⟩
  split
  ·rw [if_pos (by omega)]
   exact hadd _ ⟨by simp only;omega,by simp only;omega,by simp only;omega,by simp only;omega,by simp only;omega,by simp only;omega⟩
  ·rw [if_pos (by omega)]
   exact hadd _ ⟨by simp only;omega,by simp only;omega,by simp only;omega,by simp only;omega,by simp only;omega,by simp only;omega⟩
theorem line_ok {code:List Int} (hc:Bytes code) {k:Nat} (hk:20 < k):∃ l:List Sp,spec_A2Line.f k code=some l∧ValidL l∧l.length≤8∧∀ x∈l,Fine x:=by
 obtain ⟨n,s,e,hn⟩:=pick_ok hc (seed:=0) (a:=8) (at_:=0) (by omega) (by omega) (by omega)
 obtain ⟨l,a',s',q1,q2,q3⟩:=drawn_in hc (n.toNat + 1) k [] (0 + 1) s (by omega) (by simp;omega) (by omega) (by omega) (by simp)
 refine ⟨l,?_,⟨by rw [q2];simp,by rw [q2];simp;omega,fun x hx=>by have:=q3 x hx;unfold Fine at this;omega⟩,by rw [q2];simp;omega,q3⟩
 unfold spec_A2Line.f spec_l00From.f spec_l06Drawn.f
 simp only [Option.bind_some]
 rw [e]
 simp only [Option.bind_some]
 rw [w64 (n:=1 + n) (by omega) (by omega),show 1 + n=((n.toNat + 1:Nat):Int) by omega,q1]
 rfl
theorem fine_wf {x:Sp} (h:Fine x):wfShip x:=by
 unfold Fine at h
 refine ⟨?_,?_,?_⟩ <;> simp [Lit.wf,IntKind.min,IntKind.max,IntKind.signed,IntKind.bits] <;> omega
end Go.Proofs.Ytcajnbkbdbkpgac.G.Pure
end

section
namespace Go.Proofs.Ytcajnbkbdbkpgac.G.Pure
open Go.RowKit Go.Proofs.Ytcajnbkbdbkpgac.G Go.Proofs.YtcajnbkbdbkpgacW.PrintWords Go.Proofs.YtcajnbkbdbkpgacW.PrintLast Go.Proofs.YtcajnbkbdbkpgacW.PrintMore
set_option linter.unusedVariables false
set_option linter.unusedSimpArgs false
abbrev Ft:=S51
theorem rd_impl_Fault {l:List Ft} {i:Nat} (h:i < l.length):rd_T51 l (i:Int)=l[i]:=by
 simp [rd_T51,List.getD_eq_getElem?_getD,List.getElem?_eq_getElem h]
end Go.Proofs.Ytcajnbkbdbkpgac.G.Pure
end

section
namespace Go.Proofs.Ytcajnbkbdbkpgac.G.Pure
open Go.RowKit Go.Proofs.Ytcajnbkbdbkpgac.G Go.Proofs.YtcajnbkbdbkpgacW.PrintWords Go.Proofs.YtcajnbkbdbkpgacW.PrintLast Go.Proofs.YtcajnbkbdbkpgacW.PrintMore
set_option linter.unusedVariables false
set_option linter.unusedSimpArgs false
def mstep (n:Int) (s:List Int × Nat):Option (List Int × Nat) :=
  if n=-10 then (if s.2=s.1.length then none else some (s.1 ++ [n],s.1.length + 1))
  else if -4≤n∧n≤-1 then (if s.2 + (-n).toNat - 1 < s.1.length then some (s.1 ++ [rd s.1 ((s.2 + (-n).toNat - 1:Nat):Int)],s.2) else none)
  else if 0≤n∧n≤39 then some (s.1 ++ [n],s.2) else none
def mto (h:List Int):Nat→Option (List Int × Nat)
  | 0=>some ([],0)
  | n + 1=>(mto h n).bind (mstep (rd h (n:Int)))
def MOk (s:List Int × Nat) (n:Nat):Prop:=s.1.length=n∧s.2≤n∧∀ j (h:j < s.1.length),s.2≤j→0≤s.1[j]∧s.1[j]≤39
theorem mto_ok {h:List Int}:∀ n {s:List Int × Nat},mto h n=some s→MOk s n:=by
  intro n
  induction n with
  | zero=>intro s hs; cases hs; exact ⟨rfl,Nat.le_refl _,fun j h=>by simp at h⟩
  | succ n ih =>
    intro s hs
    rw [mto] at hs
    obtain ⟨s0,h0,h1⟩:=Option.bind_eq_some_iff.1 hs
    obtain ⟨i1,i2,i3⟩:=ih h0
    unfold mstep at h1
    split at h1
    · split at h1
      · cases h1
      · cases h1
        refine ⟨by simp [i1],by simp only; omega,fun j hj h=>?_⟩
        simp only [List.length_append,List.length_singleton] at hj h
        omega
    · split at h1
      · split at h1
        · rename_i hin
          cases h1
          refine ⟨by simp [i1],by simp only; omega,fun j hj h=>?_⟩
          simp only [List.length_append,List.length_singleton] at hj h
          rcases Nat.lt_or_ge j s0.1.length with e|e
          · simp only [List.getElem_append_left e]
            exact i3 j e h
          · obtain rfl:j=s0.1.length:=by omega
            simp only [List.getElem_append_right (Nat.le_refl _),Nat.sub_self,List.getElem_cons_zero]
            rw [rd_nat hin]
            exact i3 _ hin (by omega)
        · cases h1
      · split at h1
        · rename_i hk
          cases h1
          refine ⟨by simp [i1],by simp only; omega,fun j hj h=>?_⟩
          simp only [List.length_append,List.length_singleton] at hj h
          rcases Nat.lt_or_ge j s0.1.length with e|e
          · simp only [List.getElem_append_left e]
            exact i3 j e h
          · obtain rfl:j=s0.1.length:=by omega
            simp only [List.getElem_append_right (Nat.le_refl _),Nat.sub_self,List.getElem_cons_zero]
            exact hk
        · cases h1
theorem mto_none {h:List Int} {i n:Nat} (hh:mto h i=none) (hi:i≤n):mto h n=none:=by
  induction n with
  | zero => obtain rfl : i = 0 := by omega
            exact hh
  | succ n ih =>
    rcases Nat.lt_or_ge i (n + 1) with h1|h1
    · rw [mto,ih (by omega)]
      rfl
    · obtain rfl:i=n + 1:=by omega
      exact hh
def meanO (h:List Int):Option (List Int):=if 1≤h.length∧h.length≤8 then (match mto h h.length with|some s=>if s.2 < s.1.length then some s.1 else none|none=>none) else none
theorem kind_eq (n:Int) (h0:-128≤n) (h1:n≤127):impl_isKind.f n=some (decide (0≤n) && decide (n≤39)):=by
  unfold impl_isKind.f impl_within.f
  rw [w64 (by omega) (by omega)]
  by_cases h:0≤n <;> simp [h]
theorem within8 (n lo hi:Int):impl_within.f n lo hi=some (decide (lo≤n) && decide (n≤hi)):=by
  unfold impl_within.f
  split <;> simp [*]
def wfH (h:List Int):Prop:=∀ x∈h,(Lit.int .i8 x).wf=true
theorem wfH_at {h:List Int} (hw:wfH h) {i:Nat} (hi:i < h.length):-128≤rd h (i:Int)∧rd h (i:Int)≤127:=by
  rw [rd_nat hi]
  exact i8b (hw _ (List.getElem_mem hi))
theorem mean_A {h:List Int} (hl:h.length≤1048576) {i:Nat} (hi:i < h.length) {a:List Int} {g:Nat} (o1:a.length=i) (o2:g≤i) (K1:Nat) (hn:rd h (i:Int)=-10) :
    impl_Hoist_meaning.l0 (K1 + 1) h a (g:Int) h (h.length:Int) (i:Int)=if g=a.length then some ([],false) else impl_Hoist_meaning.l0 K1 h (a ++ [rd h (i:Int)]) ((a.length + 1:Nat):Int) h (h.length:Int) ((i + 1:Nat):Int):=by
  rw [show ((i + 1:Nat):Int)=(i:Int) + 1 by omega]
  simp only [impl_Hoist_meaning.l0]
  rw [if_pos (by omega),if_pos (by omega),if_pos (by omega),if_pos hn]
  by_cases hg:g=a.length
  · rw [if_pos hg,if_pos (by omega)]
  · rw [if_neg hg,if_neg (by omega),if_pos (by omega)]
    simp only [Option.bind_some]
    rw [w64 (by omega) (by omega),List.length_append,List.length_singleton]
theorem mean_j {K:Nat} {h a:List Int} {g:Nat} {i:Nat} {n:Int} (hl:h.length≤1048576) (hi:i < h.length) (o1:a.length=i) (x8:Int) (hn:-128≤n∧n≤127) :
    impl_Hoist_meaning.j1 (K + 1) h a (g:Int) n x8 h (h.length:Int) (i:Int) false=if 0≤n∧n≤39 then impl_Hoist_meaning.l0 K h (a ++ [n]) (g:Int) h (h.length:Int) ((i + 1:Nat):Int) else some ([],false):=by
  rw [show ((i + 1:Nat):Int)=(i:Int) + 1 by omega]
  simp only [impl_Hoist_meaning.j1]
  rw [if_neg (by simp),kind_eq _ (by omega) (by omega)]
  simp only [Option.bind_some]
  by_cases hk:0≤n∧n≤39
  · rw [if_pos hk,if_pos (by simp [hk]),if_pos (by omega),w64 (by omega) (by omega)]
  · rw [if_neg hk,if_neg (by simpa using hk)]
theorem mean_jt {K:Nat} {h a:List Int} {g:Nat} {i:Nat} {n:Int} (hl:h.length≤1048576) (hi:i < h.length) (o1:a.length=i) {p:Nat} (hp:p < a.length) (hk:0≤a[p]∧a[p]≤39) :
    impl_Hoist_meaning.j1 (K + 1) h a (g:Int) n (p:Int) h (h.length:Int) (i:Int) true=impl_Hoist_meaning.l0 K h (a ++ [rd a (p:Int)]) (g:Int) h (h.length:Int) ((i + 1:Nat):Int):=by
  rw [show ((i + 1:Nat):Int)=(i:Int) + 1 by omega]
  simp only [impl_Hoist_meaning.j1]
  rw [if_pos trivial,if_pos (by omega),if_pos (by omega),rd_nat hp,kind_eq _ (by omega) (by omega)]
  simp only [Option.bind_some]
  rw [if_pos (by simp [hk]),if_pos (by omega),w64 (by omega) (by omega)]
theorem mean_l {K:Nat} {h a:List Int} {g:Nat} {i:Nat} (hl:h.length≤1048576) (hi:i < h.length) (o1:a.length=i) (o2:g≤i) (hb:-128≤rd h (i:Int)∧rd h (i:Int)≤127) (hn:¬rd h (i:Int)=-10) :
    impl_Hoist_meaning.l0 (K + 1) h a (g:Int) h (h.length:Int) (i:Int)=if -4≤rd h (i:Int)∧rd h (i:Int)≤-1 then impl_Hoist_meaning.j1 K h a (g:Int) (rd h (i:Int)) ((g:Int) - rd h (i:Int) - 1) h (h.length:Int) (i:Int) (decide ((g:Int) - rd h (i:Int) - 1 < (a.length:Int))) else impl_Hoist_meaning.j1 K h a (g:Int) (rd h (i:Int)) ((g:Int) - rd h (i:Int) - 1) h (h.length:Int) (i:Int) false:=by
  generalize hr:impl_Hoist_meaning.j1 K=J
  simp only [impl_Hoist_meaning.l0]
  rw [if_pos (by omega),if_pos (by omega),if_pos (by omega),if_neg hn,within8,w64 (n:=rd h (i:Int)) (by omega) (by omega),w64 (n:=(g:Int) - rd h (i:Int)) (by omega) (by omega),w64 (n:=(g:Int) - rd h (i:Int) - 1) (by omega) (by omega),hr]
  simp only [Option.bind_some]
  by_cases hsub:-4≤rd h (i:Int)∧rd h (i:Int)≤-1
  · rw [if_pos hsub,if_pos (by simp [hsub])]
  · rw [if_neg hsub,if_neg (by simpa using hsub)]
theorem implMean_step {h:List Int} (hw:wfH h) (hl:h.length≤1048576) {i:Nat} (hi:i < h.length) {s:List Int × Nat} (hs:mto h i=some s) (K:Nat) :
    impl_Hoist_meaning.l0 (K + 2) h s.1 (s.2:Int) h (h.length:Int) (i:Int)=some ([],false)∧mto h (i + 1)=none∨∃ s',mto h (i + 1)=some s'∧∃ K',(K'=K∨K'=K + 1)∧impl_Hoist_meaning.l0 (K + 2) h s.1 (s.2:Int) h (h.length:Int) (i:Int)=impl_Hoist_meaning.l0 K' h s'.1 (s'.2:Int) h (h.length:Int) ((i + 1:Nat):Int):=by
  obtain ⟨o1,o2,o3⟩:=mto_ok i hs
  have hb:=wfH_at hw hi
  have hm:mto h (i + 1)=mstep (rd h (i:Int)) s:=by rw [mto,hs,Option.bind_some]
  rw [hm]
  unfold mstep
  by_cases hn:rd h (i:Int)=-10
  · rw [if_pos hn,mean_A hl hi o1 o2 (K + 1) hn]
    by_cases hg:s.2=s.1.length
    · rw [if_pos hg,if_pos hg]
      exact .inl (And.intro (Eq.refl _) (Eq.refl _))
    · rw [if_neg hg,if_neg hg]
      exact .inr (Exists.intro _ (And.intro (Eq.refl _) (Exists.intro (K + 1) (And.intro (.inr (Eq.refl _)) (Eq.refl _)))))
  · rw [if_neg hn,mean_l hl hi o1 o2 hb hn]
    by_cases hsub:-4≤rd h (i:Int)∧rd h (i:Int)≤-1
    · rw [if_pos hsub,if_pos hsub]
      have hat:(s.2:Int) - rd h (i:Int) - 1=((s.2 + (-rd h (i:Int)).toNat - 1:Nat):Int):=by omega
      rw [hat]
      by_cases hlt:s.2 + (-rd h (i:Int)).toNat - 1 < s.1.length
      · have hk:=o3 _ hlt (by omega)
        rw [if_pos hlt,decide_eq_true (by omega:((s.2 + (-rd h (i:Int)).toNat - 1:Nat):Int) < (s.1.length:Int)),mean_jt hl hi o1 hlt hk]
        exact .inr (Exists.intro _ (And.intro (Eq.refl _) (Exists.intro K (And.intro (.inl (Eq.refl _)) (Eq.refl _)))))
      · rw [if_neg hlt,decide_eq_false (by omega:¬((s.2 + (-rd h (i:Int)).toNat - 1:Nat):Int) < (s.1.length:Int)),mean_j hl hi o1 _ hb,if_neg (by omega)]
        exact .inl (And.intro (Eq.refl _) (Eq.refl _))
    · rw [if_neg hsub,if_neg hsub,mean_j hl hi o1 _ hb]
      by_cases hk:0≤rd h (i:Int)∧rd h (i:Int)≤39
      · rw [if_pos hk,if_pos hk]
        exact .inr (Exists.intro _ (And.intro (Eq.refl _) (Exists.intro K (And.intro (.inl (Eq.refl _)) (Eq.refl _)))))
      · rw [if_neg hk,if_neg hk]
        exact .inl (And.intro (Eq.refl _) (Eq.refl _))
theorem implMean_all {h:List Int} (hw:wfH h) (hl:h.length≤1048576):∀ d i s K,i + d=h.length→mto h i=some s→2 * d + 1≤K→∃ o,impl_Hoist_meaning.l0 K h s.1 (s.2:Int) h (h.length:Int) (i:Int)=some (o,(meanO h).isSome)∧(∀ m,meanO h=some m→o=m):=by
  intro d
  induction d with
  | zero =>
    intro i s K hi hs hK
    obtain ⟨K,rfl⟩:∃ m,K=m + 1:=⟨K - 1,by omega⟩
    obtain rfl:i=h.length:=by omega
    simp only [impl_Hoist_meaning.l0]
    rw [if_neg (by omega)]
    simp only [impl_size_int8.f,Option.bind_some,within8]
    unfold meanO
    rw [hs]
    by_cases hin:1≤h.length∧h.length≤8
    · rw [if_pos hin,if_pos (by simp; omega)]
      by_cases hg:s.2 < s.1.length
      · exact ⟨s.1,by simp [hg],fun m hm=>by simpa [hg] using hm⟩
      · exact ⟨s.1,by simp [hg],fun m hm=>by simp [hg] at hm⟩
    · rw [if_neg hin,if_neg (by simp; omega)]
      exact ⟨s.1,rfl,fun m hm=>by cases hm⟩
  | succ d ih =>
    intro i s K hi hs hK
    obtain ⟨K,rfl⟩:∃ m,K=m + 2:=⟨K - 2,by omega⟩
    rcases implMean_step hw hl (by omega:i < h.length) hs K with ⟨h1,h2⟩|⟨s',h1,K',hK',h2⟩
    · have:meanO h=none:=by
        unfold meanO
        rw [mto_none h2 (by omega)]
        split <;> rfl
      rw [h1,this]
      exact ⟨[],rfl,fun m hm=>by cases hm⟩
    · rw [h2]
      exact ih (i + 1) s' K' (by omega) h1 (by omega)
theorem implMean_eq {k:Nat} {h:List Int} (hw:wfH h) (hl:h.length≤1048576) (hk:2200000 < k):∃ o,impl_Hoist_meaning.f k h=some (o,(meanO h).isSome)∧∀ m,meanO h=some m→o=m:=by
  unfold impl_Hoist_meaning.f
  exact implMean_all hw hl h.length 0 ([],0) k (by omega) rfl (by omega)
theorem implValidH {k:Nat} {h:List Int} (hw:wfH h) (hl:h.length≤1048576) (hk:2200000 < k):impl_ValidHoist.f k h=some (meanO h).isSome:=by
  obtain ⟨o,h1,_⟩:=implMean_eq hw hl hk
  unfold impl_ValidHoist.f
  rw [h1]
  rfl
theorem group_end {h:List Int} {n:Nat} {s s':List Int × Nat} (hs:mto h n=some s) (hs':mstep (rd h (n:Int)) s=some s'):(rd h (n:Int)=-10 ↔ s'.2=n + 1):=by
  obtain ⟨o1,o2,_⟩:=mto_ok n hs
  unfold mstep at hs'
  split at hs'
  · rename_i hn
    split at hs'
    · cases hs'
    · cases hs'
      exact ⟨fun _=>by simp only; omega,fun _=>hn⟩
  · rename_i hn
    split at hs'
    · split at hs'
      · cases hs'
        exact ⟨fun h=>absurd h hn,fun h=>by simp only at h; omega⟩
      · cases hs'
    · split at hs'
      · cases hs'
        exact ⟨fun h=>absurd h hn,fun h=>by simp only at h; omega⟩
      · cases hs'
set_option maxHeartbeats 1000000 in
theorem specMean_all {h:List Int} (hw:wfH h) (hl:1≤h.length∧h.length≤8):∀ d i s K,i + d=h.length→mto h i=some s→(i=h.length→s.2 < i)→3 * d + 1≤K→spec_l02Read.l0 K h (h.length:Int) s.1 (s.2:Int) (i:Int)=some (match meanO h with|some m=>(m,true)|none=>([],false)):=by
  intro d
  induction d with
  | zero =>
    intro i s K hi hs hlast hK
    obtain ⟨K,rfl⟩:∃ m,K=m + 1:=⟨K - 1,by omega⟩
    obtain rfl:i=h.length:=by omega
    have o:=mto_ok _ hs
    simp only [spec_l02Read.l0]
    rw [if_neg (by omega)]
    unfold meanO
    rw [if_pos hl,hs]
    simp only
    rw [if_pos (by rw [o.1]; exact hlast rfl)]
  | succ d ih =>
    intro i s K hi hs hlast hK
    have hil:i < h.length:=by omega
    obtain ⟨o1,o2,o3⟩:=mto_ok i hs
    have hb:=wfH_at hw hil
    have hm:mto h (i + 1)=mstep (rd h (i:Int)) s:=by rw [mto,hs]; rfl
    have hnone:mstep (rd h (i:Int)) s=none→meanO h=none:=fun hh=>by
      unfold meanO
      rw [mto_none (hm.trans hh) (by omega)]
      split <;> rfl
    have hfwd:∀ s' K',mstep (rd h (i:Int)) s=some s'→(i + 1=h.length→rd h (i:Int)≠-10)→3 * d + 1≤K'→spec_l02Read.l0 K' h (h.length:Int) s'.1 (s'.2:Int) ((i + 1:Nat):Int)=some (match meanO h with|some m=>(m,true)|none=>([],false)):=fun s' K' hs' hne hK'=>by
      have o':=mto_ok (i + 1) (hm.trans hs')
      refine ih (i + 1) s' K' (by omega) (hm.trans hs') (fun he=>?_) hK'
      have g:=group_end hs hs'
      have:=hne he
      have:=o'.2.1
      rcases Nat.lt_or_ge s'.2 (i + 1) with e|e
      · exact e
      · exact absurd (g.2 (by omega)) (hne he)
    obtain ⟨K,rfl⟩:∃ m,K=m + 3:=⟨K - 3,by omega⟩
    rw [show K + 3=(K + 2) + 1 from rfl]
    generalize hK2:K + 2=K2
    simp only [spec_l02Read.l0]
    rw [if_pos (by omega),if_pos (by omega),if_pos (by omega)]
    unfold mstep at hnone hfwd
    generalize rd h (i:Int)=n at *
    by_cases hn:n=-10
    · rw [if_pos hn] at hnone hfwd ⊢
      by_cases hg:s.2=s.1.length
      · rw [if_pos (by omega),hnone (by rw [if_pos hg])]
      · rw [if_neg (by omega)]
        by_cases hlst:i + 1=h.length
        · rw [if_pos (by rw [w64 (by omega) (by omega)]; omega)]
          have hmn:meanO h=none:=by
            unfold meanO
            rw [if_pos hl]
            have e2:mto h h.length=some (s.1 ++ [n],s.1.length + 1):=by
              rw [← hlst,hm]
              unfold mstep
              rw [if_pos hn,if_neg hg]
            rw [e2]
            simp only
            rw [if_neg (by simp)]
          rw [hmn]
        · rw [if_neg (by rw [w64 (by omega) (by omega)]; omega),if_pos (by omega),w64 (by omega) (by omega)]
          have:=hfwd (s.1 ++ [n],s.1.length + 1) K2 (by rw [if_neg hg]) (fun h=>absurd h hlst) (by omega)
          rw [show ((i + 1:Nat):Int)=(i:Int) + 1 by omega] at this
          rw [← this]
          simp only
          rw [show ((s.1.length + 1:Nat):Int)=(i:Int) + 1 by omega]
    · rw [if_neg hn] at hnone hfwd ⊢
      rw [show K2=(K + 1) + 1 by omega]
      generalize hK1:K + 1=K1
      have hj1:(if n≥0 then (spec_l02Read.j1 (K1 + 1) h (h.length:Int) s.1 (s.2:Int) (i:Int) n (decide (n < 40))) else (spec_l02Read.j1 (K1 + 1) h (h.length:Int) s.1 (s.2:Int) (i:Int) n false))=spec_l02Read.j1 (K1 + 1) h (h.length:Int) s.1 (s.2:Int) (i:Int) n (decide (0≤n∧n≤39)):=by
        by_cases h0:0≤n
        · rw [if_pos h0]
          congr 1
          rw [decide_eq_decide]
          omega
        · rw [if_neg h0,decide_eq_false (by omega)]
      rw [hj1]
      by_cases hk:0≤n∧n≤39
      · rw [if_neg (by omega),if_pos hk] at hnone hfwd
        rw [decide_eq_true hk]
        simp only [spec_l02Read.j1]
        rw [if_pos trivial,if_pos (by omega),w64 (by omega) (by omega)]
        have:=hfwd (s.1 ++ [n],s.2) K1 rfl (fun _=>hn) (by omega)
        rw [show ((i + 1:Nat):Int)=(i:Int) + 1 by omega] at this
        exact this
      · rw [decide_eq_false hk]
        simp only [spec_l02Read.j1]
        rw [if_neg (by simp),← hK1]
        have hj2:(if n < 0 then (spec_l02Read.j2 (K + 1) h (h.length:Int) s.1 (s.2:Int) (i:Int) n (decide (n≥(-4)))) else (spec_l02Read.j2 (K + 1) h (h.length:Int) s.1 (s.2:Int) (i:Int) n false))=spec_l02Read.j2 (K + 1) h (h.length:Int) s.1 (s.2:Int) (i:Int) n (decide (-4≤n∧n≤-1)):=by
          by_cases h0:n < 0
          · rw [if_pos h0]
            congr 1
            rw [decide_eq_decide]
            omega
          · rw [if_neg h0,decide_eq_false (by omega)]
        rw [hj2]
        by_cases hsub:-4≤n∧n≤-1
        · rw [if_pos hsub] at hnone hfwd
          rw [decide_eq_true hsub]
          simp only [spec_l02Read.j2]
          rw [if_pos trivial,i8w (n:=-n) (by omega) (by omega),w64 (n:=-n) (by omega) (by omega),w64 (n:=(s.2:Int) + -n) (by omega) (by omega),w64 (n:=(s.2:Int) + -n - 1) (by omega) (by omega)]
          have hat:(s.2:Int) + -n - 1=((s.2 + (-n).toNat - 1:Nat):Int):=by omega
          rw [hat]
          by_cases hlt:s.2 + (-n).toNat - 1 < s.1.length
          · rw [if_neg (by omega),if_pos (by omega),if_pos (by omega),if_pos (by omega),w64 (by omega) (by omega)]
            rw [if_pos hlt] at hfwd
            have:=hfwd _ K rfl (fun _=>hn) (by omega)
            rw [show ((i + 1:Nat):Int)=(i:Int) + 1 by omega] at this
            exact this
          · rw [if_pos (by omega),hnone (by rw [if_neg hlt])]
        · rw [if_neg hsub,if_neg hk] at hnone
          rw [decide_eq_false hsub]
          simp only [spec_l02Read.j2]
          rw [if_neg (by simp),hnone rfl]
theorem specMean_eq {k:Nat} {h:List Int} (hw:wfH h) (hk:100 < k):spec_l02Read.f k h=some (match meanO h with|some m=>(m,true)|none=>([],false)):=by
  unfold spec_l02Read.f
  rw [in_eq]
  simp only [Option.bind_some]
  by_cases hl:1≤h.length∧h.length≤8
  · rw [if_pos (by simp; omega)]
    exact specMean_all hw hl h.length 0 ([],0) k (by omega) rfl (by omega) (by omega)
  · rw [if_neg (by simp; omega)]
    unfold meanO
    rw [if_neg hl]
theorem specOkH {k:Nat} {h:List Int} (hw:wfH h) (hk:100 < k):spec_l02Ok.f k h=some (meanO h).isSome:=by
  unfold spec_l02Ok.f
  rw [specMean_eq hw hk]
  cases meanO h <;> rfl
end Go.Proofs.Ytcajnbkbdbkpgac.G.Pure
end

section
namespace Go.Proofs.Ytcajnbkbdbkpgac.G.Pure
open Go.RowKit Go.Proofs.Ytcajnbkbdbkpgac.G Go.Proofs.YtcajnbkbdbkpgacW.PrintWords Go.Proofs.YtcajnbkbdbkpgacW.PrintLast Go.Proofs.YtcajnbkbdbkpgacW.PrintMore
set_option linter.unusedVariables false
set_option linter.unusedSimpArgs false
theorem eq_loop (L:Nat→Int→Option Bool) (a b:List Int) (hlen:a.length=b.length)
  (hs:∀ k i,i < a.length→L (k + 1) (i:Int)=if rd a (i:Int)=rd b (i:Int) then L k ((i + 1:Nat):Int) else some false) (he:∀ k,L (k + 1) (a.length:Int)=some true):∀ k,a.length < k→L k 0=some (decide (a=b)):=by
 intro k hk
 obtain ⟨r,hr,h⟩:=loop_inv L a.length (fun i s=>s=(i:Int)∧∀ j (h:j < a.length),j < i→a[j]=b[j]) (fun r=>r=decide (a=b))
  (fun k i s hi ⟨h1,h2⟩=>by
   subst h1
   rw [hs k i hi,rd_nat hi,rd_nat (by omega)]
   by_cases h:a[i]=b[i]
   ·rw [if_pos h]
    refine .inl ⟨((i + 1:Nat):Int),⟨rfl,fun j hj hji=>?_⟩,rfl⟩
    rcases Nat.lt_succ_iff_lt_or_eq.1 hji with e|e
    ·exact h2 j hj e
    ·subst e
     exact h
   ·rw [if_neg h]
    refine .inr ⟨false,?_,rfl⟩
    rw [decide_eq_false]
    rintro rfl
    exact h rfl)
  (fun k s ⟨h1,h2⟩=>by
   subst h1
   refine ⟨true,?_,he k⟩
   rw [decide_eq_true]
   exact List.ext_getElem hlen fun j h1 h3=>h2 j h1 h1) k 0 ⟨rfl,fun j _ h=>absurd h (Nat.not_lt_zero _)⟩ hk
 subst hr
 exact h
theorem implEqH {k:Nat} {a b:List Int} (ha:a.length≤1048576) (hk:a.length < k):slices_Equal_Hoist_int8.f k a b=some (decide (a=b)):=by
 unfold slices_Equal_Hoist_int8.f
 by_cases h:a.length=b.length
 ·rw [if_pos (by omega)]
  refine eq_loop (fun k i=>slices_Equal_Hoist_int8.l0 k a b (a.length:Int) i) a b h (fun k i hi=>?_) (fun k=>?_) k hk
  ·simp only [slices_Equal_Hoist_int8.l0]
   rw [if_pos (by omega),if_pos (by omega),if_pos (by omega),if_pos (by omega),w64 (by omega) (by omega)]
   rfl
  ·simp only [slices_Equal_Hoist_int8.l0]
   rw [if_neg (by omega)]
 ·rw [if_neg (by omega),decide_eq_false]
  rintro rfl
  exact h rfl
theorem specEqH {k:Nat} {a b:List Int} (ha:a.length≤1048576) (hk:a.length < k):spec_l02Same.f k a b=some (decide (a=b)):=by
 unfold spec_l02Same.f
 by_cases h:a.length=b.length
 ·rw [if_pos (by omega)]
  refine eq_loop (fun k i=>spec_l02Same.l0 k a b i) a b h (fun k i hi=>?_) (fun k=>?_) k hk
  ·simp only [spec_l02Same.l0]
   rw [if_pos (by omega),if_pos (by omega),if_pos (by omega),w64 (by omega) (by omega)]
   rfl
  ·simp only [spec_l02Same.l0]
   rw [if_neg (by omega)]
 ·rw [if_neg (by omega),decide_eq_false]
  rintro rfl
  exact h rfl
abbrev Hs:=List (List Int)
theorem rdH {l:Hs} {i:Nat} (h:i < l.length):rd_L9 l (i:Int)=l[i]:=by
 simp [rd_L9,List.getD_eq_getElem?_getD,List.getElem?_eq_getElem h]
end Go.Proofs.Ytcajnbkbdbkpgac.G.Pure
end

section
namespace Go.Proofs.Ytcajnbkbdbkpgac.G.Pure
open Go.RowKit Go.Proofs.Ytcajnbkbdbkpgac.G Go.Proofs.YtcajnbkbdbkpgacW.PrintWords Go.Proofs.YtcajnbkbdbkpgacW.PrintLast Go.Proofs.YtcajnbkbdbkpgacW.PrintMore
set_option linter.unusedVariables false
set_option linter.unusedSimpArgs false
theorem rd_impl_Times {l:List Tm} {i:Nat} (h:i < l.length):rd_T47 l (i:Int)=l[i]:=by
  simp [rd_T47,List.getD_eq_getElem?_getD,List.getElem?_eq_getElem h]
def tup (t:Tm):Int × Int × Int × Int:=(t.f0,t.f1,t.f2,t.f3)
theorem due_eq (k:Nat) (line:List Sp) (pre:List Tm) (i:Nat) (read:Int) (hi:i < line.length) (hp:pre.length=i) (h20:i < 20) (hok:TimesOK pre) (hx:shipIn line[i]) (hr:0≤read∧read≤120) (hk:8 < k) :
    spec_l06Due.f k line pre (i:Int) read=some (tup (dueL pre line[i] read)):=by
  obtain ⟨s0,s1,s2,s3,s4,s5⟩:=hx
  unfold spec_l06Due.f
  rw [if_pos (by omega),if_pos (by omega),rd_impl_Ship hi]
  rw [w64 (n:=(line[i]).f2) (by omega) (by omega),w64 (n:=(line[i]).f0) (by omega) (by omega)]
  by_cases h0:(i:Int)=0
  · rw [if_pos h0]
    simp [dueL,tup,hp,show i=0 by omega]
  · rw [if_neg h0,w64 (by omega) (by omega)]
    have hsc:=fun n (hn:(i - (line[i]).f0.toNat) + n≤pre.length)=>scan_spec pre hok (i - (line[i]).f0.toNat) n hn
    generalize line[i]=x at *
    obtain ⟨r,hr',h⟩:=loop_inv (fun k (s:Int × Int × Int)=>spec_l06Due.l0 k pre (i:Int) read x.f2 s.1 s.2.1 s.2.2 (-1) (-1)) x.f0.toNat
      (fun j s=>s.1=(i:Int) - x.f0 + j∧(s.2.1,s.2.2)=scan pre (i - x.f0.toNat) ((i + j - x.f0.toNat) - (i - x.f0.toNat)))
      (fun r=>r=tup (dueL pre x read))
      (fun k j s hj ⟨h1,h2⟩=>by
        obtain ⟨p,f,s⟩:=s
        simp only at h1 h2
        subst h1
        refine .inl ?_
        by_cases hneg:0≤(i:Int) - x.f0 + j
        · obtain ⟨q,hq⟩:∃ q:Nat,(i:Int) - x.f0 + j=(q:Int):=⟨((i:Int) - x.f0 + j).toNat,by omega⟩
          have hql:q < pre.length:=by omega
          have hb:=hok.bound q _ (List.getElem?_eq_getElem hql)
          have hn:i - x.f0.toNat + (i + j - x.f0.toNat - (i - x.f0.toNat))=q:=by omega
          have hn2:i + (j + 1) - x.f0.toNat - (i - x.f0.toNat)=(i + j - x.f0.toNat - (i - x.f0.toNat)) + 1:=by omega
          refine ⟨((q:Int) + 1,(scan pre (i - x.f0.toNat) (i + (j + 1) - x.f0.toNat - (i - x.f0.toNat))).1,(scan pre (i - x.f0.toNat) (i + (j + 1) - x.f0.toNat - (i - x.f0.toNat))).2),⟨by simp only; omega,rfl⟩,?_⟩
          rw [hn2]
          simp only [scan,← h2,hn,List.getElem?_eq_getElem hql]
          rw [hq]
          simp only [spec_l06Due.l0]
          rw [if_pos (by omega),if_pos (by omega),if_pos (by omega),if_pos (by omega),rd_impl_Times hql,w64 (n:=(q:Int) + 1) (by omega) (by omega),i8w (n:=(q:Int)) (by omega) (by omega)]
          by_cases c1:0≤pre[q].f3
          · rw [if_pos (by omega)]
            by_cases c2:f < 0
            · rw [if_pos c2,if_pos ⟨c1,.inl c2⟩]
            · rw [if_neg c2]
              by_cases c3:pre[q].f3 < s
              · rw [if_pos c3,if_pos ⟨c1,.inr c3⟩]
              · rw [if_neg c3,if_neg (fun h=>h.2.elim c2 c3)]
          · rw [if_neg (by omega),if_neg (fun h=>c1 h.1)]
        · have hn:i + j - x.f0.toNat - (i - x.f0.toNat)=0:=by omega
          have hn2:i + (j + 1) - x.f0.toNat - (i - x.f0.toNat)=0:=by omega
          refine ⟨((i:Int) - x.f0 + j + 1,f,s),⟨by simp only; omega,?_⟩,?_⟩
          · rw [hn2]; rw [hn] at h2; exact h2
          · simp only [spec_l06Due.l0]
            rw [if_pos (by omega),if_neg (by omega),w64 (by omega) (by omega)])
      (fun k s ⟨h1,h2⟩=>by
        obtain ⟨p,f,s⟩:=s
        simp only at h1 h2
        have hp':p=(i:Int):=by omega
        subst hp'
        have hn:i + x.f0.toNat - x.f0.toNat - (i - x.f0.toNat)=pre.length - (pre.length - x.f0.toNat):=by omega
        refine ⟨_,rfl,?_⟩
        have hs:=hsc (pre.length - (pre.length - x.f0.toNat)) (by omega)
        rw [hn] at h2
        rw [← h2] at hs
        simp only [spec_l06Due.l0]
        rw [if_neg (by omega)]
        unfold dueL
        rw [if_neg (show ¬ pre.length=0 by omega),show pre.length - x.f0.toNat=i - x.f0.toNat by omega]
        rw [show pre.length - x.f0.toNat=i - x.f0.toNat by omega] at h2
        rw [← h2]
        simp only
        by_cases c:0≤f
        · rw [if_pos (by omega),if_pos c]
          rcases hs with hs|hs
          · simp only [Prod.mk.injEq] at hs
            omega
          · simp only at hs
            rw [w64 (n:=s + read) (by omega) (by omega),w64 (by omega) (by omega)]
            rfl
        · rw [if_neg (by omega),if_neg c]
          rcases hs with hs|hs
          · simp only [Prod.mk.injEq] at hs
            rw [hs.1,hs.2]
            rfl
          · simp only at hs
            omega) k ((i:Int) - x.f0,-1,-1) ⟨by simp,by
        rw [show i + 0 - x.f0.toNat - (i - x.f0.toNat)=0 by omega]
        rfl⟩ (by omega)
    subst hr'
    exact h
theorem specTimes_eq (k:Nat) (line:List Sp) (ship more:Int) (hl:line.length≤20) (hx:∀ x∈line,shipIn x) (hr:∀ (i:Nat) (x:Sp),line[i]?=some x→0≤x.f1 + (if (i:Int)=ship then more else 0)∧x.f1 + (if (i:Int)=ship then more else 0)≤120) (hm:0≤more∧more≤60) (hk:40 < k) :
    spec_l06Times.f k line ship more=some (timesL ship more line):=by
  unfold spec_l06Times.f
  have go:∀ (rest:List Sp) (k:Nat) (acc:List Tm),line.drop acc.length=rest→TimesOK acc→acc.length≤line.length→rest.length + 10 < k→spec_l06Times.l0 k line ship more acc (acc.length:Int)=some (timesGo ship more rest acc):=by
    intro rest
    induction rest with
    | nil =>
      intro k acc hd hok hle hk
      obtain ⟨k,rfl⟩:∃ m,k=m + 1:=⟨k - 1,by omega⟩
      have:=List.drop_eq_nil_iff.1 hd
      simp only [spec_l06Times.l0]
      rw [if_neg (by omega)]
      rfl
    | cons x xs ih =>
      intro k acc hd hok hle hk
      simp only [List.length_cons] at hk
      obtain ⟨k,rfl⟩:∃ m,k=m + 1:=⟨k - 1,by omega⟩
      have hlt:acc.length < line.length:=by
        have:=congrArg List.length hd
        simp at this
        omega
      have hx0:line[acc.length]=x:=by
        have h1:=List.drop_eq_getElem_cons hlt
        rw [hd] at h1
        exact (List.cons.inj h1).1.symm
      have hxs:line.drop (acc.length + 1)=xs:=by
        have h1:=List.drop_eq_getElem_cons hlt
        rw [hd] at h1
        exact (List.cons.inj h1).2.symm
      have hmem:x∈line:=hx0 ▸ List.getElem_mem hlt
      obtain ⟨s0,s1,s2,s3,s4,s5⟩:=hx x hmem
      have hr':=hr acc.length x (by rw [List.getElem?_eq_getElem hlt,hx0])
      simp only [spec_l06Times.l0]
      rw [if_pos (by omega),if_pos (by omega),rd_impl_Ship hlt,hx0]
      rw [w64 (n:=x.f1) (by omega) (by omega),w64 (n:=(acc.length:Int) + 1) (by omega) (by omega)]
      have step:∀ read,read=x.f1 + (if (acc.length:Int)=ship then more else 0) → 
          ((spec_l06Due.f k line acc (acc.length:Int) read).bind fun bt=>(if acc.length < 4398046511104 then (spec_l06Times.l0 k line ship more (acc ++ [(⟨bt.1,bt.2.1,bt.2.2.1,bt.2.2.2⟩:Tm)]) ((acc.length:Int) + 1)) else none))=some (timesGo ship more (x :: xs) acc):=by
        intro read hread
        rw [due_eq k line acc acc.length read hlt rfl (by omega) hok (by rw [hx0]; exact hx x hmem) (by rw [hread]; exact hr') (by omega)]
        simp only [Option.bind_some]
        rw [if_pos (by omega),hx0]
        have h2:=ih k (acc ++ [dueL acc x read]) (by simpa using hxs) (due_ok hok ⟨s4,s5⟩ (by rw [hread]; exact hr')) (by simp; omega) (by omega)
        rw [show ((acc ++ [dueL acc x read]).length:Int)=(acc.length:Int) + 1 by simp] at h2
        simp only [tup,timesGo]
        rw [← hread]
        exact h2
      by_cases c:(acc.length:Int)=ship
      · rw [if_pos c]
        rw [if_pos c] at hr'
        rw [w64 (n:=x.f1 + more) (by omega) (by omega)]
        exact step _ (by rw [if_pos c])
      · rw [if_neg c]
        exact step _ (by rw [if_neg c,Int.add_zero])
  exact go line k [] rfl TimesOK.nil (by simp) (by omega)
end Go.Proofs.Ytcajnbkbdbkpgac.G.Pure
end

section
namespace Go.Proofs.Ytcajnbkbdbkpgac.G.Pure
open Go.RowKit Go.Proofs.Ytcajnbkbdbkpgac.G Go.Proofs.YtcajnbkbdbkpgacW.PrintWords Go.Proofs.YtcajnbkbdbkpgacW.PrintLast Go.Proofs.YtcajnbkbdbkpgacW.PrintMore
set_option linter.unusedVariables false
set_option linter.unusedSimpArgs false
theorem implInner (k:Nat) (acc:List Tm) (line:List Sp) (x:Sp) (i a:Nat) (len x12:Int) (hi:acc.length=i) (h20:i < 20) (h1i:0 < i) (hok:TimesOK acc) (hx:shipIn x) (ha:a≤i) :
  ∀ d n,a + n + d=i→impl_times.l1 (k + d + 1) acc (i:Int) ((a + n:Nat):Int) line len x12 x.f0 x.f1 x.f2 (scan acc a n).1 (scan acc a n).2 (-1) (-1) =
   impl_times.l1 (k + 1) acc (i:Int) (i:Int) line len x12 x.f0 x.f1 x.f2 (scan acc a (i - a)).1 (scan acc a (i - a)).2 (-1) (-1):=by
 intro d
 induction d with
 | zero =>
  intro n hn
  rw [show i - a=n by omega,show a + n=i by omega]
 | succ d ih =>
  intro n hn
  have hql:a + n < acc.length:=by omega
  have hb:=hok.bound (a + n) _ (List.getElem?_eq_getElem hql)
  have hsc:=scan_spec acc hok a n (by omega)
  rw [← ih (n + 1) (by omega)]
  rw [show k + (d + 1) + 1=(k + d + 1) + 1 by omega]
  conv=>lhs;unfold impl_times.l1
  rw [if_pos (by omega),if_pos (by omega),if_pos (by omega),rd_impl_Times hql,w64 (n:=((a + n:Nat):Int) + 1) (by omega) (by omega),i8w (n:=((a + n:Nat):Int)) (by omega) (by omega)]
  rw [show ((a + (n + 1):Nat):Int)=((a + n:Nat):Int) + 1 by omega]
  have hs1:scan acc a (n + 1)=if 0≤acc[a + n].f3∧((scan acc a n).1 < 0∨acc[a + n].f3 < (scan acc a n).2) then (((a + n:Nat):Int),acc[a + n].f3) else scan acc a n:=by
   rcases hs:scan acc a n with ⟨f,s⟩
   simp only [scan,hs,List.getElem?_eq_getElem hql]
  rw [hs1]
  have hneg:(scan acc a n).1 < 0 ↔ (scan acc a n).2 < 0:=by
   rcases hsc with h|h
   ·rw [h]
   ·omega
  by_cases c1:0≤acc[a + n].f3
  ·rw [if_pos (by omega)]
   by_cases c2:(scan acc a n).2 < 0
   ·rw [if_pos c2,if_pos ⟨c1,.inl (hneg.2 c2)⟩]
   ·rw [if_neg c2]
    by_cases c3:acc[a + n].f3 < (scan acc a n).2
    ·rw [if_pos c3,if_pos ⟨c1,.inr c3⟩]
    ·rw [if_neg c3,if_neg (fun h=>h.2.elim (fun h=>c2 (hneg.1 h)) c3)]
  ·rw [if_neg (by omega),if_neg (fun h=>c1 h.1)]
theorem implRound (k:Nat) (acc:List Tm) (line:List Sp) (x:Sp) (hlt:acc.length < line.length) (h20:line.length≤20) (hx0:line[acc.length]=x) (hok:TimesOK acc) (hx:shipIn x) :
  impl_times.l0 (k + (acc.length - (acc.length - x.f0.toNat)) + 3) acc line (line.length:Int) (acc.length:Int)=impl_times.l0 k (acc ++ [dueL acc x x.f1]) line (line.length:Int) ((acc.length:Int) + 1):=by
 obtain ⟨s0,s1,s2,s3,s4,s5⟩:=hx
 have hxx:shipIn x:=⟨s0,s1,s2,s3,s4,s5⟩
 rcases Nat.eq_zero_or_pos acc.length with h0|h0
 ·rw [show k + (acc.length - (acc.length - x.f0.toNat)) + 3=k + 3 by omega]
  conv=>lhs;unfold impl_times.l0
  rw [if_pos (by omega),if_pos (by omega),if_pos (by omega),if_pos (by omega),rd_impl_Ship hlt,hx0]
  conv=>lhs;unfold impl_times.j1
  rw [w64 (n:=x.f0) (by omega) (by omega),w64 (by omega) (by omega)]
  rw [show mx ((acc.length:Int) - x.f0) 0=(acc.length:Int) by unfold mx;split <;> omega]
  conv=>lhs;unfold impl_times.l1
  rw [if_neg (by omega),if_pos (by omega),if_pos (by omega),if_pos (by omega),w64 (n:=x.f2) (by omega) (by omega),w64 (n:=x.f2) (by omega) (by omega),w64 (n:=(acc.length:Int) + 1) (by omega) (by omega)]
  simp [dueL,h0]
 ·obtain ⟨a,ha⟩:∃ a,a=acc.length - x.f0.toNat:=⟨_,rfl⟩
  rw [← ha]
  conv=>lhs;unfold impl_times.l0
  rw [if_pos (by omega),if_pos (by omega),if_pos (by omega),if_neg (by omega),rd_impl_Ship hlt,hx0]
  conv=>lhs;unfold impl_times.j1
  rw [w64 (n:=x.f0) (by omega) (by omega),w64 (n:=(acc.length:Int) - x.f0) (by omega) (by omega)]
  rw [show mx ((acc.length:Int) - x.f0) 0=((a + 0:Nat):Int) by unfold mx;split <;> omega]
  have h1:=implInner k acc line x acc.length a (line.length:Int) (acc.length:Int) rfl (by omega) h0 hok hxx (by omega) (acc.length - a) 0 (by omega)
  simp only [scan] at h1
  rw [h1]
  have hsc:=scan_spec acc hok a (acc.length - a) (by omega)
  have hd:dueL acc x x.f1=if 0≤(scan acc a (acc.length - a)).1 then ⟨(scan acc a (acc.length - a)).1,(scan acc a (acc.length - a)).2,(scan acc a (acc.length - a)).2 + x.f1,(scan acc a (acc.length - a)).2 + x.f1 + x.f2⟩ else ⟨-1,-1,-1,-1⟩:=by
   unfold dueL
   rw [if_neg (show ¬ acc.length=0 by omega),← ha]
  rw [hd]
  rcases hsc with h|h
  ·rw [h]
   conv=>lhs;unfold impl_times.l1
   simp only
   rw [if_neg (by omega),if_neg (by omega),if_pos (by omega),if_neg (by omega),w64 (by omega) (by omega)]
  ·conv=>lhs;unfold impl_times.l1
   rw [if_neg (by omega),if_pos (by omega),if_neg (by omega),if_pos (by omega),if_pos h.1]
   rw [w64 (n:=x.f1) (by omega) (by omega),w64 (n:=x.f2) (by omega) (by omega),w64 (n:=(scan acc a (acc.length - a)).2 + x.f1) (by omega) (by omega),w64 (n:=(scan acc a (acc.length - a)).2 + x.f1 + x.f2) (by omega) (by omega),w64 (n:=(acc.length:Int) + 1) (by omega) (by omega)]
theorem timesGo_plain (xs:List Sp) (acc:List Tm):∀ x,timesGo (-1) 0 (x :: xs) acc=timesGo (-1) 0 xs (acc ++ [dueL acc x x.f1]):=by
 intro x
 simp only [timesGo]
 rw [if_neg (by omega),Int.add_zero]
theorem implTimes_eq (k:Nat) (line:List Sp) (hl:line.length≤20) (hx:∀ x∈line,shipIn x) (hk:200 < k):impl_times.f k line=some (timesL (-1) 0 line):=by
 have go:∀ (rest:List Sp) (k:Nat) (acc:List Tm),line.drop acc.length=rest→TimesOK acc→acc.length≤line.length→9 * rest.length < k→impl_times.l0 k acc line (line.length:Int) (acc.length:Int)=some (timesGo (-1) 0 rest acc):=by
  intro rest
  induction rest with
  | nil =>
   intro k acc hd hok hle hk
   obtain ⟨k,rfl⟩:∃ m,k=m + 1:=⟨k - 1,by omega⟩
   have:=List.drop_eq_nil_iff.1 hd
   unfold impl_times.l0
   rw [if_neg (by omega)]
   rfl
  | cons x xs ih =>
   intro k acc hd hok hle hk
   simp only [List.length_cons] at hk
   have hlt:acc.length < line.length:=by
    have:=congrArg List.length hd
    simp at this
    omega
   have hx0:line[acc.length]=x:=by
    have h1:=List.drop_eq_getElem_cons hlt
    rw [hd] at h1
    exact (List.cons.inj h1).1.symm
   have hxs:line.drop (acc.length + 1)=xs:=by
    have h1:=List.drop_eq_getElem_cons hlt
    rw [hd] at h1
    exact (List.cons.inj h1).2.symm
   have hmem:x∈line:=hx0 ▸ List.getElem_mem hlt
   have hxx:=hx x hmem
   obtain ⟨s0,s1,s2,s3,s4,s5⟩:=hxx
   obtain ⟨m,rfl,hm⟩:∃ m,k=m + (acc.length - (acc.length - x.f0.toNat)) + 3∧9 * xs.length < m:=⟨k - (acc.length - (acc.length - x.f0.toNat)) - 3,by omega,by omega⟩
   rw [implRound m acc line x hlt hl hx0 hok (hx x hmem),timesGo_plain]
   have h2:=ih m (acc ++ [dueL acc x x.f1]) (by simpa using hxs) (due_ok hok ⟨s4,s5⟩ ⟨s2,s3⟩) (by simp;omega) hm
   rw [show ((acc ++ [dueL acc x x.f1]).length:Int)=(acc.length:Int) + 1 by simp] at h2
   exact h2
 unfold impl_times.f
 exact go line k [] rfl TimesOK.nil (by simp) (by omega)
end Go.Proofs.Ytcajnbkbdbkpgac.G.Pure
end

section
namespace Go.Proofs.Ytcajnbkbdbkpgac.G.Pure
open Go.RowKit Go.Proofs.Ytcajnbkbdbkpgac.G Go.Proofs.YtcajnbkbdbkpgacW.PrintWords Go.Proofs.YtcajnbkbdbkpgacW.PrintLast Go.Proofs.YtcajnbkbdbkpgacW.PrintMore
set_option linter.unusedVariables false
set_option linter.unusedSimpArgs false
theorem ValidL.specTimes {line:List Sp} (v:ValidL line) {k:Nat} (hk:300 < k):spec_l06Times.f k line (-1) 0=some (timesL (-1) 0 line) :=
 specTimes_eq k line (-1) 0 v.most v.in_ (fun i x hx=>by
  have:=v.ships x (List.mem_of_getElem? hx)
  rw [if_neg (by omega)]
  omega) ⟨by omega,by omega⟩ (by omega)
theorem ValidL.implTimes {line:List Sp} (v:ValidL line) {k:Nat} (hk:300 < k):impl_times.f k line=some (timesL (-1) 0 line) :=
 implTimes_eq k line v.most v.in_ (by omega)
theorem ValidL.timesOK {line:List Sp} (v:ValidL line):TimesOK (timesL (-1) 0 line) :=
 timesGo_ok (-1) 0 line [] TimesOK.nil (fun x hx=>by have:=v.ships x hx;omega) (fun i x hx=>by
  have:=v.ships x (List.mem_of_getElem? hx)
  rw [if_neg (by simp only [List.length_nil];omega)]
  omega)
theorem TimesOK.sign {ts:List Tm} (h:TimesOK ts) {i:Nat} {t:Tm} (ht:ts[i]?=some t):(t.f3 < 0 ↔ t.f2 < 0)∧(t.f3 < 0 ↔ t.f0 < 0∧0 < i):=by
 have hb:=h.bound i t ht
 rcases Nat.eq_zero_or_pos i with h0|h0
 ·subst h0
  have:=h.first t ht
  omega
 ·rcases h.later i t ht h0 with rfl|h1
  ·exact ⟨⟨fun _=>by decide,fun _=>by decide⟩,⟨fun _=>⟨by decide,h0⟩,fun _=>by decide⟩⟩
  ·omega
end Go.Proofs.Ytcajnbkbdbkpgac.G.Pure
end

section
namespace Go.Proofs.Ytcajnbkbdbkpgac.G.Pure
open Go.RowKit Go.Proofs.Ytcajnbkbdbkpgac.G Go.Proofs.YtcajnbkbdbkpgacW.PrintWords Go.Proofs.YtcajnbkbdbkpgacW.PrintLast Go.Proofs.YtcajnbkbdbkpgacW.PrintMore
set_option linter.unusedVariables false
set_option linter.unusedSimpArgs false
def wfF (l:List Ft):Prop:=∀ x∈l,(Lit.int .i8 x.f0).wf=true∧(Lit.int .i8 x.f1).wf=true∧(Lit.int .i8 x.f2).wf=true
def faultOk (n:Nat) (h:List Int) (f:Ft):Bool:=decide (1≤f.f0∧f.f0≤(n:Int) - 1) && (decide (0≤f.f1∧f.f1≤(h.length:Int) - 1) && (decide (0≤f.f2∧f.f2≤39) && decide (0≤rd h f.f1)))
def dupF (l:List Ft) (i:Nat):Bool:=(l.take i).any fun g=>g.f0 == (rd_T51 l (i:Int)).f0
def badF (n:Nat) (h:List Int) (l:List Ft) (i:Nat):Bool:=dupF l i || !faultOk n h (rd_T51 l (i:Int))
def faultsOk (n:Nat) (h:List Int) (l:List Ft):Bool:=decide (l.length≤20) && (List.range l.length).all fun i=>!badF n h l i
theorem wfF_at {l:List Ft} (hw:wfF l) {i:Nat} (hi:i < l.length):-128≤(rd_T51 l (i:Int)).f0∧(rd_T51 l (i:Int)).f0≤127∧-128≤(rd_T51 l (i:Int)).f1∧(rd_T51 l (i:Int)).f1≤127∧-128≤(rd_T51 l (i:Int)).f2∧(rd_T51 l (i:Int)).f2≤127:=by
 rw [rd_impl_Fault hi]
 have:=hw _ (List.getElem_mem hi)
 have a:=i8b this.1
 have b:=i8b this.2.1
 have c:=i8b this.2.2
 omega
theorem faultsOk_false {n:Nat} {h:List Int} {l:List Ft} {i:Nat} (hi:i < l.length) (hb:badF n h l i=true):faultsOk n h l=false:=by
 unfold faultsOk
 rw [Bool.and_eq_false_iff]
 right
 rw [List.all_eq_false]
 exact ⟨i,List.mem_range.2 hi,by simp [hb]⟩
theorem faultsOk_end {n:Nat} {h:List Int} {l:List Ft} (hb:∀ j,j < l.length→badF n h l j=false):faultsOk n h l=decide (l.length≤20):=by
 unfold faultsOk
 rw [List.all_eq_true.2 fun j hj=>by rw [hb j (List.mem_range.1 hj)];rfl,Bool.and_true]
set_option maxHeartbeats 1000000 in
theorem implAre {k:Nat} {line:List Sp} {h:List Int} {l:List Ft} (hw:wfF l) (hn:line.length≤1048576) (hh:h.length≤1048576) (hl:l.length≤1048576) (hk:l.length < k):impl_areFaults.f k line h l=some (faultsOk line.length h l):=by
 unfold impl_areFaults.f
 obtain ⟨r,hr,h'⟩:=loop_inv (fun k (s:Int)=>impl_areFaults.l0 k line h l l (l.length:Int) s) l.length (fun i s=>s=(i:Int)∧∀ j,j < i→badF line.length h l j=false) (fun r=>r=faultsOk line.length h l)
  (fun k i s hi ⟨h1,h2⟩=>by
   subst h1
   have hb:=wfF_at hw hi
   simp only [impl_areFaults.l0]
   rw [if_pos (by omega),if_pos (by omega),if_pos (by omega),if_pos (by omega),Int.toNat_natCast]
   rw [slices_ContainsFunc_Fault_Fault__impl_areFaults_1.f,anyO_eq (p:=fun x:Ft=>impl_areFaults_1.f x.f0 x.f1 x.f2 (rd_T51 l (i:Int)).f0 (rd_T51 l (i:Int)).f1 (rd_T51 l (i:Int)).f2) (q:=fun x:Ft=>x.f0 == (rd_T51 l (i:Int)).f0) (fun x _=>rfl)]
   simp only [Option.bind_some]
   have hst:badF line.length h l i=true→false=faultsOk line.length h l:=fun hb=>(faultsOk_false hi hb).symm
   have hgo:badF line.length h l i=false→∃ s':Int,(s'=((i + 1:Nat):Int)∧∀ j,j < i + 1→badF line.length h l j=false)∧impl_areFaults.l0 k line h l l (l.length:Int) ((i:Int) + 1)=impl_areFaults.l0 k line h l l (l.length:Int) s':=fun hb=>⟨_,⟨rfl,fun j hj=>by
    rcases Nat.lt_succ_iff_lt_or_eq.1 hj with e|e
    ·exact h2 j e
    ·subst e;exact hb⟩,by rw [show ((i + 1:Nat):Int)=(i:Int) + 1 by omega]⟩
   have hd:((l.take i).any fun g=>g.f0 == (rd_T51 l (i:Int)).f0)=dupF l i:=rfl
   rw [hd]
   unfold badF at hst hgo
   cases hdu:dupF l i with
   | true =>
    rw [if_pos rfl]
    exact .inr ⟨false,hst (by rw [hdu];rfl),rfl⟩
   | false =>
    rw [hdu,Bool.false_or] at hst hgo
    rw [if_neg (by simp)]
    generalize rd_T51 l (i:Int)=f at *
    simp only [impl_size_Ship.f,impl_size_int8.f,Option.bind_some,within8]
    rw [w64 (n:=f.f0) (by omega) (by omega),w64 (n:=f.f1) (by omega) (by omega),w64 (n:=(line.length:Int) - 1) (by omega) (by omega),w64 (n:=(h.length:Int) - 1) (by omega) (by omega),kind_eq _ (by omega) (by omega),w64 (n:=(i:Int) + 1) (by omega) (by omega)]
    simp only [Option.bind_some]
    unfold faultOk at hst hgo
    by_cases c1:1≤f.f0∧f.f0≤(line.length:Int) - 1
    ·rw [decide_eq_true c1,Bool.true_and] at hst hgo
     rw [if_pos (by simp [c1])]
     by_cases c2:0≤f.f1∧f.f1≤(h.length:Int) - 1
     ·rw [decide_eq_true c2,Bool.true_and] at hst hgo
      rw [if_pos (by simp [c2]),if_pos c2.1,if_pos (by omega)]
      by_cases c4:rd h f.f1 < 0
      ·rw [if_pos c4]
       exact .inr ⟨false,hst (by rw [decide_eq_false (p:=0≤rd h f.f1) (by omega),Bool.and_false];rfl),rfl⟩
      ·rw [if_neg c4]
       rw [decide_eq_true (p:=0≤rd h f.f1) (by omega),Bool.and_true] at hst hgo
       by_cases c3:0≤f.f2∧f.f2≤39
       ·rw [if_pos (by simp [c3])]
        exact .inl (hgo (by simp [c3]))
       ·rw [if_neg (by simpa using c3)]
        exact .inr ⟨false,hst (by rw [decide_eq_false c3];rfl),rfl⟩
     ·rw [if_neg (by simpa using c2)]
      exact .inr ⟨false,hst (by rw [decide_eq_false c2];rfl),rfl⟩
    ·rw [if_neg (by simpa using c1)]
     exact .inr ⟨false,hst (by rw [decide_eq_false c1];rfl),rfl⟩)
  (fun k s ⟨h1,h2⟩=>by
   subst h1
   refine ⟨_,rfl,?_⟩
   simp only [impl_areFaults.l0]
   rw [if_neg (by omega),faultsOk_end h2]
   congr 1
   rw [decide_eq_decide]
   omega) k 0 ⟨rfl,fun j h=>absurd h (Nat.not_lt_zero _)⟩ hk
 subst hr
 exact h'
theorem specDup {line:List Sp} {h:List Int} {l:List Ft} {i:Nat} (hi:i < l.length) (hl:l.length≤20) (K:Nat) (b c:Int):∀ d j,j + d=i→((∀ x,x < j→(rd_T51 l (x:Int)).f0≠(rd_T51 l (i:Int)).f0)→spec_l06Faults.l1 (K + d + 1) line h l (i:Int) (j:Int) (rd_T51 l (i:Int)).f0 b c=if dupF l i=true then some false else spec_l06Faults.l0 K line h l ((i:Int) + 1)):=by
 intro d
 induction d with
 | zero =>
  intro j hj hx
  obtain rfl:j=i:=by omega
  simp only [spec_l06Faults.l1,Nat.add_zero]
  rw [if_neg (by omega),w64 (by omega) (by omega),if_neg]
  intro hd
  unfold dupF at hd
  obtain ⟨g,hg,he⟩:=List.any_eq_true.1 hd
  obtain ⟨x,hx1,rfl⟩:=List.mem_iff_getElem.1 hg
  rw [List.length_take] at hx1
  rw [List.getElem_take] at he
  have:=hx x (by omega)
  rw [rd_impl_Fault (by omega:x < l.length)] at this
  exact this (by simpa using he)
 | succ d ih =>
  intro j hj hx
  have hjl:j < l.length:=by omega
  rw [show K + (d + 1) + 1=(K + d + 1) + 1 by omega]
  generalize hK:K + d + 1=K1
  simp only [spec_l06Faults.l1]
  rw [if_pos (by omega),if_pos (by omega),if_pos (by omega),w64 (by omega) (by omega)]
  by_cases he:(rd_T51 l (j:Int)).f0=(rd_T51 l (i:Int)).f0
  ·rw [if_pos he,if_pos]
   unfold dupF
   rw [List.any_eq_true]
   refine ⟨l[j],?_,?_⟩
   ·rw [List.mem_iff_getElem]
    exact ⟨j,by rw [List.length_take];omega,by rw [List.getElem_take]⟩
   ·rw [rd_impl_Fault hjl] at he
    simpa using he
  ·rw [if_neg he,← hK]
   have e:=ih (j + 1) (by omega) (fun x hx'=>by
    rcases Nat.lt_succ_iff_lt_or_eq.1 hx' with e|e
    ·exact hx x e
    ·subst e;exact he)
   rw [show ((j + 1:Nat):Int)=(j:Int) + 1 by omega] at e
   exact e
set_option maxHeartbeats 1000000 in
theorem specAre_all {line:List Sp} {h:List Int} {l:List Ft} (hw:wfF l) (hn:line.length≤1048576) (hh:h.length≤1048576) (hl:l.length≤20):∀ d i K,i + d=l.length→(∀ j,j < i→badF line.length h l j=false)→d * 30 + 1≤K→spec_l06Faults.l0 K line h l (i:Int)=some (faultsOk line.length h l):=by
 intro d
 induction d with
 | zero =>
  intro i K hi hb hK
  obtain ⟨K,rfl⟩:∃ m,K=m + 1:=⟨K - 1,by omega⟩
  obtain rfl:i=l.length:=by omega
  simp only [spec_l06Faults.l0]
  rw [if_neg (by omega),faultsOk_end hb,decide_eq_true hl]
 | succ d ih =>
  intro i K hi hb hK
  have hil:i < l.length:=by omega
  have hwb:=wfF_at hw hil
  simp only [Nat.succ_mul] at hK
  obtain ⟨K,rfl⟩:∃ m,K=(m + i + 1) + 1 + 1:=⟨K - i - 3,by omega⟩
  have hgo:=fun (hbad:badF line.length h l i=false)=>ih (i + 1) K (by omega) (fun j hj=>by
   rcases Nat.lt_succ_iff_lt_or_eq.1 hj with e|e
   ·exact hb j e
   ·subst e;exact hbad) (by omega)
  rw [show ((i + 1:Nat):Int)=(i:Int) + 1 by omega] at hgo
  have hst:badF line.length h l i=true→faultsOk line.length h l=false:=fun hbad=>faultsOk_false hil hbad
  have hd:=fun b c=>specDup (line:=line) (h:=h) (l:=l) hil hl K b c i 0 (by omega) (fun x hx=>absurd hx (Nat.not_lt_zero _))
  rw [show ((0:Nat):Int)=0 from rfl] at hd
  generalize hK2:K + i + 1=K2 at *
  simp only [spec_l06Faults.l0]
  rw [if_pos (by omega),if_pos (by omega),in_eq,in_eq,in_eq]
  simp only [Option.bind_some,spec_l06Faults.j1]
  unfold badF at hst hgo
  generalize hf:rd_T51 l (i:Int)=f at *
  rw [w64 (n:=f.f0) (by omega) (by omega),w64 (n:=f.f1) (by omega) (by omega),w64 (n:=f.f2) (by omega) (by omega),w64 (n:=(line.length:Int) - 1) (by omega) (by omega),w64 (n:=(h.length:Int) - 1) (by omega) (by omega)]
  unfold faultOk at hst hgo
  by_cases c1:1≤f.f0∧f.f0≤(line.length:Int) - 1
  ·rw [decide_eq_true c1,Bool.true_and] at hst hgo
   rw [if_pos (by simp [c1])]
   by_cases c2:0≤f.f1∧f.f1≤(h.length:Int) - 1
   ·rw [decide_eq_true c2,Bool.true_and] at hst hgo
    rw [if_pos (by simp [c2])]
    by_cases c3:0≤f.f2∧f.f2≤39
    ·rw [decide_eq_true c3,Bool.true_and] at hst hgo
     rw [if_pos (by simp [c3]),if_pos c2.1,if_pos (by omega)]
     by_cases c4:rd h f.f1 < 0
     ·rw [decide_eq_true c4,if_pos rfl,hst (by rw [decide_eq_false (p:=0≤rd h f.f1) (by omega),Bool.not_false,Bool.or_true])]
     ·rw [decide_eq_true (p:=0≤rd h f.f1) (by omega),Bool.not_true,Bool.or_false] at hst hgo
      rw [decide_eq_false c4,if_neg (by simp),hd]
      cases hdu:dupF l i with
      | true =>
       rw [if_pos rfl,hst hdu]
      | false =>
       rw [if_neg (by simp)]
       exact hgo hdu
    ·rw [if_neg (by simpa using c3),if_pos trivial,hst (by rw [decide_eq_false c3,Bool.false_and,Bool.not_false,Bool.or_true])]
   ·rw [if_neg (by simpa using c2),if_pos trivial,hst (by rw [decide_eq_false c2,Bool.false_and,Bool.not_false,Bool.or_true])]
  ·rw [if_neg (by simpa using c1),if_pos trivial,hst (by rw [decide_eq_false c1,Bool.false_and,Bool.not_false,Bool.or_true])]
theorem specAre {k:Nat} {line:List Sp} {h:List Int} {l:List Ft} (hw:wfF l) (hn:line.length≤1048576) (hh:h.length≤1048576) (hk:1000 < k):spec_l06Faults.f k line h l=some (faultsOk line.length h l):=by
 unfold spec_l06Faults.f
 by_cases hl:l.length≤20
 ·rw [if_neg (by omega)]
  exact specAre_all hw hn hh hl l.length 0 k (by omega) (fun j hj=>absurd hj (Nat.not_lt_zero _)) (by omega)
 ·rw [if_pos (by omega)]
  unfold faultsOk
  rw [decide_eq_false hl]
  rfl
def codeF (line:List Sp) (h:List Int) (l:List Ft):Int:=if validB line=true∧(meanO h).isSome=true∧faultsOk line.length h l=true then 0 else 1
theorem implCodeF {k:Nat} {line:List Sp} {h:List Int} {l:List Ft} (hwh:wfH h) (hw:wfF l) (hn:line.length≤1048576) (hh:h.length≤1048576) (hl:l.length≤1048576) (hk:2200001 < k):impl_lineCode.f k line h l=some (codeF line h l):=by
 unfold impl_lineCode.f codeF
 rw [implValid_eq,implValidH hwh hh (by omega),implAre hw hn hh hl (by omega)]
 simp only [Option.bind_some]
 cases validB line <;> cases (meanO h).isSome <;> cases faultsOk line.length h l <;> simp [impl_unless.f]
theorem specCodeF {k:Nat} {line:List Sp} {h:List Int} {l:List Ft} (hws:∀ x∈line,wfShip x) (hwh:wfH h) (hw:wfF l) (hn:line.length≤1048576) (hh:h.length≤1048576) (hk:2200001 < k):spec_l06Given.f k line h l=some (codeF line h l):=by
 unfold spec_l06Given.f codeF
 rw [specOk_eq k line hws hn (by omega),specOkH hwh (by omega),specAre hw hn hh (by omega)]
 simp only [Option.bind_some]
 cases validB line <;> cases (meanO h).isSome <;> cases faultsOk line.length h l <;> simp
def layF (i:Nat) (own:List Int) (f:Ft):List Int:=if f.f0=(i:Int) then own.set f.f1.toNat f.f2 else own
def rbGo (h:List Int) (l:List Ft) (ts:List Tm):Nat→Hs
 | 0=>[]
 | n + 1=>rbGo h l ts n ++ [if n=0 then h else if 0≤(rd_T47 ts (n:Int)).f0 then l.foldl (layF n) (rd_L9 (rbGo h l ts n) (rd_T47 ts (n:Int)).f0) else []]
theorem rbGo_len (h:List Int) (l:List Ft) (ts:List Tm):∀ n,(rbGo h l ts n).length=n:=by
 intro n
 induction n with
 | zero=>rfl
 | succ n ih=>rw [rbGo,List.length_append,ih];rfl
theorem layF_len (i:Nat) (l:List Ft):∀ own:List Int,(l.foldl (layF i) own).length=own.length:=by
 induction l with
 | nil=>intro own;rfl
 | cons f l ih =>
  intro own
  rw [List.foldl_cons,ih]
  unfold layF
  split <;> simp
def reachT (ts:List Tm) (j:Nat):Prop:=j=0∨0≤(rd_T47 ts (j:Int)).f0
theorem reach_from {ts:List Tm} (hok:TimesOK ts) {n:Nat} (hn:n < ts.length) (h0:0≤(rd_T47 ts (n:Int)).f0):∃ m:Nat,(rd_T47 ts (n:Int)).f0=(m:Int)∧m < n∧reachT ts m:=by
 rw [rd_impl_Times hn] at h0 ⊢
 have hnp:0 < n:=by
  rcases Nat.eq_zero_or_pos n with e|e
  ·subst e
   have:=hok.first _ (List.getElem?_eq_getElem hn)
   omega
  ·exact e
 rcases hok.later n _ (List.getElem?_eq_getElem hn) hnp with e|⟨h1,h2,h3,u,hu,hu2⟩
 ·rw [e] at h0
  simp only at h0
  omega
 ·refine ⟨ts[n].f0.toNat,by omega,by omega,?_⟩
  have hlt:=(List.getElem?_eq_some_iff.1 hu).1
  rcases Nat.eq_zero_or_pos ts[n].f0.toNat with e|e
  ·exact .inl e
  ·right
   rw [rd_impl_Times hlt]
   rcases hok.later _ u hu e with e2|e2
   ·rw [e2] at hu2
    simp only at hu2
    omega
   ·rw [(List.getElem?_eq_some_iff.1 hu).2]
    exact e2.1
theorem rbGo_get {h:List Int} {l:List Ft} {ts:List Tm} {j:Nat}:∀ n,j < n→rd_L9 (rbGo h l ts n) (j:Int)=rd_L9 (rbGo h l ts (j + 1)) (j:Int):=by
 intro n
 induction n with
 | zero=>intro h;omega
 | succ n ih =>
  intro hj
  rcases Nat.lt_succ_iff_lt_or_eq.1 hj with e|e
  ·rw [← ih e]
   rw [rdH (by rw [rbGo_len];omega),rdH (by rw [rbGo_len];omega)]
   simp only [rbGo]
   rw [List.getElem_append_left]
  ·subst e
   rfl
theorem rb_ok {h:List Int} {l:List Ft} {ts:List Tm} (hok:TimesOK ts) (hwh:wfH h) (hwf:wfF l):∀ n,n≤ts.length→∀ j,j < n→wfH (rd_L9 (rbGo h l ts n) (j:Int))∧(rd_L9 (rbGo h l ts n) (j:Int)).length≤h.length∧(reachT ts j→(rd_L9 (rbGo h l ts n) (j:Int)).length=h.length):=by
 intro n
 induction n with
 | zero=>intro _ j hj;omega
 | succ n ih =>
  intro hn j hj
  rcases Nat.lt_succ_iff_lt_or_eq.1 hj with e|e
  ·have:=ih (by omega) j e
   rw [rbGo_get n e] at this
   rw [rbGo_get (n + 1) hj]
   exact this
  ·subst e
   rw [rdH (by rw [rbGo_len];omega)]
   simp only [rbGo]
   rw [List.getElem_append_right (by rw [rbGo_len];omega)]
   simp only [rbGo_len,Nat.sub_self,List.getElem_cons_zero]
   by_cases h0:j=0
   ·rw [if_pos h0]
    exact ⟨hwh,Nat.le_refl _,fun _=>rfl⟩
   ·rw [if_neg h0]
    by_cases h1:0≤(rd_T47 ts (j:Int)).f0
    ·rw [if_pos h1,layF_len]
     obtain ⟨m,hm,hmj,hr⟩:=reach_from hok (by omega:j < ts.length) h1
     rw [hm]
     obtain ⟨w,le,eq⟩:=ih (by omega) m hmj
     refine ⟨?_,le,fun _=>eq hr⟩
     generalize rd_L9 (rbGo h l ts j) (m:Int)=own at w
     clear hm hr le eq ih h0 h1 hj hn
     induction l generalizing own with
     | nil=>exact w
     | cons f l ih2 =>
      rw [List.foldl_cons]
      refine ih2 (fun x hx=>hwf x (by simp [hx])) _ ?_
      unfold layF
      split
      ·intro x hx
       rcases List.mem_or_eq_of_mem_set hx with h|h
       ·exact w x h
       ·rw [h]
        exact (hwf f (by simp)).2.2
      ·exact w
    ·rw [if_neg h1]
     exact ⟨fun x hx=>by simp at hx,by simp,fun hr=>hr.elim (fun e=>absurd e h0) (fun e=>absurd e h1)⟩
def fitF (h:List Int) (l:List Ft):Prop:=∀ f∈l,0≤f.f1∧f.f1 < (h.length:Int)
theorem fit_of {n:Nat} {h:List Int} {l:List Ft} (hf:faultsOk n h l=true):fitF h l∧l.length≤20:=by
 unfold faultsOk at hf
 simp only [Bool.and_eq_true,decide_eq_true_eq] at hf
 refine ⟨fun f hfm=>?_,hf.1⟩
 obtain ⟨i,hi,rfl⟩:=List.mem_iff_getElem.1 hfm
 have:=List.all_eq_true.1 hf.2 i (List.mem_range.2 hi)
 unfold badF at this
 rw [rd_impl_Fault hi] at this
 simp only [faultOk,Bool.not_or,Bool.not_not,Bool.and_eq_true,decide_eq_true_eq] at this
 omega
theorem implLay {h:List Int} {l:List Ft} {ts:List Tm} {out:Hs} (hwf:wfF l) (hfit:fitF h l) (hl:l.length≤20) (hout:out.length≤20) {i:Nat} (hi20:i≤20) (K:Nat):∀ d j (own:List Int),j + d=l.length→own.length=h.length →
  impl_readBy.l1 (K + d + 1) h l out (i:Int) own ts (ts.length:Int) (i:Int) l (l.length:Int) (j:Int)=impl_readBy.l0 K h l (out ++ [(l.drop j).foldl (layF i) own]) ts (ts.length:Int) ((i:Int) + 1):=by
 intro d
 induction d with
 | zero =>
  intro j own hj ho
  obtain rfl:j=l.length:=by omega
  simp only [impl_readBy.l1,Nat.add_zero]
  rw [if_neg (by omega),if_pos (by omega),List.drop_of_length_le (Nat.le_refl _),w64 (by omega) (by omega)]
  rfl
 | succ d ih =>
  intro j own hj ho
  have hjl:j < l.length:=by omega
  have hwb:=wfF_at hwf hjl
  have hfb:=hfit _ (List.getElem_mem hjl)
  rw [show K + (d + 1) + 1=(K + d + 1) + 1 by omega,List.drop_eq_getElem_cons hjl,List.foldl_cons]
  have e:=ih (j + 1) (layF i own l[j]) (by omega) (by unfold layF;split <;> simp [ho])
  rw [← e]
  generalize K + d + 1=K1
  simp only [impl_readBy.l1]
  rw [if_pos (by omega),if_pos (by omega),if_pos (by omega),w64 (by omega) (by omega),w64 (by omega) (by omega)]
  rw [rd_impl_Fault hjl] at hwb ⊢
  rw [show ((j + 1:Nat):Int)=(j:Int) + 1 by omega]
  unfold layF
  by_cases hs:l[j].f0=(i:Int)
  ·rw [if_pos hs,if_pos hfb.1,if_pos (by omega),if_pos hs]
  ·rw [if_neg hs,if_neg hs]
theorem specLay {h:List Int} {l:List Ft} {ts:List Tm} {out:Hs} (hwf:wfF l) (hfit:fitF h l) (hl:l.length≤20) (hout:out.length≤20) {i:Nat} (hi20:i≤20) (K:Nat):∀ d j (own:List Int),j + d=l.length→own.length=h.length →
  spec_l06Read.l1 (K + d + 1) l ts out (i:Int) own (j:Int)=spec_l06Read.l0 K l ts (out ++ [(l.drop j).foldl (layF i) own]) ((i:Int) + 1):=by
 intro d
 induction d with
 | zero =>
  intro j own hj ho
  obtain rfl:j=l.length:=by omega
  simp only [spec_l06Read.l1,Nat.add_zero]
  rw [if_neg (by omega),if_pos (by omega),List.drop_of_length_le (Nat.le_refl _),w64 (by omega) (by omega)]
  rfl
 | succ d ih =>
  intro j own hj ho
  have hjl:j < l.length:=by omega
  have hwb:=wfF_at hwf hjl
  have hfb:=hfit _ (List.getElem_mem hjl)
  rw [show K + (d + 1) + 1=(K + d + 1) + 1 by omega,List.drop_eq_getElem_cons hjl,List.foldl_cons]
  have e:=ih (j + 1) (layF i own l[j]) (by omega) (by unfold layF;split <;> simp [ho])
  rw [← e]
  generalize K + d + 1=K1
  simp only [spec_l06Read.l1]
  rw [if_pos (by omega),if_pos (by omega),w64 (by omega) (by omega),w64 (by omega) (by omega)]
  rw [rd_impl_Fault hjl] at hwb ⊢
  rw [show ((j + 1:Nat):Int)=(j:Int) + 1 by omega]
  unfold layF
  by_cases hs:l[j].f0=(i:Int)
  ·rw [if_pos hs,if_pos hfb.1,if_pos (by omega),if_pos hs]
  ·rw [if_neg hs,if_neg hs]
theorem implRead_all {h:List Int} {l:List Ft} {ts:List Tm} (hok:TimesOK ts) (hwh:wfH h) (hwf:wfF l) (hfit:fitF h l) (hl:l.length≤20) (hts:ts.length≤20) (hh:h.length≤1048576):∀ d i K,i + d=ts.length→d * 22 + 1≤K→impl_readBy.l0 K h l (rbGo h l ts i) ts (ts.length:Int) (i:Int)=some (rbGo h l ts ts.length):=by
 intro d
 induction d with
 | zero =>
  intro i K hi hK
  obtain ⟨K,rfl⟩:∃ m,K=m + 1:=⟨K - 1,by omega⟩
  obtain rfl:i=ts.length:=by omega
  simp only [impl_readBy.l0]
  rw [if_neg (by omega)]
 | succ d ih =>
  intro i K hi hK
  have hil:i < ts.length:=by omega
  have hlen:=rbGo_len h l ts i
  simp only [Nat.succ_mul] at hK
  by_cases h0:i=0
  ·subst h0
   obtain ⟨K,rfl⟩:∃ m,K=m + 1:=⟨K - 1,by omega⟩
   have e:=ih 1 K (by omega) (by omega)
   rw [rbGo,if_pos rfl,show ((1:Nat):Int)=0 + 1 from rfl] at e
   rw [show ((0:Nat):Int)=0 from rfl]
   simp only [impl_readBy.l0]
   rw [if_pos (by omega),if_pos (by omega),if_pos (by omega),if_pos trivial,slices_Clone_Hoist_int8.f,if_pos (by omega)]
   simp only [Option.bind_some]
   rw [if_pos (by omega),w64 (by omega) (by omega)]
   exact e
  ·by_cases h1:0≤(rd_T47 ts (i:Int)).f0
   ·obtain ⟨m,hm,hmi,hr⟩:=reach_from hok hil h1
    obtain ⟨w,le,eq⟩:=rb_ok hok hwh hwf i (by omega) m hmi
    obtain ⟨K,rfl⟩:∃ q,K=(q + l.length + 1) + 1:=⟨K - l.length - 2,by omega⟩
    have e:=ih (i + 1) K (by omega) (by omega)
    rw [rbGo,if_neg h0,if_pos h1,hm,show ((i + 1:Nat):Int)=(i:Int) + 1 by omega] at e
    have e2:=implLay (ts:=ts) (out:=rbGo h l ts i) (h:=h) hwf hfit hl (by omega) (by omega:i≤20) K l.length 0 (rd_L9 (rbGo h l ts i) (m:Int)) (by omega) (eq hr)
    rw [List.drop_zero] at e2
    rw [← e,← e2,show ((0:Nat):Int)=0 from rfl]
    generalize K + l.length + 1=K1
    simp only [impl_readBy.l0]
    rw [if_pos (by omega),if_pos (by omega),if_pos (by omega),if_neg (by omega),if_pos h1,if_pos h1,if_pos (by omega),hm,slices_Clone_Hoist_int8.f,if_pos (by omega)]
    rfl
   ·obtain ⟨K,rfl⟩:∃ m,K=m + 1:=⟨K - 1,by omega⟩
    have e:=ih (i + 1) K (by omega) (by omega)
    rw [rbGo,if_neg h0,if_neg h1,show ((i + 1:Nat):Int)=(i:Int) + 1 by omega] at e
    simp only [impl_readBy.l0]
    rw [if_pos (by omega),if_pos (by omega),if_pos (by omega),if_neg (by omega),if_neg h1,if_pos (by omega),w64 (by omega) (by omega)]
    exact e
theorem specRead_all {h:List Int} {l:List Ft} {ts:List Tm} (hok:TimesOK ts) (hwh:wfH h) (hwf:wfF l) (hfit:fitF h l) (hl:l.length≤20) (hts:ts.length≤20) (hh:h.length≤1048576):∀ d i K,0 < i→i + d=ts.length→d * 22 + 1≤K→spec_l06Read.l0 K l ts (rbGo h l ts i) (i:Int)=some (rbGo h l ts ts.length):=by
 intro d
 induction d with
 | zero =>
  intro i K hp hi hK
  obtain ⟨K,rfl⟩:∃ m,K=m + 1:=⟨K - 1,by omega⟩
  obtain rfl:i=ts.length:=by omega
  simp only [spec_l06Read.l0]
  rw [if_neg (by omega)]
 | succ d ih =>
  intro i K hp hi hK
  have hil:i < ts.length:=by omega
  have hlen:=rbGo_len h l ts i
  have h0:i≠0:=by omega
  simp only [Nat.succ_mul] at hK
  by_cases h1:0≤(rd_T47 ts (i:Int)).f0
  ·obtain ⟨m,hm,hmi,hr⟩:=reach_from hok hil h1
   obtain ⟨w,le,eq⟩:=rb_ok hok hwh hwf i (by omega) m hmi
   obtain ⟨K,rfl⟩:∃ q,K=(q + l.length + 1) + 1:=⟨K - l.length - 2,by omega⟩
   have e:=ih (i + 1) K (by omega) (by omega) (by omega)
   rw [rbGo,if_neg h0,if_pos h1,hm,show ((i + 1:Nat):Int)=(i:Int) + 1 by omega] at e
   have e2:=specLay (ts:=ts) (out:=rbGo h l ts i) (h:=h) hwf hfit hl (by omega) (by omega:i≤20) K l.length 0 (rd_L9 (rbGo h l ts i) (m:Int)) (by omega) (eq hr)
   rw [List.drop_zero] at e2
   rw [← e,← e2,show ((0:Nat):Int)=0 from rfl]
   generalize K + l.length + 1=K1
   simp only [spec_l06Read.l0]
   rw [if_pos (by omega)]
   simp only [Option.bind_some]
   rw [if_pos (by omega),if_pos h1,if_pos h1,if_pos (by omega),hm,if_pos (by simp only [List.length_nil];omega),List.nil_append]
  ·obtain ⟨K,rfl⟩:∃ m,K=m + 1:=⟨K - 1,by omega⟩
   have e:=ih (i + 1) K (by omega) (by omega) (by omega)
   rw [rbGo,if_neg h0,if_neg h1,show ((i + 1:Nat):Int)=(i:Int) + 1 by omega] at e
   simp only [spec_l06Read.l0]
   rw [if_pos (by omega)]
   simp only [Option.bind_some]
   rw [if_pos (by omega),if_neg h1,if_pos (by omega),w64 (by omega) (by omega)]
   exact e
def readL (line:List Sp) (h:List Int) (l:List Ft):Hs:=rbGo h l (timesL (-1) 0 line) line.length
theorem implReadL {k:Nat} {line:List Sp} {h:List Int} {l:List Ft} (v:ValidL line) (hwh:wfH h) (hwf:wfF l) (hf:faultsOk line.length h l=true) (hh:h.length≤1048576) (hk:1000 < k):impl_readBy.f k line h l=some (readL line h l):=by
 obtain ⟨hfit,hl⟩:=fit_of hf
 unfold impl_readBy.f
 rw [v.implTimes (by omega)]
 simp only [Option.bind_some]
 have ht:=timesL_len (-1) 0 line
 have:=v.most
 have e:=implRead_all v.timesOK hwh hwf hfit hl (by omega) hh line.length 0 k (by omega) (by omega)
 rw [ht] at e ⊢
 exact e
theorem specReadL {k:Nat} {line:List Sp} {h:List Int} {l:List Ft} (v:ValidL line) (hwh:wfH h) (hwf:wfF l) (hf:faultsOk line.length h l=true) (hh:h.length≤1048576) (hk:1000 < k):spec_l06Read.f k line h l=some (readL line h l):=by
 obtain ⟨hfit,hl⟩:=fit_of hf
 unfold spec_l06Read.f
 rw [v.specTimes (by omega)]
 simp only [Option.bind_some]
 have ht:=timesL_len (-1) 0 line
 have:=v.most
 have:=v.pos
 rw [if_pos (by simp only [List.length_nil];omega),List.nil_append]
 have e:=specRead_all v.timesOK hwh hwf hfit hl (by omega) hh (line.length - 1) 1 k (by omega) (by omega) (by omega)
 rw [ht] at e
 exact e
theorem readL_len {line:List Sp} {h:List Int} {l:List Ft}:(readL line h l).length=line.length:=rbGo_len _ _ _ _
theorem readL_at {line:List Sp} {h:List Int} {l:List Ft} (v:ValidL line) (hwh:wfH h) (hwf:wfF l) {j:Nat} (hj:j < line.length):wfH (rd_L9 (readL line h l) (j:Int))∧(rd_L9 (readL line h l) (j:Int)).length≤h.length:=by
 have:=rb_ok v.timesOK hwh hwf line.length (by rw [timesL_len];exact Nat.le_refl _) j hj
 exact ⟨this.1,this.2.1⟩
end Go.Proofs.Ytcajnbkbdbkpgac.G.Pure
end

section
namespace Go.Proofs.Ytcajnbkbdbkpgac.G.Pure
open Go.RowKit Go.Proofs.Ytcajnbkbdbkpgac.G Go.Proofs.YtcajnbkbdbkpgacW.PrintWords Go.Proofs.YtcajnbkbdbkpgacW.PrintLast Go.Proofs.YtcajnbkbdbkpgacW.PrintMore
set_option linter.unusedVariables false
set_option linter.unusedSimpArgs false
def Flags (m:List Int):Prop:=∀ i:Nat,i < m.length→(rd m (i:Int)=-10∧0 < i∧0≤rd m ((i - 1:Nat):Int))∨(0≤rd m (i:Int)∧rd m (i:Int)≤39)
theorem rd_left {a b:List Int} {i:Nat} (h:i < a.length):rd (a ++ b) (i:Int)=rd a (i:Int):=by
 simp [rd,List.getD_eq_getElem?_getD,List.getElem?_append_left h]
theorem rd_last (a:List Int) (x:Int):rd (a ++ [x]) (a.length:Int)=x:=by
 simp [rd,List.getD_eq_getElem?_getD]
theorem Flags_flag {m:List Int} (hm:Flags m) {x:Int} (hx:0≤x∧x≤39):Flags (m ++ [x]):=by
 intro i hi
 rw [List.length_append,List.length_singleton] at hi
 rcases Nat.lt_or_ge i m.length with h|h
 ·rw [rd_left h,rd_left (i:=i - 1) (by omega)]
  exact hm i h
 ·obtain rfl:i=m.length:=by omega
  rw [rd_last]
  exact .inr hx
theorem Flags_break {m:List Int} (hm:Flags m) {x:Int} (hx:0≤x∧x≤39):Flags ((m ++ [x]) ++ [-10]):=by
 have h1:=Flags_flag hm hx
 intro i hi
 rw [List.length_append,List.length_singleton] at hi
 rcases Nat.lt_or_ge i (m ++ [x]).length with h|h
 ·rw [rd_left h,rd_left (i:=i - 1) (by omega)]
  exact h1 i h
 ·obtain rfl:i=(m ++ [x]).length:=by omega
  rw [rd_last,rd_left (by rw [List.length_append,List.length_singleton];omega)]
  rw [List.length_append,List.length_singleton,show m.length + 1 - 1=m.length by omega,rd_last]
  exact .inl ⟨rfl,by omega,hx.1⟩
theorem rd_take {m:List Int} {n i:Nat} (h:i < n):rd (m.take n) (i:Int)=rd m (i:Int):=by
 simp [rd,List.getD_eq_getElem?_getD,List.getElem?_take_of_lt h]
theorem Flags_take {m:List Int} (hm:Flags m) (n:Nat):Flags (m.take n):=by
 intro i hi
 rw [List.length_take] at hi
 rw [rd_take (by omega),rd_take (i:=i - 1) (by omega)]
 exact hm i (by omega)
def Whole (m:List Int):Prop:=Flags m∧1≤m.length∧m.length≤8∧0≤rd m ((m.length - 1:Nat):Int)
theorem trim_ok {y:List Int} (hf:Flags y) (h1:1≤y.length) (h8:y.length≤8) (a s:Int) :
  ∃ m,(if 0≤wrap64 ((y.length:Int) - 1) then (if wrap64 ((y.length:Int) - 1) < (y.length:Int) then (if rd y (wrap64 ((y.length:Int) - 1))=-10 then (if wrap64 ((y.length:Int) - 1)≤(y.length:Int) then some (y.take (wrap64 ((y.length:Int) - 1)).toNat,a,s) else none) else some (y,a,s)) else none) else none)=some (m,a,s)∧Whole m:=by
 rw [w64 (by omega) (by omega),show (y.length:Int) - 1=((y.length - 1:Nat):Int) by omega,Int.toNat_natCast,if_pos (by omega),if_pos (by omega)]
 have hl:=hf (y.length - 1) (by omega)
 by_cases hb:rd y ((y.length - 1:Nat):Int)=-10
 ·rw [if_pos hb,if_pos (by omega)]
  rcases hl with ⟨_,h2,h3⟩|h
  ·refine ⟨_,rfl,Flags_take hf _,by rw [List.length_take];omega,by rw [List.length_take];omega,?_⟩
   rw [List.length_take,Nat.min_eq_left (by omega),rd_take (by omega)]
   exact h3
  ·omega
 ·rw [if_neg hb]
  refine ⟨y,rfl,hf,h1,h8,?_⟩
  rcases hl with ⟨h2,_⟩|h
  ·exact absurd h2 hb
  ·exact h.1
theorem among_ok {code:List Int} (hc:Bytes code) {at_ seed:Int} (ha:0≤at_∧at_≤1000000):∃ n s,spec_l00Src_among.f code at_ seed [0,1,2,3,25,39]=some (n,at_ + 1,s)∧0≤n∧n≤39:=by
 obtain ⟨p,s,e,h⟩:=pick_ok hc (seed:=seed) (a:=6) ha (by omega) (by omega)
 unfold spec_l00Src_among.f
 rw [show (([0,1,2,3,25,39]:List Int).length:Int)=6 from rfl,e]
 simp only [Option.bind_some]
 rw [if_pos h.1,if_pos h.2]
 refine ⟨_,_,rfl,?_⟩
 have:p=0∨p=1∨p=2∨p=3∨p=4∨p=5:=by omega
 rcases this with rfl|rfl|rfl|rfl|rfl|rfl <;> decide
theorem meant_in {code:List Int} (hc:Bytes code):∀ (n k:Nat) (l:List Int) (at_ seed:Int),n < k→l.length≤2 * (6 - n)→n≤6→(n=0→1≤l.length)→Flags l→0≤at_→at_ + 2 * (n:Int)≤1000 →
  ∃ m a s,spec_l02Meant.l0 k l (n:Int) code at_ seed=some (m,a,s)∧0≤a∧a≤1000∧Whole m:=by
 intro n
 induction n with
 | zero =>
  intro k l at_ seed hk hl _ h0 hf h1 h2
  obtain ⟨k,rfl⟩:∃ m,k=m + 1:=⟨k - 1,by omega⟩
  have hn:=h0 rfl
  rw [spec_l02Meant.l0,if_neg (by decide)]
  by_cases h8:(l.length:Int) > 8
  ·rw [if_pos h8,if_pos (by omega)]
   simp only [Option.bind_some]
   obtain ⟨m,q1,q2⟩:=trim_ok (y:=l.take 8) (Flags_take hf 8) (by rw [List.length_take];omega) (by rw [List.length_take];omega) at_ seed
   exact ⟨m,at_,seed,q1,h1,by omega,q2⟩
  ·rw [if_neg h8]
   obtain ⟨m,q1,q2⟩:=trim_ok (y:=l) hf hn (by omega) at_ seed
   exact ⟨m,at_,seed,q1,h1,by omega,q2⟩
 | succ n ih =>
  intro k l at_ seed hk hl h6 _ hf h1 h2
  obtain ⟨k,rfl⟩:∃ m,k=m + 1:=⟨k - 1,by omega⟩
  obtain ⟨p,s1,e1,b1⟩:=among_ok hc (seed:=seed) (at_:=at_) (by omega)
  obtain ⟨b,s2,e2⟩:=one_ok hc (seed:=s1) (a:=6) (at_:=at_ + 1) (by omega) (by omega) (by omega)
  rw [spec_l02Meant.l0,if_pos (by omega),e1]
  simp only [Option.bind_some]
  rw [if_pos (by omega),i8w (n:=p) (by omega) (by omega)]
  rw [e2]
  simp only [Option.bind_some]
  rw [w64 (n:=((n + 1:Nat):Int) - 1) (by omega) (by omega),show ((n + 1:Nat):Int) - 1=(n:Int) by omega]
  have hno:=fun (y:List Int) (hy:y.length≤2 * (6 - n)) (hy1:1≤y.length) (hf':Flags y)=>ih k y (at_ + 1 + 1) s2 (by omega) hy (by omega) (fun _=>hy1) hf' (by omega) (by omega)
  have l1:(l ++ [p]).length=l.length + 1:=by simp
  have l2:((l ++ [p]) ++ [(-10:Int)]).length=l.length + 2:=by simp
  have r1:=hno (l ++ [p]) (by omega) (by omega) (Flags_flag hf b1)
  split
  ·split
   ·split
    ·rw [if_pos (by omega)]
     exact hno _ (by omega) (by omega) (Flags_break hf b1)
    ·exact r1
   ·exact r1
  ·exact r1
theorem meant_ok {code:List Int} (hc:Bytes code) {k:Nat} (hk:10 < k):∃ m a s,spec_l02Meant.f k code 0 0=some (m,a,s)∧0≤a∧a≤1000∧Whole m:=by
 obtain ⟨p,s1,e1,b1⟩:=pick_ok hc (seed:=0) (a:=6) (at_:=0) (by omega) (by omega) (by omega)
 obtain ⟨n,hn⟩:∃ n:Nat,p=(n:Int):=⟨p.toNat,by omega⟩
 subst hn
 obtain ⟨m,a,s,q⟩:=meant_in hc (n + 1) k [] (0 + 1) s1 (by omega) (by simp) (by omega) (fun h=>by omega) (fun i hi=>by simp at hi) (by omega) (by omega)
 unfold spec_l02Meant.f
 rw [e1]
 simp only [Option.bind_some]
 rw [w64 (by omega) (by omega),show (1:Int) + (n:Int)=((n + 1:Nat):Int) by omega]
 exact ⟨m,a,s,q⟩
theorem mto_left {a b:List Int}:∀ n,n≤a.length→mto (a ++ b) n=mto a n:=by
 intro n
 induction n with
 | zero=>intro _;rfl
 | succ n ih =>
  intro hn
  rw [mto,mto,ih (by omega),rd_left (by omega)]
theorem hoist_in {m:List Int} (hm:Whole m) {code:List Int} (hc:Bytes code):∀ (d i k:Nat) (h:List Int) (st:Nat) (at_ seed:Int),i + d=m.length→d < k→h.length=i→(∃ s,mto h i=some s∧s.2=st)→(i=st→0 < i→rd m ((i - 1:Nat):Int)=-10)→(∀ x∈h,-128≤x∧x≤127)→0≤at_→at_ + (d:Int)≤10000 →
  ∃ h' a s,spec_l02Drawn.l0 k m h (st:Int) (i:Int) code at_ seed=some (h',a,s)∧h'.length=m.length∧(∃ s',mto h' m.length=some s'∧(m.length=s'.2→rd m ((m.length - 1:Nat):Int)=-10))∧(∀ x∈h',-128≤x∧x≤127):=by
 have h8:=hm.2.2.1
 intro d
 induction d with
 | zero =>
  intro i k h st at_ seed hi hk hl hs hb hx h0 h1
  obtain ⟨k,rfl⟩:∃ m,k=m + 1:=⟨k - 1,by omega⟩
  obtain rfl:i=m.length:=by omega
  rw [spec_l02Drawn.l0,if_neg (by omega)]
  obtain ⟨s,q1,q2⟩:=hs
  exact ⟨h,at_,seed,rfl,hl,⟨s,q1,fun e=>hb (by omega) (by have:=hm.2.1;omega)⟩,hx⟩
 | succ d ih =>
  intro i k h st at_ seed hi hk hl hs hb hx h0 h1
  obtain ⟨k,rfl⟩:∃ m,k=m + 1:=⟨k - 1,by omega⟩
  obtain ⟨s,q1,q2⟩:=hs
  have ok:=mto_ok i q1
  have him:i < m.length:=by omega
  have hfl:=hm.1 i him
  rw [spec_l02Drawn.l0,if_pos (by omega),if_pos (by omega),if_pos (by omega)]
  simp only [Option.bind_some]
  rw [w64 (n:=(i:Int) + 1) (by omega) (by omega),show (i:Int) + 1=((i + 1:Nat):Int) by omega]
  have hstep:∀ v,(∃ s',mstep v s=some s')→∃ s',mto (h ++ [v]) (i + 1)=some s'∧mstep v s=some s':=by
   intro v ⟨s',e⟩
   refine ⟨s',?_,e⟩
   rw [mto,mto_left i (by omega),q1,← hl,rd_last]
   exact e
  have hxs:∀ v,-128≤v∧v≤127→∀ x∈h ++ [v],-128≤x∧x≤127:=fun v hv x hx'=>by
   rcases List.mem_append.1 hx' with e|e
   ·exact hx x e
   ·rw [List.mem_singleton] at e;omega
  by_cases hbr:rd m (i:Int)=-10
  ·rw [if_pos hbr]
   have hne:¬ s.2=s.1.length:=by
    intro e
    rw [ok.1,q2] at e
    rcases hfl with ⟨_,h2,h3⟩|h2
    ·have:=hb e.symm h2
     omega
    ·omega
   have hms:mstep (rd m (i:Int)) s=some (s.1 ++ [rd m (i:Int)],s.1.length + 1):=by unfold mstep;rw [if_pos hbr,if_neg hne]
   obtain ⟨s',e1,e2⟩:=hstep (rd m (i:Int)) ⟨_,hms⟩
   rw [hms] at e2
   cases e2
   exact ih (i + 1) k (h ++ [rd m (i:Int)]) (i + 1) at_ seed (by omega) (by omega) (by simp;omega) ⟨_,e1,by simp only;rw [ok.1]⟩ (fun _ _=>by rw [show i + 1 - 1=i by omega];exact hbr) (hxs _ (by omega)) h0 (by omega)
  ·rw [if_neg hbr]
   have hfr:0≤rd m (i:Int)∧rd m (i:Int)≤39:=hfl.elim (fun h_=>absurd h_.1 hbr) id
   obtain ⟨p,s1,e1,b1⟩:=pick_ok hc (seed:=seed) (a:=5) (at_:=at_) (by omega) (by omega) (by omega)
   rw [e1]
   simp only [Option.bind_some]
   have hms:mstep (rd m (i:Int)) s=some (s.1 ++ [rd m (i:Int)],s.2):=by unfold mstep;rw [if_neg hbr,if_neg (by omega),if_pos hfr]
   have hplain:∃ h' a s,spec_l02Drawn.l0 k m (h ++ [rd m (i:Int)]) (st:Int) ((i + 1:Nat):Int) code (at_ + 1) s1=some (h',a,s)∧h'.length=m.length∧(∃ s',mto h' m.length=some s'∧(m.length=s'.2→rd m ((m.length - 1:Nat):Int)=-10))∧(∀ x∈h',-128≤x∧x≤127):=by
    obtain ⟨s',e3,e2⟩:=hstep (rd m (i:Int)) ⟨_,hms⟩
    rw [hms] at e2
    cases e2
    exact ih (i + 1) k (h ++ [rd m (i:Int)]) st (at_ + 1) s1 (by omega) (by omega) (by simp;omega) ⟨_,e3,q2⟩ (fun e_ _=>by have:=ok.2.1;omega) (hxs _ (by omega)) (by omega) (by omega)
   split
   ·have w1:wrap64 (wrap64 ((st:Int) + p) - 1)=(st:Int) + p - 1:=by have:=ok.2.1;rw [w64 (n:=(st:Int) + p) (by omega) (by omega),w64 (by omega) (by omega)]
    rw [w1]
    split
    ·rename_i hp hlt
     rw [if_pos (by rw [List.length_append,List.length_singleton];omega),w64 (n:=-p) (by omega) (by omega),i8w (n:=-p) (by omega) (by omega),Int.toNat_natCast]
     have hset:(h ++ [rd m (i:Int)]).set i (-p)=h ++ [-p]:=by
      rw [List.set_append_right _ _ (by omega),show i - h.length=0 by omega]
      rfl
     rw [hset]
     have hms2:mstep (-p) s=some (s.1 ++ [rd s.1 ((s.2 + (- -p).toNat - 1:Nat):Int)],s.2):=by
      unfold mstep
      rw [if_neg (by omega),if_pos (by omega),if_pos (by rw [ok.1];omega)]
     obtain ⟨s',e3,e2⟩:=hstep (-p) ⟨_,hms2⟩
     rw [hms2] at e2
     cases e2
     exact ih (i + 1) k (h ++ [-p]) st (at_ + 1) s1 (by omega) (by omega) (by simp;omega) ⟨_,e3,q2⟩ (fun e_ _=>by have:=ok.2.1;omega) (hxs _ (by omega)) (by omega) (by omega)
    ·exact hplain
   ·exact hplain
theorem wf_small {h:List Int} (hx:∀ x∈h,-128≤x∧x≤127):wfH h:=fun x h_=>by
 have:=hx x h_
 simp [Lit.wf,IntKind.min,IntKind.max,IntKind.signed,IntKind.bits]
 omega
theorem hoist_ok {code:List Int} (hc:Bytes code) {k:Nat} (hk:20 < k):∃ h,spec_A2Hoist.f k code=some h∧(meanO h).isSome=true∧wfH h:=by
 obtain ⟨m,a,s,e,a0,a1,hm⟩:=meant_ok hc (k:=k) (by omega)
 have h8:=hm.2.2.1
 obtain ⟨h,a',s',e2,hl,⟨t,q1,q2⟩,hx⟩:=hoist_in hm hc m.length 0 k [] 0 a s (by omega) (by omega) rfl ⟨_,rfl,rfl⟩ (fun _ h_=>by omega) (by simp) a0 (by omega)
 refine ⟨h,?_,?_,wf_small hx⟩
 ·unfold spec_A2Hoist.f spec_l00From.f spec_l02Drawn.f
  simp only [Option.bind_some]
  rw [e]
  simp only [Option.bind_some]
  rw [show ((0:Nat):Int)=0 from rfl] at e2
  rw [e2]
  rfl
 ·have ok:=mto_ok m.length q1
  unfold meanO
  rw [if_pos (by rw [hl];exact ⟨hm.2.1,hm.2.2.1⟩),hl,q1]
  simp only
  have:t.2 < t.1.length:=by
   rw [ok.1]
   rcases Nat.lt_or_ge t.2 m.length with h1|h1
   ·exact h1
   ·have h2:=q2 (by have:=ok.2.1;omega)
    have h3:=hm.2.2.2
    omega
  rw [if_pos this]
  rfl
theorem faults_in {line:List Sp} {h:List Int} (hl:line.length≤8) (hh:1≤h.length∧h.length≤8) {code:List Int} (hc:Bytes code):∀ (d i k:Nat) (out:List Ft) (at_ seed:Int),i + d=line.length→1≤i→d < k→out.length < i→(∀ f∈out,faultOk line.length h f=true∧f.f0 < (i:Int))→out.Pairwise (fun f g=>f.f0 < g.f0)→0≤at_→at_ + 3 * (d:Int)≤10000 →
  ∃ out',spec_A2Faults.l0 k line h out (i:Int) code at_ seed=some out'∧out'.length≤8∧(∀ f∈out',faultOk line.length h f=true)∧out'.Pairwise (fun f g=>f.f0 < g.f0):=by
 intro d
 induction d with
 | zero =>
  intro i k out at_ seed hi h1 hk ho hf hp _ _
  obtain ⟨k,rfl⟩:∃ m,k=m + 1:=⟨k - 1,by omega⟩
  rw [spec_A2Faults.l0,if_neg (by omega)]
  exact ⟨out,rfl,by omega,fun f h_=>(hf f h_).1,hp⟩
 | succ d ih =>
  intro i k out at_ seed hi h1 hk ho hf hp h0 hb
  obtain ⟨k,rfl⟩:∃ m,k=m + 1:=⟨k - 1,by omega⟩
  have hnext:=fun at2 s2 (h2:0≤at2) (h3:at2 + 3 * (d:Int)≤10000)=>ih (i + 1) k out at2 s2 (by omega) (by omega) (by omega) (by omega) (fun f h_=>⟨(hf f h_).1,by have:=(hf f h_).2;omega⟩) hp h2 h3
  rw [spec_A2Faults.l0,if_pos (by omega)]
  obtain ⟨p,a1,s1,e1,bp,ha1⟩:∃ p a1 s1,spec_l00Src_pick.f code at_ seed (h.length:Int)=some (p,a1,s1)∧(0≤p∧p < (h.length:Int))∧(0≤a1∧a1≤at_ + 1):=by
   by_cases h2:h.length=1
   ·refine ⟨0,at_,seed,?_,by omega,by omega⟩
    unfold spec_l00Src_pick.f
    rw [if_pos (by omega)]
   ·obtain ⟨p,s1,e1,b1⟩:=pick_ok hc (seed:=seed) (a:=(h.length:Int)) (at_:=at_) (by omega) (by omega) (by omega)
    exact ⟨p,_,s1,e1,b1,by omega⟩
  obtain ⟨b,s2,e2⟩:=one_ok hc (seed:=s1) (a:=3) (at_:=a1) (by omega) (by omega) (by omega)
  rw [e1]
  simp only [Option.bind_some]
  rw [e2]
  simp only [Option.bind_some]
  rw [w64 (n:=(i:Int) + 1) (by omega) (by omega),show (i:Int) + 1=((i + 1:Nat):Int) by omega]
  split
  ·rw [if_pos bp.1,if_pos bp.2]
   split
   ·rename_i hge
    obtain ⟨q,s3,e3,b3⟩:=pick_ok hc (seed:=s2) (a:=5) (at_:=a1 + 1) (by omega) (by omega) (by omega)
    rw [e3]
    simp only [Option.bind_some]
    rw [if_pos (by omega),i8w (n:=(i:Int)) (by omega) (by omega),i8w (n:=p) (by omega) (by omega),i8w (n:=q) (by omega) (by omega)]
    refine ih (i + 1) k _ (a1 + 1 + 1) s3 (by omega) (by omega) (by omega) (by simp;omega) (fun f h_=>?_) ?_ (by omega) (by omega)
    ·rcases List.mem_append.1 h_ with h_|h_
     ·exact ⟨(hf f h_).1,by have:=(hf f h_).2;omega⟩
     ·rw [List.mem_singleton] at h_
      subst h_
      refine ⟨?_,by simp only;omega⟩
      simp only [faultOk,Bool.and_eq_true,decide_eq_true_eq]
      exact ⟨⟨by omega,by omega⟩,⟨bp.1,by omega⟩,⟨b3.1,by omega⟩,hge⟩
    ·rw [List.pairwise_append]
     refine ⟨hp,List.pairwise_singleton _ _,fun f hf1 g hg=>?_⟩
     rw [List.mem_singleton] at hg
     subst hg
     exact (hf f hf1).2
   ·exact hnext _ _ (by omega) (by omega)
  ·exact hnext _ _ (by omega) (by omega)
theorem faults_ok {line:List Sp} {h:List Int} (hp:1≤line.length) (hl:line.length≤8) (hh:1≤h.length∧h.length≤8) {code:List Int} (hc:Bytes code) {k:Nat} (hk:20 < k):∃ l,spec_A2Faults.f k code line h=some l∧faultsOk line.length h l=true∧l.length≤8∧wfF l:=by
 obtain ⟨out,e,h8,hf,hpw⟩:=faults_in hl hh hc (line.length - 1) 1 k [] 0 0 (by omega) (by omega) (by omega) (by simp) (by simp) List.Pairwise.nil (by omega) (by omega)
 refine ⟨out,?_,?_,h8,fun f h_=>?_⟩
 ·unfold spec_A2Faults.f spec_l00From.f
  simp only [Option.bind_some]
  exact e
 ·rw [faultsOk_end (fun j hj=>?_),decide_eq_true (by omega)]
  unfold badF dupF
  rw [rd_impl_Fault hj,hf _ (List.getElem_mem hj)]
  simp only [Bool.not_true,Bool.or_false]
  rw [List.any_eq_false]
  intro g hg
  obtain ⟨i,hi,rfl⟩:=List.mem_iff_getElem.1 hg
  rw [List.length_take] at hi
  have:=List.pairwise_iff_getElem.1 hpw i j (by omega) hj (by omega)
  simp only [List.getElem_take,beq_iff_eq]
  omega
 ·have:=hf f h_
  simp only [faultOk,Bool.and_eq_true,decide_eq_true_eq] at this
  refine ⟨?_,?_,?_⟩ <;> simp [Lit.wf,IntKind.min,IntKind.max,IntKind.signed,IntKind.bits] <;> omega
end Go.Proofs.Ytcajnbkbdbkpgac.G.Pure
end

section
namespace Go.Proofs.Ytcajnbkbdbkpgac.G.Pure
open Go.RowKit Go.Proofs.Ytcajnbkbdbkpgac.G Go.Proofs.YtcajnbkbdbkpgacW.PrintWords Go.Proofs.YtcajnbkbdbkpgacW.PrintLast Go.Proofs.YtcajnbkbdbkpgacW.PrintMore
set_option linter.unusedVariables false
set_option linter.unusedSimpArgs false
theorem loop_inv2 {σ γ:Type} (L:Nat→σ→Option γ) (n K0:Nat) (I:Nat→σ→Prop) (R:γ→Prop)
  (hs:∀ k i s,i < n→K0≤k→I i s→(∃ s',I (i + 1) s'∧L (k + 1) s=L k s')∨(∃ r,R r∧L (k + 1) s=some r))
  (he:∀ k s,K0≤k→I n s→∃ r,R r∧L (k + 1) s=some r):∀ k s,I 0 s→n + K0 < k→∃ r,R r∧L k s=some r:=by
 have go:∀ d i k s,i + d=n→I i s→d + K0 < k→∃ r,R r∧L k s=some r:=by
  intro d
  induction d with
  | zero =>
   intro i k s hi hI hk
   obtain ⟨k,rfl⟩:∃ m,k=m + 1:=⟨k - 1,by omega⟩
   obtain rfl:i=n:=by omega
   exact he k s (by omega) hI
  | succ d ih =>
   intro i k s hi hI hk
   obtain ⟨k,rfl⟩:∃ m,k=m + 1:=⟨k - 1,by omega⟩
   rcases hs k i s (by omega) (by omega) hI with ⟨s',hI',h⟩|h
   ·rw [h]
    exact ih (i + 1) k s' (by omega) hI' (by omega)
   ·exact h
 intro k s hI hk
 exact go n 0 k s (by omega) hI (by omega)
end Go.Proofs.Ytcajnbkbdbkpgac.G.Pure
end

section
namespace Go.Proofs.Ytcajnbkbdbkpgac.G.Pure
open Go.RowKit Go.Proofs.Ytcajnbkbdbkpgac.G Go.Proofs.YtcajnbkbdbkpgacW.PrintWords Go.Proofs.YtcajnbkbdbkpgacW.PrintLast Go.Proofs.YtcajnbkbdbkpgacW.PrintMore
set_option linter.unusedVariables false
set_option linter.unusedSimpArgs false
theorem firstOf_eq (k:Nat) (a b:Int) (hk:3≤k):impl_firstOf.f k [a,b]=some (if a=0 then b else a):=by
 obtain ⟨k,rfl⟩:∃ m,k=m + 3:=⟨k - 3,by omega⟩
 unfold impl_firstOf.f
 have r0:rd [a,b] 0=a:=rfl
 have r1:rd [a,b] 1=b:=rfl
 unfold impl_firstOf.l0
 simp only [List.length_cons,List.length_nil]
 rw [if_pos (by omega),if_pos (by omega),if_pos (by omega),r0]
 by_cases h:a=0
 ·rw [if_pos h,if_pos h,w64 (by omega) (by omega)]
  unfold impl_firstOf.l0
  simp only [List.length_cons,List.length_nil]
  rw [if_pos (by omega),if_pos (by omega),if_pos (by omega),show (0:Int) + 1=1 from rfl,r1]
  by_cases h1:b=0
  ·rw [if_pos h1,w64 (by omega) (by omega)]
   unfold impl_firstOf.l0
   rw [if_neg (by simp),h1]
  ·rw [if_neg h1]
 ·rw [if_neg h,if_neg h]
end Go.Proofs.Ytcajnbkbdbkpgac.G.Pure
end

section
namespace Go.Proofs.Ytcajnbkbdbkpgac.G.Pure
open Go.RowKit Go.Proofs.Ytcajnbkbdbkpgac.G Go.Proofs.YtcajnbkbdbkpgacW.PrintWords Go.Proofs.YtcajnbkbdbkpgacW.PrintLast Go.Proofs.YtcajnbkbdbkpgacW.PrintMore
set_option linter.unusedVariables false
set_option linter.unusedSimpArgs false
theorem lineCode_nil {k:Nat} {line:List Sp} {h:List Int} (hw:wfH h) (hl:h.length≤1048576) (hk:2200001 < k):impl_lineCode.f k line h []=some (if validB line=true∧(meanO h).isSome=true then 0 else 1):=by
 unfold impl_lineCode.f
 rw [implValid_eq]
 simp only [Option.bind_some]
 obtain ⟨k,rfl⟩:∃ j,k=j + 1:=⟨k - 1,by omega⟩
 cases hv:validB line with
 | false=>simp [impl_unless.f]
 | true =>
  simp only [if_true,true_and]
  rw [implValidH hw hl (by omega)]
  simp only [Option.bind_some]
  cases hm:(meanO h).isSome with
  | false=>simp [impl_unless.f]
  | true=>simp [impl_unless.f,impl_areFaults.f,impl_areFaults.l0]
def fromH (h:List Int) (read:Hs) (t:Tm):List Int:=if 0≤t.f0 then rd_L9 read t.f0 else h
def badH (h:List Int) (read:Hs) (ts:List Tm) (i:Nat):Bool:=decide (0≤(rd_T47 ts (i:Int)).f2) && !decide (rd_L9 read (i:Int)=fromH h read (rd_T47 ts (i:Int)))
def blamed (h:List Int) (read:Hs) (ts:List Tm):Int × Int:=match (List.range ts.length).find? (badH h read ts) with|some i=>((i:Int),0)|none=>(0,6)
theorem find_hit {p:Nat→Bool} {n i:Nat} (hi:i < n) (hp:p i=true) (hb:∀ j,j < i→p j=false):(List.range n).find? p=some i:=by
 rw [List.find?_range_eq_some]
 exact ⟨hp,by simpa using hi,fun j hj=>by simp [hb j hj]⟩
theorem find_miss {p:Nat→Bool} {n:Nat} (hb:∀ j,j < n→p j=false):(List.range n).find? p=none:=by
 rw [List.find?_eq_none]
 intro j hj
 rw [hb j (List.mem_range.1 hj)]
 simp
theorem times_from {ts:List Tm} (h:TimesOK ts) {i:Nat} (hi:i < ts.length):(rd_T47 ts (i:Int)).f0 < (i:Int)∨(rd_T47 ts (i:Int)).f0 < 0:=by
 rw [rd_impl_Times hi]
 rcases Nat.eq_zero_or_pos i with h0|h0
 ·subst h0
  have:=h.first _ (List.getElem?_eq_getElem hi)
  omega
 ·rcases h.later i _ (List.getElem?_eq_getElem hi) h0 with e|e
  ·rw [e]
   exact .inr (by decide)
  ·omega
theorem rdH_len {read:Hs} (hi:∀ x∈read,x.length≤1048576) (i:Int):(rd_L9 read i).length≤1048576:=by
 unfold rd_L9
 rw [List.getD_eq_getElem?_getD]
 cases e:read[i.toNat]? with
 | none=>simp
 | some x=>exact hi x (List.mem_of_getElem? e)
theorem implBlamed {k:Nat} {h:List Int} {read:Hs} {ts:List Tm} (hok:TimesOK ts) (hr:read.length=ts.length) (hl:ts.length≤20) (hi:∀ x∈read,x.length≤1048576) (hk:1100000 < k):impl_FirstBlamed.l0 k h read ts (ts.length:Int) 0=some (blamed h read ts):=by
 obtain ⟨r,hr',h'⟩:=loop_inv2 (fun k (s:Int)=>impl_FirstBlamed.l0 k h read ts (ts.length:Int) s) ts.length 1048577 (fun i s=>s=(i:Int)∧∀ j,j < i→badH h read ts j=false) (fun r=>r=blamed h read ts)
  (fun k i s hil hk ⟨h1,h2⟩=>by
   subst h1
   have hf:=times_from hok hil
   have hL:=rdH_len hi (i:Int)
   simp only [impl_FirstBlamed.l0]
   rw [if_pos (by omega),if_pos (by omega),if_pos (by omega),w64 (by omega) (by omega)]
   have hgo:badH h read ts i=false→(∃ s':Int,(s'=((i + 1:Nat):Int)∧∀ j,j < i + 1→badH h read ts j=false)∧impl_FirstBlamed.l0 k h read ts (ts.length:Int) ((i:Int) + 1)=impl_FirstBlamed.l0 k h read ts (ts.length:Int) s'):=fun hb=>⟨_,⟨rfl,fun j hj=>by
    rcases Nat.lt_succ_iff_lt_or_eq.1 hj with e|e
    ·exact h2 j e
    ·subst e;exact hb⟩,by rw [show ((i + 1:Nat):Int)=(i:Int) + 1 by omega]⟩
   have hst:badH h read ts i=true→((i:Int),(0:Int))=blamed h read ts:=fun hb=>by
    unfold blamed
    rw [find_hit hil hb h2]
   unfold badH fromH at hgo hst
   generalize rd_T47 ts (i:Int)=t at *
   by_cases h0:0≤t.f0
   ·rw [if_pos h0] at hgo hst
    rw [if_pos h0,if_pos h0,if_pos (by omega)]
    by_cases h2':0≤t.f2
    ·rw [decide_eq_true h2',Bool.true_and] at hgo hst
     rw [if_pos h2',if_pos (by omega),implEqH hL (by omega)]
     simp only [Option.bind_some]
     by_cases he:rd_L9 read (i:Int)=rd_L9 read t.f0
     ·rw [decide_eq_true he,if_pos rfl]
      exact .inl (hgo (by simp [he]))
     ·rw [decide_eq_false he,if_neg (by simp)]
      exact .inr ⟨_,hst (by simp [he]),rfl⟩
    ·rw [if_neg h2']
     exact .inl (hgo (by rw [decide_eq_false h2',Bool.false_and]))
   ·rw [if_neg h0] at hgo hst
    rw [if_neg h0]
    by_cases h2':0≤t.f2
    ·rw [decide_eq_true h2',Bool.true_and] at hgo hst
     rw [if_pos h2',if_pos (by omega),implEqH hL (by omega)]
     simp only [Option.bind_some]
     by_cases he:rd_L9 read (i:Int)=h
     ·rw [decide_eq_true he,if_pos rfl]
      exact .inl (hgo (by simp [he]))
     ·rw [decide_eq_false he,if_neg (by simp)]
      exact .inr ⟨_,hst (by simp [he]),rfl⟩
    ·rw [if_neg h2']
     exact .inl (hgo (by rw [decide_eq_false h2',Bool.false_and])))
  (fun k s hk ⟨h1,h2⟩=>by
   subst h1
   refine ⟨blamed h read ts,rfl,?_⟩
   simp only [impl_FirstBlamed.l0]
   rw [if_neg (by omega)]
   unfold blamed
   rw [find_miss h2]) k 0 ⟨rfl,fun j h=>absurd h (Nat.not_lt_zero _)⟩ (by omega)
 subst hr'
 exact h'
def resBlamed (line:List Sp) (h:List Int) (read:Hs):Int × Int:=if validB line=true∧(meanO h).isSome=true then (if read.length=line.length then blamed h read (timesL (-1) 0 line) else (0,2)) else (0,1)
theorem implBlamed_eq {k:Nat} {line:List Sp} {h:List Int} {read:Hs} (hw:∀ x∈line,wfShip x) (hwh:wfH h) (hl:h.length≤1048576) (hi:∀ x∈read,x.length≤1048576) (hk:2200001 < k):impl_FirstBlamed.f k line h read=some (resBlamed line h read):=by
 unfold impl_FirstBlamed.f resBlamed
 rw [lineCode_nil hwh hl hk]
 simp only [Option.bind_some]
 rw [show ∀ b:Bool,impl_unless.f b 2=some (if b=true then 0 else 2) from fun b=>by cases b <;> rfl]
 simp only [Option.bind_some]
 rw [firstOf_eq k _ _ (by omega)]
 simp only [Option.bind_some]
 by_cases hv:validB line=true∧(meanO h).isSome=true
 ·rw [if_pos hv,if_pos rfl,if_pos hv]
  by_cases hr:read.length=line.length
  ·rw [if_pos (by simp [hr]),if_pos hr]
   have v:=(validB_iff hw).1 hv.1
   rw [v.implTimes (by omega)]
   simp only [Option.bind_some]
   exact implBlamed v.timesOK (by rw [timesL_len];exact hr) (by rw [timesL_len];exact v.most) hi (by omega)
  ·rw [if_neg (by simp;omega),if_neg hr,if_neg (by simp;omega)]
 ·rw [if_neg hv,if_neg (by omega),if_neg (by omega),if_neg hv]
end Go.Proofs.Ytcajnbkbdbkpgac.G.Pure
end

section
namespace Go.Proofs.Ytcajnbkbdbkpgac.G.Pure
open Go.RowKit Go.Proofs.Ytcajnbkbdbkpgac.G Go.Proofs.YtcajnbkbdbkpgacW.PrintWords Go.Proofs.YtcajnbkbdbkpgacW.PrintLast Go.Proofs.YtcajnbkbdbkpgacW.PrintMore
set_option linter.unusedVariables false
set_option linter.unusedSimpArgs false
def ntStep (read:Hs) (ts:List Tm) (s:Int) (i:Nat):Int :=
 if 0≤(rd_T47 ts (i:Int)).f0 then (if rd_L9 read (i:Int)=rd_L9 read (rd_T47 ts (i:Int)).f0 then s else if s < 0 then (rd_T47 ts (i:Int)).f3 else if (rd_T47 ts (i:Int)).f3 < s then (rd_T47 ts (i:Int)).f3 else s) else s
def ntTo (read:Hs) (ts:List Tm):Nat→Int
 | 0=>-1
 | n + 1=>ntStep read ts (ntTo read ts n) n
def ntEnd (s:Int):Int × Int:=if s < 0 then (0,6) else (s,0)
theorem implNoticed_all {read:Hs} {ts:List Tm} (hok:TimesOK ts) (hr:read.length=ts.length) (hl:ts.length≤20) (hi:∀ x∈read,x.length≤1048576):∀ d i K,i + d=ts.length→d + 1048578≤K→impl_NoticedAt.l0 K read (ntTo read ts i) ts (ts.length:Int) (i:Int)=some (ntEnd (ntTo read ts ts.length)):=by
 intro d
 induction d with
 | zero =>
  intro i K hd hK
  obtain ⟨K,rfl⟩:∃ m,K=m + 1:=⟨K - 1,by omega⟩
  obtain rfl:i=ts.length:=by omega
  simp only [impl_NoticedAt.l0]
  rw [if_neg (by omega)]
  unfold ntEnd
  split <;> rfl
 | succ d ih =>
  intro i K hd hK
  obtain ⟨K,rfl⟩:∃ m,K=m + 1:=⟨K - 1,by omega⟩
  have hil:i < ts.length:=by omega
  have hf:=times_from hok hil
  have hL:=rdH_len hi (i:Int)
  have e:=ih (i + 1) K (by omega) (by omega)
  rw [show ((i + 1:Nat):Int)=(i:Int) + 1 by omega,ntTo] at e
  unfold ntStep at e
  simp only [impl_NoticedAt.l0]
  rw [if_pos (by omega),if_pos (by omega),if_pos (by omega),w64 (by omega) (by omega)]
  generalize rd_T47 ts (i:Int)=t at *
  by_cases h0:0≤t.f0
  ·rw [if_pos h0] at e
   rw [if_pos (show t.f0≥0 from h0),if_pos (by omega),if_pos h0,if_pos (by omega),implEqH hL (by omega)]
   simp only [Option.bind_some]
   by_cases he:rd_L9 read (i:Int)=rd_L9 read t.f0
   ·rw [if_pos he] at e
    rw [decide_eq_true he,if_pos rfl]
    exact e
   ·rw [if_neg he] at e
    rw [decide_eq_false he,if_neg (by simp)]
    by_cases h1:ntTo read ts i < 0
    ·rw [if_pos h1] at e
     rw [if_pos h1]
     exact e
    ·rw [if_neg h1] at e
     rw [if_neg h1]
     by_cases h2:t.f3 < ntTo read ts i
     ·rw [if_pos h2] at e
      rw [if_pos h2]
      exact e
     ·rw [if_neg h2] at e
      rw [if_neg h2]
      exact e
  ·rw [if_neg h0] at e
   rw [if_neg (by omega)]
   exact e
theorem readL_small {line:List Sp} {h:List Int} {l:List Ft} (v:ValidL line) (hwh:wfH h) (hwf:wfF l) (hh:h.length≤1048576):∀ x∈readL line h l,x.length≤1048576:=by
 intro x hx
 obtain ⟨j,hj,rfl⟩:=List.mem_iff_getElem.1 hx
 rw [readL_len] at hj
 have:=(readL_at v hwh hwf hj).2
 rw [rdH (by rw [readL_len];exact hj)] at this
 omega
theorem code_ok {line:List Sp} {h:List Int} {l:List Ft}:codeF line h l=0 ↔ validB line=true∧(meanO h).isSome=true∧faultsOk line.length h l=true:=by
 unfold codeF
 split
 ·rename_i hh
  exact ⟨fun _=>hh,fun _=>rfl⟩
 ·rename_i hh
  exact ⟨fun he=>by omega,fun he=>absurd he hh⟩
def resNoticed (line:List Sp) (h:List Int) (l:List Ft):Int × Int:=if codeF line h l=0 then ntEnd (ntTo (readL line h l) (timesL (-1) 0 line) line.length) else (0,codeF line h l)
theorem implNoticed_eq {k:Nat} {line:List Sp} {h:List Int} {l:List Ft} (hws:∀ x∈line,wfShip x) (hwh:wfH h) (hw:wfF l) (hn:line.length≤1048576) (hh:h.length≤1048576) (hl:l.length≤1048576) (hk:2200001 < k):impl_NoticedAt.f k line h l=some (resNoticed line h l):=by
 unfold impl_NoticedAt.f resNoticed
 rw [implCodeF hwh hw hn hh hl hk]
 simp only [Option.bind_some]
 by_cases hc:codeF line h l=0
 ·rw [if_pos hc,if_pos hc]
  obtain ⟨hv,hm,hf⟩:=code_ok.1 hc
  have v:=(validB_iff hws).1 hv
  rw [implReadL v hwh hw hf hh (by omega)]
  simp only [Option.bind_some]
  rw [v.implTimes (by omega)]
  simp only [Option.bind_some]
  have ht:=timesL_len (-1) 0 line
  have:=v.most
  have e:=implNoticed_all v.timesOK (read:=readL line h l) (by rw [readL_len,ht]) (by omega) (readL_small v hwh hw hh) line.length 0 k (by omega) (by omega)
  rw [ht] at e ⊢
  exact e
 ·rw [if_neg hc,if_neg hc]
def wrStep (m:List Int) (read:Hs) (i:Nat):List Int:=match meanO (rd_L9 read (i:Int)) with|some o=>if o=m then [] else [(i:Int)]|none=>[]
def wrTo (m:List Int) (read:Hs):Nat→List Int
 | 0=>[]
 | n + 1=>wrTo m read n ++ wrStep m read n
theorem wrTo_len (m:List Int) (read:Hs):∀ n,(wrTo m read n).length≤n:=by
 intro n
 induction n with
 | zero=>simp [wrTo]
 | succ n ih =>
  rw [wrTo,List.length_append]
  have:(wrStep m read n).length≤1:=by
   unfold wrStep
   split
   ·split <;> simp
   ·simp
  omega
theorem implEqM {k:Nat} {a b:List Int} (ha:a.length≤1048576) (hk:a.length < k):slices_Equal_Meaning_int8.f k a b=some (decide (a=b)):=by
 unfold slices_Equal_Meaning_int8.f
 by_cases h:a.length=b.length
 ·rw [if_pos (by omega)]
  refine eq_loop (fun k i=>slices_Equal_Meaning_int8.l0 k a b (a.length:Int) i) a b h (fun k i hi=>?_) (fun k=>?_) k hk
  ·simp only [slices_Equal_Meaning_int8.l0]
   rw [if_pos (by omega),if_pos (by omega),if_pos (by omega),if_pos (by omega),w64 (by omega) (by omega)]
   rfl
  ·simp only [slices_Equal_Meaning_int8.l0]
   rw [if_neg (by omega)]
 ·rw [if_neg (by omega),decide_eq_false]
  rintro rfl
  exact h rfl
theorem meanO_len {h m:List Int} (hm:meanO h=some m):m.length≤8:=by
 unfold meanO at hm
 split at hm
 ·rename_i hl
  split at hm
  ·rename_i s hs
   split at hm
   ·cases hm
    have:=(mto_ok _ hs).1
    omega
   ·cases hm
  ·cases hm
 ·cases hm
theorem implWrong_all {m:List Int} {read:Hs} (hn:read.length≤20) (hr:∀ j,j < read.length→wfH (rd_L9 read (j:Int))∧(rd_L9 read (j:Int)).length≤1048576):∀ d i K,i + d=read.length→d + 2200002≤K→impl_WrongShips.l0 K m (wrTo m read i) read (read.length:Int) (i:Int)=some (wrTo m read read.length,0):=by
 intro d
 induction d with
 | zero =>
  intro i K hd hK
  obtain ⟨K,rfl⟩:∃ m,K=m + 1:=⟨K - 1,by omega⟩
  obtain rfl:i=read.length:=by omega
  simp only [impl_WrongShips.l0]
  rw [if_neg (by omega)]
 | succ d ih =>
  intro i K hd hK
  obtain ⟨K,rfl⟩:∃ m,K=m + 1:=⟨K - 1,by omega⟩
  have hil:i < read.length:=by omega
  obtain ⟨hw,hL⟩:=hr i hil
  have e:=ih (i + 1) K (by omega) (by omega)
  have hlen:=wrTo_len m read i
  rw [show ((i + 1:Nat):Int)=(i:Int) + 1 by omega,wrTo] at e
  unfold wrStep at e
  obtain ⟨o,ho,hm⟩:=implMean_eq (k:=K) hw hL (by omega)
  simp only [impl_WrongShips.l0]
  rw [if_pos (by omega),if_pos (by omega),if_pos (by omega),w64 (by omega) (by omega),ho]
  simp only [Option.bind_some]
  cases hx:meanO (rd_L9 read (i:Int)) with
  | none =>
   rw [hx] at e
   simp only [List.append_nil] at e
   rw [if_neg (by simp)]
   exact e
  | some x =>
   obtain rfl:=hm x hx
   rw [hx] at e
   simp only at e
   have:=meanO_len hx
   rw [if_pos (by simp),implEqM (by omega) (by omega)]
   simp only [Option.bind_some]
   by_cases heq:o=m
   ·rw [if_pos heq,List.append_nil] at e
    rw [decide_eq_true heq,if_pos rfl]
    exact e
   ·rw [if_neg heq] at e
    rw [decide_eq_false heq,if_neg (by simp),if_pos (by omega)]
    exact e
theorem specWrong_all {m:List Int} {read:Hs} (hn:read.length≤20) (hr:∀ j,j < read.length→wfH (rd_L9 read (j:Int))∧(rd_L9 read (j:Int)).length≤1048576):∀ d i K,i + d=read.length→d + 2200002≤K→spec_WrongShips.l0 K m read (wrTo m read i) (i:Int)=some (wrTo m read read.length,0):=by
 intro d
 induction d with
 | zero =>
  intro i K hd hK
  obtain ⟨K,rfl⟩:∃ m,K=m + 1:=⟨K - 1,by omega⟩
  obtain rfl:i=read.length:=by omega
  simp only [spec_WrongShips.l0]
  rw [if_neg (by omega)]
 | succ d ih =>
  intro i K hd hK
  obtain ⟨K,rfl⟩:∃ m,K=m + 1:=⟨K - 1,by omega⟩
  have hil:i < read.length:=by omega
  obtain ⟨hw,hL⟩:=hr i hil
  have e:=ih (i + 1) K (by omega) (by omega)
  have hlen:=wrTo_len m read i
  rw [show ((i + 1:Nat):Int)=(i:Int) + 1 by omega,wrTo] at e
  unfold wrStep at e
  simp only [spec_WrongShips.l0]
  rw [if_pos (by omega),if_pos (by omega),w64 (by omega) (by omega),specMean_eq hw (by omega)]
  cases hx:meanO (rd_L9 read (i:Int)) with
  | none =>
   rw [hx] at e
   simp only [List.append_nil] at e
   simp only [Option.bind_some]
   rw [if_neg (by simp)]
   exact e
  | some x =>
   rw [hx] at e
   simp only at e
   have:=meanO_len hx
   simp only [Option.bind_some]
   rw [if_pos trivial,specEqH (by omega) (by omega)]
   simp only [Option.bind_some]
   by_cases heq:x=m
   ·rw [if_pos heq,List.append_nil] at e
    rw [decide_eq_true heq,if_pos rfl]
    exact e
   ·rw [if_neg heq] at e
    rw [decide_eq_false heq,if_neg (by simp),if_pos (by omega)]
    exact e
def resWrong (line:List Sp) (h:List Int) (l:List Ft):List Int × Int:=if codeF line h l=0 then (wrTo ((meanO h).getD []) (readL line h l) line.length,0) else ([],codeF line h l)
theorem implWrong_eq {k:Nat} {line:List Sp} {h:List Int} {l:List Ft} (hws:∀ x∈line,wfShip x) (hwh:wfH h) (hw:wfF l) (hn:line.length≤1048576) (hh:h.length≤1048576) (hl:l.length≤1048576) (hk:2200100 < k):impl_WrongShips.f k line h l=some (resWrong line h l):=by
 unfold impl_WrongShips.f resWrong
 rw [implCodeF hwh hw hn hh hl (by omega)]
 simp only [Option.bind_some]
 by_cases hc:codeF line h l=0
 ·rw [if_pos hc,if_pos hc]
  obtain ⟨hv,hm,hf⟩:=code_ok.1 hc
  have v:=(validB_iff hws).1 hv
  obtain ⟨o,ho,hom⟩:=implMean_eq (k:=k) hwh hh (by omega)
  obtain ⟨x,hx⟩:=Option.isSome_iff_exists.1 hm
  obtain rfl:=hom x hx
  rw [ho]
  simp only [Option.bind_some]
  rw [implReadL v hwh hw hf hh (by omega)]
  simp only [Option.bind_some]
  have:=v.most
  have e:=implWrong_all (m:=o) (read:=readL line h l) (by rw [readL_len];omega) (fun j hj=>by
   rw [readL_len] at hj
   have:=readL_at v hwh hw hj
   exact ⟨this.1,by omega⟩) line.length 0 k (by rw [readL_len];omega) (by omega)
  rw [readL_len] at e ⊢
  rw [hx]
  exact e
 ·rw [if_neg hc,if_neg hc]
theorem specWrong_eq {k:Nat} {line:List Sp} {h:List Int} {l:List Ft} (hws:∀ x∈line,wfShip x) (hwh:wfH h) (hw:wfF l) (hn:line.length≤1048576) (hh:h.length≤1048576) (hk:2200100 < k):spec_WrongShips.f k line h l=some (resWrong line h l):=by
 unfold spec_WrongShips.f resWrong
 rw [specCodeF hws hwh hw hn hh (by omega)]
 simp only [Option.bind_some]
 by_cases hc:codeF line h l=0
 ·rw [if_pos hc,if_pos hc]
  obtain ⟨hv,hm,hf⟩:=code_ok.1 hc
  have v:=(validB_iff hws).1 hv
  obtain ⟨x,hx⟩:=Option.isSome_iff_exists.1 hm
  rw [specMean_eq hwh (by omega),hx]
  simp only [Option.bind_some]
  rw [specReadL v hwh hw hf hh (by omega)]
  simp only [Option.bind_some]
  have:=v.most
  have e:=specWrong_all (m:=x) (read:=readL line h l) (by rw [readL_len];omega) (fun j hj=>by
   rw [readL_len] at hj
   have:=readL_at v hwh hw hj
   exact ⟨this.1,by omega⟩) line.length 0 k (by rw [readL_len];omega) (by omega)
  rw [readL_len] at e
  exact e
 ·rw [if_neg hc,if_neg hc]
end Go.Proofs.Ytcajnbkbdbkpgac.G.Pure
end

section
namespace Go.Proofs.Ytcajnbkbdbkpgac.G.Pure
open Go.RowKit Go.Proofs.Ytcajnbkbdbkpgac.G Go.Proofs.YtcajnbkbdbkpgacW.PrintWords Go.Proofs.YtcajnbkbdbkpgacW.PrintLast Go.Proofs.YtcajnbkbdbkpgacW.PrintMore
set_option linter.unusedVariables false
set_option linter.unusedSimpArgs false
def Shape (h g:List Int):Prop:=h.length=g.length∧∀ i:Nat,i < h.length→rd h (i:Int)=rd g (i:Int)∨(0≤rd h (i:Int)∧rd h (i:Int)≤39∧0≤rd g (i:Int)∧rd g (i:Int)≤39)
theorem Shape_refl (h:List Int):Shape h h:=⟨rfl,fun _ _=>.inl rfl⟩
theorem mto_shape {h g:List Int} (hs:Shape h g):∀ n,n≤h.length→∀ s,mto h n=some s→∃ s',mto g n=some s'∧s'.2=s.2∧s'.1.length=s.1.length:=by
 intro n
 induction n with
 | zero=>intro _ s h0;cases h0;exact ⟨_,rfl,rfl,rfl⟩
 | succ n ih =>
  intro hn s hm
  rw [mto] at hm
  obtain ⟨s0,h0,h1⟩:=Option.bind_eq_some_iff.1 hm
  obtain ⟨s0',h0',e2,e1⟩:=ih (by omega) s0 h0
  have hst:∃ s',mstep (rd g (n:Int)) s0'=some s'∧s'.2=s.2∧s'.1.length=s.1.length:=by
   unfold mstep at h1 ⊢
   rcases hs.2 n (by omega) with e|⟨q1,q2,q3,q4⟩
   ·rw [← e,e2,e1]
    split at h1
    ·rename_i c1
     rw [if_pos c1]
     split at h1
     ·cases h1
     ·rename_i c2
      cases h1
      rw [if_neg c2]
      exact ⟨_,rfl,rfl,by simp [e1]⟩
    ·rename_i c1
     rw [if_neg c1]
     split at h1
     ·rename_i c2
      rw [if_pos c2]
      split at h1
      ·rename_i c3
       cases h1
       rw [if_pos c3]
       exact ⟨_,rfl,rfl,by simp [e1]⟩
      ·cases h1
     ·rename_i c2
      rw [if_neg c2]
      split at h1
      ·rename_i c3
       cases h1
       rw [if_pos c3]
       exact ⟨_,rfl,rfl,by simp [e1]⟩
      ·cases h1
   ·rw [if_neg (by omega),if_neg (by omega),if_pos ⟨q1,q2⟩] at h1
    cases h1
    rw [if_neg (by omega),if_neg (by omega),if_pos ⟨q3,q4⟩]
    exact ⟨_,rfl,e2,by simp [e1]⟩
  obtain ⟨s',q1,q2,q3⟩:=hst
  exact ⟨s',by rw [mto,h0'];exact q1,q2,q3⟩
theorem mean_shape {h g:List Int} (hs:Shape h g) (hm:(meanO h).isSome=true):(meanO g).isSome=true:=by
 unfold meanO at hm ⊢
 rw [← hs.1]
 by_cases hl:1≤h.length∧h.length≤8
 ·rw [if_pos hl] at hm ⊢
  cases h1:mto h h.length with
  | none=>rw [h1] at hm;cases hm
  | some s =>
   rw [h1] at hm
   obtain ⟨s',q1,q2,q3⟩:=mto_shape hs h.length (Nat.le_refl _) s h1
   rw [q1]
   simp only at hm ⊢
   rw [q2,q3]
   split at hm
   ·rename_i c;rw [if_pos c];rfl
   ·cases hm
 ·rw [if_neg hl] at hm;cases hm
theorem mean_class {h:List Int} (hm:(meanO h).isSome=true):(1≤h.length∧h.length≤8)∧∀ i:Nat,i < h.length→rd h (i:Int)≤39:=by
 unfold meanO at hm
 by_cases hl:1≤h.length∧h.length≤8
 ·rw [if_pos hl] at hm
  refine ⟨hl,fun i hi=>?_⟩
  cases h1:mto h (i + 1) with
  | none=>rw [mto_none h1 (show i + 1≤h.length from hi)] at hm;cases hm
  | some s =>
   rw [mto] at h1
   obtain ⟨s0,_,h2⟩:=Option.bind_eq_some_iff.1 h1
   unfold mstep at h2
   split at h2
   ·omega
   ·split at h2
    ·omega
    ·split at h2
     ·omega
     ·cases h2
 ·rw [if_neg hl] at hm;cases hm
theorem rd_setI {l:List Int} {j:Nat} (v:Int) {i:Nat} (hi:i < l.length):rd (l.set j v) (i:Int)=if j=i then v else rd l (i:Int):=by
 simp only [rd,Int.toNat_natCast,List.getD_eq_getElem?_getD,List.getElem?_set]
 by_cases h:j=i
 ·rw [if_pos h,if_pos h,if_pos (by omega)];rfl
 ·rw [if_neg h,if_neg h]
theorem lay_shape {n:Nat} {h:List Int} (hm:(meanO h).isSome=true) {f:Ft} (hf:faultOk n h f=true) {own:List Int} (ho:Shape h own) (i:Nat):Shape h (layF i own f):=by
 unfold layF
 split
 ·have hc:=(mean_class hm).2
  simp only [faultOk,Bool.and_eq_true,decide_eq_true_eq] at hf
  obtain ⟨_,⟨h1,h2⟩,⟨h3,h4⟩,h5⟩:=hf
  obtain ⟨p,hp⟩:∃ p:Nat,f.f1=(p:Int):=⟨f.f1.toNat,by omega⟩
  rw [hp] at h2 h5
  rw [hp,Int.toNat_natCast]
  refine ⟨by rw [List.length_set];exact ho.1,fun j hj=>?_⟩
  rw [rd_setI _ (by rw [← ho.1];exact hj)]
  by_cases e:p=j
  ·subst e
   rw [if_pos rfl]
   exact .inr ⟨h5,hc p hj,h3,h4⟩
  ·rw [if_neg e]
   exact ho.2 j hj
 ·exact ho
theorem lay_all {n:Nat} {h:List Int} (hm:(meanO h).isSome=true) (i:Nat):∀ (l:List Ft) (own:List Int),(∀ f∈l,faultOk n h f=true)→Shape h own→Shape h (l.foldl (layF i) own)
 | [],own,_,ho=>ho
 | f :: l,own,hl,ho=>lay_all hm i l _ (fun g hg=>hl g (by simp [hg])) (lay_shape hm (hl f (by simp)) ho i)
theorem lay_none (i:Nat):∀ (l:List Ft) (own:List Int),(∀ f∈l,f.f0≠(i:Int))→l.foldl (layF i) own=own
 | [],_,_=>rfl
 | f :: l,own,hl=>by
  rw [List.foldl_cons,show layF i own f=own from if_neg (hl f (by simp))]
  exact lay_none i l own (fun g hg=>hl g (by simp [hg]))
theorem rb_at {h:List Int} {l:List Ft} {ts:List Tm} {n j:Nat} (hj:j < n):rd_L9 (rbGo h l ts n) (j:Int)=if j=0 then h else if 0≤(rd_T47 ts (j:Int)).f0 then l.foldl (layF j) (rd_L9 (rbGo h l ts j) (rd_T47 ts (j:Int)).f0) else []:=by
 rw [rbGo_get n hj,rdH (by rw [rbGo_len];omega)]
 simp only [rbGo]
 rw [List.getElem_append_right (by rw [rbGo_len];omega)]
 simp [rbGo_len]
theorem rb_from {h:List Int} {l:List Ft} {ts:List Tm} {n j m:Nat} (hj:j < n) (hm:m < j):rd_L9 (rbGo h l ts j) (m:Int)=rd_L9 (rbGo h l ts n) (m:Int):=by
 rw [rbGo_get j hm,rbGo_get n (by omega)]
theorem rb_shape {h:List Int} {l:List Ft} {ts:List Tm} (hok:TimesOK ts) (hm:(meanO h).isSome=true) {N:Nat} (hl:∀ f∈l,faultOk N h f=true) {n:Nat} (hn:n≤ts.length):∀ d j,j≤d→j < n→(reachT ts j→Shape h (rd_L9 (rbGo h l ts n) (j:Int)))∧(¬ reachT ts j→rd_L9 (rbGo h l ts n) (j:Int)=[]):=by
 intro d
 induction d with
 | zero =>
  intro j hj hjn
  obtain rfl:j=0:=by omega
  rw [rb_at hjn,if_pos rfl]
  exact ⟨fun _=>Shape_refl h,fun h_=>absurd (.inl rfl) h_⟩
 | succ d ih =>
  intro j hj hjn
  rw [rb_at hjn]
  by_cases h0:j=0
  ·rw [if_pos h0]
   exact ⟨fun _=>Shape_refl h,fun h_=>absurd (.inl h0) h_⟩
  ·rw [if_neg h0]
   by_cases h1:0≤(rd_T47 ts (j:Int)).f0
   ·rw [if_pos h1]
    obtain ⟨m,e,hmj,hr⟩:=reach_from hok (by omega) h1
    refine ⟨fun _=>?_,fun h_=>absurd (.inr h1) h_⟩
    rw [e,rb_from (n:=n) (by omega) hmj]
    exact lay_all hm j l _ hl ((ih m (by omega) (by omega)).1 hr)
   ·rw [if_neg h1]
    exact ⟨fun h_=>h_.elim (fun e=>absurd e h0) (fun e=>absurd e h1),fun _=>rfl⟩
theorem rb_right {h:List Int} {ts:List Tm} (hok:TimesOK ts) {n:Nat} (hn:n≤ts.length):∀ d j,j≤d→j < n→reachT ts j→rd_L9 (rbGo h [] ts n) (j:Int)=h:=by
 intro d
 induction d with
 | zero =>
  intro j hj hjn _
  obtain rfl:j=0:=by omega
  rw [rb_at hjn,if_pos rfl]
 | succ d ih =>
  intro j hj hjn hr
  rw [rb_at hjn]
  by_cases h0:j=0
  ·rw [if_pos h0]
  ·rw [if_neg h0]
   have h1:0≤(rd_T47 ts (j:Int)).f0:=hr.elim (fun e=>absurd e h0) id
   rw [if_pos h1]
   obtain ⟨m,e,hmj,hr'⟩:=reach_from hok (by omega) h1
   rw [e,rb_from (n:=n) (by omega) hmj]
   exact ih m (by omega) (by omega) hr'
theorem rb_same {h:List Int} {l:List Ft} {ts:List Tm} (hok:TimesOK ts) {n:Nat} (hn:n≤ts.length) {j:Nat} (hj:j < n) (h0:j≠0) (h1:0≤(rd_T47 ts (j:Int)).f0) (hf:∀ f∈l,f.f0≠(j:Int)):rd_L9 (rbGo h l ts n) (j:Int)=rd_L9 (rbGo h l ts n) (rd_T47 ts (j:Int)).f0:=by
 obtain ⟨m,e,hmj,hr'⟩:=reach_from hok (by omega) h1
 rw [rb_at hj,if_neg h0,if_pos h1,lay_none j l _ hf,e,rb_from (n:=n) (by omega) hmj]
theorem faults_each {n:Nat} {h:List Int} {l:List Ft} (hf:faultsOk n h l=true):∀ f∈l,faultOk n h f=true:=by
 unfold faultsOk at hf
 simp only [Bool.and_eq_true,decide_eq_true_eq] at hf
 intro f hfm
 obtain ⟨i,hi,rfl⟩:=List.mem_iff_getElem.1 hfm
 have:=List.all_eq_true.1 hf.2 i (List.mem_range.2 hi)
 unfold badF at this
 rw [rd_impl_Fault hi] at this
 simp only [Bool.not_or,Bool.not_not,Bool.and_eq_true] at this
 exact this.2
theorem wr_mem {m:List Int} {read:Hs}:∀ n (i:Int),i∈wrTo m read n ↔ ∃ j:Nat,i=(j:Int)∧j < n∧∃ o,meanO (rd_L9 read (j:Int))=some o∧o≠m:=by
 intro n
 induction n with
 | zero=>intro i;simp [wrTo]
 | succ n ih =>
  intro i
  rw [wrTo,List.mem_append,ih]
  constructor
  ·rintro (⟨j,h1,h2,h3⟩|h)
   ·exact ⟨j,h1,by omega,h3⟩
   ·unfold wrStep at h
    cases ho:meanO (rd_L9 read (n:Int)) with
    | none=>rw [ho] at h;cases h
    | some o =>
     rw [ho] at h
     simp only at h
     split at h
     ·cases h
     ·rename_i hne
      rw [List.mem_singleton] at h
      exact ⟨n,h,by omega,o,ho,hne⟩
  ·rintro ⟨j,h1,h2,o,h3,h4⟩
   rcases Nat.lt_or_ge j n with e|e
   ·exact .inl ⟨j,h1,e,o,h3,h4⟩
   ·obtain rfl:j=n:=by omega
    right
    unfold wrStep
    rw [h3]
    simp only
    rw [if_neg h4,h1]
    exact List.mem_singleton.2 rfl
theorem wr_right {h m:List Int} {ts:List Tm} (hok:TimesOK ts) (hm:meanO h=some m) {N:Nat} (hN:N≤ts.length):∀ n,n≤N→wrTo m (rbGo h [] ts N) n=[]:=by
 intro n
 induction n with
 | zero=>intro _;rfl
 | succ n ih =>
  intro hn
  rw [wrTo,ih (by omega),List.nil_append]
  unfold wrStep
  by_cases hr:reachT ts n
  ·rw [rb_right hok hN n n (Nat.le_refl _) (by omega) hr,hm]
   simp
  ·have hm':(meanO h).isSome=true:=by rw [hm];rfl
   rw [(rb_shape (l:=[]) (N:=0) hok hm' (fun f hf=>by cases hf) hN n n (Nat.le_refl _) (by omega)).2 hr]
   rfl
end Go.Proofs.Ytcajnbkbdbkpgac.G.Pure
end

section
namespace Go.Proofs.Ytcajnbkbdbkpgac.G.Pure
open Go.RowKit Go.Proofs.Ytcajnbkbdbkpgac.G Go.Proofs.YtcajnbkbdbkpgacW.PrintWords Go.Proofs.YtcajnbkbdbkpgacW.PrintLast Go.Proofs.YtcajnbkbdbkpgacW.PrintMore
set_option linter.unusedVariables false
set_option linter.unusedSimpArgs false
def resRead (line:List Sp) (h:List Int) (l:List Ft):Hs × Int:=if codeF line h l=0 then (readL line h l,0) else ([],codeF line h l)
theorem implRead_eq {k:Nat} {line:List Sp} {h:List Int} {l:List Ft} (hws:∀ x∈line,wfShip x) (hwh:wfH h) (hw:wfF l) (hn:line.length≤1048576) (hh:h.length≤1048576) (hl:l.length≤1048576) (hk:2200001 < k):impl_ReadByAll.f k line h l=some (resRead line h l):=by
 unfold impl_ReadByAll.f resRead
 rw [implCodeF hwh hw hn hh hl hk]
 simp only [Option.bind_some]
 by_cases hc:codeF line h l=0
 ·rw [if_pos hc,if_pos hc]
  obtain ⟨hv,hm,hf⟩:=code_ok.1 hc
  have v:=(validB_iff hws).1 hv
  rw [implReadL v hwh hw hf hh (by omega)]
  simp only [Option.bind_some]
 ·rw [if_neg hc,if_neg hc]
theorem specRead_eq {k:Nat} {line:List Sp} {h:List Int} {l:List Ft} (hws:∀ x∈line,wfShip x) (hwh:wfH h) (hw:wfF l) (hn:line.length≤1048576) (hh:h.length≤1048576) (hk:2200001 < k):spec_ReadByAll.f k line h l=some (resRead line h l):=by
 unfold spec_ReadByAll.f resRead
 rw [specCodeF hws hwh hw hn hh hk]
 simp only [Option.bind_some]
 by_cases hc:codeF line h l=0
 ·rw [if_pos hc,if_pos hc]
  obtain ⟨hv,hm,hf⟩:=code_ok.1 hc
  have v:=(validB_iff hws).1 hv
  rw [specReadL v hwh hw hf hh (by omega)]
  simp only [Option.bind_some]
 ·rw [if_neg hc,if_neg hc]
end Go.Proofs.Ytcajnbkbdbkpgac.G.Pure
end

section
namespace Go.Proofs.Ytcajnbkbdbkpgac.G.Pure
open Go.RowKit Go.Proofs.Ytcajnbkbdbkpgac.G Go.Proofs.YtcajnbkbdbkpgacW.PrintWords Go.Proofs.YtcajnbkbdbkpgacW.PrintLast Go.Proofs.YtcajnbkbdbkpgacW.PrintMore
set_option linter.unusedVariables false
set_option linter.unusedSimpArgs false
def resTimesOf (line:List Sp):List Tm × Int:=if validB line=true then (timesL (-1) 0 line,0) else ([],1)
theorem specTimesOf_eq {k:Nat} {line:List Sp} (hw:∀ x∈line,wfShip x) (hl:line.length≤1048576) (hk:1099000 < k):spec_TimesOf.f k line=some (resTimesOf line):=by
 unfold spec_TimesOf.f resTimesOf
 rw [specOk_eq k line hw hl (by omega)]
 simp only [Option.bind_some]
 split
 ·rename_i h
  rw [((validB_iff hw).1 h).specTimes (by omega)]
  rfl
 ·rfl
end Go.Proofs.Ytcajnbkbdbkpgac.G.Pure
end

section
namespace Go.Proofs.Ytcajnbkbdbkpgac.G.Pure
open Go.RowKit Go.Proofs.Ytcajnbkbdbkpgac.G Go.Proofs.YtcajnbkbdbkpgacW.PrintWords Go.Proofs.YtcajnbkbdbkpgacW.PrintLast Go.Proofs.YtcajnbkbdbkpgacW.PrintMore
set_option linter.unusedVariables false
set_option linter.unusedSimpArgs false
theorem bytes_ofF {l:List Int} (h:∀ x∈l,(Lit.int .u8 x).wf=true):Bytes l:=fun x hx=>by
 have:=h x hx
 simp [Lit.wf,IntKind.min,IntKind.max,IntKind.signed,IntKind.bits] at this
 omega
theorem alike_eq {k:Nat} {a b:List Int} (ha:a.length≤1048576) (hk:a.length < k):spec_A2Alike.f k a b=some (decide (a=b)):=by
 unfold spec_A2Alike.f
 rw [specEqH ha hk]
 rfl
theorem meaningOf_eq {k:Nat} {h m:List Int} (hw:wfH h) (hm:meanO h=some m) (hk:100 < k):spec_MeaningOf.f k h=some (m,0):=by
 unfold spec_MeaningOf.f
 rw [specMean_eq hw hk,hm]
 rfl
theorem hasF_in {s:Int} {t:List Int} (ht:t.length≤4000):∀ d i K,i + d=t.length→d + 1≤K→spec_A2Has.l0 K t s (i:Int)=some (decide (s∈t.drop i)):=by
 intro d
 induction d with
 | zero =>
  intro i K hi hK
  obtain ⟨K,rfl⟩:∃ m,K=m + 1:=⟨K - 1,by omega⟩
  rw [spec_A2Has.l0,if_neg (by omega),List.drop_of_length_le (by omega)]
  simp
 | succ d ih =>
  intro i K hi hK
  obtain ⟨K,rfl⟩:∃ m,K=m + 1:=⟨K - 1,by omega⟩
  have e:=ih (i + 1) K (by omega) (by omega)
  have hil:i < t.length:=by omega
  rw [spec_A2Has.l0,if_pos (by omega),if_pos (by omega),w64 (by omega) (by omega),show (i:Int) + 1=((i + 1:Nat):Int) by omega,e]
  have hr:rd t (i:Int)=t[i]:=by simp [rd,List.getD_eq_getElem?_getD,List.getElem?_eq_getElem hil]
  have hd:(s∈t.drop i) ↔ (s=t[i]∨s∈t.drop (i + 1)):=by rw [List.drop_eq_getElem_cons hil];exact List.mem_cons
  rw [hr]
  by_cases h:t[i]=s
  ·rw [if_pos h,decide_eq_true (hd.2 (.inl h.symm))]
  ·rw [if_neg h]
   exact congrArg some (decide_eq_decide.2 ⟨fun q=>hd.2 (.inr q),fun q=>(hd.1 q).resolve_left (fun h_=>h h_.symm)⟩)
theorem hasF {s:Int} {t:List Int} (ht:t.length≤4000) {k:Nat} (hk:10000≤k):spec_A2Has.f k t s=some (decide (s∈t)):=by
 have:=hasF_in (s:=s) ht t.length 0 k (by omega) (by omega)
 rw [List.drop_zero,show ((0:Nat):Int)=0 from rfl] at this
 exact this
theorem sameHs_in {l:Hs} (hl:l.length≤1000) (hi:∀ x∈l,x.length≤1048576):∀ (d i k:Nat),i + d=l.length→1048577 + d < k→spec_A2SameHoists.l0 k l l (i:Int)=some true:=by
 intro d
 induction d with
 | zero =>
  intro i k hi' hk
  obtain ⟨k,rfl⟩:∃ m,k=m + 1:=⟨k - 1,by omega⟩
  rw [spec_A2SameHoists.l0,if_neg (by omega)]
 | succ d ih =>
  intro i k hi' hk
  obtain ⟨k,rfl⟩:∃ m,k=m + 1:=⟨k - 1,by omega⟩
  have e:=ih (i + 1) k (by omega) (by omega)
  have hx:=hi l[i] (List.getElem_mem (by omega))
  rw [show ((i + 1:Nat):Int)=(i:Int) + 1 by omega] at e
  rw [spec_A2SameHoists.l0,if_pos (by omega),if_pos (by omega),if_pos (by omega),rdH (by omega),specEqH hx (by omega),decide_eq_true rfl]
  simp only [Option.bind_some,if_true]
  rw [w64 (by omega) (by omega)]
  exact e
theorem sameHs {l:Hs} (hl:l.length≤1000) (hi:∀ x∈l,x.length≤1048576) {k:Nat} (hk:2000000 < k):spec_A2SameHoists.f k l l=some true:=by
 unfold spec_A2SameHoists.f
 have e:=sameHs_in hl hi l.length 0 k (by omega) (by omega)
 rw [show ((0:Nat):Int)=0 from rfl] at e
 rw [if_pos rfl,e]
theorem sameNF_in {l:List Int} (hl:l.length≤1000):∀ (d i k:Nat),i + d=l.length→d < k→spec_l00Same.l0 k l l (i:Int)=some true:=by
 intro d
 induction d with
 | zero =>
  intro i k hi hk
  obtain ⟨k,rfl⟩:∃ m,k=m + 1:=⟨k - 1,by omega⟩
  rw [spec_l00Same.l0,if_neg (by omega)]
 | succ d ih =>
  intro i k hi hk
  obtain ⟨k,rfl⟩:∃ m,k=m + 1:=⟨k - 1,by omega⟩
  have e:=ih (i + 1) k (by omega) (by omega)
  rw [show ((i + 1:Nat):Int)=(i:Int) + 1 by omega] at e
  rw [spec_l00Same.l0]
  simp only [if_pos (show (i:Int) < (l.length:Int) by omega),if_pos (show (0:Int)≤(i:Int) by omega),if_true,w64 (n:=(i:Int) + 1) (by omega) (by omega)]
  exact e
theorem sameNF {l:List Int} (hl:l.length≤1000) {k:Nat} (hk:2000 < k):spec_A2Same.f k l l=some true:=by
 unfold spec_A2Same.f spec_l00Same.f
 have e:=sameNF_in hl l.length 0 k (by omega) (by omega)
 rw [show ((0:Nat):Int)=0 from rfl] at e
 rw [if_pos rfl,e]
 rfl
def firstF (p:Nat→Bool):Nat→Int
 | 0=>-1
 | i + 1=>if firstF p i < 0 then (if p i=true then (i:Int) else -1) else firstF p i
theorem firstF_find (p:Nat→Bool):∀ n,firstF p n=match (List.range n).find? p with|some i=>(i:Int)|none=>-1:=by
 intro n
 induction n with
 | zero=>rfl
 | succ n ih =>
  rw [firstF,List.range_succ,List.find?_append]
  cases hf:(List.range n).find? p with
  | some i =>
   rw [hf] at ih
   simp only at ih
   rw [ih,if_neg (by omega)]
   rfl
  | none =>
   rw [hf] at ih
   simp only at ih
   rw [ih,if_pos (by decide)]
   cases hp:p n with
   | true=>simp [hp]
   | false=>simp [hp]
theorem firstF_lo (p:Nat→Bool):∀ i,-1≤firstF p i:=by
 intro i
 induction i with
 | zero=>exact Int.le_refl _
 | succ i ih=>rw [firstF];split <;> (try split) <;> omega
theorem faulty_loop {line:List Sp} {h:List Int} {fs:List Ft} {due right:Hs} {model:List Int} {ts:List Tm} {m:List Int} (hl:fs.length≤20) (hwf:wfF fs) (x24 x25:Int) {i:Nat}:∀ d j k (b:Bool),j + d=fs.length→d < k →
  laws_FnFaults.l1 k line h fs due right model ts m x24 x25 (i:Int) b (j:Int)=laws_FnFaults.l1 (k - d) line h fs due right model ts m x24 x25 (i:Int) (b || (fs.drop j).any (fun f=>f.f0 == (i:Int))) (fs.length:Int):=by
 intro d
 induction d with
 | zero =>
  intro j k b hj hk
  obtain rfl:j=fs.length:=by omega
  rw [List.drop_of_length_le (by omega)]
  simp
 | succ d ih =>
  intro j k b hj hk
  obtain ⟨k,rfl⟩:∃ m,k=m + 1:=⟨k - 1,by omega⟩
  have hjl:j < fs.length:=by omega
  have e:=fun b=>ih (j + 1) k b (by omega) (by omega)
  have hb:=i8b (hwf fs[j] (List.getElem_mem hjl)).1
  rw [show ((j + 1:Nat):Int)=(j:Int) + 1 by omega] at e
  rw [List.drop_eq_getElem_cons hjl,List.any_cons,show k + 1 - (d + 1)=k - d by omega]
  rw [laws_FnFaults.l1,if_pos (by omega),w64 (n:=(j:Int) + 1) (by omega) (by omega),rd_impl_Fault hjl,w64 (n:=fs[j].f0) (by omega) (by omega)]
  cases b with
  | true=>rw [if_pos rfl,e true];simp
  | false=>rw [if_neg (by decide),if_pos (by omega),e _];simp
structure FCase (line:List Sp) (h m:List Int) (fs:List Ft):Prop where
 v:ValidL line
 l8:line.length≤8
 hm:meanO h=some m
 hw:wfH h
 ok:faultsOk line.length h fs=true
 wf:wfF fs
theorem bad_zero {line:List Sp} {h m:List Int} {fs:List Ft} (c:FCase line h m fs):badH h (readL line h fs) (timesL (-1) 0 line) 0=false:=by
 have hp:=c.v.pos
 have h20:=c.v.most
 have ht:=timesL_len (-1) 0 line
 have hf:=c.v.timesOK.first _ (List.getElem?_eq_getElem (show 0 < (timesL (-1) 0 line).length by omega))
 unfold badH fromH
 rw [rd_impl_Times (by omega),if_neg (by omega)]
 have:rd_L9 (readL line h fs) ((0:Nat):Int)=h:=by
  unfold readL
  rw [rb_at (by omega),if_pos rfl]
 rw [this]
 simp
theorem reach_iff {ts:List Tm} (hok:TimesOK ts) {i:Nat} (hi:i < ts.length):reachT ts i ↔ 0≤(rd_T47 ts (i:Int)).f3:=by
 have hs:=hok.sign (List.getElem?_eq_getElem hi)
 unfold reachT
 rw [rd_impl_Times hi]
 omega
theorem bad_iff {line:List Sp} {h m:List Int} {fs:List Ft} (c:FCase line h m fs) {i:Nat} (hi:i < line.length):badH h (readL line h fs) (timesL (-1) 0 line) i=true ↔ (0 < i∧0≤(rd_T47 (timesL (-1) 0 line) (i:Int)).f0∧rd_L9 (readL line h fs) (i:Int)≠rd_L9 (readL line h fs) (rd_T47 (timesL (-1) 0 line) (i:Int)).f0):=by
 have ht:=timesL_len (-1) 0 line
 rcases Nat.eq_zero_or_pos i with h0|h0
 ·subst h0
  rw [bad_zero c]
  simp
 ·have hs:=c.v.timesOK.sign (List.getElem?_eq_getElem (show i < (timesL (-1) 0 line).length by omega))
  unfold badH fromH
  rw [rd_impl_Times (by omega)]
  by_cases h1:0≤((timesL (-1) 0 line)[i]'(by omega)).f0
  ·rw [if_pos h1,decide_eq_true (by omega)]
   simp [h0,h1]
  ·rw [decide_eq_false (by omega)]
   simp [h1]
theorem first_sign {line:List Sp} {h m:List Int} {fs:List Ft} (c:FCase line h m fs):∀ i,i≤line.length→(firstF (badH h (readL line h fs) (timesL (-1) 0 line)) i < 0 ↔ ntTo (readL line h fs) (timesL (-1) 0 line) i < 0):=by
 intro i
 induction i with
 | zero=>intro _;simp [firstF,ntTo]
 | succ i ih =>
  intro hi
  have ih:=ih (by omega)
  have hb:=bad_iff c (i:=i) (by omega)
  have ht:=timesL_len (-1) 0 line
  have hs:=c.v.timesOK.sign (List.getElem?_eq_getElem (show i < (timesL (-1) 0 line).length by omega))
  rw [← rd_impl_Times (by omega)] at hs
  rw [firstF,ntTo]
  unfold ntStep
  by_cases h1:0≤(rd_T47 (timesL (-1) 0 line) (i:Int)).f0
  ·rw [if_pos h1]
   by_cases h2:rd_L9 (readL line h fs) (i:Int)=rd_L9 (readL line h fs) (rd_T47 (timesL (-1) 0 line) (i:Int)).f0
   ·have hbf:¬ badH h (readL line h fs) (timesL (-1) 0 line) i=true:=fun h_=>(hb.1 h_).2.2 h2
    rw [if_pos h2,if_neg hbf]
    split <;> omega
   ·have hpos:0 < i:=by
     rcases Nat.eq_zero_or_pos i with e|e
     ·subst e
      have hf:=c.v.timesOK.first _ (List.getElem?_eq_getElem (show 0 < (timesL (-1) 0 line).length by omega))
      rw [← rd_impl_Times (by omega)] at hf
      omega
     ·exact e
    rw [if_neg h2,if_pos (hb.2 ⟨hpos,h1,h2⟩)]
    split <;> split <;> (try split) <;> omega
  ·have hbf:¬ badH h (readL line h fs) (timesL (-1) 0 line) i=true:=fun h_=>h1 (hb.1 h_).2.1
   rw [if_neg h1,if_neg hbf]
   split <;> omega
theorem fault_end {line:List Sp} {h m:List Int} {fs:List Ft} (c:FCase line h m fs) (hws:∀ x∈line,wfShip x) (hfl:fs.length≤20) {K:Nat} (hK:2900000 < K) (model:List Int) :
  laws_FnFaults.l0 (K + 2) line h fs (readL line h fs) (readL line h []) model (timesL (-1) 0 line) m (firstF (badH h (readL line h fs) (timesL (-1) 0 line)) line.length) (ntTo (readL line h fs) (timesL (-1) 0 line) line.length) (line.length:Int)=some true:=by
 have hm':(meanO h).isSome=true:=by rw [c.hm];rfl
 have hh:=(mean_class hm').1
 have h20:=c.v.most
 have ht:=timesL_len (-1) 0 line
 have hok:=c.v.timesOK
 have hvB:=(validB_iff hws).2 c.v
 have rB:∀ rd_:Hs,rd_.length=line.length→resBlamed line h rd_=blamed h rd_ (timesL (-1) 0 line):=fun rd_ hl=>by
  unfold resBlamed
  rw [if_pos ⟨hvB,hm'⟩,if_pos hl]
 have rN:resNoticed line h fs=ntEnd (ntTo (readL line h fs) (timesL (-1) 0 line) line.length):=if_pos (code_ok.2 ⟨hvB,hm',c.ok⟩)
 have wn:wfF ([]:List Ft):=fun x hx=>by cases hx
 have hmiss:blamed h (readL line h []) (timesL (-1) 0 line)=(0,6):=by
  unfold blamed
  rw [find_miss (fun j hj=>?_)]
  rw [ht] at hj
  have hs:=hok.sign (List.getElem?_eq_getElem (show j < (timesL (-1) 0 line).length by omega))
  rw [← rd_impl_Times (by omega)] at hs
  unfold badH
  by_cases h2:0≤(rd_T47 (timesL (-1) 0 line) (j:Int)).f2
  ·have hr:reachT (timesL (-1) 0 line) j:=(reach_iff hok (by omega)).2 (by omega)
   have e1:rd_L9 (readL line h []) (j:Int)=h:=rb_right hok (by omega) j j (Nat.le_refl _) hj hr
   have e2:fromH h (readL line h []) (rd_T47 (timesL (-1) 0 line) (j:Int))=h:=by
    unfold fromH
    by_cases h0:0≤(rd_T47 (timesL (-1) 0 line) (j:Int)).f0
    ·rw [if_pos h0]
     obtain ⟨q,e,hq,hr'⟩:=reach_from hok (by omega) h0
     rw [e]
     exact rb_right hok (by omega) q q (Nat.le_refl _) (by omega) hr'
    ·rw [if_neg h0]
   rw [e1,e2]
   simp
  ·rw [decide_eq_false h2]
   rfl
 rw [laws_FnFaults.l0,if_neg (by omega),implBlamed_eq hws c.hw (by omega) (readL_small c.v c.hw c.wf (by omega)) (by omega),implBlamed_eq hws c.hw (by omega) (readL_small c.v c.hw wn (by omega)) (by omega),implNoticed_eq hws c.hw c.wf (by omega) (by omega) (by omega) (by omega),rB _ readL_len,rB _ readL_len,rN,hmiss]
 simp only [Option.bind_some,if_true]
 have hsg:=first_sign c line.length (Nat.le_refl _)
 have hff:=firstF_find (badH h (readL line h fs) (timesL (-1) 0 line)) line.length
 unfold blamed
 rw [ht]
 generalize ntTo (readL line h fs) (timesL (-1) 0 line) line.length=nt at *
 unfold ntEnd
 cases hf:(List.range line.length).find? (badH h (readL line h fs) (timesL (-1) 0 line)) with
 | some i =>
  rw [hf] at hff
  simp only at hff ⊢
  rw [hff] at hsg ⊢
  rw [if_neg (by omega)]
  simp [laws_FnFaults.j5]
 | none =>
  rw [hf] at hff
  simp only at hff ⊢
  rw [hff] at hsg ⊢
  rw [if_pos (hsg.1 (by decide))]
  simp [laws_FnFaults.j5]
theorem fault_rounds {line:List Sp} {h m:List Int} {fs:List Ft} (c:FCase line h m fs) (hws:∀ x∈line,wfShip x) (hfl:fs.length≤20):∀ d i K,i + d=line.length→3000000 + 100 * d≤K →
  laws_FnFaults.l0 K line h fs (readL line h fs) (readL line h []) (wrTo m (readL line h fs) line.length) (timesL (-1) 0 line) m (firstF (badH h (readL line h fs) (timesL (-1) 0 line)) i) (ntTo (readL line h fs) (timesL (-1) 0 line) i) (i:Int)=some true:=by
 have hm':(meanO h).isSome=true:=by rw [c.hm];rfl
 have hh:=(mean_class hm').1
 have h20:=c.v.most
 have ht:=timesL_len (-1) 0 line
 have hok:=c.v.timesOK
 have hsm:=readL_small c.v c.hw c.wf (by omega:h.length≤1048576)
 have hl1:(readL line h fs).length=line.length:=readL_len
 have hl2:(readL line h []).length=line.length:=readL_len
 intro d
 induction d with
 | zero =>
  intro i K hi hK
  obtain ⟨K,rfl⟩:∃ q,K=q + 2:=⟨K - 2,by omega⟩
  obtain rfl:i=line.length:=by omega
  exact fault_end c hws hfl (by omega) _
 | succ d ih =>
  intro i K hi hK
  obtain ⟨K,rfl⟩:∃ q,K=q + 1:=⟨K - 1,by omega⟩
  have hil:i < line.length:=by omega
  have e:=fun K' (h_:3000000 + 100 * d≤K')=>ih (i + 1) K' (by omega) h_
  rw [show ((i + 1:Nat):Int)=(i:Int) + 1 by omega,firstF,ntTo] at e
  have hsh:=rb_shape hok hm' (faults_each c.ok) (Nat.le_of_eq ht.symm) i i (Nat.le_refl _) hil
  have hri:reachT (timesL (-1) 0 line) i→rd_L9 (readL line h []) (i:Int)=h:=fun hr=>rb_right hok (Nat.le_of_eq ht.symm) i i (Nat.le_refl _) hil hr
  have hrn:¬ reachT (timesL (-1) 0 line) i→rd_L9 (readL line h []) (i:Int)=[]:=(rb_shape (l:=[]) (N:=0) hok hm' (fun f hf=>by cases hf) (Nat.le_of_eq ht.symm) i i (Nat.le_refl _) hil).2
  have hlen:(rd_L9 (readL line h []) (i:Int)).length≤8:=by
   by_cases hr:reachT (timesL (-1) 0 line) i
   ·rw [hri hr];omega
   ·rw [hrn hr];simp
  have hrf:=reach_iff hok (i:=i) (by omega)
  have hb:=bad_iff c hil
  have hdw:wfH (rd_L9 (readL line h fs) (i:Int)):=(readL_at c.v c.hw c.wf hil).1
  have hdl:(rd_L9 (readL line h fs) (i:Int)).length≤h.length:=(readL_at c.v c.hw c.wf hil).2
  have hwm:=wr_mem (m:=m) (read:=readL line h fs) line.length (i:Int)
  have hwl:=wrTo_len m (readL line h fs) line.length
  rw [laws_FnFaults.l0,if_pos (by omega),if_pos (by omega),if_pos (by omega),if_pos (by omega),alike_eq (by omega) (by omega)]
  simp only [Option.bind_some]
  by_cases hr:reachT (timesL (-1) 0 line) i
  ·have h3:=hrf.1 hr
   rw [if_neg (by rw [decide_eq_true (hri hr),decide_eq_true h3];decide),if_pos h3]
   obtain ⟨K,rfl⟩:∃ q,K=q + 1 + 1:=⟨K - 2,by omega⟩
   have hso:=mean_shape (hsh.1 hr) hm'
   obtain ⟨o,ho⟩:=Option.isSome_iff_exists.1 hso
   have ho':meanO (rd_L9 (readL line h fs) (i:Int))=some o:=ho
   have hol:=meanO_len ho'
   rw [laws_FnFaults.j2,if_neg (by decide),if_pos (by rw [decide_eq_true h3]),if_pos (by omega),if_pos (by omega),meaningOf_eq hdw ho' (by omega)]
   simp only [Option.bind_some,if_true]
   rw [hasF (by omega) (by omega),alike_eq (by omega) (by omega)]
   simp only [Option.bind_some]
   have hmo:((i:Int)∈wrTo m (readL line h fs) line.length) ↔ o≠m:=by
    rw [hwm]
    constructor
    ·rintro ⟨j,h1,_,o',h2,h3'⟩
     obtain rfl:j=i:=by omega
     rw [ho'] at h2
     cases h2
     exact h3'
    ·intro hne
     exact ⟨i,rfl,hil,o,ho',hne⟩
   rw [show ((decide ((i:Int)∈wrTo m (readL line h fs) line.length)) == decide (o=m))=false by
    by_cases hom:o=m
    ·rw [decide_eq_true hom,decide_eq_false (fun h_=>hmo.1 h_ hom)];rfl
    ·rw [decide_eq_false hom,decide_eq_true (hmo.2 hom)];rfl]
   rw [laws_FnFaults.j3,if_neg (by decide)]
   by_cases h0:(i:Int)=0
   ·rw [if_pos h0,w64 (by omega) (by omega)]
    have hbf:¬ badH h (readL line h fs) (timesL (-1) 0 line) i=true:=fun h_=>by have:=(hb.1 h_).1;omega
    have hf0:¬ 0≤(rd_T47 (timesL (-1) 0 line) (i:Int)).f0:=by
     obtain rfl:i=0:=by omega
     have hf:=hok.first _ (List.getElem?_eq_getElem (show 0 < (timesL (-1) 0 line).length by omega))
     rw [← rd_impl_Times (by omega)] at hf
     omega
    have e1:=e K (by omega)
    rw [if_neg hbf] at e1
    unfold ntStep at e1
    rw [if_neg hf0] at e1
    have hfi:(if firstF (badH h (readL line h fs) (timesL (-1) 0 line)) i < 0 then (-1:Int) else firstF (badH h (readL line h fs) (timesL (-1) 0 line)) i)=firstF (badH h (readL line h fs) (timesL (-1) 0 line)) i:=by
     obtain rfl:i=0:=by omega
     rfl
    rw [hfi] at e1
    exact e1
   ·rw [if_neg h0]
    have hpos:0 < i:=by omega
    have hf0:0≤(rd_T47 (timesL (-1) 0 line) (i:Int)).f0:=hr.elim (fun e_=>by omega) id
    obtain ⟨q,eq_,hq,hr'⟩:=reach_from hok (by omega) hf0
    have hlp:=faulty_loop (line:=line) (h:=h) (fs:=fs) (due:=readL line h fs) (right:=readL line h []) (model:=wrTo m (readL line h fs) line.length) (ts:=timesL (-1) 0 line) (m:=m) hfl c.wf (firstF (badH h (readL line h fs) (timesL (-1) 0 line)) i) (ntTo (readL line h fs) (timesL (-1) 0 line) i) (i:=i) fs.length 0 K false (by omega) (by omega)
    rw [show ((0:Nat):Int)=0 from rfl,List.drop_zero,Bool.false_or] at hlp
    rw [hlp]
    obtain ⟨K',hK'⟩:∃ q,K - fs.length=q + 1:=⟨K - fs.length - 1,by omega⟩
    have e1:=e K' (by omega)
    unfold ntStep at e1
    rw [if_pos hf0] at e1
    rw [hK',laws_FnFaults.l1,if_neg (by omega),if_pos (by omega),if_pos (by omega),if_pos (by omega),if_pos hf0,if_pos (by omega),alike_eq (by omega) (by omega)]
    simp only [Option.bind_some]
    rw [w64 (n:=(i:Int) + 1) (by omega) (by omega)]
    by_cases hsame:rd_L9 (readL line h fs) (i:Int)=rd_L9 (readL line h fs) (rd_T47 (timesL (-1) 0 line) (i:Int)).f0
    ·have hbf:¬ badH h (readL line h fs) (timesL (-1) 0 line) i=true:=fun h_=>(hb.1 h_).2.2 hsame
     rw [decide_eq_true hsame,if_pos rfl]
     rw [if_pos hsame,if_neg hbf] at e1
     have hfi:(if firstF (badH h (readL line h fs) (timesL (-1) 0 line)) i < 0 then (-1:Int) else firstF (badH h (readL line h fs) (timesL (-1) 0 line)) i)=firstF (badH h (readL line h fs) (timesL (-1) 0 line)) i:=by
      split
      ·rename_i hlt
       have:=firstF_lo (badH h (readL line h fs) (timesL (-1) 0 line)) i
       omega
      ·rfl
     rw [hfi] at e1
     exact e1
    ·have hbt:=hb.2 ⟨hpos,hf0,hsame⟩
     have hany:fs.any (fun f=>f.f0 == (i:Int))=true:=by
      apply Classical.byContradiction
      intro hn
      apply hsame
      refine rb_same hok (Nat.le_of_eq ht.symm) hil (by omega) hf0 (fun f hf he=>hn ?_)
      rw [List.any_eq_true]
      exact ⟨f,hf,by simpa using he⟩
     rw [decide_eq_false hsame,if_neg (by decide),if_pos hany]
     rw [if_neg hsame,if_pos hbt] at e1
     split
     ·rename_i hlt
      rw [if_pos hlt] at e1
      split
      ·rename_i h5;rw [if_pos h5] at e1;exact e1
      ·rename_i h5
       rw [if_neg h5] at e1
       split
       ·rename_i h6;rw [if_pos h6] at e1;exact e1
       ·rename_i h6;rw [if_neg h6] at e1;exact e1
     ·rename_i hlt
      rw [if_neg hlt] at e1
      split
      ·rename_i h5;rw [if_pos h5] at e1;exact e1
      ·rename_i h5
       rw [if_neg h5] at e1
       split
       ·rename_i h6;rw [if_pos h6] at e1;exact e1
       ·rename_i h6;rw [if_neg h6] at e1;exact e1
  ·have h3:¬ (rd_T47 (timesL (-1) 0 line) (i:Int)).f3≥0:=fun h_=>hr (hrf.2 h_)
   have hne:¬ rd_L9 (readL line h []) (i:Int)=h:=by
    rw [hrn hr]
    intro h_
    rw [← h_] at hh
    simp at hh
   have hdue:rd_L9 (readL line h fs) (i:Int)=[]:=hsh.2 hr
   rw [if_neg (by rw [decide_eq_false hne,decide_eq_false h3];decide),if_neg h3,if_pos (by omega),hdue]
   obtain ⟨K,rfl⟩:∃ q,K=q + 1:=⟨K - 1,by omega⟩
   have hf0:¬ 0≤(rd_T47 (timesL (-1) 0 line) (i:Int)).f0:=fun h_=>hr (.inr h_)
   have hbf:¬ badH h (readL line h fs) (timesL (-1) 0 line) i=true:=fun h_=>hf0 (hb.1 h_).2.1
   have e1:=e K (by omega)
   unfold ntStep at e1
   rw [if_neg hf0,if_neg hbf] at e1
   have hfi:(if firstF (badH h (readL line h fs) (timesL (-1) 0 line)) i < 0 then (-1:Int) else firstF (badH h (readL line h fs) (timesL (-1) 0 line)) i)=firstF (badH h (readL line h fs) (timesL (-1) 0 line)) i:=by
    split
    ·rename_i hlt
     have:=firstF_lo (badH h (readL line h fs) (timesL (-1) 0 line)) i
     omega
    ·rfl
   rw [hfi] at e1
   rw [laws_FnFaults.j2,if_neg (by decide),if_neg (by rw [decide_eq_false h3];decide),w64 (by omega) (by omega)]
   exact e1
theorem FnFaults (l0:List Int) (l1:List Int) (h00:l0.length≤9223372036854775807) (h01:(∀ x∈l0,(Lit.int .u8 x).wf=true)) (h10:l1.length≤9223372036854775807) (h11:(∀ x∈l1,(Lit.int .u8 x).wf=true)):∃ k,laws_FnFaults.f k l0 l1=some true:=by
 by_cases hbig:(l0.length:Int) > 3000∨(l1.length:Int) > 3000
 ·refine ⟨0,?_⟩
  unfold laws_FnFaults.f laws_a2Long.f
  rcases hbig with h|h
  ·rw [if_pos h];rfl
  ·by_cases h':(l0.length:Int) > 3000
   ·rw [if_pos h'];rfl
   ·rw [if_neg h',decide_eq_true h];rfl
 ·obtain ⟨K,hK⟩:∃ K,4000000 < K:=⟨_,Nat.lt_succ_self _⟩
  refine ⟨K + 1,?_⟩
  obtain ⟨line,e1,v,h8,hfn⟩:=line_ok (bytes_ofF h01) (k:=K + 1) (by omega)
  have hp:=v.pos
  have hws:∀ x∈line,wfShip x:=fun x hx=>fine_wf (hfn x hx)
  obtain ⟨h,e2,hm',hw⟩:=hoist_ok (bytes_ofF h11) (k:=K + 1) (by omega)
  obtain ⟨m,hm⟩:=Option.isSome_iff_exists.1 hm'
  have hh:=(mean_class hm').1
  have hb5:Bytes ([5] ++ l0):=fun x hx=>by
   rcases List.mem_append.1 hx with hx|hx
   ·rw [List.mem_singleton] at hx;omega
   ·exact bytes_ofF h01 x hx
  obtain ⟨fs,e3,hf,hf8,hwf⟩:=faults_ok hp h8 hh hb5 (k:=K + 1) (by omega)
  have c:FCase line h m fs:=⟨v,h8,hm,hw,hf,hwf⟩
  have wn:wfF ([]:List Ft):=fun x hx=>by cases hx
  have hfn0:faultsOk line.length h []=true:=rfl
  have hvB:=(validB_iff hws).2 v
  have ht:=timesL_len (-1) 0 line
  have c1:codeF line h fs=0:=code_ok.2 ⟨hvB,hm',hf⟩
  have c0:codeF line h []=0:=code_ok.2 ⟨hvB,hm',hfn0⟩
  have rR:resRead line h fs=(readL line h fs,0):=if_pos c1
  have rR0:resRead line h []=(readL line h [],0):=if_pos c0
  have rW:resWrong line h fs=(wrTo m (readL line h fs) line.length,0):=by
   unfold resWrong
   rw [if_pos c1,hm]
   rfl
  have rW0:resWrong line h []=([],0):=by
   unfold resWrong
   rw [if_pos c0,hm]
   have:=wr_right v.timesOK hm (Nat.le_of_eq ht.symm) line.length (Nat.le_refl _)
   rw [show (some m).getD []=m from rfl]
   exact congrArg (fun x=>(x,(0:Int))) this
  have rT:resTimesOf line=(timesL (-1) 0 line,0):=if_pos hvB
  have hwl:=wrTo_len m (readL line h fs) line.length
  have hl:laws_a2Long.f l0 l1=some false:=by
   unfold laws_a2Long.f
   rw [if_neg (by omega),decide_eq_false (by omega)]
  unfold laws_FnFaults.f
  rw [hl]
  simp only [Option.bind_some]
  rw [if_neg (by decide),e1]
  simp only [Option.bind_some]
  rw [e2]
  simp only [Option.bind_some]
  rw [if_pos (by simp only [List.length_cons,List.length_nil];omega),e3]
  simp only [Option.bind_some]
  rw [implRead_eq hws hw hwf (by omega) (by omega) (by omega) (by omega),specRead_eq hws hw hwf (by omega) (by omega) (by omega),implRead_eq (l:=[]) hws hw wn (by omega) (by omega) (by simp) (by omega),implWrong_eq hws hw hwf (by omega) (by omega) (by omega) (by omega),specWrong_eq hws hw hwf (by omega) (by omega) (by omega),implWrong_eq (l:=[]) hws hw wn (by omega) (by omega) (by simp) (by omega),specTimesOf_eq hws (by omega) (by omega),rR,rR0,rW,rW0,rT]
  simp only [Option.bind_some,if_true]
  rw [sameHs (by rw [readL_len];omega) (readL_small v hw hwf (by omega)) (by omega)]
  simp only [Option.bind_some,if_true]
  rw [if_pos (by rw [readL_len]),if_pos (by rw [readL_len]),sameNF (by omega) (by omega)]
  simp only [Option.bind_some,if_true,List.length_nil]
  rw [if_pos (by decide),show ((0:Int) != 0)=false from rfl,laws_FnFaults.j0,if_neg (by decide),meaningOf_eq hw hm (by omega)]
  simp only [Option.bind_some,if_true]
  have:=fault_rounds c hws (by omega) line.length 0 K (by omega) (by omega)
  exact this
end Go.Proofs.Ytcajnbkbdbkpgac.G.Pure
end
