/- The law's functions, their contracts, and the plain lemmas: texts of this claim, laid together. -/
import Derived.Deep.Slices
import Derived.Deep.Fields
import Derived.ChangeSame
import Derived.OpenShut
import Derived.Lib.ItoaNum
import Derived.Lib.ParseIntB
import Derived.Lib.Atoi
import Derived.Lib.SplitLaws
import Derived.Lib.Join
import Derived.Test.YtfeehhbnlmhflaaGreatDoorMFnRepaired0
import Derived.Test.YtfeehhbnlmhflaaGreatDoorMFnRepaired1
import Derived.Test.YtfeehhbnlmhflaaGreatDoorMFnRepaired2
section
namespace Go.Proofs.YtfeehhbnlmhflaaGreatDoor.G
open Go.RowKit Go.Proofs.YtfeehhbnlmhflaaGreatDoorW.PrintWords Go.Proofs.YtfeehhbnlmhflaaGreatDoorW.PrintLast Go.Proofs.YtfeehhbnlmhflaaGreatDoorW.PrintMore
attribute [local go_sem] max2_int min2_int max_two min_two max_three min_three max_four min_four
set_option linter.unusedVariables false
set_option linter.unusedSimpArgs false
open Go.ChangeShapes Go.WideShapes Go.Deep in
structure Opens {α:Type} (P:Program) (t:TypeId) (d:Kd α) (Wf:α→Prop):Prop where
  sz:P.cellsOf t=d.sz
  op:∀ {H:Type} {enc:TypeId × Value→H} {w:World} {base:Nat} {spare:Nat→Bool} {held:Bool} {fuel:Nat} {cs:List Value} {x:DataW H × List MemPlace},DataW.trod enc P w base spare held fuel t cs=some x→∃ a:α,d.K w a cs∧Wf a
theorem opens_int {P:Program} {t:TypeId} {k:IntKind} (ht:P.underlying t=some (.int k)) (hC:P.cellsOf t=1):Opens P t (Kd.int k) (fun n=>(Lit.int k n).wf=true) where
  sz:=hC
  op:=fun h=>by
    obtain ⟨n,rfl,_,hw⟩:=DataW.trod_int ht h
    exact ⟨n,rfl,hw⟩
theorem list_of {α:Type} {Q:Nat→α→Prop}:∀ n,(∀ i,i < n→∃ y,Q i y)→∃ l:List α,l.length=n∧∀ i y,l[i]?=some y→Q i y
  | 0,_=>⟨[],rfl,fun i y h=>by simp at h⟩
  | n + 1,h=>by
    obtain ⟨l,hl,hq⟩:=list_of n (fun i hi=>h i (by omega))
    obtain ⟨y,hy⟩:=h n (by omega)
    refine ⟨l ++ [y],by simp [hl],fun i z hz=>?_⟩
    rcases Nat.lt_or_ge i l.length with hi|hi
    · rw [List.getElem?_append_left hi] at hz
      exact hq i z hz
    · rw [List.getElem?_append_right hi] at hz
      have:i - l.length=0:=by
        rcases Nat.eq_zero_or_pos (i - l.length) with h0|h0
        · exact h0
        · rw [List.getElem?_eq_none (by simp; omega)] at hz
          cases hz
      rw [this] at hz
      have e:y=z:=by simpa using hz
      subst e
      have:i=n:=by omega
      subst this
      exact hy
theorem opens_slice {α:Type} {P:Program} {t e:TypeId} {d:Kd α} {Wf:α→Prop} (ht:P.underlying t=some (.slice e)) (hC:P.cellsOf t=1) (he:Opens P e d Wf):Opens P t (Kd.slice e d) (fun l=>l.length≤9223372036854775807∧∀ x∈l,Wf x) where
  sz:=hC
  op:=fun {H enc w base spare held fuel cs x} h=>by
    rcases Go.Deep.open_slice ht h with ⟨rfl,_⟩|⟨a,len,cap,m,n,D,Pl,rfl,hb,hl,hm,hmm,_,hi⟩
    · exact ⟨[],⟨none,0,rfl,Nat.le_refl _,rfl,by simp,fun h=>absurd h (by simp)⟩,by simp,by simp⟩
    · have hlen:len≤m:=by rw [hmm]; split <;> omega
      obtain ⟨l,hll,hq⟩:=list_of (Q:=fun i y=>(∃ c,c.length=d.sz∧d.K w y c∧∀ j u,c[j]?=some u→w.cell? (a.add (i * d.sz + j))=some u)∧Wf y) len (fun i him=>by
        obtain ⟨cs',hc,ht'⟩:=hi i (by omega)
        obtain ⟨y,hK,hW⟩:=he.op ht'
        obtain ⟨_,hcl,hat⟩:=World.cells?_some hc
        refine ⟨y,⟨cs',d.K_len hK,hK,fun j u hu=>?_⟩,hW⟩
        have hj:j < cs'.length:=(List.getElem?_eq_some_iff.1 hu).1
        have h1:=hat j (by rw [he.sz,← d.K_len hK]; exact hj)
        rw [← he.sz,← Go.Deep.add_add,h1,hu])
      refine ⟨l,⟨some a,cap,by rw [hll],by rw [hll]; exact hl,rfl,by rw [hll]; have:=hm; unfold maxLen at this; omega,fun _=>⟨a,rfl,fun j p hj=>(hq j p hj).1⟩⟩,by rw [hll]; have:=hm; unfold maxLen at this; omega,fun y hy=>?_⟩
      obtain ⟨j,hj,rfl⟩:=List.mem_iff_getElem.1 hy
      exact (hq j _ (List.getElem?_eq_getElem hj)).2
theorem op5:Opens Tryz.prog 5 (Kd.int .u8) (fun x:Int=>(Lit.int .u8 x).wf=true):=opens_int (k:=.u8) Tryz.underlying5 (by kernel_rfl)
theorem op22:Opens Tryz.prog 22 (Kd.slice 5 (Kd.int .u8)) (fun x:List Int=>(x.length≤9223372036854775807∧∀ x_∈x,(Lit.int .u8 x_).wf=true)):=opens_slice Tryz.underlying22 (by kernel_rfl) op5
end Go.Proofs.YtfeehhbnlmhflaaGreatDoor.G
end
section
namespace Go.Proofs.YtfeehhbnlmhflaaGreatDoor.G.Pure
open Go.RowKit Go.Proofs.YtfeehhbnlmhflaaGreatDoor.G Go.Proofs.YtfeehhbnlmhflaaGreatDoorW.PrintWords Go.Proofs.YtfeehhbnlmhflaaGreatDoorW.PrintLast Go.Proofs.YtfeehhbnlmhflaaGreatDoorW.PrintMore
set_option linter.unusedVariables false
set_option linter.unusedSimpArgs false
theorem w64 {n:Int} (h0:-9223372036854775808≤n) (h1:n≤9223372036854775807):wrap64 n=n:=by
 unfold wrap64
 omega
theorem loop_inv {σ γ:Type} (L:Nat→σ→Option γ) (n:Nat) (I:Nat→σ→Prop) (R:γ→Prop)
  (hs:∀ k i s,i < n→I i s→(∃ s',I (i + 1) s'∧L (k + 1) s=L k s')∨(∃ r,R r∧L (k + 1) s=some r))
  (he:∀ k s,I n s→∃ r,R r∧L (k + 1) s=some r):∀ k s,I 0 s→n < k→∃ r,R r∧L k s=some r:=by
 have go:∀ d i k s,i + d=n→I i s→d < k→∃ r,R r∧L k s=some r:=by
  intro d
  induction d with
  | zero =>
   intro i k s hi hI hk
   obtain ⟨k,rfl⟩:∃ m,k=m + 1:=⟨k - 1,by omega⟩
   obtain rfl:i=n:=by omega
   exact he k s hI
  | succ d ih =>
   intro i k s hi hI hk
   obtain ⟨k,rfl⟩:∃ m,k=m + 1:=⟨k - 1,by omega⟩
   rcases hs k i s (by omega) hI with ⟨s',hI',h⟩|h
   ·rw [h]
    exact ih (i + 1) k s' (by omega) hI' (by omega)
   ·exact h
 intro k s hI hk
 exact go n 0 k s (by omega) hI hk
theorem rd_nat {l:List Int} {i:Nat} (h:i < l.length):rd l (i:Int)=l[i]:=by
 simp [rd,List.getD_eq_getElem?_getD,List.getElem?_eq_getElem h]
theorem u64_range (y:Int):0≤IntKind.u64.wrap y∧IntKind.u64.wrap y≤18446744073709551615:=by
 rw [IntKind.wrap_u64]
 omega
theorem low_byte {x:Int} (h:0≤x∧x≤18446744073709551615):0≤wrap64 (Go.bits .and .u64 (x / 1099511627776) 255)∧wrap64 (Go.bits .and .u64 (x / 1099511627776) 255)≤255:=by
 have hx:0≤x / 1099511627776∧x / 1099511627776≤18446744073709551615:=by omega
 generalize x / 1099511627776=y at *
 obtain ⟨n,rfl⟩:∃ n:Nat,y=(n:Int):=⟨y.toNat,by omega⟩
 have e:Go.bits .and .u64 (n:Int) ((255:Nat):Int)=((n &&& 255:Nat):Int):=bits_and_u64_nat n 255 (by omega) (by omega)
 have e2:Go.bits .and .u64 (n:Int) 255=((n &&& 255:Nat):Int):=e
 have hb:n &&& 255≤255:=Nat.and_le_right
 rw [e2,w64 (by omega) (by omega)]
 omega
def Bytes (code:List Int):Prop:=∀ x∈code,0≤x∧x≤255
theorem bytes_at {code:List Int} (hc:Bytes code) {i:Int} (h0:0≤i) (h1:i < (code.length:Int)):0≤rd code i∧rd code i≤255:=by
 obtain ⟨j,rfl⟩:∃ j:Nat,i=(j:Int):=⟨i.toNat,by omega⟩
 have hj:j < code.length:=by omega
 have:rd code (j:Int)=code[j]:=by simp [rd,List.getD_eq_getElem?_getD,List.getElem?_eq_getElem hj]
 rw [this]
 exact hc _ (List.getElem_mem hj)
theorem next_ok {code:List Int} (hc:Bytes code) {at_ seed:Int} (ha:0≤at_∧at_≤1000000):∃ n s,spec_l00Src_next.f code at_ seed=some (n,at_ + 1,s)∧0≤n∧n≤255:=by
 unfold spec_l00Src_next.f
 rw [w64 (n:=at_ + 1) (by omega) (by omega)]
 by_cases h1:at_ < (code.length:Int)
 ·have hb:=bytes_at hc ha.1 h1
  rw [if_pos h1,if_pos ha.1,if_pos (by omega)]
  exact ⟨_,_,rfl,by rw [w64 (by omega) (by omega)];exact hb⟩
 ·rw [if_neg h1,if_neg (by omega)]
  exact ⟨_,_,rfl,low_byte (u64_range _)⟩
theorem pick_ok {code:List Int} (hc:Bytes code) {at_ seed a:Int} (ha:0≤at_∧at_≤1000000) (h1:1 < a) (h2:a≤200):∃ n s,spec_l00Src_pick.f code at_ seed a=some (n,at_ + 1,s)∧0≤n∧n < a:=by
 obtain ⟨n,s,e,hn⟩:=next_ok hc (seed:=seed) ha
 unfold spec_l00Src_pick.f
 rw [if_neg (by omega),e]
 simp only [Option.bind_some]
 rw [if_neg (by omega),if_neg (by omega)]
 refine ⟨_,_,rfl,?_⟩
 rw [Int.tmod_eq_emod_of_nonneg hn.1]
 exact ⟨Int.emod_nonneg _ (by omega),Int.emod_lt_of_pos _ (by omega)⟩
def sA:List Int→Int
 | []=>0
 | x :: l=>x + sA l
def sB (i:Nat):List Int→Int
 | []=>0
 | x :: l=>((i:Int) + 1) * x + sB (i + 1) l
theorem sA_append:∀ l m:List Int,sA (l ++ m)=sA l + sA m
 | [],m=>by simp [sA]
 | x :: l,m=>by
  rw [List.cons_append,sA,sA,sA_append l m]
  omega
theorem sB_append:∀ (l m:List Int) (i:Nat),sB i (l ++ m)=sB i l + sB (i + l.length) m
 | [],m,i=>by simp [sB]
 | x :: l,m,i=>by
  rw [List.cons_append,sB,sB,sB_append l m (i + 1),List.length_cons,show i + 1 + l.length=i + (l.length + 1) by omega]
  omega
theorem sA_set:∀ (l:List Int) (j:Nat) (h:j < l.length) (v:Int),sA (l.set j v)=sA l + (v - l[j])
 | [],j,h,v=>by simp at h
 | x :: l,0,h,v=>by
  rw [List.set_cons_zero,sA,sA,List.getElem_cons_zero]
  omega
 | x :: l,j + 1,h,v=>by
  rw [List.set_cons_succ,sA,sA,sA_set l j (by simpa using h) v,List.getElem_cons_succ]
  omega
theorem sB_set:∀ (l:List Int) (i j:Nat) (h:j < l.length) (v:Int),sB i (l.set j v)=sB i l + ((i + j:Nat) + 1:Int) * (v - l[j])
 | [],i,j,h,v=>by simp at h
 | x :: l,i,0,h,v=>by
  rw [List.set_cons_zero,sB,sB,List.getElem_cons_zero,Nat.add_zero]
  grind
 | x :: l,i,j + 1,h,v=>by
  rw [List.set_cons_succ,sB,sB,sB_set l (i + 1) j (by simpa using h) v,List.getElem_cons_succ,show i + 1 + j=i + (j + 1) by omega]
  omega
theorem emod_wit (x p:Int):∃ k,x=x % p + p * k:=⟨x / p,by have:=Int.emod_add_mul_ediv x p;omega⟩
theorem emod_of_wit {x p k:Int} (h:x=p * k):x % p=0:=by rw [h];exact Int.mul_emod_right p k
theorem checks_sum {p n A B x y:Int} (hy:y=((n + 1) * (A % p) - B % p) % p) (hx:x=(-(A % p) - y) % p):(A + (x + y)) % p=0∧(B + ((n + 1) * x + (n + 2) * y)) % p=0:=by
 obtain ⟨k1,h1⟩:=emod_wit A p
 obtain ⟨k2,h2⟩:=emod_wit (-(A % p) - y) p
 obtain ⟨k3,h3⟩:=emod_wit B p
 obtain ⟨k4,h4⟩:=emod_wit ((n + 1) * (A % p) - B % p) p
 rw [← hx] at h2
 rw [← hy] at h4
 generalize A % p=a at *
 generalize B % p=b at *
 exact ⟨emod_of_wit (k:=k1 - k2) (by grind),emod_of_wit (k:=k3 - k4 - (n + 1) * k2) (by grind)⟩
theorem put_right {p A B v c:Int} (i:Int) (ha:c=(v - A % p) % p) (hb:((i + 1) * (A % p) - B % p) % p=0):(A + (c - v)) % p=0∧(B + (i + 1) * (c - v)) % p=0:=by
 obtain ⟨k1,h1⟩:=emod_wit A p
 obtain ⟨k2,h2⟩:=emod_wit (v - A % p) p
 obtain ⟨k3,h3⟩:=emod_wit B p
 obtain ⟨k4,h4⟩:=emod_wit ((i + 1) * (A % p) - B % p) p
 rw [← ha] at h2
 rw [hb] at h4
 generalize A % p=a at *
 generalize B % p=b at *
 exact ⟨emod_of_wit (k:=k1 - k2) (by grind),emod_of_wit (k:=k3 - k4 - (i + 1) * k2) (by grind)⟩
theorem right_only {p A B v c:Int} (i:Int) (hc:0≤c∧c < p) (h1:(A + (c - v)) % p=0) (h2:(B + (i + 1) * (c - v)) % p=0):c=(v - A % p) % p∧((i + 1) * (A % p) - B % p) % p=0:=by
 obtain ⟨k1,e1⟩:=emod_wit A p
 obtain ⟨k2,e2⟩:=emod_wit (A + (c - v)) p
 obtain ⟨k3,e3⟩:=emod_wit B p
 obtain ⟨k4,e4⟩:=emod_wit (B + (i + 1) * (c - v)) p
 rw [h1] at e2
 rw [h2] at e4
 generalize A % p=a at *
 generalize B % p=b at *
 refine ⟨?_,emod_of_wit (k:=(i + 1) * (k2 - k1) - (k4 - k3)) (by grind)⟩
 have e:v - a=c + p * (k1 - k2):=by grind
 rw [e,Int.add_mul_emod_self_left,Int.emod_eq_of_lt hc.1 hc.2]
def isP (p:Int):Prop:=p=5∨p=7∨p=11∨p=37
theorem no_zero {p:Int} (hp:isP p) {x d:Int} (hx:1≤x∧x≤7) (hxp:x < p) (hd:1≤d∧d < p):(x * d) % p≠0:=by
 obtain ⟨x,rfl⟩:∃ n:Nat,x=(n:Int):=⟨x.toNat,by omega⟩
 have hx7:x=1∨x=2∨x=3∨x=4∨x=5∨x=6∨x=7:=by omega
 rcases hp with rfl|rfl|rfl|rfl <;> rcases hx7 with rfl|rfl|rfl|rfl|rfl|rfl|rfl <;> omega
theorem one_place {p:Int} (hp:isP p) {i j:Nat} (hji:j < i) (hi8:i≤7) (hip:(i:Int) < p) {d B:Int} (hd:1≤d∧d < p) (hB:B % p=(((i:Int) + 1) * d) % p):(((j:Int) + 1) * d - B % p) % p≠0:=by
 intro h
 rw [hB] at h
 obtain ⟨k1,e1⟩:=emod_wit (((i:Int) + 1) * d) p
 obtain ⟨k2,e2⟩:=emod_wit (((j:Int) + 1) * d - (((i:Int) + 1) * d) % p) p
 rw [h] at e2
 refine no_zero hp (x:=(i:Int) - j) (d:=d) (by omega) (by omega) hd (emod_of_wit (k:=k1 - k2) ?_)
 generalize (((i:Int) + 1) * d) % p=b at *
 grind
theorem wrong_sums {p A B v u:Int} (i:Int) (h1:A % p=0) (h2:B % p=0):(A + (v - u)) % p=(v - u) % p∧(B + (i + 1) * (v - u)) % p=((i + 1) * ((v - u) % p)) % p:=by
 obtain ⟨k1,e1⟩:=emod_wit A p
 obtain ⟨k2,e2⟩:=emod_wit B p
 obtain ⟨k3,e3⟩:=emod_wit (v - u) p
 rw [h1] at e1
 rw [h2] at e2
 constructor
 ·rw [show A + (v - u)=(v - u) + p * k1 by grind,Int.add_mul_emod_self_left]
 ·generalize (v - u) % p=d at *
  generalize v - u=z at *
  rw [show B + (i + 1) * z=(i + 1) * d + p * (k2 + (i + 1) * k3) by grind,Int.add_mul_emod_self_left]
structure Vw (p:Int) (l:List Int):Prop where
 pr:isP p
 pos:1≤l.length
 most:l.length≤8
 less:(l.length:Int) < p
 ins:∀ x∈l,0≤x∧x < p
theorem isP_b {p:Int} (h:isP p):5≤p∧p≤37:=by
 rcases h with rfl|rfl|rfl|rfl <;> omega
theorem isP_no {p:Int} (h:isP p) (i:Nat) (h2:2≤i) (hi:(i:Int) < p):¬ Int.tmod p (i:Int)=0:=by
 have key:∀ q∈[5,7,11,37],∀ i:Nat,i < q→2≤i→¬ Int.tmod (q:Int) (i:Int)=0:=by decide
 rcases h with rfl|rfl|rfl|rfl
 ·exact key 5 (by decide) i (by omega) h2
 ·exact key 7 (by decide) i (by omega) h2
 ·exact key 11 (by decide) i (by omega) h2
 ·exact key 37 (by decide) i (by omega) h2
theorem within_r (n lo hi:Int):impl_within.f n lo hi=some (decide (lo≤n) && decide (n≤hi)):=by
 unfold impl_within.f
 by_cases h:lo≤n
 ·simp [h]
 ·simp [h]
theorem in_r (n lo hi:Int):spec_l00In.f n lo hi=some (decide (lo≤n) && decide (n≤hi)):=by
 unfold spec_l00In.f
 by_cases h:lo≤n
 ·simp [h]
 ·simp [h]
theorem implPrime {p:Int} (h:isP p) {k:Nat} (hk:100 < k):impl_isPrime.f k p=some true:=by
 have hb:=isP_b h
 unfold impl_isPrime.f
 rw [within_r,decide_eq_true (by omega),decide_eq_true (by omega)]
 simp only [Option.bind_some,Bool.and_self,if_true]
 have go:∀ d i k:Nat,(i:Int) + d=p→2≤i→d < k→impl_isPrime.l0 k p (i:Int)=some true:=by
  intro d
  induction d with
  | zero =>
   intro i k hi h2 hk
   obtain ⟨k,rfl⟩:∃ m,k=m + 1:=⟨k - 1,by omega⟩
   rw [impl_isPrime.l0,if_neg (by omega)]
  | succ d ih =>
   intro i k hi h2 hk
   obtain ⟨k,rfl⟩:∃ m,k=m + 1:=⟨k - 1,by omega⟩
   rw [impl_isPrime.l0,if_pos (by omega),if_neg (by omega),if_neg (isP_no h i h2 (by omega)),w64 (by omega) (by omega),show (i:Int) + 1=((i + 1:Nat):Int) by omega]
   exact ih (i + 1) k (by omega) (by omega) (by omega)
 exact go (p - 2).toNat 2 k (by omega) (by omega) (by omega)
theorem specPrime {p:Int} (h:isP p) {k:Nat} (hk:100 < k):spec_l05Prime.f k p=some true:=by
 have hb:=isP_b h
 unfold spec_l05Prime.f
 rw [in_r,decide_eq_true (by omega),decide_eq_true (by omega)]
 simp only [Option.bind_some,Bool.and_self,if_true]
 have go:∀ d i k:Nat,(i:Int) + d=p→2≤i→d < k→spec_l05Prime.l0 k p (i:Int)=some true:=by
  intro d
  induction d with
  | zero =>
   intro i k hi h2 hk
   obtain ⟨k,rfl⟩:∃ m,k=m + 1:=⟨k - 1,by omega⟩
   rw [spec_l05Prime.l0,if_neg (by omega)]
  | succ d ih =>
   intro i k hi h2 hk
   obtain ⟨k,rfl⟩:∃ m,k=m + 1:=⟨k - 1,by omega⟩
   rw [spec_l05Prime.l0,if_pos (by omega),if_neg (by omega),if_neg (isP_no h i h2 (by omega)),w64 (by omega) (by omega),show (i:Int) + 1=((i + 1:Nat):Int) by omega]
   exact ih (i + 1) k (by omega) (by omega) (by omega)
 exact go (p - 2).toNat 2 k (by omega) (by omega) (by omega)
theorem mn_r {p:Int} (h:p≤37):mn p 37=p:=by
 unfold mn
 split <;> omega
theorem implIsWord {p:Int} (hp:p≤37) {l:List Int} (h1:1≤l.length) (h8:l.length≤8) (hi:∀ x∈l,0≤x∧x < p):impl_Word_isWord.f l p=some true:=by
 unfold impl_Word_isWord.f impl_size_uint8.f slices_ContainsFunc_Word_uint8__impl_Word_isWord_1.f
 simp only [Option.bind_some]
 rw [within_r,decide_eq_true (by omega),decide_eq_true (by omega)]
 simp only [Option.bind_some,Bool.and_self,if_true]
 rw [anyO_eq (q:=fun _=>false) (fun x hx=>by
  have:=hi x hx
  unfold impl_Word_isWord_1.f
  rw [mn_r hp,w64 (by omega) (by omega),decide_eq_false (by omega)])]
 simp
theorem implCheckR {p:Int} {l:List Int} (v:Vw p l) {k:Nat} (hk:100 < k):impl_checkCode.f k p l=some 0:=by
 have hb:=isP_b v.pr
 have hl:=v.less
 unfold impl_checkCode.f impl_size_uint8.f
 rw [implPrime v.pr hk]
 simp only [Option.bind_some,if_true]
 rw [implIsWord hb.2 v.pos v.most v.ins]
 simp only [Option.bind_some,if_true]
 rw [decide_eq_true hl]
 rfl
theorem specBelowR {p:Int} {l:List Int} (h8:l.length≤8) (hp:p≤37) (hi:∀ x∈l,0≤x∧x < p) {k:Nat} (hk:100 < k):spec_l05Below.f k p l=some true:=by
 unfold spec_l05Below.f
 have go:∀ d i k:Nat,i + d=l.length→d < k→spec_l05Below.l0 k p l (i:Int)=some true:=by
  intro d
  induction d with
  | zero =>
   intro i k hi hk
   obtain ⟨k,rfl⟩:∃ m,k=m + 1:=⟨k - 1,by omega⟩
   rw [spec_l05Below.l0,if_neg (by omega)]
  | succ d ih =>
   intro i k hi2 hk
   obtain ⟨k,rfl⟩:∃ m,k=m + 1:=⟨k - 1,by omega⟩
   have hil:i < l.length:=by omega
   have hx:=hi _ (List.getElem_mem hil)
   rw [spec_l05Below.l0,if_pos (by omega),if_pos (by omega),rd_nat hil,w64 (n:=l[i]) (by omega) (by omega),if_neg (by omega),w64 (by omega) (by omega),show (i:Int) + 1=((i + 1:Nat):Int) by omega]
   exact ih (i + 1) k (by omega) (by omega)
 exact go l.length 0 k (by omega) (by omega)
theorem specWordR {l:List Int} (h1:1≤l.length) (h8:l.length≤8) (hi:∀ x∈l,0≤x∧x < 37) {k:Nat} (hk:100 < k):spec_l05Word.f k l=some true:=by
 unfold spec_l05Word.f
 have go:∀ d i k:Nat,i + d=l.length→d < k→spec_l05Word.l0 k l (i:Int)=some true:=by
  intro d
  induction d with
  | zero =>
   intro i k hi hk
   obtain ⟨k,rfl⟩:∃ m,k=m + 1:=⟨k - 1,by omega⟩
   rw [spec_l05Word.l0,if_neg (by omega),in_r,decide_eq_true (by omega),decide_eq_true (by omega)]
   rfl
  | succ d ih =>
   intro i k hi2 hk
   obtain ⟨k,rfl⟩:∃ m,k=m + 1:=⟨k - 1,by omega⟩
   have hil:i < l.length:=by omega
   have hx:=hi _ (List.getElem_mem hil)
   rw [spec_l05Word.l0,if_pos (by omega),if_pos (by omega),rd_nat hil,if_neg (by omega),w64 (by omega) (by omega),show (i:Int) + 1=((i + 1:Nat):Int) by omega]
   exact ih (i + 1) k (by omega) (by omega)
 exact go l.length 0 k (by omega) (by omega)
theorem specCheckR {p:Int} {l:List Int} (v:Vw p l) {k:Nat} (hk:100 < k):spec_l05Checked.f k p l=some 0:=by
 have hb:=isP_b v.pr
 have hl:=v.less
 unfold spec_l05Checked.f
 rw [specPrime v.pr hk]
 simp only [Option.bind_some,if_true]
 rw [specWordR v.pos v.most (fun x hx=>by have:=v.ins x hx;omega) hk]
 simp only [Option.bind_some,if_true]
 rw [specBelowR v.most hb.2 v.ins hk]
 simp only [Option.bind_some,if_true]
 rw [w64 (by omega) (by omega),if_neg (by omega)]
theorem sums_b:∀ (l:List Int) (i:Nat),(∀ x∈l,0≤x∧x≤40)→(0≤sA l∧sA l≤40 * (l.length:Int))∧(0≤sB i l∧sB i l≤40 * ((i + l.length:Nat):Int) * (l.length:Int))
 | [],i,_=>by simp [sA,sB]
 | x :: l,i,h=>by
  obtain ⟨⟨a1,a2⟩,b1,b2⟩:=sums_b l (i + 1) (fun y hy=>h y (List.mem_cons_of_mem _ hy))
  have hx:=h x List.mem_cons_self
  have h1:0≤((i:Int) + 1) * x:=Int.mul_nonneg (by omega) hx.1
  have h2:((i:Int) + 1) * x≤((i:Int) + 1) * 40:=Int.mul_le_mul_of_nonneg_left hx.2 (by omega)
  rw [sA,sB,List.length_cons]
  refine ⟨⟨by omega,by omega⟩,by omega,?_⟩
  rw [show i + 1 + l.length=i + (l.length + 1) by omega] at b2
  have e:(40:Int) * ((i + (l.length + 1):Nat):Int) * ((l.length + 1:Nat):Int)=40 * ((i + (l.length + 1):Nat):Int) * (l.length:Int) + 40 * ((i + (l.length + 1):Nat):Int):=by
   rw [show ((l.length + 1:Nat):Int)=(l.length:Int) + 1 by omega,Int.mul_add,Int.mul_one]
  omega
theorem sums_8 {l:List Int} (h8:l.length≤8) (h:∀ x∈l,0≤x∧x≤40):(0≤sA l∧sA l≤320)∧0≤sB 0 l∧sB 0 l≤2560:=by
 obtain ⟨⟨a1,a2⟩,b1,b2⟩:=sums_b l 0 h
 refine ⟨⟨a1,by omega⟩,b1,?_⟩
 have:l.length=0∨l.length=1∨l.length=2∨l.length=3∨l.length=4∨l.length=5∨l.length=6∨l.length=7∨l.length=8:=by omega
 rcases this with e|e|e|e|e|e|e|e|e <;> rw [e] at b2 <;> simp at b2 <;> omega
theorem sums_take {l:List Int} {i:Nat} (hi:i < l.length):sA (l.take (i + 1))=sA (l.take i) + l[i]∧sB 0 (l.take (i + 1))=sB 0 (l.take i) + ((i:Int) + 1) * l[i]:=by
 rw [List.take_succ_eq_append_getElem hi,sA_append,sB_append,List.length_take,Nat.min_eq_left (by omega),Nat.zero_add]
 simp [sA,sB]
theorem implSyn {p:Int} (hp:5≤p∧p≤37) {l:List Int} (h8:l.length≤8) (h:∀ x∈l,0≤x∧x < p) {k:Nat} (hk:100 < k):impl_Word_syndromes.f k l p=some (sA l % p,sB 0 l % p):=by
 unfold impl_Word_syndromes.f
 have h40:∀ x∈l,0≤x∧x≤40:=fun x hx=>by have:=h x hx;omega
 have go:∀ d i k:Nat,i + d=l.length→d < k→impl_Word_syndromes.l0 k p (sA (l.take i)) (sB 0 (l.take i)) l (l.length:Int) (i:Int)=some (sA l % p,sB 0 l % p):=by
  intro d
  induction d with
  | zero =>
   intro i k hi hk
   obtain ⟨k,rfl⟩:∃ m,k=m + 1:=⟨k - 1,by omega⟩
   have hb:=sums_8 h8 h40
   rw [impl_Word_syndromes.l0,if_neg (by omega),if_neg (by omega),List.take_of_length_le (by omega),Int.tmod_eq_emod_of_nonneg hb.1.1,Int.tmod_eq_emod_of_nonneg hb.2.1]
  | succ d ih =>
   intro i k hi hk
   obtain ⟨k,rfl⟩:∃ m,k=m + 1:=⟨k - 1,by omega⟩
   have hil:i < l.length:=by omega
   have hx:=h _ (List.getElem_mem hil)
   have hb:=sums_8 (l:=l.take i) (by rw [List.length_take];omega) (fun x hx=>h40 x (List.mem_of_mem_take hx))
   have hb2:=sums_8 (l:=l.take (i + 1)) (by rw [List.length_take];omega) (fun x hx=>h40 x (List.mem_of_mem_take hx))
   obtain ⟨e1,e2⟩:=sums_take hil
   have hm:0≤((i:Int) + 1) * l[i]:=Int.mul_nonneg (by omega) hx.1
   rw [impl_Word_syndromes.l0,if_pos (by omega),if_pos (by omega),if_pos (by omega),rd_nat hil,w64 (n:=l[i]) (by omega) (by omega),w64 (n:=(i:Int) + 1) (by omega) (by omega),w64 (n:=((i:Int) + 1) * l[i]) (by omega) (by omega),← e2,← e1,w64 (n:=sA (l.take (i + 1))) (by omega) (by omega),w64 (n:=sB 0 (l.take (i + 1))) (by omega) (by omega),show (i:Int) + 1=((i + 1:Nat):Int) by omega]
   exact ih (i + 1) k (by omega) (by omega)
 have:=go l.length 0 k (by omega) (by omega)
 rw [List.take_zero] at this
 exact this
theorem specSyn {p:Int} (hp:5≤p∧p≤37) {l:List Int} (h8:l.length≤8) (h:∀ x∈l,0≤x∧x < p) {k:Nat} (hk:100 < k):spec_l05Syndromes.f k p l=some (sA l % p,sB 0 l % p):=by
 unfold spec_l05Syndromes.f
 have h40:∀ x∈l,0≤x∧x≤40:=fun x hx=>by have:=h x hx;omega
 have go:∀ d i k:Nat,i + d=l.length→d < k→spec_l05Syndromes.l0 k p l (sA (l.take i)) (sB 0 (l.take i)) (i:Int)=some (sA l % p,sB 0 l % p):=by
  intro d
  induction d with
  | zero =>
   intro i k hi hk
   obtain ⟨k,rfl⟩:∃ m,k=m + 1:=⟨k - 1,by omega⟩
   have hb:=sums_8 h8 h40
   rw [spec_l05Syndromes.l0,if_neg (by omega),if_neg (by omega),List.take_of_length_le (by omega),Int.tmod_eq_emod_of_nonneg hb.1.1,Int.tmod_eq_emod_of_nonneg hb.2.1]
  | succ d ih =>
   intro i k hi hk
   obtain ⟨k,rfl⟩:∃ m,k=m + 1:=⟨k - 1,by omega⟩
   have hil:i < l.length:=by omega
   have hx:=h _ (List.getElem_mem hil)
   have hb:=sums_8 (l:=l.take i) (by rw [List.length_take];omega) (fun x hx=>h40 x (List.mem_of_mem_take hx))
   have hb2:=sums_8 (l:=l.take (i + 1)) (by rw [List.length_take];omega) (fun x hx=>h40 x (List.mem_of_mem_take hx))
   obtain ⟨e1,e2⟩:=sums_take hil
   have hm:0≤((i:Int) + 1) * l[i]:=Int.mul_nonneg (by omega) hx.1
   rw [spec_l05Syndromes.l0,if_pos (by omega),if_pos (by omega),rd_nat hil,w64 (n:=l[i]) (by omega) (by omega),w64 (n:=(i:Int) + 1) (by omega) (by omega),w64 (n:=((i:Int) + 1) * l[i]) (by omega) (by omega),← e2,← e1,w64 (n:=sA (l.take (i + 1))) (by omega) (by omega),w64 (n:=sB 0 (l.take (i + 1))) (by omega) (by omega),show (i:Int) + 1=((i + 1:Nat):Int) by omega]
   exact ih (i + 1) k (by omega) (by omega)
 have:=go l.length 0 k (by omega) (by omega)
 rw [List.take_zero] at this
 exact this
def chkd (p:Int) (l:List Int):Bool:=decide (sA l % p=0) && decide (sB 0 l % p=0)
theorem implChkd {p:Int} (hp:5≤p∧p≤37) {l:List Int} (h8:l.length≤8) (h:∀ x∈l,0≤x∧x < p) {k:Nat} (hk:100 < k):impl_Word_isChecked.f k l p=some (chkd p l):=by
 unfold impl_Word_isChecked.f chkd
 rw [implSyn hp h8 h hk]
 simp only [Option.bind_some]
 by_cases h0:sA l % p=0
 ·rw [if_pos h0,decide_eq_true h0,Bool.true_and]
  by_cases h1:sB 0 l % p=0
  ·rw [decide_eq_true h1]
   simp [h1]
  ·rw [decide_eq_false h1]
   simp [h1]
 ·rw [if_neg h0,decide_eq_false h0]
  rfl
theorem implIsCheckedR {p:Int} {l:List Int} (v:Vw p l) {k:Nat} (hk:100 < k):impl_IsChecked.f k p l=some (chkd p l,0):=by
 unfold impl_IsChecked.f
 rw [implCheckR v hk]
 simp only [Option.bind_some,if_true]
 rw [implChkd (isP_b v.pr) v.most v.ins hk]
 rfl
theorem sameWordR {l:List Int} (hl:l.length≤1000) {k:Nat} (hk:2000 < k):spec_SameWord.f k l l=some true:=by
 unfold spec_SameWord.f spec_l05Same.f
 rw [if_pos rfl]
 have go:∀ d i k:Nat,i + d=l.length→d < k→spec_l05Same.l0 k l l (i:Int)=some true:=by
  intro d
  induction d with
  | zero =>
   intro i k hi hk
   obtain ⟨k,rfl⟩:∃ m,k=m + 1:=⟨k - 1,by omega⟩
   rw [spec_l05Same.l0,if_neg (by omega)]
  | succ d ih =>
   intro i k hi hk
   obtain ⟨k,rfl⟩:∃ m,k=m + 1:=⟨k - 1,by omega⟩
   rw [spec_l05Same.l0,if_pos (by omega),if_pos (by omega),if_pos (by omega),if_pos rfl,w64 (by omega) (by omega),show (i:Int) + 1=((i + 1:Nat):Int) by omega]
   exact ih (i + 1) k (by omega) (by omega)
 have:=go l.length 0 k (by omega) (by omega)
 rw [show ((0:Nat):Int)=0 from rfl] at this
 rw [this]
 rfl
theorem mod_r {x p:Int} (hp:5≤p∧p≤37) (h0:-1000000≤x) (h1:x≤1000000):spec_l05Mod.f x p=some (x % p):=by
 unfold spec_l05Mod.f
 have hlt:=Int.tmod_lt_of_pos x (show 0 < p by omega)
 have hge:-p < Int.tmod x p:=by
  have:=Int.tmod_lt_of_pos (-x) (show 0 < p by omega)
  rw [Int.neg_tmod] at this
  omega
 have hd:=Int.mul_tdiv_add_tmod x p
 rw [if_neg (by omega),w64 (by omega) (by omega),Int.tmod_eq_emod_of_nonneg (by omega)]
 have e:Int.tmod x p + p=x + p * (1 - Int.tdiv x p):=by
  rw [Int.mul_sub,Int.mul_one]
  omega
 rw [e,Int.add_mul_emod_self_left]
def chkX (p:Int) (l:List Int):Int:=(-(sA l % p) - (((l.length:Int) + 1) * (sA l % p) - sB 0 l % p) % p) % p
def chkY (p:Int) (l:List Int):Int:=(((l.length:Int) + 1) * (sA l % p) - sB 0 l % p) % p
theorem prod_b {p a:Int} {n:Nat} (hp:5≤p∧p≤37) (ha:0≤a∧a < p) (hn:n≤8):0≤((n:Int) + 1) * a∧((n:Int) + 1) * a≤360:=by
 have h0:0≤((n:Int) + 1) * a:=Int.mul_nonneg (by omega) ha.1
 have h1:((n:Int) + 1) * a≤9 * a:=Int.mul_le_mul_of_nonneg_right (by omega) ha.1
 omega
theorem sq_b {p:Int} (h:isP p):p * p≥p∧p * p≤2000:=by
 rcases h with rfl|rfl|rfl|rfl <;> omega
theorem m256 {p x:Int} (hp:p≤37) (h0:0≤x) (h1:x < p):x % 256=x:=Int.emod_eq_of_lt h0 (by omega)
theorem with_y {p a b:Int} {n:Nat} (hp:5≤p∧p≤37) (hs:p * p≥p∧p * p≤2000) (ha:0≤a∧a < p) (hb:0≤b∧b < p) (hn:n≤8):Int.tmod (wrap64 (wrap64 (wrap64 (wrap64 ((n:Int) + 1) * a) - b) + wrap64 (p * p))) p=(((n:Int) + 1) * a - b) % p:=by
 have hpr:=prod_b hp ha hn
 rw [w64 (n:=(n:Int) + 1) (by omega) (by omega)]
 generalize ((n:Int) + 1) * a=z at *
 rw [w64 (n:=z) (by omega) (by omega),w64 (n:=z - b) (by omega) (by omega),w64 (n:=p * p) (by omega) (by omega),w64 (n:=z - b + p * p) (by omega) (by omega),Int.tmod_eq_emod_of_nonneg (by omega),Int.add_mul_emod_self_left]
theorem with_x {p a y:Int} (hp:5≤p∧p≤37) (ha:0≤a∧a < p) (hy:0≤y∧y < p):Int.tmod (wrap64 (wrap64 (wrap64 (2 * p) - a) - y)) p=(-a - y) % p:=by
 rw [w64 (n:=2 * p) (by omega) (by omega),w64 (n:=2 * p - a) (by omega) (by omega),w64 (n:=2 * p - a - y) (by omega) (by omega),Int.tmod_eq_emod_of_nonneg (by omega),show 2 * p - a - y=(-a - y) + p * 2 by omega,Int.add_mul_emod_self_left]
theorem spec_y {p a b:Int} {n:Nat} (hp:5≤p∧p≤37) (ha:0≤a∧a < p) (hb:0≤b∧b < p) (hn:n≤8):spec_l05Mod.f (wrap64 (wrap64 (wrap64 ((n:Int) + 1) * a) - b)) p=some ((((n:Int) + 1) * a - b) % p):=by
 have hpr:=prod_b hp ha hn
 rw [w64 (n:=(n:Int) + 1) (by omega) (by omega)]
 generalize ((n:Int) + 1) * a=z at *
 rw [w64 (n:=z) (by omega) (by omega),w64 (n:=z - b) (by omega) (by omega),mod_r hp (by omega) (by omega)]
theorem spec_x {p a y:Int} (hp:5≤p∧p≤37) (ha:0≤a∧a < p) (hy:0≤y∧y < p):spec_l05Mod.f (wrap64 (wrap64 (-a) - y)) p=some ((-a - y) % p):=by
 rw [w64 (n:=-a) (by omega) (by omega),w64 (n:=-a - y) (by omega) (by omega),mod_r hp (by omega) (by omega)]
theorem emod_in {p:Int} (hp:5≤p∧p≤37) (x:Int):0≤x % p∧x % p < p:=⟨Int.emod_nonneg _ (by omega),Int.emod_lt_of_pos _ (by omega)⟩
theorem implWith {p:Int} {l:List Int} (v:Vw p l) (h6:l.length≤6) (hl:(l.length:Int) + 2 < p) {k:Nat} (hk:200 < k):impl_WithChecks.f k p l=some (l ++ [chkX p l,chkY p l],0):=by
 have hb:=isP_b v.pr
 obtain ⟨k,rfl⟩:∃ m,k=m + 1:=⟨k - 1,by omega⟩
 have hc:slices_Clone_Word_uint8.f l=some l:=by
  unfold slices_Clone_Word_uint8.f
  rw [if_pos (by omega)]
 have hin:=emod_in hb
 have hlen:∀ x y:Int,l.length + [x,y].length < 140737488355328:=fun x y=>by
  simp only [List.length_cons,List.length_nil]
  omega
 unfold impl_WithChecks.f impl_size_uint8.f
 rw [implCheckR v (by omega),Option.bind_some,if_pos rfl,Option.bind_some,w64 (n:=(l.length:Int) + 2) (by omega) (by omega),if_neg (by omega),decide_eq_false (by omega),impl_WithChecks.j0,if_neg (by decide),implSyn hb v.most v.ins (by omega),Option.bind_some,if_neg (by omega),hc,Option.bind_some,with_y hb (sq_b v.pr) (hin _) (hin _) v.most,with_x hb (hin _) (hin _),m256 hb.2 (hin _).1 (hin _).2,m256 hb.2 (hin _).1 (hin _).2,Option.bind_some,if_pos (hlen _ _)]
 unfold chkX chkY
 exact Eq.refl _
theorem specWith {p:Int} {l:List Int} (v:Vw p l) (h6:l.length≤6) (hl:(l.length:Int) + 2 < p) {k:Nat} (hk:200 < k):spec_WithChecks.f k p l=some (l ++ [chkX p l,chkY p l],0):=by
 have hb:=isP_b v.pr
 obtain ⟨k,rfl⟩:∃ m,k=m + 1:=⟨k - 1,by omega⟩
 have hin:=emod_in hb
 have hlen:∀ x y:Int,l.length + [x,y].length < 140737488355328:=fun x y=>by
  simp only [List.length_cons,List.length_nil]
  omega
 have hlen0:([]:List Int).length + l.length < 140737488355328:=by
  simp only [List.length_nil]
  omega
 unfold spec_WithChecks.f
 rw [specCheckR v (by omega),Option.bind_some,if_pos rfl,w64 (n:=(l.length:Int) + 2) (by omega) (by omega),w64 (n:=p - 1) (by omega) (by omega),if_neg (by omega),decide_eq_false (by omega),spec_WithChecks.j0,if_neg (by decide),specSyn hb v.most v.ins (by omega),Option.bind_some,spec_y hb (hin _) (hin _) v.most,Option.bind_some,spec_x hb (hin _) (hin _),Option.bind_some,Option.bind_some,if_pos hlen0,Option.bind_some,m256 hb.2 (hin _).1 (hin _).2,m256 hb.2 (hin _).1 (hin _).2,Option.bind_some,List.nil_append,if_pos (hlen _ _)]
 unfold chkX chkY
 exact Eq.refl _
theorem with_ok {p:Int} {l:List Int} (v:Vw p l) (h6:l.length≤6) (hl:(l.length:Int) + 2 < p):Vw p (l ++ [chkX p l,chkY p l])∧chkd p (l ++ [chkX p l,chkY p l])=true:=by
 have hb:=isP_b v.pr
 constructor
 ·refine ⟨v.pr,by simp,by simp;omega,by simp;omega,fun x hx=>?_⟩
  rcases List.mem_append.1 hx with h|h
  ·exact v.ins x h
  ·rcases List.mem_cons.1 h with h|h
   ·rw [h]
    exact ⟨Int.emod_nonneg _ (by omega),Int.emod_lt_of_pos _ (by omega)⟩
   ·rw [List.mem_singleton.1 h]
    exact ⟨Int.emod_nonneg _ (by omega),Int.emod_lt_of_pos _ (by omega)⟩
 ·obtain ⟨h1,h2⟩:=checks_sum (p:=p) (n:=(l.length:Int)) (A:=sA l) (B:=sB 0 l) (y:=chkY p l) (x:=chkX p l) rfl rfl
  unfold chkd
  rw [sA_append,sB_append,Nat.zero_add]
  simp only [sA,sB,Int.add_zero]
  rw [decide_eq_true h1,Bool.true_and]
  refine decide_eq_true ?_
  rw [show (((l.length + 1:Nat):Int) + 1)=(l.length:Int) + 2 by omega]
  exact h2
def fitsAt (p:Int) (l:List Int) (j:Nat):Bool:=decide ((((j:Int) + 1) * (sA l % p) - sB 0 l % p) % p=0)
def putAt (p:Int) (l:List Int) (j:Nat):List Int:=l.set j ((l.getD j 0 - sA l % p) % p)
def resRep (p:Int) (l:List Int):List Int × Int × Int:=if chkd p l=true then (l,-1,0) else (match (List.range l.length).find? (fitsAt p l) with|some j=>(putAt p l j,(j:Int),0)|none=>([],0,8))
theorem find_at {q:Nat→Bool} {n i:Nat} (hi:i < n) (hp:q i=true) (hb:∀ j,j < i→q j=false):(List.range n).find? q=some i:=by
 rw [List.find?_range_eq_some]
 exact ⟨hp,by simpa using hi,fun j hj=>by simp [hb j hj]⟩
theorem find_no {q:Nat→Bool} {n:Nat} (hb:∀ j,j < n→q j=false):(List.range n).find? q=none:=by
 rw [List.find?_eq_none]
 intro j hj
 rw [hb j (List.mem_range.1 hj)]
 simp
theorem specRep {p:Int} {l:List Int} (v:Vw p l) {k:Nat} (hk:400 < k):spec_RepairWord.f k p l=some (resRep p l):=by
 have hb:=isP_b v.pr
 have hm:=v.most
 unfold spec_RepairWord.f resRep chkd
 rw [specCheckR v (by omega)]
 simp only [Option.bind_some,if_true]
 rw [specSyn hb v.most v.ins (by omega)]
 simp only [Option.bind_some,List.nil_append]
 rw [if_pos (by simp only [List.length_nil];omega)]
 have ha:=Int.emod_nonneg (sA l) (show p≠0 by omega)
 have ha2:=Int.emod_lt_of_pos (sA l) (show 0 < p by omega)
 have hbb:=Int.emod_nonneg (sB 0 l) (show p≠0 by omega)
 have hb2:=Int.emod_lt_of_pos (sB 0 l) (show 0 < p by omega)
 have hfit:∀ j,fitsAt p l j=decide ((((j:Int) + 1) * (sA l % p) - sB 0 l % p) % p=0):=fun j=>rfl
 have hput:∀ j,putAt p l j=l.set j ((l.getD j 0 - sA l % p) % p):=fun j=>rfl
 generalize hga:sA l % p=a at *
 generalize hgb:sB 0 l % p=b at *
 have hj0:∀ c,c=(decide (a=0) && decide (b=0))→spec_RepairWord.j0 k p l a b l c=some (if c=true then ((l,-1,0):List Int × Int × Int) else (match (List.range l.length).find? (fitsAt p l) with|some j=>(putAt p l j,(j:Int),0)|none=>([],0,8))):=by
  intro c hc
  obtain ⟨k,rfl⟩:∃ m,k=m + 1:=⟨k - 1,by omega⟩
  rw [spec_RepairWord.j0]
  by_cases h:c=true
  ·rw [if_pos h,if_pos h]
  ·rw [if_neg h,if_neg h]
   have hc0:c=false:=by simpa using h
   by_cases h0:a=0
   ·have hbn:b≠0:=fun e=>by
     rw [hc0,decide_eq_true h0,decide_eq_true e] at hc
     exact absurd hc (by decide)
    obtain ⟨k,rfl⟩:∃ m,k=m + 2:=⟨k - 2,by omega⟩
    have hno:(List.range l.length).find? (fitsAt p l)=none:=find_no fun j _=>by
     rw [hfit,h0,Int.mul_zero,Int.zero_sub]
     refine decide_eq_false (fun e=>?_)
     have:=Int.emod_emod_of_dvd (-b) (Int.dvd_refl p)
     obtain ⟨w,hw⟩:=emod_wit (-b) p
     rw [e] at hw
     have h1:p * w < 0:=by omega
     have h2:-p < p * w:=by omega
     have h3:w < 0:=by
      apply Classical.byContradiction
      intro h
      have:=Int.mul_nonneg (show 0≤p by omega) (show 0≤w by omega)
      omega
     have h4:p * w≤p * (-1):=Int.mul_le_mul_of_nonneg_left (by omega) (by omega)
     omega
    rw [hno,spec_RepairWord.l0,if_pos (by have:=v.pos;omega)]
    simp only [spec_RepairWord.j2]
    rw [h0]
    rfl
   ·have go:∀ d i k:Nat,i + d=l.length→2 * d + 2 < k→(∀ j,j < i→fitsAt p l j=false)→spec_RepairWord.l0 k p l a b l (i:Int)=some (match (List.range l.length).find? (fitsAt p l) with|some j=>((putAt p l j,(j:Int),0):List Int × Int × Int)|none=>([],0,8)):=by
     intro d
     induction d with
     | zero =>
      intro i k hi hk hj
      obtain ⟨k,rfl⟩:∃ m,k=m + 2:=⟨k - 2,by omega⟩
      rw [find_no (fun j hjl=>hj j (by omega)),spec_RepairWord.l0,if_neg (by omega),spec_RepairWord.j2]
      rfl
     | succ d ih =>
      intro i k hi hk hj
      obtain ⟨k,rfl⟩:∃ m,k=m + 2:=⟨k - 2,by omega⟩
      have hil:i < l.length:=by omega
      have hx:=v.ins _ (List.getElem_mem hil)
      have hpr:=prod_b (n:=i) hb ⟨ha,ha2⟩ (by omega)
      have hf:=hfit i
      rw [spec_RepairWord.l0,if_pos (by omega),spec_RepairWord.j2,if_pos (by rw [bne_iff_ne];exact h0),w64 (n:=(i:Int) + 1) (by omega) (by omega),w64 (n:=((i:Int) + 1) * a) (by omega) (by omega),w64 (n:=((i:Int) + 1) * a - b) (by omega) (by omega),mod_r hb (by omega) (by omega)]
      simp only [Option.bind_some]
      by_cases hz:(((i:Int) + 1) * a - b) % p=0
      ·rw [decide_eq_true hz] at hf
       rw [find_at hil hf hj,if_pos hz,if_pos (by omega),if_pos (by omega),rd_nat hil,w64 (n:=l[i]) (by omega) (by omega),w64 (n:=l[i] - a) (by omega) (by omega),mod_r hb (by omega) (by omega)]
       simp only [Option.bind_some]
       have hc1:=Int.emod_nonneg (l[i] - a) (show p≠0 by omega)
       have hc2:=Int.emod_lt_of_pos (l[i] - a) (show 0 < p by omega)
       rw [if_pos (by omega),Int.toNat_natCast,Int.emod_eq_of_lt (a:=(l[i] - a) % p) (by omega) (by omega),hput,List.getD_eq_getElem?_getD,List.getElem?_eq_getElem hil]
       rfl
      ·rw [decide_eq_false hz] at hf
       rw [if_neg hz,show (i:Int) + 1=((i + 1:Nat):Int) by omega]
       refine ih (i + 1) k (by omega) (by omega) (fun j hji=>?_)
       rcases Nat.lt_succ_iff_lt_or_eq.1 hji with e|e
       ·exact hj j e
       ·rw [e]
        exact hf
    exact go l.length 0 k (by omega) (by omega) (fun j h=>absurd h (Nat.not_lt_zero _))
 by_cases h0:a=0
 ·rw [if_pos h0,hj0 _ (by by_cases h1:b=0 <;> simp [h0,h1]),decide_eq_true h0,Bool.true_and]
  by_cases h1:b=0 <;> simp [h1]
 ·rw [if_neg h0,hj0 _ (by rw [decide_eq_false h0,Bool.false_and]),decide_eq_false h0,Bool.false_and]
theorem set_ins {p:Int} {l:List Int} (h:∀ x∈l,0≤x∧x < p) (i:Nat) {c:Int} (hc:0≤c∧c < p):∀ x∈l.set i c,0≤x∧x < p:=fun x hx=>by
 rcases List.mem_or_eq_of_mem_set hx with e|e
 ·exact h x e
 ·rw [e]
  exact hc
theorem chkd_set {p:Int} {l:List Int} {i:Nat} (hi:i < l.length) {c:Int} (hc:0≤c∧c < p):chkd p (l.set i c)=true ↔ c=(l[i] - sA l % p) % p∧fitsAt p l i=true:=by
 unfold chkd fitsAt
 rw [sA_set l i hi c,sB_set l 0 i hi c,Nat.zero_add,Bool.and_eq_true,decide_eq_true_eq,decide_eq_true_eq,decide_eq_true_eq]
 constructor
 ·rintro ⟨h1,h2⟩
  exact right_only (i:Int) hc h1 h2
 ·rintro ⟨h1,h2⟩
  exact put_right (i:Int) h1 h2
theorem implRep {p:Int} {l:List Int} (v:Vw p l) {k:Nat} (hk:2000 < k):impl_RepairWord.f k p l=some (resRep p l):=by
 have hb:=isP_b v.pr
 have hm:=v.most
 unfold impl_RepairWord.f resRep
 rw [implCheckR v (by omega)]
 simp only [Option.bind_some,if_true]
 rw [implChkd hb v.most v.ins (by omega)]
 simp only [Option.bind_some]
 have hcl:slices_Clone_Word_uint8.f l=some l:=by
  unfold slices_Clone_Word_uint8.f
  rw [if_pos (by omega)]
 by_cases h:chkd p l=true
 ·rw [if_pos h,if_pos h,hcl]
  rfl
 ·rw [if_neg h,if_neg h]
  have row:∀ (i:Nat) (hi:i < l.length) (d n K:Nat),(n:Int) + d=p→200≤K→(∀ m:Nat,m < n→chkd p (l.set i (m:Int))=false)→impl_RepairWord.l1 (K + d + 1) p l (i:Int) (l.length:Int) (i:Int) p (n:Int)=(if fitsAt p l i=true then some (putAt p l i,(i:Int),0) else impl_RepairWord.l0 K p l (l.length:Int) ((i + 1:Nat):Int)):=by
   intro i hi d
   have hx:=v.ins _ (List.getElem_mem hi)
   have hc1:=Int.emod_nonneg (l[i] - sA l % p) (show p≠0 by omega)
   have hc2:=Int.emod_lt_of_pos (l[i] - sA l % p) (show 0 < p by omega)
   induction d with
   | zero =>
    intro n K hn hK hno
    have hf:¬ fitsAt p l i=true:=fun hf=>by
     obtain ⟨c,hc⟩:∃ c:Nat,(l[i] - sA l % p) % p=(c:Int):=⟨((l[i] - sA l % p) % p).toNat,by omega⟩
     have:=(chkd_set (p:=p) hi (c:=(c:Int)) (by omega)).2 ⟨hc.symm,hf⟩
     rw [hno c (by omega)] at this
     exact absurd this (by decide)
    rw [if_neg hf,Nat.add_zero,impl_RepairWord.l1,if_neg (by omega),w64 (by omega) (by omega)]
    rfl
   | succ d ih =>
    intro n K hn hK hno
    obtain ⟨Q,hQ⟩:∃ Q,Q=K + d + 1:=⟨_,rfl⟩
    rw [show K + (d + 1) + 1=Q + 1 by omega,impl_RepairWord.l1,if_pos (by omega),hcl]
    simp only [Option.bind_some]
    rw [if_pos (by omega),if_pos (by omega),Int.toNat_natCast,Int.emod_eq_of_lt (a:=(n:Int)) (b:=256) (by omega) (by omega),implChkd hb (by rw [List.length_set];omega) (set_ins v.ins i ⟨by omega,by omega⟩) (by omega)]
    simp only [Option.bind_some]
    cases hcn:chkd p (l.set i (n:Int)) with
    | true =>
     obtain ⟨e1,e2⟩:=(chkd_set hi ⟨by omega,by omega⟩).1 hcn
     rw [if_pos rfl,if_pos e2,e1]
     unfold putAt
     rw [List.getD_eq_getElem?_getD,List.getElem?_eq_getElem hi]
     rfl
    | false =>
     rw [if_neg (by decide),w64 (by omega) (by omega),show (n:Int) + 1=((n + 1:Nat):Int) by omega,hQ]
     refine ih (n + 1) K (by omega) hK (fun m hm2=>?_)
     rcases Nat.lt_succ_iff_lt_or_eq.1 hm2 with e|e
     ·exact hno m e
     ·rw [e]
      exact hcn
  have go:∀ d i k:Nat,i + d=l.length→200 + 50 * d < k→(∀ j,j < i→fitsAt p l j=false)→impl_RepairWord.l0 k p l (l.length:Int) (i:Int)=some (match (List.range l.length).find? (fitsAt p l) with|some j=>((putAt p l j,(j:Int),0):List Int × Int × Int)|none=>([],0,8)):=by
   intro d
   induction d with
   | zero =>
    intro i k hi hk hj
    obtain ⟨k,rfl⟩:∃ m,k=m + 1:=⟨k - 1,by omega⟩
    rw [find_no (fun j hjl=>hj j (by omega)),impl_RepairWord.l0,if_neg (by omega)]
   | succ d ih =>
    intro i k hi hk hj
    have hil:i < l.length:=by omega
    obtain ⟨k,rfl⟩:∃ m,k=m + p.toNat + 1 + 1:=⟨k - p.toNat - 2,by omega⟩
    rw [impl_RepairWord.l0,if_pos (by omega)]
    have e:=row i hil p.toNat 0 k (by omega) (by omega) (fun m h=>absurd h (Nat.not_lt_zero _))
    rw [show ((0:Nat):Int)=0 from rfl] at e
    rw [e]
    cases hf:fitsAt p l i with
    | true =>
     rw [if_pos rfl,find_at hil hf hj]
    | false =>
     rw [if_neg (by decide)]
     refine ih (i + 1) k (by omega) (by omega) (fun j hji=>?_)
     rcases Nat.lt_succ_iff_lt_or_eq.1 hji with e|e
     ·exact hj j e
     ·rw [e]
      exact hf
  exact go l.length 0 k (by omega) (by omega) (fun j h=>absurd h (Nat.not_lt_zero _))
theorem resRep_ok {p:Int} {l:List Int} (v:Vw p l) (h:(resRep p l).2.2=0):Vw p (resRep p l).1∧chkd p (resRep p l).1=true:=by
 have hb:=isP_b v.pr
 unfold resRep at h ⊢
 by_cases hc:chkd p l=true
 ·rw [if_pos hc]
  exact ⟨v,hc⟩
 ·rw [if_neg hc] at h ⊢
  cases hf:(List.range l.length).find? (fitsAt p l) with
  | none =>
   rw [hf] at h
   exact absurd h (by simp)
  | some j =>
   have h1:=List.find?_some hf
   have h2:=List.mem_range.1 (List.mem_of_find?_eq_some hf)
   simp only
   unfold putAt
   rw [List.getD_eq_getElem?_getD,List.getElem?_eq_getElem h2,Option.getD_some]
   have hc:0≤(l[j] - sA l % p) % p∧(l[j] - sA l % p) % p < p:=⟨Int.emod_nonneg _ (by omega),Int.emod_lt_of_pos _ (by omega)⟩
   exact ⟨⟨v.pr,by rw [List.length_set];exact v.pos,by rw [List.length_set];exact v.most,by rw [List.length_set];exact v.less,set_ins v.ins j hc⟩,(chkd_set h2 hc).2 ⟨rfl,h1⟩⟩
def pw (p:Int):Nat→Int
 | 0=>1
 | n + 1=>pw p n * p
def hr (p:Int) (l:List Int):Nat→Int
 | 0=>0
 | i + 1=>hr p l i * p + l.getD i 0
theorem pw_b {p:Int} (h:isP p) {n:Nat} (hn:n≤8):1≤pw p n∧pw p n≤4000000000000:=by
 have:n=0∨n=1∨n=2∨n=3∨n=4∨n=5∨n=6∨n=7∨n=8:=by omega
 rcases h with rfl|rfl|rfl|rfl <;> rcases this with rfl|rfl|rfl|rfl|rfl|rfl|rfl|rfl|rfl <;> simp [pw]
theorem hr_b {p:Int} (h:isP p) {l:List Int} (hi:∀ x∈l,0≤x∧x < p):∀ i,i≤l.length→0≤hr p l i∧hr p l i + 1≤pw p i:=by
 have hb:=isP_b h
 intro i
 induction i with
 | zero=>intro _;simp [hr,pw]
 | succ i ih =>
  intro hl
  obtain ⟨h1,h2⟩:=ih (by omega)
  have hx:=hi _ (List.getElem_mem (show i < l.length by omega))
  have hg:l.getD i 0=l[i]:=by rw [List.getD_eq_getElem?_getD,List.getElem?_eq_getElem (by omega)];rfl
  rw [hr,pw,hg]
  have h3:0≤hr p l i * p:=Int.mul_nonneg h1 (by omega)
  have h4:(hr p l i + 1) * p≤pw p i * p:=Int.mul_le_mul_of_nonneg_right h2 (by omega)
  rw [Int.add_mul,Int.one_mul] at h4
  omega
theorem hr_step {p:Int} (h:isP p) {l:List Int} (h8:l.length≤8) (hi:∀ x∈l,0≤x∧x < p) {i:Nat} (hil:i < l.length):hr p l (i + 1)=hr p l i * p + l[i]∧0≤hr p l i * p∧hr p l i * p≤4000000000000∧0≤l[i]∧l[i] < p:=by
 have hb:=isP_b h
 have hx:=hi _ (List.getElem_mem hil)
 obtain ⟨h1,h2⟩:=hr_b h hi i (by omega)
 obtain ⟨h5,h6⟩:=hr_b h hi (i + 1) (by omega)
 have hp:=pw_b h (n:=i + 1) (by omega)
 have hg:l.getD i 0=l[i]:=by rw [List.getD_eq_getElem?_getD,List.getElem?_eq_getElem hil];rfl
 have h3:0≤hr p l i * p:=Int.mul_nonneg h1 (by omega)
 have e:hr p l (i + 1)=hr p l i * p + l[i]:=by rw [hr,hg]
 exact ⟨e,h3,by omega,hx⟩
theorem implRank {p:Int} {l:List Int} (v:Vw p l) {k:Nat} (hk:100 < k):impl_RankOfWord.f k p l=some (hr p l l.length,0):=by
 have hb:=isP_b v.pr
 unfold impl_RankOfWord.f
 rw [within_r,decide_eq_true (by omega),decide_eq_true (by omega),Option.bind_some,Bool.and_self,if_pos rfl,implIsWord hb.2 v.pos v.most v.ins,Option.bind_some,if_pos rfl]
 have h8:=v.most
 have go:∀ d i k:Nat,i + d=l.length→d < k→impl_RankOfWord.l0 k p (hr p l i) l (l.length:Int) (i:Int)=some (hr p l l.length,0):=by
  intro d
  induction d with
  | zero =>
   intro i k hi hk
   obtain ⟨k,rfl⟩:∃ m,k=m + 1:=⟨k - 1,by omega⟩
   rw [impl_RankOfWord.l0,if_neg (by omega),show i=l.length by omega]
  | succ d ih =>
   intro i k hi hk
   obtain ⟨k,rfl⟩:∃ m,k=m + 1:=⟨k - 1,by omega⟩
   have hil:i < l.length:=by omega
   obtain ⟨e,h0,h1,h2,h3⟩:=hr_step v.pr h8 v.ins hil
   rw [impl_RankOfWord.l0,if_pos (by omega),if_pos (by omega),if_pos (by omega),rd_nat hil,w64 (n:=hr p l i * p) (by omega) (by omega),w64 (n:=l[i]) (by omega) (by omega),w64 (n:=hr p l i * p + l[i]) (by omega) (by omega),← e,w64 (n:=(i:Int) + 1) (by omega) (by omega),show (i:Int) + 1=((i + 1:Nat):Int) by omega]
   exact ih (i + 1) k (by omega) (by omega)
 exact go l.length 0 k (by omega) (by omega)
theorem specRank {p:Int} {l:List Int} (v:Vw p l) {k:Nat} (hk:200 < k):spec_RankOfWord.f k p l=some (hr p l l.length,0):=by
 have hb:=isP_b v.pr
 unfold spec_RankOfWord.f
 obtain ⟨k,rfl⟩:∃ m,k=m + 1:=⟨k - 1,by omega⟩
 rw [in_r,decide_eq_true (by omega),decide_eq_true (by omega),Option.bind_some,Bool.and_self,if_pos rfl,specWordR v.pos v.most (fun x hx=>by have:=v.ins x hx;omega) (by omega),Option.bind_some,if_pos rfl,specBelowR v.most hb.2 v.ins (by omega),Option.bind_some,Bool.not_true,spec_RankOfWord.j0,if_neg (by decide)]
 have h8:=v.most
 have go:∀ d i k:Nat,i + d=l.length→d < k→spec_RankOfWord.l0 k p l (hr p l i) (i:Int)=some (hr p l l.length,0):=by
  intro d
  induction d with
  | zero =>
   intro i k hi hk
   obtain ⟨k,rfl⟩:∃ m,k=m + 1:=⟨k - 1,by omega⟩
   rw [spec_RankOfWord.l0,if_neg (by omega),show i=l.length by omega]
  | succ d ih =>
   intro i k hi hk
   obtain ⟨k,rfl⟩:∃ m,k=m + 1:=⟨k - 1,by omega⟩
   have hil:i < l.length:=by omega
   obtain ⟨e,h0,h1,h2,h3⟩:=hr_step v.pr h8 v.ins hil
   rw [spec_RankOfWord.l0,if_pos (by omega),if_pos (by omega),rd_nat hil,w64 (n:=hr p l i * p) (by omega) (by omega),w64 (n:=l[i]) (by omega) (by omega),w64 (n:=hr p l i * p + l[i]) (by omega) (by omega),← e,w64 (n:=(i:Int) + 1) (by omega) (by omega),show (i:Int) + 1=((i + 1:Nat):Int) by omega]
   exact ih (i + 1) k (by omega) (by omega)
 exact go l.length 0 k (by omega) (by omega)
theorem implPower {p:Int} (h:isP p) {n:Nat} (hn:n≤8) {k:Nat} (hk:100 < k):impl_power.f k p (n:Int)=some (pw p n):=by
 unfold impl_power.f
 have go:∀ d i k:Nat,i + d=n→d < k→impl_power.l0 k p (pw p i) (n:Int) (i:Int)=some (pw p n):=by
  intro d
  induction d with
  | zero =>
   intro i k hi hk
   obtain ⟨k,rfl⟩:∃ m,k=m + 1:=⟨k - 1,by omega⟩
   rw [impl_power.l0,if_neg (by omega),show i=n by omega]
  | succ d ih =>
   intro i k hi hk
   obtain ⟨k,rfl⟩:∃ m,k=m + 1:=⟨k - 1,by omega⟩
   have hp:=pw_b h (n:=i + 1) (by omega)
   have e:pw p i * p=pw p (i + 1):=rfl
   rw [impl_power.l0,if_pos (by omega),e,w64 (n:=pw p (i + 1)) (by omega) (by omega),w64 (by omega) (by omega),show (i:Int) + 1=((i + 1:Nat):Int) by omega]
   exact ih (i + 1) k (by omega) (by omega)
 exact go n 0 k (by omega) (by omega)
theorem implAt {p:Int} {l:List Int} (v:Vw p l) {k:Nat} (hk:100 < k):impl_wordAt.f k p (l.length:Int) (hr p l l.length)=some l:=by
 have hb:=isP_b v.pr
 have h8:=v.most
 have h1:=v.pos
 unfold impl_wordAt.f
 rw [if_pos (by omega),if_pos (by omega),Int.toNat_natCast]
 have go:∀ i k:Nat,i≤l.length→i < k→∀ x7:List Int,x7.length=l.length→x7.drop i=l.drop i→impl_wordAt.l0 k p (hr p l i) x7 ((i:Int) - 1)=some l:=by
  intro i
  induction i with
  | zero =>
   intro k hi hk x7 hx hd
   obtain ⟨k,rfl⟩:∃ m,k=m + 1:=⟨k - 1,by omega⟩
   rw [List.drop_zero,List.drop_zero] at hd
   rw [impl_wordAt.l0,if_neg (by omega),hd]
  | succ i ih =>
   intro k hi hk x7 hx hd
   obtain ⟨k,rfl⟩:∃ m,k=m + 1:=⟨k - 1,by omega⟩
   have hil:i < l.length:=by omega
   obtain ⟨e,g0,g1,g2,g3⟩:=hr_step v.pr h8 v.ins hil
   obtain ⟨q1,q2⟩:=hr_b v.pr v.ins i (by omega)
   have hp:=pw_b v.pr (n:=i) (by omega)
   have em:Int.tmod (hr p l (i + 1)) p=l[i]:=by
    rw [e,Int.tmod_eq_emod_of_nonneg (by omega),Int.add_comm,Int.add_mul_emod_self_right,Int.emod_eq_of_lt g2 g3]
   have ed:Int.tdiv (hr p l (i + 1)) p=hr p l i:=by
    rw [e,Int.tdiv_eq_ediv_of_nonneg (by omega),Int.add_comm,Int.add_mul_ediv_right _ _ (by omega),Int.ediv_eq_zero_of_lt g2 g3,Int.zero_add]
   rw [show ((i + 1:Nat):Int) - 1=(i:Int) by omega,impl_wordAt.l0,if_pos (by omega),if_neg (by omega),if_pos (by omega),if_pos (by omega),em,ed,w64 (n:=hr p l i) (by omega) (by omega),w64 (n:=(i:Int) - 1) (by omega) (by omega),Int.emod_eq_of_lt (a:=l[i]) (b:=256) (by omega) (by omega),Int.toNat_natCast]
   refine ih k (by omega) (by omega) _ (by rw [List.length_set];exact hx) ?_
   have hs:i < (x7.set i l[i]).length:=by rw [List.length_set];omega
   rw [List.drop_eq_getElem_cons hs,List.drop_eq_getElem_cons hil,List.getElem_set_self]
   have h2:(x7.set i l[i]).drop (i + 1)=x7.drop (i + 1):=List.drop_set_of_lt (by omega)
   rw [h2,hd]
 rw [w64 (by omega) (by omega)]
 exact go l.length k (Nat.le_refl _) (by omega) _ (by simp) (by simp)
theorem implWordAtR {p:Int} {l:List Int} (v:Vw p l) {k:Nat} (hk:100 < k):impl_WordAt.f k p (l.length:Int) (hr p l l.length)=some (l,0):=by
 have hb:=isP_b v.pr
 have h8:=v.most
 have h1:=v.pos
 obtain ⟨q1,q2⟩:=hr_b v.pr v.ins l.length (Nat.le_refl _)
 have hp:=pw_b v.pr (n:=l.length) h8
 have hc:impl_apartCode.f p (l.length:Int) 1=some 0:=by
  unfold impl_apartCode.f
  rw [within_r,decide_eq_true (by omega),decide_eq_true (by omega),Option.bind_some,Bool.and_self,if_pos rfl,within_r,decide_eq_true (by omega),decide_eq_true (by omega),Option.bind_some,Bool.and_self,if_pos rfl,within_r,decide_eq_true (by omega),decide_eq_true (by omega)]
  rfl
 unfold impl_WordAt.f
 rw [hc,Option.bind_some,if_pos rfl,implPower v.pr h8 hk,Option.bind_some,w64 (by omega) (by omega),within_r,decide_eq_true (by omega),decide_eq_true (by omega),Option.bind_some,Bool.and_self,if_pos rfl,implAt v hk,Option.bind_some]
abbrev bs (l:List UInt8):ByteArray:=⟨l.toArray⟩
theorem bs_size (l:List UInt8):(bs l).size=l.length:=by simp [bs,ByteArray.size]
theorem dec_len (k:Nat):∀ n:Nat,n < 10 ^ (k + 1)→(Lib.decDigits n).length≤k + 1:=by
 induction k with
 | zero =>
  intro n h
  rw [Lib.decDigits_one (by omega)]
  simp
 | succ k ih =>
  intro n h
  by_cases h1:n < 10
  ·rw [Lib.decDigits_one h1]
   simp
  ·rw [Lib.decDigits,dif_neg h1,List.length_append]
   have:=ih (n / 10) (by rw [Nat.pow_succ] at h;omega)
   simp
   omega
theorem itoa_len {n:Nat} (h:n < 1000000000000000000):(Lib.itoa (n:Int)).length≤18:=by
 unfold Lib.itoa
 rw [if_neg (by omega)]
 exact dec_len 17 n (by omega)
theorem itoa_nn {x:Int} (h0:0≤x) (h1:x < 1000000000000000000):(Lib.itoa x).length≤18:=by
 obtain ⟨n,rfl⟩:∃ n:Nat,x=(n:Int):=⟨x.toNat,by omega⟩
 exact itoa_len (by omega)
theorem decFrom_snoc (b:UInt8):∀ (l:List UInt8) (acc:Nat),Lib.decFrom acc (l ++ [b])=(Lib.decFrom acc l).bind fun m=>(Lib.digitVal b).map fun d=>m * 10 + d
 | [],acc=>by
  simp only [List.nil_append,Lib.decFrom,Option.bind_some]
  cases Lib.digitVal b <;> rfl
 | a :: l,acc=>by
  simp only [List.cons_append,Lib.decFrom]
  cases Lib.digitVal a with
  | none=>rfl
  | some d=>exact decFrom_snoc b l _
theorem ofNat_toNat {d:Nat} (h:d < 10):(UInt8.ofNat (48 + d)).toNat=48 + d:=by
 simp only [UInt8.toNat_ofNat']
 omega
theorem digit_byte {d:Nat} (h:d < 10):Lib.digitVal (UInt8.ofNat (48 + d))=some d:=by
 unfold Lib.digitVal
 rw [ofNat_toNat h,if_pos (by omega)]
 congr 1
 omega
theorem byte_digit {b:UInt8} {d:Nat} (h:Lib.digitVal b=some d):d < 10∧b=UInt8.ofNat (48 + d):=by
 obtain ⟨h0,h1,h2⟩:=Lib.digitVal_eq h
 refine ⟨by omega,UInt8.toNat_inj.1 ?_⟩
 rw [ofNat_toNat (by omega)]
 omega
theorem digits_from (n:Nat):Lib.decFrom 0 (Lib.decDigits n)=some n:=by
 induction n using Nat.strongRecOn with
 | _ n ih =>
  by_cases h:n < 10
  ·rw [Lib.decDigits_one h]
   simp only [Lib.decFrom,digit_byte h]
   congr 1
   omega
  ·rw [Lib.decDigits,dif_neg h,decFrom_snoc,ih (n / 10) (by omega),Option.bind_some,digit_byte (by omega)]
   simp only [Option.map_some]
   congr 1
   omega
theorem digits_head (n:Nat):10≤n→∃ b r,Lib.decDigits n=b :: r∧b≠48:=by
 induction n using Nat.strongRecOn with
 | _ n ih =>
  intro h
  rw [Lib.decDigits,dif_neg (by omega)]
  by_cases h1:n / 10 < 10
  ·rw [Lib.decDigits_one h1]
   refine ⟨_,_,rfl,fun e=>?_⟩
   have:=congrArg UInt8.toNat e
   rw [ofNat_toNat h1] at this
   have e48:(48:UInt8).toNat=48:=rfl
   omega
  ·obtain ⟨b,r,e,hb⟩:=ih (n / 10) (by omega) (by omega)
   rw [e]
   exact ⟨b,_,rfl,hb⟩
theorem digits_back:∀ (k:Nat) (l:List UInt8),l.length=k + 1→∀ n,Lib.decFrom 0 l=some n→(l.head?=some 48→l.length=1)→l=Lib.decDigits n:=by
 intro k
 induction k with
 | zero =>
  intro l hl n h _
  match l,hl with
  | [b],_ =>
   simp only [Lib.decFrom] at h
   cases e:Lib.digitVal b with
   | none=>rw [e] at h;cases h
   | some d =>
    rw [e] at h
    obtain ⟨hd,hb⟩:=byte_digit e
    simp only [Option.some.injEq] at h
    have:n=d:=by omega
    subst this
    rw [Lib.decDigits_one hd,hb]
 | succ k ih =>
  intro l hl n h hh
  have hne:l≠[]:=by intro e;rw [e] at hl;simp at hl
  obtain ⟨p,b,rfl⟩:∃ p b,l=p ++ [b]:=⟨_,_,(List.dropLast_concat_getLast hne).symm⟩
  rw [List.length_append,List.length_singleton] at hl
  rw [decFrom_snoc] at h
  cases em:Lib.decFrom 0 p with
  | none=>rw [em] at h;cases h
  | some m =>
   rw [em,Option.bind_some] at h
   cases ed:Lib.digitVal b with
   | none=>rw [ed] at h;cases h
   | some d =>
    rw [ed,Option.map_some,Option.some.injEq] at h
    obtain ⟨hd,hb⟩:=byte_digit ed
    obtain ⟨c,r,hp⟩:∃ c r,p=c :: r:=by
     cases p with
     | nil=>simp at hl
     | cons c r=>exact ⟨c,r,rfl⟩
    have hc:¬ p.head?=some 48:=fun e=>by
     have:=hh (by rw [hp] at e ⊢;simpa using e)
     rw [List.length_append,List.length_singleton] at this
     omega
    have e:=ih p (by omega) m em (fun e=>absurd e hc)
    have hm:1≤m:=by
     rcases Nat.eq_zero_or_pos m with h0|h0
     ·subst h0
      rw [Lib.decDigits_one (by omega)] at e
      exact absurd (by rw [e];rfl) hc
     ·exact h0
    rw [Lib.decDigits,dif_neg (by omega),show n / 10=m by omega,show n % 10=d by omega,← e,← hb]
def numO (l:List UInt8):Option Nat:=if l=[] then none else if 9 < l.length then none else if l.head?=some 48∧1 < l.length then none else Lib.decFrom 0 l
theorem numO_some {l:List UInt8} {n:Nat} (h:numO l=some n):l=Lib.decDigits n∧n < 1000000000:=by
 unfold numO at h
 split at h
 ·cases h
 ·split at h
  ·cases h
  ·split at h
   ·cases h
   ·rename_i h1 h2 h3
    have hl:1≤l.length:=by
     cases l with
     | nil=>exact absurd rfl h1
     | cons _ _=>simp
    refine ⟨digits_back (l.length - 1) l (by omega) n h (fun e=>?_),?_⟩
    ·rcases Nat.lt_or_ge 1 l.length with h4|h4
     ·exact absurd ⟨e,h4⟩ h3
     ·omega
    ·have:=Lib.decFrom_lt l 0 n h
     have h5:10 ^ l.length≤10 ^ 9:=Nat.pow_le_pow_right (by omega) (by omega)
     omega
theorem digits_ne (n:Nat):Lib.decDigits n≠[]:=fun e=>by
 by_cases h:n < 10
 ·rw [Lib.decDigits_one h] at e
  cases e
 ·obtain ⟨b,r,e1,_⟩:=digits_head n (by omega)
  rw [e1] at e
  cases e
theorem numO_digits {n:Nat} (h:n < 1000000000):numO (Lib.decDigits n)=some n:=by
 unfold numO
 have hl:=dec_len 8 n (by omega)
 rw [if_neg (digits_ne n),if_neg (by omega),if_neg,digits_from]
 rintro ⟨h1,h2⟩
 by_cases h3:n < 10
 ·rw [Lib.decDigits_one h3] at h2
  simp at h2
 ·obtain ⟨b,r,e,hb⟩:=digits_head n (by omega)
  rw [e] at h1
  exact hb (by simpa using h1)
theorem decFrom_ge:∀ (l:List UInt8) (acc n:Nat),Lib.decFrom acc l=some n→acc≤n
 | [],acc,n,h=>by
  simp only [Lib.decFrom,Option.some.injEq] at h
  omega
 | b :: l,acc,n,h=>by
  simp only [Lib.decFrom] at h
  cases e:Lib.digitVal b with
  | none=>rw [e] at h;cases h
  | some d =>
   rw [e] at h
   have:=decFrom_ge l _ n h
   omega
theorem parseM_of:∀ (l:List UInt8) (acc n:Nat),Lib.decFrom acc l=some n→n < 1000000000000000000→Lib.parseUintM (2 ^ 64 - 1) acc l=.ok n
 | [],acc,n,h,_=>by
  simp only [Lib.decFrom,Option.some.injEq] at h
  subst h
  rfl
 | b :: l,acc,n,h,hn=>by
  simp only [Lib.decFrom] at h
  cases e:Lib.digitVal b with
  | none=>rw [e] at h;cases h
  | some d =>
   rw [e] at h
   obtain ⟨h0,h1,h2⟩:=Lib.digitVal_eq e
   have h3:=decFrom_ge l _ n h
   unfold Lib.parseUintM
   rw [if_pos ⟨h0,h1⟩,if_neg (by omega),if_neg (by omega),← h2]
   exact parseM_of l _ n h hn
theorem parse_digits {n:Nat} (h:n < 1000000000):Lib.parseIntB 64 (Lib.decDigits n)=.ok (n:Int):=by
 have hf:=digits_from n
 have hne:=digits_ne n
 generalize Lib.decDigits n=l at hf hne
 cases l with
 | nil=>exact absurd rfl hne
 | cons c r =>
  have hc:48≤c.toNat:=by
   simp only [Lib.decFrom] at hf
   cases e:Lib.digitVal c with
   | none=>rw [e] at hf;cases hf
   | some d=>exact (Lib.digitVal_eq e).1
  have hp:=parseM_of _ _ _ hf (by omega)
  unfold Lib.parseIntB Lib.parseUintB
  simp only
  rw [if_neg (show ¬ (c.toNat=43∨c.toNat=45) by omega),if_neg (show ¬ (c :: r=[]) by simp),hp]
  simp only
  rw [if_neg (by omega),if_neg (by omega),if_neg (by omega)]
def spl (c:UInt8):List UInt8→List (List UInt8)
 | []=>[[]]
 | b :: l=>if b=c then [] :: spl c l else (match spl c l with|[]=>[[b]]|h :: t=>(b :: h) :: t)
theorem spl_ne (c:UInt8) (l:List UInt8):spl c l≠[]:=by
 cases l with
 | nil=>simp [spl]
 | cons b l =>
  unfold spl
  split
  ·simp
  ·split <;> simp
theorem spl_miss (c:UInt8):∀ (s:List UInt8),(∀ b∈s,b≠c)→spl c s=[s]
 | [],_=>rfl
 | b :: l,h=>by
  unfold spl
  rw [if_neg (h b (by simp)),spl_miss c l (fun x hx=>h x (by simp [hx]))]
theorem spl_hit (c:UInt8) (t:List UInt8):∀ (p:List UInt8),(∀ b∈p,b≠c)→spl c (p ++ c :: t)=p :: spl c t
 | [],_=>by
  simp only [List.nil_append]
  conv=>lhs;unfold spl
  rw [if_pos rfl]
 | b :: p,h=>by
  simp only [List.cons_append]
  conv=>lhs;unfold spl
  rw [if_neg (h b (by simp)),spl_hit c t p (fun x hx=>h x (by simp [hx]))]
theorem bs_extract (s:List UInt8) (a b:Nat):(bs s).extract a b=bs ((s.take b).drop a):=by
 apply ByteArray.ext
 simp [bs,ByteArray.data_extract,List.extract_eq_take_drop,List.drop_take]
theorem split_eq (c:UInt8):∀ (k:Nat) (s:List UInt8),Lib.countB (bs s) (bs [c])=k→Lib.splitB (bs [c]) 0 k (bs s)=(spl c s).map bs:=by
 have h1:(bs [c]).size=1:=rfl
 intro k
 induction k with
 | zero =>
  intro s hk
  rw [Lib.splitB_zero]
  have:Lib.indexB (bs s) (bs [c])=-1:=by
   rcases Lib.indexB_cases (bs s) (bs [c]) with h|⟨i,h,_⟩
   ·exact h
   ·have:=Lib.countB_hit (bs s) (bs [c]) i (by omega) h
    omega
  have h2:Lib.indexByte s c=-1:=by
   rw [← Lib.index_one]
   exact this
  rw [spl_miss c s (fun b hb e=>by
   obtain ⟨j,hj,rfl⟩:=List.mem_iff_getElem.1 hb
   exact Lib.indexByte_none h2 j (by rw [List.getElem?_eq_getElem hj,e]))]
  rfl
 | succ k ih =>
  intro s hk
  rcases Lib.indexB_cases (bs s) (bs [c]) with h|⟨i,h,hi⟩
  ·rw [Lib.countB_miss _ _ h] at hk
   omega
  ·have hc:=Lib.countB_hit (bs s) (bs [c]) i (by omega) h
   have h2:Lib.indexByte s c=(i:Int):=by
    rw [← Lib.index_one]
    exact h
   obtain ⟨hg,hb⟩:=Lib.indexByte_some h2
   have hil:i < s.length:=(List.getElem?_eq_some_iff.1 hg).1
   have hs:s=s.take i ++ c :: s.drop (i + 1):=by
    have e3:s[i]=c:=(List.getElem?_eq_some_iff.1 hg).2
    rw [show c :: s.drop (i + 1)=s[i] :: s.drop (i + 1) by rw [e3],← List.drop_eq_getElem_cons hil,List.take_append_drop]
   have hsz:(bs s).size=s.length:=bs_size s
   rw [Lib.splitB_hit _ _ _ _ i h,bs_extract,bs_extract,h1,hsz]
   rw [bs_extract,h1,hsz] at hc
   have e1:(s.take s.length).drop (i + 1)=s.drop (i + 1):=by rw [List.take_of_length_le (Nat.le_refl _)]
   have e2:(s.take (i + 0)).drop 0=s.take i:=by simp
   rw [e1] at hc ⊢
   rw [e2,ih _ (by omega)]
   conv=>rhs;rw [hs]
   rw [spl_hit c _ _ (fun b hb' e=>by
    obtain ⟨j,hj,rfl⟩:=List.mem_iff_getElem.1 hb'
    rw [List.length_take] at hj
    rw [List.getElem_take] at e
    exact hb j (by omega) ((List.getElem?_eq_getElem (by omega)).trans (congrArg some e)))]
   rfl
theorem from_digits:∀ (l:List UInt8) (acc n:Nat),Lib.decFrom acc l=some n→∀ b∈l,∃ d,Lib.digitVal b=some d
 | [],_,_,_,b,hb=>by simp at hb
 | c :: l,acc,n,h,b,hb=>by
  unfold Lib.decFrom at h
  cases hd:Lib.digitVal c with
  | none=>rw [hd] at h;simp at h
  | some d =>
   rw [hd] at h
   rcases List.mem_cons.1 hb with e|e
   ·rw [e]
    exact ⟨d,hd⟩
   ·exact from_digits l _ n h b e
theorem digit_ne {b:UInt8} {d:Nat} (h:Lib.digitVal b=some d):b≠32∧b≠47:=by
 obtain ⟨h1,h2⟩:=byte_digit h
 have h3:=ofNat_toNat h1
 rw [← h2] at h3
 refine ⟨fun e=>?_,fun e=>?_⟩
 ·rw [e] at h3
  have:(32:UInt8).toNat=32:=rfl
  omega
 ·rw [e] at h3
  have:(47:UInt8).toNat=47:=rfl
  omega
theorem itoa_ne {x:Int} (h0:0≤x):∀ b∈Lib.itoa x,b≠32∧b≠47:=fun b hb=>by
 unfold Lib.itoa at hb
 rw [if_neg (by omega)] at hb
 obtain ⟨d,hd⟩:=from_digits _ 0 _ (digits_from x.toNat) b hb
 exact digit_ne hd
theorem numO_itoa {x:Int} (h0:0≤x) (h1:x < 1000000000):numO (Lib.itoa x)=some x.toNat:=by
 unfold Lib.itoa
 rw [if_neg (by omega)]
 exact numO_digits (by omega)
theorem spl_join:∀ (x:List UInt8) (r:List (List UInt8)),(∀ w∈x :: r,∀ b∈w,b≠32)→spl 32 (Lib.join (x :: r) [32])=x :: r
 | x,[],h=>by rw [Lib.join_one,spl_miss 32 x (h x (by simp))]
 | x,y :: r,h=>by
  have e:Lib.join (x :: y :: r) [32]=x ++ 32 :: Lib.join (y :: r) [32]:=by
   rw [Lib.join_cons,Lib.join_cons]
   simp [Lib.joinTail]
  rw [e,spl_hit 32 _ _ (h x (by simp)),spl_join y r (fun w hw=>h w (List.mem_cons_of_mem _ hw))]
theorem rdB {ps:List (List UInt8)} {i:Nat} (h:i < ps.length):rdOf ByteArray.empty (ps.map bs) (i:Int)=bs ps[i]:=by
 show (ps.map bs).getD i ByteArray.empty=bs ps[i]
 rw [List.getD_eq_getElem?_getD,List.getElem?_map,List.getElem?_eq_getElem h]
 rfl
theorem itoa_nat (n:Nat):Lib.itoa (n:Int)=Lib.decDigits n:=by
 unfold Lib.itoa
 rw [if_neg (by omega)]
 rfl
theorem implNumber (l:List UInt8) (hl:l.length≤281474976710656) (most:Int) (h1:most < 1000000000):impl_number.f (bs l) most=some (match numO l with|some n=>if (n:Int)≤most then ((n:Int),true) else (0,false)|none=>(0,false)):=by
 unfold impl_number.f
 rw [bs_size,if_pos hl]
 have hd:(bs l).data.toList=l:=rfl
 rw [hd]
 cases hn:numO l with
 | some n =>
  obtain ⟨he,hb⟩:=numO_some hn
  rw [he,parse_digits hb]
  simp only
  have:impl_number.is (bs (Lib.decDigits n)) most (n:Int)=decide ((n:Int)≤most):=by
   unfold impl_number.is
   rw [decide_eq_true (show Lib.itoa (n:Int)=(bs (Lib.decDigits n)).data.toList from itoa_nat n),decide_eq_true (show (0:Int)≤(n:Int) by omega)]
   simp
  rw [this]
  by_cases h:(n:Int)≤most
  ·rw [if_pos h,decide_eq_true h]
   rfl
  ·rw [if_neg h,decide_eq_false h]
   rfl
 | none =>
  cases hp:Lib.parseIntB 64 l with
  | «syntax»=>rfl
  | range=>rfl
  | ok v =>
   simp only
   have:impl_number.is (bs l) most v=false:=by
    cases e:impl_number.is (bs l) most v with
    | false=>rfl
    | true =>
     unfold impl_number.is at e
     simp only [Bool.and_eq_true,decide_eq_true_eq] at e
     obtain ⟨e1,e2,e3⟩:=e
     obtain ⟨n,rfl⟩:∃ n:Nat,v=(n:Int):=⟨v.toNat,by omega⟩
     rw [itoa_nat] at e1
     have e4:l=Lib.decDigits n:=e1.symm
     rw [e4,numO_digits (by omega)] at hn
     cases hn
   rw [this]
   rfl
def lettersO (most:Nat):List (List UInt8)→List Int→Option (List Int)
 | [],acc=>some acc
 | p :: r,acc=>match numO p with
  | some n=>if n≤36 then (if acc.length=most then none else lettersO most r (acc ++ [(n:Int)])) else none
  | none=>none
def wordR (ps:List (List UInt8)):List Int × Int:=match lettersO 8 ps [] with|some w=>(w,0)|none=>([],5)
theorem implLetters (ps:List (List UInt8)) (hps:ps.length≤1048577) (hp:∀ x∈ps,x.length≤1048576) (K:Nat) (hK:ps.length < K):impl_ReadWord.l0 K [] (ps.map bs) (ps.length:Int) 0=some (wordR ps):=by
 obtain ⟨r,hr,h⟩:=loop_inv (fun k (s:List Int × Int)=>impl_ReadWord.l0 k s.1 (ps.map bs) (ps.length:Int) s.2) ps.length (fun i s=>s.2=(i:Int)∧s.1.length≤8∧lettersO 8 ps []=lettersO 8 (ps.drop i) s.1) (fun r=>r=wordR ps)
  (fun k i s hi ⟨h1,h2,h3⟩=>by
   obtain ⟨acc,x⟩:=s
   simp only at h1 h2 h3
   subst h1
   have hx:=hp _ (List.getElem_mem hi)
   rw [List.drop_eq_getElem_cons hi] at h3
   simp only [lettersO] at h3
   simp only [impl_ReadWord.l0]
   rw [if_pos (by omega),if_pos (by omega),if_pos (by rw [List.length_map];omega),rdB hi,implNumber _ (by omega) 36 (by omega)]
   simp only [Option.bind_some]
   cases hn:numO ps[i] with
   | none =>
    rw [hn] at h3
    refine .inr ⟨([],5),?_,by simp⟩
    unfold wordR
    rw [h3]
   | some n =>
    rw [hn] at h3
    simp only at h3
    by_cases h36:n≤36
    ·rw [if_pos h36] at h3
     have hv:(if (n:Int)≤36 then ((n:Int),true) else ((0:Int),false))=((n:Int),true):=if_pos (by omega)
     simp only [hv]
     rw [if_pos trivial]
     by_cases h8:acc.length=8
     ·rw [if_pos h8] at h3
      refine .inr ⟨([],5),?_,by rw [if_pos (by omega)]⟩
      unfold wordR
      rw [h3]
     ·rw [if_neg h8] at h3
      rw [if_neg (by omega),if_pos (by omega),w64 (by omega) (by omega)]
      refine .inl ⟨(acc ++ [(n:Int)],((i + 1:Nat):Int)),⟨rfl,by simp;omega,h3⟩,?_⟩
      simp only
      rw [show (n:Int) % 256=(n:Int) by omega]
      rfl
    ·rw [if_neg h36] at h3
     have hv:(if (n:Int)≤36 then ((n:Int),true) else ((0:Int),false))=((0:Int),false):=if_neg (by omega)
     simp only [hv]
     refine .inr ⟨([],5),?_,by simp⟩
     unfold wordR
     rw [h3])
  (fun k s ⟨h1,h2,h3⟩=>by
   obtain ⟨acc,x⟩:=s
   simp only at h1 h2 h3
   subst h1
   rw [List.drop_eq_nil_of_le (Nat.le_refl _)] at h3
   refine ⟨wordR ps,rfl,?_⟩
   simp only [impl_ReadWord.l0]
   rw [if_neg (by omega)]
   unfold wordR
   rw [h3]
   rfl) K ([],0) ⟨rfl,by simp,rfl⟩ hK
 rw [h,hr]
theorem implSplit (c:UInt8) (l:List UInt8) (hl:l.length≤1048576):strings_Split.f (bs l) (bs [c])=some ((spl c l).map bs):=by
 unfold strings_Split.f
 rw [bs_size,bs_size,if_pos (by omega),if_pos (by simp),split_eq c _ l rfl]
theorem spl_len (c:UInt8):∀ l:List UInt8,(spl c l).length≤l.length + 1∧∀ x∈spl c l,x.length≤l.length
 | []=>by simp [spl]
 | b :: l=>by
  obtain ⟨h1,h2⟩:=spl_len c l
  unfold spl
  split
  ·refine ⟨by simpa using h1,fun x hx=>?_⟩
   rcases List.mem_cons.1 hx with rfl|hx
   ·simp
   ·have:=h2 x hx
    simp
    omega
  ·cases e:spl c l with
   | nil=>exact absurd e (spl_ne c l)
   | cons y r =>
    rw [e] at h1 h2
    simp only
    refine ⟨by simp at h1 ⊢;omega,fun x hx=>?_⟩
    rcases List.mem_cons.1 hx with rfl|hx
    ·have:=h2 y (by simp)
     simp
     omega
    ·have:=h2 x (by simp [hx])
     simp
     omega
theorem dec_impl {n:Nat} (h:n < 1000000000000000000):impl_decimal.f (n:Int)=some (bs (Lib.itoa (n:Int))):=by
 unfold impl_decimal.f
 rw [if_pos (by omega),if_pos (by omega)]
theorem joinTail_le (m c:Nat) (sep:List UInt8) (hs:sep.length≤c):∀ r:List (List UInt8),(∀ x∈r,x.length≤m)→(Lib.joinTail sep r).length≤(m + c) * r.length
 | [],_=>by simp [Lib.joinTail]
 | x :: r,h=>by
  have h1:=joinTail_le m c sep hs r (fun y hy=>h y (List.mem_cons_of_mem _ hy))
  have h2:=h x List.mem_cons_self
  have e:Lib.joinTail sep (x :: r)=(sep ++ x) ++ Lib.joinTail sep r:=by simp [Lib.joinTail]
  rw [e,List.length_append,List.length_append,List.length_cons,Nat.mul_succ]
  omega
theorem join_le (m c:Nat) (sep:List UInt8) (hs:sep.length≤c) (xs:List (List UInt8)) (h:∀ x∈xs,x.length≤m):(Lib.join xs sep).length≤(m + c) * xs.length:=by
 cases xs with
 | nil=>simp [Lib.join_nil]
 | cons x r =>
  have h1:=joinTail_le m c sep hs r (fun y hy=>h y (List.mem_cons_of_mem _ hy))
  have h2:=h x List.mem_cons_self
  rw [Lib.join_cons,List.length_append,List.length_cons,Nat.mul_succ]
  omega
def wordTxt (l:List Int):List UInt8:=Lib.join (l.map Lib.itoa) [32]
theorem wordTxt_le (l:List Int) (h:∀ x∈l,0≤x∧x≤255):(wordTxt l).length≤19 * l.length:=by
 have:=join_le 18 1 [32] (by simp) (l.map Lib.itoa) (fun y hy=>by
  obtain ⟨x,hx,rfl⟩:=List.mem_map.1 hy
  have:=h x hx
  exact itoa_nn (by omega) (by omega))
 simpa [wordTxt] using this
theorem implText (l:List Int) (hl:l.length≤8) (hb:∀ x∈l,0≤x∧x≤255) (K:Nat) (hK:100≤K):impl_WordText.l0 K [] l (l.length:Int) 0=some (bs (wordTxt l)):=by
 obtain ⟨r,hr,h⟩:=loop_inv (fun k (s:List ByteArray × Int)=>impl_WordText.l0 k s.1 l (l.length:Int) s.2) l.length (fun i s=>s.2=(i:Int)∧s.1=(l.take i).map (fun x=>bs (Lib.itoa x))) (fun r=>r=bs (wordTxt l))
  (fun k i s hi ⟨h1,h2⟩=>by
   obtain ⟨acc,x⟩:=s
   simp only at h1 h2
   subst h1 h2
   obtain ⟨n,hn⟩:∃ n:Nat,l[i]=(n:Int):=⟨(l[i]).toNat,by have:=hb _ (List.getElem_mem hi);omega⟩
   have hn1:=hb _ (List.getElem_mem hi)
   simp only [impl_WordText.l0]
   rw [if_pos (by omega),if_pos (by omega),if_pos (by omega),rd_nat hi,hn,w64 (by omega) (by omega),dec_impl (by omega)]
   simp only [Option.bind_some]
   rw [if_pos (by simp;omega),w64 (by omega) (by omega)]
   refine .inl ⟨((l.take (i + 1)).map (fun x=>bs (Lib.itoa x)),((i + 1:Nat):Int)),⟨rfl,rfl⟩,?_⟩
   rw [List.take_succ_eq_append_getElem hi,List.map_append,List.map_cons,List.map_nil,hn]
   rfl)
  (fun k s ⟨h1,h2⟩=>by
   obtain ⟨acc,x⟩:=s
   simp only at h1 h2
   subst h1 h2
   refine ⟨bs (wordTxt l),rfl,?_⟩
   simp only [impl_WordText.l0]
   have htl:=wordTxt_le l hb
   have e:(l.map (fun x=>bs (Lib.itoa x))).map (fun b=>b.data.toList)=l.map Lib.itoa:=by simp [bs]
   rw [if_neg (by omega),List.take_of_length_le (Nat.le_refl _)]
   unfold strings_Join.f
   rw [if_pos (by simp;omega),e,show (⟨#[32]⟩:ByteArray).data.toList=[32] from rfl,if_pos (by unfold wordTxt at htl;omega)]
   rfl) K ([],0) ⟨rfl,rfl⟩ (by omega)
 rw [h,hr]
theorem letters_back:∀ (l acc:List Int),(∀ x∈l,0≤x∧x < 37)→acc.length + l.length≤8→lettersO 8 (l.map Lib.itoa) acc=some (acc ++ l)
 | [],acc,_,_=>by simp [lettersO]
 | x :: l,acc,h,hl=>by
  have hx:=h x List.mem_cons_self
  rw [List.length_cons] at hl
  rw [List.map_cons,lettersO,numO_itoa hx.1 (by omega)]
  simp only
  rw [if_pos (by omega),if_neg (by omega),Int.toNat_of_nonneg hx.1,letters_back l _ (fun y hy=>h y (List.mem_cons_of_mem _ hy)) (by rw [List.length_append,List.length_singleton];omega),List.append_assoc]
  rfl
theorem word_back {l:List Int} (h1:1≤l.length) (h8:l.length≤8) (h:∀ x∈l,0≤x∧x < 37) {k:Nat} (hk:1200000≤k):∃ t,impl_WordText.f k l=some t∧impl_ReadWord.f k t=some (l,0):=by
 refine ⟨bs (wordTxt l),?_,?_⟩
 ·unfold impl_WordText.f
  rw [implIsWord (by omega) h1 h8 h,Option.bind_some,if_pos rfl]
  exact implText l h8 (fun x hx=>by have:=h x hx;omega) k (by omega)
 ·have hle:=wordTxt_le l (fun x hx=>by have:=h x hx;omega)
  have hsp:spl 32 (wordTxt l)=l.map Lib.itoa:=by
   unfold wordTxt
   cases l with
   | nil=>simp at h1
   | cons x r =>
    rw [List.map_cons]
    refine spl_join _ _ (fun w hw2 b hb=>?_)
    rw [← List.map_cons] at hw2
    obtain ⟨y,hy,rfl⟩:=List.mem_map.1 hw2
    exact (itoa_ne (h y hy).1 b hb).1
  obtain ⟨g1,g2⟩:=spl_len 32 (wordTxt l)
  unfold impl_ReadWord.f
  rw [show (⟨#[32]⟩:ByteArray)=bs [32] from rfl,implSplit 32 _ (by omega),Option.bind_some,List.length_map]
  refine (implLetters _ (by omega) (fun x hx=>by have:=g2 x hx;omega) k (by omega)).trans ?_
  rw [hsp]
  unfold wordR
  rw [letters_back l [] h (by simpa using h8),List.nil_append]
theorem bytes_ofR {l:List Int} (h:∀ x∈l,(Lit.int .u8 x).wf=true):Bytes l:=fun x hx=>by
 have:=h x hx
 simp [Lit.wf,IntKind.min,IntKind.max,IntKind.signed,IntKind.bits] at this
 omega
theorem pickR {code:List Int} (hc:Bytes code) {n:Int} (h1:1≤n) (h2:n≤200):∃ r,spec_P6Pick.f code n=some r∧0≤r∧r < n:=by
 unfold spec_P6Pick.f spec_l00From.f
 simp only [Option.bind_some]
 by_cases h:n=1
 ·subst h
  exact ⟨0,rfl,by omega,by omega⟩
 ·obtain ⟨r,s,e,b⟩:=pick_ok hc (seed:=0) (a:=n) (at_:=0) (by omega) (by omega) (by omega)
  rw [e]
  exact ⟨r,rfl,b⟩
theorem word_drawn {code:List Int} (hc:Bytes code) {p:Int} (hp:5≤p∧p≤37) {n:Nat} (hn:n≤8) {k:Nat} (hk:100 < k):∃ w,spec_P6Word.f k code p (n:Int)=some w∧w.length=n∧∀ x∈w,0≤x∧x < p:=by
 have go:∀ (d i k:Nat) (acc:List Int) (at_ seed:Int),i + d=n→d < k→acc.length=i→(∀ x∈acc,0≤x∧x < p)→0≤at_→at_ + d≤1000→∃ w a s,spec_l05Spelled.l0 k p (n:Int) acc (i:Int) code at_ seed=some (w,a,s)∧w.length=n∧∀ x∈w,0≤x∧x < p:=by
  intro d
  induction d with
  | zero =>
   intro i k acc at_ seed hi hk ha hin h0 h1
   obtain ⟨k,rfl⟩:∃ m,k=m + 1:=⟨k - 1,by omega⟩
   rw [spec_l05Spelled.l0,if_neg (by omega)]
   exact ⟨acc,at_,seed,rfl,by omega,hin⟩
  | succ d ih =>
   intro i k acc at_ seed hi hk ha hin h0 h1
   obtain ⟨k,rfl⟩:∃ m,k=m + 1:=⟨k - 1,by omega⟩
   obtain ⟨r,s,e,b⟩:=pick_ok hc (seed:=seed) (a:=p) (at_:=at_) (by omega) (by omega) (by omega)
   rw [spec_l05Spelled.l0,if_pos (by omega),e,Option.bind_some,if_pos (by omega),w64 (by omega) (by omega),Int.emod_eq_of_lt (a:=r) (b:=256) (by omega) (by omega),show (i:Int) + 1=((i + 1:Nat):Int) by omega]
   refine ih (i + 1) k _ (at_ + 1) s (by omega) (by omega) (by rw [List.length_append,List.length_singleton];omega) (fun x hx=>?_) (by omega) (by omega)
   rcases List.mem_append.1 hx with z|z
   ·exact hin x z
   ·rw [List.mem_singleton.1 z]
    exact b
 obtain ⟨w,a,s,e,h1,h2⟩:=go n 0 k [] 0 0 (by omega) (by omega) rfl (by simp) (by omega) (by omega)
 refine ⟨w,?_,h1,h2⟩
 unfold spec_P6Word.f spec_l00From.f spec_l05Spelled.f
 rw [Option.bind_some]
 rw [show ((0:Nat):Int)=0 from rfl] at e
 rw [e]
 rfl
theorem unlike_one {l:List Int} (h8:l.length≤8) {i:Nat} (hi:i < l.length) {c:Int} (hc:c≠l[i]) {k:Nat} (hk:100 < k):impl_unlike.f k l (l.set i c)=some 1:=by
 unfold impl_unlike.f
 have go:∀ d j k:Nat,j + d=l.length→d < k→impl_unlike.l0 k (l.set i c) (if i < j then 1 else 0) l (l.length:Int) (j:Int)=some 1:=by
  intro d
  induction d with
  | zero =>
   intro j k hj hk
   obtain ⟨k,rfl⟩:∃ m,k=m + 1:=⟨k - 1,by omega⟩
   rw [impl_unlike.l0,if_neg (by omega),if_pos (by omega)]
  | succ d ih =>
   intro j k hj hk
   obtain ⟨k,rfl⟩:∃ m,k=m + 1:=⟨k - 1,by omega⟩
   have hjl:j < l.length:=by omega
   have hjs:j < (l.set i c).length:=by rw [List.length_set];omega
   have e:=ih (j + 1) k (by omega) (by omega)
   rw [show ((j + 1:Nat):Int)=(j:Int) + 1 by omega] at e
   rw [impl_unlike.l0,if_pos (by omega),if_pos (by omega),if_pos (by omega),if_pos (by rw [List.length_set];omega),rd_nat hjs,rd_nat hjl,w64 (n:=(j:Int) + 1) (by omega) (by omega),List.getElem_set]
   by_cases hij:i=j
   ·subst hij
    rw [if_pos rfl,if_neg hc,if_neg (Nat.lt_irrefl _),w64 (by omega) (by omega)]
    rw [if_pos (by omega)] at e
    exact e
   ·rw [if_neg hij,if_pos rfl]
    by_cases hlt:i < j
    ·rw [if_pos hlt]
     rw [if_pos (by omega)] at e
     exact e
    ·rw [if_neg hlt]
     rw [if_neg (by omega)] at e
     exact e
 have:=go l.length 0 k (by omega) (by omega)
 rw [if_neg (Nat.not_lt_zero _)] at this
 exact this
theorem apart_one {p:Int} {l:List Int} (v:Vw p l) {i:Nat} (hi:i < l.length) {c:Int} (hcp:0≤c∧c < p) (hc:c≠l[i]) {k:Nat} (hk:200 < k):impl_LettersApart.f k l (l.set i c)=some (1,0):=by
 have hb:=isP_b v.pr
 obtain ⟨k,rfl⟩:∃ m,k=m + 1:=⟨k - 1,by omega⟩
 unfold impl_LettersApart.f
 rw [implIsWord (by omega) v.pos v.most (fun x hx=>by have:=v.ins x hx;omega),Option.bind_some,if_pos rfl,implIsWord (by omega) (by rw [List.length_set];exact v.pos) (by rw [List.length_set];exact v.most) (fun x hx=>by have:=set_ins v.ins i hcp x hx;omega),Option.bind_some,Bool.not_true,impl_LettersApart.j0,if_neg (by decide),if_pos (by rw [List.length_set]),unlike_one v.most hi hc (by omega),Option.bind_some]
theorem set_vw {p:Int} {l:List Int} (v:Vw p l) (i:Nat) {c:Int} (hc:0≤c∧c < p):Vw p (l.set i c):=⟨v.pr,by rw [List.length_set];exact v.pos,by rw [List.length_set];exact v.most,by rw [List.length_set];exact v.less,set_ins v.ins i hc⟩
theorem wrong_fixed {p:Int} {l:List Int} (v:Vw p l) (hk:chkd p l=true) {i:Nat} (hi:i < l.length) {e:Int} (he:0≤e∧e < p - 1):(l[i] + 1 + e) % p≠l[i]∧chkd p (l.set i ((l[i] + 1 + e) % p))=false∧resRep p (l.set i ((l[i] + 1 + e) % p))=(l,(i:Int),0):=by
 have hb:=isP_b v.pr
 have hx:=v.ins _ (List.getElem_mem hi)
 have h8:=v.most
 have hless:=v.less
 unfold chkd at hk
 rw [Bool.and_eq_true,decide_eq_true_eq,decide_eq_true_eq] at hk
 obtain ⟨kk,hkk⟩:=emod_wit (l[i] + 1 + e) p
 have hvv:=emod_in hb (l[i] + 1 + e)
 obtain ⟨s1,s2⟩:=wrong_sums (p:=p) (A:=sA l) (B:=sB 0 l) (v:=(l[i] + 1 + e) % p) (u:=l[i]) (i:Int) hk.1 hk.2
 have hd:((l[i] + 1 + e) % p - l[i]) % p=1 + e:=by
  rw [show (l[i] + 1 + e) % p - l[i]=(1 + e) + p * (-kk) by rw [Int.mul_neg];omega,Int.add_mul_emod_self_left,Int.emod_eq_of_lt (by omega) (by omega)]
 rw [hd] at s1 s2
 have hA:sA (l.set i ((l[i] + 1 + e) % p)) % p=1 + e:=by rw [sA_set l i hi];exact s1
 have hB:sB 0 (l.set i ((l[i] + 1 + e) % p)) % p=(((i:Int) + 1) * (1 + e)) % p:=by
  rw [sB_set l 0 i hi,Nat.zero_add]
  exact s2
 have hne:(l[i] + 1 + e) % p≠l[i]:=fun h=>by
  rw [h,Int.sub_self] at hd
  rw [Int.zero_emod] at hd
  omega
 have hcf:chkd p (l.set i ((l[i] + 1 + e) % p))=false:=by
  unfold chkd
  rw [hA,decide_eq_false (by omega),Bool.false_and]
 refine ⟨hne,hcf,?_⟩
 unfold resRep
 rw [if_neg (by rw [hcf];decide)]
 have hfind:(List.range (l.set i ((l[i] + 1 + e) % p)).length).find? (fitsAt p (l.set i ((l[i] + 1 + e) % p)))=some i:=by
  refine find_at (by rw [List.length_set];exact hi) ?_ (fun j hj=>?_)
  ·unfold fitsAt
   rw [hA,hB]
   refine decide_eq_true ?_
   obtain ⟨w,hw⟩:=emod_wit (((i:Int) + 1) * (1 + e)) p
   exact emod_of_wit (k:=w) (by omega)
  ·unfold fitsAt
   rw [hA]
   exact decide_eq_false (one_place v.pr hj (by omega) (by omega) (by omega) hB)
 rw [hfind]
 simp only
 unfold putAt
 rw [hA,List.getD_eq_getElem?_getD,List.getElem?_set_self hi,Option.getD_some,List.set_set]
 have hback:((l[i] + 1 + e) % p - (1 + e)) % p=l[i]:=by
  rw [show (l[i] + 1 + e) % p - (1 + e)=l[i] + p * (-kk) by rw [Int.mul_neg];omega,Int.add_mul_emod_self_left,Int.emod_eq_of_lt hx.1 hx.2]
 rw [hback,List.set_getElem_self]
theorem rep_four {p:Int} {l:List Int} (v:Vw p l) {K:Nat} (hK:1300000≤K):laws_FnRepaired.j4 (K + 1) p l=some true:=by
 have hb:=isP_b v.pr
 have h8:=v.most
 obtain ⟨t,e1,e2⟩:=word_back v.pos v.most (fun x hx=>by have:=v.ins x hx;omega) (k:=K) (by omega)
 rw [laws_FnRepaired.j4,implRank v (by omega),Option.bind_some,specRank v (by omega),Option.bind_some,implWordAtR v (by omega),Option.bind_some,e1,Option.bind_some,e2,Option.bind_some,if_pos rfl,if_pos rfl,if_pos rfl,if_pos rfl,sameWordR (l:=l) (by omega) (by omega),Option.bind_some,if_pos rfl,if_pos rfl,Option.bind_some]
theorem resRep_len {p:Int} {l:List Int} (h8:l.length≤8):(resRep p l).1.length≤8:=by
 unfold resRep
 split
 ·exact h8
 ·split
  ·simp only
   unfold putAt
   rw [List.length_set]
   exact h8
  ·simp
theorem rep_two {p:Int} {l w:List Int} (v:Vw p l) (vw:Vw p w) (hlw:w.length=l.length) {x0:List Int} (hc:Bytes x0) {K:Nat} (hK:1300000≤K):laws_FnRepaired.j2 (K + 3) x0 p l w false=some true:=by
 have hb:=isP_b v.pr
 have h8:=v.most
 have h1:=v.pos
 obtain ⟨q,eq_,q0,q1⟩:=pickR hc (n:=(l.length:Int)) (by omega) (by omega)
 obtain ⟨m,rfl⟩:∃ m:Nat,q=(m:Int):=⟨q.toNat,by omega⟩
 have hm:m < w.length:=by omega
 have hx:=vw.ins _ (List.getElem_mem hm)
 have hin:=emod_in hb (w[m] + 1)
 have hlen:([]:List Int).length + w.length < 140737488355328:=by
  simp only [List.length_nil]
  omega
 have vt:=set_vw vw m hin
 have hrl:=resRep_len (p:=p) (l:=w.set m ((w[m] + 1) % p)) (by rw [List.length_set];omega)
 rw [laws_FnRepaired.j2,if_neg (by decide),eq_,Option.bind_some,Option.bind_some,if_pos hlen,Option.bind_some,List.nil_append,if_pos (by omega),if_pos (by omega),if_neg (by omega),rd_nat hm,w64 (n:=w[m]) (by omega) (by omega),w64 (n:=w[m] + 1) (by omega) (by omega),Int.tmod_eq_emod_of_nonneg (by omega),Int.emod_eq_of_lt (a:=(w[m] + 1) % p) (b:=256) (by omega) (by omega),Int.toNat_natCast,Option.bind_some,implRep vt (by omega),Option.bind_some,specRep vt (by omega),Option.bind_some,if_pos rfl,sameWordR (l:=(resRep p (w.set m ((w[m] + 1) % p))).1) (by omega) (by omega),Option.bind_some,if_pos rfl,bne_self_eq_false,laws_FnRepaired.j3,if_neg (by decide)]
 by_cases hz:(resRep p (w.set m ((w[m] + 1) % p))).2.2=0
 ·obtain ⟨vr,cr⟩:=resRep_ok vt hz
  rw [if_pos hz,implIsCheckedR vr (by omega),Option.bind_some,cr,if_pos rfl,if_pos rfl]
  exact rep_four v (by omega)
 ·rw [if_neg hz]
  exact rep_four v (by omega)
theorem rep_one {p:Int} {l:List Int} (v:Vw p l) (hk:chkd p l=true) {x0 x1:List Int} (hc0:Bytes x0) (hc1:Bytes x1) {K:Nat} (hK:1300000≤K):laws_FnRepaired.j1 (K + 4) x0 x1 p l false=some true:=by
 have hb:=isP_b v.pr
 have h8:=v.most
 have h1:=v.pos
 obtain ⟨q,eq_,q0,q1⟩:=pickR hc1 (n:=(l.length:Int)) (by omega) (by omega)
 obtain ⟨e,ee,e0,e1⟩:=pickR hc0 (n:=p - 1) (by omega) (by omega)
 obtain ⟨m,rfl⟩:∃ m:Nat,q=(m:Int):=⟨q.toNat,by omega⟩
 have hm:m < l.length:=by omega
 have hx:=v.ins _ (List.getElem_mem hm)
 have hin:=emod_in hb (l[m] + 1 + e)
 have hlen:([]:List Int).length + l.length < 140737488355328:=by
  simp only [List.length_nil]
  omega
 obtain ⟨w1,w2,w3⟩:=wrong_fixed v hk hm ⟨e0,e1⟩
 have vt:=set_vw v m hin
 have hr0:resRep p l=(l,-1,0):=by
  unfold resRep
  rw [if_pos hk]
 rw [laws_FnRepaired.j1,if_neg (by decide),implRep v (by omega),hr0,Option.bind_some,eq_,Option.bind_some,Option.bind_some,if_pos hlen,Option.bind_some,List.nil_append,if_pos (by omega),if_pos (by omega),w64 (n:=p - 1) (by omega) (by omega),ee,Option.bind_some,if_neg (by omega),rd_nat hm,w64 (n:=l[m]) (by omega) (by omega),w64 (n:=l[m] + 1) (by omega) (by omega),w64 (n:=l[m] + 1 + e) (by omega) (by omega),Int.tmod_eq_emod_of_nonneg (by omega),Int.emod_eq_of_lt (a:=(l[m] + 1 + e) % p) (b:=256) (by omega) (by omega),Int.toNat_natCast,Option.bind_some,implRep vt (by omega),w3,Option.bind_some,apart_one v hm hin w1 (by omega),Option.bind_some,implIsCheckedR vt (by omega),w2,Option.bind_some,if_pos rfl,if_pos rfl,sameWordR (l:=l) (by omega) (by omega),Option.bind_some,if_pos rfl,if_pos rfl,if_pos rfl,Option.bind_some,if_pos rfl,if_pos rfl,if_pos rfl,if_pos rfl]
 exact rep_two v vt (by rw [List.length_set]) hc0 (by omega)
theorem pick_p {c:Int} (c0:0≤c) (c1:c < 4):∃ p,rd ([5,7,11,37]:List Int) c=p∧isP p:=by
 have:c=0∨c=1∨c=2∨c=3:=by omega
 rcases this with rfl|rfl|rfl|rfl
 ·exact ⟨5,rfl,.inl rfl⟩
 ·exact ⟨7,rfl,.inr (.inl rfl)⟩
 ·exact ⟨11,rfl,.inr (.inr (.inl rfl))⟩
 ·exact ⟨37,rfl,.inr (.inr (.inr rfl))⟩
theorem syn_zero {p:Int} {d:List Int} (vd:Vw p d) (cd:chkd p d=true) {k:Nat} (hk:200 < k):impl_SyndromesOf.f k p d=some (0,0,0):=by
 have hb:=isP_b vd.pr
 unfold impl_SyndromesOf.f
 unfold chkd at cd
 rw [Bool.and_eq_true,decide_eq_true_eq,decide_eq_true_eq] at cd
 rw [implCheckR vd (by omega),Option.bind_some,if_pos rfl,implSyn hb vd.most vd.ins (by omega),Option.bind_some,cd.1,cd.2]
theorem mn_in {p:Int} (hb:5≤p∧p≤37):1≤mn (p - 3) 6∧mn (p - 3) 6≤6∧mn (p - 3) 6≤p - 3:=by
 unfold mn
 split <;> omega
theorem rep_start {x0 x1:List Int} {k:Nat} {p r:Int} {w d:List Int} {c:Int} (ec:spec_P6Pick.f x0 4=some c) (c0:0≤c) (c1:c < 4) (ep:rd ([5,7,11,37]:List Int) c=p) (hb:5≤p∧p≤37) (er:spec_P6Pick.f x0 (mn (p - 3) 6)=some r) (hr:0≤r∧r≤6) (ew:spec_P6Word.f k x1 p (1 + r)=some w) (e1:impl_WithChecks.f k p w=some (d,0)) (e2:spec_WithChecks.f k p w=some (d,0)) (e3:impl_IsChecked.f k p d=some (true,0)) (e4:impl_SyndromesOf.f k p d=some (0,0,0)) (e5:spec_SameWord.f k d d=some true) (hl:((d.length:Nat):Int)=wrap64 ((w.length:Int) + 2)) :
  laws_FnRepaired.j0 (k + 1) x0 x1 false=laws_FnRepaired.j1 k x0 x1 p d false:=by
 have hc4:c < ((([5,7,11,37]:List Int).length:Nat):Int):=c1
 rw [laws_FnRepaired.j0,if_neg (by decide),Option.bind_some,ec,Option.bind_some,if_pos c0,if_pos hc4,ep,w64 (n:=p - 3) (by omega) (by omega),er,Option.bind_some,w64 (n:=1 + r) (by omega) (by omega),ew,Option.bind_some,e1,Option.bind_some,e2,Option.bind_some,e3,Option.bind_some,e4,Option.bind_some,if_pos rfl,if_pos rfl,e5,Option.bind_some,if_pos rfl,if_pos hl,if_pos rfl,if_pos rfl,if_pos rfl,if_pos rfl,bne_self_eq_false]
theorem rep_zero {x0 x1:List Int} (hc0:Bytes x0) (hc1:Bytes x1) {K:Nat} (hK:1300000≤K):laws_FnRepaired.j0 (K + 5) x0 x1 false=some true:=by
 obtain ⟨c,ec,c0,c1⟩:=pickR hc0 (n:=4) (by omega) (by omega)
 obtain ⟨p,ep,hp⟩:=pick_p c0 c1
 have hb:=isP_b hp
 have hmn:=mn_in hb
 obtain ⟨r,er,r0,r1⟩:=pickR hc0 (n:=mn (p - 3) 6) (by omega) (by omega)
 obtain ⟨n,hn⟩:∃ n:Nat,1 + r=(n:Int):=⟨(1 + r).toNat,by omega⟩
 obtain ⟨w,ew,hwl,hwi⟩:=word_drawn hc1 hb (n:=n) (by omega) (k:=K + 4) (by omega)
 have v:Vw p w:=⟨hp,by omega,by omega,by omega,hwi⟩
 obtain ⟨vd,cd⟩:=with_ok v (by omega) (by omega)
 have i1:=implWith v (by omega) (by omega) (k:=K + 4) (by omega)
 have i2:=specWith v (by omega) (by omega) (k:=K + 4) (by omega)
 have hlen:(((w ++ [chkX p w,chkY p w]).length:Nat):Int)=wrap64 ((w.length:Int) + 2):=by
  rw [w64 (by omega) (by omega),List.length_append]
  rfl
 have hdl:=vd.most
 rw [← hn] at ew
 generalize w ++ [chkX p w,chkY p w]=d at *
 have i3:=implIsCheckedR vd (k:=K + 4) (by omega)
 rw [cd] at i3
 have i4:=syn_zero vd cd (k:=K + 4) (by omega)
 have i5:=sameWordR (l:=d) (by omega) (k:=K + 4) (by omega)
 rw [rep_start (k:=K + 4) ec c0 c1 ep hb er ⟨r0,by omega⟩ ew i1 i2 i3 i4 i5 hlen]
 exact rep_one vd cd hc0 hc1 hK
theorem FnRepaired (l0:List Int) (l1:List Int) (h00:l0.length≤9223372036854775807) (h01:(∀ x∈l0,(Lit.int .u8 x).wf=true)) (h10:l1.length≤9223372036854775807) (h11:(∀ x∈l1,(Lit.int .u8 x).wf=true)):∃ k,laws_FnRepaired.f k l0 l1=some true:=by
 obtain ⟨K,hK⟩:∃ K,1300000 < K:=⟨_,Nat.lt_succ_self _⟩
 refine ⟨K + 5,?_⟩
 unfold laws_FnRepaired.f laws_f6big.f
 rw [Option.bind_some,Option.bind_some]
 have ht:laws_FnRepaired.j0 (K + 5) l0 l1 true=some true:=by
  rw [laws_FnRepaired.j0,if_pos rfl]
 have hf:=rep_zero (bytes_ofR h01) (bytes_ofR h11) (K:=K) (by omega)
 split
 ·exact ht
 ·cases decide ((l1.length:Int) > 4096)
  ·exact hf
  ·exact ht
end Go.Proofs.YtfeehhbnlmhflaaGreatDoor.G.Pure
end
