/- The law's functions, their contracts, and the plain lemmas: texts of this claim, laid together. -/
import Derived.Below
import Derived.Deep.Draws
import Derived.Deep.AppendLies
import Derived.Maps.AppendAt
import Derived.OwnWalk
import Derived.Laws.BytesArg
import Derived.Laws.MakeOwn
import Derived.Laws.OwnMore
import Derived.Deep.OwnRows
import Derived.Tactics
import Derived.Lib.ConvBytes
import Derived.Laws.Slices
import Derived.WalkKit
import Derived.KernelRfl
import Derived.RowKit3
import Derived.Deep.LoopGhost
import Derived.Deep.QuietTactic
import Derived.BigQuiet
import Derived.WideLaws
import Derived.Deep.DeepCutAuto
import Derived.Deep.CutBlock
import Derived.Deep.RegionHeld3
import Derived.Laws.Rows
import Derived.Lib.AppendStr
import Derived.ArgAppend
import Derived.Laws.IdiomCopy
import Derived.RowKit
import Derived.OrdersHeld
import Derived.Laws.BitsLemmas
import Derived.Test.YtgfknljhogfeaaaProg
import Derived.Shelf.Abstract
import Derived.WalkSpells
import Derived.WalkLawsBesides
import Derived.Deep.MidRow
import Derived.Laws.CopyOwn
section
set_option linter.unusedVariables false
set_option linter.unusedSimpArgs false
namespace Go.Proofs.YtgfknljhogfeaaaW.PrintWords
open Go.RowKit
structure Aside0 (p:Prop):Prop where mk :: (out:p)
structure Drawn0 (w w':World):Prop where mk :: (out:∃ n,w'=w.drewN n)
theorem Drawn0.refl (w:World):Drawn0 w w:=⟨⟨0,rfl⟩⟩
theorem Drawn0.step {w w':World} (h:Drawn0 w w') (n:Nat):Drawn0 w (w'.drewN n):=by
  obtain ⟨m,rfl⟩:=h
  exact ⟨⟨m + n,World.drewN_drewN ..⟩⟩
theorem Drawn0.grown {w w':World} (h:Drawn0 w w'):Grown w w':=by
  obtain ⟨n,rfl⟩:=h
  induction n with
  | zero=>exact Grown.refl _
  | succ n ih=>rw [← World.drew_drewN]; exact Grown.drew ih
theorem Drawn0.below {w w':World} (h:Drawn0 w w'):Below w.heap.size w w':=by
  obtain ⟨n,rfl⟩:=h
  induction n with
  | zero=>exact Below.refl _ _
  | succ n ih=>rw [← World.drew_drewN]; exact ih.drew
def rd (xs:List Int) (i:Int):Int:=xs.getD i.toNat 0
def nums (k:IntKind) (xs:List Int):List Value:=xs.map fun x=>.int k x
theorem nums_length (k:IntKind) (xs:List Int):(nums k xs).length=xs.length:=by simp [nums]
theorem below_alloc {w W:World} (h:Below w.heap.size w W) (o:Obj):Below w.heap.size w (W.alloc o):=h.alloc h.size o
theorem below_drew {B:Nat} {w W:World} (h:Below B w W):Below B w W.drew:=⟨h.os,h.tape,h.output,h.size,h.block⟩
theorem pw_below_drewN {B:Nat} {w W:World} (h:Below B w W) (n:Nat):Below B w (W.drewN n):=⟨h.os,h.tape,h.output,h.size,h.block⟩
theorem below_then {B:Nat} {w w1 w2:World} (h:Below B w w1) (hB:B≤w1.heap.size) (k:Below w1.heap.size w1 w2):Below B w w2 :=
  h.trans ⟨k.os,k.tape,k.output,k.size,fun i hi=>k.block i (Nat.lt_of_lt_of_le hi hB)⟩
theorem grown_of_below {w w1:World} (h:Below w.heap.size w w1) (row:Option Nat):w.grownBy w1 row:=⟨h.os,h.tape,h.output,h.size,fun i hi _=>h.block i hi⟩
theorem pw_cell_below {w w1:World} (h:Below w.heap.size w w1) {a:Addr} {v:Value} (hc:w.cell? a=some v):w1.cell? a=some v:=(h.cell (World.block_lt_of_cell? w a hc)).trans hc
theorem add_plain (g j:Nat):(⟨g,0,none⟩:Addr).add j=⟨g,j,none⟩:=by unfold Addr.add; split <;> simp_all
def ReadsInt (w:World) (k:IntKind) (A:Option Addr) (n:Nat) (xs:List Int):Prop :=
  xs.length=n∧n≤9223372036854775807∧(0 < n→∃ ad,A=some ad∧∀ j,j < n→w.cell? (ad.add j)=some (.int k (xs.getD j 0)))
theorem ReadsInt.at_ {w:World} {k:IntKind} {A:Option Addr} {n:Nat} {xs:List Int} (h:ReadsInt w k A n xs) (i:Int) (h0:0≤i) (h1:i < n):∃ ad,A=some ad∧w.cell? (ad.add i.toNat)=some (.int k (rd xs i)):=by
  obtain ⟨ad,e,hc⟩:=h.2.2 (by omega)
  exact ⟨ad,e,hc _ (by omega)⟩
theorem ReadsInt.below {w w1:World} {k:IntKind} {A:Option Addr} {n:Nat} {xs:List Int} (h:ReadsInt w k A n xs) (hb:Below w.heap.size w w1):ReadsInt w1 k A n xs :=
  ⟨h.1,h.2.1,fun hn=>by
    obtain ⟨ad,e,hc⟩:=h.2.2 hn
    exact ⟨ad,e,fun j hj=>pw_cell_below hb (hc j hj)⟩⟩
theorem own_nil (W:World) (base:Nat) (e:TypeId) (size:Nat):W.ownsRow base e size (.slice none 0 0) 0 []:=⟨by simp,.inl ⟨rfl,rfl⟩⟩
theorem own_base {w:World} {base:Nat} {e:TypeId} {size n:Nat} {v:Value} {xs:List Value} (h:w.ownsRow base e size v n xs) (k:Nat) (hk:v.ownBlock=some k):base≤k:=by
  rcases h.2 with ⟨rfl,_⟩|⟨g,cap,cur,rfl,hb,_⟩
  · simp [Value.ownBlock] at hk
  · have:g=k:=by simpa [Value.ownBlock] using hk
    omega
theorem own_lt {w:World} {base:Nat} {e:TypeId} {size n:Nat} {v:Value} {xs:List Value} (h:w.ownsRow base e size v n xs) (k:Nat) (hk:v.ownBlock=some k):k < w.heap.size:=by
  rcases h.2 with ⟨rfl,_⟩|⟨g,cap,cur,rfl,hb,hh,_⟩
  · simp [Value.ownBlock] at hk
  · have:g=k:=by simpa [Value.ownBlock] using hk
    subst this
    exact (Array.getElem?_eq_some_iff.1 hh).1
theorem pw_own_below {w w1:World} {base:Nat} {e:TypeId} {size n:Nat} {v:Value} {xs:List Value} (h:w.ownsRow base e size v n xs) (hb:Below w.heap.size w w1):w1.ownsRow base e size v n xs :=
  h.kept (grown_of_below hb none) (by cases v.ownBlock <;> simp)
section
variable {P:Program} {ops:Array Oper} {rest:List Oper} {o:Oper} {a:Act} {Q:Exit→Act→World→Prop}
end
section
variable {P:Program}
end
section
variable {P:Program} {ops:Array Oper} {rest:List Oper} {o:Oper} {a:Act} {Q:Exit→Act→World→Prop}
end
theorem ReadsInt.take_ {w:World} {k:IntKind} {A:Option Addr} {n:Nat} {xs:List Int} (h:ReadsInt w k A n xs) (i:Nat) (hi:i≤n):ReadsInt w k A i (xs.take i):=by
  refine ⟨by rw [List.length_take,h.1]; omega,by have:=h.2.1; omega,fun hp=>?_⟩
  obtain ⟨ad,e,hc⟩:=h.2.2 (by omega)
  refine ⟨ad,e,fun j hj=>?_⟩
  rw [hc j (by omega)]
  simp [List.getD_eq_getElem?_getD,hj]
def LeO {α:Type} (a b:Option α):Prop:=∀ r,a=some r→b=some r
theorem LeO.refl {α:Type} (a:Option α):LeO a a:=fun _ h=>h
theorem LeO.none {α:Type} (b:Option α):LeO Option.none b:=fun _ h=>by cases h
theorem LeO.trans {α:Type} {a b c:Option α} (h:LeO a b) (k:LeO b c):LeO a c:=fun r hr=>k r (h r hr)
theorem LeO.bind {α β:Type} {a a':Option α} {f f':α→Option β} (h:LeO a a') (k:∀ x,LeO (f x) (f' x)):LeO (a.bind f) (a'.bind f'):=by
  intro r hr
  obtain ⟨x,hx,hf⟩:=Option.bind_eq_some_iff.1 hr
  exact Option.bind_eq_some_iff.2 ⟨x,h x hx,k x r hf⟩
theorem LeO.map {α β:Type} {a a':Option α} (f:α→β) (h:LeO a a'):LeO (a.map f) (a'.map f):=by
  intro r hr
  obtain ⟨x,hx,hf⟩:=Option.map_eq_some_iff.1 hr
  exact Option.map_eq_some_iff.2 ⟨x,h x hx,hf⟩
def Reps {α:Type} (R:α→List Value→Prop) (size:Nat) (ps:List α) (cs:List Value):Prop :=
  cs.length=ps.length * size∧∀ j p,ps[j]?=some p→R p ((cs.drop (j * size)).take size)
theorem Reps.none {α:Type} (R:α→List Value→Prop) (size:Nat):Reps R size [] []:=⟨by simp,fun j p h=>by simp at h⟩
theorem Reps.snoc {α:Type} {R:α→List Value→Prop} {size:Nat} {ps:List α} {cs c:List Value} {p:α} (h:Reps R size ps cs) (hp:R p c) (hc:c.length=size):Reps R size (ps ++ [p]) (cs ++ c):=by
  refine ⟨by rw [List.length_append,h.1,hc,List.length_append,List.length_singleton,Nat.add_mul,Nat.one_mul],fun j q hq=>?_⟩
  rcases Nat.lt_or_ge j ps.length with hj|hj
  · rw [List.getElem?_append_left hj] at hq
    have h1:j * size + size≤cs.length:=by rw [h.1,← Nat.succ_mul]; exact Nat.mul_le_mul_right _ hj
    have h2:=h.2 j q hq
    rw [List.drop_append_of_le_length (by omega),List.take_append_of_le_length (by rw [List.length_drop]; omega)]
    exact h2
  · have hj':j=ps.length:=by
      have:=(List.getElem?_eq_some_iff.1 hq).1
      rw [List.length_append,List.length_singleton] at this
      omega
    subst hj'
    have hq':p=q:=by simpa using hq
    subst hq'
    rw [← h.1,List.drop_left,← hc,List.take_length]
    exact hp
theorem Reps.imp_ {α:Type} {R R':α→List Value→Prop} {size:Nat} {ps:List α} {cs:List Value} (h:Reps R size ps cs) (hR:∀ p c,R p c→R' p c):Reps R' size ps cs:=⟨h.1,fun j p hj=>hR _ _ (h.2 j p hj)⟩
def ReadsRow {α:Type} (R:α→List Value→Prop) (size:Nat) (w:World) (A:Option Addr) (n:Nat) (ps:List α):Prop :=
  ps.length=n∧n≤9223372036854775807∧(0 < n→∃ ad,A=some ad∧∀ j p,ps[j]?=some p→∃ c,c.length=size∧R p c∧∀ i u,c[i]?=some u→w.cell? (ad.add (j * size + i))=some u)
theorem ReadsRow.get_ {α:Type} {R:α→List Value→Prop} {size:Nat} {w:World} {A:Option Addr} {n:Nat} {ps:List α} (h:ReadsRow R size w A n ps) (d:α) (i:Int) (h0:0≤i) (h1:i < n) :
    ∃ ad c,A=some ad∧c.length=size∧R (ps.getD i.toNat d) c∧∀ j u,c[j]?=some u→w.cell? (ad.add (i.toNat * size + j))=some u:=by
  obtain ⟨ad,e,hc⟩:=h.2.2 (by omega)
  have hl:i.toNat < ps.length:=by have:=h.1; omega
  obtain ⟨c,hs,hr,hcell⟩:=hc i.toNat _ (List.getElem?_eq_getElem hl)
  refine ⟨ad,c,e,hs,?_,hcell⟩
  rw [List.getD_eq_getElem?_getD,List.getElem?_eq_getElem hl]
  exact hr
theorem ReadsRow.imp_ {α:Type} {R R':α→List Value→Prop} {size:Nat} {w w1:World} {A:Option Addr} {n:Nat} {ps:List α} (h:ReadsRow R size w A n ps) (hb:Below w.heap.size w w1) (hR:∀ p c,R p c→R' p c):ReadsRow R' size w1 A n ps :=
  ⟨h.1,h.2.1,fun hn=>by
    obtain ⟨ad,e,hc⟩:=h.2.2 hn
    refine ⟨ad,e,fun j p hj=>?_⟩
    obtain ⟨c,hs,hr,hcell⟩:=hc j p hj
    exact ⟨c,hs,hR _ _ hr,fun i u hu=>pw_cell_below hb (hcell i u hu)⟩⟩
theorem own_reads_row {α:Type} {R:α→List Value→Prop} {w:World} {base n size:Nat} {e:TypeId} {v:Value} {ps:List α} {cs:List Value} (h:w.ownsRow base e size v n cs) (hR:Reps R size ps cs) (hn:ps.length=n) :
    ∃ A c,v=.slice A n c∧ReadsRow R size w A n ps:=by
  rcases Nat.eq_zero_or_pos n with h0|h0
  · rcases h.2 with ⟨rfl,rfl⟩|⟨g,cap,cur,rfl,_⟩
    · exact ⟨none,0,rfl,hn,by omega,fun hp=>absurd hp (by omega)⟩
    · exact ⟨_,cap,rfl,hn,by omega,fun hp=>absurd hp (by omega)⟩
  · obtain ⟨g,cap,rfl,_,_⟩:=h.form h0
    have hm:n≤9223372036854775807:=by
      rcases h.2 with ⟨_,h1⟩|⟨g',cap',cur,he,_,_,h1,h2,_⟩
      · omega
      · simp only [maxLen] at h2
        omega
    refine ⟨_,cap,rfl,hn,hm,fun _=>⟨_,rfl,fun j p hj=>⟨(cs.drop (j * size)).take size,?_,hR.2 j p hj,fun i u hu=>?_⟩⟩⟩
    · have hjl:=(List.getElem?_eq_some_iff.1 hj).1
      have h1:j * size + size≤cs.length:=by rw [hR.1,← Nat.succ_mul]; exact Nat.mul_le_mul_right _ hjl
      rw [List.length_take,List.length_drop]
      omega
    · refine h.cells (g:=g) rfl _ u ?_
      rw [List.getElem?_take] at hu
      split at hu
      · rw [List.getElem?_drop] at hu
        exact hu
      · cases hu
theorem add_field (ad:Addr) (m j:Nat) (hj:0 < j):ad.add (m + j)=⟨(ad.add m).block,(ad.add m).off + j,none⟩:=by
  unfold Addr.add
  by_cases hm:m=0
  · subst hm
    simp [Nat.ne_of_gt hj]
  · simp [hm,Nat.add_assoc]
section
variable {P:Program} {ops:Array Oper} {rest:List Oper} {o:Oper} {a:Act} {Q:Exit→Act→World→Prop}
theorem print_append_cells {w0 W:World} (base:Nat) (hgd:o.guard=none) (s x:Operand) (t e:TypeId) (z:Value) (size bytes:Nat)
    (ho:o.op=.call { callee:=.builtin .append,args:=#[s,x],argTypes:=#[t,t] })
    (ht:P.underlying t=some (.slice e)) (hinfo:(P.info? e).map (fun i=>(i.zero,i.size,i.bytes))=some (some z,size,bytes)) (hz:z.cells.size=size) (hs0:0 < size) (hb0:0 < bytes)
    (v:Value) (n:Nat) (xs ys:List Value) (hs:a.eval s=v) (hx:a.eval x=.slice (some ⟨W.heap.size,0,none⟩) 1 1) (hys:ys.length=size) (h1:∀ u∈ys,u.oneCell'=true)
    (HO:W.ownsRow base e size v n xs) (HB:Below base w0 W) (hbase:base≤W.heap.size) (hl:(n + 1) * bytes≤140737488355328)
    (h:∀ v1 w1,w1.ownsRow base e size v1 (n + 1) (xs ++ ys)→Below base w0 w1→W.grownBy w1 v.ownBlock→(v1.ownBlock=v.ownBlock∨∃ b,v1.ownBlock=some b∧W.heap.size≤b)→wpList P ops Q rest (a.put o.dst v1) w1) :
    wpList P ops Q (o :: rest) a (W.alloc (.cells ys.toArray e)):=by
  obtain ⟨i0,hi,hzz⟩:=Option.map_eq_some_iff.1 hinfo
  simp only [Prod.mk.injEq] at hzz
  obtain ⟨hz0,hz1,hz2⟩:=hzz
  have hlen:n + 1≤140737488355328:=Nat.le_trans (Nat.le_mul_of_pos_right _ hb0) hl
  refine wpList_append_own_at (W.alloc (.cells ys.toArray e)) hgd s x t ho base e i0 z size bytes ht hi hz0 hz1 hz2 hz hs0 v n xs hs (HO.alloc _) ⟨W.heap.size,0,none⟩ 1 1 ys hx (by rw [hys]; simp)
    (by simpa using World.news_of_block (cs:=ys.toArray) (t:=e) (fr:=(0,0)) (heap_alloc_new W (.cells ys.toArray e))) h1 (by simp only [maxLen]; omega) hl (by simp; omega) ?_
  intro v1 w1 hown hg _ hat
  refine h v1 w1 hown ((HB.alloc hbase _).grown hg (by simp; omega) (own_base HO)) (World.grownBy.trans (World.grownBy_alloc W _ _) hg) ?_
  rcases hat with hat|hat
  · exact .inl hat
  · exact .inr ⟨_,hat,by simp⟩
end
theorem own_ne {w:World} {base:Nat} {e t:TypeId} {size n g:Nat} {v:Value} {xs:List Value} {cs:Array Value} (h:w.ownsRow base e size v n xs) (hg:w.heap[g]?=some (.cells cs t (0,0))) (hne:e≠t):some g≠v.ownBlock:=by
  rcases h.2 with ⟨rfl,_⟩|⟨g',cap,cur,rfl,_,hh,_⟩
  · simp [Value.ownBlock]
  · intro he
    have:g=g':=by simpa [Value.ownBlock] using he
    subst this
    rw [hg] at hh
    injection hh with hh
    injection hh with _ ht
    exact hne ht.symm
theorem own_setCell {w:World} {base:Nat} {e:TypeId} {size n:Nat} {v:Value} {xs:List Value} (h:w.ownsRow base e size v n xs) {p:Addr} (hne:some p.block≠v.ownBlock) (u:Value):(w.setCell p u).ownsRow base e size v n xs:=by
  obtain ⟨h1,h2⟩:=h
  refine ⟨h1,?_⟩
  rcases h2 with h2|⟨g,cap,cur,rfl,hg,hh,r⟩
  · exact .inl h2
  · exact .inr ⟨g,cap,cur,rfl,hg,by rw [Below.heap_setCell _ _ _ _ (fun e=>hne (by rw [e]; rfl))]; exact hh,r⟩
theorem blk_set {w:World} {g:Nat} {t:TypeId} {cs:Array Value} (h:w.heap[g]?=some (.cells cs t (0,0))) (i:Nat) (u:Value):(w.setCell ⟨g,i,none⟩ u).heap[g]?=some (.cells (cs.setIfInBounds i u) t (0,0)):=by
  simp [World.setCell,Array.getElem?_modify,h]
theorem blk_far {w:World} {g:Nat} {t:TypeId} {cs:Array Value} (h:w.heap[g]?=some (.cells cs t (0,0))) {p:Addr} (hp:g≠p.block) (u:Value):(w.setCell p u).heap[g]?=some (.cells cs t (0,0)):=(Below.heap_setCell w p u g hp).trans h
theorem blk_lt {w:World} {g:Nat} {o:Obj} (h:w.heap[g]?=some o):g < w.heap.size:=(Array.getElem?_eq_some_iff.1 h).1
theorem blk_cell {w:World} {g:Nat} {t:TypeId} {cs:Array Value} (h:w.heap[g]?=some (.cells cs t (0,0))) (i:Nat):w.cell? ⟨g,i,none⟩=cs[i]?:=cell_of_row w g i cs t (0,0) h
theorem blk_frozen {w:World} {g:Nat} {t:TypeId} {cs:Array Value} (h:w.heap[g]?=some (.cells cs t (0,0))) (i:Nat):w.frozen? ⟨g,i,none⟩=false:=by simp [World.frozen?,h]
theorem blk_grown {w w1:World} {g:Nat} {o:Obj} {row:Option Nat} (h:w.heap[g]?=some o) (hg:w.grownBy w1 row) (hne:some g≠row):w1.heap[g]?=some o:=(hg.block g (blk_lt h) hne).trans h
theorem blk_ne {w:World} {g g':Nat} {t t':TypeId} {cs cs':Array Value} (h:w.heap[g]?=some (.cells cs t (0,0))) (h':w.heap[g']?=some (.cells cs' t' (0,0))) (hne:t≠t'):g≠g':=by
  rintro rfl
  rw [h] at h'
  injection h' with h'
  injection h' with _ ht
  exact hne ht
def KeepBut (w w':World) (g:Nat) (row:Option Nat):Prop:=w.heap.size≤w'.heap.size∧∀ i,i < w.heap.size→i≠g→some i≠row→w'.heap[i]?=w.heap[i]?
theorem KeepBut.refl (w:World) (g:Nat) (row:Option Nat):KeepBut w w g row:=⟨Nat.le_refl _,fun _ _ _ _=>rfl⟩
theorem KeepBut.of_grown {w w1:World} {row:Option Nat} (h:w.grownBy w1 row) (g:Nat):KeepBut w w1 g row:=⟨h.size,fun i hi _ hr=>h.block i hi hr⟩
theorem KeepBut.of_below {w w1:World} (h:Below w.heap.size w w1) (g:Nat) (row:Option Nat):KeepBut w w1 g row:=⟨h.size,fun i hi _ _=>h.block i hi⟩
theorem KeepBut.set_ {w w1:World} {g:Nat} {row:Option Nat} (h:KeepBut w w1 g row) (j:Nat) (u:Value):KeepBut w (w1.setCell ⟨g,j,none⟩ u) g row :=
  ⟨by simpa [World.setCell] using h.1,fun i hi hg hr=>(Below.heap_setCell w1 ⟨g,j,none⟩ u i hg).trans (h.2 i hi hg hr)⟩
theorem KeepBut.trans {w w1 w2:World} {g:Nat} {row row1:Option Nat} (h:KeepBut w w1 g row) (k:KeepBut w1 w2 g row1) (hr:row1=row∨∃ b,row1=some b∧w.heap.size≤b):KeepBut w w2 g row :=
  ⟨Nat.le_trans h.1 k.1,fun i hi hg hn=>by
    refine (k.2 i (Nat.lt_of_lt_of_le hi h.1) hg ?_).trans (h.2 i hi hg hn)
    rcases hr with rfl|⟨b,rfl,hb⟩
    · exact hn
    · intro e
      injection e with e
      omega⟩
theorem KeepBut.blk {w w1:World} {g g':Nat} {row:Option Nat} {o:Obj} (h:KeepBut w w1 g row) (hb:w.heap[g']?=some o) (hg:g'≠g) (hr:some g'≠row):w1.heap[g']?=some o:=(h.2 g' (blk_lt hb) hg hr).trans hb
theorem KeepBut.own {w w1:World} {g:Nat} {row:Option Nat} {base:Nat} {e:TypeId} {size n:Nat} {v:Value} {xs:List Value} (h:KeepBut w w1 g row) (ho:w.ownsRow base e size v n xs) (hg:v.ownBlock≠some g) (hr:v.ownBlock=none∨v.ownBlock≠row):w1.ownsRow base e size v n xs:=by
  obtain ⟨h1,h2⟩:=ho
  refine ⟨h1,?_⟩
  rcases h2 with h2|⟨b,cap,cur,rfl,hb,hh,r⟩
  · exact .inl h2
  · refine .inr ⟨b,cap,cur,rfl,hb,h.blk hh ?_ ?_,r⟩
    · intro e
      exact hg (by rw [← e]; rfl)
    · rcases hr with hr|hr
      · simp [Value.ownBlock] at hr
      · exact hr
def Ev {α:Type} (g:Nat→Option α) (r:α):Prop:=∃ K,∀ k,K≤k→g k=some r
theorem Ev.bind {α β:Type} {g:Nat→Option α} {f:Nat→α→Option β} {a:α} {r:β} (h:Ev g a) (k:Ev (fun n=>f n a) r):Ev (fun n=>(g n).bind (f n)) r:=by
  obtain ⟨K,h⟩:=h
  obtain ⟨K',k⟩:=k
  refine ⟨max K K',fun n hn=>?_⟩
  have h1:=h n (by omega)
  have h2:=k n (by omega)
  simp only [h1,Option.bind_some]
  exact h2
theorem Ev.step {α:Type} {g f:Nat→Option α} {r:α} (h:∀ k,g (k + 1)=f k) (k:Ev f r):Ev g r:=by
  obtain ⟨K,k⟩:=k
  refine ⟨K + 1,fun n hn=>?_⟩
  obtain ⟨m,rfl⟩:∃ m,n=m + 1:=⟨n - 1,by omega⟩
  rw [h]
  exact k m (by omega)
theorem Ev.congr {α:Type} {g f:Nat→Option α} {r:α} (h:∀ k,g k=f k) (k:Ev f r):Ev g r:=by
  obtain ⟨K,k⟩:=k
  exact ⟨K,fun n hn=>(h n).trans (k n hn)⟩
section
variable {P:Program} {ops:Array Oper} {o:Oper} {a:Act} {Q:Exit→Act→World→Prop} {K:Act→World→Prop}
theorem step_append_cells {w0 W:World} (base:Nat) (hw:Region.wanted o (yielded ops a.tmps)=true) (s x:Operand) (t e:TypeId) (z:Value) (size bytes:Nat)
    (ho:o.op=.call { callee:=.builtin .append,args:=#[s,x],argTypes:=#[t,t] })
    (ht:P.underlying t=some (.slice e)) (hinfo:(P.info? e).map (fun i=>(i.zero,i.size,i.bytes))=some (some z,size,bytes)) (hz:z.cells.size=size) (hs0:0 < size) (hb0:0 < bytes)
    (v:Value) (n:Nat) (xs ys:List Value) (hs:a.eval s=v) (hx:a.eval x=.slice (some ⟨W.heap.size,0,none⟩) 1 1) (hys:ys.length=size) (h1:∀ u∈ys,u.oneCell'=true)
    (HO:W.ownsRow base e size v n xs) (HB:Below base w0 W) (hbase:base≤W.heap.size) (hl:(n + 1) * bytes≤140737488355328)
    (h:∀ v1 w1,w1.ownsRow base e size v1 (n + 1) (xs ++ ys)→Below base w0 w1→W.grownBy w1 v.ownBlock→(v1.ownBlock=v.ownBlock∨∃ b,v1.ownBlock=some b∧W.heap.size≤b)→K (a.put o.dst v1) w1) :
    if Region.wanted o (yielded ops a.tmps)=true then Oper.wp P o a (W.alloc (.cells ys.toArray e)) K Q else K (a.put o.dst undef) (W.alloc (.cells ys.toArray e)):=by
  obtain ⟨i0,hi,hzz⟩:=Option.map_eq_some_iff.1 hinfo
  simp only [Prod.mk.injEq] at hzz
  obtain ⟨hz0,hz1,hz2⟩:=hzz
  have hlen:n + 1≤140737488355328:=Nat.le_trans (Nat.le_mul_of_pos_right _ hb0) hl
  rw [if_pos hw]
  obtain ⟨v1,w1,hr,hown,hg,_,hat⟩:=run_append_own_at (P:=P) (W.alloc (.cells ys.toArray e)) base t o.type e i0 z size bytes ht hi hz0 hz1 hz2 hz hs0 v n xs (HO.alloc _) ⟨W.heap.size,0,none⟩ 1 1 ys (by rw [hys]; simp)
    (by simpa using World.news_of_block (cs:=ys.toArray) (t:=e) (fr:=(0,0)) (heap_alloc_new W (.cells ys.toArray e))) h1 (by simp only [maxLen]; omega) hl (by simp; omega)
  unfold Oper.wp execOp
  simp only [ho,resolve,invoke,builtin,Sem.run_bind,Sem.run_pure,Result.andThen_ok,List.map_toArray,List.map_cons,List.map_nil,hs,hx,hr]
  refine h v1 w1 hown ((HB.alloc hbase _).grown hg (by simp; omega) (own_base HO)) (World.grownBy.trans (World.grownBy_alloc W _ _) hg) ?_
  rcases hat with hat|hat
  · exact .inl hat
  · exact .inr ⟨_,hat,by simp⟩
end
theorem own_weaken {w:World} {base base':Nat} {e:TypeId} {size n:Nat} {v:Value} {xs:List Value} (h:w.ownsRow base e size v n xs) (hb:base'≤base):w.ownsRow base' e size v n xs:=by
  obtain ⟨h1,h2⟩:=h
  refine ⟨h1,?_⟩
  rcases h2 with h2|⟨g,cap,cur,rfl,hg,r⟩
  · exact .inl h2
  · exact .inr ⟨g,cap,cur,rfl,Nat.le_trans hb hg,r⟩
section
variable {α:Type} {enc:α→Value} {d:α}
def rdOf (d:α) (xs:List α) (i:Int):α:=xs.getD i.toNat d
def ReadsOf (enc:α→Value) (d:α) (w:World) (A:Option Addr) (n:Nat) (xs:List α):Prop :=
  xs.length=n∧n≤9223372036854775807∧(0 < n→∃ ad,A=some ad∧∀ j,j < n→w.cell? (ad.add j)=some (enc (xs.getD j d)))
theorem ReadsOf.at_ {w:World} {A:Option Addr} {n:Nat} {xs:List α} (h:ReadsOf enc d w A n xs) (i:Int) (h0:0≤i) (h1:i < n):∃ ad,A=some ad∧w.cell? (ad.add i.toNat)=some (enc (rdOf d xs i)):=by
  obtain ⟨ad,e,hc⟩:=h.2.2 (by omega)
  exact ⟨ad,e,hc _ (by omega)⟩
theorem ReadsOf.below {w w1:World} {A:Option Addr} {n:Nat} {xs:List α} (h:ReadsOf enc d w A n xs) (hb:Below w.heap.size w w1):ReadsOf enc d w1 A n xs :=
  ⟨h.1,h.2.1,fun hn=>by
    obtain ⟨ad,e,hc⟩:=h.2.2 hn
    exact ⟨ad,e,fun j hj=>pw_cell_below hb (hc j hj)⟩⟩
theorem ReadsOf.take_ {w:World} {A:Option Addr} {n:Nat} {xs:List α} (h:ReadsOf enc d w A n xs) (i:Nat) (hi:i≤n):ReadsOf enc d w A i (xs.take i):=by
  refine ⟨by rw [List.length_take,h.1]; omega,by have:=h.2.1; omega,fun hp=>?_⟩
  obtain ⟨ad,e,hc⟩:=h.2.2 (by omega)
  refine ⟨ad,e,fun j hj=>?_⟩
  rw [hc j (by omega)]
  simp [List.getD_eq_getElem?_getD,hj]
end
section
variable {α:Type} {P:Program} {ops:Array Oper} {rest:List Oper} {o:Oper} {a:Act} {Q:Exit→Act→World→Prop}
end
theorem blk_alloc {w:World} {g:Nat} {o:Obj} (h:w.heap[g]?=some o) (o':Obj):(w.alloc o').heap[g]?=some o:=(Below.heap_alloc w o' g (blk_lt h)).trans h
theorem blk_drew {w:World} {g:Nat} {o:Obj} (h:w.heap[g]?=some o):w.drew.heap[g]?=some o:=h
theorem blk_drewN {w:World} {g:Nat} {o:Obj} (h:w.heap[g]?=some o) (n:Nat):(w.drewN n).heap[g]?=some o:=h
theorem blk_below {w w1:World} {g:Nat} {o:Obj} (h:w.heap[g]?=some o) (hb:Below w.heap.size w w1):w1.heap[g]?=some o:=(hb.block g (blk_lt h)).trans h
theorem blk_new (w:World) (o:Obj):(w.alloc o).heap[w.heap.size]?=some o:=heap_alloc_new w o
section
variable {P:Program}
end
theorem own_le {w:World} {base n m c size:Nat} {e:TypeId} {A:Option Addr} {xs:List Value} (h:w.ownsRow base e size (.slice A m c) n xs):m≤c:=by
  rcases h.2 with ⟨he,_⟩|⟨g,cap,cur,he,_,_,hnc,_⟩
  · injection he with _ h2 h3
    omega
  · injection he with _ h2 h3
    omega
def OwnRow {α:Type} (R:α→List Value→Prop) (e:TypeId) (size:Nat) (w:World) (base:Nat) (v:Value) (ps:List α):Prop :=
  ∃ inner,w.ownsRow base e size v ps.length inner∧Reps R size ps inner
section
variable {α:Type} {R R':α→List Value→Prop} {e:TypeId} {size:Nat} {w w1:World} {base:Nat} {v:Value} {ps:List α}
theorem OwnRow.none_ (R:α→List Value→Prop) (e:TypeId) (size:Nat) (w:World) (base:Nat):OwnRow R e size w base (.slice none 0 0) []:=⟨[],own_nil _ _ _ _,Reps.none _ _⟩
theorem OwnRow.imp_ (h:OwnRow R e size w base v ps) (hR:∀ p c,R p c→R' p c):OwnRow R' e size w base v ps:=by
  obtain ⟨inner,ho,hr⟩:=h
  exact ⟨inner,ho,hr.imp_ hR⟩
theorem OwnRow.below (h:OwnRow R e size w base v ps) (hb:Below w.heap.size w w1):OwnRow R e size w1 base v ps:=by
  obtain ⟨inner,ho,hr⟩:=h
  exact ⟨inner,pw_own_below ho hb,hr⟩
theorem OwnRow.set_ (h:OwnRow R e size w base v ps) {g:Nat} {t:TypeId} {cells:Array Value} (hb:w.heap[g]?=some (.cells cells t (0,0))) (ht:e≠t) (j:Nat) (u:Value):OwnRow R e size (w.setCell ⟨g,j,none⟩ u) base v ps:=by
  obtain ⟨inner,ho,hr⟩:=h
  exact ⟨inner,own_setCell ho (own_ne ho hb ht) u,hr⟩
theorem OwnRow.reads (h:OwnRow R e size w base v ps):∃ A c,v=.slice A ps.length c∧ps.length≤c∧ReadsRow R size w A ps.length ps:=by
  obtain ⟨inner,ho,hr⟩:=h
  obtain ⟨A,c,rfl,hrow⟩:=own_reads_row ho hr rfl
  exact ⟨A,c,rfl,own_le ho,hrow⟩
theorem OwnRow.ne_block (h:OwnRow R e size w base v ps) {g:Nat} {t:TypeId} {cells:Array Value} (hb:w.heap[g]?=some (.cells cells t (0,0))) (ht:e≠t):some g≠v.ownBlock:=by
  obtain ⟨inner,ho,hr⟩:=h
  exact own_ne ho hb ht
end
section
variable {P:Program} {ops:Array Oper} {rest:List Oper} {o:Oper} {a:Act} {Q:Exit→Act→World→Prop} {α:Type} {R:α→List Value→Prop}
theorem OwnRow.append {w0 W:World} (base:Nat) (hgd:o.guard=none) (s x:Operand) (t e:TypeId) (z:Value) (size bytes:Nat)
    (ho:o.op=.call { callee:=.builtin .append,args:=#[s,x],argTypes:=#[t,t] })
    (ht:P.underlying t=some (.slice e)) (hinfo:(P.info? e).map (fun i=>(i.zero,i.size,i.bytes))=some (some z,size,bytes)) (hz:z.cells.size=size) (hs0:0 < size) (hb0:0 < bytes)
    (v:Value) (ps:List α) (p:α) (cs:List Value) (hs:a.eval s=v) (hx:a.eval x=.slice (some ⟨W.heap.size,0,none⟩) 1 1) (hp:R p cs) (hcs:cs.length=size) (h1:∀ u∈cs,u.oneCell'=true)
    (HO:OwnRow R e size W base v ps) (HB:Below base w0 W) (hbase:base≤W.heap.size) (hl:(ps.length + 1) * bytes≤140737488355328)
    (h:∀ v1 w1,OwnRow R e size w1 base v1 (ps ++ [p])→Below base w0 w1→W.grownBy w1 v.ownBlock→(v1.ownBlock=v.ownBlock∨∃ b,v1.ownBlock=some b∧W.heap.size≤b)→wpList P ops Q rest (a.put o.dst v1) w1) :
    wpList P ops Q (o :: rest) a (W.alloc (.cells cs.toArray e)):=by
  obtain ⟨inner,hown,hr⟩:=HO
  refine print_append_cells base hgd s x t e z size bytes ho ht hinfo hz hs0 hb0 v ps.length inner cs hs hx hcs h1 hown HB hbase hl ?_
  intro v1 w1 hown1 hb1 hg1 hat1
  exact h v1 w1 ⟨inner ++ cs,by rw [List.length_append,List.length_singleton]; exact hown1,hr.snoc hp hcs⟩ hb1 hg1 hat1
end
section
variable {P:Program} {ops:Array Oper} {o:Oper} {a:Act} {Q:Exit→Act→World→Prop} {K:Act→World→Prop} {α:Type} {R:α→List Value→Prop}
end
theorem ReadsRow.inner_ {α:Type} {R:α→List Value→Prop} {size:Nat} {w:World} {ad:Addr} {n:Nat} {ps:List α} (h:ReadsRow R size w (some ad) n ps) :
    ∃ inner,Reps R size ps inner∧∀ j u,inner[j]?=some u→w.cell? (ad.add j)=some u:=by
  have key:∀ m,m≤ps.length→∃ inner,Reps R size (ps.take m) inner∧∀ j u,inner[j]?=some u→w.cell? (ad.add j)=some u:=by
    intro m
    induction m with
    | zero=>exact fun _=>⟨[],Reps.none _ _,fun j u hu=>by simp at hu⟩
    | succ m ih =>
      intro hm
      obtain ⟨inner,hr,hc⟩:=ih (by omega)
      obtain ⟨ad',he,hcell⟩:=h.2.2 (by have:=h.1; omega)
      injection he with he
      subst he
      obtain ⟨c,hcl,hp,hcc⟩:=hcell m _ (List.getElem?_eq_getElem (show m < ps.length by omega))
      refine ⟨inner ++ c,?_,fun j u hu=>?_⟩
      · rw [List.take_succ_eq_append_getElem (show m < ps.length by omega)]
        exact hr.snoc hp hcl
      · have hil:inner.length=m * size:=by rw [hr.1,List.length_take,Nat.min_eq_left (by omega)]
        rcases Nat.lt_or_ge j inner.length with hj|hj
        · rw [List.getElem?_append_left hj] at hu
          exact hc j u hu
        · rw [List.getElem?_append_right hj] at hu
          have:=hcc (j - inner.length) u hu
          rwa [hil,Nat.add_sub_cancel' (by omega)] at this
  obtain ⟨inner,hr,hc⟩:=key ps.length (Nat.le_refl _)
  rw [List.take_length] at hr
  exact ⟨inner,hr,hc⟩
section
variable {α:Type} {P:Program}
end
section
variable {P:Program} {ops:Array Oper} {rest:List Oper} {o:Oper} {a:Act} {Q:Exit→Act→World→Prop}
end
structure Kd (α:Type) where
  sz:Nat
  E:List Nat
  K:World→α→List Value→Prop
  M:World→Nat→(Nat→Prop)→α→List Value→Prop
  K_len:∀ {w x cs},K w x cs→cs.length=sz
  K_one:∀ {w x cs},K w x cs→∀ u∈cs,u.oneCell'=true
  K_below:∀ {w w1:World} {x cs},Below w.heap.size w w1→K w x cs→K w1 x cs
  K_of_M:∀ {w base ok x cs},M w base ok x cs→K w x cs
  M_mono:∀ {w base ok ok' x cs},(∀ k,ok k→ok' k)→M w base ok x cs→M w base ok' x cs
  M_bound:∀ {w:World} {base ok x cs},M w base ok x cs→M w base (fun k=>ok k∧base≤k∧k < w.heap.size∧∃ q,q∈E∧∃ cells,w.heap[k]?=some (.cells cells q (0,0))) x cs
  M_move:∀ {w w1:World} {base ok x cs},(∀ k,ok k→w1.heap[k]?=w.heap[k]?)→M w base ok x cs→M w1 base ok x cs
  M_lower:∀ {w base base' ok x cs},base'≤base→M w base ok x cs→M w base' ok x cs
theorem own_move {w w1:World} {base:Nat} {e:TypeId} {size n:Nat} {v:Value} {xs:List Value} (h:w.ownsRow base e size v n xs) (hm:∀ k,v.ownBlock=some k→w1.heap[k]?=w.heap[k]?):w1.ownsRow base e size v n xs:=by
  obtain ⟨h1,h2⟩:=h
  refine ⟨h1,?_⟩
  rcases h2 with h2|⟨g,cap,cur,rfl,hg,hh,r⟩
  · exact .inl h2
  · exact .inr ⟨g,cap,cur,rfl,hg,(hm g (by simp [Value.ownBlock])).trans hh,r⟩
theorem own_typed {w:World} {base:Nat} {e:TypeId} {size n:Nat} {v:Value} {xs:List Value} (h:w.ownsRow base e size v n xs) (k:Nat) (hk:v.ownBlock=some k):∃ cells,w.heap[k]?=some (.cells cells e (0,0)):=by
  rcases h.2 with ⟨rfl,_⟩|⟨g,cap,cur,rfl,hg,hh,r⟩
  · simp [Value.ownBlock] at hk
  · have:g=k:=by simpa [Value.ownBlock] using hk
    subst this
    exact ⟨cur,hh⟩
namespace Kd
def C {α:Type} (d:Kd α) (w:World) (A:Option Addr) (n:Nat) (xs:List α):Prop:=ReadsRow (d.K w) d.sz w A n xs
def R {α:Type} (d:Kd α) (e:Nat) (w:World) (base:Nat) (ok:Nat→Prop) (v:Value) (xs:List α):Prop :=
  (∀ k,v.ownBlock=some k→ok k)∧OwnRow (d.M w base (fun k=>ok k∧some k≠v.ownBlock)) e d.sz w base v xs
section
variable {α:Type} {d:Kd α} {e:Nat} {w w1:World} {base:Nat} {ok ok':Nat→Prop} {v:Value} {xs:List α}
theorem C_below {A:Option Addr} {n:Nat} (h:d.C w A n xs) (hb:Below w.heap.size w w1):d.C w1 A n xs:=ReadsRow.imp_ h hb (fun _ _ hp=>d.K_below hb hp)
theorem R_nil (d:Kd α) (e:Nat) (w:World) (base:Nat) (ok:Nat→Prop):d.R e w base ok (.slice none 0 0) []:=⟨fun k hk=>by simp [Value.ownBlock] at hk,OwnRow.none_ _ _ _ _ _⟩
theorem R_mono (h:d.R e w base ok v xs) (hok:∀ k,ok k→ok' k):d.R e w base ok' v xs:=⟨fun k hk=>hok k (h.1 k hk),h.2.imp_ (fun _ _ hp=>d.M_mono (fun k hk=>⟨hok k hk.1,hk.2⟩) hp)⟩
theorem R_bound (h:d.R e w base ok v xs):d.R e w base (fun k=>ok k∧base≤k∧k < w.heap.size∧∃ q,q∈e :: d.E∧∃ cells,w.heap[k]?=some (.cells cells q (0,0))) v xs:=by
  obtain ⟨h0,inner,ho,hr⟩:=h
  refine ⟨fun k hk=>?_,inner,ho,hr.imp_ (fun _ _ hp=>d.M_mono (fun k hk=>?_) (d.M_bound hp))⟩
  · obtain ⟨cells,hc⟩:=own_typed ho k hk
    exact ⟨h0 k hk,own_base ho k hk,own_lt ho k hk,e,List.mem_cons_self,cells,hc⟩
  · obtain ⟨⟨h1,h2⟩,h3,h4,q,hq,hc⟩:=hk
    exact ⟨⟨h1,h3,h4,q,List.mem_cons_of_mem _ hq,hc⟩,h2⟩
theorem R_move (h:d.R e w base ok v xs) (hm:∀ k,ok k→w1.heap[k]?=w.heap[k]?):d.R e w1 base ok v xs:=by
  obtain ⟨h0,inner,ho,hr⟩:=h
  exact ⟨h0,inner,own_move ho (fun k hk=>hm k (h0 k hk)),hr.imp_ (fun _ _ hp=>d.M_move (fun k hk=>hm k hk.1) hp)⟩
theorem R_lower {base':Nat} (h:d.R e w base ok v xs) (hb:base'≤base):d.R e w base' ok v xs:=by
  obtain ⟨h0,inner,ho,hr⟩:=h
  exact ⟨h0,inner,own_weaken ho hb,hr.imp_ (fun _ _ hp=>d.M_lower hb hp)⟩
theorem R_step (h:d.R e w base ok v xs) (hm:∀ k,ok k→k < w.heap.size→w1.heap[k]?=w.heap[k]?):d.R e w1 base ok v xs :=
  R_mono (R_move (R_bound h) (fun k hk=>hm k hk.1 hk.2.2.1)) (fun _ hk=>hk.1)
theorem M_step {x:α} {cs:List Value} (h:d.M w base ok x cs) (hm:∀ k,ok k→k < w.heap.size→w1.heap[k]?=w.heap[k]?):d.M w1 base ok x cs :=
  d.M_mono (fun _ hk=>hk.1) (d.M_move (fun k hk=>hm k hk.1 hk.2.2.1) (d.M_bound h))
theorem R_below (h:d.R e w base ok v xs) (hb:Below w.heap.size w w1):d.R e w1 base ok v xs:=R_step h (fun k _ hk=>hb.block k hk)
theorem M_below {x:α} {cs:List Value} (h:d.M w base ok x cs) (hb:Below w.heap.size w w1):d.M w1 base ok x cs:=M_step h (fun k _ hk=>hb.block k hk)
theorem R_far (h:d.R e w base ok v xs) {p:Addr} (hok:∀ k,ok k→k≠p.block) (u:Value):d.R e (w.setCell p u) base ok v xs:=R_step h (fun k ho _=>Below.heap_setCell w p u k (hok k ho))
theorem R_keep (h:d.R e w base ok v xs) {g:Nat} (hk:KeepBut w w1 g none) (hok:∀ k,ok k→k≠g):d.R e w1 base ok v xs:=R_step h (fun k ho hlt=>hk.2 k hlt (hok k ho) (by simp))
theorem R_types (h:d.R e w base ok v xs) {g t:Nat} {cells:Array Value} (hb:w.heap[g]?=some (.cells cells t (0,0))) (ht:∀ q,q∈e :: d.E→q≠t):d.R e w base (fun k=>ok k∧k≠g) v xs :=
  R_mono (R_bound h) (fun k hk=>⟨hk.1,by
    obtain ⟨_,_,_,q,hq,cells',hc⟩:=hk
    rintro rfl
    rw [hc] at hb
    injection hb with hb
    injection hb with _ hb
    exact ht q hq hb⟩)
theorem R_set (h:d.R e w base ok v xs) {g t:Nat} {cells:Array Value} (hb:w.heap[g]?=some (.cells cells t (0,0))) (ht:∀ q,q∈e :: d.E→q≠t) (j:Nat) (u:Value):d.R e (w.setCell ⟨g,j,none⟩ u) base ok v xs :=
  R_mono (R_far (p:=⟨g,j,none⟩) (R_types h hb ht) (fun _ hk=>hk.2) u) (fun _ hk=>hk.1)
theorem R_reads (h:d.R e w base ok v xs):∃ A c,v=.slice A xs.length c∧xs.length≤c∧d.C w A xs.length xs:=by
  obtain ⟨A,c,he,hl,hr⟩:=OwnRow.reads h.2
  exact ⟨A,c,he,hl,hr.imp_ (Below.refl _ _) (fun _ _ hp=>d.K_of_M hp)⟩
theorem R_slice (h:d.R e w base ok v xs):∃ A c,v=.slice A xs.length c:=by
  obtain ⟨A,c,he,_⟩:=R_reads h
  exact ⟨A,c,he⟩
theorem R_own (h:d.R e w base ok v xs):∃ inner,w.ownsRow base e d.sz v xs.length inner:=by
  obtain ⟨_,inner,ho,_⟩:=h
  exact ⟨inner,ho⟩
theorem R_ne (h:d.R e w base ok v xs) {g t:Nat} {cells:Array Value} (hb:w.heap[g]?=some (.cells cells t (0,0))) (ht:e≠t):some g≠v.ownBlock:=OwnRow.ne_block h.2 hb ht
end
def scalar {α:Type} (enc:α→Value) (h1:∀ x,(enc x).oneCell'=true):Kd α where
  sz:=1
  E:=[]
  K:=fun _ x cs=>cs=[enc x]
  M:=fun _ _ _ x cs=>cs=[enc x]
  K_len:=fun h=>by rw [h]; rfl
  K_one:=fun h u hu=>by
    rw [h] at hu
    rw [List.mem_singleton.1 hu]
    exact h1 _
  K_below:=fun _ h=>h
  K_of_M:=fun h=>h
  M_mono:=fun _ h=>h
  M_bound:=fun h=>h
  M_move:=fun _ h=>h
  M_lower:=fun _ h=>h
def int (k:IntKind):Kd Int:=scalar (Value.int k) (fun _=>rfl)
def bool:Kd Bool:=scalar Value.bool (fun _=>rfl)
def slice {α:Type} (e:Nat) (d:Kd α):Kd (List α) where
  sz:=1
  E:=e :: d.E
  K:=fun w xs cs=>∃ A c,cs=[.slice A xs.length c]∧xs.length≤c∧d.C w A xs.length xs
  M:=fun w base ok xs cs=>∃ v,cs=[v]∧d.R e w base ok v xs
  K_len:=by
    rintro w x cs ⟨A,c,rfl,_⟩
    rfl
  K_one:=by
    rintro w x cs ⟨A,c,rfl,_⟩ u hu
    rw [List.mem_singleton.1 hu]
    rfl
  K_below:=by
    rintro w w1 x cs hb ⟨A,c,rfl,hl,hr⟩
    exact ⟨A,c,rfl,hl,C_below hr hb⟩
  K_of_M:=by
    rintro w base ok x cs ⟨v,rfl,h⟩
    obtain ⟨A,c,rfl,hl,hr⟩:=R_reads h
    exact ⟨A,c,rfl,hl,hr⟩
  M_mono:=by
    rintro w base ok ok' x cs hok ⟨v,rfl,h⟩
    exact ⟨v,rfl,R_mono h hok⟩
  M_bound:=by
    rintro w base ok x cs ⟨v,rfl,h⟩
    exact ⟨v,rfl,R_bound h⟩
  M_move:=by
    rintro w w1 base ok x cs hm ⟨v,rfl,h⟩
    exact ⟨v,rfl,R_move h hm⟩
  M_lower:=by
    rintro w base base' ok x cs hb ⟨v,rfl,h⟩
    exact ⟨v,rfl,R_lower h hb⟩
def pair {α β:Type} (a:Kd α) (b:Kd β):Kd (α × β) where
  sz:=a.sz + b.sz
  E:=a.E ++ b.E
  K:=fun w x cs=>∃ c0 c1,cs=c0 ++ c1∧a.K w x.1 c0∧b.K w x.2 c1
  M:=fun w base ok x cs=>∃ c0 c1,cs=c0 ++ c1∧a.M w base ok x.1 c0∧b.M w base ok x.2 c1
  K_len:=by
    rintro w x cs ⟨c0,c1,rfl,h0,h1⟩
    rw [List.length_append,a.K_len h0,b.K_len h1]
  K_one:=by
    rintro w x cs ⟨c0,c1,rfl,h0,h1⟩ u hu
    rcases List.mem_append.1 hu with hu|hu
    · exact a.K_one h0 u hu
    · exact b.K_one h1 u hu
  K_below:=by
    rintro w w1 x cs hb ⟨c0,c1,rfl,h0,h1⟩
    exact ⟨c0,c1,rfl,a.K_below hb h0,b.K_below hb h1⟩
  K_of_M:=by
    rintro w base ok x cs ⟨c0,c1,rfl,h0,h1⟩
    exact ⟨c0,c1,rfl,a.K_of_M h0,b.K_of_M h1⟩
  M_mono:=by
    rintro w base ok ok' x cs hok ⟨c0,c1,rfl,h0,h1⟩
    exact ⟨c0,c1,rfl,a.M_mono hok h0,b.M_mono hok h1⟩
  M_bound:=by
    rintro w base ok x cs ⟨c0,c1,rfl,h0,h1⟩
    refine ⟨c0,c1,rfl,a.M_mono ?_ (a.M_bound h0),b.M_mono ?_ (b.M_bound h1)⟩
    · rintro k ⟨h2,h3,h4,q,hq,hc⟩
      exact ⟨h2,h3,h4,q,List.mem_append_left _ hq,hc⟩
    · rintro k ⟨h2,h3,h4,q,hq,hc⟩
      exact ⟨h2,h3,h4,q,List.mem_append_right _ hq,hc⟩
  M_move:=by
    rintro w w1 base ok x cs hm ⟨c0,c1,rfl,h0,h1⟩
    exact ⟨c0,c1,rfl,a.M_move hm h0,b.M_move hm h1⟩
  M_lower:=by
    rintro w base base' ok x cs hb ⟨c0,c1,rfl,h0,h1⟩
    exact ⟨c0,c1,rfl,a.M_lower hb h0,b.M_lower hb h1⟩
def iso {α β:Type} (d:Kd α) (f:β→α):Kd β where
  sz:=d.sz
  E:=d.E
  K:=fun w x cs=>d.K w (f x) cs
  M:=fun w base ok x cs=>d.M w base ok (f x) cs
  K_len:=d.K_len
  K_one:=d.K_one
  K_below:=d.K_below
  K_of_M:=d.K_of_M
  M_mono:=d.M_mono
  M_bound:=d.M_bound
  M_move:=d.M_move
  M_lower:=d.M_lower
def bot {α:Type} (sz:Nat) (E:List Nat):Kd α where
  sz:=sz
  E:=E
  K:=fun _ _ _=>False
  M:=fun _ _ _ _ _=>False
  K_len:=fun h=>h.elim
  K_one:=fun h=>h.elim
  K_below:=fun _ h=>h
  K_of_M:=fun h=>h
  M_mono:=fun _ h=>h
  M_bound:=fun h=>h
  M_move:=fun _ h=>h
  M_lower:=fun _ h=>h
def upto {α:Type} (F:Kd α→Kd α) (sz:Nat) (E:List Nat):Nat→Kd α
  | 0=>bot sz E
  | n + 1=>F (upto F sz E n)
theorem C_get {α:Type} {d:Kd α} {w:World} {A:Option Addr} {n:Nat} {xs:List α} (h:d.C w A n xs) (z:α) (i:Int) (h0:0≤i) (h1:i < n) :
    ∃ ad c,A=some ad∧c.length=d.sz∧d.K w (xs.getD i.toNat z) c∧∀ j u,c[j]?=some u→w.cell? (ad.add (i.toNat * d.sz + j))=some u:=ReadsRow.get_ h z i h0 h1
theorem R_appended {α:Type} {d:Kd α} {e base:Nat} {ok okp:Nat→Prop} {W w1:World} {v v1:Value} {xs:List α} {p:α} {inner cs:List Value} (h0:∀ k,v.ownBlock=some k→ok k) (hr:Reps (d.M W base (fun k=>ok k∧some k≠v.ownBlock)) d.sz xs inner) (hp:d.M W base okp p cs) (hokp:∀ k,okp k→ok k∧some k≠v.ownBlock) (hfresh:∀ k,W.heap.size≤k→ok k)
    (hown:w1.ownsRow base e d.sz v1 (xs.length + 1) (inner ++ cs)) (hg:W.grownBy w1 v.ownBlock) (hat:v1.ownBlock=v.ownBlock∨∃ b,v1.ownBlock=some b∧W.heap.size≤b):d.R e w1 base ok v1 (xs ++ [p]):=by
  have hne:∀ k,some k≠v.ownBlock→k < W.heap.size→some k≠v1.ownBlock:=by
    intro k hk hlt
    rcases hat with hat|⟨b,hb,hle⟩
    · rw [hat]; exact hk
    · rw [hb]
      intro he
      injection he with he
      omega
  have step:∀ {q:α} {c:List Value} {o:Nat→Prop},d.M W base o q c→(∀ k,o k→ok k∧some k≠v.ownBlock)→d.M w1 base (fun k=>ok k∧some k≠v1.ownBlock) q c:=by
    intro q c o hq ho
    have h1:=d.M_move (w1:=w1) (fun k hk=>hg.block k hk.2.2.1 (ho k hk.1).2) (d.M_bound hq)
    exact d.M_mono (fun k hk=>⟨(ho k hk.1).1,hne k (ho k hk.1).2 hk.2.2.1⟩) h1
  refine ⟨fun k hk=>?_,inner ++ cs,by rw [List.length_append,List.length_singleton]; exact hown,?_⟩
  · rcases hat with hat|⟨b,hb,hle⟩
    · exact h0 k (hat ▸ hk)
    · rw [hb] at hk
      injection hk with hk
      exact hfresh k (by omega)
  · exact (hr.imp_ (fun _ _ hq=>step hq (fun _ hk=>hk))).snoc (step hp hokp) (d.K_len (d.K_of_M hp))
section
variable {P:Program} {ops:Array Oper} {rest:List Oper} {o:Oper} {a:Act} {Q:Exit→Act→World→Prop} {α:Type}
theorem R_append (d:Kd α) {w0 W:World} (base:Nat) (hgd:o.guard=none) (s x:Operand) (t e:TypeId) (z:Value) (bytes:Nat)
    (ho:o.op=.call { callee:=.builtin .append,args:=#[s,x],argTypes:=#[t,t] })
    (ht:P.underlying t=some (.slice e)) (hinfo:(P.info? e).map (fun i=>(i.zero,i.size,i.bytes))=some (some z,d.sz,bytes)) (hz:z.cells.size=d.sz) (hs0:0 < d.sz) (hb0:0 < bytes)
    (v:Value) (xs:List α) (p:α) (cs:List Value) (ok okp:Nat→Prop) (hs:a.eval s=v) (hx:a.eval x=.slice (some ⟨W.heap.size,0,none⟩) 1 1) (hp:d.M W base okp p cs) (hokp:∀ k,okp k→ok k∧some k≠v.ownBlock) (hfresh:∀ k,W.heap.size≤k→ok k)
    (HO:d.R e W base ok v xs) (HB:Below base w0 W) (hbase:base≤W.heap.size) (hl:(xs.length + 1) * bytes≤140737488355328)
    (h:∀ v1 w1,d.R e w1 base ok v1 (xs ++ [p])→Below base w0 w1→W.grownBy w1 v.ownBlock→(v1.ownBlock=v.ownBlock∨∃ b,v1.ownBlock=some b∧W.heap.size≤b)→wpList P ops Q rest (a.put o.dst v1) w1) :
    wpList P ops Q (o :: rest) a (W.alloc (.cells cs.toArray e)):=by
  obtain ⟨h0,inner,hown,hr⟩:=HO
  refine print_append_cells base hgd s x t e z d.sz bytes ho ht hinfo hz hs0 hb0 v xs.length inner cs hs hx (d.K_len (d.K_of_M hp)) (d.K_one (d.K_of_M hp)) hown HB hbase hl ?_
  intro v1 w1 hown1 hb1 hg1 hat1
  exact h v1 w1 (R_appended h0 hr hp hokp hfresh hown1 hg1 hat1) hb1 hg1 hat1
end
section
variable {P:Program} {ops:Array Oper} {o:Oper} {a:Act} {Q:Exit→Act→World→Prop} {Kc:Act→World→Prop} {α:Type}
theorem R_append_step (d:Kd α) {w0 W:World} (base:Nat) (hw:Region.wanted o (yielded ops a.tmps)=true) (s x:Operand) (t e:TypeId) (z:Value) (bytes:Nat)
    (ho:o.op=.call { callee:=.builtin .append,args:=#[s,x],argTypes:=#[t,t] })
    (ht:P.underlying t=some (.slice e)) (hinfo:(P.info? e).map (fun i=>(i.zero,i.size,i.bytes))=some (some z,d.sz,bytes)) (hz:z.cells.size=d.sz) (hs0:0 < d.sz) (hb0:0 < bytes)
    (v:Value) (xs:List α) (p:α) (cs:List Value) (ok okp:Nat→Prop) (hs:a.eval s=v) (hx:a.eval x=.slice (some ⟨W.heap.size,0,none⟩) 1 1) (hp:d.M W base okp p cs) (hokp:∀ k,okp k→ok k∧some k≠v.ownBlock) (hfresh:∀ k,W.heap.size≤k→ok k)
    (HO:d.R e W base ok v xs) (HB:Below base w0 W) (hbase:base≤W.heap.size) (hl:(xs.length + 1) * bytes≤140737488355328)
    (h:∀ v1 w1,d.R e w1 base ok v1 (xs ++ [p])→Below base w0 w1→W.grownBy w1 v.ownBlock→(v1.ownBlock=v.ownBlock∨∃ b,v1.ownBlock=some b∧W.heap.size≤b)→Kc (a.put o.dst v1) w1) :
    if Region.wanted o (yielded ops a.tmps)=true then Oper.wp P o a (W.alloc (.cells cs.toArray e)) Kc Q else Kc (a.put o.dst undef) (W.alloc (.cells cs.toArray e)):=by
  obtain ⟨h0,inner,hown,hr⟩:=HO
  refine step_append_cells base hw s x t e z d.sz bytes ho ht hinfo hz hs0 hb0 v xs.length inner cs hs hx (d.K_len (d.K_of_M hp)) (d.K_one (d.K_of_M hp)) hown HB hbase hl ?_
  intro v1 w1 hown1 hb1 hg1 hat1
  exact h v1 w1 (R_appended h0 hr hp hokp hfresh hown1 hg1 hat1) hb1 hg1 hat1
end
theorem reads_of_C {α:Type} {enc:α→Value} {d:α} {h1:∀ x,(enc x).oneCell'=true} {w:World} {A:Option Addr} {n:Nat} {xs:List α} (h:(scalar enc h1).C w A n xs):ReadsOf enc d w A n xs:=by
  refine ⟨h.1,h.2.1,fun hn=>?_⟩
  obtain ⟨ad,e,hc⟩:=h.2.2 hn
  refine ⟨ad,e,fun j hj=>?_⟩
  have hl:j < xs.length:=by have:=h.1; omega
  obtain ⟨c,_,hK,hcell⟩:=hc j _ (List.getElem?_eq_getElem hl)
  have hK':c=[enc xs[j]]:=hK
  subst hK'
  have:=hcell 0 _ rfl
  simpa [scalar,List.getD_eq_getElem?_getD,List.getElem?_eq_getElem hl] using this
end Kd
namespace Kd
structure Mono {α β:Type} (F:Kd α→Kd β):Prop where
  sz:∀ d d':Kd α,d.sz=d'.sz→(F d).sz=(F d').sz
  K:∀ d d':Kd α,d.sz=d'.sz→(∀ w x cs,d.K w x cs→d'.K w x cs)→∀ w x cs,(F d).K w x cs→(F d').K w x cs
  M:∀ d d':Kd α,d.sz=d'.sz→(∀ w base ok x cs,d.M w base ok x cs→d'.M w base ok x cs)→∀ w base ok x cs,(F d).M w base ok x cs→(F d').M w base ok x cs
section
variable {α:Type} {F:Kd α→Kd α} {sz:Nat} {E:List Nat} {hs:∀ n,(upto F sz E n).sz=sz} {hE:∀ n q,q∈(upto F sz E n).E→q∈E}
end
end Kd
namespace Kd
theorem R_after {α:Type} {d:Kd α} {e base:Nat} {ok:Nat→Prop} {W w1:World} {u v v1:Value} {xs:List α} (h:d.R e W base (fun k=>ok k∧some k≠v.ownBlock) u xs) (hg:W.grownBy w1 v.ownBlock) (hat:v1.ownBlock=v.ownBlock∨∃ b,v1.ownBlock=some b∧W.heap.size≤b):d.R e w1 base (fun k=>ok k∧some k≠v1.ownBlock) u xs:=by
  refine R_mono (R_move (R_bound h) (fun k hk=>hg.block k hk.2.2.1 hk.1.2)) (fun k hk=>⟨hk.1.1,?_⟩)
  rcases hat with hat|⟨b,hb,hle⟩
  · rw [hat]; exact hk.1.2
  · rw [hb]
    intro he
    injection he with he
    have:=hk.2.2.1
    omega
theorem M_row {α:Type} {d:Kd α} {e base:Nat} {ok:Nat→Prop} {w:World} {v:Value} {xs:List α} (h:d.R e w base ok v xs):(slice e d).M w base ok xs [v]:=⟨v,rfl,h⟩
end Kd
namespace Kd
section
variable {α β:Type} {d:Kd α} {d':Kd β} {e e':Nat} {w w1 W:World} {base b b':Nat} {ok ok' okv oku:Nat→Prop} {v u:Value} {xs:List α} {ys:List β}
theorem R_alloc (h:d.R e w base ok v xs) (o:Obj):d.R e (w.alloc o) base ok v xs:=R_below h (below_alloc (Below.refl _ _) o)
theorem R_drew (h:d.R e w base ok v xs):d.R e w.drew base ok v xs:=R_below h (below_drew (Below.refl _ _))
theorem R_drewN (h:d.R e w base ok v xs) (m:Nat):d.R e (w.drewN m) base ok v xs:=R_below h (pw_below_drewN (Below.refl _ _) m)
theorem C_alloc {A:Option Addr} {n:Nat} (h:d.C w A n xs) (o:Obj):d.C (w.alloc o) A n xs:=C_below h (below_alloc (Below.refl _ _) o)
theorem C_drew {A:Option Addr} {n:Nat} (h:d.C w A n xs):d.C w.drew A n xs:=C_below h (below_drew (Below.refl _ _))
theorem C_drewN {A:Option Addr} {n:Nat} (h:d.C w A n xs) (m:Nat):d.C (w.drewN m) A n xs:=C_below h (pw_below_drewN (Below.refl _ _) m)
theorem C_nil (d:Kd α) (w:World):d.C w none ([]:List α).length []:=⟨rfl,by simp,fun h=>absurd h (Nat.lt_irrefl 0)⟩
theorem R_reads' {A:Option Addr} {n c:Nat} (h:d.R e w base ok (.slice A n c) xs):n=xs.length∧n≤c∧d.C w A xs.length xs:=by
  obtain ⟨A',c',he,hl,hr⟩:=R_reads h
  injection he with h1 h2 h3
  subst h1
  exact ⟨h2,by omega,hr⟩
theorem R_lt (h:d.R e w base ok v xs):∀ k,v.ownBlock=some k→k < w.heap.size:=by
  obtain ⟨inner,ho⟩:=R_own h
  exact own_lt ho
theorem R_base (h:d.R e w base ok v xs):∀ k,v.ownBlock=some k→base≤k:=by
  obtain ⟨inner,ho⟩:=R_own h
  exact own_base ho
theorem R_form (h:d.R e w base ok v xs) (hp:0 < xs.length):∃ g cap,v=.slice (some ⟨g,0,none⟩) xs.length cap∧base≤g∧g < w.heap.size∧∃ cells,w.heap[g]?=some (.cells cells e (0,0)):=by
  obtain ⟨inner,ho⟩:=R_own h
  obtain ⟨g,cap,he,hb,hl⟩:=ho.form hp
  obtain ⟨cells,hc⟩:=own_typed ho g (by rw [he]; simp [Value.ownBlock])
  exact ⟨g,cap,he,hb,hl,cells,hc⟩
end
section
variable {w W:World} {A:Option Addr} {n:Nat}
theorem at_int {k:IntKind} {xs:List Int} (h:(Kd.int k).C w A n xs) (i:Int) (h0:0≤i) (h1:i < n):∃ ad,A=some ad∧w.cell? (ad.add i.toNat)=some (.int k (rd xs i)) :=
  ReadsOf.at_ (reads_of_C (enc:=Value.int k) (d:=(0:Int)) (h1:=fun _=>rfl) h) i h0 h1
variable {α:Type} {enc:α→Value} {h1:∀ x,(enc x).oneCell'=true} {e base g cap:Nat} {ok:Nat→Prop} {xs:List α}
end
section
variable {P:Program} {ops:Array Oper} {rest:List Oper} {o:Oper} {a:Act} {Q:Exit→Act→World→Prop}
theorem event_run {W w1:World} {v:Value} (hgd:o.guard=none) (hrun:(execOp a.eval o).run P W=.ok (.value v) w1) (h:wpList P ops Q rest (a.put o.dst v) w1):wpList P ops Q (o :: rest) a W:=by
  refine wpList_plain hgd fun K hK=>?_
  unfold Oper.wp
  rw [hrun]
  exact hK _ _ h
variable {α:Type}
theorem R_lit (d:Kd α) {w0 W:World} (base e:Nat) (hgd:o.guard=none) {N:Tmp} (_hd:o.dst=some N) {xs:List α} {inner:List Value} {ok okp:Nat→Prop}
    (hrun:(execOp a.eval o).run P W=.ok (.value (.slice (some ⟨W.heap.size,0,none⟩) xs.length xs.length)) (W.alloc (.cells inner.toArray e)))
    (hrep:Reps (d.M W base okp) d.sz xs inner) (hok:∀ k,okp k→ok k) (hfresh:ok W.heap.size) (HB:Below base w0 W) (hbase:base≤W.heap.size) (hm:xs.length≤9223372036854775807)
    (h:∀ v1 w1,d.R e w1 base ok v1 xs→Below base w0 w1→W.grownBy w1 none→(∃ b,v1.ownBlock=some b∧W.heap.size≤b)→wpList P ops Q rest (a.put o.dst v1) w1):wpList P ops Q (o :: rest) a W:=by
  refine event_run hgd hrun (h _ _ ⟨fun k hk=>?_,inner,?_,?_⟩ (HB.alloc hbase _) (World.grownBy_alloc W _ none) ⟨W.heap.size,by simp [Value.ownBlock],Nat.le_refl _⟩)
  · have:W.heap.size=k:=by simpa [Value.ownBlock] using hk
    subst this
    exact hfresh
  · have h2:=World.ownsRow_lit (base:=base) (e:=e) (size:=d.sz) W inner.toArray xs.length hbase (by simpa [maxLen] using hm) (by simpa using hrep.1)
    simpa using h2
  · refine hrep.imp_ (fun p c hp=>d.M_mono (fun k hk=>⟨hok k hk.1,fun he=>?_⟩) (M_below (d.M_bound hp) (below_alloc (Below.refl _ _) _)))
    have h3:k=W.heap.size:=by simpa [Value.ownBlock] using he
    have:=hk.2.2.1
    omega
end
end Kd
section
variable {P:Program}
end
def QRow (w:World) (base:Nat) (e:TypeId) (size:Nat) (v:Value) (n:Nat) (xs:List Value):Prop :=
  xs.length=n * size ∧
  ((n=0∧∃ A,v=.slice A 0 0∧∀ a,A=some a→base≤a.block∧∃ cur,w.heap[a.block]?=some (.cells cur e (0,0))) ∨
   ∃ g off cap cur,v=.slice (some ⟨g,off * size,none⟩) n cap∧base≤g∧w.heap[g]?=some (.cells cur e (0,0))∧n≤cap∧off + cap≤maxLen∧cur.size=(off + cap) * size∧(cur.toList.drop (off * size)).take (n * size)=xs)
section
variable {w w1:World} {base n size:Nat} {e:TypeId} {v:Value} {xs:List Value}
theorem q_of_own (h:w.ownsRow base e size v n xs):QRow w base e size v n xs:=by
  obtain ⟨h1,h2⟩:=h
  refine ⟨h1,?_⟩
  rcases h2 with ⟨rfl,h0⟩|⟨g,cap,cur,rfl,hb,hh,hnc,hcm,hcs,ht⟩
  · exact .inl ⟨h0,none,rfl,fun a ha=>by cases ha⟩
  · exact .inr ⟨g,0,cap,cur,by rw [Nat.zero_mul],hb,hh,hnc,by rw [Nat.zero_add]; exact hcm,by rw [Nat.zero_add]; exact hcs,by rw [Nat.zero_mul,List.drop_zero]; exact ht⟩
theorem setCells_far {g:Nat}:∀ (vs:List Value) (o:Nat) {w:World} (k:Nat),k≠g→(w.setCells g o vs).heap[k]?=w.heap[k]?
  | [],_,_,_,_=>rfl
  | v :: r,o,w,k,hk=>by
    rw [World.setCells,setCells_far r (o + 1) k hk]
    exact Below.heap_setCell w ⟨g,o,none⟩ v k hk
theorem setCells_same (g:Nat):∀ (vs:List Value) (o:Nat) (w:World),(w.setCells g o vs).os=w.os∧(w.setCells g o vs).tape=w.tape∧(w.setCells g o vs).output=w.output∧(w.setCells g o vs).heap.size=w.heap.size
  | [],_,_=>⟨rfl,rfl,rfl,rfl⟩
  | v :: r,o,w=>by
    obtain ⟨h1,h2,h3,h4⟩:=setCells_same g r (o + 1) (w.setCell ⟨g,o,none⟩ v)
    rw [World.setCells]
    exact ⟨h1,h2,h3,by rw [h4]; simp [World.setCell]⟩
theorem setCells_row {g:Nat} {e:TypeId}:∀ (vs:List Value) (o:Nat) (w:World) (cur:Array Value),w.heap[g]?=some (.cells cur e (0,0))→o + vs.length≤cur.size →
    ∃ cur',(w.setCells g o vs).heap[g]?=some (.cells cur' e (0,0))∧cur'.size=cur.size∧cur'.toList=cur.toList.take o ++ vs ++ cur.toList.drop (o + vs.length)
  | [],o,w,cur,h,_=>⟨cur,h,rfl,by simp⟩
  | v :: r,o,w,cur,h,hl=>by
    have h2:=blk_set h o v
    simp only [List.length_cons] at hl
    obtain ⟨cur',h3,h4,h5⟩:=setCells_row r (o + 1) (w.setCell ⟨g,o,none⟩ v) _ h2 (by simp; omega)
    refine ⟨cur',h3,by rw [h4]; simp,?_⟩
    rw [h5,Array.toList_setIfInBounds]
    have ho:o < cur.toList.length:=by rw [Array.length_toList]; omega
    rw [List.take_set,List.drop_set_of_lt (by omega)]
    simp only [List.length_cons]
    rw [show o + 1 + r.length=o + (r.length + 1) by omega]
    congr 1
    rw [List.take_succ_eq_append_getElem ho,List.set_append_right _ _ (by rw [List.length_take]; omega)]
    have ho':o < cur.size:=by omega
    simp [Nat.min_eq_left (Nat.le_of_lt ho')]
end
section
variable {P:Program}
end
namespace Kd
def Q {α:Type} (d:Kd α) (e:Nat) (w:World) (base:Nat) (ok:Nat→Prop) (v:Value) (xs:List α):Prop :=
  (∀ k,v.ownBlock=some k→ok k)∧∃ inner,QRow w base e d.sz v xs.length inner∧Reps (d.M w base (fun k=>ok k∧some k≠v.ownBlock)) d.sz xs inner
section
variable {α:Type} {d:Kd α} {e:Nat} {w w1 W:World} {base:Nat} {ok ok':Nat→Prop} {v:Value} {xs:List α}
theorem Q_of_R (h:d.R e w base ok v xs):d.Q e w base ok v xs:=by
  obtain ⟨h0,inner,ho,hr⟩:=h
  exact ⟨h0,inner,q_of_own ho,hr⟩
theorem Q_nil (d:Kd α) (e:Nat) (w:World) (base:Nat) (ok:Nat→Prop):d.Q e w base ok (.slice none 0 0) []:=Q_of_R (R_nil d e w base ok)
end
section
variable {P:Program} {ops:Array Oper} {rest:List Oper} {o:Oper} {a:Act} {Q':Exit→Act→World→Prop} {Kc:Act→World→Prop} {α:Type}
end
end Kd
namespace Kd
section
variable {α:Type} {d:Kd α} {e e':Nat} {w w1 W:World} {base:Nat} {ok:Nat→Prop} {u v:Value} {xs:List α}
theorem R_typed (h:d.R e w base ok v xs):∀ k,v.ownBlock=some k→∃ cells,w.heap[k]?=some (.cells cells e (0,0)):=by
  obtain ⟨inner,ho⟩:=R_own h
  exact fun k hk=>own_typed ho k hk
theorem R_over' (h:d.R e W base ok u xs) (hty:∀ k,v.ownBlock=some k→∃ cells,W.heap[k]?=some (.cells cells e' (0,0))) (ht:∀ q,q∈e :: d.E→q≠e') (hg:W.grownBy w1 v.ownBlock):d.R e w1 base ok u xs:=by
  refine R_mono (R_move (R_bound h) (fun k hk=>hg.block k hk.2.2.1 (fun he=>?_))) (fun _ hk=>hk.1)
  obtain ⟨_,_,_,q,hq,cells,hc⟩:=hk
  obtain ⟨cells',hc'⟩:=hty k he.symm
  rw [hc] at hc'
  injection hc' with hc'
  injection hc' with _ hc'
  exact ht q hq hc'
theorem R_apart' (h:d.R e W base ok u xs) (hty:∀ k,v.ownBlock=some k→∃ cells,W.heap[k]?=some (.cells cells e' (0,0))) (ht:∀ q,q∈e :: d.E→q≠e'):d.R e W base (fun k=>ok k∧some k≠v.ownBlock) u xs:=by
  refine R_mono (R_bound h) (fun k hk=>⟨hk.1,fun he=>?_⟩)
  obtain ⟨_,_,_,q,hq,cells,hc⟩:=hk
  obtain ⟨cells',hc'⟩:=hty k he.symm
  rw [hc] at hc'
  injection hc' with hc'
  injection hc' with _ hc'
  exact ht q hq hc'
theorem R_elder' (hu:d.R e W base ok u xs) (hbase:∀ k,v.ownBlock=some k→W.heap.size≤k) (hb:Below W.heap.size W w1):d.R e w1 base (fun k=>ok k∧some k≠v.ownBlock) u xs :=
  R_mono (R_move (R_bound hu) (fun k hk=>hb.block k hk.2.2.1)) (fun k hk=>⟨hk.1,fun he=>by have:=hbase k he.symm; have:=hk.2.2.1; omega⟩)
theorem R_new' (h:d.R e w1 W.heap.size ok v xs) (hlt:∀ k,u.ownBlock=some k→k < W.heap.size):d.R e w1 W.heap.size (fun k=>ok k∧some k≠u.ownBlock) v xs :=
  R_mono (R_bound h) (fun k hk=>⟨hk.1,fun he=>by have:=hlt k he.symm; have:=hk.2.1; omega⟩)
theorem fresh' (hlt:∀ k,u.ownBlock=some k→k < W.heap.size):∀ k,W.heap.size≤k→some k≠u.ownBlock:=fun k hk he=>by have:=hlt k he.symm; omega
end
end Kd
theorem seg_get {α:Type} (a seg:List α) (o:Nat) (h:o + seg.length≤a.length) (q:Nat) :
    (a.take o ++ seg ++ a.drop (o + seg.length))[q]?=if q < o then a[q]? else if q < o + seg.length then seg[q - o]? else a[q]?:=by
  have hl:(a.take o).length=o:=by rw [List.length_take]; omega
  rw [List.append_assoc]
  by_cases h1:q < o
  · rw [if_pos h1,List.getElem?_append_left (by omega),List.getElem?_take,if_pos h1]
  · rw [if_neg h1,List.getElem?_append_right (by omega),hl]
    by_cases h2:q < o + seg.length
    · rw [if_pos h2,List.getElem?_append_left (by omega)]
    · rw [if_neg h2,List.getElem?_append_right (by omega),List.getElem?_drop]
      congr 1
      omega
namespace Kd
section
variable {α:Type} {d:Kd α} {e base g n cap:Nat} {ok okp:Nat→Prop} {W:World} {xs:List α}
theorem R_elem (h:d.R e W base ok (.slice (some ⟨g,0,none⟩) n cap) xs) (z:α) (i:Int) (h0:0≤i) (h1:i < n) :
    ∃ c,c.length=d.sz∧d.M W base (fun k=>ok k∧k≠g) (xs.getD i.toNat z) c∧(∀ j u,c[j]?=some u→W.cell? ⟨g,i.toNat * d.sz + j,none⟩=some u)∧∀ j,W.frozen? ⟨g,i.toNat * d.sz + j,none⟩=false:=by
  obtain ⟨hn,hnc,hC⟩:=R_reads' h
  obtain ⟨_,inner,ho,hr⟩:=h
  have hil:i.toNat < xs.length:=by omega
  have hseg:i.toNat * d.sz + d.sz≤inner.length:=by rw [hr.1,← Nat.succ_mul]; exact Nat.mul_le_mul_right _ hil
  have hM:=hr.2 i.toNat _ (List.getElem?_eq_getElem hil)
  refine ⟨(inner.drop (i.toNat * d.sz)).take d.sz,by rw [List.length_take,List.length_drop]; omega,?_,fun j u hu=>?_,fun j=>?_⟩
  · rw [List.getD_eq_getElem?_getD,List.getElem?_eq_getElem hil]
    exact d.M_mono (fun k hk=>⟨hk.1,fun he=>hk.2 (by rw [he]; simp [Value.ownBlock])⟩) hM
  · rw [List.getElem?_take] at hu
    split at hu
    · rw [List.getElem?_drop] at hu
      have:=ho.cells (g:=g) (by simp [Value.ownBlock]) _ u hu
      rwa [add_plain] at this
    · cases hu
  · obtain ⟨cells,hc⟩:=own_typed ho g (by simp [Value.ownBlock])
    exact blk_frozen hc _
theorem R_seg (h:d.R e W base ok (.slice (some ⟨g,0,none⟩) n cap) xs) (i:Int) (h0:0≤i) (h1:i < n) {c seg:List Value} {j:Nat} (hcl:c.length=d.sz) (hcc:∀ j u,c[j]?=some u→W.cell? ⟨g,i.toNat * d.sz + j,none⟩=some u)
    (hj:j + seg.length≤d.sz) {x':α} (hM:d.M W base okp x' (c.take j ++ seg ++ c.drop (j + seg.length))) (hokp:∀ k,okp k→ok k∧k≠g) :
    d.R e (W.setCells g (i.toNat * d.sz + j) seg) base ok (.slice (some ⟨g,0,none⟩) n cap) (xs.set i.toNat x')∧W.grownBy (W.setCells g (i.toNat * d.sz + j) seg) (some g):=by
  obtain ⟨hn,hnc,_⟩:=R_reads' h
  obtain ⟨hok,inner,ho,hr⟩:=h
  have hil:i.toNat < xs.length:=by omega
  have hseg:i.toNat * d.sz + d.sz≤inner.length:=by rw [hr.1,← Nat.succ_mul]; exact Nat.mul_le_mul_right _ hil
  have hin:inner.length=n * d.sz:=by rw [hr.1,hn]
  obtain ⟨ho1,ho2⟩:=ho
  rcases ho2 with ⟨hv,_⟩|⟨g',cap',cur,hv,hb,hh,hnc',hcm,hcs,ht⟩
  · cases hv
  injection hv with ha _ hc
  injection ha with ha
  injection ha with hg
  subst hg; subst hc
  have hfit:i.toNat * d.sz + j + seg.length≤cur.size:=by
    have:n * d.sz≤cap * d.sz:=Nat.mul_le_mul_right _ hnc
    omega
  obtain ⟨cur',h3,h4,h5⟩:=setCells_row seg (i.toNat * d.sz + j) W cur hh hfit
  obtain ⟨s1,s2,s3,s4⟩:=setCells_same g seg (i.toNat * d.sz + j) W
  have hfar:∀ k,k≠g→(W.setCells g (i.toNat * d.sz + j) seg).heap[k]?=W.heap[k]?:=fun k hk=>setCells_far seg _ k hk
  -- the element's cells before are what was read
  have hcin:∀ q,q < d.sz→c[q]?=inner[i.toNat * d.sz + q]?:=by
    intro q hq
    have hq':q < c.length:=by omega
    have h6:=hcc q _ (List.getElem?_eq_getElem hq')
    rw [cell_of_row W g _ cur e (0,0) hh] at h6
    rw [List.getElem?_eq_getElem hq',← h6,← ht,List.getElem?_take,if_pos (by rw [← hn]; omega),Array.getElem?_toList]
  refine ⟨⟨hok,inner.take (i.toNat * d.sz + j) ++ seg ++ inner.drop (i.toNat * d.sz + j + seg.length),⟨?_,.inr ⟨g,cap,cur',by rw [List.length_set,hn],hb,h3,by rw [List.length_set,← hn]; exact hnc,hcm,by rw [h4,hcs],?_⟩⟩,?_⟩,
    ⟨s1,s2,s3,by rw [s4]; exact Nat.le_refl _,fun k _ hk=>hfar k (fun he=>hk (by rw [he]))⟩⟩
  · rw [List.length_set]
    simp only [List.length_append,List.length_take,List.length_drop]
    rw [hr.1] at hseg ⊢
    omega
  · rw [List.length_set,← hn]
    apply List.ext_getElem?
    intro q
    rw [List.getElem?_take,h5]
    rw [seg_get cur.toList seg (i.toNat * d.sz + j) (by rw [Array.length_toList]; omega) q,seg_get inner seg (i.toNat * d.sz + j) (by omega) q]
    have hcur:∀ q,q < n * d.sz→cur.toList[q]?=inner[q]?:=by
      intro q hq
      rw [← ht,List.getElem?_take,if_pos (by rw [← hn]; exact hq)]
    by_cases hq:q < n * d.sz
    · rw [if_pos hq,hcur q hq]
    · rw [if_neg hq,if_neg (by omega),if_neg (by omega),List.getElem?_eq_none (by omega)]
  · refine ⟨?_,fun m p hm=>?_⟩
    · rw [List.length_set]
      simp only [List.length_append,List.length_take,List.length_drop]
      rw [hr.1] at hseg ⊢
      omega
    · have hml:m < xs.length:=by
        have:=(List.getElem?_eq_some_iff.1 hm).1
        rwa [List.length_set] at this
      have hmfit:m * d.sz + d.sz≤inner.length:=by rw [hr.1,← Nat.succ_mul]; exact Nat.mul_le_mul_right _ hml
      have hgo:some g=(Value.slice (some ⟨g,0,none⟩) n cap).ownBlock:=by simp [Value.ownBlock]
      by_cases hmi:m=i.toNat
      · subst hmi
        rw [List.getElem?_set_self (by omega)] at hm
        injection hm with hm
        subst hm
        have hcells:((inner.take (i.toNat * d.sz + j) ++ seg ++ inner.drop (i.toNat * d.sz + j + seg.length)).drop (i.toNat * d.sz)).take d.sz=c.take j ++ seg ++ c.drop (j + seg.length):=by
          apply List.ext_getElem?
          intro q
          rw [List.getElem?_take,List.getElem?_drop,seg_get inner seg _ (by omega),seg_get c seg j (by omega) q]
          by_cases hq:q < d.sz
          · rw [if_pos hq,hcin q hq]
            by_cases hq1:q < j
            · rw [if_pos (by omega),if_pos hq1]
            · rw [if_neg (by omega),if_neg hq1]
              by_cases hq2:q < j + seg.length
              · rw [if_pos (by omega),if_pos hq2]
                congr 1
                omega
              · rw [if_neg (by omega),if_neg hq2]
          · rw [if_neg hq,if_neg (by omega),if_neg (by omega),List.getElem?_eq_none (by omega)]
        rw [hcells]
        refine d.M_mono (fun k hk=>?_) (d.M_move (w1:=W.setCells g (i.toNat * d.sz + j) seg) (fun k hk=>hfar k (hokp k hk).2) hM)
        exact ⟨(hokp k hk).1,fun he=>(hokp k hk).2 (by rw [← hgo] at he; injection he)⟩
      · rw [List.getElem?_set_ne (by omega)] at hm
        have hold:=hr.2 m p hm
        have hcells:((inner.take (i.toNat * d.sz + j) ++ seg ++ inner.drop (i.toNat * d.sz + j + seg.length)).drop (m * d.sz)).take d.sz=(inner.drop (m * d.sz)).take d.sz:=by
          apply List.ext_getElem?
          intro q
          rw [List.getElem?_take,List.getElem?_take,List.getElem?_drop,List.getElem?_drop,seg_get inner seg _ (by omega)]
          by_cases hq:q < d.sz
          · rw [if_pos hq,if_pos hq]
            rcases Nat.lt_or_gt_of_ne hmi with hlt|hgt
            · have:m * d.sz + d.sz≤i.toNat * d.sz:=by rw [← Nat.succ_mul]; exact Nat.mul_le_mul_right _ hlt
              rw [if_pos (by omega)]
            · have:i.toNat * d.sz + d.sz≤m * d.sz:=by rw [← Nat.succ_mul]; exact Nat.mul_le_mul_right _ hgt
              rw [if_neg (by omega),if_neg (by omega)]
          · rw [if_neg hq,if_neg hq]
        rw [hcells]
        refine d.M_move (fun k hk=>hfar k (fun he=>hk.2 (by rw [he]; exact hgo))) hold
end
end Kd
namespace Kd
section
variable {α:Type} {F:Kd α→Kd α} {sz:Nat} {E:List Nat} {hs:∀ n,(upto F sz E n).sz=sz} {hE:∀ n q,q∈(upto F sz E n).E→q∈E}
end
end Kd
namespace Kd
theorem reps_append {α:Type} {R:α→List Value→Prop} {size:Nat} {ps qs:List α} {cs ds:List Value} (h:Reps R size ps cs) (h':Reps R size qs ds):Reps R size (ps ++ qs) (cs ++ ds):=by
  refine ⟨by rw [List.length_append,List.length_append,h.1,h'.1,Nat.add_mul],fun j p hj=>?_⟩
  rcases Nat.lt_or_ge j ps.length with hlt|hge
  · rw [List.getElem?_append_left hlt] at hj
    have hle:j * size + size≤cs.length:=by rw [h.1,← Nat.succ_mul]; exact Nat.mul_le_mul_right _ hlt
    rw [List.drop_append_of_le_length (by omega),List.take_append_of_le_length (by rw [List.length_drop]; omega)]
    exact h.2 j p hj
  · rw [List.getElem?_append_right hge] at hj
    have h2:=h'.2 (j - ps.length) p hj
    have hle:ps.length * size≤j * size:=Nat.mul_le_mul_right _ hge
    rw [List.drop_append,List.drop_eq_nil_of_le (by rw [h.1]; exact hle),List.nil_append,h.1,← Nat.sub_mul]
    exact h2
section
variable {P:Program} {ops:Array Oper} {rest:List Oper} {o:Oper} {a:Act} {Q:Exit→Act→World→Prop} {α:Type}
theorem R_append_rows (d:Kd α) {Rr:α→List Value→Prop} {w0 W:World} (base:Nat) (hgd:o.guard=none) (s x:Operand) (t e:TypeId) (z:Value) (bytes:Nat)
    (ho:o.op=.call { callee:=.builtin .append,args:=#[s,x],argTypes:=#[t,t] })
    (ht:P.underlying t=some (.slice e)) (hinfo:(P.info? e).map (fun i=>(i.zero,i.size,i.bytes))=some (some z,d.sz,bytes)) (hz:z.cells.size=d.sz) (hs0:0 < d.sz) (hb0:0 < bytes)
    (v:Value) (xs ys:List α) (A:Option Addr) (m c:Nat) (ok okp:Nat→Prop) (hs:a.eval s=v) (hx:a.eval x=.slice A m c)
    (HO:d.R e W base ok v xs) (HR:ReadsRow Rr d.sz W A m ys) (hKM:∀ x cs,Rr x cs→d.M W base okp x cs) (hokp:∀ k,okp k→ok k∧some k≠v.ownBlock) (hfresh:∀ k,W.heap.size≤k→ok k)
    (HB:Below base w0 W) (hbase:base≤W.heap.size) (hl:(xs.length + m) * bytes≤140737488355328)
    (h:∀ v1 w1,d.R e w1 base ok v1 (xs ++ ys)→Below base w0 w1→W.grownBy w1 v.ownBlock→(v1.ownBlock=v.ownBlock∨∃ b,v1.ownBlock=some b∧W.heap.size≤b)→wpList P ops Q rest (a.put o.dst v1) w1) :
    wpList P ops Q (o :: rest) a W:=by
  obtain ⟨i0,hi,hzz⟩:=Option.map_eq_some_iff.1 hinfo
  simp only [Prod.mk.injEq] at hzz
  obtain ⟨hz0,hz1,hz2⟩:=hzz
  have hm:ys.length=m:=HR.1
  have hlen:xs.length + m≤140737488355328:=Nat.le_trans (Nat.le_mul_of_pos_right _ hb0) hl
  obtain ⟨hok,inner,hown,hr⟩:=HO
  have hrun:∃ v1 w1,(Builtin.append_ #[t,t] o.type #[v,.slice A m c]).run P W=.ok v1 w1∧d.R e w1 base ok v1 (xs ++ ys)∧W.grownBy w1 v.ownBlock∧(v1.ownBlock=v.ownBlock∨∃ b,v1.ownBlock=some b∧W.heap.size≤b):=by
    rcases A with _|ad
    · have h0:m=0:=by
        rcases Nat.eq_zero_or_pos m with h0|h0
        · exact h0
        · obtain ⟨ad,h,_⟩:=HR.2.2 h0
          cases h
      subst h0
      obtain rfl:ys=[]:=List.eq_nil_of_length_eq_zero hm
      refine ⟨v,W,?_,by rw [List.append_nil]; exact ⟨hok,inner,hown,hr⟩,World.grownBy.refl W _,.inl rfl⟩
      rcases hown.2 with ⟨rfl,hn⟩|⟨g,cap,cur,rfl,_,_,hnc,_⟩
      · simp [Builtin.append_,run_underlying ht,sizeOf,typeInfo,hi,Builtin.lenOf,Builtin.firstCells]
      · simp [Builtin.append_,run_underlying ht,sizeOf,typeInfo,hi,Builtin.lenOf,Builtin.firstCells,hnc,storeCells]
    · obtain ⟨news,hnr,hnc⟩:=ReadsRow.inner_ HR
      have hnM:Reps (d.M W base okp) d.sz ys news:=hnr.imp_ (fun p c hp=>hKM p c hp)
      have hone:∀ u∈news,u.oneCell'=true:=by
        intro u hu
        obtain ⟨q,hq,rfl⟩:=List.mem_iff_getElem.1 hu
        have hql:q / d.sz < ys.length:=by
          rw [Nat.div_lt_iff_lt_mul hs0]
          rw [← hnM.1]
          exact hq
        have hc:=hnM.2 (q / d.sz) _ (List.getElem?_eq_getElem hql)
        refine d.K_one (d.K_of_M hc) _ ?_
        rw [List.mem_iff_getElem?]
        refine ⟨q % d.sz,?_⟩
        rw [List.getElem?_take,if_pos (Nat.mod_lt _ hs0),List.getElem?_drop,Nat.mul_comm,Nat.div_add_mod,List.getElem?_eq_getElem hq]
      obtain ⟨v1,w1,hrun,h2,hg,_,hat⟩:=run_append_own_at (P:=P) W base t o.type e i0 z d.sz bytes ht hi hz0 hz1 hz2 hz hs0 v xs.length inner hown ad m c news (by rw [hnM.1,hm]) hnc hone (by simp only [maxLen]; omega) hl hbase
      have hat':v1.ownBlock=v.ownBlock∨∃ b,v1.ownBlock=some b∧W.heap.size≤b:=by
        rcases hat with hat|hat
        · exact .inl hat
        · exact .inr ⟨_,hat,Nat.le_refl _⟩
      have hne:∀ k,some k≠v.ownBlock→k < W.heap.size→some k≠v1.ownBlock:=by
        intro k hk hlt
        rcases hat' with hat|⟨b,hb,hle⟩
        · rw [hat]; exact hk
        · rw [hb]
          intro he
          injection he with he
          omega
      have step:∀ {q:α} {c:List Value} {o:Nat→Prop},d.M W base o q c→(∀ k,o k→ok k∧some k≠v.ownBlock)→d.M w1 base (fun k=>ok k∧some k≠v1.ownBlock) q c:=by
        intro q c o hq ho
        have h1:=d.M_move (w1:=w1) (fun k hk=>hg.block k hk.2.2.1 (ho k hk.1).2) (d.M_bound hq)
        exact d.M_mono (fun k hk=>⟨(ho k hk.1).1,hne k (ho k hk.1).2 hk.2.2.1⟩) h1
      refine ⟨v1,w1,hrun,⟨fun k hk=>?_,inner ++ news,by rw [List.length_append,hm]; exact h2,reps_append (hr.imp_ (fun _ _ hq=>step hq (fun _ hk=>hk))) (hnM.imp_ (fun _ _ hq=>step hq hokp))⟩,hg,hat'⟩
      rcases hat' with hat|⟨b,hb,hle⟩
      · exact hok k (hat ▸ hk)
      · rw [hb] at hk
        injection hk with hk
        exact hfresh k (by omega)
  obtain ⟨v1,w1,hr1,h1,hg,hat⟩:=hrun
  refine wpList_plain hgd fun K hK=>?_
  unfold Oper.wp execOp
  simp only [ho,resolve,invoke,builtin,Sem.run_bind,Sem.run_pure,Result.andThen_ok,List.map_toArray,List.map_cons,List.map_nil,hs,hx,hr1]
  exact hK _ _ (h v1 w1 h1 (HB.grown hg hbase (own_base hown)) hg hat)
end
end Kd
namespace Kd
section
variable {P:Program} {ops:Array Oper} {rest:List Oper} {o:Oper} {a:Act} {Q:Exit→Act→World→Prop} {α:Type}
end
end Kd
theorem add_add (a:Addr) (i j:Nat):(a.add i).add j=a.add (i + j):=by
  unfold Addr.add
  by_cases h1:i=0 <;> by_cases h2:j=0 <;> simp [h1,h2,Nat.add_assoc]
namespace Kd
section
variable {α:Type} {k:Kd α} {w:World} {A:Option Addr} {xs:List α} {m c:Nat}
end
end Kd
section
variable {P:Program}
end
theorem below_size {w W:World} (h:Below w.heap.size w W):w.heap.size≤W.heap.size:=h.size
theorem below_step {w W w2:World} (h:Below w.heap.size w W) (k:Below W.heap.size W w2):Below w.heap.size w w2:=below_then h h.size k
theorem ReadsInt.nil (W:World) (k:IntKind):ReadsInt W k none ([]:List Int).length []:=⟨rfl,by simp,fun h=>absurd h (Nat.lt_irrefl 0)⟩
theorem ReadsInt.drewN {W:World} {k:IntKind} {A:Option Addr} {n:Nat} {xs:List Int} (h:ReadsInt W k A n xs) (m:Nat):ReadsInt (W.drewN m) k A n xs:=h
theorem below_set {w W:World} {g j:Nat} {v:Value} (h:Below w.heap.size w W) (hg:w.heap.size≤g):Below w.heap.size w (W.setCell ⟨g,j,none⟩ v):=h.setCell hg _
theorem keep_drewN {w W:World} {g:Nat} {row:Option Nat} (h:KeepBut w W g row) (m:Nat):KeepBut w (W.drewN m) g row:=h
theorem keep_alloc {w W:World} {g:Nat} (h:KeepBut w W g none) (o:Obj):KeepBut w (W.alloc o) g none:=h.trans (KeepBut.of_grown (World.grownBy_alloc W o none) g) (.inl rfl)
theorem below_weaken {w0 w w1:World} {B:Nat} (h:Below w0.heap.size w0 w) (hB:w0.heap.size≤B) (k:Below B w w1):Below w0.heap.size w0 w1 :=
  h.trans ⟨k.os,k.tape,k.output,k.size,fun i hi=>k.block i (Nat.lt_of_lt_of_le hi hB)⟩
theorem own_base' {w:World} {base:Nat} {e:TypeId} {size n:Nat} {v:Value} {xs:List Value} (h:w.ownsRow base e size v n xs):v.ownBlock=none∨∃ b,v.ownBlock=some b∧base≤b:=by
  cases hv:v.ownBlock with
  | none=>exact .inl rfl
  | some b=>exact .inr ⟨b,rfl,own_base h b hv⟩
theorem keep_size {w W:World} {g:Nat} {row:Option Nat} (h:KeepBut w W g row):w.heap.size≤W.heap.size:=h.1
theorem ReadsOf.nil {α:Type} (enc:α→Value) (d:α) (W:World):ReadsOf enc d W none ([]:List α).length []:=⟨rfl,by simp,fun h=>absurd h (Nat.lt_irrefl 0)⟩
theorem ReadsOf.drewN {α:Type} {enc:α→Value} {d:α} {W:World} {A:Option Addr} {n:Nat} {xs:List α} (h:ReadsOf enc d W A n xs) (m:Nat):ReadsOf enc d (W.drewN m) A n xs:=h
theorem blk_put {w:World} {g:Nat} {t:TypeId} {cs cs':Array Value} (h:w.heap[g]?=some (.cells cs t (0,0))) (i:Nat) (u:Value) (e:cs.setIfInBounds i u=cs'):(w.setCell ⟨g,i,none⟩ u).heap[g]?=some (.cells cs' t (0,0)):=e ▸ blk_set h i u
theorem keep_far {w W:World} {g:Nat} {row:Option Nat} (h:KeepBut w W g row) {p:Addr} (hp:w.heap.size≤p.block) (u:Value):KeepBut w (W.setCell p u) g row :=
  ⟨by simpa [World.setCell] using h.1,fun i hi hg hr=>(Below.heap_setCell W p u i (by omega)).trans (h.2 i hi hg hr)⟩
theorem below_drew1 {base:Nat} {w W:World} (h:Below base w W):Below base w W.drew:=h.drew
theorem keep_drew {w W:World} {g:Nat} {row:Option Nat} (h:KeepBut w W g row):KeepBut w W.drew g row:=h
namespace Kd
section
variable {α β:Type} {d:Kd α} {d':Kd β} {e e' base base' n:Nat} {ok ok':Nat→Prop} {w W w1 W1:World} {v u:Value} {xs:List α} {ys:List β} {A:Option Addr} {c:Nat}
theorem R_base2 (h:d.R e w base ok v xs):v.ownBlock=none∨∃ k,v.ownBlock=some k∧base≤k:=by
  obtain ⟨inner,ho⟩:=R_own h
  exact own_base' ho
end
section
variable {α:Type} {enc:α→Value} {h1:∀ x,(enc x).oneCell'=true} {w W:World} {A:Option Addr} {n g:Nat} {xs:List α}
end
end Kd
namespace Kd
section
variable {α:Type} {d:Kd α} {e base g:Nat} {ok:Nat→Prop} {w w1:World} {v:Value} {xs:List α} {o:Obj}
end
end Kd
section
variable {P:Program} {ops:Array Oper} {rest:List Oper} {o:Oper} {a:Act} {Q:Exit→Act→World→Prop}
theorem box_event {W:World} (hgd:o.guard=none) {N:Tmp} (_hd:o.dst=some N) {cs:Array Value} {t:TypeId}
    (hrun:(execOp a.eval o).run P W=.ok (.value (.pointer (some ⟨W.heap.size,0,none⟩))) (W.alloc (.cells cs t (0,0))))
    (h:∀ g,g=W.heap.size→∀ w1,w1.heap[g]?=some (.cells cs t (0,0))→Below W.heap.size W w1→wpList P ops Q rest (a.put o.dst (.pointer (some ⟨g,0,none⟩))) w1):wpList P ops Q (o :: rest) a W :=
  Kd.event_run hgd hrun (h _ rfl _ (blk_new W _) (below_alloc (Below.refl _ _) _))
end
namespace Kd
section
variable {α:Type} {enc:α→Value} {h1:∀ x,(enc x).oneCell'=true} {e base g n cap:Nat} {ok:Nat→Prop} {W:World} {xs:List α}
end
end Kd
section
variable {P:Program} {ops:Array Oper} {rest:List Oper} {o:Oper} {a:Act} {Q:Exit→Act→World→Prop}
end
namespace Kd
section
variable {α:Type} {enc:α→Value} {h1:∀ x,(enc x).oneCell'=true} {e base g n cap:Nat} {ok:Nat→Prop} {W:World} {xs:List α}
end
end Kd
section
variable {P:Program} {ops:Array Oper} {rest:List Oper} {o:Oper} {a:Act} {Q:Exit→Act→World→Prop} {W:World}
theorem gate_dst {N:Tmp} (_hN:o.dst=some N) (h:wpList P ops Q (o :: rest) a W):wpList P ops Q (o :: rest) a W:=h
theorem gate_store {t:TypeId} {p:Tmp} {v:Operand} (_ho:o.op=.store t (.tmp p) v) (h:wpList P ops Q (o :: rest) a W):wpList P ops Q (o :: rest) a W:=h
end
section
variable {P:Program} {ops:Array Oper} {o:Oper} {a:Act} {Q:Exit→Act→World→Prop} {Kc:Act→World→Prop}
theorem event_step {W w1:World} {v:Value} (hw:Region.wanted o (yielded ops a.tmps)=true) (hrun:(execOp a.eval o).run P W=.ok (.value v) w1) (h:Kc (a.put o.dst v) w1):if Region.wanted o (yielded ops a.tmps)=true then Oper.wp P o a W Kc Q else Kc (a.put o.dst undef) W:=by
  rw [if_pos hw]
  unfold Oper.wp
  rw [hrun]
  exact h
namespace Kd
variable {α:Type}
theorem R_lit_step (d:Kd α) {w0 W:World} (base e:Nat) (hw:Region.wanted o (yielded ops a.tmps)=true) {N:Tmp} (_hd:o.dst=some N) {xs:List α} {inner:List Value} {ok okp:Nat→Prop}
    (hrun:(execOp a.eval o).run P W=.ok (.value (.slice (some ⟨W.heap.size,0,none⟩) xs.length xs.length)) (W.alloc (.cells inner.toArray e)))
    (hrep:Reps (d.M W base okp) d.sz xs inner) (hok:∀ k,okp k→ok k) (hfresh:ok W.heap.size) (HB:Below base w0 W) (hbase:base≤W.heap.size) (hm:xs.length≤9223372036854775807)
    (h:∀ v1 w1,d.R e w1 base ok v1 xs→Below base w0 w1→W.grownBy w1 none→(∃ b,v1.ownBlock=some b∧W.heap.size≤b)→Kc (a.put o.dst v1) w1):if Region.wanted o (yielded ops a.tmps)=true then Oper.wp P o a W Kc Q else Kc (a.put o.dst undef) W:=by
  refine event_step hw hrun (h _ _ ⟨fun k hk=>?_,inner,?_,?_⟩ (HB.alloc hbase _) (World.grownBy_alloc W _ none) ⟨W.heap.size,by simp [Value.ownBlock],Nat.le_refl _⟩)
  · have:W.heap.size=k:=by simpa [Value.ownBlock] using hk
    subst this
    exact hfresh
  · have h2:=World.ownsRow_lit (base:=base) (e:=e) (size:=d.sz) W inner.toArray xs.length hbase (by simpa [maxLen] using hm) (by simpa using hrep.1)
    simpa using h2
  · refine hrep.imp_ (fun p c hp=>d.M_mono (fun k hk=>⟨hok k hk.1,fun he=>?_⟩) (M_below (d.M_bound hp) (below_alloc (Below.refl _ _) _)))
    have h3:k=W.heap.size:=by simpa [Value.ownBlock] using he
    have:=hk.2.2.1
    omega
theorem R_append_rows_step (d:Kd α) {Rr:α→List Value→Prop} {w0 W:World} (base:Nat) (hw:Region.wanted o (yielded ops a.tmps)=true) (s x:Operand) (t e:TypeId) (z:Value) (bytes:Nat)
    (ho:o.op=.call { callee:=.builtin .append,args:=#[s,x],argTypes:=#[t,t] })
    (ht:P.underlying t=some (.slice e)) (hinfo:(P.info? e).map (fun i=>(i.zero,i.size,i.bytes))=some (some z,d.sz,bytes)) (hz:z.cells.size=d.sz) (hs0:0 < d.sz) (hb0:0 < bytes)
    (v:Value) (xs ys:List α) (A:Option Addr) (m c:Nat) (ok okp:Nat→Prop) (hs:a.eval s=v) (hx:a.eval x=.slice A m c)
    (HO:d.R e W base ok v xs) (HR:ReadsRow Rr d.sz W A m ys) (hKM:∀ x cs,Rr x cs→d.M W base okp x cs) (hokp:∀ k,okp k→ok k∧some k≠v.ownBlock) (hfresh:∀ k,W.heap.size≤k→ok k)
    (HB:Below base w0 W) (hbase:base≤W.heap.size) (hl:(xs.length + m) * bytes≤140737488355328)
    (h:∀ v1 w1,d.R e w1 base ok v1 (xs ++ ys)→Below base w0 w1→W.grownBy w1 v.ownBlock→(v1.ownBlock=v.ownBlock∨∃ b,v1.ownBlock=some b∧W.heap.size≤b)→Kc (a.put o.dst v1) w1) :
    if Region.wanted o (yielded ops a.tmps)=true then Oper.wp P o a W Kc Q else Kc (a.put o.dst undef) W:=by
  obtain ⟨i0,hi,hzz⟩:=Option.map_eq_some_iff.1 hinfo
  simp only [Prod.mk.injEq] at hzz
  obtain ⟨hz0,hz1,hz2⟩:=hzz
  have hm:ys.length=m:=HR.1
  have hlen:xs.length + m≤140737488355328:=Nat.le_trans (Nat.le_mul_of_pos_right _ hb0) hl
  obtain ⟨hok,inner,hown,hr⟩:=HO
  have hrun:∃ v1 w1,(Builtin.append_ #[t,t] o.type #[v,.slice A m c]).run P W=.ok v1 w1∧d.R e w1 base ok v1 (xs ++ ys)∧W.grownBy w1 v.ownBlock∧(v1.ownBlock=v.ownBlock∨∃ b,v1.ownBlock=some b∧W.heap.size≤b):=by
    rcases A with _|ad
    · have h0:m=0:=by
        rcases Nat.eq_zero_or_pos m with h0|h0
        · exact h0
        · obtain ⟨ad,h,_⟩:=HR.2.2 h0
          cases h
      subst h0
      obtain rfl:ys=[]:=List.eq_nil_of_length_eq_zero hm
      refine ⟨v,W,?_,by rw [List.append_nil]; exact ⟨hok,inner,hown,hr⟩,World.grownBy.refl W _,.inl rfl⟩
      rcases hown.2 with ⟨rfl,hn⟩|⟨g,cap,cur,rfl,_,_,hnc,_⟩
      · simp [Builtin.append_,run_underlying ht,sizeOf,typeInfo,hi,Builtin.lenOf,Builtin.firstCells]
      · simp [Builtin.append_,run_underlying ht,sizeOf,typeInfo,hi,Builtin.lenOf,Builtin.firstCells,hnc,storeCells]
    · obtain ⟨news,hnr,hnc⟩:=ReadsRow.inner_ HR
      have hnM:Reps (d.M W base okp) d.sz ys news:=hnr.imp_ (fun p c hp=>hKM p c hp)
      have hone:∀ u∈news,u.oneCell'=true:=by
        intro u hu
        obtain ⟨q,hq,rfl⟩:=List.mem_iff_getElem.1 hu
        have hql:q / d.sz < ys.length:=by
          rw [Nat.div_lt_iff_lt_mul hs0]
          rw [← hnM.1]
          exact hq
        have hc:=hnM.2 (q / d.sz) _ (List.getElem?_eq_getElem hql)
        refine d.K_one (d.K_of_M hc) _ ?_
        rw [List.mem_iff_getElem?]
        refine ⟨q % d.sz,?_⟩
        rw [List.getElem?_take,if_pos (Nat.mod_lt _ hs0),List.getElem?_drop,Nat.mul_comm,Nat.div_add_mod,List.getElem?_eq_getElem hq]
      obtain ⟨v1,w1,hrun,h2,hg,_,hat⟩:=run_append_own_at (P:=P) W base t o.type e i0 z d.sz bytes ht hi hz0 hz1 hz2 hz hs0 v xs.length inner hown ad m c news (by rw [hnM.1,hm]) hnc hone (by simp only [maxLen]; omega) hl hbase
      have hat':v1.ownBlock=v.ownBlock∨∃ b,v1.ownBlock=some b∧W.heap.size≤b:=by
        rcases hat with hat|hat
        · exact .inl hat
        · exact .inr ⟨_,hat,Nat.le_refl _⟩
      have hne:∀ k,some k≠v.ownBlock→k < W.heap.size→some k≠v1.ownBlock:=by
        intro k hk hlt
        rcases hat' with hat|⟨b,hb,hle⟩
        · rw [hat]; exact hk
        · rw [hb]
          intro he
          injection he with he
          omega
      have step:∀ {q:α} {c:List Value} {o:Nat→Prop},d.M W base o q c→(∀ k,o k→ok k∧some k≠v.ownBlock)→d.M w1 base (fun k=>ok k∧some k≠v1.ownBlock) q c:=by
        intro q c o hq ho
        have h1:=d.M_move (w1:=w1) (fun k hk=>hg.block k hk.2.2.1 (ho k hk.1).2) (d.M_bound hq)
        exact d.M_mono (fun k hk=>⟨(ho k hk.1).1,hne k (ho k hk.1).2 hk.2.2.1⟩) h1
      refine ⟨v1,w1,hrun,⟨fun k hk=>?_,inner ++ news,by rw [List.length_append,hm]; exact h2,reps_append (hr.imp_ (fun _ _ hq=>step hq (fun _ hk=>hk))) (hnM.imp_ (fun _ _ hq=>step hq hokp))⟩,hg,hat'⟩
      rcases hat' with hat|⟨b,hb,hle⟩
      · exact hok k (hat ▸ hk)
      · rw [hb] at hk
        injection hk with hk
        exact hfresh k (by omega)
  obtain ⟨v1,w1,hr1,h1,hg,hat⟩:=hrun
  rw [if_pos hw]
  unfold Oper.wp execOp
  simp only [ho,resolve,invoke,builtin,Sem.run_bind,Sem.run_pure,Result.andThen_ok,List.map_toArray,List.map_cons,List.map_nil,hs,hx,hr1]
  exact h v1 w1 h1 (HB.grown hg hbase (own_base hown)) hg hat
end Kd
end
inductive Vals (P:Program) (tmps:Array Value) (w:World):List ResultVar→List Value→Prop where
  | nil:Vals P tmps w [] []
  | tmp {u:Tmp} {rs:List ResultVar} {vs:List Value} (h:Vals P tmps w rs vs):Vals P tmps w (.tmp u :: rs) (tmps.getD u undef :: vs)
  | cell {p:Tmp} {ty:TypeId} {rs:List ResultVar} {vs:List Value} (g:Nat) (t:TypeId) (cs:Array Value) (fr:Nat × Nat) (d:TypeDesc)
      (hp:tmps.getD p undef=.pointer (some ⟨g,0,none⟩)) (hg:w.heap[g]?=some (.cells cs t fr))
      (hu:P.underlying ty=some d) (hd:(match d with|.struct _|.array _ _=>true|_=>false)=true) (hi:(P.info? ty).map (·.size)=some cs.size)
      (h:Vals P tmps w rs vs):Vals P tmps w (.cell p ty :: rs) (.agg cs :: vs)
section
variable {P:Program} {tmps:Array Value} {w:World}
theorem vals_run {rs:List ResultVar} {vs:List Value} (hv:Vals P tmps w rs vs) (f:ResultVar→Sem Value) (hf:∀ u,f (.tmp u)=pure (tmps.getD u undef)) (hc:∀ a t,f (.cell a t)=(do loadVar t (← asAddr (tmps.getD a undef)))) :
    (rs.mapM f).run P w=.ok vs w:=by
  induction hv with
  | nil=>simp
  | tmp h ih=>simp [List.mapM_cons,hf,ih]
  | cell g t cs fr d hp hg hu hd hi h ih =>
    rw [List.mapM_cons,hc,hp]
    simp [asAddr,run_loadVar_row w g t _ cs fr d hg hu hd hi,ih]
theorem results_list {fn:Func} {rs:List ResultVar} {vs:List Value} (h:fn.results=rs.toArray) (hl:vs.length≠1) (hv:Vals P tmps w rs vs):(results fn tmps).run P w=.ok (.tuple vs.toArray) w:=by
  unfold results
  rw [h,List.mapM_toArray]
  simp only [Sem.run_bind,Sem.run_map]
  rw [vals_run hv]
  · simp [hl]
  · intro u
    rfl
  · intro a t
    rfl
end
namespace Kd
section
variable {P:Program} {α:Type}
end
section
variable {P:Program} {ops:Array Oper} {rest:List Oper} {o:Oper} {a:Act} {Q:Exit→Act→World→Prop} {Kc:Act→World→Prop} {α:Type}
end
end Kd
end Go.Proofs.YtgfknljhogfeaaaW.PrintWords
end

section
namespace Go.Proofs.YtgfknljhogfeaaaW.PrintLast
section
variable {P:Program} {ops:Array Oper} {Q:Exit→Act→World→Prop} {md:Region.Mode} {S:World→Prop} {ds:List Nat}
def Region.reachB (md:Region.Mode) (ops:Array Oper) (i:Nat):Nat→Nat→Bool
  | 0,_=>false
  | fuel + 1,d=>match ops[d]? with
    | some o=>o.after.any fun e=>Region.binds md e && (e.on == i || Region.reachB md ops i fuel e.on)
    | none=>false
def Region.closedB (md:Region.Mode) (ops:Array Oper) (listed:Array Bool):Bool :=
  (List.range ops.size).all fun j=>!listed.getD j false || match ops[j]? with
    | some o=>o.after.all fun e=>!Region.binds md e || listed.getD e.on false
    | none=>true
def Region.lastB (md:Region.Mode) (ops:Array Oper) (listed:Array Bool) (ds:List Nat) (i:Nat):Bool :=
  ds.all fun d=>listed.getD d true || Region.reachB md ops i ops.size d
def ListedClosed (md:Region.Mode) (ops:Array Oper) (listed:Array Bool):Prop :=
  ∀ j oj,ops[j]?=some oj→listed.getD j false=true→∀ e∈oj.after,Region.binds md e=true→listed.getD e.on false=true
theorem Region.closedB_spec {listed:Array Bool} (h:Region.closedB md ops listed=true):ListedClosed md ops listed:=by
  intro j oj hj hl e he hb
  have hlt:j < ops.size:=(Array.getElem?_eq_some_iff.1 hj).1
  have h1:=List.all_eq_true.1 h j (List.mem_range.2 hlt)
  simp only [hl,hj,Bool.not_true,Bool.false_or] at h1
  have h2:=Array.all_eq_true_iff_forall_mem.1 h1 e he
  simpa [hb] using h2
theorem ListedClosed.set {listed:Array Bool} {i:Nat} (h:ListedClosed md ops listed) (hi:i∈Region.ready md ops listed):ListedClosed md ops (listed.setIfInBounds i true):=by
  obtain ⟨_,oi,hoi,hall⟩:=mem_ready.1 hi
  intro j oj hj hl e he hb
  by_cases hij:i=j
  · subst hij
    have:oj=oi:=Option.some.inj (hj.symm.trans hoi)
    subst this
    exact getD_set_true (hall e he hb)
  · rw [getD_set_ne false hij] at hl
    exact getD_set_true (h j oj hj hl e he hb)
theorem Region.reach_listed {listed:Array Bool} {i:Nat} (hc:ListedClosed md ops listed):∀ (fuel d:Nat),Region.reachB md ops i fuel d=true→listed.getD d false=true→listed.getD i false=true
  | 0,_,h,_=>by simp [Region.reachB] at h
  | fuel + 1,d,h,hl=>by
    unfold Region.reachB at h
    cases ho:ops[d]? with
    | none=>rw [ho] at h; simp at h
    | some o =>
      rw [ho] at h
      obtain ⟨e,he,h1⟩:=Array.any_eq_true'.1 h
      simp only [Bool.and_eq_true,Bool.or_eq_true,beq_iff_eq] at h1
      have hle:=hc d o ho hl e he h1.1
      rcases h1.2 with h2|h2
      · rw [← h2]; exact hle
      · exact Region.reach_listed hc fuel e.on h2 hle
theorem Region.reach_not_ready {listed:Array Bool} {i d fuel:Nat} (hc:ListedClosed md ops listed) (hr:Region.reachB md ops i fuel d=true) (hun:listed.getD i true=false):d ∉ Region.ready md ops listed:=by
  intro hd
  obtain ⟨_,o,ho,hall⟩:=mem_ready.1 hd
  have hi:listed.getD i false=true:=by
    cases fuel with
    | zero=>simp [Region.reachB] at hr
    | succ n =>
      unfold Region.reachB at hr
      rw [ho] at hr
      obtain ⟨e,he,h1⟩:=Array.any_eq_true'.1 hr
      simp only [Bool.and_eq_true,Bool.or_eq_true,beq_iff_eq] at h1
      have hle:=hall e he h1.1
      rcases h1.2 with h2|h2
      · rw [← h2]; exact hle
      · exact Region.reach_listed hc n e.on h2 hle
  rcases Nat.lt_or_ge i listed.size with h'|h'
  · simp [h'] at hun hi
    rw [hun] at hi
    cases hi
  · simp [Array.getElem?_eq_none h'] at hun
def wpAnyLast (P:Program) (md:Region.Mode) (ops:Array Oper) (Q:Exit→Act→World→Prop) (S:World→Prop) (ds:List Nat):Nat→Array Bool→Act→World→Prop
  | 0,listed,a,w=>Region.ready md ops listed=[]∧Q .normal a w
  | fuel + 1,listed,a,w =>
    (Region.ready md ops listed=[]→Q .normal a w) ∧
    ∀ i∈Region.ready md ops listed,wpOp P ops Q i (fun a' w'=>(i ∉ ds→S w→S w')∧wpAnyLast P md ops Q S ds fuel (listed.setIfInBounds i true) a' w') a w
theorem wpAny_of_last:∀ (fuel:Nat) (listed:Array Bool) (a:Act) (w:World),wpAnyLast P md ops Q S ds fuel listed a w→wpAny P md ops Q fuel listed a w
  | 0,_,_,_,h=>h
  | fuel + 1,_,_,_,h=>⟨h.1,fun i hi=>wpOp_mono (fun a' w' h'=>wpAny_of_last fuel _ a' w' h'.2) (h.2 i hi)⟩
theorem wpAnyLast_first {i:Nat} {oi:Oper} {v:Value} (hi:ops[i]?=some oi) (hsel:∀ (j:Nat) (o:Oper) cs b,ops[j]?=some o→o.op≠.select cs b)
    (hQ:∀ c a w,Q (.panic c) (a.put oi.dst v) w→Q (.panic c) a w) (n:Nat) :
    ∀ (fuel:Nat) (listed:Array Bool) (a:Act) (w:World),
      (∀ j oj,ops[j]?=some oj→j≠i→listed.getD j true=false→(∀ e∈oj.after,Region.binds md e=true→e.on≠i)→oi.apart ops oj=true) →
      ListedClosed md ops listed→(∀ d∈ds,listed.getD d true=false→Region.reachB md ops i n d=true) →
      i∈Region.ready md ops listed→YieldsIf P ops S oi v a→S w →
      wpAnyLast P md ops Q S ds fuel (listed.setIfInBounds i true) (a.put oi.dst v) w→wpAnyLast P md ops Q S ds (fuel + 1) listed a w:=by
  intro fuel
  induction fuel with
  | zero =>
    intro listed a w _ _ _ hr hy hS H
    refine ⟨fun h=>(by rw [h] at hr; cases hr),fun j hj=>?_⟩
    by_cases hji:j=i
    · subst hji; exact hy.wpOp hi hS ⟨fun _ h=>h,H⟩
    · have:=ready_mono hj hji
      rw [H.1] at this
      cases this
  | succ fuel ih =>
    intro listed a w hfree hc hd hr hy hS H
    refine ⟨fun h=>(by rw [h] at hr; cases hr),fun j hj=>?_⟩
    by_cases hji:j=i
    · subst hji; exact hy.wpOp hi hS ⟨fun _ h=>h,H⟩
    · have h1:=H.2 j (ready_mono hj hji)
      obtain ⟨hjun,oj,hoj,hall⟩:=mem_ready.1 hj
      have hiun:=(mem_ready.1 hr).1
      have hnot:∀ e∈oj.after,Region.binds md e=true→e.on≠i:=fun e he hb heq=>by
        have h1:=hall e he hb
        rw [heq] at h1
        rcases Nat.lt_or_ge i listed.size with h'|h'
        · simp [h'] at hiun h1; rw [hiun] at h1; cases h1
        · simp [Array.getElem?_eq_none h'] at h1
      have hjd:j ∉ ds:=fun hm=>Region.reach_not_ready hc (hd j hm hjun) hiun hj
      have h2:=wpOp_putIf hoj (hfree j oj hoj hji hjun hnot) (fun cs b=>hsel i oi cs b hi) (fun cs b=>hsel j oj cs b hoj) hQ hy h1
      have hfree':∀ k ok,ops[k]?=some ok→k≠i→(listed.setIfInBounds j true).getD k true=false →
          (∀ e∈ok.after,Region.binds md e=true→e.on≠i)→oi.apart ops ok=true:=fun k ok hk hki hun hno=>by
        refine hfree k ok hk hki ?_ hno
        by_cases hjk:j=k
        · subst hjk; exact hjun
        · rw [getD_set_ne true hjk] at hun; exact hun
      have hd':∀ d∈ds,(listed.setIfInBounds j true).getD d true=false→Region.reachB md ops i n d=true:=fun d hm hun=>by
        refine hd d hm ?_
        by_cases hjk:j=d
        · subst hjk; exact hjun
        · rw [getD_set_ne true hjk] at hun; exact hun
      refine wpOp_mono (fun a' w' h3=>⟨h3.2.1,ih (listed.setIfInBounds j true) a' w' hfree' (hc.set hj) hd' (ready_mono hr (Ne.symm hji)) h3.1 (h3.2.1 hjd hS) ?_⟩) h2
      rw [Array.setIfInBounds_comm _ _ hji]
      exact h3.2.2
theorem wpAnyLast_any {i:Nat} {oi:Oper} {v:Value} (hi:ops[i]?=some oi) (hsel:∀ (j:Nat) (o:Oper) cs b,ops[j]?=some o→o.op≠.select cs b)
    (hQ:∀ c a w,Q (.panic c) (a.put oi.dst v) w→Q (.panic c) a w) :
    ∀ (fuel:Nat) (listed:Array Bool) (a:Act) (w:World),
      (∀ j oj,ops[j]?=some oj→j≠i→listed.getD j true=false→(∀ e∈oj.after,Region.binds md e=true→e.on≠i)→oi.apart ops oj=true) →
      i∈Region.ready md ops listed→Yields P ops oi v a →
      wpAnyLast P md ops Q S ds fuel (listed.setIfInBounds i true) (a.put oi.dst v) w→wpAnyLast P md ops Q S ds (fuel + 1) listed a w:=by
  intro fuel
  induction fuel with
  | zero =>
    intro listed a w _ hr hy H
    refine ⟨fun h=>(by rw [h] at hr; cases hr),fun j hj=>?_⟩
    by_cases hji:j=i
    · subst hji; exact (hy.yieldsIf (S:=fun _=>True)).wpOp hi trivial ⟨fun _ h=>h,H⟩
    · have:=ready_mono hj hji
      rw [H.1] at this
      cases this
  | succ fuel ih =>
    intro listed a w hfree hr hy H
    refine ⟨fun h=>(by rw [h] at hr; cases hr),fun j hj=>?_⟩
    by_cases hji:j=i
    · subst hji; exact (hy.yieldsIf (S:=fun _=>True)).wpOp hi trivial ⟨fun _ h=>h,H⟩
    · have h1:=H.2 j (ready_mono hj hji)
      obtain ⟨hjun,oj,hoj,hall⟩:=mem_ready.1 hj
      have hiun:=(mem_ready.1 hr).1
      have hnot:∀ e∈oj.after,Region.binds md e=true→e.on≠i:=fun e he hb heq=>by
        have h1:=hall e he hb
        rw [heq] at h1
        rcases Nat.lt_or_ge i listed.size with h'|h'
        · simp [h'] at hiun h1; rw [hiun] at h1; cases h1
        · simp [Array.getElem?_eq_none h'] at h1
      have h2:=wpOp_put hoj (hfree j oj hoj hji hjun hnot) (fun cs b=>hsel i oi cs b hi) (fun cs b=>hsel j oj cs b hoj) hQ hy h1
      have hfree':∀ k ok,ops[k]?=some ok→k≠i→(listed.setIfInBounds j true).getD k true=false →
          (∀ e∈ok.after,Region.binds md e=true→e.on≠i)→oi.apart ops ok=true:=fun k ok hk hki hun hno=>by
        refine hfree k ok hk hki ?_ hno
        by_cases hjk:j=k
        · subst hjk; exact hjun
        · rw [getD_set_ne true hjk] at hun; exact hun
      refine wpOp_mono (fun a' w' h3=>⟨h3.2.1,ih (listed.setIfInBounds j true) a' w' hfree' (ready_mono hr (Ne.symm hji)) h3.1 ?_⟩) h2
      rw [Array.setIfInBounds_comm _ _ hji]
      exact h3.2.2
theorem wpAnyLast_take {i:Nat} {oi:Oper} {v:Value} {fuel:Nat} {listed:Array Bool} {a:Act} {w:World} (hi:ops[i]?=some oi)
    (hs:Region.noSelect ops=true) (hf:Region.free md ops listed i=true) (hr:(Region.ready md ops listed).contains i=true)
    (hc:Region.closedB md ops listed=true) (hl:Region.lastB md ops listed ds i=true)
    (hQ:∀ c a w,Q (.panic c) (a.put oi.dst v) w→Q (.panic c) a w) (hy:YieldsIf P ops S oi v a) (hS:S w)
    (h:wpAnyLast P md ops Q S ds fuel (listed.setIfInBounds i true) (a.put oi.dst v) w):wpAnyLast P md ops Q S ds (fuel + 1) listed a w :=
  wpAnyLast_first hi (Region.noSelect_spec hs) hQ ops.size fuel listed a w (Region.free_spec hi hf) (Region.closedB_spec hc)
    (fun d hm hun=>by have:=List.all_eq_true.1 hl d hm; rw [hun] at this; simpa using this) (by simpa using hr) hy hS h
theorem wpAnyLast_all {rs:List Nat} {fuel:Nat} {listed:Array Bool} {a:Act} {w:World} (hr:Region.ready md ops listed=rs) (hne:rs≠[])
    (h:∀ i∈rs,wpOp P ops Q i (fun a' w'=>(i ∉ ds→S w→S w')∧wpAnyLast P md ops Q S ds fuel (listed.setIfInBounds i true) a' w') a w):wpAnyLast P md ops Q S ds (fuel + 1) listed a w :=
  ⟨fun h0=>absurd (hr ▸ h0) hne,hr ▸ h⟩
theorem wpAnyLast_done {listed:Array Bool} {a:Act} {w:World} (hr:Region.ready md ops listed=[]) (h:Q .normal a w) :
    ∀ fuel,wpAnyLast P md ops Q S ds fuel listed a w
  | 0=>⟨hr,h⟩
  | _ + 1=>⟨fun _=>h,by rw [hr]; simp⟩
theorem wp_region_last {id:Nat} {a:Act} {w:World} (hm:P.follows .mixedOrders=true)
    (h:wpAnyLast P .any ops Q S ds ops.size (Array.replicate ops.size false) a { w with drawn:=w.drawn + 1 }):(Code.region id ops true).wp P Q a w :=
  wp_region_any hm (wpAny_of_last _ _ _ _ h)
end
section
variable {P:Program} {ops:Array Oper} {Q:Exit→Act→World→Prop} {md:Region.Mode} {S:World→Prop} {ds:List Nat}
def AllReadyL (P:Program) (md:Region.Mode) (ops:Array Oper) (Q:Exit→Act→World→Prop) (S:World→Prop) (ds:List Nat) (fuel:Nat) (listed:Array Bool) (a:Act) (w:World) (rs:List Nat):Prop :=
  ∀ i∈rs,wpOp P ops Q i (fun a' w'=>(i ∉ ds→S w→S w')∧wpAnyLast P md ops Q S ds fuel (listed.setIfInBounds i true) a' w') a w
theorem AllReadyL.nil {fuel:Nat} {listed:Array Bool} {a:Act} {w:World}:AllReadyL P md ops Q S ds fuel listed a w []:=fun _ h=>by cases h
theorem AllReadyL.cons {fuel:Nat} {listed:Array Bool} {a:Act} {w:World} {i:Nat} {o:Oper} {rs:List Nat} (ho:ops[i]?=some o) (hd:i ∉ ds)
    (h:∀ K':Act→World→Prop,Shut (∀ a w,S w→(S w→wpAnyLast P md ops Q S ds fuel (listed.setIfInBounds i true) a w)→K' a w)→if Region.wanted o (yielded ops a.tmps)=true then Oper.wp P o a w K' Q else K' (a.put o.dst undef) w)
    (hs:AllReadyL P md ops Q S ds fuel listed a w rs):AllReadyL P md ops Q S ds fuel listed a w (i :: rs):=fun j hj=>by
  rcases List.mem_cons.1 hj with rfl|hj
  · exact wpOp_step ho (fun K' hK=>h K' (fun a w hS hW=>hK a w ⟨fun _ _=>hS,hW hS⟩))
  · exact hs j hj
theorem AllReadyL.cons_last {fuel:Nat} {listed:Array Bool} {a:Act} {w:World} {i:Nat} {o:Oper} {rs:List Nat} (ho:ops[i]?=some o) (hd:i∈ds)
    (h:∀ K':Act→World→Prop,Shut (∀ a w,wpAnyLast P md ops Q S ds fuel (listed.setIfInBounds i true) a w→K' a w)→if Region.wanted o (yielded ops a.tmps)=true then Oper.wp P o a w K' Q else K' (a.put o.dst undef) w)
    (hs:AllReadyL P md ops Q S ds fuel listed a w rs):AllReadyL P md ops Q S ds fuel listed a w (i :: rs):=fun j hj=>by
  rcases List.mem_cons.1 hj with rfl|hj
  · exact wpOp_step ho (fun K' hK=>h K' (fun a w hW=>hK a w ⟨fun hn=>absurd hd hn,hW⟩))
  · exact hs j hj
theorem wpAnyLast_ready {rs:List Nat} {fuel:Nat} {listed:Array Bool} {a:Act} {w:World} (hr:Region.ready md ops listed=rs) (hne:rs≠[])
    (h:AllReadyL P md ops Q S ds fuel listed a w rs):wpAnyLast P md ops Q S ds (fuel + 1) listed a w:=wpAnyLast_all hr hne h
theorem start_ {id n:Nat} {a:Act} {w:World} (l:Array Bool) (hm:P.follows .mixedOrders=true) (hn:ops.size=n) (hl:Array.replicate n false=l) (hS:S w.drew)
    (h:S w.drew→wpAnyLast P .any ops Q S ds n l a w.drew):(Code.region id ops true).wp P Q a w:=by
  subst hn
  subst hl
  exact wp_region_last hm (h hS)
def takeB (md:Region.Mode) (ops:Array Oper) (ds:List Nat) (l l':Array Bool) (i:Nat):Bool :=
  Region.noSelect ops && Region.free md ops l i && (Region.ready md ops l).contains i && Region.closedB md ops l && Region.lastB md ops l ds i && (l.setIfInBounds i true == l')
theorem take_ {i:Nat} {N:Option Tmp} {oi:Oper} {v:Value} {fuel:Nat} {l:Array Bool} {a:Act} {w:World} (l':Array Bool) (hi:ops[i]?=some oi) (hN:oi.dst=N) (hc:takeB md ops ds l l' i=true)
    (hQ:∀ c a w,Q (.panic c) (a.put oi.dst v) w→Q (.panic c) a w) (hy:YieldsIf P ops S oi v a) (hS:S w) {a':Act} (ha:a.put N v=a')
    (h:wpAnyLast P md ops Q S ds fuel l' a' w):wpAnyLast P md ops Q S ds (fuel + 1) l a w:=by
  subst ha
  subst hN
  simp only [takeB,Bool.and_eq_true,beq_iff_eq] at hc
  obtain ⟨⟨⟨⟨⟨h1,h2⟩,h3⟩,h4⟩,h5⟩,h6⟩:=hc
  subst h6
  exact wpAnyLast_take hi h1 h2 h3 h4 h5 hQ hy hS h
def anyB (md:Region.Mode) (ops:Array Oper) (l l':Array Bool) (i:Nat):Bool :=
  Region.noSelect ops && Region.free md ops l i && (Region.ready md ops l).contains i && (l.setIfInBounds i true == l')
theorem pure_ {i:Nat} {N:Option Tmp} {oi:Oper} {v:Value} {fuel:Nat} {l:Array Bool} {a:Act} {w:World} (l':Array Bool) (hi:ops[i]?=some oi) (hN:oi.dst=N) (hc:anyB md ops l l' i=true)
    (hQ:∀ c a w,Q (.panic c) (a.put oi.dst v) w→Q (.panic c) a w) (hy:Yields P ops oi v a) {a':Act} (ha:a.put N v=a')
    (h:wpAnyLast P md ops Q S ds fuel l' a' w):wpAnyLast P md ops Q S ds (fuel + 1) l a w:=by
  subst ha
  subst hN
  simp only [anyB,Bool.and_eq_true,beq_iff_eq] at hc
  obtain ⟨⟨⟨h1,h2⟩,h3⟩,h6⟩:=hc
  subst h6
  exact wpAnyLast_any hi (Region.noSelect_spec h1) hQ fuel l a w (Region.free_spec hi h2) (by simpa using h3) hy h
def readyB (md:Region.Mode) (ops:Array Oper) (l l':Array Bool) (i:Nat):Bool:=(Region.ready md ops l == [i]) && (l.setIfInBounds i true == l')
theorem one_ {i:Nat} {N:Option Tmp} {oi:Oper} {fuel:Nat} {l:Array Bool} {a:Act} {w:World} (l':Array Bool) (hi:ops[i]?=some oi) (hN:oi.dst=N) (hc:readyB md ops l l' i=true) (hd:i ∉ ds)
    (h:∀ K:Act→World→Prop,Shut (∀ a' w',S w'→(S w'→wpAnyLast P md ops Q S ds fuel l' a' w')→K a' w')→if Region.wanted oi (yielded ops a.tmps)=true then Oper.wp P oi a w K Q else K (a.put N undef) w) :
    wpAnyLast P md ops Q S ds (fuel + 1) l a w:=by
  subst hN
  simp only [readyB,Bool.and_eq_true,beq_iff_eq] at hc
  obtain ⟨h1,h2⟩:=hc
  subst h2
  exact wpAnyLast_ready h1 (by simp) (AllReadyL.cons hi hd (fun K hK=>h K hK) AllReadyL.nil)
theorem last_ {i:Nat} {N:Option Tmp} {oi:Oper} {fuel:Nat} {l:Array Bool} {a:Act} {w:World} (l':Array Bool) (hi:ops[i]?=some oi) (hN:oi.dst=N) (hc:readyB md ops l l' i=true) (hd:i∈ds)
    (h:∀ K:Act→World→Prop,Shut (∀ a' w',wpAnyLast P md ops Q S ds fuel l' a' w'→K a' w')→if Region.wanted oi (yielded ops a.tmps)=true then Oper.wp P oi a w K Q else K (a.put N undef) w) :
    wpAnyLast P md ops Q S ds (fuel + 1) l a w:=by
  subst hN
  simp only [readyB,Bool.and_eq_true,beq_iff_eq] at hc
  obtain ⟨h1,h2⟩:=hc
  subst h2
  exact wpAnyLast_ready h1 (by simp) (AllReadyL.cons_last hi hd (fun K hK=>h K hK) AllReadyL.nil)
theorem done_ {l:Array Bool} {a:Act} {w:World} {n:Nat} (hr:(Region.ready md ops l == [])=true) (h:Q .normal a w):wpAnyLast P md ops Q S ds n l a w:=wpAnyLast_done (by simpa using hr) h n
theorem two_ {i j:Nat} {Ni Nj:Option Tmp} {oi oj:Oper} {fuel:Nat} {l:Array Bool} {a:Act} {w:World} (li lj:Array Bool) (hi:ops[i]?=some oi) (hj:ops[j]?=some oj) (hNi:oi.dst=Ni) (hNj:oj.dst=Nj)
    (hc:(Region.ready md ops l == [i,j] && l.setIfInBounds i true == li && l.setIfInBounds j true == lj)=true) (hdi:i ∉ ds) (hdj:j ∉ ds)
    (h1:∀ K:Act→World→Prop,Shut (∀ a' w',S w'→(S w'→wpAnyLast P md ops Q S ds fuel li a' w')→K a' w')→if Region.wanted oi (yielded ops a.tmps)=true then Oper.wp P oi a w K Q else K (a.put Ni undef) w)
    (h2:∀ K:Act→World→Prop,Shut (∀ a' w',S w'→(S w'→wpAnyLast P md ops Q S ds fuel lj a' w')→K a' w')→if Region.wanted oj (yielded ops a.tmps)=true then Oper.wp P oj a w K Q else K (a.put Nj undef) w) :
    wpAnyLast P md ops Q S ds (fuel + 1) l a w:=by
  subst hNi
  subst hNj
  simp only [Bool.and_eq_true,beq_iff_eq] at hc
  obtain ⟨⟨h3,h4⟩,h5⟩:=hc
  subst h4
  subst h5
  exact wpAnyLast_ready h3 (by simp) (AllReadyL.cons hi hdi (fun K hK=>h1 K hK) (AllReadyL.cons hj hdj (fun K hK=>h2 K hK) AllReadyL.nil))
theorem three_ {i j k:Nat} {Ni Nj Nk:Option Tmp} {oi oj ok:Oper} {fuel:Nat} {l:Array Bool} {a:Act} {w:World} (li lj lk:Array Bool) (hi:ops[i]?=some oi) (hj:ops[j]?=some oj) (hk:ops[k]?=some ok) (hNi:oi.dst=Ni) (hNj:oj.dst=Nj) (hNk:ok.dst=Nk)
    (hc:(Region.ready md ops l == [i,j,k] && l.setIfInBounds i true == li && l.setIfInBounds j true == lj && l.setIfInBounds k true == lk)=true) (hdi:i ∉ ds) (hdj:j ∉ ds) (hdk:k ∉ ds)
    (h1:∀ K:Act→World→Prop,Shut (∀ a' w',S w'→(S w'→wpAnyLast P md ops Q S ds fuel li a' w')→K a' w')→if Region.wanted oi (yielded ops a.tmps)=true then Oper.wp P oi a w K Q else K (a.put Ni undef) w)
    (h2:∀ K:Act→World→Prop,Shut (∀ a' w',S w'→(S w'→wpAnyLast P md ops Q S ds fuel lj a' w')→K a' w')→if Region.wanted oj (yielded ops a.tmps)=true then Oper.wp P oj a w K Q else K (a.put Nj undef) w)
    (h3:∀ K:Act→World→Prop,Shut (∀ a' w',S w'→(S w'→wpAnyLast P md ops Q S ds fuel lk a' w')→K a' w')→if Region.wanted ok (yielded ops a.tmps)=true then Oper.wp P ok a w K Q else K (a.put Nk undef) w) :
    wpAnyLast P md ops Q S ds (fuel + 1) l a w:=by
  subst hNi
  subst hNj
  subst hNk
  simp only [Bool.and_eq_true,beq_iff_eq] at hc
  obtain ⟨⟨⟨h4,h5⟩,h6⟩,h7⟩:=hc
  subst h5
  subst h6
  subst h7
  exact wpAnyLast_ready h4 (by simp) (AllReadyL.cons hi hdi (fun K hK=>h1 K hK) (AllReadyL.cons hj hdj (fun K hK=>h2 K hK) (AllReadyL.cons hk hdk (fun K hK=>h3 K hK) AllReadyL.nil)))
def putAll:Act→List (Tmp × Value)→Act
  | a,[]=>a
  | a,(n,v) :: r=>putAll (a.put (some n) v) r
theorem join_ {σ:Type} {fuel:Nat} {l:Array Bool} {a:Act} {w:World} (fuel':Nat) (l':Array Bool) (ns:σ→List (Tmp × Value)) (F:σ→World→Prop)
    (hcont:∀ s w',F s w'→wpAnyLast P md ops Q S ds fuel' l' (putAll a (ns s)) w')
    (h:(∀ s w',F s w'→wpAnyLast P md ops Q S ds fuel' l' (putAll a (ns s)) w')→wpAnyLast P md ops Q S ds fuel l a w):wpAnyLast P md ops Q S ds fuel l a w:=h hcont
theorem norm_ {fuel:Nat} {l:Array Bool} {a a':Act} {w:World} (ha:a=a') (h:wpAnyLast P md ops Q S ds fuel l a' w):wpAnyLast P md ops Q S ds fuel l a w:=by
  subst ha
  exact h
theorem call_ {oi:Oper} {N:Option Tmp} {a:Act} {w:World} {K:Act→World→Prop} (f:FuncId) (args:Array Value) (hw:Region.wanted oi (yielded ops a.tmps)=true) (hN:oi.dst=N) (hrun:(execOp a.eval oi).run P w=.ok (.enter f args) w)
    (h:Calls P f args w fun e w'=>∃ v,e=.returned v∧K (a.put N v) w'):if Region.wanted oi (yielded ops a.tmps)=true then Oper.wp P oi a w K Q else K (a.put N undef) w:=by
  rw [if_pos hw]
  subst hN
  unfold Oper.wp
  rw [hrun,Oper.upon_enter]
  refine h.mono fun e w'' hh=>?_
  obtain ⟨v,rfl,hk⟩:=hh
  exact hk
theorem enters_ {f : FuncId} {fn : Func} (hf : P.funcs[f]? = some fn) (hname : (fn.name == "runtime.NumGoroutine") = false) (hb : fn.body.isSome = true) (args : Array Value) (w : World) : (callFunc f args).run P w = .ok (.enter f args) w := by
  have h1 : fn.name ≠ "runtime.NumGoroutine" := by simpa using hname
  obtain ⟨c,hc⟩:=Option.isSome_iff_exists.1 hb
  simp [callFunc,hf,h1,hc]
theorem goes_ {oi : Oper} {N : Option Tmp} {a : Act} {w : World} {K : Act → World → Prop} {f : FuncId} {fn : Func} {as_ : Array Operand} {ts : Array TypeId} (hf : P.funcs[f]? = some fn) (hname : (fn.name == "runtime.NumGoroutine") = false) (hb : fn.body.isSome = true) (args : Array Value)
    (hw:Region.wanted oi (yielded ops a.tmps)=true) (hN:oi.dst=N) (hop:oi.op=.call { callee:=.value (.func f),args:=as_,argTypes:=ts }) (hargs:as_.map a.eval=args)
    (h:Calls P f args w fun e w'=>∃ v,e=.returned v∧K (a.put N v) w'):if Region.wanted oi (yielded ops a.tmps)=true then Oper.wp P oi a w K Q else K (a.put N undef) w:=by
  refine call_ f args hw hN ?_ h
  have he:=enters_ hf hname hb args w
  unfold execOp
  simp [hop,resolve,Deferred.ofValue,invoke,Act.eval,hargs,he]
theorem goesL_ {rest : List Oper} {oi : Oper} {a : Act} {w : World} (N : Option Tmp) (hd : oi.dst = N) (hg : oi.guard = none) {f : FuncId} {fn : Func} {as_ : Array Operand} {ts : Array TypeId} (hf : P.funcs[f]? = some fn) (hname : (fn.name == "runtime.NumGoroutine") = false) (hb : fn.body.isSome = true) (args : Array Value)
    (hop:oi.op=.call { callee:=.value (.func f),args:=as_,argTypes:=ts }) (hargs:as_.map a.eval=args)
    (h:Calls P f args w fun e w'=>∃ v,e=.returned v∧wpList P ops Q rest (a.put N v) w'):wpList P ops Q (oi :: rest) a w:=by
  refine wpList_plain hg fun K hK=>?_
  have he:=enters_ hf hname hb args w
  have hrun:(execOp a.eval oi).run P w=.ok (.enter f args) w:=by
    unfold execOp
    simp [hop,resolve,Deferred.ofValue,invoke,Act.eval,hargs,he]
  unfold Oper.wp
  rw [hrun,Oper.upon_enter]
  refine h.mono fun e w'' hh=>?_
  obtain ⟨v,rfl,hk⟩:=hh
  subst hd
  exact hK _ _ hk
theorem value_ {oi:Oper} {N:Option Tmp} {a:Act} {w w1:World} {v:Value} {K:Act→World→Prop} (hw:Region.wanted oi (yielded ops a.tmps)=true) (hN:oi.dst=N) (hrun:(execOp a.eval oi).run P w=.ok (.value v) w1)
    (h:K (a.put N v) w1):if Region.wanted oi (yielded ops a.tmps)=true then Oper.wp P oi a w K Q else K (a.put N undef) w:=by
  rw [if_pos hw]
  subst hN
  unfold Oper.wp
  rw [hrun]
  exact h
theorem skip_ {oi:Oper} {a:Act} {w w1:World} {K:Act→World→Prop} (hw:Region.wanted oi (yielded ops a.tmps)=true) (hN:oi.dst=none) (hrun:(execOp a.eval oi).run P w=.ok .skip w1)
    (h:K a w1):if Region.wanted oi (yielded ops a.tmps)=true then Oper.wp P oi a w K Q else K (a.put none undef) w:=by
  rw [if_pos hw]
  unfold Oper.wp
  rw [hrun]
  show K (a.put oi.dst undef) w1
  rw [hN]
  exact h
theorem i64_w (n:Int):IntKind.i64.wrap n=Go.RowKit.wrap64 n:=by unfold Go.RowKit.wrap64; exact IntKind.wrap_i64 n
theorem i32_w (n:Int):IntKind.i32.wrap n=Go.RowKit.wrap32 n:=by unfold Go.RowKit.wrap32; exact IntKind.wrap_i32 n
end
end Go.Proofs.YtgfknljhogfeaaaW.PrintLast
end

section
namespace Go.Proofs.YtgfknljhogfeaaaW.PrintLast
open Go.Proofs.YtgfknljhogfeaaaW.PrintWords (Aside0)
def needsOf (md:Region.Mode) (o:Oper):List Nat:=(o.after.toList.filter (fun e=>Region.binds md e)).map (fun e=>e.on)
def clashOf (md:Region.Mode) (ops:Array Oper) (i:Nat) (oi:Oper):List Nat:=(List.range ops.size).filter fun j=>!(j == i) && match ops[j]? with
 | some oj=>!(oj.after.any (fun e=>Region.binds md e && e.on == i) || oi.apart ops oj)
 | none=>false
def rtab (md:Region.Mode) (ops:Array Oper):Bool × List (List Nat × List Nat):=(Region.noSelect ops,(List.range ops.size).map fun i=>match ops[i]? with
 | some o=>(needsOf md o,clashOf md ops i o)
 | none=>([],[]))
def readyAt (T:List (List Nat × List Nat)) (l:List Bool) (i:Nat):Bool:=!l.getD i true && match T[i]? with
 | some r=>r.1.all (fun j=>l.getD j false)
 | none=>false
def readyT (T:List (List Nat × List Nat)) (l:List Bool):List Nat:=(List.range T.length).filter (readyAt T l)
def freeT (T:List (List Nat × List Nat)) (l:List Bool) (i:Nat):Bool:=match T[i]? with
 | some r=>r.2.all (fun j=>l.getD j true)
 | none=>false
def closedT (T:List (List Nat × List Nat)) (l:List Bool):Bool:=(List.range T.length).all fun j=>!l.getD j false || match T[j]? with
 | some r=>r.1.all (fun k=>l.getD k false)
 | none=>true
def reachT (T:List (List Nat × List Nat)) (i:Nat):Nat→Nat→Bool
 | 0,_=>false
 | fuel + 1,d=>match T[d]? with
  | some r=>r.1.any fun j=>j == i || reachT T i fuel j
  | none=>false
def lastT (T:List (List Nat × List Nat)) (l:List Bool) (ds:List Nat) (i:Nat):Bool:=ds.all fun d=>l.getD d true || reachT T i T.length d
section
variable {md:Region.Mode} {ops:Array Oper} {T:Bool × List (List Nat × List Nat)} {l l' li lj lk:Array Bool} {ds:List Nat} {i j k:Nat}
theorem gd (l:Array Bool) (j:Nat) (b:Bool):l.getD j b=l.toList.getD j b:=by simp [Array.getD_eq_getD_getElem?,List.getD_eq_getElem?_getD]
theorem needs_all (o:Oper) (p:Nat→Bool):o.after.all (fun e=>!Region.binds md e || p e.on)=(needsOf md o).all p:=by
 unfold needsOf
 rw [← Array.all_toList]
 induction o.after.toList with
 | nil=>rfl
 | cons e r ih =>
  rw [List.all_cons,ih,List.filter_cons]
  cases h:Region.binds md e <;> simp
theorem needs_any (o:Oper) (p:Nat→Bool):o.after.any (fun e=>Region.binds md e && p e.on)=(needsOf md o).any p:=by
 unfold needsOf
 rw [← Array.any_toList]
 induction o.after.toList with
 | nil=>rfl
 | cons e r ih =>
  rw [List.any_cons,ih,List.filter_cons]
  cases h:Region.binds md e <;> simp
theorem rtab_length:(rtab md ops).2.length=ops.size:=by simp [rtab]
theorem rtab_some {o:Oper} (h:ops[i]?=some o):(rtab md ops).2[i]?=some (needsOf md o,clashOf md ops i o):=by
 have hi:=(Array.getElem?_eq_some_iff.1 h).1
 unfold rtab
 rw [List.getElem?_map,List.getElem?_range hi,Option.map_some,h]
theorem rtab_none (h:ops[i]?=none):(rtab md ops).2[i]?=none:=by
 have hi:ops.size≤i:=Array.getElem?_eq_none_iff.1 h
 exact List.getElem?_eq_none (by rw [rtab_length];exact hi)
theorem readyAt_eq:readyAt (rtab md ops).2 l.toList i=(!l.getD i true && ((ops[i]?).map (·.after.all fun e=>!Region.binds md e || l.getD e.on false)).getD false):=by
 unfold readyAt
 rw [gd]
 cases h:ops[i]? with
 | none=>rw [rtab_none h];rfl
 | some o =>
  rw [rtab_some h]
  simp only [Option.map_some,Option.getD_some]
  rw [← needs_all]
  simp only [gd]
theorem ready_eq:Region.ready md ops l=readyT (rtab md ops).2 l.toList:=by
 unfold Region.ready readyT
 rw [rtab_length]
 refine List.filter_congr (fun i _=>?_)
 rw [readyAt_eq]
theorem free_eq:Region.free md ops l i=freeT (rtab md ops).2 l.toList i:=by
 unfold Region.free freeT
 cases h:ops[i]? with
 | none=>rw [rtab_none h]
 | some oi =>
  rw [rtab_some h]
  simp only [clashOf]
  rw [List.all_filter]
  congr 1
  funext j
  rw [gd]
  cases hj:ops[j]? with
  | none=>cases (j == i) <;> cases (l.toList.getD j true) <;> simp
  | some oj =>
   cases (j == i) <;> cases (l.toList.getD j true) <;> cases (oj.after.any (fun e=>Region.binds md e && e.on == i) || oi.apart ops oj) <;> simp_all
theorem closed_eq:Region.closedB md ops l=closedT (rtab md ops).2 l.toList:=by
 unfold Region.closedB closedT
 rw [rtab_length]
 congr 1
 funext j
 rw [gd]
 cases h:ops[j]? with
 | none=>rw [rtab_none h]
 | some o =>
  rw [rtab_some h]
  simp only
  rw [← needs_all]
  simp only [gd]
theorem reach_eq:∀ (fuel d:Nat),Region.reachB md ops i fuel d=reachT (rtab md ops).2 i fuel d
 | 0,_=>rfl
 | fuel + 1,d=>by
  unfold Region.reachB reachT
  cases h:ops[d]? with
  | none=>rw [rtab_none h]
  | some o =>
   rw [rtab_some h]
   simp only
   rw [← needs_any]
   congr 1
   funext e
   rw [reach_eq fuel]
theorem last_eq:Region.lastB md ops l ds i=lastT (rtab md ops).2 l.toList ds i:=by
 unfold Region.lastB lastT
 rw [rtab_length]
 congr 1
 funext d
 rw [gd,reach_eq]
theorem readyAt_mem (h:readyAt T.2 l.toList i=true) (hT:rtab md ops=T):(Region.ready md ops l).contains i=true:=by
 subst hT
 rw [ready_eq]
 unfold readyT
 rw [List.contains_iff_mem,List.mem_filter,List.mem_range]
 refine ⟨?_,h⟩
 unfold readyAt at h
 rw [Bool.and_eq_true] at h
 cases hq:(rtab md ops).2[i]? with
 | none=>rw [hq] at h;simp at h
 | some r=>exact (List.getElem?_eq_some_iff.1 hq).1
theorem set_of (h:(l.toList.set i true == l'.toList)=true):(l.setIfInBounds i true == l')=true:=by
 rw [beq_iff_eq] at h ⊢
 apply Array.ext'
 rw [Array.toList_setIfInBounds]
 exact h
def anyT (T:Bool × List (List Nat × List Nat)) (l l':List Bool) (i:Nat):Bool:=T.1 && freeT T.2 l i && readyAt T.2 l i && (l.set i true == l')
theorem any_of (hT:rtab md ops=T) (h:anyT T l.toList l'.toList i=true):anyB md ops l l' i=true:=by
 simp only [anyT,Bool.and_eq_true] at h
 obtain ⟨⟨⟨h1,h2⟩,h3⟩,h4⟩:=h
 have h5:=readyAt_mem h3 hT
 have h6:=set_of h4
 subst hT
 simp only [anyB,Bool.and_eq_true]
 exact ⟨⟨⟨h1,by rw [free_eq];exact h2⟩,h5⟩,h6⟩
def takeT (T:Bool × List (List Nat × List Nat)) (ds:List Nat) (l l':List Bool) (i:Nat):Bool:=T.1 && freeT T.2 l i && readyAt T.2 l i && closedT T.2 l && lastT T.2 l ds i && (l.set i true == l')
theorem take_of (hT:rtab md ops=T) (h:takeT T ds l.toList l'.toList i=true):takeB md ops ds l l' i=true:=by
 simp only [takeT,Bool.and_eq_true] at h
 obtain ⟨⟨⟨⟨⟨h1,h2⟩,h3⟩,h4⟩,h5⟩,h6⟩:=h
 have h7:=readyAt_mem h3 hT
 have h8:=set_of h6
 subst hT
 simp only [takeB,Bool.and_eq_true]
 exact ⟨⟨⟨⟨⟨h1,by rw [free_eq];exact h2⟩,h7⟩,by rw [closed_eq];exact h4⟩,by rw [last_eq];exact h5⟩,h8⟩
theorem one_of (hT:rtab md ops=T) (h:(readyT T.2 l.toList == [i] && l.toList.set i true == l'.toList)=true):readyB md ops l l' i=true:=by
 simp only [Bool.and_eq_true] at h
 obtain ⟨h1,h2⟩:=h
 subst hT
 simp only [readyB,Bool.and_eq_true]
 exact ⟨by rw [ready_eq];exact h1,set_of h2⟩
theorem two_of (hT:rtab md ops=T) (h:(readyT T.2 l.toList == [i,j] && l.toList.set i true == li.toList && l.toList.set j true == lj.toList)=true):(Region.ready md ops l == [i,j] && l.setIfInBounds i true == li && l.setIfInBounds j true == lj)=true:=by
 simp only [Bool.and_eq_true] at h ⊢
 obtain ⟨⟨h1,h2⟩,h3⟩:=h
 subst hT
 exact ⟨⟨by rw [ready_eq];exact h1,set_of h2⟩,set_of h3⟩
theorem done_of (hT:rtab md ops=T) (h:(readyT T.2 l.toList == [])=true):(Region.ready md ops l == [])=true:=by
 subst hT
 rw [ready_eq]
 exact h
def upM (B:List Nat) (d:Nat):List Nat→Nat
 | []=>0
 | n :: r=>(2 ^ n ||| (if n < d then B.getD n 0 else 0)) ||| upM B d r
def waitsOk (T:List (List Nat × List Nat)) (B:List Nat):Bool:=(List.range T.length).all fun d=>match T[d]? with
 | some r=>(B.getD d 0 ||| upM B d r.1) == upM B d r.1
 | none=>false
theorem upM_bit {B:List Nat} {d i:Nat}:∀ {ns:List Nat},(upM B d ns).testBit i=true→∃ n∈ns,n=i∨(n < d∧(B.getD n 0).testBit i=true)
 | [],h=>by simp [upM] at h
 | n :: r,h=>by
  unfold upM at h
  rw [Nat.testBit_or,Nat.testBit_or,Bool.or_eq_true,Bool.or_eq_true] at h
  rcases h with (h|h)|h
  ·rw [Nat.testBit_two_pow] at h
   exact ⟨n,List.mem_cons_self,.inl (by simpa using h)⟩
  ·by_cases hn:n < d
   ·rw [if_pos hn] at h
    exact ⟨n,List.mem_cons_self,.inr ⟨hn,h⟩⟩
   ·rw [if_neg hn] at h
    simp at h
  ·obtain ⟨m,hm,h2⟩:=upM_bit h
   exact ⟨m,List.mem_cons_of_mem _ hm,h2⟩
theorem reach_bit {T:List (List Nat × List Nat)} {B:List Nat} (hB:waitsOk T B=true):∀ (fuel d:Nat),d < fuel→d < T.length→(B.getD d 0).testBit i=true→reachT T i fuel d=true
 | 0,d,h,_,_=>by omega
 | fuel + 1,d,h,hd,hb=>by
  have h1:=List.all_eq_true.1 hB d (List.mem_range.2 hd)
  cases hr:T[d]? with
  | none=>rw [hr] at h1;simp at h1
  | some r =>
   rw [hr] at h1
   simp only [beq_iff_eq] at h1
   have h2:(upM B d r.1).testBit i=true:=by rw [← h1,Nat.testBit_or,hb,Bool.true_or]
   obtain ⟨n,hn,h3⟩:=upM_bit h2
   unfold reachT
   rw [hr]
   simp only
   rw [List.any_eq_true]
   refine ⟨n,hn,?_⟩
   rcases h3 with rfl|⟨h4,h5⟩
   ·simp
   ·rw [reach_bit hB fuel n (by omega) (by omega) h5,Bool.or_true]
def lastW (T:List (List Nat × List Nat)) (B:List Nat) (l:List Bool) (ds:List Nat) (i:Nat):Bool:=ds.all fun d=>l.getD d true || (decide (d < T.length) && (B.getD d 0).testBit i)
def takeW (T:Bool × List (List Nat × List Nat)) (B:List Nat) (ds:List Nat) (l l':List Bool) (i:Nat):Bool:=T.1 && freeT T.2 l i && readyAt T.2 l i && closedT T.2 l && lastW T.2 B l ds i && (l.set i true == l')
theorem take_ofW {B:List Nat} (hT:rtab md ops=T) (hB:waitsOk T.2 B=true) (h:takeW T B ds l.toList l'.toList i=true):takeB md ops ds l l' i=true:=by
 refine take_of hT ?_
 simp only [takeW,takeT,Bool.and_eq_true] at h ⊢
 obtain ⟨⟨⟨⟨⟨h1,h2⟩,h3⟩,h4⟩,h5⟩,h6⟩:=h
 refine ⟨⟨⟨⟨⟨h1,h2⟩,h3⟩,h4⟩,?_⟩,h6⟩
 unfold lastW at h5
 unfold lastT
 rw [List.all_eq_true] at h5 ⊢
 intro d hd
 have h7:=h5 d hd
 rw [Bool.or_eq_true,Bool.and_eq_true,decide_eq_true_eq] at h7
 rcases h7 with h7|⟨h8,h9⟩
 ·rw [h7,Bool.true_or]
 ·rw [reach_bit hB _ d h8 h8 h9,Bool.or_true]
theorem with_tabW {P:Program} {Q:Exit→Act→World→Prop} {S:World→Prop} {n:Nat} {a:Act} {w:World} {B:List Nat} (hT:rtab md ops=T) (hB:waitsOk T.2 B=true) (h:Aside0 (rtab md ops=T)→Aside0 (waitsOk T.2 B=true)→wpAnyLast P md ops Q S ds n l a w):wpAnyLast P md ops Q S ds n l a w:=h ⟨hT⟩ ⟨hB⟩
end
def opsIn:Code→Nat→Option (Array Oper)
 | .region id ops _,k=>if id == k then some ops else none
 | .seq a b,k=>match opsIn a k with
  | some o=>some o
  | none=>opsIn b k
 | .cond _ a b,k=>match opsIn a k with
  | some o=>some o
  | none=>opsIn b k
 | .block _ c,k=>opsIn c k
 | .loop c,k=>opsIn c k
 | .scope c,k=>opsIn c k
 | .rangeFunc _ _ a b,k=>match opsIn a k with
  | some o=>some o
  | none=>opsIn b k
 | _,_=>none
def opsOf (f:Func) (k:Nat):Array Oper:=((f.body.bind fun c=>opsIn c k)).getD #[]
end Go.Proofs.YtgfknljhogfeaaaW.PrintLast
end

section
namespace Go.Proofs.YtgfknljhogfeaaaW.PrintWords
open Go.RowKit
namespace Kd
def tag {α:Type} (f:Nat→Nat) (d:Kd α):Kd (α × Nat) where
 sz:=d.sz
 E:=d.E
 K:=fun w x cs=>d.K w x.1 cs
 M:=fun w base ok x cs=>d.M w base (fun k=>ok k∧f k=x.2) x.1 cs
 K_len:=fun h=>d.K_len h
 K_one:=fun h=>d.K_one h
 K_below:=fun hb h=>d.K_below hb h
 K_of_M:=fun h=>d.K_of_M h
 M_mono:=fun hok h=>d.M_mono (fun k hk=>⟨hok k hk.1,hk.2⟩) h
 M_bound:=fun h=>d.M_mono (fun _ hk=>⟨⟨hk.1.1,hk.2⟩,hk.1.2⟩) (d.M_bound h)
 M_move:=fun hm h=>d.M_move (fun k hk=>hm k hk.1) h
 M_lower:=fun hb h=>d.M_lower hb h
def raw (sz:Nat):Kd (List Value) where
 sz:=sz
 E:=[]
 K:=fun _ x cs=>cs=x∧cs.length=sz∧∀ u∈cs,u.oneCell'=true
 M:=fun _ _ _ x cs=>cs=x∧cs.length=sz∧∀ u∈cs,u.oneCell'=true
 K_len:=fun h=>h.2.1
 K_one:=fun h=>h.2.2
 K_below:=fun _ h=>h
 K_of_M:=fun h=>h
 M_mono:=fun _ h=>h
 M_bound:=fun h=>h
 M_move:=fun _ h=>h
 M_lower:=fun _ h=>h
def S {α:Type} (d:Kd α) (e:Nat) (w:World) (base:Nat) (ok:Nat→Prop) (v:Value) (xs:List α):Prop:=∃ f,(tag f d).R e w base ok v xs.zipIdx
section
variable {α β:Type} {d:Kd α} {d':Kd β} {e e':Nat} {w w1 W:World} {base b:Nat} {ok ok' okv oku:Nat→Prop} {u v:Value} {xs:List α} {ys:List β}
theorem zip_at {xs:List α} {j:Nat} {p:α} (h:xs[j]?=some p):xs.zipIdx[j]?=some (p,j):=by rw [List.getElem?_zipIdx,h,Nat.zero_add];rfl
theorem S_R (h:S d e w base ok v xs):d.R e w base ok v xs:=by
 obtain ⟨f,h0,inner,ho,hr⟩:=h
 rw [List.length_zipIdx] at ho
 exact ⟨h0,inner,ho,by have:=hr.1;rw [List.length_zipIdx] at this;exact this,fun j p hj=>d.M_mono (fun _ hk=>hk.1) (hr.2 j (p,j) (zip_at hj))⟩
theorem R_tight (hE:d.E=[]) (h:d.R e w base ok v xs):d.R e w base (fun k=>some k=v.ownBlock) v xs:=by
 obtain ⟨h0,inner,ho,hr⟩:=h
 refine ⟨fun k hk=>hk.symm,inner,ho,hr.imp_ (fun p c hp=>d.M_mono (fun k hk=>?_) (d.M_bound hp))⟩
 obtain ⟨_,_,_,q,hq,_⟩:=hk
 rw [hE] at hq
 cases hq
theorem S_nil (d:Kd α) (e:Nat) (w:World) (base:Nat) (ok:Nat→Prop):S d e w base ok (.slice none 0 0) []:=⟨fun _=>0,R_nil _ _ _ _ _⟩
theorem S_mono (h:S d e w base ok v xs) (hok:∀ k,ok k→ok' k):S d e w base ok' v xs:=by
 obtain ⟨f,h⟩:=h
 exact ⟨f,R_mono h hok⟩
theorem S_bound (h:S d e w base ok v xs):S d e w base (fun k=>ok k∧base≤k∧k < w.heap.size∧∃ q,q∈e :: d.E∧∃ cells,w.heap[k]?=some (.cells cells q (0,0))) v xs:=by
 obtain ⟨f,h⟩:=h
 exact ⟨f,R_bound h⟩
theorem S_move (h:S d e w base ok v xs) (hm:∀ k,ok k→w1.heap[k]?=w.heap[k]?):S d e w1 base ok v xs:=by
 obtain ⟨f,h⟩:=h
 exact ⟨f,R_move h hm⟩
theorem S_lower {base':Nat} (h:S d e w base ok v xs) (hb:base'≤base):S d e w base' ok v xs:=by
 obtain ⟨f,h⟩:=h
 exact ⟨f,R_lower h hb⟩
theorem S_step (h:S d e w base ok v xs) (hm:∀ k,ok k→k < w.heap.size→w1.heap[k]?=w.heap[k]?):S d e w1 base ok v xs :=
 S_mono (S_move (S_bound h) (fun k hk=>hm k hk.1 hk.2.2.1)) (fun _ hk=>hk.1)
theorem S_below (h:S d e w base ok v xs) (hb:Below w.heap.size w w1):S d e w1 base ok v xs:=S_step h (fun k _ hk=>hb.block k hk)
theorem S_alloc (h:S d e w base ok v xs) (o:Obj):S d e (w.alloc o) base ok v xs:=S_below h (below_alloc (Below.refl _ _) o)
theorem S_drew (h:S d e w base ok v xs):S d e w.drew base ok v xs:=S_below h (below_drew (Below.refl _ _))
theorem S_drewN (h:S d e w base ok v xs) (m:Nat):S d e (w.drewN m) base ok v xs:=S_below h (pw_below_drewN (Below.refl _ _) m)
theorem S_far (h:S d e w base ok v xs) {p:Addr} (hok:∀ k,ok k→k≠p.block) (u:Value):S d e (w.setCell p u) base ok v xs:=S_step h (fun k ho _=>Below.heap_setCell w p u k (hok k ho))
theorem S_keep (h:S d e w base ok v xs) {g:Nat} (hk:KeepBut w w1 g none) (hok:∀ k,ok k→k≠g):S d e w1 base ok v xs:=S_step h (fun k ho hlt=>hk.2 k hlt (hok k ho) (by simp))
theorem S_types (h:S d e w base ok v xs) {g t:Nat} {cells:Array Value} (hb:w.heap[g]?=some (.cells cells t (0,0))) (ht:∀ q,q∈e :: d.E→q≠t):S d e w base (fun k=>ok k∧k≠g) v xs:=by
 obtain ⟨f,h⟩:=h
 exact ⟨f,R_types h hb ht⟩
theorem S_typed (h:S d e w base ok v xs):∀ k,v.ownBlock=some k→∃ cells,w.heap[k]?=some (.cells cells e (0,0)):=R_typed (S_R h)
theorem S_over' (h:S d e W base ok u xs) (hty:∀ k,v.ownBlock=some k→∃ cells,W.heap[k]?=some (.cells cells e' (0,0))) (ht:∀ q,q∈e :: d.E→q≠e') (hg:W.grownBy w1 v.ownBlock):S d e w1 base ok u xs:=by
 obtain ⟨f,h⟩:=h
 exact ⟨f,R_over' h hty ht hg⟩
theorem S_elder' (h:S d e W base ok u xs) (hbase:∀ k,v.ownBlock=some k→W.heap.size≤k) (hb:Below W.heap.size W w1):S d e w1 base (fun k=>ok k∧some k≠v.ownBlock) u xs:=by
 obtain ⟨f,h⟩:=h
 exact ⟨f,R_elder' h hbase hb⟩
theorem S_after {v1:Value} (h:S d e W base (fun k=>ok k∧some k≠v.ownBlock) u xs) (hg:W.grownBy w1 v.ownBlock) (hat:v1.ownBlock=v.ownBlock∨∃ b,v1.ownBlock=some b∧W.heap.size≤b):S d e w1 base (fun k=>ok k∧some k≠v1.ownBlock) u xs:=by
 obtain ⟨f,h⟩:=h
 exact ⟨f,R_after h hg hat⟩
theorem R_tag {f f':Nat→Nat} {zs:List (α × Nat)} (h:(tag f d).R e w base ok v zs) (hf:∀ k,ok k→k < w.heap.size→f' k=f k):(tag f' d).R e w base ok v zs:=by
 obtain ⟨h0,inner,ho,hr⟩:=R_bound h
 exact ⟨fun k hk=>(h0 k hk).1,inner,ho,hr.1,fun j p hj=>d.M_mono (fun k hk=>⟨⟨hk.1.1.1,hk.1.2⟩,(hf k hk.1.1.1 hk.1.1.2.2.1).trans hk.2⟩) (hr.2 j p hj)⟩
end
section
variable {α β:Type} {d:Kd α} {d':Kd β} {e e' g:Nat} {w w1 W:World} {base b:Nat} {ok ok' okv oku:Nat→Prop} {u v:Value} {xs:List α} {ys:List β}
theorem S_ne (h:S d e w base ok v xs) {t:Nat} {cells:Array Value} (hb:w.heap[g]?=some (.cells cells t (0,0))) (ht:e≠t):some g≠v.ownBlock:=R_ne (S_R h) hb ht
theorem S_base2 (h:S d e w base ok v xs):v.ownBlock=none∨∃ k,v.ownBlock=some k∧base≤k:=R_base2 (S_R h)
theorem S_slice (h:S d e w base ok v xs):∃ A c,v=.slice A xs.length c:=R_slice (S_R h)
theorem S_reads' {A:Option Addr} {n c:Nat} (h:S d e w base ok (.slice A n c) xs):n=xs.length∧n≤c∧d.C w A xs.length xs:=R_reads' (S_R h)
theorem S_oldK (hu:S d e W base (fun k=>ok k∧k≠g) u xs) (hk:KeepBut W w1 g none):S d e w1 base (fun k=>ok k∧k < W.heap.size) u xs :=
 S_mono (S_keep (S_bound hu) hk (fun _ h=>h.1.2)) (fun _ h=>⟨h.1.1,h.2.2.1⟩)
theorem S_told {N:Nat} (h:S d e w1 base (fun k=>ok k∧k < N) u xs) (hbase:∀ k,v.ownBlock=some k→N≤k):S d e w1 base (fun k=>(ok k∧some k≠v.ownBlock)∧k < N) u xs :=
 S_mono h (fun k hk=>⟨⟨hk.1,fun e=>Nat.lt_irrefl _ (Nat.lt_of_lt_of_le hk.2 (hbase k e.symm))⟩,hk.2⟩)
theorem zip_snoc (xs:List α) (p:α):(xs ++ [p]).zipIdx=xs.zipIdx ++ [(p,xs.length)]:=by rw [List.zipIdx_append];simp
end
section
open Classical in
theorem S_tag {α:Type} {d:Kd α} {e base:Nat} {okv:Nat→Prop} {w:World} {v:Value} {xs:List α} (h:S d e w base okv v xs) (m:Nat) (okp:Nat→Prop) (hap:∀ k,okp k→¬ okv k):∃ f,(∀ k,okp k→f k=m)∧(tag f d).R e w base okv v xs.zipIdx:=by
 obtain ⟨f,h⟩:=h
 exact ⟨fun k=>if okp k then m else f k,fun k hk=>if_pos hk,R_tag h (fun k hk _=>if_neg (fun h2=>hap k h2 hk))⟩
variable {P:Program} {ops:Array Oper} {rest:List Oper} {o:Oper} {a:Act} {Q:Exit→Act→World→Prop} {Kc:Act→World→Prop} {α:Type}
theorem S_append_step (d:Kd α) {w0 W:World} (base:Nat) (hw:Region.wanted o (yielded ops a.tmps)=true) (s x:Operand) (t e:TypeId) (z:Value) (bytes:Nat)
  (ho:o.op=.call { callee:=.builtin .append,args:=#[s,x],argTypes:=#[t,t] })
  (ht:P.underlying t=some (.slice e)) (hinfo:(P.info? e).map (fun i=>(i.zero,i.size,i.bytes))=some (some z,d.sz,bytes)) (hz:z.cells.size=d.sz) (hs0:0 < d.sz) (hb0:0 < bytes)
  (v:Value) (xs:List α) (p:α) (cs:List Value) (ok okp:Nat→Prop) (hs:a.eval s=v) (hx:a.eval x=.slice (some ⟨W.heap.size,0,none⟩) 1 1) (hp:d.M W base okp p cs) (hokp:∀ k,okp k→ok k∧some k≠v.ownBlock) (hfresh:∀ k,W.heap.size≤k→ok k)
  (HO:S d e W base (fun k=>ok k∧¬ okp k) v xs) (HB:Below base w0 W) (hbase:base≤W.heap.size) (hl:(xs.length + 1) * bytes≤140737488355328)
  (h:∀ v1 w1,S d e w1 base ok v1 (xs ++ [p])→Below base w0 w1→W.grownBy w1 v.ownBlock→(v1.ownBlock=v.ownBlock∨∃ b,v1.ownBlock=some b∧W.heap.size≤b)→Kc (a.put o.dst v1) w1) :
  if Region.wanted o (yielded ops a.tmps)=true then Oper.wp P o a (W.alloc (.cells cs.toArray e)) Kc Q else Kc (a.put o.dst undef) (W.alloc (.cells cs.toArray e)):=by
 obtain ⟨f,hf,hR⟩:=S_tag HO xs.length okp (fun _ hk h2=>h2.2 hk)
 refine R_append_step (tag f d) base hw s x t e z bytes ho ht hinfo hz hs0 hb0 v xs.zipIdx (p,xs.length) cs ok okp hs hx (d.M_mono (fun k hk=>⟨hk,hf k hk⟩) hp) hokp hfresh (R_mono hR (fun _ hk=>hk.1)) HB hbase (by rw [List.length_zipIdx];exact hl) ?_
 intro v1 w1 hr
 rw [← zip_snoc] at hr
 exact h v1 w1 ⟨f,hr⟩
end
def gap {α:Type} (f:Nat→Nat) (d:Kd α) (i:Nat) (c:List Value):Kd (α × Nat) where
 sz:=d.sz
 E:=d.E
 K:=fun w x cs=>(x.2=i→cs=c∧cs.length=d.sz∧∀ u∈cs,u.oneCell'=true)∧(x.2≠i→d.K w x.1 cs)
 M:=fun w base ok x cs=>(x.2=i→cs=c∧cs.length=d.sz∧∀ u∈cs,u.oneCell'=true)∧(x.2≠i→d.M w base (fun k=>ok k∧f k=x.2) x.1 cs)
 K_len:=fun {w x cs} h=>by
  by_cases hx:x.2=i
  ·exact (h.1 hx).2.1
  ·exact d.K_len (h.2 hx)
 K_one:=fun {w x cs} h=>by
  by_cases hx:x.2=i
  ·exact (h.1 hx).2.2
  ·exact d.K_one (h.2 hx)
 K_below:=fun hb h=>⟨h.1,fun hx=>d.K_below hb (h.2 hx)⟩
 K_of_M:=fun h=>⟨h.1,fun hx=>d.K_of_M (h.2 hx)⟩
 M_mono:=fun hok h=>⟨h.1,fun hx=>d.M_mono (fun k hk=>⟨hok k hk.1,hk.2⟩) (h.2 hx)⟩
 M_bound:=fun h=>⟨h.1,fun hx=>d.M_mono (fun _ hk=>⟨⟨hk.1.1,hk.2⟩,hk.1.2⟩) (d.M_bound (h.2 hx))⟩
 M_move:=fun hm h=>⟨h.1,fun hx=>d.M_move (fun k hk=>hm k hk.1) (h.2 hx)⟩
 M_lower:=fun hb h=>⟨h.1,fun hx=>d.M_lower hb (h.2 hx)⟩
def H {α:Type} (d:Kd α) (e:Nat) (w:World) (base:Nat) (ok:Nat→Prop) (v:Value) (xs:List α) (i:Int) (oki:Nat→Prop) (c:List Value):Prop :=
 (∀ k,oki k→ok k)∧∃ f,(gap f d i.toNat c).R e w base (fun k=>ok k∧¬ oki k) v xs.zipIdx
section
variable {α β:Type} {d:Kd α} {e e' g n cap:Nat} {w w1 W:World} {base:Nat} {ok ok' oki okp:Nat→Prop} {u v:Value} {xs:List α} {i:Int} {c:List Value}
end
section
variable {P:Program} {ops:Array Oper} {rest:List Oper} {o:Oper} {a:Act} {Q:Exit→Act→World→Prop} {α:Type}
end
end Kd
end Go.Proofs.YtgfknljhogfeaaaW.PrintWords
end

section
namespace Go.Proofs.YtgfknljhogfeaaaW.PrintWords
open Go.RowKit
namespace Kd
structure Heap {α:Type} (d:Kd α):Prop where
 K:∀ {w w1:World} {x:α} {cs:List Value},(∀ k,k < w.heap.size→w1.heap[k]?=w.heap[k]?)→d.K w x cs→d.K w1 x cs
theorem cell_heap {w w1:World} (hb:∀ k,k < w.heap.size→w1.heap[k]?=w.heap[k]?) {a:Addr} {v:Value} (h:w.cell? a=some v):w1.cell? a=some v:=by
 have:=hb a.block (World.block_lt_of_cell? w a h)
 simpa [World.cell?,this] using h
theorem Heap.C {α:Type} {d:Kd α} (hd:Heap d) {w w1:World} {A:Option Addr} {n:Nat} {xs:List α} (hb:∀ k,k < w.heap.size→w1.heap[k]?=w.heap[k]?) (h:d.C w A n xs):d.C w1 A n xs :=
 ⟨h.1,h.2.1,fun hn=>by
  obtain ⟨ad,e,hc⟩:=h.2.2 hn
  refine ⟨ad,e,fun j p hj=>?_⟩
  obtain ⟨c,hs,hr,hcell⟩:=hc j p hj
  exact ⟨c,hs,hd.K hb hr,fun i u hu=>cell_heap hb (hcell i u hu)⟩⟩
section
variable {α:Type} {d:Kd α} {e base g n c:Nat} {ok:Nat→Prop} {w w0 W:World} {A:Option Addr} {xs:List α}
end
end Kd
end Go.Proofs.YtgfknljhogfeaaaW.PrintWords
end

section
namespace Go.Proofs.YtgfknljhogfeaaaW.PrintWords
open Go.RowKit
def Kept (w W:World) (S:Nat→Prop):Prop:=w.heap.size≤W.heap.size∧∀ i,i < w.heap.size→¬ S i→W.heap[i]?=w.heap[i]?
section
variable {w W W2:World} {S S2 S':Nat→Prop}
theorem Kept.refl (w:World) (S:Nat→Prop):Kept w w S:=⟨Nat.le_refl _,fun _ _ _=>rfl⟩
theorem Kept.of_below (h:Below w.heap.size w W) (S:Nat→Prop):Kept w W S:=⟨h.size,fun i hi _=>h.block i hi⟩
theorem Kept.mono (h:Kept w W S) (hs:∀ k,S k→S' k):Kept w W S':=⟨h.1,fun i hi hn=>h.2 i hi (fun hk=>hn (hs i hk))⟩
theorem Kept.then_ (h:Kept w W S) (k:Kept W W2 S2) (hs:∀ k,S2 k→S k∨w.heap.size≤k):Kept w W2 S :=
 ⟨Nat.le_trans h.1 k.1,fun i hi hn=>(k.2 i (Nat.lt_of_lt_of_le hi h.1) (fun h2=>(hs i h2).elim hn (fun h3=>by omega))).trans (h.2 i hi hn)⟩
theorem Kept.of_grown {row:Option Nat} (hg:W.grownBy W2 row) (h:Kept w W S) (hr:∀ k,row=some k→S k∨w.heap.size≤k):Kept w W2 S :=
 h.then_ (S2:=fun k=>row=some k) ⟨hg.size,fun i hi hn=>hg.block i hi (fun he=>hn he.symm)⟩ hr
theorem Kept.below (h:Kept w W S) (hb:Below W.heap.size W W2):Kept w W2 S:=h.then_ (Kept.of_below hb (fun _=>False)) (fun _ hk=>hk.elim)
theorem Kept.alloc (h:Kept w W S) (o:Obj):Kept w (W.alloc o) S:=h.below (below_alloc (Below.refl _ _) o)
theorem Kept.drew (h:Kept w W S):Kept w W.drew S:=h
theorem Kept.drewN (h:Kept w W S) (m:Nat):Kept w (W.drewN m) S:=h
theorem Kept.setCell (h:Kept w W S) {p:Addr} (hp:S p.block∨w.heap.size≤p.block) (u:Value):Kept w (W.setCell p u) S :=
 h.then_ (S2:=fun k=>k=p.block) ⟨by simp [World.setCell],fun i _ hn=>Below.heap_setCell W p u i hn⟩ (fun k hk=>by rw [hk];exact hp)
end
namespace Kd
section
variable {α:Type} {d:Kd α} {e base n c:Nat} {ok oki S S2:Nat→Prop} {w w0 W W1 W2:World} {v:Value} {A:Option Addr} {xs:List α} {i:Int} {cs:List Value}
end
end Kd
end Go.Proofs.YtgfknljhogfeaaaW.PrintWords
end

section
namespace Go.Proofs.YtgfknljhogfeaaaW.PrintWords
open Go.RowKit
def Foot (P:World→Prop) (W:World) (ok:Nat→Prop):Prop:=∀ W':World,(∀ k,ok k→k < W.heap.size→W'.heap[k]?=W.heap[k]?)→P W'
theorem heap_lt {W W1:World} {k:Nat} (h:W1.heap[k]?=W.heap[k]?) (hlt:k < W.heap.size):k < W1.heap.size:=by
 rw [Array.getElem?_eq_getElem hlt] at h
 exact (Array.getElem?_eq_some_iff.1 h).1
namespace Foot
variable {P Q:World→Prop} {W W1:World} {ok ok':Nat→Prop}
theorem mono (h:Foot P W ok) (hok:∀ k,ok k→ok' k):Foot P W ok':=fun W' hW=>h W' (fun k hk hlt=>hW k (hok k hk) hlt)
theorem step (h:Foot P W ok) (hm:∀ k,ok k→k < W.heap.size→W1.heap[k]?=W.heap[k]?):Foot P W1 ok:=fun W' hW=>h W' (fun k hk hlt=>(hW k hk (heap_lt (hm k hk hlt) hlt)).trans (hm k hk hlt))
end Foot
namespace Kd
def F {α:Type} (d:Kd α) (W:World) (ok:Nat→Prop) (A:Option Addr) (n:Nat) (xs:List α):Prop:=Foot (fun W=>d.C W A n xs) W ok
def FK {α:Type} (d:Kd α) (W:World) (ok:Nat→Prop) (x:α) (c:List Value):Prop:=Foot (fun W=>d.K W x c) W ok
section
variable {α β:Type} {d:Kd α} {e base n n' cc g N:Nat} {ok ok' okp S:Nat→Prop} {w w0 w1 W W1:World} {A A':Option Addr} {u v v1:Value} {xs:List α} {xs':List β} {d':Kd β} {x:α} {c:List Value}
theorem F_nil (d:Kd α) (W:World) (ok:Nat→Prop):F d W ok none ([]:List α).length []:=fun W' _=>C_nil d W'
theorem FK_of_M (h:d.M W base ok x c):FK d W ok x c:=fun _ hW=>d.K_of_M (M_step h hW)
end
end Kd
end Go.Proofs.YtgfknljhogfeaaaW.PrintWords
end

section
namespace Go.Proofs.YtgfknljhogfeaaaW.PrintWords
open Go.RowKit
namespace Kd
def chunks (sz:Nat) (n:Nat) (inner:List Value):List (List Value):=(List.range n).map fun j=>(inner.drop (j * sz)).take sz
theorem chunks_length (sz n:Nat) (inner:List Value):(chunks sz n inner).length=n:=by simp [chunks]
theorem chunks_at {sz n:Nat} {inner:List Value} {j:Nat} (hj:j < n):(chunks sz n inner)[j]?=some ((inner.drop (j * sz)).take sz):=by simp [chunks,hj]
theorem chunks_get {sz n:Nat} {inner:List Value} {j:Nat} {c:List Value} (h:(chunks sz n inner)[j]?=some c):c=(inner.drop (j * sz)).take sz:=by
 have hj:j < n:=by have:=(List.getElem?_eq_some_iff.1 h).1;rwa [chunks_length] at this
 rw [chunks_at hj] at h
 injection h with h
 exact h.symm
theorem reps_raw {α:Type} {Rr:α→List Value→Prop} {sz:Nat} {xs:List α} {inner:List Value} (h:Reps Rr sz xs inner) (hR:∀ x c,Rr x c→c.length=sz∧∀ u∈c,u.oneCell'=true):Reps (fun x cs=>cs=x∧cs.length=sz∧∀ u∈cs,u.oneCell'=true) sz (chunks sz xs.length inner) inner:=by
 refine ⟨by rw [chunks_length];exact h.1,fun j p hj=>?_⟩
 have hjl:j < xs.length:=by have:=(List.getElem?_eq_some_iff.1 hj).1;rwa [chunks_length] at this
 have hp:=chunks_get hj
 exact ⟨hp.symm,hR _ _ (h.2 j _ (List.getElem?_eq_getElem hjl))⟩
section
variable {α:Type} {d:Kd α} {e base n cc g:Nat} {ok ok' okp S:Nat→Prop} {w w1 W W1:World} {A:Option Addr} {u v v1:Value} {xs:List α} {x:α} {c:List Value}
def N {α:Type} (d:Kd α) (e:Nat) (w:World) (base:Nat) (ok:Nat→Prop) (v:Value) (xs:List α):Prop :=
 (∀ k,v.ownBlock=some k→ok k)∧∃ rows:List (List Value),rows.length=xs.length∧(raw d.sz).R e w base (fun k=>some k=v.ownBlock) v rows∧∀ (j:Nat) (x:α) (c:List Value),xs[j]?=some x→rows[j]?=some c→FK d w (fun k=>ok k∧some k≠v.ownBlock) x c
theorem R_N (h:d.R e w base ok v xs):N d e w base ok v xs:=by
 obtain ⟨h0,inner,ho,hr⟩:=h
 refine ⟨h0,chunks d.sz xs.length inner,chunks_length _ _ _,⟨fun k hk=>hk.symm,inner,by rw [chunks_length];exact ho,reps_raw hr (fun x c hp=>⟨d.K_len (d.K_of_M hp),d.K_one (d.K_of_M hp)⟩)⟩,fun j x c hx hc=>?_⟩
 rw [chunks_get hc]
 exact FK_of_M (hr.2 j x hx)
theorem N_nil (d:Kd α) (e:Nat) (w:World) (base:Nat) (ok:Nat→Prop):N d e w base ok (.slice none 0 0) []:=R_N (R_nil _ _ _ _ _)
end
end Kd
end Go.Proofs.YtgfknljhogfeaaaW.PrintWords
end

section
namespace Go.Proofs.YtgfknljhogfeaaaW.PrintWords
theorem Reps.one {α:Type} {R:α→List Value→Prop} {ps:List α} {cs:List Value} {p:α} {v:Value} (hp:R p [v]) (h:Reps R 1 ps cs):Reps R 1 (p :: ps) (v :: cs):=by
 refine ⟨by simp [h.1],fun j q hq=>?_⟩
 cases j with
 | zero =>
  simp only [List.getElem?_cons_zero,Option.some.injEq] at hq
  subst hq
  simpa using hp
 | succ j =>
  simp only [List.getElem?_cons_succ] at hq
  have h1:=h.2 j q hq
  simpa [Nat.mul_one] using h1
theorem Reps.front {α:Type} {R:α→List Value→Prop} {size:Nat} {ps:List α} {cs c all:List Value} {p:α} (hp:R p c) (hc:c.length=size) (h:Reps R size ps cs) (ha:c ++ cs=all):Reps R size (p :: ps) all:=by
 subst ha
 refine ⟨by rw [List.length_append,hc,h.1,List.length_cons,Nat.succ_mul,Nat.add_comm],fun j q hq=>?_⟩
 cases j with
 | zero =>
  simp only [List.getElem?_cons_zero,Option.some.injEq] at hq
  subst hq
  rw [Nat.zero_mul,List.drop_zero,List.take_append_of_le_length (by omega),List.take_of_length_le (by omega)]
  exact hp
 | succ j =>
  simp only [List.getElem?_cons_succ] at hq
  have h1:=h.2 j q hq
  rw [Nat.succ_mul,List.drop_append,List.drop_of_length_le (by rw [hc];exact Nat.le_add_left _ _),List.nil_append,hc,Nat.add_sub_cancel]
  exact h1
theorem Reps.c2 {α:Type} {R:α→List Value→Prop} {ps:List α} {cs:List Value} {p:α} {va vb:Value} (hp:R p [va,vb]) (h:Reps R 2 ps cs):Reps R 2 (p :: ps) (va :: vb :: cs):=Reps.front hp rfl h rfl
theorem Reps.c3 {α:Type} {R:α→List Value→Prop} {ps:List α} {cs:List Value} {p:α} {va vb vc:Value} (hp:R p [va,vb,vc]) (h:Reps R 3 ps cs):Reps R 3 (p :: ps) (va :: vb :: vc :: cs):=Reps.front hp rfl h rfl
theorem Reps.c4 {α:Type} {R:α→List Value→Prop} {ps:List α} {cs:List Value} {p:α} {va vb vc vd:Value} (hp:R p [va,vb,vc,vd]) (h:Reps R 4 ps cs):Reps R 4 (p :: ps) (va :: vb :: vc :: vd :: cs):=Reps.front hp rfl h rfl
theorem Reps.c5 {α:Type} {R:α→List Value→Prop} {ps:List α} {cs:List Value} {p:α} {va vb vc vd ve:Value} (hp:R p [va,vb,vc,vd,ve]) (h:Reps R 5 ps cs):Reps R 5 (p :: ps) (va :: vb :: vc :: vd :: ve :: cs):=Reps.front hp rfl h rfl
theorem Reps.c6 {α:Type} {R:α→List Value→Prop} {ps:List α} {cs:List Value} {p:α} {va vb vc vd ve vf:Value} (hp:R p [va,vb,vc,vd,ve,vf]) (h:Reps R 6 ps cs):Reps R 6 (p :: ps) (va :: vb :: vc :: vd :: ve :: vf :: cs):=Reps.front hp rfl h rfl
theorem Reps.c7 {α:Type} {R:α→List Value→Prop} {ps:List α} {cs:List Value} {p:α} {va vb vc vd ve vf vg:Value} (hp:R p [va,vb,vc,vd,ve,vf,vg]) (h:Reps R 7 ps cs):Reps R 7 (p :: ps) (va :: vb :: vc :: vd :: ve :: vf :: vg :: cs):=Reps.front hp rfl h rfl
theorem Reps.c8 {α:Type} {R:α→List Value→Prop} {ps:List α} {cs:List Value} {p:α} {va vb vc vd ve vf vg vh:Value} (hp:R p [va,vb,vc,vd,ve,vf,vg,vh]) (h:Reps R 8 ps cs):Reps R 8 (p :: ps) (va :: vb :: vc :: vd :: ve :: vf :: vg :: vh :: cs):=Reps.front hp rfl h rfl
theorem Reps.c9 {α:Type} {R:α→List Value→Prop} {ps:List α} {cs:List Value} {p:α} {va vb vc vd ve vf vg vh vi:Value} (hp:R p [va,vb,vc,vd,ve,vf,vg,vh,vi]) (h:Reps R 9 ps cs):Reps R 9 (p :: ps) (va :: vb :: vc :: vd :: ve :: vf :: vg :: vh :: vi :: cs):=Reps.front hp rfl h rfl
theorem Reps.c10 {α:Type} {R:α→List Value→Prop} {ps:List α} {cs:List Value} {p:α} {va vb vc vd ve vf vg vh vi vj:Value} (hp:R p [va,vb,vc,vd,ve,vf,vg,vh,vi,vj]) (h:Reps R 10 ps cs):Reps R 10 (p :: ps) (va :: vb :: vc :: vd :: ve :: vf :: vg :: vh :: vi :: vj :: cs):=Reps.front hp rfl h rfl
end Go.Proofs.YtgfknljhogfeaaaW.PrintWords
end

section
namespace Go.Proofs.YtgfknljhogfeaaaW.PrintLast
def up (b:Nat→Bool) (i:Nat):Nat→Bool:=fun j=>if j=i then true else b j
section
variable {P:Program} {ops:Array Oper} {Q:Exit→Act→World→Prop} {md:Region.Mode} {T:Bool × List (List Nat × List Nat)} {B:List Nat} {O:List Nat} {b:Nat→Bool} {i j n:Nat}
end
end Go.Proofs.YtgfknljhogfeaaaW.PrintLast
end

section
namespace Go.Proofs.YtgfknljhogfeaaaW.PrintWords
open Go.RowKit
section
variable {P:Program} {ops:Array Oper} {rest:List Oper} {o:Oper} {a:Act} {Q:Exit→Act→World→Prop} {W:World}
theorem gate_guard (hw:Region.wanted o (yielded ops a.tmps)=true) (h:wpList P ops Q ({ o with guard:=none } :: rest) a W):wpList P ops Q (o :: rest) a W:=by
 have h1:Region.wanted { o with guard:=none } (yielded ops a.tmps)=true:=rfl
 unfold wpList at h ⊢
 rw [if_pos h1] at h
 rw [if_pos hw]
 exact h
end
end Go.Proofs.YtgfknljhogfeaaaW.PrintWords
end

section
namespace Go.Proofs.YtgfknljhogfeaaaW.PrintMore
open Go.RowKit Go.Proofs.YtgfknljhogfeaaaW.PrintWords
namespace Kd
open Go.Proofs.YtgfknljhogfeaaaW.PrintWords.Kd
end Kd
namespace Kd
open Go.Proofs.YtgfknljhogfeaaaW.PrintWords.Kd
section
variable {α:Type} {d:Kd α} {e base g N:Nat} {ok:Nat→Prop} {W w1:World} {u v:Value} {xs:List α}
end
end Kd
theorem max2_int (k k':IntKind) (x y:Int):Builtin.max2 (.int k x) (.int k' y)=pure (.int k (if x < y then y else x)):=by simp only [Builtin.max2,gt_iff_lt]
theorem min2_int (k k':IntKind) (x y:Int):Builtin.min2 (.int k x) (.int k' y)=pure (.int k (if y < x then y else x)):=by simp only [Builtin.min2]
theorem max_two (ats:Array TypeId) (ty:TypeId) (a b:Value):Builtin.max_ ats ty #[a,b]=(Builtin.max2 a b >>= fun s=>pure s):=by simp only [Builtin.max_,List.foldlM_cons,List.foldlM_nil]
theorem min_two (ats:Array TypeId) (ty:TypeId) (a b:Value):Builtin.min_ ats ty #[a,b]=(Builtin.min2 a b >>= fun s=>pure s):=by simp only [Builtin.min_,List.foldlM_cons,List.foldlM_nil]
theorem max_three (ats:Array TypeId) (ty:TypeId) (a b c:Value):Builtin.max_ ats ty #[a,b,c]=(Builtin.max2 a b >>= fun s=>Builtin.max2 s c >>= fun s=>pure s):=by simp only [Builtin.max_,List.foldlM_cons,List.foldlM_nil]
theorem min_three (ats:Array TypeId) (ty:TypeId) (a b c:Value):Builtin.min_ ats ty #[a,b,c]=(Builtin.min2 a b >>= fun s=>Builtin.min2 s c >>= fun s=>pure s):=by simp only [Builtin.min_,List.foldlM_cons,List.foldlM_nil]
theorem max_four (ats:Array TypeId) (ty:TypeId) (a b c d:Value):Builtin.max_ ats ty #[a,b,c,d]=(Builtin.max2 a b >>= fun s=>Builtin.max2 s c >>= fun s=>Builtin.max2 s d >>= fun s=>pure s):=by simp only [Builtin.max_,List.foldlM_cons,List.foldlM_nil]
theorem min_four (ats:Array TypeId) (ty:TypeId) (a b c d:Value):Builtin.min_ ats ty #[a,b,c,d]=(Builtin.min2 a b >>= fun s=>Builtin.min2 s c >>= fun s=>Builtin.min2 s d >>= fun s=>pure s):=by simp only [Builtin.min_,List.foldlM_cons,List.foldlM_nil]
end Go.Proofs.YtgfknljhogfeaaaW.PrintMore
namespace Go.Proofs.YtgfknljhogfeaaaW.PrintWords
open Go.RowKit
section
variable {P:Program} {ops:Array Oper} {rest:List Oper} {o:Oper} {a:Act} {Q:Exit→Act→World→Prop} {W:World}
theorem gate_callee {f:FuncId} {as_:Array Operand} {ts:Array TypeId} (_ho:o.op=.call { callee:=.value (.func f),args:=as_,argTypes:=ts }) (h:wpList P ops Q (o :: rest) a W):wpList P ops Q (o :: rest) a W:=h
theorem gate_builtin {b:Builtin} {xs:Array Operand} {ts:Array TypeId} (_ho:o.op=.call { callee:=.builtin b,args:=xs,argTypes:=ts }) (h:wpList P ops Q (o :: rest) a W):wpList P ops Q (o :: rest) a W:=h
end
def mx (a b:Int):Int:=if a < b then b else a
def mn (a b:Int):Int:=if b < a then b else a
theorem drewN_self (w:World) (n:Nat):w.drewN n=w.drewN n:=rfl
namespace Kd
section
variable {α:Type} {d:Kd α} {e base:Nat} {ok:Nat→Prop} {W w1:World} {v:Value} {xs:List α}
end
section
variable {α:Type} {d:Kd α} {e base g n cap:Nat} {ok oki okp:Nat→Prop} {W:World} {xs:List α} {i:Int} {c:List Value}
end
section
variable {α:Type} {d:Kd α} {e base b b' g N:Nat} {ok ok1:Nat→Prop} {W W2 w1:World} {u v:Value} {xs ys:List α} {S:Nat→Prop}
end
end Kd
end Go.Proofs.YtgfknljhogfeaaaW.PrintWords
namespace Go.Proofs.YtgfknljhogfeaaaW.PrintWords
open Go.RowKit
namespace Kd
def V {α:Type} (d:Kd α) (_e:Nat) (W:World) (_base:Nat) (ok:Nat→Prop) (v:Value) (xs:List α):Prop:=∃ A c,v=.slice A xs.length c∧xs.length≤c∧F d W ok A xs.length xs
section
variable {α β:Type} {d:Kd α} {e base base' n m c g N' lo hi:Nat} {ok ok' S:Nat→Prop} {w W w1:World} {A:Option Addr} {ad:Addr} {u v v1:Value} {xs:List α}
theorem V_nil (d:Kd α) (e:Nat) (W:World) (base:Nat) (ok:Nat→Prop):V d e W base ok (.slice none 0 0) []:=⟨none,0,rfl,Nat.le_refl _,F_nil d W ok⟩
end
end Kd
end Go.Proofs.YtgfknljhogfeaaaW.PrintWords
end

section
namespace Go.Proofs.Ytgfknljhogfeaaa.G
open Go.RowKit Go.Proofs.YtgfknljhogfeaaaW.PrintWords Go.Proofs.YtgfknljhogfeaaaW.PrintLast Go.Proofs.YtgfknljhogfeaaaW.PrintMore
set_option linter.unusedVariables false
set_option linter.unusedSimpArgs false
theorem am {p:Prop} (h:p):Aside0 p:=⟨h⟩
theorem zq0 {p:Prop} (h:p:=by (try simp only [List.map_toArray,List.map_cons,List.map_nil]);first|done|rfl|(simp only [List.length_drop,List.length_take];rfl)):p:=h
theorem zq1 {p:Prop} (h:p:=by repeat (first|(with_reducible first|exact HB.out|apply below_alloc|apply pw_below_drewN|apply below_drew1|refine below_set ?_ GE101.out)|exact HB.out)):p:=h
theorem zq2 {p:Prop} (h:p:=by repeat (first|(with_reducible first|exact HB.out|apply below_alloc|apply pw_below_drewN|apply below_drew1)|exact HB.out)):p:=h
theorem zq3 {p:Prop} (h:p:=by first|rfl|(simp only [IntKind.wrap_i64,wrap64];done)|(simp;done)|(simp [*];done)):p:=h
theorem zq4 {p:Prop} (h:p:=by (with_reducible repeat (first|refine blk_drewN ?_ _|refine blk_drew ?_|refine blk_alloc ?_ _));exact BK101.out):p:=h
theorem zq5 {p:Prop} (h:p:=by repeat (first|(with_reducible first|exact HB.out|apply below_alloc|apply pw_below_drewN|apply below_drew1|refine below_set ?_ GE109.out)|exact HB.out)):p:=h
theorem zq6 {p:Prop} (h:p:=by repeat (first|exact (Kd.C_below HR0_0.out HB.out)|(with_reducible refine Kd.C_alloc ?_ _)|(with_reducible refine Kd.C_drewN ?_ _)|(with_reducible refine Kd.C_drew ?_))):p:=h
theorem zq7 {p:Prop} (h:p:=by repeat (first|exact (Kd.C_below HR0_1.out HB.out)|(with_reducible refine Kd.C_alloc ?_ _)|(with_reducible refine Kd.C_drewN ?_ _)|(with_reducible refine Kd.C_drew ?_))):p:=h
theorem zq8 {p:Prop} (h:p:=by (with_reducible repeat (first|refine blk_drewN ?_ _|refine blk_drew ?_|refine blk_alloc ?_ _));exact BK109.out):p:=h
theorem zq9 {p:Prop} (h:p:=by first|(with_reducible assumption)|assumption):p:=h
theorem zq10 {p:Prop} (h:p:=by (with_reducible repeat (first|apply Kd.R_alloc|apply Kd.R_drewN|apply Kd.R_drew));exact HO_13.out):p:=h
theorem zq11 {p:Prop} (h:p:=by (with_reducible repeat (first|apply Kd.R_alloc|apply Kd.R_drewN|apply Kd.R_drew));exact HO_110000.out):p:=h
theorem zq12 {p:Prop} (h:p:=by repeat (first|exact (Kd.C_below HR0.out HB.out)|(with_reducible refine Kd.C_alloc ?_ _)|(with_reducible refine Kd.C_drewN ?_ _)|(with_reducible refine Kd.C_drew ?_))):p:=h
theorem zq13 {p:Prop} (h:p:=by (with_reducible repeat (first|apply Kd.S_alloc|apply Kd.S_drewN|apply Kd.S_drew));exact HO_110001.out):p:=h
theorem zq14 {p:Prop} (h:p:=by repeat (first|exact (Kd.C_below HR1.out HB.out)|(with_reducible refine Kd.C_alloc ?_ _)|(with_reducible refine Kd.C_drewN ?_ _)|(with_reducible refine Kd.C_drew ?_))):p:=h
theorem zq15 {p:Prop} (h:p:=by first|(go_simp;done)|(go_simp;rfl)):p:=h
theorem zq16 {p:Prop} (h:p:=by kernel_rfl):p:=h
theorem zq17 {p:Prop} (h:p:=by (with_reducible repeat (first|apply Kd.R_alloc|apply Kd.R_drewN|apply Kd.R_drew));exact HO_15.out):p:=h
theorem zq18 {p:Prop} (h:p:=by repeat (first|exact (Kd.R_reads' HO_110000.out).2.2|(with_reducible refine Kd.C_alloc ?_ _)|(with_reducible refine Kd.C_drewN ?_ _)|(with_reducible refine Kd.C_drew ?_))):p:=h
theorem zq19 {p:Prop} (h:p:=by repeat (first|exact (Kd.S_reads' HO_110001.out).2.2|(with_reducible refine Kd.C_alloc ?_ _)|(with_reducible refine Kd.C_drewN ?_ _)|(with_reducible refine Kd.C_drew ?_))):p:=h
theorem zq20 {p:Prop} (h:p:=by repeat (first|(with_reducible first|exact HK.out|apply KeepBut.set_|apply keep_drewN|apply keep_drew|apply keep_alloc|refine keep_far ?_ GW101.out _|refine keep_far ?_ GW102.out _)|exact HK.out)):p:=h
theorem zq21 {p:Prop} (h:p:=by repeat (first|exact (Kd.R_reads' HO161.out).2.2|(with_reducible refine Kd.C_alloc ?_ _)|(with_reducible refine Kd.C_drewN ?_ _)|(with_reducible refine Kd.C_drew ?_))):p:=h
theorem zq22 {p:Prop} (h:p:=by (with_reducible repeat (first|apply Kd.R_alloc|apply Kd.R_drewN|apply Kd.R_drew));exact HO_25.out):p:=h
theorem zq23 {p:Prop} (h:p:=by repeat (first|exact HR101_0.out|(with_reducible refine Kd.C_alloc ?_ _)|(with_reducible refine Kd.C_drewN ?_ _)|(with_reducible refine Kd.C_drew ?_))):p:=h
theorem zq24 {p:Prop} (h:p:=by repeat (first|(with_reducible first|exact HK.out|apply KeepBut.set_|apply keep_drewN|apply keep_drew|apply keep_alloc)|exact HK.out)):p:=h
theorem zq25 {p:Prop} (h:p:=by repeat (first|(with_reducible first|exact HI0.out|apply IsS125.alloc|apply IsS125.drewN|apply IsS125.drew|apply IsS125.set_1|apply IsS125.set_2|refine IsS125.far ?_ NB0_101.out _|refine IsS125.far ?_ NB0_102.out _)|exact HI0.out)):p:=h
theorem zq26 {p:Prop} (h:p:=by repeat (first|(with_reducible first|exact HB.out|apply below_alloc|apply pw_below_drewN|apply below_drew1|refine below_set ?_ (IsS125.ge HI0.out)|refine below_set ?_ GE101.out|refine below_set ?_ GE102.out)|exact HB.out)):p:=h
theorem zq27 {p:Prop} (h:p:=by repeat (first|(with_reducible first|exact HI0.out|apply IsS125.alloc|apply IsS125.drewN|apply IsS125.drew|apply IsS125.set_1|apply IsS125.set_2)|exact HI0.out)):p:=h
theorem zq28 {p:Prop} (h:p:=by repeat (first|exact HR0.out|(with_reducible refine Kd.C_alloc ?_ _)|(with_reducible refine Kd.C_drewN ?_ _)|(with_reducible refine Kd.C_drew ?_))):p:=h
theorem zq29 {p:Prop} (h:p:=by repeat (first|(with_reducible first|exact HB.out|apply below_alloc|apply pw_below_drewN|apply below_drew1|refine below_set ?_ (IsS125.ge HI0.out))|exact HB.out)):p:=h
theorem zq30 {p:Prop} (h:p:=by repeat (first|exact (Kd.R_reads' HO_13.out).2.2|(with_reducible refine Kd.C_alloc ?_ _)|(with_reducible refine Kd.C_drewN ?_ _)|(with_reducible refine Kd.C_drew ?_))):p:=h
theorem zq31 {p:Prop} (h:p:=by repeat (first|exact (Kd.R_reads' HO108.out).2.2|(with_reducible refine Kd.C_alloc ?_ _)|(with_reducible refine Kd.C_drewN ?_ _)|(with_reducible refine Kd.C_drew ?_))):p:=h
theorem zq32 {p:Prop} (h:p:=by simp only [putAll,Act.put,List.setIfInBounds_toArray,List.set_cons_zero,List.set_cons_succ]):p:=h
theorem zq33 {p:Prop} (h:p:=by (with_reducible repeat (first|apply Kd.R_alloc|apply Kd.R_drewN|apply Kd.R_drew));exact HO161.out):p:=h
theorem zq34 {p:Prop} (h:p:=by (with_reducible repeat (first|apply Kd.R_alloc|apply Kd.R_drewN|apply Kd.R_drew));exact HO132.out):p:=h
theorem zq35 {p:Prop} (h:p:=by repeat (first|exact (Kd.R_reads' HO_25.out).2.2|(with_reducible refine Kd.C_alloc ?_ _)|(with_reducible refine Kd.C_drewN ?_ _)|(with_reducible refine Kd.C_drew ?_))):p:=h
theorem zq36 {p:Prop} (h:p:=by repeat (first|exact (Kd.R_reads' HO_15.out).2.2|(with_reducible refine Kd.C_alloc ?_ _)|(with_reducible refine Kd.C_drewN ?_ _)|(with_reducible refine Kd.C_drew ?_))):p:=h
theorem zq37 {p:Prop} (h:p:=by (with_reducible repeat (first|refine blk_drewN ?_ _|refine blk_drew ?_|refine blk_alloc ?_ _));exact BK102.out):p:=h
theorem zq38 {p:Prop} (h:p:=by repeat (first|exact HR1.out|(with_reducible refine Kd.C_alloc ?_ _)|(with_reducible refine Kd.C_drewN ?_ _)|(with_reducible refine Kd.C_drew ?_))):p:=h
theorem zq39 {p:Prop} (h:p:=by (with_reducible repeat (first|apply Kd.S_alloc|apply Kd.S_drewN|apply Kd.S_drew));exact HO108.out):p:=h
theorem zq40 {p:Prop} (h:p:=by (with_reducible repeat (first|apply Kd.R_alloc|apply Kd.R_drewN|apply Kd.R_drew));exact HO137.out):p:=h
theorem zq41 {p:Prop} (h:p:=by (with_reducible repeat (first|apply Kd.R_alloc|apply Kd.R_drewN|apply Kd.R_drew));exact HO105.out):p:=h
theorem zq42 {p:Prop} (h:p:=by (with_reducible repeat (first|apply Kd.R_alloc|apply Kd.R_drewN|apply Kd.R_drew));exact HO_103000.out):p:=h
theorem zq43 {p:Prop} (h:p:=by repeat (first|exact (Kd.R_reads' HO155.out).2.2|(with_reducible refine Kd.C_alloc ?_ _)|(with_reducible refine Kd.C_drewN ?_ _)|(with_reducible refine Kd.C_drew ?_))):p:=h
theorem zq44 {p:Prop} (h:p:=by repeat (first|exact (Kd.R_reads' HO113.out).2.2|(with_reducible refine Kd.C_alloc ?_ _)|(with_reducible refine Kd.C_drewN ?_ _)|(with_reducible refine Kd.C_drew ?_))):p:=h
theorem zq45 {p:Prop} (h:p:=by (with_reducible repeat (first|apply Kd.R_alloc|apply Kd.R_drewN|apply Kd.R_drew));exact HO_11.out):p:=h
theorem zq46 {p:Prop} (h:p:=by (with_reducible repeat (first|apply Kd.R_alloc|apply Kd.R_drewN|apply Kd.R_drew));exact HO_7.out):p:=h
theorem zq47 {p:Prop} (h:p:=by (with_reducible repeat (first|refine blk_drewN ?_ _|refine blk_drew ?_|refine blk_alloc ?_ _));exact BK1.out):p:=h
theorem zq48 {p:Prop} (h:p:=by (try simp only [List.map_toArray,List.map_cons,List.map_nil]);first|done|(rw [show y142.length=y130.length from (Kd.R_reads' HO132.out).1.symm] <;> rfl)|rfl|(simp only [List.length_drop,List.length_take];rfl)):p:=h
theorem zq49 {p:Prop} (h:p:=by repeat (first|(with_reducible first|exact HB.out|apply below_alloc|apply pw_below_drewN|apply below_drew1|refine below_set ?_ (IsS125.ge HI105.out)|refine below_set ?_ GE101.out)|exact HB.out)):p:=h
theorem zq50 {p:Prop} (h:p:=by (with_reducible repeat (first|apply Kd.S_alloc|apply Kd.S_drewN|apply Kd.S_drew));exact (Kd.S_mono (Kd.S_far (p:=⟨go53,(t133:Int).toNat * 6 + (t134:Int).toNat,none⟩) (Kd.S_types HO_110001.out (by first|exact GG53.out|exact Exists.choose_spec (Kd.R_typed HO132.out _ rfl)) (by decide)) (fun _ hk=>hk.2) (.int .u8 ((t141) % 256))) (fun _ h_=>h_.1))):p:=h
theorem zq51 {p:Prop} (h:p:=by (with_reducible repeat (first|apply Kd.R_alloc|apply Kd.R_drewN|apply Kd.R_drew));exact (Kd.R_mono (Kd.R_far (p:=⟨go53,(t133:Int).toNat * 6 + (t134:Int).toNat,none⟩) (Kd.R_types HO_110000.out (by first|exact GG53.out|exact Exists.choose_spec (Kd.R_typed HO132.out _ rfl)) (by decide)) (fun _ hk=>hk.2) (.int .u8 ((t141) % 256))) (fun _ h_=>h_.1))):p:=h
theorem zq52 {p:Prop} (h:p:=by repeat (first|(with_reducible first|exact HK.out|apply KeepBut.set_|apply keep_drewN|apply keep_drew|apply keep_alloc|refine keep_far ?_ GW101.out _)|exact HK.out)):p:=h
theorem zq53 {p:Prop} (h:p:=by repeat (first|exact (Kd.C_below HR105_0.out HB.out)|(with_reducible refine Kd.C_alloc ?_ _)|(with_reducible refine Kd.C_drewN ?_ _)|(with_reducible refine Kd.C_drew ?_))):p:=h
theorem zq54 {p:Prop} (h:p:=by repeat (first|exact (Kd.S_reads' HO108.out).2.2|(with_reducible refine Kd.C_alloc ?_ _)|(with_reducible refine Kd.C_drewN ?_ _)|(with_reducible refine Kd.C_drew ?_))):p:=h
theorem zq55 {p:Prop} (h:p:=by repeat (first|exact (Kd.R_reads' HO_11.out).2.2|(with_reducible refine Kd.C_alloc ?_ _)|(with_reducible refine Kd.C_drewN ?_ _)|(with_reducible refine Kd.C_drew ?_))):p:=h
theorem zq56 {p:Prop} (h:p:=by repeat (first|exact (Kd.R_reads' HO132.out).2.2|(with_reducible refine Kd.C_alloc ?_ _)|(with_reducible refine Kd.C_drewN ?_ _)|(with_reducible refine Kd.C_drew ?_))):p:=h
theorem zq57 {p:Prop} (h:p:=by repeat (first|exact (Kd.R_reads' HO105.out).2.2|(with_reducible refine Kd.C_alloc ?_ _)|(with_reducible refine Kd.C_drewN ?_ _)|(with_reducible refine Kd.C_drew ?_))):p:=h
theorem zq58 {p:Prop} (h:p:=by (with_reducible repeat (first|apply Kd.S_alloc|apply Kd.S_drewN|apply Kd.S_drew));exact (Kd.S_mono (Kd.S_far (p:=⟨gb109,1,none⟩) (Kd.S_far (p:=⟨gb109,0,none⟩) (Kd.S_types HO108.out BK109.out (by decide)) (fun _ hk=>hk.2) (.slice Ao30 t103.length co30)) (fun _ hk=>hk.2) (.slice Ao32 t106.length co32)) (fun _ h_=>h_.1))):p:=h
theorem zq59 {p:Prop} (h:p:=by (with_reducible repeat (first|apply Kd.S_alloc|apply Kd.S_drewN|apply Kd.S_drew));exact (Kd.S_mono (Kd.S_far (p:=⟨gb109,1,none⟩) (Kd.S_far (p:=⟨gb109,0,none⟩) (Kd.S_types HO108.out BK109.out (by decide)) (fun _ hk=>hk.2) (.slice Ao15 t103.length co15)) (fun _ hk=>hk.2) (.slice Ao17 t106.length co17)) (fun _ h_=>h_.1))):p:=h
theorem zq60 {p:Prop} (h:p:=by (with_reducible repeat (first|apply Kd.R_alloc|apply Kd.R_drewN|apply Kd.R_drew));exact (Kd.R_mono (Kd.R_far (p:=⟨gb109,1,none⟩) (Kd.R_far (p:=⟨gb109,0,none⟩) (Kd.R_types HO105.out BK109.out (by decide)) (fun _ hk=>hk.2) (.slice Ao30 t103.length co30)) (fun _ hk=>hk.2) (.slice Ao32 t106.length co32)) (fun _ h_=>h_.1))):p:=h
theorem zq61 {p:Prop} (h:p:=by (with_reducible repeat (first|apply Kd.R_alloc|apply Kd.R_drewN|apply Kd.R_drew));exact (Kd.R_mono (Kd.R_far (p:=⟨gb109,1,none⟩) (Kd.R_far (p:=⟨gb109,0,none⟩) (Kd.R_types HO105.out BK109.out (by decide)) (fun _ hk=>hk.2) (.slice Ao15 t103.length co15)) (fun _ hk=>hk.2) (.slice Ao17 t106.length co17)) (fun _ h_=>h_.1))):p:=h
theorem zq62 {p:Prop} (h:p:=by repeat (first|exact HR102_0.out|(with_reducible refine Kd.C_alloc ?_ _)|(with_reducible refine Kd.C_drewN ?_ _)|(with_reducible refine Kd.C_drew ?_))):p:=h
theorem zq63 {p:Prop} (h:p:=by (with_reducible repeat (first|apply Kd.R_alloc|apply Kd.R_drewN|apply Kd.R_drew));exact HO140.out):p:=h
theorem zq64 {p:Prop} (h:p:=by rw [HLN.out];exact HIT.out):p:=h
theorem zq65 {p:Prop} (h:p:=by (with_reducible repeat (first|apply Kd.R_alloc|apply Kd.R_drewN|apply Kd.R_drew));exact HO_8.out):p:=h
theorem zq66 {p:Prop} (h:p:=by rw [HCL.out];omega):p:=h
theorem zq67 {p:Prop} (h:p:=by rw [List.length_replicate];exact HIT.out):p:=h
theorem zq68 {p:Prop} (h:p:=by rw [show y142.length=y130.length from (Kd.R_reads' HO132.out).1.symm];exact (Kd.R_reads' HO132.out).2.1):p:=h
theorem zq69 {p:Prop} (h:p:=by first|rfl|(go_simp;done)):p:=h
theorem zq70 {p:Prop} (h:p:=by repeat (first|(with_reducible first|exact HB.out|apply below_alloc|apply pw_below_drewN|apply below_drew1|refine below_set ?_ GE1.out|refine below_set ?_ GE2.out)|exact HB.out)):p:=h
theorem zq71 {p:Prop} (h:p:=by simpa [nums,HLN.out] using HIT.out):p:=h
theorem zq72 {p:Prop} (h:p:=by rw [HLN.out,List.length_replicate]):p:=h
theorem zq73 {p:Prop} (h:p:=by repeat (first|exact (Kd.R_reads' HO_46.out).2.2|(with_reducible refine Kd.C_alloc ?_ _)|(with_reducible refine Kd.C_drewN ?_ _)|(with_reducible refine Kd.C_drew ?_))):p:=h
theorem zq74 {p:Prop} (h:p:=by repeat (first|exact (Kd.R_reads' HO151.out).2.2|(with_reducible refine Kd.C_alloc ?_ _)|(with_reducible refine Kd.C_drewN ?_ _)|(with_reducible refine Kd.C_drew ?_))):p:=h
theorem zq75 {p:Prop} (h:p:=by repeat (first|exact (Kd.R_reads' HO117.out).2.2|(with_reducible refine Kd.C_alloc ?_ _)|(with_reducible refine Kd.C_drewN ?_ _)|(with_reducible refine Kd.C_drew ?_))):p:=h
theorem zq76 {p:Prop} (h:p:=by (with_reducible repeat (first|apply Kd.S_alloc|apply Kd.S_drewN|apply Kd.S_drew));exact Kd.S_mono HO_110001.out (fun _ hk=>hk.2)):p:=h
theorem zq77 {p:Prop} (h:p:=by repeat (first|(with_reducible first|exact HBW.out|apply below_alloc|apply pw_below_drewN|apply below_drew1)|exact HBW.out)):p:=h
theorem zq78 {p:Prop} (h:p:=by (with_reducible repeat (first|apply Kd.R_alloc|apply Kd.R_drewN|apply Kd.R_drew));exact Kd.R_mono HO_13.out (fun _ hk=>hk.2)):p:=h
theorem zq79 {p:Prop} (h:p:=by rw [HFL.out];exact HIT.out):p:=h
theorem zq80 {p:Prop} (h:p:=by (with_reducible repeat (first|refine blk_drewN ?_ _|refine blk_drew ?_|refine blk_alloc ?_ _));exact BK2.out):p:=h
theorem zq81 {p:Prop} (h:p:=by (with_reducible repeat (first|apply Kd.S_alloc|apply Kd.S_drewN|apply Kd.S_drew));exact HO_103001.out):p:=h
theorem zq82 {p:Prop} (h:p:=by (try simp only [List.map_toArray,List.map_cons,List.map_nil]);first|done|rfl):p:=h
theorem zq83 {p:Prop} (h:p:=by repeat (first|exact (Kd.C_below HR0_1.out zq1)|(with_reducible refine Kd.C_alloc ?_ _)|(with_reducible refine Kd.C_drewN ?_ _)|(with_reducible refine Kd.C_drew ?_))):p:=h
theorem zq84 {p:Prop} (h:p:=by repeat (first|exact (Kd.C_below HR0_0.out zq1)|(with_reducible refine Kd.C_alloc ?_ _)|(with_reducible refine Kd.C_drewN ?_ _)|(with_reducible refine Kd.C_drew ?_))):p:=h
theorem zq85 {p:Prop} (h:p:=by repeat (first|exact (Kd.C_below HR1.out zq1)|(with_reducible refine Kd.C_alloc ?_ _)|(with_reducible refine Kd.C_drewN ?_ _)|(with_reducible refine Kd.C_drew ?_))):p:=h
theorem zq86 {p:Prop} (h:p:=by have h_:(t133:Int) < ((y130.length:Int):Int):=of_decide_eq_true zq9;first|exact h_|(have e_:=(Kd.R_reads' HO132.out).1;omega)|simpa using h_):p:=h
theorem zq87 {p:Prop} (h:p:=by first|rfl|(simp only [IntKind.wrap_i64,wrap64];done)|(simp;done)):p:=h
theorem zq88 {p:Prop} (h:p:=by have a_:(0:Int)≤t134:=of_decide_eq_true zq9;have b_:(t134:Int) < 6:=of_decide_eq_true zq9;omega):p:=h
end Go.Proofs.Ytgfknljhogfeaaa.G
end
section
namespace Go.Proofs.Ytgfknljhogfeaaa.G
open Go.RowKit Go.Proofs.YtgfknljhogfeaaaW.PrintWords Go.Proofs.YtgfknljhogfeaaaW.PrintLast Go.Proofs.YtgfknljhogfeaaaW.PrintMore
attribute [local go_sem] max2_int min2_int max_two min_two max_three min_three max_four min_four
set_option linter.unusedVariables false
set_option linter.unusedSimpArgs false
def errW:Option Int→Value
  | none=>.nilIface
  | some c=>.iface 0 (.int .i64 c)
theorem errW_none:errW none=.nilIface:=rfl
theorem errW_some (c:Int):errW (some c)=.iface 0 (.int .i64 c):=rfl
theorem info2:(Try.prog.info? 2).map (fun i=>(i.zero,i.size,i.bytes))=some (some (.int .i64 0),1,8):=by kernel_rfl
theorem info5:(Try.prog.info? 5).map (fun i=>(i.zero,i.size,i.bytes))=some (some (.int .u8 0),1,1):=by kernel_rfl
theorem info61:(Try.prog.info? 61).map (fun i=>(i.zero,i.size,i.bytes))=some (some (.agg #[(.int .u8 0),(.int .u8 0),(.int .u8 0),(.int .u8 0),(.int .u8 0),(.int .u8 0)]),6,6):=by kernel_rfl
theorem info68:(Try.prog.info? 68).map (fun i=>(i.zero,i.size,i.bytes))=some (some (.agg #[(.int .u8 0),(.int .u8 0),(.int .u8 0),(.int .u8 0),(.int .u8 0),(.int .u8 0),(.int .u8 0),(.int .u8 0),(.int .u8 0),(.int .u8 0),(.int .u8 0),(.int .u8 0),(.int .u8 0),(.int .u8 0),(.int .u8 0),(.int .u8 0),(.int .u8 0),(.int .u8 0),(.int .u8 0),(.int .u8 0),(.int .u8 0),(.int .u8 0),(.int .u8 0),(.int .u8 0)]),24,24):=by kernel_rfl
theorem info79:(Try.prog.info? 79).map (fun i=>(i.zero,i.size,i.bytes))=some (some (.slice none 0 0),1,24):=by kernel_rfl
structure S67 where
  f0:Int
  f1:Int
  f2:Int
  f3:Int
  f4:Int
  f5:Int
  f6:Int
  f7:Int
  f8:Int
  f9:Int
  f10:Int
  f11:Int
  f12:Int
  f13:Int
  f14:Int
  f15:Int
  f16:Int
  f17:Int
  f18:Int
  f19:Int
  f20:Int
  f21:Int
  f22:Int
  f23:Int
def rd_L2 (xs:List (List Int)) (i:Int):(List Int):=xs.getD i.toNat ([]:List Int)
theorem at_L2 {w:World} {A:Option Addr} {n:Nat} {xs:List (List Int)} (h:Kd.C (Kd.slice 5 (Kd.int .u8)) w A n xs) (i:Int) (h0:0≤i) (h1:i < n):∃ ad A0 c0,A=some ad∧w.cell? (ad.add i.toNat)=some (.slice A0 (rd_L2 xs i).length c0)∧(rd_L2 xs i).length≤c0∧(Kd.int .u8).C w A0 (rd_L2 xs i).length (rd_L2 xs i):=by
  obtain ⟨ad,c,e,_,hK,hc0⟩:=Kd.C_get h ([]:List Int) i h0 h1
  have hc:∀ j u,c[j]?=some u→w.cell? (ad.add (i.toNat * 1 + j))=some u:=hc0
  obtain ⟨A0,c0,rfl,l0,g0⟩:=hK
  exact ⟨ad,A0,c0,e,by have hq:=hc 0 _ rfl; rwa [Nat.mul_one,Nat.add_zero] at hq,l0,g0⟩
structure S68 where
  f0:Int
  f1:Int
  f2:Int
  f3:Int
  f4:Int
  f5:Int
  f6:Int
  f7:Int
  f8:Int
  f9:Int
  f10:Int
  f11:Int
  f12:Int
  f13:Int
  f14:Int
  f15:Int
  f16:Int
  f17:Int
  f18:Int
  f19:Int
  f20:Int
  f21:Int
  f22:Int
  f23:Int
def z68:S68:=⟨(0:Int),(0:Int),(0:Int),(0:Int),(0:Int),(0:Int),(0:Int),(0:Int),(0:Int),(0:Int),(0:Int),(0:Int),(0:Int),(0:Int),(0:Int),(0:Int),(0:Int),(0:Int),(0:Int),(0:Int),(0:Int),(0:Int),(0:Int),(0:Int)⟩
def k68:Kd S68:=Kd.iso (Kd.pair (Kd.int .u8) (Kd.pair (Kd.int .u8) (Kd.pair (Kd.int .u8) (Kd.pair (Kd.int .u8) (Kd.pair (Kd.int .u8) (Kd.pair (Kd.int .u8) (Kd.pair (Kd.int .u8) (Kd.pair (Kd.int .u8) (Kd.pair (Kd.int .u8) (Kd.pair (Kd.int .u8) (Kd.pair (Kd.int .u8) (Kd.pair (Kd.int .u8) (Kd.pair (Kd.int .u8) (Kd.pair (Kd.int .u8) (Kd.pair (Kd.int .u8) (Kd.pair (Kd.int .u8) (Kd.pair (Kd.int .u8) (Kd.pair (Kd.int .u8) (Kd.pair (Kd.int .u8) (Kd.pair (Kd.int .u8) (Kd.pair (Kd.int .u8) (Kd.pair (Kd.int .u8) (Kd.pair (Kd.int .u8) (Kd.int .u8)))))))))))))))))))))))) (fun x:S68=>(x.f0,x.f1,x.f2,x.f3,x.f4,x.f5,x.f6,x.f7,x.f8,x.f9,x.f10,x.f11,x.f12,x.f13,x.f14,x.f15,x.f16,x.f17,x.f18,x.f19,x.f20,x.f21,x.f22,x.f23))
theorem k68_open {w:World} {x:S68} {cs:List Value} (h:k68.K w x cs):cs=[.int .u8 x.f0,.int .u8 x.f1,.int .u8 x.f2,.int .u8 x.f3,.int .u8 x.f4,.int .u8 x.f5,.int .u8 x.f6,.int .u8 x.f7,.int .u8 x.f8,.int .u8 x.f9,.int .u8 x.f10,.int .u8 x.f11,.int .u8 x.f12,.int .u8 x.f13,.int .u8 x.f14,.int .u8 x.f15,.int .u8 x.f16,.int .u8 x.f17,.int .u8 x.f18,.int .u8 x.f19,.int .u8 x.f20,.int .u8 x.f21,.int .u8 x.f22,.int .u8 x.f23]:=by
  obtain ⟨_,_,rfl,rfl,⟨_,_,rfl,rfl,⟨_,_,rfl,rfl,⟨_,_,rfl,rfl,⟨_,_,rfl,rfl,⟨_,_,rfl,rfl,⟨_,_,rfl,rfl,⟨_,_,rfl,rfl,⟨_,_,rfl,rfl,⟨_,_,rfl,rfl,⟨_,_,rfl,rfl,⟨_,_,rfl,rfl,⟨_,_,rfl,rfl,⟨_,_,rfl,rfl,⟨_,_,rfl,rfl,⟨_,_,rfl,rfl,⟨_,_,rfl,rfl,⟨_,_,rfl,rfl,⟨_,_,rfl,rfl,⟨_,_,rfl,rfl,⟨_,_,rfl,rfl,⟨_,_,rfl,rfl,⟨_,_,rfl,rfl,rfl⟩⟩⟩⟩⟩⟩⟩⟩⟩⟩⟩⟩⟩⟩⟩⟩⟩⟩⟩⟩⟩⟩⟩:=h
  exact rfl
theorem k68_mkM (w:World) (base:Nat) (ok:Nat→Prop) (x:S68)  : k68.M w base ok x [.int .u8 x.f0,.int .u8 x.f1,.int .u8 x.f2,.int .u8 x.f3,.int .u8 x.f4,.int .u8 x.f5,.int .u8 x.f6,.int .u8 x.f7,.int .u8 x.f8,.int .u8 x.f9,.int .u8 x.f10,.int .u8 x.f11,.int .u8 x.f12,.int .u8 x.f13,.int .u8 x.f14,.int .u8 x.f15,.int .u8 x.f16,.int .u8 x.f17,.int .u8 x.f18,.int .u8 x.f19,.int .u8 x.f20,.int .u8 x.f21,.int .u8 x.f22,.int .u8 x.f23]:=⟨[.int .u8 x.f0],[.int .u8 x.f1,.int .u8 x.f2,.int .u8 x.f3,.int .u8 x.f4,.int .u8 x.f5,.int .u8 x.f6,.int .u8 x.f7,.int .u8 x.f8,.int .u8 x.f9,.int .u8 x.f10,.int .u8 x.f11,.int .u8 x.f12,.int .u8 x.f13,.int .u8 x.f14,.int .u8 x.f15,.int .u8 x.f16,.int .u8 x.f17,.int .u8 x.f18,.int .u8 x.f19,.int .u8 x.f20,.int .u8 x.f21,.int .u8 x.f22,.int .u8 x.f23],rfl,rfl,⟨[.int .u8 x.f1],[.int .u8 x.f2,.int .u8 x.f3,.int .u8 x.f4,.int .u8 x.f5,.int .u8 x.f6,.int .u8 x.f7,.int .u8 x.f8,.int .u8 x.f9,.int .u8 x.f10,.int .u8 x.f11,.int .u8 x.f12,.int .u8 x.f13,.int .u8 x.f14,.int .u8 x.f15,.int .u8 x.f16,.int .u8 x.f17,.int .u8 x.f18,.int .u8 x.f19,.int .u8 x.f20,.int .u8 x.f21,.int .u8 x.f22,.int .u8 x.f23],rfl,rfl,⟨[.int .u8 x.f2],[.int .u8 x.f3,.int .u8 x.f4,.int .u8 x.f5,.int .u8 x.f6,.int .u8 x.f7,.int .u8 x.f8,.int .u8 x.f9,.int .u8 x.f10,.int .u8 x.f11,.int .u8 x.f12,.int .u8 x.f13,.int .u8 x.f14,.int .u8 x.f15,.int .u8 x.f16,.int .u8 x.f17,.int .u8 x.f18,.int .u8 x.f19,.int .u8 x.f20,.int .u8 x.f21,.int .u8 x.f22,.int .u8 x.f23],rfl,rfl,⟨[.int .u8 x.f3],[.int .u8 x.f4,.int .u8 x.f5,.int .u8 x.f6,.int .u8 x.f7,.int .u8 x.f8,.int .u8 x.f9,.int .u8 x.f10,.int .u8 x.f11,.int .u8 x.f12,.int .u8 x.f13,.int .u8 x.f14,.int .u8 x.f15,.int .u8 x.f16,.int .u8 x.f17,.int .u8 x.f18,.int .u8 x.f19,.int .u8 x.f20,.int .u8 x.f21,.int .u8 x.f22,.int .u8 x.f23],rfl,rfl,⟨[.int .u8 x.f4],[.int .u8 x.f5,.int .u8 x.f6,.int .u8 x.f7,.int .u8 x.f8,.int .u8 x.f9,.int .u8 x.f10,.int .u8 x.f11,.int .u8 x.f12,.int .u8 x.f13,.int .u8 x.f14,.int .u8 x.f15,.int .u8 x.f16,.int .u8 x.f17,.int .u8 x.f18,.int .u8 x.f19,.int .u8 x.f20,.int .u8 x.f21,.int .u8 x.f22,.int .u8 x.f23],rfl,rfl,⟨[.int .u8 x.f5],[.int .u8 x.f6,.int .u8 x.f7,.int .u8 x.f8,.int .u8 x.f9,.int .u8 x.f10,.int .u8 x.f11,.int .u8 x.f12,.int .u8 x.f13,.int .u8 x.f14,.int .u8 x.f15,.int .u8 x.f16,.int .u8 x.f17,.int .u8 x.f18,.int .u8 x.f19,.int .u8 x.f20,.int .u8 x.f21,.int .u8 x.f22,.int .u8 x.f23],rfl,rfl,⟨[.int .u8 x.f6],[.int .u8 x.f7,.int .u8 x.f8,.int .u8 x.f9,.int .u8 x.f10,.int .u8 x.f11,.int .u8 x.f12,.int .u8 x.f13,.int .u8 x.f14,.int .u8 x.f15,.int .u8 x.f16,.int .u8 x.f17,.int .u8 x.f18,.int .u8 x.f19,.int .u8 x.f20,.int .u8 x.f21,.int .u8 x.f22,.int .u8 x.f23],rfl,rfl,⟨[.int .u8 x.f7],[.int .u8 x.f8,.int .u8 x.f9,.int .u8 x.f10,.int .u8 x.f11,.int .u8 x.f12,.int .u8 x.f13,.int .u8 x.f14,.int .u8 x.f15,.int .u8 x.f16,.int .u8 x.f17,.int .u8 x.f18,.int .u8 x.f19,.int .u8 x.f20,.int .u8 x.f21,.int .u8 x.f22,.int .u8 x.f23],rfl,rfl,⟨[.int .u8 x.f8],[.int .u8 x.f9,.int .u8 x.f10,.int .u8 x.f11,.int .u8 x.f12,.int .u8 x.f13,.int .u8 x.f14,.int .u8 x.f15,.int .u8 x.f16,.int .u8 x.f17,.int .u8 x.f18,.int .u8 x.f19,.int .u8 x.f20,.int .u8 x.f21,.int .u8 x.f22,.int .u8 x.f23],rfl,rfl,⟨[.int .u8 x.f9],[.int .u8 x.f10,.int .u8 x.f11,.int .u8 x.f12,.int .u8 x.f13,.int .u8 x.f14,.int .u8 x.f15,.int .u8 x.f16,.int .u8 x.f17,.int .u8 x.f18,.int .u8 x.f19,.int .u8 x.f20,.int .u8 x.f21,.int .u8 x.f22,.int .u8 x.f23],rfl,rfl,⟨[.int .u8 x.f10],[.int .u8 x.f11,.int .u8 x.f12,.int .u8 x.f13,.int .u8 x.f14,.int .u8 x.f15,.int .u8 x.f16,.int .u8 x.f17,.int .u8 x.f18,.int .u8 x.f19,.int .u8 x.f20,.int .u8 x.f21,.int .u8 x.f22,.int .u8 x.f23],rfl,rfl,⟨[.int .u8 x.f11],[.int .u8 x.f12,.int .u8 x.f13,.int .u8 x.f14,.int .u8 x.f15,.int .u8 x.f16,.int .u8 x.f17,.int .u8 x.f18,.int .u8 x.f19,.int .u8 x.f20,.int .u8 x.f21,.int .u8 x.f22,.int .u8 x.f23],rfl,rfl,⟨[.int .u8 x.f12],[.int .u8 x.f13,.int .u8 x.f14,.int .u8 x.f15,.int .u8 x.f16,.int .u8 x.f17,.int .u8 x.f18,.int .u8 x.f19,.int .u8 x.f20,.int .u8 x.f21,.int .u8 x.f22,.int .u8 x.f23],rfl,rfl,⟨[.int .u8 x.f13],[.int .u8 x.f14,.int .u8 x.f15,.int .u8 x.f16,.int .u8 x.f17,.int .u8 x.f18,.int .u8 x.f19,.int .u8 x.f20,.int .u8 x.f21,.int .u8 x.f22,.int .u8 x.f23],rfl,rfl,⟨[.int .u8 x.f14],[.int .u8 x.f15,.int .u8 x.f16,.int .u8 x.f17,.int .u8 x.f18,.int .u8 x.f19,.int .u8 x.f20,.int .u8 x.f21,.int .u8 x.f22,.int .u8 x.f23],rfl,rfl,⟨[.int .u8 x.f15],[.int .u8 x.f16,.int .u8 x.f17,.int .u8 x.f18,.int .u8 x.f19,.int .u8 x.f20,.int .u8 x.f21,.int .u8 x.f22,.int .u8 x.f23],rfl,rfl,⟨[.int .u8 x.f16],[.int .u8 x.f17,.int .u8 x.f18,.int .u8 x.f19,.int .u8 x.f20,.int .u8 x.f21,.int .u8 x.f22,.int .u8 x.f23],rfl,rfl,⟨[.int .u8 x.f17],[.int .u8 x.f18,.int .u8 x.f19,.int .u8 x.f20,.int .u8 x.f21,.int .u8 x.f22,.int .u8 x.f23],rfl,rfl,⟨[.int .u8 x.f18],[.int .u8 x.f19,.int .u8 x.f20,.int .u8 x.f21,.int .u8 x.f22,.int .u8 x.f23],rfl,rfl,⟨[.int .u8 x.f19],[.int .u8 x.f20,.int .u8 x.f21,.int .u8 x.f22,.int .u8 x.f23],rfl,rfl,⟨[.int .u8 x.f20],[.int .u8 x.f21,.int .u8 x.f22,.int .u8 x.f23],rfl,rfl,⟨[.int .u8 x.f21],[.int .u8 x.f22,.int .u8 x.f23],rfl,rfl,⟨[.int .u8 x.f22],[.int .u8 x.f23],rfl,rfl,rfl⟩⟩⟩⟩⟩⟩⟩⟩⟩⟩⟩⟩⟩⟩⟩⟩⟩⟩⟩⟩⟩⟩⟩
def rd_T68 (xs:List S68) (i:Int):S68:=xs.getD i.toNat z68
structure S60 where
  f0:Int
  f1:Int
  f2:Int
  f3:Int
  f4:Int
  f5:Int
structure S61 where
  f0:Int
  f1:Int
  f2:Int
  f3:Int
  f4:Int
  f5:Int
def z61:S61:=⟨(0:Int),(0:Int),(0:Int),(0:Int),(0:Int),(0:Int)⟩
def k61:Kd S61:=Kd.iso (Kd.pair (Kd.int .u8) (Kd.pair (Kd.int .u8) (Kd.pair (Kd.int .u8) (Kd.pair (Kd.int .u8) (Kd.pair (Kd.int .u8) (Kd.int .u8)))))) (fun x:S61=>(x.f0,x.f1,x.f2,x.f3,x.f4,x.f5))
theorem k61_open {w:World} {x:S61} {cs:List Value} (h:k61.K w x cs):cs=[.int .u8 x.f0,.int .u8 x.f1,.int .u8 x.f2,.int .u8 x.f3,.int .u8 x.f4,.int .u8 x.f5]:=by
  obtain ⟨_,_,rfl,rfl,⟨_,_,rfl,rfl,⟨_,_,rfl,rfl,⟨_,_,rfl,rfl,⟨_,_,rfl,rfl,rfl⟩⟩⟩⟩⟩:=h
  exact rfl
theorem k61_openM {w:World} {base:Nat} {ok:Nat→Prop} {x:S61} {cs:List Value} (h:k61.M w base ok x cs):cs=[.int .u8 x.f0,.int .u8 x.f1,.int .u8 x.f2,.int .u8 x.f3,.int .u8 x.f4,.int .u8 x.f5]:=by
  obtain ⟨_,_,rfl,rfl,⟨_,_,rfl,rfl,⟨_,_,rfl,rfl,⟨_,_,rfl,rfl,⟨_,_,rfl,rfl,rfl⟩⟩⟩⟩⟩:=h
  exact rfl
theorem k61_mkM (w:World) (base:Nat) (ok:Nat→Prop) (x:S61)  : k61.M w base ok x [.int .u8 x.f0,.int .u8 x.f1,.int .u8 x.f2,.int .u8 x.f3,.int .u8 x.f4,.int .u8 x.f5]:=⟨[.int .u8 x.f0],[.int .u8 x.f1,.int .u8 x.f2,.int .u8 x.f3,.int .u8 x.f4,.int .u8 x.f5],rfl,rfl,⟨[.int .u8 x.f1],[.int .u8 x.f2,.int .u8 x.f3,.int .u8 x.f4,.int .u8 x.f5],rfl,rfl,⟨[.int .u8 x.f2],[.int .u8 x.f3,.int .u8 x.f4,.int .u8 x.f5],rfl,rfl,⟨[.int .u8 x.f3],[.int .u8 x.f4,.int .u8 x.f5],rfl,rfl,⟨[.int .u8 x.f4],[.int .u8 x.f5],rfl,rfl,rfl⟩⟩⟩⟩⟩
def rd_T61 (xs:List S61) (i:Int):S61:=xs.getD i.toNat z61
theorem at_T61 {w:World} {A:Option Addr} {n:Nat} {xs:List S61} (h:Kd.C k61 w A n xs) (i:Int) (h0:0≤i) (h1:i < n):∃ ad , A=some ad∧w.cell? (ad.add (i.toNat * 6))=some (.int .u8 (rd_T61 xs i).f0)∧w.cell? ⟨(ad.add (i.toNat * 6)).block,(ad.add (i.toNat * 6)).off + 1,none⟩=some (.int .u8 (rd_T61 xs i).f1)∧w.cell? ⟨(ad.add (i.toNat * 6)).block,(ad.add (i.toNat * 6)).off + 2,none⟩=some (.int .u8 (rd_T61 xs i).f2)∧w.cell? ⟨(ad.add (i.toNat * 6)).block,(ad.add (i.toNat * 6)).off + 3,none⟩=some (.int .u8 (rd_T61 xs i).f3)∧w.cell? ⟨(ad.add (i.toNat * 6)).block,(ad.add (i.toNat * 6)).off + 4,none⟩=some (.int .u8 (rd_T61 xs i).f4)∧w.cell? ⟨(ad.add (i.toNat * 6)).block,(ad.add (i.toNat * 6)).off + 5,none⟩=some (.int .u8 (rd_T61 xs i).f5):=by
  obtain ⟨ad,c,e,_,hK,hc0⟩:=Kd.C_get h z61 i h0 h1
  have hc:∀ j u,c[j]?=some u→w.cell? (ad.add (i.toNat * 6 + j))=some u:=hc0
  obtain rfl:=k61_open hK
  exact ⟨ad,e,hc 0 _ rfl,by rw [← add_field _ _ 1 (by omega)]; exact hc 1 _ rfl,by rw [← add_field _ _ 2 (by omega)]; exact hc 2 _ rfl,by rw [← add_field _ _ 3 (by omega)]; exact hc 3 _ rfl,by rw [← add_field _ _ 4 (by omega)]; exact hc 4 _ rfl,by rw [← add_field _ _ 5 (by omega)]; exact hc 5 _ rfl⟩
def rd_L10 (xs:List (List S61)) (i:Int):(List S61):=xs.getD i.toNat ([]:List S61)
theorem at_L10 {w:World} {A:Option Addr} {n:Nat} {xs:List (List S61)} (h:Kd.C (Kd.slice 61 k61) w A n xs) (i:Int) (h0:0≤i) (h1:i < n):∃ ad A0 c0,A=some ad∧w.cell? (ad.add i.toNat)=some (.slice A0 (rd_L10 xs i).length c0)∧(rd_L10 xs i).length≤c0∧k61.C w A0 (rd_L10 xs i).length (rd_L10 xs i):=by
  obtain ⟨ad,c,e,_,hK,hc0⟩:=Kd.C_get h ([]:List S61) i h0 h1
  have hc:∀ j u,c[j]?=some u→w.cell? (ad.add (i.toNat * 1 + j))=some u:=hc0
  obtain ⟨A0,c0,rfl,l0,g0⟩:=hK
  exact ⟨ad,A0,c0,e,by have hq:=hc 0 _ rfl; rwa [Nat.mul_one,Nat.add_zero] at hq,l0,g0⟩
structure S33 where
  f0:(List S68)
  f1:(List (List Int))
structure S25 where
  f0:(List S67)
  f1:(List (List Int))
def idxP {α:Type} (p:α→Bool) (l:List α):Int:=match l.findIdx? p with|some i=>(i:Int)|none=>-1
theorem idxP_hit {α:Type} {p:α→Bool} {l:List α} {k:Nat} {y:α} (hy:l[k]?=some y) (hp:p y=true) (hn:∀ j x,j < k→l[j]?=some x→p x=false):idxP p l=(k:Int):=by
  have hk:k < l.length:=(List.getElem?_eq_some_iff.1 hy).1
  have e:l.findIdx? p=some k:=by
    rw [List.findIdx?_eq_some_iff_getElem]
    refine ⟨hk,?_,fun j hj=>?_⟩
    · rw [(List.getElem?_eq_some_iff.1 hy).2]; exact hp
    · have:=hn j l[j] hj (List.getElem?_eq_getElem (by omega))
      simp [this]
  simp [idxP,e]
theorem idxP_miss {α:Type} {p:α→Bool} {l:List α} (h:∀ x∈l,p x=false):idxP p l=-1:=by
  have e:l.findIdx? p=none:=by
    rw [List.findIdx?_eq_none_iff]
    exact h
  simp [idxP,e]
theorem idxP_nonneg {α:Type} (p:α→Bool) (l:List α):decide (0≤idxP p l)=l.any p:=by
  unfold idxP
  cases e:l.findIdx? p with
  | none =>
    rw [List.findIdx?_eq_none_iff] at e
    have:l.any p=false:=by rw [List.any_eq_false]; intro x hx; simp [e x hx]
    simp [this]
  | some i =>
    rw [List.findIdx?_eq_some_iff_getElem] at e
    obtain ⟨h,hp,_⟩:=e
    have:l.any p=true:=List.any_eq_true.2 ⟨l[i],List.getElem_mem h,hp⟩
    simp [this]
end Go.Proofs.Ytgfknljhogfeaaa.G
end

section
namespace Go.Proofs.Ytgfknljhogfeaaa.G
open Go.RowKit Go.Proofs.YtgfknljhogfeaaaW.PrintWords Go.Proofs.YtgfknljhogfeaaaW.PrintLast Go.Proofs.YtgfknljhogfeaaaW.PrintMore
attribute [local go_sem] max2_int min2_int max_two min_two max_three min_three max_four min_four
set_option linter.unusedVariables false
set_option linter.unusedSimpArgs false
def IsBox (k:IntKind) (t:Nat) (w:World) (b:Nat) (xs:List Int):Prop:=w.heap[b]?=some (.cells (nums k xs).toArray t (0,0))
section
variable {w W w1:World} {b b' t t':Nat} {k k':IntKind} {xs ys:List Int}
theorem box_at (h:IsBox k t w b xs) {j:Nat} (hj:j < xs.length):w.cell? ⟨b,j,none⟩=some (.int k xs[j]):=by
  rw [blk_cell h j]
  simp [nums,List.getElem?_eq_getElem hj]
theorem box_frozen (h:IsBox k t w b xs) (j:Nat):w.frozen? ⟨b,j,none⟩=false:=blk_frozen h j
theorem box_set (h:IsBox k t w b xs) (j:Nat) (v:Int):IsBox k t (w.setCell ⟨b,j,none⟩ (.int k v)) b (xs.set j v):=by
  refine blk_put h j _ ?_
  simp [nums,List.map_set]
theorem box_far (h:IsBox k t w b xs) {p:Addr} (hp:b≠p.block) (u:Value):IsBox k t (w.setCell p u) b xs:=blk_far h hp u
theorem box_below (h:IsBox k t w b xs) (hb:Below w.heap.size w w1):IsBox k t w1 b xs:=blk_below h hb
theorem box_lt (h:IsBox k t w b xs):b < w.heap.size:=blk_lt h
theorem box_row (h:IsBox k t w b xs) (ys:List Int):IsBox k t (w.setRow b (nums k ys).toArray) b ys:=setRow_heap w b _ _ t (0,0) h
theorem box_apart (h:IsBox k t w b xs) (hne:b≠b') (cs:Array Value):IsBox k t (w.setRow b' cs) b xs:=(setRow_other w b' b cs hne).trans h
theorem nums_one (k:IntKind) (xs:List Int):(nums k xs).toArray.all (·.oneCell')=true:=all_oneCell_toArray fun v hv=>by
  obtain ⟨x,_,rfl⟩:=List.mem_map.1 hv
  rfl
theorem box_C (h:IsBox k t w b xs) (hl:xs.length≤9223372036854775807):Kd.C (Kd.int k) w (some ⟨b,0,none⟩) xs.length xs:=by
  refine ⟨rfl,hl,fun _=>⟨_,rfl,fun j p hj=>⟨[.int k p],rfl,rfl,fun i u hu=>?_⟩⟩⟩
  obtain ⟨hjl,rfl⟩:=List.getElem?_eq_some_iff.1 hj
  rcases i with _|i
  · have e:(⟨b,0,none⟩:Addr).add (j * 1 + 0)=⟨b,j,none⟩:=by
      rw [Addr.add_mid]
      simp
    rw [show (Kd.int k).sz=1 from rfl,e,box_at h hjl]
    exact hu
  · simp at hu
theorem cells_C {ad:Addr} (h:∀ j:Nat,j < xs.length→w.cell? (ad.add j)=some (.int k (xs.getD j 0))) (hl:xs.length≤9223372036854775807):Kd.C (Kd.int k) w (some ad) xs.length xs:=by
  refine ⟨rfl,hl,fun _=>⟨_,rfl,fun j p hj=>⟨[.int k p],rfl,rfl,fun i u hu=>?_⟩⟩⟩
  obtain ⟨hjl,rfl⟩:=List.getElem?_eq_some_iff.1 hj
  rcases i with _|i
  · rw [show (Kd.int k).sz=1 from rfl,show j * 1 + 0=j by omega,h j hjl,List.getD_eq_getElem?_getD,List.getElem?_eq_getElem hjl]
    exact hu
  · simp at hu
theorem add_addA (a:Addr) (m n:Nat):(a.add m).add n=a.add (m + n):=by
  unfold Addr.add
  by_cases h1:m=0
  · subst h1
    simp
  · by_cases h2:n=0
    · subst h2
      simp [h1]
    · simp [h1,h2,Nat.add_assoc]
end
section
variable {P:Program} {ops:Array Oper} {Q:Exit→Act→World→Prop} {rest:List Oper} {o:Oper} {a:Act} {W:World} {k:IntKind} {b t:Nat} {xs ys:List Int}
theorem box_load (hgd:o.guard=none) {p:Operand} (ho:o.op=.load t p) (hx:a.eval p=.pointer (some ⟨b,0,none⟩)) (h:IsBox k t W b xs) {d:TypeDesc} (hu:P.underlying t=some d) (hd:(match d with|.struct _|.array _ _=>true|_=>false)=true) (hi:(P.info? t).map (·.size)=some xs.length)
    (hK:wpList P ops Q rest (a.put o.dst (.agg (nums k xs).toArray)) W):wpList P ops Q (o :: rest) a W:=by
  refine wpList_plain hgd fun K hk=>?_
  unfold Oper.wp execOp
  simp only [ho,hx,Instr.loadAt,Instr.sureAddr,Sem.run_bind,Sem.run_pure,Result.andThen_ok,run_loadVar_row W b t t _ (0,0) d h hu hd (by simpa [nums] using hi)]
  exact hk _ _ hK
theorem load_any (hgd:o.guard=none) {p:Operand} (ho:o.op=.load t p) {ad:Addr} (hx:a.eval p=.pointer (some ad)) {cs:List Value} (hc:∀ j v,cs[j]?=some v→W.cell? (ad.add j)=some v) {d:TypeDesc} (hu:P.underlying t=some d) (hd:(match d with|.struct _|.array _ _=>true|_=>false)=true) (hi:(P.info? t).map (·.size)=some cs.length)
    (hK:wpList P ops Q rest (a.put o.dst (.agg cs.toArray)) W):wpList P ops Q (o :: rest) a W:=by
  refine wpList_plain hgd fun K hk=>?_
  have hl:(loadCells ad cs.length).run P W=.ok cs.toArray W:=run_loadCells_list (P:=P) W ad cs hc
  have hv:(loadVar t ad).run P W=.ok (.agg cs.toArray) W:=by
    cases hq:P.info? t with
    | none=>simp [hq] at hi
    | some i =>
      have hs:i.size=cs.length:=by simpa [hq] using hi
      have hagg:(isAgg t).run P W=.ok true W:=by
        unfold isAgg
        rw [Sem.run_bind,run_underlying hu W]
        cases d <;> simp_all
      simp [loadVar,Sem.run_bind,hagg,sizeOf,typeInfo,hq,hs,hl]
  unfold Oper.wp execOp
  simp only [ho,hx,Instr.loadAt,Instr.sureAddr,Sem.run_bind,Sem.run_pure,Result.andThen_ok,hv]
  exact hk _ _ hK
theorem exec_load_any {p:Operand} (ho:o.op=.load t p) {ad:Addr} (hx:a.eval p=.pointer (some ad)) {cs:List Value} (hc:∀ j v,cs[j]?=some v→W.cell? (ad.add j)=some v) {d:TypeDesc} (hu:P.underlying t=some d) (hd:(match d with|.struct _|.array _ _=>true|_=>false)=true) (hi:(P.info? t).map (·.size)=some cs.length):(execOp a.eval o).run P W=.ok (.value (.agg cs.toArray)) W:=by
  have hl:(loadCells ad cs.length).run P W=.ok cs.toArray W:=run_loadCells_list (P:=P) W ad cs hc
  have hv:(loadVar t ad).run P W=.ok (.agg cs.toArray) W:=by
    cases hq:P.info? t with
    | none=>simp [hq] at hi
    | some i =>
      have hs:i.size=cs.length:=by simpa [hq] using hi
      have hagg:(isAgg t).run P W=.ok true W:=by
        unfold isAgg
        rw [Sem.run_bind,run_underlying hu W]
        cases d <;> simp_all
      simp [loadVar,Sem.run_bind,hagg,sizeOf,typeInfo,hq,hs,hl]
  unfold execOp
  simp only [ho,hx,Instr.loadAt,Instr.sureAddr,Sem.run_bind,Sem.run_pure,Result.andThen_ok,hv]
theorem gate_load {p:Operand} (_ho:o.op=.load t p) (h:wpList P ops Q (o :: rest) a W):wpList P ops Q (o :: rest) a W:=h
theorem box_store (hgd:o.guard=none) {p x:Operand} (ho:o.op=.store t p x) (hN:o.dst=none) (hp:a.eval p=.pointer (some ⟨b,0,none⟩)) (hx:a.eval x=.agg (nums k ys).toArray) (h:IsBox k t W b xs) (hl:xs.length=ys.length) (hi:(P.info? t).map (·.size)=some ys.length)
    (hK:∀ W',W'=W.setRow b (nums k ys).toArray→wpList P ops Q rest a W'):wpList P ops Q (o :: rest) a W:=by
  refine wpList_plain hgd fun K hk=>?_
  unfold Oper.wp execOp
  simp only [ho,hp,hx,Instr.storeAt,Instr.sureAddr,Sem.run_bind,Sem.run_pure,Result.andThen_ok,run_storeVar_row W b t t _ (nums k ys).toArray h (by simpa [nums] using hi) (by simp [nums,hl]) (nums_one k ys)]
  show K (a.put o.dst undef) _
  rw [hN]
  exact hk _ _ (hK _ rfl)
end
def difN (xs ys:List Int):Nat→Nat
  | 0=>0
  | j + 1=>difN xs ys j + if xs.getD j 0=ys.getD j 0 then 0 else 1
theorem difN_le (xs ys:List Int):∀ j,difN xs ys j≤j
  | 0=>Nat.le_refl _
  | j + 1=>by
    have:=difN_le xs ys j
    unfold difN
    split <;> omega
theorem all_succ {α:Type} {l:List α} {i:Nat} (h:i < l.length) (p:α→Bool):(l.take (i + 1)).all p=((l.take i).all p && p l[i]):=by
  rw [List.take_succ_eq_append_getElem h,List.all_append]
  simp
def posB (b k:Nat):Nat:=(b % 3 * 2 + k % 2) + 6 * (b / 3 * 2 + k / 2)
theorem posB_lt {b k:Nat} (hb:b < 6) (hk:k < 4):posB b k < 24:=by
  unfold posB
  omega
def cntB (xs:List Int) (b:Nat):Nat→List Int
  | 0=>List.replicate 6 0
  | m + 1=>(cntB xs b m).set (xs.getD (posB b m) 0).toNat ((cntB xs b m).getD (xs.getD (posB b m) 0).toNat 0 + 1)
theorem cntB_len (xs:List Int) (b:Nat):∀ m,(cntB xs b m).length=6
  | 0=>rfl
  | m + 1=>by
    rw [cntB,List.length_set]
    exact cntB_len xs b m
theorem cntB_le (xs:List Int) (b:Nat):∀ m j,0≤(cntB xs b m).getD j 0∧(cntB xs b m).getD j 0≤m
  | 0,j=>by
    have e:(cntB xs b 0).getD j 0=0:=by
      unfold cntB
      rw [List.getD_eq_getElem?_getD,List.getElem?_replicate]
      split <;> rfl
    rw [e]
    omega
  | m + 1,j=>by
    have h1:=cntB_le xs b m j
    have h2:=cntB_le xs b m (xs.getD (posB b m) 0).toNat
    rw [cntB,List.getD_eq_getElem?_getD,List.getElem?_set]
    split
    · split
      · simp only [Option.getD_some]
        omega
      · simp
        omega
    · rw [← List.getD_eq_getElem?_getD]
      omega
def bstB (cs:List Int):Nat→Nat
  | 0=>0
  | c + 1=>if cs.getD (bstB cs c) 0 < cs.getD (c + 1) 0 then c + 1 else bstB cs c
theorem bstB_le (cs:List Int):∀ c,bstB cs c≤c
  | 0=>Nat.le_refl _
  | c + 1=>by
    have:=bstB_le cs c
    unfold bstB
    split <;> omega
def oneB (xs:List Int) (b:Nat):Int:=((bstB (cntB xs b 4) 5:Nat):Int)
def blurB (xs:List Int):List Int:=(List.range 6).map (oneB xs)
theorem blurB_len (xs:List Int):(blurB xs).length=6:=by simp [blurB]
theorem oneB_lt (xs:List Int) (b:Nat):0≤oneB xs b∧oneB xs b < 6:=by
  have:=bstB_le (cntB xs b 4) 5
  unfold oneB
  omega
theorem range_put (f:Nat→Int) {n i:Nat} (h:i < n):((List.range i).map f ++ List.replicate (n - i) 0).set i (f i)=(List.range (i + 1)).map f ++ List.replicate (n - (i + 1)) 0:=by
  rw [List.set_append_right _ _ (by simp),List.length_map,List.length_range,Nat.sub_self,show n - i=(n - (i + 1)) + 1 by omega,List.replicate_succ,List.set_cons_zero,List.range_succ,List.map_append,List.append_assoc]
  rfl
theorem wrapB {x:Int} (h0:-9223372036854775808≤x) (h1:x≤9223372036854775807):IntKind.i64.wrap x=x:=by
  rw [IntKind.wrap_i64]
  omega
section
variable {P:Program} {ops:Array Oper} {Q:Exit→Act→World→Prop} {rest:List Oper} {o:Oper} {a:Act}
theorem slice_event {W:World} (hgd:o.guard=none) {N:Tmp} (_hd:o.dst=some N) {k:IntKind} {xs:List Int} {t:TypeId}
    (hrun:(execOp a.eval o).run P W=.ok (.value (.slice (some ⟨W.heap.size,0,none⟩) xs.length xs.length)) (W.alloc (.cells (nums k xs).toArray t (0,0))))
    (h:∀ g,g=W.heap.size→∀ w1,IsBox k t w1 g xs→Below W.heap.size W w1→wpList P ops Q rest (a.put o.dst (.slice (some ⟨g,0,none⟩) xs.length xs.length)) w1):wpList P ops Q (o :: rest) a W :=
  Kd.event_run hgd hrun (h _ rfl _ (blk_new W _) (below_alloc (Below.refl _ _) _))
end
theorem bstB_ge (cs:List Int):∀ c j,j≤c→cs.getD j 0≤cs.getD (bstB cs c) 0
  | 0,j,h=>by
    obtain rfl:j=0:=by omega
    exact Int.le_refl _
  | c + 1,j,h=>by
    unfold bstB
    by_cases hj:j≤c
    · have:=bstB_ge cs c j hj
      split
      · omega
      · exact this
    · obtain rfl:j=c + 1:=by omega
      split
      · exact Int.le_refl _
      · omega
theorem bstB_gt (cs:List Int):∀ c j,j < bstB cs c→cs.getD j 0 < cs.getD (bstB cs c) 0
  | 0,j,h=>absurd h (Nat.not_lt_zero _)
  | c + 1,j,h=>by
    unfold bstB at h ⊢
    split
    · rename_i hc
      rw [if_pos hc] at h
      have:=bstB_ge cs c j (by omega)
      omega
    · rename_i hc
      rw [if_neg hc] at h
      exact bstB_gt cs c j h
def arrL61 (x:S61):List Int:=[x.f0,x.f1,x.f2,x.f3,x.f4,x.f5]
def arrS61 (l:List Int):S61:=⟨l.getD 0 0,l.getD 1 0,l.getD 2 0,l.getD 3 0,l.getD 4 0,l.getD 5 0⟩
theorem arrL61_len (x:S61):(arrL61 x).length=6:=rfl
theorem arrL61_S:∀ l:List Int,l.length=6→arrL61 (arrS61 l)=l
  | [a0,a1,a2,a3,a4,a5],_=>rfl
theorem rowA61 {w:World} {A:Option Addr} {n:Nat} {xs:List S61} (h:Kd.C k61 w A n xs) {i:Nat} (hi:i < n):∃ ad,A=some ad∧∀ j:Nat,j < 6→w.cell? ((ad.add (i * 6)).add j)=some (.int .u8 ((arrL61 (rd_T61 xs (i:Int))).getD j 0)):=by
  obtain ⟨ad,c,e,_,hK,hc0⟩:=Kd.C_get h z61 (i:Int) (by omega) (by omega)
  have hc:∀ j u,c[j]?=some u→w.cell? (ad.add (i * 6 + j))=some u:=hc0
  obtain rfl:=k61_open hK
  refine ⟨ad,e,fun j hj=>?_⟩
  rw [add_addA]
  refine hc j _ ?_
  have:j=0∨j=1∨j=2∨j=3∨j=4∨j=5:=by omega
  rcases this with rfl|rfl|rfl|rfl|rfl|rfl <;> rfl
theorem putA61 {W:World} {base:Nat} {ok:Nat→Prop} (x:S61) {j:Nat} (hj:j < 6) (v:Int):k61.M W base ok (arrS61 ((arrL61 x).set j v)) ((nums .u8 (arrL61 x)).take j ++ [.int .u8 v] ++ (nums .u8 (arrL61 x)).drop (j + 1)):=by
  have e:(nums .u8 (arrL61 x)).take j ++ [.int .u8 v] ++ (nums .u8 (arrL61 x)).drop (j + 1)=nums .u8 (arrL61 (arrS61 ((arrL61 x).set j v))):=by
    rw [arrL61_S _ (by rw [List.length_set]; rfl)]
    have hl:j < (nums .u8 (arrL61 x)).length:=by
      rw [nums_length]
      exact hj
    rw [show nums .u8 ((arrL61 x).set j v)=(nums .u8 (arrL61 x)).set j (.int .u8 v) by simp [nums,List.map_set],List.set_eq_take_append_cons_drop,if_pos hl,List.append_assoc]
    rfl
  rw [e]
  exact k61_mkM W base ok _
def arrL68 (x:S68):List Int:=[x.f0,x.f1,x.f2,x.f3,x.f4,x.f5,x.f6,x.f7,x.f8,x.f9,x.f10,x.f11,x.f12,x.f13,x.f14,x.f15,x.f16,x.f17,x.f18,x.f19,x.f20,x.f21,x.f22,x.f23]
def arrS68 (l:List Int):S68:=⟨l.getD 0 0,l.getD 1 0,l.getD 2 0,l.getD 3 0,l.getD 4 0,l.getD 5 0,l.getD 6 0,l.getD 7 0,l.getD 8 0,l.getD 9 0,l.getD 10 0,l.getD 11 0,l.getD 12 0,l.getD 13 0,l.getD 14 0,l.getD 15 0,l.getD 16 0,l.getD 17 0,l.getD 18 0,l.getD 19 0,l.getD 20 0,l.getD 21 0,l.getD 22 0,l.getD 23 0⟩
theorem arrL68_S:∀ l:List Int,l.length=24→arrL68 (arrS68 l)=l
  | [a0,a1,a2,a3,a4,a5,a6,a7,a8,a9,a10,a11,a12,a13,a14,a15,a16,a17,a18,a19,a20,a21,a22,a23],_=>rfl
theorem rowA68 {w:World} {A:Option Addr} {n:Nat} {xs:List S68} (h:Kd.C k68 w A n xs) {i:Nat} (hi:i < n):∃ ad,A=some ad∧∀ j:Nat,j < 24→w.cell? ((ad.add (i * 24)).add j)=some (.int .u8 ((arrL68 (rd_T68 xs (i:Int))).getD j 0)):=by
  obtain ⟨ad,c,e,_,hK,hc0⟩:=Kd.C_get h z68 (i:Int) (by omega) (by omega)
  have hc:∀ j u,c[j]?=some u→w.cell? (ad.add (i * 24 + j))=some u:=hc0
  obtain rfl:=k68_open hK
  refine ⟨ad,e,fun j hj=>?_⟩
  rw [add_addA]
  refine hc j _ ?_
  have:j=0∨j=1∨j=2∨j=3∨j=4∨j=5∨j=6∨j=7∨j=8∨j=9∨j=10∨j=11∨j=12∨j=13∨j=14∨j=15∨j=16∨j=17∨j=18∨j=19∨j=20∨j=21∨j=22∨j=23:=by omega
  rcases this with rfl|rfl|rfl|rfl|rfl|rfl|rfl|rfl|rfl|rfl|rfl|rfl|rfl|rfl|rfl|rfl|rfl|rfl|rfl|rfl|rfl|rfl|rfl|rfl <;> rfl
def RowAt68 (w:World) (ad:Addr) (x:S68):Prop:=∀ j v,(nums .u8 (arrL68 x))[j]?=some v→w.cell? (ad.add j)=some v
theorem row_T68 {w:World} {A:Option Addr} {n:Nat} {xs:List S68} (h:Kd.C k68 w A n xs) (i:Int) (h0:0≤i) (h1:i < n):∃ ad,A=some ad∧RowAt68 w (ad.add (i.toNat * 24)) (rd_T68 xs i):=by
  obtain ⟨ad,c,e,_,hK,hc0⟩:=Kd.C_get h z68 i h0 h1
  have hc:∀ j u,c[j]?=some u→w.cell? (ad.add (i.toNat * 24 + j))=some u:=hc0
  obtain rfl:=k68_open hK
  exact ⟨ad,e,fun j v hv=>by rw [add_addA]; exact hc j v hv⟩
theorem row_below68 {w w1:World} {ad:Addr} {x:S68} (h:RowAt68 w ad x) (hb:Below w.heap.size w w1):RowAt68 w1 ad x:=fun j v hv=>(hb.cell (World.block_lt_of_cell? w _ (h j v hv))).trans (h j v hv)
theorem load_T68 {P:Program} {ops:Array Oper} {Q:Exit→Act→World→Prop} {rest:List Oper} {o:Oper} {a:Act} {W:World} (hgd:o.guard=none) {p:Operand} (ho:o.op=.load 68 p) (ad:Addr) (hx:a.eval p=.pointer (some ad)) {x:S68} (hc:RowAt68 W ad x) {m e:Nat} (hu:P.underlying 68=some (.array m e)) (hi:(P.info? 68).map (·.size)=some 24)
    (hK:wpList P ops Q rest (a.put o.dst (.agg #[.int .u8 x.f0,.int .u8 x.f1,.int .u8 x.f2,.int .u8 x.f3,.int .u8 x.f4,.int .u8 x.f5,.int .u8 x.f6,.int .u8 x.f7,.int .u8 x.f8,.int .u8 x.f9,.int .u8 x.f10,.int .u8 x.f11,.int .u8 x.f12,.int .u8 x.f13,.int .u8 x.f14,.int .u8 x.f15,.int .u8 x.f16,.int .u8 x.f17,.int .u8 x.f18,.int .u8 x.f19,.int .u8 x.f20,.int .u8 x.f21,.int .u8 x.f22,.int .u8 x.f23])) W):wpList P ops Q (o :: rest) a W :=
  load_any hgd ho hx hc hu rfl hi hK
theorem exec_T68 {P:Program} {o:Oper} {a:Act} {W:World} {p:Operand} (ho:o.op=.load 68 p) {ad:Addr} (hx:a.eval p=.pointer (some ad)) {x:S68} (hc:RowAt68 W ad x) {m e:Nat} (hu:P.underlying 68=some (.array m e)) (hi:(P.info? 68).map (·.size)=some 24):(execOp a.eval o).run P W=.ok (.value (.agg #[.int .u8 x.f0,.int .u8 x.f1,.int .u8 x.f2,.int .u8 x.f3,.int .u8 x.f4,.int .u8 x.f5,.int .u8 x.f6,.int .u8 x.f7,.int .u8 x.f8,.int .u8 x.f9,.int .u8 x.f10,.int .u8 x.f11,.int .u8 x.f12,.int .u8 x.f13,.int .u8 x.f14,.int .u8 x.f15,.int .u8 x.f16,.int .u8 x.f17,.int .u8 x.f18,.int .u8 x.f19,.int .u8 x.f20,.int .u8 x.f21,.int .u8 x.f22,.int .u8 x.f23])) W :=
  exec_load_any ho hx hc hu rfl hi
theorem size68:(Try.prog.info? 68).map (·.size)=some 24:=by kernel_rfl
end Go.Proofs.Ytgfknljhogfeaaa.G
end

section
namespace Go.Proofs.Ytgfknljhogfeaaa.G
open Go.RowKit Go.Proofs.YtgfknljhogfeaaaW.PrintWords Go.Proofs.YtgfknljhogfeaaaW.PrintLast Go.Proofs.YtgfknljhogfeaaaW.PrintMore
attribute [local go_sem] max2_int min2_int max_two min_two max_three min_three max_four min_four
set_option linter.unusedVariables false
set_option linter.unusedSimpArgs false
def anyO {α:Type} (p:α→Option Bool) (l:List α):Option Bool:=if l.all (fun x=>(p x).isSome)=true then some (l.any (fun x=>p x == some true)) else none
theorem anyO_some {α:Type} {p:α→Option Bool} {l:List α} {r:Bool} (h:anyO p l=some r):(∀ x∈l,(p x).isSome=true)∧l.any (fun x=>p x == some true)=r:=by
  unfold anyO at h
  split at h
  · rename_i ha
    exact ⟨List.all_eq_true.1 ha,Option.some.inj h⟩
  · cases h
theorem allSome {α:Type} {p:α→Option Bool} {q:α→Bool} {l:List α} (h:∀ x∈l,p x=some (q x)):l.all (fun x=>(p x).isSome)=true:=List.all_eq_true.2 fun x hx=>by rw [h x hx]; rfl
theorem someEq {α:Type} {p:α→Option Bool} {q:α→Bool} {l:List α} (h:∀ x∈l,p x=some (q x)):∀ x∈l,(p x == some true)=q x:=fun x hx=>by rw [h x hx]; cases q x <;> rfl
theorem any_congr_ {α:Type} {p q:α→Bool} {l:List α} (h:∀ x∈l,p x=q x):l.any p=l.any q:=by
  induction l with
  | nil=>rfl
  | cons a l ih=>simp [h a (by simp),ih (fun x hx=>h x (by simp [hx]))]
theorem anyO_eq {α:Type} {p:α→Option Bool} {q:α→Bool} {l:List α} (h:∀ x∈l,p x=some (q x)):anyO p l=some (l.any q):=by
  unfold anyO
  rw [if_pos (allSome h),any_congr_ (someEq h)]
section
variable {P:Program} {ops:Array Oper} {Q:Exit→Act→World→Prop}
theorem goesLD_ {rest : List Oper} {oi : Oper} {a : Act} {w : World} (N : Option Tmp) (hd : oi.dst = N) (hg : oi.guard = none) {p : Operand} {f : FuncId} {fn : Func} {as_ : Array Operand} {ts : Array TypeId} (hf : P.funcs[f]? = some fn) (hname : (fn.name == "runtime.NumGoroutine") = false) (hb : fn.body.isSome = true) (lb args : Array Value)
    (hop:oi.op=.call { callee:=.value p,args:=as_,argTypes:=ts }) (hp:a.eval p=.func (.func f) #[] lb) (hargs:as_.map a.eval ++ lb=args)
    (h:Calls P f args w fun e w'=>∃ v,e=.returned v∧wpList P ops Q rest (a.put N v) w'):wpList P ops Q (oi :: rest) a w:=by
  refine wpList_plain hg fun K hK=>?_
  have he:=Go.Proofs.YtgfknljhogfeaaaW.PrintLast.enters_ hf hname hb args w
  have hrun:(execOp a.eval oi).run P w=.ok (.enter f args) w:=by
    unfold execOp
    simp [hop,resolve,hp,Deferred.ofValue,invoke,hargs,he]
  unfold Oper.wp
  rw [hrun,Oper.upon_enter]
  refine h.mono fun e w'' hh=>?_
  obtain ⟨v,rfl,hk⟩:=hh
  subst hd
  exact hK _ _ hk
theorem gate_calleeD {rest:List Oper} {o:Oper} {a:Act} {W:World} {p:Operand} {as_:Array Operand} {ts:Array TypeId} (_ho:o.op=.call { callee:=.value p,args:=as_,argTypes:=ts }) (h:wpList P ops Q (o :: rest) a W):wpList P ops Q (o :: rest) a W:=h
end
end Go.Proofs.Ytgfknljhogfeaaa.G
end

section
namespace Go.Proofs.Ytgfknljhogfeaaa.G
open Go.RowKit Go.Proofs.YtgfknljhogfeaaaW.PrintWords Go.Proofs.YtgfknljhogfeaaaW.PrintLast Go.Proofs.YtgfknljhogfeaaaW.PrintMore
attribute [local go_sem] max2_int min2_int max_two min_two max_three min_three max_four min_four
set_option linter.unusedVariables false
set_option linter.unusedSimpArgs false
def impl_ValidFlag_1.f (a0:Int):Option (Bool):=some (decide (a0≥6))
set_option maxHeartbeats 8000000 in
set_option maxRecDepth 100000 in
theorem impl_ValidFlag_1.calls (a0:Int) (r:Bool) (w:World) (h:impl_ValidFlag_1.f a0=some r) :
  Calls Try.prog 97 #[.int .u8 a0] w fun e w'=>e=.returned (.bool r)∧Drawn0 w w':=by
 have H:(some (decide (a0≥6)))=some r:=h;clear h;obtain rfl:=Option.some.inj H
 go_enter Try.func97,Try.ntmps97
 go_wp2
 go_ret
 exact ⟨by first|rfl|(simp only [IntKind.wrap_i64,wrap64];done)|(simp;done)|(simp [*];done),by repeat (first|exact Drawn0.refl _|apply Drawn0.step)⟩
end Go.Proofs.Ytgfknljhogfeaaa.G
end

section
namespace Go.Proofs.Ytgfknljhogfeaaa.G
open Go.RowKit Go.Proofs.YtgfknljhogfeaaaW.PrintWords Go.Proofs.YtgfknljhogfeaaaW.PrintLast Go.Proofs.YtgfknljhogfeaaaW.PrintMore
attribute [local go_sem] max2_int min2_int max_two min_two max_three min_three max_four min_four
set_option linter.unusedVariables false
set_option linter.unusedSimpArgs false
set_option maxHeartbeats 2000000 in
theorem slices_IndexFunc_uint8_uint8.calls (A0:Option Addr) (c0:Nat) (l0:List (Int)) (g:Nat) (lb:Array Value) (eg:∀ args w,(callFunc g args).run Try.prog w=.ok (.enter g args) w) (p:Int→Bool) (w:World)
  (hr0:Kd.C (Kd.int .u8) w A0 l0.length l0) (hc0:l0.length≤c0)
  (hp:∀ W,Below w.heap.size w W→∀ x∈l0,Calls Try.prog g (#[.int .u8 x] ++ lb) W fun e w'=>e=.returned (.bool (p x))∧Below w.heap.size w w') :
  Calls Try.prog 103 #[.slice A0 l0.length c0,.func (.func g) #[] lb] w fun e w'=>e=.returned (.int .i64 (idxP p l0))∧Below w.heap.size w w':=by
 have hl:l0.length≤9223372036854775807:=hr0.2.1;have HR0:=am hr0;have HP:=am hp;clear hr0 hp;generalize hn:l0.length=n at *;have Hn:=am hn;clear hn
 go_enter Try.func103,Try.ntmps103
 go_wp2
 go_loopg [5,8] n (fun gg _ s8 wr=>∃ kk:Nat,kk≤n∧n - kk≤gg∧s8=.int .i64 kk∧Aside0 (Below w.heap.size w wr)∧Aside0 (∀ j x,j < kk→l0[j]?=some x→p x=false))
 case atStart=>exact ⟨0,Nat.zero_le _,by omega,rfl,⟨Below.refl _ w⟩,⟨fun j _ hj=>absurd hj (Nat.not_lt_zero _)⟩⟩
 case round =>
  obtain ⟨kk,hkk,hg,rfl,BW,AF⟩:=hrel
  by_cases hlt:kk < n
  ·have hltz:(kk:Int) < (n:Int):=by omega
   obtain ⟨ad,e0,hx0⟩:=Kd.at_int HR0.out (kk:Int) (by omega) (by omega);cases e0;simp only [Int.toNat_natCast] at hx0;(try rw [show ((Kd.int .u8)).sz=1 from rfl,Nat.mul_one,Nat.add_zero] at hx0);replace hx0:=(BW.out.cell (World.block_lt_of_cell? w _ hx0)).trans hx0
   have hm:l0[kk]?=some (rd l0 (kk:Int)):=by
    have h1:kk < l0.length:=by rw [Hn.out];exact hlt
    simp [rd,List.getD_eq_getElem?_getD,List.getElem?_eq_getElem h1]
   have hcall:=HP.out wr BW.out (rd l0 (kk:Int)) (List.mem_of_getElem? hm);generalize hy:rd l0 (kk:Int)=y at *;clear hy;have HM:=am hm;clear hm
   cases hq:p y with
   | true =>
    rw [hq] at hcall;have HQ:=am hq;clear hq
    go_wp2_with (go_at_fn g;refine hcall.mono ?_;rintro e w' ⟨rfl,hb'⟩)
    go_ret
    refine ⟨?_,hb'⟩;rw [idxP_hit HM.out HQ.out AF.out];rfl
   | false =>
    rw [hq] at hcall;have HQ:=am hq;clear hq
    go_wp2_with (go_at_fn g;refine hcall.mono ?_;rintro e w' ⟨rfl,hb'⟩)
    go_roundg (n - (kk + 1))
    case measure=>omega
    case rel =>
     refine ⟨kk + 1,by omega,by omega,by go_num,⟨hb'⟩,⟨fun j x hj hx=>?_⟩⟩
     by_cases e:j=kk
     ·subst e;rw [HM.out] at hx;cases hx;exact HQ.out
     ·exact AF.out j x (by omega) hx
  ·have hltz:¬ (kk:Int) < (n:Int):=by omega
   have:kk=n:=by omega
   subst this
   go_wp2
   go_ret
   refine ⟨?_,BW.out⟩
   rw [idxP_miss (fun x hx=>by
    obtain ⟨j,hj,rfl⟩:=List.mem_iff_getElem.1 hx
    exact AF.out j _ (by rw [← Hn.out];exact hj) (List.getElem?_eq_getElem hj))]
   rfl
end Go.Proofs.Ytgfknljhogfeaaa.G
end

section
namespace Go.Proofs.Ytgfknljhogfeaaa.G
open Go.RowKit Go.Proofs.YtgfknljhogfeaaaW.PrintWords Go.Proofs.YtgfknljhogfeaaaW.PrintLast Go.Proofs.YtgfknljhogfeaaaW.PrintMore
attribute [local go_sem] max2_int min2_int max_two min_two max_three min_three max_four min_four
set_option linter.unusedVariables false
set_option linter.unusedSimpArgs false
set_option maxHeartbeats 2000000 in
theorem slices_ContainsFunc_uint8_uint8.calls (A0:Option Addr) (c0:Nat) (l0:List (Int)) (g:Nat) (lb:Array Value) (eg:∀ args w,(callFunc g args).run Try.prog w=.ok (.enter g args) w) (p:Int→Bool) (w:World)
  (hr0:Kd.C (Kd.int .u8) w A0 l0.length l0) (hc0:l0.length≤c0)
  (hp:∀ W,Below w.heap.size w W→∀ x∈l0,Calls Try.prog g (#[.int .u8 x] ++ lb) W fun e w'=>e=.returned (.bool (p x))∧Below w.heap.size w w') :
  Calls Try.prog 87 #[.slice A0 l0.length c0,.func (.func g) #[] lb] w fun e w'=>e=.returned (.bool (l0.any p))∧Below w.heap.size w w':=by
 have H:=am (slices_IndexFunc_uint8_uint8.calls A0 c0 l0 g lb eg p w hr0 hc0 hp);rw [← idxP_nonneg];clear hp hr0 eg
 go_enter Try.func87,Try.ntmps87
 go_wp2_with (go_at_call 103;refine H.out.mono ?_;rintro e w' ⟨rfl,hb'⟩)
 go_ret
 exact ⟨rfl,hb'⟩
end Go.Proofs.Ytgfknljhogfeaaa.G
end

section
namespace Go.Proofs.Ytgfknljhogfeaaa.G
open Go.RowKit Go.Proofs.YtgfknljhogfeaaaW.PrintWords Go.Proofs.YtgfknljhogfeaaaW.PrintLast Go.Proofs.YtgfknljhogfeaaaW.PrintMore
attribute [local go_sem] max2_int min2_int max_two min_two max_three min_three max_four min_four
set_option linter.unusedVariables false
set_option linter.unusedSimpArgs false
def slices_ContainsFunc_uint8_uint8__impl_ValidFlag_1.f (l0:List (Int)):Option (Bool):=anyO (fun x=>impl_ValidFlag_1.f x) l0
set_option maxHeartbeats 2000000 in
theorem slices_ContainsFunc_uint8_uint8__impl_ValidFlag_1.calls (A0:Option Addr) (c0:Nat) (l0:List (Int)) (r:Bool) (w:World) (hr0:Kd.C (Kd.int .u8) w A0 l0.length l0) (hc0:l0.length≤c0) (h:slices_ContainsFunc_uint8_uint8__impl_ValidFlag_1.f l0=some r) :
  Calls Try.prog 87 #[.slice A0 l0.length c0,.func (.func 97) #[] #[]] w fun e w'=>e=.returned (.bool r)∧Below w.heap.size w w':=by
 have eg:=enters_of Try.func97 zq16 rfl;obtain ⟨hall,rfl⟩:=anyO_some h;refine slices_ContainsFunc_uint8_uint8.calls A0 c0 l0 _ #[] eg (fun x=>impl_ValidFlag_1.f x == some true) w hr0 hc0 (fun W hW x hx=>?_);obtain ⟨b,hb⟩:=Option.isSome_iff_exists.1 (hall x hx);rw [show (#[.int .u8 x] ++ #[]:Array Value)=#[.int .u8 x] from rfl]
 refine (impl_ValidFlag_1.calls x b W  hb).mono fun e w' ⟨he,hw⟩=>⟨he.trans (by rw [hb];cases b <;> rfl),?_⟩
 exact below_then hW hW.size hw.below
end Go.Proofs.Ytgfknljhogfeaaa.G
end

section
namespace Go.Proofs.Ytgfknljhogfeaaa.G
open Go.RowKit Go.Proofs.YtgfknljhogfeaaaW.PrintWords Go.Proofs.YtgfknljhogfeaaaW.PrintLast Go.Proofs.YtgfknljhogfeaaaW.PrintMore
attribute [local go_sem] max2_int min2_int max_two min_two max_three min_three max_four min_four
set_option linter.unusedVariables false
set_option linter.unusedSimpArgs false
def impl_ValidFlag.f (a0_0:Int) (a0_1:Int) (a0_2:Int) (a0_3:Int) (a0_4:Int) (a0_5:Int) (a0_6:Int) (a0_7:Int) (a0_8:Int) (a0_9:Int) (a0_10:Int) (a0_11:Int) (a0_12:Int) (a0_13:Int) (a0_14:Int) (a0_15:Int) (a0_16:Int) (a0_17:Int) (a0_18:Int) (a0_19:Int) (a0_20:Int) (a0_21:Int) (a0_22:Int) (a0_23:Int):Option Bool:=some (!(([a0_0,a0_1,a0_2,a0_3,a0_4,a0_5,a0_6,a0_7,a0_8,a0_9,a0_10,a0_11,a0_12,a0_13,a0_14,a0_15,a0_16,a0_17,a0_18,a0_19,a0_20,a0_21,a0_22,a0_23]:List Int).any fun c=>decide (c≥6)))
set_option maxHeartbeats 4000000 in
theorem impl_ValidFlag.core (xs:List Int) (hx:xs.length=24) (w:World) :
  Calls Try.prog 73 #[.agg (nums .u8 xs).toArray] w fun e w'=>e=.returned (.bool (!(xs.any fun c=>decide (c≥6))))∧Below w.heap.size w w':=by
 have HB:=am (Below.refl w.heap.size w)
 have HF:Aside0 (∀ (W:World) (b:Nat),IsBox .u8 68 W b xs→Calls Try.prog 87 #[.slice (some ⟨b,0,none⟩) 24 24,.func (.func 97) #[] #[]] W fun e w'=>e=.returned (.bool (xs.any fun c=>decide (c≥6)))∧Below W.heap.size W w'):=⟨fun W b hb=>by
  have h_:=slices_ContainsFunc_uint8_uint8__impl_ValidFlag_1.calls (some ⟨b,0,none⟩) 24 xs (xs.any fun c=>decide (c≥6)) W (box_C hb (by omega)) (by omega) (anyO_eq fun c _=>rfl);rw [hx] at h_
  exact h_⟩
 go_enter Try.func73,Try.ntmps73
 go_wp2_with (first|((with_reducible refine gate_dst (N:=1) rfl ?_);refine box_event ?hg (N:=1) ?hd (cs:=(nums .u8 xs).toArray) (t:=68) ?hr ?_;(case hd=>rfl);(case hg=>rfl);(case hr=>exact zq15);intro b1 hg_ w1 hb_ hB_;have HB1:=am (below_step HB.out hB_);have BK1:=am (show IsBox .u8 68 w1 b1 xs from hb_);clear hb_ hB_ hg_)|(go_at_call 87;refine (HF.out _ _ BK1.out).mono ?_;rintro e w2 ⟨rfl,hb2⟩;have HB2:=am (below_step HB1.out hb2);clear hb2))
 go_ret
 exact ⟨by first|rfl|simp,HB2.out⟩
theorem impl_ValidFlag.calls (a0_0:Int) (a0_1:Int) (a0_2:Int) (a0_3:Int) (a0_4:Int) (a0_5:Int) (a0_6:Int) (a0_7:Int) (a0_8:Int) (a0_9:Int) (a0_10:Int) (a0_11:Int) (a0_12:Int) (a0_13:Int) (a0_14:Int) (a0_15:Int) (a0_16:Int) (a0_17:Int) (a0_18:Int) (a0_19:Int) (a0_20:Int) (a0_21:Int) (a0_22:Int) (a0_23:Int) (r:Bool) (w:World) (h:impl_ValidFlag.f a0_0 a0_1 a0_2 a0_3 a0_4 a0_5 a0_6 a0_7 a0_8 a0_9 a0_10 a0_11 a0_12 a0_13 a0_14 a0_15 a0_16 a0_17 a0_18 a0_19 a0_20 a0_21 a0_22 a0_23=some r) :
  Calls Try.prog 73 #[.agg #[.int .u8 a0_0,.int .u8 a0_1,.int .u8 a0_2,.int .u8 a0_3,.int .u8 a0_4,.int .u8 a0_5,.int .u8 a0_6,.int .u8 a0_7,.int .u8 a0_8,.int .u8 a0_9,.int .u8 a0_10,.int .u8 a0_11,.int .u8 a0_12,.int .u8 a0_13,.int .u8 a0_14,.int .u8 a0_15,.int .u8 a0_16,.int .u8 a0_17,.int .u8 a0_18,.int .u8 a0_19,.int .u8 a0_20,.int .u8 a0_21,.int .u8 a0_22,.int .u8 a0_23]] w fun e w'=>e=.returned (.bool r)∧Below w.heap.size w w':=by
 obtain rfl:=Option.some.inj h;exact impl_ValidFlag.core [a0_0,a0_1,a0_2,a0_3,a0_4,a0_5,a0_6,a0_7,a0_8,a0_9,a0_10,a0_11,a0_12,a0_13,a0_14,a0_15,a0_16,a0_17,a0_18,a0_19,a0_20,a0_21,a0_22,a0_23] rfl w
end Go.Proofs.Ytgfknljhogfeaaa.G
end

section
namespace Go.Proofs.Ytgfknljhogfeaaa.G
open Go.RowKit Go.Proofs.YtgfknljhogfeaaaW.PrintWords Go.Proofs.YtgfknljhogfeaaaW.PrintLast Go.Proofs.YtgfknljhogfeaaaW.PrintMore
attribute [local go_sem] max2_int min2_int max_two min_two max_three min_three max_four min_four
set_option linter.unusedVariables false
set_option linter.unusedSimpArgs false
def slices_Index_int_int.l0:Nat→List Int→Int→Int→Int→Option (Int)
 | 0,_,_,_,_=>none
 | k + 1,x0,x1,x7,x8=>if x8 < x7 then (if 0≤x8 then (if x8 < (x0.length:Int) then (if x1=(rd x0 x8) then (some x8) else (slices_Index_int_int.l0 k x0 x1 x7 (wrap64 (x8 + 1)))) else (none)) else (none)) else (some (-1))
def slices_Index_int_int.f (k:Nat) (l0:List Int) (a1:Int):Option (Int):=slices_Index_int_int.l0 k l0 a1 (l0.length:Int) 0
set_option maxHeartbeats 8000000 in
set_option maxRecDepth 100000 in
theorem slices_Index_int_int.calls (k:Nat) (A0:Option Addr) (c0:Nat) (l0:List Int) (a1:Int) (r:Int) (w:World) (hr0:Kd.C (Kd.int .i64) w A0 l0.length l0) (hc0:l0.length≤c0) (h:slices_Index_int_int.f k l0 a1=some r) :
  Calls Try.prog 100 #[.slice A0 l0.length c0,.int .i64 a1] w fun e w'=>e=.returned (.int .i64 r)∧Drawn0 w w':=by
 have HR0:=am hr0;have HC0:=am hc0;clear hr0 hc0;have H:(slices_Index_int_int.l0 k l0 a1 (l0.length:Int) 0)=some r:=h;clear h;have H':=am H;clear H
 go_enter Try.func100,Try.ntmps100
 go_wp2
 go_loopg [8] k (fun kq v8 w'=>∃ (x8_1:Int),v8=.int .i64 x8_1∧Aside0 (slices_Index_int_int.l0 kq l0 a1 (l0.length:Int) x8_1=some r)∧Aside0 (kq≤k)∧Drawn0 w w')
 case atStart=>exact ⟨(0),zq3,H',⟨Nat.le_refl _⟩,by repeat (first|exact Drawn0.refl _|apply Drawn0.step)⟩
 case round =>
  clear H';(try clear c1);(try clear p2);obtain ⟨x8_1,rfl,HA,HK1,⟨m1,rfl⟩⟩:=hrel
  cases gk with
  | zero=>exact absurd HA.out (by simp [slices_Index_int_int.l0])
  | succ k1 =>
   have H:=HA.out;clear HA;simp only [slices_Index_int_int.l0] at H
   by_cases c3:x8_1 < (l0.length:Int)
   ·rw [if_pos c3] at H;have c3b0:decide (x8_1 < (l0.length:Int))=true:=decide_eq_true c3;clear c3
    by_cases c4:0≤x8_1
    ·rw [if_pos c4] at H;have c4b0:decide (0≤x8_1)=true:=decide_eq_true c4;clear c4
     by_cases c5:x8_1 < (l0.length:Int)
     ·rw [if_pos c5] at H;have c5b0:decide (x8_1 < (l0.length:Int))=true:=decide_eq_true c5;clear c5
      by_cases c6:a1=(rd l0 x8_1)
      ·rw [if_pos c6] at H;have c6b0:(a1 == (rd l0 x8_1))=true:=beq_iff_eq.mpr c6;have c6b1:(a1 != (rd l0 x8_1))=false:=bne_eq_false_iff_eq.mpr c6;clear c6;obtain rfl:=Option.some.inj H;have p101:0≤(x8_1:Int):=of_decide_eq_true zq9;have q101:x8_1 < (l0.length:Int):=of_decide_eq_true zq9;obtain ⟨ad101,e101,hx101_0⟩:=Kd.at_int HR0.out x8_1 p101 q101;cases e101;replace p101:=eq_true p101;replace q101:=eq_true q101
       go_wp2
       go_ret
       exact ⟨by first|rfl|(simp only [IntKind.wrap_i64,wrap64];done)|(simp;done)|(simp [*];done),by repeat (first|exact Drawn0.refl _|apply Drawn0.step)⟩
      ·rw [if_neg c6] at H;have c6b0:(a1 == (rd l0 x8_1))=false:=beq_eq_false_iff_ne.mpr c6;have c6b1:(a1 != (rd l0 x8_1))=true:=bne_iff_ne.mpr c6;have H':=am H;clear H;have p101:0≤(x8_1:Int):=of_decide_eq_true zq9;have q101:x8_1 < (l0.length:Int):=of_decide_eq_true zq9;obtain ⟨ad101,e101,hx101_0⟩:=Kd.at_int HR0.out x8_1 p101 q101;cases e101;replace p101:=eq_true p101;replace q101:=eq_true q101
       go_wp2
       go_roundg k1
       case measure=>have:=HK1.out;omega
       case rel=>exact ⟨(wrap64 (x8_1 + 1)),zq3,H',⟨by have:=HK1.out;omega⟩,by repeat (first|exact Drawn0.refl _|apply Drawn0.step)⟩
     ·rw [if_neg c5] at H;exact absurd H (by simp)
    ·rw [if_neg c4] at H;exact absurd H (by simp)
   ·rw [if_neg c3] at H;have c3b0:decide (x8_1 < (l0.length:Int))=false:=decide_eq_false c3;clear c3;obtain rfl:=Option.some.inj H
    go_wp2
    go_ret
    exact ⟨by first|rfl|(simp only [IntKind.wrap_i64,wrap64];done)|(simp;done)|(simp [*];done),by repeat (first|exact Drawn0.refl _|apply Drawn0.step)⟩
end Go.Proofs.Ytgfknljhogfeaaa.G
end

section
namespace Go.Proofs.Ytgfknljhogfeaaa.G
open Go.RowKit Go.Proofs.YtgfknljhogfeaaaW.PrintWords Go.Proofs.YtgfknljhogfeaaaW.PrintLast Go.Proofs.YtgfknljhogfeaaaW.PrintMore
attribute [local go_sem] max2_int min2_int max_two min_two max_three min_three max_four min_four
set_option linter.unusedVariables false
set_option linter.unusedSimpArgs false
def gmax (l:List Int):Int:=match l with|[]=>0|x :: xs=>xs.foldl mx x
theorem gmax_snoc {l:List Int} {k:Nat} (h0:1≤k) (h:k < l.length):gmax (l.take (k + 1))=mx (gmax (l.take k)) (rd l (k:Int)):=by
 rw [List.take_succ_eq_append_getElem h]
 have e:rd l (k:Int)=l[k]:=by simp [rd,List.getD_eq_getElem?_getD,List.getElem?_eq_getElem h]
 rw [e]
 rcases hl:l.take k with _|⟨x,xs⟩
 ·have:=congrArg List.length hl
  simp at this
  rcases this with h1|h1
  ·omega
  ·subst h1
   simp at h
 ·simp [gmax,List.foldl_append]
def slices_Max_int_int.f (l0:List Int):Option Int:=if 1≤l0.length then some (gmax l0) else none
set_option maxHeartbeats 4000000 in
theorem slices_Max_int_int.calls (A0:Option Addr) (c0:Nat) (l0:List Int) (r:Int) (w:World) (hr0:Kd.C (Kd.int .i64) w A0 l0.length l0) (hc0:l0.length≤c0) (h:slices_Max_int_int.f l0=some r) :
  Calls Try.prog 101 #[.slice A0 l0.length c0] w fun e w'=>e=.returned (.int .i64 r)∧Drawn0 w w':=by
 unfold slices_Max_int_int.f at h
 by_cases h1:1≤l0.length
 ·rw [if_pos h1] at h;obtain rfl:=Option.some.inj h;clear h;have hl:l0.length≤9223372036854775807:=hr0.2.1;obtain ⟨ad,e0,h0⟩:=Kd.at_int hr0 0 (by omega) (by omega);have HR0:=am hr0;cases e0;simp only [show (0:Int).toNat=0 from rfl,Addr.add_zero'] at h0;clear hr0;have hq:decide ((l0.length:Int) < 1)=false:=decide_eq_false (by omega);have hq0:((0:Int) < (l0.length:Int))=True:=eq_true (by omega);have hq1:(0 < l0.length)=True:=eq_true (by omega)
  have hr1:gmax (l0.take 1)=rd l0 0:=by
   rcases l0 with _|⟨x,l⟩
   ·simp at h1
   ·simp [gmax,rd]
  have HR1:=am hr1;clear hr1
  go_enter Try.func101,Try.ntmps101
  go_wp2
  go_loopg [3,4] l0.length (fun gg s3 s4 wr=>∃ kk:Nat,1≤kk∧kk≤l0.length∧l0.length - kk≤gg∧s4=.int .i64 kk∧s3=.int .i64 (gmax (l0.take kk))∧Aside0 (Drawn0 w wr))
  case atStart=>exact ⟨1,by omega,by omega,by omega,rfl,by rw [HR1.out],⟨by repeat (first|exact Drawn0.refl _|apply Drawn0.step)⟩⟩
  case round =>
   obtain ⟨kk,h1k,hkk,hg,rfl,rfl,HD⟩:=hrel
   by_cases hlt:kk < l0.length
   ·have hltz:decide ((kk:Int) < (l0.length:Int))=true:=decide_eq_true (by omega);obtain ⟨ad',e0,hx⟩:=Kd.at_int HR0.out (kk:Int) (by omega) (by omega)
    obtain rfl:ad=ad':=by injection e0
    simp only [Int.toNat_natCast] at hx;replace hx:=(HD.out.below.cell (World.block_lt_of_cell? w _ hx)).trans hx;have HS:=am (gmax_snoc h1k hlt);clear h0
    go_wp2
    all_goals
     go_roundg (l0.length - (kk + 1))
     case measure=>omega
     case rel=>exact ⟨kk + 1,by omega,by omega,by omega,by go_num,by rw [HS.out,mx];first|rw [if_pos (by omega)]|rw [if_neg (by omega)],HD⟩
   ·have hltz:decide ((kk:Int) < (l0.length:Int))=false:=decide_eq_false (by omega)
    have:kk=l0.length:=by omega
    have HK:=am this;clear this
    go_wp2
    go_ret
    exact ⟨by rw [HK.out,List.take_length];rfl,HD.out⟩
 ·rw [if_neg h1] at h;cases h
end Go.Proofs.Ytgfknljhogfeaaa.G
end

section
namespace Go.Proofs.Ytgfknljhogfeaaa.G
open Go.RowKit Go.Proofs.YtgfknljhogfeaaaW.PrintWords Go.Proofs.YtgfknljhogfeaaaW.PrintLast Go.Proofs.YtgfknljhogfeaaaW.PrintMore
attribute [local go_sem] max2_int min2_int max_two min_two max_three min_three max_four min_four
set_option linter.unusedVariables false
set_option linter.unusedSimpArgs false
def impl_Flag_blur.f (a0_0:Int) (a0_1:Int) (a0_2:Int) (a0_3:Int) (a0_4:Int) (a0_5:Int) (a0_6:Int) (a0_7:Int) (a0_8:Int) (a0_9:Int) (a0_10:Int) (a0_11:Int) (a0_12:Int) (a0_13:Int) (a0_14:Int) (a0_15:Int) (a0_16:Int) (a0_17:Int) (a0_18:Int) (a0_19:Int) (a0_20:Int) (a0_21:Int) (a0_22:Int) (a0_23:Int):Option (Int × Int × Int × Int × Int × Int):=if ([a0_0,a0_1,a0_2,a0_3,a0_4,a0_5,a0_6,a0_7,a0_8,a0_9,a0_10,a0_11,a0_12,a0_13,a0_14,a0_15,a0_16,a0_17,a0_18,a0_19,a0_20,a0_21,a0_22,a0_23]:List Int).all (fun c=>decide (0≤c) && decide (c < 6))=true then some (oneB [a0_0,a0_1,a0_2,a0_3,a0_4,a0_5,a0_6,a0_7,a0_8,a0_9,a0_10,a0_11,a0_12,a0_13,a0_14,a0_15,a0_16,a0_17,a0_18,a0_19,a0_20,a0_21,a0_22,a0_23] 0,oneB [a0_0,a0_1,a0_2,a0_3,a0_4,a0_5,a0_6,a0_7,a0_8,a0_9,a0_10,a0_11,a0_12,a0_13,a0_14,a0_15,a0_16,a0_17,a0_18,a0_19,a0_20,a0_21,a0_22,a0_23] 1,oneB [a0_0,a0_1,a0_2,a0_3,a0_4,a0_5,a0_6,a0_7,a0_8,a0_9,a0_10,a0_11,a0_12,a0_13,a0_14,a0_15,a0_16,a0_17,a0_18,a0_19,a0_20,a0_21,a0_22,a0_23] 2,oneB [a0_0,a0_1,a0_2,a0_3,a0_4,a0_5,a0_6,a0_7,a0_8,a0_9,a0_10,a0_11,a0_12,a0_13,a0_14,a0_15,a0_16,a0_17,a0_18,a0_19,a0_20,a0_21,a0_22,a0_23] 3,oneB [a0_0,a0_1,a0_2,a0_3,a0_4,a0_5,a0_6,a0_7,a0_8,a0_9,a0_10,a0_11,a0_12,a0_13,a0_14,a0_15,a0_16,a0_17,a0_18,a0_19,a0_20,a0_21,a0_22,a0_23] 4,oneB [a0_0,a0_1,a0_2,a0_3,a0_4,a0_5,a0_6,a0_7,a0_8,a0_9,a0_10,a0_11,a0_12,a0_13,a0_14,a0_15,a0_16,a0_17,a0_18,a0_19,a0_20,a0_21,a0_22,a0_23] 5) else none
theorem impl_Flag_blur.max:∀ (cs:List Int),cs.length=6→gmax cs=cs.getD (bstB cs 5) 0
 | [x0,x1,x2,x3,x4,x5],_=>by
  have h0:=bstB_ge [x0,x1,x2,x3,x4,x5] 5 0 (by decide);have h1:=bstB_ge [x0,x1,x2,x3,x4,x5] 5 1 (by decide);have h2:=bstB_ge [x0,x1,x2,x3,x4,x5] 5 2 (by decide);have h3:=bstB_ge [x0,x1,x2,x3,x4,x5] 5 3 (by decide);have h4:=bstB_ge [x0,x1,x2,x3,x4,x5] 5 4 (by decide);have h5:=bstB_ge [x0,x1,x2,x3,x4,x5] 5 5 (by decide);have hl:=bstB_le [x0,x1,x2,x3,x4,x5] 5;have hm:gmax [x0,x1,x2,x3,x4,x5]=mx (mx (mx (mx (mx x0 x1) x2) x3) x4) x5:=rfl;rw [hm];simp only [List.getD_cons_zero,List.getD_cons_succ] at h0 h1 h2 h3 h4 h5;generalize bstB [x0,x1,x2,x3,x4,x5] 5=q at *
  have hq:q=0∨q=1∨q=2∨q=3∨q=4∨q=5:=by omega
  unfold mx
  rcases hq with rfl|rfl|rfl|rfl|rfl|rfl <;> simp only [List.getD_cons_zero,List.getD_cons_succ] at h0 h1 h2 h3 h4 h5 ⊢ <;> (repeat' split) <;> omega
theorem impl_Flag_blur.first {cs:List Int} (hl:cs.length=6):slices_Index_int_int.f 100 cs (gmax cs)=some ((bstB cs 5:Nat):Int):=by
 rw [impl_Flag_blur.max cs hl];have hle:=bstB_le cs 5
 have go:∀ d i k:Nat,i + d=bstB cs 5→d < k→slices_Index_int_int.l0 k cs (cs.getD (bstB cs 5) 0) (cs.length:Int) (i:Int)=some ((bstB cs 5:Nat):Int):=by
  intro d
  induction d with
  | zero =>
   intro i k hi hk;obtain ⟨k,rfl⟩:∃ m,k=m + 1:=⟨k - 1,by omega⟩
   obtain rfl:i=bstB cs 5:=by omega
   rw [slices_Index_int_int.l0,if_pos (by omega),if_pos (by omega),if_pos (by omega),if_pos (show cs.getD (bstB cs 5) 0=rd cs ((bstB cs 5:Nat):Int) from rfl)]
  | succ d ih =>
   intro i k hi hk;obtain ⟨k,rfl⟩:∃ m,k=m + 1:=⟨k - 1,by omega⟩;have hg:=bstB_gt cs 5 i (by omega);have r1:rd cs (i:Int)=cs.getD i 0:=rfl;rw [slices_Index_int_int.l0,if_pos (by omega),if_pos (by omega),if_pos (by omega),r1,if_neg (by omega),show wrap64 ((i:Int) + 1)=((i + 1:Nat):Int) from by unfold wrap64;omega];exact ih (i + 1) k (by omega) (by omega)
 exact go (bstB cs 5) 0 100 (by omega) (by omega)
theorem impl_Flag_blur.four (b:Nat):[2 * ((b % 3:Nat):Int) + 12 * ((b / 3:Nat):Int),2 * ((b % 3:Nat):Int) + 12 * ((b / 3:Nat):Int) + 1,2 * ((b % 3:Nat):Int) + 12 * ((b / 3:Nat):Int) + 6,2 * ((b % 3:Nat):Int) + 12 * ((b / 3:Nat):Int) + 6 + 1]=(List.range 4).map fun i=>((posB b i:Nat):Int):=by
 have e:(List.range 4).map (fun i=>((posB b i:Nat):Int))=[((posB b 0:Nat):Int),((posB b 1:Nat):Int),((posB b 2:Nat):Int),((posB b 3:Nat):Int)]:=rfl;rw [e]
 unfold posB
 generalize b % 3=m;generalize b / 3=d
 congr 1
 ·omega
 congr 1
 ·omega
 congr 1
 ·omega
 congr 1
 omega
set_option maxHeartbeats 8000000 in
set_option maxRecDepth 100000 in
theorem impl_Flag_blur.core (xs:List Int) (hx:xs.length=24) (hv:∀ x∈xs,0≤x∧x < 6) (w:World) :
  Calls Try.prog 80 #[.agg (nums .u8 xs).toArray] w fun e w'=>e=.returned (.agg (nums .u8 (blurB xs)).toArray)∧Below w.heap.size w w':=by
 have HV:Aside0 (∀ j:Nat,j < 24→0≤xs.getD j 0∧xs.getD j 0 < 6):=⟨fun j hj=>by
  rw [List.getD_eq_getElem?_getD,List.getElem?_eq_getElem (show j < xs.length by omega)]
  exact hv _ (List.getElem_mem _)⟩
 have HB:=am (Below.refl w.heap.size w);have HIT:=am (show (Try.prog.info? 60).map (·.size)=some 6 by kernel_rfl);have HIC:=am (show (Try.prog.info? 133).map (·.size)=some 6 by kernel_rfl);clear hv
 go_enter Try.func80,Try.ntmps80
 go_wp2_with (first|((with_reducible refine gate_dst (N:=1) rfl ?_);refine box_event ?hg (N:=1) ?hd (cs:=(nums .u8 xs).toArray) (t:=68) ?hr ?_;(case hd=>rfl);(case hg=>rfl);(case hr=>exact zq15);intro b1 hg_ w1 hb_ hB_;have HB1:=am (below_step HB.out hB_);have BK1:=am (show IsBox .u8 68 w1 b1 xs from hb_);clear hb_ hB_ hg_)|((with_reducible refine gate_dst (N:=2) rfl ?_);refine box_event ?hg (N:=2) ?hd (cs:=(nums .u8 (List.replicate 6 0)).toArray) (t:=60) ?hr ?_;(case hd=>rfl);(case hg=>rfl);(case hr=>exact zq15);intro b2 hg_ w2 hb_ hB_;have HB2:=am (below_step HB1.out hB_);have BK2:=am (box_below BK1.out hB_);have BL2:=am (show IsBox .u8 60 w2 b2 (List.replicate 6 0) from hb_);have GE2:=am (show w.heap.size≤b2 by rw [hg_];exact below_size HB1.out);clear hb_ hB_ hg_)|((with_reducible refine gate_dst (N:=3) rfl ?_);refine box_event ?hg (N:=3) ?hd (cs:=(nums .u8 (List.replicate 6 0)).toArray) (t:=60) ?hr ?_;(case hd=>rfl);(case hg=>rfl);(case hr=>exact zq15);intro b3 hg_ w3 hb_ hB_;have N32:=am (show b3≠b2 by rw [hg_];have:=box_lt BL2.out;omega);have N31:=am (show b3≠b1 by rw [hg_];have:=box_lt BK2.out;omega);have GE3:=am (show w.heap.size≤b3 by rw [hg_];exact below_size HB2.out);have HB3:=am (below_step HB2.out hB_);have BK3:=am (box_below BK2.out hB_);have BL3:=am (box_below BL2.out hB_);have BM3:=am (show IsBox .u8 60 w3 b3 (List.replicate 6 0) from hb_);clear hb_ hB_ hg_)|((with_reducible refine gate_store (t:=60) (p:=3) rfl ?_);refine box_store (k:=.u8) (t:=60) (b:=b3) (xs:=(List.replicate 6 0)) (ys:=(List.replicate 6 0)) rfl rfl rfl rfl rfl BM3.out rfl HIT.out ?_;intro w4 hw_;have BK4:=am (show IsBox .u8 68 w4 b1 xs by rw [hw_];exact box_apart BK3.out N31.out.symm _);have BL4:=am (show IsBox .u8 60 w4 b2 (List.replicate 6 0) by rw [hw_];exact box_apart BL3.out N32.out.symm _);have BM4:=am (show IsBox .u8 60 w4 b3 (List.replicate 6 0) by rw [hw_];exact box_row BM3.out (List.replicate 6 0));have HB4:=am (show Below w.heap.size w w4 by rw [hw_];exact Go.below_setRow HB3.out GE3.out _);clear hw_))
 go_loopg [10] 7 (fun gg s10 wr=>∃ b:Nat,b≤6∧6 - b≤gg∧s10=.int .i64 b∧Aside0 (Below w.heap.size w wr)∧Aside0 (IsBox .u8 68 wr b1 xs)∧Aside0 (IsBox .u8 60 wr b2 (List.replicate 6 0))∧Aside0 (IsBox .u8 60 wr b3 ((List.range b).map (oneB xs) ++ List.replicate (6 - b) 0)))
 case atStart=>exact ⟨0,by omega,by omega,rfl,HB4,BK4,BL4,BM4⟩
 case round =>
  clear HB HB1 HB2 HB3 HB4 BK1 BK2 BK3 BK4 BL2 BL3 BM3 BL4 BM4;obtain ⟨b,hb,hg,rfl,HBr,BKr,BLr,BMr⟩:=hrel
  by_cases hlt:b < 6
  ·have hltz:(b:Int) < 6:=by omega
   have e1:Int.tmod (b:Int) 3=((b % 3:Nat):Int):=rfl;have e3:Int.tdiv (b:Int) 3=((b / 3:Nat):Int):=rfl
   have g1:b % 3 < 3:=by omega
   have g3:b / 3 < 2:=by omega
   have H4:=am (impl_Flag_blur.four b);generalize b % 3=bm at *;generalize b / 3=bd at *
   go_wp2_with (first|((with_reducible refine gate_dst (N:=6) rfl ?_);refine box_event ?hg (N:=6) ?hd (cs:=(nums .i64 (List.replicate 6 0)).toArray) (t:=133) ?hr ?_;(case hd=>rfl);(case hg=>rfl);(case hr=>exact zq15);intro b6 hg_ w6 hb_ hB_;have N61:=am (show b1≠b6 by rw [hg_];have:=box_lt BKr.out;omega);have N62:=am (show b2≠b6 by rw [hg_];have:=box_lt BLr.out;omega);have N63:=am (show b3≠b6 by rw [hg_];have:=box_lt BMr.out;omega);have GE6:=am (show w.heap.size≤b6 by rw [hg_];exact below_size HBr.out);have HB6:=am (below_step HBr.out hB_);have BK6:=am (box_below BKr.out hB_);have BL6:=am (box_below BLr.out hB_);have BM6:=am (box_below BMr.out hB_);have BC6:=am (show IsBox .i64 133 w6 b6 (List.replicate 6 0) from hb_);clear hb_ hB_ hg_)|((with_reducible refine gate_store (t:=133) (p:=6) rfl ?_);refine box_store (k:=.i64) (t:=133) (b:=b6) (xs:=(List.replicate 6 0)) (ys:=(List.replicate 6 0)) rfl rfl rfl rfl rfl BC6.out rfl HIC.out ?_;intro w7 hw_;have BK7:=am (show IsBox .u8 68 w7 b1 xs by rw [hw_];exact box_apart BK6.out N61.out _);have BL7:=am (show IsBox .u8 60 w7 b2 (List.replicate 6 0) by rw [hw_];exact box_apart BL6.out N62.out _);have BM7:=am (show IsBox .u8 60 w7 b3 ((List.range b).map (oneB xs) ++ List.replicate (6 - b) 0) by rw [hw_];exact box_apart BM6.out N63.out _);have BC7:=am (show IsBox .i64 133 w7 b6 (cntB xs b 0) by rw [hw_];exact box_row BC6.out (List.replicate 6 0));have HB7:=am (show Below w.heap.size w w7 by rw [hw_];exact Go.below_setRow HB6.out GE6.out _);clear hw_)|((with_reducible refine gate_dst (N:=29) rfl ?_);refine slice_event ?hg (N:=29) ?hd (k:=.i64) (xs:=[2 * (bm:Int) + 12 * (bd:Int),2 * (bm:Int) + 12 * (bd:Int) + 1,2 * (bm:Int) + 12 * (bd:Int) + 6,2 * (bm:Int) + 12 * (bd:Int) + 6 + 1]) (t:=3) ?hr ?_;(case hd=>rfl);(case hg=>rfl);(case hr=>exact zq15);intro bs hg_ w8 hbx hB_;have HB8:=am (below_step HB7.out hB_);have BK8:=am (box_below BK7.out hB_);have BL8:=am (box_below BL7.out hB_);have BM8:=am (box_below BM7.out hB_);have BC8:=am (box_below BC7.out hB_);have NS8:=am (show bs≠b6 by rw [hg_];have:=box_lt BC7.out;omega);rw [H4.out] at hbx;have BS8:=am hbx;clear hbx hB_ hg_))
   clear HB6 HB7 BK6 BK7 BL6 BL7 BM6 BM7 BC6 BC7
   go_loopg [31] 5 (fun gg s31 wr=>∃ k:Nat,k≤4∧4 - k≤gg∧s31=.int .i64 k∧Aside0 (Below w.heap.size w wr)∧Aside0 (IsBox .u8 68 wr b1 xs)∧Aside0 (IsBox .u8 60 wr b2 (List.replicate 6 0))∧Aside0 (IsBox .u8 60 wr b3 ((List.range b).map (oneB xs) ++ List.replicate (6 - b) 0))∧Aside0 (IsBox .i64 133 wr b6 (cntB xs b k))∧Aside0 (IsBox .i64 3 wr bs ((List.range 4).map fun i=>((posB b i:Nat):Int))))
   case atStart=>exact ⟨0,by omega,by omega,rfl,HB8,BK8,BL8,BM8,BC8,BS8⟩
   case round =>
    clear HBr BKr BLr BMr HB8 BK8 BL8 BM8 BC8 BS8;obtain ⟨k,hk,hg2,rfl,HBr,BKr,BLr,BMr,BCr,BSr⟩:=hrel
    by_cases hlk:k < 4
    ·have hlkz:(k:Int) < 4:=by omega
     have HPL:=am (posB_lt hlt hlk);have c0:=box_at BSr.out (j:=k) (by simp;omega);rw [show ((List.range 4).map fun i=>((posB b i:Nat):Int))[k]'(by simp;omega)=((posB b k:Nat):Int) by simp] at c0;have c1:=box_at BKr.out (j:=posB b k) (by rw [hx];exact HPL.out);have hv:=HV.out _ HPL.out;rw [show xs[posB b k]'(by rw [hx];exact HPL.out)=xs.getD (posB b k) 0 by rw [List.getD_eq_getElem?_getD,List.getElem?_eq_getElem (by rw [hx];exact HPL.out)];rfl] at c1;have HN:=am (show cntB xs b (k + 1)=(cntB xs b k).set (xs.getD (posB b k) 0).toNat ((cntB xs b k).getD (xs.getD (posB b k) 0).toNat 0 + 1) from rfl);have HCL:=am (cntB_len xs b k);have hle:=cntB_le xs b k (xs.getD (posB b k) 0).toNat;generalize xs.getD (posB b k) 0=c at *;generalize posB b k=q at *
     have hqz:(q:Int) < 24:=by have:=HPL.out;omega
     obtain ⟨v,rfl⟩:∃ v:Nat,c=(v:Int):=⟨c.toNat,by omega⟩;rw [Int.toNat_natCast] at HN hle
     have hvz:(v:Int) < 6:=by omega
     have c2:=box_at BCr.out (show v < (cntB xs b k).length by rw [HCL.out];omega);have f2:=box_frozen BCr.out v;rw [show (cntB xs b k).getD v 0=(cntB xs b k)[v]'zq66 by rw [List.getD_eq_getElem?_getD,List.getElem?_eq_getElem (show v < (cntB xs b k).length by rw [HCL.out];omega)];rfl] at hle HN;have BCs:=am (box_set BCr.out v ((cntB xs b k)[v]'zq66 + 1));have BKs:=am (box_far BKr.out (p:=⟨b6,v,none⟩) N61.out (.int .i64 ((cntB xs b k)[v]'zq66 + 1)));have BLs:=am (box_far BLr.out (p:=⟨b6,v,none⟩) N62.out (.int .i64 ((cntB xs b k)[v]'zq66 + 1)));have BMs:=am (box_far BMr.out (p:=⟨b6,v,none⟩) N63.out (.int .i64 ((cntB xs b k)[v]'zq66 + 1)));have BSs:=am (box_far BSr.out (p:=⟨b6,v,none⟩) NS8.out (.int .i64 ((cntB xs b k)[v]'zq66 + 1)));have HBs:=am (below_set (j:=v) (v:=.int .i64 ((cntB xs b k)[v]'zq66 + 1)) (h:=HBr.out) (hg:=GE6.out));rw [← HN.out] at BCs;generalize (cntB xs b k)[v]'zq66=u at *;have hu0:0≤u:=hle.1
     have hu1:u≤4:=by have:=hle.2;omega
     clear hle HN HCL hv
     go_wp2
     go_roundg (4 - (k + 1))
     case measure=>omega
     case rel=>exact ⟨k + 1,by omega,by omega,by go_num,HBs,BKs,BLs,BMs,BCs,BSs⟩
    ·have:k=4:=by omega
     subst this;have HCL:=am (cntB_len xs b 4)
     have HMX:Aside0 (∀ (W:World),IsBox .i64 133 W b6 (cntB xs b 4)→Calls Try.prog 101 #[.slice (some ⟨b6,0,none⟩) 6 6] W fun e w'=>e=.returned (.int .i64 (gmax (cntB xs b 4)))∧Drawn0 W w'):=⟨fun W hb_=>by
      have h_:=slices_Max_int_int.calls (some ⟨b6,0,none⟩) 6 (cntB xs b 4) (gmax (cntB xs b 4)) W (box_C hb_ (by rw [HCL.out];decide)) (by rw [HCL.out];exact Nat.le_refl _) (by unfold slices_Max_int_int.f;rw [if_pos (by rw [HCL.out];decide)]);rw [HCL.out] at h_
      exact h_⟩
     have HIX:Aside0 (∀ (W:World),IsBox .i64 133 W b6 (cntB xs b 4)→Calls Try.prog 100 #[.slice (some ⟨b6,0,none⟩) 6 6,.int .i64 (gmax (cntB xs b 4))] W fun e w'=>e=.returned (.int .i64 (oneB xs b))∧Drawn0 W w'):=⟨fun W hb_=>by
      have h_:=slices_Index_int_int.calls 100 (some ⟨b6,0,none⟩) 6 (cntB xs b 4) (gmax (cntB xs b 4)) (oneB xs b) W (box_C hb_ (by rw [HCL.out];decide)) (by rw [HCL.out];exact Nat.le_refl _) (impl_Flag_blur.first HCL.out);rw [HCL.out] at h_
      exact h_⟩
     have c3:=box_at BMr.out (j:=b) (by simp;omega);have f3:=box_frozen BMr.out b;have HO:=oneB_lt xs b;have HRP:=am (range_put (oneB xs) hlt);generalize hov:oneB xs b=ov at *
     have em:ov % 256=ov:=by omega
     have em2:IntKind.u8.wrap ov=ov:=by
      simp only [IntKind.wrap,IntKind.signed,IntKind.bits]
      simp
      omega
     generalize gmax (cntB xs b 4)=gm at *;clear HCL HO
     go_wp2
     go_region_with (first|(go_at_call 101;refine (HMX.out _ (by exact BCr.out)).mono ?_;rintro e w' ⟨rfl,⟨nd,rfl⟩⟩)|(go_at_call 100;refine (HIX.out _ (by exact BCr.out)).mono ?_;rintro e w' ⟨rfl,⟨nd,rfl⟩⟩))
     (try simp only [em2])
     go_wp2
     go_roundg (6 - (b + 1))
     case measure=>omega
     case rel=>exact ⟨b + 1,by omega,by omega,by go_num,⟨by refine below_set (h:=?_) (hg:=GE3.out);repeat (first|exact HBr.out|apply below_drew|apply pw_below_drewN|apply below_drew1)⟩,⟨box_far (show IsBox .u8 68 _ b1 xs from BKr.out) (p:=⟨b3,b,none⟩) N31.out.symm _⟩,⟨box_far (show IsBox .u8 60 _ b2 (List.replicate 6 0) from BLr.out) (p:=⟨b3,b,none⟩) N32.out.symm _⟩,⟨by rw [← HRP.out];exact box_set (show IsBox .u8 60 _ b3 _ from BMr.out) b ov⟩⟩
  ·have:b=6:=by omega
   subst this
   have e6:(List.range 6).map (oneB xs) ++ List.replicate (6 - 6) 0=blurB xs:=by simp [blurB]
   rw [e6] at BMr;have HLB:=am (blurB_len xs);clear e6;obtain ⟨ys,hys⟩:∃ ys,ys=blurB xs:=⟨_,rfl⟩;rw [← hys] at BMr HLB;have HYS:=am hys;clear hys
   go_wp2_with (first|((with_reducible refine gate_dst (N:=51) rfl ?_);refine box_load (k:=.u8) (t:=60) (b:=b3) (xs:=ys) rfl rfl rfl BMr.out Try.underlying60 rfl (by rw [HLB.out];exact HIT.out) ?_)|((with_reducible refine gate_store (t:=60) (p:=2) rfl ?_);refine box_store (k:=.u8) (t:=60) (b:=b2) (xs:=(List.replicate 6 0)) (ys:=ys) rfl rfl rfl rfl rfl BLr.out (by rw [HLB.out];rfl) (by rw [HLB.out];exact HIT.out) ?_;intro w9 hw9;have BL9:=am (show IsBox .u8 60 w9 b2 ys by rw [hw9];exact box_row BLr.out ys);have HB9:=am (show Below w.heap.size w w9 by rw [hw9];exact Go.below_setRow HBr.out GE2.out _);clear hw9))
   refine bodyPost_ret (results_cell_row rfl _ _ b2 60 _ (0,0) _ rfl BL9.out Try.underlying60 rfl (by simpa [nums,HLB.out] using HIT.out)) rfl ?_;exact ⟨by rw [HYS.out],HB9.out⟩
theorem impl_Flag_blur.calls (a0_0:Int) (a0_1:Int) (a0_2:Int) (a0_3:Int) (a0_4:Int) (a0_5:Int) (a0_6:Int) (a0_7:Int) (a0_8:Int) (a0_9:Int) (a0_10:Int) (a0_11:Int) (a0_12:Int) (a0_13:Int) (a0_14:Int) (a0_15:Int) (a0_16:Int) (a0_17:Int) (a0_18:Int) (a0_19:Int) (a0_20:Int) (a0_21:Int) (a0_22:Int) (a0_23:Int) (r1:Int) (r2:Int) (r3:Int) (r4:Int) (r5:Int) (r6:Int) (w:World) (h:impl_Flag_blur.f a0_0 a0_1 a0_2 a0_3 a0_4 a0_5 a0_6 a0_7 a0_8 a0_9 a0_10 a0_11 a0_12 a0_13 a0_14 a0_15 a0_16 a0_17 a0_18 a0_19 a0_20 a0_21 a0_22 a0_23=some (r1,r2,r3,r4,r5,r6)) :
  Calls Try.prog 80 #[.agg #[.int .u8 a0_0,.int .u8 a0_1,.int .u8 a0_2,.int .u8 a0_3,.int .u8 a0_4,.int .u8 a0_5,.int .u8 a0_6,.int .u8 a0_7,.int .u8 a0_8,.int .u8 a0_9,.int .u8 a0_10,.int .u8 a0_11,.int .u8 a0_12,.int .u8 a0_13,.int .u8 a0_14,.int .u8 a0_15,.int .u8 a0_16,.int .u8 a0_17,.int .u8 a0_18,.int .u8 a0_19,.int .u8 a0_20,.int .u8 a0_21,.int .u8 a0_22,.int .u8 a0_23]] w fun e w'=>e=.returned (.agg #[.int .u8 r1,.int .u8 r2,.int .u8 r3,.int .u8 r4,.int .u8 r5,.int .u8 r6])∧Below w.heap.size w w':=by
 unfold impl_Flag_blur.f at h
 by_cases hv:([a0_0,a0_1,a0_2,a0_3,a0_4,a0_5,a0_6,a0_7,a0_8,a0_9,a0_10,a0_11,a0_12,a0_13,a0_14,a0_15,a0_16,a0_17,a0_18,a0_19,a0_20,a0_21,a0_22,a0_23]:List Int).all (fun c=>decide (0≤c) && decide (c < 6))=true
 ·rw [if_pos hv] at h;simp only [Option.some.injEq,Prod.mk.injEq] at h;obtain ⟨rfl,rfl,rfl,rfl,rfl,rfl⟩:=h;exact impl_Flag_blur.core [a0_0,a0_1,a0_2,a0_3,a0_4,a0_5,a0_6,a0_7,a0_8,a0_9,a0_10,a0_11,a0_12,a0_13,a0_14,a0_15,a0_16,a0_17,a0_18,a0_19,a0_20,a0_21,a0_22,a0_23] rfl (fun x hx=>by have h_:=List.all_eq_true.1 hv x hx;simpa using h_) w
 ·rw [if_neg hv] at h;cases h
end Go.Proofs.Ytgfknljhogfeaaa.G
end

section
namespace Go.Proofs.Ytgfknljhogfeaaa.G
open Go.RowKit Go.Proofs.YtgfknljhogfeaaaW.PrintWords Go.Proofs.YtgfknljhogfeaaaW.PrintLast Go.Proofs.YtgfknljhogfeaaaW.PrintMore
attribute [local go_sem] max2_int min2_int max_two min_two max_three min_three max_four min_four
set_option linter.unusedVariables false
set_option linter.unusedSimpArgs false
def impl_unlike.l0:Nat→List Int→Int→List Int→Int→Int→Option (Int)
 | 0,_,_,_,_,_=>none
 | k + 1,x1,x5,x8,x9,x10=>if x10 < x9 then (if 0≤x10 then (if x10 < (x8.length:Int) then (if x10 < (x1.length:Int) then (if (rd x1 x10)=(rd x8 x10) then (impl_unlike.l0 k x1 x5 x8 x9 (wrap64 (x10 + 1))) else (impl_unlike.l0 k x1 (wrap64 (x5 + 1)) x8 x9 (wrap64 (x10 + 1)))) else (none)) else (none)) else (none)) else (some x5)
def impl_unlike.f (k:Nat) (l0:List Int) (l1:List Int):Option (Int):=impl_unlike.l0 k l1 0 l0 (l0.length:Int) 0
set_option maxHeartbeats 8000000 in
set_option maxRecDepth 100000 in
theorem impl_unlike.calls (k:Nat) (A0:Option Addr) (c0:Nat) (l0:List Int) (A1:Option Addr) (c1:Nat) (l1:List Int) (r:Int) (w:World) (hr0:Kd.C (Kd.int .u8) w A0 l0.length l0) (hc0:l0.length≤c0) (hr1:Kd.C (Kd.int .u8) w A1 l1.length l1) (hc1:l1.length≤c1) (h:impl_unlike.f k l0 l1=some r) :
  Calls Try.prog 84 #[.slice A0 l0.length c0,.slice A1 l1.length c1] w fun e w'=>e=.returned (.int .i64 r)∧Drawn0 w w':=by
 have HR0:=am hr0;have HC0:=am hc0;clear hr0 hc0;have HR1:=am hr1;have HC1:=am hc1;clear hr1 hc1;have H:(impl_unlike.l0 k l1 0 l0 (l0.length:Int) 0)=some r:=h;clear h;have H':=am H;clear H
 go_enter Try.func84,Try.ntmps84
 go_wp2
 go_loopg [5,10] k (fun kq v5 v10 w'=>∃ (x5_1:Int) (x10_1:Int),v5=.int .i64 x5_1∧v10=.int .i64 x10_1∧Aside0 (impl_unlike.l0 kq l1 x5_1 l0 (l0.length:Int) x10_1=some r)∧Aside0 (kq≤k)∧Drawn0 w w')
 case atStart=>exact ⟨(0),(0),zq3,zq3,H',⟨Nat.le_refl _⟩,by repeat (first|exact Drawn0.refl _|apply Drawn0.step)⟩
 case round =>
  clear H';(try clear c1);(try clear p2);obtain ⟨x5_1,x10_1,rfl,rfl,HA,HK1,⟨m1,rfl⟩⟩:=hrel
  cases gk with
  | zero=>exact absurd HA.out (by simp [impl_unlike.l0])
  | succ k1 =>
   have H:=HA.out;clear HA;simp only [impl_unlike.l0] at H
   by_cases c3:x10_1 < (l0.length:Int)
   ·rw [if_pos c3] at H;have c3b0:decide (x10_1 < (l0.length:Int))=true:=decide_eq_true c3;clear c3
    by_cases c4:0≤x10_1
    ·rw [if_pos c4] at H;have c4b0:decide (0≤x10_1)=true:=decide_eq_true c4;clear c4
     by_cases c5:x10_1 < (l0.length:Int)
     ·rw [if_pos c5] at H;have c5b0:decide (x10_1 < (l0.length:Int))=true:=decide_eq_true c5;clear c5
      by_cases c6:x10_1 < (l1.length:Int)
      ·rw [if_pos c6] at H;have c6b0:decide (x10_1 < (l1.length:Int))=true:=decide_eq_true c6;clear c6
       by_cases c7:(rd l1 x10_1)=(rd l0 x10_1)
       ·rw [if_pos c7] at H;have c7b0:((rd l1 x10_1) == (rd l0 x10_1))=true:=beq_iff_eq.mpr c7;have c7b1:((rd l1 x10_1) != (rd l0 x10_1))=false:=bne_eq_false_iff_eq.mpr c7;clear c7;have H':=am H;clear H;have p101:0≤(x10_1:Int):=of_decide_eq_true zq9;have q101:x10_1 < (l0.length:Int):=of_decide_eq_true zq9;obtain ⟨ad101,e101,hx101_0⟩:=Kd.at_int HR0.out x10_1 p101 q101;cases e101;replace p101:=eq_true p101;replace q101:=eq_true q101;have p102:0≤(x10_1:Int):=of_decide_eq_true zq9;have q102:x10_1 < (l1.length:Int):=of_decide_eq_true zq9;obtain ⟨ad102,e102,hx102_0⟩:=Kd.at_int HR1.out x10_1 p102 q102;cases e102;replace p102:=eq_true p102;replace q102:=eq_true q102
        go_wp2
        go_roundg k1
        case measure=>have:=HK1.out;omega
        case rel=>exact ⟨(x5_1),(wrap64 (x10_1 + 1)),zq3,zq3,H',⟨by have:=HK1.out;omega⟩,by repeat (first|exact Drawn0.refl _|apply Drawn0.step)⟩
       ·rw [if_neg c7] at H;have c7b0:((rd l1 x10_1) == (rd l0 x10_1))=false:=beq_eq_false_iff_ne.mpr c7;have c7b1:((rd l1 x10_1) != (rd l0 x10_1))=true:=bne_iff_ne.mpr c7;have H':=am H;clear H;have p101:0≤(x10_1:Int):=of_decide_eq_true zq9;have q101:x10_1 < (l0.length:Int):=of_decide_eq_true zq9;obtain ⟨ad101,e101,hx101_0⟩:=Kd.at_int HR0.out x10_1 p101 q101;cases e101;replace p101:=eq_true p101;replace q101:=eq_true q101;have p102:0≤(x10_1:Int):=of_decide_eq_true zq9;have q102:x10_1 < (l1.length:Int):=of_decide_eq_true zq9;obtain ⟨ad102,e102,hx102_0⟩:=Kd.at_int HR1.out x10_1 p102 q102;cases e102;replace p102:=eq_true p102;replace q102:=eq_true q102
        go_wp2
        go_roundg k1
        case measure=>have:=HK1.out;omega
        case rel=>exact ⟨(wrap64 (x5_1 + 1)),(wrap64 (x10_1 + 1)),zq3,zq3,H',⟨by have:=HK1.out;omega⟩,by repeat (first|exact Drawn0.refl _|apply Drawn0.step)⟩
      ·rw [if_neg c6] at H;exact absurd H (by simp)
     ·rw [if_neg c5] at H;exact absurd H (by simp)
    ·rw [if_neg c4] at H;exact absurd H (by simp)
   ·rw [if_neg c3] at H;have c3b0:decide (x10_1 < (l0.length:Int))=false:=decide_eq_false c3;clear c3;obtain rfl:=Option.some.inj H
    go_wp2
    go_ret
    exact ⟨by first|rfl|(simp only [IntKind.wrap_i64,wrap64];done)|(simp;done)|(simp [*];done),by repeat (first|exact Drawn0.refl _|apply Drawn0.step)⟩
end Go.Proofs.Ytgfknljhogfeaaa.G
end

section
namespace Go.Proofs.Ytgfknljhogfeaaa.G
open Go.RowKit Go.Proofs.YtgfknljhogfeaaaW.PrintWords Go.Proofs.YtgfknljhogfeaaaW.PrintLast Go.Proofs.YtgfknljhogfeaaaW.PrintMore
attribute [local go_sem] max2_int min2_int max_two min_two max_three min_three max_four min_four
set_option linter.unusedVariables false
set_option linter.unusedSimpArgs false
def impl_afar.f (k:Nat) (a0_0 a0_1 a0_2 a0_3 a0_4 a0_5 a0_6 a0_7 a0_8 a0_9 a0_10 a0_11 a0_12 a0_13 a0_14 a0_15 a0_16 a0_17 a0_18 a0_19 a0_20 a0_21 a0_22 a0_23 a1_0 a1_1 a1_2 a1_3 a1_4 a1_5 a1_6 a1_7 a1_8 a1_9 a1_10 a1_11 a1_12 a1_13 a1_14 a1_15 a1_16 a1_17 a1_18 a1_19 a1_20 a1_21 a1_22 a1_23:Int):Option Int:=(impl_Flag_blur.f a0_0 a0_1 a0_2 a0_3 a0_4 a0_5 a0_6 a0_7 a0_8 a0_9 a0_10 a0_11 a0_12 a0_13 a0_14 a0_15 a0_16 a0_17 a0_18 a0_19 a0_20 a0_21 a0_22 a0_23).bind fun x=>(impl_Flag_blur.f a1_0 a1_1 a1_2 a1_3 a1_4 a1_5 a1_6 a1_7 a1_8 a1_9 a1_10 a1_11 a1_12 a1_13 a1_14 a1_15 a1_16 a1_17 a1_18 a1_19 a1_20 a1_21 a1_22 a1_23).bind fun y=>impl_unlike.f k [x.1,x.2.1,x.2.2.1,x.2.2.2.1,x.2.2.2.2.1,x.2.2.2.2.2] [y.1,y.2.1,y.2.2.1,y.2.2.2.1,y.2.2.2.2.1,y.2.2.2.2.2]
section
variable {P:Program} {ops:Array Oper} {Q:Exit→Act→World→Prop} {oi:Oper} {N:Option Tmp} {a:Act} {w:World} {K:Act→World→Prop}
theorem nums_len {k:IntKind} {xs:List Int}:(nums k xs).length=xs.length:=by simp [nums]
theorem impl_afar.alloc_step {cs:Array Value} {t:TypeId} (hw:Region.wanted oi (yielded ops a.tmps)=true) (hN:oi.dst=N) (hrun:(execOp a.eval oi).run P w=.ok (.value (.pointer (some ⟨w.heap.size,0,none⟩))) (w.alloc (.cells cs t (0,0))))
  (h:∀ b W',b=w.heap.size→W'.heap[b]?=some (.cells cs t (0,0))→Below w.heap.size w W'→K (a.put N (.pointer (some ⟨b,0,none⟩))) W'):if Region.wanted oi (yielded ops a.tmps)=true then Oper.wp P oi a w K Q else K (a.put N undef) w:=by
 rw [if_pos hw];subst hN
 unfold Oper.wp
 rw [hrun,Oper.upon_value];exact h _ _ rfl (blk_new w _) (below_alloc (Below.refl _ _) _)
theorem impl_afar.store_step {k:IntKind} {t b:Nat} {xs ys:List Int} (hw:Region.wanted oi (yielded ops a.tmps)=true) {p x:Operand} (ho:oi.op=.store t p x) (hN:oi.dst=none) (hp:a.eval p=.pointer (some ⟨b,0,none⟩)) (hx:a.eval x=.agg (nums k ys).toArray) (h:IsBox k t w b xs) (hl:xs.length=ys.length) (hi:(P.info? t).map (·.size)=some ys.length)
  (hK:∀ W',W'=w.setRow b (nums k ys).toArray→K (a.put none undef) W'):if Region.wanted oi (yielded ops a.tmps)=true then Oper.wp P oi a w K Q else K (a.put none undef) w:=by
 rw [if_pos hw]
 unfold Oper.wp execOp
 simp only [ho,hp,hx,Instr.storeAt,Instr.sureAddr,Sem.run_bind,Sem.run_pure,Result.andThen_ok,run_storeVar_row w b t t _ (nums k ys).toArray h (by simpa [nums] using hi) (by simp [nums,hl]) (nums_one k ys)]
 show K (a.put oi.dst undef) _
 rw [hN];exact hK _ rfl
end
set_option maxHeartbeats 8000000 in
set_option maxRecDepth 100000 in
theorem impl_afar.calls (k:Nat) (a0_0 a0_1 a0_2 a0_3 a0_4 a0_5 a0_6 a0_7 a0_8 a0_9 a0_10 a0_11 a0_12 a0_13 a0_14 a0_15 a0_16 a0_17 a0_18 a0_19 a0_20 a0_21 a0_22 a0_23 a1_0 a1_1 a1_2 a1_3 a1_4 a1_5 a1_6 a1_7 a1_8 a1_9 a1_10 a1_11 a1_12 a1_13 a1_14 a1_15 a1_16 a1_17 a1_18 a1_19 a1_20 a1_21 a1_22 a1_23 r:Int) (w:World) (h:impl_afar.f k a0_0 a0_1 a0_2 a0_3 a0_4 a0_5 a0_6 a0_7 a0_8 a0_9 a0_10 a0_11 a0_12 a0_13 a0_14 a0_15 a0_16 a0_17 a0_18 a0_19 a0_20 a0_21 a0_22 a0_23 a1_0 a1_1 a1_2 a1_3 a1_4 a1_5 a1_6 a1_7 a1_8 a1_9 a1_10 a1_11 a1_12 a1_13 a1_14 a1_15 a1_16 a1_17 a1_18 a1_19 a1_20 a1_21 a1_22 a1_23=some r) :
  Calls Try.prog 72 #[.agg #[.int .u8 a0_0,.int .u8 a0_1,.int .u8 a0_2,.int .u8 a0_3,.int .u8 a0_4,.int .u8 a0_5,.int .u8 a0_6,.int .u8 a0_7,.int .u8 a0_8,.int .u8 a0_9,.int .u8 a0_10,.int .u8 a0_11,.int .u8 a0_12,.int .u8 a0_13,.int .u8 a0_14,.int .u8 a0_15,.int .u8 a0_16,.int .u8 a0_17,.int .u8 a0_18,.int .u8 a0_19,.int .u8 a0_20,.int .u8 a0_21,.int .u8 a0_22,.int .u8 a0_23],.agg #[.int .u8 a1_0,.int .u8 a1_1,.int .u8 a1_2,.int .u8 a1_3,.int .u8 a1_4,.int .u8 a1_5,.int .u8 a1_6,.int .u8 a1_7,.int .u8 a1_8,.int .u8 a1_9,.int .u8 a1_10,.int .u8 a1_11,.int .u8 a1_12,.int .u8 a1_13,.int .u8 a1_14,.int .u8 a1_15,.int .u8 a1_16,.int .u8 a1_17,.int .u8 a1_18,.int .u8 a1_19,.int .u8 a1_20,.int .u8 a1_21,.int .u8 a1_22,.int .u8 a1_23]] w fun e w'=>e=.returned (.int .i64 r)∧Below w.heap.size w w':=by
 unfold impl_afar.f at h
 obtain ⟨⟨x1,x2,x3,x4,x5,x6⟩,hx,h⟩:=Option.bind_eq_some_iff.mp h;obtain ⟨⟨y1,y2,y3,y4,y5,y6⟩,hy,h⟩:=Option.bind_eq_some_iff.mp h;replace h:impl_unlike.f k [x1,x2,x3,x4,x5,x6] [y1,y2,y3,y4,y5,y6]=some r:=h;have HCX:Aside0 (∀ W:World,Calls Try.prog 80 #[.agg (nums .u8 [a0_0,a0_1,a0_2,a0_3,a0_4,a0_5,a0_6,a0_7,a0_8,a0_9,a0_10,a0_11,a0_12,a0_13,a0_14,a0_15,a0_16,a0_17,a0_18,a0_19,a0_20,a0_21,a0_22,a0_23]).toArray] W fun e w'=>e=.returned (.agg (nums .u8 [x1,x2,x3,x4,x5,x6]).toArray)∧Below W.heap.size W w'):=⟨fun W=>impl_Flag_blur.calls a0_0 a0_1 a0_2 a0_3 a0_4 a0_5 a0_6 a0_7 a0_8 a0_9 a0_10 a0_11 a0_12 a0_13 a0_14 a0_15 a0_16 a0_17 a0_18 a0_19 a0_20 a0_21 a0_22 a0_23 _ _ _ _ _ _ W hx⟩;have HCY:Aside0 (∀ W:World,Calls Try.prog 80 #[.agg (nums .u8 [a1_0,a1_1,a1_2,a1_3,a1_4,a1_5,a1_6,a1_7,a1_8,a1_9,a1_10,a1_11,a1_12,a1_13,a1_14,a1_15,a1_16,a1_17,a1_18,a1_19,a1_20,a1_21,a1_22,a1_23]).toArray] W fun e w'=>e=.returned (.agg (nums .u8 [y1,y2,y3,y4,y5,y6]).toArray)∧Below W.heap.size W w'):=⟨fun W=>impl_Flag_blur.calls a1_0 a1_1 a1_2 a1_3 a1_4 a1_5 a1_6 a1_7 a1_8 a1_9 a1_10 a1_11 a1_12 a1_13 a1_14 a1_15 a1_16 a1_17 a1_18 a1_19 a1_20 a1_21 a1_22 a1_23 _ _ _ _ _ _ W hy⟩;clear hx hy;have HLX:=am (show ([a0_0,a0_1,a0_2,a0_3,a0_4,a0_5,a0_6,a0_7,a0_8,a0_9,a0_10,a0_11,a0_12,a0_13,a0_14,a0_15,a0_16,a0_17,a0_18,a0_19,a0_20,a0_21,a0_22,a0_23]:List Int).length=24 from rfl);have HLY:=am (show ([a1_0,a1_1,a1_2,a1_3,a1_4,a1_5,a1_6,a1_7,a1_8,a1_9,a1_10,a1_11,a1_12,a1_13,a1_14,a1_15,a1_16,a1_17,a1_18,a1_19,a1_20,a1_21,a1_22,a1_23]:List Int).length=24 from rfl);have HXL:=am (show ([x1,x2,x3,x4,x5,x6]:List Int).length=6 from rfl);have HYL:=am (show ([y1,y2,y3,y4,y5,y6]:List Int).length=6 from rfl);have HU:=am h;clear h
 show Calls Try.prog 72 #[.agg (nums .u8 [a0_0,a0_1,a0_2,a0_3,a0_4,a0_5,a0_6,a0_7,a0_8,a0_9,a0_10,a0_11,a0_12,a0_13,a0_14,a0_15,a0_16,a0_17,a0_18,a0_19,a0_20,a0_21,a0_22,a0_23]).toArray,.agg (nums .u8 [a1_0,a1_1,a1_2,a1_3,a1_4,a1_5,a1_6,a1_7,a1_8,a1_9,a1_10,a1_11,a1_12,a1_13,a1_14,a1_15,a1_16,a1_17,a1_18,a1_19,a1_20,a1_21,a1_22,a1_23]).toArray] w _
 generalize ([a0_0,a0_1,a0_2,a0_3,a0_4,a0_5,a0_6,a0_7,a0_8,a0_9,a0_10,a0_11,a0_12,a0_13,a0_14,a0_15,a0_16,a0_17,a0_18,a0_19,a0_20,a0_21,a0_22,a0_23]:List Int)=xs at HCX HLX ⊢;generalize ([a1_0,a1_1,a1_2,a1_3,a1_4,a1_5,a1_6,a1_7,a1_8,a1_9,a1_10,a1_11,a1_12,a1_13,a1_14,a1_15,a1_16,a1_17,a1_18,a1_19,a1_20,a1_21,a1_22,a1_23]:List Int)=ys at HCY HLY ⊢;generalize ([x1,x2,x3,x4,x5,x6]:List Int)=xr at HCX HXL HU ⊢;generalize ([y1,y2,y3,y4,y5,y6]:List Int)=yr at HCY HYL HU ⊢;have HB:=am (Below.refl w.heap.size w);have HSZ:=am (show (Try.prog.info? 68).map (·.size)=some 24 from size68);have HSZ6:=am (show (Try.prog.info? 60).map (·.size)=some 6 by kernel_rfl)
 go_enter Try.func72,Try.ntmps72
 go_wp2_with (first|((with_reducible refine gate_dst (N:=2) rfl ?_);refine box_event ?hg (N:=2) ?hd (cs:=(nums .u8 xs).toArray) (t:=68) ?hr ?_;(case hd=>rfl);(case hg=>rfl);(case hr=>exact zq15);intro b2 hg_ wt hb_ hB_;have HB2:=am (below_step HB.out hB_);have BL2:=am (show IsBox .u8 68 wt b2 xs from hb_);clear hb_ hB_ hg_)|((with_reducible refine gate_dst (N:=3) rfl ?_);refine box_event ?hg (N:=3) ?hd (cs:=(nums .u8 ys).toArray) (t:=68) ?hr ?_;(case hd=>rfl);(case hg=>rfl);(case hr=>exact zq15);intro b3 hg_ wu hb_ hB_;have HB3:=am (below_step HB2.out hB_);have n0_:=am (box_below BL2.out hB_);clear BL2;have BL2:=n0_;clear n0_;have BM3:=am (show IsBox .u8 68 wu b3 ys from hb_);clear hb_ hB_ hg_)|fail)
 have hb1:=below_drew1 (Below.refl wu.heap.size wu);have HXA:=am (show ∀ j v,(nums .u8 xs)[j]?=some v→wu.drew.cell? ((⟨b2,0,none⟩:Addr).add j)=some v from fun j v hv=>by rw [add_plain];exact (blk_cell BL2.out j).trans (by simpa using hv));have HYA:=am (show ∀ j v,(nums .u8 ys)[j]?=some v→wu.drew.cell? ((⟨b3,0,none⟩:Addr).add j)=some v from fun j v hv=>by rw [add_plain];exact (blk_cell BM3.out j).trans (by simpa using hv));have n0_:=am (below_drew1 HB3.out);clear HB HB2 HB3 BL2 BM3 hb1;have HB:=n0_;clear n0_;refine start_ (n:=8) (S:=fun w'=>(∀ j v,(nums .u8 xs)[j]?=some v→w'.cell? ((⟨b2,0,none⟩:Addr).add j)=some v)∧(∀ j v,(nums .u8 ys)[j]?=some v→w'.cell? ((⟨b3,0,none⟩:Addr).add j)=some v)) (ds:=[6,7]) #[false,false,false,false,false,false,false,false] zq16 rfl rfl ⟨HXA.out,HYA.out⟩ (fun hHeld=>?_);generalize wu.drew=wd at HB hHeld ⊢;refine take_ (i:=0) (N:=some 7) (v:=?_) (a':=?_) #[true,false,false,false,false,false,false,false] rfl rfl zq16 (fun _ _ _ h=>h) (Or.inl ⟨by rfl,?_⟩) hHeld ?_ ?_;rotate_left
 ·rintro w' ⟨s0,s1⟩
  (refine exec_load_any (p:=.tmp 2) ?_ ?_ s0 Try.underlying68 rfl ?_;(rfl);(rfl);(rw [nums_len,HLX.out];exact HSZ.out))
 rotate_left
 ·simp only [Act.put,List.setIfInBounds_toArray,List.set_cons_zero,List.set_cons_succ,i64_w,i32_w];rfl
 refine take_ (i:=2) (N:=some 9) (v:=?_) (a':=?_) #[true,false,true,false,false,false,false,false] rfl rfl zq16 (fun _ _ _ h=>h) (Or.inl ⟨by rfl,?_⟩) hHeld ?_ ?_;rotate_left
 ·rintro w' ⟨s0,s1⟩
  (refine exec_load_any (p:=.tmp 3) ?_ ?_ s1 Try.underlying68 rfl ?_;(rfl);(rfl);(rw [nums_len,HLY.out];exact HSZ.out))
 rotate_left
 ·simp only [Act.put,List.setIfInBounds_toArray,List.set_cons_zero,List.set_cons_succ,i64_w,i32_w];rfl
 refine join_ (σ:=Nat × Nat) 2 #[true,true,true,true,true,true,false,false] (fun s_=>[(8,.agg (nums .u8 xr).toArray),(5,.pointer (some ⟨s_.1,0,none⟩)),(6,.pointer (some ⟨s_.2,0,none⟩)),(10,.agg (nums .u8 yr).toArray)]) (fun s_ w'=>IsBox .u8 60 w' s_.1 (List.replicate 6 0)∧IsBox .u8 60 w' s_.2 (List.replicate 6 0)∧s_.1≠s_.2∧w.heap.size≤s_.1∧w.heap.size≤s_.2∧Below w.heap.size w w'∧((∀ j v,(nums .u8 xs)[j]?=some v→w'.cell? ((⟨b2,0,none⟩:Addr).add j)=some v)∧(∀ j v,(nums .u8 ys)[j]?=some v→w'.cell? ((⟨b3,0,none⟩:Addr).add j)=some v))) ?_ ?_;rotate_left
 ·intro hCont;refine three_ (i:=1) (j:=4) (k:=5) (Ni:=some 8) (Nj:=some 5) (Nk:=some 6) #[true,true,true,false,false,false,false,false] #[true,false,true,false,true,false,false,false] #[true,false,true,false,false,true,false,false] rfl rfl rfl rfl rfl rfl zq16 (by decide) (by decide) (by decide) (fun K hK=>?_) (fun K hK=>?_) (fun K hK=>?_)
  ·skip
   refine goes_ Try.func80 zq16 rfl #[.agg (nums .u8 xs).toArray] (by rfl) rfl rfl zq82 ?_;refine (HCX.out _).mono ?_
   rintro e wq1 ⟨rfl,hb⟩
   refine ⟨_,rfl,?_⟩;have n0_:=am (below_step HB.out hb);clear HB;have HB:=n0_;clear n0_;refine hK.out _ _ ⟨(fun j v hv=>(hb.cell (World.block_lt_of_cell? _ _ (hHeld.1 j v hv))).trans (hHeld.1 j v hv)),(fun j v hv=>(hb.cell (World.block_lt_of_cell? _ _ (hHeld.2 j v hv))).trans (hHeld.2 j v hv))⟩ (fun hHeld=>?_);clear hK K;refine norm_ (a':=?_) ?_ ?_;rotate_left
   ·show Act.put _ (some 8) _=_
    simp only [Act.put,List.setIfInBounds_toArray,List.set_cons_zero,List.set_cons_succ,i64_w,i32_w];rfl
   refine three_ (i:=3) (j:=4) (k:=5) (Ni:=some 10) (Nj:=some 5) (Nk:=some 6) #[true,true,true,true,false,false,false,false] #[true,true,true,false,true,false,false,false] #[true,true,true,false,false,true,false,false] rfl rfl rfl rfl rfl rfl zq16 (by decide) (by decide) (by decide) (fun K hK=>?_) (fun K hK=>?_) (fun K hK=>?_)
   ·skip
    refine goes_ Try.func80 zq16 rfl #[.agg (nums .u8 ys).toArray] (by rfl) rfl rfl zq82 ?_;refine (HCY.out _).mono ?_
    rintro e wq3 ⟨rfl,hb⟩
    refine ⟨_,rfl,?_⟩;have n0_:=am (below_step HB.out hb);clear HB;have HB:=n0_;clear n0_;refine hK.out _ _ ⟨(fun j v hv=>(hb.cell (World.block_lt_of_cell? _ _ (hHeld.1 j v hv))).trans (hHeld.1 j v hv)),(fun j v hv=>(hb.cell (World.block_lt_of_cell? _ _ (hHeld.2 j v hv))).trans (hHeld.2 j v hv))⟩ (fun hHeld=>?_);clear hK K;refine norm_ (a':=?_) ?_ ?_;rotate_left
    ·show Act.put _ (some 10) _=_
     simp only [Act.put,List.setIfInBounds_toArray,List.set_cons_zero,List.set_cons_succ,i64_w,i32_w];rfl
    refine two_ (i:=4) (j:=5) (Ni:=some 5) (Nj:=some 6) #[true,true,true,true,true,false,false,false] #[true,true,true,true,false,true,false,false] rfl rfl rfl rfl zq16 (by decide) (by decide) (fun K hK=>?_) (fun K hK=>?_)
    ·skip
     refine impl_afar.alloc_step (cs:=(nums .u8 (List.replicate 6 0)).toArray) (t:=60) (by rfl) rfl ?_ ?_
     ·first|(go_simp;done)|(go_simp;rfl)
     intro b5 wq4 hgx hbx hb;have GE5:=am (show w.heap.size≤b5 by rw [hgx];exact below_size HB.out);have n0_:=am (below_step HB.out hb);clear HB;have HB:=n0_;clear n0_;have BK5:=am (show IsBox .u8 60 wq4 b5 (List.replicate 6 0) from hbx);clear hgx hbx;refine hK.out _ _ ⟨(fun j v hv=>(hb.cell (World.block_lt_of_cell? _ _ (hHeld.1 j v hv))).trans (hHeld.1 j v hv)),(fun j v hv=>(hb.cell (World.block_lt_of_cell? _ _ (hHeld.2 j v hv))).trans (hHeld.2 j v hv))⟩ (fun hHeld=>?_);clear hK K;refine norm_ (a':=?_) ?_ ?_;rotate_left
     ·show Act.put _ (some 5) _=_
      simp only [Act.put,List.setIfInBounds_toArray,List.set_cons_zero,List.set_cons_succ,i64_w,i32_w];rfl
     refine one_ (i:=5) (N:=some 6) #[true,true,true,true,true,true,false,false] rfl rfl zq16 (by decide) (fun K hK=>?_);refine impl_afar.alloc_step (cs:=(nums .u8 (List.replicate 6 0)).toArray) (t:=60) (by rfl) rfl ?_ ?_
     ·first|(go_simp;done)|(go_simp;rfl)
     intro b6 wq5 hgx hbx hb;have GE6:=am (show w.heap.size≤b6 by rw [hgx];exact below_size HB.out);have N56:=am (show b5≠b6 by have:=box_lt BK5.out;omega);have n0_:=am (below_step HB.out hb);clear HB;have HB:=n0_;clear n0_;have n0_:=am (box_below BK5.out hb);clear BK5;have BK5:=n0_;clear n0_;have BK6:=am (show IsBox .u8 60 wq5 b6 (List.replicate 6 0) from hbx);clear hgx hbx;refine hK.out _ _ ⟨(fun j v hv=>(hb.cell (World.block_lt_of_cell? _ _ (hHeld.1 j v hv))).trans (hHeld.1 j v hv)),(fun j v hv=>(hb.cell (World.block_lt_of_cell? _ _ (hHeld.2 j v hv))).trans (hHeld.2 j v hv))⟩ (fun hHeld=>?_);clear hK K;refine norm_ (a':=?_) ?_ ?_;rotate_left
     ·show Act.put _ (some 6) _=_
      simp only [Act.put,List.setIfInBounds_toArray,List.set_cons_zero,List.set_cons_succ,i64_w,i32_w];rfl
     exact norm_ zq32 (hCont (b5,b6) _ ⟨BK5.out,BK6.out,N56.out,GE5.out,GE6.out,HB.out,hHeld⟩)
    ·skip
     refine impl_afar.alloc_step (cs:=(nums .u8 (List.replicate 6 0)).toArray) (t:=60) (by rfl) rfl ?_ ?_
     ·first|(go_simp;done)|(go_simp;rfl)
     intro b6 wq5 hgx hbx hb;have GE6:=am (show w.heap.size≤b6 by rw [hgx];exact below_size HB.out);have n0_:=am (below_step HB.out hb);clear HB;have HB:=n0_;clear n0_;have BK6:=am (show IsBox .u8 60 wq5 b6 (List.replicate 6 0) from hbx);clear hgx hbx;refine hK.out _ _ ⟨(fun j v hv=>(hb.cell (World.block_lt_of_cell? _ _ (hHeld.1 j v hv))).trans (hHeld.1 j v hv)),(fun j v hv=>(hb.cell (World.block_lt_of_cell? _ _ (hHeld.2 j v hv))).trans (hHeld.2 j v hv))⟩ (fun hHeld=>?_);clear hK K;refine norm_ (a':=?_) ?_ ?_;rotate_left
     ·show Act.put _ (some 6) _=_
      simp only [Act.put,List.setIfInBounds_toArray,List.set_cons_zero,List.set_cons_succ,i64_w,i32_w];rfl
     refine one_ (i:=4) (N:=some 5) #[true,true,true,true,true,true,false,false] rfl rfl zq16 (by decide) (fun K hK=>?_);refine impl_afar.alloc_step (cs:=(nums .u8 (List.replicate 6 0)).toArray) (t:=60) (by rfl) rfl ?_ ?_
     ·first|(go_simp;done)|(go_simp;rfl)
     intro b5 wq4 hgx hbx hb;have GE5:=am (show w.heap.size≤b5 by rw [hgx];exact below_size HB.out);have N56:=am (show b5≠b6 by have:=box_lt BK6.out;omega);have n0_:=am (below_step HB.out hb);clear HB;have HB:=n0_;clear n0_;have n0_:=am (box_below BK6.out hb);clear BK6;have BK6:=n0_;clear n0_;have BK5:=am (show IsBox .u8 60 wq4 b5 (List.replicate 6 0) from hbx);clear hgx hbx;refine hK.out _ _ ⟨(fun j v hv=>(hb.cell (World.block_lt_of_cell? _ _ (hHeld.1 j v hv))).trans (hHeld.1 j v hv)),(fun j v hv=>(hb.cell (World.block_lt_of_cell? _ _ (hHeld.2 j v hv))).trans (hHeld.2 j v hv))⟩ (fun hHeld=>?_);clear hK K;refine norm_ (a':=?_) ?_ ?_;rotate_left
     ·show Act.put _ (some 5) _=_
      simp only [Act.put,List.setIfInBounds_toArray,List.set_cons_zero,List.set_cons_succ,i64_w,i32_w];rfl
     exact norm_ zq32 (hCont (b5,b6) _ ⟨BK5.out,BK6.out,N56.out,GE5.out,GE6.out,HB.out,hHeld⟩)
   ·skip
    refine impl_afar.alloc_step (cs:=(nums .u8 (List.replicate 6 0)).toArray) (t:=60) (by rfl) rfl ?_ ?_
    ·first|(go_simp;done)|(go_simp;rfl)
    intro b5 wq4 hgx hbx hb;have GE5:=am (show w.heap.size≤b5 by rw [hgx];exact below_size HB.out);have n0_:=am (below_step HB.out hb);clear HB;have HB:=n0_;clear n0_;have BK5:=am (show IsBox .u8 60 wq4 b5 (List.replicate 6 0) from hbx);clear hgx hbx;refine hK.out _ _ ⟨(fun j v hv=>(hb.cell (World.block_lt_of_cell? _ _ (hHeld.1 j v hv))).trans (hHeld.1 j v hv)),(fun j v hv=>(hb.cell (World.block_lt_of_cell? _ _ (hHeld.2 j v hv))).trans (hHeld.2 j v hv))⟩ (fun hHeld=>?_);clear hK K;refine norm_ (a':=?_) ?_ ?_;rotate_left
    ·show Act.put _ (some 5) _=_
     simp only [Act.put,List.setIfInBounds_toArray,List.set_cons_zero,List.set_cons_succ,i64_w,i32_w];rfl
    refine two_ (i:=3) (j:=5) (Ni:=some 10) (Nj:=some 6) #[true,true,true,true,true,false,false,false] #[true,true,true,false,true,true,false,false] rfl rfl rfl rfl zq16 (by decide) (by decide) (fun K hK=>?_) (fun K hK=>?_)
    ·skip
     refine goes_ Try.func80 zq16 rfl #[.agg (nums .u8 ys).toArray] (by rfl) rfl rfl zq82 ?_;refine (HCY.out _).mono ?_
     rintro e wq3 ⟨rfl,hb⟩
     refine ⟨_,rfl,?_⟩;have n0_:=am (below_step HB.out hb);clear HB;have HB:=n0_;clear n0_;have n0_:=am (box_below BK5.out hb);clear BK5;have BK5:=n0_;clear n0_;refine hK.out _ _ ⟨(fun j v hv=>(hb.cell (World.block_lt_of_cell? _ _ (hHeld.1 j v hv))).trans (hHeld.1 j v hv)),(fun j v hv=>(hb.cell (World.block_lt_of_cell? _ _ (hHeld.2 j v hv))).trans (hHeld.2 j v hv))⟩ (fun hHeld=>?_);clear hK K;refine norm_ (a':=?_) ?_ ?_;rotate_left
     ·show Act.put _ (some 10) _=_
      simp only [Act.put,List.setIfInBounds_toArray,List.set_cons_zero,List.set_cons_succ,i64_w,i32_w];rfl
     refine one_ (i:=5) (N:=some 6) #[true,true,true,true,true,true,false,false] rfl rfl zq16 (by decide) (fun K hK=>?_);refine impl_afar.alloc_step (cs:=(nums .u8 (List.replicate 6 0)).toArray) (t:=60) (by rfl) rfl ?_ ?_
     ·first|(go_simp;done)|(go_simp;rfl)
     intro b6 wq5 hgx hbx hb;have GE6:=am (show w.heap.size≤b6 by rw [hgx];exact below_size HB.out);have N56:=am (show b5≠b6 by have:=box_lt BK5.out;omega);have n0_:=am (below_step HB.out hb);clear HB;have HB:=n0_;clear n0_;have n0_:=am (box_below BK5.out hb);clear BK5;have BK5:=n0_;clear n0_;have BK6:=am (show IsBox .u8 60 wq5 b6 (List.replicate 6 0) from hbx);clear hgx hbx;refine hK.out _ _ ⟨(fun j v hv=>(hb.cell (World.block_lt_of_cell? _ _ (hHeld.1 j v hv))).trans (hHeld.1 j v hv)),(fun j v hv=>(hb.cell (World.block_lt_of_cell? _ _ (hHeld.2 j v hv))).trans (hHeld.2 j v hv))⟩ (fun hHeld=>?_);clear hK K;refine norm_ (a':=?_) ?_ ?_;rotate_left
     ·show Act.put _ (some 6) _=_
      simp only [Act.put,List.setIfInBounds_toArray,List.set_cons_zero,List.set_cons_succ,i64_w,i32_w];rfl
     exact norm_ zq32 (hCont (b5,b6) _ ⟨BK5.out,BK6.out,N56.out,GE5.out,GE6.out,HB.out,hHeld⟩)
    ·skip
     refine impl_afar.alloc_step (cs:=(nums .u8 (List.replicate 6 0)).toArray) (t:=60) (by rfl) rfl ?_ ?_
     ·first|(go_simp;done)|(go_simp;rfl)
     intro b6 wq5 hgx hbx hb;have GE6:=am (show w.heap.size≤b6 by rw [hgx];exact below_size HB.out);have N56:=am (show b5≠b6 by have:=box_lt BK5.out;omega);have n0_:=am (below_step HB.out hb);clear HB;have HB:=n0_;clear n0_;have n0_:=am (box_below BK5.out hb);clear BK5;have BK5:=n0_;clear n0_;have BK6:=am (show IsBox .u8 60 wq5 b6 (List.replicate 6 0) from hbx);clear hgx hbx;refine hK.out _ _ ⟨(fun j v hv=>(hb.cell (World.block_lt_of_cell? _ _ (hHeld.1 j v hv))).trans (hHeld.1 j v hv)),(fun j v hv=>(hb.cell (World.block_lt_of_cell? _ _ (hHeld.2 j v hv))).trans (hHeld.2 j v hv))⟩ (fun hHeld=>?_);clear hK K;refine norm_ (a':=?_) ?_ ?_;rotate_left
     ·show Act.put _ (some 6) _=_
      simp only [Act.put,List.setIfInBounds_toArray,List.set_cons_zero,List.set_cons_succ,i64_w,i32_w];rfl
     refine one_ (i:=3) (N:=some 10) #[true,true,true,true,true,true,false,false] rfl rfl zq16 (by decide) (fun K hK=>?_);refine goes_ Try.func80 zq16 rfl #[.agg (nums .u8 ys).toArray] (by rfl) rfl rfl zq82 ?_;refine (HCY.out _).mono ?_
     rintro e wq3 ⟨rfl,hb⟩
     refine ⟨_,rfl,?_⟩;have n0_:=am (below_step HB.out hb);clear HB;have HB:=n0_;clear n0_;have n0_:=am (box_below BK5.out hb);clear BK5;have BK5:=n0_;clear n0_;have n0_:=am (box_below BK6.out hb);clear BK6;have BK6:=n0_;clear n0_;refine hK.out _ _ ⟨(fun j v hv=>(hb.cell (World.block_lt_of_cell? _ _ (hHeld.1 j v hv))).trans (hHeld.1 j v hv)),(fun j v hv=>(hb.cell (World.block_lt_of_cell? _ _ (hHeld.2 j v hv))).trans (hHeld.2 j v hv))⟩ (fun hHeld=>?_);clear hK K;refine norm_ (a':=?_) ?_ ?_;rotate_left
     ·show Act.put _ (some 10) _=_
      simp only [Act.put,List.setIfInBounds_toArray,List.set_cons_zero,List.set_cons_succ,i64_w,i32_w];rfl
     exact norm_ zq32 (hCont (b5,b6) _ ⟨BK5.out,BK6.out,N56.out,GE5.out,GE6.out,HB.out,hHeld⟩)
   ·skip
    refine impl_afar.alloc_step (cs:=(nums .u8 (List.replicate 6 0)).toArray) (t:=60) (by rfl) rfl ?_ ?_
    ·first|(go_simp;done)|(go_simp;rfl)
    intro b6 wq5 hgx hbx hb;have GE6:=am (show w.heap.size≤b6 by rw [hgx];exact below_size HB.out);have n0_:=am (below_step HB.out hb);clear HB;have HB:=n0_;clear n0_;have BK6:=am (show IsBox .u8 60 wq5 b6 (List.replicate 6 0) from hbx);clear hgx hbx;refine hK.out _ _ ⟨(fun j v hv=>(hb.cell (World.block_lt_of_cell? _ _ (hHeld.1 j v hv))).trans (hHeld.1 j v hv)),(fun j v hv=>(hb.cell (World.block_lt_of_cell? _ _ (hHeld.2 j v hv))).trans (hHeld.2 j v hv))⟩ (fun hHeld=>?_);clear hK K;refine norm_ (a':=?_) ?_ ?_;rotate_left
    ·show Act.put _ (some 6) _=_
     simp only [Act.put,List.setIfInBounds_toArray,List.set_cons_zero,List.set_cons_succ,i64_w,i32_w];rfl
    refine two_ (i:=3) (j:=4) (Ni:=some 10) (Nj:=some 5) #[true,true,true,true,false,true,false,false] #[true,true,true,false,true,true,false,false] rfl rfl rfl rfl zq16 (by decide) (by decide) (fun K hK=>?_) (fun K hK=>?_)
    ·skip
     refine goes_ Try.func80 zq16 rfl #[.agg (nums .u8 ys).toArray] (by rfl) rfl rfl zq82 ?_;refine (HCY.out _).mono ?_
     rintro e wq3 ⟨rfl,hb⟩
     refine ⟨_,rfl,?_⟩;have n0_:=am (below_step HB.out hb);clear HB;have HB:=n0_;clear n0_;have n0_:=am (box_below BK6.out hb);clear BK6;have BK6:=n0_;clear n0_;refine hK.out _ _ ⟨(fun j v hv=>(hb.cell (World.block_lt_of_cell? _ _ (hHeld.1 j v hv))).trans (hHeld.1 j v hv)),(fun j v hv=>(hb.cell (World.block_lt_of_cell? _ _ (hHeld.2 j v hv))).trans (hHeld.2 j v hv))⟩ (fun hHeld=>?_);clear hK K;refine norm_ (a':=?_) ?_ ?_;rotate_left
     ·show Act.put _ (some 10) _=_
      simp only [Act.put,List.setIfInBounds_toArray,List.set_cons_zero,List.set_cons_succ,i64_w,i32_w];rfl
     refine one_ (i:=4) (N:=some 5) #[true,true,true,true,true,true,false,false] rfl rfl zq16 (by decide) (fun K hK=>?_);refine impl_afar.alloc_step (cs:=(nums .u8 (List.replicate 6 0)).toArray) (t:=60) (by rfl) rfl ?_ ?_
     ·first|(go_simp;done)|(go_simp;rfl)
     intro b5 wq4 hgx hbx hb;have GE5:=am (show w.heap.size≤b5 by rw [hgx];exact below_size HB.out);have N56:=am (show b5≠b6 by have:=box_lt BK6.out;omega);have n0_:=am (below_step HB.out hb);clear HB;have HB:=n0_;clear n0_;have n0_:=am (box_below BK6.out hb);clear BK6;have BK6:=n0_;clear n0_;have BK5:=am (show IsBox .u8 60 wq4 b5 (List.replicate 6 0) from hbx);clear hgx hbx;refine hK.out _ _ ⟨(fun j v hv=>(hb.cell (World.block_lt_of_cell? _ _ (hHeld.1 j v hv))).trans (hHeld.1 j v hv)),(fun j v hv=>(hb.cell (World.block_lt_of_cell? _ _ (hHeld.2 j v hv))).trans (hHeld.2 j v hv))⟩ (fun hHeld=>?_);clear hK K;refine norm_ (a':=?_) ?_ ?_;rotate_left
     ·show Act.put _ (some 5) _=_
      simp only [Act.put,List.setIfInBounds_toArray,List.set_cons_zero,List.set_cons_succ,i64_w,i32_w];rfl
     exact norm_ zq32 (hCont (b5,b6) _ ⟨BK5.out,BK6.out,N56.out,GE5.out,GE6.out,HB.out,hHeld⟩)
    ·skip
     refine impl_afar.alloc_step (cs:=(nums .u8 (List.replicate 6 0)).toArray) (t:=60) (by rfl) rfl ?_ ?_
     ·first|(go_simp;done)|(go_simp;rfl)
     intro b5 wq4 hgx hbx hb;have GE5:=am (show w.heap.size≤b5 by rw [hgx];exact below_size HB.out);have N56:=am (show b5≠b6 by have:=box_lt BK6.out;omega);have n0_:=am (below_step HB.out hb);clear HB;have HB:=n0_;clear n0_;have n0_:=am (box_below BK6.out hb);clear BK6;have BK6:=n0_;clear n0_;have BK5:=am (show IsBox .u8 60 wq4 b5 (List.replicate 6 0) from hbx);clear hgx hbx;refine hK.out _ _ ⟨(fun j v hv=>(hb.cell (World.block_lt_of_cell? _ _ (hHeld.1 j v hv))).trans (hHeld.1 j v hv)),(fun j v hv=>(hb.cell (World.block_lt_of_cell? _ _ (hHeld.2 j v hv))).trans (hHeld.2 j v hv))⟩ (fun hHeld=>?_);clear hK K;refine norm_ (a':=?_) ?_ ?_;rotate_left
     ·show Act.put _ (some 5) _=_
      simp only [Act.put,List.setIfInBounds_toArray,List.set_cons_zero,List.set_cons_succ,i64_w,i32_w];rfl
     refine one_ (i:=3) (N:=some 10) #[true,true,true,true,true,true,false,false] rfl rfl zq16 (by decide) (fun K hK=>?_);refine goes_ Try.func80 zq16 rfl #[.agg (nums .u8 ys).toArray] (by rfl) rfl rfl zq82 ?_;refine (HCY.out _).mono ?_
     rintro e wq3 ⟨rfl,hb⟩
     refine ⟨_,rfl,?_⟩;have n0_:=am (below_step HB.out hb);clear HB;have HB:=n0_;clear n0_;have n0_:=am (box_below BK5.out hb);clear BK5;have BK5:=n0_;clear n0_;have n0_:=am (box_below BK6.out hb);clear BK6;have BK6:=n0_;clear n0_;refine hK.out _ _ ⟨(fun j v hv=>(hb.cell (World.block_lt_of_cell? _ _ (hHeld.1 j v hv))).trans (hHeld.1 j v hv)),(fun j v hv=>(hb.cell (World.block_lt_of_cell? _ _ (hHeld.2 j v hv))).trans (hHeld.2 j v hv))⟩ (fun hHeld=>?_);clear hK K;refine norm_ (a':=?_) ?_ ?_;rotate_left
     ·show Act.put _ (some 10) _=_
      simp only [Act.put,List.setIfInBounds_toArray,List.set_cons_zero,List.set_cons_succ,i64_w,i32_w];rfl
     exact norm_ zq32 (hCont (b5,b6) _ ⟨BK5.out,BK6.out,N56.out,GE5.out,GE6.out,HB.out,hHeld⟩)
  ·skip
   refine impl_afar.alloc_step (cs:=(nums .u8 (List.replicate 6 0)).toArray) (t:=60) (by rfl) rfl ?_ ?_
   ·first|(go_simp;done)|(go_simp;rfl)
   intro b5 wq4 hgx hbx hb;have GE5:=am (show w.heap.size≤b5 by rw [hgx];exact below_size HB.out);have n0_:=am (below_step HB.out hb);clear HB;have HB:=n0_;clear n0_;have BK5:=am (show IsBox .u8 60 wq4 b5 (List.replicate 6 0) from hbx);clear hgx hbx;refine hK.out _ _ ⟨(fun j v hv=>(hb.cell (World.block_lt_of_cell? _ _ (hHeld.1 j v hv))).trans (hHeld.1 j v hv)),(fun j v hv=>(hb.cell (World.block_lt_of_cell? _ _ (hHeld.2 j v hv))).trans (hHeld.2 j v hv))⟩ (fun hHeld=>?_);clear hK K;refine norm_ (a':=?_) ?_ ?_;rotate_left
   ·show Act.put _ (some 5) _=_
    simp only [Act.put,List.setIfInBounds_toArray,List.set_cons_zero,List.set_cons_succ,i64_w,i32_w];rfl
   refine two_ (i:=1) (j:=5) (Ni:=some 8) (Nj:=some 6) #[true,true,true,false,true,false,false,false] #[true,false,true,false,true,true,false,false] rfl rfl rfl rfl zq16 (by decide) (by decide) (fun K hK=>?_) (fun K hK=>?_)
   ·skip
    refine goes_ Try.func80 zq16 rfl #[.agg (nums .u8 xs).toArray] (by rfl) rfl rfl zq82 ?_;refine (HCX.out _).mono ?_
    rintro e wq1 ⟨rfl,hb⟩
    refine ⟨_,rfl,?_⟩;have n0_:=am (below_step HB.out hb);clear HB;have HB:=n0_;clear n0_;have n0_:=am (box_below BK5.out hb);clear BK5;have BK5:=n0_;clear n0_;refine hK.out _ _ ⟨(fun j v hv=>(hb.cell (World.block_lt_of_cell? _ _ (hHeld.1 j v hv))).trans (hHeld.1 j v hv)),(fun j v hv=>(hb.cell (World.block_lt_of_cell? _ _ (hHeld.2 j v hv))).trans (hHeld.2 j v hv))⟩ (fun hHeld=>?_);clear hK K;refine norm_ (a':=?_) ?_ ?_;rotate_left
    ·show Act.put _ (some 8) _=_
     simp only [Act.put,List.setIfInBounds_toArray,List.set_cons_zero,List.set_cons_succ,i64_w,i32_w];rfl
    refine two_ (i:=3) (j:=5) (Ni:=some 10) (Nj:=some 6) #[true,true,true,true,true,false,false,false] #[true,true,true,false,true,true,false,false] rfl rfl rfl rfl zq16 (by decide) (by decide) (fun K hK=>?_) (fun K hK=>?_)
    ·skip
     refine goes_ Try.func80 zq16 rfl #[.agg (nums .u8 ys).toArray] (by rfl) rfl rfl zq82 ?_;refine (HCY.out _).mono ?_
     rintro e wq3 ⟨rfl,hb⟩
     refine ⟨_,rfl,?_⟩;have n0_:=am (below_step HB.out hb);clear HB;have HB:=n0_;clear n0_;have n0_:=am (box_below BK5.out hb);clear BK5;have BK5:=n0_;clear n0_;refine hK.out _ _ ⟨(fun j v hv=>(hb.cell (World.block_lt_of_cell? _ _ (hHeld.1 j v hv))).trans (hHeld.1 j v hv)),(fun j v hv=>(hb.cell (World.block_lt_of_cell? _ _ (hHeld.2 j v hv))).trans (hHeld.2 j v hv))⟩ (fun hHeld=>?_);clear hK K;refine norm_ (a':=?_) ?_ ?_;rotate_left
     ·show Act.put _ (some 10) _=_
      simp only [Act.put,List.setIfInBounds_toArray,List.set_cons_zero,List.set_cons_succ,i64_w,i32_w];rfl
     refine one_ (i:=5) (N:=some 6) #[true,true,true,true,true,true,false,false] rfl rfl zq16 (by decide) (fun K hK=>?_);refine impl_afar.alloc_step (cs:=(nums .u8 (List.replicate 6 0)).toArray) (t:=60) (by rfl) rfl ?_ ?_
     ·first|(go_simp;done)|(go_simp;rfl)
     intro b6 wq5 hgx hbx hb;have GE6:=am (show w.heap.size≤b6 by rw [hgx];exact below_size HB.out);have N56:=am (show b5≠b6 by have:=box_lt BK5.out;omega);have n0_:=am (below_step HB.out hb);clear HB;have HB:=n0_;clear n0_;have n0_:=am (box_below BK5.out hb);clear BK5;have BK5:=n0_;clear n0_;have BK6:=am (show IsBox .u8 60 wq5 b6 (List.replicate 6 0) from hbx);clear hgx hbx;refine hK.out _ _ ⟨(fun j v hv=>(hb.cell (World.block_lt_of_cell? _ _ (hHeld.1 j v hv))).trans (hHeld.1 j v hv)),(fun j v hv=>(hb.cell (World.block_lt_of_cell? _ _ (hHeld.2 j v hv))).trans (hHeld.2 j v hv))⟩ (fun hHeld=>?_);clear hK K;refine norm_ (a':=?_) ?_ ?_;rotate_left
     ·show Act.put _ (some 6) _=_
      simp only [Act.put,List.setIfInBounds_toArray,List.set_cons_zero,List.set_cons_succ,i64_w,i32_w];rfl
     exact norm_ zq32 (hCont (b5,b6) _ ⟨BK5.out,BK6.out,N56.out,GE5.out,GE6.out,HB.out,hHeld⟩)
    ·skip
     refine impl_afar.alloc_step (cs:=(nums .u8 (List.replicate 6 0)).toArray) (t:=60) (by rfl) rfl ?_ ?_
     ·first|(go_simp;done)|(go_simp;rfl)
     intro b6 wq5 hgx hbx hb;have GE6:=am (show w.heap.size≤b6 by rw [hgx];exact below_size HB.out);have N56:=am (show b5≠b6 by have:=box_lt BK5.out;omega);have n0_:=am (below_step HB.out hb);clear HB;have HB:=n0_;clear n0_;have n0_:=am (box_below BK5.out hb);clear BK5;have BK5:=n0_;clear n0_;have BK6:=am (show IsBox .u8 60 wq5 b6 (List.replicate 6 0) from hbx);clear hgx hbx;refine hK.out _ _ ⟨(fun j v hv=>(hb.cell (World.block_lt_of_cell? _ _ (hHeld.1 j v hv))).trans (hHeld.1 j v hv)),(fun j v hv=>(hb.cell (World.block_lt_of_cell? _ _ (hHeld.2 j v hv))).trans (hHeld.2 j v hv))⟩ (fun hHeld=>?_);clear hK K;refine norm_ (a':=?_) ?_ ?_;rotate_left
     ·show Act.put _ (some 6) _=_
      simp only [Act.put,List.setIfInBounds_toArray,List.set_cons_zero,List.set_cons_succ,i64_w,i32_w];rfl
     refine one_ (i:=3) (N:=some 10) #[true,true,true,true,true,true,false,false] rfl rfl zq16 (by decide) (fun K hK=>?_);refine goes_ Try.func80 zq16 rfl #[.agg (nums .u8 ys).toArray] (by rfl) rfl rfl zq82 ?_;refine (HCY.out _).mono ?_
     rintro e wq3 ⟨rfl,hb⟩
     refine ⟨_,rfl,?_⟩;have n0_:=am (below_step HB.out hb);clear HB;have HB:=n0_;clear n0_;have n0_:=am (box_below BK5.out hb);clear BK5;have BK5:=n0_;clear n0_;have n0_:=am (box_below BK6.out hb);clear BK6;have BK6:=n0_;clear n0_;refine hK.out _ _ ⟨(fun j v hv=>(hb.cell (World.block_lt_of_cell? _ _ (hHeld.1 j v hv))).trans (hHeld.1 j v hv)),(fun j v hv=>(hb.cell (World.block_lt_of_cell? _ _ (hHeld.2 j v hv))).trans (hHeld.2 j v hv))⟩ (fun hHeld=>?_);clear hK K;refine norm_ (a':=?_) ?_ ?_;rotate_left
     ·show Act.put _ (some 10) _=_
      simp only [Act.put,List.setIfInBounds_toArray,List.set_cons_zero,List.set_cons_succ,i64_w,i32_w];rfl
     exact norm_ zq32 (hCont (b5,b6) _ ⟨BK5.out,BK6.out,N56.out,GE5.out,GE6.out,HB.out,hHeld⟩)
   ·skip
    refine impl_afar.alloc_step (cs:=(nums .u8 (List.replicate 6 0)).toArray) (t:=60) (by rfl) rfl ?_ ?_
    ·first|(go_simp;done)|(go_simp;rfl)
    intro b6 wq5 hgx hbx hb;have GE6:=am (show w.heap.size≤b6 by rw [hgx];exact below_size HB.out);have N56:=am (show b5≠b6 by have:=box_lt BK5.out;omega);have n0_:=am (below_step HB.out hb);clear HB;have HB:=n0_;clear n0_;have n0_:=am (box_below BK5.out hb);clear BK5;have BK5:=n0_;clear n0_;have BK6:=am (show IsBox .u8 60 wq5 b6 (List.replicate 6 0) from hbx);clear hgx hbx;refine hK.out _ _ ⟨(fun j v hv=>(hb.cell (World.block_lt_of_cell? _ _ (hHeld.1 j v hv))).trans (hHeld.1 j v hv)),(fun j v hv=>(hb.cell (World.block_lt_of_cell? _ _ (hHeld.2 j v hv))).trans (hHeld.2 j v hv))⟩ (fun hHeld=>?_);clear hK K;refine norm_ (a':=?_) ?_ ?_;rotate_left
    ·show Act.put _ (some 6) _=_
     simp only [Act.put,List.setIfInBounds_toArray,List.set_cons_zero,List.set_cons_succ,i64_w,i32_w];rfl
    refine one_ (i:=1) (N:=some 8) #[true,true,true,false,true,true,false,false] rfl rfl zq16 (by decide) (fun K hK=>?_);refine goes_ Try.func80 zq16 rfl #[.agg (nums .u8 xs).toArray] (by rfl) rfl rfl zq82 ?_;refine (HCX.out _).mono ?_
    rintro e wq1 ⟨rfl,hb⟩
    refine ⟨_,rfl,?_⟩;have n0_:=am (below_step HB.out hb);clear HB;have HB:=n0_;clear n0_;have n0_:=am (box_below BK5.out hb);clear BK5;have BK5:=n0_;clear n0_;have n0_:=am (box_below BK6.out hb);clear BK6;have BK6:=n0_;clear n0_;refine hK.out _ _ ⟨(fun j v hv=>(hb.cell (World.block_lt_of_cell? _ _ (hHeld.1 j v hv))).trans (hHeld.1 j v hv)),(fun j v hv=>(hb.cell (World.block_lt_of_cell? _ _ (hHeld.2 j v hv))).trans (hHeld.2 j v hv))⟩ (fun hHeld=>?_);clear hK K;refine norm_ (a':=?_) ?_ ?_;rotate_left
    ·show Act.put _ (some 8) _=_
     simp only [Act.put,List.setIfInBounds_toArray,List.set_cons_zero,List.set_cons_succ,i64_w,i32_w];rfl
    refine one_ (i:=3) (N:=some 10) #[true,true,true,true,true,true,false,false] rfl rfl zq16 (by decide) (fun K hK=>?_);refine goes_ Try.func80 zq16 rfl #[.agg (nums .u8 ys).toArray] (by rfl) rfl rfl zq82 ?_;refine (HCY.out _).mono ?_
    rintro e wq3 ⟨rfl,hb⟩
    refine ⟨_,rfl,?_⟩;have n0_:=am (below_step HB.out hb);clear HB;have HB:=n0_;clear n0_;have n0_:=am (box_below BK5.out hb);clear BK5;have BK5:=n0_;clear n0_;have n0_:=am (box_below BK6.out hb);clear BK6;have BK6:=n0_;clear n0_;refine hK.out _ _ ⟨(fun j v hv=>(hb.cell (World.block_lt_of_cell? _ _ (hHeld.1 j v hv))).trans (hHeld.1 j v hv)),(fun j v hv=>(hb.cell (World.block_lt_of_cell? _ _ (hHeld.2 j v hv))).trans (hHeld.2 j v hv))⟩ (fun hHeld=>?_);clear hK K;refine norm_ (a':=?_) ?_ ?_;rotate_left
    ·show Act.put _ (some 10) _=_
     simp only [Act.put,List.setIfInBounds_toArray,List.set_cons_zero,List.set_cons_succ,i64_w,i32_w];rfl
    exact norm_ zq32 (hCont (b5,b6) _ ⟨BK5.out,BK6.out,N56.out,GE5.out,GE6.out,HB.out,hHeld⟩)
  ·skip
   refine impl_afar.alloc_step (cs:=(nums .u8 (List.replicate 6 0)).toArray) (t:=60) (by rfl) rfl ?_ ?_
   ·first|(go_simp;done)|(go_simp;rfl)
   intro b6 wq5 hgx hbx hb;have GE6:=am (show w.heap.size≤b6 by rw [hgx];exact below_size HB.out);have n0_:=am (below_step HB.out hb);clear HB;have HB:=n0_;clear n0_;have BK6:=am (show IsBox .u8 60 wq5 b6 (List.replicate 6 0) from hbx);clear hgx hbx;refine hK.out _ _ ⟨(fun j v hv=>(hb.cell (World.block_lt_of_cell? _ _ (hHeld.1 j v hv))).trans (hHeld.1 j v hv)),(fun j v hv=>(hb.cell (World.block_lt_of_cell? _ _ (hHeld.2 j v hv))).trans (hHeld.2 j v hv))⟩ (fun hHeld=>?_);clear hK K;refine norm_ (a':=?_) ?_ ?_;rotate_left
   ·show Act.put _ (some 6) _=_
    simp only [Act.put,List.setIfInBounds_toArray,List.set_cons_zero,List.set_cons_succ,i64_w,i32_w];rfl
   refine two_ (i:=1) (j:=4) (Ni:=some 8) (Nj:=some 5) #[true,true,true,false,false,true,false,false] #[true,false,true,false,true,true,false,false] rfl rfl rfl rfl zq16 (by decide) (by decide) (fun K hK=>?_) (fun K hK=>?_)
   ·skip
    refine goes_ Try.func80 zq16 rfl #[.agg (nums .u8 xs).toArray] (by rfl) rfl rfl zq82 ?_;refine (HCX.out _).mono ?_
    rintro e wq1 ⟨rfl,hb⟩
    refine ⟨_,rfl,?_⟩;have n0_:=am (below_step HB.out hb);clear HB;have HB:=n0_;clear n0_;have n0_:=am (box_below BK6.out hb);clear BK6;have BK6:=n0_;clear n0_;refine hK.out _ _ ⟨(fun j v hv=>(hb.cell (World.block_lt_of_cell? _ _ (hHeld.1 j v hv))).trans (hHeld.1 j v hv)),(fun j v hv=>(hb.cell (World.block_lt_of_cell? _ _ (hHeld.2 j v hv))).trans (hHeld.2 j v hv))⟩ (fun hHeld=>?_);clear hK K;refine norm_ (a':=?_) ?_ ?_;rotate_left
    ·show Act.put _ (some 8) _=_
     simp only [Act.put,List.setIfInBounds_toArray,List.set_cons_zero,List.set_cons_succ,i64_w,i32_w];rfl
    refine two_ (i:=3) (j:=4) (Ni:=some 10) (Nj:=some 5) #[true,true,true,true,false,true,false,false] #[true,true,true,false,true,true,false,false] rfl rfl rfl rfl zq16 (by decide) (by decide) (fun K hK=>?_) (fun K hK=>?_)
    ·skip
     refine goes_ Try.func80 zq16 rfl #[.agg (nums .u8 ys).toArray] (by rfl) rfl rfl zq82 ?_;refine (HCY.out _).mono ?_
     rintro e wq3 ⟨rfl,hb⟩
     refine ⟨_,rfl,?_⟩;have n0_:=am (below_step HB.out hb);clear HB;have HB:=n0_;clear n0_;have n0_:=am (box_below BK6.out hb);clear BK6;have BK6:=n0_;clear n0_;refine hK.out _ _ ⟨(fun j v hv=>(hb.cell (World.block_lt_of_cell? _ _ (hHeld.1 j v hv))).trans (hHeld.1 j v hv)),(fun j v hv=>(hb.cell (World.block_lt_of_cell? _ _ (hHeld.2 j v hv))).trans (hHeld.2 j v hv))⟩ (fun hHeld=>?_);clear hK K;refine norm_ (a':=?_) ?_ ?_;rotate_left
     ·show Act.put _ (some 10) _=_
      simp only [Act.put,List.setIfInBounds_toArray,List.set_cons_zero,List.set_cons_succ,i64_w,i32_w];rfl
     refine one_ (i:=4) (N:=some 5) #[true,true,true,true,true,true,false,false] rfl rfl zq16 (by decide) (fun K hK=>?_);refine impl_afar.alloc_step (cs:=(nums .u8 (List.replicate 6 0)).toArray) (t:=60) (by rfl) rfl ?_ ?_
     ·first|(go_simp;done)|(go_simp;rfl)
     intro b5 wq4 hgx hbx hb;have GE5:=am (show w.heap.size≤b5 by rw [hgx];exact below_size HB.out);have N56:=am (show b5≠b6 by have:=box_lt BK6.out;omega);have n0_:=am (below_step HB.out hb);clear HB;have HB:=n0_;clear n0_;have n0_:=am (box_below BK6.out hb);clear BK6;have BK6:=n0_;clear n0_;have BK5:=am (show IsBox .u8 60 wq4 b5 (List.replicate 6 0) from hbx);clear hgx hbx;refine hK.out _ _ ⟨(fun j v hv=>(hb.cell (World.block_lt_of_cell? _ _ (hHeld.1 j v hv))).trans (hHeld.1 j v hv)),(fun j v hv=>(hb.cell (World.block_lt_of_cell? _ _ (hHeld.2 j v hv))).trans (hHeld.2 j v hv))⟩ (fun hHeld=>?_);clear hK K;refine norm_ (a':=?_) ?_ ?_;rotate_left
     ·show Act.put _ (some 5) _=_
      simp only [Act.put,List.setIfInBounds_toArray,List.set_cons_zero,List.set_cons_succ,i64_w,i32_w];rfl
     exact norm_ zq32 (hCont (b5,b6) _ ⟨BK5.out,BK6.out,N56.out,GE5.out,GE6.out,HB.out,hHeld⟩)
    ·skip
     refine impl_afar.alloc_step (cs:=(nums .u8 (List.replicate 6 0)).toArray) (t:=60) (by rfl) rfl ?_ ?_
     ·first|(go_simp;done)|(go_simp;rfl)
     intro b5 wq4 hgx hbx hb;have GE5:=am (show w.heap.size≤b5 by rw [hgx];exact below_size HB.out);have N56:=am (show b5≠b6 by have:=box_lt BK6.out;omega);have n0_:=am (below_step HB.out hb);clear HB;have HB:=n0_;clear n0_;have n0_:=am (box_below BK6.out hb);clear BK6;have BK6:=n0_;clear n0_;have BK5:=am (show IsBox .u8 60 wq4 b5 (List.replicate 6 0) from hbx);clear hgx hbx;refine hK.out _ _ ⟨(fun j v hv=>(hb.cell (World.block_lt_of_cell? _ _ (hHeld.1 j v hv))).trans (hHeld.1 j v hv)),(fun j v hv=>(hb.cell (World.block_lt_of_cell? _ _ (hHeld.2 j v hv))).trans (hHeld.2 j v hv))⟩ (fun hHeld=>?_);clear hK K;refine norm_ (a':=?_) ?_ ?_;rotate_left
     ·show Act.put _ (some 5) _=_
      simp only [Act.put,List.setIfInBounds_toArray,List.set_cons_zero,List.set_cons_succ,i64_w,i32_w];rfl
     refine one_ (i:=3) (N:=some 10) #[true,true,true,true,true,true,false,false] rfl rfl zq16 (by decide) (fun K hK=>?_);refine goes_ Try.func80 zq16 rfl #[.agg (nums .u8 ys).toArray] (by rfl) rfl rfl zq82 ?_;refine (HCY.out _).mono ?_
     rintro e wq3 ⟨rfl,hb⟩
     refine ⟨_,rfl,?_⟩;have n0_:=am (below_step HB.out hb);clear HB;have HB:=n0_;clear n0_;have n0_:=am (box_below BK5.out hb);clear BK5;have BK5:=n0_;clear n0_;have n0_:=am (box_below BK6.out hb);clear BK6;have BK6:=n0_;clear n0_;refine hK.out _ _ ⟨(fun j v hv=>(hb.cell (World.block_lt_of_cell? _ _ (hHeld.1 j v hv))).trans (hHeld.1 j v hv)),(fun j v hv=>(hb.cell (World.block_lt_of_cell? _ _ (hHeld.2 j v hv))).trans (hHeld.2 j v hv))⟩ (fun hHeld=>?_);clear hK K;refine norm_ (a':=?_) ?_ ?_;rotate_left
     ·show Act.put _ (some 10) _=_
      simp only [Act.put,List.setIfInBounds_toArray,List.set_cons_zero,List.set_cons_succ,i64_w,i32_w];rfl
     exact norm_ zq32 (hCont (b5,b6) _ ⟨BK5.out,BK6.out,N56.out,GE5.out,GE6.out,HB.out,hHeld⟩)
   ·skip
    refine impl_afar.alloc_step (cs:=(nums .u8 (List.replicate 6 0)).toArray) (t:=60) (by rfl) rfl ?_ ?_
    ·first|(go_simp;done)|(go_simp;rfl)
    intro b5 wq4 hgx hbx hb;have GE5:=am (show w.heap.size≤b5 by rw [hgx];exact below_size HB.out);have N56:=am (show b5≠b6 by have:=box_lt BK6.out;omega);have n0_:=am (below_step HB.out hb);clear HB;have HB:=n0_;clear n0_;have n0_:=am (box_below BK6.out hb);clear BK6;have BK6:=n0_;clear n0_;have BK5:=am (show IsBox .u8 60 wq4 b5 (List.replicate 6 0) from hbx);clear hgx hbx;refine hK.out _ _ ⟨(fun j v hv=>(hb.cell (World.block_lt_of_cell? _ _ (hHeld.1 j v hv))).trans (hHeld.1 j v hv)),(fun j v hv=>(hb.cell (World.block_lt_of_cell? _ _ (hHeld.2 j v hv))).trans (hHeld.2 j v hv))⟩ (fun hHeld=>?_);clear hK K;refine norm_ (a':=?_) ?_ ?_;rotate_left
    ·show Act.put _ (some 5) _=_
     simp only [Act.put,List.setIfInBounds_toArray,List.set_cons_zero,List.set_cons_succ,i64_w,i32_w];rfl
    refine one_ (i:=1) (N:=some 8) #[true,true,true,false,true,true,false,false] rfl rfl zq16 (by decide) (fun K hK=>?_);refine goes_ Try.func80 zq16 rfl #[.agg (nums .u8 xs).toArray] (by rfl) rfl rfl zq82 ?_;refine (HCX.out _).mono ?_
    rintro e wq1 ⟨rfl,hb⟩
    refine ⟨_,rfl,?_⟩;have n0_:=am (below_step HB.out hb);clear HB;have HB:=n0_;clear n0_;have n0_:=am (box_below BK5.out hb);clear BK5;have BK5:=n0_;clear n0_;have n0_:=am (box_below BK6.out hb);clear BK6;have BK6:=n0_;clear n0_;refine hK.out _ _ ⟨(fun j v hv=>(hb.cell (World.block_lt_of_cell? _ _ (hHeld.1 j v hv))).trans (hHeld.1 j v hv)),(fun j v hv=>(hb.cell (World.block_lt_of_cell? _ _ (hHeld.2 j v hv))).trans (hHeld.2 j v hv))⟩ (fun hHeld=>?_);clear hK K;refine norm_ (a':=?_) ?_ ?_;rotate_left
    ·show Act.put _ (some 8) _=_
     simp only [Act.put,List.setIfInBounds_toArray,List.set_cons_zero,List.set_cons_succ,i64_w,i32_w];rfl
    refine one_ (i:=3) (N:=some 10) #[true,true,true,true,true,true,false,false] rfl rfl zq16 (by decide) (fun K hK=>?_);refine goes_ Try.func80 zq16 rfl #[.agg (nums .u8 ys).toArray] (by rfl) rfl rfl zq82 ?_;refine (HCY.out _).mono ?_
    rintro e wq3 ⟨rfl,hb⟩
    refine ⟨_,rfl,?_⟩;have n0_:=am (below_step HB.out hb);clear HB;have HB:=n0_;clear n0_;have n0_:=am (box_below BK5.out hb);clear BK5;have BK5:=n0_;clear n0_;have n0_:=am (box_below BK6.out hb);clear BK6;have BK6:=n0_;clear n0_;refine hK.out _ _ ⟨(fun j v hv=>(hb.cell (World.block_lt_of_cell? _ _ (hHeld.1 j v hv))).trans (hHeld.1 j v hv)),(fun j v hv=>(hb.cell (World.block_lt_of_cell? _ _ (hHeld.2 j v hv))).trans (hHeld.2 j v hv))⟩ (fun hHeld=>?_);clear hK K;refine norm_ (a':=?_) ?_ ?_;rotate_left
    ·show Act.put _ (some 10) _=_
     simp only [Act.put,List.setIfInBounds_toArray,List.set_cons_zero,List.set_cons_succ,i64_w,i32_w];rfl
    exact norm_ zq32 (hCont (b5,b6) _ ⟨BK5.out,BK6.out,N56.out,GE5.out,GE6.out,HB.out,hHeld⟩)
 rintro ⟨b5,b6⟩ wf ⟨f1_,f2_,f3_,f4_,f5_,f6_,hHeld⟩
 have BK5:=am f1_;have BK6:=am f2_;have N56:=am f3_;have GE5:=am f4_;have GE6:=am f5_;have n0_:=am f6_;clear HB f1_ f2_ f3_ f4_ f5_ f6_;have HB:=n0_;clear n0_;refine norm_ (a':=?_) ?_ ?_;rotate_left
 ·simp only [putAll,Act.put,List.setIfInBounds_toArray,List.set_cons_zero,List.set_cons_succ];rfl
 refine last_ (i:=6) (N:=none) #[true,true,true,true,true,true,true,false] rfl rfl zq16 (by decide) (fun K hK=>?_);refine impl_afar.store_step (k:=.u8) (t:=60) (b:=b5) (xs:=(List.replicate 6 0)) (ys:=xr) (by rfl) rfl rfl rfl rfl BK5.out (by rw [HXL.out];rfl) (by rw [HXL.out];exact HSZ6.out) ?_;intro wr5 hw_;have n0_:=am (show IsBox .u8 60 wr5 b5 xr by rw [hw_];exact box_row BK5.out _);have n1_:=am (show IsBox .u8 60 wr5 b6 (List.replicate 6 0) by rw [hw_];exact box_apart BK6.out N56.out.symm _);have n2_:=am (show Below w.heap.size w wr5 by rw [hw_];exact Go.below_setRow HB.out GE5.out _);clear BK5 BK6 HB hw_;have BK5:=n0_;have BK6:=n1_;have HB:=n2_;clear n0_ n1_ n2_;refine hK.out _ _ ?_;clear hK K;refine last_ (i:=7) (N:=none) #[true,true,true,true,true,true,true,true] rfl rfl zq16 (by decide) (fun K hK=>?_);refine impl_afar.store_step (k:=.u8) (t:=60) (b:=b6) (xs:=(List.replicate 6 0)) (ys:=yr) (by rfl) rfl rfl rfl rfl BK6.out (by rw [HYL.out];rfl) (by rw [HYL.out];exact HSZ6.out) ?_;intro wr6 hw_;have n0_:=am (show IsBox .u8 60 wr6 b6 yr by rw [hw_];exact box_row BK6.out _);have n1_:=am (show IsBox .u8 60 wr6 b5 xr by rw [hw_];exact box_apart BK5.out N56.out _);have n2_:=am (show Below w.heap.size w wr6 by rw [hw_];exact Go.below_setRow HB.out GE6.out _);clear BK5 BK6 HB hw_;have BK6:=n0_;have BK5:=n1_;have HB:=n2_;clear n0_ n1_ n2_;refine hK.out _ _ ?_;clear hK K;refine done_ zq16 ?_
 go_wp2_with (fail)
 have n0_:=am (below_drew1 HB.out)
 have HUN:Aside0 (Calls Try.prog 84 #[.slice (some ⟨b5,0,none⟩) 6 6,.slice (some ⟨b6,0,none⟩) 6 6] wr6.drew fun e w'=>e=.returned (.int .i64 r)∧Drawn0 wr6.drew w'):=by
  have h5:IsBox .u8 60 wr6.drew b5 xr:=BK5.out;have h6:IsBox .u8 60 wr6.drew b6 yr:=BK6.out;have q:=impl_unlike.calls k (some ⟨b5,0,none⟩) 6 xr (some ⟨b6,0,none⟩) 6 yr r wr6.drew (box_C h5 (by rw [HXL.out];decide)) (by rw [HXL.out];exact Nat.le_refl _) (box_C h6 (by rw [HYL.out];decide)) (by rw [HYL.out];exact Nat.le_refl _) HU.out;rw [HXL.out,HYL.out] at q;exact ⟨q⟩
 clear HB BK5 BK6 HU;have HB:=n0_;clear n0_;refine start_ (n:=4) (S:=fun w'=>True) (ds:=[]) #[false,false,false,false] zq16 rfl rfl trivial (fun hHeld=>?_);generalize wr6.drew=we at HB HUN hHeld ⊢;refine pure_ (i:=0) (N:=some 11) (v:=?_) (a':=?_) #[true,false,false,false] rfl rfl zq16 (fun _ _ _ h=>h) (Or.inl ⟨by rfl,?_⟩) ?_ ?_;rotate_left
 ·intro w';go_simp;with_reducible rfl
 rotate_left
 ·simp only [Act.put,List.setIfInBounds_toArray,List.set_cons_zero,List.set_cons_succ,i64_w,i32_w];rfl
 refine pure_ (i:=1) (N:=some 12) (v:=?_) (a':=?_) #[true,true,false,false] rfl rfl zq16 (fun _ _ _ h=>h) (Or.inl ⟨by rfl,?_⟩) ?_ ?_;rotate_left
 ·intro w';go_simp;with_reducible rfl
 rotate_left
 ·simp only [Act.put,List.setIfInBounds_toArray,List.set_cons_zero,List.set_cons_succ,i64_w,i32_w];rfl
 refine one_ (i:=2) (N:=some 13) #[true,true,true,false] rfl rfl zq16 (by decide) (fun K hK=>?_);refine goes_ Try.func84 zq16 rfl #[.slice (some ⟨b5,0,none⟩) 6 6,.slice (some ⟨b6,0,none⟩) 6 6] (by rfl) rfl rfl zq82 ?_;refine HUN.out.mono ?_
 rintro e wz ⟨rfl,⟨nz,rfl⟩⟩
 refine ⟨_,rfl,?_⟩;have n0_:=am (pw_below_drewN HB.out nz);clear HB;have HB:=n0_;clear n0_;refine hK.out _ _ trivial (fun hHeld=>?_);clear hK K;refine norm_ (a':=?_) ?_ ?_;rotate_left
 ·show Act.put _ (some 13) _=_
  simp only [Act.put,List.setIfInBounds_toArray,List.set_cons_zero,List.set_cons_succ,i64_w,i32_w];rfl
 refine pure_ (i:=3) (N:=some 4) (v:=?_) (a':=?_) #[true,true,true,true] rfl rfl zq16 (fun _ _ _ h=>h) (Or.inl ⟨by rfl,?_⟩) ?_ ?_;rotate_left
 ·intro w';go_simp;with_reducible rfl
 rotate_left
 ·simp only [Act.put,List.setIfInBounds_toArray,List.set_cons_zero,List.set_cons_succ,i64_w,i32_w];rfl
 refine done_ zq16 ?_
 go_wp2_with (fail)
 go_ret
 exact ⟨rfl,HB.out⟩
end Go.Proofs.Ytgfknljhogfeaaa.G
end
