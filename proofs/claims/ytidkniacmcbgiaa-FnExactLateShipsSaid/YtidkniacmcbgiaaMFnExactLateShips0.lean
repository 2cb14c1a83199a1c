/- The law's functions, their contracts, and the plain lemmas: texts of this claim, laid together. -/
import Derived.Test.YtidkniacmcbgiaaProg
import Derived.Below
import Derived.Deep.Draws
import Derived.Deep.AppendLies
import Derived.Maps.AppendAt
import Derived.OwnWalk
import Derived.Laws.BytesArg
import Derived.Laws.MakeOwn
import Derived.Laws.OwnMore
import Derived.Deep.OwnRows
import Derived.Tactics
import Derived.Lib.ConvBytes
import Derived.Laws.Slices
import Derived.WalkKit
import Derived.KernelRfl
import Derived.RowKit3
import Derived.Deep.LoopGhost
import Derived.Deep.QuietTactic
import Derived.BigQuiet
import Derived.WideLaws
import Derived.Deep.DeepCutAuto
import Derived.Deep.CutBlock
import Derived.Deep.RegionHeld3
import Derived.Laws.Rows
import Derived.Lib.AppendStr
import Derived.ArgAppend
import Derived.Laws.IdiomCopy
import Derived.OrdersHeld
import Derived.Laws.BitsLemmas
import Derived.RowKit
import Derived.Shelf.Abstract
import Derived.WalkSpells
import Derived.WalkLawsBesides
import Derived.Test.YtidkniacmcbgiaaWWords
import Derived.Test.YtidkniacmcbgiaaWLast
import Derived.Test.YtidkniacmcbgiaaWTab
import Derived.Test.YtidkniacmcbgiaaWFour
import Derived.Test.YtidkniacmcbgiaaWQPut
import Derived.Test.YtidkniacmcbgiaaWApart
import Derived.Test.YtidkniacmcbgiaaWArr
import Derived.Test.YtidkniacmcbgiaaWZeros
import Derived.Test.YtidkniacmcbgiaaWFoot
import Derived.Test.YtidkniacmcbgiaaWKept
import Derived.Test.YtidkniacmcbgiaaWShare
import Derived.Test.YtidkniacmcbgiaaWN
import Derived.Test.YtidkniacmcbgiaaWFootNe
import Derived.Test.YtidkniacmcbgiaaWAt
import Derived.Test.YtidkniacmcbgiaaWEqStruct
import Derived.Test.YtidkniacmcbgiaaWRepsOne
import Derived.Test.YtidkniacmcbgiaaWInv
import Derived.Test.YtidkniacmcbgiaaWInvWords
import Derived.Test.YtidkniacmcbgiaaWGuard
import Derived.Test.YtidkniacmcbgiaaWNEv
import Derived.Test.YtidkniacmcbgiaaWMore
import Derived.Deep.RegionLaw
section
namespace Go.Proofs.Ytidkniacmcbgiaa.G
open Go.RowKit Go.Proofs.YtidkniacmcbgiaaW.PrintWords Go.Proofs.YtidkniacmcbgiaaW.PrintLast Go.Proofs.YtidkniacmcbgiaaW.PrintMore
attribute [local go_sem] max2_int min2_int max_two min_two max_three min_three max_four min_four
set_option linter.unusedVariables false
set_option linter.unusedSimpArgs false
def errW : Option Int → Value
  | none => .nilIface
  | some c => .iface 0 (.int .i64 c)
theorem errW_none : errW none = .nilIface := rfl
theorem errW_some (c : Int) : errW (some c) = .iface 0 (.int .i64 c) := rfl
theorem info2 : (Try.prog.info? 2).map (fun i => (i.zero, i.size, i.bytes)) = some (some (.int .i64 0), 1, 8) := by kernel_rfl
theorem info3 : (Try.prog.info? 3).map (fun i => (i.zero, i.size, i.bytes)) = some (some (.int .i64 0), 1, 8) := by kernel_rfl
theorem info26 : (Try.prog.info? 26).map (fun i => (i.zero, i.size, i.bytes)) = some (some (.slice none 0 0), 1, 24) := by kernel_rfl
theorem info73 : (Try.prog.info? 73).map (fun i => (i.zero, i.size, i.bytes)) = some (some (.agg #[(.int .i64 0), (.int .i64 0), (.bool false)]), 3, 24) := by kernel_rfl
structure S75 where
  f0 : Int
  f1 : Int
  f2 : Bool
def z75 : S75 := ⟨(0 : Int), (0 : Int), false⟩
def k75 : Kd S75 := Kd.iso (Kd.pair (Kd.int .i64) (Kd.pair (Kd.int .i64) Kd.bool)) (fun x : S75 => (x.f0, x.f1, x.f2))
theorem k75_open {w : World} {x : S75} {cs : List Value} (h : k75.K w x cs) : cs = [.int .i64 x.f0, .int .i64 x.f1, .bool x.f2] := by
  obtain ⟨_, _, rfl, rfl, ⟨_, _, rfl, rfl, rfl⟩⟩ := h
  exact rfl
def rd_T75 (xs : List S75) (i : Int) : S75 := xs.getD i.toNat z75
theorem at_T75 {w : World} {A : Option Addr} {n : Nat} {xs : List S75} (h : Kd.C k75 w A n xs) (i : Int) (h0 : 0 ≤ i) (h1 : i < n) : ∃ ad , A = some ad ∧ w.cell? (ad.add (i.toNat * 3)) = some (.int .i64 (rd_T75 xs i).f0) ∧ w.cell? ⟨(ad.add (i.toNat * 3)).block, (ad.add (i.toNat * 3)).off + 1, none⟩ = some (.int .i64 (rd_T75 xs i).f1) ∧ w.cell? ⟨(ad.add (i.toNat * 3)).block, (ad.add (i.toNat * 3)).off + 2, none⟩ = some (.bool (rd_T75 xs i).f2) := by
  obtain ⟨ad, c, e, _, hK, hc0⟩ := Kd.C_get h z75 i h0 h1
  have hc : ∀ j u, c[j]? = some u → w.cell? (ad.add (i.toNat * 3 + j)) = some u := hc0
  obtain rfl := k75_open hK
  exact ⟨ad, e, hc 0 _ rfl, by rw [← add_field _ _ 1 (by omega)]; exact hc 1 _ rfl, by rw [← add_field _ _ 2 (by omega)]; exact hc 2 _ rfl⟩
structure S73 where
  f0 : Int
  f1 : Int
  f2 : Bool
def z73 : S73 := ⟨(0 : Int), (0 : Int), false⟩
def k73 : Kd S73 := Kd.iso (Kd.pair (Kd.int .i64) (Kd.pair (Kd.int .i64) Kd.bool)) (fun x : S73 => (x.f0, x.f1, x.f2))
theorem k73_open {w : World} {x : S73} {cs : List Value} (h : k73.K w x cs) : cs = [.int .i64 x.f0, .int .i64 x.f1, .bool x.f2] := by
  obtain ⟨_, _, rfl, rfl, ⟨_, _, rfl, rfl, rfl⟩⟩ := h
  exact rfl
theorem k73_openM {w : World} {base : Nat} {ok : Nat → Prop} {x : S73} {cs : List Value} (h : k73.M w base ok x cs) : cs = [.int .i64 x.f0, .int .i64 x.f1, .bool x.f2] := by
  obtain ⟨_, _, rfl, rfl, ⟨_, _, rfl, rfl, rfl⟩⟩ := h
  exact rfl
theorem k73_mkM (w : World) (base : Nat) (ok : Nat → Prop) (x : S73)  : k73.M w base ok x [.int .i64 x.f0, .int .i64 x.f1, .bool x.f2] := ⟨[.int .i64 x.f0], [.int .i64 x.f1, .bool x.f2], rfl, rfl, ⟨[.int .i64 x.f1], [.bool x.f2], rfl, rfl, rfl⟩⟩
def rd_T73 (xs : List S73) (i : Int) : S73 := xs.getD i.toNat z73
theorem at_T73 {w : World} {A : Option Addr} {n : Nat} {xs : List S73} (h : Kd.C k73 w A n xs) (i : Int) (h0 : 0 ≤ i) (h1 : i < n) : ∃ ad , A = some ad ∧ w.cell? (ad.add (i.toNat * 3)) = some (.int .i64 (rd_T73 xs i).f0) ∧ w.cell? ⟨(ad.add (i.toNat * 3)).block, (ad.add (i.toNat * 3)).off + 1, none⟩ = some (.int .i64 (rd_T73 xs i).f1) ∧ w.cell? ⟨(ad.add (i.toNat * 3)).block, (ad.add (i.toNat * 3)).off + 2, none⟩ = some (.bool (rd_T73 xs i).f2) := by
  obtain ⟨ad, c, e, _, hK, hc0⟩ := Kd.C_get h z73 i h0 h1
  have hc : ∀ j u, c[j]? = some u → w.cell? (ad.add (i.toNat * 3 + j)) = some u := hc0
  obtain rfl := k73_open hK
  exact ⟨ad, e, hc 0 _ rfl, by rw [← add_field _ _ 1 (by omega)]; exact hc 1 _ rfl, by rw [← add_field _ _ 2 (by omega)]; exact hc 2 _ rfl⟩
def rd_L5 (xs : List (List S73)) (i : Int) : (List S73) := xs.getD i.toNat ([] : List S73)
theorem at_L5 {w : World} {A : Option Addr} {n : Nat} {xs : List (List S73)} (h : Kd.C (Kd.slice 73 k73) w A n xs) (i : Int) (h0 : 0 ≤ i) (h1 : i < n) : ∃ ad A0 c0, A = some ad ∧ w.cell? (ad.add i.toNat) = some (.slice A0 (rd_L5 xs i).length c0) ∧ (rd_L5 xs i).length ≤ c0 ∧ k73.C w A0 (rd_L5 xs i).length (rd_L5 xs i) := by
  obtain ⟨ad, c, e, _, hK, hc0⟩ := Kd.C_get h ([] : List S73) i h0 h1
  have hc : ∀ j u, c[j]? = some u → w.cell? (ad.add (i.toNat * 1 + j)) = some u := hc0
  obtain ⟨A0, c0, rfl, l0, g0⟩ := hK
  exact ⟨ad, A0, c0, e, by have hq := hc 0 _ rfl; rwa [Nat.mul_one, Nat.add_zero] at hq, l0, g0⟩
structure S103 where
  f0 : Int
  f1 : Int
structure S100 where
  f0 : Int
  f1 : Int
def rd_L9 (xs : List (List S75)) (i : Int) : (List S75) := xs.getD i.toNat ([] : List S75)
theorem at_L9 {w : World} {A : Option Addr} {n : Nat} {xs : List (List S75)} (h : Kd.C (Kd.slice 75 k75) w A n xs) (i : Int) (h0 : 0 ≤ i) (h1 : i < n) : ∃ ad A0 c0, A = some ad ∧ w.cell? (ad.add i.toNat) = some (.slice A0 (rd_L9 xs i).length c0) ∧ (rd_L9 xs i).length ≤ c0 ∧ k75.C w A0 (rd_L9 xs i).length (rd_L9 xs i) := by
  obtain ⟨ad, c, e, _, hK, hc0⟩ := Kd.C_get h ([] : List S75) i h0 h1
  have hc : ∀ j u, c[j]? = some u → w.cell? (ad.add (i.toNat * 1 + j)) = some u := hc0
  obtain ⟨A0, c0, rfl, l0, g0⟩ := hK
  exact ⟨ad, A0, c0, e, by have hq := hc 0 _ rfl; rwa [Nat.mul_one, Nat.add_zero] at hq, l0, g0⟩
def idxP {α : Type} (p : α → Bool) (l : List α) : Int := match l.findIdx? p with | some i => (i : Int) | none => -1
theorem idxP_hit {α : Type} {p : α → Bool} {l : List α} {k : Nat} {y : α} (hy : l[k]? = some y) (hp : p y = true) (hn : ∀ j x, j < k → l[j]? = some x → p x = false) : idxP p l = (k : Int) := by
  have hk : k < l.length := (List.getElem?_eq_some_iff.1 hy).1
  have e : l.findIdx? p = some k := by
    rw [List.findIdx?_eq_some_iff_getElem]
    refine ⟨hk, ?_, fun j hj => ?_⟩
    · rw [(List.getElem?_eq_some_iff.1 hy).2]; exact hp
    · have := hn j l[j] hj (List.getElem?_eq_getElem (by omega))
      simp [this]
  simp [idxP, e]
theorem idxP_miss {α : Type} {p : α → Bool} {l : List α} (h : ∀ x ∈ l, p x = false) : idxP p l = -1 := by
  have e : l.findIdx? p = none := by
    rw [List.findIdx?_eq_none_iff]
    exact h
  simp [idxP, e]
theorem idxP_nonneg {α : Type} (p : α → Bool) (l : List α) : decide (0 ≤ idxP p l) = l.any p := by
  unfold idxP
  cases e : l.findIdx? p with
  | none =>
    rw [List.findIdx?_eq_none_iff] at e
    have : l.any p = false := by rw [List.any_eq_false]; intro x hx; simp [e x hx]
    simp [this]
  | some i =>
    rw [List.findIdx?_eq_some_iff_getElem] at e
    obtain ⟨h, hp, _⟩ := e
    have : l.any p = true := List.any_eq_true.2 ⟨l[i], List.getElem_mem h, hp⟩
    simp [this]
end Go.Proofs.Ytidkniacmcbgiaa.G
end

section
namespace Go.Proofs.Ytidkniacmcbgiaa.G
open Go.RowKit Go.Proofs.YtidkniacmcbgiaaW.PrintWords Go.Proofs.YtidkniacmcbgiaaW.PrintLast Go.Proofs.YtidkniacmcbgiaaW.PrintMore
attribute [local go_sem] max2_int min2_int max_two min_two max_three min_three max_four min_four
set_option linter.unusedVariables false
set_option linter.unusedSimpArgs false
set_option maxHeartbeats 2000000 in
theorem slices_IndexFunc_Log_Entry.calls (A0 : Option Addr) (c0 : Nat) (l0 : List (S73)) (g : Nat) (lb : Array Value) (eg : ∀ args w,(callFunc g args).run Try.prog w = .ok (.enter g args) w) (p : S73 → Bool) (w : World)
  (hr0 : Kd.C k73 w A0 l0.length l0) (hc0 : l0.length ≤ c0)
  (hp : ∀ W,Below w.heap.size w W → ∀ x ∈ l0,Calls Try.prog g (#[.agg #[.int .i64 x.f0,.int .i64 x.f1,.bool x.f2]] ++ lb) W fun e w' => e = .returned (.bool (p x)) ∧ Below w.heap.size w w') :
  Calls Try.prog 81 #[.slice A0 l0.length c0,.func (.func g) #[] lb] w fun e w' => e = .returned (.int .i64 (idxP p l0)) ∧ Below w.heap.size w w' := by
 have hu := Try.underlying73;have hl : l0.length ≤ 9223372036854775807 := hr0.2.1;have HR0 := Aside0.mk hr0;have HP := Aside0.mk hp;clear hr0 hp;generalize hn : l0.length = n at *;have Hn := Aside0.mk hn;clear hn
 go_enter Try.func81,Try.ntmps81
 go_wp2
 go_loopg [5,8] n (fun gg _ s8 wr => ∃ kk : Nat,kk ≤ n ∧ n - kk ≤ gg ∧ s8 = .int .i64 kk ∧ Aside0 (Below w.heap.size w wr) ∧ Aside0 (∀ j x,j < kk → l0[j]? = some x → p x = false))
 case atStart => exact ⟨0,Nat.zero_le _,by omega,rfl,⟨Below.refl _ w⟩,⟨fun j _ hj => absurd hj (Nat.not_lt_zero _)⟩⟩
 case round =>
  obtain ⟨kk,hkk,hg,rfl,BW,AF⟩ := hrel
  by_cases hlt : kk < n
  ·have hltz : (kk : Int) < (n : Int) := by omega
   obtain ⟨ad,e0,hx0,hx1,hx2⟩ := at_T73 HR0.out (kk : Int) (by omega) (by omega);cases e0;simp only [Int.toNat_natCast] at hx0 hx1 hx2;replace hx0 := (BW.out.cell (World.block_lt_of_cell? w _ hx0)).trans hx0;replace hx1 := (BW.out.cell (World.block_lt_of_cell? w _ hx1)).trans hx1;replace hx2 := (BW.out.cell (World.block_lt_of_cell? w _ hx2)).trans hx2
   have hm : l0[kk]? = some (rd_T73 l0 (kk : Int)) := by
    have h1 : kk < l0.length := by rw [Hn.out];exact hlt
    simp [rd_T73,List.getD_eq_getElem?_getD,List.getElem?_eq_getElem h1]
   have hcall := HP.out wr BW.out (rd_T73 l0 (kk : Int)) (List.mem_of_getElem? hm);generalize hy : rd_T73 l0 (kk : Int) = y at *;clear hy;have HM := Aside0.mk hm;clear hm
   cases hq : p y with
   | true =>
    rw [hq] at hcall;have HQ := Aside0.mk hq;clear hq
    go_wp2_with (go_at_fn g;refine hcall.mono ?_;rintro e w' ⟨rfl,hb'⟩)
    go_ret
    refine ⟨?_,hb'⟩;rw [idxP_hit HM.out HQ.out AF.out];rfl
   | false =>
    rw [hq] at hcall;have HQ := Aside0.mk hq;clear hq
    go_wp2_with (go_at_fn g;refine hcall.mono ?_;rintro e w' ⟨rfl,hb'⟩)
    go_roundg (n - (kk + 1))
    case measure => omega
    case rel =>
     refine ⟨kk + 1,by omega,by omega,by go_num,⟨hb'⟩,⟨fun j x hj hx => ?_⟩⟩
     by_cases e : j = kk
     ·subst e;rw [HM.out] at hx;cases hx;exact HQ.out
     ·exact AF.out j x (by omega) hx
  ·have hltz : ¬ (kk : Int) < (n : Int) := by omega
   have : kk = n := by omega
   subst this
   go_wp2
   go_ret
   refine ⟨?_,BW.out⟩
   rw [idxP_miss (fun x hx => by
    obtain ⟨j,hj,rfl⟩ := List.mem_iff_getElem.1 hx
    exact AF.out j _ (by rw [← Hn.out];exact hj) (List.getElem?_eq_getElem hj))]
   rfl
end Go.Proofs.Ytidkniacmcbgiaa.G
end

section
namespace Go.Proofs.Ytidkniacmcbgiaa.G
open Go.RowKit Go.Proofs.YtidkniacmcbgiaaW.PrintWords Go.Proofs.YtidkniacmcbgiaaW.PrintLast Go.Proofs.YtidkniacmcbgiaaW.PrintMore
attribute [local go_sem] max2_int min2_int max_two min_two max_three min_three max_four min_four
set_option linter.unusedVariables false
set_option linter.unusedSimpArgs false
theorem impl_Log_firstDown.test (b1 : Nat) (s : Int) (x : S73) (w : World) (h1 : w.heap[b1]? = some (.cells #[.int .i64 s] 2 (0,0))) :
  Calls Try.prog 125 (#[.agg #[.int .i64 x.f0,.int .i64 x.f1,.bool x.f2]] ++ #[.pointer (some ⟨b1,0,none⟩)]) w fun e w' => e = .returned (.bool (x.f2 && x.f1 == s)) ∧ Below w.heap.size w w' := by
 rw [show (#[.agg #[.int .i64 x.f0,.int .i64 x.f1,.bool x.f2]] ++ #[.pointer (some ⟨b1,0,none⟩)] : Array Value) = #[.agg #[.int .i64 x.f0,.int .i64 x.f1,.bool x.f2],.pointer (some ⟨b1,0,none⟩)] from rfl];have c1 : w.cell? ⟨b1,0,none⟩ = some (.int .i64 s) := (blk_cell h1 0).trans rfl
 have c2 : ∀ o,(w.alloc o).cell? ⟨b1,0,none⟩ = some (.int .i64 s) := fun o => (blk_cell (blk_alloc h1 o) 0).trans rfl
 clear h1;obtain ⟨f0,f1,f2⟩ := x;have hu := Try.underlying73
 cases f2 with
 | false =>
  go_enter Try.func125,Try.ntmps125
  go_wp2
  go_ret
  exact ⟨rfl,below_alloc (Below.refl _ _) _⟩
 | true =>
  go_enter Try.func125,Try.ntmps125
  go_wp2
  go_ret
  exact ⟨by simp,below_alloc (Below.refl _ _) _⟩
def impl_Log_firstDown.f (l0 : List (S73)) (a1 : Int) : Option Int := some (if idxP (fun x => x.f2 && x.f1 == a1) l0 < 0 then -1 else (rd_T73 l0 (idxP (fun x => x.f2 && x.f1 == a1) l0)).f0)
theorem impl_Log_firstDown.idx_lt {α : Type} (p : α → Bool) (l : List α) : idxP p l < (l.length : Int) := by
 unfold idxP
 cases e : l.findIdx? p with
 | none => simp only;omega
 | some i =>
  rw [List.findIdx?_eq_some_iff_getElem] at e;obtain ⟨h,_⟩ := e;simp only
  omega
set_option maxHeartbeats 2000000 in
theorem impl_Log_firstDown.calls (A0 : Option Addr) (c0 : Nat) (l0 : List (S73)) (a1 : Int) (r : Int) (w : World) (hr0 : Kd.C k73 w A0 l0.length l0) (hc0 : l0.length ≤ c0) (h : impl_Log_firstDown.f l0 a1 = some r) :
  Calls Try.prog 105 #[.slice A0 l0.length c0,.int .i64 a1] w fun e w' => e = .returned (.int .i64 r) ∧ Below w.heap.size w w' := by
 unfold impl_Log_firstDown.f at h
 obtain rfl := Option.some.inj h;clear h;have eg := enters_of Try.func125 (by kernel_rfl) rfl;have hl : l0.length ≤ 9223372036854775807 := hr0.2.1;have hlt := impl_Log_firstDown.idx_lt (fun x => x.f2 && x.f1 == a1) l0;have HR0 := Aside0.mk hr0;obtain ⟨i,hi⟩ : ∃ i,idxP (fun x : S73 => x.f2 && x.f1 == a1) l0 = i := ⟨_,rfl⟩;rw [hi] at hlt ⊢;have HI := Aside0.mk hi;clear hi hr0;have HC0 := Aside0.mk hc0;have HB1 := Aside0.mk (below_alloc (Below.refl w.heap.size w) (.cells #[.int .i64 a1] 2 (0,0)));have BK1 := Aside0.mk (blk_new w (.cells #[.int .i64 a1] 2 (0,0)));clear hc0
 by_cases hneg : i < 0
 ·rw [if_pos hneg]
  go_enter Try.func105,Try.ntmps105
  go_wp2_with (go_at_call 81;refine (slices_IndexFunc_Log_Entry.calls _ c0 l0 _ #[.pointer (some ⟨w.heap.size,0,none⟩)] eg (fun x => x.f2 && x.f1 == a1) _ (Kd.C_below HR0.out HB1.out) HC0.out (fun W hW x _ => (impl_Log_firstDown.test w.heap.size a1 x W (blk_below BK1.out hW)).mono (fun _ _ h => ⟨h.1,below_then hW hW.size h.2⟩))).mono ?_;rintro e w2 ⟨he,hb2⟩;rw [HI.out] at he;subst he;have HB2 := Aside0.mk (below_step HB1.out hb2);clear hb2)
  go_ret
  exact ⟨rfl,HB2.out⟩
 ·rw [if_neg hneg]
  have h0 : 0 ≤ i := by omega
  obtain ⟨ad,e0,hx0,hx1,hx2⟩ := at_T73 HR0.out i h0 hlt;cases e0;have HX0 := Aside0.mk hx0;clear hx0 hx1 hx2;have p0 := eq_true h0;have p1 := eq_true hlt;generalize rd_T73 l0 i = y at *;clear h0 hlt
  go_enter Try.func105,Try.ntmps105
  go_wp2_with (go_at_call 81;refine (slices_IndexFunc_Log_Entry.calls _ c0 l0 _ #[.pointer (some ⟨w.heap.size,0,none⟩)] eg (fun x => x.f2 && x.f1 == a1) _ (Kd.C_below HR0.out HB1.out) HC0.out (fun W hW x _ => (impl_Log_firstDown.test w.heap.size a1 x W (blk_below BK1.out hW)).mono (fun _ _ h => ⟨h.1,below_then hW hW.size h.2⟩))).mono ?_;rintro e w2 ⟨he,hb2⟩;rw [HI.out] at he;subst he;have HB2 := Aside0.mk (below_step HB1.out hb2);clear hb2;have hz0 := (HB2.out.cell (World.block_lt_of_cell? w _ HX0.out)).trans HX0.out)
  go_ret
  exact ⟨rfl,HB2.out⟩
end Go.Proofs.Ytidkniacmcbgiaa.G
end

section
namespace Go.Proofs.Ytidkniacmcbgiaa.G
open Go.RowKit Go.Proofs.YtidkniacmcbgiaaW.PrintWords Go.Proofs.YtidkniacmcbgiaaW.PrintLast Go.Proofs.YtidkniacmcbgiaaW.PrintMore
attribute [local go_sem] max2_int min2_int max_two min_two max_three min_three max_four min_four
set_option linter.unusedVariables false
set_option linter.unusedSimpArgs false
def impl_size_Log.f (l0 : List (List (S73))) : Option (Int) := some (l0.length : Int)
set_option maxHeartbeats 8000000 in
set_option maxRecDepth 100000 in
theorem impl_size_Log.calls (A0 : Option Addr) (c0 : Nat) (l0 : List (List (S73))) (r : Int) (w : World) (hr0 : Kd.C (Kd.slice 73 k73) w A0 l0.length l0) (hc0 : l0.length ≤ c0) (h : impl_size_Log.f l0 = some r) :
  Calls Try.prog 124 #[.slice A0 l0.length c0] w fun e w' => e = .returned (.int .i64 r) ∧ Drawn0 w w' := by
 have HR0 := Aside0.mk hr0;have HC0 := Aside0.mk hc0;clear hr0 hc0;have H : (some (l0.length : Int)) = some r := h;clear h;obtain rfl := Option.some.inj H
 go_enter Try.func124,Try.ntmps124
 go_wp2
 go_ret
 exact ⟨by first | rfl | (simp only [IntKind.wrap_i64,wrap64];done) | (simp;done) | (simp [*];done),by repeat (first | exact Drawn0.refl _ | apply Drawn0.step)⟩
end Go.Proofs.Ytidkniacmcbgiaa.G
end

section
namespace Go.Proofs.Ytidkniacmcbgiaa.G
open Go.RowKit Go.Proofs.YtidkniacmcbgiaaW.PrintWords Go.Proofs.YtidkniacmcbgiaaW.PrintLast Go.Proofs.YtidkniacmcbgiaaW.PrintMore
attribute [local go_sem] max2_int min2_int max_two min_two max_three min_three max_four min_four
set_option linter.unusedVariables false
set_option linter.unusedSimpArgs false
def impl_unless.f (a0 : Bool) (a1 : Int) : Option (Int) := if a0 = true then (some 0) else (some a1)
set_option maxHeartbeats 8000000 in
set_option maxRecDepth 100000 in
theorem impl_unless.calls (a0 : Bool) (a1 : Int) (r : Int) (w : World) (h : impl_unless.f a0 a1 = some r) :
  Calls Try.prog 104 #[.bool a0,.int .i64 a1] w fun e w' => e = .returned (.int .i64 r) ∧ Drawn0 w w' := by
 have H : (if a0 = true then (some 0) else (some a1)) = some r := h;clear h
 by_cases c3 : a0 = true
 ·subst c3
  have H1 : (some 0) = some r := by rw [if_pos rfl] at H;exact H
  clear H;have H := H1;clear H1;obtain rfl := Option.some.inj H
  go_enter Try.func104,Try.ntmps104
  go_wp2
  go_ret
  exact ⟨by first | rfl | (simp only [IntKind.wrap_i64,wrap64];done) | (simp;done) | (simp [*];done),by repeat (first | exact Drawn0.refl _ | apply Drawn0.step)⟩
 ·replace c3 := Bool.eq_false_iff.mpr c3;subst c3
  have H1 : (some a1) = some r := by rw [if_neg (show ¬ (false = true) by decide)] at H;exact H
  clear H;have H := H1;clear H1;obtain rfl := Option.some.inj H
  go_enter Try.func104,Try.ntmps104
  go_wp2
  go_ret
  exact ⟨by first | rfl | (simp only [IntKind.wrap_i64,wrap64];done) | (simp;done) | (simp [*];done),by repeat (first | exact Drawn0.refl _ | apply Drawn0.step)⟩
end Go.Proofs.Ytidkniacmcbgiaa.G
end

section
namespace Go.Proofs.Ytidkniacmcbgiaa.G
open Go.RowKit Go.Proofs.YtidkniacmcbgiaaW.PrintWords Go.Proofs.YtidkniacmcbgiaaW.PrintLast Go.Proofs.YtidkniacmcbgiaaW.PrintMore
attribute [local go_sem] max2_int min2_int max_two min_two max_three min_three max_four min_four
set_option linter.unusedVariables false
set_option linter.unusedSimpArgs false
def impl_within.f (a0 : Int) (a1 : Int) (a2 : Int) : Option (Bool) := if a1 ≤ a0 then (some (decide (a0 ≤ a2))) else (some false)
set_option maxHeartbeats 8000000 in
set_option maxRecDepth 100000 in
theorem impl_within.calls (a0 : Int) (a1 : Int) (a2 : Int) (r : Bool) (w : World) (h : impl_within.f a0 a1 a2 = some r) :
  Calls Try.prog 79 #[.int .i64 a0,.int .i64 a1,.int .i64 a2] w fun e w' => e = .returned (.bool r) ∧ Drawn0 w w' := by
 have H : (if a1 ≤ a0 then (some (decide (a0 ≤ a2))) else (some false)) = some r := h;clear h
 by_cases c4 : a1 ≤ a0
 ·rw [if_pos c4] at H;have c4b0 : decide (a1 ≤ a0) = true := decide_eq_true c4;clear c4;obtain rfl := Option.some.inj H
  go_enter Try.func79,Try.ntmps79
  go_wp2
  go_ret
  exact ⟨by first | rfl | (simp only [IntKind.wrap_i64,wrap64];done) | (simp;done) | (simp [*];done),by repeat (first | exact Drawn0.refl _ | apply Drawn0.step)⟩
 ·rw [if_neg c4] at H;have c4b0 : decide (a1 ≤ a0) = false := decide_eq_false c4;clear c4;obtain rfl := Option.some.inj H
  go_enter Try.func79,Try.ntmps79
  go_wp2
  go_ret
  exact ⟨by first | rfl | (simp only [IntKind.wrap_i64,wrap64];done) | (simp;done) | (simp [*];done),by repeat (first | exact Drawn0.refl _ | apply Drawn0.step)⟩
end Go.Proofs.Ytidkniacmcbgiaa.G
end

section
namespace Go.Proofs.Ytidkniacmcbgiaa.G
open Go.RowKit Go.Proofs.YtidkniacmcbgiaaW.PrintWords Go.Proofs.YtidkniacmcbgiaaW.PrintLast Go.Proofs.YtidkniacmcbgiaaW.PrintMore
attribute [local go_sem] max2_int min2_int max_two min_two max_three min_three max_four min_four
set_option linter.unusedVariables false
set_option linter.unusedSimpArgs false
def anyO {α : Type} (p : α → Option Bool) (l : List α) : Option Bool := if l.all (fun x => (p x).isSome) = true then some (l.any (fun x => p x == some true)) else none
theorem anyO_some {α : Type} {p : α → Option Bool} {l : List α} {r : Bool} (h : anyO p l = some r) : (∀ x ∈ l, (p x).isSome = true) ∧ l.any (fun x => p x == some true) = r := by
  unfold anyO at h
  split at h
  · rename_i ha
    exact ⟨List.all_eq_true.1 ha, Option.some.inj h⟩
  · cases h
theorem allSome {α : Type} {p : α → Option Bool} {q : α → Bool} {l : List α} (h : ∀ x ∈ l, p x = some (q x)) : l.all (fun x => (p x).isSome) = true := List.all_eq_true.2 fun x hx => by rw [h x hx]; rfl
theorem someEq {α : Type} {p : α → Option Bool} {q : α → Bool} {l : List α} (h : ∀ x ∈ l, p x = some (q x)) : ∀ x ∈ l, (p x == some true) = q x := fun x hx => by rw [h x hx]; cases q x <;> rfl
theorem any_congr_ {α : Type} {p q : α → Bool} {l : List α} (h : ∀ x ∈ l, p x = q x) : l.any p = l.any q := by
  induction l with
  | nil => rfl
  | cons a l ih => simp [h a (by simp), ih (fun x hx => h x (by simp [hx]))]
theorem anyO_eq {α : Type} {p : α → Option Bool} {q : α → Bool} {l : List α} (h : ∀ x ∈ l, p x = some (q x)) : anyO p l = some (l.any q) := by
  unfold anyO
  rw [if_pos (allSome h), any_congr_ (someEq h)]
section
variable {P : Program} {ops : Array Oper} {Q : Exit → Act → World → Prop}
end
end Go.Proofs.Ytidkniacmcbgiaa.G
end

section
namespace Go.Proofs.Ytidkniacmcbgiaa.G
open Go.RowKit Go.Proofs.YtidkniacmcbgiaaW.PrintWords Go.Proofs.YtidkniacmcbgiaaW.PrintLast Go.Proofs.YtidkniacmcbgiaaW.PrintMore
attribute [local go_sem] max2_int min2_int max_two min_two max_three min_three max_four min_four
set_option linter.unusedVariables false
set_option linter.unusedSimpArgs false
theorem run_clear_any {P : Program} {n : Nat} (w : World) (t e ty : TypeId) (z : Value) (ht : P.underlying t = some (.slice e)) (hv : ∀ w, (zeroValue e).run P w = .ok z w) (hz1 : ∀ u ∈ (Builtin.zeroCells z.cells n).toList, u.oneCell' = true) (b o c : Nat) (hn : 0 < n)
    (hc : ∀ j, j < (Builtin.zeroCells z.cells n).toList.length → (w.cell? ⟨b, o + j, none⟩).isSome = true) (hf : ∀ j, j < (Builtin.zeroCells z.cells n).toList.length → w.frozen? ⟨b, o + j, none⟩ = false) :
    (Builtin.clear_ #[t] ty #[.slice (some ⟨b, o, none⟩) n c]).run P w = .ok (.tuple #[]) (w.setCells b o (Builtin.zeroCells z.cells n).toList) := by
  have hst := run_storeCells_cells (P := P) b o (Builtin.zeroCells z.cells n).toList 0 w (by simpa using hc) (by simpa using hf) hz1
  simp only [Nat.add_zero] at hst
  obtain ⟨m, rfl⟩ : ∃ m, n = m + 1 := ⟨n - 1, by omega⟩
  simp [Builtin.clear_, run_underlying ht, hv, hst]
theorem zeroCells_len (cs : Array Value) (n : Nat) : (Builtin.zeroCells cs n).toList.length = n * cs.size := by
  simp [Builtin.zeroCells]
theorem R_beyond {α : Type} {d : Kd α} {e : Nat} {w : World} {base : Nat} {ok : Nat → Prop} {g m c : Nat} {xs : List α} (h : d.R e w base ok (.slice (some ⟨g, 0, none⟩) m c) xs) (news : List Value) (o : Nat) (ho : m * d.sz ≤ o) (hfit : o + news.length ≤ c * d.sz) :
    d.R e (w.setCells g o news) base ok (.slice (some ⟨g, 0, none⟩) m c) xs ∧ w.grownBy (w.setCells g o news) (some g) := by
  obtain ⟨hn, hnc, _⟩ := Kd.R_reads' h
  obtain ⟨hok, inner, hown, hr⟩ := h
  have hin : inner.length = m * d.sz := by rw [hr.1, hn]
  rcases hown.2 with ⟨hv, _⟩ | ⟨g', cap', cur, hv, hb, hh, hle, hcm, hcs, htake⟩
  · cases hv
  injection hv with ha _ hc
  injection ha with ha
  injection ha with hg
  subst hg; subst hc
  rw [← hn] at htake
  have hnc' : m * d.sz ≤ c * d.sz := Nat.mul_le_mul_right _ hnc
  obtain ⟨cur', h3, h4, h5⟩ := setCells_row news o w cur hh (by rw [hcs]; exact hfit)
  obtain ⟨s1, s2, s3, s4⟩ := setCells_same g news o w
  have hfar : ∀ k', k' ≠ g → (w.setCells g o news).heap[k']? = w.heap[k']? := fun k' hk' => setCells_far news _ k' hk'
  have htl : cur'.toList.take (m * d.sz) = inner := by
    rw [h5, List.append_assoc, List.take_append_of_le_length (by rw [List.length_take, Array.length_toList, hcs]; omega), List.take_take, Nat.min_eq_left ho, htake]
  refine ⟨⟨hok, inner, ⟨hown.1, .inr ⟨g, c, cur', by rw [hn], hb, h3, hle, hcm, by rw [h4, hcs], by rw [← hn]; exact htl⟩⟩, hr.imp_ (fun p q hp => d.M_move (fun k' hk' => hfar k' (fun he => hk'.2 (by rw [he]; simp [Value.ownBlock]))) hp)⟩, ⟨s1, s2, s3, by rw [s4]; exact Nat.le_refl _, fun k' _ hk' => hfar k' (fun he => hk' (by rw [he]))⟩⟩
theorem R_cleared {α : Type} {P : Program} {d : Kd α} {e : Nat} {w : World} {base : Nat} {ok : Nat → Prop} {g m c n : Nat} {xs : List α} (h : d.R e w base ok (.slice (some ⟨g, 0, none⟩) m c) xs) (t ty : TypeId) (z : Value) (ht : P.underlying t = some (.slice e)) (hv : ∀ w, (zeroValue e).run P w = .ok z w) (hzs : z.cells.size = d.sz)
    (hz1 : ∀ u ∈ (Builtin.zeroCells z.cells n).toList, u.oneCell' = true) (hn : 0 < n) (hfit : m + n ≤ c) :
    ∃ w1, (Builtin.clear_ #[t] ty #[.slice (some ⟨g, m * d.sz, none⟩) n (c - m)]).run P w = .ok (.tuple #[]) w1 ∧ d.R e w1 base ok (.slice (some ⟨g, 0, none⟩) m c) xs ∧ w.grownBy w1 (some g) := by
  have hfit' : m * d.sz + n * d.sz ≤ c * d.sz := by rw [← Nat.add_mul]; exact Nat.mul_le_mul_right _ hfit
  have hl : (Builtin.zeroCells z.cells n).toList.length = n * d.sz := by rw [zeroCells_len, hzs]
  obtain ⟨hx, _⟩ := Kd.R_own h
  obtain ⟨inner, hown, hr⟩ := h.2
  rcases hown.2 with ⟨hv', _⟩ | ⟨g', cap', cur, hv', hb, hh, hle, hcm, hcs, htake⟩
  · cases hv'
  injection hv' with ha _ hc
  injection ha with ha
  injection ha with hg
  subst hg; subst hc
  have hb2 := R_beyond h (Builtin.zeroCells z.cells n).toList (m * d.sz) (Nat.le_refl _) (by rw [hl]; exact hfit')
  refine ⟨_, run_clear_any w t e ty z ht hv hz1 g (m * d.sz) (c - m) hn (fun j hj => ?_) (fun j hj => blk_frozen hh _), hb2.1, hb2.2⟩
  rw [hl] at hj
  rw [cell_of_row w g _ cur e (0, 0) hh, Array.getElem?_eq_getElem (by omega)]
  rfl
end Go.Proofs.Ytidkniacmcbgiaa.G
end

section
namespace Go.Proofs.Ytidkniacmcbgiaa.G
open Go.RowKit Go.Proofs.YtidkniacmcbgiaaW.PrintWords Go.Proofs.YtidkniacmcbgiaaW.PrintLast Go.Proofs.YtidkniacmcbgiaaW.PrintMore
attribute [local go_sem] max2_int min2_int max_two min_two max_three min_three max_four min_four
set_option linter.unusedVariables false
set_option linter.unusedSimpArgs false
def slices_Delete_int_int.f (l0 : List (Int)) (a1 : Int) (a2 : Int) : Option (List (Int)) := if 0 ≤ a1 ∧ a1 < (l0.length : Int) ∧ a2 = a1 + 1 then some (l0.eraseIdx a1.toNat) else none
set_option maxHeartbeats 4000000 in
set_option maxRecDepth 20000 in
theorem slices_Delete_int_int.calls (P0_ : Nat → Prop) (u9000_ : Value) (l0 : List (Int)) (a1 : Int) (a2 : Int) (r : List (Int)) (w0 w : World) (hB : Below w0.heap.size w0 w) (ho0 : Kd.R (Kd.int .i64) 3 w w0.heap.size P0_ u9000_ l0) (h : slices_Delete_int_int.f l0 a1 a2 = some r) :
  Calls Try.prog 119 #[u9000_,.int .i64 a1,.int .i64 a2] w fun e w' => ∃ v0_ : Value,e = .returned (v0_) ∧ Kd.R (Kd.int .i64) 3 w' w0.heap.size (fun k_ => (P0_ k_ ∨ w.heap.size ≤ k_)) v0_ r ∧ Below w0.heap.size w0 w' ∧ Kept w w' (fun k_ => P0_ k_) := by
 unfold slices_Delete_int_int.f at h
 by_cases hq : 0 ≤ a1 ∧ a1 < (l0.length : Int) ∧ a2 = a1 + 1
 ·rw [if_pos hq] at h;obtain rfl := Option.some.inj h;obtain ⟨h0,h1,rfl⟩ := hq;clear h;obtain ⟨k,rfl⟩ : ∃ k : Nat,a1 = (k : Int) := ⟨a1.toNat,by omega⟩
  have hk : k < l0.length := by omega
  obtain ⟨g,c,rfl,hbg,hg,cells,hcells⟩ := Kd.R_form ho0 (by omega);obtain ⟨_,hc,hC⟩ := Kd.R_reads' ho0;have hl : l0.length ≤ 9223372036854775807 := hC.2.1;have HO := Aside0.mk ho0;have HB := Aside0.mk hB;clear ho0 hB hC hcells
  go_enter Try.func119,Try.ntmps119
  go_wp2
  have hinfo : (Try.prog.info? 3).map (·.size) = some ((Kd.int .i64)).sz := by kernel_rfl
  have ht := Try.underlying77
  have hA0 : (if c = k + 1 then some (⟨g,0,none⟩ : Addr) else some ⟨g,k + 1,none⟩) = if c = k + 1 then some (⟨g,0,none⟩ : Addr) else (some (⟨g,0,none⟩ : Addr)).map (·.add ((k + 1) * ((Kd.int .i64)).sz)) := by
   rw [show ((Kd.int .i64)).sz = 1 from rfl]
   simp [Addr.add]
  have HA0 := Aside0.mk hA0;clear hA0
  have hkc : k ≤ c := by omega
  have hz1 : ((0 : Int) ≤ (k : Int) + 1) = True := eq_true (by omega);have hz2 : ((k : Int) + 1 ≤ (l0.length : Int)) = True := eq_true (by omega)
  go_region_law (refine Kd.R_delete_step ((Kd.int .i64)) (w0 := w0) w0.heap.size (by rfl) (.tmp 22) (.tmp 25) 77 3 rfl ht hinfo (c := c) (k := k) (n := l0.length) rfl rfl HA0.out rfl (Kd.R_drew HO.out) hk (below_drew1 HB.out) HB.out.size ?_;intro w1 ho1 hb1 hg1)
  obtain ⟨m,hm⟩ : ∃ m,l0.length = m + 1 := ⟨l0.length - 1,by omega⟩
  have hmm : l0.length - 1 = m := by omega
  rw [hmm] at ho1 ⊢;have hcm : (c = m) = False := eq_false (by omega);have hcm1 : ((m : Int) + 1 ≤ (c : Int)) = True := eq_true (by omega);have hcm2 : (m + 1 ≤ c) = True := eq_true (by omega);obtain ⟨w2,hcl,ho2,hg2⟩ := R_cleared (P := Try.prog) (n := 1) ho1 77 0 (.int .i64 0) ht (fun w => by kernel_rfl) rfl (List.all_eq_true.1 (by kernel_rfl)) (by decide) (by omega);rw [show m * ((Kd.int .i64)).sz = m from Nat.mul_one m] at hcl;have HO2 := Aside0.mk ho2;have HB1 := Aside0.mk hb1;have HG1 := Aside0.mk hg1;have HG2 := Aside0.mk hg2;clear ho1 hb1 hg1 ho2 hg2
  rename_i hK hT
  refine hK _ _ ?_;rw [hm];clear hz2 h1 hk hl hmm hK hT;go_simp;generalize (if c = k + 1 then (some (⟨g,0,none⟩ : Addr)) else some ⟨g,k + 1,none⟩) = ax at ⊢;have hbg' := Aside0.mk hbg;clear hinfo HA0 hkc hz1 hc hg hbg
  go_wp2
  go_ret
  refine ⟨_,rfl,Kd.R_mono HO2.out (fun _ hk => .inl hk),HB1.out.grown HG2.out HB1.out.size (fun k hk => ?_),Kept.of_grown HG2.out (Kept.of_grown HG1.out (Kept.drew (Kept.refl w _)) ?_) ?_⟩
  ·injection hk with hk
   subst hk;exact hbg'.out
  ·intro k hk
   injection hk with hk
   subst hk;exact .inl (HO.out.1 _ (by simp [Value.ownBlock]))
  ·intro k hk
   injection hk with hk
   subst hk;exact .inl (HO.out.1 _ (by simp [Value.ownBlock]))
 ·rw [if_neg hq] at h;cases h
end Go.Proofs.Ytidkniacmcbgiaa.G
end

section
namespace Go.Proofs.Ytidkniacmcbgiaa.G
open Go.RowKit Go.Proofs.YtidkniacmcbgiaaW.PrintWords Go.Proofs.YtidkniacmcbgiaaW.PrintLast Go.Proofs.YtidkniacmcbgiaaW.PrintMore
attribute [local go_sem] max2_int min2_int max_two min_two max_three min_three max_four min_four
set_option linter.unusedVariables false
set_option linter.unusedSimpArgs false
set_option maxHeartbeats 2000000 in
theorem slices_IndexFunc_int_int.calls (A0 : Option Addr) (c0 : Nat) (l0 : List (Int)) (g : Nat) (lb : Array Value) (eg : ∀ args w,(callFunc g args).run Try.prog w = .ok (.enter g args) w) (p : Int → Bool) (w : World)
  (hr0 : Kd.C (Kd.int .i64) w A0 l0.length l0) (hc0 : l0.length ≤ c0)
  (hp : ∀ W,Below w.heap.size w W → ∀ x ∈ l0,Calls Try.prog g (#[.int .i64 x] ++ lb) W fun e w' => e = .returned (.bool (p x)) ∧ Below w.heap.size w w') :
  Calls Try.prog 117 #[.slice A0 l0.length c0,.func (.func g) #[] lb] w fun e w' => e = .returned (.int .i64 (idxP p l0)) ∧ Below w.heap.size w w' := by
 have hl : l0.length ≤ 9223372036854775807 := hr0.2.1;have HR0 := Aside0.mk hr0;have HP := Aside0.mk hp;clear hr0 hp;generalize hn : l0.length = n at *;have Hn := Aside0.mk hn;clear hn
 go_enter Try.func117,Try.ntmps117
 go_wp2
 go_loopg [5,8] n (fun gg _ s8 wr => ∃ kk : Nat,kk ≤ n ∧ n - kk ≤ gg ∧ s8 = .int .i64 kk ∧ Aside0 (Below w.heap.size w wr) ∧ Aside0 (∀ j x,j < kk → l0[j]? = some x → p x = false))
 case atStart => exact ⟨0,Nat.zero_le _,by omega,rfl,⟨Below.refl _ w⟩,⟨fun j _ hj => absurd hj (Nat.not_lt_zero _)⟩⟩
 case round =>
  obtain ⟨kk,hkk,hg,rfl,BW,AF⟩ := hrel
  by_cases hlt : kk < n
  ·have hltz : (kk : Int) < (n : Int) := by omega
   obtain ⟨ad,e0,hx0⟩ := Kd.at_int HR0.out (kk : Int) (by omega) (by omega);cases e0;simp only [Int.toNat_natCast] at hx0;(try rw [show ((Kd.int .i64)).sz = 1 from rfl,Nat.mul_one,Nat.add_zero] at hx0);replace hx0 := (BW.out.cell (World.block_lt_of_cell? w _ hx0)).trans hx0
   have hm : l0[kk]? = some (rd l0 (kk : Int)) := by
    have h1 : kk < l0.length := by rw [Hn.out];exact hlt
    simp [rd,List.getD_eq_getElem?_getD,List.getElem?_eq_getElem h1]
   have hcall := HP.out wr BW.out (rd l0 (kk : Int)) (List.mem_of_getElem? hm);generalize hy : rd l0 (kk : Int) = y at *;clear hy;have HM := Aside0.mk hm;clear hm
   cases hq : p y with
   | true =>
    rw [hq] at hcall;have HQ := Aside0.mk hq;clear hq
    go_wp2_with (go_at_fn g;refine hcall.mono ?_;rintro e w' ⟨rfl,hb'⟩)
    go_ret
    refine ⟨?_,hb'⟩;rw [idxP_hit HM.out HQ.out AF.out];rfl
   | false =>
    rw [hq] at hcall;have HQ := Aside0.mk hq;clear hq
    go_wp2_with (go_at_fn g;refine hcall.mono ?_;rintro e w' ⟨rfl,hb'⟩)
    go_roundg (n - (kk + 1))
    case measure => omega
    case rel =>
     refine ⟨kk + 1,by omega,by omega,by go_num,⟨hb'⟩,⟨fun j x hj hx => ?_⟩⟩
     by_cases e : j = kk
     ·subst e;rw [HM.out] at hx;cases hx;exact HQ.out
     ·exact AF.out j x (by omega) hx
  ·have hltz : ¬ (kk : Int) < (n : Int) := by omega
   have : kk = n := by omega
   subst this
   go_wp2
   go_ret
   refine ⟨?_,BW.out⟩
   rw [idxP_miss (fun x hx => by
    obtain ⟨j,hj,rfl⟩ := List.mem_iff_getElem.1 hx
    exact AF.out j _ (by rw [← Hn.out];exact hj) (List.getElem?_eq_getElem hj))]
   rfl
end Go.Proofs.Ytidkniacmcbgiaa.G
end

section
namespace Go.Proofs.Ytidkniacmcbgiaa.G
open Go.RowKit Go.Proofs.YtidkniacmcbgiaaW.PrintWords Go.Proofs.YtidkniacmcbgiaaW.PrintLast Go.Proofs.YtidkniacmcbgiaaW.PrintMore
attribute [local go_sem] max2_int min2_int max_two min_two max_three min_three max_four min_four
set_option linter.unusedVariables false
set_option linter.unusedSimpArgs false
theorem impl_Log_up.test (b1 b2 : Nat) (A0 : Option Addr) (c0 : Nat) (l0 : List (S73)) (x : S73) (n : Int) (m : Nat) (w : World) (h1 : w.heap[b1]? = some (.cells #[.slice A0 m c0] 26 (0, 0))) (h2 : w.heap[b2]? = some (.cells #[.int .i64 x.f0, .int .i64 x.f1, .bool x.f2] 73 (0, 0)))
    (hr0 : Kd.C k73 w A0 m l0) (h0 : 0 ≤ n) (hn : n < (m : Int)) :
    Calls Try.prog 118 (#[.int .i64 n] ++ #[.pointer (some ⟨b1, 0, none⟩), .pointer (some ⟨b2, 0, none⟩)]) w fun e w' => e = .returned (.bool ((rd_T73 l0 n).f1 == x.f1)) ∧ Below w.heap.size w w' := by
  rw [show (#[.int .i64 n] ++ #[.pointer (some ⟨b1, 0, none⟩), .pointer (some ⟨b2, 0, none⟩)] : Array Value) = #[.int .i64 n, .pointer (some ⟨b1, 0, none⟩), .pointer (some ⟨b2, 0, none⟩)] from rfl]
  obtain ⟨ad, e0, hx0, hx1, hx2⟩ := at_T73 hr0 n h0 hn
  cases e0
  have c1 : w.cell? ⟨b1, 0, none⟩ = some (.slice (some ad) m c0) := (blk_cell h1 0).trans rfl
  have c2 : w.cell? ⟨b2, 1, none⟩ = some (.int .i64 x.f1) := (blk_cell h2 1).trans rfl
  clear h1 h2 hr0 hx0 hx2
  replace h0 := eq_true h0
  replace hn := eq_true hn
  generalize rd_T73 l0 n = y at *
  go_enter Try.func118, Try.ntmps118
  go_wp2
  go_region
  rename_i hK
  refine hK _ _ ?_
  go_wp2
  go_ret
  exact ⟨rfl, below_drew1 (Below.refl _ _)⟩
theorem impl_Log_up.within (n lo hi : Int) : impl_within.f n lo hi = some (decide (lo ≤ n) && decide (n ≤ hi)) := by
  unfold impl_within.f
  split <;> simp [*]
theorem impl_Log_up.stored {w W : World} {gb1 gb2 : Nat} {c1 : Value} {u : Nat → Prop} {v : Value} {out : List Int} (a b : Value) (d : Value) (HO : Kd.R (Kd.int .i64) 3 W w.heap.size u v out) (HB : Below w.heap.size w W) (BK1 : W.heap[gb1]? = some (.cells #[c1] 26 (0, 0)))
    (BK2 : W.heap[gb2]? = some (.cells #[.int .i64 0, .int .i64 0, .bool false] 73 (0, 0))) (GE : w.heap.size ≤ gb2) :
    Kd.R (Kd.int .i64) 3 (((W.setCell ⟨gb2, 0, none⟩ a).setCell ⟨gb2, 1, none⟩ b).setCell ⟨gb2, 2, none⟩ d) w.heap.size u v out ∧ Below w.heap.size w (((W.setCell ⟨gb2, 0, none⟩ a).setCell ⟨gb2, 1, none⟩ b).setCell ⟨gb2, 2, none⟩ d) ∧
    (((W.setCell ⟨gb2, 0, none⟩ a).setCell ⟨gb2, 1, none⟩ b).setCell ⟨gb2, 2, none⟩ d).heap[gb1]? = some (.cells #[c1] 26 (0, 0)) ∧
    (((W.setCell ⟨gb2, 0, none⟩ a).setCell ⟨gb2, 1, none⟩ b).setCell ⟨gb2, 2, none⟩ d).heap[gb2]? = some (.cells #[a, b, d] 73 (0, 0)) := by
  have hne := blk_ne BK1 BK2 (by decide)
  refine ⟨Kd.R_mono (Kd.R_far (p := ⟨gb2, 2, none⟩) (Kd.R_far (p := ⟨gb2, 1, none⟩) (Kd.R_far (p := ⟨gb2, 0, none⟩) (Kd.R_types HO BK2 (by decide)) (fun _ hk => hk.2) a) (fun _ hk => hk.2) b) (fun _ hk => hk.2) d) (fun _ h => h.1), below_set (below_set (below_set HB GE) GE) GE, blk_far (blk_far (blk_far BK1 hne _) hne _) hne _, ?_⟩
  exact blk_put (cs := #[a, b, .bool false]) (blk_put (cs := #[a, .int .i64 0, .bool false]) (blk_put (cs := #[.int .i64 0, .int .i64 0, .bool false]) BK2 0 _ rfl) 1 _ rfl) 2 _ rfl
theorem impl_Log_up.idx_lt {α : Type} (p : α → Bool) (l : List α) : idxP p l < (l.length : Int) ∧ -1 ≤ idxP p l := by
  unfold idxP
  cases e : l.findIdx? p with
  | none => simp only; omega
  | some i =>
    rw [List.findIdx?_eq_some_iff_getElem] at e
    obtain ⟨h, _⟩ := e
    simp only
    omega
def impl_Log_up.good (b : Int) (x : S73) : Bool := (decide (b ≤ x.f0) && decide (x.f0 ≤ 100000)) && (decide (0 ≤ x.f1) && decide (x.f1 ≤ 9999))
def impl_Log_up.at (l : List (S73)) (x : S73) (out : List Int) : Int := idxP (fun n => (rd_T73 l n).f1 == x.f1) out
def impl_Log_up.step (l : List (S73)) (i : Nat) (s : Int × List Int) : Option (Int × List Int) :=
  if impl_Log_up.good s.1 (rd_T73 l (i : Int)) = false then none else
  if decide (impl_Log_up.at l (rd_T73 l (i : Int)) s.2 < 0) = (rd_T73 l (i : Int)).f2 then none else
  if (rd_T73 l (i : Int)).f2 = true then some ((rd_T73 l (i : Int)).f0, s.2.eraseIdx (impl_Log_up.at l (rd_T73 l (i : Int)) s.2).toNat) else some ((rd_T73 l (i : Int)).f0, s.2 ++ [(i : Int)])
def impl_Log_up.to (l : List (S73)) : Nat → Option (Int × List Int)
  | 0 => some (0, [])
  | n + 1 => (impl_Log_up.to l n).bind (impl_Log_up.step l n)
theorem impl_Log_up.to_none {l : List (S73)} {i n : Nat} (h : impl_Log_up.to l i = none) (hi : i ≤ n) : impl_Log_up.to l n = none := by
  induction n with
  | zero => obtain rfl : i = 0 := by omega
            exact h
  | succ n ih =>
    rcases Nat.lt_or_ge i (n + 1) with h1 | h1
    · rw [impl_Log_up.to, ih (by omega)]
      rfl
    · obtain rfl : i = n + 1 := by omega
      exact h
theorem impl_Log_up.to_in {l : List (S73)} {n : Nat} {s : Int × List Int} (h : impl_Log_up.to l n = some s) : s.2.length ≤ n ∧ ∀ x ∈ s.2, 0 ≤ x ∧ x < (n : Int) := by
  induction n generalizing s with
  | zero =>
    cases h
    simp
  | succ n ih =>
    rw [impl_Log_up.to] at h
    obtain ⟨s0, h0, h1⟩ := Option.bind_eq_some_iff.1 h
    obtain ⟨i1, i2⟩ := ih h0
    unfold impl_Log_up.step at h1
    split at h1
    · cases h1
    · split at h1
      · cases h1
      · split at h1
        · cases h1
          refine ⟨?_, fun x hx => ?_⟩
          · have := List.length_eraseIdx_le (l := s0.2) (i := (impl_Log_up.at l (rd_T73 l (n : Int)) s0.2).toNat)
            simp only
            omega
          · have := i2 x (List.mem_of_mem_eraseIdx hx)
            omega
        · cases h1
          refine ⟨by simp; omega, fun x hx => ?_⟩
          simp only [List.mem_append, List.mem_singleton] at hx
          rcases hx with hx | rfl
          · have := i2 x hx
            omega
          · omega
def impl_Log_up.f (l0 : List (S73)) : Option (List Int × Bool) := if l0.length ≤ 1048576 then some (match impl_Log_up.to l0 l0.length with | none => ([], false) | some s => (s.2, decide ((l0.length : Int) ≤ 60))) else none
set_option maxHeartbeats 8000000 in
set_option maxRecDepth 100000 in
theorem impl_Log_up.calls (A0 : Option Addr) (c0 : Nat) (l0 : List (S73)) (r1 : List Int) (r2 : Bool) (w : World) (hr0 : Kd.C k73 w A0 l0.length l0) (hc0 : l0.length ≤ c0) (h : impl_Log_up.f l0 = some (r1, r2)) :
    Calls Try.prog 75 #[.slice A0 l0.length c0] w fun e w' => ∃ v0_ : Value, e = .returned (.tuple #[v0_, .bool r2]) ∧ Kd.R (Kd.int .i64) 3 w' w.heap.size (fun _ => True) v0_ r1 ∧ Below w.heap.size w w' := by
  unfold impl_Log_up.f at h
  by_cases hL : l0.length ≤ 1048576
  · rw [if_pos hL] at h
    have h := Option.some.inj h
    have hu := Try.underlying73
    have eg := enters_of Try.func118 (by kernel_rfl) rfl
    have HR0 := Aside0.mk hr0
    have HC0 := Aside0.mk hc0
    have HB := Aside0.mk (Below.refl w.heap.size w)
    have HH := Aside0.mk h
    have HLn := Aside0.mk hL
    clear hr0 h hL
    generalize hn : l0.length = n at *
    have Hn := Aside0.mk hn
    clear hn
    go_enter Try.func75, Try.ntmps75
    go_wp2_with ((with_reducible refine gate_dst (N := 9) rfl ?_); refine Kd.R_lit (Kd.int .i64) _ 3 ?hg (N := 9) ?hd (xs := ([] : List Int)) (inner := []) (ok := fun k_ => k_ ≠ w.heap.size) (okp := fun k_ => k_ ≠ w.heap.size) ?hr ?hp (fun _ hk => hk) (by simp) (Below.refl _ _) (Nat.le_refl _) (by simp) ?_; (case hd => rfl); (case hg => rfl); (case hr => first | (go_simp; done) | (go_simp; rfl)); (case hp => exact (Reps.none _ _)); intro v1 w1 ho1 hb1 hg_ hnew_; clear hg_ hnew_; have HO1 := Aside0.mk (Kd.R_lower ho1 (by simp : w.heap.size ≤ _)); have HB1 := Aside0.mk (below_step (below_alloc (Below.refl _ w) _) hb1); have BK1 := Aside0.mk (blk_below (blk_new w _) hb1); clear ho1 hb1; have hz1 : w1.cell? ⟨w.heap.size, 0, none⟩ = some (.slice A0 n c0) := (blk_cell BK1.out 0).trans rfl)
    go_loopg [4, 5, 12] n (fun gg s4 s5 s12 wr => ∃ (kk : Nat) (b : Int) (out : List Int), kk ≤ n ∧ n - kk ≤ gg ∧ s12 = .int .i64 kk ∧ s5 = .int .i64 b ∧ Aside0 (impl_Log_up.to l0 kk = some (b, out)) ∧ Aside0 (Kd.R (Kd.int .i64) 3 wr w.heap.size (fun k_ => k_ ≠ w.heap.size) s4 out) ∧ Aside0 (Below w.heap.size w wr) ∧ Aside0 (wr.heap[w.heap.size]? = some (.cells #[.slice A0 n c0] 26 (0, 0))))
    case atStart => exact ⟨0, 0, [], Nat.zero_le _, by omega, rfl, rfl, ⟨rfl⟩, HO1, HB1, BK1⟩
    case round =>
      obtain ⟨kk, b, out, hkk, hg, rfl, rfl, HT, HO, HB2, BK⟩ := hrel
      obtain ⟨Ao, co, rfl⟩ := Kd.R_slice HO.out
      by_cases hlt : kk < n
      · have hltz : (kk : Int) < (n : Int) := by omega
        obtain ⟨ad, e0, hx0, hx1, hx2⟩ := at_T73 HR0.out (kk : Int) (by omega) (by omega)
        cases e0
        simp only [Int.toNat_natCast] at hx0 hx1 hx2
        replace hx0 := (HB2.out.cell (World.block_lt_of_cell? w _ hx0)).trans hx0
        replace hx1 := (HB2.out.cell (World.block_lt_of_cell? w _ hx1)).trans hx1
        replace hx2 := (HB2.out.cell (World.block_lt_of_cell? w _ hx2)).trans hx2
        have HS : Aside0 (impl_Log_up.to l0 (kk + 1) = impl_Log_up.step l0 kk (b, out)) := ⟨by rw [impl_Log_up.to, HT.out]; rfl⟩
        have HI := Aside0.mk (impl_Log_up.to_in HT.out)
        generalize hx : rd_T73 l0 (kk : Int) = x at *
        have HX := Aside0.mk hx
        have HW1 := Aside0.mk (impl_Log_up.within x.f0 b 100000)
        have HW2 := Aside0.mk (impl_Log_up.within x.f1 0 9999)
        have HR2 := Aside0.mk (Kd.C_below HR0.out HB2.out)
        have hfail : Aside0 (impl_Log_up.to l0 (kk + 1) = none → r1 = [] ∧ r2 = false) := ⟨fun h0 => by
          have := HH.out
          rw [impl_Log_up.to_none h0 (by omega)] at this
          simp only [Prod.mk.injEq] at this
          exact ⟨this.1.symm, this.2.symm⟩⟩
        clear hx
        cases hb1 : (decide (b ≤ x.f0) && decide (x.f0 ≤ 100000)) with
        | false =>
          rw [hb1] at HW1
          have h0 := hfail.out (by rw [HS.out]; simp only [impl_Log_up.step, HX.out]; rw [if_pos (by simp only [impl_Log_up.good]; rw [hb1]; rfl)])
          obtain ⟨rfl, rfl⟩ := h0
          clear hb1
          go_wp2_with (first | ((with_reducible refine gate_dst (N := 7) rfl ?_); refine box_event ?hg (N := 7) ?hd (cs := #[.int .i64 0, .int .i64 0, .bool false]) (t := 73) ?hr ?_; (case hd => rfl); (case hg => rfl); (case hr => first | (go_simp; done) | (go_simp; rfl)); intro gb2 hg2 w8 hbox hb8; have HO8 := Aside0.mk (Kd.R_below HO.out hb8); have HB8 := Aside0.mk (below_step HB2.out hb8); have BK8 := Aside0.mk (blk_below BK.out hb8); have BE8 := Aside0.mk hbox; have GE8 := Aside0.mk (show w.heap.size ≤ gb2 by rw [hg2]; exact HB2.out.size); have ST8 := Aside0.mk (impl_Log_up.stored (.int .i64 x.f0) (.int .i64 x.f1) (.bool x.f2) HO8.out HB8.out BK8.out BE8.out GE8.out); have hcz0 : w8.cell? ⟨gb2, 0, none⟩ = some (.int .i64 0) := (blk_cell BE8.out 0).trans rfl; have hcz1 : w8.cell? ⟨gb2, 1, none⟩ = some (.int .i64 0) := (blk_cell BE8.out 1).trans rfl; have hcz2 : w8.cell? ⟨gb2, 2, none⟩ = some (.bool false) := (blk_cell BE8.out 2).trans rfl; have hfz0 := blk_frozen BE8.out 0; have hfz1 := blk_frozen BE8.out 1; have hfz2 := blk_frozen BE8.out 2; clear hb8 hbox hg2) | (go_at_call 79; (with_reducible refine (impl_within.calls _ _ _ _ _ HW1.out).mono ?_); rintro e w9 ⟨rfl, hd9⟩; have HB9 := Aside0.mk (below_step ST8.out.2.1 hd9.below); have HO9 := Aside0.mk (Kd.R_below ST8.out.1 hd9.below); have BK9 := Aside0.mk (blk_below ST8.out.2.2.1 hd9.below); have BE9 := Aside0.mk (blk_below ST8.out.2.2.2 hd9.below); have hc0 : w9.cell? ⟨gb2, 0, none⟩ = some (.int .i64 x.f0) := (blk_cell BE9.out 0).trans rfl; have hc1 : w9.cell? ⟨gb2, 1, none⟩ = some (.int .i64 x.f1) := (blk_cell BE9.out 1).trans rfl; have hc2 : w9.cell? ⟨gb2, 2, none⟩ = some (.bool x.f2) := (blk_cell BE9.out 2).trans rfl; clear hd9))
          go_ret2
          exact ⟨_, rfl, Kd.R_nil _ _ _ _ _, HB9.out⟩
        | true =>
          rw [hb1] at HW1
          cases hb2 : (decide (0 ≤ x.f1) && decide (x.f1 ≤ 9999)) with
          | false =>
            rw [hb2] at HW2
            have h0 := hfail.out (by rw [HS.out]; simp only [impl_Log_up.step, HX.out]; rw [if_pos (by simp only [impl_Log_up.good]; rw [hb1, hb2]; rfl)])
            obtain ⟨rfl, rfl⟩ := h0
            clear hb1 hb2
            go_wp2_with (first | ((with_reducible refine gate_dst (N := 7) rfl ?_); refine box_event ?hg (N := 7) ?hd (cs := #[.int .i64 0, .int .i64 0, .bool false]) (t := 73) ?hr ?_; (case hd => rfl); (case hg => rfl); (case hr => first | (go_simp; done) | (go_simp; rfl)); intro gb2 hg2 w8 hbox hb8; have HO8 := Aside0.mk (Kd.R_below HO.out hb8); have HB8 := Aside0.mk (below_step HB2.out hb8); have BK8 := Aside0.mk (blk_below BK.out hb8); have BE8 := Aside0.mk hbox; have GE8 := Aside0.mk (show w.heap.size ≤ gb2 by rw [hg2]; exact HB2.out.size); have ST8 := Aside0.mk (impl_Log_up.stored (.int .i64 x.f0) (.int .i64 x.f1) (.bool x.f2) HO8.out HB8.out BK8.out BE8.out GE8.out); have hcz0 : w8.cell? ⟨gb2, 0, none⟩ = some (.int .i64 0) := (blk_cell BE8.out 0).trans rfl; have hcz1 : w8.cell? ⟨gb2, 1, none⟩ = some (.int .i64 0) := (blk_cell BE8.out 1).trans rfl; have hcz2 : w8.cell? ⟨gb2, 2, none⟩ = some (.bool false) := (blk_cell BE8.out 2).trans rfl; have hfz0 := blk_frozen BE8.out 0; have hfz1 := blk_frozen BE8.out 1; have hfz2 := blk_frozen BE8.out 2; clear hb8 hbox hg2) | (go_at_call 79; (with_reducible refine (impl_within.calls _ _ _ _ _ HW1.out).mono ?_); rintro e w9 ⟨rfl, hd9⟩; have HB9 := Aside0.mk (below_step ST8.out.2.1 hd9.below); have HO9 := Aside0.mk (Kd.R_below ST8.out.1 hd9.below); have BK9 := Aside0.mk (blk_below ST8.out.2.2.1 hd9.below); have BE9 := Aside0.mk (blk_below ST8.out.2.2.2 hd9.below); have hc0 : w9.cell? ⟨gb2, 0, none⟩ = some (.int .i64 x.f0) := (blk_cell BE9.out 0).trans rfl; have hc1 : w9.cell? ⟨gb2, 1, none⟩ = some (.int .i64 x.f1) := (blk_cell BE9.out 1).trans rfl; have hc2 : w9.cell? ⟨gb2, 2, none⟩ = some (.bool x.f2) := (blk_cell BE9.out 2).trans rfl; clear hd9) | (go_at_call 79; (with_reducible refine (impl_within.calls _ _ _ _ _ HW2.out).mono ?_); rintro e w10 ⟨rfl, hd10⟩; have HB10 := Aside0.mk (below_step HB9.out hd10.below); have HO10 := Aside0.mk (Kd.R_below HO9.out hd10.below); have BK10 := Aside0.mk (blk_below BK9.out hd10.below); have BE10 := Aside0.mk (blk_below BE9.out hd10.below); have hd0 : w10.cell? ⟨gb2, 0, none⟩ = some (.int .i64 x.f0) := (blk_cell BE10.out 0).trans rfl; have hd1 : w10.cell? ⟨gb2, 1, none⟩ = some (.int .i64 x.f1) := (blk_cell BE10.out 1).trans rfl; have hd2 : w10.cell? ⟨gb2, 2, none⟩ = some (.bool x.f2) := (blk_cell BE10.out 2).trans rfl; clear hd10))
            go_ret2
            exact ⟨_, rfl, Kd.R_nil _ _ _ _ _, HB10.out⟩
          | true =>
            rw [hb2] at HW2
            have HKA : Aside0 (idxP (fun n => (rd_T73 l0 n).f1 == x.f1) out = impl_Log_up.at l0 x out) := ⟨rfl⟩
            have hkb := impl_Log_up.idx_lt (fun n => (rd_T73 l0 n).f1 == x.f1) out
            rw [HKA.out] at hkb
            have HG : Aside0 (impl_Log_up.good b x = true) := ⟨by simp only [impl_Log_up.good]; rw [hb1, hb2]; rfl⟩
            have HS2 : Aside0 (impl_Log_up.to l0 (kk + 1) = if decide (impl_Log_up.at l0 x out < 0) = x.f2 then none else if x.f2 = true then some (x.f0, out.eraseIdx (impl_Log_up.at l0 x out).toNat) else some (x.f0, out ++ [(kk : Int)])) := ⟨by
              rw [HS.out]
              simp only [impl_Log_up.step, HX.out, HG.out]
              rfl⟩
            generalize impl_Log_up.at l0 x out = ka at *
            have hkl := HI.out.1
            simp only at hkl
            have hka1 : wrap64 (ka + 1) = ka + 1 := by have := HLn.out; unfold wrap64; omega
            have hka2 : IntKind.i64.wrap (ka + 1) = ka + 1 := by have := hka1; unfold wrap64 at this; rw [IntKind.wrap_i64]; exact this
            clear hb1 hb2
            by_cases hneg : ka < 0
            · have hd : decide (ka < 0) = true := decide_eq_true hneg
              cases hf2 : x.f2 with
              | true =>
                have HF2 := Aside0.mk hf2
                have h0 := hfail.out (by rw [HS2.out, hd, hf2]; rfl)
                obtain ⟨rfl, rfl⟩ := h0
                clear hf2
                go_wp2_with (first | ((with_reducible refine gate_dst (N := 7) rfl ?_); refine box_event ?hg (N := 7) ?hd (cs := #[.int .i64 0, .int .i64 0, .bool false]) (t := 73) ?hr ?_; (case hd => rfl); (case hg => rfl); (case hr => first | (go_simp; done) | (go_simp; rfl)); intro gb2 hg2 w8 hbox hb8; have HO8 := Aside0.mk (Kd.R_below HO.out hb8); have HB8 := Aside0.mk (below_step HB2.out hb8); have BK8 := Aside0.mk (blk_below BK.out hb8); have BE8 := Aside0.mk hbox; have GE8 := Aside0.mk (show w.heap.size ≤ gb2 by rw [hg2]; exact HB2.out.size); have ST8 := Aside0.mk (impl_Log_up.stored (.int .i64 x.f0) (.int .i64 x.f1) (.bool x.f2) HO8.out HB8.out BK8.out BE8.out GE8.out); have hcz0 : w8.cell? ⟨gb2, 0, none⟩ = some (.int .i64 0) := (blk_cell BE8.out 0).trans rfl; have hcz1 : w8.cell? ⟨gb2, 1, none⟩ = some (.int .i64 0) := (blk_cell BE8.out 1).trans rfl; have hcz2 : w8.cell? ⟨gb2, 2, none⟩ = some (.bool false) := (blk_cell BE8.out 2).trans rfl; have hfz0 := blk_frozen BE8.out 0; have hfz1 := blk_frozen BE8.out 1; have hfz2 := blk_frozen BE8.out 2; clear hb8 hbox hg2) | (go_at_call 79; (with_reducible refine (impl_within.calls _ _ _ _ _ HW1.out).mono ?_); rintro e w9 ⟨rfl, hd9⟩; have HB9 := Aside0.mk (below_step ST8.out.2.1 hd9.below); have HO9 := Aside0.mk (Kd.R_below ST8.out.1 hd9.below); have BK9 := Aside0.mk (blk_below ST8.out.2.2.1 hd9.below); have BE9 := Aside0.mk (blk_below ST8.out.2.2.2 hd9.below); have hc0 : w9.cell? ⟨gb2, 0, none⟩ = some (.int .i64 x.f0) := (blk_cell BE9.out 0).trans rfl; have hc1 : w9.cell? ⟨gb2, 1, none⟩ = some (.int .i64 x.f1) := (blk_cell BE9.out 1).trans rfl; have hc2 : w9.cell? ⟨gb2, 2, none⟩ = some (.bool x.f2) := (blk_cell BE9.out 2).trans rfl; clear hd9) | (go_at_call 79; (with_reducible refine (impl_within.calls _ _ _ _ _ HW2.out).mono ?_); rintro e w10 ⟨rfl, hd10⟩; have HB10 := Aside0.mk (below_step HB9.out hd10.below); have HO10 := Aside0.mk (Kd.R_below HO9.out hd10.below); have BK10 := Aside0.mk (blk_below BK9.out hd10.below); have BE10 := Aside0.mk (blk_below BE9.out hd10.below); have hd0 : w10.cell? ⟨gb2, 0, none⟩ = some (.int .i64 x.f0) := (blk_cell BE10.out 0).trans rfl; have hd1 : w10.cell? ⟨gb2, 1, none⟩ = some (.int .i64 x.f1) := (blk_cell BE10.out 1).trans rfl; have hd2 : w10.cell? ⟨gb2, 2, none⟩ = some (.bool x.f2) := (blk_cell BE10.out 2).trans rfl; clear hd10) | (go_at_call 117; refine (slices_IndexFunc_int_int.calls Ao co out _ #[.pointer (some ⟨w.heap.size, 0, none⟩), .pointer (some ⟨gb2, 0, none⟩)] eg (fun n => (rd_T73 l0 n).f1 == x.f1) _ (Kd.R_reads' HO10.out).2.2 (Kd.R_reads' HO10.out).2.1 (fun W hW m hm => (impl_Log_up.test _ _ _ c0 l0 x m n W (blk_below BK10.out hW) (blk_below BE10.out hW) (Kd.C_below (Kd.C_below HR0.out HB10.out) hW) (HI.out.2 m hm).1 (by have := (HI.out.2 m hm).2; omega)).mono (fun _ _ h => ⟨h.1, below_then hW hW.size h.2⟩))).mono ?_; rintro e w11 ⟨he11, hb11⟩; rw [HKA.out] at he11; subst he11; have HB11 := Aside0.mk (below_step HB10.out hb11); have HO11 := Aside0.mk (Kd.R_below HO10.out hb11); have BK11 := Aside0.mk (blk_below BK10.out hb11); have BE11 := Aside0.mk (blk_below BE10.out hb11); have he2 : w11.cell? ⟨gb2, 2, none⟩ = some (.bool x.f2) := (blk_cell BE11.out 2).trans rfl; rw [HF2.out] at he2; clear hb11))
                go_ret2
                exact ⟨_, rfl, Kd.R_nil _ _ _ _ _, HB11.out⟩
              | false =>
                have HF2 := Aside0.mk hf2
                clear hf2
                go_wp2_with (first | ((with_reducible refine gate_dst (N := 7) rfl ?_); refine box_event ?hg (N := 7) ?hd (cs := #[.int .i64 0, .int .i64 0, .bool false]) (t := 73) ?hr ?_; (case hd => rfl); (case hg => rfl); (case hr => first | (go_simp; done) | (go_simp; rfl)); intro gb2 hg2 w8 hbox hb8; have HO8 := Aside0.mk (Kd.R_below HO.out hb8); have HB8 := Aside0.mk (below_step HB2.out hb8); have BK8 := Aside0.mk (blk_below BK.out hb8); have BE8 := Aside0.mk hbox; have GE8 := Aside0.mk (show w.heap.size ≤ gb2 by rw [hg2]; exact HB2.out.size); have ST8 := Aside0.mk (impl_Log_up.stored (.int .i64 x.f0) (.int .i64 x.f1) (.bool x.f2) HO8.out HB8.out BK8.out BE8.out GE8.out); have hcz0 : w8.cell? ⟨gb2, 0, none⟩ = some (.int .i64 0) := (blk_cell BE8.out 0).trans rfl; have hcz1 : w8.cell? ⟨gb2, 1, none⟩ = some (.int .i64 0) := (blk_cell BE8.out 1).trans rfl; have hcz2 : w8.cell? ⟨gb2, 2, none⟩ = some (.bool false) := (blk_cell BE8.out 2).trans rfl; have hfz0 := blk_frozen BE8.out 0; have hfz1 := blk_frozen BE8.out 1; have hfz2 := blk_frozen BE8.out 2; clear hb8 hbox hg2) | (go_at_call 79; (with_reducible refine (impl_within.calls _ _ _ _ _ HW1.out).mono ?_); rintro e w9 ⟨rfl, hd9⟩; have HB9 := Aside0.mk (below_step ST8.out.2.1 hd9.below); have HO9 := Aside0.mk (Kd.R_below ST8.out.1 hd9.below); have BK9 := Aside0.mk (blk_below ST8.out.2.2.1 hd9.below); have BE9 := Aside0.mk (blk_below ST8.out.2.2.2 hd9.below); have hc0 : w9.cell? ⟨gb2, 0, none⟩ = some (.int .i64 x.f0) := (blk_cell BE9.out 0).trans rfl; have hc1 : w9.cell? ⟨gb2, 1, none⟩ = some (.int .i64 x.f1) := (blk_cell BE9.out 1).trans rfl; have hc2 : w9.cell? ⟨gb2, 2, none⟩ = some (.bool x.f2) := (blk_cell BE9.out 2).trans rfl; clear hd9) | (go_at_call 79; (with_reducible refine (impl_within.calls _ _ _ _ _ HW2.out).mono ?_); rintro e w10 ⟨rfl, hd10⟩; have HB10 := Aside0.mk (below_step HB9.out hd10.below); have HO10 := Aside0.mk (Kd.R_below HO9.out hd10.below); have BK10 := Aside0.mk (blk_below BK9.out hd10.below); have BE10 := Aside0.mk (blk_below BE9.out hd10.below); have hd0 : w10.cell? ⟨gb2, 0, none⟩ = some (.int .i64 x.f0) := (blk_cell BE10.out 0).trans rfl; have hd1 : w10.cell? ⟨gb2, 1, none⟩ = some (.int .i64 x.f1) := (blk_cell BE10.out 1).trans rfl; have hd2 : w10.cell? ⟨gb2, 2, none⟩ = some (.bool x.f2) := (blk_cell BE10.out 2).trans rfl; clear hd10) | (go_at_call 117; refine (slices_IndexFunc_int_int.calls Ao co out _ #[.pointer (some ⟨w.heap.size, 0, none⟩), .pointer (some ⟨gb2, 0, none⟩)] eg (fun n => (rd_T73 l0 n).f1 == x.f1) _ (Kd.R_reads' HO10.out).2.2 (Kd.R_reads' HO10.out).2.1 (fun W hW m hm => (impl_Log_up.test _ _ _ c0 l0 x m n W (blk_below BK10.out hW) (blk_below BE10.out hW) (Kd.C_below (Kd.C_below HR0.out HB10.out) hW) (HI.out.2 m hm).1 (by have := (HI.out.2 m hm).2; omega)).mono (fun _ _ h => ⟨h.1, below_then hW hW.size h.2⟩))).mono ?_; rintro e w11 ⟨he11, hb11⟩; rw [HKA.out] at he11; subst he11; have HB11 := Aside0.mk (below_step HB10.out hb11); have HO11 := Aside0.mk (Kd.R_below HO10.out hb11); have BK11 := Aside0.mk (blk_below BK10.out hb11); have BE11 := Aside0.mk (blk_below BE10.out hb11); have he2 : w11.cell? ⟨gb2, 2, none⟩ = some (.bool x.f2) := (blk_cell BE11.out 2).trans rfl; rw [HF2.out] at he2; clear hb11) | ((with_reducible refine gate_builtin (b := .append) (xs := #[.tmp 33, .tmp 35]) rfl ?_); at_builtin; refine Kd.R_append (Kd.int .i64) (w0 := w) w.heap.size rfl (.tmp 33) (.tmp 35) 77 3 (.int .i64 0) 8 rfl Try.underlying77 info3 rfl (by decide) (by omega) _ out (kk : Int) [.int .i64 (kk : Int)] (fun k_ => k_ ≠ w.heap.size) (fun _ => False) rfl (by first | (go_simp; done) | (go_simp; rfl)) ?aP (fun _ hk => hk.elim) ?aF ?aO ?aB ?aS ?aL ?_; (case aP => exact rfl); (case aB => exact HB11.out); (case aF => exact (fun k_ hk => by have := blk_lt BK11.out; omega)); (case aO => exact HO11.out); (case aS => exact HB11.out.size); (case aL => have := HLn.out; omega); intro v12 w12 ho12 hb12 hg12 hat12; have HB12 := Aside0.mk hb12; have HO12 := Aside0.mk ho12; have BK12 := Aside0.mk (blk_grown BK11.out hg12 (fun e => HO11.out.1 _ e.symm rfl)); clear ho12 hb12 hg12 hat12))
                go_roundg (n - (kk + 1))
                case measure => omega
                case rel => have := HLn.out; exact ⟨kk + 1, x.f0, out ++ [(kk : Int)], by omega, by omega, by rw [show ((kk + 1 : Nat) : Int) = wrap64 ((kk : Int) + 1) from by unfold wrap64; omega], rfl, ⟨by rw [HS2.out, hd, HF2.out]; rfl⟩, HO12, HB12, BK12⟩
            · have hd : decide (ka < 0) = false := decide_eq_false hneg
              cases hf2 : x.f2 with
              | false =>
                have HF2 := Aside0.mk hf2
                have h0 := hfail.out (by rw [HS2.out, hd, hf2]; rfl)
                obtain ⟨rfl, rfl⟩ := h0
                clear hf2
                go_wp2_with (first | ((with_reducible refine gate_dst (N := 7) rfl ?_); refine box_event ?hg (N := 7) ?hd (cs := #[.int .i64 0, .int .i64 0, .bool false]) (t := 73) ?hr ?_; (case hd => rfl); (case hg => rfl); (case hr => first | (go_simp; done) | (go_simp; rfl)); intro gb2 hg2 w8 hbox hb8; have HO8 := Aside0.mk (Kd.R_below HO.out hb8); have HB8 := Aside0.mk (below_step HB2.out hb8); have BK8 := Aside0.mk (blk_below BK.out hb8); have BE8 := Aside0.mk hbox; have GE8 := Aside0.mk (show w.heap.size ≤ gb2 by rw [hg2]; exact HB2.out.size); have ST8 := Aside0.mk (impl_Log_up.stored (.int .i64 x.f0) (.int .i64 x.f1) (.bool x.f2) HO8.out HB8.out BK8.out BE8.out GE8.out); have hcz0 : w8.cell? ⟨gb2, 0, none⟩ = some (.int .i64 0) := (blk_cell BE8.out 0).trans rfl; have hcz1 : w8.cell? ⟨gb2, 1, none⟩ = some (.int .i64 0) := (blk_cell BE8.out 1).trans rfl; have hcz2 : w8.cell? ⟨gb2, 2, none⟩ = some (.bool false) := (blk_cell BE8.out 2).trans rfl; have hfz0 := blk_frozen BE8.out 0; have hfz1 := blk_frozen BE8.out 1; have hfz2 := blk_frozen BE8.out 2; clear hb8 hbox hg2) | (go_at_call 79; (with_reducible refine (impl_within.calls _ _ _ _ _ HW1.out).mono ?_); rintro e w9 ⟨rfl, hd9⟩; have HB9 := Aside0.mk (below_step ST8.out.2.1 hd9.below); have HO9 := Aside0.mk (Kd.R_below ST8.out.1 hd9.below); have BK9 := Aside0.mk (blk_below ST8.out.2.2.1 hd9.below); have BE9 := Aside0.mk (blk_below ST8.out.2.2.2 hd9.below); have hc0 : w9.cell? ⟨gb2, 0, none⟩ = some (.int .i64 x.f0) := (blk_cell BE9.out 0).trans rfl; have hc1 : w9.cell? ⟨gb2, 1, none⟩ = some (.int .i64 x.f1) := (blk_cell BE9.out 1).trans rfl; have hc2 : w9.cell? ⟨gb2, 2, none⟩ = some (.bool x.f2) := (blk_cell BE9.out 2).trans rfl; clear hd9) | (go_at_call 79; (with_reducible refine (impl_within.calls _ _ _ _ _ HW2.out).mono ?_); rintro e w10 ⟨rfl, hd10⟩; have HB10 := Aside0.mk (below_step HB9.out hd10.below); have HO10 := Aside0.mk (Kd.R_below HO9.out hd10.below); have BK10 := Aside0.mk (blk_below BK9.out hd10.below); have BE10 := Aside0.mk (blk_below BE9.out hd10.below); have hd0 : w10.cell? ⟨gb2, 0, none⟩ = some (.int .i64 x.f0) := (blk_cell BE10.out 0).trans rfl; have hd1 : w10.cell? ⟨gb2, 1, none⟩ = some (.int .i64 x.f1) := (blk_cell BE10.out 1).trans rfl; have hd2 : w10.cell? ⟨gb2, 2, none⟩ = some (.bool x.f2) := (blk_cell BE10.out 2).trans rfl; clear hd10) | (go_at_call 117; refine (slices_IndexFunc_int_int.calls Ao co out _ #[.pointer (some ⟨w.heap.size, 0, none⟩), .pointer (some ⟨gb2, 0, none⟩)] eg (fun n => (rd_T73 l0 n).f1 == x.f1) _ (Kd.R_reads' HO10.out).2.2 (Kd.R_reads' HO10.out).2.1 (fun W hW m hm => (impl_Log_up.test _ _ _ c0 l0 x m n W (blk_below BK10.out hW) (blk_below BE10.out hW) (Kd.C_below (Kd.C_below HR0.out HB10.out) hW) (HI.out.2 m hm).1 (by have := (HI.out.2 m hm).2; omega)).mono (fun _ _ h => ⟨h.1, below_then hW hW.size h.2⟩))).mono ?_; rintro e w11 ⟨he11, hb11⟩; rw [HKA.out] at he11; subst he11; have HB11 := Aside0.mk (below_step HB10.out hb11); have HO11 := Aside0.mk (Kd.R_below HO10.out hb11); have BK11 := Aside0.mk (blk_below BK10.out hb11); have BE11 := Aside0.mk (blk_below BE10.out hb11); have he2 : w11.cell? ⟨gb2, 2, none⟩ = some (.bool x.f2) := (blk_cell BE11.out 2).trans rfl; rw [HF2.out] at he2; clear hb11))
                go_ret2
                exact ⟨_, rfl, Kd.R_nil _ _ _ _ _, HB11.out⟩
              | true =>
                have HF2 := Aside0.mk hf2
                clear hf2
                have HDE : Aside0 (slices_Delete_int_int.f out ka (ka + 1) = some (out.eraseIdx ka.toNat)) := ⟨by unfold slices_Delete_int_int.f; rw [if_pos ⟨by omega, by omega, rfl⟩]⟩
                go_wp2_with (first | ((with_reducible refine gate_dst (N := 7) rfl ?_); refine box_event ?hg (N := 7) ?hd (cs := #[.int .i64 0, .int .i64 0, .bool false]) (t := 73) ?hr ?_; (case hd => rfl); (case hg => rfl); (case hr => first | (go_simp; done) | (go_simp; rfl)); intro gb2 hg2 w8 hbox hb8; have HO8 := Aside0.mk (Kd.R_below HO.out hb8); have HB8 := Aside0.mk (below_step HB2.out hb8); have BK8 := Aside0.mk (blk_below BK.out hb8); have BE8 := Aside0.mk hbox; have GE8 := Aside0.mk (show w.heap.size ≤ gb2 by rw [hg2]; exact HB2.out.size); have ST8 := Aside0.mk (impl_Log_up.stored (.int .i64 x.f0) (.int .i64 x.f1) (.bool x.f2) HO8.out HB8.out BK8.out BE8.out GE8.out); have hcz0 : w8.cell? ⟨gb2, 0, none⟩ = some (.int .i64 0) := (blk_cell BE8.out 0).trans rfl; have hcz1 : w8.cell? ⟨gb2, 1, none⟩ = some (.int .i64 0) := (blk_cell BE8.out 1).trans rfl; have hcz2 : w8.cell? ⟨gb2, 2, none⟩ = some (.bool false) := (blk_cell BE8.out 2).trans rfl; have hfz0 := blk_frozen BE8.out 0; have hfz1 := blk_frozen BE8.out 1; have hfz2 := blk_frozen BE8.out 2; clear hb8 hbox hg2) | (go_at_call 79; (with_reducible refine (impl_within.calls _ _ _ _ _ HW1.out).mono ?_); rintro e w9 ⟨rfl, hd9⟩; have HB9 := Aside0.mk (below_step ST8.out.2.1 hd9.below); have HO9 := Aside0.mk (Kd.R_below ST8.out.1 hd9.below); have BK9 := Aside0.mk (blk_below ST8.out.2.2.1 hd9.below); have BE9 := Aside0.mk (blk_below ST8.out.2.2.2 hd9.below); have hc0 : w9.cell? ⟨gb2, 0, none⟩ = some (.int .i64 x.f0) := (blk_cell BE9.out 0).trans rfl; have hc1 : w9.cell? ⟨gb2, 1, none⟩ = some (.int .i64 x.f1) := (blk_cell BE9.out 1).trans rfl; have hc2 : w9.cell? ⟨gb2, 2, none⟩ = some (.bool x.f2) := (blk_cell BE9.out 2).trans rfl; clear hd9) | (go_at_call 79; (with_reducible refine (impl_within.calls _ _ _ _ _ HW2.out).mono ?_); rintro e w10 ⟨rfl, hd10⟩; have HB10 := Aside0.mk (below_step HB9.out hd10.below); have HO10 := Aside0.mk (Kd.R_below HO9.out hd10.below); have BK10 := Aside0.mk (blk_below BK9.out hd10.below); have BE10 := Aside0.mk (blk_below BE9.out hd10.below); have hd0 : w10.cell? ⟨gb2, 0, none⟩ = some (.int .i64 x.f0) := (blk_cell BE10.out 0).trans rfl; have hd1 : w10.cell? ⟨gb2, 1, none⟩ = some (.int .i64 x.f1) := (blk_cell BE10.out 1).trans rfl; have hd2 : w10.cell? ⟨gb2, 2, none⟩ = some (.bool x.f2) := (blk_cell BE10.out 2).trans rfl; clear hd10) | (go_at_call 117; refine (slices_IndexFunc_int_int.calls Ao co out _ #[.pointer (some ⟨w.heap.size, 0, none⟩), .pointer (some ⟨gb2, 0, none⟩)] eg (fun n => (rd_T73 l0 n).f1 == x.f1) _ (Kd.R_reads' HO10.out).2.2 (Kd.R_reads' HO10.out).2.1 (fun W hW m hm => (impl_Log_up.test _ _ _ c0 l0 x m n W (blk_below BK10.out hW) (blk_below BE10.out hW) (Kd.C_below (Kd.C_below HR0.out HB10.out) hW) (HI.out.2 m hm).1 (by have := (HI.out.2 m hm).2; omega)).mono (fun _ _ h => ⟨h.1, below_then hW hW.size h.2⟩))).mono ?_; rintro e w11 ⟨he11, hb11⟩; rw [HKA.out] at he11; subst he11; have HB11 := Aside0.mk (below_step HB10.out hb11); have HO11 := Aside0.mk (Kd.R_below HO10.out hb11); have BK11 := Aside0.mk (blk_below BK10.out hb11); have BE11 := Aside0.mk (blk_below BE10.out hb11); have he2 : w11.cell? ⟨gb2, 2, none⟩ = some (.bool x.f2) := (blk_cell BE11.out 2).trans rfl; rw [HF2.out] at he2; clear hb11) | (go_at_call 119; refine (slices_Delete_int_int.calls (fun k_ => k_ ≠ w.heap.size) _ out ka (ka + 1) _ w _ HB11.out HO11.out HDE.out).mono ?_; rintro e w12 ⟨v12, rfl, ho12, hb12, hk12⟩; have HB12 := Aside0.mk hb12; have HO12 := Aside0.mk (Kd.R_mono ho12 (ok' := fun k_ => k_ ≠ w.heap.size) (fun k hk => hk.elim id (fun h => by have := blk_lt BK11.out; omega))); have BK12 := Aside0.mk (blk_kept BK11.out hk12 (fun h => h rfl)); clear ho12 hb12 hk12))
                go_roundg (n - (kk + 1))
                case measure => omega
                case rel => have := HLn.out; exact ⟨kk + 1, x.f0, out.eraseIdx ka.toNat, by omega, by omega, by rw [show ((kk + 1 : Nat) : Int) = wrap64 ((kk : Int) + 1) from by unfold wrap64; omega], rfl, ⟨by rw [HS2.out, hd, HF2.out]; rfl⟩, HO12, HB12, BK12⟩
      · have hltz : ¬ (kk : Int) < (n : Int) := by omega
        have : kk = n := by omega
        subst this
        have hz2 := (blk_cell BK.out 0).trans rfl
        have hr : out = r1 ∧ decide ((kk : Int) ≤ 60) = r2 := by
          have := HH.out
          rw [HT.out] at this
          simpa using this
        obtain ⟨rfl, rfl⟩ := hr
        go_wp2
        go_region
        rename_i hK
        refine hK _ _ ?_
        clear hK
        go_wp2
        go_ret2
        exact ⟨_, rfl, Kd.R_mono (Kd.R_drew HO.out) (fun _ _ => trivial), below_drew1 HB2.out⟩
  · rw [if_neg hL] at h
    cases h
end Go.Proofs.Ytidkniacmcbgiaa.G
end

section
namespace Go.Proofs.Ytidkniacmcbgiaa.G
open Go.RowKit Go.Proofs.YtidkniacmcbgiaaW.PrintWords Go.Proofs.YtidkniacmcbgiaaW.PrintLast Go.Proofs.YtidkniacmcbgiaaW.PrintMore
attribute [local go_sem] max2_int min2_int max_two min_two max_three min_three max_four min_four
set_option linter.unusedVariables false
set_option linter.unusedSimpArgs false
def impl_ValidLog.f (l0 : List (S73)) : Option (Bool) := (impl_Log_up.f l0).bind fun bt101 => (some bt101.2)
set_option maxHeartbeats 8000000 in
set_option maxRecDepth 100000 in
theorem impl_ValidLog.calls (A0 : Option Addr) (c0 : Nat) (l0 : List (S73)) (r : Bool) (w : World) (hr0 : Kd.C k73 w A0 l0.length l0) (hc0 : l0.length ≤ c0) (h : impl_ValidLog.f l0 = some r) :
  Calls Try.prog 25 #[.slice A0 l0.length c0] w fun e w' => e = .returned (.bool r) ∧ Below w.heap.size w w' := by
 have HR0 := Aside0.mk hr0;have HC0 := Aside0.mk hc0;clear hr0 hc0;have HB := Aside0.mk (Below.refl w.heap.size w);have H : ((impl_Log_up.f l0).bind fun bt101 => (some bt101.2)) = some r := h;clear h;replace H := Option.bind_eq_some_iff.mp H;obtain ⟨⟨t101,t102⟩,A20,H⟩ := H;replace H : (some t102) = some r := H;have A2 := Aside0.mk A20;clear A20;obtain rfl := Option.some.inj H
 go_enter Try.func25,Try.ntmps25
 go_wp2_with (first | ((with_reducible refine gate_callee (f := 75) rfl ?_);refine goesL_ (some 7) rfl rfl Try.func75 (by kernel_rfl) rfl #[.slice A0 l0.length c0] rfl (by (try simp only [List.map_toArray,List.map_cons,List.map_nil]);first | done | rfl | (simp only [List.length_drop,List.length_take];rfl)) ?_;(with_reducible refine (impl_Log_up.calls _ _ l0 t101 t102 _ ?side1 ?side2 A2.out).mono ?_);(case side1 => repeat (first | exact HR0.out | (with_reducible refine Kd.C_alloc ?_ _) | (with_reducible refine Kd.C_drewN ?_ _) | (with_reducible refine Kd.C_drew ?_)));(case side2 => exact HC0.out);rintro e w3 ⟨v103,rfl,ho0,hb⟩;refine ⟨_,rfl,?_⟩;have n0_ := Aside0.mk (Kd.R_lower ho0 (below_size (by repeat (first | (with_reducible first | exact HB.out | apply below_alloc | apply pw_below_drewN | apply below_drew1) | exact HB.out))));have n1_ := Aside0.mk (below_step (by repeat (first | (with_reducible first | exact HB.out | apply below_alloc | apply pw_below_drewN | apply below_drew1) | exact HB.out)) hb);clear HB;have HO104 := n0_;have HB := n1_;clear n0_ n1_;(try clear hb);(try clear hb2);(try clear hk);(try clear hi);(try clear ho0)))
 go_ret
 exact ⟨by first | rfl | (simp [errW_none,errW_some,IntKind.wrap_i64,wrap64];done) | (simp [errW_none,errW_some] <;> rfl) | (simp [*,errW_none,errW_some] <;> rfl),by repeat (first | (with_reducible first | exact HB.out | apply below_alloc | apply pw_below_drewN | apply below_drew1) | exact HB.out)⟩
end Go.Proofs.Ytidkniacmcbgiaa.G
end

section
namespace Go.Proofs.Ytidkniacmcbgiaa.G
open Go.RowKit Go.Proofs.YtidkniacmcbgiaaW.PrintWords Go.Proofs.YtidkniacmcbgiaaW.PrintLast Go.Proofs.YtidkniacmcbgiaaW.PrintMore
attribute [local go_sem] max2_int min2_int max_two min_two max_three min_three max_four min_four
set_option linter.unusedVariables false
set_option linter.unusedSimpArgs false
def impl_allCode_1.f (l0 : List (S73)) : Option (Bool) := (impl_ValidLog.f l0).bind fun t101 => (some (!t101))
set_option maxHeartbeats 8000000 in
set_option maxRecDepth 100000 in
theorem impl_allCode_1.calls (A0 : Option Addr) (c0 : Nat) (l0 : List (S73)) (r : Bool) (w : World) (hr0 : Kd.C k73 w A0 l0.length l0) (hc0 : l0.length ≤ c0) (h : impl_allCode_1.f l0 = some r) :
  Calls Try.prog 123 #[.slice A0 l0.length c0] w fun e w' => e = .returned (.bool r) ∧ Below w.heap.size w w' := by
 have HR0 := Aside0.mk hr0;have HC0 := Aside0.mk hc0;clear hr0 hc0;have HB := Aside0.mk (Below.refl w.heap.size w);have H : ((impl_ValidLog.f l0).bind fun t101 => (some (!t101))) = some r := h;clear h;replace H := Option.bind_eq_some_iff.mp H;obtain ⟨t101,A20,H⟩ := H;replace H : (some (!t101)) = some r := H;have A2 := Aside0.mk A20;clear A20;obtain rfl := Option.some.inj H
 go_enter Try.func123,Try.ntmps123
 go_wp2_with (first | ((with_reducible refine gate_callee (f := 25) rfl ?_);refine goesL_ (some 4) rfl rfl Try.func25 (by kernel_rfl) rfl #[.slice A0 l0.length c0] rfl (by (try simp only [List.map_toArray,List.map_cons,List.map_nil]);first | done | rfl | (simp only [List.length_drop,List.length_take];rfl)) ?_;(with_reducible refine (impl_ValidLog.calls _ _ l0 t101 _ ?side1 ?side2 A2.out).mono ?_);(case side1 => repeat (first | exact HR0.out | (with_reducible refine Kd.C_alloc ?_ _) | (with_reducible refine Kd.C_drewN ?_ _) | (with_reducible refine Kd.C_drew ?_)));(case side2 => exact HC0.out);rintro e w3 ⟨rfl,hb⟩;refine ⟨_,rfl,?_⟩;have n0_ := Aside0.mk (below_step (by repeat (first | (with_reducible first | exact HB.out | apply below_alloc | apply pw_below_drewN | apply below_drew1) | exact HB.out)) hb);clear HB;have HB := n0_;clear n0_;(try clear hb);(try clear hb2);(try clear hk);(try clear hi)))
 go_ret
 exact ⟨by first | rfl | (simp [errW_none,errW_some,IntKind.wrap_i64,wrap64];done) | (simp [errW_none,errW_some] <;> rfl) | (simp [*,errW_none,errW_some] <;> rfl),by repeat (first | (with_reducible first | exact HB.out | apply below_alloc | apply pw_below_drewN | apply below_drew1) | exact HB.out)⟩
end Go.Proofs.Ytidkniacmcbgiaa.G
end

section
namespace Go.Proofs.Ytidkniacmcbgiaa.G
open Go.RowKit Go.Proofs.YtidkniacmcbgiaaW.PrintWords Go.Proofs.YtidkniacmcbgiaaW.PrintLast Go.Proofs.YtidkniacmcbgiaaW.PrintMore
attribute [local go_sem] max2_int min2_int max_two min_two max_three min_three max_four min_four
set_option linter.unusedVariables false
set_option linter.unusedSimpArgs false
set_option maxHeartbeats 2000000 in
theorem slices_IndexFunc_Log_Log.calls (A0 : Option Addr) (c0 : Nat) (l0 : List (List (S73))) (g : Nat) (lb : Array Value) (eg : ∀ args w,(callFunc g args).run Try.prog w = .ok (.enter g args) w) (p : List (S73) → Bool) (w : World)
  (hr0 : Kd.C (Kd.slice 73 k73) w A0 l0.length l0) (hc0 : l0.length ≤ c0)
  (hp : ∀ W,Below w.heap.size w W → ∀ x ∈ l0,∀ (A1 : Option Addr) (c1 : Nat),x.length ≤ c1 → Kd.C k73 W A1 x.length x → Calls Try.prog g (#[.slice A1 x.length c1] ++ lb) W fun e w' => e = .returned (.bool (p x)) ∧ Below w.heap.size w w') :
  Calls Try.prog 126 #[.slice A0 l0.length c0,.func (.func g) #[] lb] w fun e w' => e = .returned (.int .i64 (idxP p l0)) ∧ Below w.heap.size w w' := by
 have hl : l0.length ≤ 9223372036854775807 := hr0.2.1;have HR0 := Aside0.mk hr0;have HP := Aside0.mk hp;clear hr0 hp;generalize hn : l0.length = n at *;have Hn := Aside0.mk hn;clear hn
 go_enter Try.func126,Try.ntmps126
 go_wp2
 go_loopg [5,8] n (fun gg _ s8 wr => ∃ kk : Nat,kk ≤ n ∧ n - kk ≤ gg ∧ s8 = .int .i64 kk ∧ Aside0 (Below w.heap.size w wr) ∧ Aside0 (∀ j x,j < kk → l0[j]? = some x → p x = false))
 case atStart => exact ⟨0,Nat.zero_le _,by omega,rfl,⟨Below.refl _ w⟩,⟨fun j _ hj => absurd hj (Nat.not_lt_zero _)⟩⟩
 case round =>
  obtain ⟨kk,hkk,hg,rfl,BW,AF⟩ := hrel
  by_cases hlt : kk < n
  ·have hltz : (kk : Int) < (n : Int) := by omega
   obtain ⟨ad,A1,c1,e0,hx0,hlc,hC1⟩ := at_L5 HR0.out (kk : Int) (by omega) (by omega);cases e0;simp only [Int.toNat_natCast] at hx0;replace hx0 := (BW.out.cell (World.block_lt_of_cell? w _ hx0)).trans hx0
   have hm : l0[kk]? = some (rd_L5 l0 (kk : Int)) := by
    have h1 : kk < l0.length := by rw [Hn.out];exact hlt
    simp [rd_L5,List.getD_eq_getElem?_getD,List.getElem?_eq_getElem h1]
   have hcall := HP.out wr BW.out (rd_L5 l0 (kk : Int)) (List.mem_of_getElem? hm) A1 c1 hlc (Kd.C_below hC1 BW.out);clear hC1;generalize hy : rd_L5 l0 (kk : Int) = y at *;clear hy;have HM := Aside0.mk hm;clear hm
   cases hq : p y with
   | true =>
    rw [hq] at hcall;have HQ := Aside0.mk hq;clear hq
    go_wp2_with (go_at_fn g;refine hcall.mono ?_;rintro e w' ⟨rfl,hb'⟩)
    go_ret
    refine ⟨?_,hb'⟩;rw [idxP_hit HM.out HQ.out AF.out];rfl
   | false =>
    rw [hq] at hcall;have HQ := Aside0.mk hq;clear hq
    go_wp2_with (go_at_fn g;refine hcall.mono ?_;rintro e w' ⟨rfl,hb'⟩)
    go_roundg (n - (kk + 1))
    case measure => omega
    case rel =>
     refine ⟨kk + 1,by omega,by omega,by go_num,⟨hb'⟩,⟨fun j x hj hx => ?_⟩⟩
     by_cases e : j = kk
     ·subst e;rw [HM.out] at hx;cases hx;exact HQ.out
     ·exact AF.out j x (by omega) hx
  ·have hltz : ¬ (kk : Int) < (n : Int) := by omega
   have : kk = n := by omega
   subst this
   go_wp2
   go_ret
   refine ⟨?_,BW.out⟩
   rw [idxP_miss (fun x hx => by
    obtain ⟨j,hj,rfl⟩ := List.mem_iff_getElem.1 hx
    exact AF.out j _ (by rw [← Hn.out];exact hj) (List.getElem?_eq_getElem hj))]
   rfl
end Go.Proofs.Ytidkniacmcbgiaa.G
end

section
namespace Go.Proofs.Ytidkniacmcbgiaa.G
open Go.RowKit Go.Proofs.YtidkniacmcbgiaaW.PrintWords Go.Proofs.YtidkniacmcbgiaaW.PrintLast Go.Proofs.YtidkniacmcbgiaaW.PrintMore
attribute [local go_sem] max2_int min2_int max_two min_two max_three min_three max_four min_four
set_option linter.unusedVariables false
set_option linter.unusedSimpArgs false
set_option maxHeartbeats 2000000 in
theorem slices_ContainsFunc_Log_Log.calls (A0 : Option Addr) (c0 : Nat) (l0 : List (List (S73))) (g : Nat) (lb : Array Value) (eg : ∀ args w,(callFunc g args).run Try.prog w = .ok (.enter g args) w) (p : List (S73) → Bool) (w : World)
  (hr0 : Kd.C (Kd.slice 73 k73) w A0 l0.length l0) (hc0 : l0.length ≤ c0)
  (hp : ∀ W,Below w.heap.size w W → ∀ x ∈ l0,∀ (A1 : Option Addr) (c1 : Nat),x.length ≤ c1 → Kd.C k73 W A1 x.length x → Calls Try.prog g (#[.slice A1 x.length c1] ++ lb) W fun e w' => e = .returned (.bool (p x)) ∧ Below w.heap.size w w') :
  Calls Try.prog 122 #[.slice A0 l0.length c0,.func (.func g) #[] lb] w fun e w' => e = .returned (.bool (l0.any p)) ∧ Below w.heap.size w w' := by
 have H := Aside0.mk (slices_IndexFunc_Log_Log.calls A0 c0 l0 g lb eg p w hr0 hc0 hp);rw [← idxP_nonneg];clear hp hr0 eg
 go_enter Try.func122,Try.ntmps122
 go_wp2_with (go_at_call 126;refine H.out.mono ?_;rintro e w' ⟨rfl,hb'⟩)
 go_ret
 exact ⟨rfl,hb'⟩
end Go.Proofs.Ytidkniacmcbgiaa.G
end

section
namespace Go.Proofs.Ytidkniacmcbgiaa.G
open Go.RowKit Go.Proofs.YtidkniacmcbgiaaW.PrintWords Go.Proofs.YtidkniacmcbgiaaW.PrintLast Go.Proofs.YtidkniacmcbgiaaW.PrintMore
attribute [local go_sem] max2_int min2_int max_two min_two max_three min_three max_four min_four
set_option linter.unusedVariables false
set_option linter.unusedSimpArgs false
def slices_ContainsFunc_Log_Log__impl_allCode_1.f (l0 : List (List (S73))) : Option (Bool) := anyO (fun x => impl_allCode_1.f x) l0
set_option maxHeartbeats 2000000 in
theorem slices_ContainsFunc_Log_Log__impl_allCode_1.calls (A0 : Option Addr) (c0 : Nat) (l0 : List (List (S73))) (r : Bool) (w : World) (hr0 : Kd.C (Kd.slice 73 k73) w A0 l0.length l0) (hc0 : l0.length ≤ c0) (h : slices_ContainsFunc_Log_Log__impl_allCode_1.f l0 = some r) :
  Calls Try.prog 122 #[.slice A0 l0.length c0,.func (.func 123) #[] #[]] w fun e w' => e = .returned (.bool r) ∧ Below w.heap.size w w' := by
 have eg := enters_of Try.func123 (by kernel_rfl) rfl;obtain ⟨hall,rfl⟩ := anyO_some h;refine slices_ContainsFunc_Log_Log.calls A0 c0 l0 _ #[] eg (fun x => impl_allCode_1.f x == some true) w hr0 hc0 (fun W hW x hx A1_ c1_ hl_ hC_ => ?_);obtain ⟨b,hb⟩ := Option.isSome_iff_exists.1 (hall x hx);rw [show (#[.slice A1_ x.length c1_] ++ #[] : Array Value) = #[.slice A1_ x.length c1_] from rfl]
 refine (impl_allCode_1.calls A1_ c1_ x b W hC_ hl_ hb).mono fun e w' ⟨he,hw⟩ => ⟨he.trans (by rw [hb];cases b <;> rfl),?_⟩
 exact below_then hW hW.size hw
end Go.Proofs.Ytidkniacmcbgiaa.G
end

section
namespace Go.Proofs.Ytidkniacmcbgiaa.G
open Go.RowKit Go.Proofs.YtidkniacmcbgiaaW.PrintWords Go.Proofs.YtidkniacmcbgiaaW.PrintLast Go.Proofs.YtidkniacmcbgiaaW.PrintMore
attribute [local go_sem] max2_int min2_int max_two min_two max_three min_three max_four min_four
set_option linter.unusedVariables false
set_option linter.unusedSimpArgs false
def impl_allCode.f (l0 : List (List (S73))) : Option (Int) := (slices_ContainsFunc_Log_Log__impl_allCode_1.f l0).bind fun t101 => (if t101 = true then (some 1) else ((impl_size_Log.f l0).bind fun t102 => ((impl_within.f t102 1 8).bind fun t103 => ((impl_unless.f t103 2).bind fun t104 => (some t104)))))
set_option maxHeartbeats 8000000 in
set_option maxRecDepth 100000 in
theorem impl_allCode.calls (A0 : Option Addr) (c0 : Nat) (l0 : List (List (S73))) (r : Int) (w : World) (hr0 : Kd.C (Kd.slice 73 k73) w A0 l0.length l0) (hc0 : l0.length ≤ c0) (h : impl_allCode.f l0 = some r) :
  Calls Try.prog 103 #[.slice A0 l0.length c0] w fun e w' => e = .returned (.int .i64 r) ∧ Below w.heap.size w w' := by
 have HR0 := Aside0.mk hr0;have HC0 := Aside0.mk hc0;clear hr0 hc0;have HB := Aside0.mk (Below.refl w.heap.size w);have H : ((slices_ContainsFunc_Log_Log__impl_allCode_1.f l0).bind fun t101 => (if t101 = true then (some 1) else ((impl_size_Log.f l0).bind fun t102 => ((impl_within.f t102 1 8).bind fun t103 => ((impl_unless.f t103 2).bind fun t104 => (some t104)))))) = some r := h;clear h;replace H := Option.bind_eq_some_iff.mp H;obtain ⟨t101,A20,H⟩ := H;replace H : (if t101 = true then (some 1) else ((impl_size_Log.f l0).bind fun t102 => ((impl_within.f t102 1 8).bind fun t103 => ((impl_unless.f t103 2).bind fun t104 => (some t104))))) = some r := H;have A2 := Aside0.mk A20;clear A20
 by_cases c3 : t101 = true
 ·subst c3
  have H1 : (some 1) = some r := by rw [if_pos rfl] at H;exact H
  clear H;have H := H1;clear H1;obtain rfl := Option.some.inj H
  go_enter Try.func103,Try.ntmps103
  go_wp2_with (first | ((with_reducible refine gate_callee (f := 122) rfl ?_);refine goesL_ (some 4) rfl rfl Try.func122 (by kernel_rfl) rfl #[.slice A0 l0.length c0,.func (.func 123) #[] #[]] rfl (by (try simp only [List.map_toArray,List.map_cons,List.map_nil]);first | done | rfl | (simp only [List.length_drop,List.length_take];rfl)) ?_;(with_reducible refine (slices_ContainsFunc_Log_Log__impl_allCode_1.calls _ _ l0 true _ ?side1 ?side2 A2.out).mono ?_);(case side1 => repeat (first | exact HR0.out | (with_reducible refine Kd.C_alloc ?_ _) | (with_reducible refine Kd.C_drewN ?_ _) | (with_reducible refine Kd.C_drew ?_)));(case side2 => exact HC0.out);rintro e w4 ⟨rfl,hb⟩;refine ⟨_,rfl,?_⟩;have n0_ := Aside0.mk (below_step (by repeat (first | (with_reducible first | exact HB.out | apply below_alloc | apply pw_below_drewN | apply below_drew1) | exact HB.out)) hb);clear HB;have HB := n0_;clear n0_;(try clear hb);(try clear hb2);(try clear hk);(try clear hi)))
  go_ret
  exact ⟨by first | rfl | (simp [errW_none,errW_some,IntKind.wrap_i64,wrap64];done) | (simp [errW_none,errW_some] <;> rfl) | (simp [*,errW_none,errW_some] <;> rfl),by repeat (first | (with_reducible first | exact HB.out | apply below_alloc | apply pw_below_drewN | apply below_drew1) | exact HB.out)⟩
 ·replace c3 := Bool.eq_false_iff.mpr c3;subst c3
  have H1 : ((impl_size_Log.f l0).bind fun t102 => ((impl_within.f t102 1 8).bind fun t103 => ((impl_unless.f t103 2).bind fun t104 => (some t104)))) = some r := by rw [if_neg (show ¬ (false = true) by decide)] at H;exact H
  clear H;have H := H1;clear H1;replace H := Option.bind_eq_some_iff.mp H;obtain ⟨t102,A50,H⟩ := H;replace H : ((impl_within.f t102 1 8).bind fun t103 => ((impl_unless.f t103 2).bind fun t104 => (some t104))) = some r := H;have A5 := Aside0.mk A50;clear A50;replace H := Option.bind_eq_some_iff.mp H;obtain ⟨t103,A60,H⟩ := H;replace H : ((impl_unless.f t103 2).bind fun t104 => (some t104)) = some r := H;have A6 := Aside0.mk A60;clear A60;replace H := Option.bind_eq_some_iff.mp H;obtain ⟨t104,A70,H⟩ := H;replace H : (some t104) = some r := H;have A7 := Aside0.mk A70;clear A70;obtain rfl := Option.some.inj H
  go_enter Try.func103,Try.ntmps103
  go_wp2_with (first | ((with_reducible refine gate_callee (f := 122) rfl ?_);refine goesL_ (some 4) rfl rfl Try.func122 (by kernel_rfl) rfl #[.slice A0 l0.length c0,.func (.func 123) #[] #[]] rfl (by (try simp only [List.map_toArray,List.map_cons,List.map_nil]);first | done | rfl | (simp only [List.length_drop,List.length_take];rfl)) ?_;(with_reducible refine (slices_ContainsFunc_Log_Log__impl_allCode_1.calls _ _ l0 false _ ?side1 ?side2 A2.out).mono ?_);(case side1 => repeat (first | exact HR0.out | (with_reducible refine Kd.C_alloc ?_ _) | (with_reducible refine Kd.C_drewN ?_ _) | (with_reducible refine Kd.C_drew ?_)));(case side2 => exact HC0.out);rintro e w8 ⟨rfl,hb⟩;refine ⟨_,rfl,?_⟩;have n0_ := Aside0.mk (below_step (by repeat (first | (with_reducible first | exact HB.out | apply below_alloc | apply pw_below_drewN | apply below_drew1) | exact HB.out)) hb);clear HB;have HB := n0_;clear n0_;(try clear hb);(try clear hb2);(try clear hk);(try clear hi)) | ((with_reducible refine gate_callee (f := 124) rfl ?_);refine goesL_ (some 6) rfl rfl Try.func124 (by kernel_rfl) rfl #[.slice A0 l0.length c0] rfl (by (try simp only [List.map_toArray,List.map_cons,List.map_nil]);first | done | rfl | (simp only [List.length_drop,List.length_take];rfl)) ?_;(with_reducible refine (impl_size_Log.calls _ _ l0 t102 _ ?side1 ?side2 A5.out).mono ?_);(case side1 => repeat (first | exact (Kd.C_below HR0.out HB.out) | (with_reducible refine Kd.C_alloc ?_ _) | (with_reducible refine Kd.C_drewN ?_ _) | (with_reducible refine Kd.C_drew ?_)));(case side2 => exact HC0.out);rintro e w' ⟨rfl,⟨nd,rfl⟩⟩;refine ⟨_,rfl,?_⟩) | ((with_reducible refine gate_callee (f := 79) rfl ?_);refine goesL_ (some 7) rfl rfl Try.func79 (by kernel_rfl) rfl #[.int .i64 t102,.int .i64 1,.int .i64 8] rfl (by (try simp only [List.map_toArray,List.map_cons,List.map_nil]);first | done | rfl | (simp only [List.length_drop,List.length_take];rfl)) ?_;(with_reducible refine (impl_within.calls t102 1 8 t103 _ A6.out).mono ?_);rintro e w' ⟨rfl,⟨nd,rfl⟩⟩;refine ⟨_,rfl,?_⟩) | ((with_reducible refine gate_callee (f := 104) rfl ?_);refine goesL_ (some 8) rfl rfl Try.func104 (by kernel_rfl) rfl #[.bool t103,.int .i64 2] rfl (by (try simp only [List.map_toArray,List.map_cons,List.map_nil]);first | done | rfl | (simp only [List.length_drop,List.length_take];rfl)) ?_;(with_reducible refine (impl_unless.calls t103 2 t104 _ A7.out).mono ?_);rintro e w' ⟨rfl,⟨nd,rfl⟩⟩;refine ⟨_,rfl,?_⟩))
  go_ret
  exact ⟨by first | rfl | (simp [errW_none,errW_some,IntKind.wrap_i64,wrap64];done) | (simp [errW_none,errW_some] <;> rfl) | (simp [*,errW_none,errW_some] <;> rfl),by repeat (first | (with_reducible first | exact HB.out | apply below_alloc | apply pw_below_drewN | apply below_drew1) | exact HB.out)⟩
end Go.Proofs.Ytidkniacmcbgiaa.G
end

section
namespace Go.Proofs.Ytidkniacmcbgiaa.G
open Go.RowKit Go.Proofs.YtidkniacmcbgiaaW.PrintWords Go.Proofs.YtidkniacmcbgiaaW.PrintLast Go.Proofs.YtidkniacmcbgiaaW.PrintMore
attribute [local go_sem] max2_int min2_int max_two min_two max_three min_three max_four min_four
set_option linter.unusedVariables false
set_option linter.unusedSimpArgs false
def impl_firstOf.l0 : Nat → List Int → Int → Int → Option (Int)
 | 0,_,_,_ => none
 | k + 1,x5,x6,x7 => if x7 < x6 then (if 0 ≤ x7 then (if x7 < (x5.length : Int) then (if (rd x5 x7) = 0 then (impl_firstOf.l0 k x5 x6 (wrap64 (x7 + 1))) else (some (rd x5 x7))) else (none)) else (none)) else (some 0)
def impl_firstOf.f (k : Nat) (l0 : List Int) : Option (Int) := impl_firstOf.l0 k l0 (l0.length : Int) 0
set_option maxHeartbeats 8000000 in
set_option maxRecDepth 100000 in
theorem impl_firstOf.calls (k : Nat) (A0 : Option Addr) (c0 : Nat) (l0 : List Int) (r : Int) (w : World) (hr0 : Kd.C (Kd.int .i64) w A0 l0.length l0) (hc0 : l0.length ≤ c0) (h : impl_firstOf.f k l0 = some r) :
  Calls Try.prog 102 #[.slice A0 l0.length c0] w fun e w' => e = .returned (.int .i64 r) ∧ Drawn0 w w' := by
 have HR0 := Aside0.mk hr0;have HC0 := Aside0.mk hc0;clear hr0 hc0;have H : (impl_firstOf.l0 k l0 (l0.length : Int) 0) = some r := h;clear h;have H' := Aside0.mk H;clear H
 go_enter Try.func102,Try.ntmps102
 go_wp2
 go_loopg [7] k (fun kq v7 w' => ∃ (x7_1 : Int),v7 = .int .i64 x7_1 ∧ Aside0 (impl_firstOf.l0 kq l0 (l0.length : Int) x7_1 = some r) ∧ Aside0 (kq ≤ k) ∧ Drawn0 w w')
 case atStart => exact ⟨(0),(by first | rfl | (simp only [IntKind.wrap_i64,wrap64];done) | (simp;done) | (simp [*];done)),H',⟨Nat.le_refl _⟩,by repeat (first | exact Drawn0.refl _ | apply Drawn0.step)⟩
 case round =>
  clear H';(try clear c1);obtain ⟨x7_1,rfl,HA,HK1,⟨m1,rfl⟩⟩ := hrel
  cases gk with
  | zero => exact absurd HA.out (by simp [impl_firstOf.l0])
  | succ k1 =>
   have H := HA.out;clear HA;simp only [impl_firstOf.l0] at H
   by_cases c2 : x7_1 < (l0.length : Int)
   ·rw [if_pos c2] at H;have c2b0 : decide (x7_1 < (l0.length : Int)) = true := decide_eq_true c2;clear c2
    by_cases c3 : 0 ≤ x7_1
    ·rw [if_pos c3] at H;have c3b0 : decide (0 ≤ x7_1) = true := decide_eq_true c3;clear c3
     by_cases c4 : x7_1 < (l0.length : Int)
     ·rw [if_pos c4] at H;have c4b0 : decide (x7_1 < (l0.length : Int)) = true := decide_eq_true c4;clear c4
      by_cases c5 : (rd l0 x7_1) = 0
      ·rw [if_pos c5] at H;have c5b0 : ((rd l0 x7_1) == 0) = true := beq_iff_eq.mpr c5;have c5b1 : ((rd l0 x7_1) != 0) = false := bne_eq_false_iff_eq.mpr c5;clear c5;have H' := Aside0.mk H;clear H;have p101 : 0 ≤ (x7_1 : Int) := of_decide_eq_true (by first | (with_reducible assumption) | assumption);have q101 : x7_1 < (l0.length : Int) := of_decide_eq_true (by first | (with_reducible assumption) | assumption);obtain ⟨ad101,e101,hx101_0⟩ := Kd.at_int HR0.out x7_1 p101 q101;cases e101;replace p101 := eq_true p101;replace q101 := eq_true q101
       go_wp2
       go_roundg k1
       case measure => have := HK1.out;omega
       case rel => exact ⟨(wrap64 (x7_1 + 1)),(by first | rfl | (simp only [IntKind.wrap_i64,wrap64];done) | (simp;done) | (simp [*];done)),H',⟨by have := HK1.out;omega⟩,by repeat (first | exact Drawn0.refl _ | apply Drawn0.step)⟩
      ·rw [if_neg c5] at H;have c5b0 : ((rd l0 x7_1) == 0) = false := beq_eq_false_iff_ne.mpr c5;have c5b1 : ((rd l0 x7_1) != 0) = true := bne_iff_ne.mpr c5;obtain rfl := Option.some.inj H;have p101 : 0 ≤ (x7_1 : Int) := of_decide_eq_true (by first | (with_reducible assumption) | assumption);have q101 : x7_1 < (l0.length : Int) := of_decide_eq_true (by first | (with_reducible assumption) | assumption);obtain ⟨ad101,e101,hx101_0⟩ := Kd.at_int HR0.out x7_1 p101 q101;cases e101;replace p101 := eq_true p101;replace q101 := eq_true q101
       go_wp2
       go_ret
       exact ⟨by first | rfl | (simp only [IntKind.wrap_i64,wrap64];done) | (simp;done) | (simp [*];done),by repeat (first | exact Drawn0.refl _ | apply Drawn0.step)⟩
     ·rw [if_neg c4] at H;exact absurd H (by simp)
    ·rw [if_neg c3] at H;exact absurd H (by simp)
   ·rw [if_neg c2] at H;have c2b0 : decide (x7_1 < (l0.length : Int)) = false := decide_eq_false c2;clear c2;obtain rfl := Option.some.inj H
    go_wp2
    go_ret
    exact ⟨by first | rfl | (simp only [IntKind.wrap_i64,wrap64];done) | (simp;done) | (simp [*];done),by repeat (first | exact Drawn0.refl _ | apply Drawn0.step)⟩
end Go.Proofs.Ytidkniacmcbgiaa.G
end

section
namespace Go.Proofs.Ytidkniacmcbgiaa.G
open Go.RowKit Go.Proofs.YtidkniacmcbgiaaW.PrintWords Go.Proofs.YtidkniacmcbgiaaW.PrintLast Go.Proofs.YtidkniacmcbgiaaW.PrintMore
attribute [local go_sem] max2_int min2_int max_two min_two max_three min_three max_four min_four
set_option linter.unusedVariables false
set_option linter.unusedSimpArgs false
def impl_SpreadOf.l0 : Nat → Int → Int → Int → List (List (S73)) → Int → Int → Option (Int × Int × Int)
 | 0,_,_,_,_,_,_ => none
 | k + 1,x1,x8,x9,x23,x24,x25 => if x25 < x24 then (if 0 ≤ x25 then (if x25 < (x23.length : Int) then ((impl_Log_firstDown.f (rd_L5 x23 x25) x1).bind fun t109 => (if t109 ≥ 0 then (if x8 < 0 then (impl_SpreadOf.l0 k x1 t109 (mx x9 t109) x23 x24 (wrap64 (x25 + 1))) else (if t109 < x8 then (impl_SpreadOf.l0 k x1 t109 (mx x9 t109) x23 x24 (wrap64 (x25 + 1))) else (impl_SpreadOf.l0 k x1 x8 (mx x9 t109) x23 x24 (wrap64 (x25 + 1))))) else (impl_SpreadOf.l0 k x1 x8 (mx x9 t109) x23 x24 (wrap64 (x25 + 1))))) else (none)) else (none)) else (if x9 < 0 then (some (0,0,6)) else (some (x8,x9,0)))
def impl_SpreadOf.f (k : Nat) (l0 : List (List (S73))) (a1 : Int) : Option (Int × Int × Int) := (impl_allCode.f l0).bind fun t101 => ((impl_within.f a1 0 9999).bind fun t102 => ((impl_unless.f t102 2).bind fun t103 => ((impl_firstOf.f k (([t101,t103] : List Int))).bind fun t107 => (if t107 = 0 then (impl_SpreadOf.l0 k a1 (-1) (-1) l0 (l0.length : Int) 0) else (some (0,0,t107))))))
set_option maxHeartbeats 8000000 in
set_option maxRecDepth 100000 in
theorem impl_SpreadOf.calls (k : Nat) (A0 : Option Addr) (c0 : Nat) (l0 : List (List (S73))) (a1 : Int) (r1 : Int) (r2 : Int) (r3 : Int) (w : World) (hr0 : Kd.C (Kd.slice 73 k73) w A0 l0.length l0) (hc0 : l0.length ≤ c0) (h : impl_SpreadOf.f k l0 a1 = some (r1,r2,r3)) :
  Calls Try.prog 54 #[.slice A0 l0.length c0,.int .i64 a1] w fun e w' => e = .returned (.tuple #[.int .i64 r1,.int .i64 r2,.int .i64 r3]) ∧ Below w.heap.size w w' := by
 have HR0 := Aside0.mk hr0;have HC0 := Aside0.mk hc0;clear hr0 hc0;have HB := Aside0.mk (Below.refl w.heap.size w);have H : ((impl_allCode.f l0).bind fun t101 => ((impl_within.f a1 0 9999).bind fun t102 => ((impl_unless.f t102 2).bind fun t103 => ((impl_firstOf.f k (([t101,t103] : List Int))).bind fun t107 => (if t107 = 0 then (impl_SpreadOf.l0 k a1 (-1) (-1) l0 (l0.length : Int) 0) else (some (0,0,t107))))))) = some (r1,r2,r3) := h;clear h;replace H := Option.bind_eq_some_iff.mp H;obtain ⟨t101,A30,H⟩ := H;replace H : ((impl_within.f a1 0 9999).bind fun t102 => ((impl_unless.f t102 2).bind fun t103 => ((impl_firstOf.f k (([t101,t103] : List Int))).bind fun t107 => (if t107 = 0 then (impl_SpreadOf.l0 k a1 (-1) (-1) l0 (l0.length : Int) 0) else (some (0,0,t107)))))) = some (r1,r2,r3) := H;have A3 := Aside0.mk A30;clear A30;replace H := Option.bind_eq_some_iff.mp H;obtain ⟨t102,A40,H⟩ := H;replace H : ((impl_unless.f t102 2).bind fun t103 => ((impl_firstOf.f k (([t101,t103] : List Int))).bind fun t107 => (if t107 = 0 then (impl_SpreadOf.l0 k a1 (-1) (-1) l0 (l0.length : Int) 0) else (some (0,0,t107))))) = some (r1,r2,r3) := H;have A4 := Aside0.mk A40;clear A40;replace H := Option.bind_eq_some_iff.mp H;obtain ⟨t103,A50,H⟩ := H;replace H : ((impl_firstOf.f k (([t101,t103] : List Int))).bind fun t107 => (if t107 = 0 then (impl_SpreadOf.l0 k a1 (-1) (-1) l0 (l0.length : Int) 0) else (some (0,0,t107)))) = some (r1,r2,r3) := H;have A5 := Aside0.mk A50;clear A50;obtain ⟨y104,hy104⟩ : ∃ y_ : List Int,y_ = (([t101,t103] : List Int)) := ⟨_,rfl⟩
 replace H : ((impl_firstOf.f k y104).bind fun t107 => (if t107 = 0 then (impl_SpreadOf.l0 k a1 (-1) (-1) l0 (l0.length : Int) 0) else (some (0,0,t107)))) = some (r1,r2,r3) := by first | (rw [hy104];with_reducible exact H) | (have H2_ := (Option.bind_some _ _).symm.trans H;rw [hy104];with_reducible exact H2_) | (have H2_ := (Option.bind_some _ _).symm.trans H;with_reducible exact H2_) | with_reducible exact H | (rw [hy104];exact H) | exact H
 have Ny104 := Aside0.mk hy104;clear hy104;replace H := Option.bind_eq_some_iff.mp H;obtain ⟨t107,A60,H⟩ := H;replace H : (if t107 = 0 then (impl_SpreadOf.l0 k a1 (-1) (-1) l0 (l0.length : Int) 0) else (some (0,0,t107))) = some (r1,r2,r3) := H;have A6 := Aside0.mk A60;clear A60
 by_cases c7 : t107 = 0
 ·rw [if_pos c7] at H;have c7b0 : (t107 == 0) = true := beq_iff_eq.mpr c7;have c7b1 : (t107 != 0) = false := bne_eq_false_iff_eq.mpr c7;clear c7;have H' := Aside0.mk H;clear H
  go_enter Try.func54,Try.ntmps54
  go_wp2_with (first | ((with_reducible refine gate_callee (f := 103) rfl ?_);refine goesL_ (some 14) rfl rfl Try.func103 (by kernel_rfl) rfl #[.slice A0 l0.length c0] rfl (by (try simp only [List.map_toArray,List.map_cons,List.map_nil]);first | done | rfl | (simp only [List.length_drop,List.length_take];rfl)) ?_;(with_reducible refine (impl_allCode.calls _ _ l0 t101 _ ?side1 ?side2 A3.out).mono ?_);(case side1 => repeat (first | exact HR0.out | (with_reducible refine Kd.C_alloc ?_ _) | (with_reducible refine Kd.C_drewN ?_ _) | (with_reducible refine Kd.C_drew ?_)));(case side2 => exact HC0.out);rintro e w8 ⟨rfl,hb⟩;refine ⟨_,rfl,?_⟩;have n0_ := Aside0.mk (below_step (by repeat (first | (with_reducible first | exact HB.out | apply below_alloc | apply pw_below_drewN | apply below_drew1) | exact HB.out)) hb);clear HB;have HB := n0_;clear n0_;(try clear hb);(try clear hb2);(try clear hk);(try clear hi)) | ((with_reducible refine gate_callee (f := 79) rfl ?_);refine goesL_ (some 16) rfl rfl Try.func79 (by kernel_rfl) rfl #[.int .i64 a1,.int .i64 0,.int .i64 9999] rfl (by (try simp only [List.map_toArray,List.map_cons,List.map_nil]);first | done | rfl | (simp only [List.length_drop,List.length_take];rfl)) ?_;(with_reducible refine (impl_within.calls a1 0 9999 t102 _ A4.out).mono ?_);rintro e w' ⟨rfl,⟨nd,rfl⟩⟩;refine ⟨_,rfl,?_⟩) | ((with_reducible refine gate_callee (f := 104) rfl ?_);refine goesL_ (some 17) rfl rfl Try.func104 (by kernel_rfl) rfl #[.bool t102,.int .i64 2] rfl (by (try simp only [List.map_toArray,List.map_cons,List.map_nil]);first | done | rfl | (simp only [List.length_drop,List.length_take];rfl)) ?_;(with_reducible refine (impl_unless.calls t102 2 t103 _ A5.out).mono ?_);rintro e w' ⟨rfl,⟨nd,rfl⟩⟩;refine ⟨_,rfl,?_⟩) | ((with_reducible refine gate_dst (N := 18) rfl ?_);refine Kd.R_lit (Kd.int .i64) _ 2 ?hg (N := 18) ?hd (xs := ([t101,t103] : List Int)) (inner := [.int .i64 t101,.int .i64 t103]) (ok := fun _ => True) (okp := fun _ => True) ?hr ?hp (fun _ hk => hk) trivial (Below.refl _ _) (Nat.le_refl _) (by simp) ?_;(case hd => rfl);(case hg => rfl);(case hr => first | (go_simp;done) | (go_simp;rfl));(case hp => exact (Reps.one (show Kd.M (Kd.int .i64) _ _ _ t101 [.int .i64 t101] from rfl) (Reps.one (show Kd.M (Kd.int .i64) _ _ _ t103 [.int .i64 t103] from rfl) (Reps.none _ _))));intro v105 w9 ho10 hb hg_ hnew_;clear hg_ hnew_;(first | rw [← Ny104.out] at ho10 | (simp only [Int.reduceToNat] at ho10;rw [← Ny104.out] at ho10));have n0_ := Aside0.mk (Kd.R_lower ho10 (below_size (by repeat (first | (with_reducible first | exact HB.out | apply below_alloc | apply pw_below_drewN | apply below_drew1) | exact HB.out))));have n1_ := Aside0.mk (below_step (by repeat (first | (with_reducible first | exact HB.out | apply below_alloc | apply pw_below_drewN | apply below_drew1) | exact HB.out)) hb);clear HB;have HO106 := n0_;have HB := n1_;clear n0_ n1_;clear hb ho10;obtain ⟨Ao11,co11,eo11⟩ := Kd.R_slice HO106.out;subst eo11) | ((with_reducible refine gate_callee (f := 102) rfl ?_);refine goesL_ (some 19) rfl rfl Try.func102 (by kernel_rfl) rfl #[.slice Ao11 y104.length co11] rfl (by (try simp only [List.map_toArray,List.map_cons,List.map_nil]);first | done | rfl | (simp only [List.length_drop,List.length_take];rfl)) ?_;(with_reducible refine (impl_firstOf.calls k _ _ y104 t107 _ ?side1 ?side2 A6.out).mono ?_);(case side1 => repeat (first | exact (Kd.R_reads' HO106.out).2.2 | (with_reducible refine Kd.C_alloc ?_ _) | (with_reducible refine Kd.C_drewN ?_ _) | (with_reducible refine Kd.C_drew ?_)));(case side2 => exact (Kd.R_reads' HO106.out).2.1);rintro e w' ⟨rfl,⟨nd,rfl⟩⟩;refine ⟨_,rfl,?_⟩))
  go_loopg [8,9,25] k (fun kq v8 v9 v25 w' => ∃ (x8_1 : Int) (x9_1 : Int) (x25_1 : Int),v8 = .int .i64 x8_1 ∧ v9 = .int .i64 x9_1 ∧ v25 = .int .i64 x25_1 ∧ Aside0 (impl_SpreadOf.l0 kq a1 x8_1 x9_1 l0 (l0.length : Int) x25_1 = some (r1,r2,r3)) ∧ Aside0 (kq ≤ k) ∧ Aside0 (Below w.heap.size w w'))
  case atStart => exact ⟨((-1)),((-1)),(0),(by first | rfl | (simp only [IntKind.wrap_i64,wrap64];done) | (simp;done) | (simp [*];done)),(by first | rfl | (simp only [IntKind.wrap_i64,wrap64];done) | (simp;done) | (simp [*];done)),(by first | rfl | (simp only [IntKind.wrap_i64,wrap64];done) | (simp;done) | (simp [*];done)),H',⟨Nat.le_refl _⟩,⟨by repeat (first | (with_reducible first | exact HB.out | apply below_alloc | apply pw_below_drewN | apply below_drew1) | exact HB.out)⟩⟩
  case round =>
   clear H';(try clear c1);(try clear p2);(try clear c5);(try clear c7);(try clear c7b0);(try clear c7b1);(try clear c10);obtain ⟨x8_1,x9_1,x25_1,rfl,rfl,rfl,HA,HK1,HB⟩ := hrel
   cases gk with
   | zero => exact absurd HA.out (by simp [impl_SpreadOf.l0])
   | succ k1 =>
    have H := HA.out;clear HA;simp only [impl_SpreadOf.l0] at H
    by_cases c12 : x25_1 < (l0.length : Int)
    ·rw [if_pos c12] at H;have c12b0 : decide (x25_1 < (l0.length : Int)) = true := decide_eq_true c12;clear c12
     by_cases c13 : 0 ≤ x25_1
     ·rw [if_pos c13] at H;have c13b0 : decide (0 ≤ x25_1) = true := decide_eq_true c13;clear c13
      by_cases c14 : x25_1 < (l0.length : Int)
      ·rw [if_pos c14] at H;have c14b0 : decide (x25_1 < (l0.length : Int)) = true := decide_eq_true c14;clear c14;replace H := Option.bind_eq_some_iff.mp H;obtain ⟨t109,A150,H⟩ := H;replace H : (if t109 ≥ 0 then (if x8_1 < 0 then (impl_SpreadOf.l0 k1 a1 t109 (mx x9_1 t109) l0 (l0.length : Int) (wrap64 (x25_1 + 1))) else (if t109 < x8_1 then (impl_SpreadOf.l0 k1 a1 t109 (mx x9_1 t109) l0 (l0.length : Int) (wrap64 (x25_1 + 1))) else (impl_SpreadOf.l0 k1 a1 x8_1 (mx x9_1 t109) l0 (l0.length : Int) (wrap64 (x25_1 + 1))))) else (impl_SpreadOf.l0 k1 a1 x8_1 (mx x9_1 t109) l0 (l0.length : Int) (wrap64 (x25_1 + 1)))) = some (r1,r2,r3) := H;have A15 := Aside0.mk A150;clear A150
       by_cases c16 : t109 ≥ 0
       ·rw [if_pos c16] at H;have c16b0 : decide (0 ≤ t109) = true := decide_eq_true c16;clear c16
        by_cases c17 : x8_1 < 0
        ·rw [if_pos c17] at H;have c17b0 : decide (x8_1 < 0) = true := decide_eq_true c17;clear c17;obtain ⟨ji18,hji18⟩ : ∃ j_ : Int,(mx x9_1 t109) = j_ := ⟨_,rfl⟩
         replace H : (impl_SpreadOf.l0 k1 a1 t109 ji18 l0 (l0.length : Int) (wrap64 (x25_1 + 1))) = some (r1,r2,r3) := by first | (rw [hji18] at H;exact H) | (simp only [hji18] at H ⊢;exact H)
         (try rw [hji18] at A15);have hji18_ : (if x9_1 < t109 then t109 else x9_1) = ji18 := hji18;have H' := Aside0.mk H;clear H;have p108 : 0 ≤ (x25_1 : Int) := of_decide_eq_true (by first | (with_reducible assumption) | assumption);have q108 : x25_1 < (l0.length : Int) := of_decide_eq_true (by first | (with_reducible assumption) | assumption);obtain ⟨ad108,A108_0,c108_0,e108,hx108_0,hl108_0,hi108_0⟩ := at_L5 HR0.out x25_1 p108 q108;cases e108;replace hx108_0 := (HB.out.cell (World.block_lt_of_cell? w _ hx108_0)).trans hx108_0;have HR108_0 := Aside0.mk hi108_0;have HC108_0 := Aside0.mk hl108_0;clear hi108_0 hl108_0;replace p108 := eq_true p108;replace q108 := eq_true q108
         go_wp2_with (first | ((with_reducible refine gate_callee (f := 105) rfl ?_);refine goesL_ (some 31) rfl rfl Try.func105 (by kernel_rfl) rfl #[.slice A108_0 (rd_L5 l0 x25_1).length c108_0,.int .i64 a1] rfl (by (try simp only [List.map_toArray,List.map_cons,List.map_nil]);first | done | rfl | (simp only [List.length_drop,List.length_take];rfl)) ?_;(with_reducible refine (impl_Log_firstDown.calls _ _ (rd_L5 l0 x25_1) a1 t109 _ ?side1 ?side2 A15.out).mono ?_);(case side1 => repeat (first | exact (Kd.C_below HR108_0.out HB.out) | (with_reducible refine Kd.C_alloc ?_ _) | (with_reducible refine Kd.C_drewN ?_ _) | (with_reducible refine Kd.C_drew ?_)));(case side2 => exact HC108_0.out);rintro e w19 ⟨rfl,hb⟩;refine ⟨_,rfl,?_⟩;have n0_ := Aside0.mk (below_step (by repeat (first | (with_reducible first | exact HB.out | apply below_alloc | apply pw_below_drewN | apply below_drew1) | exact HB.out)) hb);clear HB;have HB := n0_;clear n0_;(try clear hb);(try clear hb2);(try clear hk);(try clear hi)))
         go_roundg k1
         case measure => have := HK1.out;omega
         case rel => exact ⟨(t109),(ji18),(wrap64 (x25_1 + 1)),(by first | rfl | (simp only [IntKind.wrap_i64,wrap64];done) | (simp;done) | (simp [*];done)),(by first | rfl | (simp only [IntKind.wrap_i64,wrap64];done) | (simp;done) | (simp only [← hji18] <;> (first | rfl | simp)) | (simp [*];done)),(by first | rfl | (simp only [IntKind.wrap_i64,wrap64];done) | (simp;done) | (simp [*];done)),H',⟨by have := HK1.out;omega⟩,⟨by repeat (first | (with_reducible first | exact HB.out | apply below_alloc | apply pw_below_drewN | apply below_drew1) | exact HB.out)⟩⟩
        ·rw [if_neg c17] at H;have c17b0 : decide (x8_1 < 0) = false := decide_eq_false c17;clear c17
         by_cases c20 : t109 < x8_1
         ·rw [if_pos c20] at H;have c20b0 : decide (t109 < x8_1) = true := decide_eq_true c20;clear c20;obtain ⟨ji21,hji21⟩ : ∃ j_ : Int,(mx x9_1 t109) = j_ := ⟨_,rfl⟩
          replace H : (impl_SpreadOf.l0 k1 a1 t109 ji21 l0 (l0.length : Int) (wrap64 (x25_1 + 1))) = some (r1,r2,r3) := by first | (rw [hji21] at H;exact H) | (simp only [hji21] at H ⊢;exact H)
          (try rw [hji21] at A15);have hji21_ : (if x9_1 < t109 then t109 else x9_1) = ji21 := hji21;have H' := Aside0.mk H;clear H;have p108 : 0 ≤ (x25_1 : Int) := of_decide_eq_true (by first | (with_reducible assumption) | assumption);have q108 : x25_1 < (l0.length : Int) := of_decide_eq_true (by first | (with_reducible assumption) | assumption);obtain ⟨ad108,A108_0,c108_0,e108,hx108_0,hl108_0,hi108_0⟩ := at_L5 HR0.out x25_1 p108 q108;cases e108;replace hx108_0 := (HB.out.cell (World.block_lt_of_cell? w _ hx108_0)).trans hx108_0;have HR108_0 := Aside0.mk hi108_0;have HC108_0 := Aside0.mk hl108_0;clear hi108_0 hl108_0;replace p108 := eq_true p108;replace q108 := eq_true q108
          go_wp2_with (first | ((with_reducible refine gate_callee (f := 105) rfl ?_);refine goesL_ (some 31) rfl rfl Try.func105 (by kernel_rfl) rfl #[.slice A108_0 (rd_L5 l0 x25_1).length c108_0,.int .i64 a1] rfl (by (try simp only [List.map_toArray,List.map_cons,List.map_nil]);first | done | rfl | (simp only [List.length_drop,List.length_take];rfl)) ?_;(with_reducible refine (impl_Log_firstDown.calls _ _ (rd_L5 l0 x25_1) a1 t109 _ ?side1 ?side2 A15.out).mono ?_);(case side1 => repeat (first | exact (Kd.C_below HR108_0.out HB.out) | (with_reducible refine Kd.C_alloc ?_ _) | (with_reducible refine Kd.C_drewN ?_ _) | (with_reducible refine Kd.C_drew ?_)));(case side2 => exact HC108_0.out);rintro e w22 ⟨rfl,hb⟩;refine ⟨_,rfl,?_⟩;have n0_ := Aside0.mk (below_step (by repeat (first | (with_reducible first | exact HB.out | apply below_alloc | apply pw_below_drewN | apply below_drew1) | exact HB.out)) hb);clear HB;have HB := n0_;clear n0_;(try clear hb);(try clear hb2);(try clear hk);(try clear hi)))
          go_roundg k1
          case measure => have := HK1.out;omega
          case rel => exact ⟨(t109),(ji21),(wrap64 (x25_1 + 1)),(by first | rfl | (simp only [IntKind.wrap_i64,wrap64];done) | (simp;done) | (simp [*];done)),(by first | rfl | (simp only [IntKind.wrap_i64,wrap64];done) | (simp;done) | (simp only [← hji21] <;> (first | rfl | simp)) | (simp [*];done)),(by first | rfl | (simp only [IntKind.wrap_i64,wrap64];done) | (simp;done) | (simp [*];done)),H',⟨by have := HK1.out;omega⟩,⟨by repeat (first | (with_reducible first | exact HB.out | apply below_alloc | apply pw_below_drewN | apply below_drew1) | exact HB.out)⟩⟩
         ·rw [if_neg c20] at H;have c20b0 : decide (t109 < x8_1) = false := decide_eq_false c20;clear c20;obtain ⟨ji23,hji23⟩ : ∃ j_ : Int,(mx x9_1 t109) = j_ := ⟨_,rfl⟩
          replace H : (impl_SpreadOf.l0 k1 a1 x8_1 ji23 l0 (l0.length : Int) (wrap64 (x25_1 + 1))) = some (r1,r2,r3) := by first | (rw [hji23] at H;exact H) | (simp only [hji23] at H ⊢;exact H)
          (try rw [hji23] at A15);have hji23_ : (if x9_1 < t109 then t109 else x9_1) = ji23 := hji23;have H' := Aside0.mk H;clear H;have p108 : 0 ≤ (x25_1 : Int) := of_decide_eq_true (by first | (with_reducible assumption) | assumption);have q108 : x25_1 < (l0.length : Int) := of_decide_eq_true (by first | (with_reducible assumption) | assumption);obtain ⟨ad108,A108_0,c108_0,e108,hx108_0,hl108_0,hi108_0⟩ := at_L5 HR0.out x25_1 p108 q108;cases e108;replace hx108_0 := (HB.out.cell (World.block_lt_of_cell? w _ hx108_0)).trans hx108_0;have HR108_0 := Aside0.mk hi108_0;have HC108_0 := Aside0.mk hl108_0;clear hi108_0 hl108_0;replace p108 := eq_true p108;replace q108 := eq_true q108
          go_wp2_with (first | ((with_reducible refine gate_callee (f := 105) rfl ?_);refine goesL_ (some 31) rfl rfl Try.func105 (by kernel_rfl) rfl #[.slice A108_0 (rd_L5 l0 x25_1).length c108_0,.int .i64 a1] rfl (by (try simp only [List.map_toArray,List.map_cons,List.map_nil]);first | done | rfl | (simp only [List.length_drop,List.length_take];rfl)) ?_;(with_reducible refine (impl_Log_firstDown.calls _ _ (rd_L5 l0 x25_1) a1 t109 _ ?side1 ?side2 A15.out).mono ?_);(case side1 => repeat (first | exact (Kd.C_below HR108_0.out HB.out) | (with_reducible refine Kd.C_alloc ?_ _) | (with_reducible refine Kd.C_drewN ?_ _) | (with_reducible refine Kd.C_drew ?_)));(case side2 => exact HC108_0.out);rintro e w24 ⟨rfl,hb⟩;refine ⟨_,rfl,?_⟩;have n0_ := Aside0.mk (below_step (by repeat (first | (with_reducible first | exact HB.out | apply below_alloc | apply pw_below_drewN | apply below_drew1) | exact HB.out)) hb);clear HB;have HB := n0_;clear n0_;(try clear hb);(try clear hb2);(try clear hk);(try clear hi)))
          go_roundg k1
          case measure => have := HK1.out;omega
          case rel => exact ⟨(x8_1),(ji23),(wrap64 (x25_1 + 1)),(by first | rfl | (simp only [IntKind.wrap_i64,wrap64];done) | (simp;done) | (simp [*];done)),(by first | rfl | (simp only [IntKind.wrap_i64,wrap64];done) | (simp;done) | (simp only [← hji23] <;> (first | rfl | simp)) | (simp [*];done)),(by first | rfl | (simp only [IntKind.wrap_i64,wrap64];done) | (simp;done) | (simp [*];done)),H',⟨by have := HK1.out;omega⟩,⟨by repeat (first | (with_reducible first | exact HB.out | apply below_alloc | apply pw_below_drewN | apply below_drew1) | exact HB.out)⟩⟩
       ·rw [if_neg c16] at H;have c16b0 : decide (0 ≤ t109) = false := decide_eq_false c16;clear c16;obtain ⟨ji25,hji25⟩ : ∃ j_ : Int,(mx x9_1 t109) = j_ := ⟨_,rfl⟩
        replace H : (impl_SpreadOf.l0 k1 a1 x8_1 ji25 l0 (l0.length : Int) (wrap64 (x25_1 + 1))) = some (r1,r2,r3) := by first | (rw [hji25] at H;exact H) | (simp only [hji25] at H ⊢;exact H)
        (try rw [hji25] at A15);have hji25_ : (if x9_1 < t109 then t109 else x9_1) = ji25 := hji25;have H' := Aside0.mk H;clear H;have p108 : 0 ≤ (x25_1 : Int) := of_decide_eq_true (by first | (with_reducible assumption) | assumption);have q108 : x25_1 < (l0.length : Int) := of_decide_eq_true (by first | (with_reducible assumption) | assumption);obtain ⟨ad108,A108_0,c108_0,e108,hx108_0,hl108_0,hi108_0⟩ := at_L5 HR0.out x25_1 p108 q108;cases e108;replace hx108_0 := (HB.out.cell (World.block_lt_of_cell? w _ hx108_0)).trans hx108_0;have HR108_0 := Aside0.mk hi108_0;have HC108_0 := Aside0.mk hl108_0;clear hi108_0 hl108_0;replace p108 := eq_true p108;replace q108 := eq_true q108
        go_wp2_with (first | ((with_reducible refine gate_callee (f := 105) rfl ?_);refine goesL_ (some 31) rfl rfl Try.func105 (by kernel_rfl) rfl #[.slice A108_0 (rd_L5 l0 x25_1).length c108_0,.int .i64 a1] rfl (by (try simp only [List.map_toArray,List.map_cons,List.map_nil]);first | done | rfl | (simp only [List.length_drop,List.length_take];rfl)) ?_;(with_reducible refine (impl_Log_firstDown.calls _ _ (rd_L5 l0 x25_1) a1 t109 _ ?side1 ?side2 A15.out).mono ?_);(case side1 => repeat (first | exact (Kd.C_below HR108_0.out HB.out) | (with_reducible refine Kd.C_alloc ?_ _) | (with_reducible refine Kd.C_drewN ?_ _) | (with_reducible refine Kd.C_drew ?_)));(case side2 => exact HC108_0.out);rintro e w26 ⟨rfl,hb⟩;refine ⟨_,rfl,?_⟩;have n0_ := Aside0.mk (below_step (by repeat (first | (with_reducible first | exact HB.out | apply below_alloc | apply pw_below_drewN | apply below_drew1) | exact HB.out)) hb);clear HB;have HB := n0_;clear n0_;(try clear hb);(try clear hb2);(try clear hk);(try clear hi)))
        go_roundg k1
        case measure => have := HK1.out;omega
        case rel => exact ⟨(x8_1),(ji25),(wrap64 (x25_1 + 1)),(by first | rfl | (simp only [IntKind.wrap_i64,wrap64];done) | (simp;done) | (simp [*];done)),(by first | rfl | (simp only [IntKind.wrap_i64,wrap64];done) | (simp;done) | (simp only [← hji25] <;> (first | rfl | simp)) | (simp [*];done)),(by first | rfl | (simp only [IntKind.wrap_i64,wrap64];done) | (simp;done) | (simp [*];done)),H',⟨by have := HK1.out;omega⟩,⟨by repeat (first | (with_reducible first | exact HB.out | apply below_alloc | apply pw_below_drewN | apply below_drew1) | exact HB.out)⟩⟩
      ·rw [if_neg c14] at H;exact absurd H (by simp)
     ·rw [if_neg c13] at H;exact absurd H (by simp)
    ·rw [if_neg c12] at H;have c12b0 : decide (x25_1 < (l0.length : Int)) = false := decide_eq_false c12;clear c12
     by_cases c27 : x9_1 < 0
     ·rw [if_pos c27] at H;have c27b0 : decide (x9_1 < 0) = true := decide_eq_true c27;clear c27;simp only [Option.some.injEq,Prod.mk.injEq] at H;obtain ⟨rfl,rfl,rfl⟩ := H
      go_wp2
      go_ret3
      exact ⟨by first | rfl | (simp [errW_none,errW_some,IntKind.wrap_i64,wrap64];done) | (simp [errW_none,errW_some] <;> rfl) | (simp [*,errW_none,errW_some] <;> rfl),by repeat (first | (with_reducible first | exact HB.out | apply below_alloc | apply pw_below_drewN | apply below_drew1) | exact HB.out)⟩
     ·rw [if_neg c27] at H;have c27b0 : decide (x9_1 < 0) = false := decide_eq_false c27;clear c27;simp only [Option.some.injEq,Prod.mk.injEq] at H;obtain ⟨rfl,rfl,rfl⟩ := H
      go_wp2
      go_ret3
      exact ⟨by first | rfl | (simp [errW_none,errW_some,IntKind.wrap_i64,wrap64];done) | (simp [errW_none,errW_some] <;> rfl) | (simp [*,errW_none,errW_some] <;> rfl),by repeat (first | (with_reducible first | exact HB.out | apply below_alloc | apply pw_below_drewN | apply below_drew1) | exact HB.out)⟩
 ·rw [if_neg c7] at H;have c7b0 : (t107 == 0) = false := beq_eq_false_iff_ne.mpr c7;have c7b1 : (t107 != 0) = true := bne_iff_ne.mpr c7;simp only [Option.some.injEq,Prod.mk.injEq] at H;obtain ⟨rfl,rfl,rfl⟩ := H
  go_enter Try.func54,Try.ntmps54
  go_wp2_with (first | ((with_reducible refine gate_callee (f := 103) rfl ?_);refine goesL_ (some 14) rfl rfl Try.func103 (by kernel_rfl) rfl #[.slice A0 l0.length c0] rfl (by (try simp only [List.map_toArray,List.map_cons,List.map_nil]);first | done | rfl | (simp only [List.length_drop,List.length_take];rfl)) ?_;(with_reducible refine (impl_allCode.calls _ _ l0 t101 _ ?side1 ?side2 A3.out).mono ?_);(case side1 => repeat (first | exact HR0.out | (with_reducible refine Kd.C_alloc ?_ _) | (with_reducible refine Kd.C_drewN ?_ _) | (with_reducible refine Kd.C_drew ?_)));(case side2 => exact HC0.out);rintro e w28 ⟨rfl,hb⟩;refine ⟨_,rfl,?_⟩;have n0_ := Aside0.mk (below_step (by repeat (first | (with_reducible first | exact HB.out | apply below_alloc | apply pw_below_drewN | apply below_drew1) | exact HB.out)) hb);clear HB;have HB := n0_;clear n0_;(try clear hb);(try clear hb2);(try clear hk);(try clear hi)) | ((with_reducible refine gate_callee (f := 79) rfl ?_);refine goesL_ (some 16) rfl rfl Try.func79 (by kernel_rfl) rfl #[.int .i64 a1,.int .i64 0,.int .i64 9999] rfl (by (try simp only [List.map_toArray,List.map_cons,List.map_nil]);first | done | rfl | (simp only [List.length_drop,List.length_take];rfl)) ?_;(with_reducible refine (impl_within.calls a1 0 9999 t102 _ A4.out).mono ?_);rintro e w' ⟨rfl,⟨nd,rfl⟩⟩;refine ⟨_,rfl,?_⟩) | ((with_reducible refine gate_callee (f := 104) rfl ?_);refine goesL_ (some 17) rfl rfl Try.func104 (by kernel_rfl) rfl #[.bool t102,.int .i64 2] rfl (by (try simp only [List.map_toArray,List.map_cons,List.map_nil]);first | done | rfl | (simp only [List.length_drop,List.length_take];rfl)) ?_;(with_reducible refine (impl_unless.calls t102 2 t103 _ A5.out).mono ?_);rintro e w' ⟨rfl,⟨nd,rfl⟩⟩;refine ⟨_,rfl,?_⟩) | ((with_reducible refine gate_dst (N := 18) rfl ?_);refine Kd.R_lit (Kd.int .i64) _ 2 ?hg (N := 18) ?hd (xs := ([t101,t103] : List Int)) (inner := [.int .i64 t101,.int .i64 t103]) (ok := fun _ => True) (okp := fun _ => True) ?hr ?hp (fun _ hk => hk) trivial (Below.refl _ _) (Nat.le_refl _) (by simp) ?_;(case hd => rfl);(case hg => rfl);(case hr => first | (go_simp;done) | (go_simp;rfl));(case hp => exact (Reps.one (show Kd.M (Kd.int .i64) _ _ _ t101 [.int .i64 t101] from rfl) (Reps.one (show Kd.M (Kd.int .i64) _ _ _ t103 [.int .i64 t103] from rfl) (Reps.none _ _))));intro v105 w29 ho30 hb hg_ hnew_;clear hg_ hnew_;(first | rw [← Ny104.out] at ho30 | (simp only [Int.reduceToNat] at ho30;rw [← Ny104.out] at ho30));have n0_ := Aside0.mk (Kd.R_lower ho30 (below_size (by repeat (first | (with_reducible first | exact HB.out | apply below_alloc | apply pw_below_drewN | apply below_drew1) | exact HB.out))));have n1_ := Aside0.mk (below_step (by repeat (first | (with_reducible first | exact HB.out | apply below_alloc | apply pw_below_drewN | apply below_drew1) | exact HB.out)) hb);clear HB;have HO106 := n0_;have HB := n1_;clear n0_ n1_;clear hb ho30;obtain ⟨Ao31,co31,eo31⟩ := Kd.R_slice HO106.out;subst eo31) | ((with_reducible refine gate_callee (f := 102) rfl ?_);refine goesL_ (some 19) rfl rfl Try.func102 (by kernel_rfl) rfl #[.slice Ao31 y104.length co31] rfl (by (try simp only [List.map_toArray,List.map_cons,List.map_nil]);first | done | rfl | (simp only [List.length_drop,List.length_take];rfl)) ?_;(with_reducible refine (impl_firstOf.calls k _ _ y104 t107 _ ?side1 ?side2 A6.out).mono ?_);(case side1 => repeat (first | exact (Kd.R_reads' HO106.out).2.2 | (with_reducible refine Kd.C_alloc ?_ _) | (with_reducible refine Kd.C_drewN ?_ _) | (with_reducible refine Kd.C_drew ?_)));(case side2 => exact (Kd.R_reads' HO106.out).2.1);rintro e w' ⟨rfl,⟨nd,rfl⟩⟩;refine ⟨_,rfl,?_⟩))
  go_ret3
  exact ⟨by first | rfl | (simp [errW_none,errW_some,IntKind.wrap_i64,wrap64];done) | (simp [errW_none,errW_some] <;> rfl) | (simp [*,errW_none,errW_some] <;> rfl),by repeat (first | (with_reducible first | exact HB.out | apply below_alloc | apply pw_below_drewN | apply below_drew1) | exact HB.out)⟩
end Go.Proofs.Ytidkniacmcbgiaa.G
end

section
namespace Go.Proofs.Ytidkniacmcbgiaa.G
open Go.RowKit Go.Proofs.YtidkniacmcbgiaaW.PrintWords Go.Proofs.YtidkniacmcbgiaaW.PrintLast Go.Proofs.YtidkniacmcbgiaaW.PrintMore
attribute [local go_sem] max2_int min2_int max_two min_two max_three min_three max_four min_four
set_option linter.unusedVariables false
set_option linter.unusedSimpArgs false
mutual
def impl_LateShips.j0 : Nat → List (List (S73)) → Int → Int → Int → Int → Bool → Option (List Int × Int)
 | 0,_,_,_,_,_,_ => none
 | k + 1,x0,x1,x2,x8,x10,x27 => if x27 = true then ((impl_within.f x2 0 100000).bind fun t104 => ((impl_unless.f t104 2).bind fun t105 => ((impl_firstOf.f k (([t105,x10] : List Int))).bind fun t109 => (impl_LateShips.j1 k x0 x1 x2 x8 t109)))) else (impl_LateShips.j1 k x0 x1 x2 x8 x10)
def impl_LateShips.j1 : Nat → List (List (S73)) → Int → Int → Int → Int → Option (List Int × Int)
 | 0,_,_,_,_,_ => none
 | k + 1,x0,x1,x2,x8,x10 => if x10 = 0 then (impl_LateShips.l0 k x1 x2 x8 (([] : List Int)) x0 (x0.length : Int) 0) else (some (([] : List Int),x10))
def impl_LateShips.l0 : Nat → Int → Int → Int → List Int → List (List (S73)) → Int → Int → Option (List Int × Int)
 | 0,_,_,_,_,_,_,_ => none
 | k + 1,x1,x2,x8,x11,x38,x39,x40 => if x40 < x39 then (if 0 ≤ x40 then (if x40 < (x38.length : Int) then ((impl_Log_firstDown.f (rd_L5 x38 x40) x1).bind fun t114 => (if t114 < 0 then (if x11.length < 17592186044416 then (impl_LateShips.l0 k x1 x2 x8 (x11 ++ [x40]) x38 x39 (wrap64 (x40 + 1))) else (none)) else (if t114 > (wrap64 (x8 + x2)) then (if x11.length < 17592186044416 then (impl_LateShips.l0 k x1 x2 x8 (x11 ++ [x40]) x38 x39 (wrap64 (x40 + 1))) else (none)) else (impl_LateShips.l0 k x1 x2 x8 x11 x38 x39 (wrap64 (x40 + 1)))))) else (none)) else (none)) else (some (x11,0))
end
def impl_LateShips.f (k : Nat) (l0 : List (List (S73))) (a1 : Int) (a2 : Int) : Option (List Int × Int) := (impl_SpreadOf.f k l0 a1).bind fun bt101 => (if bt101.2.2 = 0 then (impl_LateShips.j0 k l0 a1 a2 bt101.1 bt101.2.2 true) else (impl_LateShips.j0 k l0 a1 a2 bt101.1 bt101.2.2 (bt101.2.2 == 6)))
set_option maxHeartbeats 8000000 in
set_option maxRecDepth 100000 in
theorem impl_LateShips.calls (k : Nat) (A0 : Option Addr) (c0 : Nat) (l0 : List (List (S73))) (a1 : Int) (a2 : Int) (r1 : List Int) (r2 : Int) (w : World) (hr0 : Kd.C (Kd.slice 73 k73) w A0 l0.length l0) (hc0 : l0.length ≤ c0) (h : impl_LateShips.f k l0 a1 a2 = some (r1,r2)) :
  Calls Try.prog 69 #[.slice A0 l0.length c0,.int .i64 a1,.int .i64 a2] w fun e w' => ∃ v0_ : Value,e = .returned (.tuple #[v0_,.int .i64 r2]) ∧ Kd.R (Kd.int .i64) 2 w' w.heap.size (fun _ => True) v0_ r1 ∧ Below w.heap.size w w' := by
 have HR0 := Aside0.mk hr0;have HC0 := Aside0.mk hc0;clear hr0 hc0;have HB := Aside0.mk (Below.refl w.heap.size w);have H : ((impl_SpreadOf.f k l0 a1).bind fun bt101 => (if bt101.2.2 = 0 then (impl_LateShips.j0 k l0 a1 a2 bt101.1 bt101.2.2 true) else (impl_LateShips.j0 k l0 a1 a2 bt101.1 bt101.2.2 (bt101.2.2 == 6)))) = some (r1,r2) := h;clear h;replace H := Option.bind_eq_some_iff.mp H;obtain ⟨⟨t101,t102,t103⟩,A40,H⟩ := H;replace H : (if t103 = 0 then (impl_LateShips.j0 k l0 a1 a2 t101 t103 true) else (impl_LateShips.j0 k l0 a1 a2 t101 t103 (t103 == 6))) = some (r1,r2) := H;have A4 := Aside0.mk A40;clear A40;have HC5 := Aside0.mk H;clear H
 go_enter Try.func69,Try.ntmps69
 go_upto_region 2 with (first | ((with_reducible refine gate_callee (f := 54) rfl ?_);refine goesL_ (some 18) rfl rfl Try.func54 (by kernel_rfl) rfl #[.slice A0 l0.length c0,.int .i64 a1] rfl (by (try simp only [List.map_toArray,List.map_cons,List.map_nil]);first | done | rfl | (simp only [List.length_drop,List.length_take];rfl)) ?_;(with_reducible refine (impl_SpreadOf.calls k _ _ l0 a1 t101 t102 t103 _ ?side1 ?side2 A4.out).mono ?_);(case side1 => repeat (first | exact HR0.out | (with_reducible refine Kd.C_alloc ?_ _) | (with_reducible refine Kd.C_drewN ?_ _) | (with_reducible refine Kd.C_drew ?_)));(case side2 => exact HC0.out);rintro e w6 ⟨rfl,hb⟩;refine ⟨_,rfl,?_⟩;have n0_ := Aside0.mk (below_step (by repeat (first | (with_reducible first | exact HB.out | apply below_alloc | apply pw_below_drewN | apply below_drew1) | exact HB.out)) hb);clear HB;have HB := n0_;clear n0_;(try clear hb);(try clear hb2);(try clear hk);(try clear hi)))
 (try simp only [Act.put,List.setIfInBounds_toArray,List.set_cons_zero,List.set_cons_succ])
 go_cut [27] (fun v27 wc => ∃ (kq : Nat) (x27_4 : Bool),v27 = .bool x27_4 ∧ Aside0 (impl_LateShips.j0 kq l0 a1 a2 t101 t103 x27_4 = some (r1,r2)) ∧ Aside0 (kq ≤ k) ∧ Aside0 (Below w.heap.size w wc))
 case first =>
  have H := HC5.out;clear HC5
  by_cases c7 : t103 = 0
  ·rw [if_pos c7] at H;have c7b0 : (t103 == 0) = true := beq_iff_eq.mpr c7;have c7b1 : (t103 != 0) = false := bne_eq_false_iff_eq.mpr c7;clear c7;(first | rw [c7b0] | (simp only [i64_w,i32_w];rw [c7b0]) | skip);have H' := Aside0.mk H;clear H
   go_wp2
   go_meet
   case rel => exact ⟨_,(true),(by first | rfl | (simp only [IntKind.wrap_i64,wrap64];done) | (simp;done) | (simp [*];done)),H',⟨by first | omega | exact Nat.le_refl _⟩,⟨by repeat (first | (with_reducible first | exact HB.out | apply below_alloc | apply pw_below_drewN | apply below_drew1) | exact HB.out)⟩⟩
  ·rw [if_neg c7] at H;have c7b0 : (t103 == 0) = false := beq_eq_false_iff_ne.mpr c7;have c7b1 : (t103 != 0) = true := bne_iff_ne.mpr c7;(first | rw [c7b0] | (simp only [i64_w,i32_w];rw [c7b0]) | skip);have H' := Aside0.mk H;clear H
   go_wp2
   go_meet
   case rel => exact ⟨_,((t103 == 6)),(by first | rfl | (simp only [IntKind.wrap_i64,wrap64];done) | (simp;done) | (simp [*];done)),H',⟨by first | omega | exact Nat.le_refl _⟩,⟨by repeat (first | (with_reducible first | exact HB.out | apply below_alloc | apply pw_below_drewN | apply below_drew1) | exact HB.out)⟩⟩
 case rest =>
  clear HC5;(try clear p2);(try clear c5);(try clear c6);(try clear c7);(try clear c7b0);(try clear c7b1);obtain ⟨kq,x27_4,rfl,HA,HJ4,HB⟩ := hcut
  cases kq with
  | zero => exact absurd HA.out (by simp [impl_LateShips.j0])
  | succ kj4 =>
   have H := HA.out;clear HA;simp only [impl_LateShips.j0] at H;have HC8 := Aside0.mk H;clear H
   go_upto_if 27 with (fail)
   go_cut [10] (fun v10 wc => ∃ (kq : Nat) (x10_7 : Int),v10 = .int .i64 x10_7 ∧ Aside0 (impl_LateShips.j1 kq l0 a1 a2 t101 x10_7 = some (r1,r2)) ∧ Aside0 (kq ≤ kj4) ∧ Aside0 (Below w.heap.size w wc))
   case first =>
    have H := HC8.out;clear HC8
    by_cases c9 : x27_4 = true
    ·subst c9
     have H1 : ((impl_within.f a2 0 100000).bind fun t104 => ((impl_unless.f t104 2).bind fun t105 => ((impl_firstOf.f kj4 (([t105,t103] : List Int))).bind fun t109 => (impl_LateShips.j1 kj4 l0 a1 a2 t101 t109)))) = some (r1,r2) := by rw [if_pos rfl] at H;exact H
     clear H;have H := H1;clear H1;replace H := Option.bind_eq_some_iff.mp H;obtain ⟨t104,A100,H⟩ := H;replace H : ((impl_unless.f t104 2).bind fun t105 => ((impl_firstOf.f kj4 (([t105,t103] : List Int))).bind fun t109 => (impl_LateShips.j1 kj4 l0 a1 a2 t101 t109))) = some (r1,r2) := H;have A10 := Aside0.mk A100;clear A100;replace H := Option.bind_eq_some_iff.mp H;obtain ⟨t105,A110,H⟩ := H;replace H : ((impl_firstOf.f kj4 (([t105,t103] : List Int))).bind fun t109 => (impl_LateShips.j1 kj4 l0 a1 a2 t101 t109)) = some (r1,r2) := H;have A11 := Aside0.mk A110;clear A110;obtain ⟨y106,hy106⟩ : ∃ y_ : List Int,y_ = (([t105,t103] : List Int)) := ⟨_,rfl⟩
     replace H : ((impl_firstOf.f kj4 y106).bind fun t109 => (impl_LateShips.j1 kj4 l0 a1 a2 t101 t109)) = some (r1,r2) := by first | (rw [hy106];with_reducible exact H) | (have H2_ := (Option.bind_some _ _).symm.trans H;rw [hy106];with_reducible exact H2_) | (have H2_ := (Option.bind_some _ _).symm.trans H;with_reducible exact H2_) | with_reducible exact H | (rw [hy106];exact H) | exact H
     have Ny106 := Aside0.mk hy106;clear hy106;replace H := Option.bind_eq_some_iff.mp H;obtain ⟨t109,A120,H⟩ := H;replace H : (impl_LateShips.j1 kj4 l0 a1 a2 t101 t109) = some (r1,r2) := H;have A12 := Aside0.mk A120;clear A120;have H' := Aside0.mk H;clear H
     go_wp2_with (first | ((with_reducible refine gate_callee (f := 79) rfl ?_);refine goesL_ (some 29) rfl rfl Try.func79 (by kernel_rfl) rfl #[.int .i64 a2,.int .i64 0,.int .i64 100000] rfl (by (try simp only [List.map_toArray,List.map_cons,List.map_nil]);first | done | rfl | (simp only [List.length_drop,List.length_take];rfl)) ?_;(with_reducible refine (impl_within.calls a2 0 100000 t104 _ A10.out).mono ?_);rintro e w' ⟨rfl,⟨nd,rfl⟩⟩;refine ⟨_,rfl,?_⟩) | ((with_reducible refine gate_callee (f := 104) rfl ?_);refine goesL_ (some 30) rfl rfl Try.func104 (by kernel_rfl) rfl #[.bool t104,.int .i64 2] rfl (by (try simp only [List.map_toArray,List.map_cons,List.map_nil]);first | done | rfl | (simp only [List.length_drop,List.length_take];rfl)) ?_;(with_reducible refine (impl_unless.calls t104 2 t105 _ A11.out).mono ?_);rintro e w' ⟨rfl,⟨nd,rfl⟩⟩;refine ⟨_,rfl,?_⟩) | ((with_reducible refine gate_dst (N := 32) rfl ?_);refine Kd.R_lit (Kd.int .i64) _ 2 ?hg (N := 32) ?hd (xs := ([t105,t103] : List Int)) (inner := [.int .i64 t105,.int .i64 t103]) (ok := fun _ => True) (okp := fun _ => True) ?hr ?hp (fun _ hk => hk) trivial (Below.refl _ _) (Nat.le_refl _) (by simp) ?_;(case hd => rfl);(case hg => rfl);(case hr => first | (go_simp;done) | (go_simp;rfl));(case hp => exact (Reps.one (show Kd.M (Kd.int .i64) _ _ _ t105 [.int .i64 t105] from rfl) (Reps.one (show Kd.M (Kd.int .i64) _ _ _ t103 [.int .i64 t103] from rfl) (Reps.none _ _))));intro v107 w13 ho14 hb hg_ hnew_;clear hg_ hnew_;(first | rw [← Ny106.out] at ho14 | (simp only [Int.reduceToNat] at ho14;rw [← Ny106.out] at ho14));have n0_ := Aside0.mk (Kd.R_lower ho14 (below_size (by repeat (first | (with_reducible first | exact HB.out | apply below_alloc | apply pw_below_drewN | apply below_drew1) | exact HB.out))));have n1_ := Aside0.mk (below_step (by repeat (first | (with_reducible first | exact HB.out | apply below_alloc | apply pw_below_drewN | apply below_drew1) | exact HB.out)) hb);clear HB;have HO108 := n0_;have HB := n1_;clear n0_ n1_;clear hb ho14;obtain ⟨Ao15,co15,eo15⟩ := Kd.R_slice HO108.out;subst eo15) | ((with_reducible refine gate_callee (f := 102) rfl ?_);refine goesL_ (some 33) rfl rfl Try.func102 (by kernel_rfl) rfl #[.slice Ao15 y106.length co15] rfl (by (try simp only [List.map_toArray,List.map_cons,List.map_nil]);first | done | rfl | (simp only [List.length_drop,List.length_take];rfl)) ?_;(with_reducible refine (impl_firstOf.calls kj4 _ _ y106 t109 _ ?side1 ?side2 A12.out).mono ?_);(case side1 => repeat (first | exact (Kd.R_reads' HO108.out).2.2 | (with_reducible refine Kd.C_alloc ?_ _) | (with_reducible refine Kd.C_drewN ?_ _) | (with_reducible refine Kd.C_drew ?_)));(case side2 => exact (Kd.R_reads' HO108.out).2.1);rintro e w' ⟨rfl,⟨nd,rfl⟩⟩;refine ⟨_,rfl,?_⟩))
     go_meet
     case rel => exact ⟨_,(t109),(by first | rfl | (simp only [IntKind.wrap_i64,wrap64];done) | (simp;done) | (simp [*];done)),H',⟨by have := HJ4.out;first | omega | exact Nat.le_refl _⟩,⟨by repeat (first | (with_reducible first | exact HB.out | apply below_alloc | apply pw_below_drewN | apply below_drew1) | exact HB.out)⟩⟩
    ·replace c9 := Bool.eq_false_iff.mpr c9;subst c9
     have H1 : (impl_LateShips.j1 kj4 l0 a1 a2 t101 t103) = some (r1,r2) := by rw [if_neg (show ¬ (false = true) by decide)] at H;exact H
     clear H;have H := H1;clear H1;have H' := Aside0.mk H;clear H
     go_wp2
     go_meet
     case rel => exact ⟨_,(t103),(by first | rfl | (simp only [IntKind.wrap_i64,wrap64];done) | (simp;done) | (simp [*];done)),H',⟨by have := HJ4.out;first | omega | exact Nat.le_refl _⟩,⟨by repeat (first | (with_reducible first | exact HB.out | apply below_alloc | apply pw_below_drewN | apply below_drew1) | exact HB.out)⟩⟩
   case rest =>
    clear HC8;(try clear c1);(try clear p2);(try clear c5);(try clear c6);(try clear c7);(try clear c7b0);(try clear c7b1);(try clear c9);(try clear c10);(try clear p2);obtain ⟨kq,x10_7,rfl,HA,HJ7,HB⟩ := hcut
    cases kq with
    | zero => exact absurd HA.out (by simp [impl_LateShips.j1])
    | succ kj7 =>
     have H := HA.out;clear HA;simp only [impl_LateShips.j1] at H
     by_cases c16 : x10_7 = 0
     ·rw [if_pos c16] at H;have c16b0 : (x10_7 == 0) = true := beq_iff_eq.mpr c16;have c16b1 : (x10_7 != 0) = false := bne_eq_false_iff_eq.mpr c16;clear c16;obtain ⟨y110,hy110⟩ : ∃ y_ : List Int,y_ = (([] : List Int)) := ⟨_,rfl⟩
      replace H : (impl_LateShips.l0 kj7 a1 a2 t101 y110 l0 (l0.length : Int) 0) = some (r1,r2) := by first | (rw [hy110];with_reducible exact H) | (have H2_ := (Option.bind_some _ _).symm.trans H;rw [hy110];with_reducible exact H2_) | (have H2_ := (Option.bind_some _ _).symm.trans H;with_reducible exact H2_) | with_reducible exact H | (rw [hy110];exact H) | exact H
      have Ny110 := Aside0.mk hy110;clear hy110;have H' := Aside0.mk H;clear H
      go_wp2_with (first | ((with_reducible refine gate_dst (N := 37) rfl ?_);refine Kd.R_lit (Kd.int .i64) _ 2 ?hg (N := 37) ?hd (xs := ([] : List Int)) (inner := []) (ok := fun _ => True) (okp := fun _ => True) ?hr ?hp (fun _ hk => hk) trivial (Below.refl _ _) (Nat.le_refl _) (by simp) ?_;(case hd => rfl);(case hg => rfl);(case hr => first | (go_simp;done) | (go_simp;rfl));(case hp => exact (Reps.none _ _));intro v111 w17 ho18 hb hg_ hnew_;clear hg_ hnew_;(first | rw [← Ny110.out] at ho18 | (simp only [Int.reduceToNat] at ho18;rw [← Ny110.out] at ho18));have n0_ := Aside0.mk (Kd.R_lower ho18 (below_size (by repeat (first | (with_reducible first | exact HB.out | apply below_alloc | apply pw_below_drewN | apply below_drew1) | exact HB.out))));have n1_ := Aside0.mk (below_step (by repeat (first | (with_reducible first | exact HB.out | apply below_alloc | apply pw_below_drewN | apply below_drew1) | exact HB.out)) hb);clear HB;have HO112 := n0_;have HB := n1_;clear n0_ n1_;clear hb ho18))
      go_loopg [11,40] kj7 (fun kq v11 v40 w' => ∃ (x11_3 : List Int) (x40_3 : Int),v40 = .int .i64 x40_3 ∧ Aside0 (impl_LateShips.l0 kq a1 a2 t101 x11_3 l0 (l0.length : Int) x40_3 = some (r1,r2)) ∧ Aside0 (kq ≤ kj7) ∧ Aside0 (Kd.R (Kd.int .i64) 2 w' w.heap.size (fun _ => True) v11 x11_3) ∧ Aside0 (Below w.heap.size w w'))
      case atStart => exact ⟨(y110),(0),(by first | rfl | (simp only [IntKind.wrap_i64,wrap64];done) | (simp;done) | (simp [*];done)),H',⟨Nat.le_refl _⟩,⟨by (with_reducible repeat (first | apply Kd.R_alloc | apply Kd.R_drewN | apply Kd.R_drew));exact HO112.out⟩,⟨by repeat (first | (with_reducible first | exact HB.out | apply below_alloc | apply pw_below_drewN | apply below_drew1) | exact HB.out)⟩⟩
      case round =>
       clear H';(try clear c1);(try clear p2);(try clear c5);(try clear c6);(try clear c7);(try clear c7b0);(try clear c7b1);(try clear c9);(try clear c10);(try clear c16);(try clear c16b0);(try clear c16b1);(try clear p2);obtain ⟨x11_3,x40_3,rfl,HA,HK3,HO_11,HB⟩ := hrel
       cases gk with
       | zero => exact absurd HA.out (by simp [impl_LateShips.l0])
       | succ k3 =>
        have H := HA.out;clear HA;simp only [impl_LateShips.l0] at H
        by_cases c19 : x40_3 < (l0.length : Int)
        ·rw [if_pos c19] at H;have c19b0 : decide (x40_3 < (l0.length : Int)) = true := decide_eq_true c19;clear c19
         by_cases c20 : 0 ≤ x40_3
         ·rw [if_pos c20] at H;have c20b0 : decide (0 ≤ x40_3) = true := decide_eq_true c20;clear c20
          by_cases c21 : x40_3 < (l0.length : Int)
          ·rw [if_pos c21] at H;have c21b0 : decide (x40_3 < (l0.length : Int)) = true := decide_eq_true c21;clear c21;replace H := Option.bind_eq_some_iff.mp H;obtain ⟨t114,A220,H⟩ := H;replace H : (if t114 < 0 then (if x11_3.length < 17592186044416 then (impl_LateShips.l0 k3 a1 a2 t101 (x11_3 ++ [x40_3]) l0 (l0.length : Int) (wrap64 (x40_3 + 1))) else (none)) else (if t114 > (wrap64 (t101 + a2)) then (if x11_3.length < 17592186044416 then (impl_LateShips.l0 k3 a1 a2 t101 (x11_3 ++ [x40_3]) l0 (l0.length : Int) (wrap64 (x40_3 + 1))) else (none)) else (impl_LateShips.l0 k3 a1 a2 t101 x11_3 l0 (l0.length : Int) (wrap64 (x40_3 + 1))))) = some (r1,r2) := H;have A22 := Aside0.mk A220;clear A220
           by_cases c23 : t114 < 0
           ·rw [if_pos c23] at H;have c23b0 : decide (t114 < 0) = true := decide_eq_true c23;clear c23
            by_cases c24 : x11_3.length < 17592186044416
            ·rw [if_pos c24] at H;have LMc24 := Aside0.mk c24;clear c24;obtain ⟨y115,hy115⟩ : ∃ y_ : List Int,y_ = (x11_3 ++ [x40_3]) := ⟨_,rfl⟩
             replace H : (impl_LateShips.l0 k3 a1 a2 t101 y115 l0 (l0.length : Int) (wrap64 (x40_3 + 1))) = some (r1,r2) := by first | (rw [hy115];with_reducible exact H) | (have H2_ := (Option.bind_some _ _).symm.trans H;rw [hy115];with_reducible exact H2_) | (have H2_ := (Option.bind_some _ _).symm.trans H;with_reducible exact H2_) | with_reducible exact H | (rw [hy115];exact H) | exact H
             have Ny115 := Aside0.mk hy115;clear hy115;have H' := Aside0.mk H;clear H;have p113 : 0 ≤ (x40_3 : Int) := of_decide_eq_true (by first | (with_reducible assumption) | assumption);have q113 : x40_3 < (l0.length : Int) := of_decide_eq_true (by first | (with_reducible assumption) | assumption);obtain ⟨ad113,A113_0,c113_0,e113,hx113_0,hl113_0,hi113_0⟩ := at_L5 HR0.out x40_3 p113 q113;cases e113;replace hx113_0 := (HB.out.cell (World.block_lt_of_cell? w _ hx113_0)).trans hx113_0;have HR113_0 := Aside0.mk hi113_0;have HC113_0 := Aside0.mk hl113_0;clear hi113_0 hl113_0;replace p113 := eq_true p113;replace q113 := eq_true q113
             go_wp2_with (first | ((with_reducible refine gate_callee (f := 105) rfl ?_);refine goesL_ (some 47) rfl rfl Try.func105 (by kernel_rfl) rfl #[.slice A113_0 (rd_L5 l0 x40_3).length c113_0,.int .i64 a1] rfl (by (try simp only [List.map_toArray,List.map_cons,List.map_nil]);first | done | rfl | (simp only [List.length_drop,List.length_take];rfl)) ?_;(with_reducible refine (impl_Log_firstDown.calls _ _ (rd_L5 l0 x40_3) a1 t114 _ ?side1 ?side2 A22.out).mono ?_);(case side1 => repeat (first | exact (Kd.C_below HR113_0.out HB.out) | (with_reducible refine Kd.C_alloc ?_ _) | (with_reducible refine Kd.C_drewN ?_ _) | (with_reducible refine Kd.C_drew ?_)));(case side2 => exact HC113_0.out);rintro e w25 ⟨rfl,hb⟩;refine ⟨_,rfl,?_⟩;have n0_ := Aside0.mk (Kd.R_below (by (with_reducible repeat (first | apply Kd.R_alloc | apply Kd.R_drewN | apply Kd.R_drew));exact HO_11.out) hb);have n1_ := Aside0.mk (below_step (by repeat (first | (with_reducible first | exact HB.out | apply below_alloc | apply pw_below_drewN | apply below_drew1) | exact HB.out)) hb);clear HO_11;clear HB;have HO_11 := n0_;have HB := n1_;clear n0_ n1_;(try clear hb);(try clear hb2);(try clear hk);(try clear hi)) | ((with_reducible refine gate_builtin (b := .append) (xs := #[.tmp 57,.tmp 59]) rfl ?_);at_builtin;refine Kd.R_append (Kd.int .i64) (w0 := w) w.heap.size rfl (.tmp 57) (.tmp 59) 37 2 (.int .i64 0) 8 rfl Try.underlying37 info2 rfl (by decide) (by omega) u11 x11_3 x40_3 [.int .i64 x40_3] (fun _ => True) (fun _ => False) rfl rfl ?aP (fun _ hk => hk.elim) ?aF ?aO ?aB ?aS ?aL ?_;(case aP => exact rfl);(case aB => exact (by repeat (first | (with_reducible first | exact HB.out | apply below_alloc | apply pw_below_drewN | apply below_drew1) | exact HB.out)));(case aF => exact (fun _ _ => trivial));(case aO => exact (by (with_reducible repeat (first | apply Kd.R_alloc | apply Kd.R_drewN | apply Kd.R_drew));exact HO_11.out));(case aS => exact (below_size (by repeat (first | (with_reducible first | exact HB.out | apply below_alloc | apply pw_below_drewN | apply below_drew1) | exact HB.out))));(case aL => have := LMc24.out;omega);intro v116 w26 ho hb hg hat;rw [← Ny115.out] at ho;have n0_ := Aside0.mk (hb);have n1_ := Aside0.mk (ho);clear HB;clear HO_11;have HB := n0_;have HO117 := n1_;clear n0_ n1_;clear ho hb hg hat))
             go_roundg k3
             case measure => have := HJ4.out;have := HJ7.out;have := HK3.out;omega
             case rel => exact ⟨(y115),(wrap64 (x40_3 + 1)),(by first | rfl | (simp only [IntKind.wrap_i64,wrap64];done) | (simp;done) | (simp [*];done)),H',⟨by have := HJ4.out;have := HJ7.out;have := HK3.out;omega⟩,⟨by (with_reducible repeat (first | apply Kd.R_alloc | apply Kd.R_drewN | apply Kd.R_drew));exact HO117.out⟩,⟨by repeat (first | (with_reducible first | exact HB.out | apply below_alloc | apply pw_below_drewN | apply below_drew1) | exact HB.out)⟩⟩
            ·rw [if_neg c24] at H;exact absurd H (by simp)
           ·rw [if_neg c23] at H;have c23b0 : decide (t114 < 0) = false := decide_eq_false c23;clear c23
            by_cases c27 : t114 > (wrap64 (t101 + a2))
            ·rw [if_pos c27] at H;have c27b0 : decide ((wrap64 (t101 + a2)) < t114) = true := decide_eq_true c27;clear c27
             by_cases c28 : x11_3.length < 17592186044416
             ·rw [if_pos c28] at H;have LMc28 := Aside0.mk c28;clear c28;obtain ⟨y118,hy118⟩ : ∃ y_ : List Int,y_ = (x11_3 ++ [x40_3]) := ⟨_,rfl⟩
              replace H : (impl_LateShips.l0 k3 a1 a2 t101 y118 l0 (l0.length : Int) (wrap64 (x40_3 + 1))) = some (r1,r2) := by first | (rw [hy118];with_reducible exact H) | (have H2_ := (Option.bind_some _ _).symm.trans H;rw [hy118];with_reducible exact H2_) | (have H2_ := (Option.bind_some _ _).symm.trans H;with_reducible exact H2_) | with_reducible exact H | (rw [hy118];exact H) | exact H
              have Ny118 := Aside0.mk hy118;clear hy118;have H' := Aside0.mk H;clear H;have p113 : 0 ≤ (x40_3 : Int) := of_decide_eq_true (by first | (with_reducible assumption) | assumption);have q113 : x40_3 < (l0.length : Int) := of_decide_eq_true (by first | (with_reducible assumption) | assumption);obtain ⟨ad113,A113_0,c113_0,e113,hx113_0,hl113_0,hi113_0⟩ := at_L5 HR0.out x40_3 p113 q113;cases e113;replace hx113_0 := (HB.out.cell (World.block_lt_of_cell? w _ hx113_0)).trans hx113_0;have HR113_0 := Aside0.mk hi113_0;have HC113_0 := Aside0.mk hl113_0;clear hi113_0 hl113_0;replace p113 := eq_true p113;replace q113 := eq_true q113
              go_wp2_with (first | ((with_reducible refine gate_callee (f := 105) rfl ?_);refine goesL_ (some 47) rfl rfl Try.func105 (by kernel_rfl) rfl #[.slice A113_0 (rd_L5 l0 x40_3).length c113_0,.int .i64 a1] rfl (by (try simp only [List.map_toArray,List.map_cons,List.map_nil]);first | done | rfl | (simp only [List.length_drop,List.length_take];rfl)) ?_;(with_reducible refine (impl_Log_firstDown.calls _ _ (rd_L5 l0 x40_3) a1 t114 _ ?side1 ?side2 A22.out).mono ?_);(case side1 => repeat (first | exact (Kd.C_below HR113_0.out HB.out) | (with_reducible refine Kd.C_alloc ?_ _) | (with_reducible refine Kd.C_drewN ?_ _) | (with_reducible refine Kd.C_drew ?_)));(case side2 => exact HC113_0.out);rintro e w29 ⟨rfl,hb⟩;refine ⟨_,rfl,?_⟩;have n0_ := Aside0.mk (Kd.R_below (by (with_reducible repeat (first | apply Kd.R_alloc | apply Kd.R_drewN | apply Kd.R_drew));exact HO_11.out) hb);have n1_ := Aside0.mk (below_step (by repeat (first | (with_reducible first | exact HB.out | apply below_alloc | apply pw_below_drewN | apply below_drew1) | exact HB.out)) hb);clear HO_11;clear HB;have HO_11 := n0_;have HB := n1_;clear n0_ n1_;(try clear hb);(try clear hb2);(try clear hk);(try clear hi)) | ((with_reducible refine gate_builtin (b := .append) (xs := #[.tmp 57,.tmp 59]) rfl ?_);at_builtin;refine Kd.R_append (Kd.int .i64) (w0 := w) w.heap.size rfl (.tmp 57) (.tmp 59) 37 2 (.int .i64 0) 8 rfl Try.underlying37 info2 rfl (by decide) (by omega) u11 x11_3 x40_3 [.int .i64 x40_3] (fun _ => True) (fun _ => False) rfl rfl ?aP (fun _ hk => hk.elim) ?aF ?aO ?aB ?aS ?aL ?_;(case aP => exact rfl);(case aB => exact (by repeat (first | (with_reducible first | exact HB.out | apply below_alloc | apply pw_below_drewN | apply below_drew1) | exact HB.out)));(case aF => exact (fun _ _ => trivial));(case aO => exact (by (with_reducible repeat (first | apply Kd.R_alloc | apply Kd.R_drewN | apply Kd.R_drew));exact HO_11.out));(case aS => exact (below_size (by repeat (first | (with_reducible first | exact HB.out | apply below_alloc | apply pw_below_drewN | apply below_drew1) | exact HB.out))));(case aL => have := LMc28.out;omega);intro v119 w30 ho hb hg hat;rw [← Ny118.out] at ho;have n0_ := Aside0.mk (hb);have n1_ := Aside0.mk (ho);clear HB;clear HO_11;have HB := n0_;have HO120 := n1_;clear n0_ n1_;clear ho hb hg hat))
              go_roundg k3
              case measure => have := HJ4.out;have := HJ7.out;have := HK3.out;omega
              case rel => exact ⟨(y118),(wrap64 (x40_3 + 1)),(by first | rfl | (simp only [IntKind.wrap_i64,wrap64];done) | (simp;done) | (simp [*];done)),H',⟨by have := HJ4.out;have := HJ7.out;have := HK3.out;omega⟩,⟨by (with_reducible repeat (first | apply Kd.R_alloc | apply Kd.R_drewN | apply Kd.R_drew));exact HO120.out⟩,⟨by repeat (first | (with_reducible first | exact HB.out | apply below_alloc | apply pw_below_drewN | apply below_drew1) | exact HB.out)⟩⟩
             ·rw [if_neg c28] at H;exact absurd H (by simp)
            ·rw [if_neg c27] at H;have c27b0 : decide ((wrap64 (t101 + a2)) < t114) = false := decide_eq_false c27;clear c27;have H' := Aside0.mk H;clear H;have p113 : 0 ≤ (x40_3 : Int) := of_decide_eq_true (by first | (with_reducible assumption) | assumption);have q113 : x40_3 < (l0.length : Int) := of_decide_eq_true (by first | (with_reducible assumption) | assumption);obtain ⟨ad113,A113_0,c113_0,e113,hx113_0,hl113_0,hi113_0⟩ := at_L5 HR0.out x40_3 p113 q113;cases e113;replace hx113_0 := (HB.out.cell (World.block_lt_of_cell? w _ hx113_0)).trans hx113_0;have HR113_0 := Aside0.mk hi113_0;have HC113_0 := Aside0.mk hl113_0;clear hi113_0 hl113_0;replace p113 := eq_true p113;replace q113 := eq_true q113
             go_wp2_with (first | ((with_reducible refine gate_callee (f := 105) rfl ?_);refine goesL_ (some 47) rfl rfl Try.func105 (by kernel_rfl) rfl #[.slice A113_0 (rd_L5 l0 x40_3).length c113_0,.int .i64 a1] rfl (by (try simp only [List.map_toArray,List.map_cons,List.map_nil]);first | done | rfl | (simp only [List.length_drop,List.length_take];rfl)) ?_;(with_reducible refine (impl_Log_firstDown.calls _ _ (rd_L5 l0 x40_3) a1 t114 _ ?side1 ?side2 A22.out).mono ?_);(case side1 => repeat (first | exact (Kd.C_below HR113_0.out HB.out) | (with_reducible refine Kd.C_alloc ?_ _) | (with_reducible refine Kd.C_drewN ?_ _) | (with_reducible refine Kd.C_drew ?_)));(case side2 => exact HC113_0.out);rintro e w31 ⟨rfl,hb⟩;refine ⟨_,rfl,?_⟩;have n0_ := Aside0.mk (Kd.R_below (by (with_reducible repeat (first | apply Kd.R_alloc | apply Kd.R_drewN | apply Kd.R_drew));exact HO_11.out) hb);have n1_ := Aside0.mk (below_step (by repeat (first | (with_reducible first | exact HB.out | apply below_alloc | apply pw_below_drewN | apply below_drew1) | exact HB.out)) hb);clear HO_11;clear HB;have HO_11 := n0_;have HB := n1_;clear n0_ n1_;(try clear hb);(try clear hb2);(try clear hk);(try clear hi)))
             go_roundg k3
             case measure => have := HJ4.out;have := HJ7.out;have := HK3.out;omega
             case rel => exact ⟨(x11_3),(wrap64 (x40_3 + 1)),(by first | rfl | (simp only [IntKind.wrap_i64,wrap64];done) | (simp;done) | (simp [*];done)),H',⟨by have := HJ4.out;have := HJ7.out;have := HK3.out;omega⟩,⟨by (with_reducible repeat (first | apply Kd.R_alloc | apply Kd.R_drewN | apply Kd.R_drew));exact HO_11.out⟩,⟨by repeat (first | (with_reducible first | exact HB.out | apply below_alloc | apply pw_below_drewN | apply below_drew1) | exact HB.out)⟩⟩
          ·rw [if_neg c21] at H;exact absurd H (by simp)
         ·rw [if_neg c20] at H;exact absurd H (by simp)
        ·rw [if_neg c19] at H;have c19b0 : decide (x40_3 < (l0.length : Int)) = false := decide_eq_false c19;clear c19;simp only [Option.some.injEq,Prod.mk.injEq] at H;obtain ⟨rfl,rfl⟩ := H
         go_wp2
         go_ret2
         exact ⟨_,by first | rfl | (simp [errW_none,errW_some,IntKind.wrap_i64,wrap64];done) | (simp [errW_none,errW_some] <;> rfl) | (simp [*,errW_none,errW_some] <;> rfl),by (with_reducible repeat (first | apply Kd.R_alloc | apply Kd.R_drewN | apply Kd.R_drew));exact HO_11.out,by repeat (first | (with_reducible first | exact HB.out | apply below_alloc | apply pw_below_drewN | apply below_drew1) | exact HB.out)⟩
     ·rw [if_neg c16] at H;have c16b0 : (x10_7 == 0) = false := beq_eq_false_iff_ne.mpr c16;have c16b1 : (x10_7 != 0) = true := bne_iff_ne.mpr c16;simp only [Option.some.injEq,Prod.mk.injEq] at H;obtain ⟨rfl,rfl⟩ := H
      go_wp2
      go_ret2
      exact ⟨_,by first | rfl | (simp [errW_none,errW_some,IntKind.wrap_i64,wrap64];done) | (simp [errW_none,errW_some] <;> rfl) | (simp [*,errW_none,errW_some] <;> rfl),by first | exact Kd.R_nil _ _ _ _ _ | exact Kd.N_nil _ _ _ _ _ | exact Kd.V_nil _ _ _ _ _ | exact Kd.Q_nil _ _ _ _ _ | exact Kd.S_nil _ _ _ _ _,by repeat (first | (with_reducible first | exact HB.out | apply below_alloc | apply pw_below_drewN | apply below_drew1) | exact HB.out)⟩
end Go.Proofs.Ytidkniacmcbgiaa.G
end

section
namespace Go.Proofs.Ytidkniacmcbgiaa.G
open Go.RowKit Go.Proofs.YtidkniacmcbgiaaW.PrintWords Go.Proofs.YtidkniacmcbgiaaW.PrintLast Go.Proofs.YtidkniacmcbgiaaW.PrintMore
attribute [local go_sem] max2_int min2_int max_two min_two max_three min_three max_four min_four
set_option linter.unusedVariables false
set_option linter.unusedSimpArgs false
def laws_eqInt64S.l0 : Nat → List Int → List Int → Int → Option (Bool)
 | 0,_,_,_ => none
 | k + 1,x0,x1,x5 => if x5 < (x0.length : Int) then (if 0 ≤ x5 then (if x5 < (x1.length : Int) then (if (rd x0 x5) = (rd x1 x5) then (laws_eqInt64S.l0 k x0 x1 (wrap64 (x5 + 1))) else (some false)) else (none)) else (none)) else (some true)
def laws_eqInt64S.f (k : Nat) (l0 : List Int) (l1 : List Int) : Option (Bool) := if (l0.length : Int) = (l1.length : Int) then (laws_eqInt64S.l0 k l0 l1 0) else (some false)
set_option maxHeartbeats 8000000 in
set_option maxRecDepth 100000 in
theorem laws_eqInt64S.calls (k : Nat) (A0 : Option Addr) (c0 : Nat) (l0 : List Int) (A1 : Option Addr) (c1 : Nat) (l1 : List Int) (r : Bool) (w : World) (hr0 : Kd.C (Kd.int .i64) w A0 l0.length l0) (hc0 : l0.length ≤ c0) (hr1 : Kd.C (Kd.int .i64) w A1 l1.length l1) (hc1 : l1.length ≤ c1) (h : laws_eqInt64S.f k l0 l1 = some r) :
  Calls Try.prog 34 #[.slice A0 l0.length c0,.slice A1 l1.length c1] w fun e w' => e = .returned (.bool r) ∧ Drawn0 w w' := by
 have HR0 := Aside0.mk hr0;have HC0 := Aside0.mk hc0;clear hr0 hc0;have HR1 := Aside0.mk hr1;have HC1 := Aside0.mk hc1;clear hr1 hc1;have H : (if (l0.length : Int) = (l1.length : Int) then (laws_eqInt64S.l0 k l0 l1 0) else (some false)) = some r := h;clear h
 by_cases c3 : (l0.length : Int) = (l1.length : Int)
 ·rw [if_pos c3] at H;have c3b0 : ((l0.length : Int) == (l1.length : Int)) = true := beq_iff_eq.mpr c3;have c3b1 : ((l0.length : Int) != (l1.length : Int)) = false := bne_eq_false_iff_eq.mpr c3
  have c3b2 : (l0.length == l1.length) = true := by first | simpa using c3 | (simp at c3 ⊢;omega)
  clear c3;have H' := Aside0.mk H;clear H
  go_enter Try.func34,Try.ntmps34
  go_wp2
  repeat (go_quiet (fail);try go_wp2)
  go_loopg [5] k (fun kq v5 w' => ∃ (x5_1 : Int),v5 = .int .i64 x5_1 ∧ Aside0 (laws_eqInt64S.l0 kq l0 l1 x5_1 = some r) ∧ Aside0 (kq ≤ k) ∧ Drawn0 w w')
  case atStart => exact ⟨(0),(by first | rfl | (simp only [IntKind.wrap_i64,wrap64];done) | (simp;done) | (simp [*];done)),H',⟨Nat.le_refl _⟩,by repeat (first | exact Drawn0.refl _ | apply Drawn0.step)⟩
  case round =>
   clear H';(try clear c1);(try clear p2);(try clear c3);(try clear c3b0);(try clear c3b1);(try clear c3b2);obtain ⟨x5_1,rfl,HA,HK1,⟨m1,rfl⟩⟩ := hrel
   cases gk with
   | zero => exact absurd HA.out (by simp [laws_eqInt64S.l0])
   | succ k1 =>
    have H := HA.out;clear HA;simp only [laws_eqInt64S.l0] at H
    by_cases c4 : x5_1 < (l0.length : Int)
    ·rw [if_pos c4] at H;have c4b0 : decide (x5_1 < (l0.length : Int)) = true := decide_eq_true c4;clear c4
     by_cases c5 : 0 ≤ x5_1
     ·rw [if_pos c5] at H;have c5b0 : decide (0 ≤ x5_1) = true := decide_eq_true c5;clear c5
      by_cases c6 : x5_1 < (l1.length : Int)
      ·rw [if_pos c6] at H;have c6b0 : decide (x5_1 < (l1.length : Int)) = true := decide_eq_true c6;clear c6
       by_cases c7 : (rd l0 x5_1) = (rd l1 x5_1)
       ·rw [if_pos c7] at H;have c7b0 : ((rd l0 x5_1) == (rd l1 x5_1)) = true := beq_iff_eq.mpr c7;have c7b1 : ((rd l0 x5_1) != (rd l1 x5_1)) = false := bne_eq_false_iff_eq.mpr c7;clear c7;have H' := Aside0.mk H;clear H;have p101 : 0 ≤ (x5_1 : Int) := of_decide_eq_true (by first | (with_reducible assumption) | assumption);have q101 : x5_1 < (l0.length : Int) := of_decide_eq_true (by first | (with_reducible assumption) | assumption);obtain ⟨ad101,e101,hx101_0⟩ := Kd.at_int HR0.out x5_1 p101 q101;cases e101;replace p101 := eq_true p101;replace q101 := eq_true q101;have p102 : 0 ≤ (x5_1 : Int) := of_decide_eq_true (by first | (with_reducible assumption) | assumption);have q102 : x5_1 < (l1.length : Int) := of_decide_eq_true (by first | (with_reducible assumption) | assumption);obtain ⟨ad102,e102,hx102_0⟩ := Kd.at_int HR1.out x5_1 p102 q102;cases e102;replace p102 := eq_true p102;replace q102 := eq_true q102
        go_wp2
        repeat (go_quiet (fail);try go_wp2)
        go_roundg k1
        case measure => have := HK1.out;omega
        case rel => exact ⟨(wrap64 (x5_1 + 1)),(by first | rfl | (simp only [IntKind.wrap_i64,wrap64];done) | (simp;done) | (simp [*];done)),H',⟨by have := HK1.out;omega⟩,by repeat (first | exact Drawn0.refl _ | apply Drawn0.step)⟩
       ·rw [if_neg c7] at H;have c7b0 : ((rd l0 x5_1) == (rd l1 x5_1)) = false := beq_eq_false_iff_ne.mpr c7;have c7b1 : ((rd l0 x5_1) != (rd l1 x5_1)) = true := bne_iff_ne.mpr c7;obtain rfl := Option.some.inj H;have p101 : 0 ≤ (x5_1 : Int) := of_decide_eq_true (by first | (with_reducible assumption) | assumption);have q101 : x5_1 < (l0.length : Int) := of_decide_eq_true (by first | (with_reducible assumption) | assumption);obtain ⟨ad101,e101,hx101_0⟩ := Kd.at_int HR0.out x5_1 p101 q101;cases e101;replace p101 := eq_true p101;replace q101 := eq_true q101;have p102 : 0 ≤ (x5_1 : Int) := of_decide_eq_true (by first | (with_reducible assumption) | assumption);have q102 : x5_1 < (l1.length : Int) := of_decide_eq_true (by first | (with_reducible assumption) | assumption);obtain ⟨ad102,e102,hx102_0⟩ := Kd.at_int HR1.out x5_1 p102 q102;cases e102;replace p102 := eq_true p102;replace q102 := eq_true q102
        go_wp2
        repeat (go_quiet (fail);try go_wp2)
        go_ret
        exact ⟨by first | rfl | (simp only [IntKind.wrap_i64,wrap64];done) | (simp;done) | (simp [*];done),by repeat (first | exact Drawn0.refl _ | apply Drawn0.step)⟩
      ·rw [if_neg c6] at H;exact absurd H (by simp)
     ·rw [if_neg c5] at H;exact absurd H (by simp)
    ·rw [if_neg c4] at H;have c4b0 : decide (x5_1 < (l0.length : Int)) = false := decide_eq_false c4;clear c4;obtain rfl := Option.some.inj H
     go_wp2
     repeat (go_quiet (fail);try go_wp2)
     go_ret
     exact ⟨by first | rfl | (simp only [IntKind.wrap_i64,wrap64];done) | (simp;done) | (simp [*];done),by repeat (first | exact Drawn0.refl _ | apply Drawn0.step)⟩
 ·rw [if_neg c3] at H;have c3b0 : ((l0.length : Int) == (l1.length : Int)) = false := beq_eq_false_iff_ne.mpr c3;have c3b1 : ((l0.length : Int) != (l1.length : Int)) = true := bne_iff_ne.mpr c3
  have c3b2 : (l0.length == l1.length) = false := by first | simpa using c3 | (simp at c3 ⊢;omega)
  obtain rfl := Option.some.inj H
  go_enter Try.func34,Try.ntmps34
  go_wp2
  repeat (go_quiet (fail);try go_wp2)
  go_ret
  exact ⟨by first | rfl | (simp only [IntKind.wrap_i64,wrap64];done) | (simp;done) | (simp [*];done),by repeat (first | exact Drawn0.refl _ | apply Drawn0.step)⟩
end Go.Proofs.Ytidkniacmcbgiaa.G
end

section
namespace Go.Proofs.Ytidkniacmcbgiaa.G
open Go.RowKit Go.Proofs.YtidkniacmcbgiaaW.PrintWords Go.Proofs.YtidkniacmcbgiaaW.PrintLast Go.Proofs.YtidkniacmcbgiaaW.PrintMore
attribute [local go_sem] max2_int min2_int max_two min_two max_three min_three max_four min_four
set_option linter.unusedVariables false
set_option linter.unusedSimpArgs false
def laws_eqEntry.f (a0_0 : Int) (a0_1 : Int) (a0_2 : Bool) (a1_0 : Int) (a1_1 : Int) (a1_2 : Bool) : Option (Bool) := if a0_0 = a1_0 then (if a0_1 = a1_1 then (if (a0_2 != a1_2) = true then (some false) else (some true)) else (some false)) else (some false)
set_option maxHeartbeats 8000000 in
set_option maxRecDepth 100000 in
theorem laws_eqEntry.calls (a0_0 : Int) (a0_1 : Int) (a0_2 : Bool) (a1_0 : Int) (a1_1 : Int) (a1_2 : Bool) (r : Bool) (w : World) (h : laws_eqEntry.f a0_0 a0_1 a0_2 a1_0 a1_1 a1_2 = some r) :
  Calls Try.prog 73 #[.agg #[.int .i64 a0_0,.int .i64 a0_1,.bool a0_2],.agg #[.int .i64 a1_0,.int .i64 a1_1,.bool a1_2]] w fun e w' => e = .returned (.bool r) ∧ Below w.heap.size w w' := by
 have hu73 := Try.underlying73;have HB := Aside0.mk (Below.refl w.heap.size w);have H : (if a0_0 = a1_0 then (if a0_1 = a1_1 then (if (a0_2 != a1_2) = true then (some false) else (some true)) else (some false)) else (some false)) = some r := h;clear h
 by_cases c3 : a0_0 = a1_0
 ·rw [if_pos c3] at H;have c3b0 : (a0_0 == a1_0) = true := beq_iff_eq.mpr c3;have c3b1 : (a0_0 != a1_0) = false := bne_eq_false_iff_eq.mpr c3;clear c3
  by_cases c4 : a0_1 = a1_1
  ·rw [if_pos c4] at H;have c4b0 : (a0_1 == a1_1) = true := beq_iff_eq.mpr c4;have c4b1 : (a0_1 != a1_1) = false := bne_eq_false_iff_eq.mpr c4;clear c4
   by_cases c5 : (a0_2 != a1_2) = true
   ·rw [if_pos c5] at H;have c5b0 : (a0_2 != a1_2) = true := c5;(try (have c5b1 : decide (a0_2 = a1_2) = false := by simpa using c5));(try (have c5b2 : (a0_2 == a1_2) = false := by simpa using c5));(try (have c5b3 : ¬ (a0_2 = a1_2) := by simpa using c5));clear c5;obtain rfl := Option.some.inj H
    go_enter Try.func73,Try.ntmps73
    go_wp2_with (first | ((with_reducible refine gate_dst (N := 2) rfl ?_);refine box_event ?hg (N := 2) ?hd (cs := #[.int .i64 a0_0,.int .i64 a0_1,.bool a0_2]) (t := 73) ?hr ?_;(case hd => rfl);(case hg => rfl);(case hr => first | (go_simp;done) | (go_simp;rfl));intro gb101 hg w6 hbox hb;have n0_ := Aside0.mk (below_step (by repeat (first | (with_reducible first | exact HB.out | apply below_alloc | apply pw_below_drewN | apply below_drew1) | exact HB.out)) hb);have n1_ := Aside0.mk (hbox);have n2_ := Aside0.mk ((by rw [hg];exact (below_size (by repeat (first | (with_reducible first | exact HB.out | apply below_alloc | apply pw_below_drewN | apply below_drew1) | exact HB.out))) : w.heap.size ≤ gb101));have n3_ := Aside0.mk ((by rw [hg];exact (below_size (by repeat (first | (with_reducible first | exact HB.out | apply below_alloc | apply pw_below_drewN | apply below_drew1) | exact HB.out))) : w.heap.size ≤ gb101));clear HB;have HB := n0_;have BK101 := n1_;have GW101 := n2_;have GE101 := n3_;clear n0_ n1_ n2_ n3_;clear hb hbox hg) | ((with_reducible refine gate_dst (N := 3) rfl ?_);refine box_event ?hg (N := 3) ?hd (cs := #[.int .i64 a1_0,.int .i64 a1_1,.bool a1_2]) (t := 73) ?hr ?_;(case hd => rfl);(case hg => rfl);(case hr => first | (go_simp;done) | (go_simp;rfl));intro gb102 hg w7 hbox hb;have n0_ := Aside0.mk (blk_below (g := gb101) (o := .cells #[.int .i64 a0_0,.int .i64 a0_1,.bool a0_2] 73 (0,0)) (by (with_reducible repeat (first | refine blk_drewN ?_ _ | refine blk_drew ?_ | refine blk_alloc ?_ _));exact BK101.out) hb);have n1_ := Aside0.mk (below_step (by repeat (first | (with_reducible first | exact HB.out | apply below_alloc | apply pw_below_drewN | apply below_drew1 | refine below_set ?_ GE101.out) | exact HB.out)) hb);have n2_ := Aside0.mk (hbox);have n3_ := Aside0.mk ((by rw [hg];exact (below_size (by repeat (first | (with_reducible first | exact HB.out | apply below_alloc | apply pw_below_drewN | apply below_drew1 | refine below_set ?_ GE101.out) | exact HB.out))) : w.heap.size ≤ gb102));have n4_ := Aside0.mk ((by rw [hg];exact (below_size (by repeat (first | (with_reducible first | exact HB.out | apply below_alloc | apply pw_below_drewN | apply below_drew1 | refine below_set ?_ GE101.out) | exact HB.out))) : w.heap.size ≤ gb102));have n5_ := Aside0.mk ((by rw [hg];exact Nat.ne_of_lt (blk_lt (g := gb101) (o := .cells #[.int .i64 a0_0,.int .i64 a0_1,.bool a0_2] 73 (0,0)) (by (with_reducible repeat (first | refine blk_drewN ?_ _ | refine blk_drew ?_ | refine blk_alloc ?_ _));exact BK101.out)) : gb101 ≠ gb102));have n6_ := Aside0.mk ((by rw [hg];exact Nat.ne_of_gt (blk_lt (g := gb101) (o := .cells #[.int .i64 a0_0,.int .i64 a0_1,.bool a0_2] 73 (0,0)) (by (with_reducible repeat (first | refine blk_drewN ?_ _ | refine blk_drew ?_ | refine blk_alloc ?_ _));exact BK101.out)) : gb102 ≠ gb101));clear BK101;clear HB;have BK101 := n0_;have HB := n1_;have BK102 := n2_;have GW102 := n3_;have GE102 := n4_;have NB101_102 := n5_;have NB102_101 := n6_;clear n0_ n1_ n2_ n3_ n4_ n5_ n6_;clear hb hbox hg;have hnb8 := NB101_102.out;have hnc8 := NB102_101.out;have hcz9_0 : w7.cell? ⟨gb101,0,none⟩ = some (.int .i64 a0_0) := (blk_cell BK101.out 0).trans rfl;have hcz9_1 : w7.cell? ⟨gb101,1,none⟩ = some (.int .i64 a0_1) := (blk_cell BK101.out 1).trans rfl;have hcz9_2 : w7.cell? ⟨gb101,2,none⟩ = some (.bool a0_2) := (blk_cell BK101.out 2).trans rfl;have hfz9_0 := blk_frozen BK101.out 0;have hfz9_1 := blk_frozen BK101.out 1;have hfz9_2 := blk_frozen BK101.out 2;have hcz10_0 : w7.cell? ⟨gb102,0,none⟩ = some (.int .i64 a1_0) := (blk_cell BK102.out 0).trans rfl;have hcz10_1 : w7.cell? ⟨gb102,1,none⟩ = some (.int .i64 a1_1) := (blk_cell BK102.out 1).trans rfl;have hcz10_2 : w7.cell? ⟨gb102,2,none⟩ = some (.bool a1_2) := (blk_cell BK102.out 2).trans rfl;have hfz10_0 := blk_frozen BK102.out 0;have hfz10_1 := blk_frozen BK102.out 1;have hfz10_2 := blk_frozen BK102.out 2))
    go_ret
    exact ⟨by first | rfl | (simp [errW_none,errW_some,IntKind.wrap_i64,wrap64];done) | (simp [errW_none,errW_some] <;> rfl) | (simp [*,errW_none,errW_some] <;> rfl),by repeat (first | (with_reducible first | exact HB.out | apply below_alloc | apply pw_below_drewN | apply below_drew1 | refine below_set ?_ GE101.out | refine below_set ?_ GE102.out) | exact HB.out)⟩
   ·rw [if_neg c5] at H
    have c5b0 : (a0_2 != a1_2) = false := by simpa using c5
    (try (have c5b1 : decide (a0_2 = a1_2) = true := by simpa using c5));(try (have c5b2 : (a0_2 == a1_2) = true := by simpa using c5));clear c5;obtain rfl := Option.some.inj H
    go_enter Try.func73,Try.ntmps73
    go_wp2_with (first | ((with_reducible refine gate_dst (N := 2) rfl ?_);refine box_event ?hg (N := 2) ?hd (cs := #[.int .i64 a0_0,.int .i64 a0_1,.bool a0_2]) (t := 73) ?hr ?_;(case hd => rfl);(case hg => rfl);(case hr => first | (go_simp;done) | (go_simp;rfl));intro gb101 hg w11 hbox hb;have n0_ := Aside0.mk (below_step (by repeat (first | (with_reducible first | exact HB.out | apply below_alloc | apply pw_below_drewN | apply below_drew1) | exact HB.out)) hb);have n1_ := Aside0.mk (hbox);have n2_ := Aside0.mk ((by rw [hg];exact (below_size (by repeat (first | (with_reducible first | exact HB.out | apply below_alloc | apply pw_below_drewN | apply below_drew1) | exact HB.out))) : w.heap.size ≤ gb101));have n3_ := Aside0.mk ((by rw [hg];exact (below_size (by repeat (first | (with_reducible first | exact HB.out | apply below_alloc | apply pw_below_drewN | apply below_drew1) | exact HB.out))) : w.heap.size ≤ gb101));clear HB;have HB := n0_;have BK101 := n1_;have GW101 := n2_;have GE101 := n3_;clear n0_ n1_ n2_ n3_;clear hb hbox hg) | ((with_reducible refine gate_dst (N := 3) rfl ?_);refine box_event ?hg (N := 3) ?hd (cs := #[.int .i64 a1_0,.int .i64 a1_1,.bool a1_2]) (t := 73) ?hr ?_;(case hd => rfl);(case hg => rfl);(case hr => first | (go_simp;done) | (go_simp;rfl));intro gb102 hg w12 hbox hb;have n0_ := Aside0.mk (blk_below (g := gb101) (o := .cells #[.int .i64 a0_0,.int .i64 a0_1,.bool a0_2] 73 (0,0)) (by (with_reducible repeat (first | refine blk_drewN ?_ _ | refine blk_drew ?_ | refine blk_alloc ?_ _));exact BK101.out) hb);have n1_ := Aside0.mk (below_step (by repeat (first | (with_reducible first | exact HB.out | apply below_alloc | apply pw_below_drewN | apply below_drew1 | refine below_set ?_ GE101.out) | exact HB.out)) hb);have n2_ := Aside0.mk (hbox);have n3_ := Aside0.mk ((by rw [hg];exact (below_size (by repeat (first | (with_reducible first | exact HB.out | apply below_alloc | apply pw_below_drewN | apply below_drew1 | refine below_set ?_ GE101.out) | exact HB.out))) : w.heap.size ≤ gb102));have n4_ := Aside0.mk ((by rw [hg];exact (below_size (by repeat (first | (with_reducible first | exact HB.out | apply below_alloc | apply pw_below_drewN | apply below_drew1 | refine below_set ?_ GE101.out) | exact HB.out))) : w.heap.size ≤ gb102));have n5_ := Aside0.mk ((by rw [hg];exact Nat.ne_of_lt (blk_lt (g := gb101) (o := .cells #[.int .i64 a0_0,.int .i64 a0_1,.bool a0_2] 73 (0,0)) (by (with_reducible repeat (first | refine blk_drewN ?_ _ | refine blk_drew ?_ | refine blk_alloc ?_ _));exact BK101.out)) : gb101 ≠ gb102));have n6_ := Aside0.mk ((by rw [hg];exact Nat.ne_of_gt (blk_lt (g := gb101) (o := .cells #[.int .i64 a0_0,.int .i64 a0_1,.bool a0_2] 73 (0,0)) (by (with_reducible repeat (first | refine blk_drewN ?_ _ | refine blk_drew ?_ | refine blk_alloc ?_ _));exact BK101.out)) : gb102 ≠ gb101));clear BK101;clear HB;have BK101 := n0_;have HB := n1_;have BK102 := n2_;have GW102 := n3_;have GE102 := n4_;have NB101_102 := n5_;have NB102_101 := n6_;clear n0_ n1_ n2_ n3_ n4_ n5_ n6_;clear hb hbox hg;have hnb13 := NB101_102.out;have hnc13 := NB102_101.out;have hcz14_0 : w12.cell? ⟨gb101,0,none⟩ = some (.int .i64 a0_0) := (blk_cell BK101.out 0).trans rfl;have hcz14_1 : w12.cell? ⟨gb101,1,none⟩ = some (.int .i64 a0_1) := (blk_cell BK101.out 1).trans rfl;have hcz14_2 : w12.cell? ⟨gb101,2,none⟩ = some (.bool a0_2) := (blk_cell BK101.out 2).trans rfl;have hfz14_0 := blk_frozen BK101.out 0;have hfz14_1 := blk_frozen BK101.out 1;have hfz14_2 := blk_frozen BK101.out 2;have hcz15_0 : w12.cell? ⟨gb102,0,none⟩ = some (.int .i64 a1_0) := (blk_cell BK102.out 0).trans rfl;have hcz15_1 : w12.cell? ⟨gb102,1,none⟩ = some (.int .i64 a1_1) := (blk_cell BK102.out 1).trans rfl;have hcz15_2 : w12.cell? ⟨gb102,2,none⟩ = some (.bool a1_2) := (blk_cell BK102.out 2).trans rfl;have hfz15_0 := blk_frozen BK102.out 0;have hfz15_1 := blk_frozen BK102.out 1;have hfz15_2 := blk_frozen BK102.out 2))
    go_ret
    exact ⟨by first | rfl | (simp [errW_none,errW_some,IntKind.wrap_i64,wrap64];done) | (simp [errW_none,errW_some] <;> rfl) | (simp [*,errW_none,errW_some] <;> rfl),by repeat (first | (with_reducible first | exact HB.out | apply below_alloc | apply pw_below_drewN | apply below_drew1 | refine below_set ?_ GE101.out | refine below_set ?_ GE102.out) | exact HB.out)⟩
  ·rw [if_neg c4] at H;have c4b0 : (a0_1 == a1_1) = false := beq_eq_false_iff_ne.mpr c4;have c4b1 : (a0_1 != a1_1) = true := bne_iff_ne.mpr c4;obtain rfl := Option.some.inj H
   go_enter Try.func73,Try.ntmps73
   go_wp2_with (first | ((with_reducible refine gate_dst (N := 2) rfl ?_);refine box_event ?hg (N := 2) ?hd (cs := #[.int .i64 a0_0,.int .i64 a0_1,.bool a0_2]) (t := 73) ?hr ?_;(case hd => rfl);(case hg => rfl);(case hr => first | (go_simp;done) | (go_simp;rfl));intro gb101 hg w16 hbox hb;have n0_ := Aside0.mk (below_step (by repeat (first | (with_reducible first | exact HB.out | apply below_alloc | apply pw_below_drewN | apply below_drew1) | exact HB.out)) hb);have n1_ := Aside0.mk (hbox);have n2_ := Aside0.mk ((by rw [hg];exact (below_size (by repeat (first | (with_reducible first | exact HB.out | apply below_alloc | apply pw_below_drewN | apply below_drew1) | exact HB.out))) : w.heap.size ≤ gb101));have n3_ := Aside0.mk ((by rw [hg];exact (below_size (by repeat (first | (with_reducible first | exact HB.out | apply below_alloc | apply pw_below_drewN | apply below_drew1) | exact HB.out))) : w.heap.size ≤ gb101));clear HB;have HB := n0_;have BK101 := n1_;have GW101 := n2_;have GE101 := n3_;clear n0_ n1_ n2_ n3_;clear hb hbox hg) | ((with_reducible refine gate_dst (N := 3) rfl ?_);refine box_event ?hg (N := 3) ?hd (cs := #[.int .i64 a1_0,.int .i64 a1_1,.bool a1_2]) (t := 73) ?hr ?_;(case hd => rfl);(case hg => rfl);(case hr => first | (go_simp;done) | (go_simp;rfl));intro gb102 hg w17 hbox hb;have n0_ := Aside0.mk (blk_below (g := gb101) (o := .cells #[.int .i64 a0_0,.int .i64 a0_1,.bool a0_2] 73 (0,0)) (by (with_reducible repeat (first | refine blk_drewN ?_ _ | refine blk_drew ?_ | refine blk_alloc ?_ _));exact BK101.out) hb);have n1_ := Aside0.mk (below_step (by repeat (first | (with_reducible first | exact HB.out | apply below_alloc | apply pw_below_drewN | apply below_drew1 | refine below_set ?_ GE101.out) | exact HB.out)) hb);have n2_ := Aside0.mk (hbox);have n3_ := Aside0.mk ((by rw [hg];exact (below_size (by repeat (first | (with_reducible first | exact HB.out | apply below_alloc | apply pw_below_drewN | apply below_drew1 | refine below_set ?_ GE101.out) | exact HB.out))) : w.heap.size ≤ gb102));have n4_ := Aside0.mk ((by rw [hg];exact (below_size (by repeat (first | (with_reducible first | exact HB.out | apply below_alloc | apply pw_below_drewN | apply below_drew1 | refine below_set ?_ GE101.out) | exact HB.out))) : w.heap.size ≤ gb102));have n5_ := Aside0.mk ((by rw [hg];exact Nat.ne_of_lt (blk_lt (g := gb101) (o := .cells #[.int .i64 a0_0,.int .i64 a0_1,.bool a0_2] 73 (0,0)) (by (with_reducible repeat (first | refine blk_drewN ?_ _ | refine blk_drew ?_ | refine blk_alloc ?_ _));exact BK101.out)) : gb101 ≠ gb102));have n6_ := Aside0.mk ((by rw [hg];exact Nat.ne_of_gt (blk_lt (g := gb101) (o := .cells #[.int .i64 a0_0,.int .i64 a0_1,.bool a0_2] 73 (0,0)) (by (with_reducible repeat (first | refine blk_drewN ?_ _ | refine blk_drew ?_ | refine blk_alloc ?_ _));exact BK101.out)) : gb102 ≠ gb101));clear BK101;clear HB;have BK101 := n0_;have HB := n1_;have BK102 := n2_;have GW102 := n3_;have GE102 := n4_;have NB101_102 := n5_;have NB102_101 := n6_;clear n0_ n1_ n2_ n3_ n4_ n5_ n6_;clear hb hbox hg;have hnb18 := NB101_102.out;have hnc18 := NB102_101.out;have hcz19_0 : w17.cell? ⟨gb101,0,none⟩ = some (.int .i64 a0_0) := (blk_cell BK101.out 0).trans rfl;have hcz19_1 : w17.cell? ⟨gb101,1,none⟩ = some (.int .i64 a0_1) := (blk_cell BK101.out 1).trans rfl;have hcz19_2 : w17.cell? ⟨gb101,2,none⟩ = some (.bool a0_2) := (blk_cell BK101.out 2).trans rfl;have hfz19_0 := blk_frozen BK101.out 0;have hfz19_1 := blk_frozen BK101.out 1;have hfz19_2 := blk_frozen BK101.out 2;have hcz20_0 : w17.cell? ⟨gb102,0,none⟩ = some (.int .i64 a1_0) := (blk_cell BK102.out 0).trans rfl;have hcz20_1 : w17.cell? ⟨gb102,1,none⟩ = some (.int .i64 a1_1) := (blk_cell BK102.out 1).trans rfl;have hcz20_2 : w17.cell? ⟨gb102,2,none⟩ = some (.bool a1_2) := (blk_cell BK102.out 2).trans rfl;have hfz20_0 := blk_frozen BK102.out 0;have hfz20_1 := blk_frozen BK102.out 1;have hfz20_2 := blk_frozen BK102.out 2))
   go_ret
   exact ⟨by first | rfl | (simp [errW_none,errW_some,IntKind.wrap_i64,wrap64];done) | (simp [errW_none,errW_some] <;> rfl) | (simp [*,errW_none,errW_some] <;> rfl),by repeat (first | (with_reducible first | exact HB.out | apply below_alloc | apply pw_below_drewN | apply below_drew1 | refine below_set ?_ GE101.out | refine below_set ?_ GE102.out) | exact HB.out)⟩
 ·rw [if_neg c3] at H;have c3b0 : (a0_0 == a1_0) = false := beq_eq_false_iff_ne.mpr c3;have c3b1 : (a0_0 != a1_0) = true := bne_iff_ne.mpr c3;obtain rfl := Option.some.inj H
  go_enter Try.func73,Try.ntmps73
  go_wp2_with (first | ((with_reducible refine gate_dst (N := 2) rfl ?_);refine box_event ?hg (N := 2) ?hd (cs := #[.int .i64 a0_0,.int .i64 a0_1,.bool a0_2]) (t := 73) ?hr ?_;(case hd => rfl);(case hg => rfl);(case hr => first | (go_simp;done) | (go_simp;rfl));intro gb101 hg w21 hbox hb;have n0_ := Aside0.mk (below_step (by repeat (first | (with_reducible first | exact HB.out | apply below_alloc | apply pw_below_drewN | apply below_drew1) | exact HB.out)) hb);have n1_ := Aside0.mk (hbox);have n2_ := Aside0.mk ((by rw [hg];exact (below_size (by repeat (first | (with_reducible first | exact HB.out | apply below_alloc | apply pw_below_drewN | apply below_drew1) | exact HB.out))) : w.heap.size ≤ gb101));have n3_ := Aside0.mk ((by rw [hg];exact (below_size (by repeat (first | (with_reducible first | exact HB.out | apply below_alloc | apply pw_below_drewN | apply below_drew1) | exact HB.out))) : w.heap.size ≤ gb101));clear HB;have HB := n0_;have BK101 := n1_;have GW101 := n2_;have GE101 := n3_;clear n0_ n1_ n2_ n3_;clear hb hbox hg) | ((with_reducible refine gate_dst (N := 3) rfl ?_);refine box_event ?hg (N := 3) ?hd (cs := #[.int .i64 a1_0,.int .i64 a1_1,.bool a1_2]) (t := 73) ?hr ?_;(case hd => rfl);(case hg => rfl);(case hr => first | (go_simp;done) | (go_simp;rfl));intro gb102 hg w22 hbox hb;have n0_ := Aside0.mk (blk_below (g := gb101) (o := .cells #[.int .i64 a0_0,.int .i64 a0_1,.bool a0_2] 73 (0,0)) (by (with_reducible repeat (first | refine blk_drewN ?_ _ | refine blk_drew ?_ | refine blk_alloc ?_ _));exact BK101.out) hb);have n1_ := Aside0.mk (below_step (by repeat (first | (with_reducible first | exact HB.out | apply below_alloc | apply pw_below_drewN | apply below_drew1 | refine below_set ?_ GE101.out) | exact HB.out)) hb);have n2_ := Aside0.mk (hbox);have n3_ := Aside0.mk ((by rw [hg];exact (below_size (by repeat (first | (with_reducible first | exact HB.out | apply below_alloc | apply pw_below_drewN | apply below_drew1 | refine below_set ?_ GE101.out) | exact HB.out))) : w.heap.size ≤ gb102));have n4_ := Aside0.mk ((by rw [hg];exact (below_size (by repeat (first | (with_reducible first | exact HB.out | apply below_alloc | apply pw_below_drewN | apply below_drew1 | refine below_set ?_ GE101.out) | exact HB.out))) : w.heap.size ≤ gb102));have n5_ := Aside0.mk ((by rw [hg];exact Nat.ne_of_lt (blk_lt (g := gb101) (o := .cells #[.int .i64 a0_0,.int .i64 a0_1,.bool a0_2] 73 (0,0)) (by (with_reducible repeat (first | refine blk_drewN ?_ _ | refine blk_drew ?_ | refine blk_alloc ?_ _));exact BK101.out)) : gb101 ≠ gb102));have n6_ := Aside0.mk ((by rw [hg];exact Nat.ne_of_gt (blk_lt (g := gb101) (o := .cells #[.int .i64 a0_0,.int .i64 a0_1,.bool a0_2] 73 (0,0)) (by (with_reducible repeat (first | refine blk_drewN ?_ _ | refine blk_drew ?_ | refine blk_alloc ?_ _));exact BK101.out)) : gb102 ≠ gb101));clear BK101;clear HB;have BK101 := n0_;have HB := n1_;have BK102 := n2_;have GW102 := n3_;have GE102 := n4_;have NB101_102 := n5_;have NB102_101 := n6_;clear n0_ n1_ n2_ n3_ n4_ n5_ n6_;clear hb hbox hg;have hnb23 := NB101_102.out;have hnc23 := NB102_101.out;have hcz24_0 : w22.cell? ⟨gb101,0,none⟩ = some (.int .i64 a0_0) := (blk_cell BK101.out 0).trans rfl;have hcz24_1 : w22.cell? ⟨gb101,1,none⟩ = some (.int .i64 a0_1) := (blk_cell BK101.out 1).trans rfl;have hcz24_2 : w22.cell? ⟨gb101,2,none⟩ = some (.bool a0_2) := (blk_cell BK101.out 2).trans rfl;have hfz24_0 := blk_frozen BK101.out 0;have hfz24_1 := blk_frozen BK101.out 1;have hfz24_2 := blk_frozen BK101.out 2;have hcz25_0 : w22.cell? ⟨gb102,0,none⟩ = some (.int .i64 a1_0) := (blk_cell BK102.out 0).trans rfl;have hcz25_1 : w22.cell? ⟨gb102,1,none⟩ = some (.int .i64 a1_1) := (blk_cell BK102.out 1).trans rfl;have hcz25_2 : w22.cell? ⟨gb102,2,none⟩ = some (.bool a1_2) := (blk_cell BK102.out 2).trans rfl;have hfz25_0 := blk_frozen BK102.out 0;have hfz25_1 := blk_frozen BK102.out 1;have hfz25_2 := blk_frozen BK102.out 2))
  go_ret
  exact ⟨by first | rfl | (simp [errW_none,errW_some,IntKind.wrap_i64,wrap64];done) | (simp [errW_none,errW_some] <;> rfl) | (simp [*,errW_none,errW_some] <;> rfl),by repeat (first | (with_reducible first | exact HB.out | apply below_alloc | apply pw_below_drewN | apply below_drew1 | refine below_set ?_ GE101.out | refine below_set ?_ GE102.out) | exact HB.out)⟩
end Go.Proofs.Ytidkniacmcbgiaa.G
end

section
namespace Go.Proofs.Ytidkniacmcbgiaa.G
open Go.RowKit Go.Proofs.YtidkniacmcbgiaaW.PrintWords Go.Proofs.YtidkniacmcbgiaaW.PrintLast Go.Proofs.YtidkniacmcbgiaaW.PrintMore
attribute [local go_sem] max2_int min2_int max_two min_two max_three min_three max_four min_four
set_option linter.unusedVariables false
set_option linter.unusedSimpArgs false
def laws_eqLog.l0 : Nat → List (S73) → List (S73) → Int → Option (Bool)
 | 0,_,_,_ => none
 | k + 1,x0,x1,x5 => if x5 < (x0.length : Int) then (if 0 ≤ x5 then (if x5 < (x1.length : Int) then ((laws_eqEntry.f ((rd_T73 x0 x5).f0) ((rd_T73 x0 x5).f1) ((rd_T73 x0 x5).f2) ((rd_T73 x1 x5).f0) ((rd_T73 x1 x5).f1) ((rd_T73 x1 x5).f2)).bind fun t103 => (if t103 = true then (laws_eqLog.l0 k x0 x1 (wrap64 (x5 + 1))) else (some false))) else (none)) else (none)) else (some true)
def laws_eqLog.f (k : Nat) (l0 : List (S73)) (l1 : List (S73)) : Option (Bool) := if (l0.length : Int) = (l1.length : Int) then (laws_eqLog.l0 k l0 l1 0) else (some false)
def laws_eqLog.T6 : Bool × List (List Nat × List Nat) := (true,[([],[]),([],[]),([0,1],[0,1]),([2],[2]),([],[]),([],[]),([4,5],[4,5]),([6],[6]),([3,7],[3,7]),([8],[8])])
def laws_eqLog.B6 : List Nat := [0,0,3,7,0,0,48,112,255,511]
theorem laws_eqLog.tab6 : rtab .any (opsOf Try.f23 6) = laws_eqLog.T6 := by kernel_rfl
theorem laws_eqLog.bits6 : waitsOk laws_eqLog.T6.2 laws_eqLog.B6 = true := by kernel_rfl
set_option maxHeartbeats 8000000 in
set_option maxRecDepth 100000 in
theorem laws_eqLog.calls (k : Nat) (A0 : Option Addr) (c0 : Nat) (l0 : List (S73)) (A1 : Option Addr) (c1 : Nat) (l1 : List (S73)) (r : Bool) (w : World) (hr0 : Kd.C k73 w A0 l0.length l0) (hc0 : l0.length ≤ c0) (hr1 : Kd.C k73 w A1 l1.length l1) (hc1 : l1.length ≤ c1) (h : laws_eqLog.f k l0 l1 = some r) :
  Calls Try.prog 23 #[.slice A0 l0.length c0,.slice A1 l1.length c1] w fun e w' => e = .returned (.bool r) ∧ Below w.heap.size w w' := by
 have hu73 := Try.underlying73;have HR0 := Aside0.mk hr0;have HC0 := Aside0.mk hc0;clear hr0 hc0;have HR1 := Aside0.mk hr1;have HC1 := Aside0.mk hc1;clear hr1 hc1;have HB := Aside0.mk (Below.refl w.heap.size w);have H : (if (l0.length : Int) = (l1.length : Int) then (laws_eqLog.l0 k l0 l1 0) else (some false)) = some r := h;clear h
 by_cases c3 : (l0.length : Int) = (l1.length : Int)
 ·rw [if_pos c3] at H;have c3b0 : ((l0.length : Int) == (l1.length : Int)) = true := beq_iff_eq.mpr c3;have c3b1 : ((l0.length : Int) != (l1.length : Int)) = false := bne_eq_false_iff_eq.mpr c3
  have c3b2 : (l0.length == l1.length) = true := by first | simpa using c3 | (simp at c3 ⊢;omega)
  clear c3;have H' := Aside0.mk H;clear H
  go_enter Try.func23,Try.ntmps23
  go_wp2
  go_loopg [5] k (fun kq v5 w' => ∃ (x5_1 : Int),v5 = .int .i64 x5_1 ∧ Aside0 (laws_eqLog.l0 kq l0 l1 x5_1 = some r) ∧ Aside0 (kq ≤ k) ∧ Aside0 (Below w.heap.size w w'))
  case atStart => exact ⟨(0),(by first | rfl | (simp only [IntKind.wrap_i64,wrap64];done) | (simp;done) | (simp [*];done)),H',⟨Nat.le_refl _⟩,⟨by repeat (first | (with_reducible first | exact HB.out | apply below_alloc | apply pw_below_drewN | apply below_drew1) | exact HB.out)⟩⟩
  case round =>
   clear H';(try clear c1);(try clear c2);(try clear p2);(try clear c3);(try clear c3b0);(try clear c3b1);(try clear c3b2);obtain ⟨x5_1,rfl,HA,HK1,HB⟩ := hrel
   cases gk with
   | zero => exact absurd HA.out (by simp [laws_eqLog.l0])
   | succ k1 =>
    have H := HA.out;clear HA;simp only [laws_eqLog.l0] at H
    by_cases c4 : x5_1 < (l0.length : Int)
    ·rw [if_pos c4] at H;have c4b0 : decide (x5_1 < (l0.length : Int)) = true := decide_eq_true c4;clear c4
     by_cases c5 : 0 ≤ x5_1
     ·rw [if_pos c5] at H;have c5b0 : decide (0 ≤ x5_1) = true := decide_eq_true c5;clear c5
      by_cases c6 : x5_1 < (l1.length : Int)
      ·rw [if_pos c6] at H;have c6b0 : decide (x5_1 < (l1.length : Int)) = true := decide_eq_true c6;clear c6;replace H := Option.bind_eq_some_iff.mp H;obtain ⟨t103,A70,H⟩ := H;replace H : (if t103 = true then (laws_eqLog.l0 k1 l0 l1 (wrap64 (x5_1 + 1))) else (some false)) = some r := H;have A7 := Aside0.mk A70;clear A70
       by_cases c8 : t103 = true
       ·subst c8
        have H1 : (laws_eqLog.l0 k1 l0 l1 (wrap64 (x5_1 + 1))) = some r := by rw [if_pos rfl] at H;exact H
        clear H;have H := H1;clear H1;have H' := Aside0.mk H;clear H;(try go_wp2);have n0_ := Aside0.mk (below_drew1 HB.out);clear HB;have HB := n0_;clear n0_;have p101 : 0 ≤ (x5_1 : Int) := of_decide_eq_true (by first | (with_reducible assumption) | assumption);have q101 : x5_1 < (l0.length : Int) := of_decide_eq_true (by first | (with_reducible assumption) | assumption);obtain ⟨ad101,e101,hx101_0,hx101_1,hx101_2⟩ := at_T73 HR0.out x5_1 p101 q101;have hw101_2 := hx101_2;have hw101_1 := hx101_1;have hw101_0 := hx101_0;cases e101;replace hx101_0 := (HB.out.cell (World.block_lt_of_cell? w _ hx101_0)).trans hx101_0;replace hx101_1 := (HB.out.cell (World.block_lt_of_cell? w _ hx101_1)).trans hx101_1;replace hx101_2 := (HB.out.cell (World.block_lt_of_cell? w _ hx101_2)).trans hx101_2;replace p101 := eq_true p101;replace q101 := eq_true q101;have p102 : 0 ≤ (x5_1 : Int) := of_decide_eq_true (by first | (with_reducible assumption) | assumption);have q102 : x5_1 < (l1.length : Int) := of_decide_eq_true (by first | (with_reducible assumption) | assumption);obtain ⟨ad102,e102,hx102_0,hx102_1,hx102_2⟩ := at_T73 HR1.out x5_1 p102 q102;have hw102_2 := hx102_2;have hw102_1 := hx102_1;have hw102_0 := hx102_0;cases e102;replace hx102_0 := (HB.out.cell (World.block_lt_of_cell? w _ hx102_0)).trans hx102_0;replace hx102_1 := (HB.out.cell (World.block_lt_of_cell? w _ hx102_1)).trans hx102_1;replace hx102_2 := (HB.out.cell (World.block_lt_of_cell? w _ hx102_2)).trans hx102_2;replace p102 := eq_true p102;replace q102 := eq_true q102;refine start_ (n := 10) (S := fun w' => w'.cell? (ad101.add ((x5_1).toNat * 3)) = some (.int .i64 ((rd_T73 l0 x5_1).f0)) ∧ w'.cell? ⟨(ad101.add ((x5_1).toNat * 3)).block,(ad101.add ((x5_1).toNat * 3)).off + 1,none⟩ = some (.int .i64 ((rd_T73 l0 x5_1).f1)) ∧ w'.cell? ⟨(ad101.add ((x5_1).toNat * 3)).block,(ad101.add ((x5_1).toNat * 3)).off + 2,none⟩ = some (.bool ((rd_T73 l0 x5_1).f2)) ∧ w'.cell? (ad102.add ((x5_1).toNat * 3)) = some (.int .i64 ((rd_T73 l1 x5_1).f0)) ∧ w'.cell? ⟨(ad102.add ((x5_1).toNat * 3)).block,(ad102.add ((x5_1).toNat * 3)).off + 1,none⟩ = some (.int .i64 ((rd_T73 l1 x5_1).f1)) ∧ w'.cell? ⟨(ad102.add ((x5_1).toNat * 3)).block,(ad102.add ((x5_1).toNat * 3)).off + 2,none⟩ = some (.bool ((rd_T73 l1 x5_1).f2))) (ds := []) #[false,false,false,false,false,false,false,false,false,false] (by kernel_rfl) rfl rfl ⟨((HB.out.cell (World.block_lt_of_cell? w _ hw101_0)).trans hw101_0),((HB.out.cell (World.block_lt_of_cell? w _ hw101_1)).trans hw101_1),((HB.out.cell (World.block_lt_of_cell? w _ hw101_2)).trans hw101_2),((HB.out.cell (World.block_lt_of_cell? w _ hw102_0)).trans hw102_0),((HB.out.cell (World.block_lt_of_cell? w _ hw102_1)).trans hw102_1),((HB.out.cell (World.block_lt_of_cell? w _ hw102_2)).trans hw102_2)⟩ (fun hHeld => ?_);refine with_tabW laws_eqLog.tab6 laws_eqLog.bits6 (fun HT_ HW_ => ?_);generalize wr.drew = w9 at HB hx101_0 hx101_1 hx101_2 hx102_0 hx102_1 hx102_2 hHeld ⊢;refine pure_ (i := 0) (N := some 17) (v := ?_) (a' := ?_) #[true,false,false,false,false,false,false,false,false,false] rfl rfl (any_of HT_.out (by kernel_rfl)) (fun _ _ _ h => h) (Or.inl ⟨by rfl,?_⟩) ?_ ?_;rotate_left
        ·intro w';go_simp;with_reducible rfl
        rotate_left
        ·simp only [Act.put,List.setIfInBounds_toArray,List.set_cons_zero,List.set_cons_succ,i64_w,i32_w];rfl
        refine pure_ (i := 1) (N := some 18) (v := ?_) (a' := ?_) #[true,true,false,false,false,false,false,false,false,false] rfl rfl (any_of HT_.out (by kernel_rfl)) (fun _ _ _ h => h) (Or.inl ⟨by rfl,?_⟩) ?_ ?_;rotate_left
        ·intro w';go_simp;with_reducible rfl
        rotate_left
        ·simp only [Act.put,List.setIfInBounds_toArray,List.set_cons_zero,List.set_cons_succ,i64_w,i32_w];rfl
        refine pure_ (i := 2) (N := some 19) (v := ?_) (a' := ?_) #[true,true,true,false,false,false,false,false,false,false] rfl rfl (any_of HT_.out (by kernel_rfl)) (fun _ _ _ h => h) (Or.inl ⟨by rfl,?_⟩) ?_ ?_;rotate_left
        ·intro w';go_simp;with_reducible rfl
        rotate_left
        ·simp only [Act.put,List.setIfInBounds_toArray,List.set_cons_zero,List.set_cons_succ,i64_w,i32_w];rfl
        refine pure_ (i := 4) (N := some 21) (v := ?_) (a' := ?_) #[true,true,true,false,true,false,false,false,false,false] rfl rfl (any_of HT_.out (by kernel_rfl)) (fun _ _ _ h => h) (Or.inl ⟨by rfl,?_⟩) ?_ ?_;rotate_left
        ·intro w';go_simp;with_reducible rfl
        rotate_left
        ·simp only [Act.put,List.setIfInBounds_toArray,List.set_cons_zero,List.set_cons_succ,i64_w,i32_w];rfl
        refine pure_ (i := 5) (N := some 22) (v := ?_) (a' := ?_) #[true,true,true,false,true,true,false,false,false,false] rfl rfl (any_of HT_.out (by kernel_rfl)) (fun _ _ _ h => h) (Or.inl ⟨by rfl,?_⟩) ?_ ?_;rotate_left
        ·intro w';go_simp;with_reducible rfl
        rotate_left
        ·simp only [Act.put,List.setIfInBounds_toArray,List.set_cons_zero,List.set_cons_succ,i64_w,i32_w];rfl
        refine pure_ (i := 6) (N := some 23) (v := ?_) (a' := ?_) #[true,true,true,false,true,true,true,false,false,false] rfl rfl (any_of HT_.out (by kernel_rfl)) (fun _ _ _ h => h) (Or.inl ⟨by rfl,?_⟩) ?_ ?_;rotate_left
        ·intro w';go_simp;with_reducible rfl
        rotate_left
        ·simp only [Act.put,List.setIfInBounds_toArray,List.set_cons_zero,List.set_cons_succ,i64_w,i32_w];rfl
        refine take_ (i := 3) (N := some 20) (v := ?_) (a' := ?_) #[true,true,true,true,true,true,true,false,false,false] rfl rfl (take_ofW HT_.out HW_.out (by kernel_rfl)) (fun _ _ _ h => h) (Or.inl ⟨by rfl,?_⟩) hHeld ?_ ?_;rotate_left
        ·rintro w' ⟨s0,s1,s2,s3,s4,s5⟩
         go_simp;with_reducible rfl
        rotate_left
        ·simp only [Act.put,List.setIfInBounds_toArray,List.set_cons_zero,List.set_cons_succ,i64_w,i32_w];rfl
        refine take_ (i := 7) (N := some 24) (v := ?_) (a' := ?_) #[true,true,true,true,true,true,true,true,false,false] rfl rfl (take_ofW HT_.out HW_.out (by kernel_rfl)) (fun _ _ _ h => h) (Or.inl ⟨by rfl,?_⟩) hHeld ?_ ?_;rotate_left
        ·rintro w' ⟨s0,s1,s2,s3,s4,s5⟩
         go_simp;with_reducible rfl
        rotate_left
        ·simp only [Act.put,List.setIfInBounds_toArray,List.set_cons_zero,List.set_cons_succ,i64_w,i32_w];rfl
        refine one_ (i := 8) (N := some 25) #[true,true,true,true,true,true,true,true,true,false] rfl rfl (one_of HT_.out (by kernel_rfl)) (by decide) (fun K hK => ?_);refine goes_ Try.func73 (by kernel_rfl) rfl #[.agg #[.int .i64 ((rd_T73 l0 x5_1).f0),.int .i64 ((rd_T73 l0 x5_1).f1),.bool ((rd_T73 l0 x5_1).f2)],.agg #[.int .i64 ((rd_T73 l1 x5_1).f0),.int .i64 ((rd_T73 l1 x5_1).f1),.bool ((rd_T73 l1 x5_1).f2)]] (by rfl) rfl rfl (by (try simp only [List.map_toArray,List.map_cons,List.map_nil]);first | done | rfl | (simp only [List.length_drop,List.length_take];rfl)) ?_
        with_reducible refine (laws_eqEntry.calls ((rd_T73 l0 x5_1).f0) ((rd_T73 l0 x5_1).f1) ((rd_T73 l0 x5_1).f2) ((rd_T73 l1 x5_1).f0) ((rd_T73 l1 x5_1).f1) ((rd_T73 l1 x5_1).f2) true _ A7.out).mono ?_
        rintro e w10 ⟨rfl,hb⟩
        refine ⟨_,rfl,?_⟩;have n0_ := Aside0.mk (below_step (by repeat (first | (with_reducible first | exact HB.out | apply below_alloc | apply pw_below_drewN | apply below_drew1) | exact HB.out)) hb);clear HB;have HB := n0_;clear n0_;(try clear hb);(try clear hb2);(try clear hk);(try clear hi);refine hK.out _ _ ⟨((HB.out.cell (World.block_lt_of_cell? w _ hw101_0)).trans hw101_0),((HB.out.cell (World.block_lt_of_cell? w _ hw101_1)).trans hw101_1),((HB.out.cell (World.block_lt_of_cell? w _ hw101_2)).trans hw101_2),((HB.out.cell (World.block_lt_of_cell? w _ hw102_0)).trans hw102_0),((HB.out.cell (World.block_lt_of_cell? w _ hw102_1)).trans hw102_1),((HB.out.cell (World.block_lt_of_cell? w _ hw102_2)).trans hw102_2)⟩ (fun hHeld => ?_);clear hK K;refine norm_ (a' := ?_) ?_ ?_;rotate_left
        ·show Act.put _ (some 25) _ = _
         simp only [Act.put,List.setIfInBounds_toArray,List.set_cons_zero,List.set_cons_succ,i64_w,i32_w];rfl
        refine pure_ (i := 9) (N := some 26) (v := ?_) (a' := ?_) #[true,true,true,true,true,true,true,true,true,true] rfl rfl (any_of HT_.out (by kernel_rfl)) (fun _ _ _ h => h) (Or.inl ⟨by rfl,?_⟩) ?_ ?_;rotate_left
        ·intro w';go_simp;with_reducible rfl
        rotate_left
        ·simp only [Act.put,List.setIfInBounds_toArray,List.set_cons_zero,List.set_cons_succ,i64_w,i32_w];rfl
        refine done_ (done_of HT_.out (by kernel_rfl)) ?_;(try go_wp2)
        go_roundg k1
        case measure => have := HK1.out;omega
        case rel => exact ⟨(wrap64 (x5_1 + 1)),(by first | rfl | (simp only [IntKind.wrap_i64,wrap64];done) | (simp;done) | (simp [*];done)),H',⟨by have := HK1.out;omega⟩,⟨by repeat (first | (with_reducible first | exact HB.out | apply below_alloc | apply pw_below_drewN | apply below_drew1) | exact HB.out)⟩⟩
       ·replace c8 := Bool.eq_false_iff.mpr c8;subst c8
        have H1 : (some false) = some r := by rw [if_neg (show ¬ (false = true) by decide)] at H;exact H
        clear H;have H := H1;clear H1;obtain rfl := Option.some.inj H;(try go_wp2);have n0_ := Aside0.mk (below_drew1 HB.out);clear HB;have HB := n0_;clear n0_;have p101 : 0 ≤ (x5_1 : Int) := of_decide_eq_true (by first | (with_reducible assumption) | assumption);have q101 : x5_1 < (l0.length : Int) := of_decide_eq_true (by first | (with_reducible assumption) | assumption);obtain ⟨ad101,e101,hx101_0,hx101_1,hx101_2⟩ := at_T73 HR0.out x5_1 p101 q101;have hw101_2 := hx101_2;have hw101_1 := hx101_1;have hw101_0 := hx101_0;cases e101;replace hx101_0 := (HB.out.cell (World.block_lt_of_cell? w _ hx101_0)).trans hx101_0;replace hx101_1 := (HB.out.cell (World.block_lt_of_cell? w _ hx101_1)).trans hx101_1;replace hx101_2 := (HB.out.cell (World.block_lt_of_cell? w _ hx101_2)).trans hx101_2;replace p101 := eq_true p101;replace q101 := eq_true q101;have p102 : 0 ≤ (x5_1 : Int) := of_decide_eq_true (by first | (with_reducible assumption) | assumption);have q102 : x5_1 < (l1.length : Int) := of_decide_eq_true (by first | (with_reducible assumption) | assumption);obtain ⟨ad102,e102,hx102_0,hx102_1,hx102_2⟩ := at_T73 HR1.out x5_1 p102 q102;have hw102_2 := hx102_2;have hw102_1 := hx102_1;have hw102_0 := hx102_0;cases e102;replace hx102_0 := (HB.out.cell (World.block_lt_of_cell? w _ hx102_0)).trans hx102_0;replace hx102_1 := (HB.out.cell (World.block_lt_of_cell? w _ hx102_1)).trans hx102_1;replace hx102_2 := (HB.out.cell (World.block_lt_of_cell? w _ hx102_2)).trans hx102_2;replace p102 := eq_true p102;replace q102 := eq_true q102;refine start_ (n := 10) (S := fun w' => w'.cell? (ad101.add ((x5_1).toNat * 3)) = some (.int .i64 ((rd_T73 l0 x5_1).f0)) ∧ w'.cell? ⟨(ad101.add ((x5_1).toNat * 3)).block,(ad101.add ((x5_1).toNat * 3)).off + 1,none⟩ = some (.int .i64 ((rd_T73 l0 x5_1).f1)) ∧ w'.cell? ⟨(ad101.add ((x5_1).toNat * 3)).block,(ad101.add ((x5_1).toNat * 3)).off + 2,none⟩ = some (.bool ((rd_T73 l0 x5_1).f2)) ∧ w'.cell? (ad102.add ((x5_1).toNat * 3)) = some (.int .i64 ((rd_T73 l1 x5_1).f0)) ∧ w'.cell? ⟨(ad102.add ((x5_1).toNat * 3)).block,(ad102.add ((x5_1).toNat * 3)).off + 1,none⟩ = some (.int .i64 ((rd_T73 l1 x5_1).f1)) ∧ w'.cell? ⟨(ad102.add ((x5_1).toNat * 3)).block,(ad102.add ((x5_1).toNat * 3)).off + 2,none⟩ = some (.bool ((rd_T73 l1 x5_1).f2))) (ds := []) #[false,false,false,false,false,false,false,false,false,false] (by kernel_rfl) rfl rfl ⟨((HB.out.cell (World.block_lt_of_cell? w _ hw101_0)).trans hw101_0),((HB.out.cell (World.block_lt_of_cell? w _ hw101_1)).trans hw101_1),((HB.out.cell (World.block_lt_of_cell? w _ hw101_2)).trans hw101_2),((HB.out.cell (World.block_lt_of_cell? w _ hw102_0)).trans hw102_0),((HB.out.cell (World.block_lt_of_cell? w _ hw102_1)).trans hw102_1),((HB.out.cell (World.block_lt_of_cell? w _ hw102_2)).trans hw102_2)⟩ (fun hHeld => ?_);refine with_tabW laws_eqLog.tab6 laws_eqLog.bits6 (fun HT_ HW_ => ?_);generalize wr.drew = w11 at HB hx101_0 hx101_1 hx101_2 hx102_0 hx102_1 hx102_2 hHeld ⊢;refine pure_ (i := 0) (N := some 17) (v := ?_) (a' := ?_) #[true,false,false,false,false,false,false,false,false,false] rfl rfl (any_of HT_.out (by kernel_rfl)) (fun _ _ _ h => h) (Or.inl ⟨by rfl,?_⟩) ?_ ?_;rotate_left
        ·intro w';go_simp;with_reducible rfl
        rotate_left
        ·simp only [Act.put,List.setIfInBounds_toArray,List.set_cons_zero,List.set_cons_succ,i64_w,i32_w];rfl
        refine pure_ (i := 1) (N := some 18) (v := ?_) (a' := ?_) #[true,true,false,false,false,false,false,false,false,false] rfl rfl (any_of HT_.out (by kernel_rfl)) (fun _ _ _ h => h) (Or.inl ⟨by rfl,?_⟩) ?_ ?_;rotate_left
        ·intro w';go_simp;with_reducible rfl
        rotate_left
        ·simp only [Act.put,List.setIfInBounds_toArray,List.set_cons_zero,List.set_cons_succ,i64_w,i32_w];rfl
        refine pure_ (i := 2) (N := some 19) (v := ?_) (a' := ?_) #[true,true,true,false,false,false,false,false,false,false] rfl rfl (any_of HT_.out (by kernel_rfl)) (fun _ _ _ h => h) (Or.inl ⟨by rfl,?_⟩) ?_ ?_;rotate_left
        ·intro w';go_simp;with_reducible rfl
        rotate_left
        ·simp only [Act.put,List.setIfInBounds_toArray,List.set_cons_zero,List.set_cons_succ,i64_w,i32_w];rfl
        refine pure_ (i := 4) (N := some 21) (v := ?_) (a' := ?_) #[true,true,true,false,true,false,false,false,false,false] rfl rfl (any_of HT_.out (by kernel_rfl)) (fun _ _ _ h => h) (Or.inl ⟨by rfl,?_⟩) ?_ ?_;rotate_left
        ·intro w';go_simp;with_reducible rfl
        rotate_left
        ·simp only [Act.put,List.setIfInBounds_toArray,List.set_cons_zero,List.set_cons_succ,i64_w,i32_w];rfl
        refine pure_ (i := 5) (N := some 22) (v := ?_) (a' := ?_) #[true,true,true,false,true,true,false,false,false,false] rfl rfl (any_of HT_.out (by kernel_rfl)) (fun _ _ _ h => h) (Or.inl ⟨by rfl,?_⟩) ?_ ?_;rotate_left
        ·intro w';go_simp;with_reducible rfl
        rotate_left
        ·simp only [Act.put,List.setIfInBounds_toArray,List.set_cons_zero,List.set_cons_succ,i64_w,i32_w];rfl
        refine pure_ (i := 6) (N := some 23) (v := ?_) (a' := ?_) #[true,true,true,false,true,true,true,false,false,false] rfl rfl (any_of HT_.out (by kernel_rfl)) (fun _ _ _ h => h) (Or.inl ⟨by rfl,?_⟩) ?_ ?_;rotate_left
        ·intro w';go_simp;with_reducible rfl
        rotate_left
        ·simp only [Act.put,List.setIfInBounds_toArray,List.set_cons_zero,List.set_cons_succ,i64_w,i32_w];rfl
        refine take_ (i := 3) (N := some 20) (v := ?_) (a' := ?_) #[true,true,true,true,true,true,true,false,false,false] rfl rfl (take_ofW HT_.out HW_.out (by kernel_rfl)) (fun _ _ _ h => h) (Or.inl ⟨by rfl,?_⟩) hHeld ?_ ?_;rotate_left
        ·rintro w' ⟨s0,s1,s2,s3,s4,s5⟩
         go_simp;with_reducible rfl
        rotate_left
        ·simp only [Act.put,List.setIfInBounds_toArray,List.set_cons_zero,List.set_cons_succ,i64_w,i32_w];rfl
        refine take_ (i := 7) (N := some 24) (v := ?_) (a' := ?_) #[true,true,true,true,true,true,true,true,false,false] rfl rfl (take_ofW HT_.out HW_.out (by kernel_rfl)) (fun _ _ _ h => h) (Or.inl ⟨by rfl,?_⟩) hHeld ?_ ?_;rotate_left
        ·rintro w' ⟨s0,s1,s2,s3,s4,s5⟩
         go_simp;with_reducible rfl
        rotate_left
        ·simp only [Act.put,List.setIfInBounds_toArray,List.set_cons_zero,List.set_cons_succ,i64_w,i32_w];rfl
        refine one_ (i := 8) (N := some 25) #[true,true,true,true,true,true,true,true,true,false] rfl rfl (one_of HT_.out (by kernel_rfl)) (by decide) (fun K hK => ?_);refine goes_ Try.func73 (by kernel_rfl) rfl #[.agg #[.int .i64 ((rd_T73 l0 x5_1).f0),.int .i64 ((rd_T73 l0 x5_1).f1),.bool ((rd_T73 l0 x5_1).f2)],.agg #[.int .i64 ((rd_T73 l1 x5_1).f0),.int .i64 ((rd_T73 l1 x5_1).f1),.bool ((rd_T73 l1 x5_1).f2)]] (by rfl) rfl rfl (by (try simp only [List.map_toArray,List.map_cons,List.map_nil]);first | done | rfl | (simp only [List.length_drop,List.length_take];rfl)) ?_
        with_reducible refine (laws_eqEntry.calls ((rd_T73 l0 x5_1).f0) ((rd_T73 l0 x5_1).f1) ((rd_T73 l0 x5_1).f2) ((rd_T73 l1 x5_1).f0) ((rd_T73 l1 x5_1).f1) ((rd_T73 l1 x5_1).f2) false _ A7.out).mono ?_
        rintro e w12 ⟨rfl,hb⟩
        refine ⟨_,rfl,?_⟩;have n0_ := Aside0.mk (below_step (by repeat (first | (with_reducible first | exact HB.out | apply below_alloc | apply pw_below_drewN | apply below_drew1) | exact HB.out)) hb);clear HB;have HB := n0_;clear n0_;(try clear hb);(try clear hb2);(try clear hk);(try clear hi);refine hK.out _ _ ⟨((HB.out.cell (World.block_lt_of_cell? w _ hw101_0)).trans hw101_0),((HB.out.cell (World.block_lt_of_cell? w _ hw101_1)).trans hw101_1),((HB.out.cell (World.block_lt_of_cell? w _ hw101_2)).trans hw101_2),((HB.out.cell (World.block_lt_of_cell? w _ hw102_0)).trans hw102_0),((HB.out.cell (World.block_lt_of_cell? w _ hw102_1)).trans hw102_1),((HB.out.cell (World.block_lt_of_cell? w _ hw102_2)).trans hw102_2)⟩ (fun hHeld => ?_);clear hK K;refine norm_ (a' := ?_) ?_ ?_;rotate_left
        ·show Act.put _ (some 25) _ = _
         simp only [Act.put,List.setIfInBounds_toArray,List.set_cons_zero,List.set_cons_succ,i64_w,i32_w];rfl
        refine pure_ (i := 9) (N := some 26) (v := ?_) (a' := ?_) #[true,true,true,true,true,true,true,true,true,true] rfl rfl (any_of HT_.out (by kernel_rfl)) (fun _ _ _ h => h) (Or.inl ⟨by rfl,?_⟩) ?_ ?_;rotate_left
        ·intro w';go_simp;with_reducible rfl
        rotate_left
        ·simp only [Act.put,List.setIfInBounds_toArray,List.set_cons_zero,List.set_cons_succ,i64_w,i32_w];rfl
        refine done_ (done_of HT_.out (by kernel_rfl)) ?_;(try go_wp2)
        go_ret
        exact ⟨by first | rfl | (simp [errW_none,errW_some,IntKind.wrap_i64,wrap64];done) | (simp [errW_none,errW_some] <;> rfl) | (simp [*,errW_none,errW_some] <;> rfl),by repeat (first | (with_reducible first | exact HB.out | apply below_alloc | apply pw_below_drewN | apply below_drew1) | exact HB.out)⟩
      ·rw [if_neg c6] at H;exact absurd H (by simp)
     ·rw [if_neg c5] at H;exact absurd H (by simp)
    ·rw [if_neg c4] at H;have c4b0 : decide (x5_1 < (l0.length : Int)) = false := decide_eq_false c4;clear c4;obtain rfl := Option.some.inj H
     go_wp2
     go_ret
     exact ⟨by first | rfl | (simp [errW_none,errW_some,IntKind.wrap_i64,wrap64];done) | (simp [errW_none,errW_some] <;> rfl) | (simp [*,errW_none,errW_some] <;> rfl),by repeat (first | (with_reducible first | exact HB.out | apply below_alloc | apply pw_below_drewN | apply below_drew1) | exact HB.out)⟩
 ·rw [if_neg c3] at H;have c3b0 : ((l0.length : Int) == (l1.length : Int)) = false := beq_eq_false_iff_ne.mpr c3;have c3b1 : ((l0.length : Int) != (l1.length : Int)) = true := bne_iff_ne.mpr c3
  have c3b2 : (l0.length == l1.length) = false := by first | simpa using c3 | (simp at c3 ⊢;omega)
  obtain rfl := Option.some.inj H
  go_enter Try.func23,Try.ntmps23
  go_wp2
  go_ret
  exact ⟨by first | rfl | (simp [errW_none,errW_some,IntKind.wrap_i64,wrap64];done) | (simp [errW_none,errW_some] <;> rfl) | (simp [*,errW_none,errW_some] <;> rfl),by repeat (first | (with_reducible first | exact HB.out | apply below_alloc | apply pw_below_drewN | apply below_drew1) | exact HB.out)⟩
end Go.Proofs.Ytidkniacmcbgiaa.G
end

section
namespace Go.Proofs.Ytidkniacmcbgiaa.G
open Go.RowKit Go.Proofs.YtidkniacmcbgiaaW.PrintWords Go.Proofs.YtidkniacmcbgiaaW.PrintLast Go.Proofs.YtidkniacmcbgiaaW.PrintMore
attribute [local go_sem] max2_int min2_int max_two min_two max_three min_three max_four min_four
set_option linter.unusedVariables false
set_option linter.unusedSimpArgs false
def laws_eqLogS.l0 : Nat → List (List (S73)) → List (List (S73)) → Int → Option (Bool)
 | 0,_,_,_ => none
 | k + 1,x0,x1,x5 => if x5 < (x0.length : Int) then (if 0 ≤ x5 then (if x5 < (x1.length : Int) then ((laws_eqLog.f k (rd_L5 x0 x5) (rd_L5 x1 x5)).bind fun t103 => (if t103 = true then (laws_eqLogS.l0 k x0 x1 (wrap64 (x5 + 1))) else (some false))) else (none)) else (none)) else (some true)
def laws_eqLogS.f (k : Nat) (l0 : List (List (S73))) (l1 : List (List (S73))) : Option (Bool) := if (l0.length : Int) = (l1.length : Int) then (laws_eqLogS.l0 k l0 l1 0) else (some false)
def laws_eqLogS.T6 : Bool × List (List Nat × List Nat) := (true,[([],[]),([],[]),([0,1],[0,1]),([2],[2]),([],[]),([],[]),([4,5],[4,5]),([6],[6]),([3,7],[3,7]),([8],[8])])
def laws_eqLogS.B6 : List Nat := [0,0,3,7,0,0,48,112,255,511]
theorem laws_eqLogS.tab6 : rtab .any (opsOf Try.f55 6) = laws_eqLogS.T6 := by kernel_rfl
theorem laws_eqLogS.bits6 : waitsOk laws_eqLogS.T6.2 laws_eqLogS.B6 = true := by kernel_rfl
set_option maxHeartbeats 8000000 in
set_option maxRecDepth 100000 in
theorem laws_eqLogS.calls (k : Nat) (A0 : Option Addr) (c0 : Nat) (l0 : List (List (S73))) (A1 : Option Addr) (c1 : Nat) (l1 : List (List (S73))) (r : Bool) (w : World) (hr0 : Kd.C (Kd.slice 73 k73) w A0 l0.length l0) (hc0 : l0.length ≤ c0) (hr1 : Kd.C (Kd.slice 73 k73) w A1 l1.length l1) (hc1 : l1.length ≤ c1) (h : laws_eqLogS.f k l0 l1 = some r) :
  Calls Try.prog 55 #[.slice A0 l0.length c0,.slice A1 l1.length c1] w fun e w' => e = .returned (.bool r) ∧ Below w.heap.size w w' := by
 have HR0 := Aside0.mk hr0;have HC0 := Aside0.mk hc0;clear hr0 hc0;have HR1 := Aside0.mk hr1;have HC1 := Aside0.mk hc1;clear hr1 hc1;have HB := Aside0.mk (Below.refl w.heap.size w);have H : (if (l0.length : Int) = (l1.length : Int) then (laws_eqLogS.l0 k l0 l1 0) else (some false)) = some r := h;clear h
 by_cases c3 : (l0.length : Int) = (l1.length : Int)
 ·rw [if_pos c3] at H;have c3b0 : ((l0.length : Int) == (l1.length : Int)) = true := beq_iff_eq.mpr c3;have c3b1 : ((l0.length : Int) != (l1.length : Int)) = false := bne_eq_false_iff_eq.mpr c3
  have c3b2 : (l0.length == l1.length) = true := by first | simpa using c3 | (simp at c3 ⊢;omega)
  clear c3;have H' := Aside0.mk H;clear H
  go_enter Try.func55,Try.ntmps55
  go_wp2
  go_loopg [5] k (fun kq v5 w' => ∃ (x5_1 : Int),v5 = .int .i64 x5_1 ∧ Aside0 (laws_eqLogS.l0 kq l0 l1 x5_1 = some r) ∧ Aside0 (kq ≤ k) ∧ Aside0 (Below w.heap.size w w'))
  case atStart => exact ⟨(0),(by first | rfl | (simp only [IntKind.wrap_i64,wrap64];done) | (simp;done) | (simp [*];done)),H',⟨Nat.le_refl _⟩,⟨by repeat (first | (with_reducible first | exact HB.out | apply below_alloc | apply pw_below_drewN | apply below_drew1) | exact HB.out)⟩⟩
  case round =>
   clear H';(try clear c1);(try clear p2);(try clear c3);(try clear c3b0);(try clear c3b1);(try clear c3b2);obtain ⟨x5_1,rfl,HA,HK1,HB⟩ := hrel
   cases gk with
   | zero => exact absurd HA.out (by simp [laws_eqLogS.l0])
   | succ k1 =>
    have H := HA.out;clear HA;simp only [laws_eqLogS.l0] at H
    by_cases c4 : x5_1 < (l0.length : Int)
    ·rw [if_pos c4] at H;have c4b0 : decide (x5_1 < (l0.length : Int)) = true := decide_eq_true c4;clear c4
     by_cases c5 : 0 ≤ x5_1
     ·rw [if_pos c5] at H;have c5b0 : decide (0 ≤ x5_1) = true := decide_eq_true c5;clear c5
      by_cases c6 : x5_1 < (l1.length : Int)
      ·rw [if_pos c6] at H;have c6b0 : decide (x5_1 < (l1.length : Int)) = true := decide_eq_true c6;clear c6;replace H := Option.bind_eq_some_iff.mp H;obtain ⟨t103,A70,H⟩ := H;replace H : (if t103 = true then (laws_eqLogS.l0 k1 l0 l1 (wrap64 (x5_1 + 1))) else (some false)) = some r := H;have A7 := Aside0.mk A70;clear A70
       by_cases c8 : t103 = true
       ·subst c8
        have H1 : (laws_eqLogS.l0 k1 l0 l1 (wrap64 (x5_1 + 1))) = some r := by rw [if_pos rfl] at H;exact H
        clear H;have H := H1;clear H1;have H' := Aside0.mk H;clear H;(try go_wp2);have n0_ := Aside0.mk (below_drew1 HB.out);clear HB;have HB := n0_;clear n0_;have p101 : 0 ≤ (x5_1 : Int) := of_decide_eq_true (by first | (with_reducible assumption) | assumption);have q101 : x5_1 < (l0.length : Int) := of_decide_eq_true (by first | (with_reducible assumption) | assumption);obtain ⟨ad101,A101_0,c101_0,e101,hx101_0,hl101_0,hi101_0⟩ := at_L5 HR0.out x5_1 p101 q101;have hw101_0 := hx101_0;cases e101;replace hx101_0 := (HB.out.cell (World.block_lt_of_cell? w _ hx101_0)).trans hx101_0;have HR101_0 := Aside0.mk hi101_0;have HC101_0 := Aside0.mk hl101_0;clear hi101_0 hl101_0;replace p101 := eq_true p101;replace q101 := eq_true q101;have p102 : 0 ≤ (x5_1 : Int) := of_decide_eq_true (by first | (with_reducible assumption) | assumption);have q102 : x5_1 < (l1.length : Int) := of_decide_eq_true (by first | (with_reducible assumption) | assumption);obtain ⟨ad102,A102_0,c102_0,e102,hx102_0,hl102_0,hi102_0⟩ := at_L5 HR1.out x5_1 p102 q102;have hw102_0 := hx102_0;cases e102;replace hx102_0 := (HB.out.cell (World.block_lt_of_cell? w _ hx102_0)).trans hx102_0;have HR102_0 := Aside0.mk hi102_0;have HC102_0 := Aside0.mk hl102_0;clear hi102_0 hl102_0;replace p102 := eq_true p102;replace q102 := eq_true q102;refine start_ (n := 10) (S := fun w' => w'.cell? (ad101.add (x5_1).toNat) = some (.slice A101_0 (rd_L5 l0 x5_1).length c101_0) ∧ w'.cell? (ad102.add (x5_1).toNat) = some (.slice A102_0 (rd_L5 l1 x5_1).length c102_0)) (ds := []) #[false,false,false,false,false,false,false,false,false,false] (by kernel_rfl) rfl rfl ⟨((HB.out.cell (World.block_lt_of_cell? w _ hw101_0)).trans hw101_0),((HB.out.cell (World.block_lt_of_cell? w _ hw102_0)).trans hw102_0)⟩ (fun hHeld => ?_);refine with_tabW laws_eqLogS.tab6 laws_eqLogS.bits6 (fun HT_ HW_ => ?_);generalize wr.drew = w9 at HB HR101_0 HR102_0 hx101_0 hx102_0 hHeld ⊢;refine pure_ (i := 0) (N := some 17) (v := ?_) (a' := ?_) #[true,false,false,false,false,false,false,false,false,false] rfl rfl (any_of HT_.out (by kernel_rfl)) (fun _ _ _ h => h) (Or.inl ⟨by rfl,?_⟩) ?_ ?_;rotate_left
        ·intro w';go_simp;with_reducible rfl
        rotate_left
        ·simp only [Act.put,List.setIfInBounds_toArray,List.set_cons_zero,List.set_cons_succ,i64_w,i32_w];rfl
        refine pure_ (i := 1) (N := some 18) (v := ?_) (a' := ?_) #[true,true,false,false,false,false,false,false,false,false] rfl rfl (any_of HT_.out (by kernel_rfl)) (fun _ _ _ h => h) (Or.inl ⟨by rfl,?_⟩) ?_ ?_;rotate_left
        ·intro w';go_simp;with_reducible rfl
        rotate_left
        ·simp only [Act.put,List.setIfInBounds_toArray,List.set_cons_zero,List.set_cons_succ,i64_w,i32_w];rfl
        refine pure_ (i := 2) (N := some 19) (v := ?_) (a' := ?_) #[true,true,true,false,false,false,false,false,false,false] rfl rfl (any_of HT_.out (by kernel_rfl)) (fun _ _ _ h => h) (Or.inl ⟨by rfl,?_⟩) ?_ ?_;rotate_left
        ·intro w';go_simp;with_reducible rfl
        rotate_left
        ·simp only [Act.put,List.setIfInBounds_toArray,List.set_cons_zero,List.set_cons_succ,i64_w,i32_w];rfl
        refine pure_ (i := 4) (N := some 21) (v := ?_) (a' := ?_) #[true,true,true,false,true,false,false,false,false,false] rfl rfl (any_of HT_.out (by kernel_rfl)) (fun _ _ _ h => h) (Or.inl ⟨by rfl,?_⟩) ?_ ?_;rotate_left
        ·intro w';go_simp;with_reducible rfl
        rotate_left
        ·simp only [Act.put,List.setIfInBounds_toArray,List.set_cons_zero,List.set_cons_succ,i64_w,i32_w];rfl
        refine pure_ (i := 5) (N := some 22) (v := ?_) (a' := ?_) #[true,true,true,false,true,true,false,false,false,false] rfl rfl (any_of HT_.out (by kernel_rfl)) (fun _ _ _ h => h) (Or.inl ⟨by rfl,?_⟩) ?_ ?_;rotate_left
        ·intro w';go_simp;with_reducible rfl
        rotate_left
        ·simp only [Act.put,List.setIfInBounds_toArray,List.set_cons_zero,List.set_cons_succ,i64_w,i32_w];rfl
        refine pure_ (i := 6) (N := some 23) (v := ?_) (a' := ?_) #[true,true,true,false,true,true,true,false,false,false] rfl rfl (any_of HT_.out (by kernel_rfl)) (fun _ _ _ h => h) (Or.inl ⟨by rfl,?_⟩) ?_ ?_;rotate_left
        ·intro w';go_simp;with_reducible rfl
        rotate_left
        ·simp only [Act.put,List.setIfInBounds_toArray,List.set_cons_zero,List.set_cons_succ,i64_w,i32_w];rfl
        refine take_ (i := 3) (N := some 20) (v := ?_) (a' := ?_) #[true,true,true,true,true,true,true,false,false,false] rfl rfl (take_ofW HT_.out HW_.out (by kernel_rfl)) (fun _ _ _ h => h) (Or.inl ⟨by rfl,?_⟩) hHeld ?_ ?_;rotate_left
        ·rintro w' ⟨s0,s1⟩
         go_simp;with_reducible rfl
        rotate_left
        ·simp only [Act.put,List.setIfInBounds_toArray,List.set_cons_zero,List.set_cons_succ,i64_w,i32_w];rfl
        refine take_ (i := 7) (N := some 24) (v := ?_) (a' := ?_) #[true,true,true,true,true,true,true,true,false,false] rfl rfl (take_ofW HT_.out HW_.out (by kernel_rfl)) (fun _ _ _ h => h) (Or.inl ⟨by rfl,?_⟩) hHeld ?_ ?_;rotate_left
        ·rintro w' ⟨s0,s1⟩
         go_simp;with_reducible rfl
        rotate_left
        ·simp only [Act.put,List.setIfInBounds_toArray,List.set_cons_zero,List.set_cons_succ,i64_w,i32_w];rfl
        refine one_ (i := 8) (N := some 25) #[true,true,true,true,true,true,true,true,true,false] rfl rfl (one_of HT_.out (by kernel_rfl)) (by decide) (fun K hK => ?_);refine goes_ Try.func23 (by kernel_rfl) rfl #[.slice A101_0 (rd_L5 l0 x5_1).length c101_0,.slice A102_0 (rd_L5 l1 x5_1).length c102_0] (by rfl) rfl rfl (by (try simp only [List.map_toArray,List.map_cons,List.map_nil]);first | done | rfl | (simp only [List.length_drop,List.length_take];rfl)) ?_
        with_reducible refine (laws_eqLog.calls k1 _ _ (rd_L5 l0 x5_1) _ _ (rd_L5 l1 x5_1) true _ ?side1 ?side2 ?side3 ?side4 A7.out).mono ?_
        (case side1 => repeat (first | exact (Kd.C_below HR101_0.out HB.out) | (with_reducible refine Kd.C_alloc ?_ _) | (with_reducible refine Kd.C_drewN ?_ _) | (with_reducible refine Kd.C_drew ?_)));(case side2 => exact HC101_0.out);(case side3 => repeat (first | exact (Kd.C_below HR102_0.out HB.out) | (with_reducible refine Kd.C_alloc ?_ _) | (with_reducible refine Kd.C_drewN ?_ _) | (with_reducible refine Kd.C_drew ?_)));(case side4 => exact HC102_0.out)
        rintro e w10 ⟨rfl,hb⟩
        refine ⟨_,rfl,?_⟩;have n0_ := Aside0.mk (below_step (by repeat (first | (with_reducible first | exact HB.out | apply below_alloc | apply pw_below_drewN | apply below_drew1) | exact HB.out)) hb);clear HB;have HB := n0_;clear n0_;(try clear hb);(try clear hb2);(try clear hk);(try clear hi);refine hK.out _ _ ⟨((HB.out.cell (World.block_lt_of_cell? w _ hw101_0)).trans hw101_0),((HB.out.cell (World.block_lt_of_cell? w _ hw102_0)).trans hw102_0)⟩ (fun hHeld => ?_);clear hK K;refine norm_ (a' := ?_) ?_ ?_;rotate_left
        ·show Act.put _ (some 25) _ = _
         simp only [Act.put,List.setIfInBounds_toArray,List.set_cons_zero,List.set_cons_succ,i64_w,i32_w];rfl
        refine pure_ (i := 9) (N := some 26) (v := ?_) (a' := ?_) #[true,true,true,true,true,true,true,true,true,true] rfl rfl (any_of HT_.out (by kernel_rfl)) (fun _ _ _ h => h) (Or.inl ⟨by rfl,?_⟩) ?_ ?_;rotate_left
        ·intro w';go_simp;with_reducible rfl
        rotate_left
        ·simp only [Act.put,List.setIfInBounds_toArray,List.set_cons_zero,List.set_cons_succ,i64_w,i32_w];rfl
        refine done_ (done_of HT_.out (by kernel_rfl)) ?_;(try go_wp2)
        go_roundg k1
        case measure => have := HK1.out;omega
        case rel => exact ⟨(wrap64 (x5_1 + 1)),(by first | rfl | (simp only [IntKind.wrap_i64,wrap64];done) | (simp;done) | (simp [*];done)),H',⟨by have := HK1.out;omega⟩,⟨by repeat (first | (with_reducible first | exact HB.out | apply below_alloc | apply pw_below_drewN | apply below_drew1) | exact HB.out)⟩⟩
       ·replace c8 := Bool.eq_false_iff.mpr c8;subst c8
        have H1 : (some false) = some r := by rw [if_neg (show ¬ (false = true) by decide)] at H;exact H
        clear H;have H := H1;clear H1;obtain rfl := Option.some.inj H;(try go_wp2);have n0_ := Aside0.mk (below_drew1 HB.out);clear HB;have HB := n0_;clear n0_;have p101 : 0 ≤ (x5_1 : Int) := of_decide_eq_true (by first | (with_reducible assumption) | assumption);have q101 : x5_1 < (l0.length : Int) := of_decide_eq_true (by first | (with_reducible assumption) | assumption);obtain ⟨ad101,A101_0,c101_0,e101,hx101_0,hl101_0,hi101_0⟩ := at_L5 HR0.out x5_1 p101 q101;have hw101_0 := hx101_0;cases e101;replace hx101_0 := (HB.out.cell (World.block_lt_of_cell? w _ hx101_0)).trans hx101_0;have HR101_0 := Aside0.mk hi101_0;have HC101_0 := Aside0.mk hl101_0;clear hi101_0 hl101_0;replace p101 := eq_true p101;replace q101 := eq_true q101;have p102 : 0 ≤ (x5_1 : Int) := of_decide_eq_true (by first | (with_reducible assumption) | assumption);have q102 : x5_1 < (l1.length : Int) := of_decide_eq_true (by first | (with_reducible assumption) | assumption);obtain ⟨ad102,A102_0,c102_0,e102,hx102_0,hl102_0,hi102_0⟩ := at_L5 HR1.out x5_1 p102 q102;have hw102_0 := hx102_0;cases e102;replace hx102_0 := (HB.out.cell (World.block_lt_of_cell? w _ hx102_0)).trans hx102_0;have HR102_0 := Aside0.mk hi102_0;have HC102_0 := Aside0.mk hl102_0;clear hi102_0 hl102_0;replace p102 := eq_true p102;replace q102 := eq_true q102;refine start_ (n := 10) (S := fun w' => w'.cell? (ad101.add (x5_1).toNat) = some (.slice A101_0 (rd_L5 l0 x5_1).length c101_0) ∧ w'.cell? (ad102.add (x5_1).toNat) = some (.slice A102_0 (rd_L5 l1 x5_1).length c102_0)) (ds := []) #[false,false,false,false,false,false,false,false,false,false] (by kernel_rfl) rfl rfl ⟨((HB.out.cell (World.block_lt_of_cell? w _ hw101_0)).trans hw101_0),((HB.out.cell (World.block_lt_of_cell? w _ hw102_0)).trans hw102_0)⟩ (fun hHeld => ?_);refine with_tabW laws_eqLogS.tab6 laws_eqLogS.bits6 (fun HT_ HW_ => ?_);generalize wr.drew = w11 at HB HR101_0 HR102_0 hx101_0 hx102_0 hHeld ⊢;refine pure_ (i := 0) (N := some 17) (v := ?_) (a' := ?_) #[true,false,false,false,false,false,false,false,false,false] rfl rfl (any_of HT_.out (by kernel_rfl)) (fun _ _ _ h => h) (Or.inl ⟨by rfl,?_⟩) ?_ ?_;rotate_left
        ·intro w';go_simp;with_reducible rfl
        rotate_left
        ·simp only [Act.put,List.setIfInBounds_toArray,List.set_cons_zero,List.set_cons_succ,i64_w,i32_w];rfl
        refine pure_ (i := 1) (N := some 18) (v := ?_) (a' := ?_) #[true,true,false,false,false,false,false,false,false,false] rfl rfl (any_of HT_.out (by kernel_rfl)) (fun _ _ _ h => h) (Or.inl ⟨by rfl,?_⟩) ?_ ?_;rotate_left
        ·intro w';go_simp;with_reducible rfl
        rotate_left
        ·simp only [Act.put,List.setIfInBounds_toArray,List.set_cons_zero,List.set_cons_succ,i64_w,i32_w];rfl
        refine pure_ (i := 2) (N := some 19) (v := ?_) (a' := ?_) #[true,true,true,false,false,false,false,false,false,false] rfl rfl (any_of HT_.out (by kernel_rfl)) (fun _ _ _ h => h) (Or.inl ⟨by rfl,?_⟩) ?_ ?_;rotate_left
        ·intro w';go_simp;with_reducible rfl
        rotate_left
        ·simp only [Act.put,List.setIfInBounds_toArray,List.set_cons_zero,List.set_cons_succ,i64_w,i32_w];rfl
        refine pure_ (i := 4) (N := some 21) (v := ?_) (a' := ?_) #[true,true,true,false,true,false,false,false,false,false] rfl rfl (any_of HT_.out (by kernel_rfl)) (fun _ _ _ h => h) (Or.inl ⟨by rfl,?_⟩) ?_ ?_;rotate_left
        ·intro w';go_simp;with_reducible rfl
        rotate_left
        ·simp only [Act.put,List.setIfInBounds_toArray,List.set_cons_zero,List.set_cons_succ,i64_w,i32_w];rfl
        refine pure_ (i := 5) (N := some 22) (v := ?_) (a' := ?_) #[true,true,true,false,true,true,false,false,false,false] rfl rfl (any_of HT_.out (by kernel_rfl)) (fun _ _ _ h => h) (Or.inl ⟨by rfl,?_⟩) ?_ ?_;rotate_left
        ·intro w';go_simp;with_reducible rfl
        rotate_left
        ·simp only [Act.put,List.setIfInBounds_toArray,List.set_cons_zero,List.set_cons_succ,i64_w,i32_w];rfl
        refine pure_ (i := 6) (N := some 23) (v := ?_) (a' := ?_) #[true,true,true,false,true,true,true,false,false,false] rfl rfl (any_of HT_.out (by kernel_rfl)) (fun _ _ _ h => h) (Or.inl ⟨by rfl,?_⟩) ?_ ?_;rotate_left
        ·intro w';go_simp;with_reducible rfl
        rotate_left
        ·simp only [Act.put,List.setIfInBounds_toArray,List.set_cons_zero,List.set_cons_succ,i64_w,i32_w];rfl
        refine take_ (i := 3) (N := some 20) (v := ?_) (a' := ?_) #[true,true,true,true,true,true,true,false,false,false] rfl rfl (take_ofW HT_.out HW_.out (by kernel_rfl)) (fun _ _ _ h => h) (Or.inl ⟨by rfl,?_⟩) hHeld ?_ ?_;rotate_left
        ·rintro w' ⟨s0,s1⟩
         go_simp;with_reducible rfl
        rotate_left
        ·simp only [Act.put,List.setIfInBounds_toArray,List.set_cons_zero,List.set_cons_succ,i64_w,i32_w];rfl
        refine take_ (i := 7) (N := some 24) (v := ?_) (a' := ?_) #[true,true,true,true,true,true,true,true,false,false] rfl rfl (take_ofW HT_.out HW_.out (by kernel_rfl)) (fun _ _ _ h => h) (Or.inl ⟨by rfl,?_⟩) hHeld ?_ ?_;rotate_left
        ·rintro w' ⟨s0,s1⟩
         go_simp;with_reducible rfl
        rotate_left
        ·simp only [Act.put,List.setIfInBounds_toArray,List.set_cons_zero,List.set_cons_succ,i64_w,i32_w];rfl
        refine one_ (i := 8) (N := some 25) #[true,true,true,true,true,true,true,true,true,false] rfl rfl (one_of HT_.out (by kernel_rfl)) (by decide) (fun K hK => ?_);refine goes_ Try.func23 (by kernel_rfl) rfl #[.slice A101_0 (rd_L5 l0 x5_1).length c101_0,.slice A102_0 (rd_L5 l1 x5_1).length c102_0] (by rfl) rfl rfl (by (try simp only [List.map_toArray,List.map_cons,List.map_nil]);first | done | rfl | (simp only [List.length_drop,List.length_take];rfl)) ?_
        with_reducible refine (laws_eqLog.calls k1 _ _ (rd_L5 l0 x5_1) _ _ (rd_L5 l1 x5_1) false _ ?side1 ?side2 ?side3 ?side4 A7.out).mono ?_
        (case side1 => repeat (first | exact (Kd.C_below HR101_0.out HB.out) | (with_reducible refine Kd.C_alloc ?_ _) | (with_reducible refine Kd.C_drewN ?_ _) | (with_reducible refine Kd.C_drew ?_)));(case side2 => exact HC101_0.out);(case side3 => repeat (first | exact (Kd.C_below HR102_0.out HB.out) | (with_reducible refine Kd.C_alloc ?_ _) | (with_reducible refine Kd.C_drewN ?_ _) | (with_reducible refine Kd.C_drew ?_)));(case side4 => exact HC102_0.out)
        rintro e w12 ⟨rfl,hb⟩
        refine ⟨_,rfl,?_⟩;have n0_ := Aside0.mk (below_step (by repeat (first | (with_reducible first | exact HB.out | apply below_alloc | apply pw_below_drewN | apply below_drew1) | exact HB.out)) hb);clear HB;have HB := n0_;clear n0_;(try clear hb);(try clear hb2);(try clear hk);(try clear hi);refine hK.out _ _ ⟨((HB.out.cell (World.block_lt_of_cell? w _ hw101_0)).trans hw101_0),((HB.out.cell (World.block_lt_of_cell? w _ hw102_0)).trans hw102_0)⟩ (fun hHeld => ?_);clear hK K;refine norm_ (a' := ?_) ?_ ?_;rotate_left
        ·show Act.put _ (some 25) _ = _
         simp only [Act.put,List.setIfInBounds_toArray,List.set_cons_zero,List.set_cons_succ,i64_w,i32_w];rfl
        refine pure_ (i := 9) (N := some 26) (v := ?_) (a' := ?_) #[true,true,true,true,true,true,true,true,true,true] rfl rfl (any_of HT_.out (by kernel_rfl)) (fun _ _ _ h => h) (Or.inl ⟨by rfl,?_⟩) ?_ ?_;rotate_left
        ·intro w';go_simp;with_reducible rfl
        rotate_left
        ·simp only [Act.put,List.setIfInBounds_toArray,List.set_cons_zero,List.set_cons_succ,i64_w,i32_w];rfl
        refine done_ (done_of HT_.out (by kernel_rfl)) ?_;(try go_wp2)
        go_ret
        exact ⟨by first | rfl | (simp [errW_none,errW_some,IntKind.wrap_i64,wrap64];done) | (simp [errW_none,errW_some] <;> rfl) | (simp [*,errW_none,errW_some] <;> rfl),by repeat (first | (with_reducible first | exact HB.out | apply below_alloc | apply pw_below_drewN | apply below_drew1) | exact HB.out)⟩
      ·rw [if_neg c6] at H;exact absurd H (by simp)
     ·rw [if_neg c5] at H;exact absurd H (by simp)
    ·rw [if_neg c4] at H;have c4b0 : decide (x5_1 < (l0.length : Int)) = false := decide_eq_false c4;clear c4;obtain rfl := Option.some.inj H
     go_wp2
     go_ret
     exact ⟨by first | rfl | (simp [errW_none,errW_some,IntKind.wrap_i64,wrap64];done) | (simp [errW_none,errW_some] <;> rfl) | (simp [*,errW_none,errW_some] <;> rfl),by repeat (first | (with_reducible first | exact HB.out | apply below_alloc | apply pw_below_drewN | apply below_drew1) | exact HB.out)⟩
 ·rw [if_neg c3] at H;have c3b0 : ((l0.length : Int) == (l1.length : Int)) = false := beq_eq_false_iff_ne.mpr c3;have c3b1 : ((l0.length : Int) != (l1.length : Int)) = true := bne_iff_ne.mpr c3
  have c3b2 : (l0.length == l1.length) = false := by first | simpa using c3 | (simp at c3 ⊢;omega)
  obtain rfl := Option.some.inj H
  go_enter Try.func55,Try.ntmps55
  go_wp2
  go_ret
  exact ⟨by first | rfl | (simp [errW_none,errW_some,IntKind.wrap_i64,wrap64];done) | (simp [errW_none,errW_some] <;> rfl) | (simp [*,errW_none,errW_some] <;> rfl),by repeat (first | (with_reducible first | exact HB.out | apply below_alloc | apply pw_below_drewN | apply below_drew1) | exact HB.out)⟩
end Go.Proofs.Ytidkniacmcbgiaa.G
end

section
namespace Go.Proofs.Ytidkniacmcbgiaa.G
open Go.RowKit Go.Proofs.YtidkniacmcbgiaaW.PrintWords Go.Proofs.YtidkniacmcbgiaaW.PrintLast Go.Proofs.YtidkniacmcbgiaaW.PrintMore
attribute [local go_sem] max2_int min2_int max_two min_two max_three min_three max_four min_four
set_option linter.unusedVariables false
set_option linter.unusedSimpArgs false
def laws_heldInt64S.l0 : Nat → List Int → Int → Int → Option (Int)
 | 0,_,_,_ => none
 | k + 1,x0,x1,x5 => if x5 < (x0.length : Int) then (if 0 ≤ x5 then (if (rd x0 x5) = x1 then (laws_heldInt64S.l0 k x0 (wrap64 (x1 + 1)) (wrap64 (x5 + 1))) else (some (-1))) else (none)) else (some x1)
def laws_heldInt64S.f (k : Nat) (l0 : List Int) (a1 : Int) : Option (Int) := laws_heldInt64S.l0 k l0 a1 0
set_option maxHeartbeats 8000000 in
set_option maxRecDepth 100000 in
theorem laws_heldInt64S.calls (k : Nat) (A0 : Option Addr) (c0 : Nat) (l0 : List Int) (a1 : Int) (r : Int) (w : World) (hr0 : Kd.C (Kd.int .i64) w A0 l0.length l0) (hc0 : l0.length ≤ c0) (h : laws_heldInt64S.f k l0 a1 = some r) :
  Calls Try.prog 36 #[.slice A0 l0.length c0,.int .i64 a1] w fun e w' => e = .returned (.int .i64 r) ∧ Drawn0 w w' := by
 have HR0 := Aside0.mk hr0;have HC0 := Aside0.mk hc0;clear hr0 hc0;have H : (laws_heldInt64S.l0 k l0 a1 0) = some r := h;clear h;have H' := Aside0.mk H;clear H
 go_enter Try.func36,Try.ntmps36
 go_wp2
 go_loopg [1,5] k (fun kq v1 v5 w' => ∃ (x1_1 : Int) (x5_1 : Int),v1 = .int .i64 x1_1 ∧ v5 = .int .i64 x5_1 ∧ Aside0 (laws_heldInt64S.l0 kq l0 x1_1 x5_1 = some r) ∧ Aside0 (kq ≤ k) ∧ Drawn0 w w')
 case atStart => exact ⟨(a1),(0),(by first | rfl | (simp only [IntKind.wrap_i64,wrap64];done) | (simp;done) | (simp [*];done)),(by first | rfl | (simp only [IntKind.wrap_i64,wrap64];done) | (simp;done) | (simp [*];done)),H',⟨Nat.le_refl _⟩,by repeat (first | exact Drawn0.refl _ | apply Drawn0.step)⟩
 case round =>
  clear H';(try clear p2);obtain ⟨x1_1,x5_1,rfl,rfl,HA,HK1,⟨m1,rfl⟩⟩ := hrel
  cases gk with
  | zero => exact absurd HA.out (by simp [laws_heldInt64S.l0])
  | succ k1 =>
   have H := HA.out;clear HA;simp only [laws_heldInt64S.l0] at H
   by_cases c3 : x5_1 < (l0.length : Int)
   ·rw [if_pos c3] at H;have c3b0 : decide (x5_1 < (l0.length : Int)) = true := decide_eq_true c3;clear c3
    by_cases c4 : 0 ≤ x5_1
    ·rw [if_pos c4] at H;have c4b0 : decide (0 ≤ x5_1) = true := decide_eq_true c4;clear c4
     by_cases c5 : (rd l0 x5_1) = x1_1
     ·rw [if_pos c5] at H;have c5b0 : ((rd l0 x5_1) == x1_1) = true := beq_iff_eq.mpr c5;have c5b1 : ((rd l0 x5_1) != x1_1) = false := bne_eq_false_iff_eq.mpr c5;clear c5;have H' := Aside0.mk H;clear H;have p101 : 0 ≤ (x5_1 : Int) := of_decide_eq_true (by first | (with_reducible assumption) | assumption);have q101 : x5_1 < (l0.length : Int) := of_decide_eq_true (by first | (with_reducible assumption) | assumption);obtain ⟨ad101,e101,hx101_0⟩ := Kd.at_int HR0.out x5_1 p101 q101;cases e101;replace p101 := eq_true p101;replace q101 := eq_true q101
      go_wp2
      go_roundg k1
      case measure => have := HK1.out;omega
      case rel => exact ⟨(wrap64 (x1_1 + 1)),(wrap64 (x5_1 + 1)),(by first | rfl | (simp only [IntKind.wrap_i64,wrap64];done) | (simp;done) | (simp [*];done)),(by first | rfl | (simp only [IntKind.wrap_i64,wrap64];done) | (simp;done) | (simp [*];done)),H',⟨by have := HK1.out;omega⟩,by repeat (first | exact Drawn0.refl _ | apply Drawn0.step)⟩
     ·rw [if_neg c5] at H;have c5b0 : ((rd l0 x5_1) == x1_1) = false := beq_eq_false_iff_ne.mpr c5;have c5b1 : ((rd l0 x5_1) != x1_1) = true := bne_iff_ne.mpr c5;obtain rfl := Option.some.inj H;have p101 : 0 ≤ (x5_1 : Int) := of_decide_eq_true (by first | (with_reducible assumption) | assumption);have q101 : x5_1 < (l0.length : Int) := of_decide_eq_true (by first | (with_reducible assumption) | assumption);obtain ⟨ad101,e101,hx101_0⟩ := Kd.at_int HR0.out x5_1 p101 q101;cases e101;replace p101 := eq_true p101;replace q101 := eq_true q101
      go_wp2
      go_ret
      exact ⟨by first | rfl | (simp only [IntKind.wrap_i64,wrap64];done) | (simp;done) | (simp [*];done),by repeat (first | exact Drawn0.refl _ | apply Drawn0.step)⟩
    ·rw [if_neg c4] at H;exact absurd H (by simp)
   ·rw [if_neg c3] at H;have c3b0 : decide (x5_1 < (l0.length : Int)) = false := decide_eq_false c3;clear c3;obtain rfl := Option.some.inj H
    go_wp2
    go_ret
    exact ⟨by first | rfl | (simp only [IntKind.wrap_i64,wrap64];done) | (simp;done) | (simp [*];done),by repeat (first | exact Drawn0.refl _ | apply Drawn0.step)⟩
end Go.Proofs.Ytidkniacmcbgiaa.G
end

section
namespace Go.Proofs.Ytidkniacmcbgiaa.G
open Go.RowKit Go.Proofs.YtidkniacmcbgiaaW.PrintWords Go.Proofs.YtidkniacmcbgiaaW.PrintLast Go.Proofs.YtidkniacmcbgiaaW.PrintMore
attribute [local go_sem] max2_int min2_int max_two min_two max_three min_three max_four min_four
set_option linter.unusedVariables false
set_option linter.unusedSimpArgs false
def laws_markInt64S.l0 : Nat → List Int → Int → Int → Option (Int × List Int)
 | 0,_,_,_ => none
 | k + 1,x0,x1,x5 => if x5 < (x0.length : Int) then (if 0 ≤ x5 then (laws_markInt64S.l0 k (x0.set (x5 : Int).toNat x1) (wrap64 (x1 + 1)) (wrap64 (x5 + 1))) else (none)) else (some (x1,x0))
def laws_markInt64S.f (k : Nat) (l0 : List Int) (a1 : Int) : Option (Int × List Int) := laws_markInt64S.l0 k l0 a1 0
set_option maxHeartbeats 8000000 in
set_option maxRecDepth 100000 in
theorem laws_markInt64S.calls (k : Nat) (P0_ : Nat → Prop) (u9000_ : Value) (l0 : List Int) (a1 : Int) (r1 : Int) (r2 : List Int) (w0 w : World) (hB : Below w0.heap.size w0 w) (ho0 : Kd.R (Kd.int .i64) 2 w w0.heap.size P0_ u9000_ l0) (h : laws_markInt64S.f k l0 a1 = some (r1,r2)) :
  Calls Try.prog 35 #[u9000_,.int .i64 a1] w fun e w' => e = .returned (.int .i64 r1) ∧ Kd.R (Kd.int .i64) 2 w' w0.heap.size (fun k_ => (P0_ k_ ∨ w.heap.size ≤ k_)) u9000_ r2 ∧ Below w0.heap.size w0 w' ∧ Kept w w' (fun k_ => P0_ k_) := by
 have HO0 := Aside0.mk (show Kd.R (Kd.int .i64) 2 w w0.heap.size (fun k_ => (P0_ k_ ∨ w.heap.size ≤ k_)) u9000_ l0 from Kd.R_mono ho0 (fun k_ hk => (.inl hk)));have HK := Aside0.mk (Kept.refl w (fun k_ => P0_ k_));have HW0 := Aside0.mk hB.size;have HB := Aside0.mk hB;clear hB;have H : (laws_markInt64S.l0 k l0 a1 0) = some (r1,r2) := h;clear h;have H' := Aside0.mk H;clear H
 go_enter Try.func35,Try.ntmps35
 go_wp2
 go_loopg [1,5] k (fun kq v1 v5 w' => ∃ (x0_1 : List Int) (x1_1 : Int) (x5_1 : Int),v1 = .int .i64 x1_1 ∧ v5 = .int .i64 x5_1 ∧ Aside0 (laws_markInt64S.l0 kq x0_1 x1_1 x5_1 = some (r1,r2)) ∧ Aside0 (kq ≤ k) ∧ Aside0 (Kd.R (Kd.int .i64) 2 w' w0.heap.size (fun k_ => (P0_ k_ ∨ w.heap.size ≤ k_)) u9000_ x0_1) ∧ Aside0 (Kept w w' (fun k_ => P0_ k_)) ∧ Aside0 (Below w0.heap.size w0 w'))
 case atStart => exact ⟨(l0),(a1),(0),(by first | rfl | (simp only [IntKind.wrap_i64,wrap64];done) | (simp;done) | (simp [*];done)),(by first | rfl | (simp only [IntKind.wrap_i64,wrap64];done) | (simp;done) | (simp [*];done)),H',⟨Nat.le_refl _⟩,⟨by (with_reducible repeat (first | apply Kd.R_alloc | apply Kd.R_drewN | apply Kd.R_drew));exact HO0.out⟩,⟨by repeat (first | (with_reducible first | exact HK.out | apply Kept.alloc | apply Kept.drewN | apply Kept.drew) | exact HK.out)⟩,⟨by repeat (first | (with_reducible first | exact HB.out | apply below_alloc | apply pw_below_drewN | apply below_drew1) | exact HB.out)⟩⟩
 case round =>
  clear H';(try clear p2);obtain ⟨x0_1,x1_1,x5_1,rfl,rfl,HA,HK1,HO_0,HK,HB⟩ := hrel
  cases gk with
  | zero => exact absurd HA.out (by simp [laws_markInt64S.l0])
  | succ k1 =>
   have H := HA.out;clear HA;simp only [laws_markInt64S.l0] at H
   by_cases c3 : x5_1 < (x0_1.length : Int)
   ·rw [if_pos c3] at H;have c3b0 : decide (x5_1 < (x0_1.length : Int)) = true := decide_eq_true c3;clear c3
    by_cases c4 : 0 ≤ x5_1
    ·rw [if_pos c4] at H;have c4b0 : decide (0 ≤ x5_1) = true := decide_eq_true c4;clear c4;obtain ⟨y101,hy101⟩ : ∃ y_ : List Int,y_ = (x0_1.set (x5_1 : Int).toNat x1_1) := ⟨_,rfl⟩
     replace H : (laws_markInt64S.l0 k1 y101 (wrap64 (x1_1 + 1)) (wrap64 (x5_1 + 1))) = some (r1,r2) := by first | (rw [hy101];with_reducible exact H) | (have H2_ := (Option.bind_some _ _).symm.trans H;rw [hy101];with_reducible exact H2_) | (have H2_ := (Option.bind_some _ _).symm.trans H;with_reducible exact H2_) | with_reducible exact H | (rw [hy101];exact H) | exact H
     have Ny101 := Aside0.mk hy101;clear hy101;have H' := Aside0.mk H;clear H;obtain ⟨Ao6,co6,eo6⟩ := Kd.R_slice HO_0.out;subst eo6;have p5 : 0 ≤ (x5_1 : Int) := of_decide_eq_true (by first | (with_reducible assumption) | assumption);have q5 : (x5_1 : Int) < ((x0_1.length : Int) : Int) := of_decide_eq_true (by first | (with_reducible assumption) | assumption);obtain ⟨go5,co5,eo5,gb5,gl5,cl5,HG5⟩ := Kd.R_form HO_0.out (by omega);(first | cases eo5 | (injection eo5 with ea_ en_ ec_;(first | subst ea_ | (injection ea_ with ea_;subst ea_));subst ec_;clear en_));have GB5 := Aside0.mk gb5;have GG5 := Aside0.mk HG5;clear gb5 gl5 HG5;have HMgo5 := Aside0.mk (show (P0_ go5 ∨ w.heap.size ≤ go5) from (HO_0.out.1 _ rfl));obtain ⟨hx5_0,hf5_0⟩ := Kd.R_celln 0 HO_0.out (x5_1 : Int) p5 q5;replace p5 := eq_true p5;replace q5 := eq_true q5;have HP7 := Kd.R_putg HO_0.out (x5_1 : Int) x1_1
     go_wp2_with (first | ((with_reducible refine gate_store (t := 2) (p := 15) rfl ?_);refine store_event (t := 2) (p := 15) (v := ?vo_w8) (w1 := (wr.setCell ⟨go5,(x5_1 : Int).toNat,none⟩ (.int .i64 x1_1))) ?hg ?ho ?hn ?hr ?_;(case ho => rfl);(case hg => rfl);(case hn => rfl);(case hr => first | (go_simp;done) | (go_simp;rfl));intro w8 hw;have hg : wr.grownBy w8 (some go5) := (by rw [hw];exact HP7.2);have hp_ : Kd.R (Kd.int .i64) 2 w8 w0.heap.size (fun k_ => (P0_ k_ ∨ w.heap.size ≤ k_)) (.slice (some ⟨go5,0,none⟩) x0_1.length co6) y101 := (by rw [hw,Ny101.out];exact HP7.1);clear HP7;have n0_ := Aside0.mk (hp_);have n1_ := Aside0.mk ((by rw [hw];exact below_set (HB.out) GB5.out : Below w0.heap.size w0 w8));have n2_ := Aside0.mk (Kept.of_grown (S := (fun k_ => P0_ k_)) hg (by repeat (first | (with_reducible first | exact HK.out | apply Kept.alloc | apply Kept.drewN | apply Kept.drew) | exact HK.out)) (fun k_ e_ => (HO_0.out.1 k_ e_)));clear HO_0;clear HB;clear HK;have HO_0 := n0_;have HB := n1_;have HK := n2_;clear n0_ n1_ n2_;clear hg hw hp_))
     go_roundg k1
     case measure => have := HK1.out;omega
     case rel => exact ⟨(y101),(wrap64 (x1_1 + 1)),(wrap64 (x5_1 + 1)),(by first | rfl | (simp only [IntKind.wrap_i64,wrap64];done) | (simp;done) | (simp [*];done)),(by first | rfl | (simp only [IntKind.wrap_i64,wrap64];done) | (simp;done) | (simp [*];done)),H',⟨by have := HK1.out;omega⟩,⟨by (with_reducible repeat (first | apply Kd.R_alloc | apply Kd.R_drewN | apply Kd.R_drew));exact HO_0.out⟩,⟨by repeat (first | (with_reducible first | exact HK.out | apply Kept.alloc | apply Kept.drewN | apply Kept.drew) | exact HK.out)⟩,⟨by repeat (first | (with_reducible first | exact HB.out | apply below_alloc | apply pw_below_drewN | apply below_drew1) | exact HB.out)⟩⟩
    ·rw [if_neg c4] at H;exact absurd H (by simp)
   ·rw [if_neg c3] at H;have c3b0 : decide (x5_1 < (x0_1.length : Int)) = false := decide_eq_false c3;clear c3;simp only [Option.some.injEq,Prod.mk.injEq] at H;obtain ⟨rfl,rfl⟩ := H;obtain ⟨Ao9,co9,eo9⟩ := Kd.R_slice HO_0.out;subst eo9
    go_wp2
    go_ret
    exact ⟨by first | rfl | (simp [errW_none,errW_some,IntKind.wrap_i64,wrap64];done) | (simp [errW_none,errW_some] <;> rfl) | (simp [*,errW_none,errW_some] <;> rfl),by (with_reducible repeat (first | apply Kd.R_alloc | apply Kd.R_drewN | apply Kd.R_drew));exact HO_0.out,by repeat (first | (with_reducible first | exact HB.out | apply below_alloc | apply pw_below_drewN | apply below_drew1) | exact HB.out),by repeat (first | (with_reducible first | exact HK.out | apply Kept.alloc | apply Kept.drewN | apply Kept.drew) | exact HK.out)⟩
end Go.Proofs.Ytidkniacmcbgiaa.G
end

section
namespace Go.Proofs.Ytidkniacmcbgiaa.G
open Go.RowKit Go.Proofs.YtidkniacmcbgiaaW.PrintWords Go.Proofs.YtidkniacmcbgiaaW.PrintLast Go.Proofs.YtidkniacmcbgiaaW.PrintMore
attribute [local go_sem] max2_int min2_int max_two min_two max_three min_three max_four min_four
set_option linter.unusedVariables false
set_option linter.unusedSimpArgs false
def laws_markLog.l0 : Nat → List (S73) → Int → Int → Option (Int × (List (S73)))
 | 0,_,_,_ => none
 | k + 1,x0,x1,x5 => if x5 < (x0.length : Int) then (if 0 ≤ x5 then ((some (x0.set (x5 : Int).toNat (⟨x1,(rd_T73 x0 x5).f1,(rd_T73 x0 x5).f2⟩ : S73) : List (S73))).bind fun y101 => ((some (y101.set (x5 : Int).toNat (⟨(rd_T73 y101 x5).f0,wrap64 (x1 + 1),(rd_T73 y101 x5).f2⟩ : S73) : List (S73))).bind fun y102 => (laws_markLog.l0 k (y102.set (x5 : Int).toNat (⟨(rd_T73 y102 x5).f0,(rd_T73 y102 x5).f1,((Int.tmod (wrap64 ((wrap64 (x1 + 1)) + 1)) 3) == 0)⟩ : S73)) (wrap64 ((wrap64 ((wrap64 (x1 + 1)) + 1)) + 1)) (wrap64 (x5 + 1))))) else (none)) else (some (x1,x0))
def laws_markLog.f (k : Nat) (l0 : List (S73)) (a1 : Int) : Option (Int × (List (S73))) := laws_markLog.l0 k l0 a1 0
set_option maxHeartbeats 8000000 in
set_option maxRecDepth 100000 in
theorem laws_markLog.calls (k : Nat) (P0_ : Nat → Prop) (u9000_ : Value) (l0 : List (S73)) (a1 : Int) (r1 : Int) (r2 : List (S73)) (w0 w : World) (hB : Below w0.heap.size w0 w) (ho0 : Kd.R k73 73 w w0.heap.size P0_ u9000_ l0) (h : laws_markLog.f k l0 a1 = some (r1,r2)) :
  Calls Try.prog 30 #[u9000_,.int .i64 a1] w fun e w' => e = .returned (.int .i64 r1) ∧ Kd.R k73 73 w' w0.heap.size (fun k_ => (P0_ k_ ∨ w.heap.size ≤ k_)) u9000_ r2 ∧ Below w0.heap.size w0 w' ∧ Kept w w' (fun k_ => P0_ k_) := by
 have HO0 := Aside0.mk (show Kd.R k73 73 w w0.heap.size (fun k_ => (P0_ k_ ∨ w.heap.size ≤ k_)) u9000_ l0 from Kd.R_mono ho0 (fun k_ hk => (.inl hk)));have HK := Aside0.mk (Kept.refl w (fun k_ => P0_ k_));have HW0 := Aside0.mk hB.size;have HB := Aside0.mk hB;clear hB;have H : (laws_markLog.l0 k l0 a1 0) = some (r1,r2) := h;clear h;have H' := Aside0.mk H;clear H
 go_enter Try.func30,Try.ntmps30
 go_wp2
 go_loopg [1,5] k (fun kq v1 v5 w' => ∃ (x0_1 : List (S73)) (x1_1 : Int) (x5_1 : Int),v1 = .int .i64 x1_1 ∧ v5 = .int .i64 x5_1 ∧ Aside0 (laws_markLog.l0 kq x0_1 x1_1 x5_1 = some (r1,r2)) ∧ Aside0 (kq ≤ k) ∧ Aside0 (Kd.R k73 73 w' w0.heap.size (fun k_ => (P0_ k_ ∨ w.heap.size ≤ k_)) u9000_ x0_1) ∧ Aside0 (Kept w w' (fun k_ => P0_ k_)) ∧ Aside0 (Below w0.heap.size w0 w'))
 case atStart => exact ⟨(l0),(a1),(0),(by first | rfl | (simp only [IntKind.wrap_i64,wrap64];done) | (simp;done) | (simp [*];done)),(by first | rfl | (simp only [IntKind.wrap_i64,wrap64];done) | (simp;done) | (simp [*];done)),H',⟨Nat.le_refl _⟩,⟨by (with_reducible repeat (first | apply Kd.R_alloc | apply Kd.R_drewN | apply Kd.R_drew));exact HO0.out⟩,⟨by repeat (first | (with_reducible first | exact HK.out | apply Kept.alloc | apply Kept.drewN | apply Kept.drew) | exact HK.out)⟩,⟨by repeat (first | (with_reducible first | exact HB.out | apply below_alloc | apply pw_below_drewN | apply below_drew1) | exact HB.out)⟩⟩
 case round =>
  clear H';(try clear p2);obtain ⟨x0_1,x1_1,x5_1,rfl,rfl,HA,HK1,HO_0,HK,HB⟩ := hrel
  cases gk with
  | zero => exact absurd HA.out (by simp [laws_markLog.l0])
  | succ k1 =>
   have H := HA.out;clear HA;simp only [laws_markLog.l0] at H
   by_cases c3 : x5_1 < (x0_1.length : Int)
   ·rw [if_pos c3] at H;have c3b0 : decide (x5_1 < (x0_1.length : Int)) = true := decide_eq_true c3;clear c3
    by_cases c4 : 0 ≤ x5_1
    ·rw [if_pos c4] at H;have c4b0 : decide (0 ≤ x5_1) = true := decide_eq_true c4;clear c4;obtain ⟨y101,hy101⟩ : ∃ y_ : List (S73),y_ = (x0_1.set (x5_1 : Int).toNat (⟨x1_1,(rd_T73 x0_1 x5_1).f1,(rd_T73 x0_1 x5_1).f2⟩ : S73)) := ⟨_,rfl⟩
     replace H : ((some (y101.set (x5_1 : Int).toNat (⟨(rd_T73 y101 x5_1).f0,wrap64 (x1_1 + 1),(rd_T73 y101 x5_1).f2⟩ : S73) : List (S73))).bind fun y102 => (laws_markLog.l0 k1 (y102.set (x5_1 : Int).toNat (⟨(rd_T73 y102 x5_1).f0,(rd_T73 y102 x5_1).f1,((Int.tmod (wrap64 ((wrap64 (x1_1 + 1)) + 1)) 3) == 0)⟩ : S73)) (wrap64 ((wrap64 ((wrap64 (x1_1 + 1)) + 1)) + 1)) (wrap64 (x5_1 + 1)))) = some (r1,r2) := by first | (rw [hy101];with_reducible exact H) | (have H2_ := (Option.bind_some _ _).symm.trans H;rw [hy101];with_reducible exact H2_) | (have H2_ := (Option.bind_some _ _).symm.trans H;with_reducible exact H2_) | with_reducible exact H | (rw [hy101];exact H) | exact H
     have Ny101 := Aside0.mk hy101;clear hy101;obtain ⟨y102,hy102⟩ : ∃ y_ : List (S73),y_ = (y101.set (x5_1 : Int).toNat (⟨(rd_T73 y101 x5_1).f0,wrap64 (x1_1 + 1),(rd_T73 y101 x5_1).f2⟩ : S73)) := ⟨_,rfl⟩
     replace H : (laws_markLog.l0 k1 (y102.set (x5_1 : Int).toNat (⟨(rd_T73 y102 x5_1).f0,(rd_T73 y102 x5_1).f1,((Int.tmod (wrap64 ((wrap64 (x1_1 + 1)) + 1)) 3) == 0)⟩ : S73)) (wrap64 ((wrap64 ((wrap64 (x1_1 + 1)) + 1)) + 1)) (wrap64 (x5_1 + 1))) = some (r1,r2) := by first | (rw [hy102];with_reducible exact H) | (have H2_ := (Option.bind_some _ _).symm.trans H;rw [hy102];with_reducible exact H2_) | (have H2_ := (Option.bind_some _ _).symm.trans H;with_reducible exact H2_) | with_reducible exact H | (rw [hy102];exact H) | exact H
     have Ny102 := Aside0.mk hy102;clear hy102;obtain ⟨y103,hy103⟩ : ∃ y_ : List (S73),y_ = (y102.set (x5_1 : Int).toNat (⟨(rd_T73 y102 x5_1).f0,(rd_T73 y102 x5_1).f1,((Int.tmod (wrap64 ((wrap64 (x1_1 + 1)) + 1)) 3) == 0)⟩ : S73)) := ⟨_,rfl⟩
     replace H : (laws_markLog.l0 k1 y103 (wrap64 ((wrap64 ((wrap64 (x1_1 + 1)) + 1)) + 1)) (wrap64 (x5_1 + 1))) = some (r1,r2) := by first | (rw [hy103];with_reducible exact H) | (have H2_ := (Option.bind_some _ _).symm.trans H;rw [hy103];with_reducible exact H2_) | (have H2_ := (Option.bind_some _ _).symm.trans H;with_reducible exact H2_) | with_reducible exact H | (rw [hy103];exact H) | exact H
     have Ny103 := Aside0.mk hy103;clear hy103;have H' := Aside0.mk H;clear H;obtain ⟨Ao8,co8,eo8⟩ := Kd.R_slice HO_0.out;subst eo8;have p5 : 0 ≤ (x5_1 : Int) := of_decide_eq_true (by first | (with_reducible assumption) | assumption);have q5 : (x5_1 : Int) < ((x0_1.length : Int) : Int) := of_decide_eq_true (by first | (with_reducible assumption) | assumption);obtain ⟨go5,co5,eo5,gb5,gl5,cl5,HG5⟩ := Kd.R_form HO_0.out (by omega);(first | cases eo5 | (injection eo5 with ea_ en_ ec_;(first | subst ea_ | (injection ea_ with ea_;subst ea_));subst ec_;clear en_));have GB5 := Aside0.mk gb5;have GG5 := Aside0.mk HG5;clear gb5 gl5 HG5;have HMgo5 := Aside0.mk (show (P0_ go5 ∨ w.heap.size ≤ go5) from (HO_0.out.1 _ rfl));obtain ⟨ce5,hcl5,hM5,hcc5,hfr5⟩ := Kd.R_elem HO_0.out z73 (x5_1 : Int) p5 q5;obtain rfl := k73_openM hM5;have hx5_0 : wr.cell? ⟨go5,(x5_1 : Int).toNat * 3,none⟩ = some (.int .i64 ((rd_T73 x0_1 x5_1).f0)) := hcc5 0 _ rfl;have hx5_1 : wr.cell? ⟨go5,(x5_1 : Int).toNat * 3 + 1,none⟩ = some (.int .i64 ((rd_T73 x0_1 x5_1).f1)) := hcc5 1 _ rfl;have hx5_2 : wr.cell? ⟨go5,(x5_1 : Int).toNat * 3 + 2,none⟩ = some (.bool ((rd_T73 x0_1 x5_1).f2)) := hcc5 2 _ rfl;have hf5_0 : wr.frozen? ⟨go5,(x5_1 : Int).toNat * 3,none⟩ = false := hfr5 0;have hf5_1 : wr.frozen? ⟨go5,(x5_1 : Int).toNat * 3 + 1,none⟩ = false := hfr5 1;have hf5_2 : wr.frozen? ⟨go5,(x5_1 : Int).toNat * 3 + 2,none⟩ = false := hfr5 2;(clear hcl5 hcc5 hfr5;(try clear hM5));replace p5 := eq_true p5;replace q5 := eq_true q5;have HX9 := Aside0.mk (show Kd.R k73 73 wr w0.heap.size (fun k_ => (P0_ k_ ∨ w.heap.size ≤ k_)) (.slice (some ⟨go5,0,none⟩) x0_1.length co8) x0_1 from (by (with_reducible repeat (first | apply Kd.R_alloc | apply Kd.R_drewN | apply Kd.R_drew));exact HO_0.out));obtain ⟨ce9,hcl9,hM9,hcc9,hfr9⟩ := Kd.R_elem HX9.out z73 (x5_1 : Int) (of_decide_eq_true (by first | (with_reducible assumption) | assumption)) (by have h_ : (x5_1 : Int) < ((x0_1.length : Int) : Int) := of_decide_eq_true (by first | (with_reducible assumption) | assumption);first | exact h_ | (have e_ := (Kd.R_reads' HO_0.out).1;omega) | simpa using h_);obtain rfl := k73_openM hM9;have HP9 := Kd.R_seg HX9.out (x5_1 : Int) (of_decide_eq_true (by first | (with_reducible assumption) | assumption)) (by have h_ : (x5_1 : Int) < ((x0_1.length : Int) : Int) := of_decide_eq_true (by first | (with_reducible assumption) | assumption);first | exact h_ | (have e_ := (Kd.R_reads' HO_0.out).1;omega) | simpa using h_) (seg := [.int .i64 x1_1]) (j := 0) hcl9 hcc9 (show 1 ≤ 3 from by decide) (x' := (⟨x1_1,(rd_T73 x0_1 x5_1).f1,(rd_T73 x0_1 x5_1).f2⟩ : S73)) (k73_mkM _ _ _ (⟨x1_1,(rd_T73 x0_1 x5_1).f1,(rd_T73 x0_1 x5_1).f2⟩ : S73) ) (fun _ hk => hk);have hx9_0 := hcc9 0 _ rfl;(try simp only [show (k73).sz = 3 from rfl,Nat.mul_one,Nat.add_zero] at hx9_0);have hf9_0 := hfr9 0;(try simp only [show (k73).sz = 3 from rfl,Nat.mul_one,Nat.add_zero] at hf9_0);(clear hcl9 hcc9 hfr9;(try clear hM9))
     go_wp2_with (first | ((with_reducible refine gate_store (t := 2) (p := 16) rfl ?_);refine store_event (t := 2) (p := 16) (v := ?vo_w10) (w1 := (wr.setCell ⟨go5,(x5_1 : Int).toNat * 3,none⟩ (.int .i64 x1_1))) ?hg ?ho ?hn ?hr ?_;(case ho => rfl);(case hg => rfl);(case hn => rfl);(case hr => first | (go_simp;done) | (go_simp;rfl));intro w10 hw;have hg : wr.grownBy w10 (some go5) := (by rw [hw];exact HP9.2);have hp_ : Kd.R k73 73 w10 w0.heap.size (fun k_ => (P0_ k_ ∨ w.heap.size ≤ k_)) (.slice (some ⟨go5,0,none⟩) x0_1.length co8) y101 := (by rw [hw,Ny101.out];exact HP9.1);clear HP9;have n0_ := Aside0.mk (hp_);have n1_ := Aside0.mk ((by rw [hw];exact below_set (HB.out) GB5.out : Below w0.heap.size w0 w10));have n2_ := Aside0.mk (Kept.of_grown (S := (fun k_ => P0_ k_)) hg (by repeat (first | (with_reducible first | exact HK.out | apply Kept.alloc | apply Kept.drewN | apply Kept.drew) | exact HK.out)) (fun k_ e_ => (HO_0.out.1 k_ e_)));clear HO_0;clear HB;clear HK;have HO_0 := n0_;have HB := n1_;have HK := n2_;clear n0_ n1_ n2_;clear hg hw hp_;have p6 : 0 ≤ (x5_1 : Int) := of_decide_eq_true (by first | (with_reducible assumption) | assumption);have q6 : (x5_1 : Int) < ((x0_1.length : Int) : Int) := of_decide_eq_true (by first | (with_reducible assumption) | assumption);obtain ⟨ce6,hcl6,hM6,hcc6,hfr6⟩ := Kd.R_elem HO_0.out z73 (x5_1 : Int) p6 q6;obtain rfl := k73_openM hM6;have hx6_0 : w10.cell? ⟨go5,(x5_1 : Int).toNat * 3,none⟩ = some (.int .i64 ((rd_T73 y101 x5_1).f0)) := hcc6 0 _ rfl;have hx6_1 : w10.cell? ⟨go5,(x5_1 : Int).toNat * 3 + 1,none⟩ = some (.int .i64 ((rd_T73 y101 x5_1).f1)) := hcc6 1 _ rfl;have hx6_2 : w10.cell? ⟨go5,(x5_1 : Int).toNat * 3 + 2,none⟩ = some (.bool ((rd_T73 y101 x5_1).f2)) := hcc6 2 _ rfl;have hf6_0 : w10.frozen? ⟨go5,(x5_1 : Int).toNat * 3,none⟩ = false := hfr6 0;have hf6_1 : w10.frozen? ⟨go5,(x5_1 : Int).toNat * 3 + 1,none⟩ = false := hfr6 1;have hf6_2 : w10.frozen? ⟨go5,(x5_1 : Int).toNat * 3 + 2,none⟩ = false := hfr6 2;(clear hcl6 hcc6 hfr6;(try clear hM6));replace p6 := eq_true p6;replace q6 := eq_true q6;have HX11 := Aside0.mk (show Kd.R k73 73 w10 w0.heap.size (fun k_ => (P0_ k_ ∨ w.heap.size ≤ k_)) (.slice (some ⟨go5,0,none⟩) x0_1.length co8) y101 from (by (with_reducible repeat (first | apply Kd.R_alloc | apply Kd.R_drewN | apply Kd.R_drew));exact HO_0.out));obtain ⟨ce11,hcl11,hM11,hcc11,hfr11⟩ := Kd.R_elem HX11.out z73 (x5_1 : Int) (of_decide_eq_true (by first | (with_reducible assumption) | assumption)) (by have h_ : (x5_1 : Int) < ((x0_1.length : Int) : Int) := of_decide_eq_true (by first | (with_reducible assumption) | assumption);first | exact h_ | (have e_ := (Kd.R_reads' HO_0.out).1;omega) | simpa using h_);obtain rfl := k73_openM hM11;have HP11 := Kd.R_seg HX11.out (x5_1 : Int) (of_decide_eq_true (by first | (with_reducible assumption) | assumption)) (by have h_ : (x5_1 : Int) < ((x0_1.length : Int) : Int) := of_decide_eq_true (by first | (with_reducible assumption) | assumption);first | exact h_ | (have e_ := (Kd.R_reads' HO_0.out).1;omega) | simpa using h_) (seg := [.int .i64 (wrap64 (x1_1 + 1))]) (j := 1) hcl11 hcc11 (show 2 ≤ 3 from by decide) (x' := (⟨(rd_T73 y101 x5_1).f0,wrap64 (x1_1 + 1),(rd_T73 y101 x5_1).f2⟩ : S73)) (k73_mkM _ _ _ (⟨(rd_T73 y101 x5_1).f0,wrap64 (x1_1 + 1),(rd_T73 y101 x5_1).f2⟩ : S73) ) (fun _ hk => hk);have hx11_1 := hcc11 1 _ rfl;(try simp only [show (k73).sz = 3 from rfl,Nat.mul_one,Nat.add_zero] at hx11_1);have hf11_1 := hfr11 1;(try simp only [show (k73).sz = 3 from rfl,Nat.mul_one,Nat.add_zero] at hf11_1);(clear hcl11 hcc11 hfr11;(try clear hM11))) | ((with_reducible refine gate_store (t := 2) (p := 23) rfl ?_);refine store_event (t := 2) (p := 23) (v := ?vo_w12) (w1 := (w10.setCell ⟨go5,(x5_1 : Int).toNat * 3 + 1,none⟩ (.int .i64 (wrap64 (x1_1 + 1))))) ?hg ?ho ?hn ?hr ?_;(case ho => rfl);(case hg => rfl);(case hn => rfl);(case hr => first | (go_simp;done) | (go_simp;rfl));intro w12 hw;have hg : w10.grownBy w12 (some go5) := (by rw [hw];exact HP11.2);have hp_ : Kd.R k73 73 w12 w0.heap.size (fun k_ => (P0_ k_ ∨ w.heap.size ≤ k_)) (.slice (some ⟨go5,0,none⟩) x0_1.length co8) y102 := (by rw [hw,Ny102.out];exact HP11.1);clear HP11;have n0_ := Aside0.mk (hp_);have n1_ := Aside0.mk ((by rw [hw];exact below_set (HB.out) GB5.out : Below w0.heap.size w0 w12));have n2_ := Aside0.mk (Kept.of_grown (S := (fun k_ => P0_ k_)) hg (by repeat (first | (with_reducible first | exact HK.out | apply Kept.alloc | apply Kept.drewN | apply Kept.drew) | exact HK.out)) (fun k_ e_ => (HO_0.out.1 k_ e_)));clear HO_0;clear HB;clear HK;have HO_0 := n0_;have HB := n1_;have HK := n2_;clear n0_ n1_ n2_;clear hg hw hp_;have p7 : 0 ≤ (x5_1 : Int) := of_decide_eq_true (by first | (with_reducible assumption) | assumption);have q7 : (x5_1 : Int) < ((x0_1.length : Int) : Int) := of_decide_eq_true (by first | (with_reducible assumption) | assumption);obtain ⟨ce7,hcl7,hM7,hcc7,hfr7⟩ := Kd.R_elem HO_0.out z73 (x5_1 : Int) p7 q7;obtain rfl := k73_openM hM7;have hx7_0 : w12.cell? ⟨go5,(x5_1 : Int).toNat * 3,none⟩ = some (.int .i64 ((rd_T73 y102 x5_1).f0)) := hcc7 0 _ rfl;have hx7_1 : w12.cell? ⟨go5,(x5_1 : Int).toNat * 3 + 1,none⟩ = some (.int .i64 ((rd_T73 y102 x5_1).f1)) := hcc7 1 _ rfl;have hx7_2 : w12.cell? ⟨go5,(x5_1 : Int).toNat * 3 + 2,none⟩ = some (.bool ((rd_T73 y102 x5_1).f2)) := hcc7 2 _ rfl;have hf7_0 : w12.frozen? ⟨go5,(x5_1 : Int).toNat * 3,none⟩ = false := hfr7 0;have hf7_1 : w12.frozen? ⟨go5,(x5_1 : Int).toNat * 3 + 1,none⟩ = false := hfr7 1;have hf7_2 : w12.frozen? ⟨go5,(x5_1 : Int).toNat * 3 + 2,none⟩ = false := hfr7 2;(clear hcl7 hcc7 hfr7;(try clear hM7));replace p7 := eq_true p7;replace q7 := eq_true q7;have HX13 := Aside0.mk (show Kd.R k73 73 w12 w0.heap.size (fun k_ => (P0_ k_ ∨ w.heap.size ≤ k_)) (.slice (some ⟨go5,0,none⟩) x0_1.length co8) y102 from (by (with_reducible repeat (first | apply Kd.R_alloc | apply Kd.R_drewN | apply Kd.R_drew));exact HO_0.out));obtain ⟨ce13,hcl13,hM13,hcc13,hfr13⟩ := Kd.R_elem HX13.out z73 (x5_1 : Int) (of_decide_eq_true (by first | (with_reducible assumption) | assumption)) (by have h_ : (x5_1 : Int) < ((x0_1.length : Int) : Int) := of_decide_eq_true (by first | (with_reducible assumption) | assumption);first | exact h_ | (have e_ := (Kd.R_reads' HO_0.out).1;omega) | simpa using h_);obtain rfl := k73_openM hM13;have HP13 := Kd.R_seg HX13.out (x5_1 : Int) (of_decide_eq_true (by first | (with_reducible assumption) | assumption)) (by have h_ : (x5_1 : Int) < ((x0_1.length : Int) : Int) := of_decide_eq_true (by first | (with_reducible assumption) | assumption);first | exact h_ | (have e_ := (Kd.R_reads' HO_0.out).1;omega) | simpa using h_) (seg := [.bool ((Int.tmod (wrap64 ((wrap64 (x1_1 + 1)) + 1)) 3) == 0)]) (j := 2) hcl13 hcc13 (show 3 ≤ 3 from by decide) (x' := (⟨(rd_T73 y102 x5_1).f0,(rd_T73 y102 x5_1).f1,((Int.tmod (wrap64 ((wrap64 (x1_1 + 1)) + 1)) 3) == 0)⟩ : S73)) (k73_mkM _ _ _ (⟨(rd_T73 y102 x5_1).f0,(rd_T73 y102 x5_1).f1,((Int.tmod (wrap64 ((wrap64 (x1_1 + 1)) + 1)) 3) == 0)⟩ : S73) ) (fun _ hk => hk);have hx13_2 := hcc13 2 _ rfl;(try simp only [show (k73).sz = 3 from rfl,Nat.mul_one,Nat.add_zero] at hx13_2);have hf13_2 := hfr13 2;(try simp only [show (k73).sz = 3 from rfl,Nat.mul_one,Nat.add_zero] at hf13_2);(clear hcl13 hcc13 hfr13;(try clear hM13))) | ((with_reducible refine gate_store (t := 4) (p := 32) rfl ?_);refine store_event (t := 4) (p := 32) (v := ?vo_w14) (w1 := (w12.setCell ⟨go5,(x5_1 : Int).toNat * 3 + 2,none⟩ (.bool ((Int.tmod (wrap64 ((wrap64 (x1_1 + 1)) + 1)) 3) == 0)))) ?hg ?ho ?hn ?hr ?_;(case ho => rfl);(case hg => rfl);(case hn => rfl);(case hr => first | (go_simp;done) | (go_simp;rfl));intro w14 hw;have hg : w12.grownBy w14 (some go5) := (by rw [hw];exact HP13.2);have hp_ : Kd.R k73 73 w14 w0.heap.size (fun k_ => (P0_ k_ ∨ w.heap.size ≤ k_)) (.slice (some ⟨go5,0,none⟩) x0_1.length co8) y103 := (by rw [hw,Ny103.out];exact HP13.1);clear HP13;have n0_ := Aside0.mk (hp_);have n1_ := Aside0.mk ((by rw [hw];exact below_set (HB.out) GB5.out : Below w0.heap.size w0 w14));have n2_ := Aside0.mk (Kept.of_grown (S := (fun k_ => P0_ k_)) hg (by repeat (first | (with_reducible first | exact HK.out | apply Kept.alloc | apply Kept.drewN | apply Kept.drew) | exact HK.out)) (fun k_ e_ => (HO_0.out.1 k_ e_)));clear HO_0;clear HB;clear HK;have HO_0 := n0_;have HB := n1_;have HK := n2_;clear n0_ n1_ n2_;clear hg hw hp_))
     go_roundg k1
     case measure => have := HK1.out;omega
     case rel => exact ⟨(y103),(wrap64 ((wrap64 ((wrap64 (x1_1 + 1)) + 1)) + 1)),(wrap64 (x5_1 + 1)),(by first | rfl | (simp only [IntKind.wrap_i64,wrap64];done) | (simp;done) | (simp [*];done)),(by first | rfl | (simp only [IntKind.wrap_i64,wrap64];done) | (simp;done) | (simp [*];done)),H',⟨by have := HK1.out;omega⟩,⟨by (with_reducible repeat (first | apply Kd.R_alloc | apply Kd.R_drewN | apply Kd.R_drew));exact HO_0.out⟩,⟨by repeat (first | (with_reducible first | exact HK.out | apply Kept.alloc | apply Kept.drewN | apply Kept.drew) | exact HK.out)⟩,⟨by repeat (first | (with_reducible first | exact HB.out | apply below_alloc | apply pw_below_drewN | apply below_drew1) | exact HB.out)⟩⟩
    ·rw [if_neg c4] at H;exact absurd H (by simp)
   ·rw [if_neg c3] at H;have c3b0 : decide (x5_1 < (x0_1.length : Int)) = false := decide_eq_false c3;clear c3;simp only [Option.some.injEq,Prod.mk.injEq] at H;obtain ⟨rfl,rfl⟩ := H;obtain ⟨Ao15,co15,eo15⟩ := Kd.R_slice HO_0.out;subst eo15
    go_wp2
    go_ret
    exact ⟨by first | rfl | (simp [errW_none,errW_some,IntKind.wrap_i64,wrap64];done) | (simp [errW_none,errW_some] <;> rfl) | (simp [*,errW_none,errW_some] <;> rfl),by (with_reducible repeat (first | apply Kd.R_alloc | apply Kd.R_drewN | apply Kd.R_drew));exact HO_0.out,by repeat (first | (with_reducible first | exact HB.out | apply below_alloc | apply pw_below_drewN | apply below_drew1) | exact HB.out),by repeat (first | (with_reducible first | exact HK.out | apply Kept.alloc | apply Kept.drewN | apply Kept.drew) | exact HK.out)⟩
end Go.Proofs.Ytidkniacmcbgiaa.G
end

section
namespace Go.Proofs.Ytidkniacmcbgiaa.G
open Go.RowKit Go.Proofs.YtidkniacmcbgiaaW.PrintWords Go.Proofs.YtidkniacmcbgiaaW.PrintLast Go.Proofs.YtidkniacmcbgiaaW.PrintMore
attribute [local go_sem] max2_int min2_int max_two min_two max_three min_three max_four min_four
set_option linter.unusedVariables false
set_option linter.unusedSimpArgs false
theorem laws_markLogS.other {α : Type} {d : Kd α} {e : Nat} {w w1 : World} {base : Nat} {ok : Nat → Prop} {v : Value} {xs : List α} {E2 : List Nat} (h : d.R e w base ok v xs) (hk : Kept w w1 (fun k_ => ∃ q,q ∈ E2 ∧ ∃ cells,w.heap[k_]? = some (.cells cells q (0,0)))) (ht : ∀ q,q ∈ e :: d.E → ¬ q ∈ E2) : d.R e w1 base ok v xs :=
 Kd.R_mono (Kd.R_kept (Kd.R_bound h) hk (fun k_ hk_ hs_ => by
  obtain ⟨_,_,_,q,hq,c,hc⟩ := hk_;obtain ⟨q2,hq2,c2,hc2⟩ := hs_;rw [hc] at hc2
  injection hc2 with h_
  injection h_ with _ h2_
  subst h2_
  exact ht q hq hq2)) (fun _ hk_ => hk_.1)
theorem laws_markLogS.back {w w0 wr w8 : World} {u v : Value} {x0 : List (List (S73))} {i : Int} {oki P0 : Nat → Prop} {y2 : List (S73)} (hH : Kd.H ((Kd.slice 73 k73)) 26 wr w0.heap.size (fun k_ => (P0 k_ ∨ w.heap.size ≤ k_)) u x0 i oki [v]) (hK : Kept w wr (fun k_ => P0 k_)) (ho : Kd.R (k73) 73 w8 w0.heap.size (fun k_ => (oki k_ ∨ wr.heap.size ≤ k_)) v y2) (hk : Kept wr w8 (fun k_ => oki k_)) :
  Kd.S ((Kd.slice 73 k73)) 26 w8 w0.heap.size (fun k_ => (P0 k_ ∨ w.heap.size ≤ k_)) u (x0.set i.toNat y2) :=
 Kd.H_back (Kd.H_kept (Kd.H_widen hH) hk (fun k _ hn hS => hn (.inl hS))) ⟨_,rfl,ho⟩ (fun k hk' => hk'.elim .inl (fun h => .inr ⟨.inr (Nat.le_trans hK.1 h),h⟩))
theorem laws_markLogS.kept {w w0 wr w8 : World} {u v : Value} {x0 : List (List (S73))} {i : Int} {oki P0 : Nat → Prop} (hH : Kd.H ((Kd.slice 73 k73)) 26 wr w0.heap.size (fun k_ => (P0 k_ ∨ w.heap.size ≤ k_)) u x0 i oki [v]) (hK : Kept w wr (fun k_ => P0 k_)) (hk : Kept wr w8 (fun k_ => oki k_)) : Kept w w8 (fun k_ => P0 k_) := hK.then_ hk (fun k h => hH.1 k h)
def laws_markLogS.l0 : Nat → List (List (S73)) → Int → Int → Option (Int × List (List (S73)))
 | 0,_,_,_ => none
 | k + 1,x0,x1,x5 => if x5 < (x0.length : Int) then (if 0 ≤ x5 then ((laws_markLog.f k (x0.getD x5.toNat []) x1).bind fun bt => laws_markLogS.l0 k (x0.set x5.toNat bt.2) bt.1 (wrap64 (x5 + 1))) else none) else some (x1,x0)
def laws_markLogS.f (k : Nat) (l0 : List (List (S73))) (a1 : Int) : Option (Int × List (List (S73))) := laws_markLogS.l0 k l0 a1 0
set_option maxHeartbeats 4000000 in
set_option maxRecDepth 20000 in
theorem laws_markLogS.calls (k : Nat) (P0_ : Nat → Prop) (u9000_ : Value) (l0 : List (List (S73))) (a1 : Int) (r1 : Int) (r2 : List (List (S73))) (w0 w : World) (hB : Below w0.heap.size w0 w) (ho0 : Kd.S ((Kd.slice 73 k73)) 26 w w0.heap.size P0_ u9000_ l0) (h : laws_markLogS.f k l0 a1 = some (r1,r2)) :
  Calls Try.prog 70 #[u9000_,.int .i64 a1] w fun e w' => e = .returned (.int .i64 r1) ∧ Kd.S ((Kd.slice 73 k73)) 26 w' w0.heap.size (fun k_ => (P0_ k_ ∨ w.heap.size ≤ k_)) u9000_ r2 ∧ Below w0.heap.size w0 w' ∧ Kept w w' (fun k_ => P0_ k_) := by
 have HO0 := Aside0.mk (show Kd.S ((Kd.slice 73 k73)) 26 w w0.heap.size (fun k_ => (P0_ k_ ∨ w.heap.size ≤ k_)) u9000_ l0 from Kd.S_mono ho0 (fun k_ hk => (.inl hk)));have HK := Aside0.mk (Kept.refl w (fun k_ => P0_ k_));have HB := Aside0.mk hB;clear hB ho0;have H' := Aside0.mk (show laws_markLogS.l0 k l0 a1 0 = some (r1,r2) from h);clear h
 go_enter Try.func70,Try.ntmps70
 go_wp2
 go_loopg [1,5] k (fun kq v1 v5 w' => ∃ (x0_1 : List (List (S73))) (x1_1 : Int) (x5_1 : Int),v1 = .int .i64 x1_1 ∧ v5 = .int .i64 x5_1 ∧ Aside0 (laws_markLogS.l0 kq x0_1 x1_1 x5_1 = some (r1,r2)) ∧ Aside0 (kq ≤ k) ∧ Aside0 (Kd.S ((Kd.slice 73 k73)) 26 w' w0.heap.size (fun k_ => (P0_ k_ ∨ w.heap.size ≤ k_)) u9000_ x0_1) ∧ Aside0 (Kept w w' (fun k_ => P0_ k_)) ∧ Aside0 (Below w0.heap.size w0 w'))
 case atStart => exact ⟨(l0),(a1),(0),(by first | rfl | (simp;done)),(by first | rfl | (simp;done)),H',⟨Nat.le_refl _⟩,⟨by (with_reducible repeat (first | apply Kd.S_alloc | apply Kd.S_drewN | apply Kd.S_drew));exact HO0.out⟩,⟨by repeat (first | (with_reducible first | exact HK.out | apply Kept.alloc | apply Kept.drewN | apply Kept.drew) | exact HK.out)⟩,⟨by repeat (first | (with_reducible first | exact HB.out | apply below_alloc | apply pw_below_drewN | apply below_drew1) | exact HB.out)⟩⟩
 case round =>
  clear H';(try clear p2);obtain ⟨x0_1,x1_1,x5_1,rfl,rfl,HA,HK1,HO_0,HK,HB⟩ := hrel
  cases gk with
  | zero => exact absurd HA.out (by simp [laws_markLogS.l0])
  | succ k1 =>
   have H := HA.out;clear HA;simp only [laws_markLogS.l0] at H
   by_cases c3 : x5_1 < (x0_1.length : Int)
   ·rw [if_pos c3] at H
    by_cases c4 : 0 ≤ x5_1
    ·rw [if_pos c4] at H;obtain ⟨⟨m2,y2⟩,A50,H⟩ := Option.bind_eq_some_iff.mp H;have H' := Aside0.mk (show laws_markLogS.l0 k1 (x0_1.set x5_1.toNat y2) m2 (wrap64 (x5_1 + 1)) = some (r1,r2) from H);clear H;obtain ⟨g,c,rfl,hbg,hlt,cells,hcells⟩ := Kd.S_form HO_0.out (by omega);clear hbg hlt hcells;obtain ⟨oki,cc,hcl,hM,hcell,hoki,hH⟩ := Kd.S_lend HO_0.out ([] : List (S73)) x5_1 c4 c3;generalize x0_1.getD x5_1.toNat [] = y0 at A50 hM;have A5 := Aside0.mk A50;clear A50;obtain ⟨v,rfl,hR⟩ := hM;have hx := hcell 0 v rfl;rw [show x5_1.toNat * ((Kd.slice 73 k73)).sz + 0 = x5_1.toNat from Nat.mul_one _] at hx;clear hcell hcl hoki;obtain ⟨A,ci,rfl⟩ := Kd.R_slice hR;have HH := Aside0.mk hH;have HR := Aside0.mk hR;clear hH hR;have c3b0 : decide (x5_1 < (x0_1.length : Int)) = true := decide_eq_true c3;have p5 : (0 ≤ x5_1) = True := eq_true c4;have q5 : (x5_1 < (x0_1.length : Int)) = True := eq_true c3;clear c3 c4
     go_wp2_with (first | ((with_reducible refine gate_callee (f := 30) rfl ?_);refine goesL_ (some 17) rfl rfl Try.func30 (by kernel_rfl) rfl #[.slice A y0.length ci,.int .i64 x1_1] rfl (by first | done | rfl | (simp only [List.map_toArray,List.map_cons,List.map_nil];rfl)) ?_;(with_reducible refine (laws_markLog.calls k1 oki _ y0 x1_1 m2 y2 w0 _ ?side1 ?side2 A5.out).mono ?_);(case side1 => repeat (first | (with_reducible first | exact HB.out | apply below_alloc | apply pw_below_drewN | apply below_drew1) | exact HB.out));(case side2 => (with_reducible repeat (first | apply Kd.R_alloc | apply Kd.R_drewN | apply Kd.R_drew));exact HR.out);rintro e w8 ⟨rfl,ho1,hb1,hk1⟩;refine ⟨_,rfl,?_⟩;have n0_ := Aside0.mk (laws_markLogS.back (P0 := P0_) (w := w) (by (with_reducible repeat (first | apply Kd.H_alloc | apply Kd.H_drewN | apply Kd.H_drew));exact HH.out) (by repeat (first | (with_reducible first | exact HK.out | apply Kept.alloc | apply Kept.drewN | apply Kept.drew) | exact HK.out)) ho1 hk1);have n1_ := Aside0.mk (laws_markLogS.kept (P0 := P0_) (w := w) (by (with_reducible repeat (first | apply Kd.H_alloc | apply Kd.H_drewN | apply Kd.H_drew));exact HH.out) (by repeat (first | (with_reducible first | exact HK.out | apply Kept.alloc | apply Kept.drewN | apply Kept.drew) | exact HK.out)) hk1);have n2_ := Aside0.mk hb1;clear HO_0;clear HK;clear HB;clear HH;clear HR;have HO_0 := n0_;have HK := n1_;have HB := n2_;clear n0_ n1_ n2_ ho1 hb1 hk1;clear hx))
     go_roundg k1
     case measure => have := HK1.out;omega
     case rel => exact ⟨(x0_1.set x5_1.toNat y2),(m2),(wrap64 (x5_1 + 1)),(by first | rfl | (simp only [IntKind.wrap_i64,wrap64];done) | (simp;done) | (simp [*];done)),(by first | rfl | (simp only [IntKind.wrap_i64,wrap64];done) | (simp;done) | (simp [*];done)),H',⟨by have := HK1.out;omega⟩,⟨by (with_reducible repeat (first | apply Kd.S_alloc | apply Kd.S_drewN | apply Kd.S_drew));exact HO_0.out⟩,⟨by repeat (first | (with_reducible first | exact HK.out | apply Kept.alloc | apply Kept.drewN | apply Kept.drew) | exact HK.out)⟩,⟨by repeat (first | (with_reducible first | exact HB.out | apply below_alloc | apply pw_below_drewN | apply below_drew1) | exact HB.out)⟩⟩
    ·rw [if_neg c4] at H;exact absurd H (by simp)
   ·rw [if_neg c3] at H;have c3b0 : decide (x5_1 < (x0_1.length : Int)) = false := decide_eq_false c3;clear c3;simp only [Option.some.injEq,Prod.mk.injEq] at H;obtain ⟨rfl,rfl⟩ := H;obtain ⟨Ao9,co9,eo9⟩ := Kd.S_slice HO_0.out;subst eo9
    go_wp2
    go_ret
    exact ⟨by first | rfl | (simp;done),by (with_reducible repeat (first | apply Kd.S_alloc | apply Kd.S_drewN | apply Kd.S_drew));exact HO_0.out,by repeat (first | (with_reducible first | exact HB.out | apply below_alloc | apply pw_below_drewN | apply below_drew1) | exact HB.out),by repeat (first | (with_reducible first | exact HK.out | apply Kept.alloc | apply Kept.drewN | apply Kept.drew) | exact HK.out)⟩
end Go.Proofs.Ytidkniacmcbgiaa.G
end

section
namespace Go.Proofs.Ytidkniacmcbgiaa.G
open Go.RowKit Go.Proofs.YtidkniacmcbgiaaW.PrintWords Go.Proofs.YtidkniacmcbgiaaW.PrintLast Go.Proofs.YtidkniacmcbgiaaW.PrintMore
attribute [local go_sem] max2_int min2_int max_two min_two max_three min_three max_four min_four
set_option linter.unusedVariables false
set_option linter.unusedSimpArgs false
def laws_szLog.f (l0 : List (S75)) (a1 : Int) : Option (Int) := if (wrap64 (a1 - (l0.length : Int))) < 0 then (some (-1)) else (some (wrap64 (a1 - (l0.length : Int))))
set_option maxHeartbeats 8000000 in
set_option maxRecDepth 100000 in
theorem laws_szLog.calls (A0 : Option Addr) (c0 : Nat) (l0 : List (S75)) (a1 : Int) (r : Int) (w : World) (hr0 : Kd.C k75 w A0 l0.length l0) (hc0 : l0.length ≤ c0) (h : laws_szLog.f l0 a1 = some r) :
  Calls Try.prog 19 #[.slice A0 l0.length c0,.int .i64 a1] w fun e w' => e = .returned (.int .i64 r) ∧ Drawn0 w w' := by
 have HR0 := Aside0.mk hr0;have HC0 := Aside0.mk hc0;clear hr0 hc0;have H : (if (wrap64 (a1 - (l0.length : Int))) < 0 then (some (-1)) else (some (wrap64 (a1 - (l0.length : Int))))) = some r := h;clear h
 by_cases c3 : (wrap64 (a1 - (l0.length : Int))) < 0
 ·rw [if_pos c3] at H;have c3b0 : decide ((wrap64 (a1 - (l0.length : Int))) < 0) = true := decide_eq_true c3;clear c3;obtain rfl := Option.some.inj H
  go_enter Try.func19,Try.ntmps19
  go_wp2
  go_ret
  exact ⟨by first | rfl | (simp only [IntKind.wrap_i64,wrap64];done) | (simp;done) | (simp [*];done),by repeat (first | exact Drawn0.refl _ | apply Drawn0.step)⟩
 ·rw [if_neg c3] at H;have c3b0 : decide ((wrap64 (a1 - (l0.length : Int))) < 0) = false := decide_eq_false c3;clear c3;obtain rfl := Option.some.inj H
  go_enter Try.func19,Try.ntmps19
  go_wp2
  go_ret
  exact ⟨by first | rfl | (simp only [IntKind.wrap_i64,wrap64];done) | (simp;done) | (simp [*];done),by repeat (first | exact Drawn0.refl _ | apply Drawn0.step)⟩
end Go.Proofs.Ytidkniacmcbgiaa.G
end

section
namespace Go.Proofs.Ytidkniacmcbgiaa.G
open Go.RowKit Go.Proofs.YtidkniacmcbgiaaW.PrintWords Go.Proofs.YtidkniacmcbgiaaW.PrintLast Go.Proofs.YtidkniacmcbgiaaW.PrintMore
attribute [local go_sem] max2_int min2_int max_two min_two max_three min_three max_four min_four
set_option linter.unusedVariables false
set_option linter.unusedSimpArgs false
def laws_szLogS.l0 : Nat → List (List (S75)) → Int → Int → Option (Int)
 | 0,_,_,_ => none
 | k + 1,x0,x1,x5 => if x5 < (x0.length : Int) then (if 0 ≤ x5 then ((laws_szLog.f (rd_L9 x0 x5) x1).bind fun t102 => (if t102 < 0 then (some (-1)) else (laws_szLogS.l0 k x0 t102 (wrap64 (x5 + 1))))) else (none)) else (some x1)
def laws_szLogS.f (k : Nat) (l0 : List (List (S75))) (a1 : Int) : Option (Int) := if (wrap64 (a1 - (l0.length : Int))) < 0 then (some (-1)) else (laws_szLogS.l0 k l0 (wrap64 (a1 - (l0.length : Int))) 0)
set_option maxHeartbeats 8000000 in
set_option maxRecDepth 100000 in
theorem laws_szLogS.calls (k : Nat) (A0 : Option Addr) (c0 : Nat) (l0 : List (List (S75))) (a1 : Int) (r : Int) (w : World) (hr0 : Kd.C (Kd.slice 75 k75) w A0 l0.length l0) (hc0 : l0.length ≤ c0) (h : laws_szLogS.f k l0 a1 = some r) :
  Calls Try.prog 51 #[.slice A0 l0.length c0,.int .i64 a1] w fun e w' => e = .returned (.int .i64 r) ∧ Drawn0 w w' := by
 have HR0 := Aside0.mk hr0;have HC0 := Aside0.mk hc0;clear hr0 hc0;have H : (if (wrap64 (a1 - (l0.length : Int))) < 0 then (some (-1)) else (laws_szLogS.l0 k l0 (wrap64 (a1 - (l0.length : Int))) 0)) = some r := h;clear h
 by_cases c3 : (wrap64 (a1 - (l0.length : Int))) < 0
 ·rw [if_pos c3] at H;have c3b0 : decide ((wrap64 (a1 - (l0.length : Int))) < 0) = true := decide_eq_true c3;clear c3;obtain rfl := Option.some.inj H
  go_enter Try.func51,Try.ntmps51
  go_wp2
  go_ret
  exact ⟨by first | rfl | (simp only [IntKind.wrap_i64,wrap64];done) | (simp;done) | (simp [*];done),by repeat (first | exact Drawn0.refl _ | apply Drawn0.step)⟩
 ·rw [if_neg c3] at H;have c3b0 : decide ((wrap64 (a1 - (l0.length : Int))) < 0) = false := decide_eq_false c3;clear c3;have H' := Aside0.mk H;clear H
  go_enter Try.func51,Try.ntmps51
  go_wp2
  go_loopg [1,5] k (fun kq v1 v5 w' => ∃ (x1_1 : Int) (x5_1 : Int),v1 = .int .i64 x1_1 ∧ v5 = .int .i64 x5_1 ∧ Aside0 (laws_szLogS.l0 kq l0 x1_1 x5_1 = some r) ∧ Aside0 (kq ≤ k) ∧ Drawn0 w w')
  case atStart => exact ⟨(wrap64 (a1 - (l0.length : Int))),(0),(by first | rfl | (simp only [IntKind.wrap_i64,wrap64];done) | (simp;done) | (simp [*];done)),(by first | rfl | (simp only [IntKind.wrap_i64,wrap64];done) | (simp;done) | (simp [*];done)),H',⟨Nat.le_refl _⟩,by repeat (first | exact Drawn0.refl _ | apply Drawn0.step)⟩
  case round =>
   clear H';(try clear p2);(try clear c3);(try clear c3b0);obtain ⟨x1_1,x5_1,rfl,rfl,HA,HK1,⟨m1,rfl⟩⟩ := hrel
   cases gk with
   | zero => exact absurd HA.out (by simp [laws_szLogS.l0])
   | succ k1 =>
    have H := HA.out;clear HA;simp only [laws_szLogS.l0] at H
    by_cases c4 : x5_1 < (l0.length : Int)
    ·rw [if_pos c4] at H;have c4b0 : decide (x5_1 < (l0.length : Int)) = true := decide_eq_true c4;clear c4
     by_cases c5 : 0 ≤ x5_1
     ·rw [if_pos c5] at H;have c5b0 : decide (0 ≤ x5_1) = true := decide_eq_true c5;clear c5;replace H := Option.bind_eq_some_iff.mp H;obtain ⟨t102,A60,H⟩ := H;replace H : (if t102 < 0 then (some (-1)) else (laws_szLogS.l0 k1 l0 t102 (wrap64 (x5_1 + 1)))) = some r := H;have A6 := Aside0.mk A60;clear A60
      by_cases c7 : t102 < 0
      ·rw [if_pos c7] at H;have c7b0 : decide (t102 < 0) = true := decide_eq_true c7;clear c7;obtain rfl := Option.some.inj H;have p101 : 0 ≤ (x5_1 : Int) := of_decide_eq_true (by first | (with_reducible assumption) | assumption);have q101 : x5_1 < (l0.length : Int) := of_decide_eq_true (by first | (with_reducible assumption) | assumption);obtain ⟨ad101,A101_0,c101_0,e101,hx101_0,hl101_0,hi101_0⟩ := at_L9 HR0.out x5_1 p101 q101;cases e101;have HR101_0 := Aside0.mk hi101_0;have HC101_0 := Aside0.mk hl101_0;clear hi101_0 hl101_0;replace p101 := eq_true p101;replace q101 := eq_true q101
       go_wp2_with (first | ((with_reducible refine gate_callee (f := 19) rfl ?_);refine goesL_ (some 23) rfl rfl Try.func19 (by kernel_rfl) rfl #[.slice A101_0 (rd_L9 l0 x5_1).length c101_0,.int .i64 x1_1] rfl (by (try simp only [List.map_toArray,List.map_cons,List.map_nil]);first | done | rfl | (simp only [List.length_drop,List.length_take];rfl)) ?_;(with_reducible refine (laws_szLog.calls _ _ (rd_L9 l0 x5_1) x1_1 t102 _ ?side1 ?side2 A6.out).mono ?_);(case side1 => repeat (first | exact HR101_0.out | (with_reducible refine Kd.C_alloc ?_ _) | (with_reducible refine Kd.C_drewN ?_ _) | (with_reducible refine Kd.C_drew ?_)));(case side2 => exact HC101_0.out);rintro e w' ⟨rfl,⟨nd,rfl⟩⟩;refine ⟨_,rfl,?_⟩))
       go_ret
       exact ⟨by first | rfl | (simp only [IntKind.wrap_i64,wrap64];done) | (simp;done) | (simp [*];done),by repeat (first | exact Drawn0.refl _ | apply Drawn0.step)⟩
      ·rw [if_neg c7] at H;have c7b0 : decide (t102 < 0) = false := decide_eq_false c7;clear c7;have H' := Aside0.mk H;clear H;have p101 : 0 ≤ (x5_1 : Int) := of_decide_eq_true (by first | (with_reducible assumption) | assumption);have q101 : x5_1 < (l0.length : Int) := of_decide_eq_true (by first | (with_reducible assumption) | assumption);obtain ⟨ad101,A101_0,c101_0,e101,hx101_0,hl101_0,hi101_0⟩ := at_L9 HR0.out x5_1 p101 q101;cases e101;have HR101_0 := Aside0.mk hi101_0;have HC101_0 := Aside0.mk hl101_0;clear hi101_0 hl101_0;replace p101 := eq_true p101;replace q101 := eq_true q101
       go_wp2_with (first | ((with_reducible refine gate_callee (f := 19) rfl ?_);refine goesL_ (some 23) rfl rfl Try.func19 (by kernel_rfl) rfl #[.slice A101_0 (rd_L9 l0 x5_1).length c101_0,.int .i64 x1_1] rfl (by (try simp only [List.map_toArray,List.map_cons,List.map_nil]);first | done | rfl | (simp only [List.length_drop,List.length_take];rfl)) ?_;(with_reducible refine (laws_szLog.calls _ _ (rd_L9 l0 x5_1) x1_1 t102 _ ?side1 ?side2 A6.out).mono ?_);(case side1 => repeat (first | exact HR101_0.out | (with_reducible refine Kd.C_alloc ?_ _) | (with_reducible refine Kd.C_drewN ?_ _) | (with_reducible refine Kd.C_drew ?_)));(case side2 => exact HC101_0.out);rintro e w' ⟨rfl,⟨nd,rfl⟩⟩;refine ⟨_,rfl,?_⟩))
       go_roundg k1
       case measure => have := HK1.out;omega
       case rel => exact ⟨(t102),(wrap64 (x5_1 + 1)),(by first | rfl | (simp only [IntKind.wrap_i64,wrap64];done) | (simp;done) | (simp [*];done)),(by first | rfl | (simp only [IntKind.wrap_i64,wrap64];done) | (simp;done) | (simp [*];done)),H',⟨by have := HK1.out;omega⟩,by repeat (first | exact Drawn0.refl _ | apply Drawn0.step)⟩
     ·rw [if_neg c5] at H;exact absurd H (by simp)
    ·rw [if_neg c4] at H;have c4b0 : decide (x5_1 < (l0.length : Int)) = false := decide_eq_false c4;clear c4;obtain rfl := Option.some.inj H
     go_wp2
     go_ret
     exact ⟨by first | rfl | (simp only [IntKind.wrap_i64,wrap64];done) | (simp;done) | (simp [*];done),by repeat (first | exact Drawn0.refl _ | apply Drawn0.step)⟩
end Go.Proofs.Ytidkniacmcbgiaa.G
end

section
namespace Go.Proofs.Ytidkniacmcbgiaa.G
open Go.RowKit Go.Proofs.YtidkniacmcbgiaaW.PrintWords Go.Proofs.YtidkniacmcbgiaaW.PrintLast Go.Proofs.YtidkniacmcbgiaaW.PrintMore
attribute [local go_sem] max2_int min2_int max_two min_two max_three min_three max_four min_four
set_option linter.unusedVariables false
set_option linter.unusedSimpArgs false
def laws_toEntry.f (a0_0 : Int) (a0_1 : Int) (a0_2 : Bool) : Option (Int × Int × Bool) := some (a0_0,a0_1,a0_2)
set_option maxHeartbeats 8000000 in
set_option maxRecDepth 100000 in
theorem laws_toEntry.calls (a0_0 : Int) (a0_1 : Int) (a0_2 : Bool) (r1 : Int) (r2 : Int) (r3 : Bool) (w : World) (h : laws_toEntry.f a0_0 a0_1 a0_2 = some (r1,r2,r3)) :
  Calls Try.prog 71 #[.agg #[.int .i64 a0_0,.int .i64 a0_1,.bool a0_2]] w fun e w' => e = .returned (.agg #[.int .i64 r1,.int .i64 r2,.bool r3]) ∧ Below w.heap.size w w' := by
 have hu75 := Try.underlying75;have hu73 := Try.underlying73;have HB := Aside0.mk (Below.refl w.heap.size w);have H : (some (a0_0,a0_1,a0_2)) = some (r1,r2,r3) := h;clear h;simp only [Option.some.injEq,Prod.mk.injEq] at H;obtain ⟨rfl,rfl,rfl⟩ := H
 go_enter Try.func71,Try.ntmps71
 go_wp2_with (first | ((with_reducible refine gate_dst (N := 1) rfl ?_);refine box_event ?hg (N := 1) ?hd (cs := #[.int .i64 a0_0,.int .i64 a0_1,.bool a0_2]) (t := 75) ?hr ?_;(case hd => rfl);(case hg => rfl);(case hr => first | (go_simp;done) | (go_simp;rfl));intro gb101 hg w2 hbox hb;have n0_ := Aside0.mk (below_step (by repeat (first | (with_reducible first | exact HB.out | apply below_alloc | apply pw_below_drewN | apply below_drew1) | exact HB.out)) hb);have n1_ := Aside0.mk (hbox);have n2_ := Aside0.mk ((by rw [hg];exact (below_size (by repeat (first | (with_reducible first | exact HB.out | apply below_alloc | apply pw_below_drewN | apply below_drew1) | exact HB.out))) : w.heap.size ≤ gb101));have n3_ := Aside0.mk ((by rw [hg];exact (below_size (by repeat (first | (with_reducible first | exact HB.out | apply below_alloc | apply pw_below_drewN | apply below_drew1) | exact HB.out))) : w.heap.size ≤ gb101));clear HB;have HB := n0_;have BK101 := n1_;have GW101 := n2_;have GE101 := n3_;clear n0_ n1_ n2_ n3_;clear hb hbox hg) | ((with_reducible refine gate_dst (N := 2) rfl ?_);refine box_event ?hg (N := 2) ?hd (cs := #[.int .i64 0,.int .i64 0,.bool false]) (t := 73) ?hr ?_;(case hd => rfl);(case hg => rfl);(case hr => first | (go_simp;done) | (go_simp;rfl));intro gb102 hg w3 hbox hb;have n0_ := Aside0.mk (blk_below (g := gb101) (o := .cells #[.int .i64 a0_0,.int .i64 a0_1,.bool a0_2] 75 (0,0)) (by (with_reducible repeat (first | refine blk_drewN ?_ _ | refine blk_drew ?_ | refine blk_alloc ?_ _));exact BK101.out) hb);have n1_ := Aside0.mk (below_step (by repeat (first | (with_reducible first | exact HB.out | apply below_alloc | apply pw_below_drewN | apply below_drew1 | refine below_set ?_ GE101.out) | exact HB.out)) hb);have n2_ := Aside0.mk (hbox);have n3_ := Aside0.mk ((by rw [hg];exact (below_size (by repeat (first | (with_reducible first | exact HB.out | apply below_alloc | apply pw_below_drewN | apply below_drew1 | refine below_set ?_ GE101.out) | exact HB.out))) : w.heap.size ≤ gb102));have n4_ := Aside0.mk ((by rw [hg];exact (below_size (by repeat (first | (with_reducible first | exact HB.out | apply below_alloc | apply pw_below_drewN | apply below_drew1 | refine below_set ?_ GE101.out) | exact HB.out))) : w.heap.size ≤ gb102));have n5_ := Aside0.mk ((by rw [hg];exact Nat.ne_of_lt (blk_lt (g := gb101) (o := .cells #[.int .i64 a0_0,.int .i64 a0_1,.bool a0_2] 75 (0,0)) (by (with_reducible repeat (first | refine blk_drewN ?_ _ | refine blk_drew ?_ | refine blk_alloc ?_ _));exact BK101.out)) : gb101 ≠ gb102));have n6_ := Aside0.mk ((by rw [hg];exact Nat.ne_of_gt (blk_lt (g := gb101) (o := .cells #[.int .i64 a0_0,.int .i64 a0_1,.bool a0_2] 75 (0,0)) (by (with_reducible repeat (first | refine blk_drewN ?_ _ | refine blk_drew ?_ | refine blk_alloc ?_ _));exact BK101.out)) : gb102 ≠ gb101));clear BK101;clear HB;have BK101 := n0_;have HB := n1_;have BK102 := n2_;have GW102 := n3_;have GE102 := n4_;have NB101_102 := n5_;have NB102_101 := n6_;clear n0_ n1_ n2_ n3_ n4_ n5_ n6_;clear hb hbox hg) | ((with_reducible refine gate_dst (N := 3) rfl ?_);refine box_event ?hg (N := 3) ?hd (cs := #[.int .i64 0,.int .i64 0,.bool false]) (t := 73) ?hr ?_;(case hd => rfl);(case hg => rfl);(case hr => first | (go_simp;done) | (go_simp;rfl));intro gb103 hg w4 hbox hb;have n0_ := Aside0.mk (blk_below (g := gb101) (o := .cells #[.int .i64 a0_0,.int .i64 a0_1,.bool a0_2] 75 (0,0)) (by (with_reducible repeat (first | refine blk_drewN ?_ _ | refine blk_drew ?_ | refine blk_alloc ?_ _));exact BK101.out) hb);have n1_ := Aside0.mk (blk_below (g := gb102) (o := .cells #[.int .i64 0,.int .i64 0,.bool false] 73 (0,0)) (by (with_reducible repeat (first | refine blk_drewN ?_ _ | refine blk_drew ?_ | refine blk_alloc ?_ _));exact BK102.out) hb);have n2_ := Aside0.mk (below_step (by repeat (first | (with_reducible first | exact HB.out | apply below_alloc | apply pw_below_drewN | apply below_drew1 | refine below_set ?_ GE101.out | refine below_set ?_ GE102.out) | exact HB.out)) hb);have n3_ := Aside0.mk (hbox);have n4_ := Aside0.mk ((by rw [hg];exact (below_size (by repeat (first | (with_reducible first | exact HB.out | apply below_alloc | apply pw_below_drewN | apply below_drew1 | refine below_set ?_ GE101.out | refine below_set ?_ GE102.out) | exact HB.out))) : w.heap.size ≤ gb103));have n5_ := Aside0.mk ((by rw [hg];exact (below_size (by repeat (first | (with_reducible first | exact HB.out | apply below_alloc | apply pw_below_drewN | apply below_drew1 | refine below_set ?_ GE101.out | refine below_set ?_ GE102.out) | exact HB.out))) : w.heap.size ≤ gb103));have n6_ := Aside0.mk ((by rw [hg];exact Nat.ne_of_lt (blk_lt (g := gb101) (o := .cells #[.int .i64 a0_0,.int .i64 a0_1,.bool a0_2] 75 (0,0)) (by (with_reducible repeat (first | refine blk_drewN ?_ _ | refine blk_drew ?_ | refine blk_alloc ?_ _));exact BK101.out)) : gb101 ≠ gb103));have n7_ := Aside0.mk ((by rw [hg];exact Nat.ne_of_gt (blk_lt (g := gb101) (o := .cells #[.int .i64 a0_0,.int .i64 a0_1,.bool a0_2] 75 (0,0)) (by (with_reducible repeat (first | refine blk_drewN ?_ _ | refine blk_drew ?_ | refine blk_alloc ?_ _));exact BK101.out)) : gb103 ≠ gb101));have n8_ := Aside0.mk ((by rw [hg];exact Nat.ne_of_lt (blk_lt (g := gb102) (o := .cells #[.int .i64 0,.int .i64 0,.bool false] 73 (0,0)) (by (with_reducible repeat (first | refine blk_drewN ?_ _ | refine blk_drew ?_ | refine blk_alloc ?_ _));exact BK102.out)) : gb102 ≠ gb103));have n9_ := Aside0.mk ((by rw [hg];exact Nat.ne_of_gt (blk_lt (g := gb102) (o := .cells #[.int .i64 0,.int .i64 0,.bool false] 73 (0,0)) (by (with_reducible repeat (first | refine blk_drewN ?_ _ | refine blk_drew ?_ | refine blk_alloc ?_ _));exact BK102.out)) : gb103 ≠ gb102));clear BK101;clear BK102;clear HB;have BK101 := n0_;have BK102 := n1_;have HB := n2_;have BK103 := n3_;have GW103 := n4_;have GE103 := n5_;have NB101_103 := n6_;have NB103_101 := n7_;have NB102_103 := n8_;have NB103_102 := n9_;clear n0_ n1_ n2_ n3_ n4_ n5_ n6_ n7_ n8_ n9_;clear hb hbox hg;have hnb5 := NB101_102.out;have hnc5 := NB102_101.out;have hnb6 := NB101_103.out;have hnc6 := NB103_101.out;have hcz7_0 : w4.cell? ⟨gb101,0,none⟩ = some (.int .i64 a0_0) := (blk_cell BK101.out 0).trans rfl;have hcz7_1 : w4.cell? ⟨gb101,1,none⟩ = some (.int .i64 a0_1) := (blk_cell BK101.out 1).trans rfl;have hcz7_2 : w4.cell? ⟨gb101,2,none⟩ = some (.bool a0_2) := (blk_cell BK101.out 2).trans rfl;have hfz7_0 := blk_frozen BK101.out 0;have hfz7_1 := blk_frozen BK101.out 1;have hfz7_2 := blk_frozen BK101.out 2;have hnb8 := NB103_102.out;have hnc8 := NB102_103.out;have hcz9_0 : w4.cell? ⟨gb103,0,none⟩ = some (.int .i64 0) := (blk_cell BK103.out 0).trans rfl;have hcz9_1 : w4.cell? ⟨gb103,1,none⟩ = some (.int .i64 0) := (blk_cell BK103.out 1).trans rfl;have hcz9_2 : w4.cell? ⟨gb103,2,none⟩ = some (.bool false) := (blk_cell BK103.out 2).trans rfl;have hfz9_0 := blk_frozen BK103.out 0;have hfz9_1 := blk_frozen BK103.out 1;have hfz9_2 := blk_frozen BK103.out 2;have hcz10_0 : w4.cell? ⟨gb102,0,none⟩ = some (.int .i64 0) := (blk_cell BK102.out 0).trans rfl;have hcz10_1 : w4.cell? ⟨gb102,1,none⟩ = some (.int .i64 0) := (blk_cell BK102.out 1).trans rfl;have hcz10_2 : w4.cell? ⟨gb102,2,none⟩ = some (.bool false) := (blk_cell BK102.out 2).trans rfl;have hfz10_0 := blk_frozen BK102.out 0;have hfz10_1 := blk_frozen BK102.out 1;have hfz10_2 := blk_frozen BK102.out 2))
 refine bodyPost_ret (results_cell_row rfl _ _ gb102 73 #[.int .i64 a0_0,.int .i64 a0_1,.bool a0_2] (0,0) _ rfl (by (with_reducible repeat (first | refine blk_drewN ?_ _ | refine blk_drew ?_ | refine blk_alloc ?_ _));refine blk_put (cs := #[.int .i64 a0_0,.int .i64 a0_1,.bool false]) ?_ 2 _ rfl;(with_reducible repeat (first | refine blk_drewN ?_ _ | refine blk_drew ?_ | refine blk_alloc ?_ _));refine blk_put (cs := #[.int .i64 a0_0,.int .i64 0,.bool false]) ?_ 1 _ rfl;(with_reducible repeat (first | refine blk_drewN ?_ _ | refine blk_drew ?_ | refine blk_alloc ?_ _));refine blk_put (cs := #[.int .i64 0,.int .i64 0,.bool false]) ?_ 0 _ rfl;(with_reducible repeat (first | refine blk_drewN ?_ _ | refine blk_drew ?_ | refine blk_alloc ?_ _));refine blk_far ?_ NB102_103.out _;(with_reducible repeat (first | refine blk_drewN ?_ _ | refine blk_drew ?_ | refine blk_alloc ?_ _));refine blk_far ?_ NB102_103.out _;(with_reducible repeat (first | refine blk_drewN ?_ _ | refine blk_drew ?_ | refine blk_alloc ?_ _));refine blk_far ?_ NB102_103.out _;(with_reducible repeat (first | refine blk_drewN ?_ _ | refine blk_drew ?_ | refine blk_alloc ?_ _));exact BK102.out) Try.underlying73 rfl (by kernel_rfl)) rfl ?_;exact ⟨by first | rfl | (simp [errW_none,errW_some,IntKind.wrap_i64,wrap64];done) | (simp [errW_none,errW_some] <;> rfl) | (simp [*,errW_none,errW_some] <;> rfl),by repeat (first | (with_reducible first | exact HB.out | apply below_alloc | apply pw_below_drewN | apply below_drew1 | refine below_set ?_ GE101.out | refine below_set ?_ GE102.out | refine below_set ?_ GE103.out) | exact HB.out)⟩
end Go.Proofs.Ytidkniacmcbgiaa.G
end
