/- The law's functions, their contracts, and the plain lemmas: texts of this claim, laid together. -/
import Derived.Test.YtmcdedmnekeibaaProg
import Derived.Below
import Derived.Deep.Draws
import Derived.Deep.AppendLies
import Derived.Maps.AppendAt
import Derived.OwnWalk
import Derived.Laws.BytesArg
import Derived.Laws.MakeOwn
import Derived.Laws.OwnMore
import Derived.Deep.OwnRows
import Derived.Tactics
import Derived.Lib.ConvBytes
import Derived.Laws.Slices
import Derived.WalkKit
import Derived.KernelRfl
import Derived.RowKit3
import Derived.Deep.LoopGhost
import Derived.Deep.QuietTactic
import Derived.BigQuiet
import Derived.WideLaws
import Derived.Deep.DeepCutAuto
import Derived.Deep.CutBlock
import Derived.Deep.RegionHeld3
import Derived.Laws.Rows
import Derived.Lib.AppendStr
import Derived.ArgAppend
import Derived.Laws.IdiomCopy
import Derived.OrdersHeld
import Derived.Laws.BitsLemmas
import Derived.RowKit
import Derived.Shelf.Abstract
import Derived.WalkSpells
import Derived.WalkLawsBesides
import Derived.Test.YtmcdedmnekeibaaWWords
import Derived.Test.YtmcdedmnekeibaaWLast
import Derived.Test.YtmcdedmnekeibaaWTab
import Derived.Test.YtmcdedmnekeibaaWFour
import Derived.Test.YtmcdedmnekeibaaWQPut
import Derived.Test.YtmcdedmnekeibaaWApart
import Derived.Test.YtmcdedmnekeibaaWArr
import Derived.Test.YtmcdedmnekeibaaWZeros
import Derived.Test.YtmcdedmnekeibaaWFoot
import Derived.Test.YtmcdedmnekeibaaWKept
import Derived.Test.YtmcdedmnekeibaaWShare
import Derived.Test.YtmcdedmnekeibaaWN
import Derived.Test.YtmcdedmnekeibaaWFootNe
import Derived.Test.YtmcdedmnekeibaaWAt
import Derived.Test.YtmcdedmnekeibaaWEqStruct
import Derived.Test.YtmcdedmnekeibaaWRepsOne
import Derived.Test.YtmcdedmnekeibaaWInv
import Derived.Test.YtmcdedmnekeibaaWInvWords
import Derived.Test.YtmcdedmnekeibaaWGuard
import Derived.Test.YtmcdedmnekeibaaWNEv
import Derived.Test.YtmcdedmnekeibaaWMore
import Derived.Lib.AppendZeros
section
namespace Go.Proofs.Ytmcdedmnekeibaa.G
open Go.RowKit Go.Proofs.YtmcdedmnekeibaaW.PrintWords Go.Proofs.YtmcdedmnekeibaaW.PrintLast Go.Proofs.YtmcdedmnekeibaaW.PrintMore
attribute [local go_sem] max2_int min2_int max_two min_two max_three min_three max_four min_four
set_option linter.unusedVariables false
set_option linter.unusedSimpArgs false
def errW : Option Int → Value
  | none => .nilIface
  | some c => .iface 0 (.int .i64 c)
theorem errW_none : errW none = .nilIface := rfl
theorem errW_some (c : Int) : errW (some c) = .iface 0 (.int .i64 c) := rfl
theorem info5 : (Try.prog.info? 5).map (fun i => (i.zero, i.size, i.bytes)) = some (some (.int .u8 0), 1, 1) := by kernel_rfl
theorem info32 : (Try.prog.info? 32).map (fun i => (i.zero, i.size, i.bytes)) = some (some (.slice none 0 0), 1, 24) := by kernel_rfl
def rd_L2 (xs : List (List Int)) (i : Int) : (List Int) := xs.getD i.toNat ([] : List Int)
theorem at_L2 {w : World} {A : Option Addr} {n : Nat} {xs : List (List Int)} (h : Kd.C (Kd.slice 5 (Kd.int .u8)) w A n xs) (i : Int) (h0 : 0 ≤ i) (h1 : i < n) : ∃ ad A0 c0, A = some ad ∧ w.cell? (ad.add i.toNat) = some (.slice A0 (rd_L2 xs i).length c0) ∧ (rd_L2 xs i).length ≤ c0 ∧ (Kd.int .u8).C w A0 (rd_L2 xs i).length (rd_L2 xs i) := by
  obtain ⟨ad, c, e, _, hK, hc0⟩ := Kd.C_get h ([] : List Int) i h0 h1
  have hc : ∀ j u, c[j]? = some u → w.cell? (ad.add (i.toNat * 1 + j)) = some u := hc0
  obtain ⟨A0, c0, rfl, l0, g0⟩ := hK
  exact ⟨ad, A0, c0, e, by have hq := hc 0 _ rfl; rwa [Nat.mul_one, Nat.add_zero] at hq, l0, g0⟩
def rd_L3 (xs : List (List (List Int))) (i : Int) : (List (List Int)) := xs.getD i.toNat ([] : List (List Int))
theorem at_L3 {w : World} {A : Option Addr} {n : Nat} {xs : List (List (List Int))} (h : Kd.C (Kd.slice 32 (Kd.slice 5 (Kd.int .u8))) w A n xs) (i : Int) (h0 : 0 ≤ i) (h1 : i < n) : ∃ ad A0 c0, A = some ad ∧ w.cell? (ad.add i.toNat) = some (.slice A0 (rd_L3 xs i).length c0) ∧ (rd_L3 xs i).length ≤ c0 ∧ (Kd.slice 5 (Kd.int .u8)).C w A0 (rd_L3 xs i).length (rd_L3 xs i) := by
  obtain ⟨ad, c, e, _, hK, hc0⟩ := Kd.C_get h ([] : List (List Int)) i h0 h1
  have hc : ∀ j u, c[j]? = some u → w.cell? (ad.add (i.toNat * 1 + j)) = some u := hc0
  obtain ⟨A0, c0, rfl, l0, g0⟩ := hK
  exact ⟨ad, A0, c0, e, by have hq := hc 0 _ rfl; rwa [Nat.mul_one, Nat.add_zero] at hq, l0, g0⟩
def idxP {α : Type} (p : α → Bool) (l : List α) : Int := match l.findIdx? p with | some i => (i : Int) | none => -1
theorem idxP_hit {α : Type} {p : α → Bool} {l : List α} {k : Nat} {y : α} (hy : l[k]? = some y) (hp : p y = true) (hn : ∀ j x, j < k → l[j]? = some x → p x = false) : idxP p l = (k : Int) := by
  have hk : k < l.length := (List.getElem?_eq_some_iff.1 hy).1
  have e : l.findIdx? p = some k := by
    rw [List.findIdx?_eq_some_iff_getElem]
    refine ⟨hk, ?_, fun j hj => ?_⟩
    · rw [(List.getElem?_eq_some_iff.1 hy).2]; exact hp
    · have := hn j l[j] hj (List.getElem?_eq_getElem (by omega))
      simp [this]
  simp [idxP, e]
theorem idxP_miss {α : Type} {p : α → Bool} {l : List α} (h : ∀ x ∈ l, p x = false) : idxP p l = -1 := by
  have e : l.findIdx? p = none := by
    rw [List.findIdx?_eq_none_iff]
    exact h
  simp [idxP, e]
theorem idxP_nonneg {α : Type} (p : α → Bool) (l : List α) : decide (0 ≤ idxP p l) = l.any p := by
  unfold idxP
  cases e : l.findIdx? p with
  | none =>
    rw [List.findIdx?_eq_none_iff] at e
    have : l.any p = false := by rw [List.any_eq_false]; intro x hx; simp [e x hx]
    simp [this]
  | some i =>
    rw [List.findIdx?_eq_some_iff_getElem] at e
    obtain ⟨h, hp, _⟩ := e
    have : l.any p = true := List.any_eq_true.2 ⟨l[i], List.getElem_mem h, hp⟩
    simp [this]
end Go.Proofs.Ytmcdedmnekeibaa.G
end

section
namespace Go.Proofs.Ytmcdedmnekeibaa.G
open Go.RowKit Go.Proofs.YtmcdedmnekeibaaW.PrintWords Go.Proofs.YtmcdedmnekeibaaW.PrintLast Go.Proofs.YtmcdedmnekeibaaW.PrintMore
attribute [local go_sem] max2_int min2_int max_two min_two max_three min_three max_four min_four
set_option linter.unusedVariables false
set_option linter.unusedSimpArgs false
def impl_firstOf.l0 : Nat → List Int → Int → Int → Option (Int)
 | 0,_,_,_ => none
 | k + 1,x5,x6,x7 => if x7 < x6 then (if 0 ≤ x7 then (if x7 < (x5.length : Int) then (if (rd x5 x7) = 0 then (impl_firstOf.l0 k x5 x6 (wrap64 (x7 + 1))) else (some (rd x5 x7))) else (none)) else (none)) else (some 0)
def impl_firstOf.f (k : Nat) (l0 : List Int) : Option (Int) := impl_firstOf.l0 k l0 (l0.length : Int) 0
set_option maxHeartbeats 8000000 in
set_option maxRecDepth 100000 in
theorem impl_firstOf.calls (k : Nat) (A0 : Option Addr) (c0 : Nat) (l0 : List Int) (r : Int) (w : World) (hr0 : Kd.C (Kd.int .i64) w A0 l0.length l0) (hc0 : l0.length ≤ c0) (h : impl_firstOf.f k l0 = some r) :
  Calls Try.prog 18 #[.slice A0 l0.length c0] w fun e w' => e = .returned (.int .i64 r) ∧ Drawn0 w w' := by
 have HR0 := Aside0.mk hr0;have HC0 := Aside0.mk hc0;clear hr0 hc0;have H : (impl_firstOf.l0 k l0 (l0.length : Int) 0) = some r := h;clear h;have H' := Aside0.mk H;clear H
 go_enter Try.func18,Try.ntmps18
 go_wp2
 go_loopg [7] k (fun kq v7 w' => ∃ (x7_1 : Int),v7 = .int .i64 x7_1 ∧ Aside0 (impl_firstOf.l0 kq l0 (l0.length : Int) x7_1 = some r) ∧ Aside0 (kq ≤ k) ∧ Drawn0 w w')
 case atStart => exact ⟨(0),(by first | rfl | (simp only [IntKind.wrap_i64,wrap64];done) | (simp;done) | (simp [*];done)),H',⟨Nat.le_refl _⟩,by repeat (first | exact Drawn0.refl _ | apply Drawn0.step)⟩
 case round =>
  clear H';(try clear c1);obtain ⟨x7_1,rfl,HA,HK1,⟨m1,rfl⟩⟩ := hrel
  cases gk with
  | zero => exact absurd HA.out (by simp [impl_firstOf.l0])
  | succ k1 =>
   have H := HA.out;clear HA;simp only [impl_firstOf.l0] at H
   by_cases c2 : x7_1 < (l0.length : Int)
   ·rw [if_pos c2] at H;have c2b0 : decide (x7_1 < (l0.length : Int)) = true := decide_eq_true c2;clear c2
    by_cases c3 : 0 ≤ x7_1
    ·rw [if_pos c3] at H;have c3b0 : decide (0 ≤ x7_1) = true := decide_eq_true c3;clear c3
     by_cases c4 : x7_1 < (l0.length : Int)
     ·rw [if_pos c4] at H;have c4b0 : decide (x7_1 < (l0.length : Int)) = true := decide_eq_true c4;clear c4
      by_cases c5 : (rd l0 x7_1) = 0
      ·rw [if_pos c5] at H;have c5b0 : ((rd l0 x7_1) == 0) = true := beq_iff_eq.mpr c5;have c5b1 : ((rd l0 x7_1) != 0) = false := bne_eq_false_iff_eq.mpr c5;clear c5;have H' := Aside0.mk H;clear H;have p101 : 0 ≤ (x7_1 : Int) := of_decide_eq_true (by first | (with_reducible assumption) | assumption);have q101 : x7_1 < (l0.length : Int) := of_decide_eq_true (by first | (with_reducible assumption) | assumption);obtain ⟨ad101,e101,hx101_0⟩ := Kd.at_int HR0.out x7_1 p101 q101;cases e101;replace p101 := eq_true p101;replace q101 := eq_true q101
       go_wp2
       go_roundg k1
       case measure => have := HK1.out;omega
       case rel => exact ⟨(wrap64 (x7_1 + 1)),(by first | rfl | (simp only [IntKind.wrap_i64,wrap64];done) | (simp;done) | (simp [*];done)),H',⟨by have := HK1.out;omega⟩,by repeat (first | exact Drawn0.refl _ | apply Drawn0.step)⟩
      ·rw [if_neg c5] at H;have c5b0 : ((rd l0 x7_1) == 0) = false := beq_eq_false_iff_ne.mpr c5;have c5b1 : ((rd l0 x7_1) != 0) = true := bne_iff_ne.mpr c5;obtain rfl := Option.some.inj H;have p101 : 0 ≤ (x7_1 : Int) := of_decide_eq_true (by first | (with_reducible assumption) | assumption);have q101 : x7_1 < (l0.length : Int) := of_decide_eq_true (by first | (with_reducible assumption) | assumption);obtain ⟨ad101,e101,hx101_0⟩ := Kd.at_int HR0.out x7_1 p101 q101;cases e101;replace p101 := eq_true p101;replace q101 := eq_true q101
       go_wp2
       go_ret
       exact ⟨by first | rfl | (simp only [IntKind.wrap_i64,wrap64];done) | (simp;done) | (simp [*];done),by repeat (first | exact Drawn0.refl _ | apply Drawn0.step)⟩
     ·rw [if_neg c4] at H;exact absurd H (by simp)
    ·rw [if_neg c3] at H;exact absurd H (by simp)
   ·rw [if_neg c2] at H;have c2b0 : decide (x7_1 < (l0.length : Int)) = false := decide_eq_false c2;clear c2;obtain rfl := Option.some.inj H
    go_wp2
    go_ret
    exact ⟨by first | rfl | (simp only [IntKind.wrap_i64,wrap64];done) | (simp;done) | (simp [*];done),by repeat (first | exact Drawn0.refl _ | apply Drawn0.step)⟩
end Go.Proofs.Ytmcdedmnekeibaa.G
end

section
namespace Go.Proofs.Ytmcdedmnekeibaa.G
open Go.RowKit Go.Proofs.YtmcdedmnekeibaaW.PrintWords Go.Proofs.YtmcdedmnekeibaaW.PrintLast Go.Proofs.YtmcdedmnekeibaaW.PrintMore
attribute [local go_sem] max2_int min2_int max_two min_two max_three min_three max_four min_four
set_option linter.unusedVariables false
set_option linter.unusedSimpArgs false
def impl_unless.f (a0 : Bool) (a1 : Int) : Option (Int) := if a0 = true then (some 0) else (some a1)
set_option maxHeartbeats 8000000 in
set_option maxRecDepth 100000 in
theorem impl_unless.calls (a0 : Bool) (a1 : Int) (r : Int) (w : World) (h : impl_unless.f a0 a1 = some r) :
  Calls Try.prog 20 #[.bool a0,.int .i64 a1] w fun e w' => e = .returned (.int .i64 r) ∧ Drawn0 w w' := by
 have H : (if a0 = true then (some 0) else (some a1)) = some r := h;clear h
 by_cases c3 : a0 = true
 ·subst c3
  have H1 : (some 0) = some r := by rw [if_pos rfl] at H;exact H
  clear H;have H := H1;clear H1;obtain rfl := Option.some.inj H
  go_enter Try.func20,Try.ntmps20
  go_wp2
  go_ret
  exact ⟨by first | rfl | (simp only [IntKind.wrap_i64,wrap64];done) | (simp;done) | (simp [*];done),by repeat (first | exact Drawn0.refl _ | apply Drawn0.step)⟩
 ·replace c3 := Bool.eq_false_iff.mpr c3;subst c3
  have H1 : (some a1) = some r := by rw [if_neg (show ¬ (false = true) by decide)] at H;exact H
  clear H;have H := H1;clear H1;obtain rfl := Option.some.inj H
  go_enter Try.func20,Try.ntmps20
  go_wp2
  go_ret
  exact ⟨by first | rfl | (simp only [IntKind.wrap_i64,wrap64];done) | (simp;done) | (simp [*];done),by repeat (first | exact Drawn0.refl _ | apply Drawn0.step)⟩
end Go.Proofs.Ytmcdedmnekeibaa.G
end

section
namespace Go.Proofs.Ytmcdedmnekeibaa.G
open Go.RowKit Go.Proofs.YtmcdedmnekeibaaW.PrintWords Go.Proofs.YtmcdedmnekeibaaW.PrintLast Go.Proofs.YtmcdedmnekeibaaW.PrintMore
attribute [local go_sem] max2_int min2_int max_two min_two max_three min_three max_four min_four
set_option linter.unusedVariables false
set_option linter.unusedSimpArgs false
def impl_unlike.l0 : Nat → List Int → Int → List Int → Int → Int → Option (Int)
 | 0,_,_,_,_,_ => none
 | k + 1,x1,x5,x8,x9,x10 => if x10 < x9 then (if 0 ≤ x10 then (if x10 < (x8.length : Int) then (if x10 < (x1.length : Int) then (if (rd x1 x10) = (rd x8 x10) then (impl_unlike.l0 k x1 x5 x8 x9 (wrap64 (x10 + 1))) else (impl_unlike.l0 k x1 (wrap64 (x5 + 1)) x8 x9 (wrap64 (x10 + 1)))) else (none)) else (none)) else (none)) else (some x5)
def impl_unlike.f (k : Nat) (l0 : List Int) (l1 : List Int) : Option (Int) := impl_unlike.l0 k l1 0 l0 (l0.length : Int) 0
set_option maxHeartbeats 8000000 in
set_option maxRecDepth 100000 in
theorem impl_unlike.calls (k : Nat) (A0 : Option Addr) (c0 : Nat) (l0 : List Int) (A1 : Option Addr) (c1 : Nat) (l1 : List Int) (r : Int) (w : World) (hr0 : Kd.C (Kd.int .u8) w A0 l0.length l0) (hc0 : l0.length ≤ c0) (hr1 : Kd.C (Kd.int .u8) w A1 l1.length l1) (hc1 : l1.length ≤ c1) (h : impl_unlike.f k l0 l1 = some r) :
  Calls Try.prog 27 #[.slice A0 l0.length c0,.slice A1 l1.length c1] w fun e w' => e = .returned (.int .i64 r) ∧ Drawn0 w w' := by
 have HR0 := Aside0.mk hr0;have HC0 := Aside0.mk hc0;clear hr0 hc0;have HR1 := Aside0.mk hr1;have HC1 := Aside0.mk hc1;clear hr1 hc1;have H : (impl_unlike.l0 k l1 0 l0 (l0.length : Int) 0) = some r := h;clear h;have H' := Aside0.mk H;clear H
 go_enter Try.func27,Try.ntmps27
 go_wp2
 go_loopg [5,10] k (fun kq v5 v10 w' => ∃ (x5_1 : Int) (x10_1 : Int),v5 = .int .i64 x5_1 ∧ v10 = .int .i64 x10_1 ∧ Aside0 (impl_unlike.l0 kq l1 x5_1 l0 (l0.length : Int) x10_1 = some r) ∧ Aside0 (kq ≤ k) ∧ Drawn0 w w')
 case atStart => exact ⟨(0),(0),(by first | rfl | (simp only [IntKind.wrap_i64,wrap64];done) | (simp;done) | (simp [*];done)),(by first | rfl | (simp only [IntKind.wrap_i64,wrap64];done) | (simp;done) | (simp [*];done)),H',⟨Nat.le_refl _⟩,by repeat (first | exact Drawn0.refl _ | apply Drawn0.step)⟩
 case round =>
  clear H';(try clear c1);(try clear c2);(try clear p2);obtain ⟨x5_1,x10_1,rfl,rfl,HA,HK1,⟨m1,rfl⟩⟩ := hrel
  cases gk with
  | zero => exact absurd HA.out (by simp [impl_unlike.l0])
  | succ k1 =>
   have H := HA.out;clear HA;simp only [impl_unlike.l0] at H
   by_cases c3 : x10_1 < (l0.length : Int)
   ·rw [if_pos c3] at H;have c3b0 : decide (x10_1 < (l0.length : Int)) = true := decide_eq_true c3;clear c3
    by_cases c4 : 0 ≤ x10_1
    ·rw [if_pos c4] at H;have c4b0 : decide (0 ≤ x10_1) = true := decide_eq_true c4;clear c4
     by_cases c5 : x10_1 < (l0.length : Int)
     ·rw [if_pos c5] at H;have c5b0 : decide (x10_1 < (l0.length : Int)) = true := decide_eq_true c5;clear c5
      by_cases c6 : x10_1 < (l1.length : Int)
      ·rw [if_pos c6] at H;have c6b0 : decide (x10_1 < (l1.length : Int)) = true := decide_eq_true c6;clear c6
       by_cases c7 : (rd l1 x10_1) = (rd l0 x10_1)
       ·rw [if_pos c7] at H;have c7b0 : ((rd l1 x10_1) == (rd l0 x10_1)) = true := beq_iff_eq.mpr c7;have c7b1 : ((rd l1 x10_1) != (rd l0 x10_1)) = false := bne_eq_false_iff_eq.mpr c7;clear c7;have H' := Aside0.mk H;clear H;have p101 : 0 ≤ (x10_1 : Int) := of_decide_eq_true (by first | (with_reducible assumption) | assumption);have q101 : x10_1 < (l0.length : Int) := of_decide_eq_true (by first | (with_reducible assumption) | assumption);obtain ⟨ad101,e101,hx101_0⟩ := Kd.at_int HR0.out x10_1 p101 q101;cases e101;replace p101 := eq_true p101;replace q101 := eq_true q101;have p102 : 0 ≤ (x10_1 : Int) := of_decide_eq_true (by first | (with_reducible assumption) | assumption);have q102 : x10_1 < (l1.length : Int) := of_decide_eq_true (by first | (with_reducible assumption) | assumption);obtain ⟨ad102,e102,hx102_0⟩ := Kd.at_int HR1.out x10_1 p102 q102;cases e102;replace p102 := eq_true p102;replace q102 := eq_true q102
        go_wp2
        go_roundg k1
        case measure => have := HK1.out;omega
        case rel => exact ⟨(x5_1),(wrap64 (x10_1 + 1)),(by first | rfl | (simp only [IntKind.wrap_i64,wrap64];done) | (simp;done) | (simp [*];done)),(by first | rfl | (simp only [IntKind.wrap_i64,wrap64];done) | (simp;done) | (simp [*];done)),H',⟨by have := HK1.out;omega⟩,by repeat (first | exact Drawn0.refl _ | apply Drawn0.step)⟩
       ·rw [if_neg c7] at H;have c7b0 : ((rd l1 x10_1) == (rd l0 x10_1)) = false := beq_eq_false_iff_ne.mpr c7;have c7b1 : ((rd l1 x10_1) != (rd l0 x10_1)) = true := bne_iff_ne.mpr c7;have H' := Aside0.mk H;clear H;have p101 : 0 ≤ (x10_1 : Int) := of_decide_eq_true (by first | (with_reducible assumption) | assumption);have q101 : x10_1 < (l0.length : Int) := of_decide_eq_true (by first | (with_reducible assumption) | assumption);obtain ⟨ad101,e101,hx101_0⟩ := Kd.at_int HR0.out x10_1 p101 q101;cases e101;replace p101 := eq_true p101;replace q101 := eq_true q101;have p102 : 0 ≤ (x10_1 : Int) := of_decide_eq_true (by first | (with_reducible assumption) | assumption);have q102 : x10_1 < (l1.length : Int) := of_decide_eq_true (by first | (with_reducible assumption) | assumption);obtain ⟨ad102,e102,hx102_0⟩ := Kd.at_int HR1.out x10_1 p102 q102;cases e102;replace p102 := eq_true p102;replace q102 := eq_true q102
        go_wp2
        go_roundg k1
        case measure => have := HK1.out;omega
        case rel => exact ⟨(wrap64 (x5_1 + 1)),(wrap64 (x10_1 + 1)),(by first | rfl | (simp only [IntKind.wrap_i64,wrap64];done) | (simp;done) | (simp [*];done)),(by first | rfl | (simp only [IntKind.wrap_i64,wrap64];done) | (simp;done) | (simp [*];done)),H',⟨by have := HK1.out;omega⟩,by repeat (first | exact Drawn0.refl _ | apply Drawn0.step)⟩
      ·rw [if_neg c6] at H;exact absurd H (by simp)
     ·rw [if_neg c5] at H;exact absurd H (by simp)
    ·rw [if_neg c4] at H;exact absurd H (by simp)
   ·rw [if_neg c3] at H;have c3b0 : decide (x10_1 < (l0.length : Int)) = false := decide_eq_false c3;clear c3;obtain rfl := Option.some.inj H
    go_wp2
    go_ret
    exact ⟨by first | rfl | (simp only [IntKind.wrap_i64,wrap64];done) | (simp;done) | (simp [*];done),by repeat (first | exact Drawn0.refl _ | apply Drawn0.step)⟩
end Go.Proofs.Ytmcdedmnekeibaa.G
end

section
namespace Go.Proofs.Ytmcdedmnekeibaa.G
open Go.RowKit Go.Proofs.YtmcdedmnekeibaaW.PrintWords Go.Proofs.YtmcdedmnekeibaaW.PrintLast Go.Proofs.YtmcdedmnekeibaaW.PrintMore
attribute [local go_sem] max2_int min2_int max_two min_two max_three min_three max_four min_four
set_option linter.unusedVariables false
set_option linter.unusedSimpArgs false
def impl_within.f (a0 : Int) (a1 : Int) (a2 : Int) : Option (Bool) := if a1 ≤ a0 then (some (decide (a0 ≤ a2))) else (some false)
set_option maxHeartbeats 8000000 in
set_option maxRecDepth 100000 in
theorem impl_within.calls (a0 : Int) (a1 : Int) (a2 : Int) (r : Bool) (w : World) (h : impl_within.f a0 a1 a2 = some r) :
  Calls Try.prog 21 #[.int .i64 a0,.int .i64 a1,.int .i64 a2] w fun e w' => e = .returned (.bool r) ∧ Drawn0 w w' := by
 have H : (if a1 ≤ a0 then (some (decide (a0 ≤ a2))) else (some false)) = some r := h;clear h
 by_cases c4 : a1 ≤ a0
 ·rw [if_pos c4] at H;have c4b0 : decide (a1 ≤ a0) = true := decide_eq_true c4;clear c4;obtain rfl := Option.some.inj H
  go_enter Try.func21,Try.ntmps21
  go_wp2
  go_ret
  exact ⟨by first | rfl | (simp only [IntKind.wrap_i64,wrap64];done) | (simp;done) | (simp [*];done),by repeat (first | exact Drawn0.refl _ | apply Drawn0.step)⟩
 ·rw [if_neg c4] at H;have c4b0 : decide (a1 ≤ a0) = false := decide_eq_false c4;clear c4;obtain rfl := Option.some.inj H
  go_enter Try.func21,Try.ntmps21
  go_wp2
  go_ret
  exact ⟨by first | rfl | (simp only [IntKind.wrap_i64,wrap64];done) | (simp;done) | (simp [*];done),by repeat (first | exact Drawn0.refl _ | apply Drawn0.step)⟩
end Go.Proofs.Ytmcdedmnekeibaa.G
end

section
namespace Go.Proofs.Ytmcdedmnekeibaa.G
open Go.RowKit Go.Proofs.YtmcdedmnekeibaaW.PrintWords Go.Proofs.YtmcdedmnekeibaaW.PrintLast Go.Proofs.YtmcdedmnekeibaaW.PrintMore
attribute [local go_sem] max2_int min2_int max_two min_two max_three min_three max_four min_four
set_option linter.unusedVariables false
set_option linter.unusedSimpArgs false
def anyO {α : Type} (p : α → Option Bool) (l : List α) : Option Bool := if l.all (fun x => (p x).isSome) = true then some (l.any (fun x => p x == some true)) else none
theorem anyO_some {α : Type} {p : α → Option Bool} {l : List α} {r : Bool} (h : anyO p l = some r) : (∀ x ∈ l, (p x).isSome = true) ∧ l.any (fun x => p x == some true) = r := by
  unfold anyO at h
  split at h
  · rename_i ha
    exact ⟨List.all_eq_true.1 ha, Option.some.inj h⟩
  · cases h
theorem allSome {α : Type} {p : α → Option Bool} {q : α → Bool} {l : List α} (h : ∀ x ∈ l, p x = some (q x)) : l.all (fun x => (p x).isSome) = true := List.all_eq_true.2 fun x hx => by rw [h x hx]; rfl
theorem someEq {α : Type} {p : α → Option Bool} {q : α → Bool} {l : List α} (h : ∀ x ∈ l, p x = some (q x)) : ∀ x ∈ l, (p x == some true) = q x := fun x hx => by rw [h x hx]; cases q x <;> rfl
theorem any_congr_ {α : Type} {p q : α → Bool} {l : List α} (h : ∀ x ∈ l, p x = q x) : l.any p = l.any q := by
  induction l with
  | nil => rfl
  | cons a l ih => simp [h a (by simp), ih (fun x hx => h x (by simp [hx]))]
theorem anyO_eq {α : Type} {p : α → Option Bool} {q : α → Bool} {l : List α} (h : ∀ x ∈ l, p x = some (q x)) : anyO p l = some (l.any q) := by
  unfold anyO
  rw [if_pos (allSome h), any_congr_ (someEq h)]
section
variable {P : Program} {ops : Array Oper} {Q : Exit → Act → World → Prop}
theorem goesLD_ {rest : List Oper} {oi : Oper} {a : Act} {w : World} (N : Option Tmp) (hd : oi.dst = N) (hg : oi.guard = none) {p : Operand} {f : FuncId} {fn : Func} {as_ : Array Operand} {ts : Array TypeId} (hf : P.funcs[f]? = some fn) (hname : (fn.name == "runtime.NumGoroutine") = false) (hb : fn.body.isSome = true) (lb args : Array Value)
    (hop : oi.op = .call { callee := .value p, args := as_, argTypes := ts }) (hp : a.eval p = .func (.func f) #[] lb) (hargs : as_.map a.eval ++ lb = args)
    (h : Calls P f args w fun e w' => ∃ v, e = .returned v ∧ wpList P ops Q rest (a.put N v) w') : wpList P ops Q (oi :: rest) a w := by
  refine wpList_plain hg fun K hK => ?_
  have he := Go.Proofs.YtmcdedmnekeibaaW.PrintLast.enters_ hf hname hb args w
  have hrun : (execOp a.eval oi).run P w = .ok (.enter f args) w := by
    unfold execOp
    simp [hop, resolve, hp, Deferred.ofValue, invoke, hargs, he]
  unfold Oper.wp
  rw [hrun, Oper.upon_enter]
  refine h.mono fun e w'' hh => ?_
  obtain ⟨v, rfl, hk⟩ := hh
  subst hd
  exact hK _ _ hk
theorem gate_calleeD {rest : List Oper} {o : Oper} {a : Act} {W : World} {p : Operand} {as_ : Array Operand} {ts : Array TypeId} (_ho : o.op = .call { callee := .value p, args := as_, argTypes := ts }) (h : wpList P ops Q (o :: rest) a W) : wpList P ops Q (o :: rest) a W := h
end
end Go.Proofs.Ytmcdedmnekeibaa.G
end

section
namespace Go.Proofs.Ytmcdedmnekeibaa.G
open Go.RowKit Go.Proofs.YtmcdedmnekeibaaW.PrintWords Go.Proofs.YtmcdedmnekeibaaW.PrintLast Go.Proofs.YtmcdedmnekeibaaW.PrintMore
attribute [local go_sem] max2_int min2_int max_two min_two max_three min_three max_four min_four
set_option linter.unusedVariables false
set_option linter.unusedSimpArgs false
def impl_size_uint8.f (l0 : List Int) : Option (Int) := some (l0.length : Int)
set_option maxHeartbeats 8000000 in
set_option maxRecDepth 100000 in
theorem impl_size_uint8.calls (A0 : Option Addr) (c0 : Nat) (l0 : List Int) (r : Int) (w : World) (hr0 : Kd.C (Kd.int .u8) w A0 l0.length l0) (hc0 : l0.length ≤ c0) (h : impl_size_uint8.f l0 = some r) :
  Calls Try.prog 47 #[.slice A0 l0.length c0] w fun e w' => e = .returned (.int .i64 r) ∧ Drawn0 w w' := by
 have HR0 := Aside0.mk hr0;have HC0 := Aside0.mk hc0;clear hr0 hc0;have H : (some (l0.length : Int)) = some r := h;clear h;obtain rfl := Option.some.inj H
 go_enter Try.func47,Try.ntmps47
 go_wp2
 go_ret
 exact ⟨by first | rfl | (simp only [IntKind.wrap_i64,wrap64];done) | (simp;done) | (simp [*];done),by repeat (first | exact Drawn0.refl _ | apply Drawn0.step)⟩
end Go.Proofs.Ytmcdedmnekeibaa.G
end

section
namespace Go.Proofs.Ytmcdedmnekeibaa.G
open Go.RowKit Go.Proofs.YtmcdedmnekeibaaW.PrintWords Go.Proofs.YtmcdedmnekeibaaW.PrintLast Go.Proofs.YtmcdedmnekeibaaW.PrintMore
attribute [local go_sem] max2_int min2_int max_two min_two max_three min_three max_four min_four
set_option linter.unusedVariables false
set_option linter.unusedSimpArgs false
def impl_Word_isWord_1.f (a0 : Int) (a1 : Int) : Option (Bool) := some (decide ((wrap64 (a0)) ≥ (mn a1 37)))
set_option maxHeartbeats 8000000 in
set_option maxRecDepth 100000 in
theorem impl_Word_isWord_1.calls (a0 : Int) (a1 : Int) (b1 : Nat) (r : Bool) (w : World) (hb1 : w.heap[b1]? = some (.cells #[.int .i64 a1] 2 (0,0))) (h : impl_Word_isWord_1.f a0 a1 = some r) :
  Calls Try.prog 49 #[.int .u8 a0,.pointer (some ⟨b1,0,none⟩)] w fun e w' => e = .returned (.bool r) ∧ Below w.heap.size w w' := by
 have BK1 := Aside0.mk hb1;clear hb1;have HB := Aside0.mk (Below.refl w.heap.size w);have H : (some (decide ((wrap64 (a0)) ≥ (mn a1 37)))) = some r := h;clear h;obtain ⟨ji3,hji3⟩ : ∃ j_ : Int,(mn a1 37) = j_ := ⟨_,rfl⟩
 replace H : (some (decide ((wrap64 (a0)) ≥ (ji3)))) = some r := by first | (rw [hji3] at H;exact H) | (simp only [hji3] at H ⊢;exact H)
 (try (have hji3h : ji3 ≤ 37 := by (rw [← hji3];unfold mn;(repeat' split) <;> omega)));(try (have hji3g : ji3 ≤ 64 := by omega));have hji3_ : (if 37 < a1 then 37 else a1) = ji3 := hji3;obtain rfl := Option.some.inj H;have hcz4_0 : w.cell? ⟨b1,0,none⟩ = some (.int .i64 a1) := (blk_cell BK1.out 0).trans rfl;have hfz4_0 := blk_frozen BK1.out 0
 go_enter Try.func49,Try.ntmps49
 go_wp2
 go_ret
 exact ⟨by first | rfl | (simp [errW_none,errW_some,IntKind.wrap_i64,wrap64];done) | (simp [errW_none,errW_some] <;> rfl) | (simp only [← hji3];first | rfl | (simp [errW_none,errW_some] <;> rfl)) | (simp [*,errW_none,errW_some] <;> rfl),by repeat (first | (with_reducible first | exact HB.out | apply below_alloc | apply pw_below_drewN | apply below_drew1 | refine below_set ?_ GE1.out) | exact HB.out)⟩
end Go.Proofs.Ytmcdedmnekeibaa.G
end

section
namespace Go.Proofs.Ytmcdedmnekeibaa.G
open Go.RowKit Go.Proofs.YtmcdedmnekeibaaW.PrintWords Go.Proofs.YtmcdedmnekeibaaW.PrintLast Go.Proofs.YtmcdedmnekeibaaW.PrintMore
attribute [local go_sem] max2_int min2_int max_two min_two max_three min_three max_four min_four
set_option linter.unusedVariables false
set_option linter.unusedSimpArgs false
set_option maxHeartbeats 2000000 in
theorem slices_IndexFunc_Word_uint8.calls (A0 : Option Addr) (c0 : Nat) (l0 : List (Int)) (g : Nat) (lb : Array Value) (eg : ∀ args w,(callFunc g args).run Try.prog w = .ok (.enter g args) w) (p : Int → Bool) (w : World)
  (hr0 : Kd.C (Kd.int .u8) w A0 l0.length l0) (hc0 : l0.length ≤ c0)
  (hp : ∀ W,Below w.heap.size w W → ∀ x ∈ l0,Calls Try.prog g (#[.int .u8 x] ++ lb) W fun e w' => e = .returned (.bool (p x)) ∧ Below w.heap.size w w') :
  Calls Try.prog 52 #[.slice A0 l0.length c0,.func (.func g) #[] lb] w fun e w' => e = .returned (.int .i64 (idxP p l0)) ∧ Below w.heap.size w w' := by
 have hl : l0.length ≤ 9223372036854775807 := hr0.2.1;have HR0 := Aside0.mk hr0;have HP := Aside0.mk hp;clear hr0 hp;generalize hn : l0.length = n at *;have Hn := Aside0.mk hn;clear hn
 go_enter Try.func52,Try.ntmps52
 go_wp2
 go_loopg [5,8] n (fun gg _ s8 wr => ∃ kk : Nat,kk ≤ n ∧ n - kk ≤ gg ∧ s8 = .int .i64 kk ∧ Aside0 (Below w.heap.size w wr) ∧ Aside0 (∀ j x,j < kk → l0[j]? = some x → p x = false))
 case atStart => exact ⟨0,Nat.zero_le _,by omega,rfl,⟨Below.refl _ w⟩,⟨fun j _ hj => absurd hj (Nat.not_lt_zero _)⟩⟩
 case round =>
  obtain ⟨kk,hkk,hg,rfl,BW,AF⟩ := hrel
  by_cases hlt : kk < n
  ·have hltz : (kk : Int) < (n : Int) := by omega
   obtain ⟨ad,e0,hx0⟩ := Kd.at_int HR0.out (kk : Int) (by omega) (by omega);cases e0;simp only [Int.toNat_natCast] at hx0;(try rw [show ((Kd.int .u8)).sz = 1 from rfl,Nat.mul_one,Nat.add_zero] at hx0);replace hx0 := (BW.out.cell (World.block_lt_of_cell? w _ hx0)).trans hx0
   have hm : l0[kk]? = some (rd l0 (kk : Int)) := by
    have h1 : kk < l0.length := by rw [Hn.out];exact hlt
    simp [rd,List.getD_eq_getElem?_getD,List.getElem?_eq_getElem h1]
   have hcall := HP.out wr BW.out (rd l0 (kk : Int)) (List.mem_of_getElem? hm);generalize hy : rd l0 (kk : Int) = y at *;clear hy;have HM := Aside0.mk hm;clear hm
   cases hq : p y with
   | true =>
    rw [hq] at hcall;have HQ := Aside0.mk hq;clear hq
    go_wp2_with (go_at_fn g;refine hcall.mono ?_;rintro e w' ⟨rfl,hb'⟩)
    go_ret
    refine ⟨?_,hb'⟩;rw [idxP_hit HM.out HQ.out AF.out];rfl
   | false =>
    rw [hq] at hcall;have HQ := Aside0.mk hq;clear hq
    go_wp2_with (go_at_fn g;refine hcall.mono ?_;rintro e w' ⟨rfl,hb'⟩)
    go_roundg (n - (kk + 1))
    case measure => omega
    case rel =>
     refine ⟨kk + 1,by omega,by omega,by go_num,⟨hb'⟩,⟨fun j x hj hx => ?_⟩⟩
     by_cases e : j = kk
     ·subst e;rw [HM.out] at hx;cases hx;exact HQ.out
     ·exact AF.out j x (by omega) hx
  ·have hltz : ¬ (kk : Int) < (n : Int) := by omega
   have : kk = n := by omega
   subst this
   go_wp2
   go_ret
   refine ⟨?_,BW.out⟩
   rw [idxP_miss (fun x hx => by
    obtain ⟨j,hj,rfl⟩ := List.mem_iff_getElem.1 hx
    exact AF.out j _ (by rw [← Hn.out];exact hj) (List.getElem?_eq_getElem hj))]
   rfl
end Go.Proofs.Ytmcdedmnekeibaa.G
end

section
namespace Go.Proofs.Ytmcdedmnekeibaa.G
open Go.RowKit Go.Proofs.YtmcdedmnekeibaaW.PrintWords Go.Proofs.YtmcdedmnekeibaaW.PrintLast Go.Proofs.YtmcdedmnekeibaaW.PrintMore
attribute [local go_sem] max2_int min2_int max_two min_two max_three min_three max_four min_four
set_option linter.unusedVariables false
set_option linter.unusedSimpArgs false
set_option maxHeartbeats 2000000 in
theorem slices_ContainsFunc_Word_uint8.calls (A0 : Option Addr) (c0 : Nat) (l0 : List (Int)) (g : Nat) (lb : Array Value) (eg : ∀ args w,(callFunc g args).run Try.prog w = .ok (.enter g args) w) (p : Int → Bool) (w : World)
  (hr0 : Kd.C (Kd.int .u8) w A0 l0.length l0) (hc0 : l0.length ≤ c0)
  (hp : ∀ W,Below w.heap.size w W → ∀ x ∈ l0,Calls Try.prog g (#[.int .u8 x] ++ lb) W fun e w' => e = .returned (.bool (p x)) ∧ Below w.heap.size w w') :
  Calls Try.prog 48 #[.slice A0 l0.length c0,.func (.func g) #[] lb] w fun e w' => e = .returned (.bool (l0.any p)) ∧ Below w.heap.size w w' := by
 have H := Aside0.mk (slices_IndexFunc_Word_uint8.calls A0 c0 l0 g lb eg p w hr0 hc0 hp);rw [← idxP_nonneg];clear hp hr0 eg
 go_enter Try.func48,Try.ntmps48
 go_wp2_with (go_at_call 52;refine H.out.mono ?_;rintro e w' ⟨rfl,hb'⟩)
 go_ret
 exact ⟨rfl,hb'⟩
end Go.Proofs.Ytmcdedmnekeibaa.G
end

section
namespace Go.Proofs.Ytmcdedmnekeibaa.G
open Go.RowKit Go.Proofs.YtmcdedmnekeibaaW.PrintWords Go.Proofs.YtmcdedmnekeibaaW.PrintLast Go.Proofs.YtmcdedmnekeibaaW.PrintMore
attribute [local go_sem] max2_int min2_int max_two min_two max_three min_three max_four min_four
set_option linter.unusedVariables false
set_option linter.unusedSimpArgs false
def slices_ContainsFunc_Word_uint8__impl_Word_isWord_1.f (l0 : List (Int)) (a1 : Int) : Option (Bool) := anyO (fun x => impl_Word_isWord_1.f x a1) l0
set_option maxHeartbeats 2000000 in
theorem slices_ContainsFunc_Word_uint8__impl_Word_isWord_1.calls (A0 : Option Addr) (c0 : Nat) (l0 : List (Int)) (a1 : Int) (b1 : Nat) (r : Bool) (w : World) (hr0 : Kd.C (Kd.int .u8) w A0 l0.length l0) (hc0 : l0.length ≤ c0) (hb1 : w.heap[b1]? = some (.cells #[.int .i64 a1] 2 (0,0))) (h : slices_ContainsFunc_Word_uint8__impl_Word_isWord_1.f l0 a1 = some r) :
  Calls Try.prog 48 #[.slice A0 l0.length c0,.func (.func 49) #[] #[.pointer (some ⟨b1,0,none⟩)]] w fun e w' => e = .returned (.bool r) ∧ Below w.heap.size w w' := by
 have eg := enters_of Try.func49 (by kernel_rfl) rfl;obtain ⟨hall,rfl⟩ := anyO_some h;refine slices_ContainsFunc_Word_uint8.calls A0 c0 l0 _ #[.pointer (some ⟨b1,0,none⟩)] eg (fun x => impl_Word_isWord_1.f x a1 == some true) w hr0 hc0 (fun W hW x hx => ?_);obtain ⟨b,hb⟩ := Option.isSome_iff_exists.1 (hall x hx);rw [show (#[.int .u8 x] ++ #[.pointer (some ⟨b1,0,none⟩)] : Array Value) = #[.int .u8 x,.pointer (some ⟨b1,0,none⟩)] from rfl]
 refine (impl_Word_isWord_1.calls x a1 b1 b W  (blk_below hb1 hW) hb).mono fun e w' ⟨he,hw⟩ => ⟨he.trans (by rw [hb];cases b <;> rfl),?_⟩
 exact below_then hW hW.size hw
end Go.Proofs.Ytmcdedmnekeibaa.G
end

section
namespace Go.Proofs.Ytmcdedmnekeibaa.G
open Go.RowKit Go.Proofs.YtmcdedmnekeibaaW.PrintWords Go.Proofs.YtmcdedmnekeibaaW.PrintLast Go.Proofs.YtmcdedmnekeibaaW.PrintMore
attribute [local go_sem] max2_int min2_int max_two min_two max_three min_three max_four min_four
set_option linter.unusedVariables false
set_option linter.unusedSimpArgs false
def impl_Word_isWord.f (l0 : List Int) (a1 : Int) : Option (Bool) := (impl_size_uint8.f l0).bind fun t102 => ((impl_within.f t102 1 8).bind fun t103 => (if t103 = true then ((slices_ContainsFunc_Word_uint8__impl_Word_isWord_1.f l0 a1).bind fun t104 => (some (!t104))) else (some false)))
set_option maxHeartbeats 8000000 in
set_option maxRecDepth 100000 in
theorem impl_Word_isWord.calls (A0 : Option Addr) (c0 : Nat) (l0 : List Int) (a1 : Int) (r : Bool) (w : World) (hr0 : Kd.C (Kd.int .u8) w A0 l0.length l0) (hc0 : l0.length ≤ c0) (h : impl_Word_isWord.f l0 a1 = some r) :
  Calls Try.prog 42 #[.slice A0 l0.length c0,.int .i64 a1] w fun e w' => e = .returned (.bool r) ∧ Below w.heap.size w w' := by
 have HR0 := Aside0.mk hr0;have HC0 := Aside0.mk hc0;clear hr0 hc0;have HB := Aside0.mk (Below.refl w.heap.size w);have H : ((impl_size_uint8.f l0).bind fun t102 => ((impl_within.f t102 1 8).bind fun t103 => (if t103 = true then ((slices_ContainsFunc_Word_uint8__impl_Word_isWord_1.f l0 a1).bind fun t104 => (some (!t104))) else (some false)))) = some r := h;clear h;replace H := Option.bind_eq_some_iff.mp H;obtain ⟨t102,A30,H⟩ := H;replace H : ((impl_within.f t102 1 8).bind fun t103 => (if t103 = true then ((slices_ContainsFunc_Word_uint8__impl_Word_isWord_1.f l0 a1).bind fun t104 => (some (!t104))) else (some false))) = some r := H;have A3 := Aside0.mk A30;clear A30;replace H := Option.bind_eq_some_iff.mp H;obtain ⟨t103,A40,H⟩ := H;replace H : (if t103 = true then ((slices_ContainsFunc_Word_uint8__impl_Word_isWord_1.f l0 a1).bind fun t104 => (some (!t104))) else (some false)) = some r := H;have A4 := Aside0.mk A40;clear A40
 by_cases c5 : t103 = true
 ·subst c5
  have H1 : ((slices_ContainsFunc_Word_uint8__impl_Word_isWord_1.f l0 a1).bind fun t104 => (some (!t104))) = some r := by rw [if_pos rfl] at H;exact H
  clear H;have H := H1;clear H1;replace H := Option.bind_eq_some_iff.mp H;obtain ⟨t104,A60,H⟩ := H;replace H : (some (!t104)) = some r := H;have A6 := Aside0.mk A60;clear A60;obtain rfl := Option.some.inj H
  go_enter Try.func42,Try.ntmps42
  go_wp2_with (first | ((with_reducible refine gate_dst (N := 3) rfl ?_);refine box_event ?hg (N := 3) ?hd (cs := #[.int .i64 a1]) (t := 2) ?hr ?_;(case hd => rfl);(case hg => rfl);(case hr => first | (go_simp;done) | (go_simp;rfl));intro gb101 hg w7 hbox hb;have n0_ := Aside0.mk (below_step (by repeat (first | (with_reducible first | exact HB.out | apply below_alloc | apply pw_below_drewN | apply below_drew1) | exact HB.out)) hb);have n1_ := Aside0.mk (hbox);have n2_ := Aside0.mk ((by rw [hg];exact (below_size (by repeat (first | (with_reducible first | exact HB.out | apply below_alloc | apply pw_below_drewN | apply below_drew1) | exact HB.out))) : w.heap.size ≤ gb101));have n3_ := Aside0.mk ((by rw [hg];exact (below_size (by repeat (first | (with_reducible first | exact HB.out | apply below_alloc | apply pw_below_drewN | apply below_drew1) | exact HB.out))) : w.heap.size ≤ gb101));clear HB;have HB := n0_;have BK101 := n1_;have GW101 := n2_;have GE101 := n3_;clear n0_ n1_ n2_ n3_;clear hb hbox hg) | ((with_reducible refine gate_callee (f := 47) rfl ?_);refine goesL_ (some 6) rfl rfl Try.func47 (by kernel_rfl) rfl #[.slice A0 l0.length c0] rfl (by (try simp only [List.map_toArray,List.map_cons,List.map_nil]);first | done | rfl | (simp only [List.length_drop,List.length_take];rfl)) ?_;(with_reducible refine (impl_size_uint8.calls _ _ l0 t102 _ ?side1 ?side2 A3.out).mono ?_);(case side1 => repeat (first | exact (Kd.C_below HR0.out HB.out) | (with_reducible refine Kd.C_alloc ?_ _) | (with_reducible refine Kd.C_drewN ?_ _) | (with_reducible refine Kd.C_drew ?_)));(case side2 => exact HC0.out);rintro e w' ⟨rfl,⟨nd,rfl⟩⟩;refine ⟨_,rfl,?_⟩) | ((with_reducible refine gate_callee (f := 21) rfl ?_);refine goesL_ (some 7) rfl rfl Try.func21 (by kernel_rfl) rfl #[.int .i64 t102,.int .i64 1,.int .i64 8] rfl (by (try simp only [List.map_toArray,List.map_cons,List.map_nil]);first | done | rfl | (simp only [List.length_drop,List.length_take];rfl)) ?_;(with_reducible refine (impl_within.calls t102 1 8 true _ A4.out).mono ?_);rintro e w' ⟨rfl,⟨nd,rfl⟩⟩;refine ⟨_,rfl,?_⟩) | (go_at_call 48;(with_reducible refine (slices_ContainsFunc_Word_uint8__impl_Word_isWord_1.calls _ _ l0 a1 gb101 t104 _ ?side1 ?side2 ?side3 A6.out).mono ?_);(case side1 => repeat (first | exact (Kd.C_below HR0.out (by repeat (first | (with_reducible first | exact HB.out | apply below_alloc | apply pw_below_drewN | apply below_drew1 | refine below_set ?_ GE101.out) | exact HB.out))) | (with_reducible refine Kd.C_alloc ?_ _) | (with_reducible refine Kd.C_drewN ?_ _) | (with_reducible refine Kd.C_drew ?_)));(case side2 => exact HC0.out);(case side3 => (with_reducible repeat (first | refine blk_drewN ?_ _ | refine blk_drew ?_ | refine blk_alloc ?_ _));exact BK101.out);rintro e w8 ⟨rfl,hb⟩;have n0_ := Aside0.mk (blk_below (g := gb101) (o := .cells #[.int .i64 a1] 2 (0,0)) (by (with_reducible repeat (first | refine blk_drewN ?_ _ | refine blk_drew ?_ | refine blk_alloc ?_ _));exact BK101.out) hb);have n1_ := Aside0.mk (below_step (by repeat (first | (with_reducible first | exact HB.out | apply below_alloc | apply pw_below_drewN | apply below_drew1 | refine below_set ?_ GE101.out) | exact HB.out)) hb);clear BK101;clear HB;have BK101 := n0_;have HB := n1_;clear n0_ n1_;(try clear hb);(try clear hb2);(try clear hk);(try clear hi)))
  go_ret
  exact ⟨by first | rfl | (simp [errW_none,errW_some,IntKind.wrap_i64,wrap64];done) | (simp [errW_none,errW_some] <;> rfl) | (simp [*,errW_none,errW_some] <;> rfl),by repeat (first | (with_reducible first | exact HB.out | apply below_alloc | apply pw_below_drewN | apply below_drew1 | refine below_set ?_ GE101.out) | exact HB.out)⟩
 ·replace c5 := Bool.eq_false_iff.mpr c5;subst c5
  have H1 : (some false) = some r := by rw [if_neg (show ¬ (false = true) by decide)] at H;exact H
  clear H;have H := H1;clear H1;obtain rfl := Option.some.inj H
  go_enter Try.func42,Try.ntmps42
  go_wp2_with (first | ((with_reducible refine gate_dst (N := 3) rfl ?_);refine box_event ?hg (N := 3) ?hd (cs := #[.int .i64 a1]) (t := 2) ?hr ?_;(case hd => rfl);(case hg => rfl);(case hr => first | (go_simp;done) | (go_simp;rfl));intro gb101 hg w9 hbox hb;have n0_ := Aside0.mk (below_step (by repeat (first | (with_reducible first | exact HB.out | apply below_alloc | apply pw_below_drewN | apply below_drew1) | exact HB.out)) hb);have n1_ := Aside0.mk (hbox);have n2_ := Aside0.mk ((by rw [hg];exact (below_size (by repeat (first | (with_reducible first | exact HB.out | apply below_alloc | apply pw_below_drewN | apply below_drew1) | exact HB.out))) : w.heap.size ≤ gb101));have n3_ := Aside0.mk ((by rw [hg];exact (below_size (by repeat (first | (with_reducible first | exact HB.out | apply below_alloc | apply pw_below_drewN | apply below_drew1) | exact HB.out))) : w.heap.size ≤ gb101));clear HB;have HB := n0_;have BK101 := n1_;have GW101 := n2_;have GE101 := n3_;clear n0_ n1_ n2_ n3_;clear hb hbox hg) | ((with_reducible refine gate_callee (f := 47) rfl ?_);refine goesL_ (some 6) rfl rfl Try.func47 (by kernel_rfl) rfl #[.slice A0 l0.length c0] rfl (by (try simp only [List.map_toArray,List.map_cons,List.map_nil]);first | done | rfl | (simp only [List.length_drop,List.length_take];rfl)) ?_;(with_reducible refine (impl_size_uint8.calls _ _ l0 t102 _ ?side1 ?side2 A3.out).mono ?_);(case side1 => repeat (first | exact (Kd.C_below HR0.out HB.out) | (with_reducible refine Kd.C_alloc ?_ _) | (with_reducible refine Kd.C_drewN ?_ _) | (with_reducible refine Kd.C_drew ?_)));(case side2 => exact HC0.out);rintro e w' ⟨rfl,⟨nd,rfl⟩⟩;refine ⟨_,rfl,?_⟩) | ((with_reducible refine gate_callee (f := 21) rfl ?_);refine goesL_ (some 7) rfl rfl Try.func21 (by kernel_rfl) rfl #[.int .i64 t102,.int .i64 1,.int .i64 8] rfl (by (try simp only [List.map_toArray,List.map_cons,List.map_nil]);first | done | rfl | (simp only [List.length_drop,List.length_take];rfl)) ?_;(with_reducible refine (impl_within.calls t102 1 8 false _ A4.out).mono ?_);rintro e w' ⟨rfl,⟨nd,rfl⟩⟩;refine ⟨_,rfl,?_⟩))
  go_ret
  exact ⟨by first | rfl | (simp [errW_none,errW_some,IntKind.wrap_i64,wrap64];done) | (simp [errW_none,errW_some] <;> rfl) | (simp [*,errW_none,errW_some] <;> rfl),by repeat (first | (with_reducible first | exact HB.out | apply below_alloc | apply pw_below_drewN | apply below_drew1 | refine below_set ?_ GE101.out) | exact HB.out)⟩
end Go.Proofs.Ytmcdedmnekeibaa.G
end

section
namespace Go.Proofs.Ytmcdedmnekeibaa.G
open Go.RowKit Go.Proofs.YtmcdedmnekeibaaW.PrintWords Go.Proofs.YtmcdedmnekeibaaW.PrintLast Go.Proofs.YtmcdedmnekeibaaW.PrintMore
attribute [local go_sem] max2_int min2_int max_two min_two max_three min_three max_four min_four
set_option linter.unusedVariables false
set_option linter.unusedSimpArgs false
def impl_areWords_1.f (l0 : List Int) (a1 : Int) (l2 : List (List Int)) : Option (Bool) := (impl_Word_isWord.f l0 a1).bind fun t101 => (if t101 = true then (if 0 < (l2.length : Int) then (some ((l0.length : Int) != ((rd_L2 l2 0).length : Int))) else (none)) else (some true))
set_option maxHeartbeats 8000000 in
set_option maxRecDepth 100000 in
theorem impl_areWords_1.calls (A0 : Option Addr) (c0 : Nat) (l0 : List Int) (a1 : Int) (b1 : Nat) (A2 : Option Addr) (c2 : Nat) (l2 : List (List Int)) (b2 : Nat) (r : Bool) (w : World) (hr0 : Kd.C (Kd.int .u8) w A0 l0.length l0) (hc0 : l0.length ≤ c0) (hr2 : Kd.C (Kd.slice 5 (Kd.int .u8)) w A2 l2.length l2) (hc2 : l2.length ≤ c2) (hb1 : w.heap[b1]? = some (.cells #[.int .i64 a1] 2 (0,0))) (hb2 : w.heap[b2]? = some (.cells #[.slice A2 l2.length c2] 25 (0,0))) (hn1_2 : b1 ≠ b2) (h : impl_areWords_1.f l0 a1 l2 = some r) :
  Calls Try.prog 50 #[.slice A0 l0.length c0,.pointer (some ⟨b1,0,none⟩),.pointer (some ⟨b2,0,none⟩)] w fun e w' => e = .returned (.bool r) ∧ Below w.heap.size w w' := by
 have HR0 := Aside0.mk hr0;have HC0 := Aside0.mk hc0;clear hr0 hc0;have HR2 := Aside0.mk hr2;have HC2 := Aside0.mk hc2;clear hr2 hc2;have BK1 := Aside0.mk hb1;clear hb1;have BK2 := Aside0.mk hb2;clear hb2;have NB1_2 := Aside0.mk hn1_2;have NB2_1 := Aside0.mk (Ne.symm hn1_2);clear hn1_2;have HB := Aside0.mk (Below.refl w.heap.size w);have H : ((impl_Word_isWord.f l0 a1).bind fun t101 => (if t101 = true then (if 0 < (l2.length : Int) then (some ((l0.length : Int) != ((rd_L2 l2 0).length : Int))) else (none)) else (some true))) = some r := h;clear h;replace H := Option.bind_eq_some_iff.mp H;obtain ⟨t101,A40,H⟩ := H;replace H : (if t101 = true then (if 0 < (l2.length : Int) then (some ((l0.length : Int) != ((rd_L2 l2 0).length : Int))) else (none)) else (some true)) = some r := H;have A4 := Aside0.mk A40;clear A40
 by_cases c5 : t101 = true
 ·subst c5
  have H1 : (if 0 < (l2.length : Int) then (some ((l0.length : Int) != ((rd_L2 l2 0).length : Int))) else (none)) = some r := by rw [if_pos rfl] at H;exact H
  clear H;have H := H1;clear H1
  by_cases c6 : 0 < (l2.length : Int)
  ·rw [if_pos c6] at H;have c6b0 : decide (0 < (l2.length : Int)) = true := decide_eq_true c6;have c6b1 : decide (0 < l2.length) = true := decide_eq_true (by omega);clear c6;obtain rfl := Option.some.inj H;have hnb7 := NB1_2.out;have hnc7 := NB2_1.out;have hcz8_0 : w.cell? ⟨b1,0,none⟩ = some (.int .i64 a1) := (blk_cell BK1.out 0).trans rfl;have hfz8_0 := blk_frozen BK1.out 0
   go_enter Try.func50,Try.ntmps50
   go_wp2_with (first | ((with_reducible refine gate_callee (f := 42) rfl ?_);refine goesL_ (some 7) rfl rfl Try.func42 (by kernel_rfl) rfl #[.slice A0 l0.length c0,.int .i64 a1] rfl (by (try simp only [List.map_toArray,List.map_cons,List.map_nil]);first | done | rfl | (simp only [List.length_drop,List.length_take];rfl)) ?_;(with_reducible refine (impl_Word_isWord.calls _ _ l0 a1 true _ ?side1 ?side2 A4.out).mono ?_);(case side1 => repeat (first | exact HR0.out | (with_reducible refine Kd.C_alloc ?_ _) | (with_reducible refine Kd.C_drewN ?_ _) | (with_reducible refine Kd.C_drew ?_)));(case side2 => exact HC0.out);rintro e w9 ⟨rfl,hb⟩;refine ⟨_,rfl,?_⟩;have n0_ := Aside0.mk (blk_below (g := b1) (o := .cells #[.int .i64 a1] 2 (0,0)) (by (with_reducible repeat (first | refine blk_drewN ?_ _ | refine blk_drew ?_ | refine blk_alloc ?_ _));exact BK1.out) hb);have n1_ := Aside0.mk (blk_below (g := b2) (o := .cells #[.slice A2 l2.length c2] 25 (0,0)) (by (with_reducible repeat (first | refine blk_drewN ?_ _ | refine blk_drew ?_ | refine blk_alloc ?_ _));exact BK2.out) hb);have n2_ := Aside0.mk (below_step (by repeat (first | (with_reducible first | exact HB.out | apply below_alloc | apply pw_below_drewN | apply below_drew1 | refine below_set ?_ GE1.out | refine below_set ?_ GE2.out) | exact HB.out)) hb);clear BK1;clear BK2;clear HB;have BK1 := n0_;have BK2 := n1_;have HB := n2_;clear n0_ n1_ n2_;(try clear hb);(try clear hb2);(try clear hk);(try clear hi);have hcz10_0 : w9.cell? ⟨b2,0,none⟩ = some (.slice A2 l2.length c2) := (blk_cell BK2.out 0).trans rfl;have hfz10_0 := blk_frozen BK2.out 0;have p102 : 0 ≤ (0 : Int) := (by omega);have q102 : 0 < (l2.length : Int) := of_decide_eq_true (by first | (with_reducible assumption) | assumption);obtain ⟨ad102,A102_0,c102_0,e102,hx102_0,hl102_0,hi102_0⟩ := at_L2 HR2.out 0 p102 q102;cases e102;have qi102 : (0 < l2.length) = True := eq_true (by omega);(try rw [show ((0 : Int)).toNat = 0 from rfl] at hx102_0);(try rw [Addr.add_zero'] at hx102_0);replace hx102_0 := (HB.out.cell (World.block_lt_of_cell? w _ hx102_0)).trans hx102_0;have HR102_0 := Aside0.mk hi102_0;have HC102_0 := Aside0.mk hl102_0;clear hi102_0 hl102_0;replace p102 := eq_true p102;replace q102 := eq_true q102))
   go_ret
   exact ⟨by first | rfl | (simp [errW_none,errW_some,IntKind.wrap_i64,wrap64];done) | (simp [errW_none,errW_some] <;> rfl) | (simp [*,errW_none,errW_some] <;> rfl),by repeat (first | (with_reducible first | exact HB.out | apply below_alloc | apply pw_below_drewN | apply below_drew1 | refine below_set ?_ GE1.out | refine below_set ?_ GE2.out) | exact HB.out)⟩
  ·rw [if_neg c6] at H;exact absurd H (by simp)
 ·replace c5 := Bool.eq_false_iff.mpr c5;subst c5
  have H1 : (some true) = some r := by rw [if_neg (show ¬ (false = true) by decide)] at H;exact H
  clear H;have H := H1;clear H1;obtain rfl := Option.some.inj H;have hnb11 := NB1_2.out;have hnc11 := NB2_1.out;have hcz12_0 : w.cell? ⟨b1,0,none⟩ = some (.int .i64 a1) := (blk_cell BK1.out 0).trans rfl;have hfz12_0 := blk_frozen BK1.out 0
  go_enter Try.func50,Try.ntmps50
  go_wp2_with (first | ((with_reducible refine gate_callee (f := 42) rfl ?_);refine goesL_ (some 7) rfl rfl Try.func42 (by kernel_rfl) rfl #[.slice A0 l0.length c0,.int .i64 a1] rfl (by (try simp only [List.map_toArray,List.map_cons,List.map_nil]);first | done | rfl | (simp only [List.length_drop,List.length_take];rfl)) ?_;(with_reducible refine (impl_Word_isWord.calls _ _ l0 a1 false _ ?side1 ?side2 A4.out).mono ?_);(case side1 => repeat (first | exact HR0.out | (with_reducible refine Kd.C_alloc ?_ _) | (with_reducible refine Kd.C_drewN ?_ _) | (with_reducible refine Kd.C_drew ?_)));(case side2 => exact HC0.out);rintro e w13 ⟨rfl,hb⟩;refine ⟨_,rfl,?_⟩;have n0_ := Aside0.mk (blk_below (g := b1) (o := .cells #[.int .i64 a1] 2 (0,0)) (by (with_reducible repeat (first | refine blk_drewN ?_ _ | refine blk_drew ?_ | refine blk_alloc ?_ _));exact BK1.out) hb);have n1_ := Aside0.mk (blk_below (g := b2) (o := .cells #[.slice A2 l2.length c2] 25 (0,0)) (by (with_reducible repeat (first | refine blk_drewN ?_ _ | refine blk_drew ?_ | refine blk_alloc ?_ _));exact BK2.out) hb);have n2_ := Aside0.mk (below_step (by repeat (first | (with_reducible first | exact HB.out | apply below_alloc | apply pw_below_drewN | apply below_drew1 | refine below_set ?_ GE1.out | refine below_set ?_ GE2.out) | exact HB.out)) hb);clear BK1;clear BK2;clear HB;have BK1 := n0_;have BK2 := n1_;have HB := n2_;clear n0_ n1_ n2_;(try clear hb);(try clear hb2);(try clear hk);(try clear hi)))
  go_ret
  exact ⟨by first | rfl | (simp [errW_none,errW_some,IntKind.wrap_i64,wrap64];done) | (simp [errW_none,errW_some] <;> rfl) | (simp [*,errW_none,errW_some] <;> rfl),by repeat (first | (with_reducible first | exact HB.out | apply below_alloc | apply pw_below_drewN | apply below_drew1 | refine below_set ?_ GE1.out | refine below_set ?_ GE2.out) | exact HB.out)⟩
end Go.Proofs.Ytmcdedmnekeibaa.G
end

section
namespace Go.Proofs.Ytmcdedmnekeibaa.G
open Go.RowKit Go.Proofs.YtmcdedmnekeibaaW.PrintWords Go.Proofs.YtmcdedmnekeibaaW.PrintLast Go.Proofs.YtmcdedmnekeibaaW.PrintMore
attribute [local go_sem] max2_int min2_int max_two min_two max_three min_three max_four min_four
set_option linter.unusedVariables false
set_option linter.unusedSimpArgs false
set_option maxHeartbeats 2000000 in
theorem slices_IndexFunc_Word_Word.calls (A0 : Option Addr) (c0 : Nat) (l0 : List (List Int)) (g : Nat) (lb : Array Value) (eg : ∀ args w,(callFunc g args).run Try.prog w = .ok (.enter g args) w) (p : List Int → Bool) (w : World)
  (hr0 : Kd.C (Kd.slice 5 (Kd.int .u8)) w A0 l0.length l0) (hc0 : l0.length ≤ c0)
  (hp : ∀ W,Below w.heap.size w W → ∀ x ∈ l0,∀ (A1 : Option Addr) (c1 : Nat),x.length ≤ c1 → Kd.C (Kd.int .u8) W A1 x.length x → Calls Try.prog g (#[.slice A1 x.length c1] ++ lb) W fun e w' => e = .returned (.bool (p x)) ∧ Below w.heap.size w w') :
  Calls Try.prog 44 #[.slice A0 l0.length c0,.func (.func g) #[] lb] w fun e w' => e = .returned (.int .i64 (idxP p l0)) ∧ Below w.heap.size w w' := by
 have hl : l0.length ≤ 9223372036854775807 := hr0.2.1;have HR0 := Aside0.mk hr0;have HP := Aside0.mk hp;clear hr0 hp;generalize hn : l0.length = n at *;have Hn := Aside0.mk hn;clear hn
 go_enter Try.func44,Try.ntmps44
 go_wp2
 go_loopg [5,8] n (fun gg _ s8 wr => ∃ kk : Nat,kk ≤ n ∧ n - kk ≤ gg ∧ s8 = .int .i64 kk ∧ Aside0 (Below w.heap.size w wr) ∧ Aside0 (∀ j x,j < kk → l0[j]? = some x → p x = false))
 case atStart => exact ⟨0,Nat.zero_le _,by omega,rfl,⟨Below.refl _ w⟩,⟨fun j _ hj => absurd hj (Nat.not_lt_zero _)⟩⟩
 case round =>
  obtain ⟨kk,hkk,hg,rfl,BW,AF⟩ := hrel
  by_cases hlt : kk < n
  ·have hltz : (kk : Int) < (n : Int) := by omega
   obtain ⟨ad,A1,c1,e0,hx0,hlc,hC1⟩ := at_L2 HR0.out (kk : Int) (by omega) (by omega);cases e0;simp only [Int.toNat_natCast] at hx0;replace hx0 := (BW.out.cell (World.block_lt_of_cell? w _ hx0)).trans hx0
   have hm : l0[kk]? = some (rd_L2 l0 (kk : Int)) := by
    have h1 : kk < l0.length := by rw [Hn.out];exact hlt
    simp [rd_L2,List.getD_eq_getElem?_getD,List.getElem?_eq_getElem h1]
   have hcall := HP.out wr BW.out (rd_L2 l0 (kk : Int)) (List.mem_of_getElem? hm) A1 c1 hlc (Kd.C_below hC1 BW.out);clear hC1;generalize hy : rd_L2 l0 (kk : Int) = y at *;clear hy;have HM := Aside0.mk hm;clear hm
   cases hq : p y with
   | true =>
    rw [hq] at hcall;have HQ := Aside0.mk hq;clear hq
    go_wp2_with (go_at_fn g;refine hcall.mono ?_;rintro e w' ⟨rfl,hb'⟩)
    go_ret
    refine ⟨?_,hb'⟩;rw [idxP_hit HM.out HQ.out AF.out];rfl
   | false =>
    rw [hq] at hcall;have HQ := Aside0.mk hq;clear hq
    go_wp2_with (go_at_fn g;refine hcall.mono ?_;rintro e w' ⟨rfl,hb'⟩)
    go_roundg (n - (kk + 1))
    case measure => omega
    case rel =>
     refine ⟨kk + 1,by omega,by omega,by go_num,⟨hb'⟩,⟨fun j x hj hx => ?_⟩⟩
     by_cases e : j = kk
     ·subst e;rw [HM.out] at hx;cases hx;exact HQ.out
     ·exact AF.out j x (by omega) hx
  ·have hltz : ¬ (kk : Int) < (n : Int) := by omega
   have : kk = n := by omega
   subst this
   go_wp2
   go_ret
   refine ⟨?_,BW.out⟩
   rw [idxP_miss (fun x hx => by
    obtain ⟨j,hj,rfl⟩ := List.mem_iff_getElem.1 hx
    exact AF.out j _ (by rw [← Hn.out];exact hj) (List.getElem?_eq_getElem hj))]
   rfl
end Go.Proofs.Ytmcdedmnekeibaa.G
end

section
namespace Go.Proofs.Ytmcdedmnekeibaa.G
open Go.RowKit Go.Proofs.YtmcdedmnekeibaaW.PrintWords Go.Proofs.YtmcdedmnekeibaaW.PrintLast Go.Proofs.YtmcdedmnekeibaaW.PrintMore
attribute [local go_sem] max2_int min2_int max_two min_two max_three min_three max_four min_four
set_option linter.unusedVariables false
set_option linter.unusedSimpArgs false
set_option maxHeartbeats 2000000 in
theorem slices_ContainsFunc_Word_Word.calls (A0 : Option Addr) (c0 : Nat) (l0 : List (List Int)) (g : Nat) (lb : Array Value) (eg : ∀ args w,(callFunc g args).run Try.prog w = .ok (.enter g args) w) (p : List Int → Bool) (w : World)
  (hr0 : Kd.C (Kd.slice 5 (Kd.int .u8)) w A0 l0.length l0) (hc0 : l0.length ≤ c0)
  (hp : ∀ W,Below w.heap.size w W → ∀ x ∈ l0,∀ (A1 : Option Addr) (c1 : Nat),x.length ≤ c1 → Kd.C (Kd.int .u8) W A1 x.length x → Calls Try.prog g (#[.slice A1 x.length c1] ++ lb) W fun e w' => e = .returned (.bool (p x)) ∧ Below w.heap.size w w') :
  Calls Try.prog 25 #[.slice A0 l0.length c0,.func (.func g) #[] lb] w fun e w' => e = .returned (.bool (l0.any p)) ∧ Below w.heap.size w w' := by
 have H := Aside0.mk (slices_IndexFunc_Word_Word.calls A0 c0 l0 g lb eg p w hr0 hc0 hp);rw [← idxP_nonneg];clear hp hr0 eg
 go_enter Try.func25,Try.ntmps25
 go_wp2_with (go_at_call 44;refine H.out.mono ?_;rintro e w' ⟨rfl,hb'⟩)
 go_ret
 exact ⟨rfl,hb'⟩
end Go.Proofs.Ytmcdedmnekeibaa.G
end

section
namespace Go.Proofs.Ytmcdedmnekeibaa.G
open Go.RowKit Go.Proofs.YtmcdedmnekeibaaW.PrintWords Go.Proofs.YtmcdedmnekeibaaW.PrintLast Go.Proofs.YtmcdedmnekeibaaW.PrintMore
attribute [local go_sem] max2_int min2_int max_two min_two max_three min_three max_four min_four
set_option linter.unusedVariables false
set_option linter.unusedSimpArgs false
def slices_ContainsFunc_Word_Word__impl_areWords_1.f (l0 : List (List Int)) (a1 : Int) (l2 : List (List Int)) : Option (Bool) := anyO (fun x => impl_areWords_1.f x a1 l2) l0
set_option maxHeartbeats 2000000 in
theorem slices_ContainsFunc_Word_Word__impl_areWords_1.calls (A0 : Option Addr) (c0 : Nat) (l0 : List (List Int)) (a1 : Int) (b1 : Nat) (A2 : Option Addr) (c2 : Nat) (l2 : List (List Int)) (b2 : Nat) (r : Bool) (w : World) (hr0 : Kd.C (Kd.slice 5 (Kd.int .u8)) w A0 l0.length l0) (hc0 : l0.length ≤ c0) (hr2 : Kd.C (Kd.slice 5 (Kd.int .u8)) w A2 l2.length l2) (hc2 : l2.length ≤ c2) (hb1 : w.heap[b1]? = some (.cells #[.int .i64 a1] 2 (0,0))) (hb2 : w.heap[b2]? = some (.cells #[.slice A2 l2.length c2] 25 (0,0))) (hn1_2 : b1 ≠ b2) (h : slices_ContainsFunc_Word_Word__impl_areWords_1.f l0 a1 l2 = some r) :
  Calls Try.prog 25 #[.slice A0 l0.length c0,.func (.func 50) #[] #[.pointer (some ⟨b1,0,none⟩),.pointer (some ⟨b2,0,none⟩)]] w fun e w' => e = .returned (.bool r) ∧ Below w.heap.size w w' := by
 have eg := enters_of Try.func50 (by kernel_rfl) rfl;obtain ⟨hall,rfl⟩ := anyO_some h;refine slices_ContainsFunc_Word_Word.calls A0 c0 l0 _ #[.pointer (some ⟨b1,0,none⟩),.pointer (some ⟨b2,0,none⟩)] eg (fun x => impl_areWords_1.f x a1 l2 == some true) w hr0 hc0 (fun W hW x hx A1_ c1_ hl_ hC_ => ?_);obtain ⟨b,hb⟩ := Option.isSome_iff_exists.1 (hall x hx);rw [show (#[.slice A1_ x.length c1_] ++ #[.pointer (some ⟨b1,0,none⟩),.pointer (some ⟨b2,0,none⟩)] : Array Value) = #[.slice A1_ x.length c1_,.pointer (some ⟨b1,0,none⟩),.pointer (some ⟨b2,0,none⟩)] from rfl]
 refine (impl_areWords_1.calls A1_ c1_ x a1 b1 A2 c2 l2 b2 b W hC_ hl_ (Kd.C_below hr2 hW) hc2 (blk_below hb1 hW) (blk_below hb2 hW) hn1_2 hb).mono fun e w' ⟨he,hw⟩ => ⟨he.trans (by rw [hb];cases b <;> rfl),?_⟩
 exact below_then hW hW.size hw
end Go.Proofs.Ytmcdedmnekeibaa.G
end

section
namespace Go.Proofs.Ytmcdedmnekeibaa.G
open Go.RowKit Go.Proofs.YtmcdedmnekeibaaW.PrintWords Go.Proofs.YtmcdedmnekeibaaW.PrintLast Go.Proofs.YtmcdedmnekeibaaW.PrintMore
attribute [local go_sem] max2_int min2_int max_two min_two max_three min_three max_four min_four
set_option linter.unusedVariables false
set_option linter.unusedSimpArgs false
def impl_areWords.f (l0 : List (List Int)) (a1 : Int) : Option (Bool) := (slices_ContainsFunc_Word_Word__impl_areWords_1.f l0 a1 l0).bind fun t103 => (some (!t103))
set_option maxHeartbeats 8000000 in
set_option maxRecDepth 100000 in
theorem impl_areWords.calls (A0 : Option Addr) (c0 : Nat) (l0 : List (List Int)) (a1 : Int) (r : Bool) (w : World) (hr0 : Kd.C (Kd.slice 5 (Kd.int .u8)) w A0 l0.length l0) (hc0 : l0.length ≤ c0) (h : impl_areWords.f l0 a1 = some r) :
  Calls Try.prog 45 #[.slice A0 l0.length c0,.int .i64 a1] w fun e w' => e = .returned (.bool r) ∧ Below w.heap.size w w' := by
 have HR0 := Aside0.mk hr0;have HC0 := Aside0.mk hc0;clear hr0 hc0;have HB := Aside0.mk (Below.refl w.heap.size w);have H : ((slices_ContainsFunc_Word_Word__impl_areWords_1.f l0 a1 l0).bind fun t103 => (some (!t103))) = some r := h;clear h;replace H := Option.bind_eq_some_iff.mp H;obtain ⟨t103,A30,H⟩ := H;replace H : (some (!t103)) = some r := H;have A3 := Aside0.mk A30;clear A30;obtain rfl := Option.some.inj H
 go_enter Try.func45,Try.ntmps45
 go_wp2_with (first | ((with_reducible refine gate_dst (N := 2) rfl ?_);refine box_event ?hg (N := 2) ?hd (cs := #[.slice A0 l0.length c0]) (t := 25) ?hr ?_;(case hd => rfl);(case hg => rfl);(case hr => first | (go_simp;done) | (go_simp;rfl));intro gb101 hg w4 hbox hb;have n0_ := Aside0.mk (below_step (by repeat (first | (with_reducible first | exact HB.out | apply below_alloc | apply pw_below_drewN | apply below_drew1) | exact HB.out)) hb);have n1_ := Aside0.mk (hbox);have n2_ := Aside0.mk ((by rw [hg];exact (below_size (by repeat (first | (with_reducible first | exact HB.out | apply below_alloc | apply pw_below_drewN | apply below_drew1) | exact HB.out))) : w.heap.size ≤ gb101));have n3_ := Aside0.mk ((by rw [hg];exact (below_size (by repeat (first | (with_reducible first | exact HB.out | apply below_alloc | apply pw_below_drewN | apply below_drew1) | exact HB.out))) : w.heap.size ≤ gb101));clear HB;have HB := n0_;have BK101 := n1_;have GW101 := n2_;have GE101 := n3_;clear n0_ n1_ n2_ n3_;clear hb hbox hg) | ((with_reducible refine gate_dst (N := 3) rfl ?_);refine box_event ?hg (N := 3) ?hd (cs := #[.int .i64 a1]) (t := 2) ?hr ?_;(case hd => rfl);(case hg => rfl);(case hr => first | (go_simp;done) | (go_simp;rfl));intro gb102 hg w5 hbox hb;have n0_ := Aside0.mk (blk_below (g := gb101) (o := .cells #[.slice A0 l0.length c0] 25 (0,0)) (by (with_reducible repeat (first | refine blk_drewN ?_ _ | refine blk_drew ?_ | refine blk_alloc ?_ _));exact BK101.out) hb);have n1_ := Aside0.mk (below_step (by repeat (first | (with_reducible first | exact HB.out | apply below_alloc | apply pw_below_drewN | apply below_drew1 | refine below_set ?_ GE101.out) | exact HB.out)) hb);have n2_ := Aside0.mk (hbox);have n3_ := Aside0.mk ((by rw [hg];exact (below_size (by repeat (first | (with_reducible first | exact HB.out | apply below_alloc | apply pw_below_drewN | apply below_drew1 | refine below_set ?_ GE101.out) | exact HB.out))) : w.heap.size ≤ gb102));have n4_ := Aside0.mk ((by rw [hg];exact (below_size (by repeat (first | (with_reducible first | exact HB.out | apply below_alloc | apply pw_below_drewN | apply below_drew1 | refine below_set ?_ GE101.out) | exact HB.out))) : w.heap.size ≤ gb102));have n5_ := Aside0.mk ((by rw [hg];exact Nat.ne_of_lt (blk_lt (g := gb101) (o := .cells #[.slice A0 l0.length c0] 25 (0,0)) (by (with_reducible repeat (first | refine blk_drewN ?_ _ | refine blk_drew ?_ | refine blk_alloc ?_ _));exact BK101.out)) : gb101 ≠ gb102));have n6_ := Aside0.mk ((by rw [hg];exact Nat.ne_of_gt (blk_lt (g := gb101) (o := .cells #[.slice A0 l0.length c0] 25 (0,0)) (by (with_reducible repeat (first | refine blk_drewN ?_ _ | refine blk_drew ?_ | refine blk_alloc ?_ _));exact BK101.out)) : gb102 ≠ gb101));clear BK101;clear HB;have BK101 := n0_;have HB := n1_;have BK102 := n2_;have GW102 := n3_;have GE102 := n4_;have NB101_102 := n5_;have NB102_101 := n6_;clear n0_ n1_ n2_ n3_ n4_ n5_ n6_;clear hb hbox hg;have hnb6 := NB101_102.out;have hnc6 := NB102_101.out;have hcz7_0 : w5.cell? ⟨gb101,0,none⟩ = some (.slice A0 l0.length c0) := (blk_cell BK101.out 0).trans rfl;have hfz7_0 := blk_frozen BK101.out 0) | ((with_reducible refine gate_callee (f := 25) rfl ?_);refine goesL_ (some 7) rfl rfl Try.func25 (by kernel_rfl) rfl #[.slice A0 l0.length c0,.func (.func 50) #[] #[.pointer (some ⟨gb102,0,none⟩),.pointer (some ⟨gb101,0,none⟩)]] rfl (by (try simp only [List.map_toArray,List.map_cons,List.map_nil]);first | done | rfl | (simp only [List.length_drop,List.length_take];rfl)) ?_;(with_reducible refine (slices_ContainsFunc_Word_Word__impl_areWords_1.calls _ _ l0 a1 gb102 A0 c0 l0 gb101 t103 _ ?side1 ?side2 ?side3 ?side4 ?side5 ?side6 ?side7 A3.out).mono ?_);(case side1 => repeat (first | exact (Kd.C_below HR0.out HB.out) | (with_reducible refine Kd.C_alloc ?_ _) | (with_reducible refine Kd.C_drewN ?_ _) | (with_reducible refine Kd.C_drew ?_)));(case side2 => exact HC0.out);(case side3 => repeat (first | exact (Kd.C_below HR0.out HB.out) | (with_reducible refine Kd.C_alloc ?_ _) | (with_reducible refine Kd.C_drewN ?_ _) | (with_reducible refine Kd.C_drew ?_)));(case side4 => exact HC0.out);(case side5 => (with_reducible repeat (first | refine blk_drewN ?_ _ | refine blk_drew ?_ | refine blk_alloc ?_ _));exact BK102.out);(case side6 => (with_reducible repeat (first | refine blk_drewN ?_ _ | refine blk_drew ?_ | refine blk_alloc ?_ _));exact BK101.out);(case side7 => exact NB102_101.out);rintro e w8 ⟨rfl,hb⟩;refine ⟨_,rfl,?_⟩;have n0_ := Aside0.mk (blk_below (g := gb101) (o := .cells #[.slice A0 l0.length c0] 25 (0,0)) (by (with_reducible repeat (first | refine blk_drewN ?_ _ | refine blk_drew ?_ | refine blk_alloc ?_ _));exact BK101.out) hb);have n1_ := Aside0.mk (blk_below (g := gb102) (o := .cells #[.int .i64 a1] 2 (0,0)) (by (with_reducible repeat (first | refine blk_drewN ?_ _ | refine blk_drew ?_ | refine blk_alloc ?_ _));exact BK102.out) hb);have n2_ := Aside0.mk (below_step (by repeat (first | (with_reducible first | exact HB.out | apply below_alloc | apply pw_below_drewN | apply below_drew1 | refine below_set ?_ GE101.out | refine below_set ?_ GE102.out) | exact HB.out)) hb);clear BK101;clear BK102;clear HB;have BK101 := n0_;have BK102 := n1_;have HB := n2_;clear n0_ n1_ n2_;(try clear hb);(try clear hb2);(try clear hk);(try clear hi)))
 go_ret
 exact ⟨by first | rfl | (simp [errW_none,errW_some,IntKind.wrap_i64,wrap64];done) | (simp [errW_none,errW_some] <;> rfl) | (simp [*,errW_none,errW_some] <;> rfl),by repeat (first | (with_reducible first | exact HB.out | apply below_alloc | apply pw_below_drewN | apply below_drew1 | refine below_set ?_ GE101.out | refine below_set ?_ GE102.out) | exact HB.out)⟩
end Go.Proofs.Ytmcdedmnekeibaa.G
end

section
namespace Go.Proofs.Ytmcdedmnekeibaa.G
open Go.RowKit Go.Proofs.YtmcdedmnekeibaaW.PrintWords Go.Proofs.YtmcdedmnekeibaaW.PrintLast Go.Proofs.YtmcdedmnekeibaaW.PrintMore
attribute [local go_sem] max2_int min2_int max_two min_two max_three min_three max_four min_four
set_option linter.unusedVariables false
set_option linter.unusedSimpArgs false
set_option maxRecDepth 100000 in
set_option maxHeartbeats 2000000 in
theorem slices_Grow_Word_Word.nil (n : Nat) (h1 : n < 5864062014805) (w : World) :
  Calls Try.prog 51 #[.slice none 0 0,.int .i64 n] w fun e w' => ∃ v0_ : Value,e = .returned v0_ ∧ Kd.R (Kd.slice 5 (Kd.int .u8)) 32 w' w.heap.size (fun _ => True) v0_ [] ∧ Below w.heap.size w w' := by
 have hneg : decide ((n : Int) < 0) = false := decide_eq_false (by omega)
 by_cases hn : n = 0
 ·subst hn
  go_enter Try.func51,Try.ntmps51
  go_wp2
  go_ret
  exact ⟨_,rfl,Kd.R_nil _ _ _ _ _,by repeat (first | exact Below.refl _ _ | apply below_drew1)⟩
 ·obtain ⟨i0,hi,hz0,hz1,hz2⟩ := info_parts info32;have happ := Lib.run_append_nil_zeros (P := Try.prog) w 25 3 25 32 i0 (.slice none 0 0) .i64 .i64 Try.underlying25 Try.underlying3 hi hz0 n (by omega) (by rw [hz1];decide) (by omega) (by rw [hz2];omega);generalize hcap : grownCap w n 0 32 = cap2 at happ
  have hcapge : n ≤ cap2 := by rw [← hcap];exact grownCap_ge w _ 0 32
  have hcaple : cap2 ≤ maxLen := by rw [← hcap];exact grownCap_le_maxLen w _ 0 32 (by unfold maxLen;omega)
  generalize hZ : (Builtin.zeroCells (Value.slice none 0 0).cells n ++ Builtin.zeroCells (Value.slice none 0 0).cells (cap2 - n)) = Z at happ
  have hZs : Z.size = cap2 * 1 := by rw [← hZ];simp [size_zeroCells,Value.cells];omega
  have hpos : decide ((n : Int) > 0) = true := decide_eq_true (by omega);have hpos1 : decide (0 < (n : Int)) = true := decide_eq_true (by omega)
  have hw0 : IntKind.i64.wrap (n : Int) = n := by rw [IntKind.wrap_i64];omega
  clear hcap hZ
  go_enter Try.func51,Try.ntmps51
  go_wp2_with (at_builtin;refine Lib.wpList_append_run _ rfl _ _ _ _ rfl _ _ rfl rfl _ _ happ ?_)
  go_ret
  refine ⟨_,rfl,?_,below_drew1 (below_alloc (Below.refl _ _) _)⟩;exact ⟨fun _ _ => trivial,[],⟨by simp,.inr ⟨w.heap.size,cap2,Z,rfl,Nat.le_refl _,heap_alloc_new w _,Nat.zero_le _,hcaple,hZs,by simp⟩⟩,Reps.none _ _⟩
end Go.Proofs.Ytmcdedmnekeibaa.G
end

section
namespace Go.Proofs.Ytmcdedmnekeibaa.G
open Go.RowKit Go.Proofs.YtmcdedmnekeibaaW.PrintWords Go.Proofs.YtmcdedmnekeibaaW.PrintLast Go.Proofs.YtmcdedmnekeibaaW.PrintMore
attribute [local go_sem] max2_int min2_int max_two min_two max_three min_three max_four min_four
set_option linter.unusedVariables false
set_option linter.unusedSimpArgs false
def slices_Concat_Word_Word.f (l0 : List (List (List Int))) : Option (List (List Int)) := if l0.flatten.length < 5864062014805 then some l0.flatten else none
theorem slices_Concat_Word_Word.succ {l0 : List (List (List Int))} {k : Nat} {x : List (List Int)} (h : l0[k]? = some x) : (l0.take (k + 1)).flatten = (l0.take k).flatten ++ x := by
 obtain ⟨hk,rfl⟩ := List.getElem?_eq_some_iff.1 h;rw [List.take_succ_eq_append_getElem hk,List.flatten_append]
 simp
theorem slices_Concat_Word_Word.le (l0 : List (List (List Int))) (k : Nat) : (l0.take k).flatten.length ≤ l0.flatten.length := by
 conv => rhs;rw [← List.take_append_drop k l0]
 rw [List.flatten_append,List.length_append]
 omega
set_option maxHeartbeats 8000000 in
theorem slices_Concat_Word_Word.calls (A0 : Option Addr) (c0 : Nat) (l0 : List (List (List Int))) (r : List (List Int)) (w : World) (hr0 : Kd.C (Kd.slice 32 (Kd.slice 5 (Kd.int .u8))) w A0 l0.length l0) (hc0 : l0.length ≤ c0) (h : slices_Concat_Word_Word.f l0 = some r) :
  Calls Try.prog 46 #[.slice A0 l0.length c0] w fun e w' => ∃ v0_ : Value,e = .returned v0_ ∧ Kd.N (Kd.slice 5 (Kd.int .u8)) 32 w' w.heap.size (fun _ => True) v0_ r ∧ Below w.heap.size w w' := by
 unfold slices_Concat_Word_Word.f at h
 by_cases hl : l0.flatten.length < 5864062014805
 ·rw [if_pos hl] at h;obtain rfl := Option.some.inj h;clear h;have hl9 : l0.length ≤ 9223372036854775807 := hr0.2.1;have hle := slices_Concat_Word_Word.le l0;have HR0 := Aside0.mk hr0;have HLE := Aside0.mk hle;clear hr0 hle;generalize hn : l0.length = n at *;have Hn := Aside0.mk hn;clear hn;have HF := Aside0.mk hl;clear hl
  go_enter Try.func46,Try.ntmps46
  go_wp2
  go_loopg [3,11] n (fun gg s3 s11 wr => ∃ kk : Nat,kk ≤ n ∧ n - kk ≤ gg ∧ s11 = .int .i64 kk ∧ s3 = .int .i64 ((l0.take kk).flatten.length : Nat) ∧ Aside0 (Below w.heap.size w wr))
  case atStart => exact ⟨0,Nat.zero_le _,by omega,rfl,by simp,⟨by repeat (first | exact Below.refl _ _ | apply below_drew1)⟩⟩
  case round =>
   obtain ⟨kk,hkk,hg,rfl,rfl,BW⟩ := hrel
   by_cases hlt : kk < n
   ·have hltz : (kk : Int) < (n : Int) := by omega
    obtain ⟨ad,A1,c1,e0,hx0,hlc,hC1⟩ := at_L3 HR0.out (kk : Int) (by omega) (by omega);cases e0;simp only [Int.toNat_natCast] at hx0;replace hx0 := (BW.out.cell (World.block_lt_of_cell? w _ hx0)).trans hx0
    have hm : l0[kk]? = some (rd_L3 l0 (kk : Int)) := by
     have h1 : kk < l0.length := by rw [Hn.out];exact hlt
     simp [rd_L3,rdOf,List.getD_eq_getElem?_getD,List.getElem?_eq_getElem h1]
    generalize rd_L3 l0 (kk : Int) = x at *;have hs := congrArg List.length (slices_Concat_Word_Word.succ hm);rw [List.length_append] at hs;have hs1 := HLE.out (kk + 1);have hs2 := HF.out;have HM := Aside0.mk hm;clear hm hC1 hlc;generalize (l0.take kk).flatten.length = a at *;have HS := Aside0.mk hs;have ha : decide (IntKind.i64.wrap ((a : Int) + (x.length : Int)) < 0) = false := decide_eq_false (by rw [IntKind.wrap_i64];omega);have ha1 : decide ((a : Int) + (x.length : Int) < 0) = false := decide_eq_false (by omega)
    have ha2 : IntKind.i64.wrap ((a : Int) + (x.length : Int)) = (a : Int) + (x.length : Int) := by rw [IntKind.wrap_i64];omega
    clear hs hs1 hs2
    go_wp2
    go_roundg (n - (kk + 1))
    case measure => omega
    case rel => exact ⟨kk + 1,by omega,by omega,by go_num,by rw [HS.out];simp,⟨by repeat (first | exact BW.out | apply below_drew1)⟩⟩
   ·have hltz : ¬ (kk : Int) < (n : Int) := by omega
    have : kk = n := by omega
    subst this
    have hT : (l0.take kk).flatten.length = l0.flatten.length := by rw [List.take_of_length_le (by rw [Hn.out];exact Nat.le_refl _)]
    obtain ⟨T,hTe⟩ : ∃ T,T = l0.flatten.length := ⟨_,rfl⟩;rw [hT,← hTe];have HT := Aside0.mk (show T < 5864062014805 by rw [hTe];exact HF.out);clear hT hTe
    go_wp2_with (go_at_call 51;refine (slices_Grow_Word_Word.nil T HT.out _).mono ?_;rintro e w1 ⟨v1,rfl,ho1,hb1⟩;have HO := Aside0.mk (show Kd.N (Kd.slice 5 (Kd.int .u8)) 32 w1 w.heap.size (fun _ => True) v1 [] from Kd.R_N (Kd.R_lower ho1 (below_size BW.out)));have HB := Aside0.mk (show Below w.heap.size w w1 from below_step BW.out hb1);clear ho1 hb1)
    go_loopg [6,27] kk (fun gg s6 s27 wr => ∃ (ii : Nat) (v : Value),ii ≤ kk ∧ kk - ii ≤ gg ∧ s27 = .int .i64 ii ∧ s6 = v ∧ Aside0 (Kd.N (Kd.slice 5 (Kd.int .u8)) 32 wr w.heap.size (fun _ => True) v (l0.take ii).flatten) ∧ Aside0 (Below w.heap.size w wr))
    case atStart => exact ⟨0,_,Nat.zero_le _,by omega,rfl,rfl,⟨by (with_reducible repeat (first | apply Kd.N_alloc | apply Kd.N_drewN | apply Kd.N_drew));exact HO.out⟩,⟨by repeat (first | exact HB.out | apply below_drew1)⟩⟩
    case round =>
     clear HO HB BW;obtain ⟨ii,v,hii,hg2,rfl,rfl,HO,HB⟩ := hrel
     by_cases hlt : ii < kk
     ·have hltz : (ii : Int) < (kk : Int) := by omega
      obtain ⟨ad,A1,c1,e0,hx0,hlc,hC1⟩ := at_L3 HR0.out (ii : Int) (by omega) (by omega);cases e0;simp only [Int.toNat_natCast] at hx0;replace hx0 := (HB.out.cell (World.block_lt_of_cell? w _ hx0)).trans hx0
      have hm : l0[ii]? = some (rd_L3 l0 (ii : Int)) := by
       have h1 : ii < l0.length := by rw [Hn.out];exact hlt
       simp [rd_L3,List.getD_eq_getElem?_getD,List.getElem?_eq_getElem h1]
      generalize rd_L3 l0 (ii : Int) = x at *;have hs := congrArg List.length (slices_Concat_Word_Word.succ hm);rw [List.length_append] at hs;have hs1 := HLE.out (ii + 1);have hs2 := HF.out;have HC := Aside0.mk (Kd.C_F (by repeat (first | exact Kd.heap_int _ | exact Kd.heap_bool | exact Kd.heap_string | apply Kd.heap_slice)) hC1);have HS := Aside0.mk (slices_Concat_Word_Word.succ hm)
      have hlim : ((l0.take ii).flatten.length + x.length) * 24 ≤ 140737488355328 := by omega
      have HL := Aside0.mk hlim;clear hm hC1 hs hs1 hs2 hlim
      go_wp2_with (at_builtin;refine Kd.N_append_rows (Kd.slice 5 (Kd.int .u8)) (w0 := w) w.heap.size rfl (.tmp 31) (.tmp 32) 25 32 (.slice none 0 0) 24 rfl Try.underlying25 info32 rfl (by decide) (by omega) _ (l0.take ii).flatten x _ _ _ (fun _ => True) (fun k_ => k_ < w.heap.size) rfl rfl (by (with_reducible repeat (first | apply Kd.N_alloc | apply Kd.N_drewN | apply Kd.N_drew));exact HO.out) (Kd.F_below HC.out (by repeat (first | exact HB.out | apply below_drew1))) (fun k_ hk_ => ⟨trivial,fun he_ => by have := Kd.N_base HO.out k_ he_.symm;omega⟩) (fun _ _ => trivial) (by repeat (first | exact HB.out | apply below_drew1)) (Below.size (by repeat (first | exact HB.out | apply below_drew1))) HL.out ?_;intro v2 w2 ho2 hb2 _ _;have HO2 := Aside0.mk ho2;have HB2 := Aside0.mk hb2;clear ho2 hb2)
      go_roundg (kk - (ii + 1))
      case measure => omega
      case rel => exact ⟨ii + 1,v2,by omega,by omega,by go_num,rfl,⟨by rw [HS.out];exact HO2.out⟩,HB2⟩
     ·have : ii = kk := by omega
      subst this
      have hltz : ¬ (ii : Int) < (ii : Int) := by omega
      go_wp2
      go_ret
      refine ⟨_,rfl,?_,by repeat (first | exact HB.out | apply below_drew1)⟩;have h1 := HO.out;rw [List.take_of_length_le (by rw [Hn.out];exact Nat.le_refl _)] at h1;(with_reducible repeat (first | apply Kd.N_alloc | apply Kd.N_drewN | apply Kd.N_drew));exact h1
 ·rw [if_neg hl] at h;cases h
end Go.Proofs.Ytmcdedmnekeibaa.G
end

section
namespace Go.Proofs.Ytmcdedmnekeibaa.G
open Go.RowKit Go.Proofs.YtmcdedmnekeibaaW.PrintWords Go.Proofs.YtmcdedmnekeibaaW.PrintLast Go.Proofs.YtmcdedmnekeibaaW.PrintMore
attribute [local go_sem] max2_int min2_int max_two min_two max_three min_three max_four min_four
set_option linter.unusedVariables false
set_option linter.unusedSimpArgs false
def impl_wordsCode.f (l0 : List (List Int)) (l1 : List (List Int)) : Option Int := if (l0 ++ l1).length < 5864062014805 then (impl_areWords.f (l0 ++ l1) 37).bind fun t => (if t = true then impl_unless.f (decide ((l0.length : Int) ≤ 60)) 3 else some 1) else none
set_option maxHeartbeats 8000000 in
set_option maxRecDepth 100000 in
theorem impl_wordsCode.calls (A0 : Option Addr) (c0 : Nat) (l0 : List (List Int)) (A1 : Option Addr) (c1 : Nat) (l1 : List (List Int)) (r : Int) (w : World) (hr0 : Kd.C (Kd.slice 5 (Kd.int .u8)) w A0 l0.length l0) (hc0 : l0.length ≤ c0) (hr1 : Kd.C (Kd.slice 5 (Kd.int .u8)) w A1 l1.length l1) (hc1 : l1.length ≤ c1) (h : impl_wordsCode.f l0 l1 = some r) :
  Calls Try.prog 36 #[.slice A0 l0.length c0,.slice A1 l1.length c1] w fun e w' => e = .returned (.int .i64 r) ∧ Below w.heap.size w w' := by
 have HR0 := Aside0.mk hr0;have HC0 := Aside0.mk hc0;have HR1 := Aside0.mk hr1;have HC1 := Aside0.mk hc1;clear hr0 hc0 hr1 hc1;have HB := Aside0.mk (Below.refl w.heap.size w)
 unfold impl_wordsCode.f at h
 have hF : [l0,l1].flatten = l0 ++ l1 := by simp
 by_cases hl : (l0 ++ l1).length < 5864062014805
 ·rw [if_pos hl] at h;have A1_ := Aside0.mk (show slices_Concat_Word_Word.f [l0,l1] = some (l0 ++ l1) by unfold slices_Concat_Word_Word.f;rw [hF,if_pos hl]);clear hF hl;obtain ⟨t2,A2,h⟩ := Option.bind_eq_some_iff.mp h;replace A2 := Aside0.mk A2
  cases t2 with
  | true =>
   rw [if_pos rfl] at h;have A3 := Aside0.mk h;clear h
   go_enter Try.func36,Try.ntmps36
   go_wp2_with (first | ((with_reducible refine gate_dst (N := 7) rfl ?_);refine Kd.N_lit (Kd.slice 32 (Kd.slice 5 (Kd.int .u8))) w.heap.size 25 ?hg (N' := 7) ?hd (xs := ([l0,l1] : List (List (List Int)))) (inner := [.slice A0 l0.length c0,.slice A1 l1.length c1]) (ok := fun _ => True) (okp := fun k_ => k_ < w.heap.size) ?hr ?hp (fun _ hk => trivial) trivial (by repeat (first | (with_reducible first | exact HB.out | apply below_alloc | apply pw_below_drewN | apply below_drew1) | exact HB.out)) (below_size (by repeat (first | (with_reducible first | exact HB.out | apply below_alloc | apply pw_below_drewN | apply below_drew1) | exact HB.out))) (by simp) ?_;(case hd => rfl);(case hg => rfl);(case hr => first | (go_simp;done) | (go_simp;rfl));(case hp => exact (Reps.one (show Kd.FK (Kd.slice 32 (Kd.slice 5 (Kd.int .u8))) _ (fun k_ => k_ < w.heap.size) l0 [.slice A0 l0.length c0] from fun W' hW' => ⟨A0,c0,rfl,HC0.out,Kd.F_below (Kd.C_F (Kd.heap_slice _ (Kd.heap_int _)) HR0.out) (by repeat (first | (with_reducible first | exact HB.out | apply below_alloc | apply pw_below_drewN | apply below_drew1) | exact HB.out)) W' hW'⟩) (Reps.one (show Kd.FK (Kd.slice 32 (Kd.slice 5 (Kd.int .u8))) _ (fun k_ => k_ < w.heap.size) l1 [.slice A1 l1.length c1] from fun W' hW' => ⟨A1,c1,rfl,HC1.out,Kd.F_below (Kd.C_F (Kd.heap_slice _ (Kd.heap_int _)) HR1.out) (by repeat (first | (with_reducible first | exact HB.out | apply below_alloc | apply pw_below_drewN | apply below_drew1) | exact HB.out)) W' hW'⟩) (Reps.none _ _))));intro v1 w1 ho1 hb1 hg_ hnew_;clear hg_ hnew_;have HB1 := Aside0.mk hb1;have HO1 := Aside0.mk ho1;clear hb1 ho1;obtain ⟨Al,cl,el,hlc,hrc⟩ := Kd.N_reads HO1.out;subst el;have HLC := Aside0.mk hlc;have HRC := Aside0.mk hrc;clear hlc hrc) | ((with_reducible refine gate_callee (f := 46) rfl ?_);refine goesL_ (some 8) rfl rfl Try.func46 (by kernel_rfl) rfl #[.slice Al ([l0,l1] : List (List (List Int))).length cl] rfl (by (try simp only [List.map_toArray,List.map_cons,List.map_nil]);first | done | rfl | (simp only [List.length_drop,List.length_take];rfl)) ?_;(with_reducible refine (slices_Concat_Word_Word.calls Al cl [l0,l1] (l0 ++ l1) _ HRC.out HLC.out A1_.out).mono ?_);rintro e w2 ⟨v2,rfl,ho2,hb2⟩;refine ⟨_,rfl,?_⟩;have HB2 := Aside0.mk (below_step (by repeat (first | (with_reducible first | exact HB1.out | apply below_alloc | apply pw_below_drewN | apply below_drew1) | exact HB1.out)) hb2);obtain ⟨Ac,cc,ec,hcc,hcr⟩ := Kd.N_reads ho2;subst ec;have HCC := Aside0.mk hcc;have HCR := Aside0.mk hcr;clear hcc hcr ho2 hb2) | ((with_reducible refine gate_callee (f := 45) rfl ?_);refine goesL_ (some 9) rfl rfl Try.func45 (by kernel_rfl) rfl #[.slice Ac (l0 ++ l1).length cc,.int .i64 37] rfl (by (try simp only [List.map_toArray,List.map_cons,List.map_nil]);first | done | rfl | (simp only [List.length_drop,List.length_take];rfl)) ?_;(with_reducible refine (impl_areWords.calls Ac cc (l0 ++ l1) 37 _ _ HCR.out HCC.out A2.out).mono ?_);rintro e w3 ⟨rfl,hb3⟩;refine ⟨_,rfl,?_⟩;have HB3 := Aside0.mk (below_step HB2.out hb3);clear hb3) | ((with_reducible refine gate_callee (f := 20) rfl ?_);refine goesL_ (some 14) rfl rfl Try.func20 (by kernel_rfl) rfl #[.bool (decide ((l0.length : Int) ≤ 60)),.int .i64 3] rfl (by (try simp only [List.map_toArray,List.map_cons,List.map_nil]);first | done | rfl) ?_;(with_reducible refine (impl_unless.calls _ 3 r _ A3.out).mono ?_);rintro e w' ⟨rfl,⟨nd,rfl⟩⟩;refine ⟨_,rfl,?_⟩))
   go_ret
   exact ⟨rfl,by repeat (first | (with_reducible first | exact HB3.out | apply below_alloc | apply pw_below_drewN | apply below_drew1) | exact HB3.out)⟩
  | false =>
   rw [if_neg (show ¬ (false = true) by decide)] at h;obtain rfl := Option.some.inj h;clear h
   go_enter Try.func36,Try.ntmps36
   go_wp2_with (first | ((with_reducible refine gate_dst (N := 7) rfl ?_);refine Kd.N_lit (Kd.slice 32 (Kd.slice 5 (Kd.int .u8))) w.heap.size 25 ?hg (N' := 7) ?hd (xs := ([l0,l1] : List (List (List Int)))) (inner := [.slice A0 l0.length c0,.slice A1 l1.length c1]) (ok := fun _ => True) (okp := fun k_ => k_ < w.heap.size) ?hr ?hp (fun _ hk => trivial) trivial (by repeat (first | (with_reducible first | exact HB.out | apply below_alloc | apply pw_below_drewN | apply below_drew1) | exact HB.out)) (below_size (by repeat (first | (with_reducible first | exact HB.out | apply below_alloc | apply pw_below_drewN | apply below_drew1) | exact HB.out))) (by simp) ?_;(case hd => rfl);(case hg => rfl);(case hr => first | (go_simp;done) | (go_simp;rfl));(case hp => exact (Reps.one (show Kd.FK (Kd.slice 32 (Kd.slice 5 (Kd.int .u8))) _ (fun k_ => k_ < w.heap.size) l0 [.slice A0 l0.length c0] from fun W' hW' => ⟨A0,c0,rfl,HC0.out,Kd.F_below (Kd.C_F (Kd.heap_slice _ (Kd.heap_int _)) HR0.out) (by repeat (first | (with_reducible first | exact HB.out | apply below_alloc | apply pw_below_drewN | apply below_drew1) | exact HB.out)) W' hW'⟩) (Reps.one (show Kd.FK (Kd.slice 32 (Kd.slice 5 (Kd.int .u8))) _ (fun k_ => k_ < w.heap.size) l1 [.slice A1 l1.length c1] from fun W' hW' => ⟨A1,c1,rfl,HC1.out,Kd.F_below (Kd.C_F (Kd.heap_slice _ (Kd.heap_int _)) HR1.out) (by repeat (first | (with_reducible first | exact HB.out | apply below_alloc | apply pw_below_drewN | apply below_drew1) | exact HB.out)) W' hW'⟩) (Reps.none _ _))));intro v1 w1 ho1 hb1 hg_ hnew_;clear hg_ hnew_;have HB1 := Aside0.mk hb1;have HO1 := Aside0.mk ho1;clear hb1 ho1;obtain ⟨Al,cl,el,hlc,hrc⟩ := Kd.N_reads HO1.out;subst el;have HLC := Aside0.mk hlc;have HRC := Aside0.mk hrc;clear hlc hrc) | ((with_reducible refine gate_callee (f := 46) rfl ?_);refine goesL_ (some 8) rfl rfl Try.func46 (by kernel_rfl) rfl #[.slice Al ([l0,l1] : List (List (List Int))).length cl] rfl (by (try simp only [List.map_toArray,List.map_cons,List.map_nil]);first | done | rfl | (simp only [List.length_drop,List.length_take];rfl)) ?_;(with_reducible refine (slices_Concat_Word_Word.calls Al cl [l0,l1] (l0 ++ l1) _ HRC.out HLC.out A1_.out).mono ?_);rintro e w2 ⟨v2,rfl,ho2,hb2⟩;refine ⟨_,rfl,?_⟩;have HB2 := Aside0.mk (below_step (by repeat (first | (with_reducible first | exact HB1.out | apply below_alloc | apply pw_below_drewN | apply below_drew1) | exact HB1.out)) hb2);obtain ⟨Ac,cc,ec,hcc,hcr⟩ := Kd.N_reads ho2;subst ec;have HCC := Aside0.mk hcc;have HCR := Aside0.mk hcr;clear hcc hcr ho2 hb2) | ((with_reducible refine gate_callee (f := 45) rfl ?_);refine goesL_ (some 9) rfl rfl Try.func45 (by kernel_rfl) rfl #[.slice Ac (l0 ++ l1).length cc,.int .i64 37] rfl (by (try simp only [List.map_toArray,List.map_cons,List.map_nil]);first | done | rfl | (simp only [List.length_drop,List.length_take];rfl)) ?_;(with_reducible refine (impl_areWords.calls Ac cc (l0 ++ l1) 37 _ _ HCR.out HCC.out A2.out).mono ?_);rintro e w3 ⟨rfl,hb3⟩;refine ⟨_,rfl,?_⟩;have HB3 := Aside0.mk (below_step HB2.out hb3);clear hb3))
   go_ret
   exact ⟨rfl,by repeat (first | (with_reducible first | exact HB3.out | apply below_alloc | apply pw_below_drewN | apply below_drew1) | exact HB3.out)⟩
 ·rw [if_neg hl] at h;cases h
end Go.Proofs.Ytmcdedmnekeibaa.G
end

section
namespace Go.Proofs.Ytmcdedmnekeibaa.G
open Go.RowKit Go.Proofs.YtmcdedmnekeibaaW.PrintWords Go.Proofs.YtmcdedmnekeibaaW.PrintLast Go.Proofs.YtmcdedmnekeibaaW.PrintMore
attribute [local go_sem] max2_int min2_int max_two min_two max_three min_three max_four min_four
set_option linter.unusedVariables false
set_option linter.unusedSimpArgs false
def impl_DecodeWord.l0 : Nat → List Int → Int → Int → Int → List (List Int) → Int → Int → Option (Int × Int)
 | 0,_,_,_,_,_,_,_ => none
 | k + 1,x1,x2,x9,x10,x25,x26,x27 => if x27 < x26 then (if 0 ≤ x27 then (if x27 < (x25.length : Int) then ((impl_unlike.f k (rd_L2 x25 x27) x1).bind fun t112 => (if t112 ≤ x2 then (impl_DecodeWord.l0 k x1 x2 x27 (wrap64 (x10 + 1)) x25 x26 (wrap64 (x27 + 1))) else (impl_DecodeWord.l0 k x1 x2 x9 x10 x25 x26 (wrap64 (x27 + 1))))) else (none)) else (none)) else (if x10 = 0 then (some (0,6)) else (if x10 = 1 then (some (x9,0)) else (some (0,8))))
def impl_DecodeWord.f (k : Nat) (l0 : List (List Int)) (l1 : List Int) (a2 : Int) : Option (Int × Int) := (impl_wordsCode.f l0 (([l1] : List (List Int)))).bind fun t104 => ((impl_within.f a2 0 8).bind fun t105 => ((impl_unless.f t105 2).bind fun t106 => ((impl_firstOf.f k (([t104,t106] : List Int))).bind fun t110 => (if t110 = 0 then (impl_DecodeWord.l0 k l1 a2 0 0 l0 (l0.length : Int) 0) else (some (0,t110))))))
set_option maxHeartbeats 8000000 in
set_option maxRecDepth 100000 in
theorem impl_DecodeWord.calls (k : Nat) (A0 : Option Addr) (c0 : Nat) (l0 : List (List Int)) (P1_ : Nat → Prop) (A1 : Option Addr) (c1 : Nat) (l1 : List Int) (a2 : Int) (r1 : Int) (r2 : Int) (w : World) (hr0 : Kd.C (Kd.slice 5 (Kd.int .u8)) w A0 l0.length l0) (hc0 : l0.length ≤ c0) (hs1 : Kd.V (Kd.int .u8) 5 w w.heap.size (fun k_ => P1_ k_) (.slice A1 l1.length c1) l1) (h : impl_DecodeWord.f k l0 l1 a2 = some (r1,r2)) :
  Calls Try.prog 13 #[.slice A0 l0.length c0,.slice A1 l1.length c1,.int .i64 a2] w fun e w' => e = .returned (.tuple #[.int .i64 r1,.int .i64 r2]) ∧ Below w.heap.size w w' := by
 have HR0 := Aside0.mk hr0;have HC0 := Aside0.mk hc0;clear hr0 hc0;have HO1 := Aside0.mk (show Kd.V (Kd.int .u8) 5 w w.heap.size (fun k_ => (P1_ k_ ∨ w.heap.size ≤ k_)) (.slice A1 l1.length c1) l1 from Kd.V_mono hs1 (fun k_ hk => .inl hk));have HB := Aside0.mk (Below.refl w.heap.size w);have H : ((impl_wordsCode.f l0 (([l1] : List (List Int)))).bind fun t104 => ((impl_within.f a2 0 8).bind fun t105 => ((impl_unless.f t105 2).bind fun t106 => ((impl_firstOf.f k (([t104,t106] : List Int))).bind fun t110 => (if t110 = 0 then (impl_DecodeWord.l0 k l1 a2 0 0 l0 (l0.length : Int) 0) else (some (0,t110))))))) = some (r1,r2) := h;clear h;obtain ⟨y101,hy101⟩ : ∃ y_ : List (List Int),y_ = (([l1] : List (List Int))) := ⟨_,rfl⟩
 replace H : ((impl_wordsCode.f l0 y101).bind fun t104 => ((impl_within.f a2 0 8).bind fun t105 => ((impl_unless.f t105 2).bind fun t106 => ((impl_firstOf.f k (([t104,t106] : List Int))).bind fun t110 => (if t110 = 0 then (impl_DecodeWord.l0 k l1 a2 0 0 l0 (l0.length : Int) 0) else (some (0,t110))))))) = some (r1,r2) := by first | (rw [hy101];with_reducible exact H) | (have H2_ := (Option.bind_some _ _).symm.trans H;rw [hy101];with_reducible exact H2_) | (have H2_ := (Option.bind_some _ _).symm.trans H;with_reducible exact H2_) | with_reducible exact H | (rw [hy101];exact H) | exact H
 have Ny101 := Aside0.mk hy101;clear hy101;replace H := Option.bind_eq_some_iff.mp H;obtain ⟨t104,A40,H⟩ := H;replace H : ((impl_within.f a2 0 8).bind fun t105 => ((impl_unless.f t105 2).bind fun t106 => ((impl_firstOf.f k (([t104,t106] : List Int))).bind fun t110 => (if t110 = 0 then (impl_DecodeWord.l0 k l1 a2 0 0 l0 (l0.length : Int) 0) else (some (0,t110)))))) = some (r1,r2) := H;have A4 := Aside0.mk A40;clear A40;replace H := Option.bind_eq_some_iff.mp H;obtain ⟨t105,A50,H⟩ := H;replace H : ((impl_unless.f t105 2).bind fun t106 => ((impl_firstOf.f k (([t104,t106] : List Int))).bind fun t110 => (if t110 = 0 then (impl_DecodeWord.l0 k l1 a2 0 0 l0 (l0.length : Int) 0) else (some (0,t110))))) = some (r1,r2) := H;have A5 := Aside0.mk A50;clear A50;replace H := Option.bind_eq_some_iff.mp H;obtain ⟨t106,A60,H⟩ := H;replace H : ((impl_firstOf.f k (([t104,t106] : List Int))).bind fun t110 => (if t110 = 0 then (impl_DecodeWord.l0 k l1 a2 0 0 l0 (l0.length : Int) 0) else (some (0,t110)))) = some (r1,r2) := H;have A6 := Aside0.mk A60;clear A60;obtain ⟨y107,hy107⟩ : ∃ y_ : List Int,y_ = (([t104,t106] : List Int)) := ⟨_,rfl⟩
 replace H : ((impl_firstOf.f k y107).bind fun t110 => (if t110 = 0 then (impl_DecodeWord.l0 k l1 a2 0 0 l0 (l0.length : Int) 0) else (some (0,t110)))) = some (r1,r2) := by first | (rw [hy107];with_reducible exact H) | (have H2_ := (Option.bind_some _ _).symm.trans H;rw [hy107];with_reducible exact H2_) | (have H2_ := (Option.bind_some _ _).symm.trans H;with_reducible exact H2_) | with_reducible exact H | (rw [hy107];exact H) | exact H
 have Ny107 := Aside0.mk hy107;clear hy107;replace H := Option.bind_eq_some_iff.mp H;obtain ⟨t110,A70,H⟩ := H;replace H : (if t110 = 0 then (impl_DecodeWord.l0 k l1 a2 0 0 l0 (l0.length : Int) 0) else (some (0,t110))) = some (r1,r2) := H;have A7 := Aside0.mk A70;clear A70
 by_cases c8 : t110 = 0
 ·rw [if_pos c8] at H;have c8b0 : (t110 == 0) = true := beq_iff_eq.mpr c8;have c8b1 : (t110 != 0) = false := bne_eq_false_iff_eq.mpr c8;clear c8;have H' := Aside0.mk H;clear H
  go_enter Try.func13,Try.ntmps13
  go_wp2_with (first | ((with_reducible refine gate_dst (N := 15) rfl ?_);refine Kd.N_lit (Kd.slice 5 (Kd.int .u8)) _ 32 ?hg (N' := 15) ?hd (xs := ([l1] : List (List Int))) (inner := [.slice A1 l1.length c1]) (ok := (fun k_ => (P1_ k_ ∨ w.heap.size ≤ k_))) (okp := (fun k_ => (P1_ k_ ∨ w.heap.size ≤ k_))) ?hr ?hp (fun _ hk => hk) ((show ∀ k_,w.heap.size ≤ k_ → (fun k_ => (P1_ k_ ∨ w.heap.size ≤ k_)) k_ from fun k_ hk => (.inr (Nat.le_trans (below_size (by repeat (first | (with_reducible first | exact HB.out | apply below_alloc | apply pw_below_drewN | apply below_drew1) | exact HB.out))) hk))) _ (Nat.le_refl _)) (Below.refl _ _) (Nat.le_refl _) (by simp) ?_;(case hd => rfl);(case hg => rfl);(case hr => first | (go_simp;done) | (go_simp;rfl));(case hp => exact (Reps.one (show Kd.FK (Kd.slice 5 (Kd.int .u8)) _ _ l1 [.slice A1 l1.length c1] from (Kd.FK_slice_mk (Kd.V_reads' (Kd.V_mono (ok' := (fun k_ => (P1_ k_ ∨ w.heap.size ≤ k_))) (HO1.out) (fun k_ hk => hk))).2.1 (Kd.V_F (Kd.V_mono (ok' := (fun k_ => (P1_ k_ ∨ w.heap.size ≤ k_))) (HO1.out) (fun k_ hk => hk))))) (Reps.none _ _)));intro v102 w9 ho10 hb hg_ hnew_;clear hg_ hnew_;(first | rw [← Ny101.out] at ho10 | (simp only [Int.reduceToNat] at ho10;rw [← Ny101.out] at ho10));have n0_ := Aside0.mk (Kd.V_elder' (by (with_reducible repeat (first | apply Kd.V_alloc | apply Kd.V_drewN | apply Kd.V_drew));exact HO1.out) (Kd.N_base ho10) hb);have n1_ := Aside0.mk (Kd.N_lower ho10 (below_size (by repeat (first | (with_reducible first | exact HB.out | apply below_alloc | apply pw_below_drewN | apply below_drew1) | exact HB.out))));have n2_ := Aside0.mk (below_step (by repeat (first | (with_reducible first | exact HB.out | apply below_alloc | apply pw_below_drewN | apply below_drew1) | exact HB.out)) hb);clear HO1;clear HB;have HO1 := n0_;have HO103 := n1_;have HB := n2_;clear n0_ n1_ n2_;clear hb ho10;obtain ⟨Ao11,co11,eo11⟩ := Kd.N_slice HO103.out;subst eo11) | ((with_reducible refine gate_callee (f := 36) rfl ?_);refine goesL_ (some 16) rfl rfl Try.func36 (by kernel_rfl) rfl #[.slice A0 l0.length c0,.slice Ao11 y101.length co11] rfl (by (try simp only [List.map_toArray,List.map_cons,List.map_nil]);first | done | rfl | (simp only [List.length_drop,List.length_take];rfl)) ?_;(with_reducible refine (impl_wordsCode.calls _ _ l0 _ _ y101 t104 _ ?side1 ?side2 ?side3 ?side4 A4.out).mono ?_);(case side1 => repeat (first | exact (Kd.C_below HR0.out HB.out) | (with_reducible refine Kd.C_alloc ?_ _) | (with_reducible refine Kd.C_drewN ?_ _) | (with_reducible refine Kd.C_drew ?_)));(case side2 => exact HC0.out);(case side3 => repeat (first | exact (Kd.N_reads' HO103.out).2.2 | (with_reducible refine Kd.C_alloc ?_ _) | (with_reducible refine Kd.C_drewN ?_ _) | (with_reducible refine Kd.C_drew ?_)));(case side4 => exact (Kd.N_reads' HO103.out).2.1);rintro e w12 ⟨rfl,hb⟩;refine ⟨_,rfl,?_⟩;have n0_ := Aside0.mk (Kd.V_below (by (with_reducible repeat (first | apply Kd.V_alloc | apply Kd.V_drewN | apply Kd.V_drew));exact HO1.out) hb);have n1_ := Aside0.mk (Kd.N_below (by (with_reducible repeat (first | apply Kd.N_alloc | apply Kd.N_drewN | apply Kd.N_drew));exact HO103.out) hb);have n2_ := Aside0.mk (below_step (by repeat (first | (with_reducible first | exact HB.out | apply below_alloc | apply pw_below_drewN | apply below_drew1) | exact HB.out)) hb);clear HO1;clear HO103;clear HB;have HO1 := n0_;have HO103 := n1_;have HB := n2_;clear n0_ n1_ n2_;(try clear hb);(try clear hb2);(try clear hk);(try clear hi)) | ((with_reducible refine gate_callee (f := 21) rfl ?_);refine goesL_ (some 18) rfl rfl Try.func21 (by kernel_rfl) rfl #[.int .i64 a2,.int .i64 0,.int .i64 8] rfl (by (try simp only [List.map_toArray,List.map_cons,List.map_nil]);first | done | rfl | (simp only [List.length_drop,List.length_take];rfl)) ?_;(with_reducible refine (impl_within.calls a2 0 8 t105 _ A5.out).mono ?_);rintro e w' ⟨rfl,⟨nd,rfl⟩⟩;refine ⟨_,rfl,?_⟩) | ((with_reducible refine gate_callee (f := 20) rfl ?_);refine goesL_ (some 19) rfl rfl Try.func20 (by kernel_rfl) rfl #[.bool t105,.int .i64 2] rfl (by (try simp only [List.map_toArray,List.map_cons,List.map_nil]);first | done | rfl | (simp only [List.length_drop,List.length_take];rfl)) ?_;(with_reducible refine (impl_unless.calls t105 2 t106 _ A6.out).mono ?_);rintro e w' ⟨rfl,⟨nd,rfl⟩⟩;refine ⟨_,rfl,?_⟩) | ((with_reducible refine gate_dst (N := 20) rfl ?_);refine Kd.R_lit (Kd.int .i64) _ 2 ?hg (N := 20) ?hd (xs := ([t104,t106] : List Int)) (inner := [.int .i64 t104,.int .i64 t106]) (ok := fun _ => True) (okp := fun _ => True) ?hr ?hp (fun _ hk => hk) trivial (Below.refl _ _) (Nat.le_refl _) (by simp) ?_;(case hd => rfl);(case hg => rfl);(case hr => first | (go_simp;done) | (go_simp;rfl));(case hp => exact (Reps.one (show Kd.M (Kd.int .i64) _ _ _ t104 [.int .i64 t104] from rfl) (Reps.one (show Kd.M (Kd.int .i64) _ _ _ t106 [.int .i64 t106] from rfl) (Reps.none _ _))));intro v108 w13 ho14 hb hg_ hnew_;clear hg_ hnew_;(first | rw [← Ny107.out] at ho14 | (simp only [Int.reduceToNat] at ho14;rw [← Ny107.out] at ho14));have n0_ := Aside0.mk (Kd.V_elder' (by (with_reducible repeat (first | apply Kd.V_alloc | apply Kd.V_drewN | apply Kd.V_drew));exact HO1.out) (Kd.R_base ho14) hb);have n1_ := Aside0.mk (Kd.N_elder' (by (with_reducible repeat (first | apply Kd.N_alloc | apply Kd.N_drewN | apply Kd.N_drew));exact HO103.out) (Kd.R_base ho14) hb);have n2_ := Aside0.mk (Kd.R_lower (Kd.R_newM (M := fun k_ => (w.heap.size ≤ k_)) ho14 (below_size (by repeat (first | (with_reducible first | exact HB.out | apply below_alloc | apply pw_below_drewN | apply below_drew1) | exact HB.out))) (fun k_ h_ => h_)) (below_size (by repeat (first | (with_reducible first | exact HB.out | apply below_alloc | apply pw_below_drewN | apply below_drew1) | exact HB.out))));have n3_ := Aside0.mk (below_step (by repeat (first | (with_reducible first | exact HB.out | apply below_alloc | apply pw_below_drewN | apply below_drew1) | exact HB.out)) hb);clear HO1;clear HO103;clear HB;have HO1 := n0_;have HO103 := n1_;have HO109 := n2_;have HB := n3_;clear n0_ n1_ n2_ n3_;clear hb ho14;obtain ⟨Ao15,co15,eo15⟩ := Kd.R_slice HO109.out;subst eo15) | ((with_reducible refine gate_callee (f := 18) rfl ?_);refine goesL_ (some 21) rfl rfl Try.func18 (by kernel_rfl) rfl #[.slice Ao15 y107.length co15] rfl (by (try simp only [List.map_toArray,List.map_cons,List.map_nil]);first | done | rfl | (simp only [List.length_drop,List.length_take];rfl)) ?_;(with_reducible refine (impl_firstOf.calls k _ _ y107 t110 _ ?side1 ?side2 A7.out).mono ?_);(case side1 => repeat (first | exact (Kd.R_reads' HO109.out).2.2 | (with_reducible refine Kd.C_alloc ?_ _) | (with_reducible refine Kd.C_drewN ?_ _) | (with_reducible refine Kd.C_drew ?_)));(case side2 => exact (Kd.R_reads' HO109.out).2.1);rintro e w' ⟨rfl,⟨nd,rfl⟩⟩;refine ⟨_,rfl,?_⟩))
  go_loopg [9,10,27] k (fun kq v9 v10 v27 w' => ∃ (x9_1 : Int) (x10_1 : Int) (x27_1 : Int),v9 = .int .i64 x9_1 ∧ v10 = .int .i64 x10_1 ∧ v27 = .int .i64 x27_1 ∧ Aside0 (impl_DecodeWord.l0 kq l1 a2 x9_1 x10_1 l0 (l0.length : Int) x27_1 = some (r1,r2)) ∧ Aside0 (kq ≤ k) ∧ Aside0 (Kd.V (Kd.int .u8) 5 w' w.heap.size (fun k_ => (P1_ k_ ∨ w.heap.size ≤ k_)) (.slice A1 l1.length c1) l1) ∧ Aside0 (Below w.heap.size w w'))
  case atStart => exact ⟨(0),(0),(0),(by first | rfl | (simp only [IntKind.wrap_i64,wrap64];done) | (simp;done) | (simp [*];done)),(by first | rfl | (simp only [IntKind.wrap_i64,wrap64];done) | (simp;done) | (simp [*];done)),(by first | rfl | (simp only [IntKind.wrap_i64,wrap64];done) | (simp;done) | (simp [*];done)),H',⟨Nat.le_refl _⟩,⟨by (with_reducible repeat (first | apply Kd.V_alloc | apply Kd.V_drewN | apply Kd.V_drew));exact Kd.V_mono HO1.out (fun _ hk => hk.1.1)⟩,⟨by repeat (first | (with_reducible first | exact HB.out | apply below_alloc | apply pw_below_drewN | apply below_drew1) | exact HB.out)⟩⟩
  case round =>
   clear H';(try clear c1);(try clear c2);(try clear p2);(try clear c3);(try clear c8);(try clear c8b0);(try clear c8b1);(try clear c13);obtain ⟨x9_1,x10_1,x27_1,rfl,rfl,rfl,HA,HK1,HO_1,HB⟩ := hrel
   cases gk with
   | zero => exact absurd HA.out (by simp [impl_DecodeWord.l0])
   | succ k1 =>
    have H := HA.out;clear HA;simp only [impl_DecodeWord.l0] at H
    by_cases c16 : x27_1 < (l0.length : Int)
    ·rw [if_pos c16] at H;have c16b0 : decide (x27_1 < (l0.length : Int)) = true := decide_eq_true c16;clear c16
     by_cases c17 : 0 ≤ x27_1
     ·rw [if_pos c17] at H;have c17b0 : decide (0 ≤ x27_1) = true := decide_eq_true c17;clear c17
      by_cases c18 : x27_1 < (l0.length : Int)
      ·rw [if_pos c18] at H;have c18b0 : decide (x27_1 < (l0.length : Int)) = true := decide_eq_true c18;clear c18;replace H := Option.bind_eq_some_iff.mp H;obtain ⟨t112,A190,H⟩ := H;replace H : (if t112 ≤ a2 then (impl_DecodeWord.l0 k1 l1 a2 x27_1 (wrap64 (x10_1 + 1)) l0 (l0.length : Int) (wrap64 (x27_1 + 1))) else (impl_DecodeWord.l0 k1 l1 a2 x9_1 x10_1 l0 (l0.length : Int) (wrap64 (x27_1 + 1)))) = some (r1,r2) := H;have A19 := Aside0.mk A190;clear A190
       by_cases c20 : t112 ≤ a2
       ·rw [if_pos c20] at H;have c20b0 : decide (t112 ≤ a2) = true := decide_eq_true c20;clear c20;have H' := Aside0.mk H;clear H;have p111 : 0 ≤ (x27_1 : Int) := of_decide_eq_true (by first | (with_reducible assumption) | assumption);have q111 : x27_1 < (l0.length : Int) := of_decide_eq_true (by first | (with_reducible assumption) | assumption);obtain ⟨ad111,A111_0,c111_0,e111,hx111_0,hl111_0,hi111_0⟩ := at_L2 HR0.out x27_1 p111 q111;cases e111;replace hx111_0 := (HB.out.cell (World.block_lt_of_cell? w _ hx111_0)).trans hx111_0;have HR111_0 := Aside0.mk hi111_0;have HC111_0 := Aside0.mk hl111_0;clear hi111_0 hl111_0;replace p111 := eq_true p111;replace q111 := eq_true q111
        go_wp2_with (first | ((with_reducible refine gate_callee (f := 27) rfl ?_);refine goesL_ (some 34) rfl rfl Try.func27 (by kernel_rfl) rfl #[.slice A111_0 (rd_L2 l0 x27_1).length c111_0,.slice A1 l1.length c1] rfl (by (try simp only [List.map_toArray,List.map_cons,List.map_nil]);first | done | rfl | (simp only [List.length_drop,List.length_take];rfl)) ?_;(with_reducible refine (impl_unlike.calls k1 _ _ (rd_L2 l0 x27_1) _ _ l1 t112 _ ?side1 ?side2 ?side3 ?side4 A19.out).mono ?_);(case side1 => repeat (first | exact (Kd.C_below HR111_0.out HB.out) | (with_reducible refine Kd.C_alloc ?_ _) | (with_reducible refine Kd.C_drewN ?_ _) | (with_reducible refine Kd.C_drew ?_)));(case side2 => exact HC111_0.out);(case side3 => repeat (first | exact (Kd.V_reads' HO_1.out).2.2 | (with_reducible refine Kd.C_alloc ?_ _) | (with_reducible refine Kd.C_drewN ?_ _) | (with_reducible refine Kd.C_drew ?_)));(case side4 => exact (Kd.V_reads' HO_1.out).2.1);rintro e w' ⟨rfl,⟨nd,rfl⟩⟩;refine ⟨_,rfl,?_⟩))
        go_roundg k1
        case measure => have := HK1.out;omega
        case rel => exact ⟨(x27_1),(wrap64 (x10_1 + 1)),(wrap64 (x27_1 + 1)),(by first | rfl | (simp only [IntKind.wrap_i64,wrap64];done) | (simp;done) | (simp [*];done)),(by first | rfl | (simp only [IntKind.wrap_i64,wrap64];done) | (simp;done) | (simp [*];done)),(by first | rfl | (simp only [IntKind.wrap_i64,wrap64];done) | (simp;done) | (simp [*];done)),H',⟨by have := HK1.out;omega⟩,⟨by (with_reducible repeat (first | apply Kd.V_alloc | apply Kd.V_drewN | apply Kd.V_drew));exact HO_1.out⟩,⟨by repeat (first | (with_reducible first | exact HB.out | apply below_alloc | apply pw_below_drewN | apply below_drew1) | exact HB.out)⟩⟩
       ·rw [if_neg c20] at H;have c20b0 : decide (t112 ≤ a2) = false := decide_eq_false c20;clear c20;have H' := Aside0.mk H;clear H;have p111 : 0 ≤ (x27_1 : Int) := of_decide_eq_true (by first | (with_reducible assumption) | assumption);have q111 : x27_1 < (l0.length : Int) := of_decide_eq_true (by first | (with_reducible assumption) | assumption);obtain ⟨ad111,A111_0,c111_0,e111,hx111_0,hl111_0,hi111_0⟩ := at_L2 HR0.out x27_1 p111 q111;cases e111;replace hx111_0 := (HB.out.cell (World.block_lt_of_cell? w _ hx111_0)).trans hx111_0;have HR111_0 := Aside0.mk hi111_0;have HC111_0 := Aside0.mk hl111_0;clear hi111_0 hl111_0;replace p111 := eq_true p111;replace q111 := eq_true q111
        go_wp2_with (first | ((with_reducible refine gate_callee (f := 27) rfl ?_);refine goesL_ (some 34) rfl rfl Try.func27 (by kernel_rfl) rfl #[.slice A111_0 (rd_L2 l0 x27_1).length c111_0,.slice A1 l1.length c1] rfl (by (try simp only [List.map_toArray,List.map_cons,List.map_nil]);first | done | rfl | (simp only [List.length_drop,List.length_take];rfl)) ?_;(with_reducible refine (impl_unlike.calls k1 _ _ (rd_L2 l0 x27_1) _ _ l1 t112 _ ?side1 ?side2 ?side3 ?side4 A19.out).mono ?_);(case side1 => repeat (first | exact (Kd.C_below HR111_0.out HB.out) | (with_reducible refine Kd.C_alloc ?_ _) | (with_reducible refine Kd.C_drewN ?_ _) | (with_reducible refine Kd.C_drew ?_)));(case side2 => exact HC111_0.out);(case side3 => repeat (first | exact (Kd.V_reads' HO_1.out).2.2 | (with_reducible refine Kd.C_alloc ?_ _) | (with_reducible refine Kd.C_drewN ?_ _) | (with_reducible refine Kd.C_drew ?_)));(case side4 => exact (Kd.V_reads' HO_1.out).2.1);rintro e w' ⟨rfl,⟨nd,rfl⟩⟩;refine ⟨_,rfl,?_⟩))
        go_roundg k1
        case measure => have := HK1.out;omega
        case rel => exact ⟨(x9_1),(x10_1),(wrap64 (x27_1 + 1)),(by first | rfl | (simp only [IntKind.wrap_i64,wrap64];done) | (simp;done) | (simp [*];done)),(by first | rfl | (simp only [IntKind.wrap_i64,wrap64];done) | (simp;done) | (simp [*];done)),(by first | rfl | (simp only [IntKind.wrap_i64,wrap64];done) | (simp;done) | (simp [*];done)),H',⟨by have := HK1.out;omega⟩,⟨by (with_reducible repeat (first | apply Kd.V_alloc | apply Kd.V_drewN | apply Kd.V_drew));exact HO_1.out⟩,⟨by repeat (first | (with_reducible first | exact HB.out | apply below_alloc | apply pw_below_drewN | apply below_drew1) | exact HB.out)⟩⟩
      ·rw [if_neg c18] at H;exact absurd H (by simp)
     ·rw [if_neg c17] at H;exact absurd H (by simp)
    ·rw [if_neg c16] at H;have c16b0 : decide (x27_1 < (l0.length : Int)) = false := decide_eq_false c16;clear c16
     by_cases c21 : x10_1 = 0
     ·rw [if_pos c21] at H;have c21b0 : (x10_1 == 0) = true := beq_iff_eq.mpr c21;have c21b1 : (x10_1 != 0) = false := bne_eq_false_iff_eq.mpr c21;clear c21;simp only [Option.some.injEq,Prod.mk.injEq] at H;obtain ⟨rfl,rfl⟩ := H
      go_wp2
      go_ret2
      exact ⟨by first | rfl | (simp [errW_none,errW_some,IntKind.wrap_i64,wrap64];done) | (simp [errW_none,errW_some] <;> rfl) | (simp [*,errW_none,errW_some] <;> rfl),by repeat (first | (with_reducible first | exact HB.out | apply below_alloc | apply pw_below_drewN | apply below_drew1) | exact HB.out)⟩
     ·rw [if_neg c21] at H;have c21b0 : (x10_1 == 0) = false := beq_eq_false_iff_ne.mpr c21;have c21b1 : (x10_1 != 0) = true := bne_iff_ne.mpr c21
      by_cases c22 : x10_1 = 1
      ·rw [if_pos c22] at H;have c22b0 : (x10_1 == 1) = true := beq_iff_eq.mpr c22;have c22b1 : (x10_1 != 1) = false := bne_eq_false_iff_eq.mpr c22;clear c22;simp only [Option.some.injEq,Prod.mk.injEq] at H;obtain ⟨rfl,rfl⟩ := H
       go_wp2
       go_ret2
       exact ⟨by first | rfl | (simp [errW_none,errW_some,IntKind.wrap_i64,wrap64];done) | (simp [errW_none,errW_some] <;> rfl) | (simp [*,errW_none,errW_some] <;> rfl),by repeat (first | (with_reducible first | exact HB.out | apply below_alloc | apply pw_below_drewN | apply below_drew1) | exact HB.out)⟩
      ·rw [if_neg c22] at H;have c22b0 : (x10_1 == 1) = false := beq_eq_false_iff_ne.mpr c22;have c22b1 : (x10_1 != 1) = true := bne_iff_ne.mpr c22;simp only [Option.some.injEq,Prod.mk.injEq] at H;obtain ⟨rfl,rfl⟩ := H
       go_wp2
       go_ret2
       exact ⟨by first | rfl | (simp [errW_none,errW_some,IntKind.wrap_i64,wrap64];done) | (simp [errW_none,errW_some] <;> rfl) | (simp [*,errW_none,errW_some] <;> rfl),by repeat (first | (with_reducible first | exact HB.out | apply below_alloc | apply pw_below_drewN | apply below_drew1) | exact HB.out)⟩
 ·rw [if_neg c8] at H;have c8b0 : (t110 == 0) = false := beq_eq_false_iff_ne.mpr c8;have c8b1 : (t110 != 0) = true := bne_iff_ne.mpr c8;simp only [Option.some.injEq,Prod.mk.injEq] at H;obtain ⟨rfl,rfl⟩ := H
  go_enter Try.func13,Try.ntmps13
  go_wp2_with (first | ((with_reducible refine gate_dst (N := 15) rfl ?_);refine Kd.N_lit (Kd.slice 5 (Kd.int .u8)) _ 32 ?hg (N' := 15) ?hd (xs := ([l1] : List (List Int))) (inner := [.slice A1 l1.length c1]) (ok := (fun k_ => (P1_ k_ ∨ w.heap.size ≤ k_))) (okp := (fun k_ => (P1_ k_ ∨ w.heap.size ≤ k_))) ?hr ?hp (fun _ hk => hk) ((show ∀ k_,w.heap.size ≤ k_ → (fun k_ => (P1_ k_ ∨ w.heap.size ≤ k_)) k_ from fun k_ hk => (.inr (Nat.le_trans (below_size (by repeat (first | (with_reducible first | exact HB.out | apply below_alloc | apply pw_below_drewN | apply below_drew1) | exact HB.out))) hk))) _ (Nat.le_refl _)) (Below.refl _ _) (Nat.le_refl _) (by simp) ?_;(case hd => rfl);(case hg => rfl);(case hr => first | (go_simp;done) | (go_simp;rfl));(case hp => exact (Reps.one (show Kd.FK (Kd.slice 5 (Kd.int .u8)) _ _ l1 [.slice A1 l1.length c1] from (Kd.FK_slice_mk (Kd.V_reads' (Kd.V_mono (ok' := (fun k_ => (P1_ k_ ∨ w.heap.size ≤ k_))) (HO1.out) (fun k_ hk => hk))).2.1 (Kd.V_F (Kd.V_mono (ok' := (fun k_ => (P1_ k_ ∨ w.heap.size ≤ k_))) (HO1.out) (fun k_ hk => hk))))) (Reps.none _ _)));intro v102 w23 ho24 hb hg_ hnew_;clear hg_ hnew_;(first | rw [← Ny101.out] at ho24 | (simp only [Int.reduceToNat] at ho24;rw [← Ny101.out] at ho24));have n0_ := Aside0.mk (Kd.V_elder' (by (with_reducible repeat (first | apply Kd.V_alloc | apply Kd.V_drewN | apply Kd.V_drew));exact HO1.out) (Kd.N_base ho24) hb);have n1_ := Aside0.mk (Kd.N_lower ho24 (below_size (by repeat (first | (with_reducible first | exact HB.out | apply below_alloc | apply pw_below_drewN | apply below_drew1) | exact HB.out))));have n2_ := Aside0.mk (below_step (by repeat (first | (with_reducible first | exact HB.out | apply below_alloc | apply pw_below_drewN | apply below_drew1) | exact HB.out)) hb);clear HO1;clear HB;have HO1 := n0_;have HO103 := n1_;have HB := n2_;clear n0_ n1_ n2_;clear hb ho24;obtain ⟨Ao25,co25,eo25⟩ := Kd.N_slice HO103.out;subst eo25) | ((with_reducible refine gate_callee (f := 36) rfl ?_);refine goesL_ (some 16) rfl rfl Try.func36 (by kernel_rfl) rfl #[.slice A0 l0.length c0,.slice Ao25 y101.length co25] rfl (by (try simp only [List.map_toArray,List.map_cons,List.map_nil]);first | done | rfl | (simp only [List.length_drop,List.length_take];rfl)) ?_;(with_reducible refine (impl_wordsCode.calls _ _ l0 _ _ y101 t104 _ ?side1 ?side2 ?side3 ?side4 A4.out).mono ?_);(case side1 => repeat (first | exact (Kd.C_below HR0.out HB.out) | (with_reducible refine Kd.C_alloc ?_ _) | (with_reducible refine Kd.C_drewN ?_ _) | (with_reducible refine Kd.C_drew ?_)));(case side2 => exact HC0.out);(case side3 => repeat (first | exact (Kd.N_reads' HO103.out).2.2 | (with_reducible refine Kd.C_alloc ?_ _) | (with_reducible refine Kd.C_drewN ?_ _) | (with_reducible refine Kd.C_drew ?_)));(case side4 => exact (Kd.N_reads' HO103.out).2.1);rintro e w26 ⟨rfl,hb⟩;refine ⟨_,rfl,?_⟩;have n0_ := Aside0.mk (Kd.V_below (by (with_reducible repeat (first | apply Kd.V_alloc | apply Kd.V_drewN | apply Kd.V_drew));exact HO1.out) hb);have n1_ := Aside0.mk (Kd.N_below (by (with_reducible repeat (first | apply Kd.N_alloc | apply Kd.N_drewN | apply Kd.N_drew));exact HO103.out) hb);have n2_ := Aside0.mk (below_step (by repeat (first | (with_reducible first | exact HB.out | apply below_alloc | apply pw_below_drewN | apply below_drew1) | exact HB.out)) hb);clear HO1;clear HO103;clear HB;have HO1 := n0_;have HO103 := n1_;have HB := n2_;clear n0_ n1_ n2_;(try clear hb);(try clear hb2);(try clear hk);(try clear hi)) | ((with_reducible refine gate_callee (f := 21) rfl ?_);refine goesL_ (some 18) rfl rfl Try.func21 (by kernel_rfl) rfl #[.int .i64 a2,.int .i64 0,.int .i64 8] rfl (by (try simp only [List.map_toArray,List.map_cons,List.map_nil]);first | done | rfl | (simp only [List.length_drop,List.length_take];rfl)) ?_;(with_reducible refine (impl_within.calls a2 0 8 t105 _ A5.out).mono ?_);rintro e w' ⟨rfl,⟨nd,rfl⟩⟩;refine ⟨_,rfl,?_⟩) | ((with_reducible refine gate_callee (f := 20) rfl ?_);refine goesL_ (some 19) rfl rfl Try.func20 (by kernel_rfl) rfl #[.bool t105,.int .i64 2] rfl (by (try simp only [List.map_toArray,List.map_cons,List.map_nil]);first | done | rfl | (simp only [List.length_drop,List.length_take];rfl)) ?_;(with_reducible refine (impl_unless.calls t105 2 t106 _ A6.out).mono ?_);rintro e w' ⟨rfl,⟨nd,rfl⟩⟩;refine ⟨_,rfl,?_⟩) | ((with_reducible refine gate_dst (N := 20) rfl ?_);refine Kd.R_lit (Kd.int .i64) _ 2 ?hg (N := 20) ?hd (xs := ([t104,t106] : List Int)) (inner := [.int .i64 t104,.int .i64 t106]) (ok := fun _ => True) (okp := fun _ => True) ?hr ?hp (fun _ hk => hk) trivial (Below.refl _ _) (Nat.le_refl _) (by simp) ?_;(case hd => rfl);(case hg => rfl);(case hr => first | (go_simp;done) | (go_simp;rfl));(case hp => exact (Reps.one (show Kd.M (Kd.int .i64) _ _ _ t104 [.int .i64 t104] from rfl) (Reps.one (show Kd.M (Kd.int .i64) _ _ _ t106 [.int .i64 t106] from rfl) (Reps.none _ _))));intro v108 w27 ho28 hb hg_ hnew_;clear hg_ hnew_;(first | rw [← Ny107.out] at ho28 | (simp only [Int.reduceToNat] at ho28;rw [← Ny107.out] at ho28));have n0_ := Aside0.mk (Kd.V_elder' (by (with_reducible repeat (first | apply Kd.V_alloc | apply Kd.V_drewN | apply Kd.V_drew));exact HO1.out) (Kd.R_base ho28) hb);have n1_ := Aside0.mk (Kd.N_elder' (by (with_reducible repeat (first | apply Kd.N_alloc | apply Kd.N_drewN | apply Kd.N_drew));exact HO103.out) (Kd.R_base ho28) hb);have n2_ := Aside0.mk (Kd.R_lower (Kd.R_newM (M := fun k_ => (w.heap.size ≤ k_)) ho28 (below_size (by repeat (first | (with_reducible first | exact HB.out | apply below_alloc | apply pw_below_drewN | apply below_drew1) | exact HB.out))) (fun k_ h_ => h_)) (below_size (by repeat (first | (with_reducible first | exact HB.out | apply below_alloc | apply pw_below_drewN | apply below_drew1) | exact HB.out))));have n3_ := Aside0.mk (below_step (by repeat (first | (with_reducible first | exact HB.out | apply below_alloc | apply pw_below_drewN | apply below_drew1) | exact HB.out)) hb);clear HO1;clear HO103;clear HB;have HO1 := n0_;have HO103 := n1_;have HO109 := n2_;have HB := n3_;clear n0_ n1_ n2_ n3_;clear hb ho28;obtain ⟨Ao29,co29,eo29⟩ := Kd.R_slice HO109.out;subst eo29) | ((with_reducible refine gate_callee (f := 18) rfl ?_);refine goesL_ (some 21) rfl rfl Try.func18 (by kernel_rfl) rfl #[.slice Ao29 y107.length co29] rfl (by (try simp only [List.map_toArray,List.map_cons,List.map_nil]);first | done | rfl | (simp only [List.length_drop,List.length_take];rfl)) ?_;(with_reducible refine (impl_firstOf.calls k _ _ y107 t110 _ ?side1 ?side2 A7.out).mono ?_);(case side1 => repeat (first | exact (Kd.R_reads' HO109.out).2.2 | (with_reducible refine Kd.C_alloc ?_ _) | (with_reducible refine Kd.C_drewN ?_ _) | (with_reducible refine Kd.C_drew ?_)));(case side2 => exact (Kd.R_reads' HO109.out).2.1);rintro e w' ⟨rfl,⟨nd,rfl⟩⟩;refine ⟨_,rfl,?_⟩))
  go_ret2
  exact ⟨by first | rfl | (simp [errW_none,errW_some,IntKind.wrap_i64,wrap64];done) | (simp [errW_none,errW_some] <;> rfl) | (simp [*,errW_none,errW_some] <;> rfl),by repeat (first | (with_reducible first | exact HB.out | apply below_alloc | apply pw_below_drewN | apply below_drew1) | exact HB.out)⟩
end Go.Proofs.Ytmcdedmnekeibaa.G
end

section
namespace Go.Proofs.Ytmcdedmnekeibaa.G
open Go.RowKit Go.Proofs.YtmcdedmnekeibaaW.PrintWords Go.Proofs.YtmcdedmnekeibaaW.PrintLast Go.Proofs.YtmcdedmnekeibaaW.PrintMore
attribute [local go_sem] max2_int min2_int max_two min_two max_three min_three max_four min_four
set_option linter.unusedVariables false
set_option linter.unusedSimpArgs false
def impl_apartCode.f (a0 : Int) (a1 : Int) (a2 : Int) : Option (Int) := (impl_within.f a0 2 37).bind fun t101 => (if t101 = true then ((impl_within.f a1 1 8).bind fun t102 => (if t102 = true then ((impl_within.f a2 1 a1).bind fun t103 => ((impl_unless.f t103 2).bind fun t104 => (some t104))) else ((impl_unless.f false 2).bind fun t105 => (some t105)))) else ((impl_unless.f false 2).bind fun t106 => (some t106)))
set_option maxHeartbeats 8000000 in
set_option maxRecDepth 100000 in
theorem impl_apartCode.calls (a0 : Int) (a1 : Int) (a2 : Int) (r : Int) (w : World) (h : impl_apartCode.f a0 a1 a2 = some r) :
  Calls Try.prog 19 #[.int .i64 a0,.int .i64 a1,.int .i64 a2] w fun e w' => e = .returned (.int .i64 r) ∧ Drawn0 w w' := by
 have H : ((impl_within.f a0 2 37).bind fun t101 => (if t101 = true then ((impl_within.f a1 1 8).bind fun t102 => (if t102 = true then ((impl_within.f a2 1 a1).bind fun t103 => ((impl_unless.f t103 2).bind fun t104 => (some t104))) else ((impl_unless.f false 2).bind fun t105 => (some t105)))) else ((impl_unless.f false 2).bind fun t106 => (some t106)))) = some r := h;clear h;replace H := Option.bind_eq_some_iff.mp H;obtain ⟨t101,A40,H⟩ := H;replace H : (if t101 = true then ((impl_within.f a1 1 8).bind fun t102 => (if t102 = true then ((impl_within.f a2 1 a1).bind fun t103 => ((impl_unless.f t103 2).bind fun t104 => (some t104))) else ((impl_unless.f false 2).bind fun t105 => (some t105)))) else ((impl_unless.f false 2).bind fun t106 => (some t106))) = some r := H;have A4 := Aside0.mk A40;clear A40
 by_cases c5 : t101 = true
 ·subst c5
  have H1 : ((impl_within.f a1 1 8).bind fun t102 => (if t102 = true then ((impl_within.f a2 1 a1).bind fun t103 => ((impl_unless.f t103 2).bind fun t104 => (some t104))) else ((impl_unless.f false 2).bind fun t105 => (some t105)))) = some r := by rw [if_pos rfl] at H;exact H
  clear H;have H := H1;clear H1;replace H := Option.bind_eq_some_iff.mp H;obtain ⟨t102,A60,H⟩ := H;replace H : (if t102 = true then ((impl_within.f a2 1 a1).bind fun t103 => ((impl_unless.f t103 2).bind fun t104 => (some t104))) else ((impl_unless.f false 2).bind fun t105 => (some t105))) = some r := H;have A6 := Aside0.mk A60;clear A60
  by_cases c7 : t102 = true
  ·subst c7
   have H1 : ((impl_within.f a2 1 a1).bind fun t103 => ((impl_unless.f t103 2).bind fun t104 => (some t104))) = some r := by rw [if_pos rfl] at H;exact H
   clear H;have H := H1;clear H1;replace H := Option.bind_eq_some_iff.mp H;obtain ⟨t103,A80,H⟩ := H;replace H : ((impl_unless.f t103 2).bind fun t104 => (some t104)) = some r := H;have A8 := Aside0.mk A80;clear A80;replace H := Option.bind_eq_some_iff.mp H;obtain ⟨t104,A90,H⟩ := H;replace H : (some t104) = some r := H;have A9 := Aside0.mk A90;clear A90;obtain rfl := Option.some.inj H
   go_enter Try.func19,Try.ntmps19
   go_wp2_with (first | ((with_reducible refine gate_callee (f := 21) rfl ?_);refine goesL_ (some 8) rfl rfl Try.func21 (by kernel_rfl) rfl #[.int .i64 a0,.int .i64 2,.int .i64 37] rfl (by (try simp only [List.map_toArray,List.map_cons,List.map_nil]);first | done | rfl | (simp only [List.length_drop,List.length_take];rfl)) ?_;(with_reducible refine (impl_within.calls a0 2 37 true _ A4.out).mono ?_);rintro e w' ⟨rfl,⟨nd,rfl⟩⟩;refine ⟨_,rfl,?_⟩) | (go_at_call 21;(with_reducible refine (impl_within.calls a1 1 8 true _ A6.out).mono ?_);rintro e w' ⟨rfl,⟨nd,rfl⟩⟩) | (go_at_call 21;(with_reducible refine (impl_within.calls a2 1 a1 t103 _ A8.out).mono ?_);rintro e w' ⟨rfl,⟨nd,rfl⟩⟩) | ((with_reducible refine gate_callee (f := 20) rfl ?_);refine goesL_ (some 18) rfl rfl Try.func20 (by kernel_rfl) rfl #[.bool t103,.int .i64 2] rfl (by (try simp only [List.map_toArray,List.map_cons,List.map_nil]);first | done | rfl | (simp only [List.length_drop,List.length_take];rfl)) ?_;(with_reducible refine (impl_unless.calls t103 2 t104 _ A9.out).mono ?_);rintro e w' ⟨rfl,⟨nd,rfl⟩⟩;refine ⟨_,rfl,?_⟩))
   go_ret
   exact ⟨by first | rfl | (simp only [IntKind.wrap_i64,wrap64];done) | (simp;done) | (simp [*];done),by repeat (first | exact Drawn0.refl _ | apply Drawn0.step)⟩
  ·replace c7 := Bool.eq_false_iff.mpr c7;subst c7
   have H1 : ((impl_unless.f false 2).bind fun t105 => (some t105)) = some r := by rw [if_neg (show ¬ (false = true) by decide)] at H;exact H
   clear H;have H := H1;clear H1;replace H := Option.bind_eq_some_iff.mp H;obtain ⟨t105,A100,H⟩ := H;replace H : (some t105) = some r := H;have A10 := Aside0.mk A100;clear A100;obtain rfl := Option.some.inj H
   go_enter Try.func19,Try.ntmps19
   go_wp2_with (first | ((with_reducible refine gate_callee (f := 21) rfl ?_);refine goesL_ (some 8) rfl rfl Try.func21 (by kernel_rfl) rfl #[.int .i64 a0,.int .i64 2,.int .i64 37] rfl (by (try simp only [List.map_toArray,List.map_cons,List.map_nil]);first | done | rfl | (simp only [List.length_drop,List.length_take];rfl)) ?_;(with_reducible refine (impl_within.calls a0 2 37 true _ A4.out).mono ?_);rintro e w' ⟨rfl,⟨nd,rfl⟩⟩;refine ⟨_,rfl,?_⟩) | (go_at_call 21;(with_reducible refine (impl_within.calls a1 1 8 false _ A6.out).mono ?_);rintro e w' ⟨rfl,⟨nd,rfl⟩⟩) | ((with_reducible refine gate_callee (f := 20) rfl ?_);refine goesL_ (some 18) rfl rfl Try.func20 (by kernel_rfl) rfl #[.bool false,.int .i64 2] rfl (by (try simp only [List.map_toArray,List.map_cons,List.map_nil]);first | done | rfl | (simp only [List.length_drop,List.length_take];rfl)) ?_;(with_reducible refine (impl_unless.calls false 2 t105 _ A10.out).mono ?_);rintro e w' ⟨rfl,⟨nd,rfl⟩⟩;refine ⟨_,rfl,?_⟩))
   go_ret
   exact ⟨by first | rfl | (simp only [IntKind.wrap_i64,wrap64];done) | (simp;done) | (simp [*];done),by repeat (first | exact Drawn0.refl _ | apply Drawn0.step)⟩
 ·replace c5 := Bool.eq_false_iff.mpr c5;subst c5
  have H1 : ((impl_unless.f false 2).bind fun t106 => (some t106)) = some r := by rw [if_neg (show ¬ (false = true) by decide)] at H;exact H
  clear H;have H := H1;clear H1;replace H := Option.bind_eq_some_iff.mp H;obtain ⟨t106,A110,H⟩ := H;replace H : (some t106) = some r := H;have A11 := Aside0.mk A110;clear A110;obtain rfl := Option.some.inj H
  go_enter Try.func19,Try.ntmps19
  go_wp2_with (first | ((with_reducible refine gate_callee (f := 21) rfl ?_);refine goesL_ (some 8) rfl rfl Try.func21 (by kernel_rfl) rfl #[.int .i64 a0,.int .i64 2,.int .i64 37] rfl (by (try simp only [List.map_toArray,List.map_cons,List.map_nil]);first | done | rfl | (simp only [List.length_drop,List.length_take];rfl)) ?_;(with_reducible refine (impl_within.calls a0 2 37 false _ A4.out).mono ?_);rintro e w' ⟨rfl,⟨nd,rfl⟩⟩;refine ⟨_,rfl,?_⟩) | ((with_reducible refine gate_callee (f := 20) rfl ?_);refine goesL_ (some 18) rfl rfl Try.func20 (by kernel_rfl) rfl #[.bool false,.int .i64 2] rfl (by (try simp only [List.map_toArray,List.map_cons,List.map_nil]);first | done | rfl | (simp only [List.length_drop,List.length_take];rfl)) ?_;(with_reducible refine (impl_unless.calls false 2 t106 _ A11.out).mono ?_);rintro e w' ⟨rfl,⟨nd,rfl⟩⟩;refine ⟨_,rfl,?_⟩))
  go_ret
  exact ⟨by first | rfl | (simp only [IntKind.wrap_i64,wrap64];done) | (simp;done) | (simp [*];done),by repeat (first | exact Drawn0.refl _ | apply Drawn0.step)⟩
end Go.Proofs.Ytmcdedmnekeibaa.G
end

section
namespace Go.Proofs.Ytmcdedmnekeibaa.G
open Go.RowKit Go.Proofs.YtmcdedmnekeibaaW.PrintWords Go.Proofs.YtmcdedmnekeibaaW.PrintLast Go.Proofs.YtmcdedmnekeibaaW.PrintMore
attribute [local go_sem] max2_int min2_int max_two min_two max_three min_three max_four min_four
set_option linter.unusedVariables false
set_option linter.unusedSimpArgs false
def impl_power.l0 : Nat → Int → Int → Int → Int → Option (Int)
 | 0,_,_,_,_ => none
 | k + 1,x0,x5,x6,x7 => if x7 < x6 then (impl_power.l0 k x0 (wrap64 (x5 * x0)) x6 (wrap64 (x7 + 1))) else (some x5)
def impl_power.f (k : Nat) (a0 : Int) (a1 : Int) : Option (Int) := impl_power.l0 k a0 1 a1 0
set_option maxHeartbeats 8000000 in
set_option maxRecDepth 100000 in
theorem impl_power.calls (k : Nat) (a0 : Int) (a1 : Int) (r : Int) (w : World) (h : impl_power.f k a0 a1 = some r) :
  Calls Try.prog 22 #[.int .i64 a0,.int .i64 a1] w fun e w' => e = .returned (.int .i64 r) ∧ Drawn0 w w' := by
 have H : (impl_power.l0 k a0 1 a1 0) = some r := h;clear h;have H' := Aside0.mk H;clear H
 go_enter Try.func22,Try.ntmps22
 go_wp2
 go_loopg [5,7] k (fun kq v5 v7 w' => ∃ (x5_1 : Int) (x7_1 : Int),v5 = .int .i64 x5_1 ∧ v7 = .int .i64 x7_1 ∧ Aside0 (impl_power.l0 kq a0 x5_1 a1 x7_1 = some r) ∧ Aside0 (kq ≤ k) ∧ Drawn0 w w')
 case atStart => exact ⟨(1),(0),(by first | rfl | (simp only [IntKind.wrap_i64,wrap64];done) | (simp;done) | (simp [*];done)),(by first | rfl | (simp only [IntKind.wrap_i64,wrap64];done) | (simp;done) | (simp [*];done)),H',⟨Nat.le_refl _⟩,by repeat (first | exact Drawn0.refl _ | apply Drawn0.step)⟩
 case round =>
  clear H';(try clear c2);(try clear p2);obtain ⟨x5_1,x7_1,rfl,rfl,HA,HK1,⟨m1,rfl⟩⟩ := hrel
  cases gk with
  | zero => exact absurd HA.out (by simp [impl_power.l0])
  | succ k1 =>
   have H := HA.out;clear HA;simp only [impl_power.l0] at H
   by_cases c3 : x7_1 < a1
   ·rw [if_pos c3] at H;have c3b0 : decide (x7_1 < a1) = true := decide_eq_true c3;clear c3;have H' := Aside0.mk H;clear H
    go_wp2
    go_roundg k1
    case measure => have := HK1.out;omega
    case rel => exact ⟨(wrap64 (x5_1 * a0)),(wrap64 (x7_1 + 1)),(by first | rfl | (simp only [IntKind.wrap_i64,wrap64];done) | (simp;done) | (simp [*];done)),(by first | rfl | (simp only [IntKind.wrap_i64,wrap64];done) | (simp;done) | (simp [*];done)),H',⟨by have := HK1.out;omega⟩,by repeat (first | exact Drawn0.refl _ | apply Drawn0.step)⟩
   ·rw [if_neg c3] at H;have c3b0 : decide (x7_1 < a1) = false := decide_eq_false c3;clear c3;obtain rfl := Option.some.inj H
    go_wp2
    go_ret
    exact ⟨by first | rfl | (simp only [IntKind.wrap_i64,wrap64];done) | (simp;done) | (simp [*];done),by repeat (first | exact Drawn0.refl _ | apply Drawn0.step)⟩
end Go.Proofs.Ytmcdedmnekeibaa.G
end

section
namespace Go.Proofs.Ytmcdedmnekeibaa.G
open Go.RowKit Go.Proofs.YtmcdedmnekeibaaW.PrintWords Go.Proofs.YtmcdedmnekeibaaW.PrintLast Go.Proofs.YtmcdedmnekeibaaW.PrintMore
attribute [local go_sem] max2_int min2_int max_two min_two max_three min_three max_four min_four
set_option linter.unusedVariables false
set_option linter.unusedSimpArgs false
def impl_size_Word.f (l0 : List (List Int)) : Option (Int) := some (l0.length : Int)
set_option maxHeartbeats 8000000 in
set_option maxRecDepth 100000 in
theorem impl_size_Word.calls (A0 : Option Addr) (c0 : Nat) (l0 : List (List Int)) (r : Int) (w : World) (hr0 : Kd.C (Kd.slice 5 (Kd.int .u8)) w A0 l0.length l0) (hc0 : l0.length ≤ c0) (h : impl_size_Word.f l0 = some r) :
  Calls Try.prog 24 #[.slice A0 l0.length c0] w fun e w' => e = .returned (.int .i64 r) ∧ Drawn0 w w' := by
 have HR0 := Aside0.mk hr0;have HC0 := Aside0.mk hc0;clear hr0 hc0;have H : (some (l0.length : Int)) = some r := h;clear h;obtain rfl := Option.some.inj H
 go_enter Try.func24,Try.ntmps24
 go_wp2
 go_ret
 exact ⟨by first | rfl | (simp only [IntKind.wrap_i64,wrap64];done) | (simp;done) | (simp [*];done),by repeat (first | exact Drawn0.refl _ | apply Drawn0.step)⟩
end Go.Proofs.Ytmcdedmnekeibaa.G
end

section
namespace Go.Proofs.Ytmcdedmnekeibaa.G
open Go.RowKit Go.Proofs.YtmcdedmnekeibaaW.PrintWords Go.Proofs.YtmcdedmnekeibaaW.PrintLast Go.Proofs.YtmcdedmnekeibaaW.PrintMore
attribute [local go_sem] max2_int min2_int max_two min_two max_three min_three max_four min_four
set_option linter.unusedVariables false
set_option linter.unusedSimpArgs false
def impl_wordAt.l0 : Nat → Int → Int → List Int → Int → Option (List Int)
 | 0,_,_,_,_ => none
 | k + 1,x0,x2,x7,x8 => if x8 ≥ 0 then (if x0 = 0 then (none) else (if 0 ≤ x8 then (if x8 < (x7.length : Int) then (impl_wordAt.l0 k x0 (wrap64 (Int.tdiv x2 x0)) (x7.set (x8 : Int).toNat ((Int.tmod x2 x0) % 256)) (wrap64 (x8 - 1))) else (none)) else (none))) else (some x7)
def impl_wordAt.f (k : Nat) (a0 : Int) (a1 : Int) (a2 : Int) : Option (List Int) := if 0 ≤ a1 then (if (a1 : Int).toNat ≤ 281474976710656 then (impl_wordAt.l0 k a0 a2 (List.replicate (a1 : Int).toNat 0) (wrap64 (a1 - 1))) else (none)) else (none)
set_option maxHeartbeats 8000000 in
set_option maxRecDepth 100000 in
theorem impl_wordAt.calls (k : Nat) (a0 : Int) (a1 : Int) (a2 : Int) (r : List Int) (w : World) (h : impl_wordAt.f k a0 a1 a2 = some r) :
  Calls Try.prog 23 #[.int .i64 a0,.int .i64 a1,.int .i64 a2] w fun e w' => ∃ v0_ : Value,e = .returned (v0_) ∧ Kd.R (Kd.int .u8) 5 w' w.heap.size (fun _ => True) v0_ r ∧ Below w.heap.size w w' := by
 have HB := Aside0.mk (Below.refl w.heap.size w);have H : (if 0 ≤ a1 then (if (a1 : Int).toNat ≤ 281474976710656 then (impl_wordAt.l0 k a0 a2 (List.replicate (a1 : Int).toNat 0) (wrap64 (a1 - 1))) else (none)) else (none)) = some r := h;clear h
 by_cases c4 : 0 ≤ a1
 ·rw [if_pos c4] at H;have c4b0 := eq_true c4;have c4b1 : decide (0 ≤ a1) = true := decide_eq_true c4;clear c4
  by_cases c5 : (a1 : Int).toNat ≤ 281474976710656
  ·rw [if_pos c5] at H;have c5b0 := eq_true c5;have c5b1 : decide ((a1 : Int).toNat ≤ 281474976710656) = true := decide_eq_true c5;clear c5;obtain ⟨y101,hy101⟩ : ∃ y_ : List Int,y_ = (List.replicate (a1 : Int).toNat 0) := ⟨_,rfl⟩
   replace H : (impl_wordAt.l0 k a0 a2 y101 (wrap64 (a1 - 1))) = some r := by first | (rw [hy101];with_reducible exact H) | (have H2_ := (Option.bind_some _ _).symm.trans H;rw [hy101];with_reducible exact H2_) | (have H2_ := (Option.bind_some _ _).symm.trans H;with_reducible exact H2_) | with_reducible exact H | (rw [hy101];exact H) | exact H
   have Ny101 := Aside0.mk hy101;clear hy101;have H' := Aside0.mk H;clear H
   go_enter Try.func23,Try.ntmps23
   go_wp2_with (first | ((with_reducible refine gate_dst (N := 10) rfl ?_);refine Kd.R_make (Kd.int .u8) _ 5 rfl (N := 10) rfl 32 _ _ rfl a1 rfl rfl Try.underlying32 (.int .u8 0) 1 info5 rfl (by decide) (by omega) 0 (ok := fun _ => True) (okp := fun _ => True) rfl (fun _ hk => hk) trivial (of_decide_eq_true (by first | (with_reducible assumption) | assumption)) (Nat.le_trans (Nat.mul_le_mul_right _ (of_decide_eq_true (by first | (with_reducible assumption) | assumption) : a1.toNat ≤ 281474976710656)) (by omega)) (Below.refl _ _) (Nat.le_refl _) ?_;intro v102 w6 ho7 hb hg_ hnew_;clear hg_ hnew_;(first | rw [← Ny101.out] at ho7 | (simp only [Int.reduceToNat] at ho7;rw [← Ny101.out] at ho7));have n0_ := Aside0.mk (Kd.R_lower ho7 (below_size (by repeat (first | (with_reducible first | exact HB.out | apply below_alloc | apply pw_below_drewN | apply below_drew1) | exact HB.out))));have n1_ := Aside0.mk (below_step (by repeat (first | (with_reducible first | exact HB.out | apply below_alloc | apply pw_below_drewN | apply below_drew1) | exact HB.out)) hb);clear HB;have HO103 := n0_;have HB := n1_;clear n0_ n1_;clear hb ho7))
   go_loopg [2,8] k (fun kq v2 v8 w' => ∃ (x2_1 : Int) (x7_1 : List Int) (x8_1 : Int),v2 = .int .i64 x2_1 ∧ v8 = .int .i64 x8_1 ∧ Aside0 (impl_wordAt.l0 kq a0 x2_1 x7_1 x8_1 = some r) ∧ Aside0 (kq ≤ k) ∧ Aside0 (Kd.R (Kd.int .u8) 5 w' w.heap.size (fun _ => True) v102 x7_1) ∧ Aside0 (Below w.heap.size w w'))
   case atStart => exact ⟨(a2),(y101),(wrap64 (a1 - 1)),(by first | rfl | (simp only [IntKind.wrap_i64,wrap64];done) | (simp;done) | (simp [*];done)),(by first | rfl | (simp only [IntKind.wrap_i64,wrap64];done) | (simp;done) | (simp [*];done)),H',⟨Nat.le_refl _⟩,⟨by (with_reducible repeat (first | apply Kd.R_alloc | apply Kd.R_drewN | apply Kd.R_drew));exact HO103.out⟩,⟨by repeat (first | (with_reducible first | exact HB.out | apply below_alloc | apply pw_below_drewN | apply below_drew1) | exact HB.out)⟩⟩
   case round =>
    clear H';(try clear c2);(try clear p2);(try clear c4);(try clear c4b0);(try clear c4b1);(try clear c5);(try clear c5b0);(try clear c5b1);(try clear p6);obtain ⟨x2_1,x7_1,x8_1,rfl,rfl,HA,HK1,HO_7,HB⟩ := hrel
    cases gk with
    | zero => exact absurd HA.out (by simp [impl_wordAt.l0])
    | succ k1 =>
     have H := HA.out;clear HA;simp only [impl_wordAt.l0] at H
     by_cases c8 : x8_1 ≥ 0
     ·rw [if_pos c8] at H;have c8b0 : decide (0 ≤ x8_1) = true := decide_eq_true c8;clear c8
      by_cases c9 : a0 = 0
      ·rw [if_pos c9] at H;exact absurd H (by simp)
      ·rw [if_neg c9] at H;have c9b0 : (a0 == 0) = false := beq_eq_false_iff_ne.mpr c9;have c9b1 : (a0 != 0) = true := bne_iff_ne.mpr c9
       by_cases c10 : 0 ≤ x8_1
       ·rw [if_pos c10] at H;have c10b0 : decide (0 ≤ x8_1) = true := decide_eq_true c10;clear c10
        by_cases c11 : x8_1 < (x7_1.length : Int)
        ·rw [if_pos c11] at H;have c11b0 : decide (x8_1 < (x7_1.length : Int)) = true := decide_eq_true c11;clear c11;obtain ⟨y104,hy104⟩ : ∃ y_ : List Int,y_ = (x7_1.set (x8_1 : Int).toNat ((Int.tmod x2_1 a0) % 256)) := ⟨_,rfl⟩
         replace H : (impl_wordAt.l0 k1 a0 (wrap64 (Int.tdiv x2_1 a0)) y104 (wrap64 (x8_1 - 1))) = some r := by first | (rw [hy104];with_reducible exact H) | (have H2_ := (Option.bind_some _ _).symm.trans H;rw [hy104];with_reducible exact H2_) | (have H2_ := (Option.bind_some _ _).symm.trans H;with_reducible exact H2_) | with_reducible exact H | (rw [hy104];exact H) | exact H
         have Ny104 := Aside0.mk hy104;clear hy104;have H' := Aside0.mk H;clear H;have p12 : 0 ≤ (x8_1 : Int) := of_decide_eq_true (by first | (with_reducible assumption) | assumption);have q12 : (x8_1 : Int) < ((x7_1.length : Int) : Int) := of_decide_eq_true (by first | (with_reducible assumption) | assumption);obtain ⟨go12,co12,eo12,gb12,gl12,cl12,HG12⟩ := Kd.R_form HO_7.out (by omega);(first | cases eo12 | (injection eo12 with ea_ en_ ec_;(first | subst ea_ | (injection ea_ with ea_;subst ea_));subst ec_;clear en_));have GB12 := Aside0.mk gb12;have GG12 := Aside0.mk HG12;clear gb12 gl12 HG12;obtain ⟨hx12_0,hf12_0⟩ := Kd.R_celln 0 HO_7.out (x8_1 : Int) p12 q12;replace p12 := eq_true p12;replace q12 := eq_true q12;have HP13 := Kd.R_putg HO_7.out (x8_1 : Int) ((Int.tmod x2_1 a0) % 256)
         go_wp2_with (first | ((with_reducible refine gate_store (t := 5) (p := 23) rfl ?_);refine store_event (t := 5) (p := 23) (v := ?vo_w14) (w1 := (wr.setCell ⟨go12,(x8_1 : Int).toNat,none⟩ (.int .u8 ((Int.tmod x2_1 a0) % 256)))) ?hg ?ho ?hn ?hr ?_;(case ho => rfl);(case hg => rfl);(case hn => rfl);(case hr => first | (go_simp;done) | (go_simp;rfl));intro w14 hw;have hg : wr.grownBy w14 (some go12) := (by rw [hw];exact HP13.2);have hp_ : Kd.R (Kd.int .u8) 5 w14 w.heap.size (fun _ => True) (.slice (some ⟨go12,0,none⟩) x7_1.length co12) y104 := (by rw [hw,Ny104.out];exact HP13.1);clear HP13;have n0_ := Aside0.mk (hp_);have n1_ := Aside0.mk ((by rw [hw];exact below_set (HB.out) GB12.out : Below w.heap.size w w14));clear HO_7;clear HB;have HO_7 := n0_;have HB := n1_;clear n0_ n1_;clear hg hw hp_))
         go_roundg k1
         case measure => have := HK1.out;omega
         case rel => exact ⟨(wrap64 (Int.tdiv x2_1 a0)),(y104),(wrap64 (x8_1 - 1)),(by first | rfl | (simp only [IntKind.wrap_i64,wrap64];done) | (simp;done) | (simp [*];done)),(by first | rfl | (simp only [IntKind.wrap_i64,wrap64];done) | (simp;done) | (simp [*];done)),H',⟨by have := HK1.out;omega⟩,⟨by (with_reducible repeat (first | apply Kd.R_alloc | apply Kd.R_drewN | apply Kd.R_drew));exact HO_7.out⟩,⟨by repeat (first | (with_reducible first | exact HB.out | apply below_alloc | apply pw_below_drewN | apply below_drew1) | exact HB.out)⟩⟩
        ·rw [if_neg c11] at H;exact absurd H (by simp)
       ·rw [if_neg c10] at H;exact absurd H (by simp)
     ·rw [if_neg c8] at H;have c8b0 : decide (0 ≤ x8_1) = false := decide_eq_false c8;clear c8;obtain rfl := Option.some.inj H
      go_wp2
      go_ret
      exact ⟨_,by first | rfl | (simp [errW_none,errW_some,IntKind.wrap_i64,wrap64];done) | (simp [errW_none,errW_some] <;> rfl) | (simp [*,errW_none,errW_some] <;> rfl),by (with_reducible repeat (first | apply Kd.R_alloc | apply Kd.R_drewN | apply Kd.R_drew));exact HO_7.out,by repeat (first | (with_reducible first | exact HB.out | apply below_alloc | apply pw_below_drewN | apply below_drew1) | exact HB.out)⟩
  ·rw [if_neg c5] at H;exact absurd H (by simp)
 ·rw [if_neg c4] at H;exact absurd H (by simp)
end Go.Proofs.Ytmcdedmnekeibaa.G
end

section
namespace Go.Proofs.Ytmcdedmnekeibaa.G
open Go.RowKit Go.Proofs.YtmcdedmnekeibaaW.PrintWords Go.Proofs.YtmcdedmnekeibaaW.PrintLast Go.Proofs.YtmcdedmnekeibaaW.PrintMore
attribute [local go_sem] max2_int min2_int max_two min_two max_three min_three max_four min_four
set_option linter.unusedVariables false
set_option linter.unusedSimpArgs false
def impl_GreedyWords_1.f (k : Nat) (l0 : List Int) (l1 : List Int) (a2 : Int) : Option (Bool) := (impl_unlike.f k l0 l1).bind fun t101 => (some (decide (t101 < a2)))
set_option maxHeartbeats 8000000 in
set_option maxRecDepth 100000 in
theorem impl_GreedyWords_1.calls (k : Nat) (A0 : Option Addr) (c0 : Nat) (l0 : List Int) (A1 : Option Addr) (c1 : Nat) (l1 : List Int) (b1 : Nat) (a2 : Int) (b2 : Nat) (r : Bool) (w : World) (hr0 : Kd.C (Kd.int .u8) w A0 l0.length l0) (hc0 : l0.length ≤ c0) (hr1 : Kd.C (Kd.int .u8) w A1 l1.length l1) (hc1 : l1.length ≤ c1) (hb1 : w.heap[b1]? = some (.cells #[.slice A1 l1.length c1] 32 (0,0))) (hb2 : w.heap[b2]? = some (.cells #[.int .i64 a2] 2 (0,0))) (hn1_2 : b1 ≠ b2) (h : impl_GreedyWords_1.f k l0 l1 a2 = some r) :
  Calls Try.prog 26 #[.slice A0 l0.length c0,.pointer (some ⟨b1,0,none⟩),.pointer (some ⟨b2,0,none⟩)] w fun e w' => e = .returned (.bool r) ∧ Drawn0 w w' := by
 have HR0 := Aside0.mk hr0;have HC0 := Aside0.mk hc0;clear hr0 hc0;have HR1 := Aside0.mk hr1;have HC1 := Aside0.mk hc1;clear hr1 hc1;have BK1 := Aside0.mk hb1;clear hb1;have BK2 := Aside0.mk hb2;clear hb2;have NB1_2 := Aside0.mk hn1_2;have NB2_1 := Aside0.mk (Ne.symm hn1_2);clear hn1_2;have H : ((impl_unlike.f k l0 l1).bind fun t101 => (some (decide (t101 < a2)))) = some r := h;clear h;replace H := Option.bind_eq_some_iff.mp H;obtain ⟨t101,A40,H⟩ := H;replace H : (some (decide (t101 < a2))) = some r := H;have A4 := Aside0.mk A40;clear A40;obtain rfl := Option.some.inj H;have hnb5 := NB1_2.out;have hnc5 := NB2_1.out;have hcz6_0 : w.cell? ⟨b1,0,none⟩ = some (.slice A1 l1.length c1) := (blk_cell BK1.out 0).trans rfl;have hfz6_0 := blk_frozen BK1.out 0
 go_enter Try.func26,Try.ntmps26
 go_wp2_with (first | (go_at_call 27;(with_reducible refine (impl_unlike.calls k _ _ l0 _ _ l1 t101 _ ?side1 ?side2 ?side3 ?side4 A4.out).mono ?_);(case side1 => repeat (first | exact HR0.out | (with_reducible refine Kd.C_alloc ?_ _) | (with_reducible refine Kd.C_drewN ?_ _) | (with_reducible refine Kd.C_drew ?_)));(case side2 => exact HC0.out);(case side3 => repeat (first | exact HR1.out | (with_reducible refine Kd.C_alloc ?_ _) | (with_reducible refine Kd.C_drewN ?_ _) | (with_reducible refine Kd.C_drew ?_)));(case side4 => exact HC1.out);rintro e w' ⟨rfl,⟨nd,rfl⟩⟩;(try first | exact ⟨rfl,_,World.drewN_drewN _ _ _⟩ | exact ⟨rfl,_,Eq.trans (World.drewN_drewN _ _ _) (congrArg (World.drewN _) (Nat.add_assoc _ _ _))⟩);have hcz7_0 : w.cell? ⟨b2,0,none⟩ = some (.int .i64 a2) := (blk_cell BK2.out 0).trans rfl;have hfz7_0 := blk_frozen BK2.out 0))
 repeat (go_quiet (first | (go_at_call 27;(with_reducible refine (impl_unlike.calls k _ _ l0 _ _ l1 t101 _ ?side1 ?side2 ?side3 ?side4 A4.out).mono ?_);(case side1 => repeat (first | exact HR0.out | (with_reducible refine Kd.C_alloc ?_ _) | (with_reducible refine Kd.C_drewN ?_ _) | (with_reducible refine Kd.C_drew ?_)));(case side2 => exact HC0.out);(case side3 => repeat (first | exact HR1.out | (with_reducible refine Kd.C_alloc ?_ _) | (with_reducible refine Kd.C_drewN ?_ _) | (with_reducible refine Kd.C_drew ?_)));(case side4 => exact HC1.out);rintro e w' ⟨rfl,⟨nd,rfl⟩⟩;(try first | exact ⟨rfl,_,World.drewN_drewN _ _ _⟩ | exact ⟨rfl,_,Eq.trans (World.drewN_drewN _ _ _) (congrArg (World.drewN _) (Nat.add_assoc _ _ _))⟩);have hcz7_0 : w.cell? ⟨b2,0,none⟩ = some (.int .i64 a2) := (blk_cell BK2.out 0).trans rfl;have hfz7_0 := blk_frozen BK2.out 0));try go_wp2_with (first | (go_at_call 27;(with_reducible refine (impl_unlike.calls k _ _ l0 _ _ l1 t101 _ ?side1 ?side2 ?side3 ?side4 A4.out).mono ?_);(case side1 => repeat (first | exact HR0.out | (with_reducible refine Kd.C_alloc ?_ _) | (with_reducible refine Kd.C_drewN ?_ _) | (with_reducible refine Kd.C_drew ?_)));(case side2 => exact HC0.out);(case side3 => repeat (first | exact HR1.out | (with_reducible refine Kd.C_alloc ?_ _) | (with_reducible refine Kd.C_drewN ?_ _) | (with_reducible refine Kd.C_drew ?_)));(case side4 => exact HC1.out);rintro e w' ⟨rfl,⟨nd,rfl⟩⟩;(try first | exact ⟨rfl,_,World.drewN_drewN _ _ _⟩ | exact ⟨rfl,_,Eq.trans (World.drewN_drewN _ _ _) (congrArg (World.drewN _) (Nat.add_assoc _ _ _))⟩);have hcz7_0 : w.cell? ⟨b2,0,none⟩ = some (.int .i64 a2) := (blk_cell BK2.out 0).trans rfl;have hfz7_0 := blk_frozen BK2.out 0)))
 go_ret
 exact ⟨by first | rfl | (simp only [IntKind.wrap_i64,wrap64];done) | (simp;done) | (simp [*];done),by repeat (first | exact Drawn0.refl _ | apply Drawn0.step)⟩
end Go.Proofs.Ytmcdedmnekeibaa.G
end

section
namespace Go.Proofs.Ytmcdedmnekeibaa.G
open Go.RowKit Go.Proofs.YtmcdedmnekeibaaW.PrintWords Go.Proofs.YtmcdedmnekeibaaW.PrintLast Go.Proofs.YtmcdedmnekeibaaW.PrintMore
attribute [local go_sem] max2_int min2_int max_two min_two max_three min_three max_four min_four
set_option linter.unusedVariables false
set_option linter.unusedSimpArgs false
def slices_ContainsFunc_Word_Word__impl_GreedyWords_1.f (k : Nat) (l0 : List (List Int)) (l1 : List Int) (a2 : Int) : Option (Bool) := anyO (fun x => impl_GreedyWords_1.f k x l1 a2) l0
set_option maxHeartbeats 2000000 in
theorem slices_ContainsFunc_Word_Word__impl_GreedyWords_1.calls (k : Nat) (A0 : Option Addr) (c0 : Nat) (l0 : List (List Int)) (A1 : Option Addr) (c1 : Nat) (l1 : List Int) (b1 : Nat) (a2 : Int) (b2 : Nat) (r : Bool) (w : World) (hr0 : Kd.C (Kd.slice 5 (Kd.int .u8)) w A0 l0.length l0) (hc0 : l0.length ≤ c0) (hr1 : Kd.C (Kd.int .u8) w A1 l1.length l1) (hc1 : l1.length ≤ c1) (hb1 : w.heap[b1]? = some (.cells #[.slice A1 l1.length c1] 32 (0,0))) (hb2 : w.heap[b2]? = some (.cells #[.int .i64 a2] 2 (0,0))) (hn1_2 : b1 ≠ b2) (h : slices_ContainsFunc_Word_Word__impl_GreedyWords_1.f k l0 l1 a2 = some r) :
  Calls Try.prog 25 #[.slice A0 l0.length c0,.func (.func 26) #[] #[.pointer (some ⟨b1,0,none⟩),.pointer (some ⟨b2,0,none⟩)]] w fun e w' => e = .returned (.bool r) ∧ Below w.heap.size w w' := by
 have eg := enters_of Try.func26 (by kernel_rfl) rfl;obtain ⟨hall,rfl⟩ := anyO_some h;refine slices_ContainsFunc_Word_Word.calls A0 c0 l0 _ #[.pointer (some ⟨b1,0,none⟩),.pointer (some ⟨b2,0,none⟩)] eg (fun x => impl_GreedyWords_1.f k x l1 a2 == some true) w hr0 hc0 (fun W hW x hx A1_ c1_ hl_ hC_ => ?_);obtain ⟨b,hb⟩ := Option.isSome_iff_exists.1 (hall x hx);rw [show (#[.slice A1_ x.length c1_] ++ #[.pointer (some ⟨b1,0,none⟩),.pointer (some ⟨b2,0,none⟩)] : Array Value) = #[.slice A1_ x.length c1_,.pointer (some ⟨b1,0,none⟩),.pointer (some ⟨b2,0,none⟩)] from rfl]
 refine (impl_GreedyWords_1.calls k A1_ c1_ x A1 c1 l1 b1 a2 b2 b W hC_ hl_ (Kd.C_below hr1 hW) hc1 (blk_below hb1 hW) (blk_below hb2 hW) hn1_2 hb).mono fun e w' ⟨he,hw⟩ => ⟨he.trans (by rw [hb];cases b <;> rfl),?_⟩
 exact below_then hW hW.size hw.below
end Go.Proofs.Ytmcdedmnekeibaa.G
end

section
namespace Go.Proofs.Ytmcdedmnekeibaa.G
open Go.RowKit Go.Proofs.YtmcdedmnekeibaaW.PrintWords Go.Proofs.YtmcdedmnekeibaaW.PrintLast Go.Proofs.YtmcdedmnekeibaaW.PrintMore
attribute [local go_sem] max2_int min2_int max_two min_two max_three min_three max_four min_four
set_option linter.unusedVariables false
set_option linter.unusedSimpArgs false
def impl_GreedyWords.l0 : Nat → Int → Int → Int → Int → Int → List (List Int) → Int → Option (List (List Int) × Int)
 | 0,_,_,_,_,_,_,_ => none
 | k + 1,a0,a1,a2,a3,x11,x12,x34 => if x34 < x11 then (impl_wordAt.f k a0 a1 x34).bind fun t6 => (if (x12.length : Int) < a3 then (slices_ContainsFunc_Word_Word__impl_GreedyWords_1.f k x12 t6 a2).bind fun t7 => (if t7 = true then impl_GreedyWords.l0 k a0 a1 a2 a3 x11 x12 (wrap64 (x34 + 1)) else (if x12.length < 5864062014805 then impl_GreedyWords.l0 k a0 a1 a2 a3 x11 (x12 ++ [t6]) (wrap64 (x34 + 1)) else none)) else impl_GreedyWords.l0 k a0 a1 a2 a3 x11 x12 (wrap64 (x34 + 1))) else some (x12,0)
def impl_GreedyWords.f (k : Nat) (a0 a1 a2 a3 : Int) : Option (List (List Int) × Int) := (impl_apartCode.f a0 a1 a2).bind fun t1 => (impl_within.f a3 0 60).bind fun t2 => (impl_unless.f t2 2).bind fun t3 => (impl_firstOf.f k [t1,t3]).bind fun t4 => if t4 = 0 then (impl_power.f k a0 a1).bind fun t5 => (if t5 > 5000 then some ([],7) else impl_GreedyWords.l0 k a0 a1 a2 a3 t5 [] 0) else some ([],t4)
theorem impl_GreedyWords.stored {w W : World} {gb gw : Nat} {c1 z : Value} {s12 : Value} {x12 : List (List Int)} {t6 : List Int} {Aw : Option Addr} {cw : Nat} {p : Nat → Prop} {q : Nat → Prop} (HO : Kd.S (Kd.slice 5 (Kd.int .u8)) 32 W w.heap.size (fun k => p k ∧ k ≠ gw) s12 x12) (HR : Kd.R (Kd.int .u8) 5 W w.heap.size (fun k => q k ∧ k ≠ gw) (.slice Aw t6.length cw) t6) (HB : Below w.heap.size w W) (BK : W.heap[gb]? = some (.cells #[c1] 2 (0,0))) (BW : W.heap[gw]? = some (.cells #[z] 32 (0,0))) (GE : w.heap.size ≤ gw) :
  Kd.S (Kd.slice 5 (Kd.int .u8)) 32 (W.setCell ⟨gw,0,none⟩ (.slice Aw t6.length cw)) w.heap.size (fun k => p k ∧ k ≠ gw) s12 x12 ∧ Kd.R (Kd.int .u8) 5 (W.setCell ⟨gw,0,none⟩ (.slice Aw t6.length cw)) w.heap.size (fun k => q k ∧ k ≠ gw) (.slice Aw t6.length cw) t6 ∧ Below w.heap.size w (W.setCell ⟨gw,0,none⟩ (.slice Aw t6.length cw)) ∧ (W.setCell ⟨gw,0,none⟩ (.slice Aw t6.length cw)).heap[gb]? = some (.cells #[c1] 2 (0,0)) ∧ (W.setCell ⟨gw,0,none⟩ (.slice Aw t6.length cw)).heap[gw]? = some (.cells #[.slice Aw t6.length cw] 32 (0,0)) :=
 ⟨Kd.S_far HO (fun _ hk => hk.2) _,Kd.R_far HR (fun _ hk => hk.2) _,below_set HB GE,blk_far BK (blk_ne BK BW (by decide)) _,blk_put BW 0 _ rfl⟩
theorem impl_GreedyWords.apart {W : World} {b : Nat} {gb : Nat} {c1 : Value} {s12 : Value} {x12 : List (List Int)} {t6 : List Int} {v : Value} {p q : Nat → Prop} (HR : Kd.R (Kd.int .u8) 5 W b q v t6) (HO : Kd.S (Kd.slice 5 (Kd.int .u8)) 32 W b p s12 x12) (BK : W.heap[gb]? = some (.cells #[c1] 2 (0,0))) : ∀ k,some k = v.ownBlock → k ≠ gb ∧ some k ≠ s12.ownBlock := by
 intro k hk;obtain ⟨cs,hc⟩ := Kd.R_typed HR k hk.symm;refine ⟨blk_ne hc BK (by decide),fun e => ?_⟩;obtain ⟨cs',hc'⟩ := Kd.S_typed HO k e.symm;exact blk_ne hc hc' (by decide) rfl
set_option maxHeartbeats 8000000 in
set_option maxRecDepth 100000 in
theorem impl_GreedyWords.calls (k : Nat) (a0 : Int) (a1 : Int) (a2 : Int) (a3 : Int) (r1 : List (List Int)) (r2 : Int) (w : World) (h : impl_GreedyWords.f k a0 a1 a2 a3 = some (r1,r2)) :
  Calls Try.prog 6 #[.int .i64 a0,.int .i64 a1,.int .i64 a2,.int .i64 a3] w fun e w' => ∃ v0_ : Value,e = .returned (.tuple #[v0_,.int .i64 r2]) ∧ Kd.S (Kd.slice 5 (Kd.int .u8)) 32 w' w.heap.size (fun _ => True) v0_ r1 ∧ Below w.heap.size w w' := by
 have HB := Aside0.mk (Below.refl w.heap.size w)
 unfold impl_GreedyWords.f at h
 replace h := Option.bind_eq_some_iff.mp h;obtain ⟨t1,A1,h⟩ := h;replace A1 := Aside0.mk A1;replace h := Option.bind_eq_some_iff.mp h;obtain ⟨t2,A2,h⟩ := h;replace A2 := Aside0.mk A2;replace h := Option.bind_eq_some_iff.mp h;obtain ⟨t3,A3,h⟩ := h;replace A3 := Aside0.mk A3;replace h := Option.bind_eq_some_iff.mp h;obtain ⟨t4,A4,h⟩ := h;replace A4 := Aside0.mk A4
 by_cases c4 : t4 = 0
 ·rw [if_pos c4] at h;have c4b0 : (t4 == 0) = true := beq_iff_eq.mpr c4;have c4b1 : (t4 != 0) = false := bne_eq_false_iff_eq.mpr c4;clear c4;replace h := Option.bind_eq_some_iff.mp h;obtain ⟨t5,A5,h⟩ := h;replace A5 := Aside0.mk A5
  by_cases c5 : t5 > 5000
  ·rw [if_pos c5] at h;have c5b0 : decide (5000 < t5) = true := decide_eq_true c5;clear c5;simp only [Option.some.injEq,Prod.mk.injEq] at h;obtain ⟨rfl,rfl⟩ := h
   go_enter Try.func6,Try.ntmps6
   go_wp2_with (first | ((with_reducible refine gate_dst (N := 6) rfl ?_);refine box_event ?hg (N := 6) ?hd (cs := #[.int .i64 a2]) (t := 2) ?hr ?_;(case hd => rfl);(case hg => rfl);(case hr => first | (go_simp;done) | (go_simp;rfl));intro gb hgb w1 hbox hb;have HB1 := Aside0.mk (below_step (by repeat (first | (with_reducible first | exact HB.out | apply below_alloc | apply pw_below_drewN | apply below_drew1) | exact HB.out)) hb);have BK1 := Aside0.mk hbox;have GE1 := Aside0.mk (show w.heap.size ≤ gb by rw [hgb];exact below_size (by repeat (first | (with_reducible first | exact HB.out | apply below_alloc | apply pw_below_drewN | apply below_drew1) | exact HB.out)));have hcb : w1.cell? ⟨gb,0,none⟩ = some (.int .i64 a2) := (blk_cell BK1.out 0).trans rfl;have hfb := blk_frozen BK1.out 0;clear hb hbox hgb) | ((with_reducible refine gate_callee (f := 19) rfl ?_);refine goesL_ (some 18) rfl rfl Try.func19 (by kernel_rfl) rfl #[.int .i64 a0,.int .i64 a1,.int .i64 a2] rfl (by (try simp only [List.map_toArray,List.map_cons,List.map_nil]);first | done | rfl | (simp only [List.length_drop,List.length_take];rfl)) ?_;(with_reducible refine (impl_apartCode.calls a0 a1 a2 t1 _ A1.out).mono ?_);rintro e w' ⟨rfl,⟨nd,rfl⟩⟩;refine ⟨_,rfl,?_⟩) | ((with_reducible refine gate_callee (f := 21) rfl ?_);refine goesL_ (some 20) rfl rfl Try.func21 (by kernel_rfl) rfl #[.int .i64 a3,.int .i64 0,.int .i64 60] rfl (by (try simp only [List.map_toArray,List.map_cons,List.map_nil]);first | done | rfl | (simp only [List.length_drop,List.length_take];rfl)) ?_;(with_reducible refine (impl_within.calls a3 0 60 t2 _ A2.out).mono ?_);rintro e w' ⟨rfl,⟨nd,rfl⟩⟩;refine ⟨_,rfl,?_⟩) | ((with_reducible refine gate_callee (f := 20) rfl ?_);refine goesL_ (some 21) rfl rfl Try.func20 (by kernel_rfl) rfl #[.bool t2,.int .i64 2] rfl (by (try simp only [List.map_toArray,List.map_cons,List.map_nil]);first | done | rfl | (simp only [List.length_drop,List.length_take];rfl)) ?_;(with_reducible refine (impl_unless.calls t2 2 t3 _ A3.out).mono ?_);rintro e w' ⟨rfl,⟨nd,rfl⟩⟩;refine ⟨_,rfl,?_⟩) | ((with_reducible refine gate_dst (N := 22) rfl ?_);refine Kd.R_lit (Kd.int .i64) _ 2 ?hg (N := 22) ?hd (xs := ([t1,t3] : List Int)) (inner := [.int .i64 t1,.int .i64 t3]) (ok := fun _ => True) (okp := fun _ => True) ?hr ?hp (fun _ hk => hk) trivial (Below.refl _ _) (Nat.le_refl _) (by simp) ?_;(case hd => rfl);(case hg => rfl);(case hr => first | (go_simp;done) | (go_simp;rfl));(case hp => exact (Reps.one (show Kd.M (Kd.int .i64) _ _ _ t1 [.int .i64 t1] from rfl) (Reps.one (show Kd.M (Kd.int .i64) _ _ _ t3 [.int .i64 t3] from rfl) (Reps.none _ _))));intro vl w2 hol hb hg_ hnew_;clear hg_ hnew_;have HL2 := Aside0.mk hol;have HB2 := Aside0.mk (below_step (by repeat (first | (with_reducible first | exact HB1.out | apply below_alloc | apply pw_below_drewN | apply below_drew1) | exact HB1.out)) hb);have BK2 : Aside0 (w2.heap[gb]? = some (.cells #[.int .i64 a2] 2 (0,0))) := ⟨blk_below (by exact BK1.out) hb⟩;clear hb hol;obtain ⟨Al,cl,el⟩ := Kd.R_slice HL2.out;subst el) | ((with_reducible refine gate_callee (f := 18) rfl ?_);refine goesL_ (some 23) rfl rfl Try.func18 (by kernel_rfl) rfl #[.slice Al ([t1,t3] : List Int).length cl] rfl (by (try simp only [List.map_toArray,List.map_cons,List.map_nil]);first | done | rfl | (simp only [List.length_drop,List.length_take];rfl)) ?_;(with_reducible refine (impl_firstOf.calls k _ _ ([t1,t3] : List Int) t4 _ (Kd.R_reads' HL2.out).2.2 (Kd.R_reads' HL2.out).2.1 A4.out).mono ?_);rintro e w' ⟨rfl,⟨nd,rfl⟩⟩;refine ⟨_,rfl,?_⟩) | ((with_reducible refine gate_callee (f := 22) rfl ?_);refine goesL_ (some 29) rfl rfl Try.func22 (by kernel_rfl) rfl #[.int .i64 a0,.int .i64 a1] rfl (by (try simp only [List.map_toArray,List.map_cons,List.map_nil]);first | done | rfl | (simp only [List.length_drop,List.length_take];rfl)) ?_;(with_reducible refine (impl_power.calls k a0 a1 t5 _ A5.out).mono ?_);rintro e w' ⟨rfl,⟨nd,rfl⟩⟩;refine ⟨_,rfl,?_⟩))
   go_ret2
   exact ⟨_,rfl,Kd.S_nil _ _ _ _ _,(by repeat (first | (with_reducible first | exact HB2.out | apply below_alloc | apply pw_below_drewN | apply below_drew1) | exact HB2.out))⟩
  ·rw [if_neg c5] at h;have c5b0 : decide (5000 < t5) = false := decide_eq_false c5;clear c5;have H' := Aside0.mk h;clear h
   go_enter Try.func6,Try.ntmps6
   go_wp2_with (first | ((with_reducible refine gate_dst (N := 6) rfl ?_);refine box_event ?hg (N := 6) ?hd (cs := #[.int .i64 a2]) (t := 2) ?hr ?_;(case hd => rfl);(case hg => rfl);(case hr => first | (go_simp;done) | (go_simp;rfl));intro gb hgb w1 hbox hb;have HB1 := Aside0.mk (below_step (by repeat (first | (with_reducible first | exact HB.out | apply below_alloc | apply pw_below_drewN | apply below_drew1) | exact HB.out)) hb);have BK1 := Aside0.mk hbox;have GE1 := Aside0.mk (show w.heap.size ≤ gb by rw [hgb];exact below_size (by repeat (first | (with_reducible first | exact HB.out | apply below_alloc | apply pw_below_drewN | apply below_drew1) | exact HB.out)));have hcb : w1.cell? ⟨gb,0,none⟩ = some (.int .i64 a2) := (blk_cell BK1.out 0).trans rfl;have hfb := blk_frozen BK1.out 0;clear hb hbox hgb) | ((with_reducible refine gate_callee (f := 19) rfl ?_);refine goesL_ (some 18) rfl rfl Try.func19 (by kernel_rfl) rfl #[.int .i64 a0,.int .i64 a1,.int .i64 a2] rfl (by (try simp only [List.map_toArray,List.map_cons,List.map_nil]);first | done | rfl | (simp only [List.length_drop,List.length_take];rfl)) ?_;(with_reducible refine (impl_apartCode.calls a0 a1 a2 t1 _ A1.out).mono ?_);rintro e w' ⟨rfl,⟨nd,rfl⟩⟩;refine ⟨_,rfl,?_⟩) | ((with_reducible refine gate_callee (f := 21) rfl ?_);refine goesL_ (some 20) rfl rfl Try.func21 (by kernel_rfl) rfl #[.int .i64 a3,.int .i64 0,.int .i64 60] rfl (by (try simp only [List.map_toArray,List.map_cons,List.map_nil]);first | done | rfl | (simp only [List.length_drop,List.length_take];rfl)) ?_;(with_reducible refine (impl_within.calls a3 0 60 t2 _ A2.out).mono ?_);rintro e w' ⟨rfl,⟨nd,rfl⟩⟩;refine ⟨_,rfl,?_⟩) | ((with_reducible refine gate_callee (f := 20) rfl ?_);refine goesL_ (some 21) rfl rfl Try.func20 (by kernel_rfl) rfl #[.bool t2,.int .i64 2] rfl (by (try simp only [List.map_toArray,List.map_cons,List.map_nil]);first | done | rfl | (simp only [List.length_drop,List.length_take];rfl)) ?_;(with_reducible refine (impl_unless.calls t2 2 t3 _ A3.out).mono ?_);rintro e w' ⟨rfl,⟨nd,rfl⟩⟩;refine ⟨_,rfl,?_⟩) | ((with_reducible refine gate_dst (N := 22) rfl ?_);refine Kd.R_lit (Kd.int .i64) _ 2 ?hg (N := 22) ?hd (xs := ([t1,t3] : List Int)) (inner := [.int .i64 t1,.int .i64 t3]) (ok := fun _ => True) (okp := fun _ => True) ?hr ?hp (fun _ hk => hk) trivial (Below.refl _ _) (Nat.le_refl _) (by simp) ?_;(case hd => rfl);(case hg => rfl);(case hr => first | (go_simp;done) | (go_simp;rfl));(case hp => exact (Reps.one (show Kd.M (Kd.int .i64) _ _ _ t1 [.int .i64 t1] from rfl) (Reps.one (show Kd.M (Kd.int .i64) _ _ _ t3 [.int .i64 t3] from rfl) (Reps.none _ _))));intro vl w2 hol hb hg_ hnew_;clear hg_ hnew_;have HL2 := Aside0.mk hol;have HB2 := Aside0.mk (below_step (by repeat (first | (with_reducible first | exact HB1.out | apply below_alloc | apply pw_below_drewN | apply below_drew1) | exact HB1.out)) hb);have BK2 : Aside0 (w2.heap[gb]? = some (.cells #[.int .i64 a2] 2 (0,0))) := ⟨blk_below (by exact BK1.out) hb⟩;clear hb hol;obtain ⟨Al,cl,el⟩ := Kd.R_slice HL2.out;subst el) | ((with_reducible refine gate_callee (f := 18) rfl ?_);refine goesL_ (some 23) rfl rfl Try.func18 (by kernel_rfl) rfl #[.slice Al ([t1,t3] : List Int).length cl] rfl (by (try simp only [List.map_toArray,List.map_cons,List.map_nil]);first | done | rfl | (simp only [List.length_drop,List.length_take];rfl)) ?_;(with_reducible refine (impl_firstOf.calls k _ _ ([t1,t3] : List Int) t4 _ (Kd.R_reads' HL2.out).2.2 (Kd.R_reads' HL2.out).2.1 A4.out).mono ?_);rintro e w' ⟨rfl,⟨nd,rfl⟩⟩;refine ⟨_,rfl,?_⟩) | ((with_reducible refine gate_callee (f := 22) rfl ?_);refine goesL_ (some 29) rfl rfl Try.func22 (by kernel_rfl) rfl #[.int .i64 a0,.int .i64 a1] rfl (by (try simp only [List.map_toArray,List.map_cons,List.map_nil]);first | done | rfl | (simp only [List.length_drop,List.length_take];rfl)) ?_;(with_reducible refine (impl_power.calls k a0 a1 t5 _ A5.out).mono ?_);rintro e w' ⟨rfl,⟨nd,rfl⟩⟩;refine ⟨_,rfl,?_⟩) | ((with_reducible refine gate_dst (N := 32) rfl ?_);refine Kd.S_lit (Kd.slice 5 (Kd.int .u8)) _ 32 ?hg (N := 32) ?hd (xs := ([] : List (List Int))) (inner := []) (ok := fun _ => True) (okp := fun _ => True) ?hr ?hp (fun _ hk => hk) trivial (Below.refl _ _) (Nat.le_refl _) (by simp) ?_;(case hd => rfl);(case hg => rfl);(case hr => first | (go_simp;done) | (go_simp;rfl));(case hp => exact (Reps.none _ _));intro v9 w9 ho9 hb hg_ hnew_;clear hg_ hnew_;have BK0 : Aside0 (w9.heap[gb]? = some (.cells #[.int .i64 a2] 2 (0,0))) := ⟨blk_below (by exact BK2.out) hb⟩;have HO0 := Aside0.mk (Kd.S_mono (Kd.S_types (Kd.S_lower ho9 (below_size (by repeat (first | (with_reducible first | exact HB2.out | apply below_alloc | apply pw_below_drewN | apply below_drew1) | exact HB2.out)))) BK0.out (by decide)) (ok' := fun k_ => k_ ≠ gb) (fun _ hk => hk.2));have HB0 := Aside0.mk (below_step (by repeat (first | (with_reducible first | exact HB2.out | apply below_alloc | apply pw_below_drewN | apply below_drew1) | exact HB2.out)) hb);clear hb ho9))
   go_loopg [12,34] k (fun gg s12 s34 wr => ∃ (x12 : List (List Int)) (x34 : Int),s34 = .int .i64 x34 ∧ Aside0 (impl_GreedyWords.l0 gg a0 a1 a2 a3 t5 x12 x34 = some (r1,r2)) ∧ Aside0 (gg ≤ k) ∧ Aside0 (Kd.S (Kd.slice 5 (Kd.int .u8)) 32 wr w.heap.size (fun k_ => k_ ≠ gb) s12 x12) ∧ Aside0 (Below w.heap.size w wr) ∧ Aside0 (wr.heap[gb]? = some (.cells #[.int .i64 a2] 2 (0,0))))
   case atStart => exact ⟨[],0,(by first | rfl | (simp only [IntKind.wrap_i64,wrap64];done) | (simp;done) | (simp [*];done)),H',⟨Nat.le_refl _⟩,⟨by (with_reducible repeat (first | apply Kd.S_alloc | apply Kd.S_drewN | apply Kd.S_drew));exact HO0.out⟩,⟨(by repeat (first | (with_reducible first | exact HB0.out | apply below_alloc | apply pw_below_drewN | apply below_drew1) | exact HB0.out))⟩,⟨BK0.out⟩⟩
   case round =>
    clear H' HB HB1 HB2 HL2 BK1 BK2 HO0 HB0 BK0 A1 A2 A3 A4 A5 c4b0 c4b1 c5b0;obtain ⟨x12,x34,rfl,HA,HK,HO,HB,BK⟩ := hrel
    cases gk with
    | zero => exact absurd HA.out (by simp [impl_GreedyWords.l0])
    | succ k1 =>
     have h := HA.out;clear HA;simp only [impl_GreedyWords.l0] at h;obtain ⟨Ao,co,eo⟩ := Kd.S_slice HO.out;subst eo
     by_cases c6 : x34 < t5
     ·rw [if_pos c6] at h;have c6b0 : decide (x34 < t5) = true := decide_eq_true c6;clear c6;replace h := Option.bind_eq_some_iff.mp h;obtain ⟨t6,A6,h⟩ := h;replace A6 := Aside0.mk A6
      by_cases c7 : (x12.length : Int) < a3
      ·rw [if_pos c7] at h;have c7b0 : decide ((x12.length : Int) < a3) = true := decide_eq_true c7;clear c7;replace h := Option.bind_eq_some_iff.mp h;obtain ⟨t7,A7,h⟩ := h;replace A7 := Aside0.mk A7
       cases t7 with
       | true =>
        rw [if_pos rfl] at h;have H' := Aside0.mk h;clear h
        go_wp2_with (first | ((with_reducible refine gate_callee (f := 23) rfl ?_);refine goesL_ (some 40) rfl rfl Try.func23 (by kernel_rfl) rfl #[.int .i64 a0,.int .i64 a1,.int .i64 x34] rfl (by (try simp only [List.map_toArray,List.map_cons,List.map_nil]);first | done | rfl | (simp only [List.length_drop,List.length_take];rfl)) ?_;(with_reducible refine (impl_wordAt.calls k1 a0 a1 x34 t6 _ A6.out).mono ?_);rintro e w3 ⟨v3,rfl,ho3,hb3⟩;refine ⟨_,rfl,?_⟩;have HO3 := Aside0.mk (Kd.S_elder' (by (with_reducible repeat (first | apply Kd.S_alloc | apply Kd.S_drewN | apply Kd.S_drew));exact HO.out) (Kd.R_base ho3) hb3);have HB3 := Aside0.mk (below_step (by repeat (first | (with_reducible first | exact HB.out | apply below_alloc | apply pw_below_drewN | apply below_drew1) | exact HB.out)) hb3);have BK3 : Aside0 (w3.heap[gb]? = some (.cells #[.int .i64 a2] 2 (0,0))) := ⟨blk_below (by exact BK.out) hb3⟩;have HR3 := Aside0.mk (Kd.R_lower ho3 (below_size (by repeat (first | (with_reducible first | exact HB.out | apply below_alloc | apply pw_below_drewN | apply below_drew1) | exact HB.out))));clear ho3 hb3;obtain ⟨Aw,cw,ew⟩ := Kd.R_slice HR3.out;subst ew) | ((with_reducible refine gate_dst (N := 14) rfl ?_);refine box_event ?hg (N := 14) ?hd (cs := #[.slice none 0 0]) (t := 32) ?hr ?_;(case hd => rfl);(case hg => rfl);(case hr => first | (go_simp;done) | (go_simp;rfl));intro gw hgw w4 hbox hb4;have BW4 := Aside0.mk hbox;have GE4 := Aside0.mk (show w.heap.size ≤ gw by rw [hgw];exact below_size HB3.out);have HB4 := Aside0.mk (below_step HB3.out hb4);have BK4 := Aside0.mk (blk_below BK3.out hb4);have HO4 := Aside0.mk (Kd.S_below (Kd.S_elderB HO3.out gw (by rw [hgw];exact Nat.le_refl _)) hb4);have HR4 := Aside0.mk (Kd.R_types (Kd.R_below HR3.out hb4) BW4.out (by decide));have ST := Aside0.mk (impl_GreedyWords.stored (Aw := Aw) (cw := cw) HO4.out HR4.out HB4.out BK4.out BW4.out GE4.out);have hcz : w4.cell? ⟨gw,0,none⟩ = some (.slice none 0 0) := (blk_cell BW4.out 0).trans rfl;have hfz := blk_frozen BW4.out 0;clear hb4 hbox hgw) | (go_at_call 24;(with_reducible refine (impl_size_Word.calls _ _ x12 _ _ ?s1 ?s2 (show _ = some (x12.length : Int) from rfl)).mono ?_);(case s1 => exact (Kd.S_reads' ST.out.1).2.2);(case s2 => exact (Kd.S_reads' ST.out.1).2.1);rintro e w5 ⟨rfl,hd5⟩;have HO5 := Aside0.mk (Kd.S_below ST.out.1 hd5.below);have HR5 := Aside0.mk (Kd.R_below ST.out.2.1 hd5.below);have HB5 := Aside0.mk (below_step ST.out.2.2.1 hd5.below);have BK5 := Aside0.mk (blk_below ST.out.2.2.2.1 hd5.below);have BW5 := Aside0.mk (blk_below ST.out.2.2.2.2 hd5.below);clear hd5) | (go_at_call 25;(with_reducible refine (slices_ContainsFunc_Word_Word__impl_GreedyWords_1.calls k1 _ _ x12 Aw cw t6 gw a2 gb _ _ ?s1 ?s2 ?s3 ?s4 ?s5 ?s6 ?s7 A7.out).mono ?_);(case s1 => exact (Kd.S_reads' HO5.out).2.2);(case s2 => exact (Kd.S_reads' HO5.out).2.1);(case s3 => exact (Kd.R_reads' HR5.out).2.2);(case s4 => exact (Kd.R_reads' HR5.out).2.1);(case s5 => exact BW5.out);(case s6 => exact BK5.out);(case s7 => exact blk_ne BW5.out BK5.out (by decide));rintro e w6 ⟨rfl,hb6⟩;have HO6 := Aside0.mk (Kd.S_below HO5.out hb6);have HR6 := Aside0.mk (Kd.R_below HR5.out hb6);have HB6 := Aside0.mk (below_step HB5.out hb6);have BK6 := Aside0.mk (blk_below BK5.out hb6);have BW6 := Aside0.mk (blk_below BW5.out hb6);have hcw : w6.cell? ⟨gw,0,none⟩ = some (.slice Aw t6.length cw) := (blk_cell BW6.out 0).trans rfl;have hfw := blk_frozen BW6.out 0;clear hb6))
        go_roundg k1
        case measure => have := HK.out;omega
        case rel => exact ⟨x12,wrap64 (x34 + 1),(by first | rfl | (simp only [IntKind.wrap_i64,wrap64];done) | (simp;done) | (simp [*];done)),H',⟨by have := HK.out;omega⟩,⟨by (with_reducible repeat (first | apply Kd.S_alloc | apply Kd.S_drewN | apply Kd.S_drew));exact Kd.S_mono HO6.out (fun _ hk => hk.1.1)⟩,⟨(by repeat (first | (with_reducible first | exact HB6.out | apply below_alloc | apply pw_below_drewN | apply below_drew1) | exact HB6.out))⟩,⟨BK6.out⟩⟩
       | false =>
        rw [if_neg (show ¬ (false = true) by decide)] at h
        by_cases c8 : x12.length < 5864062014805
        ·rw [if_pos c8] at h;have LM := Aside0.mk c8;clear c8;have H' := Aside0.mk h;clear h
         go_wp2_with (first | ((with_reducible refine gate_callee (f := 23) rfl ?_);refine goesL_ (some 40) rfl rfl Try.func23 (by kernel_rfl) rfl #[.int .i64 a0,.int .i64 a1,.int .i64 x34] rfl (by (try simp only [List.map_toArray,List.map_cons,List.map_nil]);first | done | rfl | (simp only [List.length_drop,List.length_take];rfl)) ?_;(with_reducible refine (impl_wordAt.calls k1 a0 a1 x34 t6 _ A6.out).mono ?_);rintro e w3 ⟨v3,rfl,ho3,hb3⟩;refine ⟨_,rfl,?_⟩;have HO3 := Aside0.mk (Kd.S_elder' (by (with_reducible repeat (first | apply Kd.S_alloc | apply Kd.S_drewN | apply Kd.S_drew));exact HO.out) (Kd.R_base ho3) hb3);have HB3 := Aside0.mk (below_step (by repeat (first | (with_reducible first | exact HB.out | apply below_alloc | apply pw_below_drewN | apply below_drew1) | exact HB.out)) hb3);have BK3 : Aside0 (w3.heap[gb]? = some (.cells #[.int .i64 a2] 2 (0,0))) := ⟨blk_below (by exact BK.out) hb3⟩;have HR3 := Aside0.mk (Kd.R_lower ho3 (below_size (by repeat (first | (with_reducible first | exact HB.out | apply below_alloc | apply pw_below_drewN | apply below_drew1) | exact HB.out))));clear ho3 hb3;obtain ⟨Aw,cw,ew⟩ := Kd.R_slice HR3.out;subst ew) | ((with_reducible refine gate_dst (N := 14) rfl ?_);refine box_event ?hg (N := 14) ?hd (cs := #[.slice none 0 0]) (t := 32) ?hr ?_;(case hd => rfl);(case hg => rfl);(case hr => first | (go_simp;done) | (go_simp;rfl));intro gw hgw w4 hbox hb4;have BW4 := Aside0.mk hbox;have GE4 := Aside0.mk (show w.heap.size ≤ gw by rw [hgw];exact below_size HB3.out);have HB4 := Aside0.mk (below_step HB3.out hb4);have BK4 := Aside0.mk (blk_below BK3.out hb4);have HO4 := Aside0.mk (Kd.S_below (Kd.S_elderB HO3.out gw (by rw [hgw];exact Nat.le_refl _)) hb4);have HR4 := Aside0.mk (Kd.R_types (Kd.R_below HR3.out hb4) BW4.out (by decide));have ST := Aside0.mk (impl_GreedyWords.stored (Aw := Aw) (cw := cw) HO4.out HR4.out HB4.out BK4.out BW4.out GE4.out);have hcz : w4.cell? ⟨gw,0,none⟩ = some (.slice none 0 0) := (blk_cell BW4.out 0).trans rfl;have hfz := blk_frozen BW4.out 0;clear hb4 hbox hgw) | (go_at_call 24;(with_reducible refine (impl_size_Word.calls _ _ x12 _ _ ?s1 ?s2 (show _ = some (x12.length : Int) from rfl)).mono ?_);(case s1 => exact (Kd.S_reads' ST.out.1).2.2);(case s2 => exact (Kd.S_reads' ST.out.1).2.1);rintro e w5 ⟨rfl,hd5⟩;have HO5 := Aside0.mk (Kd.S_below ST.out.1 hd5.below);have HR5 := Aside0.mk (Kd.R_below ST.out.2.1 hd5.below);have HB5 := Aside0.mk (below_step ST.out.2.2.1 hd5.below);have BK5 := Aside0.mk (blk_below ST.out.2.2.2.1 hd5.below);have BW5 := Aside0.mk (blk_below ST.out.2.2.2.2 hd5.below);clear hd5) | (go_at_call 25;(with_reducible refine (slices_ContainsFunc_Word_Word__impl_GreedyWords_1.calls k1 _ _ x12 Aw cw t6 gw a2 gb _ _ ?s1 ?s2 ?s3 ?s4 ?s5 ?s6 ?s7 A7.out).mono ?_);(case s1 => exact (Kd.S_reads' HO5.out).2.2);(case s2 => exact (Kd.S_reads' HO5.out).2.1);(case s3 => exact (Kd.R_reads' HR5.out).2.2);(case s4 => exact (Kd.R_reads' HR5.out).2.1);(case s5 => exact BW5.out);(case s6 => exact BK5.out);(case s7 => exact blk_ne BW5.out BK5.out (by decide));rintro e w6 ⟨rfl,hb6⟩;have HO6 := Aside0.mk (Kd.S_below HO5.out hb6);have HR6 := Aside0.mk (Kd.R_below HR5.out hb6);have HB6 := Aside0.mk (below_step HB5.out hb6);have BK6 := Aside0.mk (blk_below BK5.out hb6);have BW6 := Aside0.mk (blk_below BW5.out hb6);have hcw : w6.cell? ⟨gw,0,none⟩ = some (.slice Aw t6.length cw) := (blk_cell BW6.out 0).trans rfl;have hfw := blk_frozen BW6.out 0;clear hb6) | ((with_reducible refine gate_builtin (b := .append) (xs := #[.tmp 51,.tmp 53]) rfl ?_);at_builtin;refine Kd.S_append (Kd.slice 5 (Kd.int .u8)) (w0 := w) w.heap.size rfl (.tmp 51) (.tmp 53) 25 32 (.slice none 0 0) 24 rfl Try.underlying25 info32 rfl (by decide) (by omega) (.slice Ao x12.length co) x12 t6 [.slice Aw t6.length cw] (fun k_ => k_ ≠ gb) (fun k_ => some k_ = (.slice Aw t6.length cw : Value).ownBlock) rfl rfl ?aP ?aK ?aF ?aO ?aB ?aS ?aL ?_;(case aP => exact Kd.M_row (Kd.R_tight rfl (by (with_reducible repeat (first | apply Kd.R_alloc | apply Kd.R_drewN | apply Kd.R_drew));exact HR6.out)));(case aK => exact impl_GreedyWords.apart HR6.out HO6.out BK6.out);(case aF => exact (fun k_ hk_ e_ => by have := blk_lt BK6.out;subst e_;exact absurd hk_ (Nat.not_le.2 this)));(case aO => exact (by (with_reducible repeat (first | apply Kd.S_alloc | apply Kd.S_drewN | apply Kd.S_drew));exact Kd.S_mono HO6.out (fun k_ hk => ⟨hk.1.1,hk.1.2⟩)));(case aB => exact (by repeat (first | (with_reducible first | exact HB6.out | apply below_alloc | apply pw_below_drewN | apply below_drew1) | exact HB6.out)));(case aS => exact (below_size (by repeat (first | (with_reducible first | exact HB6.out | apply below_alloc | apply pw_below_drewN | apply below_drew1) | exact HB6.out))));(case aL => have := LM.out;omega);intro v7 w7 ho hb hg hat;have HO7 := Aside0.mk ho;have HB7 := Aside0.mk hb;have BK7 : Aside0 (w7.heap[gb]? = some (.cells #[.int .i64 a2] 2 (0,0))) := ⟨blk_grown (by exact BK6.out) hg (fun e_ => Kd.S_away HO6.out (fun _ hk => hk.1.1) e_)⟩;clear ho hb hg hat))
         go_roundg k1
         case measure => have := HK.out;omega
         case rel => exact ⟨(x12 ++ [t6]),wrap64 (x34 + 1),(by first | rfl | (simp only [IntKind.wrap_i64,wrap64];done) | (simp;done) | (simp [*];done)),H',⟨by have := HK.out;omega⟩,⟨by (with_reducible repeat (first | apply Kd.S_alloc | apply Kd.S_drewN | apply Kd.S_drew));exact Kd.S_mono HO7.out (fun _ hk => hk)⟩,⟨(by repeat (first | (with_reducible first | exact HB7.out | apply below_alloc | apply pw_below_drewN | apply below_drew1) | exact HB7.out))⟩,⟨BK7.out⟩⟩
        ·rw [if_neg c8] at h;exact absurd h (by simp)
      ·rw [if_neg c7] at h;have c7b0 : decide ((x12.length : Int) < a3) = false := decide_eq_false c7;clear c7;have H' := Aside0.mk h;clear h
       go_wp2_with (first | ((with_reducible refine gate_callee (f := 23) rfl ?_);refine goesL_ (some 40) rfl rfl Try.func23 (by kernel_rfl) rfl #[.int .i64 a0,.int .i64 a1,.int .i64 x34] rfl (by (try simp only [List.map_toArray,List.map_cons,List.map_nil]);first | done | rfl | (simp only [List.length_drop,List.length_take];rfl)) ?_;(with_reducible refine (impl_wordAt.calls k1 a0 a1 x34 t6 _ A6.out).mono ?_);rintro e w3 ⟨v3,rfl,ho3,hb3⟩;refine ⟨_,rfl,?_⟩;have HO3 := Aside0.mk (Kd.S_elder' (by (with_reducible repeat (first | apply Kd.S_alloc | apply Kd.S_drewN | apply Kd.S_drew));exact HO.out) (Kd.R_base ho3) hb3);have HB3 := Aside0.mk (below_step (by repeat (first | (with_reducible first | exact HB.out | apply below_alloc | apply pw_below_drewN | apply below_drew1) | exact HB.out)) hb3);have BK3 : Aside0 (w3.heap[gb]? = some (.cells #[.int .i64 a2] 2 (0,0))) := ⟨blk_below (by exact BK.out) hb3⟩;have HR3 := Aside0.mk (Kd.R_lower ho3 (below_size (by repeat (first | (with_reducible first | exact HB.out | apply below_alloc | apply pw_below_drewN | apply below_drew1) | exact HB.out))));clear ho3 hb3;obtain ⟨Aw,cw,ew⟩ := Kd.R_slice HR3.out;subst ew) | ((with_reducible refine gate_dst (N := 14) rfl ?_);refine box_event ?hg (N := 14) ?hd (cs := #[.slice none 0 0]) (t := 32) ?hr ?_;(case hd => rfl);(case hg => rfl);(case hr => first | (go_simp;done) | (go_simp;rfl));intro gw hgw w4 hbox hb4;have BW4 := Aside0.mk hbox;have GE4 := Aside0.mk (show w.heap.size ≤ gw by rw [hgw];exact below_size HB3.out);have HB4 := Aside0.mk (below_step HB3.out hb4);have BK4 := Aside0.mk (blk_below BK3.out hb4);have HO4 := Aside0.mk (Kd.S_below (Kd.S_elderB HO3.out gw (by rw [hgw];exact Nat.le_refl _)) hb4);have HR4 := Aside0.mk (Kd.R_types (Kd.R_below HR3.out hb4) BW4.out (by decide));have ST := Aside0.mk (impl_GreedyWords.stored (Aw := Aw) (cw := cw) HO4.out HR4.out HB4.out BK4.out BW4.out GE4.out);have hcz : w4.cell? ⟨gw,0,none⟩ = some (.slice none 0 0) := (blk_cell BW4.out 0).trans rfl;have hfz := blk_frozen BW4.out 0;clear hb4 hbox hgw) | (go_at_call 24;(with_reducible refine (impl_size_Word.calls _ _ x12 _ _ ?s1 ?s2 (show _ = some (x12.length : Int) from rfl)).mono ?_);(case s1 => exact (Kd.S_reads' ST.out.1).2.2);(case s2 => exact (Kd.S_reads' ST.out.1).2.1);rintro e w5 ⟨rfl,hd5⟩;have HO5 := Aside0.mk (Kd.S_below ST.out.1 hd5.below);have HR5 := Aside0.mk (Kd.R_below ST.out.2.1 hd5.below);have HB5 := Aside0.mk (below_step ST.out.2.2.1 hd5.below);have BK5 := Aside0.mk (blk_below ST.out.2.2.2.1 hd5.below);have BW5 := Aside0.mk (blk_below ST.out.2.2.2.2 hd5.below);clear hd5))
       go_roundg k1
       case measure => have := HK.out;omega
       case rel => exact ⟨x12,wrap64 (x34 + 1),(by first | rfl | (simp only [IntKind.wrap_i64,wrap64];done) | (simp;done) | (simp [*];done)),H',⟨by have := HK.out;omega⟩,⟨by (with_reducible repeat (first | apply Kd.S_alloc | apply Kd.S_drewN | apply Kd.S_drew));exact Kd.S_mono HO5.out (fun _ hk => hk.1.1)⟩,⟨(by repeat (first | (with_reducible first | exact HB5.out | apply below_alloc | apply pw_below_drewN | apply below_drew1) | exact HB5.out))⟩,⟨BK5.out⟩⟩
     ·rw [if_neg c6] at h;have c6b0 : decide (x34 < t5) = false := decide_eq_false c6;clear c6;simp only [Option.some.injEq,Prod.mk.injEq] at h;obtain ⟨rfl,rfl⟩ := h
      go_wp2
      go_ret2
      exact ⟨_,rfl,by (with_reducible repeat (first | apply Kd.S_alloc | apply Kd.S_drewN | apply Kd.S_drew));exact Kd.S_mono HO.out (fun _ _ => trivial),(by repeat (first | (with_reducible first | exact HB.out | apply below_alloc | apply pw_below_drewN | apply below_drew1) | exact HB.out))⟩
 ·rw [if_neg c4] at h;have c4b0 : (t4 == 0) = false := beq_eq_false_iff_ne.mpr c4;have c4b1 : (t4 != 0) = true := bne_iff_ne.mpr c4;clear c4;simp only [Option.some.injEq,Prod.mk.injEq] at h;obtain ⟨rfl,rfl⟩ := h
  go_enter Try.func6,Try.ntmps6
  go_wp2_with (first | ((with_reducible refine gate_dst (N := 6) rfl ?_);refine box_event ?hg (N := 6) ?hd (cs := #[.int .i64 a2]) (t := 2) ?hr ?_;(case hd => rfl);(case hg => rfl);(case hr => first | (go_simp;done) | (go_simp;rfl));intro gb hgb w1 hbox hb;have HB1 := Aside0.mk (below_step (by repeat (first | (with_reducible first | exact HB.out | apply below_alloc | apply pw_below_drewN | apply below_drew1) | exact HB.out)) hb);have BK1 := Aside0.mk hbox;have GE1 := Aside0.mk (show w.heap.size ≤ gb by rw [hgb];exact below_size (by repeat (first | (with_reducible first | exact HB.out | apply below_alloc | apply pw_below_drewN | apply below_drew1) | exact HB.out)));have hcb : w1.cell? ⟨gb,0,none⟩ = some (.int .i64 a2) := (blk_cell BK1.out 0).trans rfl;have hfb := blk_frozen BK1.out 0;clear hb hbox hgb) | ((with_reducible refine gate_callee (f := 19) rfl ?_);refine goesL_ (some 18) rfl rfl Try.func19 (by kernel_rfl) rfl #[.int .i64 a0,.int .i64 a1,.int .i64 a2] rfl (by (try simp only [List.map_toArray,List.map_cons,List.map_nil]);first | done | rfl | (simp only [List.length_drop,List.length_take];rfl)) ?_;(with_reducible refine (impl_apartCode.calls a0 a1 a2 t1 _ A1.out).mono ?_);rintro e w' ⟨rfl,⟨nd,rfl⟩⟩;refine ⟨_,rfl,?_⟩) | ((with_reducible refine gate_callee (f := 21) rfl ?_);refine goesL_ (some 20) rfl rfl Try.func21 (by kernel_rfl) rfl #[.int .i64 a3,.int .i64 0,.int .i64 60] rfl (by (try simp only [List.map_toArray,List.map_cons,List.map_nil]);first | done | rfl | (simp only [List.length_drop,List.length_take];rfl)) ?_;(with_reducible refine (impl_within.calls a3 0 60 t2 _ A2.out).mono ?_);rintro e w' ⟨rfl,⟨nd,rfl⟩⟩;refine ⟨_,rfl,?_⟩) | ((with_reducible refine gate_callee (f := 20) rfl ?_);refine goesL_ (some 21) rfl rfl Try.func20 (by kernel_rfl) rfl #[.bool t2,.int .i64 2] rfl (by (try simp only [List.map_toArray,List.map_cons,List.map_nil]);first | done | rfl | (simp only [List.length_drop,List.length_take];rfl)) ?_;(with_reducible refine (impl_unless.calls t2 2 t3 _ A3.out).mono ?_);rintro e w' ⟨rfl,⟨nd,rfl⟩⟩;refine ⟨_,rfl,?_⟩) | ((with_reducible refine gate_dst (N := 22) rfl ?_);refine Kd.R_lit (Kd.int .i64) _ 2 ?hg (N := 22) ?hd (xs := ([t1,t3] : List Int)) (inner := [.int .i64 t1,.int .i64 t3]) (ok := fun _ => True) (okp := fun _ => True) ?hr ?hp (fun _ hk => hk) trivial (Below.refl _ _) (Nat.le_refl _) (by simp) ?_;(case hd => rfl);(case hg => rfl);(case hr => first | (go_simp;done) | (go_simp;rfl));(case hp => exact (Reps.one (show Kd.M (Kd.int .i64) _ _ _ t1 [.int .i64 t1] from rfl) (Reps.one (show Kd.M (Kd.int .i64) _ _ _ t3 [.int .i64 t3] from rfl) (Reps.none _ _))));intro vl w2 hol hb hg_ hnew_;clear hg_ hnew_;have HL2 := Aside0.mk hol;have HB2 := Aside0.mk (below_step (by repeat (first | (with_reducible first | exact HB1.out | apply below_alloc | apply pw_below_drewN | apply below_drew1) | exact HB1.out)) hb);have BK2 : Aside0 (w2.heap[gb]? = some (.cells #[.int .i64 a2] 2 (0,0))) := ⟨blk_below (by exact BK1.out) hb⟩;clear hb hol;obtain ⟨Al,cl,el⟩ := Kd.R_slice HL2.out;subst el) | ((with_reducible refine gate_callee (f := 18) rfl ?_);refine goesL_ (some 23) rfl rfl Try.func18 (by kernel_rfl) rfl #[.slice Al ([t1,t3] : List Int).length cl] rfl (by (try simp only [List.map_toArray,List.map_cons,List.map_nil]);first | done | rfl | (simp only [List.length_drop,List.length_take];rfl)) ?_;(with_reducible refine (impl_firstOf.calls k _ _ ([t1,t3] : List Int) t4 _ (Kd.R_reads' HL2.out).2.2 (Kd.R_reads' HL2.out).2.1 A4.out).mono ?_);rintro e w' ⟨rfl,⟨nd,rfl⟩⟩;refine ⟨_,rfl,?_⟩))
  go_ret2
  exact ⟨_,rfl,Kd.S_nil _ _ _ _ _,(by repeat (first | (with_reducible first | exact HB2.out | apply below_alloc | apply pw_below_drewN | apply below_drew1) | exact HB2.out))⟩
end Go.Proofs.Ytmcdedmnekeibaa.G
end

section
namespace Go.Proofs.Ytmcdedmnekeibaa.G
open Go.RowKit Go.Proofs.YtmcdedmnekeibaaW.PrintWords Go.Proofs.YtmcdedmnekeibaaW.PrintLast Go.Proofs.YtmcdedmnekeibaaW.PrintMore
attribute [local go_sem] max2_int min2_int max_two min_two max_three min_three max_four min_four
set_option linter.unusedVariables false
set_option linter.unusedSimpArgs false
def impl_LeastApart_1.f (k : Nat) (a0 : Int) (a1 : Int) (l2 : List (List Int)) : Option (Int) := if 0 ≤ a0 then (if a0 < (l2.length : Int) then (if 0 ≤ a1 then (if a1 < (l2.length : Int) then ((impl_unlike.f k (rd_L2 l2 a0) (rd_L2 l2 a1)).bind fun t103 => (some t103)) else (none)) else (none)) else (none)) else (none)
set_option maxHeartbeats 8000000 in
set_option maxRecDepth 100000 in
theorem impl_LeastApart_1.calls (k : Nat) (a0 : Int) (a1 : Int) (A2 : Option Addr) (c2 : Nat) (l2 : List (List Int)) (b2 : Nat) (r : Int) (w : World) (hr2 : Kd.C (Kd.slice 5 (Kd.int .u8)) w A2 l2.length l2) (hc2 : l2.length ≤ c2) (hb2 : w.heap[b2]? = some (.cells #[.slice A2 l2.length c2] 25 (0,0))) (h : impl_LeastApart_1.f k a0 a1 l2 = some r) :
  Calls Try.prog 38 #[.int .i64 a0,.int .i64 a1,.pointer (some ⟨b2,0,none⟩)] w fun e w' => e = .returned (.int .i64 r) ∧ Drawn0 w w' := by
 have HR2 := Aside0.mk hr2;have HC2 := Aside0.mk hc2;clear hr2 hc2;have BK2 := Aside0.mk hb2;clear hb2;have H : (if 0 ≤ a0 then (if a0 < (l2.length : Int) then (if 0 ≤ a1 then (if a1 < (l2.length : Int) then ((impl_unlike.f k (rd_L2 l2 a0) (rd_L2 l2 a1)).bind fun t103 => (some t103)) else (none)) else (none)) else (none)) else (none)) = some r := h;clear h
 by_cases c4 : 0 ≤ a0
 ·rw [if_pos c4] at H;have c4b0 : decide (0 ≤ a0) = true := decide_eq_true c4;clear c4
  by_cases c5 : a0 < (l2.length : Int)
  ·rw [if_pos c5] at H;have c5b0 : decide (a0 < (l2.length : Int)) = true := decide_eq_true c5;clear c5
   by_cases c6 : 0 ≤ a1
   ·rw [if_pos c6] at H;have c6b0 : decide (0 ≤ a1) = true := decide_eq_true c6;clear c6
    by_cases c7 : a1 < (l2.length : Int)
    ·rw [if_pos c7] at H;have c7b0 : decide (a1 < (l2.length : Int)) = true := decide_eq_true c7;clear c7;replace H := Option.bind_eq_some_iff.mp H;obtain ⟨t103,A80,H⟩ := H;replace H : (some t103) = some r := H;have A8 := Aside0.mk A80;clear A80;obtain rfl := Option.some.inj H;have hcz9_0 : w.cell? ⟨b2,0,none⟩ = some (.slice A2 l2.length c2) := (blk_cell BK2.out 0).trans rfl;have hfz9_0 := blk_frozen BK2.out 0;have p101 : 0 ≤ (a0 : Int) := of_decide_eq_true (by first | (with_reducible assumption) | assumption);have q101 : a0 < (l2.length : Int) := of_decide_eq_true (by first | (with_reducible assumption) | assumption);obtain ⟨ad101,A101_0,c101_0,e101,hx101_0,hl101_0,hi101_0⟩ := at_L2 HR2.out a0 p101 q101;cases e101;have HR101_0 := Aside0.mk hi101_0;have HC101_0 := Aside0.mk hl101_0;clear hi101_0 hl101_0;replace p101 := eq_true p101;replace q101 := eq_true q101;have p102 : 0 ≤ (a1 : Int) := of_decide_eq_true (by first | (with_reducible assumption) | assumption);have q102 : a1 < (l2.length : Int) := of_decide_eq_true (by first | (with_reducible assumption) | assumption);obtain ⟨ad102,A102_0,c102_0,e102,hx102_0,hl102_0,hi102_0⟩ := at_L2 HR2.out a1 p102 q102;obtain rfl : ad101 = ad102 := (by injection e102);have HR102_0 := Aside0.mk hi102_0;have HC102_0 := Aside0.mk hl102_0;clear hi102_0 hl102_0;replace p102 := eq_true p102;replace q102 := eq_true q102
     go_enter Try.func38,Try.ntmps38
     go_wp2_with (first | (go_at_call 27;(with_reducible refine (impl_unlike.calls k _ _ (rd_L2 l2 a0) _ _ (rd_L2 l2 a1) t103 _ ?side1 ?side2 ?side3 ?side4 A8.out).mono ?_);(case side1 => repeat (first | exact HR101_0.out | (with_reducible refine Kd.C_alloc ?_ _) | (with_reducible refine Kd.C_drewN ?_ _) | (with_reducible refine Kd.C_drew ?_)));(case side2 => exact HC101_0.out);(case side3 => repeat (first | exact HR102_0.out | (with_reducible refine Kd.C_alloc ?_ _) | (with_reducible refine Kd.C_drewN ?_ _) | (with_reducible refine Kd.C_drew ?_)));(case side4 => exact HC102_0.out);rintro e w' ⟨rfl,⟨nd,rfl⟩⟩;(try first | exact ⟨rfl,_,World.drewN_drewN _ _ _⟩ | exact ⟨rfl,_,Eq.trans (World.drewN_drewN _ _ _) (congrArg (World.drewN _) (Nat.add_assoc _ _ _))⟩)))
     repeat (go_quiet (first | (go_at_call 27;(with_reducible refine (impl_unlike.calls k _ _ (rd_L2 l2 a0) _ _ (rd_L2 l2 a1) t103 _ ?side1 ?side2 ?side3 ?side4 A8.out).mono ?_);(case side1 => repeat (first | exact HR101_0.out | (with_reducible refine Kd.C_alloc ?_ _) | (with_reducible refine Kd.C_drewN ?_ _) | (with_reducible refine Kd.C_drew ?_)));(case side2 => exact HC101_0.out);(case side3 => repeat (first | exact HR102_0.out | (with_reducible refine Kd.C_alloc ?_ _) | (with_reducible refine Kd.C_drewN ?_ _) | (with_reducible refine Kd.C_drew ?_)));(case side4 => exact HC102_0.out);rintro e w' ⟨rfl,⟨nd,rfl⟩⟩;(try first | exact ⟨rfl,_,World.drewN_drewN _ _ _⟩ | exact ⟨rfl,_,Eq.trans (World.drewN_drewN _ _ _) (congrArg (World.drewN _) (Nat.add_assoc _ _ _))⟩)));try go_wp2_with (first | (go_at_call 27;(with_reducible refine (impl_unlike.calls k _ _ (rd_L2 l2 a0) _ _ (rd_L2 l2 a1) t103 _ ?side1 ?side2 ?side3 ?side4 A8.out).mono ?_);(case side1 => repeat (first | exact HR101_0.out | (with_reducible refine Kd.C_alloc ?_ _) | (with_reducible refine Kd.C_drewN ?_ _) | (with_reducible refine Kd.C_drew ?_)));(case side2 => exact HC101_0.out);(case side3 => repeat (first | exact HR102_0.out | (with_reducible refine Kd.C_alloc ?_ _) | (with_reducible refine Kd.C_drewN ?_ _) | (with_reducible refine Kd.C_drew ?_)));(case side4 => exact HC102_0.out);rintro e w' ⟨rfl,⟨nd,rfl⟩⟩;(try first | exact ⟨rfl,_,World.drewN_drewN _ _ _⟩ | exact ⟨rfl,_,Eq.trans (World.drewN_drewN _ _ _) (congrArg (World.drewN _) (Nat.add_assoc _ _ _))⟩))))
     go_ret
     exact ⟨by first | rfl | (simp only [IntKind.wrap_i64,wrap64];done) | (simp;done) | (simp [*];done),by repeat (first | exact Drawn0.refl _ | apply Drawn0.step)⟩
    ·rw [if_neg c7] at H;exact absurd H (by simp)
   ·rw [if_neg c6] at H;exact absurd H (by simp)
  ·rw [if_neg c5] at H;exact absurd H (by simp)
 ·rw [if_neg c4] at H;exact absurd H (by simp)
end Go.Proofs.Ytmcdedmnekeibaa.G
end

section
namespace Go.Proofs.Ytmcdedmnekeibaa.G
open Go.RowKit Go.Proofs.YtmcdedmnekeibaaW.PrintWords Go.Proofs.YtmcdedmnekeibaaW.PrintLast Go.Proofs.YtmcdedmnekeibaaW.PrintMore
attribute [local go_sem] max2_int min2_int max_two min_two max_three min_three max_four min_four
set_option linter.unusedVariables false
set_option linter.unusedSimpArgs false
mutual
def impl_nearest__impl_LeastApart_1.l0 : Nat → Int → Int → Int → Int → Int → Int → List (List Int) → Option (Int × Int × Int × Bool)
 | 0,_,_,_,_,_,_,_ => none
 | k + 1,x0,x8,x9,x10,x14,x15,x2000 => if x15 < x14 then (impl_nearest__impl_LeastApart_1.l1 k x0 x8 x9 x10 x15 (wrap64 (x15 + 1)) x14 x15 x2000) else (some (x8,x9,x10,decide (x10 ≥ 0)))
def impl_nearest__impl_LeastApart_1.l1 : Nat → Int → Int → Int → Int → Int → Int → Int → Int → List (List Int) → Option (Int × Int × Int × Bool)
 | 0,_,_,_,_,_,_,_,_,_ => none
 | k + 1,x0,x8,x9,x10,x11,x12,x14,x15,x2000 => if x12 < x0 then ((impl_LeastApart_1.f k x11 x12 x2000).bind fun t101 => (if x10 < 0 then (impl_nearest__impl_LeastApart_1.l1 k x0 x11 x12 t101 x11 (wrap64 (x12 + 1)) x14 x15 x2000) else (if t101 < x10 then (impl_nearest__impl_LeastApart_1.l1 k x0 x11 x12 t101 x11 (wrap64 (x12 + 1)) x14 x15 x2000) else (impl_nearest__impl_LeastApart_1.l1 k x0 x8 x9 x10 x11 (wrap64 (x12 + 1)) x14 x15 x2000)))) else (impl_nearest__impl_LeastApart_1.l0 k x0 x8 x9 x10 x14 (wrap64 (x15 + 1)) x2000)
end
def impl_nearest__impl_LeastApart_1.f (k : Nat) (a0 : Int) (l1 : List (List Int)) : Option (Int × Int × Int × Bool) := impl_nearest__impl_LeastApart_1.l0 k a0 0 0 (-1) a0 0 l1
set_option maxHeartbeats 8000000 in
set_option maxRecDepth 100000 in
theorem impl_nearest__impl_LeastApart_1.calls (k : Nat) (a0 : Int) (A1 : Option Addr) (c1 : Nat) (l1 : List (List Int)) (b1 : Nat) (r1 : Int) (r2 : Int) (r3 : Int) (r4 : Bool) (w : World) (hr1 : Kd.C (Kd.slice 5 (Kd.int .u8)) w A1 l1.length l1) (hc1 : l1.length ≤ c1) (hb1 : w.heap[b1]? = some (.cells #[.slice A1 l1.length c1] 25 (0,0))) (h : impl_nearest__impl_LeastApart_1.f k a0 l1 = some (r1,r2,r3,r4)) :
  Calls Try.prog 37 #[.int .i64 a0,.func (.func 38) #[] #[.pointer (some ⟨b1,0,none⟩)]] w fun e w' => e = .returned (.tuple #[.int .i64 r1,.int .i64 r2,.int .i64 r3,.bool r4]) ∧ Drawn0 w w' := by
 have HR1 := Aside0.mk hr1;have HC1 := Aside0.mk hc1;clear hr1 hc1;have BK1 := Aside0.mk hb1;clear hb1;have H : (impl_nearest__impl_LeastApart_1.l0 k a0 0 0 (-1) a0 0 l1) = some (r1,r2,r3,r4) := h;clear h;have H' := Aside0.mk H;clear H
 go_enter Try.func37,Try.ntmps37
 go_wp2
 go_loopg [8,9,10,15] k (fun kq v8 v9 v10 v15 w' => ∃ (x8_1 : Int) (x9_1 : Int) (x10_1 : Int) (x15_1 : Int),v8 = .int .i64 x8_1 ∧ v9 = .int .i64 x9_1 ∧ v10 = .int .i64 x10_1 ∧ v15 = .int .i64 x15_1 ∧ Aside0 (impl_nearest__impl_LeastApart_1.l0 kq a0 x8_1 x9_1 x10_1 a0 x15_1 l1 = some (r1,r2,r3,r4)) ∧ Aside0 (kq ≤ k) ∧ Aside0 (w'.heap[b1]? = some (.cells #[(.slice A1 l1.length c1)] 25 (0,0))) ∧ Drawn0 w w')
 case atStart => exact ⟨(0),(0),((-1)),(0),(by first | rfl | (simp only [IntKind.wrap_i64,wrap64];done) | (simp;done) | (simp [*];done)),(by first | rfl | (simp only [IntKind.wrap_i64,wrap64];done) | (simp;done) | (simp [*];done)),(by first | rfl | (simp only [IntKind.wrap_i64,wrap64];done) | (simp;done) | (simp [*];done)),(by first | rfl | (simp only [IntKind.wrap_i64,wrap64];done) | (simp;done) | (simp [*];done)),H',⟨Nat.le_refl _⟩,⟨by (with_reducible repeat (first | refine blk_drewN ?_ _ | refine blk_drew ?_ | refine blk_alloc ?_ _));exact BK1.out⟩,by repeat (first | exact Drawn0.refl _ | apply Drawn0.step)⟩
 case round =>
  clear H';(try clear c1);(try clear p2);obtain ⟨x8_1,x9_1,x10_1,x15_1,rfl,rfl,rfl,rfl,HA,HK1,BK1,⟨m1,rfl⟩⟩ := hrel
  cases gk with
  | zero => exact absurd HA.out (by simp [impl_nearest__impl_LeastApart_1.l0])
  | succ k1 =>
   have H := HA.out;clear HA;simp only [impl_nearest__impl_LeastApart_1.l0] at H
   by_cases c3 : x15_1 < a0
   ·rw [if_pos c3] at H;have c3b0 : decide (x15_1 < a0) = true := decide_eq_true c3;clear c3;have H' := Aside0.mk H;clear H
    go_wp2
    go_loopg [8,9,10,12] k1 (fun kq v8 v9 v10 v12 w' => ∃ (x8_2 : Int) (x9_2 : Int) (x10_2 : Int) (x12_2 : Int),v8 = .int .i64 x8_2 ∧ v9 = .int .i64 x9_2 ∧ v10 = .int .i64 x10_2 ∧ v12 = .int .i64 x12_2 ∧ Aside0 (impl_nearest__impl_LeastApart_1.l1 kq a0 x8_2 x9_2 x10_2 x15_1 x12_2 a0 x15_1 l1 = some (r1,r2,r3,r4)) ∧ Aside0 (kq ≤ k1) ∧ Aside0 (w'.heap[b1]? = some (.cells #[(.slice A1 l1.length c1)] 25 (0,0))) ∧ Drawn0 w w')
    case atStart => exact ⟨(x8_1),(x9_1),(x10_1),(wrap64 (x15_1 + 1)),(by first | rfl | (simp only [IntKind.wrap_i64,wrap64];done) | (simp;done) | (simp [*];done)),(by first | rfl | (simp only [IntKind.wrap_i64,wrap64];done) | (simp;done) | (simp [*];done)),(by first | rfl | (simp only [IntKind.wrap_i64,wrap64];done) | (simp;done) | (simp [*];done)),(by first | rfl | (simp only [IntKind.wrap_i64,wrap64];done) | (simp;done) | (simp [*];done)),H',⟨Nat.le_refl _⟩,⟨by (with_reducible repeat (first | refine blk_drewN ?_ _ | refine blk_drew ?_ | refine blk_alloc ?_ _));exact BK1.out⟩,by repeat (first | exact Drawn0.refl _ | apply Drawn0.step)⟩
    case round =>
     clear H';(try clear c1);(try clear p2);(try clear c3);(try clear c3b0);(try clear p2);obtain ⟨x8_2,x9_2,x10_2,x12_2,rfl,rfl,rfl,rfl,HA,HK2,BK1,⟨m2,rfl⟩⟩ := hrel
     cases gk with
     | zero => exact absurd HA.out (by simp [impl_nearest__impl_LeastApart_1.l1])
     | succ k2 =>
      have H := HA.out;clear HA;simp only [impl_nearest__impl_LeastApart_1.l1] at H
      by_cases c4 : x12_2 < a0
      ·rw [if_pos c4] at H;have c4b0 : decide (x12_2 < a0) = true := decide_eq_true c4;clear c4;replace H := Option.bind_eq_some_iff.mp H;obtain ⟨t101,A50,H⟩ := H;replace H : (if x10_2 < 0 then (impl_nearest__impl_LeastApart_1.l1 k2 a0 x15_1 x12_2 t101 x15_1 (wrap64 (x12_2 + 1)) a0 x15_1 l1) else (if t101 < x10_2 then (impl_nearest__impl_LeastApart_1.l1 k2 a0 x15_1 x12_2 t101 x15_1 (wrap64 (x12_2 + 1)) a0 x15_1 l1) else (impl_nearest__impl_LeastApart_1.l1 k2 a0 x8_2 x9_2 x10_2 x15_1 (wrap64 (x12_2 + 1)) a0 x15_1 l1))) = some (r1,r2,r3,r4) := H;have A5 := Aside0.mk A50;clear A50
       by_cases c6 : x10_2 < 0
       ·rw [if_pos c6] at H;have c6b0 : decide (x10_2 < 0) = true := decide_eq_true c6;clear c6;have H' := Aside0.mk H;clear H
        go_wp2_with (first | ((with_reducible refine gate_calleeD rfl ?_);refine goesLD_ (some 28) rfl rfl Try.func38 (by kernel_rfl) rfl #[.pointer (some ⟨b1,0,none⟩)] #[.int .i64 x15_1,.int .i64 x12_2,.pointer (some ⟨b1,0,none⟩)] rfl rfl (by (try simp only [List.map_toArray,List.map_cons,List.map_nil]);first | done | rfl | (simp only [List.length_drop,List.length_take];rfl)) ?_;(with_reducible refine (impl_LeastApart_1.calls k2 x15_1 x12_2 A1 c1 l1 b1 t101 _ ?side1 ?side2 ?side3 A5.out).mono ?_);(case side1 => repeat (first | exact HR1.out | (with_reducible refine Kd.C_alloc ?_ _) | (with_reducible refine Kd.C_drewN ?_ _) | (with_reducible refine Kd.C_drew ?_)));(case side2 => exact HC1.out);(case side3 => (with_reducible repeat (first | refine blk_drewN ?_ _ | refine blk_drew ?_ | refine blk_alloc ?_ _));exact BK1.out);rintro e w' ⟨rfl,⟨nd,rfl⟩⟩;refine ⟨_,rfl,?_⟩))
        go_roundg k2
        case measure => have := HK1.out;have := HK2.out;omega
        case rel => exact ⟨(x15_1),(x12_2),(t101),(wrap64 (x12_2 + 1)),(by first | rfl | (simp only [IntKind.wrap_i64,wrap64];done) | (simp;done) | (simp [*];done)),(by first | rfl | (simp only [IntKind.wrap_i64,wrap64];done) | (simp;done) | (simp [*];done)),(by first | rfl | (simp only [IntKind.wrap_i64,wrap64];done) | (simp;done) | (simp [*];done)),(by first | rfl | (simp only [IntKind.wrap_i64,wrap64];done) | (simp;done) | (simp [*];done)),H',⟨by have := HK1.out;have := HK2.out;omega⟩,⟨by (with_reducible repeat (first | refine blk_drewN ?_ _ | refine blk_drew ?_ | refine blk_alloc ?_ _));exact BK1.out⟩,by repeat (first | exact Drawn0.refl _ | apply Drawn0.step)⟩
       ·rw [if_neg c6] at H;have c6b0 : decide (x10_2 < 0) = false := decide_eq_false c6;clear c6
        by_cases c7 : t101 < x10_2
        ·rw [if_pos c7] at H;have c7b0 : decide (t101 < x10_2) = true := decide_eq_true c7;clear c7;have H' := Aside0.mk H;clear H
         go_wp2_with (first | ((with_reducible refine gate_calleeD rfl ?_);refine goesLD_ (some 28) rfl rfl Try.func38 (by kernel_rfl) rfl #[.pointer (some ⟨b1,0,none⟩)] #[.int .i64 x15_1,.int .i64 x12_2,.pointer (some ⟨b1,0,none⟩)] rfl rfl (by (try simp only [List.map_toArray,List.map_cons,List.map_nil]);first | done | rfl | (simp only [List.length_drop,List.length_take];rfl)) ?_;(with_reducible refine (impl_LeastApart_1.calls k2 x15_1 x12_2 A1 c1 l1 b1 t101 _ ?side1 ?side2 ?side3 A5.out).mono ?_);(case side1 => repeat (first | exact HR1.out | (with_reducible refine Kd.C_alloc ?_ _) | (with_reducible refine Kd.C_drewN ?_ _) | (with_reducible refine Kd.C_drew ?_)));(case side2 => exact HC1.out);(case side3 => (with_reducible repeat (first | refine blk_drewN ?_ _ | refine blk_drew ?_ | refine blk_alloc ?_ _));exact BK1.out);rintro e w' ⟨rfl,⟨nd,rfl⟩⟩;refine ⟨_,rfl,?_⟩))
         go_roundg k2
         case measure => have := HK1.out;have := HK2.out;omega
         case rel => exact ⟨(x15_1),(x12_2),(t101),(wrap64 (x12_2 + 1)),(by first | rfl | (simp only [IntKind.wrap_i64,wrap64];done) | (simp;done) | (simp [*];done)),(by first | rfl | (simp only [IntKind.wrap_i64,wrap64];done) | (simp;done) | (simp [*];done)),(by first | rfl | (simp only [IntKind.wrap_i64,wrap64];done) | (simp;done) | (simp [*];done)),(by first | rfl | (simp only [IntKind.wrap_i64,wrap64];done) | (simp;done) | (simp [*];done)),H',⟨by have := HK1.out;have := HK2.out;omega⟩,⟨by (with_reducible repeat (first | refine blk_drewN ?_ _ | refine blk_drew ?_ | refine blk_alloc ?_ _));exact BK1.out⟩,by repeat (first | exact Drawn0.refl _ | apply Drawn0.step)⟩
        ·rw [if_neg c7] at H;have c7b0 : decide (t101 < x10_2) = false := decide_eq_false c7;clear c7;have H' := Aside0.mk H;clear H
         go_wp2_with (first | ((with_reducible refine gate_calleeD rfl ?_);refine goesLD_ (some 28) rfl rfl Try.func38 (by kernel_rfl) rfl #[.pointer (some ⟨b1,0,none⟩)] #[.int .i64 x15_1,.int .i64 x12_2,.pointer (some ⟨b1,0,none⟩)] rfl rfl (by (try simp only [List.map_toArray,List.map_cons,List.map_nil]);first | done | rfl | (simp only [List.length_drop,List.length_take];rfl)) ?_;(with_reducible refine (impl_LeastApart_1.calls k2 x15_1 x12_2 A1 c1 l1 b1 t101 _ ?side1 ?side2 ?side3 A5.out).mono ?_);(case side1 => repeat (first | exact HR1.out | (with_reducible refine Kd.C_alloc ?_ _) | (with_reducible refine Kd.C_drewN ?_ _) | (with_reducible refine Kd.C_drew ?_)));(case side2 => exact HC1.out);(case side3 => (with_reducible repeat (first | refine blk_drewN ?_ _ | refine blk_drew ?_ | refine blk_alloc ?_ _));exact BK1.out);rintro e w' ⟨rfl,⟨nd,rfl⟩⟩;refine ⟨_,rfl,?_⟩))
         go_roundg k2
         case measure => have := HK1.out;have := HK2.out;omega
         case rel => exact ⟨(x8_2),(x9_2),(x10_2),(wrap64 (x12_2 + 1)),(by first | rfl | (simp only [IntKind.wrap_i64,wrap64];done) | (simp;done) | (simp [*];done)),(by first | rfl | (simp only [IntKind.wrap_i64,wrap64];done) | (simp;done) | (simp [*];done)),(by first | rfl | (simp only [IntKind.wrap_i64,wrap64];done) | (simp;done) | (simp [*];done)),(by first | rfl | (simp only [IntKind.wrap_i64,wrap64];done) | (simp;done) | (simp [*];done)),H',⟨by have := HK1.out;have := HK2.out;omega⟩,⟨by (with_reducible repeat (first | refine blk_drewN ?_ _ | refine blk_drew ?_ | refine blk_alloc ?_ _));exact BK1.out⟩,by repeat (first | exact Drawn0.refl _ | apply Drawn0.step)⟩
      ·rw [if_neg c4] at H;have c4b0 : decide (x12_2 < a0) = false := decide_eq_false c4;clear c4;have H' := Aside0.mk H;clear H
       go_wp2
       go_roundg k2
       case measure => have := HK1.out;have := HK2.out;omega
       case rel => exact ⟨(x8_2),(x9_2),(x10_2),(wrap64 (x15_1 + 1)),(by first | rfl | (simp only [IntKind.wrap_i64,wrap64];done) | (simp;done) | (simp [*];done)),(by first | rfl | (simp only [IntKind.wrap_i64,wrap64];done) | (simp;done) | (simp [*];done)),(by first | rfl | (simp only [IntKind.wrap_i64,wrap64];done) | (simp;done) | (simp [*];done)),(by first | rfl | (simp only [IntKind.wrap_i64,wrap64];done) | (simp;done) | (simp [*];done)),H',⟨by have := HK1.out;have := HK2.out;omega⟩,⟨by (with_reducible repeat (first | refine blk_drewN ?_ _ | refine blk_drew ?_ | refine blk_alloc ?_ _));exact BK1.out⟩,by repeat (first | exact Drawn0.refl _ | apply Drawn0.step)⟩
   ·rw [if_neg c3] at H;have c3b0 : decide (x15_1 < a0) = false := decide_eq_false c3;clear c3;simp only [Option.some.injEq,Prod.mk.injEq] at H;obtain ⟨rfl,rfl,rfl,rfl⟩ := H
    go_wp2
    refine bodyPost_ret (results_list (rs := [.tmp 4,.tmp 5,.tmp 6,.tmp 7]) rfl (by simp) (.tmp (.tmp (.tmp (.tmp .nil))))) rfl ?_;exact ⟨by first | rfl | (simp only [IntKind.wrap_i64,wrap64];done) | (simp;done) | (simp [*];done),by repeat (first | exact Drawn0.refl _ | apply Drawn0.step)⟩
end Go.Proofs.Ytmcdedmnekeibaa.G
end

section
namespace Go.Proofs.Ytmcdedmnekeibaa.G
open Go.RowKit Go.Proofs.YtmcdedmnekeibaaW.PrintWords Go.Proofs.YtmcdedmnekeibaaW.PrintLast Go.Proofs.YtmcdedmnekeibaaW.PrintMore
attribute [local go_sem] max2_int min2_int max_two min_two max_three min_three max_four min_four
set_option linter.unusedVariables false
set_option linter.unusedSimpArgs false
def impl_LeastApart.f (k : Nat) (l0 : List (List Int)) : Option (Int × Int) := (impl_wordsCode.f l0 ([] : List (List Int))).bind fun t102 => (if t102 = 0 then ((impl_nearest__impl_LeastApart_1.f k (l0.length : Int) l0).bind fun bt103 => (if bt103.2.2.2 = true then (some (bt103.2.2.1,0)) else (some (0,6)))) else (some (0,t102)))
set_option maxHeartbeats 8000000 in
set_option maxRecDepth 100000 in
theorem impl_LeastApart.calls (k : Nat) (A0 : Option Addr) (c0 : Nat) (l0 : List (List Int)) (r1 : Int) (r2 : Int) (w : World) (hr0 : Kd.C (Kd.slice 5 (Kd.int .u8)) w A0 l0.length l0) (hc0 : l0.length ≤ c0) (h : impl_LeastApart.f k l0 = some (r1,r2)) :
  Calls Try.prog 11 #[.slice A0 l0.length c0] w fun e w' => e = .returned (.tuple #[.int .i64 r1,.int .i64 r2]) ∧ Below w.heap.size w w' := by
 have HR0 := Aside0.mk hr0;have HC0 := Aside0.mk hc0;clear hr0 hc0;have HB := Aside0.mk (Below.refl w.heap.size w);have H : ((impl_wordsCode.f l0 ([] : List (List Int))).bind fun t102 => (if t102 = 0 then ((impl_nearest__impl_LeastApart_1.f k (l0.length : Int) l0).bind fun bt103 => (if bt103.2.2.2 = true then (some (bt103.2.2.1,0)) else (some (0,6)))) else (some (0,t102)))) = some (r1,r2) := h;clear h;replace H := Option.bind_eq_some_iff.mp H;obtain ⟨t102,A20,H⟩ := H;replace H : (if t102 = 0 then ((impl_nearest__impl_LeastApart_1.f k (l0.length : Int) l0).bind fun bt103 => (if bt103.2.2.2 = true then (some (bt103.2.2.1,0)) else (some (0,6)))) else (some (0,t102))) = some (r1,r2) := H;have A2 := Aside0.mk A20;clear A20
 by_cases c3 : t102 = 0
 ·rw [if_pos c3] at H;have c3b0 : (t102 == 0) = true := beq_iff_eq.mpr c3;have c3b1 : (t102 != 0) = false := bne_eq_false_iff_eq.mpr c3;clear c3;replace H := Option.bind_eq_some_iff.mp H;obtain ⟨⟨t103,t104,t105,t106⟩,A40,H⟩ := H;replace H : (if t106 = true then (some (t105,0)) else (some (0,6))) = some (r1,r2) := H;have A4 := Aside0.mk A40;clear A40
  by_cases c5 : t106 = true
  ·subst c5
   have H1 : (some (t105,0)) = some (r1,r2) := by rw [if_pos rfl] at H;exact H
   clear H;have H := H1;clear H1;simp only [Option.some.injEq,Prod.mk.injEq] at H;obtain ⟨rfl,rfl⟩ := H
   go_enter Try.func11,Try.ntmps11
   go_wp2_with (first | ((with_reducible refine gate_dst (N := 1) rfl ?_);refine box_event ?hg (N := 1) ?hd (cs := #[.slice A0 l0.length c0]) (t := 25) ?hr ?_;(case hd => rfl);(case hg => rfl);(case hr => first | (go_simp;done) | (go_simp;rfl));intro gb101 hg w6 hbox hb;have n0_ := Aside0.mk (below_step (by repeat (first | (with_reducible first | exact HB.out | apply below_alloc | apply pw_below_drewN | apply below_drew1) | exact HB.out)) hb);have n1_ := Aside0.mk (hbox);have n2_ := Aside0.mk ((by rw [hg];exact (below_size (by repeat (first | (with_reducible first | exact HB.out | apply below_alloc | apply pw_below_drewN | apply below_drew1) | exact HB.out))) : w.heap.size ≤ gb101));have n3_ := Aside0.mk ((by rw [hg];exact (below_size (by repeat (first | (with_reducible first | exact HB.out | apply below_alloc | apply pw_below_drewN | apply below_drew1) | exact HB.out))) : w.heap.size ≤ gb101));clear HB;have HB := n0_;have BK101 := n1_;have GW101 := n2_;have GE101 := n3_;clear n0_ n1_ n2_ n3_;clear hb hbox hg;have hcz7_0 : w6.cell? ⟨gb101,0,none⟩ = some (.slice A0 l0.length c0) := (blk_cell BK101.out 0).trans rfl;have hfz7_0 := blk_frozen BK101.out 0) | ((with_reducible refine gate_callee (f := 36) rfl ?_);refine goesL_ (some 10) rfl rfl Try.func36 (by kernel_rfl) rfl #[.slice A0 l0.length c0,.slice none 0 0] rfl (by (try simp only [List.map_toArray,List.map_cons,List.map_nil]);first | done | rfl | (simp only [List.length_drop,List.length_take];rfl)) ?_;(refine (impl_wordsCode.calls _ _ l0 _ _ ([] : List (List Int)) t102 _ ?side1 ?side2 ?side3 ?side4 A2.out).mono ?_);(case side1 => repeat (first | exact (Kd.C_below HR0.out HB.out) | (with_reducible refine Kd.C_alloc ?_ _) | (with_reducible refine Kd.C_drewN ?_ _) | (with_reducible refine Kd.C_drew ?_)));(case side2 => exact HC0.out);(case side3 => exact Kd.C_nil _ _);(case side4 => exact Nat.le_refl _);rintro e w8 ⟨rfl,hb⟩;refine ⟨_,rfl,?_⟩;have n0_ := Aside0.mk (blk_below (g := gb101) (o := .cells #[.slice A0 l0.length c0] 25 (0,0)) (by (with_reducible repeat (first | refine blk_drewN ?_ _ | refine blk_drew ?_ | refine blk_alloc ?_ _));exact BK101.out) hb);have n1_ := Aside0.mk (below_step (by repeat (first | (with_reducible first | exact HB.out | apply below_alloc | apply pw_below_drewN | apply below_drew1 | refine below_set ?_ GE101.out) | exact HB.out)) hb);clear BK101;clear HB;have BK101 := n0_;have HB := n1_;clear n0_ n1_;(try clear hb);(try clear hb2);(try clear hk);(try clear hi);have hcz9_0 : w8.cell? ⟨gb101,0,none⟩ = some (.slice A0 l0.length c0) := (blk_cell BK101.out 0).trans rfl;have hfz9_0 := blk_frozen BK101.out 0) | ((with_reducible refine gate_callee (f := 37) rfl ?_);refine goesL_ (some 18) rfl rfl Try.func37 (by kernel_rfl) rfl #[.int .i64 (l0.length : Int),.func (.func 38) #[] #[.pointer (some ⟨gb101,0,none⟩)]] rfl (by (try simp only [List.map_toArray,List.map_cons,List.map_nil]);first | done | rfl | (simp only [List.length_drop,List.length_take];rfl)) ?_;(with_reducible refine (impl_nearest__impl_LeastApart_1.calls k (l0.length : Int) A0 c0 l0 gb101 t103 t104 t105 true _ ?side1 ?side2 ?side3 A4.out).mono ?_);(case side1 => repeat (first | exact (Kd.C_below HR0.out HB.out) | (with_reducible refine Kd.C_alloc ?_ _) | (with_reducible refine Kd.C_drewN ?_ _) | (with_reducible refine Kd.C_drew ?_)));(case side2 => exact HC0.out);(case side3 => (with_reducible repeat (first | refine blk_drewN ?_ _ | refine blk_drew ?_ | refine blk_alloc ?_ _));exact BK101.out);rintro e w' ⟨rfl,⟨nd,rfl⟩⟩;refine ⟨_,rfl,?_⟩))
   go_ret2
   exact ⟨by first | rfl | (simp [errW_none,errW_some,IntKind.wrap_i64,wrap64];done) | (simp [errW_none,errW_some] <;> rfl) | (simp [*,errW_none,errW_some] <;> rfl),by repeat (first | (with_reducible first | exact HB.out | apply below_alloc | apply pw_below_drewN | apply below_drew1 | refine below_set ?_ GE101.out) | exact HB.out)⟩
  ·replace c5 := Bool.eq_false_iff.mpr c5;subst c5
   have H1 : (some (0,6)) = some (r1,r2) := by rw [if_neg (show ¬ (false = true) by decide)] at H;exact H
   clear H;have H := H1;clear H1;simp only [Option.some.injEq,Prod.mk.injEq] at H;obtain ⟨rfl,rfl⟩ := H
   go_enter Try.func11,Try.ntmps11
   go_wp2_with (first | ((with_reducible refine gate_dst (N := 1) rfl ?_);refine box_event ?hg (N := 1) ?hd (cs := #[.slice A0 l0.length c0]) (t := 25) ?hr ?_;(case hd => rfl);(case hg => rfl);(case hr => first | (go_simp;done) | (go_simp;rfl));intro gb101 hg w10 hbox hb;have n0_ := Aside0.mk (below_step (by repeat (first | (with_reducible first | exact HB.out | apply below_alloc | apply pw_below_drewN | apply below_drew1) | exact HB.out)) hb);have n1_ := Aside0.mk (hbox);have n2_ := Aside0.mk ((by rw [hg];exact (below_size (by repeat (first | (with_reducible first | exact HB.out | apply below_alloc | apply pw_below_drewN | apply below_drew1) | exact HB.out))) : w.heap.size ≤ gb101));have n3_ := Aside0.mk ((by rw [hg];exact (below_size (by repeat (first | (with_reducible first | exact HB.out | apply below_alloc | apply pw_below_drewN | apply below_drew1) | exact HB.out))) : w.heap.size ≤ gb101));clear HB;have HB := n0_;have BK101 := n1_;have GW101 := n2_;have GE101 := n3_;clear n0_ n1_ n2_ n3_;clear hb hbox hg;have hcz11_0 : w10.cell? ⟨gb101,0,none⟩ = some (.slice A0 l0.length c0) := (blk_cell BK101.out 0).trans rfl;have hfz11_0 := blk_frozen BK101.out 0) | ((with_reducible refine gate_callee (f := 36) rfl ?_);refine goesL_ (some 10) rfl rfl Try.func36 (by kernel_rfl) rfl #[.slice A0 l0.length c0,.slice none 0 0] rfl (by (try simp only [List.map_toArray,List.map_cons,List.map_nil]);first | done | rfl | (simp only [List.length_drop,List.length_take];rfl)) ?_;(refine (impl_wordsCode.calls _ _ l0 _ _ ([] : List (List Int)) t102 _ ?side1 ?side2 ?side3 ?side4 A2.out).mono ?_);(case side1 => repeat (first | exact (Kd.C_below HR0.out HB.out) | (with_reducible refine Kd.C_alloc ?_ _) | (with_reducible refine Kd.C_drewN ?_ _) | (with_reducible refine Kd.C_drew ?_)));(case side2 => exact HC0.out);(case side3 => exact Kd.C_nil _ _);(case side4 => exact Nat.le_refl _);rintro e w12 ⟨rfl,hb⟩;refine ⟨_,rfl,?_⟩;have n0_ := Aside0.mk (blk_below (g := gb101) (o := .cells #[.slice A0 l0.length c0] 25 (0,0)) (by (with_reducible repeat (first | refine blk_drewN ?_ _ | refine blk_drew ?_ | refine blk_alloc ?_ _));exact BK101.out) hb);have n1_ := Aside0.mk (below_step (by repeat (first | (with_reducible first | exact HB.out | apply below_alloc | apply pw_below_drewN | apply below_drew1 | refine below_set ?_ GE101.out) | exact HB.out)) hb);clear BK101;clear HB;have BK101 := n0_;have HB := n1_;clear n0_ n1_;(try clear hb);(try clear hb2);(try clear hk);(try clear hi);have hcz13_0 : w12.cell? ⟨gb101,0,none⟩ = some (.slice A0 l0.length c0) := (blk_cell BK101.out 0).trans rfl;have hfz13_0 := blk_frozen BK101.out 0) | ((with_reducible refine gate_callee (f := 37) rfl ?_);refine goesL_ (some 18) rfl rfl Try.func37 (by kernel_rfl) rfl #[.int .i64 (l0.length : Int),.func (.func 38) #[] #[.pointer (some ⟨gb101,0,none⟩)]] rfl (by (try simp only [List.map_toArray,List.map_cons,List.map_nil]);first | done | rfl | (simp only [List.length_drop,List.length_take];rfl)) ?_;(with_reducible refine (impl_nearest__impl_LeastApart_1.calls k (l0.length : Int) A0 c0 l0 gb101 t103 t104 t105 false _ ?side1 ?side2 ?side3 A4.out).mono ?_);(case side1 => repeat (first | exact (Kd.C_below HR0.out HB.out) | (with_reducible refine Kd.C_alloc ?_ _) | (with_reducible refine Kd.C_drewN ?_ _) | (with_reducible refine Kd.C_drew ?_)));(case side2 => exact HC0.out);(case side3 => (with_reducible repeat (first | refine blk_drewN ?_ _ | refine blk_drew ?_ | refine blk_alloc ?_ _));exact BK101.out);rintro e w' ⟨rfl,⟨nd,rfl⟩⟩;refine ⟨_,rfl,?_⟩))
   go_ret2
   exact ⟨by first | rfl | (simp [errW_none,errW_some,IntKind.wrap_i64,wrap64];done) | (simp [errW_none,errW_some] <;> rfl) | (simp [*,errW_none,errW_some] <;> rfl),by repeat (first | (with_reducible first | exact HB.out | apply below_alloc | apply pw_below_drewN | apply below_drew1 | refine below_set ?_ GE101.out) | exact HB.out)⟩
 ·rw [if_neg c3] at H;have c3b0 : (t102 == 0) = false := beq_eq_false_iff_ne.mpr c3;have c3b1 : (t102 != 0) = true := bne_iff_ne.mpr c3;simp only [Option.some.injEq,Prod.mk.injEq] at H;obtain ⟨rfl,rfl⟩ := H
  go_enter Try.func11,Try.ntmps11
  go_wp2_with (first | ((with_reducible refine gate_dst (N := 1) rfl ?_);refine box_event ?hg (N := 1) ?hd (cs := #[.slice A0 l0.length c0]) (t := 25) ?hr ?_;(case hd => rfl);(case hg => rfl);(case hr => first | (go_simp;done) | (go_simp;rfl));intro gb101 hg w14 hbox hb;have n0_ := Aside0.mk (below_step (by repeat (first | (with_reducible first | exact HB.out | apply below_alloc | apply pw_below_drewN | apply below_drew1) | exact HB.out)) hb);have n1_ := Aside0.mk (hbox);have n2_ := Aside0.mk ((by rw [hg];exact (below_size (by repeat (first | (with_reducible first | exact HB.out | apply below_alloc | apply pw_below_drewN | apply below_drew1) | exact HB.out))) : w.heap.size ≤ gb101));have n3_ := Aside0.mk ((by rw [hg];exact (below_size (by repeat (first | (with_reducible first | exact HB.out | apply below_alloc | apply pw_below_drewN | apply below_drew1) | exact HB.out))) : w.heap.size ≤ gb101));clear HB;have HB := n0_;have BK101 := n1_;have GW101 := n2_;have GE101 := n3_;clear n0_ n1_ n2_ n3_;clear hb hbox hg;have hcz15_0 : w14.cell? ⟨gb101,0,none⟩ = some (.slice A0 l0.length c0) := (blk_cell BK101.out 0).trans rfl;have hfz15_0 := blk_frozen BK101.out 0) | ((with_reducible refine gate_callee (f := 36) rfl ?_);refine goesL_ (some 10) rfl rfl Try.func36 (by kernel_rfl) rfl #[.slice A0 l0.length c0,.slice none 0 0] rfl (by (try simp only [List.map_toArray,List.map_cons,List.map_nil]);first | done | rfl | (simp only [List.length_drop,List.length_take];rfl)) ?_;(refine (impl_wordsCode.calls _ _ l0 _ _ ([] : List (List Int)) t102 _ ?side1 ?side2 ?side3 ?side4 A2.out).mono ?_);(case side1 => repeat (first | exact (Kd.C_below HR0.out HB.out) | (with_reducible refine Kd.C_alloc ?_ _) | (with_reducible refine Kd.C_drewN ?_ _) | (with_reducible refine Kd.C_drew ?_)));(case side2 => exact HC0.out);(case side3 => exact Kd.C_nil _ _);(case side4 => exact Nat.le_refl _);rintro e w16 ⟨rfl,hb⟩;refine ⟨_,rfl,?_⟩;have n0_ := Aside0.mk (blk_below (g := gb101) (o := .cells #[.slice A0 l0.length c0] 25 (0,0)) (by (with_reducible repeat (first | refine blk_drewN ?_ _ | refine blk_drew ?_ | refine blk_alloc ?_ _));exact BK101.out) hb);have n1_ := Aside0.mk (below_step (by repeat (first | (with_reducible first | exact HB.out | apply below_alloc | apply pw_below_drewN | apply below_drew1 | refine below_set ?_ GE101.out) | exact HB.out)) hb);clear BK101;clear HB;have BK101 := n0_;have HB := n1_;clear n0_ n1_;(try clear hb);(try clear hb2);(try clear hk);(try clear hi)))
  go_ret2
  exact ⟨by first | rfl | (simp [errW_none,errW_some,IntKind.wrap_i64,wrap64];done) | (simp [errW_none,errW_some] <;> rfl) | (simp [*,errW_none,errW_some] <;> rfl),by repeat (first | (with_reducible first | exact HB.out | apply below_alloc | apply pw_below_drewN | apply below_drew1 | refine below_set ?_ GE101.out) | exact HB.out)⟩
end Go.Proofs.Ytmcdedmnekeibaa.G
end

section
namespace Go.Proofs.Ytmcdedmnekeibaa.G
open Go.RowKit Go.Proofs.YtmcdedmnekeibaaW.PrintWords Go.Proofs.YtmcdedmnekeibaaW.PrintLast Go.Proofs.YtmcdedmnekeibaaW.PrintMore
attribute [local go_sem] max2_int min2_int max_two min_two max_three min_three max_four min_four
set_option linter.unusedVariables false
set_option linter.unusedSimpArgs false
def impl_LettersApart.j0 : Nat → List Int → List Int → Bool → Option (Int × Int)
 | 0,_,_,_ => none
 | k + 1,x0,x1,x6 => if x6 = true then (some (0,1)) else (if (x0.length : Int) = (x1.length : Int) then ((impl_unlike.f k x0 x1).bind fun t103 => (some (t103,0))) else (some (0,2)))
def impl_LettersApart.f (k : Nat) (l0 : List Int) (l1 : List Int) : Option (Int × Int) := (impl_Word_isWord.f l0 37).bind fun t101 => (if t101 = true then ((impl_Word_isWord.f l1 37).bind fun t102 => (impl_LettersApart.j0 k l0 l1 (!t102))) else (impl_LettersApart.j0 k l0 l1 true))
set_option maxHeartbeats 8000000 in
set_option maxRecDepth 100000 in
theorem impl_LettersApart.calls (k : Nat) (A0 : Option Addr) (c0 : Nat) (l0 : List Int) (A1 : Option Addr) (c1 : Nat) (l1 : List Int) (r1 : Int) (r2 : Int) (w : World) (hr0 : Kd.C (Kd.int .u8) w A0 l0.length l0) (hc0 : l0.length ≤ c0) (hr1 : Kd.C (Kd.int .u8) w A1 l1.length l1) (hc1 : l1.length ≤ c1) (h : impl_LettersApart.f k l0 l1 = some (r1,r2)) :
  Calls Try.prog 15 #[.slice A0 l0.length c0,.slice A1 l1.length c1] w fun e w' => e = .returned (.tuple #[.int .i64 r1,.int .i64 r2]) ∧ Below w.heap.size w w' := by
 have HR0 := Aside0.mk hr0;have HC0 := Aside0.mk hc0;clear hr0 hc0;have HR1 := Aside0.mk hr1;have HC1 := Aside0.mk hc1;clear hr1 hc1;have HB := Aside0.mk (Below.refl w.heap.size w);have H : ((impl_Word_isWord.f l0 37).bind fun t101 => (if t101 = true then ((impl_Word_isWord.f l1 37).bind fun t102 => (impl_LettersApart.j0 k l0 l1 (!t102))) else (impl_LettersApart.j0 k l0 l1 true))) = some (r1,r2) := h;clear h;have HC3 := Aside0.mk H;clear H
 go_enter Try.func15,Try.ntmps15
 go_upto_region 1 with (fail)
 go_cut [6] (fun v6 wc => ∃ (kq : Nat) (x6_2 : Bool),v6 = .bool x6_2 ∧ Aside0 (impl_LettersApart.j0 kq l0 l1 x6_2 = some (r1,r2)) ∧ Aside0 (kq ≤ k) ∧ Aside0 (Below w.heap.size w wc))
 case first =>
  have H := HC3.out;clear HC3;replace H := Option.bind_eq_some_iff.mp H;obtain ⟨t101,A40,H⟩ := H;replace H : (if t101 = true then ((impl_Word_isWord.f l1 37).bind fun t102 => (impl_LettersApart.j0 k l0 l1 (!t102))) else (impl_LettersApart.j0 k l0 l1 true)) = some (r1,r2) := H;have A4 := Aside0.mk A40;clear A40
  by_cases c5 : t101 = true
  ·subst c5
   have H1 : ((impl_Word_isWord.f l1 37).bind fun t102 => (impl_LettersApart.j0 k l0 l1 (!t102))) = some (r1,r2) := by rw [if_pos rfl] at H;exact H
   clear H;have H := H1;clear H1;replace H := Option.bind_eq_some_iff.mp H;obtain ⟨t102,A60,H⟩ := H;replace H : (impl_LettersApart.j0 k l0 l1 (!t102)) = some (r1,r2) := H;have A6 := Aside0.mk A60;clear A60;have H' := Aside0.mk H;clear H
   go_wp2_with (first | ((with_reducible refine gate_callee (f := 42) rfl ?_);refine goesL_ (some 8) rfl rfl Try.func42 (by kernel_rfl) rfl #[.slice A0 l0.length c0,.int .i64 37] rfl (by (try simp only [List.map_toArray,List.map_cons,List.map_nil]);first | done | rfl | (simp only [List.length_drop,List.length_take];rfl)) ?_;(with_reducible refine (impl_Word_isWord.calls _ _ l0 37 true _ ?side1 ?side2 A4.out).mono ?_);(case side1 => repeat (first | exact (Kd.C_below HR0.out HB.out) | (with_reducible refine Kd.C_alloc ?_ _) | (with_reducible refine Kd.C_drewN ?_ _) | (with_reducible refine Kd.C_drew ?_)));(case side2 => exact HC0.out);rintro e w7 ⟨rfl,hb⟩;refine ⟨_,rfl,?_⟩;have n0_ := Aside0.mk (below_step (by repeat (first | (with_reducible first | exact HB.out | apply below_alloc | apply pw_below_drewN | apply below_drew1) | exact HB.out)) hb);clear HB;have HB := n0_;clear n0_;(try clear hb);(try clear hb2);(try clear hk);(try clear hi)) | (go_at_call 42;(with_reducible refine (impl_Word_isWord.calls _ _ l1 37 t102 _ ?side1 ?side2 A6.out).mono ?_);(case side1 => repeat (first | exact (Kd.C_below HR1.out HB.out) | (with_reducible refine Kd.C_alloc ?_ _) | (with_reducible refine Kd.C_drewN ?_ _) | (with_reducible refine Kd.C_drew ?_)));(case side2 => exact HC1.out);rintro e w8 ⟨rfl,hb⟩;have n0_ := Aside0.mk (below_step (by repeat (first | (with_reducible first | exact HB.out | apply below_alloc | apply pw_below_drewN | apply below_drew1) | exact HB.out)) hb);clear HB;have HB := n0_;clear n0_;(try clear hb);(try clear hb2);(try clear hk);(try clear hi)))
   go_meet
   case rel => exact ⟨_,(!t102),(by first | rfl | (simp only [IntKind.wrap_i64,wrap64];done) | (simp;done) | (simp [*];done)),H',⟨by first | omega | exact Nat.le_refl _⟩,⟨by repeat (first | (with_reducible first | exact HB.out | apply below_alloc | apply pw_below_drewN | apply below_drew1) | exact HB.out)⟩⟩
  ·replace c5 := Bool.eq_false_iff.mpr c5;subst c5
   have H1 : (impl_LettersApart.j0 k l0 l1 true) = some (r1,r2) := by rw [if_neg (show ¬ (false = true) by decide)] at H;exact H
   clear H;have H := H1;clear H1;have H' := Aside0.mk H;clear H
   go_wp2_with (first | ((with_reducible refine gate_callee (f := 42) rfl ?_);refine goesL_ (some 8) rfl rfl Try.func42 (by kernel_rfl) rfl #[.slice A0 l0.length c0,.int .i64 37] rfl (by (try simp only [List.map_toArray,List.map_cons,List.map_nil]);first | done | rfl | (simp only [List.length_drop,List.length_take];rfl)) ?_;(with_reducible refine (impl_Word_isWord.calls _ _ l0 37 false _ ?side1 ?side2 A4.out).mono ?_);(case side1 => repeat (first | exact (Kd.C_below HR0.out HB.out) | (with_reducible refine Kd.C_alloc ?_ _) | (with_reducible refine Kd.C_drewN ?_ _) | (with_reducible refine Kd.C_drew ?_)));(case side2 => exact HC0.out);rintro e w9 ⟨rfl,hb⟩;refine ⟨_,rfl,?_⟩;have n0_ := Aside0.mk (below_step (by repeat (first | (with_reducible first | exact HB.out | apply below_alloc | apply pw_below_drewN | apply below_drew1) | exact HB.out)) hb);clear HB;have HB := n0_;clear n0_;(try clear hb);(try clear hb2);(try clear hk);(try clear hi)))
   go_meet
   case rel => exact ⟨_,(true),(by first | rfl | (simp only [IntKind.wrap_i64,wrap64];done) | (simp;done) | (simp [*];done)),H',⟨by first | omega | exact Nat.le_refl _⟩,⟨by repeat (first | (with_reducible first | exact HB.out | apply below_alloc | apply pw_below_drewN | apply below_drew1) | exact HB.out)⟩⟩
 case rest =>
  clear HC3;(try clear c1);(try clear p2);(try clear c4);(try clear c5);obtain ⟨kq,x6_2,rfl,HA,HJ2,HB⟩ := hcut
  cases kq with
  | zero => exact absurd HA.out (by simp [impl_LettersApart.j0])
  | succ kj2 =>
   have H := HA.out;clear HA;simp only [impl_LettersApart.j0] at H
   by_cases c10 : x6_2 = true
   ·subst c10
    have H1 : (some (0,1)) = some (r1,r2) := by rw [if_pos rfl] at H;exact H
    clear H;have H := H1;clear H1;simp only [Option.some.injEq,Prod.mk.injEq] at H;obtain ⟨rfl,rfl⟩ := H
    go_wp2
    go_ret2
    exact ⟨by first | rfl | (simp [errW_none,errW_some,IntKind.wrap_i64,wrap64];done) | (simp [errW_none,errW_some] <;> rfl) | (simp [*,errW_none,errW_some] <;> rfl),by repeat (first | (with_reducible first | exact HB.out | apply below_alloc | apply pw_below_drewN | apply below_drew1) | exact HB.out)⟩
   ·replace c10 := Bool.eq_false_iff.mpr c10;subst c10
    have H1 : (if (l0.length : Int) = (l1.length : Int) then ((impl_unlike.f kj2 l0 l1).bind fun t103 => (some (t103,0))) else (some (0,2))) = some (r1,r2) := by rw [if_neg (show ¬ (false = true) by decide)] at H;exact H
    clear H;have H := H1;clear H1
    by_cases c11 : (l0.length : Int) = (l1.length : Int)
    ·rw [if_pos c11] at H;have c11b0 : ((l0.length : Int) == (l1.length : Int)) = true := beq_iff_eq.mpr c11;have c11b1 : ((l0.length : Int) != (l1.length : Int)) = false := bne_eq_false_iff_eq.mpr c11
     have c11b2 : (l0.length == l1.length) = true := by first | simpa using c11 | (simp at c11 ⊢;omega)
     clear c11;replace H := Option.bind_eq_some_iff.mp H;obtain ⟨t103,A120,H⟩ := H;replace H : (some (t103,0)) = some (r1,r2) := H;have A12 := Aside0.mk A120;clear A120;simp only [Option.some.injEq,Prod.mk.injEq] at H;obtain ⟨rfl,rfl⟩ := H
     go_wp2_with (first | ((with_reducible refine gate_callee (f := 27) rfl ?_);refine goesL_ (some 23) rfl rfl Try.func27 (by kernel_rfl) rfl #[.slice A0 l0.length c0,.slice A1 l1.length c1] rfl (by (try simp only [List.map_toArray,List.map_cons,List.map_nil]);first | done | rfl | (simp only [List.length_drop,List.length_take];rfl)) ?_;(with_reducible refine (impl_unlike.calls kj2 _ _ l0 _ _ l1 t103 _ ?side1 ?side2 ?side3 ?side4 A12.out).mono ?_);(case side1 => repeat (first | exact (Kd.C_below HR0.out HB.out) | (with_reducible refine Kd.C_alloc ?_ _) | (with_reducible refine Kd.C_drewN ?_ _) | (with_reducible refine Kd.C_drew ?_)));(case side2 => exact HC0.out);(case side3 => repeat (first | exact (Kd.C_below HR1.out HB.out) | (with_reducible refine Kd.C_alloc ?_ _) | (with_reducible refine Kd.C_drewN ?_ _) | (with_reducible refine Kd.C_drew ?_)));(case side4 => exact HC1.out);rintro e w' ⟨rfl,⟨nd,rfl⟩⟩;refine ⟨_,rfl,?_⟩))
     go_ret2
     exact ⟨by first | rfl | (simp [errW_none,errW_some,IntKind.wrap_i64,wrap64];done) | (simp [errW_none,errW_some] <;> rfl) | (simp [*,errW_none,errW_some] <;> rfl),by repeat (first | (with_reducible first | exact HB.out | apply below_alloc | apply pw_below_drewN | apply below_drew1) | exact HB.out)⟩
    ·rw [if_neg c11] at H;have c11b0 : ((l0.length : Int) == (l1.length : Int)) = false := beq_eq_false_iff_ne.mpr c11;have c11b1 : ((l0.length : Int) != (l1.length : Int)) = true := bne_iff_ne.mpr c11
     have c11b2 : (l0.length == l1.length) = false := by first | simpa using c11 | (simp at c11 ⊢;omega)
     simp only [Option.some.injEq,Prod.mk.injEq] at H;obtain ⟨rfl,rfl⟩ := H
     go_wp2
     go_ret2
     exact ⟨by first | rfl | (simp [errW_none,errW_some,IntKind.wrap_i64,wrap64];done) | (simp [errW_none,errW_some] <;> rfl) | (simp [*,errW_none,errW_some] <;> rfl),by repeat (first | (with_reducible first | exact HB.out | apply below_alloc | apply pw_below_drewN | apply below_drew1) | exact HB.out)⟩
end Go.Proofs.Ytmcdedmnekeibaa.G
end

section
namespace Go.Proofs.Ytmcdedmnekeibaa.G
open Go.RowKit Go.Proofs.YtmcdedmnekeibaaW.PrintWords Go.Proofs.YtmcdedmnekeibaaW.PrintLast Go.Proofs.YtmcdedmnekeibaaW.PrintMore
attribute [local go_sem] max2_int min2_int max_two min_two max_three min_three max_four min_four
set_option linter.unusedVariables false
set_option linter.unusedSimpArgs false
def slices_Equal_Word_uint8.l0 : Nat → List Int → List Int → Int → Int → Option (Bool)
 | 0,_,_,_,_ => none
 | k + 1,x0,x1,x12,x13 => if x13 < x12 then (if 0 ≤ x13 then (if x13 < (x0.length : Int) then (if x13 < (x1.length : Int) then (if (rd x0 x13) = (rd x1 x13) then (slices_Equal_Word_uint8.l0 k x0 x1 x12 (wrap64 (x13 + 1))) else (some false)) else (none)) else (none)) else (none)) else (some true)
def slices_Equal_Word_uint8.f (k : Nat) (l0 : List Int) (l1 : List Int) : Option (Bool) := if (l0.length : Int) = (l1.length : Int) then (slices_Equal_Word_uint8.l0 k l0 l1 (l0.length : Int) 0) else (some false)
set_option maxHeartbeats 8000000 in
set_option maxRecDepth 100000 in
theorem slices_Equal_Word_uint8.calls (k : Nat) (A0 : Option Addr) (c0 : Nat) (l0 : List Int) (A1 : Option Addr) (c1 : Nat) (l1 : List Int) (r : Bool) (w : World) (hr0 : Kd.C (Kd.int .u8) w A0 l0.length l0) (hc0 : l0.length ≤ c0) (hr1 : Kd.C (Kd.int .u8) w A1 l1.length l1) (hc1 : l1.length ≤ c1) (h : slices_Equal_Word_uint8.f k l0 l1 = some r) :
  Calls Try.prog 35 #[.slice A0 l0.length c0,.slice A1 l1.length c1] w fun e w' => e = .returned (.bool r) ∧ Drawn0 w w' := by
 have HR0 := Aside0.mk hr0;have HC0 := Aside0.mk hc0;clear hr0 hc0;have HR1 := Aside0.mk hr1;have HC1 := Aside0.mk hc1;clear hr1 hc1;have H : (if (l0.length : Int) = (l1.length : Int) then (slices_Equal_Word_uint8.l0 k l0 l1 (l0.length : Int) 0) else (some false)) = some r := h;clear h
 by_cases c3 : (l0.length : Int) = (l1.length : Int)
 ·rw [if_pos c3] at H;have c3b0 : ((l0.length : Int) == (l1.length : Int)) = true := beq_iff_eq.mpr c3;have c3b1 : ((l0.length : Int) != (l1.length : Int)) = false := bne_eq_false_iff_eq.mpr c3
  have c3b2 : (l0.length == l1.length) = true := by first | simpa using c3 | (simp at c3 ⊢;omega)
  clear c3;have H' := Aside0.mk H;clear H
  go_enter Try.func35,Try.ntmps35
  go_wp2
  repeat (go_quiet (fail);try go_wp2)
  go_loopg [13] k (fun kq v13 w' => ∃ (x13_1 : Int),v13 = .int .i64 x13_1 ∧ Aside0 (slices_Equal_Word_uint8.l0 kq l0 l1 (l0.length : Int) x13_1 = some r) ∧ Aside0 (kq ≤ k) ∧ Drawn0 w w')
  case atStart => exact ⟨(0),(by first | rfl | (simp only [IntKind.wrap_i64,wrap64];done) | (simp;done) | (simp [*];done)),H',⟨Nat.le_refl _⟩,by repeat (first | exact Drawn0.refl _ | apply Drawn0.step)⟩
  case round =>
   clear H';(try clear c1);(try clear p2);(try clear c3);(try clear c3b0);(try clear c3b1);(try clear c3b2);obtain ⟨x13_1,rfl,HA,HK1,⟨m1,rfl⟩⟩ := hrel
   cases gk with
   | zero => exact absurd HA.out (by simp [slices_Equal_Word_uint8.l0])
   | succ k1 =>
    have H := HA.out;clear HA;simp only [slices_Equal_Word_uint8.l0] at H
    by_cases c4 : x13_1 < (l0.length : Int)
    ·rw [if_pos c4] at H;have c4b0 : decide (x13_1 < (l0.length : Int)) = true := decide_eq_true c4;clear c4
     by_cases c5 : 0 ≤ x13_1
     ·rw [if_pos c5] at H;have c5b0 : decide (0 ≤ x13_1) = true := decide_eq_true c5;clear c5
      by_cases c6 : x13_1 < (l0.length : Int)
      ·rw [if_pos c6] at H;have c6b0 : decide (x13_1 < (l0.length : Int)) = true := decide_eq_true c6;clear c6
       by_cases c7 : x13_1 < (l1.length : Int)
       ·rw [if_pos c7] at H;have c7b0 : decide (x13_1 < (l1.length : Int)) = true := decide_eq_true c7;clear c7
        by_cases c8 : (rd l0 x13_1) = (rd l1 x13_1)
        ·rw [if_pos c8] at H;have c8b0 : ((rd l0 x13_1) == (rd l1 x13_1)) = true := beq_iff_eq.mpr c8;have c8b1 : ((rd l0 x13_1) != (rd l1 x13_1)) = false := bne_eq_false_iff_eq.mpr c8;clear c8;have H' := Aside0.mk H;clear H;have p101 : 0 ≤ (x13_1 : Int) := of_decide_eq_true (by first | (with_reducible assumption) | assumption);have q101 : x13_1 < (l0.length : Int) := of_decide_eq_true (by first | (with_reducible assumption) | assumption);obtain ⟨ad101,e101,hx101_0⟩ := Kd.at_int HR0.out x13_1 p101 q101;cases e101;replace p101 := eq_true p101;replace q101 := eq_true q101;have p102 : 0 ≤ (x13_1 : Int) := of_decide_eq_true (by first | (with_reducible assumption) | assumption);have q102 : x13_1 < (l1.length : Int) := of_decide_eq_true (by first | (with_reducible assumption) | assumption);obtain ⟨ad102,e102,hx102_0⟩ := Kd.at_int HR1.out x13_1 p102 q102;cases e102;replace p102 := eq_true p102;replace q102 := eq_true q102
         go_wp2
         repeat (go_quiet (fail);try go_wp2)
         go_roundg k1
         case measure => have := HK1.out;omega
         case rel => exact ⟨(wrap64 (x13_1 + 1)),(by first | rfl | (simp only [IntKind.wrap_i64,wrap64];done) | (simp;done) | (simp [*];done)),H',⟨by have := HK1.out;omega⟩,by repeat (first | exact Drawn0.refl _ | apply Drawn0.step)⟩
        ·rw [if_neg c8] at H;have c8b0 : ((rd l0 x13_1) == (rd l1 x13_1)) = false := beq_eq_false_iff_ne.mpr c8;have c8b1 : ((rd l0 x13_1) != (rd l1 x13_1)) = true := bne_iff_ne.mpr c8;obtain rfl := Option.some.inj H;have p101 : 0 ≤ (x13_1 : Int) := of_decide_eq_true (by first | (with_reducible assumption) | assumption);have q101 : x13_1 < (l0.length : Int) := of_decide_eq_true (by first | (with_reducible assumption) | assumption);obtain ⟨ad101,e101,hx101_0⟩ := Kd.at_int HR0.out x13_1 p101 q101;cases e101;replace p101 := eq_true p101;replace q101 := eq_true q101;have p102 : 0 ≤ (x13_1 : Int) := of_decide_eq_true (by first | (with_reducible assumption) | assumption);have q102 : x13_1 < (l1.length : Int) := of_decide_eq_true (by first | (with_reducible assumption) | assumption);obtain ⟨ad102,e102,hx102_0⟩ := Kd.at_int HR1.out x13_1 p102 q102;cases e102;replace p102 := eq_true p102;replace q102 := eq_true q102
         go_wp2
         repeat (go_quiet (fail);try go_wp2)
         go_ret
         exact ⟨by first | rfl | (simp only [IntKind.wrap_i64,wrap64];done) | (simp;done) | (simp [*];done),by repeat (first | exact Drawn0.refl _ | apply Drawn0.step)⟩
       ·rw [if_neg c7] at H;exact absurd H (by simp)
      ·rw [if_neg c6] at H;exact absurd H (by simp)
     ·rw [if_neg c5] at H;exact absurd H (by simp)
    ·rw [if_neg c4] at H;have c4b0 : decide (x13_1 < (l0.length : Int)) = false := decide_eq_false c4;clear c4;obtain rfl := Option.some.inj H
     go_wp2
     repeat (go_quiet (fail);try go_wp2)
     go_ret
     exact ⟨by first | rfl | (simp only [IntKind.wrap_i64,wrap64];done) | (simp;done) | (simp [*];done),by repeat (first | exact Drawn0.refl _ | apply Drawn0.step)⟩
 ·rw [if_neg c3] at H;have c3b0 : ((l0.length : Int) == (l1.length : Int)) = false := beq_eq_false_iff_ne.mpr c3;have c3b1 : ((l0.length : Int) != (l1.length : Int)) = true := bne_iff_ne.mpr c3
  have c3b2 : (l0.length == l1.length) = false := by first | simpa using c3 | (simp at c3 ⊢;omega)
  obtain rfl := Option.some.inj H
  go_enter Try.func35,Try.ntmps35
  go_wp2
  repeat (go_quiet (fail);try go_wp2)
  go_ret
  exact ⟨by first | rfl | (simp only [IntKind.wrap_i64,wrap64];done) | (simp;done) | (simp [*];done),by repeat (first | exact Drawn0.refl _ | apply Drawn0.step)⟩
end Go.Proofs.Ytmcdedmnekeibaa.G
end

section
namespace Go.Proofs.Ytmcdedmnekeibaa.G
open Go.RowKit Go.Proofs.YtmcdedmnekeibaaW.PrintWords Go.Proofs.YtmcdedmnekeibaaW.PrintLast Go.Proofs.YtmcdedmnekeibaaW.PrintMore
attribute [local go_sem] max2_int min2_int max_two min_two max_three min_three max_four min_four
set_option linter.unusedVariables false
set_option linter.unusedSimpArgs false
def slices_EqualFunc_Word_Word_Word_Word__slices_Equal_Word_uint8.l0 : Nat → List (List Int) → List (List Int) → Int → Int → Option (Bool)
 | 0,_,_,_,_ => none
 | k + 1,x1,x15,x16,x17 => if x17 < x16 then (if 0 ≤ x17 then (if x17 < (x15.length : Int) then (if x17 < (x1.length : Int) then ((slices_Equal_Word_uint8.f k (rd_L2 x15 x17) (rd_L2 x1 x17)).bind fun t103 => (if t103 = true then (slices_EqualFunc_Word_Word_Word_Word__slices_Equal_Word_uint8.l0 k x1 x15 x16 (wrap64 (x17 + 1))) else (some false))) else (none)) else (none)) else (none)) else (some true)
def slices_EqualFunc_Word_Word_Word_Word__slices_Equal_Word_uint8.f (k : Nat) (l0 : List (List Int)) (l1 : List (List Int)) : Option (Bool) := if (l0.length : Int) = (l1.length : Int) then (slices_EqualFunc_Word_Word_Word_Word__slices_Equal_Word_uint8.l0 k l1 l0 (l0.length : Int) 0) else (some false)
set_option maxHeartbeats 8000000 in
set_option maxRecDepth 100000 in
theorem slices_EqualFunc_Word_Word_Word_Word__slices_Equal_Word_uint8.calls (k : Nat) (A0 : Option Addr) (c0 : Nat) (l0 : List (List Int)) (A1 : Option Addr) (c1 : Nat) (l1 : List (List Int)) (r : Bool) (w : World) (hr0 : Kd.C (Kd.slice 5 (Kd.int .u8)) w A0 l0.length l0) (hc0 : l0.length ≤ c0) (hr1 : Kd.C (Kd.slice 5 (Kd.int .u8)) w A1 l1.length l1) (hc1 : l1.length ≤ c1) (h : slices_EqualFunc_Word_Word_Word_Word__slices_Equal_Word_uint8.f k l0 l1 = some r) :
  Calls Try.prog 34 #[.slice A0 l0.length c0,.slice A1 l1.length c1,.func (.func 35) #[] #[]] w fun e w' => e = .returned (.bool r) ∧ Drawn0 w w' := by
 have HR0 := Aside0.mk hr0;have HC0 := Aside0.mk hc0;clear hr0 hc0;have HR1 := Aside0.mk hr1;have HC1 := Aside0.mk hc1;clear hr1 hc1;have H : (if (l0.length : Int) = (l1.length : Int) then (slices_EqualFunc_Word_Word_Word_Word__slices_Equal_Word_uint8.l0 k l1 l0 (l0.length : Int) 0) else (some false)) = some r := h;clear h
 by_cases c3 : (l0.length : Int) = (l1.length : Int)
 ·rw [if_pos c3] at H;have c3b0 : ((l0.length : Int) == (l1.length : Int)) = true := beq_iff_eq.mpr c3;have c3b1 : ((l0.length : Int) != (l1.length : Int)) = false := bne_eq_false_iff_eq.mpr c3
  have c3b2 : (l0.length == l1.length) = true := by first | simpa using c3 | (simp at c3 ⊢;omega)
  clear c3;have H' := Aside0.mk H;clear H
  go_enter Try.func34,Try.ntmps34
  go_wp2
  go_loopg [17] k (fun kq v17 w' => ∃ (x17_1 : Int),v17 = .int .i64 x17_1 ∧ Aside0 (slices_EqualFunc_Word_Word_Word_Word__slices_Equal_Word_uint8.l0 kq l1 l0 (l0.length : Int) x17_1 = some r) ∧ Aside0 (kq ≤ k) ∧ Drawn0 w w')
  case atStart => exact ⟨(0),(by first | rfl | (simp only [IntKind.wrap_i64,wrap64];done) | (simp;done) | (simp [*];done)),H',⟨Nat.le_refl _⟩,by repeat (first | exact Drawn0.refl _ | apply Drawn0.step)⟩
  case round =>
   clear H';(try clear c1);(try clear p2);(try clear c3);(try clear c3b0);(try clear c3b1);(try clear c3b2);obtain ⟨x17_1,rfl,HA,HK1,⟨m1,rfl⟩⟩ := hrel
   cases gk with
   | zero => exact absurd HA.out (by simp [slices_EqualFunc_Word_Word_Word_Word__slices_Equal_Word_uint8.l0])
   | succ k1 =>
    have H := HA.out;clear HA;simp only [slices_EqualFunc_Word_Word_Word_Word__slices_Equal_Word_uint8.l0] at H
    by_cases c4 : x17_1 < (l0.length : Int)
    ·rw [if_pos c4] at H;have c4b0 : decide (x17_1 < (l0.length : Int)) = true := decide_eq_true c4;clear c4
     by_cases c5 : 0 ≤ x17_1
     ·rw [if_pos c5] at H;have c5b0 : decide (0 ≤ x17_1) = true := decide_eq_true c5;clear c5
      by_cases c6 : x17_1 < (l0.length : Int)
      ·rw [if_pos c6] at H;have c6b0 : decide (x17_1 < (l0.length : Int)) = true := decide_eq_true c6;clear c6
       by_cases c7 : x17_1 < (l1.length : Int)
       ·rw [if_pos c7] at H;have c7b0 : decide (x17_1 < (l1.length : Int)) = true := decide_eq_true c7;clear c7;replace H := Option.bind_eq_some_iff.mp H;obtain ⟨t103,A80,H⟩ := H;replace H : (if t103 = true then (slices_EqualFunc_Word_Word_Word_Word__slices_Equal_Word_uint8.l0 k1 l1 l0 (l0.length : Int) (wrap64 (x17_1 + 1))) else (some false)) = some r := H;have A8 := Aside0.mk A80;clear A80
        by_cases c9 : t103 = true
        ·subst c9
         have H1 : (slices_EqualFunc_Word_Word_Word_Word__slices_Equal_Word_uint8.l0 k1 l1 l0 (l0.length : Int) (wrap64 (x17_1 + 1))) = some r := by rw [if_pos rfl] at H;exact H
         clear H;have H := H1;clear H1;have H' := Aside0.mk H;clear H;have p101 : 0 ≤ (x17_1 : Int) := of_decide_eq_true (by first | (with_reducible assumption) | assumption);have q101 : x17_1 < (l0.length : Int) := of_decide_eq_true (by first | (with_reducible assumption) | assumption);obtain ⟨ad101,A101_0,c101_0,e101,hx101_0,hl101_0,hi101_0⟩ := at_L2 HR0.out x17_1 p101 q101;cases e101;have HR101_0 := Aside0.mk hi101_0;have HC101_0 := Aside0.mk hl101_0;clear hi101_0 hl101_0;replace p101 := eq_true p101;replace q101 := eq_true q101;have p102 : 0 ≤ (x17_1 : Int) := of_decide_eq_true (by first | (with_reducible assumption) | assumption);have q102 : x17_1 < (l1.length : Int) := of_decide_eq_true (by first | (with_reducible assumption) | assumption);obtain ⟨ad102,A102_0,c102_0,e102,hx102_0,hl102_0,hi102_0⟩ := at_L2 HR1.out x17_1 p102 q102;cases e102;have HR102_0 := Aside0.mk hi102_0;have HC102_0 := Aside0.mk hl102_0;clear hi102_0 hl102_0;replace p102 := eq_true p102;replace q102 := eq_true q102
         go_wp2_with (first | ((with_reducible refine gate_calleeD rfl ?_);refine goesLD_ (some 29) rfl rfl Try.func35 (by kernel_rfl) rfl #[] #[.slice A101_0 (rd_L2 l0 x17_1).length c101_0,.slice A102_0 (rd_L2 l1 x17_1).length c102_0] rfl rfl (by (try simp only [List.map_toArray,List.map_cons,List.map_nil]);first | done | rfl | (simp only [List.length_drop,List.length_take];rfl)) ?_;(with_reducible refine (slices_Equal_Word_uint8.calls k1 _ _ (rd_L2 l0 x17_1) _ _ (rd_L2 l1 x17_1) true _ ?side1 ?side2 ?side3 ?side4 A8.out).mono ?_);(case side1 => repeat (first | exact HR101_0.out | (with_reducible refine Kd.C_alloc ?_ _) | (with_reducible refine Kd.C_drewN ?_ _) | (with_reducible refine Kd.C_drew ?_)));(case side2 => exact HC101_0.out);(case side3 => repeat (first | exact HR102_0.out | (with_reducible refine Kd.C_alloc ?_ _) | (with_reducible refine Kd.C_drewN ?_ _) | (with_reducible refine Kd.C_drew ?_)));(case side4 => exact HC102_0.out);rintro e w' ⟨rfl,⟨nd,rfl⟩⟩;refine ⟨_,rfl,?_⟩))
         go_roundg k1
         case measure => have := HK1.out;omega
         case rel => exact ⟨(wrap64 (x17_1 + 1)),(by first | rfl | (simp only [IntKind.wrap_i64,wrap64];done) | (simp;done) | (simp [*];done)),H',⟨by have := HK1.out;omega⟩,by repeat (first | exact Drawn0.refl _ | apply Drawn0.step)⟩
        ·replace c9 := Bool.eq_false_iff.mpr c9;subst c9
         have H1 : (some false) = some r := by rw [if_neg (show ¬ (false = true) by decide)] at H;exact H
         clear H;have H := H1;clear H1;obtain rfl := Option.some.inj H;have p101 : 0 ≤ (x17_1 : Int) := of_decide_eq_true (by first | (with_reducible assumption) | assumption);have q101 : x17_1 < (l0.length : Int) := of_decide_eq_true (by first | (with_reducible assumption) | assumption);obtain ⟨ad101,A101_0,c101_0,e101,hx101_0,hl101_0,hi101_0⟩ := at_L2 HR0.out x17_1 p101 q101;cases e101;have HR101_0 := Aside0.mk hi101_0;have HC101_0 := Aside0.mk hl101_0;clear hi101_0 hl101_0;replace p101 := eq_true p101;replace q101 := eq_true q101;have p102 : 0 ≤ (x17_1 : Int) := of_decide_eq_true (by first | (with_reducible assumption) | assumption);have q102 : x17_1 < (l1.length : Int) := of_decide_eq_true (by first | (with_reducible assumption) | assumption);obtain ⟨ad102,A102_0,c102_0,e102,hx102_0,hl102_0,hi102_0⟩ := at_L2 HR1.out x17_1 p102 q102;cases e102;have HR102_0 := Aside0.mk hi102_0;have HC102_0 := Aside0.mk hl102_0;clear hi102_0 hl102_0;replace p102 := eq_true p102;replace q102 := eq_true q102
         go_wp2_with (first | ((with_reducible refine gate_calleeD rfl ?_);refine goesLD_ (some 29) rfl rfl Try.func35 (by kernel_rfl) rfl #[] #[.slice A101_0 (rd_L2 l0 x17_1).length c101_0,.slice A102_0 (rd_L2 l1 x17_1).length c102_0] rfl rfl (by (try simp only [List.map_toArray,List.map_cons,List.map_nil]);first | done | rfl | (simp only [List.length_drop,List.length_take];rfl)) ?_;(with_reducible refine (slices_Equal_Word_uint8.calls k1 _ _ (rd_L2 l0 x17_1) _ _ (rd_L2 l1 x17_1) false _ ?side1 ?side2 ?side3 ?side4 A8.out).mono ?_);(case side1 => repeat (first | exact HR101_0.out | (with_reducible refine Kd.C_alloc ?_ _) | (with_reducible refine Kd.C_drewN ?_ _) | (with_reducible refine Kd.C_drew ?_)));(case side2 => exact HC101_0.out);(case side3 => repeat (first | exact HR102_0.out | (with_reducible refine Kd.C_alloc ?_ _) | (with_reducible refine Kd.C_drewN ?_ _) | (with_reducible refine Kd.C_drew ?_)));(case side4 => exact HC102_0.out);rintro e w' ⟨rfl,⟨nd,rfl⟩⟩;refine ⟨_,rfl,?_⟩))
         go_ret
         exact ⟨by first | rfl | (simp only [IntKind.wrap_i64,wrap64];done) | (simp;done) | (simp [*];done),by repeat (first | exact Drawn0.refl _ | apply Drawn0.step)⟩
       ·rw [if_neg c7] at H;exact absurd H (by simp)
      ·rw [if_neg c6] at H;exact absurd H (by simp)
     ·rw [if_neg c5] at H;exact absurd H (by simp)
    ·rw [if_neg c4] at H;have c4b0 : decide (x17_1 < (l0.length : Int)) = false := decide_eq_false c4;clear c4;obtain rfl := Option.some.inj H
     go_wp2
     go_ret
     exact ⟨by first | rfl | (simp only [IntKind.wrap_i64,wrap64];done) | (simp;done) | (simp [*];done),by repeat (first | exact Drawn0.refl _ | apply Drawn0.step)⟩
 ·rw [if_neg c3] at H;have c3b0 : ((l0.length : Int) == (l1.length : Int)) = false := beq_eq_false_iff_ne.mpr c3;have c3b1 : ((l0.length : Int) != (l1.length : Int)) = true := bne_iff_ne.mpr c3
  have c3b2 : (l0.length == l1.length) = false := by first | simpa using c3 | (simp at c3 ⊢;omega)
  obtain rfl := Option.some.inj H
  go_enter Try.func34,Try.ntmps34
  go_wp2
  go_ret
  exact ⟨by first | rfl | (simp only [IntKind.wrap_i64,wrap64];done) | (simp;done) | (simp [*];done),by repeat (first | exact Drawn0.refl _ | apply Drawn0.step)⟩
end Go.Proofs.Ytmcdedmnekeibaa.G
end

section
namespace Go.Proofs.Ytmcdedmnekeibaa.G
open Go.RowKit Go.Proofs.YtmcdedmnekeibaaW.PrintWords Go.Proofs.YtmcdedmnekeibaaW.PrintLast Go.Proofs.YtmcdedmnekeibaaW.PrintMore
attribute [local go_sem] max2_int min2_int max_two min_two max_three min_three max_four min_four
set_option linter.unusedVariables false
set_option linter.unusedSimpArgs false
def impl_SameWords.f (k : Nat) (l0 : List (List Int)) (l1 : List (List Int)) : Option (Bool) := (slices_EqualFunc_Word_Word_Word_Word__slices_Equal_Word_uint8.f k l0 l1).bind fun t101 => (some t101)
set_option maxHeartbeats 8000000 in
set_option maxRecDepth 100000 in
theorem impl_SameWords.calls (k : Nat) (A0 : Option Addr) (c0 : Nat) (l0 : List (List Int)) (A1 : Option Addr) (c1 : Nat) (l1 : List (List Int)) (r : Bool) (w : World) (hr0 : Kd.C (Kd.slice 5 (Kd.int .u8)) w A0 l0.length l0) (hc0 : l0.length ≤ c0) (hr1 : Kd.C (Kd.slice 5 (Kd.int .u8)) w A1 l1.length l1) (hc1 : l1.length ≤ c1) (h : impl_SameWords.f k l0 l1 = some r) :
  Calls Try.prog 10 #[.slice A0 l0.length c0,.slice A1 l1.length c1] w fun e w' => e = .returned (.bool r) ∧ Below w.heap.size w w' := by
 have HR0 := Aside0.mk hr0;have HC0 := Aside0.mk hc0;clear hr0 hc0;have HR1 := Aside0.mk hr1;have HC1 := Aside0.mk hc1;clear hr1 hc1;have HB := Aside0.mk (Below.refl w.heap.size w);have H : ((slices_EqualFunc_Word_Word_Word_Word__slices_Equal_Word_uint8.f k l0 l1).bind fun t101 => (some t101)) = some r := h;clear h;replace H := Option.bind_eq_some_iff.mp H;obtain ⟨t101,A30,H⟩ := H;replace H : (some t101) = some r := H;have A3 := Aside0.mk A30;clear A30;obtain rfl := Option.some.inj H
 go_enter Try.func10,Try.ntmps10
 go_wp2_with (first | ((with_reducible refine gate_callee (f := 34) rfl ?_);refine goesL_ (some 7) rfl rfl Try.func34 (by kernel_rfl) rfl #[.slice A0 l0.length c0,.slice A1 l1.length c1,.func (.func 35) #[] #[]] rfl (by (try simp only [List.map_toArray,List.map_cons,List.map_nil]);first | done | rfl | (simp only [List.length_drop,List.length_take];rfl)) ?_;(with_reducible refine (slices_EqualFunc_Word_Word_Word_Word__slices_Equal_Word_uint8.calls k _ _ l0 _ _ l1 t101 _ ?side1 ?side2 ?side3 ?side4 A3.out).mono ?_);(case side1 => repeat (first | exact HR0.out | (with_reducible refine Kd.C_alloc ?_ _) | (with_reducible refine Kd.C_drewN ?_ _) | (with_reducible refine Kd.C_drew ?_)));(case side2 => exact HC0.out);(case side3 => repeat (first | exact HR1.out | (with_reducible refine Kd.C_alloc ?_ _) | (with_reducible refine Kd.C_drewN ?_ _) | (with_reducible refine Kd.C_drew ?_)));(case side4 => exact HC1.out);rintro e w' ⟨rfl,⟨nd,rfl⟩⟩;refine ⟨_,rfl,?_⟩))
 go_ret
 exact ⟨by first | rfl | (simp [errW_none,errW_some,IntKind.wrap_i64,wrap64];done) | (simp [errW_none,errW_some] <;> rfl) | (simp [*,errW_none,errW_some] <;> rfl),by repeat (first | (with_reducible first | exact HB.out | apply below_alloc | apply pw_below_drewN | apply below_drew1) | exact HB.out)⟩
end Go.Proofs.Ytmcdedmnekeibaa.G
end

section
namespace Go.Proofs.Ytmcdedmnekeibaa.G
open Go.RowKit Go.Proofs.YtmcdedmnekeibaaW.PrintWords Go.Proofs.YtmcdedmnekeibaaW.PrintLast Go.Proofs.YtmcdedmnekeibaaW.PrintMore
attribute [local go_sem] max2_int min2_int max_two min_two max_three min_three max_four min_four
set_option linter.unusedVariables false
set_option linter.unusedSimpArgs false
def impl_SphereBound.l0 : Nat → Int → Int → Int → Int → Int → Int → Option (Int × Int)
 | 0,_,_,_,_,_,_ => none
 | k + 1,x0,x1,x2,x9,x10,x11 => if x11 ≤ (wrap64 (Int.tdiv (wrap64 (x2 - 1)) 2)) then ((impl_power.f k (wrap64 (x0 - 1)) x11).bind fun t102 => (if (wrap64 (x11 + 1)) = 0 then (none) else (impl_SphereBound.l0 k x0 x1 x2 (wrap64 (x9 + (wrap64 (x10 * t102)))) (wrap64 (Int.tdiv (wrap64 (x10 * (wrap64 (x1 - x11)))) (wrap64 (x11 + 1)))) (wrap64 (x11 + 1))))) else ((impl_power.f k x0 x1).bind fun t103 => (if x9 = 0 then (none) else (some (wrap64 (Int.tdiv t103 x9),0))))
def impl_SphereBound.f (k : Nat) (a0 : Int) (a1 : Int) (a2 : Int) : Option (Int × Int) := (impl_apartCode.f a0 a1 a2).bind fun t101 => (if t101 = 0 then (impl_SphereBound.l0 k a0 a1 a2 0 1 0) else (some (0,t101)))
set_option maxHeartbeats 8000000 in
set_option maxRecDepth 100000 in
theorem impl_SphereBound.calls (k : Nat) (a0 : Int) (a1 : Int) (a2 : Int) (r1 : Int) (r2 : Int) (w : World) (h : impl_SphereBound.f k a0 a1 a2 = some (r1,r2)) :
  Calls Try.prog 8 #[.int .i64 a0,.int .i64 a1,.int .i64 a2] w fun e w' => e = .returned (.tuple #[.int .i64 r1,.int .i64 r2]) ∧ Drawn0 w w' := by
 have H : ((impl_apartCode.f a0 a1 a2).bind fun t101 => (if t101 = 0 then (impl_SphereBound.l0 k a0 a1 a2 0 1 0) else (some (0,t101)))) = some (r1,r2) := h;clear h;replace H := Option.bind_eq_some_iff.mp H;obtain ⟨t101,A40,H⟩ := H;replace H : (if t101 = 0 then (impl_SphereBound.l0 k a0 a1 a2 0 1 0) else (some (0,t101))) = some (r1,r2) := H;have A4 := Aside0.mk A40;clear A40
 by_cases c5 : t101 = 0
 ·rw [if_pos c5] at H;have c5b0 : (t101 == 0) = true := beq_iff_eq.mpr c5;have c5b1 : (t101 != 0) = false := bne_eq_false_iff_eq.mpr c5;clear c5;have H' := Aside0.mk H;clear H
  go_enter Try.func8,Try.ntmps8
  go_wp2_with (first | ((with_reducible refine gate_callee (f := 19) rfl ?_);refine goesL_ (some 15) rfl rfl Try.func19 (by kernel_rfl) rfl #[.int .i64 a0,.int .i64 a1,.int .i64 a2] rfl (by (try simp only [List.map_toArray,List.map_cons,List.map_nil]);first | done | rfl | (simp only [List.length_drop,List.length_take];rfl)) ?_;(with_reducible refine (impl_apartCode.calls a0 a1 a2 t101 _ A4.out).mono ?_);rintro e w' ⟨rfl,⟨nd,rfl⟩⟩;refine ⟨_,rfl,?_⟩))
  go_loopg [9,10,11] k (fun kq v9 v10 v11 w' => ∃ (x9_1 : Int) (x10_1 : Int) (x11_1 : Int),v9 = .int .i64 x9_1 ∧ v10 = .int .i64 x10_1 ∧ v11 = .int .i64 x11_1 ∧ Aside0 (impl_SphereBound.l0 kq a0 a1 a2 x9_1 x10_1 x11_1 = some (r1,r2)) ∧ Aside0 (kq ≤ k) ∧ Drawn0 w w')
  case atStart => exact ⟨(0),(1),(0),(by first | rfl | (simp only [IntKind.wrap_i64,wrap64];done) | (simp;done) | (simp [*];done)),(by first | rfl | (simp only [IntKind.wrap_i64,wrap64];done) | (simp;done) | (simp [*];done)),(by first | rfl | (simp only [IntKind.wrap_i64,wrap64];done) | (simp;done) | (simp [*];done)),H',⟨Nat.le_refl _⟩,by repeat (first | exact Drawn0.refl _ | apply Drawn0.step)⟩
  case round =>
   clear H';(try clear c1);(try clear p2);(try clear c5);(try clear c5b0);(try clear c5b1);obtain ⟨x9_1,x10_1,x11_1,rfl,rfl,rfl,HA,HK1,⟨m1,rfl⟩⟩ := hrel
   cases gk with
   | zero => exact absurd HA.out (by simp [impl_SphereBound.l0])
   | succ k1 =>
    have H := HA.out;clear HA;simp only [impl_SphereBound.l0] at H
    by_cases c6 : x11_1 ≤ (wrap64 (Int.tdiv (wrap64 (a2 - 1)) 2))
    ·rw [if_pos c6] at H;have c6b0 : decide (x11_1 ≤ (wrap64 (Int.tdiv (wrap64 (a2 - 1)) 2))) = true := decide_eq_true c6;clear c6;replace H := Option.bind_eq_some_iff.mp H;obtain ⟨t102,A70,H⟩ := H;replace H : (if (wrap64 (x11_1 + 1)) = 0 then (none) else (impl_SphereBound.l0 k1 a0 a1 a2 (wrap64 (x9_1 + (wrap64 (x10_1 * t102)))) (wrap64 (Int.tdiv (wrap64 (x10_1 * (wrap64 (a1 - x11_1)))) (wrap64 (x11_1 + 1)))) (wrap64 (x11_1 + 1)))) = some (r1,r2) := H;have A7 := Aside0.mk A70;clear A70
     by_cases c8 : (wrap64 (x11_1 + 1)) = 0
     ·rw [if_pos c8] at H;exact absurd H (by simp)
     ·rw [if_neg c8] at H;have c8b0 : ((wrap64 (x11_1 + 1)) == 0) = false := beq_eq_false_iff_ne.mpr c8;have c8b1 : ((wrap64 (x11_1 + 1)) != 0) = true := bne_iff_ne.mpr c8;have H' := Aside0.mk H;clear H
      go_wp2_with (first | ((with_reducible refine gate_callee (f := 22) rfl ?_);refine goesL_ (some 31) rfl rfl Try.func22 (by kernel_rfl) rfl #[.int .i64 (wrap64 (a0 - 1)),.int .i64 x11_1] rfl (by (try simp only [List.map_toArray,List.map_cons,List.map_nil]);first | done | rfl | (simp only [List.length_drop,List.length_take];rfl)) ?_;(with_reducible refine (impl_power.calls k1 (wrap64 (a0 - 1)) x11_1 t102 _ A7.out).mono ?_);rintro e w' ⟨rfl,⟨nd,rfl⟩⟩;refine ⟨_,rfl,?_⟩))
      go_roundg k1
      case measure => have := HK1.out;omega
      case rel => exact ⟨(wrap64 (x9_1 + (wrap64 (x10_1 * t102)))),(wrap64 (Int.tdiv (wrap64 (x10_1 * (wrap64 (a1 - x11_1)))) (wrap64 (x11_1 + 1)))),(wrap64 (x11_1 + 1)),(by first | rfl | (simp only [IntKind.wrap_i64,wrap64];done) | (simp;done) | (simp [*];done)),(by first | rfl | (simp only [IntKind.wrap_i64,wrap64];done) | (simp;done) | (simp [*];done)),(by first | rfl | (simp only [IntKind.wrap_i64,wrap64];done) | (simp;done) | (simp [*];done)),H',⟨by have := HK1.out;omega⟩,by repeat (first | exact Drawn0.refl _ | apply Drawn0.step)⟩
    ·rw [if_neg c6] at H;have c6b0 : decide (x11_1 ≤ (wrap64 (Int.tdiv (wrap64 (a2 - 1)) 2))) = false := decide_eq_false c6;clear c6;replace H := Option.bind_eq_some_iff.mp H;obtain ⟨t103,A90,H⟩ := H;replace H : (if x9_1 = 0 then (none) else (some (wrap64 (Int.tdiv t103 x9_1),0))) = some (r1,r2) := H;have A9 := Aside0.mk A90;clear A90
     by_cases c10 : x9_1 = 0
     ·rw [if_pos c10] at H;exact absurd H (by simp)
     ·rw [if_neg c10] at H;have c10b0 : (x9_1 == 0) = false := beq_eq_false_iff_ne.mpr c10;have c10b1 : (x9_1 != 0) = true := bne_iff_ne.mpr c10;simp only [Option.some.injEq,Prod.mk.injEq] at H;obtain ⟨rfl,rfl⟩ := H
      go_wp2_with (first | ((with_reducible refine gate_callee (f := 22) rfl ?_);refine goesL_ (some 44) rfl rfl Try.func22 (by kernel_rfl) rfl #[.int .i64 a0,.int .i64 a1] rfl (by (try simp only [List.map_toArray,List.map_cons,List.map_nil]);first | done | rfl | (simp only [List.length_drop,List.length_take];rfl)) ?_;(with_reducible refine (impl_power.calls k1 a0 a1 t103 _ A9.out).mono ?_);rintro e w' ⟨rfl,⟨nd,rfl⟩⟩;refine ⟨_,rfl,?_⟩))
      go_ret2
      exact ⟨by first | rfl | (simp only [IntKind.wrap_i64,wrap64];done) | (simp;done) | (simp [*];done),by repeat (first | exact Drawn0.refl _ | apply Drawn0.step)⟩
 ·rw [if_neg c5] at H;have c5b0 : (t101 == 0) = false := beq_eq_false_iff_ne.mpr c5;have c5b1 : (t101 != 0) = true := bne_iff_ne.mpr c5;simp only [Option.some.injEq,Prod.mk.injEq] at H;obtain ⟨rfl,rfl⟩ := H
  go_enter Try.func8,Try.ntmps8
  go_wp2_with (first | ((with_reducible refine gate_callee (f := 19) rfl ?_);refine goesL_ (some 15) rfl rfl Try.func19 (by kernel_rfl) rfl #[.int .i64 a0,.int .i64 a1,.int .i64 a2] rfl (by (try simp only [List.map_toArray,List.map_cons,List.map_nil]);first | done | rfl | (simp only [List.length_drop,List.length_take];rfl)) ?_;(with_reducible refine (impl_apartCode.calls a0 a1 a2 t101 _ A4.out).mono ?_);rintro e w' ⟨rfl,⟨nd,rfl⟩⟩;refine ⟨_,rfl,?_⟩))
  go_ret2
  exact ⟨by first | rfl | (simp only [IntKind.wrap_i64,wrap64];done) | (simp;done) | (simp [*];done),by repeat (first | exact Drawn0.refl _ | apply Drawn0.step)⟩
end Go.Proofs.Ytmcdedmnekeibaa.G
end

section
namespace Go.Proofs.Ytmcdedmnekeibaa.G
open Go.RowKit Go.Proofs.YtmcdedmnekeibaaW.PrintWords Go.Proofs.YtmcdedmnekeibaaW.PrintLast Go.Proofs.YtmcdedmnekeibaaW.PrintMore
attribute [local go_sem] max2_int min2_int max_two min_two max_three min_three max_four min_four
set_option linter.unusedVariables false
set_option linter.unusedSimpArgs false
def laws_f6big.f (l0 : List Int) : Option (Bool) := some (decide ((l0.length : Int) > 4096))
set_option maxHeartbeats 8000000 in
set_option maxRecDepth 100000 in
theorem laws_f6big.calls (A0 : Option Addr) (c0 : Nat) (l0 : List Int) (r : Bool) (w : World) (hr0 : Kd.C (Kd.int .u8) w A0 l0.length l0) (hc0 : l0.length ≤ c0) (h : laws_f6big.f l0 = some r) :
  Calls Try.prog 4 #[.slice A0 l0.length c0] w fun e w' => e = .returned (.bool r) ∧ Drawn0 w w' := by
 have HR0 := Aside0.mk hr0;have HC0 := Aside0.mk hc0;clear hr0 hc0;have H : (some (decide ((l0.length : Int) > 4096))) = some r := h;clear h;obtain rfl := Option.some.inj H
 go_enter Try.func4,Try.ntmps4
 go_wp2
 go_ret
 exact ⟨by first | rfl | (simp only [IntKind.wrap_i64,wrap64];done) | (simp;done) | (simp [*];done),by repeat (first | exact Drawn0.refl _ | apply Drawn0.step)⟩
end Go.Proofs.Ytmcdedmnekeibaa.G
end

section
namespace Go.Proofs.Ytmcdedmnekeibaa.G
open Go.RowKit Go.Proofs.YtmcdedmnekeibaaW.PrintWords Go.Proofs.YtmcdedmnekeibaaW.PrintLast Go.Proofs.YtmcdedmnekeibaaW.PrintMore
attribute [local go_sem] max2_int min2_int max_two min_two max_three min_three max_four min_four
set_option linter.unusedVariables false
set_option linter.unusedSimpArgs false
def spec_l00In.f (a0 : Int) (a1 : Int) (a2 : Int) : Option (Bool) := if a0 ≥ a1 then (some (decide (a0 ≤ a2))) else (some false)
set_option maxHeartbeats 8000000 in
set_option maxRecDepth 100000 in
theorem spec_l00In.calls (a0 : Int) (a1 : Int) (a2 : Int) (r : Bool) (w : World) (h : spec_l00In.f a0 a1 a2 = some r) :
  Calls Try.prog 29 #[.int .i64 a0,.int .i64 a1,.int .i64 a2] w fun e w' => e = .returned (.bool r) ∧ Drawn0 w w' := by
 have H : (if a0 ≥ a1 then (some (decide (a0 ≤ a2))) else (some false)) = some r := h;clear h
 by_cases c4 : a0 ≥ a1
 ·rw [if_pos c4] at H;have c4b0 : decide (a1 ≤ a0) = true := decide_eq_true c4;clear c4;obtain rfl := Option.some.inj H
  go_enter Try.func29,Try.ntmps29
  go_wp2
  go_ret
  exact ⟨by first | rfl | (simp only [IntKind.wrap_i64,wrap64];done) | (simp;done) | (simp [*];done),by repeat (first | exact Drawn0.refl _ | apply Drawn0.step)⟩
 ·rw [if_neg c4] at H;have c4b0 : decide (a1 ≤ a0) = false := decide_eq_false c4;clear c4;obtain rfl := Option.some.inj H
  go_enter Try.func29,Try.ntmps29
  go_wp2
  go_ret
  exact ⟨by first | rfl | (simp only [IntKind.wrap_i64,wrap64];done) | (simp;done) | (simp [*];done),by repeat (first | exact Drawn0.refl _ | apply Drawn0.step)⟩
end Go.Proofs.Ytmcdedmnekeibaa.G
end

section
namespace Go.Proofs.Ytmcdedmnekeibaa.G
open Go.RowKit Go.Proofs.YtmcdedmnekeibaaW.PrintWords Go.Proofs.YtmcdedmnekeibaaW.PrintLast Go.Proofs.YtmcdedmnekeibaaW.PrintMore
attribute [local go_sem] max2_int min2_int max_two min_two max_three min_three max_four min_four
set_option linter.unusedVariables false
set_option linter.unusedSimpArgs false
def spec_l05Apart.l0 : Nat → List Int → List Int → Int → Int → Option (Int)
 | 0,_,_,_,_ => none
 | k + 1,x0,x1,x5,x6 => if x6 < (x0.length : Int) then (if 0 ≤ x6 then (if x6 < (x1.length : Int) then (if (rd x0 x6) = (rd x1 x6) then (spec_l05Apart.l0 k x0 x1 x5 (wrap64 (x6 + 1))) else (spec_l05Apart.l0 k x0 x1 (wrap64 (x5 + 1)) (wrap64 (x6 + 1)))) else (none)) else (none)) else (some x5)
def spec_l05Apart.f (k : Nat) (l0 : List Int) (l1 : List Int) : Option (Int) := spec_l05Apart.l0 k l0 l1 0 0
set_option maxHeartbeats 8000000 in
set_option maxRecDepth 100000 in
theorem spec_l05Apart.calls (k : Nat) (A0 : Option Addr) (c0 : Nat) (l0 : List Int) (A1 : Option Addr) (c1 : Nat) (l1 : List Int) (r : Int) (w : World) (hr0 : Kd.C (Kd.int .u8) w A0 l0.length l0) (hc0 : l0.length ≤ c0) (hr1 : Kd.C (Kd.int .u8) w A1 l1.length l1) (hc1 : l1.length ≤ c1) (h : spec_l05Apart.f k l0 l1 = some r) :
  Calls Try.prog 32 #[.slice A0 l0.length c0,.slice A1 l1.length c1] w fun e w' => e = .returned (.int .i64 r) ∧ Drawn0 w w' := by
 have HR0 := Aside0.mk hr0;have HC0 := Aside0.mk hc0;clear hr0 hc0;have HR1 := Aside0.mk hr1;have HC1 := Aside0.mk hc1;clear hr1 hc1;have H : (spec_l05Apart.l0 k l0 l1 0 0) = some r := h;clear h;have H' := Aside0.mk H;clear H
 go_enter Try.func32,Try.ntmps32
 go_wp2
 repeat (go_quiet (fail);try go_wp2)
 go_loopg [5,6] k (fun kq v5 v6 w' => ∃ (x5_1 : Int) (x6_1 : Int),v5 = .int .i64 x5_1 ∧ v6 = .int .i64 x6_1 ∧ Aside0 (spec_l05Apart.l0 kq l0 l1 x5_1 x6_1 = some r) ∧ Aside0 (kq ≤ k) ∧ Drawn0 w w')
 case atStart => exact ⟨(0),(0),(by first | rfl | (simp only [IntKind.wrap_i64,wrap64];done) | (simp;done) | (simp [*];done)),(by first | rfl | (simp only [IntKind.wrap_i64,wrap64];done) | (simp;done) | (simp [*];done)),H',⟨Nat.le_refl _⟩,by repeat (first | exact Drawn0.refl _ | apply Drawn0.step)⟩
 case round =>
  clear H';(try clear c1);(try clear p2);obtain ⟨x5_1,x6_1,rfl,rfl,HA,HK1,⟨m1,rfl⟩⟩ := hrel
  cases gk with
  | zero => exact absurd HA.out (by simp [spec_l05Apart.l0])
  | succ k1 =>
   have H := HA.out;clear HA;simp only [spec_l05Apart.l0] at H
   by_cases c3 : x6_1 < (l0.length : Int)
   ·rw [if_pos c3] at H;have c3b0 : decide (x6_1 < (l0.length : Int)) = true := decide_eq_true c3;clear c3
    by_cases c4 : 0 ≤ x6_1
    ·rw [if_pos c4] at H;have c4b0 : decide (0 ≤ x6_1) = true := decide_eq_true c4;clear c4
     by_cases c5 : x6_1 < (l1.length : Int)
     ·rw [if_pos c5] at H;have c5b0 : decide (x6_1 < (l1.length : Int)) = true := decide_eq_true c5;clear c5
      by_cases c6 : (rd l0 x6_1) = (rd l1 x6_1)
      ·rw [if_pos c6] at H;have c6b0 : ((rd l0 x6_1) == (rd l1 x6_1)) = true := beq_iff_eq.mpr c6;have c6b1 : ((rd l0 x6_1) != (rd l1 x6_1)) = false := bne_eq_false_iff_eq.mpr c6;clear c6;have H' := Aside0.mk H;clear H;have p101 : 0 ≤ (x6_1 : Int) := of_decide_eq_true (by first | (with_reducible assumption) | assumption);have q101 : x6_1 < (l0.length : Int) := of_decide_eq_true (by first | (with_reducible assumption) | assumption);obtain ⟨ad101,e101,hx101_0⟩ := Kd.at_int HR0.out x6_1 p101 q101;cases e101;replace p101 := eq_true p101;replace q101 := eq_true q101;have p102 : 0 ≤ (x6_1 : Int) := of_decide_eq_true (by first | (with_reducible assumption) | assumption);have q102 : x6_1 < (l1.length : Int) := of_decide_eq_true (by first | (with_reducible assumption) | assumption);obtain ⟨ad102,e102,hx102_0⟩ := Kd.at_int HR1.out x6_1 p102 q102;cases e102;replace p102 := eq_true p102;replace q102 := eq_true q102
       go_wp2
       repeat (go_quiet (fail);try go_wp2)
       go_roundg k1
       case measure => have := HK1.out;omega
       case rel => exact ⟨(x5_1),(wrap64 (x6_1 + 1)),(by first | rfl | (simp only [IntKind.wrap_i64,wrap64];done) | (simp;done) | (simp [*];done)),(by first | rfl | (simp only [IntKind.wrap_i64,wrap64];done) | (simp;done) | (simp [*];done)),H',⟨by have := HK1.out;omega⟩,by repeat (first | exact Drawn0.refl _ | apply Drawn0.step)⟩
      ·rw [if_neg c6] at H;have c6b0 : ((rd l0 x6_1) == (rd l1 x6_1)) = false := beq_eq_false_iff_ne.mpr c6;have c6b1 : ((rd l0 x6_1) != (rd l1 x6_1)) = true := bne_iff_ne.mpr c6;have H' := Aside0.mk H;clear H;have p101 : 0 ≤ (x6_1 : Int) := of_decide_eq_true (by first | (with_reducible assumption) | assumption);have q101 : x6_1 < (l0.length : Int) := of_decide_eq_true (by first | (with_reducible assumption) | assumption);obtain ⟨ad101,e101,hx101_0⟩ := Kd.at_int HR0.out x6_1 p101 q101;cases e101;replace p101 := eq_true p101;replace q101 := eq_true q101;have p102 : 0 ≤ (x6_1 : Int) := of_decide_eq_true (by first | (with_reducible assumption) | assumption);have q102 : x6_1 < (l1.length : Int) := of_decide_eq_true (by first | (with_reducible assumption) | assumption);obtain ⟨ad102,e102,hx102_0⟩ := Kd.at_int HR1.out x6_1 p102 q102;cases e102;replace p102 := eq_true p102;replace q102 := eq_true q102
       go_wp2
       repeat (go_quiet (fail);try go_wp2)
       go_roundg k1
       case measure => have := HK1.out;omega
       case rel => exact ⟨(wrap64 (x5_1 + 1)),(wrap64 (x6_1 + 1)),(by first | rfl | (simp only [IntKind.wrap_i64,wrap64];done) | (simp;done) | (simp [*];done)),(by first | rfl | (simp only [IntKind.wrap_i64,wrap64];done) | (simp;done) | (simp [*];done)),H',⟨by have := HK1.out;omega⟩,by repeat (first | exact Drawn0.refl _ | apply Drawn0.step)⟩
     ·rw [if_neg c5] at H;exact absurd H (by simp)
    ·rw [if_neg c4] at H;exact absurd H (by simp)
   ·rw [if_neg c3] at H;have c3b0 : decide (x6_1 < (l0.length : Int)) = false := decide_eq_false c3;clear c3;obtain rfl := Option.some.inj H
    go_wp2
    repeat (go_quiet (fail);try go_wp2)
    go_ret
    exact ⟨by first | rfl | (simp only [IntKind.wrap_i64,wrap64];done) | (simp;done) | (simp [*];done),by repeat (first | exact Drawn0.refl _ | apply Drawn0.step)⟩
end Go.Proofs.Ytmcdedmnekeibaa.G
end

section
namespace Go.Proofs.Ytmcdedmnekeibaa.G
open Go.RowKit Go.Proofs.YtmcdedmnekeibaaW.PrintWords Go.Proofs.YtmcdedmnekeibaaW.PrintLast Go.Proofs.YtmcdedmnekeibaaW.PrintMore
attribute [local go_sem] max2_int min2_int max_two min_two max_three min_three max_four min_four
set_option linter.unusedVariables false
set_option linter.unusedSimpArgs false
def spec_l05Word.l0 : Nat → List Int → Int → Option (Bool)
 | 0,_,_ => none
 | k + 1,x0,x3 => if x3 < (x0.length : Int) then (if 0 ≤ x3 then (if (rd x0 x3) ≥ 37 then (some false) else (spec_l05Word.l0 k x0 (wrap64 (x3 + 1)))) else (none)) else ((spec_l00In.f (x0.length : Int) 1 8).bind fun t102 => (some t102))
def spec_l05Word.f (k : Nat) (l0 : List Int) : Option (Bool) := spec_l05Word.l0 k l0 0
set_option maxHeartbeats 8000000 in
set_option maxRecDepth 100000 in
theorem spec_l05Word.calls (k : Nat) (A0 : Option Addr) (c0 : Nat) (l0 : List Int) (r : Bool) (w : World) (hr0 : Kd.C (Kd.int .u8) w A0 l0.length l0) (hc0 : l0.length ≤ c0) (h : spec_l05Word.f k l0 = some r) :
  Calls Try.prog 41 #[.slice A0 l0.length c0] w fun e w' => e = .returned (.bool r) ∧ Drawn0 w w' := by
 have HR0 := Aside0.mk hr0;have HC0 := Aside0.mk hc0;clear hr0 hc0;have H : (spec_l05Word.l0 k l0 0) = some r := h;clear h;have H' := Aside0.mk H;clear H
 go_enter Try.func41,Try.ntmps41
 go_wp2
 go_loopg [3] k (fun kq v3 w' => ∃ (x3_1 : Int),v3 = .int .i64 x3_1 ∧ Aside0 (spec_l05Word.l0 kq l0 x3_1 = some r) ∧ Aside0 (kq ≤ k) ∧ Drawn0 w w')
 case atStart => exact ⟨(0),(by first | rfl | (simp only [IntKind.wrap_i64,wrap64];done) | (simp;done) | (simp [*];done)),H',⟨Nat.le_refl _⟩,by repeat (first | exact Drawn0.refl _ | apply Drawn0.step)⟩
 case round =>
  clear H';obtain ⟨x3_1,rfl,HA,HK1,⟨m1,rfl⟩⟩ := hrel
  cases gk with
  | zero => exact absurd HA.out (by simp [spec_l05Word.l0])
  | succ k1 =>
   have H := HA.out;clear HA;simp only [spec_l05Word.l0] at H
   by_cases c2 : x3_1 < (l0.length : Int)
   ·rw [if_pos c2] at H;have c2b0 : decide (x3_1 < (l0.length : Int)) = true := decide_eq_true c2;clear c2
    by_cases c3 : 0 ≤ x3_1
    ·rw [if_pos c3] at H;have c3b0 : decide (0 ≤ x3_1) = true := decide_eq_true c3;clear c3
     by_cases c4 : (rd l0 x3_1) ≥ 37
     ·rw [if_pos c4] at H;have c4b0 : decide (37 ≤ (rd l0 x3_1)) = true := decide_eq_true c4;clear c4;obtain rfl := Option.some.inj H;have p101 : 0 ≤ (x3_1 : Int) := of_decide_eq_true (by first | (with_reducible assumption) | assumption);have q101 : x3_1 < (l0.length : Int) := of_decide_eq_true (by first | (with_reducible assumption) | assumption);obtain ⟨ad101,e101,hx101_0⟩ := Kd.at_int HR0.out x3_1 p101 q101;cases e101;replace p101 := eq_true p101;replace q101 := eq_true q101
      go_wp2
      go_ret
      exact ⟨by first | rfl | (simp only [IntKind.wrap_i64,wrap64];done) | (simp;done) | (simp [*];done),by repeat (first | exact Drawn0.refl _ | apply Drawn0.step)⟩
     ·rw [if_neg c4] at H;have c4b0 : decide (37 ≤ (rd l0 x3_1)) = false := decide_eq_false c4;clear c4;have H' := Aside0.mk H;clear H;have p101 : 0 ≤ (x3_1 : Int) := of_decide_eq_true (by first | (with_reducible assumption) | assumption);have q101 : x3_1 < (l0.length : Int) := of_decide_eq_true (by first | (with_reducible assumption) | assumption);obtain ⟨ad101,e101,hx101_0⟩ := Kd.at_int HR0.out x3_1 p101 q101;cases e101;replace p101 := eq_true p101;replace q101 := eq_true q101
      go_wp2
      go_roundg k1
      case measure => have := HK1.out;omega
      case rel => exact ⟨(wrap64 (x3_1 + 1)),(by first | rfl | (simp only [IntKind.wrap_i64,wrap64];done) | (simp;done) | (simp [*];done)),H',⟨by have := HK1.out;omega⟩,by repeat (first | exact Drawn0.refl _ | apply Drawn0.step)⟩
    ·rw [if_neg c3] at H;exact absurd H (by simp)
   ·rw [if_neg c2] at H;have c2b0 : decide (x3_1 < (l0.length : Int)) = false := decide_eq_false c2;clear c2;replace H := Option.bind_eq_some_iff.mp H;obtain ⟨t102,A50,H⟩ := H;replace H : (some t102) = some r := H;have A5 := Aside0.mk A50;clear A50;obtain rfl := Option.some.inj H
    go_wp2_with (first | ((with_reducible refine gate_callee (f := 29) rfl ?_);refine goesL_ (some 17) rfl rfl Try.func29 (by kernel_rfl) rfl #[.int .i64 (l0.length : Int),.int .i64 1,.int .i64 8] rfl (by (try simp only [List.map_toArray,List.map_cons,List.map_nil]);first | done | rfl | (simp only [List.length_drop,List.length_take];rfl)) ?_;(with_reducible refine (spec_l00In.calls (l0.length : Int) 1 8 t102 _ A5.out).mono ?_);rintro e w' ⟨rfl,⟨nd,rfl⟩⟩;refine ⟨_,rfl,?_⟩))
    go_ret
    exact ⟨by first | rfl | (simp only [IntKind.wrap_i64,wrap64];done) | (simp;done) | (simp [*];done),by repeat (first | exact Drawn0.refl _ | apply Drawn0.step)⟩
end Go.Proofs.Ytmcdedmnekeibaa.G
end

section
namespace Go.Proofs.Ytmcdedmnekeibaa.G
open Go.RowKit Go.Proofs.YtmcdedmnekeibaaW.PrintWords Go.Proofs.YtmcdedmnekeibaaW.PrintLast Go.Proofs.YtmcdedmnekeibaaW.PrintMore
attribute [local go_sem] max2_int min2_int max_two min_two max_three min_three max_four min_four
set_option linter.unusedVariables false
set_option linter.unusedSimpArgs false
def spec_l05Words.l0 : Nat → List (List Int) → Int → Option (Bool)
 | 0,_,_ => none
 | k + 1,x0,x3 => if x3 < (x0.length : Int) then (if 0 ≤ x3 then ((spec_l05Word.f k (rd_L2 x0 x3)).bind fun t102 => (if t102 = true then (if 0 < (x0.length : Int) then (if ((rd_L2 x0 x3).length : Int) = ((rd_L2 x0 0).length : Int) then (spec_l05Words.l0 k x0 (wrap64 (x3 + 1))) else (some false)) else (none)) else (some false))) else (none)) else (some true)
def spec_l05Words.f (k : Nat) (l0 : List (List Int)) : Option (Bool) := spec_l05Words.l0 k l0 0
set_option maxHeartbeats 8000000 in
set_option maxRecDepth 100000 in
theorem spec_l05Words.calls (k : Nat) (A0 : Option Addr) (c0 : Nat) (l0 : List (List Int)) (r : Bool) (w : World) (hr0 : Kd.C (Kd.slice 5 (Kd.int .u8)) w A0 l0.length l0) (hc0 : l0.length ≤ c0) (h : spec_l05Words.f k l0 = some r) :
  Calls Try.prog 40 #[.slice A0 l0.length c0] w fun e w' => e = .returned (.bool r) ∧ Drawn0 w w' := by
 have HR0 := Aside0.mk hr0;have HC0 := Aside0.mk hc0;clear hr0 hc0;have H : (spec_l05Words.l0 k l0 0) = some r := h;clear h;have H' := Aside0.mk H;clear H
 go_enter Try.func40,Try.ntmps40
 go_wp2
 repeat (go_quiet (fail);try go_wp2)
 go_loopg [3] k (fun kq v3 w' => ∃ (x3_1 : Int),v3 = .int .i64 x3_1 ∧ Aside0 (spec_l05Words.l0 kq l0 x3_1 = some r) ∧ Aside0 (kq ≤ k) ∧ Drawn0 w w')
 case atStart => exact ⟨(0),(by first | rfl | (simp only [IntKind.wrap_i64,wrap64];done) | (simp;done) | (simp [*];done)),H',⟨Nat.le_refl _⟩,by repeat (first | exact Drawn0.refl _ | apply Drawn0.step)⟩
 case round =>
  clear H';obtain ⟨x3_1,rfl,HA,HK1,⟨m1,rfl⟩⟩ := hrel
  cases gk with
  | zero => exact absurd HA.out (by simp [spec_l05Words.l0])
  | succ k1 =>
   have H := HA.out;clear HA;simp only [spec_l05Words.l0] at H
   by_cases c2 : x3_1 < (l0.length : Int)
   ·rw [if_pos c2] at H;have c2b0 : decide (x3_1 < (l0.length : Int)) = true := decide_eq_true c2;clear c2
    by_cases c3 : 0 ≤ x3_1
    ·rw [if_pos c3] at H;have c3b0 : decide (0 ≤ x3_1) = true := decide_eq_true c3;clear c3;replace H := Option.bind_eq_some_iff.mp H;obtain ⟨t102,A40,H⟩ := H;replace H : (if t102 = true then (if 0 < (l0.length : Int) then (if ((rd_L2 l0 x3_1).length : Int) = ((rd_L2 l0 0).length : Int) then (spec_l05Words.l0 k1 l0 (wrap64 (x3_1 + 1))) else (some false)) else (none)) else (some false)) = some r := H;have A4 := Aside0.mk A40;clear A40
     by_cases c5 : t102 = true
     ·subst c5
      have H1 : (if 0 < (l0.length : Int) then (if ((rd_L2 l0 x3_1).length : Int) = ((rd_L2 l0 0).length : Int) then (spec_l05Words.l0 k1 l0 (wrap64 (x3_1 + 1))) else (some false)) else (none)) = some r := by rw [if_pos rfl] at H;exact H
      clear H;have H := H1;clear H1
      by_cases c6 : 0 < (l0.length : Int)
      ·rw [if_pos c6] at H;have c6b0 : decide (0 < (l0.length : Int)) = true := decide_eq_true c6;have c6b1 : decide (0 < l0.length) = true := decide_eq_true (by omega);clear c6
       by_cases c7 : ((rd_L2 l0 x3_1).length : Int) = ((rd_L2 l0 0).length : Int)
       ·rw [if_pos c7] at H;have c7b0 : (((rd_L2 l0 x3_1).length : Int) == ((rd_L2 l0 0).length : Int)) = true := beq_iff_eq.mpr c7;have c7b1 : (((rd_L2 l0 x3_1).length : Int) != ((rd_L2 l0 0).length : Int)) = false := bne_eq_false_iff_eq.mpr c7
        have c7b2 : ((rd_L2 l0 x3_1).length == (rd_L2 l0 0).length) = true := by first | simpa using c7 | (simp at c7 ⊢;omega)
        clear c7;have H' := Aside0.mk H;clear H;have p101 : 0 ≤ (x3_1 : Int) := of_decide_eq_true (by first | (with_reducible assumption) | assumption);have q101 : x3_1 < (l0.length : Int) := of_decide_eq_true (by first | (with_reducible assumption) | assumption);obtain ⟨ad101,A101_0,c101_0,e101,hx101_0,hl101_0,hi101_0⟩ := at_L2 HR0.out x3_1 p101 q101;cases e101;have HR101_0 := Aside0.mk hi101_0;have HC101_0 := Aside0.mk hl101_0;clear hi101_0 hl101_0;replace p101 := eq_true p101;replace q101 := eq_true q101
        go_wp2_with (first | (go_at_call 41;(with_reducible refine (spec_l05Word.calls k1 _ _ (rd_L2 l0 x3_1) true _ ?side1 ?side2 A4.out).mono ?_);(case side1 => repeat (first | exact HR101_0.out | (with_reducible refine Kd.C_alloc ?_ _) | (with_reducible refine Kd.C_drewN ?_ _) | (with_reducible refine Kd.C_drew ?_)));(case side2 => exact HC101_0.out);rintro e w' ⟨rfl,⟨nd,rfl⟩⟩;(try first | exact ⟨rfl,_,World.drewN_drewN _ _ _⟩ | exact ⟨rfl,_,Eq.trans (World.drewN_drewN _ _ _) (congrArg (World.drewN _) (Nat.add_assoc _ _ _))⟩);have p103 : 0 ≤ (x3_1 : Int) := of_decide_eq_true (by first | (with_reducible assumption) | assumption);have q103 : x3_1 < (l0.length : Int) := of_decide_eq_true (by first | (with_reducible assumption) | assumption);obtain ⟨ad103,A103_0,c103_0,e103,hx103_0,hl103_0,hi103_0⟩ := at_L2 HR0.out x3_1 p103 q103;obtain rfl : ad101 = ad103 := (by injection e103);have HR103_0 := Aside0.mk hi103_0;have HC103_0 := Aside0.mk hl103_0;clear hi103_0 hl103_0;replace p103 := eq_true p103;replace q103 := eq_true q103;have ea_ := Option.some.inj (hx101_0.symm.trans hx103_0);injection ea_ with ea_ en_ ec_;subst ea_;subst ec_;clear en_;have p104 : 0 ≤ (0 : Int) := (by omega);have q104 : 0 < (l0.length : Int) := of_decide_eq_true (by first | (with_reducible assumption) | assumption);obtain ⟨ad104,A104_0,c104_0,e104,hx104_0,hl104_0,hi104_0⟩ := at_L2 HR0.out 0 p104 q104;obtain rfl : ad101 = ad104 := (by injection e104);have qi104 : (0 < l0.length) = True := eq_true (by omega);(try rw [show ((0 : Int)).toNat = 0 from rfl] at hx104_0);(try rw [Addr.add_zero'] at hx104_0);have HR104_0 := Aside0.mk hi104_0;have HC104_0 := Aside0.mk hl104_0;clear hi104_0 hl104_0;replace p104 := eq_true p104;replace q104 := eq_true q104))
        repeat (go_quiet (first | (go_at_call 41;(with_reducible refine (spec_l05Word.calls k1 _ _ (rd_L2 l0 x3_1) true _ ?side1 ?side2 A4.out).mono ?_);(case side1 => repeat (first | exact HR101_0.out | (with_reducible refine Kd.C_alloc ?_ _) | (with_reducible refine Kd.C_drewN ?_ _) | (with_reducible refine Kd.C_drew ?_)));(case side2 => exact HC101_0.out);rintro e w' ⟨rfl,⟨nd,rfl⟩⟩;(try first | exact ⟨rfl,_,World.drewN_drewN _ _ _⟩ | exact ⟨rfl,_,Eq.trans (World.drewN_drewN _ _ _) (congrArg (World.drewN _) (Nat.add_assoc _ _ _))⟩);have p103 : 0 ≤ (x3_1 : Int) := of_decide_eq_true (by first | (with_reducible assumption) | assumption);have q103 : x3_1 < (l0.length : Int) := of_decide_eq_true (by first | (with_reducible assumption) | assumption);obtain ⟨ad103,A103_0,c103_0,e103,hx103_0,hl103_0,hi103_0⟩ := at_L2 HR0.out x3_1 p103 q103;obtain rfl : ad101 = ad103 := (by injection e103);have HR103_0 := Aside0.mk hi103_0;have HC103_0 := Aside0.mk hl103_0;clear hi103_0 hl103_0;replace p103 := eq_true p103;replace q103 := eq_true q103;have ea_ := Option.some.inj (hx101_0.symm.trans hx103_0);injection ea_ with ea_ en_ ec_;subst ea_;subst ec_;clear en_;have p104 : 0 ≤ (0 : Int) := (by omega);have q104 : 0 < (l0.length : Int) := of_decide_eq_true (by first | (with_reducible assumption) | assumption);obtain ⟨ad104,A104_0,c104_0,e104,hx104_0,hl104_0,hi104_0⟩ := at_L2 HR0.out 0 p104 q104;obtain rfl : ad101 = ad104 := (by injection e104);have qi104 : (0 < l0.length) = True := eq_true (by omega);(try rw [show ((0 : Int)).toNat = 0 from rfl] at hx104_0);(try rw [Addr.add_zero'] at hx104_0);have HR104_0 := Aside0.mk hi104_0;have HC104_0 := Aside0.mk hl104_0;clear hi104_0 hl104_0;replace p104 := eq_true p104;replace q104 := eq_true q104));try go_wp2_with (first | (go_at_call 41;(with_reducible refine (spec_l05Word.calls k1 _ _ (rd_L2 l0 x3_1) true _ ?side1 ?side2 A4.out).mono ?_);(case side1 => repeat (first | exact HR101_0.out | (with_reducible refine Kd.C_alloc ?_ _) | (with_reducible refine Kd.C_drewN ?_ _) | (with_reducible refine Kd.C_drew ?_)));(case side2 => exact HC101_0.out);rintro e w' ⟨rfl,⟨nd,rfl⟩⟩;(try first | exact ⟨rfl,_,World.drewN_drewN _ _ _⟩ | exact ⟨rfl,_,Eq.trans (World.drewN_drewN _ _ _) (congrArg (World.drewN _) (Nat.add_assoc _ _ _))⟩);have p103 : 0 ≤ (x3_1 : Int) := of_decide_eq_true (by first | (with_reducible assumption) | assumption);have q103 : x3_1 < (l0.length : Int) := of_decide_eq_true (by first | (with_reducible assumption) | assumption);obtain ⟨ad103,A103_0,c103_0,e103,hx103_0,hl103_0,hi103_0⟩ := at_L2 HR0.out x3_1 p103 q103;obtain rfl : ad101 = ad103 := (by injection e103);have HR103_0 := Aside0.mk hi103_0;have HC103_0 := Aside0.mk hl103_0;clear hi103_0 hl103_0;replace p103 := eq_true p103;replace q103 := eq_true q103;have ea_ := Option.some.inj (hx101_0.symm.trans hx103_0);injection ea_ with ea_ en_ ec_;subst ea_;subst ec_;clear en_;have p104 : 0 ≤ (0 : Int) := (by omega);have q104 : 0 < (l0.length : Int) := of_decide_eq_true (by first | (with_reducible assumption) | assumption);obtain ⟨ad104,A104_0,c104_0,e104,hx104_0,hl104_0,hi104_0⟩ := at_L2 HR0.out 0 p104 q104;obtain rfl : ad101 = ad104 := (by injection e104);have qi104 : (0 < l0.length) = True := eq_true (by omega);(try rw [show ((0 : Int)).toNat = 0 from rfl] at hx104_0);(try rw [Addr.add_zero'] at hx104_0);have HR104_0 := Aside0.mk hi104_0;have HC104_0 := Aside0.mk hl104_0;clear hi104_0 hl104_0;replace p104 := eq_true p104;replace q104 := eq_true q104)))
        go_roundg k1
        case measure => have := HK1.out;omega
        case rel => exact ⟨(wrap64 (x3_1 + 1)),(by first | rfl | (simp only [IntKind.wrap_i64,wrap64];done) | (simp;done) | (simp [*];done)),H',⟨by have := HK1.out;omega⟩,by repeat (first | exact Drawn0.refl _ | apply Drawn0.step)⟩
       ·rw [if_neg c7] at H;have c7b0 : (((rd_L2 l0 x3_1).length : Int) == ((rd_L2 l0 0).length : Int)) = false := beq_eq_false_iff_ne.mpr c7;have c7b1 : (((rd_L2 l0 x3_1).length : Int) != ((rd_L2 l0 0).length : Int)) = true := bne_iff_ne.mpr c7
        have c7b2 : ((rd_L2 l0 x3_1).length == (rd_L2 l0 0).length) = false := by first | simpa using c7 | (simp at c7 ⊢;omega)
        obtain rfl := Option.some.inj H;have p101 : 0 ≤ (x3_1 : Int) := of_decide_eq_true (by first | (with_reducible assumption) | assumption);have q101 : x3_1 < (l0.length : Int) := of_decide_eq_true (by first | (with_reducible assumption) | assumption);obtain ⟨ad101,A101_0,c101_0,e101,hx101_0,hl101_0,hi101_0⟩ := at_L2 HR0.out x3_1 p101 q101;cases e101;have HR101_0 := Aside0.mk hi101_0;have HC101_0 := Aside0.mk hl101_0;clear hi101_0 hl101_0;replace p101 := eq_true p101;replace q101 := eq_true q101
        go_wp2_with (first | (go_at_call 41;(with_reducible refine (spec_l05Word.calls k1 _ _ (rd_L2 l0 x3_1) true _ ?side1 ?side2 A4.out).mono ?_);(case side1 => repeat (first | exact HR101_0.out | (with_reducible refine Kd.C_alloc ?_ _) | (with_reducible refine Kd.C_drewN ?_ _) | (with_reducible refine Kd.C_drew ?_)));(case side2 => exact HC101_0.out);rintro e w' ⟨rfl,⟨nd,rfl⟩⟩;(try first | exact ⟨rfl,_,World.drewN_drewN _ _ _⟩ | exact ⟨rfl,_,Eq.trans (World.drewN_drewN _ _ _) (congrArg (World.drewN _) (Nat.add_assoc _ _ _))⟩);have p103 : 0 ≤ (x3_1 : Int) := of_decide_eq_true (by first | (with_reducible assumption) | assumption);have q103 : x3_1 < (l0.length : Int) := of_decide_eq_true (by first | (with_reducible assumption) | assumption);obtain ⟨ad103,A103_0,c103_0,e103,hx103_0,hl103_0,hi103_0⟩ := at_L2 HR0.out x3_1 p103 q103;obtain rfl : ad101 = ad103 := (by injection e103);have HR103_0 := Aside0.mk hi103_0;have HC103_0 := Aside0.mk hl103_0;clear hi103_0 hl103_0;replace p103 := eq_true p103;replace q103 := eq_true q103;have ea_ := Option.some.inj (hx101_0.symm.trans hx103_0);injection ea_ with ea_ en_ ec_;subst ea_;subst ec_;clear en_;have p104 : 0 ≤ (0 : Int) := (by omega);have q104 : 0 < (l0.length : Int) := of_decide_eq_true (by first | (with_reducible assumption) | assumption);obtain ⟨ad104,A104_0,c104_0,e104,hx104_0,hl104_0,hi104_0⟩ := at_L2 HR0.out 0 p104 q104;obtain rfl : ad101 = ad104 := (by injection e104);have qi104 : (0 < l0.length) = True := eq_true (by omega);(try rw [show ((0 : Int)).toNat = 0 from rfl] at hx104_0);(try rw [Addr.add_zero'] at hx104_0);have HR104_0 := Aside0.mk hi104_0;have HC104_0 := Aside0.mk hl104_0;clear hi104_0 hl104_0;replace p104 := eq_true p104;replace q104 := eq_true q104))
        repeat (go_quiet (first | (go_at_call 41;(with_reducible refine (spec_l05Word.calls k1 _ _ (rd_L2 l0 x3_1) true _ ?side1 ?side2 A4.out).mono ?_);(case side1 => repeat (first | exact HR101_0.out | (with_reducible refine Kd.C_alloc ?_ _) | (with_reducible refine Kd.C_drewN ?_ _) | (with_reducible refine Kd.C_drew ?_)));(case side2 => exact HC101_0.out);rintro e w' ⟨rfl,⟨nd,rfl⟩⟩;(try first | exact ⟨rfl,_,World.drewN_drewN _ _ _⟩ | exact ⟨rfl,_,Eq.trans (World.drewN_drewN _ _ _) (congrArg (World.drewN _) (Nat.add_assoc _ _ _))⟩);have p103 : 0 ≤ (x3_1 : Int) := of_decide_eq_true (by first | (with_reducible assumption) | assumption);have q103 : x3_1 < (l0.length : Int) := of_decide_eq_true (by first | (with_reducible assumption) | assumption);obtain ⟨ad103,A103_0,c103_0,e103,hx103_0,hl103_0,hi103_0⟩ := at_L2 HR0.out x3_1 p103 q103;obtain rfl : ad101 = ad103 := (by injection e103);have HR103_0 := Aside0.mk hi103_0;have HC103_0 := Aside0.mk hl103_0;clear hi103_0 hl103_0;replace p103 := eq_true p103;replace q103 := eq_true q103;have ea_ := Option.some.inj (hx101_0.symm.trans hx103_0);injection ea_ with ea_ en_ ec_;subst ea_;subst ec_;clear en_;have p104 : 0 ≤ (0 : Int) := (by omega);have q104 : 0 < (l0.length : Int) := of_decide_eq_true (by first | (with_reducible assumption) | assumption);obtain ⟨ad104,A104_0,c104_0,e104,hx104_0,hl104_0,hi104_0⟩ := at_L2 HR0.out 0 p104 q104;obtain rfl : ad101 = ad104 := (by injection e104);have qi104 : (0 < l0.length) = True := eq_true (by omega);(try rw [show ((0 : Int)).toNat = 0 from rfl] at hx104_0);(try rw [Addr.add_zero'] at hx104_0);have HR104_0 := Aside0.mk hi104_0;have HC104_0 := Aside0.mk hl104_0;clear hi104_0 hl104_0;replace p104 := eq_true p104;replace q104 := eq_true q104));try go_wp2_with (first | (go_at_call 41;(with_reducible refine (spec_l05Word.calls k1 _ _ (rd_L2 l0 x3_1) true _ ?side1 ?side2 A4.out).mono ?_);(case side1 => repeat (first | exact HR101_0.out | (with_reducible refine Kd.C_alloc ?_ _) | (with_reducible refine Kd.C_drewN ?_ _) | (with_reducible refine Kd.C_drew ?_)));(case side2 => exact HC101_0.out);rintro e w' ⟨rfl,⟨nd,rfl⟩⟩;(try first | exact ⟨rfl,_,World.drewN_drewN _ _ _⟩ | exact ⟨rfl,_,Eq.trans (World.drewN_drewN _ _ _) (congrArg (World.drewN _) (Nat.add_assoc _ _ _))⟩);have p103 : 0 ≤ (x3_1 : Int) := of_decide_eq_true (by first | (with_reducible assumption) | assumption);have q103 : x3_1 < (l0.length : Int) := of_decide_eq_true (by first | (with_reducible assumption) | assumption);obtain ⟨ad103,A103_0,c103_0,e103,hx103_0,hl103_0,hi103_0⟩ := at_L2 HR0.out x3_1 p103 q103;obtain rfl : ad101 = ad103 := (by injection e103);have HR103_0 := Aside0.mk hi103_0;have HC103_0 := Aside0.mk hl103_0;clear hi103_0 hl103_0;replace p103 := eq_true p103;replace q103 := eq_true q103;have ea_ := Option.some.inj (hx101_0.symm.trans hx103_0);injection ea_ with ea_ en_ ec_;subst ea_;subst ec_;clear en_;have p104 : 0 ≤ (0 : Int) := (by omega);have q104 : 0 < (l0.length : Int) := of_decide_eq_true (by first | (with_reducible assumption) | assumption);obtain ⟨ad104,A104_0,c104_0,e104,hx104_0,hl104_0,hi104_0⟩ := at_L2 HR0.out 0 p104 q104;obtain rfl : ad101 = ad104 := (by injection e104);have qi104 : (0 < l0.length) = True := eq_true (by omega);(try rw [show ((0 : Int)).toNat = 0 from rfl] at hx104_0);(try rw [Addr.add_zero'] at hx104_0);have HR104_0 := Aside0.mk hi104_0;have HC104_0 := Aside0.mk hl104_0;clear hi104_0 hl104_0;replace p104 := eq_true p104;replace q104 := eq_true q104)))
        go_ret
        exact ⟨by first | rfl | (simp only [IntKind.wrap_i64,wrap64];done) | (simp;done) | (simp [*];done),by repeat (first | exact Drawn0.refl _ | apply Drawn0.step)⟩
      ·rw [if_neg c6] at H;exact absurd H (by simp)
     ·replace c5 := Bool.eq_false_iff.mpr c5;subst c5
      have H1 : (some false) = some r := by rw [if_neg (show ¬ (false = true) by decide)] at H;exact H
      clear H;have H := H1;clear H1;obtain rfl := Option.some.inj H;have p101 : 0 ≤ (x3_1 : Int) := of_decide_eq_true (by first | (with_reducible assumption) | assumption);have q101 : x3_1 < (l0.length : Int) := of_decide_eq_true (by first | (with_reducible assumption) | assumption);obtain ⟨ad101,A101_0,c101_0,e101,hx101_0,hl101_0,hi101_0⟩ := at_L2 HR0.out x3_1 p101 q101;cases e101;have HR101_0 := Aside0.mk hi101_0;have HC101_0 := Aside0.mk hl101_0;clear hi101_0 hl101_0;replace p101 := eq_true p101;replace q101 := eq_true q101
      go_wp2_with (first | (go_at_call 41;(with_reducible refine (spec_l05Word.calls k1 _ _ (rd_L2 l0 x3_1) false _ ?side1 ?side2 A4.out).mono ?_);(case side1 => repeat (first | exact HR101_0.out | (with_reducible refine Kd.C_alloc ?_ _) | (with_reducible refine Kd.C_drewN ?_ _) | (with_reducible refine Kd.C_drew ?_)));(case side2 => exact HC101_0.out);rintro e w' ⟨rfl,⟨nd,rfl⟩⟩;(try first | exact ⟨rfl,_,World.drewN_drewN _ _ _⟩ | exact ⟨rfl,_,Eq.trans (World.drewN_drewN _ _ _) (congrArg (World.drewN _) (Nat.add_assoc _ _ _))⟩)))
      repeat (go_quiet (first | (go_at_call 41;(with_reducible refine (spec_l05Word.calls k1 _ _ (rd_L2 l0 x3_1) false _ ?side1 ?side2 A4.out).mono ?_);(case side1 => repeat (first | exact HR101_0.out | (with_reducible refine Kd.C_alloc ?_ _) | (with_reducible refine Kd.C_drewN ?_ _) | (with_reducible refine Kd.C_drew ?_)));(case side2 => exact HC101_0.out);rintro e w' ⟨rfl,⟨nd,rfl⟩⟩;(try first | exact ⟨rfl,_,World.drewN_drewN _ _ _⟩ | exact ⟨rfl,_,Eq.trans (World.drewN_drewN _ _ _) (congrArg (World.drewN _) (Nat.add_assoc _ _ _))⟩)));try go_wp2_with (first | (go_at_call 41;(with_reducible refine (spec_l05Word.calls k1 _ _ (rd_L2 l0 x3_1) false _ ?side1 ?side2 A4.out).mono ?_);(case side1 => repeat (first | exact HR101_0.out | (with_reducible refine Kd.C_alloc ?_ _) | (with_reducible refine Kd.C_drewN ?_ _) | (with_reducible refine Kd.C_drew ?_)));(case side2 => exact HC101_0.out);rintro e w' ⟨rfl,⟨nd,rfl⟩⟩;(try first | exact ⟨rfl,_,World.drewN_drewN _ _ _⟩ | exact ⟨rfl,_,Eq.trans (World.drewN_drewN _ _ _) (congrArg (World.drewN _) (Nat.add_assoc _ _ _))⟩))))
      go_ret
      exact ⟨by first | rfl | (simp only [IntKind.wrap_i64,wrap64];done) | (simp;done) | (simp [*];done),by repeat (first | exact Drawn0.refl _ | apply Drawn0.step)⟩
    ·rw [if_neg c3] at H;exact absurd H (by simp)
   ·rw [if_neg c2] at H;have c2b0 : decide (x3_1 < (l0.length : Int)) = false := decide_eq_false c2;clear c2;obtain rfl := Option.some.inj H
    go_wp2
    repeat (go_quiet (fail);try go_wp2)
    go_ret
    exact ⟨by first | rfl | (simp only [IntKind.wrap_i64,wrap64];done) | (simp;done) | (simp [*];done),by repeat (first | exact Drawn0.refl _ | apply Drawn0.step)⟩
end Go.Proofs.Ytmcdedmnekeibaa.G
end
