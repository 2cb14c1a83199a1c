/- The law's functions, their contracts, and the plain lemmas: texts of this claim, laid together. -/
import Derived.Test.YtidkniacmcbgiaaProg
import Derived.Below
import Derived.Deep.Draws
import Derived.Deep.AppendLies
import Derived.Maps.AppendAt
import Derived.OwnWalk
import Derived.Laws.BytesArg
import Derived.Laws.MakeOwn
import Derived.Laws.OwnMore
import Derived.Deep.OwnRows
import Derived.Tactics
import Derived.Lib.ConvBytes
import Derived.Laws.Slices
import Derived.WalkKit
import Derived.KernelRfl
import Derived.RowKit3
import Derived.Deep.LoopGhost
import Derived.Deep.QuietTactic
import Derived.BigQuiet
import Derived.WideLaws
import Derived.Deep.DeepCutAuto
import Derived.Deep.CutBlock
import Derived.Deep.RegionHeld3
import Derived.Laws.Rows
import Derived.Lib.AppendStr
import Derived.ArgAppend
import Derived.Laws.IdiomCopy
import Derived.OrdersHeld
import Derived.Laws.BitsLemmas
import Derived.RowKit
import Derived.Shelf.Abstract
import Derived.WalkSpells
import Derived.WalkLawsBesides
import Derived.Test.YtidkniacmcbgiaaWWords
import Derived.Test.YtidkniacmcbgiaaWLast
import Derived.Test.YtidkniacmcbgiaaWTab
import Derived.Test.YtidkniacmcbgiaaWFour
import Derived.Test.YtidkniacmcbgiaaWQPut
import Derived.Test.YtidkniacmcbgiaaWApart
import Derived.Test.YtidkniacmcbgiaaWArr
import Derived.Test.YtidkniacmcbgiaaWZeros
import Derived.Test.YtidkniacmcbgiaaWFoot
import Derived.Test.YtidkniacmcbgiaaWKept
import Derived.Test.YtidkniacmcbgiaaWShare
import Derived.Test.YtidkniacmcbgiaaWN
import Derived.Test.YtidkniacmcbgiaaWFootNe
import Derived.Test.YtidkniacmcbgiaaWAt
import Derived.Test.YtidkniacmcbgiaaWEqStruct
import Derived.Test.YtidkniacmcbgiaaWRepsOne
import Derived.Test.YtidkniacmcbgiaaWInv
import Derived.Test.YtidkniacmcbgiaaWInvWords
import Derived.Test.YtidkniacmcbgiaaWGuard
import Derived.Test.YtidkniacmcbgiaaWNEv
import Derived.Test.YtidkniacmcbgiaaWMore
import Derived.Deep.RegionLaw
section
namespace Go.Proofs.Ytidkniacmcbgiaa.G
open Go.RowKit Go.Proofs.YtidkniacmcbgiaaW.PrintWords Go.Proofs.YtidkniacmcbgiaaW.PrintLast Go.Proofs.YtidkniacmcbgiaaW.PrintMore
attribute [local go_sem] max2_int min2_int max_two min_two max_three min_three max_four min_four
set_option linter.unusedVariables false
set_option linter.unusedSimpArgs false
def errW : Option Int → Value
  | none => .nilIface
  | some c => .iface 0 (.int .i64 c)
theorem errW_none : errW none = .nilIface := rfl
theorem errW_some (c : Int) : errW (some c) = .iface 0 (.int .i64 c) := rfl
theorem info2 : (Try.prog.info? 2).map (fun i => (i.zero, i.size, i.bytes)) = some (some (.int .i64 0), 1, 8) := by kernel_rfl
theorem info3 : (Try.prog.info? 3).map (fun i => (i.zero, i.size, i.bytes)) = some (some (.int .i64 0), 1, 8) := by kernel_rfl
theorem info26 : (Try.prog.info? 26).map (fun i => (i.zero, i.size, i.bytes)) = some (some (.slice none 0 0), 1, 24) := by kernel_rfl
theorem info37 : (Try.prog.info? 37).map (fun i => (i.zero, i.size, i.bytes)) = some (some (.slice none 0 0), 1, 24) := by kernel_rfl
theorem info73 : (Try.prog.info? 73).map (fun i => (i.zero, i.size, i.bytes)) = some (some (.agg #[(.int .i64 0), (.int .i64 0), (.bool false)]), 3, 24) := by kernel_rfl
structure S75 where
  f0 : Int
  f1 : Int
  f2 : Bool
def z75 : S75 := ⟨(0 : Int), (0 : Int), false⟩
def k75 : Kd S75 := Kd.iso (Kd.pair (Kd.int .i64) (Kd.pair (Kd.int .i64) Kd.bool)) (fun x : S75 => (x.f0, x.f1, x.f2))
theorem k75_open {w : World} {x : S75} {cs : List Value} (h : k75.K w x cs) : cs = [.int .i64 x.f0, .int .i64 x.f1, .bool x.f2] := by
  obtain ⟨_, _, rfl, rfl, ⟨_, _, rfl, rfl, rfl⟩⟩ := h
  exact rfl
def rd_T75 (xs : List S75) (i : Int) : S75 := xs.getD i.toNat z75
theorem at_T75 {w : World} {A : Option Addr} {n : Nat} {xs : List S75} (h : Kd.C k75 w A n xs) (i : Int) (h0 : 0 ≤ i) (h1 : i < n) : ∃ ad , A = some ad ∧ w.cell? (ad.add (i.toNat * 3)) = some (.int .i64 (rd_T75 xs i).f0) ∧ w.cell? ⟨(ad.add (i.toNat * 3)).block, (ad.add (i.toNat * 3)).off + 1, none⟩ = some (.int .i64 (rd_T75 xs i).f1) ∧ w.cell? ⟨(ad.add (i.toNat * 3)).block, (ad.add (i.toNat * 3)).off + 2, none⟩ = some (.bool (rd_T75 xs i).f2) := by
  obtain ⟨ad, c, e, _, hK, hc0⟩ := Kd.C_get h z75 i h0 h1
  have hc : ∀ j u, c[j]? = some u → w.cell? (ad.add (i.toNat * 3 + j)) = some u := hc0
  obtain rfl := k75_open hK
  exact ⟨ad, e, hc 0 _ rfl, by rw [← add_field _ _ 1 (by omega)]; exact hc 1 _ rfl, by rw [← add_field _ _ 2 (by omega)]; exact hc 2 _ rfl⟩
structure S73 where
  f0 : Int
  f1 : Int
  f2 : Bool
def z73 : S73 := ⟨(0 : Int), (0 : Int), false⟩
def k73 : Kd S73 := Kd.iso (Kd.pair (Kd.int .i64) (Kd.pair (Kd.int .i64) Kd.bool)) (fun x : S73 => (x.f0, x.f1, x.f2))
theorem k73_open {w : World} {x : S73} {cs : List Value} (h : k73.K w x cs) : cs = [.int .i64 x.f0, .int .i64 x.f1, .bool x.f2] := by
  obtain ⟨_, _, rfl, rfl, ⟨_, _, rfl, rfl, rfl⟩⟩ := h
  exact rfl
theorem k73_openM {w : World} {base : Nat} {ok : Nat → Prop} {x : S73} {cs : List Value} (h : k73.M w base ok x cs) : cs = [.int .i64 x.f0, .int .i64 x.f1, .bool x.f2] := by
  obtain ⟨_, _, rfl, rfl, ⟨_, _, rfl, rfl, rfl⟩⟩ := h
  exact rfl
theorem k73_mkM (w : World) (base : Nat) (ok : Nat → Prop) (x : S73)  : k73.M w base ok x [.int .i64 x.f0, .int .i64 x.f1, .bool x.f2] := ⟨[.int .i64 x.f0], [.int .i64 x.f1, .bool x.f2], rfl, rfl, ⟨[.int .i64 x.f1], [.bool x.f2], rfl, rfl, rfl⟩⟩
def rd_T73 (xs : List S73) (i : Int) : S73 := xs.getD i.toNat z73
theorem at_T73 {w : World} {A : Option Addr} {n : Nat} {xs : List S73} (h : Kd.C k73 w A n xs) (i : Int) (h0 : 0 ≤ i) (h1 : i < n) : ∃ ad , A = some ad ∧ w.cell? (ad.add (i.toNat * 3)) = some (.int .i64 (rd_T73 xs i).f0) ∧ w.cell? ⟨(ad.add (i.toNat * 3)).block, (ad.add (i.toNat * 3)).off + 1, none⟩ = some (.int .i64 (rd_T73 xs i).f1) ∧ w.cell? ⟨(ad.add (i.toNat * 3)).block, (ad.add (i.toNat * 3)).off + 2, none⟩ = some (.bool (rd_T73 xs i).f2) := by
  obtain ⟨ad, c, e, _, hK, hc0⟩ := Kd.C_get h z73 i h0 h1
  have hc : ∀ j u, c[j]? = some u → w.cell? (ad.add (i.toNat * 3 + j)) = some u := hc0
  obtain rfl := k73_open hK
  exact ⟨ad, e, hc 0 _ rfl, by rw [← add_field _ _ 1 (by omega)]; exact hc 1 _ rfl, by rw [← add_field _ _ 2 (by omega)]; exact hc 2 _ rfl⟩
def rd_L5 (xs : List (List S73)) (i : Int) : (List S73) := xs.getD i.toNat ([] : List S73)
theorem at_L5 {w : World} {A : Option Addr} {n : Nat} {xs : List (List S73)} (h : Kd.C (Kd.slice 73 k73) w A n xs) (i : Int) (h0 : 0 ≤ i) (h1 : i < n) : ∃ ad A0 c0, A = some ad ∧ w.cell? (ad.add i.toNat) = some (.slice A0 (rd_L5 xs i).length c0) ∧ (rd_L5 xs i).length ≤ c0 ∧ k73.C w A0 (rd_L5 xs i).length (rd_L5 xs i) := by
  obtain ⟨ad, c, e, _, hK, hc0⟩ := Kd.C_get h ([] : List S73) i h0 h1
  have hc : ∀ j u, c[j]? = some u → w.cell? (ad.add (i.toNat * 1 + j)) = some u := hc0
  obtain ⟨A0, c0, rfl, l0, g0⟩ := hK
  exact ⟨ad, A0, c0, e, by have hq := hc 0 _ rfl; rwa [Nat.mul_one, Nat.add_zero] at hq, l0, g0⟩
def rd_L6 (xs : List (List Int)) (i : Int) : (List Int) := xs.getD i.toNat ([] : List Int)
theorem at_L6 {w : World} {A : Option Addr} {n : Nat} {xs : List (List Int)} (h : Kd.C (Kd.slice 2 (Kd.int .i64)) w A n xs) (i : Int) (h0 : 0 ≤ i) (h1 : i < n) : ∃ ad A0 c0, A = some ad ∧ w.cell? (ad.add i.toNat) = some (.slice A0 (rd_L6 xs i).length c0) ∧ (rd_L6 xs i).length ≤ c0 ∧ (Kd.int .i64).C w A0 (rd_L6 xs i).length (rd_L6 xs i) := by
  obtain ⟨ad, c, e, _, hK, hc0⟩ := Kd.C_get h ([] : List Int) i h0 h1
  have hc : ∀ j u, c[j]? = some u → w.cell? (ad.add (i.toNat * 1 + j)) = some u := hc0
  obtain ⟨A0, c0, rfl, l0, g0⟩ := hK
  exact ⟨ad, A0, c0, e, by have hq := hc 0 _ rfl; rwa [Nat.mul_one, Nat.add_zero] at hq, l0, g0⟩
structure S103 where
  f0 : Int
  f1 : Int
structure S100 where
  f0 : Int
  f1 : Int
def rd_L9 (xs : List (List S75)) (i : Int) : (List S75) := xs.getD i.toNat ([] : List S75)
theorem at_L9 {w : World} {A : Option Addr} {n : Nat} {xs : List (List S75)} (h : Kd.C (Kd.slice 75 k75) w A n xs) (i : Int) (h0 : 0 ≤ i) (h1 : i < n) : ∃ ad A0 c0, A = some ad ∧ w.cell? (ad.add i.toNat) = some (.slice A0 (rd_L9 xs i).length c0) ∧ (rd_L9 xs i).length ≤ c0 ∧ k75.C w A0 (rd_L9 xs i).length (rd_L9 xs i) := by
  obtain ⟨ad, c, e, _, hK, hc0⟩ := Kd.C_get h ([] : List S75) i h0 h1
  have hc : ∀ j u, c[j]? = some u → w.cell? (ad.add (i.toNat * 1 + j)) = some u := hc0
  obtain ⟨A0, c0, rfl, l0, g0⟩ := hK
  exact ⟨ad, A0, c0, e, by have hq := hc 0 _ rfl; rwa [Nat.mul_one, Nat.add_zero] at hq, l0, g0⟩
def idxP {α : Type} (p : α → Bool) (l : List α) : Int := match l.findIdx? p with | some i => (i : Int) | none => -1
theorem idxP_hit {α : Type} {p : α → Bool} {l : List α} {k : Nat} {y : α} (hy : l[k]? = some y) (hp : p y = true) (hn : ∀ j x, j < k → l[j]? = some x → p x = false) : idxP p l = (k : Int) := by
  have hk : k < l.length := (List.getElem?_eq_some_iff.1 hy).1
  have e : l.findIdx? p = some k := by
    rw [List.findIdx?_eq_some_iff_getElem]
    refine ⟨hk, ?_, fun j hj => ?_⟩
    · rw [(List.getElem?_eq_some_iff.1 hy).2]; exact hp
    · have := hn j l[j] hj (List.getElem?_eq_getElem (by omega))
      simp [this]
  simp [idxP, e]
theorem idxP_miss {α : Type} {p : α → Bool} {l : List α} (h : ∀ x ∈ l, p x = false) : idxP p l = -1 := by
  have e : l.findIdx? p = none := by
    rw [List.findIdx?_eq_none_iff]
    exact h
  simp [idxP, e]
theorem idxP_nonneg {α : Type} (p : α → Bool) (l : List α) : decide (0 ≤ idxP p l) = l.any p := by
  unfold idxP
  cases e : l.findIdx? p with
  | none =>
    rw [List.findIdx?_eq_none_iff] at e
    have : l.any p = false := by rw [List.any_eq_false]; intro x hx; simp [e x hx]
    simp [this]
  | some i =>
    rw [List.findIdx?_eq_some_iff_getElem] at e
    obtain ⟨h, hp, _⟩ := e
    have : l.any p = true := List.any_eq_true.2 ⟨l[i], List.getElem_mem h, hp⟩
    simp [this]
end Go.Proofs.Ytidkniacmcbgiaa.G
end

section
namespace Go.Proofs.Ytidkniacmcbgiaa.G
open Go.RowKit Go.Proofs.YtidkniacmcbgiaaW.PrintWords Go.Proofs.YtidkniacmcbgiaaW.PrintLast Go.Proofs.YtidkniacmcbgiaaW.PrintMore
attribute [local go_sem] max2_int min2_int max_two min_two max_three min_three max_four min_four
set_option linter.unusedVariables false
set_option linter.unusedSimpArgs false
def impl_size_Log.f (l0 : List (List (S73))) : Option (Int) := some (l0.length : Int)
set_option maxHeartbeats 8000000 in
set_option maxRecDepth 100000 in
theorem impl_size_Log.calls (A0 : Option Addr) (c0 : Nat) (l0 : List (List (S73))) (r : Int) (w : World) (hr0 : Kd.C (Kd.slice 73 k73) w A0 l0.length l0) (hc0 : l0.length ≤ c0) (h : impl_size_Log.f l0 = some r) :
  Calls Try.prog 124 #[.slice A0 l0.length c0] w fun e w' => e = .returned (.int .i64 r) ∧ Drawn0 w w' := by
 have HR0 := Aside0.mk hr0;have HC0 := Aside0.mk hc0;clear hr0 hc0;have H : (some (l0.length : Int)) = some r := h;clear h;obtain rfl := Option.some.inj H
 go_enter Try.func124,Try.ntmps124
 go_wp2
 go_ret
 exact ⟨by first | rfl | (simp only [IntKind.wrap_i64,wrap64];done) | (simp;done) | (simp [*];done),by repeat (first | exact Drawn0.refl _ | apply Drawn0.step)⟩
end Go.Proofs.Ytidkniacmcbgiaa.G
end

section
namespace Go.Proofs.Ytidkniacmcbgiaa.G
open Go.RowKit Go.Proofs.YtidkniacmcbgiaaW.PrintWords Go.Proofs.YtidkniacmcbgiaaW.PrintLast Go.Proofs.YtidkniacmcbgiaaW.PrintMore
attribute [local go_sem] max2_int min2_int max_two min_two max_three min_three max_four min_four
set_option linter.unusedVariables false
set_option linter.unusedSimpArgs false
def impl_unless.f (a0 : Bool) (a1 : Int) : Option (Int) := if a0 = true then (some 0) else (some a1)
set_option maxHeartbeats 8000000 in
set_option maxRecDepth 100000 in
theorem impl_unless.calls (a0 : Bool) (a1 : Int) (r : Int) (w : World) (h : impl_unless.f a0 a1 = some r) :
  Calls Try.prog 104 #[.bool a0,.int .i64 a1] w fun e w' => e = .returned (.int .i64 r) ∧ Drawn0 w w' := by
 have H : (if a0 = true then (some 0) else (some a1)) = some r := h;clear h
 by_cases c3 : a0 = true
 ·subst c3
  have H1 : (some 0) = some r := by rw [if_pos rfl] at H;exact H
  clear H;have H := H1;clear H1;obtain rfl := Option.some.inj H
  go_enter Try.func104,Try.ntmps104
  go_wp2
  go_ret
  exact ⟨by first | rfl | (simp only [IntKind.wrap_i64,wrap64];done) | (simp;done) | (simp [*];done),by repeat (first | exact Drawn0.refl _ | apply Drawn0.step)⟩
 ·replace c3 := Bool.eq_false_iff.mpr c3;subst c3
  have H1 : (some a1) = some r := by rw [if_neg (show ¬ (false = true) by decide)] at H;exact H
  clear H;have H := H1;clear H1;obtain rfl := Option.some.inj H
  go_enter Try.func104,Try.ntmps104
  go_wp2
  go_ret
  exact ⟨by first | rfl | (simp only [IntKind.wrap_i64,wrap64];done) | (simp;done) | (simp [*];done),by repeat (first | exact Drawn0.refl _ | apply Drawn0.step)⟩
end Go.Proofs.Ytidkniacmcbgiaa.G
end

section
namespace Go.Proofs.Ytidkniacmcbgiaa.G
open Go.RowKit Go.Proofs.YtidkniacmcbgiaaW.PrintWords Go.Proofs.YtidkniacmcbgiaaW.PrintLast Go.Proofs.YtidkniacmcbgiaaW.PrintMore
attribute [local go_sem] max2_int min2_int max_two min_two max_three min_three max_four min_four
set_option linter.unusedVariables false
set_option linter.unusedSimpArgs false
def impl_within.f (a0 : Int) (a1 : Int) (a2 : Int) : Option (Bool) := if a1 ≤ a0 then (some (decide (a0 ≤ a2))) else (some false)
set_option maxHeartbeats 8000000 in
set_option maxRecDepth 100000 in
theorem impl_within.calls (a0 : Int) (a1 : Int) (a2 : Int) (r : Bool) (w : World) (h : impl_within.f a0 a1 a2 = some r) :
  Calls Try.prog 79 #[.int .i64 a0,.int .i64 a1,.int .i64 a2] w fun e w' => e = .returned (.bool r) ∧ Drawn0 w w' := by
 have H : (if a1 ≤ a0 then (some (decide (a0 ≤ a2))) else (some false)) = some r := h;clear h
 by_cases c4 : a1 ≤ a0
 ·rw [if_pos c4] at H;have c4b0 : decide (a1 ≤ a0) = true := decide_eq_true c4;clear c4;obtain rfl := Option.some.inj H
  go_enter Try.func79,Try.ntmps79
  go_wp2
  go_ret
  exact ⟨by first | rfl | (simp only [IntKind.wrap_i64,wrap64];done) | (simp;done) | (simp [*];done),by repeat (first | exact Drawn0.refl _ | apply Drawn0.step)⟩
 ·rw [if_neg c4] at H;have c4b0 : decide (a1 ≤ a0) = false := decide_eq_false c4;clear c4;obtain rfl := Option.some.inj H
  go_enter Try.func79,Try.ntmps79
  go_wp2
  go_ret
  exact ⟨by first | rfl | (simp only [IntKind.wrap_i64,wrap64];done) | (simp;done) | (simp [*];done),by repeat (first | exact Drawn0.refl _ | apply Drawn0.step)⟩
end Go.Proofs.Ytidkniacmcbgiaa.G
end

section
namespace Go.Proofs.Ytidkniacmcbgiaa.G
open Go.RowKit Go.Proofs.YtidkniacmcbgiaaW.PrintWords Go.Proofs.YtidkniacmcbgiaaW.PrintLast Go.Proofs.YtidkniacmcbgiaaW.PrintMore
attribute [local go_sem] max2_int min2_int max_two min_two max_three min_three max_four min_four
set_option linter.unusedVariables false
set_option linter.unusedSimpArgs false
def anyO {α : Type} (p : α → Option Bool) (l : List α) : Option Bool := if l.all (fun x => (p x).isSome) = true then some (l.any (fun x => p x == some true)) else none
theorem anyO_some {α : Type} {p : α → Option Bool} {l : List α} {r : Bool} (h : anyO p l = some r) : (∀ x ∈ l, (p x).isSome = true) ∧ l.any (fun x => p x == some true) = r := by
  unfold anyO at h
  split at h
  · rename_i ha
    exact ⟨List.all_eq_true.1 ha, Option.some.inj h⟩
  · cases h
theorem allSome {α : Type} {p : α → Option Bool} {q : α → Bool} {l : List α} (h : ∀ x ∈ l, p x = some (q x)) : l.all (fun x => (p x).isSome) = true := List.all_eq_true.2 fun x hx => by rw [h x hx]; rfl
theorem someEq {α : Type} {p : α → Option Bool} {q : α → Bool} {l : List α} (h : ∀ x ∈ l, p x = some (q x)) : ∀ x ∈ l, (p x == some true) = q x := fun x hx => by rw [h x hx]; cases q x <;> rfl
theorem any_congr_ {α : Type} {p q : α → Bool} {l : List α} (h : ∀ x ∈ l, p x = q x) : l.any p = l.any q := by
  induction l with
  | nil => rfl
  | cons a l ih => simp [h a (by simp), ih (fun x hx => h x (by simp [hx]))]
theorem anyO_eq {α : Type} {p : α → Option Bool} {q : α → Bool} {l : List α} (h : ∀ x ∈ l, p x = some (q x)) : anyO p l = some (l.any q) := by
  unfold anyO
  rw [if_pos (allSome h), any_congr_ (someEq h)]
section
variable {P : Program} {ops : Array Oper} {Q : Exit → Act → World → Prop}
theorem goesD_ {oi : Oper} {N : Option Tmp} {a : Act} {w : World} {K : Act → World → Prop} {p : Operand} {f : FuncId} {fn : Func} {as_ : Array Operand} {ts : Array TypeId} (hf : P.funcs[f]? = some fn) (hname : (fn.name == "runtime.NumGoroutine") = false) (hb : fn.body.isSome = true) (lb args : Array Value)
    (hw : Region.wanted oi (yielded ops a.tmps) = true) (hN : oi.dst = N) (hop : oi.op = .call { callee := .value p, args := as_, argTypes := ts }) (hp : a.eval p = .func (.func f) #[] lb) (hargs : as_.map a.eval ++ lb = args)
    (h : Calls P f args w fun e w' => ∃ v, e = .returned v ∧ K (a.put N v) w') : if Region.wanted oi (yielded ops a.tmps) = true then Oper.wp P oi a w K Q else K (a.put N undef) w := by
  refine Go.Proofs.YtidkniacmcbgiaaW.PrintLast.call_ f args hw hN ?_ h
  have he := Go.Proofs.YtidkniacmcbgiaaW.PrintLast.enters_ hf hname hb args w
  unfold execOp
  simp [hop, resolve, hp, Deferred.ofValue, invoke, hargs, he]
end
end Go.Proofs.Ytidkniacmcbgiaa.G
end

section
namespace Go.Proofs.Ytidkniacmcbgiaa.G
open Go.RowKit Go.Proofs.YtidkniacmcbgiaaW.PrintWords Go.Proofs.YtidkniacmcbgiaaW.PrintLast Go.Proofs.YtidkniacmcbgiaaW.PrintMore
attribute [local go_sem] max2_int min2_int max_two min_two max_three min_three max_four min_four
set_option linter.unusedVariables false
set_option linter.unusedSimpArgs false
theorem run_clear_any {P : Program} {n : Nat} (w : World) (t e ty : TypeId) (z : Value) (ht : P.underlying t = some (.slice e)) (hv : ∀ w, (zeroValue e).run P w = .ok z w) (hz1 : ∀ u ∈ (Builtin.zeroCells z.cells n).toList, u.oneCell' = true) (b o c : Nat) (hn : 0 < n)
    (hc : ∀ j, j < (Builtin.zeroCells z.cells n).toList.length → (w.cell? ⟨b, o + j, none⟩).isSome = true) (hf : ∀ j, j < (Builtin.zeroCells z.cells n).toList.length → w.frozen? ⟨b, o + j, none⟩ = false) :
    (Builtin.clear_ #[t] ty #[.slice (some ⟨b, o, none⟩) n c]).run P w = .ok (.tuple #[]) (w.setCells b o (Builtin.zeroCells z.cells n).toList) := by
  have hst := run_storeCells_cells (P := P) b o (Builtin.zeroCells z.cells n).toList 0 w (by simpa using hc) (by simpa using hf) hz1
  simp only [Nat.add_zero] at hst
  obtain ⟨m, rfl⟩ : ∃ m, n = m + 1 := ⟨n - 1, by omega⟩
  simp [Builtin.clear_, run_underlying ht, hv, hst]
theorem zeroCells_len (cs : Array Value) (n : Nat) : (Builtin.zeroCells cs n).toList.length = n * cs.size := by
  simp [Builtin.zeroCells]
theorem R_beyond {α : Type} {d : Kd α} {e : Nat} {w : World} {base : Nat} {ok : Nat → Prop} {g m c : Nat} {xs : List α} (h : d.R e w base ok (.slice (some ⟨g, 0, none⟩) m c) xs) (news : List Value) (o : Nat) (ho : m * d.sz ≤ o) (hfit : o + news.length ≤ c * d.sz) :
    d.R e (w.setCells g o news) base ok (.slice (some ⟨g, 0, none⟩) m c) xs ∧ w.grownBy (w.setCells g o news) (some g) := by
  obtain ⟨hn, hnc, _⟩ := Kd.R_reads' h
  obtain ⟨hok, inner, hown, hr⟩ := h
  have hin : inner.length = m * d.sz := by rw [hr.1, hn]
  rcases hown.2 with ⟨hv, _⟩ | ⟨g', cap', cur, hv, hb, hh, hle, hcm, hcs, htake⟩
  · cases hv
  injection hv with ha _ hc
  injection ha with ha
  injection ha with hg
  subst hg; subst hc
  rw [← hn] at htake
  have hnc' : m * d.sz ≤ c * d.sz := Nat.mul_le_mul_right _ hnc
  obtain ⟨cur', h3, h4, h5⟩ := setCells_row news o w cur hh (by rw [hcs]; exact hfit)
  obtain ⟨s1, s2, s3, s4⟩ := setCells_same g news o w
  have hfar : ∀ k', k' ≠ g → (w.setCells g o news).heap[k']? = w.heap[k']? := fun k' hk' => setCells_far news _ k' hk'
  have htl : cur'.toList.take (m * d.sz) = inner := by
    rw [h5, List.append_assoc, List.take_append_of_le_length (by rw [List.length_take, Array.length_toList, hcs]; omega), List.take_take, Nat.min_eq_left ho, htake]
  refine ⟨⟨hok, inner, ⟨hown.1, .inr ⟨g, c, cur', by rw [hn], hb, h3, hle, hcm, by rw [h4, hcs], by rw [← hn]; exact htl⟩⟩, hr.imp_ (fun p q hp => d.M_move (fun k' hk' => hfar k' (fun he => hk'.2 (by rw [he]; simp [Value.ownBlock]))) hp)⟩, ⟨s1, s2, s3, by rw [s4]; exact Nat.le_refl _, fun k' _ hk' => hfar k' (fun he => hk' (by rw [he]))⟩⟩
theorem R_cleared {α : Type} {P : Program} {d : Kd α} {e : Nat} {w : World} {base : Nat} {ok : Nat → Prop} {g m c n : Nat} {xs : List α} (h : d.R e w base ok (.slice (some ⟨g, 0, none⟩) m c) xs) (t ty : TypeId) (z : Value) (ht : P.underlying t = some (.slice e)) (hv : ∀ w, (zeroValue e).run P w = .ok z w) (hzs : z.cells.size = d.sz)
    (hz1 : ∀ u ∈ (Builtin.zeroCells z.cells n).toList, u.oneCell' = true) (hn : 0 < n) (hfit : m + n ≤ c) :
    ∃ w1, (Builtin.clear_ #[t] ty #[.slice (some ⟨g, m * d.sz, none⟩) n (c - m)]).run P w = .ok (.tuple #[]) w1 ∧ d.R e w1 base ok (.slice (some ⟨g, 0, none⟩) m c) xs ∧ w.grownBy w1 (some g) := by
  have hfit' : m * d.sz + n * d.sz ≤ c * d.sz := by rw [← Nat.add_mul]; exact Nat.mul_le_mul_right _ hfit
  have hl : (Builtin.zeroCells z.cells n).toList.length = n * d.sz := by rw [zeroCells_len, hzs]
  obtain ⟨hx, _⟩ := Kd.R_own h
  obtain ⟨inner, hown, hr⟩ := h.2
  rcases hown.2 with ⟨hv', _⟩ | ⟨g', cap', cur, hv', hb, hh, hle, hcm, hcs, htake⟩
  · cases hv'
  injection hv' with ha _ hc
  injection ha with ha
  injection ha with hg
  subst hg; subst hc
  have hb2 := R_beyond h (Builtin.zeroCells z.cells n).toList (m * d.sz) (Nat.le_refl _) (by rw [hl]; exact hfit')
  refine ⟨_, run_clear_any w t e ty z ht hv hz1 g (m * d.sz) (c - m) hn (fun j hj => ?_) (fun j hj => blk_frozen hh _), hb2.1, hb2.2⟩
  rw [hl] at hj
  rw [cell_of_row w g _ cur e (0, 0) hh, Array.getElem?_eq_getElem (by omega)]
  rfl
end Go.Proofs.Ytidkniacmcbgiaa.G
end

section
namespace Go.Proofs.Ytidkniacmcbgiaa.G
open Go.RowKit Go.Proofs.YtidkniacmcbgiaaW.PrintWords Go.Proofs.YtidkniacmcbgiaaW.PrintLast Go.Proofs.YtidkniacmcbgiaaW.PrintMore
attribute [local go_sem] max2_int min2_int max_two min_two max_three min_three max_four min_four
set_option linter.unusedVariables false
set_option linter.unusedSimpArgs false
def slices_Delete_int_int.f (l0 : List (Int)) (a1 : Int) (a2 : Int) : Option (List (Int)) := if 0 ≤ a1 ∧ a1 < (l0.length : Int) ∧ a2 = a1 + 1 then some (l0.eraseIdx a1.toNat) else none
set_option maxHeartbeats 4000000 in
set_option maxRecDepth 20000 in
theorem slices_Delete_int_int.calls (P0_ : Nat → Prop) (u9000_ : Value) (l0 : List (Int)) (a1 : Int) (a2 : Int) (r : List (Int)) (w0 w : World) (hB : Below w0.heap.size w0 w) (ho0 : Kd.R (Kd.int .i64) 3 w w0.heap.size P0_ u9000_ l0) (h : slices_Delete_int_int.f l0 a1 a2 = some r) :
  Calls Try.prog 119 #[u9000_,.int .i64 a1,.int .i64 a2] w fun e w' => ∃ v0_ : Value,e = .returned (v0_) ∧ Kd.R (Kd.int .i64) 3 w' w0.heap.size (fun k_ => (P0_ k_ ∨ w.heap.size ≤ k_)) v0_ r ∧ Below w0.heap.size w0 w' ∧ Kept w w' (fun k_ => P0_ k_) := by
 unfold slices_Delete_int_int.f at h
 by_cases hq : 0 ≤ a1 ∧ a1 < (l0.length : Int) ∧ a2 = a1 + 1
 ·rw [if_pos hq] at h;obtain rfl := Option.some.inj h;obtain ⟨h0,h1,rfl⟩ := hq;clear h;obtain ⟨k,rfl⟩ : ∃ k : Nat,a1 = (k : Int) := ⟨a1.toNat,by omega⟩
  have hk : k < l0.length := by omega
  obtain ⟨g,c,rfl,hbg,hg,cells,hcells⟩ := Kd.R_form ho0 (by omega);obtain ⟨_,hc,hC⟩ := Kd.R_reads' ho0;have hl : l0.length ≤ 9223372036854775807 := hC.2.1;have HO := Aside0.mk ho0;have HB := Aside0.mk hB;clear ho0 hB hC hcells
  go_enter Try.func119,Try.ntmps119
  go_wp2
  have hinfo : (Try.prog.info? 3).map (·.size) = some ((Kd.int .i64)).sz := by kernel_rfl
  have ht := Try.underlying77
  have hA0 : (if c = k + 1 then some (⟨g,0,none⟩ : Addr) else some ⟨g,k + 1,none⟩) = if c = k + 1 then some (⟨g,0,none⟩ : Addr) else (some (⟨g,0,none⟩ : Addr)).map (·.add ((k + 1) * ((Kd.int .i64)).sz)) := by
   rw [show ((Kd.int .i64)).sz = 1 from rfl]
   simp [Addr.add]
  have HA0 := Aside0.mk hA0;clear hA0
  have hkc : k ≤ c := by omega
  have hz1 : ((0 : Int) ≤ (k : Int) + 1) = True := eq_true (by omega);have hz2 : ((k : Int) + 1 ≤ (l0.length : Int)) = True := eq_true (by omega)
  go_region_law (refine Kd.R_delete_step ((Kd.int .i64)) (w0 := w0) w0.heap.size (by rfl) (.tmp 22) (.tmp 25) 77 3 rfl ht hinfo (c := c) (k := k) (n := l0.length) rfl rfl HA0.out rfl (Kd.R_drew HO.out) hk (below_drew1 HB.out) HB.out.size ?_;intro w1 ho1 hb1 hg1)
  obtain ⟨m,hm⟩ : ∃ m,l0.length = m + 1 := ⟨l0.length - 1,by omega⟩
  have hmm : l0.length - 1 = m := by omega
  rw [hmm] at ho1 ⊢;have hcm : (c = m) = False := eq_false (by omega);have hcm1 : ((m : Int) + 1 ≤ (c : Int)) = True := eq_true (by omega);have hcm2 : (m + 1 ≤ c) = True := eq_true (by omega);obtain ⟨w2,hcl,ho2,hg2⟩ := R_cleared (P := Try.prog) (n := 1) ho1 77 0 (.int .i64 0) ht (fun w => by kernel_rfl) rfl (List.all_eq_true.1 (by kernel_rfl)) (by decide) (by omega);rw [show m * ((Kd.int .i64)).sz = m from Nat.mul_one m] at hcl;have HO2 := Aside0.mk ho2;have HB1 := Aside0.mk hb1;have HG1 := Aside0.mk hg1;have HG2 := Aside0.mk hg2;clear ho1 hb1 hg1 ho2 hg2
  rename_i hK hT
  refine hK _ _ ?_;rw [hm];clear hz2 h1 hk hl hmm hK hT;go_simp;generalize (if c = k + 1 then (some (⟨g,0,none⟩ : Addr)) else some ⟨g,k + 1,none⟩) = ax at ⊢;have hbg' := Aside0.mk hbg;clear hinfo HA0 hkc hz1 hc hg hbg
  go_wp2
  go_ret
  refine ⟨_,rfl,Kd.R_mono HO2.out (fun _ hk => .inl hk),HB1.out.grown HG2.out HB1.out.size (fun k hk => ?_),Kept.of_grown HG2.out (Kept.of_grown HG1.out (Kept.drew (Kept.refl w _)) ?_) ?_⟩
  ·injection hk with hk
   subst hk;exact hbg'.out
  ·intro k hk
   injection hk with hk
   subst hk;exact .inl (HO.out.1 _ (by simp [Value.ownBlock]))
  ·intro k hk
   injection hk with hk
   subst hk;exact .inl (HO.out.1 _ (by simp [Value.ownBlock]))
 ·rw [if_neg hq] at h;cases h
end Go.Proofs.Ytidkniacmcbgiaa.G
end

section
namespace Go.Proofs.Ytidkniacmcbgiaa.G
open Go.RowKit Go.Proofs.YtidkniacmcbgiaaW.PrintWords Go.Proofs.YtidkniacmcbgiaaW.PrintLast Go.Proofs.YtidkniacmcbgiaaW.PrintMore
attribute [local go_sem] max2_int min2_int max_two min_two max_three min_three max_four min_four
set_option linter.unusedVariables false
set_option linter.unusedSimpArgs false
set_option maxHeartbeats 2000000 in
theorem slices_IndexFunc_int_int.calls (A0 : Option Addr) (c0 : Nat) (l0 : List (Int)) (g : Nat) (lb : Array Value) (eg : ∀ args w,(callFunc g args).run Try.prog w = .ok (.enter g args) w) (p : Int → Bool) (w : World)
  (hr0 : Kd.C (Kd.int .i64) w A0 l0.length l0) (hc0 : l0.length ≤ c0)
  (hp : ∀ W,Below w.heap.size w W → ∀ x ∈ l0,Calls Try.prog g (#[.int .i64 x] ++ lb) W fun e w' => e = .returned (.bool (p x)) ∧ Below w.heap.size w w') :
  Calls Try.prog 117 #[.slice A0 l0.length c0,.func (.func g) #[] lb] w fun e w' => e = .returned (.int .i64 (idxP p l0)) ∧ Below w.heap.size w w' := by
 have hl : l0.length ≤ 9223372036854775807 := hr0.2.1;have HR0 := Aside0.mk hr0;have HP := Aside0.mk hp;clear hr0 hp;generalize hn : l0.length = n at *;have Hn := Aside0.mk hn;clear hn
 go_enter Try.func117,Try.ntmps117
 go_wp2
 go_loopg [5,8] n (fun gg _ s8 wr => ∃ kk : Nat,kk ≤ n ∧ n - kk ≤ gg ∧ s8 = .int .i64 kk ∧ Aside0 (Below w.heap.size w wr) ∧ Aside0 (∀ j x,j < kk → l0[j]? = some x → p x = false))
 case atStart => exact ⟨0,Nat.zero_le _,by omega,rfl,⟨Below.refl _ w⟩,⟨fun j _ hj => absurd hj (Nat.not_lt_zero _)⟩⟩
 case round =>
  obtain ⟨kk,hkk,hg,rfl,BW,AF⟩ := hrel
  by_cases hlt : kk < n
  ·have hltz : (kk : Int) < (n : Int) := by omega
   obtain ⟨ad,e0,hx0⟩ := Kd.at_int HR0.out (kk : Int) (by omega) (by omega);cases e0;simp only [Int.toNat_natCast] at hx0;(try rw [show ((Kd.int .i64)).sz = 1 from rfl,Nat.mul_one,Nat.add_zero] at hx0);replace hx0 := (BW.out.cell (World.block_lt_of_cell? w _ hx0)).trans hx0
   have hm : l0[kk]? = some (rd l0 (kk : Int)) := by
    have h1 : kk < l0.length := by rw [Hn.out];exact hlt
    simp [rd,List.getD_eq_getElem?_getD,List.getElem?_eq_getElem h1]
   have hcall := HP.out wr BW.out (rd l0 (kk : Int)) (List.mem_of_getElem? hm);generalize hy : rd l0 (kk : Int) = y at *;clear hy;have HM := Aside0.mk hm;clear hm
   cases hq : p y with
   | true =>
    rw [hq] at hcall;have HQ := Aside0.mk hq;clear hq
    go_wp2_with (go_at_fn g;refine hcall.mono ?_;rintro e w' ⟨rfl,hb'⟩)
    go_ret
    refine ⟨?_,hb'⟩;rw [idxP_hit HM.out HQ.out AF.out];rfl
   | false =>
    rw [hq] at hcall;have HQ := Aside0.mk hq;clear hq
    go_wp2_with (go_at_fn g;refine hcall.mono ?_;rintro e w' ⟨rfl,hb'⟩)
    go_roundg (n - (kk + 1))
    case measure => omega
    case rel =>
     refine ⟨kk + 1,by omega,by omega,by go_num,⟨hb'⟩,⟨fun j x hj hx => ?_⟩⟩
     by_cases e : j = kk
     ·subst e;rw [HM.out] at hx;cases hx;exact HQ.out
     ·exact AF.out j x (by omega) hx
  ·have hltz : ¬ (kk : Int) < (n : Int) := by omega
   have : kk = n := by omega
   subst this
   go_wp2
   go_ret
   refine ⟨?_,BW.out⟩
   rw [idxP_miss (fun x hx => by
    obtain ⟨j,hj,rfl⟩ := List.mem_iff_getElem.1 hx
    exact AF.out j _ (by rw [← Hn.out];exact hj) (List.getElem?_eq_getElem hj))]
   rfl
end Go.Proofs.Ytidkniacmcbgiaa.G
end

section
namespace Go.Proofs.Ytidkniacmcbgiaa.G
open Go.RowKit Go.Proofs.YtidkniacmcbgiaaW.PrintWords Go.Proofs.YtidkniacmcbgiaaW.PrintLast Go.Proofs.YtidkniacmcbgiaaW.PrintMore
attribute [local go_sem] max2_int min2_int max_two min_two max_three min_three max_four min_four
set_option linter.unusedVariables false
set_option linter.unusedSimpArgs false
theorem impl_Log_up.test (b1 b2 : Nat) (A0 : Option Addr) (c0 : Nat) (l0 : List (S73)) (x : S73) (n : Int) (m : Nat) (w : World) (h1 : w.heap[b1]? = some (.cells #[.slice A0 m c0] 26 (0, 0))) (h2 : w.heap[b2]? = some (.cells #[.int .i64 x.f0, .int .i64 x.f1, .bool x.f2] 73 (0, 0)))
    (hr0 : Kd.C k73 w A0 m l0) (h0 : 0 ≤ n) (hn : n < (m : Int)) :
    Calls Try.prog 118 (#[.int .i64 n] ++ #[.pointer (some ⟨b1, 0, none⟩), .pointer (some ⟨b2, 0, none⟩)]) w fun e w' => e = .returned (.bool ((rd_T73 l0 n).f1 == x.f1)) ∧ Below w.heap.size w w' := by
  rw [show (#[.int .i64 n] ++ #[.pointer (some ⟨b1, 0, none⟩), .pointer (some ⟨b2, 0, none⟩)] : Array Value) = #[.int .i64 n, .pointer (some ⟨b1, 0, none⟩), .pointer (some ⟨b2, 0, none⟩)] from rfl]
  obtain ⟨ad, e0, hx0, hx1, hx2⟩ := at_T73 hr0 n h0 hn
  cases e0
  have c1 : w.cell? ⟨b1, 0, none⟩ = some (.slice (some ad) m c0) := (blk_cell h1 0).trans rfl
  have c2 : w.cell? ⟨b2, 1, none⟩ = some (.int .i64 x.f1) := (blk_cell h2 1).trans rfl
  clear h1 h2 hr0 hx0 hx2
  replace h0 := eq_true h0
  replace hn := eq_true hn
  generalize rd_T73 l0 n = y at *
  go_enter Try.func118, Try.ntmps118
  go_wp2
  go_region
  rename_i hK
  refine hK _ _ ?_
  go_wp2
  go_ret
  exact ⟨rfl, below_drew1 (Below.refl _ _)⟩
theorem impl_Log_up.within (n lo hi : Int) : impl_within.f n lo hi = some (decide (lo ≤ n) && decide (n ≤ hi)) := by
  unfold impl_within.f
  split <;> simp [*]
theorem impl_Log_up.stored {w W : World} {gb1 gb2 : Nat} {c1 : Value} {u : Nat → Prop} {v : Value} {out : List Int} (a b : Value) (d : Value) (HO : Kd.R (Kd.int .i64) 3 W w.heap.size u v out) (HB : Below w.heap.size w W) (BK1 : W.heap[gb1]? = some (.cells #[c1] 26 (0, 0)))
    (BK2 : W.heap[gb2]? = some (.cells #[.int .i64 0, .int .i64 0, .bool false] 73 (0, 0))) (GE : w.heap.size ≤ gb2) :
    Kd.R (Kd.int .i64) 3 (((W.setCell ⟨gb2, 0, none⟩ a).setCell ⟨gb2, 1, none⟩ b).setCell ⟨gb2, 2, none⟩ d) w.heap.size u v out ∧ Below w.heap.size w (((W.setCell ⟨gb2, 0, none⟩ a).setCell ⟨gb2, 1, none⟩ b).setCell ⟨gb2, 2, none⟩ d) ∧
    (((W.setCell ⟨gb2, 0, none⟩ a).setCell ⟨gb2, 1, none⟩ b).setCell ⟨gb2, 2, none⟩ d).heap[gb1]? = some (.cells #[c1] 26 (0, 0)) ∧
    (((W.setCell ⟨gb2, 0, none⟩ a).setCell ⟨gb2, 1, none⟩ b).setCell ⟨gb2, 2, none⟩ d).heap[gb2]? = some (.cells #[a, b, d] 73 (0, 0)) := by
  have hne := blk_ne BK1 BK2 (by decide)
  refine ⟨Kd.R_mono (Kd.R_far (p := ⟨gb2, 2, none⟩) (Kd.R_far (p := ⟨gb2, 1, none⟩) (Kd.R_far (p := ⟨gb2, 0, none⟩) (Kd.R_types HO BK2 (by decide)) (fun _ hk => hk.2) a) (fun _ hk => hk.2) b) (fun _ hk => hk.2) d) (fun _ h => h.1), below_set (below_set (below_set HB GE) GE) GE, blk_far (blk_far (blk_far BK1 hne _) hne _) hne _, ?_⟩
  exact blk_put (cs := #[a, b, .bool false]) (blk_put (cs := #[a, .int .i64 0, .bool false]) (blk_put (cs := #[.int .i64 0, .int .i64 0, .bool false]) BK2 0 _ rfl) 1 _ rfl) 2 _ rfl
theorem impl_Log_up.idx_lt {α : Type} (p : α → Bool) (l : List α) : idxP p l < (l.length : Int) ∧ -1 ≤ idxP p l := by
  unfold idxP
  cases e : l.findIdx? p with
  | none => simp only; omega
  | some i =>
    rw [List.findIdx?_eq_some_iff_getElem] at e
    obtain ⟨h, _⟩ := e
    simp only
    omega
def impl_Log_up.good (b : Int) (x : S73) : Bool := (decide (b ≤ x.f0) && decide (x.f0 ≤ 100000)) && (decide (0 ≤ x.f1) && decide (x.f1 ≤ 9999))
def impl_Log_up.at (l : List (S73)) (x : S73) (out : List Int) : Int := idxP (fun n => (rd_T73 l n).f1 == x.f1) out
def impl_Log_up.step (l : List (S73)) (i : Nat) (s : Int × List Int) : Option (Int × List Int) :=
  if impl_Log_up.good s.1 (rd_T73 l (i : Int)) = false then none else
  if decide (impl_Log_up.at l (rd_T73 l (i : Int)) s.2 < 0) = (rd_T73 l (i : Int)).f2 then none else
  if (rd_T73 l (i : Int)).f2 = true then some ((rd_T73 l (i : Int)).f0, s.2.eraseIdx (impl_Log_up.at l (rd_T73 l (i : Int)) s.2).toNat) else some ((rd_T73 l (i : Int)).f0, s.2 ++ [(i : Int)])
def impl_Log_up.to (l : List (S73)) : Nat → Option (Int × List Int)
  | 0 => some (0, [])
  | n + 1 => (impl_Log_up.to l n).bind (impl_Log_up.step l n)
theorem impl_Log_up.to_none {l : List (S73)} {i n : Nat} (h : impl_Log_up.to l i = none) (hi : i ≤ n) : impl_Log_up.to l n = none := by
  induction n with
  | zero => obtain rfl : i = 0 := by omega
            exact h
  | succ n ih =>
    rcases Nat.lt_or_ge i (n + 1) with h1 | h1
    · rw [impl_Log_up.to, ih (by omega)]
      rfl
    · obtain rfl : i = n + 1 := by omega
      exact h
theorem impl_Log_up.to_in {l : List (S73)} {n : Nat} {s : Int × List Int} (h : impl_Log_up.to l n = some s) : s.2.length ≤ n ∧ ∀ x ∈ s.2, 0 ≤ x ∧ x < (n : Int) := by
  induction n generalizing s with
  | zero =>
    cases h
    simp
  | succ n ih =>
    rw [impl_Log_up.to] at h
    obtain ⟨s0, h0, h1⟩ := Option.bind_eq_some_iff.1 h
    obtain ⟨i1, i2⟩ := ih h0
    unfold impl_Log_up.step at h1
    split at h1
    · cases h1
    · split at h1
      · cases h1
      · split at h1
        · cases h1
          refine ⟨?_, fun x hx => ?_⟩
          · have := List.length_eraseIdx_le (l := s0.2) (i := (impl_Log_up.at l (rd_T73 l (n : Int)) s0.2).toNat)
            simp only
            omega
          · have := i2 x (List.mem_of_mem_eraseIdx hx)
            omega
        · cases h1
          refine ⟨by simp; omega, fun x hx => ?_⟩
          simp only [List.mem_append, List.mem_singleton] at hx
          rcases hx with hx | rfl
          · have := i2 x hx
            omega
          · omega
def impl_Log_up.f (l0 : List (S73)) : Option (List Int × Bool) := if l0.length ≤ 1048576 then some (match impl_Log_up.to l0 l0.length with | none => ([], false) | some s => (s.2, decide ((l0.length : Int) ≤ 60))) else none
set_option maxHeartbeats 8000000 in
set_option maxRecDepth 100000 in
theorem impl_Log_up.calls (A0 : Option Addr) (c0 : Nat) (l0 : List (S73)) (r1 : List Int) (r2 : Bool) (w : World) (hr0 : Kd.C k73 w A0 l0.length l0) (hc0 : l0.length ≤ c0) (h : impl_Log_up.f l0 = some (r1, r2)) :
    Calls Try.prog 75 #[.slice A0 l0.length c0] w fun e w' => ∃ v0_ : Value, e = .returned (.tuple #[v0_, .bool r2]) ∧ Kd.R (Kd.int .i64) 3 w' w.heap.size (fun _ => True) v0_ r1 ∧ Below w.heap.size w w' := by
  unfold impl_Log_up.f at h
  by_cases hL : l0.length ≤ 1048576
  · rw [if_pos hL] at h
    have h := Option.some.inj h
    have hu := Try.underlying73
    have eg := enters_of Try.func118 (by kernel_rfl) rfl
    have HR0 := Aside0.mk hr0
    have HC0 := Aside0.mk hc0
    have HB := Aside0.mk (Below.refl w.heap.size w)
    have HH := Aside0.mk h
    have HLn := Aside0.mk hL
    clear hr0 h hL
    generalize hn : l0.length = n at *
    have Hn := Aside0.mk hn
    clear hn
    go_enter Try.func75, Try.ntmps75
    go_wp2_with ((with_reducible refine gate_dst (N := 9) rfl ?_); refine Kd.R_lit (Kd.int .i64) _ 3 ?hg (N := 9) ?hd (xs := ([] : List Int)) (inner := []) (ok := fun k_ => k_ ≠ w.heap.size) (okp := fun k_ => k_ ≠ w.heap.size) ?hr ?hp (fun _ hk => hk) (by simp) (Below.refl _ _) (Nat.le_refl _) (by simp) ?_; (case hd => rfl); (case hg => rfl); (case hr => first | (go_simp; done) | (go_simp; rfl)); (case hp => exact (Reps.none _ _)); intro v1 w1 ho1 hb1 hg_ hnew_; clear hg_ hnew_; have HO1 := Aside0.mk (Kd.R_lower ho1 (by simp : w.heap.size ≤ _)); have HB1 := Aside0.mk (below_step (below_alloc (Below.refl _ w) _) hb1); have BK1 := Aside0.mk (blk_below (blk_new w _) hb1); clear ho1 hb1; have hz1 : w1.cell? ⟨w.heap.size, 0, none⟩ = some (.slice A0 n c0) := (blk_cell BK1.out 0).trans rfl)
    go_loopg [4, 5, 12] n (fun gg s4 s5 s12 wr => ∃ (kk : Nat) (b : Int) (out : List Int), kk ≤ n ∧ n - kk ≤ gg ∧ s12 = .int .i64 kk ∧ s5 = .int .i64 b ∧ Aside0 (impl_Log_up.to l0 kk = some (b, out)) ∧ Aside0 (Kd.R (Kd.int .i64) 3 wr w.heap.size (fun k_ => k_ ≠ w.heap.size) s4 out) ∧ Aside0 (Below w.heap.size w wr) ∧ Aside0 (wr.heap[w.heap.size]? = some (.cells #[.slice A0 n c0] 26 (0, 0))))
    case atStart => exact ⟨0, 0, [], Nat.zero_le _, by omega, rfl, rfl, ⟨rfl⟩, HO1, HB1, BK1⟩
    case round =>
      obtain ⟨kk, b, out, hkk, hg, rfl, rfl, HT, HO, HB2, BK⟩ := hrel
      obtain ⟨Ao, co, rfl⟩ := Kd.R_slice HO.out
      by_cases hlt : kk < n
      · have hltz : (kk : Int) < (n : Int) := by omega
        obtain ⟨ad, e0, hx0, hx1, hx2⟩ := at_T73 HR0.out (kk : Int) (by omega) (by omega)
        cases e0
        simp only [Int.toNat_natCast] at hx0 hx1 hx2
        replace hx0 := (HB2.out.cell (World.block_lt_of_cell? w _ hx0)).trans hx0
        replace hx1 := (HB2.out.cell (World.block_lt_of_cell? w _ hx1)).trans hx1
        replace hx2 := (HB2.out.cell (World.block_lt_of_cell? w _ hx2)).trans hx2
        have HS : Aside0 (impl_Log_up.to l0 (kk + 1) = impl_Log_up.step l0 kk (b, out)) := ⟨by rw [impl_Log_up.to, HT.out]; rfl⟩
        have HI := Aside0.mk (impl_Log_up.to_in HT.out)
        generalize hx : rd_T73 l0 (kk : Int) = x at *
        have HX := Aside0.mk hx
        have HW1 := Aside0.mk (impl_Log_up.within x.f0 b 100000)
        have HW2 := Aside0.mk (impl_Log_up.within x.f1 0 9999)
        have HR2 := Aside0.mk (Kd.C_below HR0.out HB2.out)
        have hfail : Aside0 (impl_Log_up.to l0 (kk + 1) = none → r1 = [] ∧ r2 = false) := ⟨fun h0 => by
          have := HH.out
          rw [impl_Log_up.to_none h0 (by omega)] at this
          simp only [Prod.mk.injEq] at this
          exact ⟨this.1.symm, this.2.symm⟩⟩
        clear hx
        cases hb1 : (decide (b ≤ x.f0) && decide (x.f0 ≤ 100000)) with
        | false =>
          rw [hb1] at HW1
          have h0 := hfail.out (by rw [HS.out]; simp only [impl_Log_up.step, HX.out]; rw [if_pos (by simp only [impl_Log_up.good]; rw [hb1]; rfl)])
          obtain ⟨rfl, rfl⟩ := h0
          clear hb1
          go_wp2_with (first | ((with_reducible refine gate_dst (N := 7) rfl ?_); refine box_event ?hg (N := 7) ?hd (cs := #[.int .i64 0, .int .i64 0, .bool false]) (t := 73) ?hr ?_; (case hd => rfl); (case hg => rfl); (case hr => first | (go_simp; done) | (go_simp; rfl)); intro gb2 hg2 w8 hbox hb8; have HO8 := Aside0.mk (Kd.R_below HO.out hb8); have HB8 := Aside0.mk (below_step HB2.out hb8); have BK8 := Aside0.mk (blk_below BK.out hb8); have BE8 := Aside0.mk hbox; have GE8 := Aside0.mk (show w.heap.size ≤ gb2 by rw [hg2]; exact HB2.out.size); have ST8 := Aside0.mk (impl_Log_up.stored (.int .i64 x.f0) (.int .i64 x.f1) (.bool x.f2) HO8.out HB8.out BK8.out BE8.out GE8.out); have hcz0 : w8.cell? ⟨gb2, 0, none⟩ = some (.int .i64 0) := (blk_cell BE8.out 0).trans rfl; have hcz1 : w8.cell? ⟨gb2, 1, none⟩ = some (.int .i64 0) := (blk_cell BE8.out 1).trans rfl; have hcz2 : w8.cell? ⟨gb2, 2, none⟩ = some (.bool false) := (blk_cell BE8.out 2).trans rfl; have hfz0 := blk_frozen BE8.out 0; have hfz1 := blk_frozen BE8.out 1; have hfz2 := blk_frozen BE8.out 2; clear hb8 hbox hg2) | (go_at_call 79; (with_reducible refine (impl_within.calls _ _ _ _ _ HW1.out).mono ?_); rintro e w9 ⟨rfl, hd9⟩; have HB9 := Aside0.mk (below_step ST8.out.2.1 hd9.below); have HO9 := Aside0.mk (Kd.R_below ST8.out.1 hd9.below); have BK9 := Aside0.mk (blk_below ST8.out.2.2.1 hd9.below); have BE9 := Aside0.mk (blk_below ST8.out.2.2.2 hd9.below); have hc0 : w9.cell? ⟨gb2, 0, none⟩ = some (.int .i64 x.f0) := (blk_cell BE9.out 0).trans rfl; have hc1 : w9.cell? ⟨gb2, 1, none⟩ = some (.int .i64 x.f1) := (blk_cell BE9.out 1).trans rfl; have hc2 : w9.cell? ⟨gb2, 2, none⟩ = some (.bool x.f2) := (blk_cell BE9.out 2).trans rfl; clear hd9))
          go_ret2
          exact ⟨_, rfl, Kd.R_nil _ _ _ _ _, HB9.out⟩
        | true =>
          rw [hb1] at HW1
          cases hb2 : (decide (0 ≤ x.f1) && decide (x.f1 ≤ 9999)) with
          | false =>
            rw [hb2] at HW2
            have h0 := hfail.out (by rw [HS.out]; simp only [impl_Log_up.step, HX.out]; rw [if_pos (by simp only [impl_Log_up.good]; rw [hb1, hb2]; rfl)])
            obtain ⟨rfl, rfl⟩ := h0
            clear hb1 hb2
            go_wp2_with (first | ((with_reducible refine gate_dst (N := 7) rfl ?_); refine box_event ?hg (N := 7) ?hd (cs := #[.int .i64 0, .int .i64 0, .bool false]) (t := 73) ?hr ?_; (case hd => rfl); (case hg => rfl); (case hr => first | (go_simp; done) | (go_simp; rfl)); intro gb2 hg2 w8 hbox hb8; have HO8 := Aside0.mk (Kd.R_below HO.out hb8); have HB8 := Aside0.mk (below_step HB2.out hb8); have BK8 := Aside0.mk (blk_below BK.out hb8); have BE8 := Aside0.mk hbox; have GE8 := Aside0.mk (show w.heap.size ≤ gb2 by rw [hg2]; exact HB2.out.size); have ST8 := Aside0.mk (impl_Log_up.stored (.int .i64 x.f0) (.int .i64 x.f1) (.bool x.f2) HO8.out HB8.out BK8.out BE8.out GE8.out); have hcz0 : w8.cell? ⟨gb2, 0, none⟩ = some (.int .i64 0) := (blk_cell BE8.out 0).trans rfl; have hcz1 : w8.cell? ⟨gb2, 1, none⟩ = some (.int .i64 0) := (blk_cell BE8.out 1).trans rfl; have hcz2 : w8.cell? ⟨gb2, 2, none⟩ = some (.bool false) := (blk_cell BE8.out 2).trans rfl; have hfz0 := blk_frozen BE8.out 0; have hfz1 := blk_frozen BE8.out 1; have hfz2 := blk_frozen BE8.out 2; clear hb8 hbox hg2) | (go_at_call 79; (with_reducible refine (impl_within.calls _ _ _ _ _ HW1.out).mono ?_); rintro e w9 ⟨rfl, hd9⟩; have HB9 := Aside0.mk (below_step ST8.out.2.1 hd9.below); have HO9 := Aside0.mk (Kd.R_below ST8.out.1 hd9.below); have BK9 := Aside0.mk (blk_below ST8.out.2.2.1 hd9.below); have BE9 := Aside0.mk (blk_below ST8.out.2.2.2 hd9.below); have hc0 : w9.cell? ⟨gb2, 0, none⟩ = some (.int .i64 x.f0) := (blk_cell BE9.out 0).trans rfl; have hc1 : w9.cell? ⟨gb2, 1, none⟩ = some (.int .i64 x.f1) := (blk_cell BE9.out 1).trans rfl; have hc2 : w9.cell? ⟨gb2, 2, none⟩ = some (.bool x.f2) := (blk_cell BE9.out 2).trans rfl; clear hd9) | (go_at_call 79; (with_reducible refine (impl_within.calls _ _ _ _ _ HW2.out).mono ?_); rintro e w10 ⟨rfl, hd10⟩; have HB10 := Aside0.mk (below_step HB9.out hd10.below); have HO10 := Aside0.mk (Kd.R_below HO9.out hd10.below); have BK10 := Aside0.mk (blk_below BK9.out hd10.below); have BE10 := Aside0.mk (blk_below BE9.out hd10.below); have hd0 : w10.cell? ⟨gb2, 0, none⟩ = some (.int .i64 x.f0) := (blk_cell BE10.out 0).trans rfl; have hd1 : w10.cell? ⟨gb2, 1, none⟩ = some (.int .i64 x.f1) := (blk_cell BE10.out 1).trans rfl; have hd2 : w10.cell? ⟨gb2, 2, none⟩ = some (.bool x.f2) := (blk_cell BE10.out 2).trans rfl; clear hd10))
            go_ret2
            exact ⟨_, rfl, Kd.R_nil _ _ _ _ _, HB10.out⟩
          | true =>
            rw [hb2] at HW2
            have HKA : Aside0 (idxP (fun n => (rd_T73 l0 n).f1 == x.f1) out = impl_Log_up.at l0 x out) := ⟨rfl⟩
            have hkb := impl_Log_up.idx_lt (fun n => (rd_T73 l0 n).f1 == x.f1) out
            rw [HKA.out] at hkb
            have HG : Aside0 (impl_Log_up.good b x = true) := ⟨by simp only [impl_Log_up.good]; rw [hb1, hb2]; rfl⟩
            have HS2 : Aside0 (impl_Log_up.to l0 (kk + 1) = if decide (impl_Log_up.at l0 x out < 0) = x.f2 then none else if x.f2 = true then some (x.f0, out.eraseIdx (impl_Log_up.at l0 x out).toNat) else some (x.f0, out ++ [(kk : Int)])) := ⟨by
              rw [HS.out]
              simp only [impl_Log_up.step, HX.out, HG.out]
              rfl⟩
            generalize impl_Log_up.at l0 x out = ka at *
            have hkl := HI.out.1
            simp only at hkl
            have hka1 : wrap64 (ka + 1) = ka + 1 := by have := HLn.out; unfold wrap64; omega
            have hka2 : IntKind.i64.wrap (ka + 1) = ka + 1 := by have := hka1; unfold wrap64 at this; rw [IntKind.wrap_i64]; exact this
            clear hb1 hb2
            by_cases hneg : ka < 0
            · have hd : decide (ka < 0) = true := decide_eq_true hneg
              cases hf2 : x.f2 with
              | true =>
                have HF2 := Aside0.mk hf2
                have h0 := hfail.out (by rw [HS2.out, hd, hf2]; rfl)
                obtain ⟨rfl, rfl⟩ := h0
                clear hf2
                go_wp2_with (first | ((with_reducible refine gate_dst (N := 7) rfl ?_); refine box_event ?hg (N := 7) ?hd (cs := #[.int .i64 0, .int .i64 0, .bool false]) (t := 73) ?hr ?_; (case hd => rfl); (case hg => rfl); (case hr => first | (go_simp; done) | (go_simp; rfl)); intro gb2 hg2 w8 hbox hb8; have HO8 := Aside0.mk (Kd.R_below HO.out hb8); have HB8 := Aside0.mk (below_step HB2.out hb8); have BK8 := Aside0.mk (blk_below BK.out hb8); have BE8 := Aside0.mk hbox; have GE8 := Aside0.mk (show w.heap.size ≤ gb2 by rw [hg2]; exact HB2.out.size); have ST8 := Aside0.mk (impl_Log_up.stored (.int .i64 x.f0) (.int .i64 x.f1) (.bool x.f2) HO8.out HB8.out BK8.out BE8.out GE8.out); have hcz0 : w8.cell? ⟨gb2, 0, none⟩ = some (.int .i64 0) := (blk_cell BE8.out 0).trans rfl; have hcz1 : w8.cell? ⟨gb2, 1, none⟩ = some (.int .i64 0) := (blk_cell BE8.out 1).trans rfl; have hcz2 : w8.cell? ⟨gb2, 2, none⟩ = some (.bool false) := (blk_cell BE8.out 2).trans rfl; have hfz0 := blk_frozen BE8.out 0; have hfz1 := blk_frozen BE8.out 1; have hfz2 := blk_frozen BE8.out 2; clear hb8 hbox hg2) | (go_at_call 79; (with_reducible refine (impl_within.calls _ _ _ _ _ HW1.out).mono ?_); rintro e w9 ⟨rfl, hd9⟩; have HB9 := Aside0.mk (below_step ST8.out.2.1 hd9.below); have HO9 := Aside0.mk (Kd.R_below ST8.out.1 hd9.below); have BK9 := Aside0.mk (blk_below ST8.out.2.2.1 hd9.below); have BE9 := Aside0.mk (blk_below ST8.out.2.2.2 hd9.below); have hc0 : w9.cell? ⟨gb2, 0, none⟩ = some (.int .i64 x.f0) := (blk_cell BE9.out 0).trans rfl; have hc1 : w9.cell? ⟨gb2, 1, none⟩ = some (.int .i64 x.f1) := (blk_cell BE9.out 1).trans rfl; have hc2 : w9.cell? ⟨gb2, 2, none⟩ = some (.bool x.f2) := (blk_cell BE9.out 2).trans rfl; clear hd9) | (go_at_call 79; (with_reducible refine (impl_within.calls _ _ _ _ _ HW2.out).mono ?_); rintro e w10 ⟨rfl, hd10⟩; have HB10 := Aside0.mk (below_step HB9.out hd10.below); have HO10 := Aside0.mk (Kd.R_below HO9.out hd10.below); have BK10 := Aside0.mk (blk_below BK9.out hd10.below); have BE10 := Aside0.mk (blk_below BE9.out hd10.below); have hd0 : w10.cell? ⟨gb2, 0, none⟩ = some (.int .i64 x.f0) := (blk_cell BE10.out 0).trans rfl; have hd1 : w10.cell? ⟨gb2, 1, none⟩ = some (.int .i64 x.f1) := (blk_cell BE10.out 1).trans rfl; have hd2 : w10.cell? ⟨gb2, 2, none⟩ = some (.bool x.f2) := (blk_cell BE10.out 2).trans rfl; clear hd10) | (go_at_call 117; refine (slices_IndexFunc_int_int.calls Ao co out _ #[.pointer (some ⟨w.heap.size, 0, none⟩), .pointer (some ⟨gb2, 0, none⟩)] eg (fun n => (rd_T73 l0 n).f1 == x.f1) _ (Kd.R_reads' HO10.out).2.2 (Kd.R_reads' HO10.out).2.1 (fun W hW m hm => (impl_Log_up.test _ _ _ c0 l0 x m n W (blk_below BK10.out hW) (blk_below BE10.out hW) (Kd.C_below (Kd.C_below HR0.out HB10.out) hW) (HI.out.2 m hm).1 (by have := (HI.out.2 m hm).2; omega)).mono (fun _ _ h => ⟨h.1, below_then hW hW.size h.2⟩))).mono ?_; rintro e w11 ⟨he11, hb11⟩; rw [HKA.out] at he11; subst he11; have HB11 := Aside0.mk (below_step HB10.out hb11); have HO11 := Aside0.mk (Kd.R_below HO10.out hb11); have BK11 := Aside0.mk (blk_below BK10.out hb11); have BE11 := Aside0.mk (blk_below BE10.out hb11); have he2 : w11.cell? ⟨gb2, 2, none⟩ = some (.bool x.f2) := (blk_cell BE11.out 2).trans rfl; rw [HF2.out] at he2; clear hb11))
                go_ret2
                exact ⟨_, rfl, Kd.R_nil _ _ _ _ _, HB11.out⟩
              | false =>
                have HF2 := Aside0.mk hf2
                clear hf2
                go_wp2_with (first | ((with_reducible refine gate_dst (N := 7) rfl ?_); refine box_event ?hg (N := 7) ?hd (cs := #[.int .i64 0, .int .i64 0, .bool false]) (t := 73) ?hr ?_; (case hd => rfl); (case hg => rfl); (case hr => first | (go_simp; done) | (go_simp; rfl)); intro gb2 hg2 w8 hbox hb8; have HO8 := Aside0.mk (Kd.R_below HO.out hb8); have HB8 := Aside0.mk (below_step HB2.out hb8); have BK8 := Aside0.mk (blk_below BK.out hb8); have BE8 := Aside0.mk hbox; have GE8 := Aside0.mk (show w.heap.size ≤ gb2 by rw [hg2]; exact HB2.out.size); have ST8 := Aside0.mk (impl_Log_up.stored (.int .i64 x.f0) (.int .i64 x.f1) (.bool x.f2) HO8.out HB8.out BK8.out BE8.out GE8.out); have hcz0 : w8.cell? ⟨gb2, 0, none⟩ = some (.int .i64 0) := (blk_cell BE8.out 0).trans rfl; have hcz1 : w8.cell? ⟨gb2, 1, none⟩ = some (.int .i64 0) := (blk_cell BE8.out 1).trans rfl; have hcz2 : w8.cell? ⟨gb2, 2, none⟩ = some (.bool false) := (blk_cell BE8.out 2).trans rfl; have hfz0 := blk_frozen BE8.out 0; have hfz1 := blk_frozen BE8.out 1; have hfz2 := blk_frozen BE8.out 2; clear hb8 hbox hg2) | (go_at_call 79; (with_reducible refine (impl_within.calls _ _ _ _ _ HW1.out).mono ?_); rintro e w9 ⟨rfl, hd9⟩; have HB9 := Aside0.mk (below_step ST8.out.2.1 hd9.below); have HO9 := Aside0.mk (Kd.R_below ST8.out.1 hd9.below); have BK9 := Aside0.mk (blk_below ST8.out.2.2.1 hd9.below); have BE9 := Aside0.mk (blk_below ST8.out.2.2.2 hd9.below); have hc0 : w9.cell? ⟨gb2, 0, none⟩ = some (.int .i64 x.f0) := (blk_cell BE9.out 0).trans rfl; have hc1 : w9.cell? ⟨gb2, 1, none⟩ = some (.int .i64 x.f1) := (blk_cell BE9.out 1).trans rfl; have hc2 : w9.cell? ⟨gb2, 2, none⟩ = some (.bool x.f2) := (blk_cell BE9.out 2).trans rfl; clear hd9) | (go_at_call 79; (with_reducible refine (impl_within.calls _ _ _ _ _ HW2.out).mono ?_); rintro e w10 ⟨rfl, hd10⟩; have HB10 := Aside0.mk (below_step HB9.out hd10.below); have HO10 := Aside0.mk (Kd.R_below HO9.out hd10.below); have BK10 := Aside0.mk (blk_below BK9.out hd10.below); have BE10 := Aside0.mk (blk_below BE9.out hd10.below); have hd0 : w10.cell? ⟨gb2, 0, none⟩ = some (.int .i64 x.f0) := (blk_cell BE10.out 0).trans rfl; have hd1 : w10.cell? ⟨gb2, 1, none⟩ = some (.int .i64 x.f1) := (blk_cell BE10.out 1).trans rfl; have hd2 : w10.cell? ⟨gb2, 2, none⟩ = some (.bool x.f2) := (blk_cell BE10.out 2).trans rfl; clear hd10) | (go_at_call 117; refine (slices_IndexFunc_int_int.calls Ao co out _ #[.pointer (some ⟨w.heap.size, 0, none⟩), .pointer (some ⟨gb2, 0, none⟩)] eg (fun n => (rd_T73 l0 n).f1 == x.f1) _ (Kd.R_reads' HO10.out).2.2 (Kd.R_reads' HO10.out).2.1 (fun W hW m hm => (impl_Log_up.test _ _ _ c0 l0 x m n W (blk_below BK10.out hW) (blk_below BE10.out hW) (Kd.C_below (Kd.C_below HR0.out HB10.out) hW) (HI.out.2 m hm).1 (by have := (HI.out.2 m hm).2; omega)).mono (fun _ _ h => ⟨h.1, below_then hW hW.size h.2⟩))).mono ?_; rintro e w11 ⟨he11, hb11⟩; rw [HKA.out] at he11; subst he11; have HB11 := Aside0.mk (below_step HB10.out hb11); have HO11 := Aside0.mk (Kd.R_below HO10.out hb11); have BK11 := Aside0.mk (blk_below BK10.out hb11); have BE11 := Aside0.mk (blk_below BE10.out hb11); have he2 : w11.cell? ⟨gb2, 2, none⟩ = some (.bool x.f2) := (blk_cell BE11.out 2).trans rfl; rw [HF2.out] at he2; clear hb11) | ((with_reducible refine gate_builtin (b := .append) (xs := #[.tmp 33, .tmp 35]) rfl ?_); at_builtin; refine Kd.R_append (Kd.int .i64) (w0 := w) w.heap.size rfl (.tmp 33) (.tmp 35) 77 3 (.int .i64 0) 8 rfl Try.underlying77 info3 rfl (by decide) (by omega) _ out (kk : Int) [.int .i64 (kk : Int)] (fun k_ => k_ ≠ w.heap.size) (fun _ => False) rfl (by first | (go_simp; done) | (go_simp; rfl)) ?aP (fun _ hk => hk.elim) ?aF ?aO ?aB ?aS ?aL ?_; (case aP => exact rfl); (case aB => exact HB11.out); (case aF => exact (fun k_ hk => by have := blk_lt BK11.out; omega)); (case aO => exact HO11.out); (case aS => exact HB11.out.size); (case aL => have := HLn.out; omega); intro v12 w12 ho12 hb12 hg12 hat12; have HB12 := Aside0.mk hb12; have HO12 := Aside0.mk ho12; have BK12 := Aside0.mk (blk_grown BK11.out hg12 (fun e => HO11.out.1 _ e.symm rfl)); clear ho12 hb12 hg12 hat12))
                go_roundg (n - (kk + 1))
                case measure => omega
                case rel => have := HLn.out; exact ⟨kk + 1, x.f0, out ++ [(kk : Int)], by omega, by omega, by rw [show ((kk + 1 : Nat) : Int) = wrap64 ((kk : Int) + 1) from by unfold wrap64; omega], rfl, ⟨by rw [HS2.out, hd, HF2.out]; rfl⟩, HO12, HB12, BK12⟩
            · have hd : decide (ka < 0) = false := decide_eq_false hneg
              cases hf2 : x.f2 with
              | false =>
                have HF2 := Aside0.mk hf2
                have h0 := hfail.out (by rw [HS2.out, hd, hf2]; rfl)
                obtain ⟨rfl, rfl⟩ := h0
                clear hf2
                go_wp2_with (first | ((with_reducible refine gate_dst (N := 7) rfl ?_); refine box_event ?hg (N := 7) ?hd (cs := #[.int .i64 0, .int .i64 0, .bool false]) (t := 73) ?hr ?_; (case hd => rfl); (case hg => rfl); (case hr => first | (go_simp; done) | (go_simp; rfl)); intro gb2 hg2 w8 hbox hb8; have HO8 := Aside0.mk (Kd.R_below HO.out hb8); have HB8 := Aside0.mk (below_step HB2.out hb8); have BK8 := Aside0.mk (blk_below BK.out hb8); have BE8 := Aside0.mk hbox; have GE8 := Aside0.mk (show w.heap.size ≤ gb2 by rw [hg2]; exact HB2.out.size); have ST8 := Aside0.mk (impl_Log_up.stored (.int .i64 x.f0) (.int .i64 x.f1) (.bool x.f2) HO8.out HB8.out BK8.out BE8.out GE8.out); have hcz0 : w8.cell? ⟨gb2, 0, none⟩ = some (.int .i64 0) := (blk_cell BE8.out 0).trans rfl; have hcz1 : w8.cell? ⟨gb2, 1, none⟩ = some (.int .i64 0) := (blk_cell BE8.out 1).trans rfl; have hcz2 : w8.cell? ⟨gb2, 2, none⟩ = some (.bool false) := (blk_cell BE8.out 2).trans rfl; have hfz0 := blk_frozen BE8.out 0; have hfz1 := blk_frozen BE8.out 1; have hfz2 := blk_frozen BE8.out 2; clear hb8 hbox hg2) | (go_at_call 79; (with_reducible refine (impl_within.calls _ _ _ _ _ HW1.out).mono ?_); rintro e w9 ⟨rfl, hd9⟩; have HB9 := Aside0.mk (below_step ST8.out.2.1 hd9.below); have HO9 := Aside0.mk (Kd.R_below ST8.out.1 hd9.below); have BK9 := Aside0.mk (blk_below ST8.out.2.2.1 hd9.below); have BE9 := Aside0.mk (blk_below ST8.out.2.2.2 hd9.below); have hc0 : w9.cell? ⟨gb2, 0, none⟩ = some (.int .i64 x.f0) := (blk_cell BE9.out 0).trans rfl; have hc1 : w9.cell? ⟨gb2, 1, none⟩ = some (.int .i64 x.f1) := (blk_cell BE9.out 1).trans rfl; have hc2 : w9.cell? ⟨gb2, 2, none⟩ = some (.bool x.f2) := (blk_cell BE9.out 2).trans rfl; clear hd9) | (go_at_call 79; (with_reducible refine (impl_within.calls _ _ _ _ _ HW2.out).mono ?_); rintro e w10 ⟨rfl, hd10⟩; have HB10 := Aside0.mk (below_step HB9.out hd10.below); have HO10 := Aside0.mk (Kd.R_below HO9.out hd10.below); have BK10 := Aside0.mk (blk_below BK9.out hd10.below); have BE10 := Aside0.mk (blk_below BE9.out hd10.below); have hd0 : w10.cell? ⟨gb2, 0, none⟩ = some (.int .i64 x.f0) := (blk_cell BE10.out 0).trans rfl; have hd1 : w10.cell? ⟨gb2, 1, none⟩ = some (.int .i64 x.f1) := (blk_cell BE10.out 1).trans rfl; have hd2 : w10.cell? ⟨gb2, 2, none⟩ = some (.bool x.f2) := (blk_cell BE10.out 2).trans rfl; clear hd10) | (go_at_call 117; refine (slices_IndexFunc_int_int.calls Ao co out _ #[.pointer (some ⟨w.heap.size, 0, none⟩), .pointer (some ⟨gb2, 0, none⟩)] eg (fun n => (rd_T73 l0 n).f1 == x.f1) _ (Kd.R_reads' HO10.out).2.2 (Kd.R_reads' HO10.out).2.1 (fun W hW m hm => (impl_Log_up.test _ _ _ c0 l0 x m n W (blk_below BK10.out hW) (blk_below BE10.out hW) (Kd.C_below (Kd.C_below HR0.out HB10.out) hW) (HI.out.2 m hm).1 (by have := (HI.out.2 m hm).2; omega)).mono (fun _ _ h => ⟨h.1, below_then hW hW.size h.2⟩))).mono ?_; rintro e w11 ⟨he11, hb11⟩; rw [HKA.out] at he11; subst he11; have HB11 := Aside0.mk (below_step HB10.out hb11); have HO11 := Aside0.mk (Kd.R_below HO10.out hb11); have BK11 := Aside0.mk (blk_below BK10.out hb11); have BE11 := Aside0.mk (blk_below BE10.out hb11); have he2 : w11.cell? ⟨gb2, 2, none⟩ = some (.bool x.f2) := (blk_cell BE11.out 2).trans rfl; rw [HF2.out] at he2; clear hb11))
                go_ret2
                exact ⟨_, rfl, Kd.R_nil _ _ _ _ _, HB11.out⟩
              | true =>
                have HF2 := Aside0.mk hf2
                clear hf2
                have HDE : Aside0 (slices_Delete_int_int.f out ka (ka + 1) = some (out.eraseIdx ka.toNat)) := ⟨by unfold slices_Delete_int_int.f; rw [if_pos ⟨by omega, by omega, rfl⟩]⟩
                go_wp2_with (first | ((with_reducible refine gate_dst (N := 7) rfl ?_); refine box_event ?hg (N := 7) ?hd (cs := #[.int .i64 0, .int .i64 0, .bool false]) (t := 73) ?hr ?_; (case hd => rfl); (case hg => rfl); (case hr => first | (go_simp; done) | (go_simp; rfl)); intro gb2 hg2 w8 hbox hb8; have HO8 := Aside0.mk (Kd.R_below HO.out hb8); have HB8 := Aside0.mk (below_step HB2.out hb8); have BK8 := Aside0.mk (blk_below BK.out hb8); have BE8 := Aside0.mk hbox; have GE8 := Aside0.mk (show w.heap.size ≤ gb2 by rw [hg2]; exact HB2.out.size); have ST8 := Aside0.mk (impl_Log_up.stored (.int .i64 x.f0) (.int .i64 x.f1) (.bool x.f2) HO8.out HB8.out BK8.out BE8.out GE8.out); have hcz0 : w8.cell? ⟨gb2, 0, none⟩ = some (.int .i64 0) := (blk_cell BE8.out 0).trans rfl; have hcz1 : w8.cell? ⟨gb2, 1, none⟩ = some (.int .i64 0) := (blk_cell BE8.out 1).trans rfl; have hcz2 : w8.cell? ⟨gb2, 2, none⟩ = some (.bool false) := (blk_cell BE8.out 2).trans rfl; have hfz0 := blk_frozen BE8.out 0; have hfz1 := blk_frozen BE8.out 1; have hfz2 := blk_frozen BE8.out 2; clear hb8 hbox hg2) | (go_at_call 79; (with_reducible refine (impl_within.calls _ _ _ _ _ HW1.out).mono ?_); rintro e w9 ⟨rfl, hd9⟩; have HB9 := Aside0.mk (below_step ST8.out.2.1 hd9.below); have HO9 := Aside0.mk (Kd.R_below ST8.out.1 hd9.below); have BK9 := Aside0.mk (blk_below ST8.out.2.2.1 hd9.below); have BE9 := Aside0.mk (blk_below ST8.out.2.2.2 hd9.below); have hc0 : w9.cell? ⟨gb2, 0, none⟩ = some (.int .i64 x.f0) := (blk_cell BE9.out 0).trans rfl; have hc1 : w9.cell? ⟨gb2, 1, none⟩ = some (.int .i64 x.f1) := (blk_cell BE9.out 1).trans rfl; have hc2 : w9.cell? ⟨gb2, 2, none⟩ = some (.bool x.f2) := (blk_cell BE9.out 2).trans rfl; clear hd9) | (go_at_call 79; (with_reducible refine (impl_within.calls _ _ _ _ _ HW2.out).mono ?_); rintro e w10 ⟨rfl, hd10⟩; have HB10 := Aside0.mk (below_step HB9.out hd10.below); have HO10 := Aside0.mk (Kd.R_below HO9.out hd10.below); have BK10 := Aside0.mk (blk_below BK9.out hd10.below); have BE10 := Aside0.mk (blk_below BE9.out hd10.below); have hd0 : w10.cell? ⟨gb2, 0, none⟩ = some (.int .i64 x.f0) := (blk_cell BE10.out 0).trans rfl; have hd1 : w10.cell? ⟨gb2, 1, none⟩ = some (.int .i64 x.f1) := (blk_cell BE10.out 1).trans rfl; have hd2 : w10.cell? ⟨gb2, 2, none⟩ = some (.bool x.f2) := (blk_cell BE10.out 2).trans rfl; clear hd10) | (go_at_call 117; refine (slices_IndexFunc_int_int.calls Ao co out _ #[.pointer (some ⟨w.heap.size, 0, none⟩), .pointer (some ⟨gb2, 0, none⟩)] eg (fun n => (rd_T73 l0 n).f1 == x.f1) _ (Kd.R_reads' HO10.out).2.2 (Kd.R_reads' HO10.out).2.1 (fun W hW m hm => (impl_Log_up.test _ _ _ c0 l0 x m n W (blk_below BK10.out hW) (blk_below BE10.out hW) (Kd.C_below (Kd.C_below HR0.out HB10.out) hW) (HI.out.2 m hm).1 (by have := (HI.out.2 m hm).2; omega)).mono (fun _ _ h => ⟨h.1, below_then hW hW.size h.2⟩))).mono ?_; rintro e w11 ⟨he11, hb11⟩; rw [HKA.out] at he11; subst he11; have HB11 := Aside0.mk (below_step HB10.out hb11); have HO11 := Aside0.mk (Kd.R_below HO10.out hb11); have BK11 := Aside0.mk (blk_below BK10.out hb11); have BE11 := Aside0.mk (blk_below BE10.out hb11); have he2 : w11.cell? ⟨gb2, 2, none⟩ = some (.bool x.f2) := (blk_cell BE11.out 2).trans rfl; rw [HF2.out] at he2; clear hb11) | (go_at_call 119; refine (slices_Delete_int_int.calls (fun k_ => k_ ≠ w.heap.size) _ out ka (ka + 1) _ w _ HB11.out HO11.out HDE.out).mono ?_; rintro e w12 ⟨v12, rfl, ho12, hb12, hk12⟩; have HB12 := Aside0.mk hb12; have HO12 := Aside0.mk (Kd.R_mono ho12 (ok' := fun k_ => k_ ≠ w.heap.size) (fun k hk => hk.elim id (fun h => by have := blk_lt BK11.out; omega))); have BK12 := Aside0.mk (blk_kept BK11.out hk12 (fun h => h rfl)); clear ho12 hb12 hk12))
                go_roundg (n - (kk + 1))
                case measure => omega
                case rel => have := HLn.out; exact ⟨kk + 1, x.f0, out.eraseIdx ka.toNat, by omega, by omega, by rw [show ((kk + 1 : Nat) : Int) = wrap64 ((kk : Int) + 1) from by unfold wrap64; omega], rfl, ⟨by rw [HS2.out, hd, HF2.out]; rfl⟩, HO12, HB12, BK12⟩
      · have hltz : ¬ (kk : Int) < (n : Int) := by omega
        have : kk = n := by omega
        subst this
        have hz2 := (blk_cell BK.out 0).trans rfl
        have hr : out = r1 ∧ decide ((kk : Int) ≤ 60) = r2 := by
          have := HH.out
          rw [HT.out] at this
          simpa using this
        obtain ⟨rfl, rfl⟩ := hr
        go_wp2
        go_region
        rename_i hK
        refine hK _ _ ?_
        clear hK
        go_wp2
        go_ret2
        exact ⟨_, rfl, Kd.R_mono (Kd.R_drew HO.out) (fun _ _ => trivial), below_drew1 HB2.out⟩
  · rw [if_neg hL] at h
    cases h
end Go.Proofs.Ytidkniacmcbgiaa.G
end

section
namespace Go.Proofs.Ytidkniacmcbgiaa.G
open Go.RowKit Go.Proofs.YtidkniacmcbgiaaW.PrintWords Go.Proofs.YtidkniacmcbgiaaW.PrintLast Go.Proofs.YtidkniacmcbgiaaW.PrintMore
attribute [local go_sem] max2_int min2_int max_two min_two max_three min_three max_four min_four
set_option linter.unusedVariables false
set_option linter.unusedSimpArgs false
def impl_ValidLog.f (l0 : List (S73)) : Option (Bool) := (impl_Log_up.f l0).bind fun bt101 => (some bt101.2)
set_option maxHeartbeats 8000000 in
set_option maxRecDepth 100000 in
theorem impl_ValidLog.calls (A0 : Option Addr) (c0 : Nat) (l0 : List (S73)) (r : Bool) (w : World) (hr0 : Kd.C k73 w A0 l0.length l0) (hc0 : l0.length ≤ c0) (h : impl_ValidLog.f l0 = some r) :
  Calls Try.prog 25 #[.slice A0 l0.length c0] w fun e w' => e = .returned (.bool r) ∧ Below w.heap.size w w' := by
 have HR0 := Aside0.mk hr0;have HC0 := Aside0.mk hc0;clear hr0 hc0;have HB := Aside0.mk (Below.refl w.heap.size w);have H : ((impl_Log_up.f l0).bind fun bt101 => (some bt101.2)) = some r := h;clear h;replace H := Option.bind_eq_some_iff.mp H;obtain ⟨⟨t101,t102⟩,A20,H⟩ := H;replace H : (some t102) = some r := H;have A2 := Aside0.mk A20;clear A20;obtain rfl := Option.some.inj H
 go_enter Try.func25,Try.ntmps25
 go_wp2_with (first | ((with_reducible refine gate_callee (f := 75) rfl ?_);refine goesL_ (some 7) rfl rfl Try.func75 (by kernel_rfl) rfl #[.slice A0 l0.length c0] rfl (by (try simp only [List.map_toArray,List.map_cons,List.map_nil]);first | done | rfl | (simp only [List.length_drop,List.length_take];rfl)) ?_;(with_reducible refine (impl_Log_up.calls _ _ l0 t101 t102 _ ?side1 ?side2 A2.out).mono ?_);(case side1 => repeat (first | exact HR0.out | (with_reducible refine Kd.C_alloc ?_ _) | (with_reducible refine Kd.C_drewN ?_ _) | (with_reducible refine Kd.C_drew ?_)));(case side2 => exact HC0.out);rintro e w3 ⟨v103,rfl,ho0,hb⟩;refine ⟨_,rfl,?_⟩;have n0_ := Aside0.mk (Kd.R_lower ho0 (below_size (by repeat (first | (with_reducible first | exact HB.out | apply below_alloc | apply pw_below_drewN | apply below_drew1) | exact HB.out))));have n1_ := Aside0.mk (below_step (by repeat (first | (with_reducible first | exact HB.out | apply below_alloc | apply pw_below_drewN | apply below_drew1) | exact HB.out)) hb);clear HB;have HO104 := n0_;have HB := n1_;clear n0_ n1_;(try clear hb);(try clear hb2);(try clear hk);(try clear hi);(try clear ho0)))
 go_ret
 exact ⟨by first | rfl | (simp [errW_none,errW_some,IntKind.wrap_i64,wrap64];done) | (simp [errW_none,errW_some] <;> rfl) | (simp [*,errW_none,errW_some] <;> rfl),by repeat (first | (with_reducible first | exact HB.out | apply below_alloc | apply pw_below_drewN | apply below_drew1) | exact HB.out)⟩
end Go.Proofs.Ytidkniacmcbgiaa.G
end

section
namespace Go.Proofs.Ytidkniacmcbgiaa.G
open Go.RowKit Go.Proofs.YtidkniacmcbgiaaW.PrintWords Go.Proofs.YtidkniacmcbgiaaW.PrintLast Go.Proofs.YtidkniacmcbgiaaW.PrintMore
attribute [local go_sem] max2_int min2_int max_two min_two max_three min_three max_four min_four
set_option linter.unusedVariables false
set_option linter.unusedSimpArgs false
def impl_allCode_1.f (l0 : List (S73)) : Option (Bool) := (impl_ValidLog.f l0).bind fun t101 => (some (!t101))
set_option maxHeartbeats 8000000 in
set_option maxRecDepth 100000 in
theorem impl_allCode_1.calls (A0 : Option Addr) (c0 : Nat) (l0 : List (S73)) (r : Bool) (w : World) (hr0 : Kd.C k73 w A0 l0.length l0) (hc0 : l0.length ≤ c0) (h : impl_allCode_1.f l0 = some r) :
  Calls Try.prog 123 #[.slice A0 l0.length c0] w fun e w' => e = .returned (.bool r) ∧ Below w.heap.size w w' := by
 have HR0 := Aside0.mk hr0;have HC0 := Aside0.mk hc0;clear hr0 hc0;have HB := Aside0.mk (Below.refl w.heap.size w);have H : ((impl_ValidLog.f l0).bind fun t101 => (some (!t101))) = some r := h;clear h;replace H := Option.bind_eq_some_iff.mp H;obtain ⟨t101,A20,H⟩ := H;replace H : (some (!t101)) = some r := H;have A2 := Aside0.mk A20;clear A20;obtain rfl := Option.some.inj H
 go_enter Try.func123,Try.ntmps123
 go_wp2_with (first | ((with_reducible refine gate_callee (f := 25) rfl ?_);refine goesL_ (some 4) rfl rfl Try.func25 (by kernel_rfl) rfl #[.slice A0 l0.length c0] rfl (by (try simp only [List.map_toArray,List.map_cons,List.map_nil]);first | done | rfl | (simp only [List.length_drop,List.length_take];rfl)) ?_;(with_reducible refine (impl_ValidLog.calls _ _ l0 t101 _ ?side1 ?side2 A2.out).mono ?_);(case side1 => repeat (first | exact HR0.out | (with_reducible refine Kd.C_alloc ?_ _) | (with_reducible refine Kd.C_drewN ?_ _) | (with_reducible refine Kd.C_drew ?_)));(case side2 => exact HC0.out);rintro e w3 ⟨rfl,hb⟩;refine ⟨_,rfl,?_⟩;have n0_ := Aside0.mk (below_step (by repeat (first | (with_reducible first | exact HB.out | apply below_alloc | apply pw_below_drewN | apply below_drew1) | exact HB.out)) hb);clear HB;have HB := n0_;clear n0_;(try clear hb);(try clear hb2);(try clear hk);(try clear hi)))
 go_ret
 exact ⟨by first | rfl | (simp [errW_none,errW_some,IntKind.wrap_i64,wrap64];done) | (simp [errW_none,errW_some] <;> rfl) | (simp [*,errW_none,errW_some] <;> rfl),by repeat (first | (with_reducible first | exact HB.out | apply below_alloc | apply pw_below_drewN | apply below_drew1) | exact HB.out)⟩
end Go.Proofs.Ytidkniacmcbgiaa.G
end

section
namespace Go.Proofs.Ytidkniacmcbgiaa.G
open Go.RowKit Go.Proofs.YtidkniacmcbgiaaW.PrintWords Go.Proofs.YtidkniacmcbgiaaW.PrintLast Go.Proofs.YtidkniacmcbgiaaW.PrintMore
attribute [local go_sem] max2_int min2_int max_two min_two max_three min_three max_four min_four
set_option linter.unusedVariables false
set_option linter.unusedSimpArgs false
set_option maxHeartbeats 2000000 in
theorem slices_IndexFunc_Log_Log.calls (A0 : Option Addr) (c0 : Nat) (l0 : List (List (S73))) (g : Nat) (lb : Array Value) (eg : ∀ args w,(callFunc g args).run Try.prog w = .ok (.enter g args) w) (p : List (S73) → Bool) (w : World)
  (hr0 : Kd.C (Kd.slice 73 k73) w A0 l0.length l0) (hc0 : l0.length ≤ c0)
  (hp : ∀ W,Below w.heap.size w W → ∀ x ∈ l0,∀ (A1 : Option Addr) (c1 : Nat),x.length ≤ c1 → Kd.C k73 W A1 x.length x → Calls Try.prog g (#[.slice A1 x.length c1] ++ lb) W fun e w' => e = .returned (.bool (p x)) ∧ Below w.heap.size w w') :
  Calls Try.prog 126 #[.slice A0 l0.length c0,.func (.func g) #[] lb] w fun e w' => e = .returned (.int .i64 (idxP p l0)) ∧ Below w.heap.size w w' := by
 have hl : l0.length ≤ 9223372036854775807 := hr0.2.1;have HR0 := Aside0.mk hr0;have HP := Aside0.mk hp;clear hr0 hp;generalize hn : l0.length = n at *;have Hn := Aside0.mk hn;clear hn
 go_enter Try.func126,Try.ntmps126
 go_wp2
 go_loopg [5,8] n (fun gg _ s8 wr => ∃ kk : Nat,kk ≤ n ∧ n - kk ≤ gg ∧ s8 = .int .i64 kk ∧ Aside0 (Below w.heap.size w wr) ∧ Aside0 (∀ j x,j < kk → l0[j]? = some x → p x = false))
 case atStart => exact ⟨0,Nat.zero_le _,by omega,rfl,⟨Below.refl _ w⟩,⟨fun j _ hj => absurd hj (Nat.not_lt_zero _)⟩⟩
 case round =>
  obtain ⟨kk,hkk,hg,rfl,BW,AF⟩ := hrel
  by_cases hlt : kk < n
  ·have hltz : (kk : Int) < (n : Int) := by omega
   obtain ⟨ad,A1,c1,e0,hx0,hlc,hC1⟩ := at_L5 HR0.out (kk : Int) (by omega) (by omega);cases e0;simp only [Int.toNat_natCast] at hx0;replace hx0 := (BW.out.cell (World.block_lt_of_cell? w _ hx0)).trans hx0
   have hm : l0[kk]? = some (rd_L5 l0 (kk : Int)) := by
    have h1 : kk < l0.length := by rw [Hn.out];exact hlt
    simp [rd_L5,List.getD_eq_getElem?_getD,List.getElem?_eq_getElem h1]
   have hcall := HP.out wr BW.out (rd_L5 l0 (kk : Int)) (List.mem_of_getElem? hm) A1 c1 hlc (Kd.C_below hC1 BW.out);clear hC1;generalize hy : rd_L5 l0 (kk : Int) = y at *;clear hy;have HM := Aside0.mk hm;clear hm
   cases hq : p y with
   | true =>
    rw [hq] at hcall;have HQ := Aside0.mk hq;clear hq
    go_wp2_with (go_at_fn g;refine hcall.mono ?_;rintro e w' ⟨rfl,hb'⟩)
    go_ret
    refine ⟨?_,hb'⟩;rw [idxP_hit HM.out HQ.out AF.out];rfl
   | false =>
    rw [hq] at hcall;have HQ := Aside0.mk hq;clear hq
    go_wp2_with (go_at_fn g;refine hcall.mono ?_;rintro e w' ⟨rfl,hb'⟩)
    go_roundg (n - (kk + 1))
    case measure => omega
    case rel =>
     refine ⟨kk + 1,by omega,by omega,by go_num,⟨hb'⟩,⟨fun j x hj hx => ?_⟩⟩
     by_cases e : j = kk
     ·subst e;rw [HM.out] at hx;cases hx;exact HQ.out
     ·exact AF.out j x (by omega) hx
  ·have hltz : ¬ (kk : Int) < (n : Int) := by omega
   have : kk = n := by omega
   subst this
   go_wp2
   go_ret
   refine ⟨?_,BW.out⟩
   rw [idxP_miss (fun x hx => by
    obtain ⟨j,hj,rfl⟩ := List.mem_iff_getElem.1 hx
    exact AF.out j _ (by rw [← Hn.out];exact hj) (List.getElem?_eq_getElem hj))]
   rfl
end Go.Proofs.Ytidkniacmcbgiaa.G
end

section
namespace Go.Proofs.Ytidkniacmcbgiaa.G
open Go.RowKit Go.Proofs.YtidkniacmcbgiaaW.PrintWords Go.Proofs.YtidkniacmcbgiaaW.PrintLast Go.Proofs.YtidkniacmcbgiaaW.PrintMore
attribute [local go_sem] max2_int min2_int max_two min_two max_three min_three max_four min_four
set_option linter.unusedVariables false
set_option linter.unusedSimpArgs false
set_option maxHeartbeats 2000000 in
theorem slices_ContainsFunc_Log_Log.calls (A0 : Option Addr) (c0 : Nat) (l0 : List (List (S73))) (g : Nat) (lb : Array Value) (eg : ∀ args w,(callFunc g args).run Try.prog w = .ok (.enter g args) w) (p : List (S73) → Bool) (w : World)
  (hr0 : Kd.C (Kd.slice 73 k73) w A0 l0.length l0) (hc0 : l0.length ≤ c0)
  (hp : ∀ W,Below w.heap.size w W → ∀ x ∈ l0,∀ (A1 : Option Addr) (c1 : Nat),x.length ≤ c1 → Kd.C k73 W A1 x.length x → Calls Try.prog g (#[.slice A1 x.length c1] ++ lb) W fun e w' => e = .returned (.bool (p x)) ∧ Below w.heap.size w w') :
  Calls Try.prog 122 #[.slice A0 l0.length c0,.func (.func g) #[] lb] w fun e w' => e = .returned (.bool (l0.any p)) ∧ Below w.heap.size w w' := by
 have H := Aside0.mk (slices_IndexFunc_Log_Log.calls A0 c0 l0 g lb eg p w hr0 hc0 hp);rw [← idxP_nonneg];clear hp hr0 eg
 go_enter Try.func122,Try.ntmps122
 go_wp2_with (go_at_call 126;refine H.out.mono ?_;rintro e w' ⟨rfl,hb'⟩)
 go_ret
 exact ⟨rfl,hb'⟩
end Go.Proofs.Ytidkniacmcbgiaa.G
end

section
namespace Go.Proofs.Ytidkniacmcbgiaa.G
open Go.RowKit Go.Proofs.YtidkniacmcbgiaaW.PrintWords Go.Proofs.YtidkniacmcbgiaaW.PrintLast Go.Proofs.YtidkniacmcbgiaaW.PrintMore
attribute [local go_sem] max2_int min2_int max_two min_two max_three min_three max_four min_four
set_option linter.unusedVariables false
set_option linter.unusedSimpArgs false
def slices_ContainsFunc_Log_Log__impl_allCode_1.f (l0 : List (List (S73))) : Option (Bool) := anyO (fun x => impl_allCode_1.f x) l0
set_option maxHeartbeats 2000000 in
theorem slices_ContainsFunc_Log_Log__impl_allCode_1.calls (A0 : Option Addr) (c0 : Nat) (l0 : List (List (S73))) (r : Bool) (w : World) (hr0 : Kd.C (Kd.slice 73 k73) w A0 l0.length l0) (hc0 : l0.length ≤ c0) (h : slices_ContainsFunc_Log_Log__impl_allCode_1.f l0 = some r) :
  Calls Try.prog 122 #[.slice A0 l0.length c0,.func (.func 123) #[] #[]] w fun e w' => e = .returned (.bool r) ∧ Below w.heap.size w w' := by
 have eg := enters_of Try.func123 (by kernel_rfl) rfl;obtain ⟨hall,rfl⟩ := anyO_some h;refine slices_ContainsFunc_Log_Log.calls A0 c0 l0 _ #[] eg (fun x => impl_allCode_1.f x == some true) w hr0 hc0 (fun W hW x hx A1_ c1_ hl_ hC_ => ?_);obtain ⟨b,hb⟩ := Option.isSome_iff_exists.1 (hall x hx);rw [show (#[.slice A1_ x.length c1_] ++ #[] : Array Value) = #[.slice A1_ x.length c1_] from rfl]
 refine (impl_allCode_1.calls A1_ c1_ x b W hC_ hl_ hb).mono fun e w' ⟨he,hw⟩ => ⟨he.trans (by rw [hb];cases b <;> rfl),?_⟩
 exact below_then hW hW.size hw
end Go.Proofs.Ytidkniacmcbgiaa.G
end

section
namespace Go.Proofs.Ytidkniacmcbgiaa.G
open Go.RowKit Go.Proofs.YtidkniacmcbgiaaW.PrintWords Go.Proofs.YtidkniacmcbgiaaW.PrintLast Go.Proofs.YtidkniacmcbgiaaW.PrintMore
attribute [local go_sem] max2_int min2_int max_two min_two max_three min_three max_four min_four
set_option linter.unusedVariables false
set_option linter.unusedSimpArgs false
def impl_allCode.f (l0 : List (List (S73))) : Option (Int) := (slices_ContainsFunc_Log_Log__impl_allCode_1.f l0).bind fun t101 => (if t101 = true then (some 1) else ((impl_size_Log.f l0).bind fun t102 => ((impl_within.f t102 1 8).bind fun t103 => ((impl_unless.f t103 2).bind fun t104 => (some t104)))))
set_option maxHeartbeats 8000000 in
set_option maxRecDepth 100000 in
theorem impl_allCode.calls (A0 : Option Addr) (c0 : Nat) (l0 : List (List (S73))) (r : Int) (w : World) (hr0 : Kd.C (Kd.slice 73 k73) w A0 l0.length l0) (hc0 : l0.length ≤ c0) (h : impl_allCode.f l0 = some r) :
  Calls Try.prog 103 #[.slice A0 l0.length c0] w fun e w' => e = .returned (.int .i64 r) ∧ Below w.heap.size w w' := by
 have HR0 := Aside0.mk hr0;have HC0 := Aside0.mk hc0;clear hr0 hc0;have HB := Aside0.mk (Below.refl w.heap.size w);have H : ((slices_ContainsFunc_Log_Log__impl_allCode_1.f l0).bind fun t101 => (if t101 = true then (some 1) else ((impl_size_Log.f l0).bind fun t102 => ((impl_within.f t102 1 8).bind fun t103 => ((impl_unless.f t103 2).bind fun t104 => (some t104)))))) = some r := h;clear h;replace H := Option.bind_eq_some_iff.mp H;obtain ⟨t101,A20,H⟩ := H;replace H : (if t101 = true then (some 1) else ((impl_size_Log.f l0).bind fun t102 => ((impl_within.f t102 1 8).bind fun t103 => ((impl_unless.f t103 2).bind fun t104 => (some t104))))) = some r := H;have A2 := Aside0.mk A20;clear A20
 by_cases c3 : t101 = true
 ·subst c3
  have H1 : (some 1) = some r := by rw [if_pos rfl] at H;exact H
  clear H;have H := H1;clear H1;obtain rfl := Option.some.inj H
  go_enter Try.func103,Try.ntmps103
  go_wp2_with (first | ((with_reducible refine gate_callee (f := 122) rfl ?_);refine goesL_ (some 4) rfl rfl Try.func122 (by kernel_rfl) rfl #[.slice A0 l0.length c0,.func (.func 123) #[] #[]] rfl (by (try simp only [List.map_toArray,List.map_cons,List.map_nil]);first | done | rfl | (simp only [List.length_drop,List.length_take];rfl)) ?_;(with_reducible refine (slices_ContainsFunc_Log_Log__impl_allCode_1.calls _ _ l0 true _ ?side1 ?side2 A2.out).mono ?_);(case side1 => repeat (first | exact HR0.out | (with_reducible refine Kd.C_alloc ?_ _) | (with_reducible refine Kd.C_drewN ?_ _) | (with_reducible refine Kd.C_drew ?_)));(case side2 => exact HC0.out);rintro e w4 ⟨rfl,hb⟩;refine ⟨_,rfl,?_⟩;have n0_ := Aside0.mk (below_step (by repeat (first | (with_reducible first | exact HB.out | apply below_alloc | apply pw_below_drewN | apply below_drew1) | exact HB.out)) hb);clear HB;have HB := n0_;clear n0_;(try clear hb);(try clear hb2);(try clear hk);(try clear hi)))
  go_ret
  exact ⟨by first | rfl | (simp [errW_none,errW_some,IntKind.wrap_i64,wrap64];done) | (simp [errW_none,errW_some] <;> rfl) | (simp [*,errW_none,errW_some] <;> rfl),by repeat (first | (with_reducible first | exact HB.out | apply below_alloc | apply pw_below_drewN | apply below_drew1) | exact HB.out)⟩
 ·replace c3 := Bool.eq_false_iff.mpr c3;subst c3
  have H1 : ((impl_size_Log.f l0).bind fun t102 => ((impl_within.f t102 1 8).bind fun t103 => ((impl_unless.f t103 2).bind fun t104 => (some t104)))) = some r := by rw [if_neg (show ¬ (false = true) by decide)] at H;exact H
  clear H;have H := H1;clear H1;replace H := Option.bind_eq_some_iff.mp H;obtain ⟨t102,A50,H⟩ := H;replace H : ((impl_within.f t102 1 8).bind fun t103 => ((impl_unless.f t103 2).bind fun t104 => (some t104))) = some r := H;have A5 := Aside0.mk A50;clear A50;replace H := Option.bind_eq_some_iff.mp H;obtain ⟨t103,A60,H⟩ := H;replace H : ((impl_unless.f t103 2).bind fun t104 => (some t104)) = some r := H;have A6 := Aside0.mk A60;clear A60;replace H := Option.bind_eq_some_iff.mp H;obtain ⟨t104,A70,H⟩ := H;replace H : (some t104) = some r := H;have A7 := Aside0.mk A70;clear A70;obtain rfl := Option.some.inj H
  go_enter Try.func103,Try.ntmps103
  go_wp2_with (first | ((with_reducible refine gate_callee (f := 122) rfl ?_);refine goesL_ (some 4) rfl rfl Try.func122 (by kernel_rfl) rfl #[.slice A0 l0.length c0,.func (.func 123) #[] #[]] rfl (by (try simp only [List.map_toArray,List.map_cons,List.map_nil]);first | done | rfl | (simp only [List.length_drop,List.length_take];rfl)) ?_;(with_reducible refine (slices_ContainsFunc_Log_Log__impl_allCode_1.calls _ _ l0 false _ ?side1 ?side2 A2.out).mono ?_);(case side1 => repeat (first | exact HR0.out | (with_reducible refine Kd.C_alloc ?_ _) | (with_reducible refine Kd.C_drewN ?_ _) | (with_reducible refine Kd.C_drew ?_)));(case side2 => exact HC0.out);rintro e w8 ⟨rfl,hb⟩;refine ⟨_,rfl,?_⟩;have n0_ := Aside0.mk (below_step (by repeat (first | (with_reducible first | exact HB.out | apply below_alloc | apply pw_below_drewN | apply below_drew1) | exact HB.out)) hb);clear HB;have HB := n0_;clear n0_;(try clear hb);(try clear hb2);(try clear hk);(try clear hi)) | ((with_reducible refine gate_callee (f := 124) rfl ?_);refine goesL_ (some 6) rfl rfl Try.func124 (by kernel_rfl) rfl #[.slice A0 l0.length c0] rfl (by (try simp only [List.map_toArray,List.map_cons,List.map_nil]);first | done | rfl | (simp only [List.length_drop,List.length_take];rfl)) ?_;(with_reducible refine (impl_size_Log.calls _ _ l0 t102 _ ?side1 ?side2 A5.out).mono ?_);(case side1 => repeat (first | exact (Kd.C_below HR0.out HB.out) | (with_reducible refine Kd.C_alloc ?_ _) | (with_reducible refine Kd.C_drewN ?_ _) | (with_reducible refine Kd.C_drew ?_)));(case side2 => exact HC0.out);rintro e w' ⟨rfl,⟨nd,rfl⟩⟩;refine ⟨_,rfl,?_⟩) | ((with_reducible refine gate_callee (f := 79) rfl ?_);refine goesL_ (some 7) rfl rfl Try.func79 (by kernel_rfl) rfl #[.int .i64 t102,.int .i64 1,.int .i64 8] rfl (by (try simp only [List.map_toArray,List.map_cons,List.map_nil]);first | done | rfl | (simp only [List.length_drop,List.length_take];rfl)) ?_;(with_reducible refine (impl_within.calls t102 1 8 t103 _ A6.out).mono ?_);rintro e w' ⟨rfl,⟨nd,rfl⟩⟩;refine ⟨_,rfl,?_⟩) | ((with_reducible refine gate_callee (f := 104) rfl ?_);refine goesL_ (some 8) rfl rfl Try.func104 (by kernel_rfl) rfl #[.bool t103,.int .i64 2] rfl (by (try simp only [List.map_toArray,List.map_cons,List.map_nil]);first | done | rfl | (simp only [List.length_drop,List.length_take];rfl)) ?_;(with_reducible refine (impl_unless.calls t103 2 t104 _ A7.out).mono ?_);rintro e w' ⟨rfl,⟨nd,rfl⟩⟩;refine ⟨_,rfl,?_⟩))
  go_ret
  exact ⟨by first | rfl | (simp [errW_none,errW_some,IntKind.wrap_i64,wrap64];done) | (simp [errW_none,errW_some] <;> rfl) | (simp [*,errW_none,errW_some] <;> rfl),by repeat (first | (with_reducible first | exact HB.out | apply below_alloc | apply pw_below_drewN | apply below_drew1) | exact HB.out)⟩
end Go.Proofs.Ytidkniacmcbgiaa.G
end

section
namespace Go.Proofs.Ytidkniacmcbgiaa.G
open Go.RowKit Go.Proofs.YtidkniacmcbgiaaW.PrintWords Go.Proofs.YtidkniacmcbgiaaW.PrintLast Go.Proofs.YtidkniacmcbgiaaW.PrintMore
attribute [local go_sem] max2_int min2_int max_two min_two max_three min_three max_four min_four
set_option linter.unusedVariables false
set_option linter.unusedSimpArgs false
def impl_Entry_agree.f (a0_0 : Int) (a0_1 : Int) (a0_2 : Bool) (a1_0 : Int) (a1_1 : Int) (a1_2 : Bool) : Option (Bool) := if a0_1 = a1_1 then (some (a0_2 == a1_2)) else (some false)
set_option maxHeartbeats 8000000 in
set_option maxRecDepth 100000 in
theorem impl_Entry_agree.calls (a0_0 : Int) (a0_1 : Int) (a0_2 : Bool) (a1_0 : Int) (a1_1 : Int) (a1_2 : Bool) (r : Bool) (w : World) (h : impl_Entry_agree.f a0_0 a0_1 a0_2 a1_0 a1_1 a1_2 = some r) :
  Calls Try.prog 92 #[.agg #[.int .i64 a0_0,.int .i64 a0_1,.bool a0_2],.agg #[.int .i64 a1_0,.int .i64 a1_1,.bool a1_2]] w fun e w' => e = .returned (.bool r) ∧ Below w.heap.size w w' := by
 have hu73 := Try.underlying73;have HB := Aside0.mk (Below.refl w.heap.size w);have H : (if a0_1 = a1_1 then (some (a0_2 == a1_2)) else (some false)) = some r := h;clear h
 by_cases c3 : a0_1 = a1_1
 ·rw [if_pos c3] at H;have c3b0 : (a0_1 == a1_1) = true := beq_iff_eq.mpr c3;have c3b1 : (a0_1 != a1_1) = false := bne_eq_false_iff_eq.mpr c3;clear c3;obtain rfl := Option.some.inj H
  go_enter Try.func92,Try.ntmps92
  go_wp2_with (first | ((with_reducible refine gate_dst (N := 2) rfl ?_);refine box_event ?hg (N := 2) ?hd (cs := #[.int .i64 a0_0,.int .i64 a0_1,.bool a0_2]) (t := 73) ?hr ?_;(case hd => rfl);(case hg => rfl);(case hr => first | (go_simp;done) | (go_simp;rfl));intro gb101 hg w4 hbox hb;have n0_ := Aside0.mk (below_step (by repeat (first | (with_reducible first | exact HB.out | apply below_alloc | apply pw_below_drewN | apply below_drew1) | exact HB.out)) hb);have n1_ := Aside0.mk (hbox);have n2_ := Aside0.mk ((by rw [hg];exact (below_size (by repeat (first | (with_reducible first | exact HB.out | apply below_alloc | apply pw_below_drewN | apply below_drew1) | exact HB.out))) : w.heap.size ≤ gb101));have n3_ := Aside0.mk ((by rw [hg];exact (below_size (by repeat (first | (with_reducible first | exact HB.out | apply below_alloc | apply pw_below_drewN | apply below_drew1) | exact HB.out))) : w.heap.size ≤ gb101));clear HB;have HB := n0_;have BK101 := n1_;have GW101 := n2_;have GE101 := n3_;clear n0_ n1_ n2_ n3_;clear hb hbox hg) | ((with_reducible refine gate_dst (N := 3) rfl ?_);refine box_event ?hg (N := 3) ?hd (cs := #[.int .i64 a1_0,.int .i64 a1_1,.bool a1_2]) (t := 73) ?hr ?_;(case hd => rfl);(case hg => rfl);(case hr => first | (go_simp;done) | (go_simp;rfl));intro gb102 hg w5 hbox hb;have n0_ := Aside0.mk (blk_below (g := gb101) (o := .cells #[.int .i64 a0_0,.int .i64 a0_1,.bool a0_2] 73 (0,0)) (by (with_reducible repeat (first | refine blk_drewN ?_ _ | refine blk_drew ?_ | refine blk_alloc ?_ _));exact BK101.out) hb);have n1_ := Aside0.mk (below_step (by repeat (first | (with_reducible first | exact HB.out | apply below_alloc | apply pw_below_drewN | apply below_drew1 | refine below_set ?_ GE101.out) | exact HB.out)) hb);have n2_ := Aside0.mk (hbox);have n3_ := Aside0.mk ((by rw [hg];exact (below_size (by repeat (first | (with_reducible first | exact HB.out | apply below_alloc | apply pw_below_drewN | apply below_drew1 | refine below_set ?_ GE101.out) | exact HB.out))) : w.heap.size ≤ gb102));have n4_ := Aside0.mk ((by rw [hg];exact (below_size (by repeat (first | (with_reducible first | exact HB.out | apply below_alloc | apply pw_below_drewN | apply below_drew1 | refine below_set ?_ GE101.out) | exact HB.out))) : w.heap.size ≤ gb102));have n5_ := Aside0.mk ((by rw [hg];exact Nat.ne_of_lt (blk_lt (g := gb101) (o := .cells #[.int .i64 a0_0,.int .i64 a0_1,.bool a0_2] 73 (0,0)) (by (with_reducible repeat (first | refine blk_drewN ?_ _ | refine blk_drew ?_ | refine blk_alloc ?_ _));exact BK101.out)) : gb101 ≠ gb102));have n6_ := Aside0.mk ((by rw [hg];exact Nat.ne_of_gt (blk_lt (g := gb101) (o := .cells #[.int .i64 a0_0,.int .i64 a0_1,.bool a0_2] 73 (0,0)) (by (with_reducible repeat (first | refine blk_drewN ?_ _ | refine blk_drew ?_ | refine blk_alloc ?_ _));exact BK101.out)) : gb102 ≠ gb101));clear BK101;clear HB;have BK101 := n0_;have HB := n1_;have BK102 := n2_;have GW102 := n3_;have GE102 := n4_;have NB101_102 := n5_;have NB102_101 := n6_;clear n0_ n1_ n2_ n3_ n4_ n5_ n6_;clear hb hbox hg;have hnb6 := NB101_102.out;have hnc6 := NB102_101.out;have hcz7_0 : w5.cell? ⟨gb101,0,none⟩ = some (.int .i64 a0_0) := (blk_cell BK101.out 0).trans rfl;have hcz7_1 : w5.cell? ⟨gb101,1,none⟩ = some (.int .i64 a0_1) := (blk_cell BK101.out 1).trans rfl;have hcz7_2 : w5.cell? ⟨gb101,2,none⟩ = some (.bool a0_2) := (blk_cell BK101.out 2).trans rfl;have hfz7_0 := blk_frozen BK101.out 0;have hfz7_1 := blk_frozen BK101.out 1;have hfz7_2 := blk_frozen BK101.out 2;have hcz8_0 : w5.cell? ⟨gb102,0,none⟩ = some (.int .i64 a1_0) := (blk_cell BK102.out 0).trans rfl;have hcz8_1 : w5.cell? ⟨gb102,1,none⟩ = some (.int .i64 a1_1) := (blk_cell BK102.out 1).trans rfl;have hcz8_2 : w5.cell? ⟨gb102,2,none⟩ = some (.bool a1_2) := (blk_cell BK102.out 2).trans rfl;have hfz8_0 := blk_frozen BK102.out 0;have hfz8_1 := blk_frozen BK102.out 1;have hfz8_2 := blk_frozen BK102.out 2))
  go_ret
  exact ⟨by first | rfl | (simp [errW_none,errW_some,IntKind.wrap_i64,wrap64];done) | (simp [errW_none,errW_some] <;> rfl) | (simp [*,errW_none,errW_some] <;> rfl),by repeat (first | (with_reducible first | exact HB.out | apply below_alloc | apply pw_below_drewN | apply below_drew1 | refine below_set ?_ GE101.out | refine below_set ?_ GE102.out) | exact HB.out)⟩
 ·rw [if_neg c3] at H;have c3b0 : (a0_1 == a1_1) = false := beq_eq_false_iff_ne.mpr c3;have c3b1 : (a0_1 != a1_1) = true := bne_iff_ne.mpr c3;obtain rfl := Option.some.inj H
  go_enter Try.func92,Try.ntmps92
  go_wp2_with (first | ((with_reducible refine gate_dst (N := 2) rfl ?_);refine box_event ?hg (N := 2) ?hd (cs := #[.int .i64 a0_0,.int .i64 a0_1,.bool a0_2]) (t := 73) ?hr ?_;(case hd => rfl);(case hg => rfl);(case hr => first | (go_simp;done) | (go_simp;rfl));intro gb101 hg w9 hbox hb;have n0_ := Aside0.mk (below_step (by repeat (first | (with_reducible first | exact HB.out | apply below_alloc | apply pw_below_drewN | apply below_drew1) | exact HB.out)) hb);have n1_ := Aside0.mk (hbox);have n2_ := Aside0.mk ((by rw [hg];exact (below_size (by repeat (first | (with_reducible first | exact HB.out | apply below_alloc | apply pw_below_drewN | apply below_drew1) | exact HB.out))) : w.heap.size ≤ gb101));have n3_ := Aside0.mk ((by rw [hg];exact (below_size (by repeat (first | (with_reducible first | exact HB.out | apply below_alloc | apply pw_below_drewN | apply below_drew1) | exact HB.out))) : w.heap.size ≤ gb101));clear HB;have HB := n0_;have BK101 := n1_;have GW101 := n2_;have GE101 := n3_;clear n0_ n1_ n2_ n3_;clear hb hbox hg) | ((with_reducible refine gate_dst (N := 3) rfl ?_);refine box_event ?hg (N := 3) ?hd (cs := #[.int .i64 a1_0,.int .i64 a1_1,.bool a1_2]) (t := 73) ?hr ?_;(case hd => rfl);(case hg => rfl);(case hr => first | (go_simp;done) | (go_simp;rfl));intro gb102 hg w10 hbox hb;have n0_ := Aside0.mk (blk_below (g := gb101) (o := .cells #[.int .i64 a0_0,.int .i64 a0_1,.bool a0_2] 73 (0,0)) (by (with_reducible repeat (first | refine blk_drewN ?_ _ | refine blk_drew ?_ | refine blk_alloc ?_ _));exact BK101.out) hb);have n1_ := Aside0.mk (below_step (by repeat (first | (with_reducible first | exact HB.out | apply below_alloc | apply pw_below_drewN | apply below_drew1 | refine below_set ?_ GE101.out) | exact HB.out)) hb);have n2_ := Aside0.mk (hbox);have n3_ := Aside0.mk ((by rw [hg];exact (below_size (by repeat (first | (with_reducible first | exact HB.out | apply below_alloc | apply pw_below_drewN | apply below_drew1 | refine below_set ?_ GE101.out) | exact HB.out))) : w.heap.size ≤ gb102));have n4_ := Aside0.mk ((by rw [hg];exact (below_size (by repeat (first | (with_reducible first | exact HB.out | apply below_alloc | apply pw_below_drewN | apply below_drew1 | refine below_set ?_ GE101.out) | exact HB.out))) : w.heap.size ≤ gb102));have n5_ := Aside0.mk ((by rw [hg];exact Nat.ne_of_lt (blk_lt (g := gb101) (o := .cells #[.int .i64 a0_0,.int .i64 a0_1,.bool a0_2] 73 (0,0)) (by (with_reducible repeat (first | refine blk_drewN ?_ _ | refine blk_drew ?_ | refine blk_alloc ?_ _));exact BK101.out)) : gb101 ≠ gb102));have n6_ := Aside0.mk ((by rw [hg];exact Nat.ne_of_gt (blk_lt (g := gb101) (o := .cells #[.int .i64 a0_0,.int .i64 a0_1,.bool a0_2] 73 (0,0)) (by (with_reducible repeat (first | refine blk_drewN ?_ _ | refine blk_drew ?_ | refine blk_alloc ?_ _));exact BK101.out)) : gb102 ≠ gb101));clear BK101;clear HB;have BK101 := n0_;have HB := n1_;have BK102 := n2_;have GW102 := n3_;have GE102 := n4_;have NB101_102 := n5_;have NB102_101 := n6_;clear n0_ n1_ n2_ n3_ n4_ n5_ n6_;clear hb hbox hg;have hnb11 := NB101_102.out;have hnc11 := NB102_101.out;have hcz12_0 : w10.cell? ⟨gb101,0,none⟩ = some (.int .i64 a0_0) := (blk_cell BK101.out 0).trans rfl;have hcz12_1 : w10.cell? ⟨gb101,1,none⟩ = some (.int .i64 a0_1) := (blk_cell BK101.out 1).trans rfl;have hcz12_2 : w10.cell? ⟨gb101,2,none⟩ = some (.bool a0_2) := (blk_cell BK101.out 2).trans rfl;have hfz12_0 := blk_frozen BK101.out 0;have hfz12_1 := blk_frozen BK101.out 1;have hfz12_2 := blk_frozen BK101.out 2;have hcz13_0 : w10.cell? ⟨gb102,0,none⟩ = some (.int .i64 a1_0) := (blk_cell BK102.out 0).trans rfl;have hcz13_1 : w10.cell? ⟨gb102,1,none⟩ = some (.int .i64 a1_1) := (blk_cell BK102.out 1).trans rfl;have hcz13_2 : w10.cell? ⟨gb102,2,none⟩ = some (.bool a1_2) := (blk_cell BK102.out 2).trans rfl;have hfz13_0 := blk_frozen BK102.out 0;have hfz13_1 := blk_frozen BK102.out 1;have hfz13_2 := blk_frozen BK102.out 2))
  go_ret
  exact ⟨by first | rfl | (simp [errW_none,errW_some,IntKind.wrap_i64,wrap64];done) | (simp [errW_none,errW_some] <;> rfl) | (simp [*,errW_none,errW_some] <;> rfl),by repeat (first | (with_reducible first | exact HB.out | apply below_alloc | apply pw_below_drewN | apply below_drew1 | refine below_set ?_ GE101.out | refine below_set ?_ GE102.out) | exact HB.out)⟩
end Go.Proofs.Ytidkniacmcbgiaa.G
end

section
namespace Go.Proofs.Ytidkniacmcbgiaa.G
open Go.RowKit Go.Proofs.YtidkniacmcbgiaaW.PrintWords Go.Proofs.YtidkniacmcbgiaaW.PrintLast Go.Proofs.YtidkniacmcbgiaaW.PrintMore
attribute [local go_sem] max2_int min2_int max_two min_two max_three min_three max_four min_four
set_option linter.unusedVariables false
set_option linter.unusedSimpArgs false
def impl_stepFaults.f (a0_0 : Int) (a0_1 : Int) (a0_2 : Bool) (a1_0 : Int) (a1_1 : Int) (a1_2 : Bool) : Option (Int × Bool) := (impl_Entry_agree.f a0_0 a0_1 a0_2 a1_0 a1_1 a1_2).bind fun t103 => (if t103 = true then (some (0,true)) else (some (1,(a0_2 == a1_2))))
set_option maxHeartbeats 8000000 in
set_option maxRecDepth 100000 in
theorem impl_stepFaults.calls (a0_0 : Int) (a0_1 : Int) (a0_2 : Bool) (a1_0 : Int) (a1_1 : Int) (a1_2 : Bool) (r1 : Int) (r2 : Bool) (w : World) (h : impl_stepFaults.f a0_0 a0_1 a0_2 a1_0 a1_1 a1_2 = some (r1,r2)) :
  Calls Try.prog 98 #[.agg #[.int .i64 a0_0,.int .i64 a0_1,.bool a0_2],.agg #[.int .i64 a1_0,.int .i64 a1_1,.bool a1_2]] w fun e w' => e = .returned (.tuple #[.int .i64 r1,.bool r2]) ∧ Below w.heap.size w w' := by
 have hu73 := Try.underlying73;have HB := Aside0.mk (Below.refl w.heap.size w);have H : ((impl_Entry_agree.f a0_0 a0_1 a0_2 a1_0 a1_1 a1_2).bind fun t103 => (if t103 = true then (some (0,true)) else (some (1,(a0_2 == a1_2))))) = some (r1,r2) := h;clear h;replace H := Option.bind_eq_some_iff.mp H;obtain ⟨t103,A30,H⟩ := H;replace H : (if t103 = true then (some (0,true)) else (some (1,(a0_2 == a1_2)))) = some (r1,r2) := H;have A3 := Aside0.mk A30;clear A30
 by_cases c4 : t103 = true
 ·subst c4
  have H1 : (some (0,true)) = some (r1,r2) := by rw [if_pos rfl] at H;exact H
  clear H;have H := H1;clear H1;simp only [Option.some.injEq,Prod.mk.injEq] at H;obtain ⟨rfl,rfl⟩ := H
  go_enter Try.func98,Try.ntmps98
  go_wp2_with (first | ((with_reducible refine gate_dst (N := 2) rfl ?_);refine box_event ?hg (N := 2) ?hd (cs := #[.int .i64 a0_0,.int .i64 a0_1,.bool a0_2]) (t := 73) ?hr ?_;(case hd => rfl);(case hg => rfl);(case hr => first | (go_simp;done) | (go_simp;rfl));intro gb101 hg w5 hbox hb;have n0_ := Aside0.mk (below_step (by repeat (first | (with_reducible first | exact HB.out | apply below_alloc | apply pw_below_drewN | apply below_drew1) | exact HB.out)) hb);have n1_ := Aside0.mk (hbox);have n2_ := Aside0.mk ((by rw [hg];exact (below_size (by repeat (first | (with_reducible first | exact HB.out | apply below_alloc | apply pw_below_drewN | apply below_drew1) | exact HB.out))) : w.heap.size ≤ gb101));have n3_ := Aside0.mk ((by rw [hg];exact (below_size (by repeat (first | (with_reducible first | exact HB.out | apply below_alloc | apply pw_below_drewN | apply below_drew1) | exact HB.out))) : w.heap.size ≤ gb101));clear HB;have HB := n0_;have BK101 := n1_;have GW101 := n2_;have GE101 := n3_;clear n0_ n1_ n2_ n3_;clear hb hbox hg) | ((with_reducible refine gate_dst (N := 3) rfl ?_);refine box_event ?hg (N := 3) ?hd (cs := #[.int .i64 a1_0,.int .i64 a1_1,.bool a1_2]) (t := 73) ?hr ?_;(case hd => rfl);(case hg => rfl);(case hr => first | (go_simp;done) | (go_simp;rfl));intro gb102 hg w6 hbox hb;have n0_ := Aside0.mk (blk_below (g := gb101) (o := .cells #[.int .i64 a0_0,.int .i64 a0_1,.bool a0_2] 73 (0,0)) (by (with_reducible repeat (first | refine blk_drewN ?_ _ | refine blk_drew ?_ | refine blk_alloc ?_ _));exact BK101.out) hb);have n1_ := Aside0.mk (below_step (by repeat (first | (with_reducible first | exact HB.out | apply below_alloc | apply pw_below_drewN | apply below_drew1 | refine below_set ?_ GE101.out) | exact HB.out)) hb);have n2_ := Aside0.mk (hbox);have n3_ := Aside0.mk ((by rw [hg];exact (below_size (by repeat (first | (with_reducible first | exact HB.out | apply below_alloc | apply pw_below_drewN | apply below_drew1 | refine below_set ?_ GE101.out) | exact HB.out))) : w.heap.size ≤ gb102));have n4_ := Aside0.mk ((by rw [hg];exact (below_size (by repeat (first | (with_reducible first | exact HB.out | apply below_alloc | apply pw_below_drewN | apply below_drew1 | refine below_set ?_ GE101.out) | exact HB.out))) : w.heap.size ≤ gb102));have n5_ := Aside0.mk ((by rw [hg];exact Nat.ne_of_lt (blk_lt (g := gb101) (o := .cells #[.int .i64 a0_0,.int .i64 a0_1,.bool a0_2] 73 (0,0)) (by (with_reducible repeat (first | refine blk_drewN ?_ _ | refine blk_drew ?_ | refine blk_alloc ?_ _));exact BK101.out)) : gb101 ≠ gb102));have n6_ := Aside0.mk ((by rw [hg];exact Nat.ne_of_gt (blk_lt (g := gb101) (o := .cells #[.int .i64 a0_0,.int .i64 a0_1,.bool a0_2] 73 (0,0)) (by (with_reducible repeat (first | refine blk_drewN ?_ _ | refine blk_drew ?_ | refine blk_alloc ?_ _));exact BK101.out)) : gb102 ≠ gb101));clear BK101;clear HB;have BK101 := n0_;have HB := n1_;have BK102 := n2_;have GW102 := n3_;have GE102 := n4_;have NB101_102 := n5_;have NB102_101 := n6_;clear n0_ n1_ n2_ n3_ n4_ n5_ n6_;clear hb hbox hg;have hnb7 := NB101_102.out;have hnc7 := NB102_101.out;have hcz8_0 : w6.cell? ⟨gb101,0,none⟩ = some (.int .i64 a0_0) := (blk_cell BK101.out 0).trans rfl;have hcz8_1 : w6.cell? ⟨gb101,1,none⟩ = some (.int .i64 a0_1) := (blk_cell BK101.out 1).trans rfl;have hcz8_2 : w6.cell? ⟨gb101,2,none⟩ = some (.bool a0_2) := (blk_cell BK101.out 2).trans rfl;have hfz8_0 := blk_frozen BK101.out 0;have hfz8_1 := blk_frozen BK101.out 1;have hfz8_2 := blk_frozen BK101.out 2;have hcz9_0 : w6.cell? ⟨gb102,0,none⟩ = some (.int .i64 a1_0) := (blk_cell BK102.out 0).trans rfl;have hcz9_1 : w6.cell? ⟨gb102,1,none⟩ = some (.int .i64 a1_1) := (blk_cell BK102.out 1).trans rfl;have hcz9_2 : w6.cell? ⟨gb102,2,none⟩ = some (.bool a1_2) := (blk_cell BK102.out 2).trans rfl;have hfz9_0 := blk_frozen BK102.out 0;have hfz9_1 := blk_frozen BK102.out 1;have hfz9_2 := blk_frozen BK102.out 2) | (go_at_call 92;(with_reducible refine (impl_Entry_agree.calls a0_0 a0_1 a0_2 a1_0 a1_1 a1_2 true _ A3.out).mono ?_);rintro e w10 ⟨rfl,hb⟩;have n0_ := Aside0.mk (blk_below (g := gb101) (o := .cells #[.int .i64 a0_0,.int .i64 a0_1,.bool a0_2] 73 (0,0)) (by (with_reducible repeat (first | refine blk_drewN ?_ _ | refine blk_drew ?_ | refine blk_alloc ?_ _));exact BK101.out) hb);have n1_ := Aside0.mk (blk_below (g := gb102) (o := .cells #[.int .i64 a1_0,.int .i64 a1_1,.bool a1_2] 73 (0,0)) (by (with_reducible repeat (first | refine blk_drewN ?_ _ | refine blk_drew ?_ | refine blk_alloc ?_ _));exact BK102.out) hb);have n2_ := Aside0.mk (below_step (by repeat (first | (with_reducible first | exact HB.out | apply below_alloc | apply pw_below_drewN | apply below_drew1 | refine below_set ?_ GE101.out | refine below_set ?_ GE102.out) | exact HB.out)) hb);clear BK101;clear BK102;clear HB;have BK101 := n0_;have BK102 := n1_;have HB := n2_;clear n0_ n1_ n2_;(try clear hb);(try clear hb2);(try clear hk);(try clear hi)))
  repeat (go_quiet (fail);try go_wp2_with (first | ((with_reducible refine gate_dst (N := 2) rfl ?_);refine box_event ?hg (N := 2) ?hd (cs := #[.int .i64 a0_0,.int .i64 a0_1,.bool a0_2]) (t := 73) ?hr ?_;(case hd => rfl);(case hg => rfl);(case hr => first | (go_simp;done) | (go_simp;rfl));intro gb101 hg w5 hbox hb;have n0_ := Aside0.mk (below_step (by repeat (first | (with_reducible first | exact HB.out | apply below_alloc | apply pw_below_drewN | apply below_drew1) | exact HB.out)) hb);have n1_ := Aside0.mk (hbox);have n2_ := Aside0.mk ((by rw [hg];exact (below_size (by repeat (first | (with_reducible first | exact HB.out | apply below_alloc | apply pw_below_drewN | apply below_drew1) | exact HB.out))) : w.heap.size ≤ gb101));have n3_ := Aside0.mk ((by rw [hg];exact (below_size (by repeat (first | (with_reducible first | exact HB.out | apply below_alloc | apply pw_below_drewN | apply below_drew1) | exact HB.out))) : w.heap.size ≤ gb101));clear HB;have HB := n0_;have BK101 := n1_;have GW101 := n2_;have GE101 := n3_;clear n0_ n1_ n2_ n3_;clear hb hbox hg) | ((with_reducible refine gate_dst (N := 3) rfl ?_);refine box_event ?hg (N := 3) ?hd (cs := #[.int .i64 a1_0,.int .i64 a1_1,.bool a1_2]) (t := 73) ?hr ?_;(case hd => rfl);(case hg => rfl);(case hr => first | (go_simp;done) | (go_simp;rfl));intro gb102 hg w6 hbox hb;have n0_ := Aside0.mk (blk_below (g := gb101) (o := .cells #[.int .i64 a0_0,.int .i64 a0_1,.bool a0_2] 73 (0,0)) (by (with_reducible repeat (first | refine blk_drewN ?_ _ | refine blk_drew ?_ | refine blk_alloc ?_ _));exact BK101.out) hb);have n1_ := Aside0.mk (below_step (by repeat (first | (with_reducible first | exact HB.out | apply below_alloc | apply pw_below_drewN | apply below_drew1 | refine below_set ?_ GE101.out) | exact HB.out)) hb);have n2_ := Aside0.mk (hbox);have n3_ := Aside0.mk ((by rw [hg];exact (below_size (by repeat (first | (with_reducible first | exact HB.out | apply below_alloc | apply pw_below_drewN | apply below_drew1 | refine below_set ?_ GE101.out) | exact HB.out))) : w.heap.size ≤ gb102));have n4_ := Aside0.mk ((by rw [hg];exact (below_size (by repeat (first | (with_reducible first | exact HB.out | apply below_alloc | apply pw_below_drewN | apply below_drew1 | refine below_set ?_ GE101.out) | exact HB.out))) : w.heap.size ≤ gb102));have n5_ := Aside0.mk ((by rw [hg];exact Nat.ne_of_lt (blk_lt (g := gb101) (o := .cells #[.int .i64 a0_0,.int .i64 a0_1,.bool a0_2] 73 (0,0)) (by (with_reducible repeat (first | refine blk_drewN ?_ _ | refine blk_drew ?_ | refine blk_alloc ?_ _));exact BK101.out)) : gb101 ≠ gb102));have n6_ := Aside0.mk ((by rw [hg];exact Nat.ne_of_gt (blk_lt (g := gb101) (o := .cells #[.int .i64 a0_0,.int .i64 a0_1,.bool a0_2] 73 (0,0)) (by (with_reducible repeat (first | refine blk_drewN ?_ _ | refine blk_drew ?_ | refine blk_alloc ?_ _));exact BK101.out)) : gb102 ≠ gb101));clear BK101;clear HB;have BK101 := n0_;have HB := n1_;have BK102 := n2_;have GW102 := n3_;have GE102 := n4_;have NB101_102 := n5_;have NB102_101 := n6_;clear n0_ n1_ n2_ n3_ n4_ n5_ n6_;clear hb hbox hg;have hnb7 := NB101_102.out;have hnc7 := NB102_101.out;have hcz8_0 : w6.cell? ⟨gb101,0,none⟩ = some (.int .i64 a0_0) := (blk_cell BK101.out 0).trans rfl;have hcz8_1 : w6.cell? ⟨gb101,1,none⟩ = some (.int .i64 a0_1) := (blk_cell BK101.out 1).trans rfl;have hcz8_2 : w6.cell? ⟨gb101,2,none⟩ = some (.bool a0_2) := (blk_cell BK101.out 2).trans rfl;have hfz8_0 := blk_frozen BK101.out 0;have hfz8_1 := blk_frozen BK101.out 1;have hfz8_2 := blk_frozen BK101.out 2;have hcz9_0 : w6.cell? ⟨gb102,0,none⟩ = some (.int .i64 a1_0) := (blk_cell BK102.out 0).trans rfl;have hcz9_1 : w6.cell? ⟨gb102,1,none⟩ = some (.int .i64 a1_1) := (blk_cell BK102.out 1).trans rfl;have hcz9_2 : w6.cell? ⟨gb102,2,none⟩ = some (.bool a1_2) := (blk_cell BK102.out 2).trans rfl;have hfz9_0 := blk_frozen BK102.out 0;have hfz9_1 := blk_frozen BK102.out 1;have hfz9_2 := blk_frozen BK102.out 2) | (go_at_call 92;(with_reducible refine (impl_Entry_agree.calls a0_0 a0_1 a0_2 a1_0 a1_1 a1_2 true _ A3.out).mono ?_);rintro e w10 ⟨rfl,hb⟩;have n0_ := Aside0.mk (blk_below (g := gb101) (o := .cells #[.int .i64 a0_0,.int .i64 a0_1,.bool a0_2] 73 (0,0)) (by (with_reducible repeat (first | refine blk_drewN ?_ _ | refine blk_drew ?_ | refine blk_alloc ?_ _));exact BK101.out) hb);have n1_ := Aside0.mk (blk_below (g := gb102) (o := .cells #[.int .i64 a1_0,.int .i64 a1_1,.bool a1_2] 73 (0,0)) (by (with_reducible repeat (first | refine blk_drewN ?_ _ | refine blk_drew ?_ | refine blk_alloc ?_ _));exact BK102.out) hb);have n2_ := Aside0.mk (below_step (by repeat (first | (with_reducible first | exact HB.out | apply below_alloc | apply pw_below_drewN | apply below_drew1 | refine below_set ?_ GE101.out | refine below_set ?_ GE102.out) | exact HB.out)) hb);clear BK101;clear BK102;clear HB;have BK101 := n0_;have BK102 := n1_;have HB := n2_;clear n0_ n1_ n2_;(try clear hb);(try clear hb2);(try clear hk);(try clear hi))))
  go_ret2
  exact ⟨by first | rfl | (simp [errW_none,errW_some,IntKind.wrap_i64,wrap64];done) | (simp [errW_none,errW_some] <;> rfl) | (simp [*,errW_none,errW_some] <;> rfl),by repeat (first | (with_reducible first | exact HB.out | apply below_alloc | apply pw_below_drewN | apply below_drew1 | refine below_set ?_ GE101.out | refine below_set ?_ GE102.out) | exact HB.out)⟩
 ·replace c4 := Bool.eq_false_iff.mpr c4;subst c4
  have H1 : (some (1,(a0_2 == a1_2))) = some (r1,r2) := by rw [if_neg (show ¬ (false = true) by decide)] at H;exact H
  clear H;have H := H1;clear H1;simp only [Option.some.injEq,Prod.mk.injEq] at H;obtain ⟨rfl,rfl⟩ := H
  go_enter Try.func98,Try.ntmps98
  go_wp2_with (first | ((with_reducible refine gate_dst (N := 2) rfl ?_);refine box_event ?hg (N := 2) ?hd (cs := #[.int .i64 a0_0,.int .i64 a0_1,.bool a0_2]) (t := 73) ?hr ?_;(case hd => rfl);(case hg => rfl);(case hr => first | (go_simp;done) | (go_simp;rfl));intro gb101 hg w11 hbox hb;have n0_ := Aside0.mk (below_step (by repeat (first | (with_reducible first | exact HB.out | apply below_alloc | apply pw_below_drewN | apply below_drew1) | exact HB.out)) hb);have n1_ := Aside0.mk (hbox);have n2_ := Aside0.mk ((by rw [hg];exact (below_size (by repeat (first | (with_reducible first | exact HB.out | apply below_alloc | apply pw_below_drewN | apply below_drew1) | exact HB.out))) : w.heap.size ≤ gb101));have n3_ := Aside0.mk ((by rw [hg];exact (below_size (by repeat (first | (with_reducible first | exact HB.out | apply below_alloc | apply pw_below_drewN | apply below_drew1) | exact HB.out))) : w.heap.size ≤ gb101));clear HB;have HB := n0_;have BK101 := n1_;have GW101 := n2_;have GE101 := n3_;clear n0_ n1_ n2_ n3_;clear hb hbox hg) | ((with_reducible refine gate_dst (N := 3) rfl ?_);refine box_event ?hg (N := 3) ?hd (cs := #[.int .i64 a1_0,.int .i64 a1_1,.bool a1_2]) (t := 73) ?hr ?_;(case hd => rfl);(case hg => rfl);(case hr => first | (go_simp;done) | (go_simp;rfl));intro gb102 hg w12 hbox hb;have n0_ := Aside0.mk (blk_below (g := gb101) (o := .cells #[.int .i64 a0_0,.int .i64 a0_1,.bool a0_2] 73 (0,0)) (by (with_reducible repeat (first | refine blk_drewN ?_ _ | refine blk_drew ?_ | refine blk_alloc ?_ _));exact BK101.out) hb);have n1_ := Aside0.mk (below_step (by repeat (first | (with_reducible first | exact HB.out | apply below_alloc | apply pw_below_drewN | apply below_drew1 | refine below_set ?_ GE101.out) | exact HB.out)) hb);have n2_ := Aside0.mk (hbox);have n3_ := Aside0.mk ((by rw [hg];exact (below_size (by repeat (first | (with_reducible first | exact HB.out | apply below_alloc | apply pw_below_drewN | apply below_drew1 | refine below_set ?_ GE101.out) | exact HB.out))) : w.heap.size ≤ gb102));have n4_ := Aside0.mk ((by rw [hg];exact (below_size (by repeat (first | (with_reducible first | exact HB.out | apply below_alloc | apply pw_below_drewN | apply below_drew1 | refine below_set ?_ GE101.out) | exact HB.out))) : w.heap.size ≤ gb102));have n5_ := Aside0.mk ((by rw [hg];exact Nat.ne_of_lt (blk_lt (g := gb101) (o := .cells #[.int .i64 a0_0,.int .i64 a0_1,.bool a0_2] 73 (0,0)) (by (with_reducible repeat (first | refine blk_drewN ?_ _ | refine blk_drew ?_ | refine blk_alloc ?_ _));exact BK101.out)) : gb101 ≠ gb102));have n6_ := Aside0.mk ((by rw [hg];exact Nat.ne_of_gt (blk_lt (g := gb101) (o := .cells #[.int .i64 a0_0,.int .i64 a0_1,.bool a0_2] 73 (0,0)) (by (with_reducible repeat (first | refine blk_drewN ?_ _ | refine blk_drew ?_ | refine blk_alloc ?_ _));exact BK101.out)) : gb102 ≠ gb101));clear BK101;clear HB;have BK101 := n0_;have HB := n1_;have BK102 := n2_;have GW102 := n3_;have GE102 := n4_;have NB101_102 := n5_;have NB102_101 := n6_;clear n0_ n1_ n2_ n3_ n4_ n5_ n6_;clear hb hbox hg;have hnb13 := NB101_102.out;have hnc13 := NB102_101.out;have hcz14_0 : w12.cell? ⟨gb101,0,none⟩ = some (.int .i64 a0_0) := (blk_cell BK101.out 0).trans rfl;have hcz14_1 : w12.cell? ⟨gb101,1,none⟩ = some (.int .i64 a0_1) := (blk_cell BK101.out 1).trans rfl;have hcz14_2 : w12.cell? ⟨gb101,2,none⟩ = some (.bool a0_2) := (blk_cell BK101.out 2).trans rfl;have hfz14_0 := blk_frozen BK101.out 0;have hfz14_1 := blk_frozen BK101.out 1;have hfz14_2 := blk_frozen BK101.out 2;have hcz15_0 : w12.cell? ⟨gb102,0,none⟩ = some (.int .i64 a1_0) := (blk_cell BK102.out 0).trans rfl;have hcz15_1 : w12.cell? ⟨gb102,1,none⟩ = some (.int .i64 a1_1) := (blk_cell BK102.out 1).trans rfl;have hcz15_2 : w12.cell? ⟨gb102,2,none⟩ = some (.bool a1_2) := (blk_cell BK102.out 2).trans rfl;have hfz15_0 := blk_frozen BK102.out 0;have hfz15_1 := blk_frozen BK102.out 1;have hfz15_2 := blk_frozen BK102.out 2) | (go_at_call 92;(with_reducible refine (impl_Entry_agree.calls a0_0 a0_1 a0_2 a1_0 a1_1 a1_2 false _ A3.out).mono ?_);rintro e w16 ⟨rfl,hb⟩;have n0_ := Aside0.mk (blk_below (g := gb101) (o := .cells #[.int .i64 a0_0,.int .i64 a0_1,.bool a0_2] 73 (0,0)) (by (with_reducible repeat (first | refine blk_drewN ?_ _ | refine blk_drew ?_ | refine blk_alloc ?_ _));exact BK101.out) hb);have n1_ := Aside0.mk (blk_below (g := gb102) (o := .cells #[.int .i64 a1_0,.int .i64 a1_1,.bool a1_2] 73 (0,0)) (by (with_reducible repeat (first | refine blk_drewN ?_ _ | refine blk_drew ?_ | refine blk_alloc ?_ _));exact BK102.out) hb);have n2_ := Aside0.mk (below_step (by repeat (first | (with_reducible first | exact HB.out | apply below_alloc | apply pw_below_drewN | apply below_drew1 | refine below_set ?_ GE101.out | refine below_set ?_ GE102.out) | exact HB.out)) hb);clear BK101;clear BK102;clear HB;have BK101 := n0_;have BK102 := n1_;have HB := n2_;clear n0_ n1_ n2_;(try clear hb);(try clear hb2);(try clear hk);(try clear hi);have hcz17_0 : w16.cell? ⟨gb101,0,none⟩ = some (.int .i64 a0_0) := (blk_cell BK101.out 0).trans rfl;have hcz17_1 : w16.cell? ⟨gb101,1,none⟩ = some (.int .i64 a0_1) := (blk_cell BK101.out 1).trans rfl;have hcz17_2 : w16.cell? ⟨gb101,2,none⟩ = some (.bool a0_2) := (blk_cell BK101.out 2).trans rfl;have hfz17_0 := blk_frozen BK101.out 0;have hfz17_1 := blk_frozen BK101.out 1;have hfz17_2 := blk_frozen BK101.out 2;have hcz18_0 : w16.cell? ⟨gb102,0,none⟩ = some (.int .i64 a1_0) := (blk_cell BK102.out 0).trans rfl;have hcz18_1 : w16.cell? ⟨gb102,1,none⟩ = some (.int .i64 a1_1) := (blk_cell BK102.out 1).trans rfl;have hcz18_2 : w16.cell? ⟨gb102,2,none⟩ = some (.bool a1_2) := (blk_cell BK102.out 2).trans rfl;have hfz18_0 := blk_frozen BK102.out 0;have hfz18_1 := blk_frozen BK102.out 1;have hfz18_2 := blk_frozen BK102.out 2))
  repeat (go_quiet (fail);try go_wp2_with (first | ((with_reducible refine gate_dst (N := 2) rfl ?_);refine box_event ?hg (N := 2) ?hd (cs := #[.int .i64 a0_0,.int .i64 a0_1,.bool a0_2]) (t := 73) ?hr ?_;(case hd => rfl);(case hg => rfl);(case hr => first | (go_simp;done) | (go_simp;rfl));intro gb101 hg w11 hbox hb;have n0_ := Aside0.mk (below_step (by repeat (first | (with_reducible first | exact HB.out | apply below_alloc | apply pw_below_drewN | apply below_drew1) | exact HB.out)) hb);have n1_ := Aside0.mk (hbox);have n2_ := Aside0.mk ((by rw [hg];exact (below_size (by repeat (first | (with_reducible first | exact HB.out | apply below_alloc | apply pw_below_drewN | apply below_drew1) | exact HB.out))) : w.heap.size ≤ gb101));have n3_ := Aside0.mk ((by rw [hg];exact (below_size (by repeat (first | (with_reducible first | exact HB.out | apply below_alloc | apply pw_below_drewN | apply below_drew1) | exact HB.out))) : w.heap.size ≤ gb101));clear HB;have HB := n0_;have BK101 := n1_;have GW101 := n2_;have GE101 := n3_;clear n0_ n1_ n2_ n3_;clear hb hbox hg) | ((with_reducible refine gate_dst (N := 3) rfl ?_);refine box_event ?hg (N := 3) ?hd (cs := #[.int .i64 a1_0,.int .i64 a1_1,.bool a1_2]) (t := 73) ?hr ?_;(case hd => rfl);(case hg => rfl);(case hr => first | (go_simp;done) | (go_simp;rfl));intro gb102 hg w12 hbox hb;have n0_ := Aside0.mk (blk_below (g := gb101) (o := .cells #[.int .i64 a0_0,.int .i64 a0_1,.bool a0_2] 73 (0,0)) (by (with_reducible repeat (first | refine blk_drewN ?_ _ | refine blk_drew ?_ | refine blk_alloc ?_ _));exact BK101.out) hb);have n1_ := Aside0.mk (below_step (by repeat (first | (with_reducible first | exact HB.out | apply below_alloc | apply pw_below_drewN | apply below_drew1 | refine below_set ?_ GE101.out) | exact HB.out)) hb);have n2_ := Aside0.mk (hbox);have n3_ := Aside0.mk ((by rw [hg];exact (below_size (by repeat (first | (with_reducible first | exact HB.out | apply below_alloc | apply pw_below_drewN | apply below_drew1 | refine below_set ?_ GE101.out) | exact HB.out))) : w.heap.size ≤ gb102));have n4_ := Aside0.mk ((by rw [hg];exact (below_size (by repeat (first | (with_reducible first | exact HB.out | apply below_alloc | apply pw_below_drewN | apply below_drew1 | refine below_set ?_ GE101.out) | exact HB.out))) : w.heap.size ≤ gb102));have n5_ := Aside0.mk ((by rw [hg];exact Nat.ne_of_lt (blk_lt (g := gb101) (o := .cells #[.int .i64 a0_0,.int .i64 a0_1,.bool a0_2] 73 (0,0)) (by (with_reducible repeat (first | refine blk_drewN ?_ _ | refine blk_drew ?_ | refine blk_alloc ?_ _));exact BK101.out)) : gb101 ≠ gb102));have n6_ := Aside0.mk ((by rw [hg];exact Nat.ne_of_gt (blk_lt (g := gb101) (o := .cells #[.int .i64 a0_0,.int .i64 a0_1,.bool a0_2] 73 (0,0)) (by (with_reducible repeat (first | refine blk_drewN ?_ _ | refine blk_drew ?_ | refine blk_alloc ?_ _));exact BK101.out)) : gb102 ≠ gb101));clear BK101;clear HB;have BK101 := n0_;have HB := n1_;have BK102 := n2_;have GW102 := n3_;have GE102 := n4_;have NB101_102 := n5_;have NB102_101 := n6_;clear n0_ n1_ n2_ n3_ n4_ n5_ n6_;clear hb hbox hg;have hnb13 := NB101_102.out;have hnc13 := NB102_101.out;have hcz14_0 : w12.cell? ⟨gb101,0,none⟩ = some (.int .i64 a0_0) := (blk_cell BK101.out 0).trans rfl;have hcz14_1 : w12.cell? ⟨gb101,1,none⟩ = some (.int .i64 a0_1) := (blk_cell BK101.out 1).trans rfl;have hcz14_2 : w12.cell? ⟨gb101,2,none⟩ = some (.bool a0_2) := (blk_cell BK101.out 2).trans rfl;have hfz14_0 := blk_frozen BK101.out 0;have hfz14_1 := blk_frozen BK101.out 1;have hfz14_2 := blk_frozen BK101.out 2;have hcz15_0 : w12.cell? ⟨gb102,0,none⟩ = some (.int .i64 a1_0) := (blk_cell BK102.out 0).trans rfl;have hcz15_1 : w12.cell? ⟨gb102,1,none⟩ = some (.int .i64 a1_1) := (blk_cell BK102.out 1).trans rfl;have hcz15_2 : w12.cell? ⟨gb102,2,none⟩ = some (.bool a1_2) := (blk_cell BK102.out 2).trans rfl;have hfz15_0 := blk_frozen BK102.out 0;have hfz15_1 := blk_frozen BK102.out 1;have hfz15_2 := blk_frozen BK102.out 2) | (go_at_call 92;(with_reducible refine (impl_Entry_agree.calls a0_0 a0_1 a0_2 a1_0 a1_1 a1_2 false _ A3.out).mono ?_);rintro e w16 ⟨rfl,hb⟩;have n0_ := Aside0.mk (blk_below (g := gb101) (o := .cells #[.int .i64 a0_0,.int .i64 a0_1,.bool a0_2] 73 (0,0)) (by (with_reducible repeat (first | refine blk_drewN ?_ _ | refine blk_drew ?_ | refine blk_alloc ?_ _));exact BK101.out) hb);have n1_ := Aside0.mk (blk_below (g := gb102) (o := .cells #[.int .i64 a1_0,.int .i64 a1_1,.bool a1_2] 73 (0,0)) (by (with_reducible repeat (first | refine blk_drewN ?_ _ | refine blk_drew ?_ | refine blk_alloc ?_ _));exact BK102.out) hb);have n2_ := Aside0.mk (below_step (by repeat (first | (with_reducible first | exact HB.out | apply below_alloc | apply pw_below_drewN | apply below_drew1 | refine below_set ?_ GE101.out | refine below_set ?_ GE102.out) | exact HB.out)) hb);clear BK101;clear BK102;clear HB;have BK101 := n0_;have BK102 := n1_;have HB := n2_;clear n0_ n1_ n2_;(try clear hb);(try clear hb2);(try clear hk);(try clear hi);have hcz17_0 : w16.cell? ⟨gb101,0,none⟩ = some (.int .i64 a0_0) := (blk_cell BK101.out 0).trans rfl;have hcz17_1 : w16.cell? ⟨gb101,1,none⟩ = some (.int .i64 a0_1) := (blk_cell BK101.out 1).trans rfl;have hcz17_2 : w16.cell? ⟨gb101,2,none⟩ = some (.bool a0_2) := (blk_cell BK101.out 2).trans rfl;have hfz17_0 := blk_frozen BK101.out 0;have hfz17_1 := blk_frozen BK101.out 1;have hfz17_2 := blk_frozen BK101.out 2;have hcz18_0 : w16.cell? ⟨gb102,0,none⟩ = some (.int .i64 a1_0) := (blk_cell BK102.out 0).trans rfl;have hcz18_1 : w16.cell? ⟨gb102,1,none⟩ = some (.int .i64 a1_1) := (blk_cell BK102.out 1).trans rfl;have hcz18_2 : w16.cell? ⟨gb102,2,none⟩ = some (.bool a1_2) := (blk_cell BK102.out 2).trans rfl;have hfz18_0 := blk_frozen BK102.out 0;have hfz18_1 := blk_frozen BK102.out 1;have hfz18_2 := blk_frozen BK102.out 2)))
  go_ret2
  exact ⟨by first | rfl | (simp [errW_none,errW_some,IntKind.wrap_i64,wrap64];done) | (simp [errW_none,errW_some] <;> rfl) | (simp [*,errW_none,errW_some] <;> rfl),by repeat (first | (with_reducible first | exact HB.out | apply below_alloc | apply pw_below_drewN | apply below_drew1 | refine below_set ?_ GE101.out | refine below_set ?_ GE102.out) | exact HB.out)⟩
end Go.Proofs.Ytidkniacmcbgiaa.G
end

section
namespace Go.Proofs.Ytidkniacmcbgiaa.G
open Go.RowKit Go.Proofs.YtidkniacmcbgiaaW.PrintWords Go.Proofs.YtidkniacmcbgiaaW.PrintLast Go.Proofs.YtidkniacmcbgiaaW.PrintMore
attribute [local go_sem] max2_int min2_int max_two min_two max_three min_three max_four min_four
set_option linter.unusedVariables false
set_option linter.unusedSimpArgs false
def impl_faults_1.f (l0 : List (List Int)) (a1 : Int) (a2 : Int) (l3 : List (S73)) (l4 : List (S73)) : Option (Int) := if a1 = (l3.length : Int) then (some (wrap64 (2 * (wrap64 ((l4.length : Int) - a2))))) else (if a2 = (l4.length : Int) then (some (wrap64 (1 * (wrap64 ((l3.length : Int) - a1))))) else (if 0 ≤ (wrap64 (a1 + 1)) then (if (wrap64 (a1 + 1)) < (l0.length : Int) then (if 0 ≤ a2 then (if a2 < ((rd_L6 l0 (wrap64 (a1 + 1))).length : Int) then (if 0 ≤ a1 then (if a1 < (l0.length : Int) then (if 0 ≤ (wrap64 (a2 + 1)) then (if (wrap64 (a2 + 1)) < ((rd_L6 l0 a1).length : Int) then (if a1 < (l3.length : Int) then (if a2 < (l4.length : Int) then ((impl_stepFaults.f ((rd_T73 l3 a1).f0) ((rd_T73 l3 a1).f1) ((rd_T73 l3 a1).f2) ((rd_T73 l4 a2).f0) ((rd_T73 l4 a2).f1) ((rd_T73 l4 a2).f2)).bind fun bt107 => (if bt107.2 = true then (if (wrap64 (a2 + 1)) < ((rd_L6 l0 (wrap64 (a1 + 1))).length : Int) then (some (mn (mn (wrap64 ((rd (rd_L6 l0 (wrap64 (a1 + 1))) a2) + 1)) (wrap64 ((rd (rd_L6 l0 a1) (wrap64 (a2 + 1))) + 2))) (wrap64 ((rd (rd_L6 l0 (wrap64 (a1 + 1))) (wrap64 (a2 + 1))) + bt107.1)))) else (none)) else (some (mn (wrap64 ((rd (rd_L6 l0 (wrap64 (a1 + 1))) a2) + 1)) (wrap64 ((rd (rd_L6 l0 a1) (wrap64 (a2 + 1))) + 2)))))) else (none)) else (none)) else (none)) else (none)) else (none)) else (none)) else (none)) else (none)) else (none)) else (none)))
def impl_faults_1.T5 : Bool × List (List Nat × List Nat) := (true,[([],[]),([],[]),([1],[1]),([0,2],[0,2]),([3],[3]),([],[]),([4,5],[4,5]),([6],[6]),([7],[7]),([],[]),([],[]),([9,10],[9,10]),([11],[11]),([],[]),([13],[13]),([12,14],[12,14]),([15],[15]),([16],[16]),([8,17],[8,17]),([18,0,1,2,3,4,5,6,7,8,9,10,11,12,13,14,15,16,17,18],[18])])
def impl_faults_1.B5 : List Nat := [0,0,2,7,15,0,63,127,255,0,0,1536,3584,0,8192,32256,65024,130560,262143,524287]
theorem impl_faults_1.tab5 : rtab .any (opsOf Try.f120 5) = impl_faults_1.T5 := by kernel_rfl
theorem impl_faults_1.bits5 : waitsOk impl_faults_1.T5.2 impl_faults_1.B5 = true := by kernel_rfl
def impl_faults_1.T6 : Bool × List (List Nat × List Nat) := (true,[([],[]),([],[]),([0,1],[0,1]),([2],[2]),([],[]),([],[]),([4,5],[4,5]),([6],[6]),([3,7],[3,7]),([8],[8]),([9],[9]),([9],[9]),([10,8,0,1,2,3,4,5,6,7,8,9,10],[10]),([11,12,0,1,2,3,4,5,6,7,8,9,10,11,12],[11])])
def impl_faults_1.B6 : List Nat := [0,0,3,7,0,0,48,112,255,511,1023,1023,2047,8191]
theorem impl_faults_1.tab6 : rtab .any (opsOf Try.f120 6) = impl_faults_1.T6 := by kernel_rfl
theorem impl_faults_1.bits6 : waitsOk impl_faults_1.T6.2 impl_faults_1.B6 = true := by kernel_rfl
set_option maxHeartbeats 8000000 in
set_option maxRecDepth 100000 in
theorem impl_faults_1.calls (A0 : Option Addr) (c0 : Nat) (l0 : List (List Int)) (a1 : Int) (a2 : Int) (A3 : Option Addr) (c3 : Nat) (l3 : List (S73)) (b3 : Nat) (A4 : Option Addr) (c4 : Nat) (l4 : List (S73)) (b4 : Nat) (r : Int) (w : World) (hr0 : Kd.C (Kd.slice 2 (Kd.int .i64)) w A0 l0.length l0) (hc0 : l0.length ≤ c0) (hr3 : Kd.C k73 w A3 l3.length l3) (hc3 : l3.length ≤ c3) (hr4 : Kd.C k73 w A4 l4.length l4) (hc4 : l4.length ≤ c4) (hb3 : w.heap[b3]? = some (.cells #[.slice A3 l3.length c3] 26 (0,0))) (hb4 : w.heap[b4]? = some (.cells #[.slice A4 l4.length c4] 26 (0,0))) (hn3_4 : b3 ≠ b4) (h : impl_faults_1.f l0 a1 a2 l3 l4 = some r) :
  Calls Try.prog 120 #[.slice A0 l0.length c0,.int .i64 a1,.int .i64 a2,.pointer (some ⟨b3,0,none⟩),.pointer (some ⟨b4,0,none⟩)] w fun e w' => e = .returned (.int .i64 r) ∧ Below w.heap.size w w' := by
 have hu73 := Try.underlying73;have HR0 := Aside0.mk hr0;have HC0 := Aside0.mk hc0;clear hr0 hc0;have HR3 := Aside0.mk hr3;have HC3 := Aside0.mk hc3;clear hr3 hc3;have HR4 := Aside0.mk hr4;have HC4 := Aside0.mk hc4;clear hr4 hc4;have BK3 := Aside0.mk hb3;clear hb3;have BK4 := Aside0.mk hb4;clear hb4;have NB3_4 := Aside0.mk hn3_4;have NB4_3 := Aside0.mk (Ne.symm hn3_4);clear hn3_4;have HB := Aside0.mk (Below.refl w.heap.size w);have H : (if a1 = (l3.length : Int) then (some (wrap64 (2 * (wrap64 ((l4.length : Int) - a2))))) else (if a2 = (l4.length : Int) then (some (wrap64 (1 * (wrap64 ((l3.length : Int) - a1))))) else (if 0 ≤ (wrap64 (a1 + 1)) then (if (wrap64 (a1 + 1)) < (l0.length : Int) then (if 0 ≤ a2 then (if a2 < ((rd_L6 l0 (wrap64 (a1 + 1))).length : Int) then (if 0 ≤ a1 then (if a1 < (l0.length : Int) then (if 0 ≤ (wrap64 (a2 + 1)) then (if (wrap64 (a2 + 1)) < ((rd_L6 l0 a1).length : Int) then (if a1 < (l3.length : Int) then (if a2 < (l4.length : Int) then ((impl_stepFaults.f ((rd_T73 l3 a1).f0) ((rd_T73 l3 a1).f1) ((rd_T73 l3 a1).f2) ((rd_T73 l4 a2).f0) ((rd_T73 l4 a2).f1) ((rd_T73 l4 a2).f2)).bind fun bt107 => (if bt107.2 = true then (if (wrap64 (a2 + 1)) < ((rd_L6 l0 (wrap64 (a1 + 1))).length : Int) then (some (mn (mn (wrap64 ((rd (rd_L6 l0 (wrap64 (a1 + 1))) a2) + 1)) (wrap64 ((rd (rd_L6 l0 a1) (wrap64 (a2 + 1))) + 2))) (wrap64 ((rd (rd_L6 l0 (wrap64 (a1 + 1))) (wrap64 (a2 + 1))) + bt107.1)))) else (none)) else (some (mn (wrap64 ((rd (rd_L6 l0 (wrap64 (a1 + 1))) a2) + 1)) (wrap64 ((rd (rd_L6 l0 a1) (wrap64 (a2 + 1))) + 2)))))) else (none)) else (none)) else (none)) else (none)) else (none)) else (none)) else (none)) else (none)) else (none)) else (none)))) = some r := h;clear h
 by_cases c6 : a1 = (l3.length : Int)
 ·rw [if_pos c6] at H;have c6b0 : (a1 == (l3.length : Int)) = true := beq_iff_eq.mpr c6;have c6b1 : (a1 != (l3.length : Int)) = false := bne_eq_false_iff_eq.mpr c6;clear c6;obtain rfl := Option.some.inj H;have hnb7 := NB3_4.out;have hnc7 := NB4_3.out;have hcz8_0 : w.cell? ⟨b3,0,none⟩ = some (.slice A3 l3.length c3) := (blk_cell BK3.out 0).trans rfl;have hfz8_0 := blk_frozen BK3.out 0;have hcz9_0 : w.cell? ⟨b4,0,none⟩ = some (.slice A4 l4.length c4) := (blk_cell BK4.out 0).trans rfl;have hfz9_0 := blk_frozen BK4.out 0
  go_enter Try.func120,Try.ntmps120
  go_wp2
  go_ret
  exact ⟨by first | rfl | (simp [errW_none,errW_some,IntKind.wrap_i64,wrap64];done) | (simp [errW_none,errW_some] <;> rfl) | (simp [*,errW_none,errW_some] <;> rfl),by repeat (first | (with_reducible first | exact HB.out | apply below_alloc | apply pw_below_drewN | apply below_drew1 | refine below_set ?_ GE3.out | refine below_set ?_ GE4.out) | exact HB.out)⟩
 ·rw [if_neg c6] at H;have c6b0 : (a1 == (l3.length : Int)) = false := beq_eq_false_iff_ne.mpr c6;have c6b1 : (a1 != (l3.length : Int)) = true := bne_iff_ne.mpr c6
  by_cases c10 : a2 = (l4.length : Int)
  ·rw [if_pos c10] at H;have c10b0 : (a2 == (l4.length : Int)) = true := beq_iff_eq.mpr c10;have c10b1 : (a2 != (l4.length : Int)) = false := bne_eq_false_iff_eq.mpr c10;clear c10;obtain rfl := Option.some.inj H;have hnb11 := NB3_4.out;have hnc11 := NB4_3.out;have hcz12_0 : w.cell? ⟨b3,0,none⟩ = some (.slice A3 l3.length c3) := (blk_cell BK3.out 0).trans rfl;have hfz12_0 := blk_frozen BK3.out 0;have hcz13_0 : w.cell? ⟨b4,0,none⟩ = some (.slice A4 l4.length c4) := (blk_cell BK4.out 0).trans rfl;have hfz13_0 := blk_frozen BK4.out 0
   go_enter Try.func120,Try.ntmps120
   go_wp2
   go_ret
   exact ⟨by first | rfl | (simp [errW_none,errW_some,IntKind.wrap_i64,wrap64];done) | (simp [errW_none,errW_some] <;> rfl) | (simp [*,errW_none,errW_some] <;> rfl),by repeat (first | (with_reducible first | exact HB.out | apply below_alloc | apply pw_below_drewN | apply below_drew1 | refine below_set ?_ GE3.out | refine below_set ?_ GE4.out) | exact HB.out)⟩
  ·rw [if_neg c10] at H;have c10b0 : (a2 == (l4.length : Int)) = false := beq_eq_false_iff_ne.mpr c10;have c10b1 : (a2 != (l4.length : Int)) = true := bne_iff_ne.mpr c10;obtain ⟨ji14,hji14⟩ : ∃ j_ : Int,(wrap64 (a1 + 1)) = j_ := ⟨_,rfl⟩
   replace H : (if 0 ≤ (ji14) then (if (ji14) < (l0.length : Int) then (if 0 ≤ a2 then (if a2 < ((rd_L6 l0 (ji14)).length : Int) then (if 0 ≤ a1 then (if a1 < (l0.length : Int) then (if 0 ≤ (wrap64 (a2 + 1)) then (if (wrap64 (a2 + 1)) < ((rd_L6 l0 a1).length : Int) then (if a1 < (l3.length : Int) then (if a2 < (l4.length : Int) then ((impl_stepFaults.f ((rd_T73 l3 a1).f0) ((rd_T73 l3 a1).f1) ((rd_T73 l3 a1).f2) ((rd_T73 l4 a2).f0) ((rd_T73 l4 a2).f1) ((rd_T73 l4 a2).f2)).bind fun bt107 => (if bt107.2 = true then (if (wrap64 (a2 + 1)) < ((rd_L6 l0 (ji14)).length : Int) then (some (mn (mn (wrap64 ((rd (rd_L6 l0 (ji14)) a2) + 1)) (wrap64 ((rd (rd_L6 l0 a1) (wrap64 (a2 + 1))) + 2))) (wrap64 ((rd (rd_L6 l0 (ji14)) (wrap64 (a2 + 1))) + bt107.1)))) else (none)) else (some (mn (wrap64 ((rd (rd_L6 l0 (ji14)) a2) + 1)) (wrap64 ((rd (rd_L6 l0 a1) (wrap64 (a2 + 1))) + 2)))))) else (none)) else (none)) else (none)) else (none)) else (none)) else (none)) else (none)) else (none)) else (none)) else (none)) = some r := by first | (rw [hji14] at H;exact H) | (simp only [hji14] at H ⊢;exact H)
   have hji14w : (IntKind.i64.wrap (a1 + 1)) = ji14 := (i64_w _).trans hji14
   by_cases c15 : 0 ≤ (ji14)
   ·rw [if_pos c15] at H;have c15b0 : decide (0 ≤ (ji14)) = true := decide_eq_true c15;clear c15
    by_cases c16 : (ji14) < (l0.length : Int)
    ·rw [if_pos c16] at H;have c16b0 : decide ((ji14) < (l0.length : Int)) = true := decide_eq_true c16;clear c16
     by_cases c17 : 0 ≤ a2
     ·rw [if_pos c17] at H;have c17b0 : decide (0 ≤ a2) = true := decide_eq_true c17;clear c17
      by_cases c18 : a2 < ((rd_L6 l0 (ji14)).length : Int)
      ·rw [if_pos c18] at H;have c18b0 : decide (a2 < ((rd_L6 l0 (ji14)).length : Int)) = true := decide_eq_true c18;clear c18
       by_cases c19 : 0 ≤ a1
       ·rw [if_pos c19] at H;have c19b0 : decide (0 ≤ a1) = true := decide_eq_true c19;clear c19
        by_cases c20 : a1 < (l0.length : Int)
        ·rw [if_pos c20] at H;have c20b0 : decide (a1 < (l0.length : Int)) = true := decide_eq_true c20;clear c20;obtain ⟨ji21,hji21⟩ : ∃ j_ : Int,(wrap64 (a2 + 1)) = j_ := ⟨_,rfl⟩
         replace H : (if 0 ≤ (ji21) then (if (ji21) < ((rd_L6 l0 a1).length : Int) then (if a1 < (l3.length : Int) then (if a2 < (l4.length : Int) then ((impl_stepFaults.f ((rd_T73 l3 a1).f0) ((rd_T73 l3 a1).f1) ((rd_T73 l3 a1).f2) ((rd_T73 l4 a2).f0) ((rd_T73 l4 a2).f1) ((rd_T73 l4 a2).f2)).bind fun bt107 => (if bt107.2 = true then (if (ji21) < ((rd_L6 l0 (ji14)).length : Int) then (some (mn (mn (wrap64 ((rd (rd_L6 l0 (ji14)) a2) + 1)) (wrap64 ((rd (rd_L6 l0 a1) (ji21)) + 2))) (wrap64 ((rd (rd_L6 l0 (ji14)) (ji21)) + bt107.1)))) else (none)) else (some (mn (wrap64 ((rd (rd_L6 l0 (ji14)) a2) + 1)) (wrap64 ((rd (rd_L6 l0 a1) (ji21)) + 2)))))) else (none)) else (none)) else (none)) else (none)) = some r := by first | (rw [hji21] at H;exact H) | (simp only [hji21] at H ⊢;exact H)
         have hji21w : (IntKind.i64.wrap (a2 + 1)) = ji21 := (i64_w _).trans hji21
         by_cases c22 : 0 ≤ (ji21)
         ·rw [if_pos c22] at H;have c22b0 : decide (0 ≤ (ji21)) = true := decide_eq_true c22;clear c22
          by_cases c23 : (ji21) < ((rd_L6 l0 a1).length : Int)
          ·rw [if_pos c23] at H;have c23b0 : decide ((ji21) < ((rd_L6 l0 a1).length : Int)) = true := decide_eq_true c23;clear c23;obtain ⟨ji24,hji24⟩ : ∃ j_ : Int,(mn (wrap64 ((rd (rd_L6 l0 (ji14)) a2) + 1)) (wrap64 ((rd (rd_L6 l0 a1) (ji21)) + 2))) = j_ := ⟨_,rfl⟩
           replace H : (if a1 < (l3.length : Int) then (if a2 < (l4.length : Int) then ((impl_stepFaults.f ((rd_T73 l3 a1).f0) ((rd_T73 l3 a1).f1) ((rd_T73 l3 a1).f2) ((rd_T73 l4 a2).f0) ((rd_T73 l4 a2).f1) ((rd_T73 l4 a2).f2)).bind fun bt107 => (if bt107.2 = true then (if (ji21) < ((rd_L6 l0 (ji14)).length : Int) then (some (mn (ji24) (wrap64 ((rd (rd_L6 l0 (ji14)) (ji21)) + bt107.1)))) else (none)) else (some ji24))) else (none)) else (none)) = some r := by first | (rw [hji24] at H;exact H) | (simp only [hji24] at H ⊢;exact H)
           have hji24_ : (if (wrap64 ((rd (rd_L6 l0 a1) (ji21)) + 2)) < (wrap64 ((rd (rd_L6 l0 (ji14)) a2) + 1)) then (wrap64 ((rd (rd_L6 l0 a1) (ji21)) + 2)) else (wrap64 ((rd (rd_L6 l0 (ji14)) a2) + 1))) = ji24 := hji24
           by_cases c25 : a1 < (l3.length : Int)
           ·rw [if_pos c25] at H;have c25b0 : decide (a1 < (l3.length : Int)) = true := decide_eq_true c25;clear c25
            by_cases c26 : a2 < (l4.length : Int)
            ·rw [if_pos c26] at H;have c26b0 : decide (a2 < (l4.length : Int)) = true := decide_eq_true c26;clear c26;replace H := Option.bind_eq_some_iff.mp H;obtain ⟨⟨t107,t108⟩,A270,H⟩ := H;replace H : (if t108 = true then (if (ji21) < ((rd_L6 l0 (ji14)).length : Int) then (some (mn (ji24) (wrap64 ((rd (rd_L6 l0 (ji14)) (ji21)) + t107)))) else (none)) else (some ji24)) = some r := H;have A27 := Aside0.mk A270;clear A270
             by_cases c28 : t108 = true
             ·subst c28
              have H1 : (if (ji21) < ((rd_L6 l0 (ji14)).length : Int) then (some (mn (ji24) (wrap64 ((rd (rd_L6 l0 (ji14)) (ji21)) + t107)))) else (none)) = some r := by rw [if_pos rfl] at H;exact H
              clear H;have H := H1;clear H1
              by_cases c29 : (ji21) < ((rd_L6 l0 (ji14)).length : Int)
              ·rw [if_pos c29] at H;have c29b0 : decide ((ji21) < ((rd_L6 l0 (ji14)).length : Int)) = true := decide_eq_true c29;clear c29;obtain ⟨ji30,hji30⟩ : ∃ j_ : Int,(mn (ji24) (wrap64 ((rd (rd_L6 l0 (ji14)) (ji21)) + t107))) = j_ := ⟨_,rfl⟩
               replace H : (some ji30) = some r := by first | (rw [hji30] at H;exact H) | (simp only [hji30] at H ⊢;exact H)
               (try rw [hji30] at A27);have hji30_ : (if (wrap64 ((rd (rd_L6 l0 (ji14)) (ji21)) + t107)) < (ji24) then (wrap64 ((rd (rd_L6 l0 (ji14)) (ji21)) + t107)) else (ji24)) = ji30 := hji30;obtain rfl := Option.some.inj H;have hnb31 := NB3_4.out;have hnc31 := NB4_3.out;have hcz32_0 : w.cell? ⟨b3,0,none⟩ = some (.slice A3 l3.length c3) := (blk_cell BK3.out 0).trans rfl;have hfz32_0 := blk_frozen BK3.out 0;have hcz33_0 : w.cell? ⟨b4,0,none⟩ = some (.slice A4 l4.length c4) := (blk_cell BK4.out 0).trans rfl;have hfz33_0 := blk_frozen BK4.out 0
               go_enter Try.func120,Try.ntmps120
               (try go_wp2);have n0_ := Aside0.mk (blk_drew BK3.out);have n1_ := Aside0.mk (blk_drew BK4.out);have n2_ := Aside0.mk (below_drew1 HB.out);clear BK3;clear BK4;clear HB;have BK3 := n0_;have BK4 := n1_;have HB := n2_;clear n0_ n1_ n2_;have p101 : 0 ≤ ((ji14) : Int) := of_decide_eq_true (by first | (with_reducible assumption) | assumption);have q101 : (ji14) < (l0.length : Int) := of_decide_eq_true (by first | (with_reducible assumption) | assumption);obtain ⟨ad101,A101_0,c101_0,e101,hx101_0,hl101_0,hi101_0⟩ := at_L6 HR0.out (ji14) p101 q101;have hw101_0 := hx101_0;cases e101;replace hx101_0 := (HB.out.cell (World.block_lt_of_cell? w _ hx101_0)).trans hx101_0;have HR101_0 := Aside0.mk hi101_0;have HC101_0 := Aside0.mk hl101_0;clear hi101_0 hl101_0;replace p101 := eq_true p101;replace q101 := eq_true q101;have p102 : 0 ≤ (a2 : Int) := of_decide_eq_true (by first | (with_reducible assumption) | assumption);have q102 : a2 < ((rd_L6 l0 (ji14)).length : Int) := of_decide_eq_true (by first | (with_reducible assumption) | assumption);obtain ⟨ad102,e102,hx102_0⟩ := Kd.at_int HR101_0.out a2 p102 q102;have hw102_0 := hx102_0;cases e102;replace hx102_0 := (HB.out.cell (World.block_lt_of_cell? w _ hx102_0)).trans hx102_0;replace p102 := eq_true p102;replace q102 := eq_true q102;have p103 : 0 ≤ (a1 : Int) := of_decide_eq_true (by first | (with_reducible assumption) | assumption);have q103 : a1 < (l0.length : Int) := of_decide_eq_true (by first | (with_reducible assumption) | assumption);obtain ⟨ad103,A103_0,c103_0,e103,hx103_0,hl103_0,hi103_0⟩ := at_L6 HR0.out a1 p103 q103;have hw103_0 := hx103_0;obtain rfl : ad101 = ad103 := (by injection e103);replace hx103_0 := (HB.out.cell (World.block_lt_of_cell? w _ hx103_0)).trans hx103_0;have HR103_0 := Aside0.mk hi103_0;have HC103_0 := Aside0.mk hl103_0;clear hi103_0 hl103_0;replace p103 := eq_true p103;replace q103 := eq_true q103;have p104 : 0 ≤ ((ji21) : Int) := of_decide_eq_true (by first | (with_reducible assumption) | assumption);have q104 : (ji21) < ((rd_L6 l0 a1).length : Int) := of_decide_eq_true (by first | (with_reducible assumption) | assumption);obtain ⟨ad104,e104,hx104_0⟩ := Kd.at_int HR103_0.out (ji21) p104 q104;have hw104_0 := hx104_0;cases e104;replace hx104_0 := (HB.out.cell (World.block_lt_of_cell? w _ hx104_0)).trans hx104_0;replace p104 := eq_true p104;replace q104 := eq_true q104;refine start_ (n := 20) (S := fun w' => w'.cell? (ad101.add ((ji14)).toNat) = some (.slice (some ad102) (rd_L6 l0 (ji14)).length c101_0) ∧ w'.cell? (ad102.add (a2).toNat) = some (.int .i64 (rd (rd_L6 l0 (ji14)) a2)) ∧ w'.cell? (ad101.add (a1).toNat) = some (.slice (some ad104) (rd_L6 l0 a1).length c103_0) ∧ w'.cell? (ad104.add ((ji21)).toNat) = some (.int .i64 (rd (rd_L6 l0 a1) (ji21)))) (ds := []) #[false,false,false,false,false,false,false,false,false,false,false,false,false,false,false,false,false,false,false,false] (by kernel_rfl) rfl rfl ⟨((HB.out.cell (World.block_lt_of_cell? w _ hw101_0)).trans hw101_0),((HB.out.cell (World.block_lt_of_cell? w _ hw102_0)).trans hw102_0),((HB.out.cell (World.block_lt_of_cell? w _ hw103_0)).trans hw103_0),((HB.out.cell (World.block_lt_of_cell? w _ hw104_0)).trans hw104_0)⟩ (fun hHeld => ?_);refine with_tabW impl_faults_1.tab5 impl_faults_1.bits5 (fun HT_ HW_ => ?_);generalize w.drew = w34 at BK3 BK4 HB HR101_0 HR103_0 hx101_0 hx102_0 hx103_0 hx104_0 hHeld ⊢;refine pure_ (i := 0) (N := some 32) (v := ?_) (a' := ?_) #[true,false,false,false,false,false,false,false,false,false,false,false,false,false,false,false,false,false,false,false] rfl rfl (any_of HT_.out (by kernel_rfl)) (fun _ _ _ h => h) (Or.inl ⟨by rfl,?_⟩) ?_ ?_;rotate_left
               ·intro w';go_simp;with_reducible rfl
               rotate_left
               ·simp only [Act.put,List.setIfInBounds_toArray,List.set_cons_zero,List.set_cons_succ,i64_w,i32_w];rfl
               refine pure_ (i := 1) (N := some 33) (v := ?_) (a' := ?_) #[true,true,false,false,false,false,false,false,false,false,false,false,false,false,false,false,false,false,false,false] rfl rfl (any_of HT_.out (by kernel_rfl)) (fun _ _ _ h => h) (Or.inl ⟨by rfl,?_⟩) ?_ ?_;rotate_left
               ·intro w';go_simp;with_reducible rfl
               rotate_left
               ·simp only [Act.put,List.setIfInBounds_toArray,List.set_cons_zero,List.set_cons_succ,i64_w,i32_w];rfl
               refine pure_ (i := 2) (N := some 34) (v := ?_) (a' := ?_) #[true,true,true,false,false,false,false,false,false,false,false,false,false,false,false,false,false,false,false,false] rfl rfl (any_of HT_.out (by kernel_rfl)) (fun _ _ _ h => h) (Or.inl ⟨by rfl,?_⟩) ?_ ?_;rotate_left
               ·intro w';go_simp;with_reducible rfl
               rotate_left
               ·simp only [Act.put,List.setIfInBounds_toArray,List.set_cons_zero,List.set_cons_succ,i64_w,i32_w];rfl
               refine pure_ (i := 3) (N := some 35) (v := ?_) (a' := ?_) #[true,true,true,true,false,false,false,false,false,false,false,false,false,false,false,false,false,false,false,false] rfl rfl (any_of HT_.out (by kernel_rfl)) (fun _ _ _ h => h) (Or.inl ⟨by rfl,?_⟩) ?_ ?_;rotate_left
               ·intro w';go_simp;with_reducible rfl
               rotate_left
               ·simp only [Act.put,List.setIfInBounds_toArray,List.set_cons_zero,List.set_cons_succ,i64_w,i32_w];rfl
               refine pure_ (i := 5) (N := some 37) (v := ?_) (a' := ?_) #[true,true,true,true,false,true,false,false,false,false,false,false,false,false,false,false,false,false,false,false] rfl rfl (any_of HT_.out (by kernel_rfl)) (fun _ _ _ h => h) (Or.inl ⟨by rfl,?_⟩) ?_ ?_;rotate_left
               ·intro w';go_simp;with_reducible rfl
               rotate_left
               ·simp only [Act.put,List.setIfInBounds_toArray,List.set_cons_zero,List.set_cons_succ,i64_w,i32_w];rfl
               refine pure_ (i := 9) (N := some 41) (v := ?_) (a' := ?_) #[true,true,true,true,false,true,false,false,false,true,false,false,false,false,false,false,false,false,false,false] rfl rfl (any_of HT_.out (by kernel_rfl)) (fun _ _ _ h => h) (Or.inl ⟨by rfl,?_⟩) ?_ ?_;rotate_left
               ·intro w';go_simp;with_reducible rfl
               rotate_left
               ·simp only [Act.put,List.setIfInBounds_toArray,List.set_cons_zero,List.set_cons_succ,i64_w,i32_w];rfl
               refine pure_ (i := 10) (N := some 42) (v := ?_) (a' := ?_) #[true,true,true,true,false,true,false,false,false,true,true,false,false,false,false,false,false,false,false,false] rfl rfl (any_of HT_.out (by kernel_rfl)) (fun _ _ _ h => h) (Or.inl ⟨by rfl,?_⟩) ?_ ?_;rotate_left
               ·intro w';go_simp;with_reducible rfl
               rotate_left
               ·simp only [Act.put,List.setIfInBounds_toArray,List.set_cons_zero,List.set_cons_succ,i64_w,i32_w];rfl
               refine pure_ (i := 11) (N := some 43) (v := ?_) (a' := ?_) #[true,true,true,true,false,true,false,false,false,true,true,true,false,false,false,false,false,false,false,false] rfl rfl (any_of HT_.out (by kernel_rfl)) (fun _ _ _ h => h) (Or.inl ⟨by rfl,?_⟩) ?_ ?_;rotate_left
               ·intro w';go_simp;with_reducible rfl
               rotate_left
               ·simp only [Act.put,List.setIfInBounds_toArray,List.set_cons_zero,List.set_cons_succ,i64_w,i32_w];rfl
               refine pure_ (i := 13) (N := some 45) (v := ?_) (a' := ?_) #[true,true,true,true,false,true,false,false,false,true,true,true,false,true,false,false,false,false,false,false] rfl rfl (any_of HT_.out (by kernel_rfl)) (fun _ _ _ h => h) (Or.inl ⟨by rfl,?_⟩) ?_ ?_;rotate_left
               ·intro w';go_simp;with_reducible rfl
               rotate_left
               ·simp only [Act.put,List.setIfInBounds_toArray,List.set_cons_zero,List.set_cons_succ,i64_w,i32_w];rfl
               refine pure_ (i := 14) (N := some 46) (v := ?_) (a' := ?_) #[true,true,true,true,false,true,false,false,false,true,true,true,false,true,true,false,false,false,false,false] rfl rfl (any_of HT_.out (by kernel_rfl)) (fun _ _ _ h => h) (Or.inl ⟨by rfl,?_⟩) ?_ ?_;rotate_left
               ·intro w';go_simp;with_reducible rfl
               rotate_left
               ·simp only [Act.put,List.setIfInBounds_toArray,List.set_cons_zero,List.set_cons_succ,i64_w,i32_w];rfl
               refine take_ (i := 4) (N := some 36) (v := ?_) (a' := ?_) #[true,true,true,true,true,true,false,false,false,true,true,true,false,true,true,false,false,false,false,false] rfl rfl (take_ofW HT_.out HW_.out (by kernel_rfl)) (fun _ _ _ h => h) (Or.inl ⟨by rfl,?_⟩) hHeld ?_ ?_;rotate_left
               ·rintro w' ⟨s0,s1,s2,s3⟩
                go_simp;with_reducible rfl
               rotate_left
               ·simp only [Act.put,List.setIfInBounds_toArray,List.set_cons_zero,List.set_cons_succ,i64_w,i32_w];rfl
               refine pure_ (i := 6) (N := some 38) (v := ?_) (a' := ?_) #[true,true,true,true,true,true,true,false,false,true,true,true,false,true,true,false,false,false,false,false] rfl rfl (any_of HT_.out (by kernel_rfl)) (fun _ _ _ h => h) (Or.inl ⟨by rfl,?_⟩) ?_ ?_;rotate_left
               ·intro w';go_simp;with_reducible rfl
               rotate_left
               ·simp only [Act.put,List.setIfInBounds_toArray,List.set_cons_zero,List.set_cons_succ,i64_w,i32_w];rfl
               refine take_ (i := 7) (N := some 39) (v := ?_) (a' := ?_) #[true,true,true,true,true,true,true,true,false,true,true,true,false,true,true,false,false,false,false,false] rfl rfl (take_ofW HT_.out HW_.out (by kernel_rfl)) (fun _ _ _ h => h) (Or.inl ⟨by rfl,?_⟩) hHeld ?_ ?_;rotate_left
               ·rintro w' ⟨s0,s1,s2,s3⟩
                go_simp;with_reducible rfl
               rotate_left
               ·simp only [Act.put,List.setIfInBounds_toArray,List.set_cons_zero,List.set_cons_succ,i64_w,i32_w];rfl
               refine pure_ (i := 8) (N := some 40) (v := ?_) (a' := ?_) #[true,true,true,true,true,true,true,true,true,true,true,true,false,true,true,false,false,false,false,false] rfl rfl (any_of HT_.out (by kernel_rfl)) (fun _ _ _ h => h) (Or.inl ⟨by rfl,?_⟩) ?_ ?_;rotate_left
               ·intro w';go_simp;with_reducible rfl
               rotate_left
               ·simp only [Act.put,List.setIfInBounds_toArray,List.set_cons_zero,List.set_cons_succ,i64_w,i32_w];rfl
               refine take_ (i := 12) (N := some 44) (v := ?_) (a' := ?_) #[true,true,true,true,true,true,true,true,true,true,true,true,true,true,true,false,false,false,false,false] rfl rfl (take_ofW HT_.out HW_.out (by kernel_rfl)) (fun _ _ _ h => h) (Or.inl ⟨by rfl,?_⟩) hHeld ?_ ?_;rotate_left
               ·rintro w' ⟨s0,s1,s2,s3⟩
                go_simp;with_reducible rfl
               rotate_left
               ·simp only [Act.put,List.setIfInBounds_toArray,List.set_cons_zero,List.set_cons_succ,i64_w,i32_w];rfl
               refine pure_ (i := 15) (N := some 47) (v := ?_) (a' := ?_) #[true,true,true,true,true,true,true,true,true,true,true,true,true,true,true,true,false,false,false,false] rfl rfl (any_of HT_.out (by kernel_rfl)) (fun _ _ _ h => h) (Or.inl ⟨by rfl,?_⟩) ?_ ?_;rotate_left
               ·intro w';go_simp;with_reducible rfl
               rotate_left
               ·simp only [Act.put,List.setIfInBounds_toArray,List.set_cons_zero,List.set_cons_succ,i64_w,i32_w];rfl
               refine take_ (i := 16) (N := some 48) (v := ?_) (a' := ?_) #[true,true,true,true,true,true,true,true,true,true,true,true,true,true,true,true,true,false,false,false] rfl rfl (take_ofW HT_.out HW_.out (by kernel_rfl)) (fun _ _ _ h => h) (Or.inl ⟨by rfl,?_⟩) hHeld ?_ ?_;rotate_left
               ·rintro w' ⟨s0,s1,s2,s3⟩
                go_simp;with_reducible rfl
               rotate_left
               ·simp only [Act.put,List.setIfInBounds_toArray,List.set_cons_zero,List.set_cons_succ,i64_w,i32_w];rfl
               refine pure_ (i := 17) (N := some 49) (v := ?_) (a' := ?_) #[true,true,true,true,true,true,true,true,true,true,true,true,true,true,true,true,true,true,false,false] rfl rfl (any_of HT_.out (by kernel_rfl)) (fun _ _ _ h => h) (Or.inl ⟨by rfl,?_⟩) ?_ ?_;rotate_left
               ·intro w';go_simp;with_reducible rfl
               rotate_left
               ·simp only [Act.put,List.setIfInBounds_toArray,List.set_cons_zero,List.set_cons_succ,i64_w,i32_w];rfl
               refine pure_ (i := 18) (N := some 50) (v := ?_) (a' := ?_) #[true,true,true,true,true,true,true,true,true,true,true,true,true,true,true,true,true,true,true,false] rfl rfl (any_of HT_.out (by kernel_rfl)) (fun _ _ _ h => h) (Or.inl ⟨by rfl,?_⟩) ?_ ?_;rotate_left
               ·intro w';go_simp;with_reducible rfl
               rotate_left
               ·simp only [Act.put,List.setIfInBounds_toArray,List.set_cons_zero,List.set_cons_succ,i64_w,i32_w];rfl
               refine pure_ (i := 19) (N := some 9) (v := ?_) (a' := ?_) #[true,true,true,true,true,true,true,true,true,true,true,true,true,true,true,true,true,true,true,true] rfl rfl (any_of HT_.out (by kernel_rfl)) (fun _ _ _ h => h) (Or.inl ⟨by rfl,?_⟩) ?_ ?_;rotate_left
               ·intro w';go_simp;with_reducible rfl
               rotate_left
               ·simp only [Act.put,List.setIfInBounds_toArray,List.set_cons_zero,List.set_cons_succ,i64_w,i32_w];rfl
               refine done_ (done_of HT_.out (by kernel_rfl)) ?_;(try go_wp2);have n0_ := Aside0.mk (blk_drew BK3.out);have n1_ := Aside0.mk (blk_drew BK4.out);have n2_ := Aside0.mk (below_drew1 HB.out);clear BK3;clear BK4;clear HB;have BK3 := n0_;have BK4 := n1_;have HB := n2_;clear n0_ n1_ n2_;have p105 : 0 ≤ (a1 : Int) := of_decide_eq_true (by first | (with_reducible assumption) | assumption);have q105 : a1 < (l3.length : Int) := of_decide_eq_true (by first | (with_reducible assumption) | assumption);obtain ⟨ad105,e105,hx105_0,hx105_1,hx105_2⟩ := at_T73 HR3.out a1 p105 q105;have hw105_2 := hx105_2;have hw105_1 := hx105_1;have hw105_0 := hx105_0;cases e105;replace hx105_0 := (HB.out.cell (World.block_lt_of_cell? w _ hx105_0)).trans hx105_0;replace hx105_1 := (HB.out.cell (World.block_lt_of_cell? w _ hx105_1)).trans hx105_1;replace hx105_2 := (HB.out.cell (World.block_lt_of_cell? w _ hx105_2)).trans hx105_2;replace p105 := eq_true p105;replace q105 := eq_true q105;have p106 : 0 ≤ (a2 : Int) := of_decide_eq_true (by first | (with_reducible assumption) | assumption);have q106 : a2 < (l4.length : Int) := of_decide_eq_true (by first | (with_reducible assumption) | assumption);obtain ⟨ad106,e106,hx106_0,hx106_1,hx106_2⟩ := at_T73 HR4.out a2 p106 q106;have hw106_2 := hx106_2;have hw106_1 := hx106_1;have hw106_0 := hx106_0;cases e106;replace hx106_0 := (HB.out.cell (World.block_lt_of_cell? w _ hx106_0)).trans hx106_0;replace hx106_1 := (HB.out.cell (World.block_lt_of_cell? w _ hx106_1)).trans hx106_1;replace hx106_2 := (HB.out.cell (World.block_lt_of_cell? w _ hx106_2)).trans hx106_2;replace p106 := eq_true p106;replace q106 := eq_true q106;refine start_ (n := 14) (S := fun w' => w'.cell? ⟨b3,0,none⟩ = some (.slice (some ad105) l3.length c3) ∧ w'.cell? ⟨b4,0,none⟩ = some (.slice (some ad106) l4.length c4) ∧ w'.cell? (ad105.add ((a1).toNat * 3)) = some (.int .i64 ((rd_T73 l3 a1).f0)) ∧ w'.cell? ⟨(ad105.add ((a1).toNat * 3)).block,(ad105.add ((a1).toNat * 3)).off + 1,none⟩ = some (.int .i64 ((rd_T73 l3 a1).f1)) ∧ w'.cell? ⟨(ad105.add ((a1).toNat * 3)).block,(ad105.add ((a1).toNat * 3)).off + 2,none⟩ = some (.bool ((rd_T73 l3 a1).f2)) ∧ w'.cell? (ad106.add ((a2).toNat * 3)) = some (.int .i64 ((rd_T73 l4 a2).f0)) ∧ w'.cell? ⟨(ad106.add ((a2).toNat * 3)).block,(ad106.add ((a2).toNat * 3)).off + 1,none⟩ = some (.int .i64 ((rd_T73 l4 a2).f1)) ∧ w'.cell? ⟨(ad106.add ((a2).toNat * 3)).block,(ad106.add ((a2).toNat * 3)).off + 2,none⟩ = some (.bool ((rd_T73 l4 a2).f2))) (ds := []) #[false,false,false,false,false,false,false,false,false,false,false,false,false,false] (by kernel_rfl) rfl rfl ⟨(blk_cell BK3.out 0).trans rfl,(blk_cell BK4.out 0).trans rfl,((HB.out.cell (World.block_lt_of_cell? w _ hw105_0)).trans hw105_0),((HB.out.cell (World.block_lt_of_cell? w _ hw105_1)).trans hw105_1),((HB.out.cell (World.block_lt_of_cell? w _ hw105_2)).trans hw105_2),((HB.out.cell (World.block_lt_of_cell? w _ hw106_0)).trans hw106_0),((HB.out.cell (World.block_lt_of_cell? w _ hw106_1)).trans hw106_1),((HB.out.cell (World.block_lt_of_cell? w _ hw106_2)).trans hw106_2)⟩ (fun hHeld => ?_);refine with_tabW impl_faults_1.tab6 impl_faults_1.bits6 (fun HT_ HW_ => ?_);generalize w34.drew = w35 at BK3 BK4 HB hx105_0 hx105_1 hx105_2 hx106_0 hx106_1 hx106_2 hHeld ⊢;refine pure_ (i := 1) (N := some 53) (v := ?_) (a' := ?_) #[false,true,false,false,false,false,false,false,false,false,false,false,false,false] rfl rfl (any_of HT_.out (by kernel_rfl)) (fun _ _ _ h => h) (Or.inl ⟨by rfl,?_⟩) ?_ ?_;rotate_left
               ·intro w';go_simp;with_reducible rfl
               rotate_left
               ·simp only [Act.put,List.setIfInBounds_toArray,List.set_cons_zero,List.set_cons_succ,i64_w,i32_w];rfl
               refine pure_ (i := 5) (N := some 57) (v := ?_) (a' := ?_) #[false,true,false,false,false,true,false,false,false,false,false,false,false,false] rfl rfl (any_of HT_.out (by kernel_rfl)) (fun _ _ _ h => h) (Or.inl ⟨by rfl,?_⟩) ?_ ?_;rotate_left
               ·intro w';go_simp;with_reducible rfl
               rotate_left
               ·simp only [Act.put,List.setIfInBounds_toArray,List.set_cons_zero,List.set_cons_succ,i64_w,i32_w];rfl
               refine take_ (i := 0) (N := some 52) (v := ?_) (a' := ?_) #[true,true,false,false,false,true,false,false,false,false,false,false,false,false] rfl rfl (take_ofW HT_.out HW_.out (by kernel_rfl)) (fun _ _ _ h => h) (Or.inl ⟨by rfl,?_⟩) hHeld ?_ ?_;rotate_left
               ·rintro w' ⟨s0,s1,s2,s3,s4,s5,s6,s7⟩
                go_simp;with_reducible rfl
               rotate_left
               ·simp only [Act.put,List.setIfInBounds_toArray,List.set_cons_zero,List.set_cons_succ,i64_w,i32_w];rfl
               refine pure_ (i := 2) (N := some 54) (v := ?_) (a' := ?_) #[true,true,true,false,false,true,false,false,false,false,false,false,false,false] rfl rfl (any_of HT_.out (by kernel_rfl)) (fun _ _ _ h => h) (Or.inl ⟨by rfl,?_⟩) ?_ ?_;rotate_left
               ·intro w';go_simp;with_reducible rfl
               rotate_left
               ·simp only [Act.put,List.setIfInBounds_toArray,List.set_cons_zero,List.set_cons_succ,i64_w,i32_w];rfl
               refine take_ (i := 3) (N := some 55) (v := ?_) (a' := ?_) #[true,true,true,true,false,true,false,false,false,false,false,false,false,false] rfl rfl (take_ofW HT_.out HW_.out (by kernel_rfl)) (fun _ _ _ h => h) (Or.inl ⟨by rfl,?_⟩) hHeld ?_ ?_;rotate_left
               ·rintro w' ⟨s0,s1,s2,s3,s4,s5,s6,s7⟩
                go_simp;with_reducible rfl
               rotate_left
               ·simp only [Act.put,List.setIfInBounds_toArray,List.set_cons_zero,List.set_cons_succ,i64_w,i32_w];rfl
               refine take_ (i := 4) (N := some 56) (v := ?_) (a' := ?_) #[true,true,true,true,true,true,false,false,false,false,false,false,false,false] rfl rfl (take_ofW HT_.out HW_.out (by kernel_rfl)) (fun _ _ _ h => h) (Or.inl ⟨by rfl,?_⟩) hHeld ?_ ?_;rotate_left
               ·rintro w' ⟨s0,s1,s2,s3,s4,s5,s6,s7⟩
                go_simp;with_reducible rfl
               rotate_left
               ·simp only [Act.put,List.setIfInBounds_toArray,List.set_cons_zero,List.set_cons_succ,i64_w,i32_w];rfl
               refine pure_ (i := 6) (N := some 58) (v := ?_) (a' := ?_) #[true,true,true,true,true,true,true,false,false,false,false,false,false,false] rfl rfl (any_of HT_.out (by kernel_rfl)) (fun _ _ _ h => h) (Or.inl ⟨by rfl,?_⟩) ?_ ?_;rotate_left
               ·intro w';go_simp;with_reducible rfl
               rotate_left
               ·simp only [Act.put,List.setIfInBounds_toArray,List.set_cons_zero,List.set_cons_succ,i64_w,i32_w];rfl
               refine take_ (i := 7) (N := some 59) (v := ?_) (a' := ?_) #[true,true,true,true,true,true,true,true,false,false,false,false,false,false] rfl rfl (take_ofW HT_.out HW_.out (by kernel_rfl)) (fun _ _ _ h => h) (Or.inl ⟨by rfl,?_⟩) hHeld ?_ ?_;rotate_left
               ·rintro w' ⟨s0,s1,s2,s3,s4,s5,s6,s7⟩
                go_simp;with_reducible rfl
               rotate_left
               ·simp only [Act.put,List.setIfInBounds_toArray,List.set_cons_zero,List.set_cons_succ,i64_w,i32_w];rfl
               refine one_ (i := 8) (N := some 60) #[true,true,true,true,true,true,true,true,true,false,false,false,false,false] rfl rfl (one_of HT_.out (by kernel_rfl)) (by decide) (fun K hK => ?_);refine goes_ Try.func98 (by kernel_rfl) rfl #[.agg #[.int .i64 ((rd_T73 l3 a1).f0),.int .i64 ((rd_T73 l3 a1).f1),.bool ((rd_T73 l3 a1).f2)],.agg #[.int .i64 ((rd_T73 l4 a2).f0),.int .i64 ((rd_T73 l4 a2).f1),.bool ((rd_T73 l4 a2).f2)]] (by rfl) rfl rfl (by (try simp only [List.map_toArray,List.map_cons,List.map_nil]);first | done | rfl | (simp only [List.length_drop,List.length_take];rfl)) ?_
               with_reducible refine (impl_stepFaults.calls ((rd_T73 l3 a1).f0) ((rd_T73 l3 a1).f1) ((rd_T73 l3 a1).f2) ((rd_T73 l4 a2).f0) ((rd_T73 l4 a2).f1) ((rd_T73 l4 a2).f2) t107 true _ A27.out).mono ?_
               rintro e w36 ⟨rfl,hb⟩
               refine ⟨_,rfl,?_⟩;have n0_ := Aside0.mk (blk_below (g := b3) (o := .cells #[.slice (some ad105) l3.length c3] 26 (0,0)) (by (with_reducible repeat (first | refine blk_drewN ?_ _ | refine blk_drew ?_ | refine blk_alloc ?_ _));exact BK3.out) hb);have n1_ := Aside0.mk (blk_below (g := b4) (o := .cells #[.slice (some ad106) l4.length c4] 26 (0,0)) (by (with_reducible repeat (first | refine blk_drewN ?_ _ | refine blk_drew ?_ | refine blk_alloc ?_ _));exact BK4.out) hb);have n2_ := Aside0.mk (below_step (by repeat (first | (with_reducible first | exact HB.out | apply below_alloc | apply pw_below_drewN | apply below_drew1 | refine below_set ?_ GE3.out | refine below_set ?_ GE4.out) | exact HB.out)) hb);clear BK3;clear BK4;clear HB;have BK3 := n0_;have BK4 := n1_;have HB := n2_;clear n0_ n1_ n2_;(try clear hb);(try clear hb2);(try clear hk);(try clear hi);refine hK.out _ _ ⟨(blk_cell BK3.out 0).trans rfl,(blk_cell BK4.out 0).trans rfl,((HB.out.cell (World.block_lt_of_cell? w _ hw105_0)).trans hw105_0),((HB.out.cell (World.block_lt_of_cell? w _ hw105_1)).trans hw105_1),((HB.out.cell (World.block_lt_of_cell? w _ hw105_2)).trans hw105_2),((HB.out.cell (World.block_lt_of_cell? w _ hw106_0)).trans hw106_0),((HB.out.cell (World.block_lt_of_cell? w _ hw106_1)).trans hw106_1),((HB.out.cell (World.block_lt_of_cell? w _ hw106_2)).trans hw106_2)⟩ (fun hHeld => ?_);clear hK K;refine norm_ (a' := ?_) ?_ ?_;rotate_left
               ·show Act.put _ (some 60) _ = _
                simp only [Act.put,List.setIfInBounds_toArray,List.set_cons_zero,List.set_cons_succ,i64_w,i32_w];rfl
               refine pure_ (i := 9) (N := some 51) (v := ?_) (a' := ?_) #[true,true,true,true,true,true,true,true,true,true,false,false,false,false] rfl rfl (any_of HT_.out (by kernel_rfl)) (fun _ _ _ h => h) (Or.inl ⟨by rfl,?_⟩) ?_ ?_;rotate_left
               ·intro w';go_simp;with_reducible rfl
               rotate_left
               ·simp only [Act.put,List.setIfInBounds_toArray,List.set_cons_zero,List.set_cons_succ,i64_w,i32_w];rfl
               refine pure_ (i := 10) (N := some 61) (v := ?_) (a' := ?_) #[true,true,true,true,true,true,true,true,true,true,true,false,false,false] rfl rfl (any_of HT_.out (by kernel_rfl)) (fun _ _ _ h => h) (Or.inl ⟨by rfl,?_⟩) ?_ ?_;rotate_left
               ·intro w';go_simp;with_reducible rfl
               rotate_left
               ·simp only [Act.put,List.setIfInBounds_toArray,List.set_cons_zero,List.set_cons_succ,i64_w,i32_w];rfl
               refine pure_ (i := 11) (N := some 62) (v := ?_) (a' := ?_) #[true,true,true,true,true,true,true,true,true,true,true,true,false,false] rfl rfl (any_of HT_.out (by kernel_rfl)) (fun _ _ _ h => h) (Or.inl ⟨by rfl,?_⟩) ?_ ?_;rotate_left
               ·intro w';go_simp;with_reducible rfl
               rotate_left
               ·simp only [Act.put,List.setIfInBounds_toArray,List.set_cons_zero,List.set_cons_succ,i64_w,i32_w];rfl
               refine pure_ (i := 12) (N := some 10) (v := ?_) (a' := ?_) #[true,true,true,true,true,true,true,true,true,true,true,true,true,false] rfl rfl (any_of HT_.out (by kernel_rfl)) (fun _ _ _ h => h) (Or.inl ⟨by rfl,?_⟩) ?_ ?_;rotate_left
               ·intro w';go_simp;with_reducible rfl
               rotate_left
               ·simp only [Act.put,List.setIfInBounds_toArray,List.set_cons_zero,List.set_cons_succ,i64_w,i32_w];rfl
               refine pure_ (i := 13) (N := some 11) (v := ?_) (a' := ?_) #[true,true,true,true,true,true,true,true,true,true,true,true,true,true] rfl rfl (any_of HT_.out (by kernel_rfl)) (fun _ _ _ h => h) (Or.inl ⟨by rfl,?_⟩) ?_ ?_;rotate_left
               ·intro w';go_simp;with_reducible rfl
               rotate_left
               ·simp only [Act.put,List.setIfInBounds_toArray,List.set_cons_zero,List.set_cons_succ,i64_w,i32_w];rfl
               refine done_ (done_of HT_.out (by kernel_rfl)) ?_;have p109 : 0 ≤ ((ji14) : Int) := of_decide_eq_true (by first | (with_reducible assumption) | assumption);have q109 : (ji14) < (l0.length : Int) := of_decide_eq_true (by first | (with_reducible assumption) | assumption);obtain ⟨ad109,A109_0,c109_0,e109,hx109_0,hl109_0,hi109_0⟩ := at_L6 HR0.out (ji14) p109 q109;obtain rfl : ad101 = ad109 := (by injection e109);replace hx109_0 := (HB.out.cell (World.block_lt_of_cell? w _ hx109_0)).trans hx109_0;have HR109_0 := Aside0.mk hi109_0;have HC109_0 := Aside0.mk hl109_0;clear hi109_0 hl109_0;replace p109 := eq_true p109;replace q109 := eq_true q109;have p110 : 0 ≤ ((ji21) : Int) := of_decide_eq_true (by first | (with_reducible assumption) | assumption);have q110 : (ji21) < ((rd_L6 l0 (ji14)).length : Int) := of_decide_eq_true (by first | (with_reducible assumption) | assumption);obtain ⟨ad110,e110,hx110_0⟩ := Kd.at_int HR109_0.out (ji21) p110 q110;cases e110;replace hx110_0 := (HB.out.cell (World.block_lt_of_cell? w _ hx110_0)).trans hx110_0;replace p110 := eq_true p110;replace q110 := eq_true q110;(try go_wp2)
               go_ret
               exact ⟨by first | rfl | (simp [errW_none,errW_some,IntKind.wrap_i64,wrap64];done) | (simp [errW_none,errW_some] <;> rfl) | (simp only [← hji14,← hji21,← hji24,← hji30];first | rfl | (simp [errW_none,errW_some] <;> rfl)) | (simp [*,errW_none,errW_some] <;> rfl),by repeat (first | (with_reducible first | exact HB.out | apply below_alloc | apply pw_below_drewN | apply below_drew1 | refine below_set ?_ GE3.out | refine below_set ?_ GE4.out) | exact HB.out)⟩
              ·rw [if_neg c29] at H;exact absurd H (by simp)
             ·replace c28 := Bool.eq_false_iff.mpr c28;subst c28
              have H1 : (some ji24) = some r := by rw [if_neg (show ¬ (false = true) by decide)] at H;exact H
              clear H;have H := H1;clear H1;obtain rfl := Option.some.inj H;have hnb37 := NB3_4.out;have hnc37 := NB4_3.out;have hcz38_0 : w.cell? ⟨b3,0,none⟩ = some (.slice A3 l3.length c3) := (blk_cell BK3.out 0).trans rfl;have hfz38_0 := blk_frozen BK3.out 0;have hcz39_0 : w.cell? ⟨b4,0,none⟩ = some (.slice A4 l4.length c4) := (blk_cell BK4.out 0).trans rfl;have hfz39_0 := blk_frozen BK4.out 0
              go_enter Try.func120,Try.ntmps120
              (try go_wp2);have n0_ := Aside0.mk (blk_drew BK3.out);have n1_ := Aside0.mk (blk_drew BK4.out);have n2_ := Aside0.mk (below_drew1 HB.out);clear BK3;clear BK4;clear HB;have BK3 := n0_;have BK4 := n1_;have HB := n2_;clear n0_ n1_ n2_;have p101 : 0 ≤ ((ji14) : Int) := of_decide_eq_true (by first | (with_reducible assumption) | assumption);have q101 : (ji14) < (l0.length : Int) := of_decide_eq_true (by first | (with_reducible assumption) | assumption);obtain ⟨ad101,A101_0,c101_0,e101,hx101_0,hl101_0,hi101_0⟩ := at_L6 HR0.out (ji14) p101 q101;have hw101_0 := hx101_0;cases e101;replace hx101_0 := (HB.out.cell (World.block_lt_of_cell? w _ hx101_0)).trans hx101_0;have HR101_0 := Aside0.mk hi101_0;have HC101_0 := Aside0.mk hl101_0;clear hi101_0 hl101_0;replace p101 := eq_true p101;replace q101 := eq_true q101;have p102 : 0 ≤ (a2 : Int) := of_decide_eq_true (by first | (with_reducible assumption) | assumption);have q102 : a2 < ((rd_L6 l0 (ji14)).length : Int) := of_decide_eq_true (by first | (with_reducible assumption) | assumption);obtain ⟨ad102,e102,hx102_0⟩ := Kd.at_int HR101_0.out a2 p102 q102;have hw102_0 := hx102_0;cases e102;replace hx102_0 := (HB.out.cell (World.block_lt_of_cell? w _ hx102_0)).trans hx102_0;replace p102 := eq_true p102;replace q102 := eq_true q102;have p103 : 0 ≤ (a1 : Int) := of_decide_eq_true (by first | (with_reducible assumption) | assumption);have q103 : a1 < (l0.length : Int) := of_decide_eq_true (by first | (with_reducible assumption) | assumption);obtain ⟨ad103,A103_0,c103_0,e103,hx103_0,hl103_0,hi103_0⟩ := at_L6 HR0.out a1 p103 q103;have hw103_0 := hx103_0;obtain rfl : ad101 = ad103 := (by injection e103);replace hx103_0 := (HB.out.cell (World.block_lt_of_cell? w _ hx103_0)).trans hx103_0;have HR103_0 := Aside0.mk hi103_0;have HC103_0 := Aside0.mk hl103_0;clear hi103_0 hl103_0;replace p103 := eq_true p103;replace q103 := eq_true q103;have p104 : 0 ≤ ((ji21) : Int) := of_decide_eq_true (by first | (with_reducible assumption) | assumption);have q104 : (ji21) < ((rd_L6 l0 a1).length : Int) := of_decide_eq_true (by first | (with_reducible assumption) | assumption);obtain ⟨ad104,e104,hx104_0⟩ := Kd.at_int HR103_0.out (ji21) p104 q104;have hw104_0 := hx104_0;cases e104;replace hx104_0 := (HB.out.cell (World.block_lt_of_cell? w _ hx104_0)).trans hx104_0;replace p104 := eq_true p104;replace q104 := eq_true q104;refine start_ (n := 20) (S := fun w' => w'.cell? (ad101.add ((ji14)).toNat) = some (.slice (some ad102) (rd_L6 l0 (ji14)).length c101_0) ∧ w'.cell? (ad102.add (a2).toNat) = some (.int .i64 (rd (rd_L6 l0 (ji14)) a2)) ∧ w'.cell? (ad101.add (a1).toNat) = some (.slice (some ad104) (rd_L6 l0 a1).length c103_0) ∧ w'.cell? (ad104.add ((ji21)).toNat) = some (.int .i64 (rd (rd_L6 l0 a1) (ji21)))) (ds := []) #[false,false,false,false,false,false,false,false,false,false,false,false,false,false,false,false,false,false,false,false] (by kernel_rfl) rfl rfl ⟨((HB.out.cell (World.block_lt_of_cell? w _ hw101_0)).trans hw101_0),((HB.out.cell (World.block_lt_of_cell? w _ hw102_0)).trans hw102_0),((HB.out.cell (World.block_lt_of_cell? w _ hw103_0)).trans hw103_0),((HB.out.cell (World.block_lt_of_cell? w _ hw104_0)).trans hw104_0)⟩ (fun hHeld => ?_);refine with_tabW impl_faults_1.tab5 impl_faults_1.bits5 (fun HT_ HW_ => ?_);generalize w.drew = w40 at BK3 BK4 HB HR101_0 HR103_0 hx101_0 hx102_0 hx103_0 hx104_0 hHeld ⊢;refine pure_ (i := 0) (N := some 32) (v := ?_) (a' := ?_) #[true,false,false,false,false,false,false,false,false,false,false,false,false,false,false,false,false,false,false,false] rfl rfl (any_of HT_.out (by kernel_rfl)) (fun _ _ _ h => h) (Or.inl ⟨by rfl,?_⟩) ?_ ?_;rotate_left
              ·intro w';go_simp;with_reducible rfl
              rotate_left
              ·simp only [Act.put,List.setIfInBounds_toArray,List.set_cons_zero,List.set_cons_succ,i64_w,i32_w];rfl
              refine pure_ (i := 1) (N := some 33) (v := ?_) (a' := ?_) #[true,true,false,false,false,false,false,false,false,false,false,false,false,false,false,false,false,false,false,false] rfl rfl (any_of HT_.out (by kernel_rfl)) (fun _ _ _ h => h) (Or.inl ⟨by rfl,?_⟩) ?_ ?_;rotate_left
              ·intro w';go_simp;with_reducible rfl
              rotate_left
              ·simp only [Act.put,List.setIfInBounds_toArray,List.set_cons_zero,List.set_cons_succ,i64_w,i32_w];rfl
              refine pure_ (i := 2) (N := some 34) (v := ?_) (a' := ?_) #[true,true,true,false,false,false,false,false,false,false,false,false,false,false,false,false,false,false,false,false] rfl rfl (any_of HT_.out (by kernel_rfl)) (fun _ _ _ h => h) (Or.inl ⟨by rfl,?_⟩) ?_ ?_;rotate_left
              ·intro w';go_simp;with_reducible rfl
              rotate_left
              ·simp only [Act.put,List.setIfInBounds_toArray,List.set_cons_zero,List.set_cons_succ,i64_w,i32_w];rfl
              refine pure_ (i := 3) (N := some 35) (v := ?_) (a' := ?_) #[true,true,true,true,false,false,false,false,false,false,false,false,false,false,false,false,false,false,false,false] rfl rfl (any_of HT_.out (by kernel_rfl)) (fun _ _ _ h => h) (Or.inl ⟨by rfl,?_⟩) ?_ ?_;rotate_left
              ·intro w';go_simp;with_reducible rfl
              rotate_left
              ·simp only [Act.put,List.setIfInBounds_toArray,List.set_cons_zero,List.set_cons_succ,i64_w,i32_w];rfl
              refine pure_ (i := 5) (N := some 37) (v := ?_) (a' := ?_) #[true,true,true,true,false,true,false,false,false,false,false,false,false,false,false,false,false,false,false,false] rfl rfl (any_of HT_.out (by kernel_rfl)) (fun _ _ _ h => h) (Or.inl ⟨by rfl,?_⟩) ?_ ?_;rotate_left
              ·intro w';go_simp;with_reducible rfl
              rotate_left
              ·simp only [Act.put,List.setIfInBounds_toArray,List.set_cons_zero,List.set_cons_succ,i64_w,i32_w];rfl
              refine pure_ (i := 9) (N := some 41) (v := ?_) (a' := ?_) #[true,true,true,true,false,true,false,false,false,true,false,false,false,false,false,false,false,false,false,false] rfl rfl (any_of HT_.out (by kernel_rfl)) (fun _ _ _ h => h) (Or.inl ⟨by rfl,?_⟩) ?_ ?_;rotate_left
              ·intro w';go_simp;with_reducible rfl
              rotate_left
              ·simp only [Act.put,List.setIfInBounds_toArray,List.set_cons_zero,List.set_cons_succ,i64_w,i32_w];rfl
              refine pure_ (i := 10) (N := some 42) (v := ?_) (a' := ?_) #[true,true,true,true,false,true,false,false,false,true,true,false,false,false,false,false,false,false,false,false] rfl rfl (any_of HT_.out (by kernel_rfl)) (fun _ _ _ h => h) (Or.inl ⟨by rfl,?_⟩) ?_ ?_;rotate_left
              ·intro w';go_simp;with_reducible rfl
              rotate_left
              ·simp only [Act.put,List.setIfInBounds_toArray,List.set_cons_zero,List.set_cons_succ,i64_w,i32_w];rfl
              refine pure_ (i := 11) (N := some 43) (v := ?_) (a' := ?_) #[true,true,true,true,false,true,false,false,false,true,true,true,false,false,false,false,false,false,false,false] rfl rfl (any_of HT_.out (by kernel_rfl)) (fun _ _ _ h => h) (Or.inl ⟨by rfl,?_⟩) ?_ ?_;rotate_left
              ·intro w';go_simp;with_reducible rfl
              rotate_left
              ·simp only [Act.put,List.setIfInBounds_toArray,List.set_cons_zero,List.set_cons_succ,i64_w,i32_w];rfl
              refine pure_ (i := 13) (N := some 45) (v := ?_) (a' := ?_) #[true,true,true,true,false,true,false,false,false,true,true,true,false,true,false,false,false,false,false,false] rfl rfl (any_of HT_.out (by kernel_rfl)) (fun _ _ _ h => h) (Or.inl ⟨by rfl,?_⟩) ?_ ?_;rotate_left
              ·intro w';go_simp;with_reducible rfl
              rotate_left
              ·simp only [Act.put,List.setIfInBounds_toArray,List.set_cons_zero,List.set_cons_succ,i64_w,i32_w];rfl
              refine pure_ (i := 14) (N := some 46) (v := ?_) (a' := ?_) #[true,true,true,true,false,true,false,false,false,true,true,true,false,true,true,false,false,false,false,false] rfl rfl (any_of HT_.out (by kernel_rfl)) (fun _ _ _ h => h) (Or.inl ⟨by rfl,?_⟩) ?_ ?_;rotate_left
              ·intro w';go_simp;with_reducible rfl
              rotate_left
              ·simp only [Act.put,List.setIfInBounds_toArray,List.set_cons_zero,List.set_cons_succ,i64_w,i32_w];rfl
              refine take_ (i := 4) (N := some 36) (v := ?_) (a' := ?_) #[true,true,true,true,true,true,false,false,false,true,true,true,false,true,true,false,false,false,false,false] rfl rfl (take_ofW HT_.out HW_.out (by kernel_rfl)) (fun _ _ _ h => h) (Or.inl ⟨by rfl,?_⟩) hHeld ?_ ?_;rotate_left
              ·rintro w' ⟨s0,s1,s2,s3⟩
               go_simp;with_reducible rfl
              rotate_left
              ·simp only [Act.put,List.setIfInBounds_toArray,List.set_cons_zero,List.set_cons_succ,i64_w,i32_w];rfl
              refine pure_ (i := 6) (N := some 38) (v := ?_) (a' := ?_) #[true,true,true,true,true,true,true,false,false,true,true,true,false,true,true,false,false,false,false,false] rfl rfl (any_of HT_.out (by kernel_rfl)) (fun _ _ _ h => h) (Or.inl ⟨by rfl,?_⟩) ?_ ?_;rotate_left
              ·intro w';go_simp;with_reducible rfl
              rotate_left
              ·simp only [Act.put,List.setIfInBounds_toArray,List.set_cons_zero,List.set_cons_succ,i64_w,i32_w];rfl
              refine take_ (i := 7) (N := some 39) (v := ?_) (a' := ?_) #[true,true,true,true,true,true,true,true,false,true,true,true,false,true,true,false,false,false,false,false] rfl rfl (take_ofW HT_.out HW_.out (by kernel_rfl)) (fun _ _ _ h => h) (Or.inl ⟨by rfl,?_⟩) hHeld ?_ ?_;rotate_left
              ·rintro w' ⟨s0,s1,s2,s3⟩
               go_simp;with_reducible rfl
              rotate_left
              ·simp only [Act.put,List.setIfInBounds_toArray,List.set_cons_zero,List.set_cons_succ,i64_w,i32_w];rfl
              refine pure_ (i := 8) (N := some 40) (v := ?_) (a' := ?_) #[true,true,true,true,true,true,true,true,true,true,true,true,false,true,true,false,false,false,false,false] rfl rfl (any_of HT_.out (by kernel_rfl)) (fun _ _ _ h => h) (Or.inl ⟨by rfl,?_⟩) ?_ ?_;rotate_left
              ·intro w';go_simp;with_reducible rfl
              rotate_left
              ·simp only [Act.put,List.setIfInBounds_toArray,List.set_cons_zero,List.set_cons_succ,i64_w,i32_w];rfl
              refine take_ (i := 12) (N := some 44) (v := ?_) (a' := ?_) #[true,true,true,true,true,true,true,true,true,true,true,true,true,true,true,false,false,false,false,false] rfl rfl (take_ofW HT_.out HW_.out (by kernel_rfl)) (fun _ _ _ h => h) (Or.inl ⟨by rfl,?_⟩) hHeld ?_ ?_;rotate_left
              ·rintro w' ⟨s0,s1,s2,s3⟩
               go_simp;with_reducible rfl
              rotate_left
              ·simp only [Act.put,List.setIfInBounds_toArray,List.set_cons_zero,List.set_cons_succ,i64_w,i32_w];rfl
              refine pure_ (i := 15) (N := some 47) (v := ?_) (a' := ?_) #[true,true,true,true,true,true,true,true,true,true,true,true,true,true,true,true,false,false,false,false] rfl rfl (any_of HT_.out (by kernel_rfl)) (fun _ _ _ h => h) (Or.inl ⟨by rfl,?_⟩) ?_ ?_;rotate_left
              ·intro w';go_simp;with_reducible rfl
              rotate_left
              ·simp only [Act.put,List.setIfInBounds_toArray,List.set_cons_zero,List.set_cons_succ,i64_w,i32_w];rfl
              refine take_ (i := 16) (N := some 48) (v := ?_) (a' := ?_) #[true,true,true,true,true,true,true,true,true,true,true,true,true,true,true,true,true,false,false,false] rfl rfl (take_ofW HT_.out HW_.out (by kernel_rfl)) (fun _ _ _ h => h) (Or.inl ⟨by rfl,?_⟩) hHeld ?_ ?_;rotate_left
              ·rintro w' ⟨s0,s1,s2,s3⟩
               go_simp;with_reducible rfl
              rotate_left
              ·simp only [Act.put,List.setIfInBounds_toArray,List.set_cons_zero,List.set_cons_succ,i64_w,i32_w];rfl
              refine pure_ (i := 17) (N := some 49) (v := ?_) (a' := ?_) #[true,true,true,true,true,true,true,true,true,true,true,true,true,true,true,true,true,true,false,false] rfl rfl (any_of HT_.out (by kernel_rfl)) (fun _ _ _ h => h) (Or.inl ⟨by rfl,?_⟩) ?_ ?_;rotate_left
              ·intro w';go_simp;with_reducible rfl
              rotate_left
              ·simp only [Act.put,List.setIfInBounds_toArray,List.set_cons_zero,List.set_cons_succ,i64_w,i32_w];rfl
              refine pure_ (i := 18) (N := some 50) (v := ?_) (a' := ?_) #[true,true,true,true,true,true,true,true,true,true,true,true,true,true,true,true,true,true,true,false] rfl rfl (any_of HT_.out (by kernel_rfl)) (fun _ _ _ h => h) (Or.inl ⟨by rfl,?_⟩) ?_ ?_;rotate_left
              ·intro w';go_simp;with_reducible rfl
              rotate_left
              ·simp only [Act.put,List.setIfInBounds_toArray,List.set_cons_zero,List.set_cons_succ,i64_w,i32_w];rfl
              refine pure_ (i := 19) (N := some 9) (v := ?_) (a' := ?_) #[true,true,true,true,true,true,true,true,true,true,true,true,true,true,true,true,true,true,true,true] rfl rfl (any_of HT_.out (by kernel_rfl)) (fun _ _ _ h => h) (Or.inl ⟨by rfl,?_⟩) ?_ ?_;rotate_left
              ·intro w';go_simp;with_reducible rfl
              rotate_left
              ·simp only [Act.put,List.setIfInBounds_toArray,List.set_cons_zero,List.set_cons_succ,i64_w,i32_w];rfl
              refine done_ (done_of HT_.out (by kernel_rfl)) ?_;(try go_wp2);have n0_ := Aside0.mk (blk_drew BK3.out);have n1_ := Aside0.mk (blk_drew BK4.out);have n2_ := Aside0.mk (below_drew1 HB.out);clear BK3;clear BK4;clear HB;have BK3 := n0_;have BK4 := n1_;have HB := n2_;clear n0_ n1_ n2_;have p105 : 0 ≤ (a1 : Int) := of_decide_eq_true (by first | (with_reducible assumption) | assumption);have q105 : a1 < (l3.length : Int) := of_decide_eq_true (by first | (with_reducible assumption) | assumption);obtain ⟨ad105,e105,hx105_0,hx105_1,hx105_2⟩ := at_T73 HR3.out a1 p105 q105;have hw105_2 := hx105_2;have hw105_1 := hx105_1;have hw105_0 := hx105_0;cases e105;replace hx105_0 := (HB.out.cell (World.block_lt_of_cell? w _ hx105_0)).trans hx105_0;replace hx105_1 := (HB.out.cell (World.block_lt_of_cell? w _ hx105_1)).trans hx105_1;replace hx105_2 := (HB.out.cell (World.block_lt_of_cell? w _ hx105_2)).trans hx105_2;replace p105 := eq_true p105;replace q105 := eq_true q105;have p106 : 0 ≤ (a2 : Int) := of_decide_eq_true (by first | (with_reducible assumption) | assumption);have q106 : a2 < (l4.length : Int) := of_decide_eq_true (by first | (with_reducible assumption) | assumption);obtain ⟨ad106,e106,hx106_0,hx106_1,hx106_2⟩ := at_T73 HR4.out a2 p106 q106;have hw106_2 := hx106_2;have hw106_1 := hx106_1;have hw106_0 := hx106_0;cases e106;replace hx106_0 := (HB.out.cell (World.block_lt_of_cell? w _ hx106_0)).trans hx106_0;replace hx106_1 := (HB.out.cell (World.block_lt_of_cell? w _ hx106_1)).trans hx106_1;replace hx106_2 := (HB.out.cell (World.block_lt_of_cell? w _ hx106_2)).trans hx106_2;replace p106 := eq_true p106;replace q106 := eq_true q106;refine start_ (n := 14) (S := fun w' => w'.cell? ⟨b3,0,none⟩ = some (.slice (some ad105) l3.length c3) ∧ w'.cell? ⟨b4,0,none⟩ = some (.slice (some ad106) l4.length c4) ∧ w'.cell? (ad105.add ((a1).toNat * 3)) = some (.int .i64 ((rd_T73 l3 a1).f0)) ∧ w'.cell? ⟨(ad105.add ((a1).toNat * 3)).block,(ad105.add ((a1).toNat * 3)).off + 1,none⟩ = some (.int .i64 ((rd_T73 l3 a1).f1)) ∧ w'.cell? ⟨(ad105.add ((a1).toNat * 3)).block,(ad105.add ((a1).toNat * 3)).off + 2,none⟩ = some (.bool ((rd_T73 l3 a1).f2)) ∧ w'.cell? (ad106.add ((a2).toNat * 3)) = some (.int .i64 ((rd_T73 l4 a2).f0)) ∧ w'.cell? ⟨(ad106.add ((a2).toNat * 3)).block,(ad106.add ((a2).toNat * 3)).off + 1,none⟩ = some (.int .i64 ((rd_T73 l4 a2).f1)) ∧ w'.cell? ⟨(ad106.add ((a2).toNat * 3)).block,(ad106.add ((a2).toNat * 3)).off + 2,none⟩ = some (.bool ((rd_T73 l4 a2).f2))) (ds := []) #[false,false,false,false,false,false,false,false,false,false,false,false,false,false] (by kernel_rfl) rfl rfl ⟨(blk_cell BK3.out 0).trans rfl,(blk_cell BK4.out 0).trans rfl,((HB.out.cell (World.block_lt_of_cell? w _ hw105_0)).trans hw105_0),((HB.out.cell (World.block_lt_of_cell? w _ hw105_1)).trans hw105_1),((HB.out.cell (World.block_lt_of_cell? w _ hw105_2)).trans hw105_2),((HB.out.cell (World.block_lt_of_cell? w _ hw106_0)).trans hw106_0),((HB.out.cell (World.block_lt_of_cell? w _ hw106_1)).trans hw106_1),((HB.out.cell (World.block_lt_of_cell? w _ hw106_2)).trans hw106_2)⟩ (fun hHeld => ?_);refine with_tabW impl_faults_1.tab6 impl_faults_1.bits6 (fun HT_ HW_ => ?_);generalize w40.drew = w41 at BK3 BK4 HB hx105_0 hx105_1 hx105_2 hx106_0 hx106_1 hx106_2 hHeld ⊢;refine pure_ (i := 1) (N := some 53) (v := ?_) (a' := ?_) #[false,true,false,false,false,false,false,false,false,false,false,false,false,false] rfl rfl (any_of HT_.out (by kernel_rfl)) (fun _ _ _ h => h) (Or.inl ⟨by rfl,?_⟩) ?_ ?_;rotate_left
              ·intro w';go_simp;with_reducible rfl
              rotate_left
              ·simp only [Act.put,List.setIfInBounds_toArray,List.set_cons_zero,List.set_cons_succ,i64_w,i32_w];rfl
              refine pure_ (i := 5) (N := some 57) (v := ?_) (a' := ?_) #[false,true,false,false,false,true,false,false,false,false,false,false,false,false] rfl rfl (any_of HT_.out (by kernel_rfl)) (fun _ _ _ h => h) (Or.inl ⟨by rfl,?_⟩) ?_ ?_;rotate_left
              ·intro w';go_simp;with_reducible rfl
              rotate_left
              ·simp only [Act.put,List.setIfInBounds_toArray,List.set_cons_zero,List.set_cons_succ,i64_w,i32_w];rfl
              refine take_ (i := 0) (N := some 52) (v := ?_) (a' := ?_) #[true,true,false,false,false,true,false,false,false,false,false,false,false,false] rfl rfl (take_ofW HT_.out HW_.out (by kernel_rfl)) (fun _ _ _ h => h) (Or.inl ⟨by rfl,?_⟩) hHeld ?_ ?_;rotate_left
              ·rintro w' ⟨s0,s1,s2,s3,s4,s5,s6,s7⟩
               go_simp;with_reducible rfl
              rotate_left
              ·simp only [Act.put,List.setIfInBounds_toArray,List.set_cons_zero,List.set_cons_succ,i64_w,i32_w];rfl
              refine pure_ (i := 2) (N := some 54) (v := ?_) (a' := ?_) #[true,true,true,false,false,true,false,false,false,false,false,false,false,false] rfl rfl (any_of HT_.out (by kernel_rfl)) (fun _ _ _ h => h) (Or.inl ⟨by rfl,?_⟩) ?_ ?_;rotate_left
              ·intro w';go_simp;with_reducible rfl
              rotate_left
              ·simp only [Act.put,List.setIfInBounds_toArray,List.set_cons_zero,List.set_cons_succ,i64_w,i32_w];rfl
              refine take_ (i := 3) (N := some 55) (v := ?_) (a' := ?_) #[true,true,true,true,false,true,false,false,false,false,false,false,false,false] rfl rfl (take_ofW HT_.out HW_.out (by kernel_rfl)) (fun _ _ _ h => h) (Or.inl ⟨by rfl,?_⟩) hHeld ?_ ?_;rotate_left
              ·rintro w' ⟨s0,s1,s2,s3,s4,s5,s6,s7⟩
               go_simp;with_reducible rfl
              rotate_left
              ·simp only [Act.put,List.setIfInBounds_toArray,List.set_cons_zero,List.set_cons_succ,i64_w,i32_w];rfl
              refine take_ (i := 4) (N := some 56) (v := ?_) (a' := ?_) #[true,true,true,true,true,true,false,false,false,false,false,false,false,false] rfl rfl (take_ofW HT_.out HW_.out (by kernel_rfl)) (fun _ _ _ h => h) (Or.inl ⟨by rfl,?_⟩) hHeld ?_ ?_;rotate_left
              ·rintro w' ⟨s0,s1,s2,s3,s4,s5,s6,s7⟩
               go_simp;with_reducible rfl
              rotate_left
              ·simp only [Act.put,List.setIfInBounds_toArray,List.set_cons_zero,List.set_cons_succ,i64_w,i32_w];rfl
              refine pure_ (i := 6) (N := some 58) (v := ?_) (a' := ?_) #[true,true,true,true,true,true,true,false,false,false,false,false,false,false] rfl rfl (any_of HT_.out (by kernel_rfl)) (fun _ _ _ h => h) (Or.inl ⟨by rfl,?_⟩) ?_ ?_;rotate_left
              ·intro w';go_simp;with_reducible rfl
              rotate_left
              ·simp only [Act.put,List.setIfInBounds_toArray,List.set_cons_zero,List.set_cons_succ,i64_w,i32_w];rfl
              refine take_ (i := 7) (N := some 59) (v := ?_) (a' := ?_) #[true,true,true,true,true,true,true,true,false,false,false,false,false,false] rfl rfl (take_ofW HT_.out HW_.out (by kernel_rfl)) (fun _ _ _ h => h) (Or.inl ⟨by rfl,?_⟩) hHeld ?_ ?_;rotate_left
              ·rintro w' ⟨s0,s1,s2,s3,s4,s5,s6,s7⟩
               go_simp;with_reducible rfl
              rotate_left
              ·simp only [Act.put,List.setIfInBounds_toArray,List.set_cons_zero,List.set_cons_succ,i64_w,i32_w];rfl
              refine one_ (i := 8) (N := some 60) #[true,true,true,true,true,true,true,true,true,false,false,false,false,false] rfl rfl (one_of HT_.out (by kernel_rfl)) (by decide) (fun K hK => ?_);refine goes_ Try.func98 (by kernel_rfl) rfl #[.agg #[.int .i64 ((rd_T73 l3 a1).f0),.int .i64 ((rd_T73 l3 a1).f1),.bool ((rd_T73 l3 a1).f2)],.agg #[.int .i64 ((rd_T73 l4 a2).f0),.int .i64 ((rd_T73 l4 a2).f1),.bool ((rd_T73 l4 a2).f2)]] (by rfl) rfl rfl (by (try simp only [List.map_toArray,List.map_cons,List.map_nil]);first | done | rfl | (simp only [List.length_drop,List.length_take];rfl)) ?_
              with_reducible refine (impl_stepFaults.calls ((rd_T73 l3 a1).f0) ((rd_T73 l3 a1).f1) ((rd_T73 l3 a1).f2) ((rd_T73 l4 a2).f0) ((rd_T73 l4 a2).f1) ((rd_T73 l4 a2).f2) t107 false _ A27.out).mono ?_
              rintro e w42 ⟨rfl,hb⟩
              refine ⟨_,rfl,?_⟩;have n0_ := Aside0.mk (blk_below (g := b3) (o := .cells #[.slice (some ad105) l3.length c3] 26 (0,0)) (by (with_reducible repeat (first | refine blk_drewN ?_ _ | refine blk_drew ?_ | refine blk_alloc ?_ _));exact BK3.out) hb);have n1_ := Aside0.mk (blk_below (g := b4) (o := .cells #[.slice (some ad106) l4.length c4] 26 (0,0)) (by (with_reducible repeat (first | refine blk_drewN ?_ _ | refine blk_drew ?_ | refine blk_alloc ?_ _));exact BK4.out) hb);have n2_ := Aside0.mk (below_step (by repeat (first | (with_reducible first | exact HB.out | apply below_alloc | apply pw_below_drewN | apply below_drew1 | refine below_set ?_ GE3.out | refine below_set ?_ GE4.out) | exact HB.out)) hb);clear BK3;clear BK4;clear HB;have BK3 := n0_;have BK4 := n1_;have HB := n2_;clear n0_ n1_ n2_;(try clear hb);(try clear hb2);(try clear hk);(try clear hi);refine hK.out _ _ ⟨(blk_cell BK3.out 0).trans rfl,(blk_cell BK4.out 0).trans rfl,((HB.out.cell (World.block_lt_of_cell? w _ hw105_0)).trans hw105_0),((HB.out.cell (World.block_lt_of_cell? w _ hw105_1)).trans hw105_1),((HB.out.cell (World.block_lt_of_cell? w _ hw105_2)).trans hw105_2),((HB.out.cell (World.block_lt_of_cell? w _ hw106_0)).trans hw106_0),((HB.out.cell (World.block_lt_of_cell? w _ hw106_1)).trans hw106_1),((HB.out.cell (World.block_lt_of_cell? w _ hw106_2)).trans hw106_2)⟩ (fun hHeld => ?_);clear hK K;refine norm_ (a' := ?_) ?_ ?_;rotate_left
              ·show Act.put _ (some 60) _ = _
               simp only [Act.put,List.setIfInBounds_toArray,List.set_cons_zero,List.set_cons_succ,i64_w,i32_w];rfl
              refine pure_ (i := 9) (N := some 51) (v := ?_) (a' := ?_) #[true,true,true,true,true,true,true,true,true,true,false,false,false,false] rfl rfl (any_of HT_.out (by kernel_rfl)) (fun _ _ _ h => h) (Or.inl ⟨by rfl,?_⟩) ?_ ?_;rotate_left
              ·intro w';go_simp;with_reducible rfl
              rotate_left
              ·simp only [Act.put,List.setIfInBounds_toArray,List.set_cons_zero,List.set_cons_succ,i64_w,i32_w];rfl
              refine pure_ (i := 10) (N := some 61) (v := ?_) (a' := ?_) #[true,true,true,true,true,true,true,true,true,true,true,false,false,false] rfl rfl (any_of HT_.out (by kernel_rfl)) (fun _ _ _ h => h) (Or.inl ⟨by rfl,?_⟩) ?_ ?_;rotate_left
              ·intro w';go_simp;with_reducible rfl
              rotate_left
              ·simp only [Act.put,List.setIfInBounds_toArray,List.set_cons_zero,List.set_cons_succ,i64_w,i32_w];rfl
              refine pure_ (i := 11) (N := some 62) (v := ?_) (a' := ?_) #[true,true,true,true,true,true,true,true,true,true,true,true,false,false] rfl rfl (any_of HT_.out (by kernel_rfl)) (fun _ _ _ h => h) (Or.inl ⟨by rfl,?_⟩) ?_ ?_;rotate_left
              ·intro w';go_simp;with_reducible rfl
              rotate_left
              ·simp only [Act.put,List.setIfInBounds_toArray,List.set_cons_zero,List.set_cons_succ,i64_w,i32_w];rfl
              refine pure_ (i := 12) (N := some 10) (v := ?_) (a' := ?_) #[true,true,true,true,true,true,true,true,true,true,true,true,true,false] rfl rfl (any_of HT_.out (by kernel_rfl)) (fun _ _ _ h => h) (Or.inl ⟨by rfl,?_⟩) ?_ ?_;rotate_left
              ·intro w';go_simp;with_reducible rfl
              rotate_left
              ·simp only [Act.put,List.setIfInBounds_toArray,List.set_cons_zero,List.set_cons_succ,i64_w,i32_w];rfl
              refine pure_ (i := 13) (N := some 11) (v := ?_) (a' := ?_) #[true,true,true,true,true,true,true,true,true,true,true,true,true,true] rfl rfl (any_of HT_.out (by kernel_rfl)) (fun _ _ _ h => h) (Or.inl ⟨by rfl,?_⟩) ?_ ?_;rotate_left
              ·intro w';go_simp;with_reducible rfl
              rotate_left
              ·simp only [Act.put,List.setIfInBounds_toArray,List.set_cons_zero,List.set_cons_succ,i64_w,i32_w];rfl
              refine done_ (done_of HT_.out (by kernel_rfl)) ?_;(try go_wp2)
              go_ret
              exact ⟨by first | rfl | (simp [errW_none,errW_some,IntKind.wrap_i64,wrap64];done) | (simp [errW_none,errW_some] <;> rfl) | (simp only [← hji14,← hji21,← hji24];first | rfl | (simp [errW_none,errW_some] <;> rfl)) | (simp [*,errW_none,errW_some] <;> rfl),by repeat (first | (with_reducible first | exact HB.out | apply below_alloc | apply pw_below_drewN | apply below_drew1 | refine below_set ?_ GE3.out | refine below_set ?_ GE4.out) | exact HB.out)⟩
            ·rw [if_neg c26] at H;exact absurd H (by simp)
           ·rw [if_neg c25] at H;exact absurd H (by simp)
          ·rw [if_neg c23] at H;exact absurd H (by simp)
         ·rw [if_neg c22] at H;exact absurd H (by simp)
        ·rw [if_neg c20] at H;exact absurd H (by simp)
       ·rw [if_neg c19] at H;exact absurd H (by simp)
      ·rw [if_neg c18] at H;exact absurd H (by simp)
     ·rw [if_neg c17] at H;exact absurd H (by simp)
    ·rw [if_neg c16] at H;exact absurd H (by simp)
   ·rw [if_neg c15] at H;exact absurd H (by simp)
end Go.Proofs.Ytidkniacmcbgiaa.G
end

section
namespace Go.Proofs.Ytidkniacmcbgiaa.G
open Go.RowKit Go.Proofs.YtidkniacmcbgiaaW.PrintWords Go.Proofs.YtidkniacmcbgiaaW.PrintLast Go.Proofs.YtidkniacmcbgiaaW.PrintMore
attribute [local go_sem] max2_int min2_int max_two min_two max_three min_three max_four min_four
set_option linter.unusedVariables false
set_option linter.unusedSimpArgs false
mutual
def impl_table__impl_faults_1.l0 : Nat → List (S73) → List (List Int) → Int → List (S73) → List (S73) → Option ((List (List Int)))
 | 0,_,_,_,_,_ => none
 | k + 1,x1,x7,x8,x3000,x4000 => if x8 ≥ 0 then (if 0 ≤ (wrap64 ((x1.length : Int) + 1)) then (if (wrap64 ((x1.length : Int) + 1) : Int).toNat ≤ 35184372088832 then (if 0 ≤ x8 then (if x8 < (x7.length : Int) then (impl_table__impl_faults_1.l1 k x1 (x7.set (x8 : Int).toNat (List.replicate (wrap64 ((x1.length : Int) + 1) : Int).toNat 0)) x8 (x1.length : Int) x3000 x4000) else (none)) else (none)) else (none)) else (none)) else (some x7)
def impl_table__impl_faults_1.l1 : Nat → List (S73) → List (List Int) → Int → Int → List (S73) → List (S73) → Option ((List (List Int)))
 | 0,_,_,_,_,_,_ => none
 | k + 1,x1,x7,x8,x9,x3000,x4000 => if x9 ≥ 0 then (if 0 ≤ x8 then (if x8 < (x7.length : Int) then ((impl_faults_1.f x7 x8 x9 x3000 x4000).bind fun t109 => (if 0 ≤ x9 then (if x9 < ((rd_L6 x7 x8).length : Int) then (impl_table__impl_faults_1.l1 k x1 (x7.set (x8 : Int).toNat ((rd_L6 x7 x8).set (x9 : Int).toNat t109)) x8 (wrap64 (x9 - 1)) x3000 x4000) else (none)) else (none))) else (none)) else (none)) else (impl_table__impl_faults_1.l0 k x1 x7 (wrap64 (x8 - 1)) x3000 x4000)
end
def impl_table__impl_faults_1.f (k : Nat) (l0 : List (S73)) (l1 : List (S73)) (l2 : List (S73)) (l3 : List (S73)) : Option ((List (List Int))) := if 0 ≤ (wrap64 ((l0.length : Int) + 1)) then (if (wrap64 ((l0.length : Int) + 1) : Int).toNat ≤ 11728124029610 then (impl_table__impl_faults_1.l0 k l1 (List.replicate (wrap64 ((l0.length : Int) + 1) : Int).toNat []) (l0.length : Int) l2 l3) else (none)) else (none)
def impl_table__impl_faults_1.T9 : Bool × List (List Nat × List Nat) := (true,[([],[]),([],[]),([0,1],[0,1]),([2],[2]),([],[]),([],[]),([],[]),([],[]),([],[]),([5,6,7,8],[5,6,7,8]),([3,4,0,1,2,3,4,5,6,7,8,9],[3,4]),([10,9,9,0,1,2,3,4,5,6,7,8,9],[9,10])])
def impl_table__impl_faults_1.B9 : List Nat := [0,0,3,7,0,0,0,0,0,480,1023,2047]
theorem impl_table__impl_faults_1.tab9 : rtab .any (opsOf Try.f108 9) = impl_table__impl_faults_1.T9 := by kernel_rfl
theorem impl_table__impl_faults_1.bits9 : waitsOk impl_table__impl_faults_1.T9.2 impl_table__impl_faults_1.B9 = true := by kernel_rfl
set_option maxHeartbeats 8000000 in
set_option maxRecDepth 100000 in
theorem impl_table__impl_faults_1.calls (k : Nat) (A0 : Option Addr) (c0 : Nat) (l0 : List (S73)) (A1 : Option Addr) (c1 : Nat) (l1 : List (S73)) (A2 : Option Addr) (c2 : Nat) (l2 : List (S73)) (b2 : Nat) (A3 : Option Addr) (c3 : Nat) (l3 : List (S73)) (b3 : Nat) (r : List (List Int)) (w : World) (hr0 : Kd.C k73 w A0 l0.length l0) (hc0 : l0.length ≤ c0) (hr1 : Kd.C k73 w A1 l1.length l1) (hc1 : l1.length ≤ c1) (hr2 : Kd.C k73 w A2 l2.length l2) (hc2 : l2.length ≤ c2) (hr3 : Kd.C k73 w A3 l3.length l3) (hc3 : l3.length ≤ c3) (hb2 : w.heap[b2]? = some (.cells #[.slice A2 l2.length c2] 26 (0,0))) (hb3 : w.heap[b3]? = some (.cells #[.slice A3 l3.length c3] 26 (0,0))) (hn2_3 : b2 ≠ b3) (h : impl_table__impl_faults_1.f k l0 l1 l2 l3 = some r) :
  Calls Try.prog 108 #[.slice A0 l0.length c0,.slice A1 l1.length c1,.func (.func 120) #[] #[.pointer (some ⟨b2,0,none⟩),.pointer (some ⟨b3,0,none⟩)]] w fun e w' => ∃ v0_ : Value,e = .returned (v0_) ∧ Kd.S (Kd.slice 2 (Kd.int .i64)) 37 w' w.heap.size (fun _ => True) v0_ r ∧ Below w.heap.size w w' := by
 have HR0 := Aside0.mk hr0;have HC0 := Aside0.mk hc0;clear hr0 hc0;have HR1 := Aside0.mk hr1;have HC1 := Aside0.mk hc1;clear hr1 hc1;have HR2 := Aside0.mk hr2;have HC2 := Aside0.mk hc2;clear hr2 hc2;have HR3 := Aside0.mk hr3;have HC3 := Aside0.mk hc3;clear hr3 hc3;have BK2 := Aside0.mk hb2;clear hb2;have BK3 := Aside0.mk hb3;clear hb3;have NB2_3 := Aside0.mk hn2_3;have NB3_2 := Aside0.mk (Ne.symm hn2_3);clear hn2_3;have HB := Aside0.mk (Below.refl w.heap.size w);have H : (if 0 ≤ (wrap64 ((l0.length : Int) + 1)) then (if (wrap64 ((l0.length : Int) + 1) : Int).toNat ≤ 11728124029610 then (impl_table__impl_faults_1.l0 k l1 (List.replicate (wrap64 ((l0.length : Int) + 1) : Int).toNat []) (l0.length : Int) l2 l3) else (none)) else (none)) = some r := h;clear h;obtain ⟨ji5,hji5⟩ : ∃ j_ : Int,(wrap64 ((l0.length : Int) + 1)) = j_ := ⟨_,rfl⟩
 replace H : (if 0 ≤ (ji5) then (if (ji5 : Int).toNat ≤ 11728124029610 then (impl_table__impl_faults_1.l0 k l1 (List.replicate (ji5 : Int).toNat []) (l0.length : Int) l2 l3) else (none)) else (none)) = some r := by first | (rw [hji5] at H;exact H) | (simp only [hji5] at H ⊢;exact H)
 have hji5w : (IntKind.i64.wrap ((l0.length : Int) + 1)) = ji5 := (i64_w _).trans hji5
 by_cases c6 : 0 ≤ (ji5)
 ·rw [if_pos c6] at H;have c6b0 := eq_true c6;have c6b1 : decide (0 ≤ (ji5)) = true := decide_eq_true c6;clear c6
  by_cases c7 : (ji5 : Int).toNat ≤ 11728124029610
  ·rw [if_pos c7] at H;have c7b0 := eq_true c7;have c7b1 : decide ((ji5 : Int).toNat ≤ 11728124029610) = true := decide_eq_true c7;clear c7;obtain ⟨y101,hy101⟩ : ∃ y_ : List (List Int),y_ = (List.replicate (ji5 : Int).toNat []) := ⟨_,rfl⟩
   replace H : (impl_table__impl_faults_1.l0 k l1 y101 (l0.length : Int) l2 l3) = some r := by first | (rw [hy101];with_reducible exact H) | (have H2_ := (Option.bind_some _ _).symm.trans H;rw [hy101];with_reducible exact H2_) | (have H2_ := (Option.bind_some _ _).symm.trans H;with_reducible exact H2_) | with_reducible exact H | (rw [hy101];exact H) | exact H
   have Ny101 := Aside0.mk hy101;clear hy101;have H' := Aside0.mk H;clear H
   go_enter Try.func108,Try.ntmps108
   go_wp2_with (first | ((with_reducible refine gate_dst (N := 13) rfl ?_);refine Kd.S_make (Kd.slice 2 (Kd.int .i64)) _ 37 rfl (N := 13) rfl 88 _ _ rfl ji5 rfl rfl Try.underlying88 (.slice none 0 0) 24 info37 rfl (by decide) (by omega) [] (ok := fun _ => True) (okp := fun _ => True) ⟨_,rfl,Kd.R_nil _ _ _ _ _⟩ (fun _ hk => hk) trivial (of_decide_eq_true (by first | (with_reducible assumption) | assumption)) (Nat.le_trans (Nat.mul_le_mul_right _ (of_decide_eq_true (by first | (with_reducible assumption) | assumption) : ji5.toNat ≤ 11728124029610)) (by omega)) (Below.refl _ _) (Nat.le_refl _) ?_;intro v102 w8 ho9 hb hg_ hnew_;clear hg_ hnew_;(first | rw [← Ny101.out] at ho9 | (simp only [Int.reduceToNat] at ho9;rw [← Ny101.out] at ho9));have n0_ := Aside0.mk (Kd.S_lower ho9 (below_size (by repeat (first | (with_reducible first | exact HB.out | apply below_alloc | apply pw_below_drewN | apply below_drew1 | refine below_set ?_ GE2.out | refine below_set ?_ GE3.out) | exact HB.out))));have n1_ := Aside0.mk (blk_below (g := b2) (o := .cells #[.slice A2 l2.length c2] 26 (0,0)) (by (with_reducible repeat (first | refine blk_drewN ?_ _ | refine blk_drew ?_ | refine blk_alloc ?_ _));exact BK2.out) hb);have n2_ := Aside0.mk (blk_below (g := b3) (o := .cells #[.slice A3 l3.length c3] 26 (0,0)) (by (with_reducible repeat (first | refine blk_drewN ?_ _ | refine blk_drew ?_ | refine blk_alloc ?_ _));exact BK3.out) hb);have n3_ := Aside0.mk (below_step (by repeat (first | (with_reducible first | exact HB.out | apply below_alloc | apply pw_below_drewN | apply below_drew1 | refine below_set ?_ GE2.out | refine below_set ?_ GE3.out) | exact HB.out)) hb);clear BK2;clear BK3;clear HB;have HO103 := n0_;have BK2 := n1_;have BK3 := n2_;have HB := n3_;clear n0_ n1_ n2_ n3_;clear hb ho9))
   go_loopg [8] k (fun kq v8 w' => ∃ (x7_1 : List (List Int)) (x8_1 : Int),v8 = .int .i64 x8_1 ∧ Aside0 (impl_table__impl_faults_1.l0 kq l1 x7_1 x8_1 l2 l3 = some r) ∧ Aside0 (kq ≤ k) ∧ Aside0 (Kd.S (Kd.slice 2 (Kd.int .i64)) 37 w' w.heap.size (fun _ => True) v102 x7_1) ∧ Aside0 (w'.heap[b2]? = some (.cells #[(.slice A2 l2.length c2)] 26 (0,0))) ∧ Aside0 (w'.heap[b3]? = some (.cells #[(.slice A3 l3.length c3)] 26 (0,0))) ∧ Aside0 (Below w.heap.size w w'))
   case atStart => exact ⟨(y101),((l0.length : Int)),(by first | rfl | (simp only [IntKind.wrap_i64,wrap64];done) | (simp;done) | (simp [*];done)),H',⟨Nat.le_refl _⟩,⟨by (with_reducible repeat (first | apply Kd.S_alloc | apply Kd.S_drewN | apply Kd.S_drew));exact HO103.out⟩,⟨by (with_reducible repeat (first | refine blk_drewN ?_ _ | refine blk_drew ?_ | refine blk_alloc ?_ _));exact BK2.out⟩,⟨by (with_reducible repeat (first | refine blk_drewN ?_ _ | refine blk_drew ?_ | refine blk_alloc ?_ _));exact BK3.out⟩,⟨by repeat (first | (with_reducible first | exact HB.out | apply below_alloc | apply pw_below_drewN | apply below_drew1 | refine below_set ?_ GE2.out | refine below_set ?_ GE3.out) | exact HB.out)⟩⟩
   case round =>
    clear H';(try clear c1);(try clear c2);(try clear p2);(try clear c3);(try clear c6);(try clear c6b0);(try clear c6b1);(try clear p6);(try clear c7);(try clear c7b0);(try clear c7b1);obtain ⟨x7_1,x8_1,rfl,HA,HK1,HO_7,BK2,BK3,HB⟩ := hrel
    cases gk with
    | zero => exact absurd HA.out (by simp [impl_table__impl_faults_1.l0])
    | succ k1 =>
     have H := HA.out;clear HA;simp only [impl_table__impl_faults_1.l0] at H
     by_cases c10 : x8_1 ≥ 0
     ·rw [if_pos c10] at H;have c10b0 : decide (0 ≤ x8_1) = true := decide_eq_true c10;clear c10;obtain ⟨ji11,hji11⟩ : ∃ j_ : Int,(wrap64 ((l1.length : Int) + 1)) = j_ := ⟨_,rfl⟩
      replace H : (if 0 ≤ (ji11) then (if (ji11 : Int).toNat ≤ 35184372088832 then (if 0 ≤ x8_1 then (if x8_1 < (x7_1.length : Int) then (impl_table__impl_faults_1.l1 k1 l1 (x7_1.set (x8_1 : Int).toNat (List.replicate (ji11 : Int).toNat 0)) x8_1 (l1.length : Int) l2 l3) else (none)) else (none)) else (none)) else (none)) = some r := by first | (rw [hji11] at H;exact H) | (simp only [hji11] at H ⊢;exact H)
      have hji11w : (IntKind.i64.wrap ((l1.length : Int) + 1)) = ji11 := (i64_w _).trans hji11
      by_cases c12 : 0 ≤ (ji11)
      ·rw [if_pos c12] at H;have c12b0 := eq_true c12;have c12b1 : decide (0 ≤ (ji11)) = true := decide_eq_true c12;clear c12
       by_cases c13 : (ji11 : Int).toNat ≤ 35184372088832
       ·rw [if_pos c13] at H;have c13b0 := eq_true c13;have c13b1 : decide ((ji11 : Int).toNat ≤ 35184372088832) = true := decide_eq_true c13;clear c13;obtain ⟨y104,hy104⟩ : ∃ y_ : List Int,y_ = (List.replicate (ji11 : Int).toNat 0) := ⟨_,rfl⟩
        replace H : (if 0 ≤ x8_1 then (if x8_1 < (x7_1.length : Int) then (impl_table__impl_faults_1.l1 k1 l1 (x7_1.set (x8_1 : Int).toNat y104) x8_1 (l1.length : Int) l2 l3) else (none)) else (none)) = some r := by first | (rw [hy104];with_reducible exact H) | (have H2_ := (Option.bind_some _ _).symm.trans H;rw [hy104];with_reducible exact H2_) | (have H2_ := (Option.bind_some _ _).symm.trans H;with_reducible exact H2_) | with_reducible exact H | (rw [hy104];exact H) | exact H
        have Ny104 := Aside0.mk hy104;clear hy104
        by_cases c14 : 0 ≤ x8_1
        ·rw [if_pos c14] at H;have c14b0 : decide (0 ≤ x8_1) = true := decide_eq_true c14;clear c14
         by_cases c15 : x8_1 < (x7_1.length : Int)
         ·rw [if_pos c15] at H;have c15b0 : decide (x8_1 < (x7_1.length : Int)) = true := decide_eq_true c15;clear c15;obtain ⟨y107,hy107⟩ : ∃ y_ : List (List Int),y_ = (x7_1.set (x8_1 : Int).toNat y104) := ⟨_,rfl⟩
          replace H : (impl_table__impl_faults_1.l1 k1 l1 y107 x8_1 (l1.length : Int) l2 l3) = some r := by first | (rw [hy107];with_reducible exact H) | (have H2_ := (Option.bind_some _ _).symm.trans H;rw [hy107];with_reducible exact H2_) | (have H2_ := (Option.bind_some _ _).symm.trans H;with_reducible exact H2_) | with_reducible exact H | (rw [hy107];exact H) | exact H
          have Ny107 := Aside0.mk hy107;clear hy107;have H' := Aside0.mk H;clear H
          go_wp2_with (first | ((with_reducible refine gate_dst (N := 25) rfl ?_);refine Kd.R_make (Kd.int .i64) _ 2 rfl (N := 25) rfl 37 _ _ rfl ji11 rfl rfl Try.underlying37 (.int .i64 0) 8 info2 rfl (by decide) (by omega) 0 (ok := fun _ => True) (okp := fun _ => True) rfl (fun _ hk => hk) trivial (of_decide_eq_true (by first | (with_reducible assumption) | assumption)) (Nat.le_trans (Nat.mul_le_mul_right _ (of_decide_eq_true (by first | (with_reducible assumption) | assumption) : ji11.toNat ≤ 35184372088832)) (by omega)) (Below.refl _ _) (Nat.le_refl _) ?_;intro v105 w17 ho18 hb hg_ hnew_;clear hg_ hnew_;(first | rw [← Ny104.out] at ho18 | (simp only [Int.reduceToNat] at ho18;rw [← Ny104.out] at ho18));have n0_ := Aside0.mk (Kd.S_elder' (by (with_reducible repeat (first | apply Kd.S_alloc | apply Kd.S_drewN | apply Kd.S_drew));exact HO_7.out) (Kd.R_base ho18) hb);have n1_ := Aside0.mk (Kd.R_lower ho18 (below_size (by repeat (first | (with_reducible first | exact HB.out | apply below_alloc | apply pw_below_drewN | apply below_drew1 | refine below_set ?_ GE2.out | refine below_set ?_ GE3.out) | exact HB.out))));have n2_ := Aside0.mk (blk_below (g := b2) (o := .cells #[.slice A2 l2.length c2] 26 (0,0)) (by (with_reducible repeat (first | refine blk_drewN ?_ _ | refine blk_drew ?_ | refine blk_alloc ?_ _));exact BK2.out) hb);have n3_ := Aside0.mk (blk_below (g := b3) (o := .cells #[.slice A3 l3.length c3] 26 (0,0)) (by (with_reducible repeat (first | refine blk_drewN ?_ _ | refine blk_drew ?_ | refine blk_alloc ?_ _));exact BK3.out) hb);have n4_ := Aside0.mk (below_step (by repeat (first | (with_reducible first | exact HB.out | apply below_alloc | apply pw_below_drewN | apply below_drew1 | refine below_set ?_ GE2.out | refine below_set ?_ GE3.out) | exact HB.out)) hb);clear HO_7;clear BK2;clear BK3;clear HB;have HO_7 := n0_;have HO106 := n1_;have BK2 := n2_;have BK3 := n3_;have HB := n4_;clear n0_ n1_ n2_ n3_ n4_;clear hb ho18;have p16 : 0 ≤ (x8_1 : Int) := of_decide_eq_true (by first | (with_reducible assumption) | assumption);have q16 : (x8_1 : Int) < ((x7_1.length : Int) : Int) := of_decide_eq_true (by first | (with_reducible assumption) | assumption);obtain ⟨go16,co16,eo16,gb16,gl16,cl16,HG16⟩ := Kd.S_form HO_7.out (by omega);(first | cases eo16 | (injection eo16 with ea_ en_ ec_;(first | subst ea_ | (injection ea_ with ea_;subst ea_));subst ec_;clear en_));have GB16 := Aside0.mk gb16;have GG16 := Aside0.mk HG16;clear gb16 gl16 HG16;obtain ⟨_,ce16,hcl16,hM16,hcc16,hfr16,_,_⟩ := Kd.S_elem HO_7.out [] (x8_1 : Int) p16 q16;obtain ⟨ve16_0,rfl,ge16_0⟩ := hM16;have hx16_0 := hcc16 0 _ rfl;have hf16_0 := hfr16 0;(try simp only [show ((Kd.slice 2 (Kd.int .i64))).sz = 1 from rfl,Nat.mul_one,Nat.add_zero] at hx16_0);(try simp only [show ((Kd.slice 2 (Kd.int .i64))).sz = 1 from rfl,Nat.mul_one,Nat.add_zero] at hf16_0);(clear hcl16 hcc16 hfr16;(try clear hM16));replace p16 := eq_true p16;replace q16 := eq_true q16;have n_ := Aside0.mk (Kd.S_mono (ok' := (fun k_ => some k_ ≠ (v105 : Value).ownBlock)) HO_7.out (fun k_ hk => hk.2));clear HO_7;have HO_7 := n_;clear n_;have HX19 := Aside0.mk (show Kd.S (Kd.slice 2 (Kd.int .i64)) 37 w17 w.heap.size (fun k_ => ((fun _ => True)) k_ ∧ ¬ ((fun k_ => some k_ = (v105 : Value).ownBlock)) k_) (.slice (some ⟨go16,0,none⟩) x7_1.length co16) x7_1 from (by (with_reducible repeat (first | apply Kd.S_alloc | apply Kd.S_drewN | apply Kd.S_drew));exact Kd.S_mono HO_7.out (fun k_ hk => ⟨trivial,fun e_ => hk e_⟩)));obtain ⟨oki19,ce19,hcl19,hM19,hcc19,hfr19,hoki19,hH19⟩ := Kd.S_elem HX19.out [] (x8_1 : Int) (of_decide_eq_true (by first | (with_reducible assumption) | assumption)) (by have h_ : (x8_1 : Int) < ((x7_1.length : Int) : Int) := of_decide_eq_true (by first | (with_reducible assumption) | assumption);first | exact h_ | (have e_ := (Kd.S_reads' HO_7.out).1;omega) | simpa using h_);obtain ⟨ve19_0,rfl,ge19_0⟩ := hM19;have HP19 := Kd.S_seg hH19 (of_decide_eq_true (by first | (with_reducible assumption) | assumption)) (by have h_ : (x8_1 : Int) < ((x7_1.length : Int) : Int) := of_decide_eq_true (by first | (with_reducible assumption) | assumption);first | exact h_ | (have e_ := (Kd.S_reads' HO_7.out).1;omega) | simpa using h_) (seg := [v105]) (j := 0) (show 1 ≤ 1 from by decide) (x' := y104) (Kd.M_row (Kd.R_mono (Kd.R_tight rfl (Kd.R_mono (ok' := fun k_ => ((fun _ => True)) k_ ∧ k_ ≠ go16) (Kd.R_apart' (HO106.out) (Kd.S_typed HO_7.out) (by decide)) (fun k_ hk => ⟨trivial,fun e_ => (hk.2) (by rw [e_];rfl)⟩))) (fun _ h_ => Or.inr (h_)))) (fun _ hk => hk) (fun k_ hk_ => ((Kd.R_mono (ok' := fun k_ => ((fun _ => True)) k_ ∧ k_ ≠ go16) (Kd.R_apart' (HO106.out) (Kd.S_typed HO_7.out) (by decide)) (fun k_ hk => ⟨trivial,fun e_ => (hk.2) (by rw [e_];rfl)⟩))).1 k_ hk_.symm);have hx19_0 := hcc19 0 _ rfl;(try simp only [show ((Kd.slice 2 (Kd.int .i64))).sz = 1 from rfl,Nat.mul_one,Nat.add_zero] at hx19_0);have hf19_0 := hfr19 0;(try simp only [show ((Kd.slice 2 (Kd.int .i64))).sz = 1 from rfl,Nat.mul_one,Nat.add_zero] at hf19_0);(clear hcl19 hcc19 hfr19 hoki19 hH19;(try clear hM19));(try simp only [show ((Kd.slice 2 (Kd.int .i64))).sz = 1 from rfl,Nat.mul_one,Nat.add_zero] at HP19)) | ((with_reducible refine gate_store (t := 37) (p := 26) rfl ?_);refine store_event (t := 37) (p := 26) (v := ?vo_w20) (w1 := (w17.setCell ⟨go16,(x8_1 : Int).toNat,none⟩ (v105))) ?hg ?ho ?hn ?hr ?_;(case ho => rfl);(case hg => rfl);(case hn => rfl);(case hr => (try (obtain ⟨A_,c_,e_⟩ := Kd.R_slice HO106.out;subst e_));first | (go_simp;done) | (go_simp;rfl));intro w20 hw;have hg : w17.grownBy w20 (some go16) := (by rw [hw];exact HP19.2);have hp_ : Kd.S (Kd.slice 2 (Kd.int .i64)) 37 w20 w.heap.size (fun _ => True) (.slice (some ⟨go16,0,none⟩) x7_1.length co16) y107 := (by rw [hw,Ny107.out];exact HP19.1);clear HP19;have n0_ := Aside0.mk (hp_);have n1_ := Aside0.mk (blk_grown (g := b2) (o := .cells #[.slice A2 l2.length c2] 26 (0,0)) (by (with_reducible repeat (first | refine blk_drewN ?_ _ | refine blk_drew ?_ | refine blk_alloc ?_ _));exact BK2.out) hg (Kd.S_ne HO_7.out BK2.out (by decide)));have n2_ := Aside0.mk (blk_grown (g := b3) (o := .cells #[.slice A3 l3.length c3] 26 (0,0)) (by (with_reducible repeat (first | refine blk_drewN ?_ _ | refine blk_drew ?_ | refine blk_alloc ?_ _));exact BK3.out) hg (Kd.S_ne HO_7.out BK3.out (by decide)));have n3_ := Aside0.mk ((by rw [hw];exact below_set (HB.out) GB16.out : Below w.heap.size w w20));clear HO_7;clear BK2;clear BK3;clear HB;clear HO106;have HO_7 := n0_;have BK2 := n1_;have BK3 := n2_;have HB := n3_;clear n0_ n1_ n2_ n3_;clear hg hw hp_))
          go_loopg [9] k1 (fun kq v9 w' => ∃ (x7_2 : List (List Int)) (x9_2 : Int),v9 = .int .i64 x9_2 ∧ Aside0 (impl_table__impl_faults_1.l1 kq l1 x7_2 x8_1 x9_2 l2 l3 = some r) ∧ Aside0 (kq ≤ k1) ∧ Aside0 (Kd.S (Kd.slice 2 (Kd.int .i64)) 37 w' w.heap.size (fun _ => True) (.slice (some ⟨go16,0,none⟩) x7_1.length co16) x7_2) ∧ Aside0 (w'.heap[b2]? = some (.cells #[(.slice A2 l2.length c2)] 26 (0,0))) ∧ Aside0 (w'.heap[b3]? = some (.cells #[(.slice A3 l3.length c3)] 26 (0,0))) ∧ Aside0 (Below w.heap.size w w'))
          case atStart => exact ⟨(y107),((l1.length : Int)),(by first | rfl | (simp only [IntKind.wrap_i64,wrap64];done) | (simp;done) | (simp [*];done)),H',⟨Nat.le_refl _⟩,⟨by (with_reducible repeat (first | apply Kd.S_alloc | apply Kd.S_drewN | apply Kd.S_drew));exact HO_7.out⟩,⟨by (with_reducible repeat (first | refine blk_drewN ?_ _ | refine blk_drew ?_ | refine blk_alloc ?_ _));exact BK2.out⟩,⟨by (with_reducible repeat (first | refine blk_drewN ?_ _ | refine blk_drew ?_ | refine blk_alloc ?_ _));exact BK3.out⟩,⟨by repeat (first | (with_reducible first | exact HB.out | apply below_alloc | apply pw_below_drewN | apply below_drew1 | refine below_set ?_ GE2.out | refine below_set ?_ GE3.out) | exact HB.out)⟩⟩
          case round =>
           clear H';(try clear c1);(try clear p1);(try clear q1);(try clear hx1);(try clear c2);(try clear p2);(try clear c3);(try clear c6);(try clear c6b0);(try clear c6b1);(try clear p6);(try clear c7);(try clear c7b0);(try clear c7b1);(try clear c10);(try clear c10b0);(try clear c12);(try clear c12b0);(try clear c12b1);(try clear c13);(try clear c13b0);(try clear c13b1);(try clear c14);(try clear c14b0);(try clear c15);(try clear c15b0);(try clear c16);(try clear p16);(try clear q16);(try clear hx16);(try clear hf16);(try clear c19);(try clear hx19);(try clear hf19);(try clear hx16_0);(try clear hx19_0);(try clear p16);(try clear p2);(try clear p6);(try clear q16);obtain ⟨x7_2,x9_2,rfl,HA,HK2,HO_7,BK2,BK3,HB⟩ := hrel;have hl7_2 := (Kd.S_reads' HO_7.out).1;rw [hl7_2] at HO_7;(try simp only [hl7_2]);(try simp only [hl7_2] at BK2);(try simp only [hl7_2] at BK3)
           cases gk with
           | zero => exact absurd HA.out (by simp [impl_table__impl_faults_1.l1])
           | succ k2 =>
            have H := HA.out;clear HA;simp only [impl_table__impl_faults_1.l1] at H
            by_cases c21 : x9_2 ≥ 0
            ·rw [if_pos c21] at H;have c21b0 : decide (0 ≤ x9_2) = true := decide_eq_true c21;clear c21
             by_cases c22 : 0 ≤ x8_1
             ·rw [if_pos c22] at H;have c22b0 : decide (0 ≤ x8_1) = true := decide_eq_true c22;clear c22
              by_cases c23 : x8_1 < (x7_2.length : Int)
              ·rw [if_pos c23] at H;have c23b0 : decide (x8_1 < (x7_2.length : Int)) = true := decide_eq_true c23;clear c23;replace H := Option.bind_eq_some_iff.mp H;obtain ⟨t109,A240,H⟩ := H;replace H : (if 0 ≤ x9_2 then (if x9_2 < ((rd_L6 x7_2 x8_1).length : Int) then (impl_table__impl_faults_1.l1 k2 l1 (x7_2.set (x8_1 : Int).toNat ((rd_L6 x7_2 x8_1).set (x9_2 : Int).toNat t109)) x8_1 (wrap64 (x9_2 - 1)) l2 l3) else (none)) else (none)) = some r := H;have A24 := Aside0.mk A240;clear A240
               by_cases c25 : 0 ≤ x9_2
               ·rw [if_pos c25] at H;have c25b0 : decide (0 ≤ x9_2) = true := decide_eq_true c25;clear c25
                by_cases c26 : x9_2 < ((rd_L6 x7_2 x8_1).length : Int)
                ·rw [if_pos c26] at H;have c26b0 : decide (x9_2 < ((rd_L6 x7_2 x8_1).length : Int)) = true := decide_eq_true c26;clear c26;obtain ⟨y110,hy110⟩ : ∃ y_ : List Int,y_ = ((rd_L6 x7_2 x8_1).set (x9_2 : Int).toNat t109) := ⟨_,rfl⟩
                 replace H : (impl_table__impl_faults_1.l1 k2 l1 (x7_2.set (x8_1 : Int).toNat y110) x8_1 (wrap64 (x9_2 - 1)) l2 l3) = some r := by first | (rw [hy110];with_reducible exact H) | (have H2_ := (Option.bind_some _ _).symm.trans H;rw [hy110];with_reducible exact H2_) | (have H2_ := (Option.bind_some _ _).symm.trans H;with_reducible exact H2_) | with_reducible exact H | (rw [hy110];exact H) | exact H
                 have Ny110 := Aside0.mk hy110;clear hy110;obtain ⟨y112,hy112⟩ : ∃ y_ : List (List Int),y_ = (x7_2.set (x8_1 : Int).toNat y110) := ⟨_,rfl⟩
                 replace H : (impl_table__impl_faults_1.l1 k2 l1 y112 x8_1 (wrap64 (x9_2 - 1)) l2 l3) = some r := by first | (rw [hy112];with_reducible exact H) | (have H2_ := (Option.bind_some _ _).symm.trans H;rw [hy112];with_reducible exact H2_) | (have H2_ := (Option.bind_some _ _).symm.trans H;with_reducible exact H2_) | with_reducible exact H | (rw [hy112];exact H) | exact H
                 have Ny112 := Aside0.mk hy112;clear hy112;have H' := Aside0.mk H;clear H;(try go_wp2);have n0_ := Aside0.mk (Kd.S_drew HO_7.out);have n1_ := Aside0.mk (blk_drew BK2.out);have n2_ := Aside0.mk (blk_drew BK3.out);have n3_ := Aside0.mk (below_drew1 HB.out);clear HO_7;clear BK2;clear BK3;clear HB;have HO_7 := n0_;have BK2 := n1_;have BK3 := n2_;have HB := n3_;clear n0_ n1_ n2_ n3_;have p108 : 0 ≤ (x8_1 : Int) := of_decide_eq_true (by first | (with_reducible assumption) | assumption);have q108 : x8_1 < (x7_2.length : Int) := of_decide_eq_true (by first | (with_reducible assumption) | assumption);obtain ⟨ad108,A108_0,c108_0,e108,hx108_0,hl108_0,hi108_0⟩ := at_L6 (Kd.S_reads' HO_7.out).2.2 x8_1 p108 q108;obtain rfl : (⟨go16,0,none⟩ : Addr) = ad108 := (by injection e108);obtain ⟨ce108,hce108,hMe108,hcc108⟩ := Kd.S_get HO_7.out [] x8_1 p108 (by first | exact q108 | exact of_decide_eq_true (by first | (with_reducible assumption) | assumption) | (have e_ := (Kd.S_reads' HO_7.out).1;omega));obtain ⟨ve108_0,rfl,ge108_0⟩ := hMe108;have hv108_0 := hcc108 0 _ rfl;rw [Nat.add_zero,show ((Kd.slice 2 (Kd.int .i64))).sz = 1 from rfl,Nat.mul_one] at hv108_0;replace hv108_0 := Option.some.inj (hv108_0.symm.trans hx108_0);rw [hv108_0] at ge108_0;have HL108_0 := Aside0.mk (show Kd.R (Kd.int .i64) 2 _ _ _ _ (rd_L6 x7_2 x8_1) from ge108_0);clear hv108_0 ge108_0;have HX108_0 := Aside0.mk hx108_0;clear hcc108 hce108;(first | simp only [add_plain] at hx108_0 | simp only [add_at] at hx108_0 | simp only [Addr.add,Nat.zero_add] at hx108_0 | skip);have HR108_0 := Aside0.mk hi108_0;have HC108_0 := Aside0.mk hl108_0;clear hi108_0 hl108_0;replace p108 := eq_true p108;replace q108 := eq_true q108;refine start_ (n := 12) (S := fun w' => w'.cell? ⟨go16,(x8_1).toNat,none⟩ = some (.slice A108_0 (rd_L6 x7_2 x8_1).length c108_0)) (ds := [11]) #[false,false,false,false,false,false,false,false,false,false,false,false] (by kernel_rfl) rfl rfl (hx108_0) (fun hHeld => ?_);refine with_tabW impl_table__impl_faults_1.tab9 impl_table__impl_faults_1.bits9 (fun HT_ HW_ => ?_);generalize wr.drew = w28 at HO_7 BK2 BK3 HB HL108_0 HR108_0 HX108_0 hx108_0 hHeld ⊢;refine pure_ (i := 0) (N := some 33) (v := ?_) (a' := ?_) #[true,false,false,false,false,false,false,false,false,false,false,false] rfl rfl (any_of HT_.out (by kernel_rfl)) (fun _ _ _ h => h) (Or.inl ⟨by rfl,?_⟩) ?_ ?_;rotate_left
                 ·intro w';go_simp;with_reducible rfl
                 rotate_left
                 ·simp only [Act.put,List.setIfInBounds_toArray,List.set_cons_zero,List.set_cons_succ,i64_w,i32_w];rfl
                 refine pure_ (i := 1) (N := some 34) (v := ?_) (a' := ?_) #[true,true,false,false,false,false,false,false,false,false,false,false] rfl rfl (any_of HT_.out (by kernel_rfl)) (fun _ _ _ h => h) (Or.inl ⟨by rfl,?_⟩) ?_ ?_;rotate_left
                 ·intro w';go_simp;with_reducible rfl
                 rotate_left
                 ·simp only [Act.put,List.setIfInBounds_toArray,List.set_cons_zero,List.set_cons_succ,i64_w,i32_w];rfl
                 refine pure_ (i := 2) (N := some 35) (v := ?_) (a' := ?_) #[true,true,true,false,false,false,false,false,false,false,false,false] rfl rfl (any_of HT_.out (by kernel_rfl)) (fun _ _ _ h => h) (Or.inl ⟨by rfl,?_⟩) ?_ ?_;rotate_left
                 ·intro w';go_simp;with_reducible rfl
                 rotate_left
                 ·simp only [Act.put,List.setIfInBounds_toArray,List.set_cons_zero,List.set_cons_succ,i64_w,i32_w];rfl
                 refine pure_ (i := 4) (N := some 37) (v := ?_) (a' := ?_) #[true,true,true,false,true,false,false,false,false,false,false,false] rfl rfl (any_of HT_.out (by kernel_rfl)) (fun _ _ _ h => h) (Or.inl ⟨by rfl,?_⟩) ?_ ?_;rotate_left
                 ·intro w';go_simp;with_reducible rfl
                 rotate_left
                 ·simp only [Act.put,List.setIfInBounds_toArray,List.set_cons_zero,List.set_cons_succ,i64_w,i32_w];rfl
                 refine pure_ (i := 5) (N := some 38) (v := ?_) (a' := ?_) #[true,true,true,false,true,true,false,false,false,false,false,false] rfl rfl (any_of HT_.out (by kernel_rfl)) (fun _ _ _ h => h) (Or.inl ⟨by rfl,?_⟩) ?_ ?_;rotate_left
                 ·intro w';go_simp;with_reducible rfl
                 rotate_left
                 ·simp only [Act.put,List.setIfInBounds_toArray,List.set_cons_zero,List.set_cons_succ,i64_w,i32_w];rfl
                 refine pure_ (i := 6) (N := some 39) (v := ?_) (a' := ?_) #[true,true,true,false,true,true,true,false,false,false,false,false] rfl rfl (any_of HT_.out (by kernel_rfl)) (fun _ _ _ h => h) (Or.inl ⟨by rfl,?_⟩) ?_ ?_;rotate_left
                 ·intro w';go_simp;with_reducible rfl
                 rotate_left
                 ·simp only [Act.put,List.setIfInBounds_toArray,List.set_cons_zero,List.set_cons_succ,i64_w,i32_w];rfl
                 refine pure_ (i := 7) (N := some 40) (v := ?_) (a' := ?_) #[true,true,true,false,true,true,true,true,false,false,false,false] rfl rfl (any_of HT_.out (by kernel_rfl)) (fun _ _ _ h => h) (Or.inl ⟨by rfl,?_⟩) ?_ ?_;rotate_left
                 ·intro w';go_simp;with_reducible rfl
                 rotate_left
                 ·simp only [Act.put,List.setIfInBounds_toArray,List.set_cons_zero,List.set_cons_succ,i64_w,i32_w];rfl
                 refine pure_ (i := 8) (N := some 41) (v := ?_) (a' := ?_) #[true,true,true,false,true,true,true,true,true,false,false,false] rfl rfl (any_of HT_.out (by kernel_rfl)) (fun _ _ _ h => h) (Or.inl ⟨by rfl,?_⟩) ?_ ?_;rotate_left
                 ·intro w';go_simp;with_reducible rfl
                 rotate_left
                 ·simp only [Act.put,List.setIfInBounds_toArray,List.set_cons_zero,List.set_cons_succ,i64_w,i32_w];rfl
                 refine take_ (i := 3) (N := some 36) (v := ?_) (a' := ?_) #[true,true,true,true,true,true,true,true,true,false,false,false] rfl rfl (take_ofW HT_.out HW_.out (by kernel_rfl)) (fun _ _ _ h => h) (Or.inl ⟨by rfl,?_⟩) hHeld ?_ ?_;rotate_left
                 ·intro w' s0;go_simp;with_reducible rfl
                 rotate_left
                 ·simp only [Act.put,List.setIfInBounds_toArray,List.set_cons_zero,List.set_cons_succ,i64_w,i32_w];rfl
                 refine one_ (i := 9) (N := some 42) #[true,true,true,true,true,true,true,true,true,true,false,false] rfl rfl (one_of HT_.out (by kernel_rfl)) (by decide) (fun K hK => ?_);refine goesD_ Try.func120 (by kernel_rfl) rfl #[.pointer (some ⟨b2,0,none⟩),.pointer (some ⟨b3,0,none⟩)] #[.slice (some ⟨go16,0,none⟩) x7_2.length co16,.int .i64 x8_1,.int .i64 x9_2,.pointer (some ⟨b2,0,none⟩),.pointer (some ⟨b3,0,none⟩)] (by rfl) rfl rfl rfl (by (try simp only [List.map_toArray,List.map_cons,List.map_nil]);first | done | rfl | (simp only [List.length_drop,List.length_take];rfl)) ?_
                 with_reducible refine (impl_faults_1.calls _ _ x7_2 x8_1 x9_2 A2 c2 l2 b2 A3 c3 l3 b3 t109 _ ?side1 ?side2 ?side3 ?side4 ?side5 ?side6 ?side7 ?side8 ?side9 A24.out).mono ?_
                 (case side1 => repeat (first | exact (Kd.S_reads' HO_7.out).2.2 | (with_reducible refine Kd.C_alloc ?_ _) | (with_reducible refine Kd.C_drewN ?_ _) | (with_reducible refine Kd.C_drew ?_)));(case side2 => exact (Kd.S_reads' HO_7.out).2.1);(case side3 => repeat (first | exact (Kd.C_below HR2.out HB.out) | (with_reducible refine Kd.C_alloc ?_ _) | (with_reducible refine Kd.C_drewN ?_ _) | (with_reducible refine Kd.C_drew ?_)));(case side4 => exact HC2.out);(case side5 => repeat (first | exact (Kd.C_below HR3.out HB.out) | (with_reducible refine Kd.C_alloc ?_ _) | (with_reducible refine Kd.C_drewN ?_ _) | (with_reducible refine Kd.C_drew ?_)));(case side6 => exact HC3.out);(case side7 => (with_reducible repeat (first | refine blk_drewN ?_ _ | refine blk_drew ?_ | refine blk_alloc ?_ _));exact BK2.out);(case side8 => (with_reducible repeat (first | refine blk_drewN ?_ _ | refine blk_drew ?_ | refine blk_alloc ?_ _));exact BK3.out);(case side9 => exact NB2_3.out)
                 rintro e w29 ⟨rfl,hb⟩
                 have HS0_ := (hb.cell (World.block_lt_of_cell? _ _ (hHeld))).trans (hHeld);refine ⟨_,rfl,?_⟩;have n0_ := Aside0.mk (Kd.S_below (by (with_reducible repeat (first | apply Kd.S_alloc | apply Kd.S_drewN | apply Kd.S_drew));exact HO_7.out) hb);have n1_ := Aside0.mk (Kd.R_below (by (with_reducible repeat (first | apply Kd.R_alloc | apply Kd.R_drewN | apply Kd.R_drew));exact HL108_0.out) hb);have n2_ := Aside0.mk (blk_below (g := b2) (o := .cells #[.slice A2 l2.length c2] 26 (0,0)) (by (with_reducible repeat (first | refine blk_drewN ?_ _ | refine blk_drew ?_ | refine blk_alloc ?_ _));exact BK2.out) hb);have n3_ := Aside0.mk (blk_below (g := b3) (o := .cells #[.slice A3 l3.length c3] 26 (0,0)) (by (with_reducible repeat (first | refine blk_drewN ?_ _ | refine blk_drew ?_ | refine blk_alloc ?_ _));exact BK3.out) hb);have n4_ := Aside0.mk (Kd.C_below (by repeat (first | (with_reducible exact HR108_0.out) | (with_reducible refine Kd.C_alloc ?_ _) | (with_reducible refine Kd.C_drewN ?_ _) | (with_reducible refine Kd.C_drew ?_) | exact HR108_0.out)) hb);have n5_ := Aside0.mk (pw_cell_below hb HX108_0.out);have n6_ := Aside0.mk (below_step (by repeat (first | (with_reducible first | exact HB.out | apply below_alloc | apply pw_below_drewN | apply below_drew1 | refine below_set ?_ GE2.out | refine below_set ?_ GE3.out) | exact HB.out)) hb);clear HO_7;clear HL108_0;clear BK2;clear BK3;clear HR108_0;clear HX108_0;clear HB;have HO_7 := n0_;have HL108_0 := n1_;have BK2 := n2_;have BK3 := n3_;have HR108_0 := n4_;have HX108_0 := n5_;have HB := n6_;clear n0_ n1_ n2_ n3_ n4_ n5_ n6_;(try clear hb);(try clear hb2);(try clear hk);(try clear hi);have p27 : 0 ≤ (x9_2 : Int) := of_decide_eq_true (by first | (with_reducible assumption) | assumption);have q27 : (x9_2 : Int) < (((rd_L6 x7_2 x8_1).length : Int) : Int) := of_decide_eq_true (by first | (with_reducible assumption) | assumption);obtain ⟨go27,co27,eo27,gb27,gl27,cl27,HG27⟩ := Kd.R_form HL108_0.out (by omega);(first | cases eo27 | (injection eo27 with ea_ en_ ec_;(first | subst ea_ | (injection ea_ with ea_;subst ea_));subst ec_;clear en_));have GB27 := Aside0.mk gb27;have GG27 := Aside0.mk HG27;clear gb27 gl27 HG27;obtain ⟨hx27_0,hf27_0⟩ := Kd.R_celln 0 HL108_0.out (x9_2 : Int) p27 q27;replace p27 := eq_true p27;replace q27 := eq_true q27;have hq30 : (x8_1 : Int) < (x7_2.length : Int) := (by have h_ : (x8_1 : Int) < ((x7_2.length : Int) : Int) := of_decide_eq_true (by first | (with_reducible assumption) | assumption);first | exact h_ | (have e_ := (Kd.S_reads' HO_7.out).1;omega) | simpa only [List.length_set,List.length_set] using h_);obtain ⟨oki30,ce30,hcl30,hM30,hcc30,hok30,hbk30⟩ := Kd.S_borrow HO_7.out [] (x8_1 : Int) (of_decide_eq_true (by first | (with_reducible assumption) | assumption)) hq30;obtain ⟨ve30_0,rfl,ge30_0⟩ := hM30;have hv30 := hcc30 0 _ rfl;rw [Nat.add_zero,show ((Kd.slice 2 (Kd.int .i64))).sz = 1 from rfl,Nat.mul_one] at hv30;replace hv30 := Option.some.inj (hv30.symm.trans HX108_0.out);subst hv30;clear hcc30 hcl30;replace ge30_0 := (show Kd.R (Kd.int .i64) 2 _ _ _ _ (rd_L6 x7_2 x8_1) from ge30_0);have HP30 := Kd.R_putg ge30_0 (x9_2 : Int) t109;rw [← Ny110.out] at HP30;have HS30 := hbk30 HP30.2 (fun k_ e_ => by injection e_ with e_;subst e_;exact ge30_0.1 _ rfl) (x' := y110) (Kd.M_row HP30.1);rw [← Ny112.out] at HS30;have HQ30 := Aside0.mk HS30;clear HP30 HS30 hbk30 hok30;refine hK.out _ _ (HS0_) (fun hHeld => ?_);clear hK K;refine norm_ (a' := ?_) ?_ ?_;rotate_left
                 ·show Act.put _ (some 42) _ = _
                  simp only [Act.put,List.setIfInBounds_toArray,List.set_cons_zero,List.set_cons_succ,i64_w,i32_w];rfl
                 refine pure_ (i := 10) (N := some 43) (v := ?_) (a' := ?_) #[true,true,true,true,true,true,true,true,true,true,true,false] rfl rfl (any_of HT_.out (by kernel_rfl)) (fun _ _ _ h => h) (Or.inl ⟨by rfl,?_⟩) ?_ ?_;rotate_left
                 ·intro w';go_simp;with_reducible rfl
                 rotate_left
                 ·simp only [Act.put,List.setIfInBounds_toArray,List.set_cons_zero,List.set_cons_succ,i64_w,i32_w];rfl
                 refine last_ (i := 11) (N := none) #[true,true,true,true,true,true,true,true,true,true,true,true] rfl rfl (one_of HT_.out (by kernel_rfl)) (by decide) (fun K hK => ?_);refine skip_ (w1 := ?_) (by rfl) rfl ?_ ?_;rotate_left
                 ·go_simp;rfl
                 refine hK.out _ _ ?_;clear hK K;refine done_ (done_of HT_.out (by kernel_rfl)) ?_;(try go_wp2);(try simp only [← hl7_2])
                 go_roundg k2
                 case measure => have := HK1.out;have := HK2.out;omega
                 case rel => exact ⟨(y112),(wrap64 (x9_2 - 1)),(by first | rfl | (simp only [IntKind.wrap_i64,wrap64];done) | (simp;done) | (simp [*];done)),H',⟨by have := HK1.out;have := HK2.out;omega⟩,⟨by (try simp only [hl7_2]);(with_reducible repeat (first | apply Kd.S_alloc | apply Kd.S_drewN | apply Kd.S_drew));exact HQ30.out⟩,⟨by (try simp only [hl7_2]);(with_reducible repeat (first | refine blk_drewN ?_ _ | refine blk_drew ?_ | refine blk_alloc ?_ _));refine blk_far ?_ (by have h_ := Kd.R_ne HL108_0.out BK2.out (by decide);intro e_;exact h_ (by rw [e_];rfl)) _;(with_reducible repeat (first | refine blk_drewN ?_ _ | refine blk_drew ?_ | refine blk_alloc ?_ _));exact BK2.out⟩,⟨by (try simp only [hl7_2]);(with_reducible repeat (first | refine blk_drewN ?_ _ | refine blk_drew ?_ | refine blk_alloc ?_ _));refine blk_far ?_ (by have h_ := Kd.R_ne HL108_0.out BK3.out (by decide);intro e_;exact h_ (by rw [e_];rfl)) _;(with_reducible repeat (first | refine blk_drewN ?_ _ | refine blk_drew ?_ | refine blk_alloc ?_ _));exact BK3.out⟩,⟨by repeat (first | (with_reducible first | exact HB.out | apply below_alloc | apply pw_below_drewN | apply below_drew1 | refine below_set ?_ GB27.out | refine below_set ?_ GE2.out | refine below_set ?_ GE3.out) | exact HB.out)⟩⟩
                ·rw [if_neg c26] at H;exact absurd H (by simp)
               ·rw [if_neg c25] at H;exact absurd H (by simp)
              ·rw [if_neg c23] at H;exact absurd H (by simp)
             ·rw [if_neg c22] at H;exact absurd H (by simp)
            ·rw [if_neg c21] at H;have c21b0 : decide (0 ≤ x9_2) = false := decide_eq_false c21;clear c21;have H' := Aside0.mk H;clear H
             go_wp2
             (try simp only [← hl7_2])
             go_roundg k2
             case measure => have := HK1.out;have := HK2.out;omega
             case rel => exact ⟨(x7_2),(wrap64 (x8_1 - 1)),(by first | rfl | (simp only [IntKind.wrap_i64,wrap64];done) | (simp;done) | (simp [*];done)),H',⟨by have := HK1.out;have := HK2.out;omega⟩,⟨by (try simp only [hl7_2]);(with_reducible repeat (first | apply Kd.S_alloc | apply Kd.S_drewN | apply Kd.S_drew));exact HO_7.out⟩,⟨by (try simp only [hl7_2]);(with_reducible repeat (first | refine blk_drewN ?_ _ | refine blk_drew ?_ | refine blk_alloc ?_ _));exact BK2.out⟩,⟨by (try simp only [hl7_2]);(with_reducible repeat (first | refine blk_drewN ?_ _ | refine blk_drew ?_ | refine blk_alloc ?_ _));exact BK3.out⟩,⟨by repeat (first | (with_reducible first | exact HB.out | apply below_alloc | apply pw_below_drewN | apply below_drew1 | refine below_set ?_ GE2.out | refine below_set ?_ GE3.out) | exact HB.out)⟩⟩
         ·rw [if_neg c15] at H;exact absurd H (by simp)
        ·rw [if_neg c14] at H;exact absurd H (by simp)
       ·rw [if_neg c13] at H;exact absurd H (by simp)
      ·rw [if_neg c12] at H;exact absurd H (by simp)
     ·rw [if_neg c10] at H;have c10b0 : decide (0 ≤ x8_1) = false := decide_eq_false c10;clear c10;obtain rfl := Option.some.inj H
      go_wp2
      go_ret
      exact ⟨_,by first | rfl | (simp [errW_none,errW_some,IntKind.wrap_i64,wrap64];done) | (simp [errW_none,errW_some] <;> rfl) | (simp only [← hji5];first | rfl | (simp [errW_none,errW_some] <;> rfl)) | (simp [*,errW_none,errW_some] <;> rfl),by (with_reducible repeat (first | apply Kd.S_alloc | apply Kd.S_drewN | apply Kd.S_drew));exact HO_7.out,by repeat (first | (with_reducible first | exact HB.out | apply below_alloc | apply pw_below_drewN | apply below_drew1 | refine below_set ?_ GE2.out | refine below_set ?_ GE3.out) | exact HB.out)⟩
  ·rw [if_neg c7] at H;exact absurd H (by simp)
 ·rw [if_neg c6] at H;exact absurd H (by simp)
end Go.Proofs.Ytidkniacmcbgiaa.G
end

section
namespace Go.Proofs.Ytidkniacmcbgiaa.G
open Go.RowKit Go.Proofs.YtidkniacmcbgiaaW.PrintWords Go.Proofs.YtidkniacmcbgiaaW.PrintLast Go.Proofs.YtidkniacmcbgiaaW.PrintMore
attribute [local go_sem] max2_int min2_int max_two min_two max_three min_three max_four min_four
set_option linter.unusedVariables false
set_option linter.unusedSimpArgs false
def impl_faults.f (k : Nat) (l0 : List (S73)) (l1 : List (S73)) : Option ((List (List Int))) := (impl_table__impl_faults_1.f k l0 l1 l0 l1).bind fun t103 => (some t103)
set_option maxHeartbeats 8000000 in
set_option maxRecDepth 100000 in
theorem impl_faults.calls (k : Nat) (A0 : Option Addr) (c0 : Nat) (l0 : List (S73)) (A1 : Option Addr) (c1 : Nat) (l1 : List (S73)) (r : List (List Int)) (w : World) (hr0 : Kd.C k73 w A0 l0.length l0) (hc0 : l0.length ≤ c0) (hr1 : Kd.C k73 w A1 l1.length l1) (hc1 : l1.length ≤ c1) (h : impl_faults.f k l0 l1 = some r) :
  Calls Try.prog 87 #[.slice A0 l0.length c0,.slice A1 l1.length c1] w fun e w' => ∃ v0_ : Value,e = .returned (v0_) ∧ Kd.S (Kd.slice 2 (Kd.int .i64)) 37 w' w.heap.size (fun _ => True) v0_ r ∧ Below w.heap.size w w' := by
 have HR0 := Aside0.mk hr0;have HC0 := Aside0.mk hc0;clear hr0 hc0;have HR1 := Aside0.mk hr1;have HC1 := Aside0.mk hc1;clear hr1 hc1;have HB := Aside0.mk (Below.refl w.heap.size w);have H : ((impl_table__impl_faults_1.f k l0 l1 l0 l1).bind fun t103 => (some t103)) = some r := h;clear h;replace H := Option.bind_eq_some_iff.mp H;obtain ⟨t103,A30,H⟩ := H;replace H : (some t103) = some r := H;have A3 := Aside0.mk A30;clear A30;obtain rfl := Option.some.inj H
 go_enter Try.func87,Try.ntmps87
 go_wp2_with (first | ((with_reducible refine gate_dst (N := 2) rfl ?_);refine box_event ?hg (N := 2) ?hd (cs := #[.slice A0 l0.length c0]) (t := 26) ?hr ?_;(case hd => rfl);(case hg => rfl);(case hr => first | (go_simp;done) | (go_simp;rfl));intro gb101 hg w4 hbox hb;have n0_ := Aside0.mk (below_step (by repeat (first | (with_reducible first | exact HB.out | apply below_alloc | apply pw_below_drewN | apply below_drew1) | exact HB.out)) hb);have n1_ := Aside0.mk (hbox);have n2_ := Aside0.mk ((by rw [hg];exact (below_size (by repeat (first | (with_reducible first | exact HB.out | apply below_alloc | apply pw_below_drewN | apply below_drew1) | exact HB.out))) : w.heap.size ≤ gb101));have n3_ := Aside0.mk ((by rw [hg];exact (below_size (by repeat (first | (with_reducible first | exact HB.out | apply below_alloc | apply pw_below_drewN | apply below_drew1) | exact HB.out))) : w.heap.size ≤ gb101));clear HB;have HB := n0_;have BK101 := n1_;have GW101 := n2_;have GE101 := n3_;clear n0_ n1_ n2_ n3_;clear hb hbox hg) | ((with_reducible refine gate_dst (N := 3) rfl ?_);refine box_event ?hg (N := 3) ?hd (cs := #[.slice A1 l1.length c1]) (t := 26) ?hr ?_;(case hd => rfl);(case hg => rfl);(case hr => first | (go_simp;done) | (go_simp;rfl));intro gb102 hg w5 hbox hb;have n0_ := Aside0.mk (blk_below (g := gb101) (o := .cells #[.slice A0 l0.length c0] 26 (0,0)) (by (with_reducible repeat (first | refine blk_drewN ?_ _ | refine blk_drew ?_ | refine blk_alloc ?_ _));exact BK101.out) hb);have n1_ := Aside0.mk (below_step (by repeat (first | (with_reducible first | exact HB.out | apply below_alloc | apply pw_below_drewN | apply below_drew1 | refine below_set ?_ GE101.out) | exact HB.out)) hb);have n2_ := Aside0.mk (hbox);have n3_ := Aside0.mk ((by rw [hg];exact (below_size (by repeat (first | (with_reducible first | exact HB.out | apply below_alloc | apply pw_below_drewN | apply below_drew1 | refine below_set ?_ GE101.out) | exact HB.out))) : w.heap.size ≤ gb102));have n4_ := Aside0.mk ((by rw [hg];exact (below_size (by repeat (first | (with_reducible first | exact HB.out | apply below_alloc | apply pw_below_drewN | apply below_drew1 | refine below_set ?_ GE101.out) | exact HB.out))) : w.heap.size ≤ gb102));have n5_ := Aside0.mk ((by rw [hg];exact Nat.ne_of_lt (blk_lt (g := gb101) (o := .cells #[.slice A0 l0.length c0] 26 (0,0)) (by (with_reducible repeat (first | refine blk_drewN ?_ _ | refine blk_drew ?_ | refine blk_alloc ?_ _));exact BK101.out)) : gb101 ≠ gb102));have n6_ := Aside0.mk ((by rw [hg];exact Nat.ne_of_gt (blk_lt (g := gb101) (o := .cells #[.slice A0 l0.length c0] 26 (0,0)) (by (with_reducible repeat (first | refine blk_drewN ?_ _ | refine blk_drew ?_ | refine blk_alloc ?_ _));exact BK101.out)) : gb102 ≠ gb101));clear BK101;clear HB;have BK101 := n0_;have HB := n1_;have BK102 := n2_;have GW102 := n3_;have GE102 := n4_;have NB101_102 := n5_;have NB102_101 := n6_;clear n0_ n1_ n2_ n3_ n4_ n5_ n6_;clear hb hbox hg;have hnb6 := NB101_102.out;have hnc6 := NB102_101.out;have hcz7_0 : w5.cell? ⟨gb101,0,none⟩ = some (.slice A0 l0.length c0) := (blk_cell BK101.out 0).trans rfl;have hfz7_0 := blk_frozen BK101.out 0;have hcz8_0 : w5.cell? ⟨gb102,0,none⟩ = some (.slice A1 l1.length c1) := (blk_cell BK102.out 0).trans rfl;have hfz8_0 := blk_frozen BK102.out 0) | ((with_reducible refine gate_callee (f := 108) rfl ?_);refine goesL_ (some 8) rfl rfl Try.func108 (by kernel_rfl) rfl #[.slice A0 l0.length c0,.slice A1 l1.length c1,.func (.func 120) #[] #[.pointer (some ⟨gb101,0,none⟩),.pointer (some ⟨gb102,0,none⟩)]] rfl (by (try simp only [List.map_toArray,List.map_cons,List.map_nil]);first | done | rfl | (simp only [List.length_drop,List.length_take];rfl)) ?_;(with_reducible refine (impl_table__impl_faults_1.calls k _ _ l0 _ _ l1 A0 c0 l0 gb101 A1 c1 l1 gb102 t103 _ ?side1 ?side2 ?side3 ?side4 ?side5 ?side6 ?side7 ?side8 ?side9 ?side10 ?side11 A3.out).mono ?_);(case side1 => repeat (first | exact (Kd.C_below HR0.out HB.out) | (with_reducible refine Kd.C_alloc ?_ _) | (with_reducible refine Kd.C_drewN ?_ _) | (with_reducible refine Kd.C_drew ?_)));(case side2 => exact HC0.out);(case side3 => repeat (first | exact (Kd.C_below HR1.out HB.out) | (with_reducible refine Kd.C_alloc ?_ _) | (with_reducible refine Kd.C_drewN ?_ _) | (with_reducible refine Kd.C_drew ?_)));(case side4 => exact HC1.out);(case side5 => repeat (first | exact (Kd.C_below HR0.out HB.out) | (with_reducible refine Kd.C_alloc ?_ _) | (with_reducible refine Kd.C_drewN ?_ _) | (with_reducible refine Kd.C_drew ?_)));(case side6 => exact HC0.out);(case side7 => repeat (first | exact (Kd.C_below HR1.out HB.out) | (with_reducible refine Kd.C_alloc ?_ _) | (with_reducible refine Kd.C_drewN ?_ _) | (with_reducible refine Kd.C_drew ?_)));(case side8 => exact HC1.out);(case side9 => (with_reducible repeat (first | refine blk_drewN ?_ _ | refine blk_drew ?_ | refine blk_alloc ?_ _));exact BK101.out);(case side10 => (with_reducible repeat (first | refine blk_drewN ?_ _ | refine blk_drew ?_ | refine blk_alloc ?_ _));exact BK102.out);(case side11 => exact NB101_102.out);rintro e w9 ⟨v104,rfl,ho0,hb⟩;refine ⟨_,rfl,?_⟩;have n0_ := Aside0.mk (Kd.S_lower ho0 (below_size (by repeat (first | (with_reducible first | exact HB.out | apply below_alloc | apply pw_below_drewN | apply below_drew1 | refine below_set ?_ GE101.out | refine below_set ?_ GE102.out) | exact HB.out))));have n1_ := Aside0.mk (blk_below (g := gb101) (o := .cells #[.slice A0 l0.length c0] 26 (0,0)) (by (with_reducible repeat (first | refine blk_drewN ?_ _ | refine blk_drew ?_ | refine blk_alloc ?_ _));exact BK101.out) hb);have n2_ := Aside0.mk (blk_below (g := gb102) (o := .cells #[.slice A1 l1.length c1] 26 (0,0)) (by (with_reducible repeat (first | refine blk_drewN ?_ _ | refine blk_drew ?_ | refine blk_alloc ?_ _));exact BK102.out) hb);have n3_ := Aside0.mk (below_step (by repeat (first | (with_reducible first | exact HB.out | apply below_alloc | apply pw_below_drewN | apply below_drew1 | refine below_set ?_ GE101.out | refine below_set ?_ GE102.out) | exact HB.out)) hb);clear BK101;clear BK102;clear HB;have HO105 := n0_;have BK101 := n1_;have BK102 := n2_;have HB := n3_;clear n0_ n1_ n2_ n3_;(try clear hb);(try clear hb2);(try clear hk);(try clear hi);(try clear ho0)))
 go_ret
 exact ⟨_,by first | rfl | (simp [errW_none,errW_some,IntKind.wrap_i64,wrap64];done) | (simp [errW_none,errW_some] <;> rfl) | (simp [*,errW_none,errW_some] <;> rfl),by (with_reducible repeat (first | apply Kd.S_alloc | apply Kd.S_drewN | apply Kd.S_drew));exact HO105.out,by repeat (first | (with_reducible first | exact HB.out | apply below_alloc | apply pw_below_drewN | apply below_drew1 | refine below_set ?_ GE101.out | refine below_set ?_ GE102.out) | exact HB.out)⟩
end Go.Proofs.Ytidkniacmcbgiaa.G
end

section
namespace Go.Proofs.Ytidkniacmcbgiaa.G
open Go.RowKit Go.Proofs.YtidkniacmcbgiaaW.PrintWords Go.Proofs.YtidkniacmcbgiaaW.PrintLast Go.Proofs.YtidkniacmcbgiaaW.PrintMore
attribute [local go_sem] max2_int min2_int max_two min_two max_three min_three max_four min_four
set_option linter.unusedVariables false
set_option linter.unusedSimpArgs false
mutual
def impl_BestLog.l0 : Nat → List (List (S73)) → Int → Int → List (List (S73)) → Int → Int → Option (Int × Int × Int)
 | 0,_,_,_,_,_,_ => none
 | k + 1,x0,x6,x7,x18,x19,x20 => if x20 < x19 then (if 0 ≤ x20 then (if x20 < (x18.length : Int) then (impl_BestLog.l1 k x0 x6 x7 x20 (rd_L5 x18 x20) 0 x18 x19 x20 x0 (x0.length : Int) 0) else (none)) else (none)) else (some (x6,x7,0))
def impl_BestLog.l1 : Nat → List (List (S73)) → Int → Int → Int → List (S73) → Int → List (List (S73)) → Int → Int → List (List (S73)) → Int → Int → Option (Int × Int × Int)
 | 0,_,_,_,_,_,_,_,_,_,_,_,_ => none
 | k + 1,x0,x6,x7,x8,x9,x10,x18,x19,x20,x25,x26,x27 => if x27 < x26 then (if 0 ≤ x27 then (if x27 < (x25.length : Int) then (if x27 = x8 then (impl_BestLog.l1 k x0 x6 x7 x8 x9 x10 x18 x19 x20 x25 x26 (wrap64 (x27 + 1))) else ((impl_faults.f k x9 (rd_L5 x25 x27)).bind fun t104 => (if 0 < (t104.length : Int) then (if 0 < ((rd_L6 t104 0).length : Int) then (impl_BestLog.l1 k x0 x6 x7 x8 x9 (wrap64 (x10 + (rd (rd_L6 t104 0) 0))) x18 x19 x20 x25 x26 (wrap64 (x27 + 1))) else (none)) else (none)))) else (none)) else (none)) else (if x7 < 0 then (impl_BestLog.l0 k x0 x8 x10 x18 x19 (wrap64 (x20 + 1))) else (if x10 < x7 then (impl_BestLog.l0 k x0 x8 x10 x18 x19 (wrap64 (x20 + 1))) else (impl_BestLog.l0 k x0 x6 x7 x18 x19 (wrap64 (x20 + 1)))))
end
def impl_BestLog.f (k : Nat) (l0 : List (List (S73))) : Option (Int × Int × Int) := (impl_allCode.f l0).bind fun t101 => (if t101 = 0 then (impl_BestLog.l0 k l0 0 (-1) l0 (l0.length : Int) 0) else (some (0,0,t101)))
set_option maxHeartbeats 8000000 in
set_option maxRecDepth 100000 in
theorem impl_BestLog.calls (k : Nat) (A0 : Option Addr) (c0 : Nat) (l0 : List (List (S73))) (r1 : Int) (r2 : Int) (r3 : Int) (w : World) (hr0 : Kd.C (Kd.slice 73 k73) w A0 l0.length l0) (hc0 : l0.length ≤ c0) (h : impl_BestLog.f k l0 = some (r1,r2,r3)) :
  Calls Try.prog 61 #[.slice A0 l0.length c0] w fun e w' => e = .returned (.tuple #[.int .i64 r1,.int .i64 r2,.int .i64 r3]) ∧ Below w.heap.size w w' := by
 have HR0 := Aside0.mk hr0;have HC0 := Aside0.mk hc0;clear hr0 hc0;have HB := Aside0.mk (Below.refl w.heap.size w);have H : ((impl_allCode.f l0).bind fun t101 => (if t101 = 0 then (impl_BestLog.l0 k l0 0 (-1) l0 (l0.length : Int) 0) else (some (0,0,t101)))) = some (r1,r2,r3) := h;clear h;replace H := Option.bind_eq_some_iff.mp H;obtain ⟨t101,A20,H⟩ := H;replace H : (if t101 = 0 then (impl_BestLog.l0 k l0 0 (-1) l0 (l0.length : Int) 0) else (some (0,0,t101))) = some (r1,r2,r3) := H;have A2 := Aside0.mk A20;clear A20
 by_cases c3 : t101 = 0
 ·rw [if_pos c3] at H;have c3b0 : (t101 == 0) = true := beq_iff_eq.mpr c3;have c3b1 : (t101 != 0) = false := bne_eq_false_iff_eq.mpr c3;clear c3;have H' := Aside0.mk H;clear H
  go_enter Try.func61,Try.ntmps61
  go_wp2_with (first | ((with_reducible refine gate_callee (f := 103) rfl ?_);refine goesL_ (some 14) rfl rfl Try.func103 (by kernel_rfl) rfl #[.slice A0 l0.length c0] rfl (by (try simp only [List.map_toArray,List.map_cons,List.map_nil]);first | done | rfl | (simp only [List.length_drop,List.length_take];rfl)) ?_;(with_reducible refine (impl_allCode.calls _ _ l0 t101 _ ?side1 ?side2 A2.out).mono ?_);(case side1 => repeat (first | exact HR0.out | (with_reducible refine Kd.C_alloc ?_ _) | (with_reducible refine Kd.C_drewN ?_ _) | (with_reducible refine Kd.C_drew ?_)));(case side2 => exact HC0.out);rintro e w4 ⟨rfl,hb⟩;refine ⟨_,rfl,?_⟩;have n0_ := Aside0.mk (below_step (by repeat (first | (with_reducible first | exact HB.out | apply below_alloc | apply pw_below_drewN | apply below_drew1) | exact HB.out)) hb);clear HB;have HB := n0_;clear n0_;(try clear hb);(try clear hb2);(try clear hk);(try clear hi)))
  go_loopg [6,7,20] k (fun kq v6 v7 v20 w' => ∃ (x6_1 : Int) (x7_1 : Int) (x20_1 : Int),v6 = .int .i64 x6_1 ∧ v7 = .int .i64 x7_1 ∧ v20 = .int .i64 x20_1 ∧ Aside0 (impl_BestLog.l0 kq l0 x6_1 x7_1 l0 (l0.length : Int) x20_1 = some (r1,r2,r3)) ∧ Aside0 (kq ≤ k) ∧ Aside0 (Below w.heap.size w w'))
  case atStart => exact ⟨(0),((-1)),(0),(by first | rfl | (simp only [IntKind.wrap_i64,wrap64];done) | (simp;done) | (simp [*];done)),(by first | rfl | (simp only [IntKind.wrap_i64,wrap64];done) | (simp;done) | (simp [*];done)),(by first | rfl | (simp only [IntKind.wrap_i64,wrap64];done) | (simp;done) | (simp [*];done)),H',⟨Nat.le_refl _⟩,⟨by repeat (first | (with_reducible first | exact HB.out | apply below_alloc | apply pw_below_drewN | apply below_drew1) | exact HB.out)⟩⟩
  case round =>
   clear H';(try clear c1);(try clear p2);(try clear c3);(try clear c3b0);(try clear c3b1);obtain ⟨x6_1,x7_1,x20_1,rfl,rfl,rfl,HA,HK1,HB⟩ := hrel
   cases gk with
   | zero => exact absurd HA.out (by simp [impl_BestLog.l0])
   | succ k1 =>
    have H := HA.out;clear HA;simp only [impl_BestLog.l0] at H
    by_cases c5 : x20_1 < (l0.length : Int)
    ·rw [if_pos c5] at H;have c5b0 : decide (x20_1 < (l0.length : Int)) = true := decide_eq_true c5;clear c5
     by_cases c6 : 0 ≤ x20_1
     ·rw [if_pos c6] at H;have c6b0 : decide (0 ≤ x20_1) = true := decide_eq_true c6;clear c6
      by_cases c7 : x20_1 < (l0.length : Int)
      ·rw [if_pos c7] at H;have c7b0 : decide (x20_1 < (l0.length : Int)) = true := decide_eq_true c7;clear c7;have H' := Aside0.mk H;clear H;have p102 : 0 ≤ (x20_1 : Int) := of_decide_eq_true (by first | (with_reducible assumption) | assumption);have q102 : x20_1 < (l0.length : Int) := of_decide_eq_true (by first | (with_reducible assumption) | assumption);obtain ⟨ad102,A102_0,c102_0,e102,hx102_0,hl102_0,hi102_0⟩ := at_L5 HR0.out x20_1 p102 q102;cases e102;replace hx102_0 := (HB.out.cell (World.block_lt_of_cell? w _ hx102_0)).trans hx102_0;have HR102_0 := Aside0.mk hi102_0;have HC102_0 := Aside0.mk hl102_0;clear hi102_0 hl102_0;replace p102 := eq_true p102;replace q102 := eq_true q102
       go_wp2
       go_loopg [10,27] k1 (fun kq v10 v27 w' => ∃ (x10_2 : Int) (x27_2 : Int),v10 = .int .i64 x10_2 ∧ v27 = .int .i64 x27_2 ∧ Aside0 (impl_BestLog.l1 kq l0 x6_1 x7_1 x20_1 (rd_L5 l0 x20_1) x10_2 l0 (l0.length : Int) x20_1 l0 (l0.length : Int) x27_2 = some (r1,r2,r3)) ∧ Aside0 (kq ≤ k1) ∧ Aside0 (Below w.heap.size w w'))
       case atStart => exact ⟨(0),(0),(by first | rfl | (simp only [IntKind.wrap_i64,wrap64];done) | (simp;done) | (simp [*];done)),(by first | rfl | (simp only [IntKind.wrap_i64,wrap64];done) | (simp;done) | (simp [*];done)),H',⟨Nat.le_refl _⟩,⟨by repeat (first | (with_reducible first | exact HB.out | apply below_alloc | apply pw_below_drewN | apply below_drew1) | exact HB.out)⟩⟩
       case round =>
        clear H';(try clear c1);(try clear p1);(try clear q1);(try clear hx1);(try clear p2);(try clear c3);(try clear c3b0);(try clear c3b1);(try clear c5);(try clear c5b0);(try clear c6);(try clear c6b0);(try clear c7);(try clear c7b0);(try clear hx102_0);(try clear p102);(try clear p2);(try clear q102);obtain ⟨x10_2,x27_2,rfl,rfl,HA,HK2,HB⟩ := hrel
        cases gk with
        | zero => exact absurd HA.out (by simp [impl_BestLog.l1])
        | succ k2 =>
         have H := HA.out;clear HA;simp only [impl_BestLog.l1] at H
         by_cases c8 : x27_2 < (l0.length : Int)
         ·rw [if_pos c8] at H;have c8b0 : decide (x27_2 < (l0.length : Int)) = true := decide_eq_true c8;clear c8
          by_cases c9 : 0 ≤ x27_2
          ·rw [if_pos c9] at H;have c9b0 : decide (0 ≤ x27_2) = true := decide_eq_true c9;clear c9
           by_cases c10 : x27_2 < (l0.length : Int)
           ·rw [if_pos c10] at H;have c10b0 : decide (x27_2 < (l0.length : Int)) = true := decide_eq_true c10;clear c10
            by_cases c11 : x27_2 = x20_1
            ·rw [if_pos c11] at H;have c11b0 : (x27_2 == x20_1) = true := beq_iff_eq.mpr c11;have c11b1 : (x27_2 != x20_1) = false := bne_eq_false_iff_eq.mpr c11;clear c11;have H' := Aside0.mk H;clear H;have p103 : 0 ≤ (x27_2 : Int) := of_decide_eq_true (by first | (with_reducible assumption) | assumption);have q103 : x27_2 < (l0.length : Int) := of_decide_eq_true (by first | (with_reducible assumption) | assumption);obtain ⟨ad103,A103_0,c103_0,e103,hx103_0,hl103_0,hi103_0⟩ := at_L5 HR0.out x27_2 p103 q103;obtain rfl : ad102 = ad103 := (by injection e103);replace hx103_0 := (HB.out.cell (World.block_lt_of_cell? w _ hx103_0)).trans hx103_0;have HR103_0 := Aside0.mk hi103_0;have HC103_0 := Aside0.mk hl103_0;clear hi103_0 hl103_0;replace p103 := eq_true p103;replace q103 := eq_true q103
             go_wp2
             go_roundg k2
             case measure => have := HK1.out;have := HK2.out;omega
             case rel => exact ⟨(x10_2),(wrap64 (x27_2 + 1)),(by first | rfl | (simp only [IntKind.wrap_i64,wrap64];done) | (simp;done) | (simp [*];done)),(by first | rfl | (simp only [IntKind.wrap_i64,wrap64];done) | (simp;done) | (simp [*];done)),H',⟨by have := HK1.out;have := HK2.out;omega⟩,⟨by repeat (first | (with_reducible first | exact HB.out | apply below_alloc | apply pw_below_drewN | apply below_drew1) | exact HB.out)⟩⟩
            ·rw [if_neg c11] at H;have c11b0 : (x27_2 == x20_1) = false := beq_eq_false_iff_ne.mpr c11;have c11b1 : (x27_2 != x20_1) = true := bne_iff_ne.mpr c11;replace H := Option.bind_eq_some_iff.mp H;obtain ⟨t104,A120,H⟩ := H;replace H : (if 0 < (t104.length : Int) then (if 0 < ((rd_L6 t104 0).length : Int) then (impl_BestLog.l1 k2 l0 x6_1 x7_1 x20_1 (rd_L5 l0 x20_1) (wrap64 (x10_2 + (rd (rd_L6 t104 0) 0))) l0 (l0.length : Int) x20_1 l0 (l0.length : Int) (wrap64 (x27_2 + 1))) else (none)) else (none)) = some (r1,r2,r3) := H;have A12 := Aside0.mk A120;clear A120
             by_cases c13 : 0 < (t104.length : Int)
             ·rw [if_pos c13] at H;have c13b0 : decide (0 < (t104.length : Int)) = true := decide_eq_true c13;have c13b1 : decide (0 < t104.length) = true := decide_eq_true (by omega);clear c13
              by_cases c14 : 0 < ((rd_L6 t104 0).length : Int)
              ·rw [if_pos c14] at H;have c14b0 : decide (0 < ((rd_L6 t104 0).length : Int)) = true := decide_eq_true c14;have c14b1 : decide (0 < (rd_L6 t104 0).length) = true := decide_eq_true (by omega);clear c14;have H' := Aside0.mk H;clear H;have p103 : 0 ≤ (x27_2 : Int) := of_decide_eq_true (by first | (with_reducible assumption) | assumption);have q103 : x27_2 < (l0.length : Int) := of_decide_eq_true (by first | (with_reducible assumption) | assumption);obtain ⟨ad103,A103_0,c103_0,e103,hx103_0,hl103_0,hi103_0⟩ := at_L5 HR0.out x27_2 p103 q103;obtain rfl : ad102 = ad103 := (by injection e103);replace hx103_0 := (HB.out.cell (World.block_lt_of_cell? w _ hx103_0)).trans hx103_0;have HR103_0 := Aside0.mk hi103_0;have HC103_0 := Aside0.mk hl103_0;clear hi103_0 hl103_0;replace p103 := eq_true p103;replace q103 := eq_true q103
               go_wp2_with (first | ((with_reducible refine gate_callee (f := 87) rfl ?_);refine goesL_ (some 38) rfl rfl Try.func87 (by kernel_rfl) rfl #[.slice A102_0 (rd_L5 l0 x20_1).length c102_0,.slice A103_0 (rd_L5 l0 x27_2).length c103_0] rfl (by (try simp only [List.map_toArray,List.map_cons,List.map_nil]);first | done | rfl | (simp only [List.length_drop,List.length_take];rfl)) ?_;(with_reducible refine (impl_faults.calls k2 _ _ (rd_L5 l0 x20_1) _ _ (rd_L5 l0 x27_2) t104 _ ?side1 ?side2 ?side3 ?side4 A12.out).mono ?_);(case side1 => repeat (first | exact (Kd.C_below HR102_0.out HB.out) | (with_reducible refine Kd.C_alloc ?_ _) | (with_reducible refine Kd.C_drewN ?_ _) | (with_reducible refine Kd.C_drew ?_)));(case side2 => exact HC102_0.out);(case side3 => repeat (first | exact (Kd.C_below HR103_0.out HB.out) | (with_reducible refine Kd.C_alloc ?_ _) | (with_reducible refine Kd.C_drewN ?_ _) | (with_reducible refine Kd.C_drew ?_)));(case side4 => exact HC103_0.out);rintro e w15 ⟨v105,rfl,ho0,hb⟩;refine ⟨_,rfl,?_⟩;have n0_ := Aside0.mk (Kd.S_lower ho0 (below_size (by repeat (first | (with_reducible first | exact HB.out | apply below_alloc | apply pw_below_drewN | apply below_drew1) | exact HB.out))));have n1_ := Aside0.mk (below_step (by repeat (first | (with_reducible first | exact HB.out | apply below_alloc | apply pw_below_drewN | apply below_drew1) | exact HB.out)) hb);clear HB;have HO106 := n0_;have HB := n1_;clear n0_ n1_;(try clear hb);(try clear hb2);(try clear hk);(try clear hi);(try clear ho0);obtain ⟨Ao16,co16,eo16⟩ := Kd.S_slice HO106.out;subst eo16;have p107 : 0 ≤ (0 : Int) := (by omega);have q107 : 0 < (t104.length : Int) := of_decide_eq_true (by first | (with_reducible assumption) | assumption);obtain ⟨ad107,A107_0,c107_0,e107,hx107_0,hl107_0,hi107_0⟩ := at_L6 (Kd.S_reads' HO106.out).2.2 0 p107 q107;cases e107;obtain ⟨ce107,hce107,hMe107,hcc107⟩ := Kd.S_get HO106.out [] 0 p107 (by first | exact q107 | exact of_decide_eq_true (by first | (with_reducible assumption) | assumption) | (have e_ := (Kd.S_reads' HO106.out).1;omega));obtain ⟨ve107_0,rfl,ge107_0⟩ := hMe107;have hv107_0 := hcc107 0 _ rfl;rw [Nat.add_zero,show ((Kd.slice 2 (Kd.int .i64))).sz = 1 from rfl,Nat.mul_one] at hv107_0;replace hv107_0 := Option.some.inj (hv107_0.symm.trans hx107_0);rw [hv107_0] at ge107_0;have HL107_0 := Aside0.mk (show Kd.R (Kd.int .i64) 2 _ _ _ _ (rd_L6 t104 0) from ge107_0);clear hv107_0 ge107_0;clear hcc107 hce107;have qi107 : (0 < t104.length) = True := eq_true (by omega);(try rw [show ((0 : Int)).toNat = 0 from rfl] at hx107_0);(try rw [Addr.add_zero'] at hx107_0);have HR107_0 := Aside0.mk hi107_0;have HC107_0 := Aside0.mk hl107_0;clear hi107_0 hl107_0;replace p107 := eq_true p107;replace q107 := eq_true q107;have p108 : 0 ≤ (0 : Int) := (by omega);have q108 : 0 < ((rd_L6 t104 0).length : Int) := of_decide_eq_true (by first | (with_reducible assumption) | assumption);obtain ⟨ad108,e108,hx108_0⟩ := Kd.at_int (by repeat (first | (with_reducible exact HR107_0.out) | (with_reducible refine Kd.C_alloc ?_ _) | (with_reducible refine Kd.C_drewN ?_ _) | (with_reducible refine Kd.C_drew ?_) | exact HR107_0.out)) 0 p108 q108;cases e108;have qi108 : (0 < (rd_L6 t104 0).length) = True := eq_true (by omega);(try rw [show ((0 : Int)).toNat = 0 from rfl] at hx108_0);(try rw [Addr.add_zero'] at hx108_0);replace p108 := eq_true p108;replace q108 := eq_true q108))
               go_roundg k2
               case measure => have := HK1.out;have := HK2.out;omega
               case rel => exact ⟨(wrap64 (x10_2 + (rd (rd_L6 t104 0) 0))),(wrap64 (x27_2 + 1)),(by first | rfl | (simp only [IntKind.wrap_i64,wrap64];done) | (simp;done) | (simp [*];done)),(by first | rfl | (simp only [IntKind.wrap_i64,wrap64];done) | (simp;done) | (simp [*];done)),H',⟨by have := HK1.out;have := HK2.out;omega⟩,⟨by repeat (first | (with_reducible first | exact HB.out | apply below_alloc | apply pw_below_drewN | apply below_drew1) | exact HB.out)⟩⟩
              ·rw [if_neg c14] at H;exact absurd H (by simp)
             ·rw [if_neg c13] at H;exact absurd H (by simp)
           ·rw [if_neg c10] at H;exact absurd H (by simp)
          ·rw [if_neg c9] at H;exact absurd H (by simp)
         ·rw [if_neg c8] at H;have c8b0 : decide (x27_2 < (l0.length : Int)) = false := decide_eq_false c8;clear c8
          by_cases c17 : x7_1 < 0
          ·rw [if_pos c17] at H;have c17b0 : decide (x7_1 < 0) = true := decide_eq_true c17;clear c17;have H' := Aside0.mk H;clear H
           go_wp2
           go_roundg k2
           case measure => have := HK1.out;have := HK2.out;omega
           case rel => exact ⟨(x20_1),(x10_2),(wrap64 (x20_1 + 1)),(by first | rfl | (simp only [IntKind.wrap_i64,wrap64];done) | (simp;done) | (simp [*];done)),(by first | rfl | (simp only [IntKind.wrap_i64,wrap64];done) | (simp;done) | (simp [*];done)),(by first | rfl | (simp only [IntKind.wrap_i64,wrap64];done) | (simp;done) | (simp [*];done)),H',⟨by have := HK1.out;have := HK2.out;omega⟩,⟨by repeat (first | (with_reducible first | exact HB.out | apply below_alloc | apply pw_below_drewN | apply below_drew1) | exact HB.out)⟩⟩
          ·rw [if_neg c17] at H;have c17b0 : decide (x7_1 < 0) = false := decide_eq_false c17;clear c17
           by_cases c18 : x10_2 < x7_1
           ·rw [if_pos c18] at H;have c18b0 : decide (x10_2 < x7_1) = true := decide_eq_true c18;clear c18;have H' := Aside0.mk H;clear H
            go_wp2
            go_roundg k2
            case measure => have := HK1.out;have := HK2.out;omega
            case rel => exact ⟨(x20_1),(x10_2),(wrap64 (x20_1 + 1)),(by first | rfl | (simp only [IntKind.wrap_i64,wrap64];done) | (simp;done) | (simp [*];done)),(by first | rfl | (simp only [IntKind.wrap_i64,wrap64];done) | (simp;done) | (simp [*];done)),(by first | rfl | (simp only [IntKind.wrap_i64,wrap64];done) | (simp;done) | (simp [*];done)),H',⟨by have := HK1.out;have := HK2.out;omega⟩,⟨by repeat (first | (with_reducible first | exact HB.out | apply below_alloc | apply pw_below_drewN | apply below_drew1) | exact HB.out)⟩⟩
           ·rw [if_neg c18] at H;have c18b0 : decide (x10_2 < x7_1) = false := decide_eq_false c18;clear c18;have H' := Aside0.mk H;clear H
            go_wp2
            go_roundg k2
            case measure => have := HK1.out;have := HK2.out;omega
            case rel => exact ⟨(x6_1),(x7_1),(wrap64 (x20_1 + 1)),(by first | rfl | (simp only [IntKind.wrap_i64,wrap64];done) | (simp;done) | (simp [*];done)),(by first | rfl | (simp only [IntKind.wrap_i64,wrap64];done) | (simp;done) | (simp [*];done)),(by first | rfl | (simp only [IntKind.wrap_i64,wrap64];done) | (simp;done) | (simp [*];done)),H',⟨by have := HK1.out;have := HK2.out;omega⟩,⟨by repeat (first | (with_reducible first | exact HB.out | apply below_alloc | apply pw_below_drewN | apply below_drew1) | exact HB.out)⟩⟩
      ·rw [if_neg c7] at H;exact absurd H (by simp)
     ·rw [if_neg c6] at H;exact absurd H (by simp)
    ·rw [if_neg c5] at H;have c5b0 : decide (x20_1 < (l0.length : Int)) = false := decide_eq_false c5;clear c5;simp only [Option.some.injEq,Prod.mk.injEq] at H;obtain ⟨rfl,rfl,rfl⟩ := H
     go_wp2
     go_ret3
     exact ⟨by first | rfl | (simp [errW_none,errW_some,IntKind.wrap_i64,wrap64];done) | (simp [errW_none,errW_some] <;> rfl) | (simp [*,errW_none,errW_some] <;> rfl),by repeat (first | (with_reducible first | exact HB.out | apply below_alloc | apply pw_below_drewN | apply below_drew1) | exact HB.out)⟩
 ·rw [if_neg c3] at H;have c3b0 : (t101 == 0) = false := beq_eq_false_iff_ne.mpr c3;have c3b1 : (t101 != 0) = true := bne_iff_ne.mpr c3;simp only [Option.some.injEq,Prod.mk.injEq] at H;obtain ⟨rfl,rfl,rfl⟩ := H
  go_enter Try.func61,Try.ntmps61
  go_wp2_with (first | ((with_reducible refine gate_callee (f := 103) rfl ?_);refine goesL_ (some 14) rfl rfl Try.func103 (by kernel_rfl) rfl #[.slice A0 l0.length c0] rfl (by (try simp only [List.map_toArray,List.map_cons,List.map_nil]);first | done | rfl | (simp only [List.length_drop,List.length_take];rfl)) ?_;(with_reducible refine (impl_allCode.calls _ _ l0 t101 _ ?side1 ?side2 A2.out).mono ?_);(case side1 => repeat (first | exact HR0.out | (with_reducible refine Kd.C_alloc ?_ _) | (with_reducible refine Kd.C_drewN ?_ _) | (with_reducible refine Kd.C_drew ?_)));(case side2 => exact HC0.out);rintro e w19 ⟨rfl,hb⟩;refine ⟨_,rfl,?_⟩;have n0_ := Aside0.mk (below_step (by repeat (first | (with_reducible first | exact HB.out | apply below_alloc | apply pw_below_drewN | apply below_drew1) | exact HB.out)) hb);clear HB;have HB := n0_;clear n0_;(try clear hb);(try clear hb2);(try clear hk);(try clear hi)))
  go_ret3
  exact ⟨by first | rfl | (simp [errW_none,errW_some,IntKind.wrap_i64,wrap64];done) | (simp [errW_none,errW_some] <;> rfl) | (simp [*,errW_none,errW_some] <;> rfl),by repeat (first | (with_reducible first | exact HB.out | apply below_alloc | apply pw_below_drewN | apply below_drew1) | exact HB.out)⟩
end Go.Proofs.Ytidkniacmcbgiaa.G
end

section
namespace Go.Proofs.Ytidkniacmcbgiaa.G
open Go.RowKit Go.Proofs.YtidkniacmcbgiaaW.PrintWords Go.Proofs.YtidkniacmcbgiaaW.PrintLast Go.Proofs.YtidkniacmcbgiaaW.PrintMore
attribute [local go_sem] max2_int min2_int max_two min_two max_three min_three max_four min_four
set_option linter.unusedVariables false
set_option linter.unusedSimpArgs false
def laws_eqEntry.f (a0_0 : Int) (a0_1 : Int) (a0_2 : Bool) (a1_0 : Int) (a1_1 : Int) (a1_2 : Bool) : Option (Bool) := if a0_0 = a1_0 then (if a0_1 = a1_1 then (if (a0_2 != a1_2) = true then (some false) else (some true)) else (some false)) else (some false)
set_option maxHeartbeats 8000000 in
set_option maxRecDepth 100000 in
theorem laws_eqEntry.calls (a0_0 : Int) (a0_1 : Int) (a0_2 : Bool) (a1_0 : Int) (a1_1 : Int) (a1_2 : Bool) (r : Bool) (w : World) (h : laws_eqEntry.f a0_0 a0_1 a0_2 a1_0 a1_1 a1_2 = some r) :
  Calls Try.prog 73 #[.agg #[.int .i64 a0_0,.int .i64 a0_1,.bool a0_2],.agg #[.int .i64 a1_0,.int .i64 a1_1,.bool a1_2]] w fun e w' => e = .returned (.bool r) ∧ Below w.heap.size w w' := by
 have hu73 := Try.underlying73;have HB := Aside0.mk (Below.refl w.heap.size w);have H : (if a0_0 = a1_0 then (if a0_1 = a1_1 then (if (a0_2 != a1_2) = true then (some false) else (some true)) else (some false)) else (some false)) = some r := h;clear h
 by_cases c3 : a0_0 = a1_0
 ·rw [if_pos c3] at H;have c3b0 : (a0_0 == a1_0) = true := beq_iff_eq.mpr c3;have c3b1 : (a0_0 != a1_0) = false := bne_eq_false_iff_eq.mpr c3;clear c3
  by_cases c4 : a0_1 = a1_1
  ·rw [if_pos c4] at H;have c4b0 : (a0_1 == a1_1) = true := beq_iff_eq.mpr c4;have c4b1 : (a0_1 != a1_1) = false := bne_eq_false_iff_eq.mpr c4;clear c4
   by_cases c5 : (a0_2 != a1_2) = true
   ·rw [if_pos c5] at H;have c5b0 : (a0_2 != a1_2) = true := c5;(try (have c5b1 : decide (a0_2 = a1_2) = false := by simpa using c5));(try (have c5b2 : (a0_2 == a1_2) = false := by simpa using c5));(try (have c5b3 : ¬ (a0_2 = a1_2) := by simpa using c5));clear c5;obtain rfl := Option.some.inj H
    go_enter Try.func73,Try.ntmps73
    go_wp2_with (first | ((with_reducible refine gate_dst (N := 2) rfl ?_);refine box_event ?hg (N := 2) ?hd (cs := #[.int .i64 a0_0,.int .i64 a0_1,.bool a0_2]) (t := 73) ?hr ?_;(case hd => rfl);(case hg => rfl);(case hr => first | (go_simp;done) | (go_simp;rfl));intro gb101 hg w6 hbox hb;have n0_ := Aside0.mk (below_step (by repeat (first | (with_reducible first | exact HB.out | apply below_alloc | apply pw_below_drewN | apply below_drew1) | exact HB.out)) hb);have n1_ := Aside0.mk (hbox);have n2_ := Aside0.mk ((by rw [hg];exact (below_size (by repeat (first | (with_reducible first | exact HB.out | apply below_alloc | apply pw_below_drewN | apply below_drew1) | exact HB.out))) : w.heap.size ≤ gb101));have n3_ := Aside0.mk ((by rw [hg];exact (below_size (by repeat (first | (with_reducible first | exact HB.out | apply below_alloc | apply pw_below_drewN | apply below_drew1) | exact HB.out))) : w.heap.size ≤ gb101));clear HB;have HB := n0_;have BK101 := n1_;have GW101 := n2_;have GE101 := n3_;clear n0_ n1_ n2_ n3_;clear hb hbox hg) | ((with_reducible refine gate_dst (N := 3) rfl ?_);refine box_event ?hg (N := 3) ?hd (cs := #[.int .i64 a1_0,.int .i64 a1_1,.bool a1_2]) (t := 73) ?hr ?_;(case hd => rfl);(case hg => rfl);(case hr => first | (go_simp;done) | (go_simp;rfl));intro gb102 hg w7 hbox hb;have n0_ := Aside0.mk (blk_below (g := gb101) (o := .cells #[.int .i64 a0_0,.int .i64 a0_1,.bool a0_2] 73 (0,0)) (by (with_reducible repeat (first | refine blk_drewN ?_ _ | refine blk_drew ?_ | refine blk_alloc ?_ _));exact BK101.out) hb);have n1_ := Aside0.mk (below_step (by repeat (first | (with_reducible first | exact HB.out | apply below_alloc | apply pw_below_drewN | apply below_drew1 | refine below_set ?_ GE101.out) | exact HB.out)) hb);have n2_ := Aside0.mk (hbox);have n3_ := Aside0.mk ((by rw [hg];exact (below_size (by repeat (first | (with_reducible first | exact HB.out | apply below_alloc | apply pw_below_drewN | apply below_drew1 | refine below_set ?_ GE101.out) | exact HB.out))) : w.heap.size ≤ gb102));have n4_ := Aside0.mk ((by rw [hg];exact (below_size (by repeat (first | (with_reducible first | exact HB.out | apply below_alloc | apply pw_below_drewN | apply below_drew1 | refine below_set ?_ GE101.out) | exact HB.out))) : w.heap.size ≤ gb102));have n5_ := Aside0.mk ((by rw [hg];exact Nat.ne_of_lt (blk_lt (g := gb101) (o := .cells #[.int .i64 a0_0,.int .i64 a0_1,.bool a0_2] 73 (0,0)) (by (with_reducible repeat (first | refine blk_drewN ?_ _ | refine blk_drew ?_ | refine blk_alloc ?_ _));exact BK101.out)) : gb101 ≠ gb102));have n6_ := Aside0.mk ((by rw [hg];exact Nat.ne_of_gt (blk_lt (g := gb101) (o := .cells #[.int .i64 a0_0,.int .i64 a0_1,.bool a0_2] 73 (0,0)) (by (with_reducible repeat (first | refine blk_drewN ?_ _ | refine blk_drew ?_ | refine blk_alloc ?_ _));exact BK101.out)) : gb102 ≠ gb101));clear BK101;clear HB;have BK101 := n0_;have HB := n1_;have BK102 := n2_;have GW102 := n3_;have GE102 := n4_;have NB101_102 := n5_;have NB102_101 := n6_;clear n0_ n1_ n2_ n3_ n4_ n5_ n6_;clear hb hbox hg;have hnb8 := NB101_102.out;have hnc8 := NB102_101.out;have hcz9_0 : w7.cell? ⟨gb101,0,none⟩ = some (.int .i64 a0_0) := (blk_cell BK101.out 0).trans rfl;have hcz9_1 : w7.cell? ⟨gb101,1,none⟩ = some (.int .i64 a0_1) := (blk_cell BK101.out 1).trans rfl;have hcz9_2 : w7.cell? ⟨gb101,2,none⟩ = some (.bool a0_2) := (blk_cell BK101.out 2).trans rfl;have hfz9_0 := blk_frozen BK101.out 0;have hfz9_1 := blk_frozen BK101.out 1;have hfz9_2 := blk_frozen BK101.out 2;have hcz10_0 : w7.cell? ⟨gb102,0,none⟩ = some (.int .i64 a1_0) := (blk_cell BK102.out 0).trans rfl;have hcz10_1 : w7.cell? ⟨gb102,1,none⟩ = some (.int .i64 a1_1) := (blk_cell BK102.out 1).trans rfl;have hcz10_2 : w7.cell? ⟨gb102,2,none⟩ = some (.bool a1_2) := (blk_cell BK102.out 2).trans rfl;have hfz10_0 := blk_frozen BK102.out 0;have hfz10_1 := blk_frozen BK102.out 1;have hfz10_2 := blk_frozen BK102.out 2))
    go_ret
    exact ⟨by first | rfl | (simp [errW_none,errW_some,IntKind.wrap_i64,wrap64];done) | (simp [errW_none,errW_some] <;> rfl) | (simp [*,errW_none,errW_some] <;> rfl),by repeat (first | (with_reducible first | exact HB.out | apply below_alloc | apply pw_below_drewN | apply below_drew1 | refine below_set ?_ GE101.out | refine below_set ?_ GE102.out) | exact HB.out)⟩
   ·rw [if_neg c5] at H
    have c5b0 : (a0_2 != a1_2) = false := by simpa using c5
    (try (have c5b1 : decide (a0_2 = a1_2) = true := by simpa using c5));(try (have c5b2 : (a0_2 == a1_2) = true := by simpa using c5));clear c5;obtain rfl := Option.some.inj H
    go_enter Try.func73,Try.ntmps73
    go_wp2_with (first | ((with_reducible refine gate_dst (N := 2) rfl ?_);refine box_event ?hg (N := 2) ?hd (cs := #[.int .i64 a0_0,.int .i64 a0_1,.bool a0_2]) (t := 73) ?hr ?_;(case hd => rfl);(case hg => rfl);(case hr => first | (go_simp;done) | (go_simp;rfl));intro gb101 hg w11 hbox hb;have n0_ := Aside0.mk (below_step (by repeat (first | (with_reducible first | exact HB.out | apply below_alloc | apply pw_below_drewN | apply below_drew1) | exact HB.out)) hb);have n1_ := Aside0.mk (hbox);have n2_ := Aside0.mk ((by rw [hg];exact (below_size (by repeat (first | (with_reducible first | exact HB.out | apply below_alloc | apply pw_below_drewN | apply below_drew1) | exact HB.out))) : w.heap.size ≤ gb101));have n3_ := Aside0.mk ((by rw [hg];exact (below_size (by repeat (first | (with_reducible first | exact HB.out | apply below_alloc | apply pw_below_drewN | apply below_drew1) | exact HB.out))) : w.heap.size ≤ gb101));clear HB;have HB := n0_;have BK101 := n1_;have GW101 := n2_;have GE101 := n3_;clear n0_ n1_ n2_ n3_;clear hb hbox hg) | ((with_reducible refine gate_dst (N := 3) rfl ?_);refine box_event ?hg (N := 3) ?hd (cs := #[.int .i64 a1_0,.int .i64 a1_1,.bool a1_2]) (t := 73) ?hr ?_;(case hd => rfl);(case hg => rfl);(case hr => first | (go_simp;done) | (go_simp;rfl));intro gb102 hg w12 hbox hb;have n0_ := Aside0.mk (blk_below (g := gb101) (o := .cells #[.int .i64 a0_0,.int .i64 a0_1,.bool a0_2] 73 (0,0)) (by (with_reducible repeat (first | refine blk_drewN ?_ _ | refine blk_drew ?_ | refine blk_alloc ?_ _));exact BK101.out) hb);have n1_ := Aside0.mk (below_step (by repeat (first | (with_reducible first | exact HB.out | apply below_alloc | apply pw_below_drewN | apply below_drew1 | refine below_set ?_ GE101.out) | exact HB.out)) hb);have n2_ := Aside0.mk (hbox);have n3_ := Aside0.mk ((by rw [hg];exact (below_size (by repeat (first | (with_reducible first | exact HB.out | apply below_alloc | apply pw_below_drewN | apply below_drew1 | refine below_set ?_ GE101.out) | exact HB.out))) : w.heap.size ≤ gb102));have n4_ := Aside0.mk ((by rw [hg];exact (below_size (by repeat (first | (with_reducible first | exact HB.out | apply below_alloc | apply pw_below_drewN | apply below_drew1 | refine below_set ?_ GE101.out) | exact HB.out))) : w.heap.size ≤ gb102));have n5_ := Aside0.mk ((by rw [hg];exact Nat.ne_of_lt (blk_lt (g := gb101) (o := .cells #[.int .i64 a0_0,.int .i64 a0_1,.bool a0_2] 73 (0,0)) (by (with_reducible repeat (first | refine blk_drewN ?_ _ | refine blk_drew ?_ | refine blk_alloc ?_ _));exact BK101.out)) : gb101 ≠ gb102));have n6_ := Aside0.mk ((by rw [hg];exact Nat.ne_of_gt (blk_lt (g := gb101) (o := .cells #[.int .i64 a0_0,.int .i64 a0_1,.bool a0_2] 73 (0,0)) (by (with_reducible repeat (first | refine blk_drewN ?_ _ | refine blk_drew ?_ | refine blk_alloc ?_ _));exact BK101.out)) : gb102 ≠ gb101));clear BK101;clear HB;have BK101 := n0_;have HB := n1_;have BK102 := n2_;have GW102 := n3_;have GE102 := n4_;have NB101_102 := n5_;have NB102_101 := n6_;clear n0_ n1_ n2_ n3_ n4_ n5_ n6_;clear hb hbox hg;have hnb13 := NB101_102.out;have hnc13 := NB102_101.out;have hcz14_0 : w12.cell? ⟨gb101,0,none⟩ = some (.int .i64 a0_0) := (blk_cell BK101.out 0).trans rfl;have hcz14_1 : w12.cell? ⟨gb101,1,none⟩ = some (.int .i64 a0_1) := (blk_cell BK101.out 1).trans rfl;have hcz14_2 : w12.cell? ⟨gb101,2,none⟩ = some (.bool a0_2) := (blk_cell BK101.out 2).trans rfl;have hfz14_0 := blk_frozen BK101.out 0;have hfz14_1 := blk_frozen BK101.out 1;have hfz14_2 := blk_frozen BK101.out 2;have hcz15_0 : w12.cell? ⟨gb102,0,none⟩ = some (.int .i64 a1_0) := (blk_cell BK102.out 0).trans rfl;have hcz15_1 : w12.cell? ⟨gb102,1,none⟩ = some (.int .i64 a1_1) := (blk_cell BK102.out 1).trans rfl;have hcz15_2 : w12.cell? ⟨gb102,2,none⟩ = some (.bool a1_2) := (blk_cell BK102.out 2).trans rfl;have hfz15_0 := blk_frozen BK102.out 0;have hfz15_1 := blk_frozen BK102.out 1;have hfz15_2 := blk_frozen BK102.out 2))
    go_ret
    exact ⟨by first | rfl | (simp [errW_none,errW_some,IntKind.wrap_i64,wrap64];done) | (simp [errW_none,errW_some] <;> rfl) | (simp [*,errW_none,errW_some] <;> rfl),by repeat (first | (with_reducible first | exact HB.out | apply below_alloc | apply pw_below_drewN | apply below_drew1 | refine below_set ?_ GE101.out | refine below_set ?_ GE102.out) | exact HB.out)⟩
  ·rw [if_neg c4] at H;have c4b0 : (a0_1 == a1_1) = false := beq_eq_false_iff_ne.mpr c4;have c4b1 : (a0_1 != a1_1) = true := bne_iff_ne.mpr c4;obtain rfl := Option.some.inj H
   go_enter Try.func73,Try.ntmps73
   go_wp2_with (first | ((with_reducible refine gate_dst (N := 2) rfl ?_);refine box_event ?hg (N := 2) ?hd (cs := #[.int .i64 a0_0,.int .i64 a0_1,.bool a0_2]) (t := 73) ?hr ?_;(case hd => rfl);(case hg => rfl);(case hr => first | (go_simp;done) | (go_simp;rfl));intro gb101 hg w16 hbox hb;have n0_ := Aside0.mk (below_step (by repeat (first | (with_reducible first | exact HB.out | apply below_alloc | apply pw_below_drewN | apply below_drew1) | exact HB.out)) hb);have n1_ := Aside0.mk (hbox);have n2_ := Aside0.mk ((by rw [hg];exact (below_size (by repeat (first | (with_reducible first | exact HB.out | apply below_alloc | apply pw_below_drewN | apply below_drew1) | exact HB.out))) : w.heap.size ≤ gb101));have n3_ := Aside0.mk ((by rw [hg];exact (below_size (by repeat (first | (with_reducible first | exact HB.out | apply below_alloc | apply pw_below_drewN | apply below_drew1) | exact HB.out))) : w.heap.size ≤ gb101));clear HB;have HB := n0_;have BK101 := n1_;have GW101 := n2_;have GE101 := n3_;clear n0_ n1_ n2_ n3_;clear hb hbox hg) | ((with_reducible refine gate_dst (N := 3) rfl ?_);refine box_event ?hg (N := 3) ?hd (cs := #[.int .i64 a1_0,.int .i64 a1_1,.bool a1_2]) (t := 73) ?hr ?_;(case hd => rfl);(case hg => rfl);(case hr => first | (go_simp;done) | (go_simp;rfl));intro gb102 hg w17 hbox hb;have n0_ := Aside0.mk (blk_below (g := gb101) (o := .cells #[.int .i64 a0_0,.int .i64 a0_1,.bool a0_2] 73 (0,0)) (by (with_reducible repeat (first | refine blk_drewN ?_ _ | refine blk_drew ?_ | refine blk_alloc ?_ _));exact BK101.out) hb);have n1_ := Aside0.mk (below_step (by repeat (first | (with_reducible first | exact HB.out | apply below_alloc | apply pw_below_drewN | apply below_drew1 | refine below_set ?_ GE101.out) | exact HB.out)) hb);have n2_ := Aside0.mk (hbox);have n3_ := Aside0.mk ((by rw [hg];exact (below_size (by repeat (first | (with_reducible first | exact HB.out | apply below_alloc | apply pw_below_drewN | apply below_drew1 | refine below_set ?_ GE101.out) | exact HB.out))) : w.heap.size ≤ gb102));have n4_ := Aside0.mk ((by rw [hg];exact (below_size (by repeat (first | (with_reducible first | exact HB.out | apply below_alloc | apply pw_below_drewN | apply below_drew1 | refine below_set ?_ GE101.out) | exact HB.out))) : w.heap.size ≤ gb102));have n5_ := Aside0.mk ((by rw [hg];exact Nat.ne_of_lt (blk_lt (g := gb101) (o := .cells #[.int .i64 a0_0,.int .i64 a0_1,.bool a0_2] 73 (0,0)) (by (with_reducible repeat (first | refine blk_drewN ?_ _ | refine blk_drew ?_ | refine blk_alloc ?_ _));exact BK101.out)) : gb101 ≠ gb102));have n6_ := Aside0.mk ((by rw [hg];exact Nat.ne_of_gt (blk_lt (g := gb101) (o := .cells #[.int .i64 a0_0,.int .i64 a0_1,.bool a0_2] 73 (0,0)) (by (with_reducible repeat (first | refine blk_drewN ?_ _ | refine blk_drew ?_ | refine blk_alloc ?_ _));exact BK101.out)) : gb102 ≠ gb101));clear BK101;clear HB;have BK101 := n0_;have HB := n1_;have BK102 := n2_;have GW102 := n3_;have GE102 := n4_;have NB101_102 := n5_;have NB102_101 := n6_;clear n0_ n1_ n2_ n3_ n4_ n5_ n6_;clear hb hbox hg;have hnb18 := NB101_102.out;have hnc18 := NB102_101.out;have hcz19_0 : w17.cell? ⟨gb101,0,none⟩ = some (.int .i64 a0_0) := (blk_cell BK101.out 0).trans rfl;have hcz19_1 : w17.cell? ⟨gb101,1,none⟩ = some (.int .i64 a0_1) := (blk_cell BK101.out 1).trans rfl;have hcz19_2 : w17.cell? ⟨gb101,2,none⟩ = some (.bool a0_2) := (blk_cell BK101.out 2).trans rfl;have hfz19_0 := blk_frozen BK101.out 0;have hfz19_1 := blk_frozen BK101.out 1;have hfz19_2 := blk_frozen BK101.out 2;have hcz20_0 : w17.cell? ⟨gb102,0,none⟩ = some (.int .i64 a1_0) := (blk_cell BK102.out 0).trans rfl;have hcz20_1 : w17.cell? ⟨gb102,1,none⟩ = some (.int .i64 a1_1) := (blk_cell BK102.out 1).trans rfl;have hcz20_2 : w17.cell? ⟨gb102,2,none⟩ = some (.bool a1_2) := (blk_cell BK102.out 2).trans rfl;have hfz20_0 := blk_frozen BK102.out 0;have hfz20_1 := blk_frozen BK102.out 1;have hfz20_2 := blk_frozen BK102.out 2))
   go_ret
   exact ⟨by first | rfl | (simp [errW_none,errW_some,IntKind.wrap_i64,wrap64];done) | (simp [errW_none,errW_some] <;> rfl) | (simp [*,errW_none,errW_some] <;> rfl),by repeat (first | (with_reducible first | exact HB.out | apply below_alloc | apply pw_below_drewN | apply below_drew1 | refine below_set ?_ GE101.out | refine below_set ?_ GE102.out) | exact HB.out)⟩
 ·rw [if_neg c3] at H;have c3b0 : (a0_0 == a1_0) = false := beq_eq_false_iff_ne.mpr c3;have c3b1 : (a0_0 != a1_0) = true := bne_iff_ne.mpr c3;obtain rfl := Option.some.inj H
  go_enter Try.func73,Try.ntmps73
  go_wp2_with (first | ((with_reducible refine gate_dst (N := 2) rfl ?_);refine box_event ?hg (N := 2) ?hd (cs := #[.int .i64 a0_0,.int .i64 a0_1,.bool a0_2]) (t := 73) ?hr ?_;(case hd => rfl);(case hg => rfl);(case hr => first | (go_simp;done) | (go_simp;rfl));intro gb101 hg w21 hbox hb;have n0_ := Aside0.mk (below_step (by repeat (first | (with_reducible first | exact HB.out | apply below_alloc | apply pw_below_drewN | apply below_drew1) | exact HB.out)) hb);have n1_ := Aside0.mk (hbox);have n2_ := Aside0.mk ((by rw [hg];exact (below_size (by repeat (first | (with_reducible first | exact HB.out | apply below_alloc | apply pw_below_drewN | apply below_drew1) | exact HB.out))) : w.heap.size ≤ gb101));have n3_ := Aside0.mk ((by rw [hg];exact (below_size (by repeat (first | (with_reducible first | exact HB.out | apply below_alloc | apply pw_below_drewN | apply below_drew1) | exact HB.out))) : w.heap.size ≤ gb101));clear HB;have HB := n0_;have BK101 := n1_;have GW101 := n2_;have GE101 := n3_;clear n0_ n1_ n2_ n3_;clear hb hbox hg) | ((with_reducible refine gate_dst (N := 3) rfl ?_);refine box_event ?hg (N := 3) ?hd (cs := #[.int .i64 a1_0,.int .i64 a1_1,.bool a1_2]) (t := 73) ?hr ?_;(case hd => rfl);(case hg => rfl);(case hr => first | (go_simp;done) | (go_simp;rfl));intro gb102 hg w22 hbox hb;have n0_ := Aside0.mk (blk_below (g := gb101) (o := .cells #[.int .i64 a0_0,.int .i64 a0_1,.bool a0_2] 73 (0,0)) (by (with_reducible repeat (first | refine blk_drewN ?_ _ | refine blk_drew ?_ | refine blk_alloc ?_ _));exact BK101.out) hb);have n1_ := Aside0.mk (below_step (by repeat (first | (with_reducible first | exact HB.out | apply below_alloc | apply pw_below_drewN | apply below_drew1 | refine below_set ?_ GE101.out) | exact HB.out)) hb);have n2_ := Aside0.mk (hbox);have n3_ := Aside0.mk ((by rw [hg];exact (below_size (by repeat (first | (with_reducible first | exact HB.out | apply below_alloc | apply pw_below_drewN | apply below_drew1 | refine below_set ?_ GE101.out) | exact HB.out))) : w.heap.size ≤ gb102));have n4_ := Aside0.mk ((by rw [hg];exact (below_size (by repeat (first | (with_reducible first | exact HB.out | apply below_alloc | apply pw_below_drewN | apply below_drew1 | refine below_set ?_ GE101.out) | exact HB.out))) : w.heap.size ≤ gb102));have n5_ := Aside0.mk ((by rw [hg];exact Nat.ne_of_lt (blk_lt (g := gb101) (o := .cells #[.int .i64 a0_0,.int .i64 a0_1,.bool a0_2] 73 (0,0)) (by (with_reducible repeat (first | refine blk_drewN ?_ _ | refine blk_drew ?_ | refine blk_alloc ?_ _));exact BK101.out)) : gb101 ≠ gb102));have n6_ := Aside0.mk ((by rw [hg];exact Nat.ne_of_gt (blk_lt (g := gb101) (o := .cells #[.int .i64 a0_0,.int .i64 a0_1,.bool a0_2] 73 (0,0)) (by (with_reducible repeat (first | refine blk_drewN ?_ _ | refine blk_drew ?_ | refine blk_alloc ?_ _));exact BK101.out)) : gb102 ≠ gb101));clear BK101;clear HB;have BK101 := n0_;have HB := n1_;have BK102 := n2_;have GW102 := n3_;have GE102 := n4_;have NB101_102 := n5_;have NB102_101 := n6_;clear n0_ n1_ n2_ n3_ n4_ n5_ n6_;clear hb hbox hg;have hnb23 := NB101_102.out;have hnc23 := NB102_101.out;have hcz24_0 : w22.cell? ⟨gb101,0,none⟩ = some (.int .i64 a0_0) := (blk_cell BK101.out 0).trans rfl;have hcz24_1 : w22.cell? ⟨gb101,1,none⟩ = some (.int .i64 a0_1) := (blk_cell BK101.out 1).trans rfl;have hcz24_2 : w22.cell? ⟨gb101,2,none⟩ = some (.bool a0_2) := (blk_cell BK101.out 2).trans rfl;have hfz24_0 := blk_frozen BK101.out 0;have hfz24_1 := blk_frozen BK101.out 1;have hfz24_2 := blk_frozen BK101.out 2;have hcz25_0 : w22.cell? ⟨gb102,0,none⟩ = some (.int .i64 a1_0) := (blk_cell BK102.out 0).trans rfl;have hcz25_1 : w22.cell? ⟨gb102,1,none⟩ = some (.int .i64 a1_1) := (blk_cell BK102.out 1).trans rfl;have hcz25_2 : w22.cell? ⟨gb102,2,none⟩ = some (.bool a1_2) := (blk_cell BK102.out 2).trans rfl;have hfz25_0 := blk_frozen BK102.out 0;have hfz25_1 := blk_frozen BK102.out 1;have hfz25_2 := blk_frozen BK102.out 2))
  go_ret
  exact ⟨by first | rfl | (simp [errW_none,errW_some,IntKind.wrap_i64,wrap64];done) | (simp [errW_none,errW_some] <;> rfl) | (simp [*,errW_none,errW_some] <;> rfl),by repeat (first | (with_reducible first | exact HB.out | apply below_alloc | apply pw_below_drewN | apply below_drew1 | refine below_set ?_ GE101.out | refine below_set ?_ GE102.out) | exact HB.out)⟩
end Go.Proofs.Ytidkniacmcbgiaa.G
end
