/- The law's functions, their contracts, and the plain lemmas: texts of this claim, laid together. -/
import Derived.Test.YtidkniacmcbgiaaProg
import Derived.Below
import Derived.Deep.Draws
import Derived.Deep.AppendLies
import Derived.Maps.AppendAt
import Derived.OwnWalk
import Derived.Laws.BytesArg
import Derived.Laws.MakeOwn
import Derived.Laws.OwnMore
import Derived.Deep.OwnRows
import Derived.Tactics
import Derived.Lib.ConvBytes
import Derived.Laws.Slices
import Derived.WalkKit
import Derived.KernelRfl
import Derived.RowKit3
import Derived.Deep.LoopGhost
import Derived.Deep.QuietTactic
import Derived.BigQuiet
import Derived.WideLaws
import Derived.Deep.DeepCutAuto
import Derived.Deep.CutBlock
import Derived.Deep.RegionHeld3
import Derived.Laws.Rows
import Derived.Lib.AppendStr
import Derived.ArgAppend
import Derived.Laws.IdiomCopy
import Derived.OrdersHeld
import Derived.Laws.BitsLemmas
import Derived.RowKit
import Derived.Shelf.Abstract
import Derived.WalkSpells
import Derived.WalkLawsBesides
import Derived.Test.YtidkniacmcbgiaaWWords
import Derived.Test.YtidkniacmcbgiaaWLast
import Derived.Test.YtidkniacmcbgiaaWTab
import Derived.Test.YtidkniacmcbgiaaWFour
import Derived.Test.YtidkniacmcbgiaaWQPut
import Derived.Test.YtidkniacmcbgiaaWApart
import Derived.Test.YtidkniacmcbgiaaWArr
import Derived.Test.YtidkniacmcbgiaaWZeros
import Derived.Test.YtidkniacmcbgiaaWFoot
import Derived.Test.YtidkniacmcbgiaaWKept
import Derived.Test.YtidkniacmcbgiaaWShare
import Derived.Test.YtidkniacmcbgiaaWN
import Derived.Test.YtidkniacmcbgiaaWFootNe
import Derived.Test.YtidkniacmcbgiaaWAt
import Derived.Test.YtidkniacmcbgiaaWEqStruct
import Derived.Test.YtidkniacmcbgiaaWRepsOne
import Derived.Test.YtidkniacmcbgiaaWInv
import Derived.Test.YtidkniacmcbgiaaWInvWords
import Derived.Test.YtidkniacmcbgiaaWGuard
import Derived.Test.YtidkniacmcbgiaaWNEv
import Derived.Test.YtidkniacmcbgiaaWMore
import Derived.Deep.RegionLaw
import Derived.Maps.OwnOps
import Derived.Maps.OwnSet
import Derived.Maps.Views
import Derived.Maps.RangeWalk
import Derived.IntWalk
section
namespace Go.Proofs.Ytidkniacmcbgiaa.G
open Go.RowKit Go.Proofs.YtidkniacmcbgiaaW.PrintWords Go.Proofs.YtidkniacmcbgiaaW.PrintLast Go.Proofs.YtidkniacmcbgiaaW.PrintMore
attribute [local go_sem] max2_int min2_int max_two min_two max_three min_three max_four min_four
set_option linter.unusedVariables false
set_option linter.unusedSimpArgs false
def errW : Option Int → Value
  | none => .nilIface
  | some c => .iface 0 (.int .i64 c)
theorem errW_none : errW none = .nilIface := rfl
theorem errW_some (c : Int) : errW (some c) = .iface 0 (.int .i64 c) := rfl
theorem info2 : (Try.prog.info? 2).map (fun i => (i.zero, i.size, i.bytes)) = some (some (.int .i64 0), 1, 8) := by kernel_rfl
theorem info3 : (Try.prog.info? 3).map (fun i => (i.zero, i.size, i.bytes)) = some (some (.int .i64 0), 1, 8) := by kernel_rfl
theorem info73 : (Try.prog.info? 73).map (fun i => (i.zero, i.size, i.bytes)) = some (some (.agg #[(.int .i64 0), (.int .i64 0), (.bool false)]), 3, 24) := by kernel_rfl
structure S75 where
  f0 : Int
  f1 : Int
  f2 : Bool
def z75 : S75 := ⟨(0 : Int), (0 : Int), false⟩
def k75 : Kd S75 := Kd.iso (Kd.pair (Kd.int .i64) (Kd.pair (Kd.int .i64) Kd.bool)) (fun x : S75 => (x.f0, x.f1, x.f2))
theorem k75_open {w : World} {x : S75} {cs : List Value} (h : k75.K w x cs) : cs = [.int .i64 x.f0, .int .i64 x.f1, .bool x.f2] := by
  obtain ⟨_, _, rfl, rfl, ⟨_, _, rfl, rfl, rfl⟩⟩ := h
  exact rfl
def rd_T75 (xs : List S75) (i : Int) : S75 := xs.getD i.toNat z75
theorem at_T75 {w : World} {A : Option Addr} {n : Nat} {xs : List S75} (h : Kd.C k75 w A n xs) (i : Int) (h0 : 0 ≤ i) (h1 : i < n) : ∃ ad , A = some ad ∧ w.cell? (ad.add (i.toNat * 3)) = some (.int .i64 (rd_T75 xs i).f0) ∧ w.cell? ⟨(ad.add (i.toNat * 3)).block, (ad.add (i.toNat * 3)).off + 1, none⟩ = some (.int .i64 (rd_T75 xs i).f1) ∧ w.cell? ⟨(ad.add (i.toNat * 3)).block, (ad.add (i.toNat * 3)).off + 2, none⟩ = some (.bool (rd_T75 xs i).f2) := by
  obtain ⟨ad, c, e, _, hK, hc0⟩ := Kd.C_get h z75 i h0 h1
  have hc : ∀ j u, c[j]? = some u → w.cell? (ad.add (i.toNat * 3 + j)) = some u := hc0
  obtain rfl := k75_open hK
  exact ⟨ad, e, hc 0 _ rfl, by rw [← add_field _ _ 1 (by omega)]; exact hc 1 _ rfl, by rw [← add_field _ _ 2 (by omega)]; exact hc 2 _ rfl⟩
structure S73 where
  f0 : Int
  f1 : Int
  f2 : Bool
def z73 : S73 := ⟨(0 : Int), (0 : Int), false⟩
def k73 : Kd S73 := Kd.iso (Kd.pair (Kd.int .i64) (Kd.pair (Kd.int .i64) Kd.bool)) (fun x : S73 => (x.f0, x.f1, x.f2))
theorem k73_open {w : World} {x : S73} {cs : List Value} (h : k73.K w x cs) : cs = [.int .i64 x.f0, .int .i64 x.f1, .bool x.f2] := by
  obtain ⟨_, _, rfl, rfl, ⟨_, _, rfl, rfl, rfl⟩⟩ := h
  exact rfl
theorem k73_openM {w : World} {base : Nat} {ok : Nat → Prop} {x : S73} {cs : List Value} (h : k73.M w base ok x cs) : cs = [.int .i64 x.f0, .int .i64 x.f1, .bool x.f2] := by
  obtain ⟨_, _, rfl, rfl, ⟨_, _, rfl, rfl, rfl⟩⟩ := h
  exact rfl
theorem k73_mkM (w : World) (base : Nat) (ok : Nat → Prop) (x : S73)  : k73.M w base ok x [.int .i64 x.f0, .int .i64 x.f1, .bool x.f2] := ⟨[.int .i64 x.f0], [.int .i64 x.f1, .bool x.f2], rfl, rfl, ⟨[.int .i64 x.f1], [.bool x.f2], rfl, rfl, rfl⟩⟩
def rd_T73 (xs : List S73) (i : Int) : S73 := xs.getD i.toNat z73
theorem at_T73 {w : World} {A : Option Addr} {n : Nat} {xs : List S73} (h : Kd.C k73 w A n xs) (i : Int) (h0 : 0 ≤ i) (h1 : i < n) : ∃ ad , A = some ad ∧ w.cell? (ad.add (i.toNat * 3)) = some (.int .i64 (rd_T73 xs i).f0) ∧ w.cell? ⟨(ad.add (i.toNat * 3)).block, (ad.add (i.toNat * 3)).off + 1, none⟩ = some (.int .i64 (rd_T73 xs i).f1) ∧ w.cell? ⟨(ad.add (i.toNat * 3)).block, (ad.add (i.toNat * 3)).off + 2, none⟩ = some (.bool (rd_T73 xs i).f2) := by
  obtain ⟨ad, c, e, _, hK, hc0⟩ := Kd.C_get h z73 i h0 h1
  have hc : ∀ j u, c[j]? = some u → w.cell? (ad.add (i.toNat * 3 + j)) = some u := hc0
  obtain rfl := k73_open hK
  exact ⟨ad, e, hc 0 _ rfl, by rw [← add_field _ _ 1 (by omega)]; exact hc 1 _ rfl, by rw [← add_field _ _ 2 (by omega)]; exact hc 2 _ rfl⟩
structure S103 where
  f0 : Int
  f1 : Int
structure S100 where
  f0 : Int
  f1 : Int
def idxP {α : Type} (p : α → Bool) (l : List α) : Int := match l.findIdx? p with | some i => (i : Int) | none => -1
theorem idxP_hit {α : Type} {p : α → Bool} {l : List α} {k : Nat} {y : α} (hy : l[k]? = some y) (hp : p y = true) (hn : ∀ j x, j < k → l[j]? = some x → p x = false) : idxP p l = (k : Int) := by
  have hk : k < l.length := (List.getElem?_eq_some_iff.1 hy).1
  have e : l.findIdx? p = some k := by
    rw [List.findIdx?_eq_some_iff_getElem]
    refine ⟨hk, ?_, fun j hj => ?_⟩
    · rw [(List.getElem?_eq_some_iff.1 hy).2]; exact hp
    · have := hn j l[j] hj (List.getElem?_eq_getElem (by omega))
      simp [this]
  simp [idxP, e]
theorem idxP_miss {α : Type} {p : α → Bool} {l : List α} (h : ∀ x ∈ l, p x = false) : idxP p l = -1 := by
  have e : l.findIdx? p = none := by
    rw [List.findIdx?_eq_none_iff]
    exact h
  simp [idxP, e]
theorem idxP_nonneg {α : Type} (p : α → Bool) (l : List α) : decide (0 ≤ idxP p l) = l.any p := by
  unfold idxP
  cases e : l.findIdx? p with
  | none =>
    rw [List.findIdx?_eq_none_iff] at e
    have : l.any p = false := by rw [List.any_eq_false]; intro x hx; simp [e x hx]
    simp [this]
  | some i =>
    rw [List.findIdx?_eq_some_iff_getElem] at e
    obtain ⟨h, hp, _⟩ := e
    have : l.any p = true := List.any_eq_true.2 ⟨l[i], List.getElem_mem h, hp⟩
    simp [this]
end Go.Proofs.Ytidkniacmcbgiaa.G
end

section
namespace Go.Proofs.Ytidkniacmcbgiaa.G
open Go.RowKit Go.Proofs.YtidkniacmcbgiaaW.PrintWords Go.Proofs.YtidkniacmcbgiaaW.PrintLast Go.Proofs.YtidkniacmcbgiaaW.PrintMore
attribute [local go_sem] max2_int min2_int max_two min_two max_three min_three max_four min_four
set_option linter.unusedVariables false
set_option linter.unusedSimpArgs false
def cmp_isNaN_int64.f (a0 : Int) : Option (Bool) := some (a0 != a0)
set_option maxHeartbeats 8000000 in
set_option maxRecDepth 100000 in
theorem cmp_isNaN_int64.calls (a0 : Int) (r : Bool) (w : World) (h : cmp_isNaN_int64.f a0 = some r) :
  Calls Try.prog 121 #[.int .i64 a0] w fun e w' => e = .returned (.bool r) ∧ Drawn0 w w' := by
 have H : (some (a0 != a0)) = some r := h;clear h;obtain rfl := Option.some.inj H
 go_enter Try.func121,Try.ntmps121
 go_wp2
 go_ret
 exact ⟨by first | rfl | (simp only [IntKind.wrap_i64,wrap64];done) | (simp;done) | (simp [*];done),by repeat (first | exact Drawn0.refl _ | apply Drawn0.step)⟩
end Go.Proofs.Ytidkniacmcbgiaa.G
end

section
namespace Go.Proofs.Ytidkniacmcbgiaa.G
open Go.RowKit Go.Proofs.YtidkniacmcbgiaaW.PrintWords Go.Proofs.YtidkniacmcbgiaaW.PrintLast Go.Proofs.YtidkniacmcbgiaaW.PrintMore
attribute [local go_sem] max2_int min2_int max_two min_two max_three min_three max_four min_four
set_option linter.unusedVariables false
set_option linter.unusedSimpArgs false
def cmp_Compare_int64.f (a0 : Int) (a1 : Int) : Option (Int) := (cmp_isNaN_int64.f a0).bind fun t101 => ((cmp_isNaN_int64.f a1).bind fun t102 => (if t101 = true then (if t102 = true then (some 0) else (some (-1))) else (if t102 = true then (some 1) else (if a0 < a1 then (some (-1)) else (if a0 > a1 then (some 1) else (some 0))))))
set_option maxHeartbeats 8000000 in
set_option maxRecDepth 100000 in
theorem cmp_Compare_int64.calls (a0 : Int) (a1 : Int) (r : Int) (w : World) (h : cmp_Compare_int64.f a0 a1 = some r) :
  Calls Try.prog 94 #[.int .i64 a0,.int .i64 a1] w fun e w' => e = .returned (.int .i64 r) ∧ Drawn0 w w' := by
 have H : ((cmp_isNaN_int64.f a0).bind fun t101 => ((cmp_isNaN_int64.f a1).bind fun t102 => (if t101 = true then (if t102 = true then (some 0) else (some (-1))) else (if t102 = true then (some 1) else (if a0 < a1 then (some (-1)) else (if a0 > a1 then (some 1) else (some 0))))))) = some r := h;clear h;replace H := Option.bind_eq_some_iff.mp H;obtain ⟨t101,A30,H⟩ := H;replace H : ((cmp_isNaN_int64.f a1).bind fun t102 => (if t101 = true then (if t102 = true then (some 0) else (some (-1))) else (if t102 = true then (some 1) else (if a0 < a1 then (some (-1)) else (if a0 > a1 then (some 1) else (some 0)))))) = some r := H;have A3 := Aside0.mk A30;clear A30;replace H := Option.bind_eq_some_iff.mp H;obtain ⟨t102,A40,H⟩ := H;replace H : (if t101 = true then (if t102 = true then (some 0) else (some (-1))) else (if t102 = true then (some 1) else (if a0 < a1 then (some (-1)) else (if a0 > a1 then (some 1) else (some 0))))) = some r := H;have A4 := Aside0.mk A40;clear A40
 by_cases c5 : t101 = true
 ·subst c5
  have H1 : (if t102 = true then (some 0) else (some (-1))) = some r := by rw [if_pos rfl] at H;exact H
  clear H;have H := H1;clear H1
  by_cases c6 : t102 = true
  ·subst c6
   have H1 : (some 0) = some r := by rw [if_pos rfl] at H;exact H
   clear H;have H := H1;clear H1;obtain rfl := Option.some.inj H
   go_enter Try.func94,Try.ntmps94
   go_wp2_with (first | ((with_reducible refine gate_callee (f := 121) rfl ?_);refine goesL_ (some 8) rfl rfl Try.func121 (by kernel_rfl) rfl #[.int .i64 a0] rfl (by (try simp only [List.map_toArray,List.map_cons,List.map_nil]);first | done | rfl | (simp only [List.length_drop,List.length_take];rfl)) ?_;(with_reducible refine (cmp_isNaN_int64.calls a0 true _ A3.out).mono ?_);rintro e w' ⟨rfl,⟨nd,rfl⟩⟩;refine ⟨_,rfl,?_⟩) | ((with_reducible refine gate_callee (f := 121) rfl ?_);refine goesL_ (some 10) rfl rfl Try.func121 (by kernel_rfl) rfl #[.int .i64 a1] rfl (by (try simp only [List.map_toArray,List.map_cons,List.map_nil]);first | done | rfl | (simp only [List.length_drop,List.length_take];rfl)) ?_;(with_reducible refine (cmp_isNaN_int64.calls a1 true _ A4.out).mono ?_);rintro e w' ⟨rfl,⟨nd,rfl⟩⟩;refine ⟨_,rfl,?_⟩))
   go_ret
   exact ⟨by first | rfl | (simp only [IntKind.wrap_i64,wrap64];done) | (simp;done) | (simp [*];done),by repeat (first | exact Drawn0.refl _ | apply Drawn0.step)⟩
  ·replace c6 := Bool.eq_false_iff.mpr c6;subst c6
   have H1 : (some (-1)) = some r := by rw [if_neg (show ¬ (false = true) by decide)] at H;exact H
   clear H;have H := H1;clear H1;obtain rfl := Option.some.inj H
   go_enter Try.func94,Try.ntmps94
   go_wp2_with (first | ((with_reducible refine gate_callee (f := 121) rfl ?_);refine goesL_ (some 8) rfl rfl Try.func121 (by kernel_rfl) rfl #[.int .i64 a0] rfl (by (try simp only [List.map_toArray,List.map_cons,List.map_nil]);first | done | rfl | (simp only [List.length_drop,List.length_take];rfl)) ?_;(with_reducible refine (cmp_isNaN_int64.calls a0 true _ A3.out).mono ?_);rintro e w' ⟨rfl,⟨nd,rfl⟩⟩;refine ⟨_,rfl,?_⟩) | ((with_reducible refine gate_callee (f := 121) rfl ?_);refine goesL_ (some 10) rfl rfl Try.func121 (by kernel_rfl) rfl #[.int .i64 a1] rfl (by (try simp only [List.map_toArray,List.map_cons,List.map_nil]);first | done | rfl | (simp only [List.length_drop,List.length_take];rfl)) ?_;(with_reducible refine (cmp_isNaN_int64.calls a1 false _ A4.out).mono ?_);rintro e w' ⟨rfl,⟨nd,rfl⟩⟩;refine ⟨_,rfl,?_⟩))
   go_ret
   exact ⟨by first | rfl | (simp only [IntKind.wrap_i64,wrap64];done) | (simp;done) | (simp [*];done),by repeat (first | exact Drawn0.refl _ | apply Drawn0.step)⟩
 ·replace c5 := Bool.eq_false_iff.mpr c5;subst c5
  have H1 : (if t102 = true then (some 1) else (if a0 < a1 then (some (-1)) else (if a0 > a1 then (some 1) else (some 0)))) = some r := by rw [if_neg (show ¬ (false = true) by decide)] at H;exact H
  clear H;have H := H1;clear H1
  by_cases c7 : t102 = true
  ·subst c7
   have H1 : (some 1) = some r := by rw [if_pos rfl] at H;exact H
   clear H;have H := H1;clear H1;obtain rfl := Option.some.inj H
   go_enter Try.func94,Try.ntmps94
   go_wp2_with (first | ((with_reducible refine gate_callee (f := 121) rfl ?_);refine goesL_ (some 8) rfl rfl Try.func121 (by kernel_rfl) rfl #[.int .i64 a0] rfl (by (try simp only [List.map_toArray,List.map_cons,List.map_nil]);first | done | rfl | (simp only [List.length_drop,List.length_take];rfl)) ?_;(with_reducible refine (cmp_isNaN_int64.calls a0 false _ A3.out).mono ?_);rintro e w' ⟨rfl,⟨nd,rfl⟩⟩;refine ⟨_,rfl,?_⟩) | ((with_reducible refine gate_callee (f := 121) rfl ?_);refine goesL_ (some 10) rfl rfl Try.func121 (by kernel_rfl) rfl #[.int .i64 a1] rfl (by (try simp only [List.map_toArray,List.map_cons,List.map_nil]);first | done | rfl | (simp only [List.length_drop,List.length_take];rfl)) ?_;(with_reducible refine (cmp_isNaN_int64.calls a1 true _ A4.out).mono ?_);rintro e w' ⟨rfl,⟨nd,rfl⟩⟩;refine ⟨_,rfl,?_⟩))
   go_ret
   exact ⟨by first | rfl | (simp only [IntKind.wrap_i64,wrap64];done) | (simp;done) | (simp [*];done),by repeat (first | exact Drawn0.refl _ | apply Drawn0.step)⟩
  ·replace c7 := Bool.eq_false_iff.mpr c7;subst c7
   have H1 : (if a0 < a1 then (some (-1)) else (if a0 > a1 then (some 1) else (some 0))) = some r := by rw [if_neg (show ¬ (false = true) by decide)] at H;exact H
   clear H;have H := H1;clear H1
   by_cases c8 : a0 < a1
   ·rw [if_pos c8] at H;have c8b0 : decide (a0 < a1) = true := decide_eq_true c8;clear c8;obtain rfl := Option.some.inj H
    go_enter Try.func94,Try.ntmps94
    go_wp2_with (first | ((with_reducible refine gate_callee (f := 121) rfl ?_);refine goesL_ (some 8) rfl rfl Try.func121 (by kernel_rfl) rfl #[.int .i64 a0] rfl (by (try simp only [List.map_toArray,List.map_cons,List.map_nil]);first | done | rfl | (simp only [List.length_drop,List.length_take];rfl)) ?_;(with_reducible refine (cmp_isNaN_int64.calls a0 false _ A3.out).mono ?_);rintro e w' ⟨rfl,⟨nd,rfl⟩⟩;refine ⟨_,rfl,?_⟩) | ((with_reducible refine gate_callee (f := 121) rfl ?_);refine goesL_ (some 10) rfl rfl Try.func121 (by kernel_rfl) rfl #[.int .i64 a1] rfl (by (try simp only [List.map_toArray,List.map_cons,List.map_nil]);first | done | rfl | (simp only [List.length_drop,List.length_take];rfl)) ?_;(with_reducible refine (cmp_isNaN_int64.calls a1 false _ A4.out).mono ?_);rintro e w' ⟨rfl,⟨nd,rfl⟩⟩;refine ⟨_,rfl,?_⟩))
    go_ret
    exact ⟨by first | rfl | (simp only [IntKind.wrap_i64,wrap64];done) | (simp;done) | (simp [*];done),by repeat (first | exact Drawn0.refl _ | apply Drawn0.step)⟩
   ·rw [if_neg c8] at H;have c8b0 : decide (a0 < a1) = false := decide_eq_false c8;clear c8
    by_cases c9 : a0 > a1
    ·rw [if_pos c9] at H;have c9b0 : decide (a1 < a0) = true := decide_eq_true c9;clear c9;obtain rfl := Option.some.inj H
     go_enter Try.func94,Try.ntmps94
     go_wp2_with (first | ((with_reducible refine gate_callee (f := 121) rfl ?_);refine goesL_ (some 8) rfl rfl Try.func121 (by kernel_rfl) rfl #[.int .i64 a0] rfl (by (try simp only [List.map_toArray,List.map_cons,List.map_nil]);first | done | rfl | (simp only [List.length_drop,List.length_take];rfl)) ?_;(with_reducible refine (cmp_isNaN_int64.calls a0 false _ A3.out).mono ?_);rintro e w' ⟨rfl,⟨nd,rfl⟩⟩;refine ⟨_,rfl,?_⟩) | ((with_reducible refine gate_callee (f := 121) rfl ?_);refine goesL_ (some 10) rfl rfl Try.func121 (by kernel_rfl) rfl #[.int .i64 a1] rfl (by (try simp only [List.map_toArray,List.map_cons,List.map_nil]);first | done | rfl | (simp only [List.length_drop,List.length_take];rfl)) ?_;(with_reducible refine (cmp_isNaN_int64.calls a1 false _ A4.out).mono ?_);rintro e w' ⟨rfl,⟨nd,rfl⟩⟩;refine ⟨_,rfl,?_⟩))
     go_ret
     exact ⟨by first | rfl | (simp only [IntKind.wrap_i64,wrap64];done) | (simp;done) | (simp [*];done),by repeat (first | exact Drawn0.refl _ | apply Drawn0.step)⟩
    ·rw [if_neg c9] at H;have c9b0 : decide (a1 < a0) = false := decide_eq_false c9;clear c9;obtain rfl := Option.some.inj H
     go_enter Try.func94,Try.ntmps94
     go_wp2_with (first | ((with_reducible refine gate_callee (f := 121) rfl ?_);refine goesL_ (some 8) rfl rfl Try.func121 (by kernel_rfl) rfl #[.int .i64 a0] rfl (by (try simp only [List.map_toArray,List.map_cons,List.map_nil]);first | done | rfl | (simp only [List.length_drop,List.length_take];rfl)) ?_;(with_reducible refine (cmp_isNaN_int64.calls a0 false _ A3.out).mono ?_);rintro e w' ⟨rfl,⟨nd,rfl⟩⟩;refine ⟨_,rfl,?_⟩) | ((with_reducible refine gate_callee (f := 121) rfl ?_);refine goesL_ (some 10) rfl rfl Try.func121 (by kernel_rfl) rfl #[.int .i64 a1] rfl (by (try simp only [List.map_toArray,List.map_cons,List.map_nil]);first | done | rfl | (simp only [List.length_drop,List.length_take];rfl)) ?_;(with_reducible refine (cmp_isNaN_int64.calls a1 false _ A4.out).mono ?_);rintro e w' ⟨rfl,⟨nd,rfl⟩⟩;refine ⟨_,rfl,?_⟩))
     go_ret
     exact ⟨by first | rfl | (simp only [IntKind.wrap_i64,wrap64];done) | (simp;done) | (simp [*];done),by repeat (first | exact Drawn0.refl _ | apply Drawn0.step)⟩
end Go.Proofs.Ytidkniacmcbgiaa.G
end

section
namespace Go.Proofs.Ytidkniacmcbgiaa.G
open Go.RowKit Go.Proofs.YtidkniacmcbgiaaW.PrintWords Go.Proofs.YtidkniacmcbgiaaW.PrintLast Go.Proofs.YtidkniacmcbgiaaW.PrintMore
attribute [local go_sem] max2_int min2_int max_two min_two max_three min_three max_four min_four
set_option linter.unusedVariables false
set_option linter.unusedSimpArgs false
def cmp_Or_int.l0 : Nat → Int → List Int → Int → Int → Option (Int)
 | 0,_,_,_,_ => none
 | k + 1,x3,x6,x7,x8 => if x8 < x7 then (if 0 ≤ x8 then (if x8 < (x6.length : Int) then (if (rd x6 x8) = x3 then (cmp_Or_int.l0 k x3 x6 x7 (wrap64 (x8 + 1))) else (some (rd x6 x8))) else (none)) else (none)) else (some x3)
def cmp_Or_int.f (k : Nat) (l0 : List Int) : Option (Int) := cmp_Or_int.l0 k 0 l0 (l0.length : Int) 0
set_option maxHeartbeats 8000000 in
set_option maxRecDepth 100000 in
theorem cmp_Or_int.calls (k : Nat) (A0 : Option Addr) (c0 : Nat) (l0 : List Int) (r : Int) (w : World) (hr0 : Kd.C (Kd.int .i64) w A0 l0.length l0) (hc0 : l0.length ≤ c0) (h : cmp_Or_int.f k l0 = some r) :
  Calls Try.prog 93 #[.slice A0 l0.length c0] w fun e w' => e = .returned (.int .i64 r) ∧ Drawn0 w w' := by
 have HR0 := Aside0.mk hr0;have HC0 := Aside0.mk hc0;clear hr0 hc0;have H : (cmp_Or_int.l0 k 0 l0 (l0.length : Int) 0) = some r := h;clear h;have H' := Aside0.mk H;clear H
 go_enter Try.func93,Try.ntmps93
 go_wp2
 go_loopg [8] k (fun kq v8 w' => ∃ (x8_1 : Int),v8 = .int .i64 x8_1 ∧ Aside0 (cmp_Or_int.l0 kq 0 l0 (l0.length : Int) x8_1 = some r) ∧ Aside0 (kq ≤ k) ∧ Drawn0 w w')
 case atStart => exact ⟨(0),(by first | rfl | (simp only [IntKind.wrap_i64,wrap64];done) | (simp;done) | (simp [*];done)),H',⟨Nat.le_refl _⟩,by repeat (first | exact Drawn0.refl _ | apply Drawn0.step)⟩
 case round =>
  clear H';obtain ⟨x8_1,rfl,HA,HK1,⟨m1,rfl⟩⟩ := hrel
  cases gk with
  | zero => exact absurd HA.out (by simp [cmp_Or_int.l0])
  | succ k1 =>
   have H := HA.out;clear HA;simp only [cmp_Or_int.l0] at H
   by_cases c2 : x8_1 < (l0.length : Int)
   ·rw [if_pos c2] at H;have c2b0 : decide (x8_1 < (l0.length : Int)) = true := decide_eq_true c2;clear c2
    by_cases c3 : 0 ≤ x8_1
    ·rw [if_pos c3] at H;have c3b0 : decide (0 ≤ x8_1) = true := decide_eq_true c3;clear c3
     by_cases c4 : x8_1 < (l0.length : Int)
     ·rw [if_pos c4] at H;have c4b0 : decide (x8_1 < (l0.length : Int)) = true := decide_eq_true c4;clear c4
      by_cases c5 : (rd l0 x8_1) = 0
      ·rw [if_pos c5] at H;have c5b0 : ((rd l0 x8_1) == 0) = true := beq_iff_eq.mpr c5;have c5b1 : ((rd l0 x8_1) != 0) = false := bne_eq_false_iff_eq.mpr c5;clear c5;have H' := Aside0.mk H;clear H;have p101 : 0 ≤ (x8_1 : Int) := of_decide_eq_true (by first | (with_reducible assumption) | assumption);have q101 : x8_1 < (l0.length : Int) := of_decide_eq_true (by first | (with_reducible assumption) | assumption);obtain ⟨ad101,e101,hx101_0⟩ := Kd.at_int HR0.out x8_1 p101 q101;cases e101;replace p101 := eq_true p101;replace q101 := eq_true q101
       go_wp2
       go_roundg k1
       case measure => have := HK1.out;omega
       case rel => exact ⟨(wrap64 (x8_1 + 1)),(by first | rfl | (simp only [IntKind.wrap_i64,wrap64];done) | (simp;done) | (simp [*];done)),H',⟨by have := HK1.out;omega⟩,by repeat (first | exact Drawn0.refl _ | apply Drawn0.step)⟩
      ·rw [if_neg c5] at H;have c5b0 : ((rd l0 x8_1) == 0) = false := beq_eq_false_iff_ne.mpr c5;have c5b1 : ((rd l0 x8_1) != 0) = true := bne_iff_ne.mpr c5;obtain rfl := Option.some.inj H;have p101 : 0 ≤ (x8_1 : Int) := of_decide_eq_true (by first | (with_reducible assumption) | assumption);have q101 : x8_1 < (l0.length : Int) := of_decide_eq_true (by first | (with_reducible assumption) | assumption);obtain ⟨ad101,e101,hx101_0⟩ := Kd.at_int HR0.out x8_1 p101 q101;cases e101;replace p101 := eq_true p101;replace q101 := eq_true q101
       go_wp2
       go_ret
       exact ⟨by first | rfl | (simp only [IntKind.wrap_i64,wrap64];done) | (simp;done) | (simp [*];done),by repeat (first | exact Drawn0.refl _ | apply Drawn0.step)⟩
     ·rw [if_neg c4] at H;exact absurd H (by simp)
    ·rw [if_neg c3] at H;exact absurd H (by simp)
   ·rw [if_neg c2] at H;have c2b0 : decide (x8_1 < (l0.length : Int)) = false := decide_eq_false c2;clear c2;obtain rfl := Option.some.inj H
    go_wp2
    go_ret
    exact ⟨by first | rfl | (simp only [IntKind.wrap_i64,wrap64];done) | (simp;done) | (simp [*];done),by repeat (first | exact Drawn0.refl _ | apply Drawn0.step)⟩
end Go.Proofs.Ytidkniacmcbgiaa.G
end

section
namespace Go.Proofs.Ytidkniacmcbgiaa.G
open Go.RowKit Go.Proofs.YtidkniacmcbgiaaW.PrintWords Go.Proofs.YtidkniacmcbgiaaW.PrintLast Go.Proofs.YtidkniacmcbgiaaW.PrintMore
attribute [local go_sem] max2_int min2_int max_two min_two max_three min_three max_four min_four
set_option linter.unusedVariables false
set_option linter.unusedSimpArgs false
def impl_Entry_agree.f (a0_0 : Int) (a0_1 : Int) (a0_2 : Bool) (a1_0 : Int) (a1_1 : Int) (a1_2 : Bool) : Option (Bool) := if a0_1 = a1_1 then (some (a0_2 == a1_2)) else (some false)
set_option maxHeartbeats 8000000 in
set_option maxRecDepth 100000 in
theorem impl_Entry_agree.calls (a0_0 : Int) (a0_1 : Int) (a0_2 : Bool) (a1_0 : Int) (a1_1 : Int) (a1_2 : Bool) (r : Bool) (w : World) (h : impl_Entry_agree.f a0_0 a0_1 a0_2 a1_0 a1_1 a1_2 = some r) :
  Calls Try.prog 92 #[.agg #[.int .i64 a0_0,.int .i64 a0_1,.bool a0_2],.agg #[.int .i64 a1_0,.int .i64 a1_1,.bool a1_2]] w fun e w' => e = .returned (.bool r) ∧ Below w.heap.size w w' := by
 have hu73 := Try.underlying73;have HB := Aside0.mk (Below.refl w.heap.size w);have H : (if a0_1 = a1_1 then (some (a0_2 == a1_2)) else (some false)) = some r := h;clear h
 by_cases c3 : a0_1 = a1_1
 ·rw [if_pos c3] at H;have c3b0 : (a0_1 == a1_1) = true := beq_iff_eq.mpr c3;have c3b1 : (a0_1 != a1_1) = false := bne_eq_false_iff_eq.mpr c3;clear c3;obtain rfl := Option.some.inj H
  go_enter Try.func92,Try.ntmps92
  go_wp2_with (first | ((with_reducible refine gate_dst (N := 2) rfl ?_);refine box_event ?hg (N := 2) ?hd (cs := #[.int .i64 a0_0,.int .i64 a0_1,.bool a0_2]) (t := 73) ?hr ?_;(case hd => rfl);(case hg => rfl);(case hr => first | (go_simp;done) | (go_simp;rfl));intro gb101 hg w4 hbox hb;have n0_ := Aside0.mk (below_step (by repeat (first | (with_reducible first | exact HB.out | apply below_alloc | apply pw_below_drewN | apply below_drew1) | exact HB.out)) hb);have n1_ := Aside0.mk (hbox);have n2_ := Aside0.mk ((by rw [hg];exact (below_size (by repeat (first | (with_reducible first | exact HB.out | apply below_alloc | apply pw_below_drewN | apply below_drew1) | exact HB.out))) : w.heap.size ≤ gb101));have n3_ := Aside0.mk ((by rw [hg];exact (below_size (by repeat (first | (with_reducible first | exact HB.out | apply below_alloc | apply pw_below_drewN | apply below_drew1) | exact HB.out))) : w.heap.size ≤ gb101));clear HB;have HB := n0_;have BK101 := n1_;have GW101 := n2_;have GE101 := n3_;clear n0_ n1_ n2_ n3_;clear hb hbox hg) | ((with_reducible refine gate_dst (N := 3) rfl ?_);refine box_event ?hg (N := 3) ?hd (cs := #[.int .i64 a1_0,.int .i64 a1_1,.bool a1_2]) (t := 73) ?hr ?_;(case hd => rfl);(case hg => rfl);(case hr => first | (go_simp;done) | (go_simp;rfl));intro gb102 hg w5 hbox hb;have n0_ := Aside0.mk (blk_below (g := gb101) (o := .cells #[.int .i64 a0_0,.int .i64 a0_1,.bool a0_2] 73 (0,0)) (by (with_reducible repeat (first | refine blk_drewN ?_ _ | refine blk_drew ?_ | refine blk_alloc ?_ _));exact BK101.out) hb);have n1_ := Aside0.mk (below_step (by repeat (first | (with_reducible first | exact HB.out | apply below_alloc | apply pw_below_drewN | apply below_drew1 | refine below_set ?_ GE101.out) | exact HB.out)) hb);have n2_ := Aside0.mk (hbox);have n3_ := Aside0.mk ((by rw [hg];exact (below_size (by repeat (first | (with_reducible first | exact HB.out | apply below_alloc | apply pw_below_drewN | apply below_drew1 | refine below_set ?_ GE101.out) | exact HB.out))) : w.heap.size ≤ gb102));have n4_ := Aside0.mk ((by rw [hg];exact (below_size (by repeat (first | (with_reducible first | exact HB.out | apply below_alloc | apply pw_below_drewN | apply below_drew1 | refine below_set ?_ GE101.out) | exact HB.out))) : w.heap.size ≤ gb102));have n5_ := Aside0.mk ((by rw [hg];exact Nat.ne_of_lt (blk_lt (g := gb101) (o := .cells #[.int .i64 a0_0,.int .i64 a0_1,.bool a0_2] 73 (0,0)) (by (with_reducible repeat (first | refine blk_drewN ?_ _ | refine blk_drew ?_ | refine blk_alloc ?_ _));exact BK101.out)) : gb101 ≠ gb102));have n6_ := Aside0.mk ((by rw [hg];exact Nat.ne_of_gt (blk_lt (g := gb101) (o := .cells #[.int .i64 a0_0,.int .i64 a0_1,.bool a0_2] 73 (0,0)) (by (with_reducible repeat (first | refine blk_drewN ?_ _ | refine blk_drew ?_ | refine blk_alloc ?_ _));exact BK101.out)) : gb102 ≠ gb101));clear BK101;clear HB;have BK101 := n0_;have HB := n1_;have BK102 := n2_;have GW102 := n3_;have GE102 := n4_;have NB101_102 := n5_;have NB102_101 := n6_;clear n0_ n1_ n2_ n3_ n4_ n5_ n6_;clear hb hbox hg;have hnb6 := NB101_102.out;have hnc6 := NB102_101.out;have hcz7_0 : w5.cell? ⟨gb101,0,none⟩ = some (.int .i64 a0_0) := (blk_cell BK101.out 0).trans rfl;have hcz7_1 : w5.cell? ⟨gb101,1,none⟩ = some (.int .i64 a0_1) := (blk_cell BK101.out 1).trans rfl;have hcz7_2 : w5.cell? ⟨gb101,2,none⟩ = some (.bool a0_2) := (blk_cell BK101.out 2).trans rfl;have hfz7_0 := blk_frozen BK101.out 0;have hfz7_1 := blk_frozen BK101.out 1;have hfz7_2 := blk_frozen BK101.out 2;have hcz8_0 : w5.cell? ⟨gb102,0,none⟩ = some (.int .i64 a1_0) := (blk_cell BK102.out 0).trans rfl;have hcz8_1 : w5.cell? ⟨gb102,1,none⟩ = some (.int .i64 a1_1) := (blk_cell BK102.out 1).trans rfl;have hcz8_2 : w5.cell? ⟨gb102,2,none⟩ = some (.bool a1_2) := (blk_cell BK102.out 2).trans rfl;have hfz8_0 := blk_frozen BK102.out 0;have hfz8_1 := blk_frozen BK102.out 1;have hfz8_2 := blk_frozen BK102.out 2))
  go_ret
  exact ⟨by first | rfl | (simp [errW_none,errW_some,IntKind.wrap_i64,wrap64];done) | (simp [errW_none,errW_some] <;> rfl) | (simp [*,errW_none,errW_some] <;> rfl),by repeat (first | (with_reducible first | exact HB.out | apply below_alloc | apply pw_below_drewN | apply below_drew1 | refine below_set ?_ GE101.out | refine below_set ?_ GE102.out) | exact HB.out)⟩
 ·rw [if_neg c3] at H;have c3b0 : (a0_1 == a1_1) = false := beq_eq_false_iff_ne.mpr c3;have c3b1 : (a0_1 != a1_1) = true := bne_iff_ne.mpr c3;obtain rfl := Option.some.inj H
  go_enter Try.func92,Try.ntmps92
  go_wp2_with (first | ((with_reducible refine gate_dst (N := 2) rfl ?_);refine box_event ?hg (N := 2) ?hd (cs := #[.int .i64 a0_0,.int .i64 a0_1,.bool a0_2]) (t := 73) ?hr ?_;(case hd => rfl);(case hg => rfl);(case hr => first | (go_simp;done) | (go_simp;rfl));intro gb101 hg w9 hbox hb;have n0_ := Aside0.mk (below_step (by repeat (first | (with_reducible first | exact HB.out | apply below_alloc | apply pw_below_drewN | apply below_drew1) | exact HB.out)) hb);have n1_ := Aside0.mk (hbox);have n2_ := Aside0.mk ((by rw [hg];exact (below_size (by repeat (first | (with_reducible first | exact HB.out | apply below_alloc | apply pw_below_drewN | apply below_drew1) | exact HB.out))) : w.heap.size ≤ gb101));have n3_ := Aside0.mk ((by rw [hg];exact (below_size (by repeat (first | (with_reducible first | exact HB.out | apply below_alloc | apply pw_below_drewN | apply below_drew1) | exact HB.out))) : w.heap.size ≤ gb101));clear HB;have HB := n0_;have BK101 := n1_;have GW101 := n2_;have GE101 := n3_;clear n0_ n1_ n2_ n3_;clear hb hbox hg) | ((with_reducible refine gate_dst (N := 3) rfl ?_);refine box_event ?hg (N := 3) ?hd (cs := #[.int .i64 a1_0,.int .i64 a1_1,.bool a1_2]) (t := 73) ?hr ?_;(case hd => rfl);(case hg => rfl);(case hr => first | (go_simp;done) | (go_simp;rfl));intro gb102 hg w10 hbox hb;have n0_ := Aside0.mk (blk_below (g := gb101) (o := .cells #[.int .i64 a0_0,.int .i64 a0_1,.bool a0_2] 73 (0,0)) (by (with_reducible repeat (first | refine blk_drewN ?_ _ | refine blk_drew ?_ | refine blk_alloc ?_ _));exact BK101.out) hb);have n1_ := Aside0.mk (below_step (by repeat (first | (with_reducible first | exact HB.out | apply below_alloc | apply pw_below_drewN | apply below_drew1 | refine below_set ?_ GE101.out) | exact HB.out)) hb);have n2_ := Aside0.mk (hbox);have n3_ := Aside0.mk ((by rw [hg];exact (below_size (by repeat (first | (with_reducible first | exact HB.out | apply below_alloc | apply pw_below_drewN | apply below_drew1 | refine below_set ?_ GE101.out) | exact HB.out))) : w.heap.size ≤ gb102));have n4_ := Aside0.mk ((by rw [hg];exact (below_size (by repeat (first | (with_reducible first | exact HB.out | apply below_alloc | apply pw_below_drewN | apply below_drew1 | refine below_set ?_ GE101.out) | exact HB.out))) : w.heap.size ≤ gb102));have n5_ := Aside0.mk ((by rw [hg];exact Nat.ne_of_lt (blk_lt (g := gb101) (o := .cells #[.int .i64 a0_0,.int .i64 a0_1,.bool a0_2] 73 (0,0)) (by (with_reducible repeat (first | refine blk_drewN ?_ _ | refine blk_drew ?_ | refine blk_alloc ?_ _));exact BK101.out)) : gb101 ≠ gb102));have n6_ := Aside0.mk ((by rw [hg];exact Nat.ne_of_gt (blk_lt (g := gb101) (o := .cells #[.int .i64 a0_0,.int .i64 a0_1,.bool a0_2] 73 (0,0)) (by (with_reducible repeat (first | refine blk_drewN ?_ _ | refine blk_drew ?_ | refine blk_alloc ?_ _));exact BK101.out)) : gb102 ≠ gb101));clear BK101;clear HB;have BK101 := n0_;have HB := n1_;have BK102 := n2_;have GW102 := n3_;have GE102 := n4_;have NB101_102 := n5_;have NB102_101 := n6_;clear n0_ n1_ n2_ n3_ n4_ n5_ n6_;clear hb hbox hg;have hnb11 := NB101_102.out;have hnc11 := NB102_101.out;have hcz12_0 : w10.cell? ⟨gb101,0,none⟩ = some (.int .i64 a0_0) := (blk_cell BK101.out 0).trans rfl;have hcz12_1 : w10.cell? ⟨gb101,1,none⟩ = some (.int .i64 a0_1) := (blk_cell BK101.out 1).trans rfl;have hcz12_2 : w10.cell? ⟨gb101,2,none⟩ = some (.bool a0_2) := (blk_cell BK101.out 2).trans rfl;have hfz12_0 := blk_frozen BK101.out 0;have hfz12_1 := blk_frozen BK101.out 1;have hfz12_2 := blk_frozen BK101.out 2;have hcz13_0 : w10.cell? ⟨gb102,0,none⟩ = some (.int .i64 a1_0) := (blk_cell BK102.out 0).trans rfl;have hcz13_1 : w10.cell? ⟨gb102,1,none⟩ = some (.int .i64 a1_1) := (blk_cell BK102.out 1).trans rfl;have hcz13_2 : w10.cell? ⟨gb102,2,none⟩ = some (.bool a1_2) := (blk_cell BK102.out 2).trans rfl;have hfz13_0 := blk_frozen BK102.out 0;have hfz13_1 := blk_frozen BK102.out 1;have hfz13_2 := blk_frozen BK102.out 2))
  go_ret
  exact ⟨by first | rfl | (simp [errW_none,errW_some,IntKind.wrap_i64,wrap64];done) | (simp [errW_none,errW_some] <;> rfl) | (simp [*,errW_none,errW_some] <;> rfl),by repeat (first | (with_reducible first | exact HB.out | apply below_alloc | apply pw_below_drewN | apply below_drew1 | refine below_set ?_ GE101.out | refine below_set ?_ GE102.out) | exact HB.out)⟩
end Go.Proofs.Ytidkniacmcbgiaa.G
end

section
namespace Go.Proofs.Ytidkniacmcbgiaa.G
open Go.RowKit Go.Proofs.YtidkniacmcbgiaaW.PrintWords Go.Proofs.YtidkniacmcbgiaaW.PrintLast Go.Proofs.YtidkniacmcbgiaaW.PrintMore
attribute [local go_sem] max2_int min2_int max_two min_two max_three min_three max_four min_four
set_option linter.unusedVariables false
set_option linter.unusedSimpArgs false
def impl_within.f (a0 : Int) (a1 : Int) (a2 : Int) : Option (Bool) := if a1 ≤ a0 then (some (decide (a0 ≤ a2))) else (some false)
set_option maxHeartbeats 8000000 in
set_option maxRecDepth 100000 in
theorem impl_within.calls (a0 : Int) (a1 : Int) (a2 : Int) (r : Bool) (w : World) (h : impl_within.f a0 a1 a2 = some r) :
  Calls Try.prog 79 #[.int .i64 a0,.int .i64 a1,.int .i64 a2] w fun e w' => e = .returned (.bool r) ∧ Drawn0 w w' := by
 have H : (if a1 ≤ a0 then (some (decide (a0 ≤ a2))) else (some false)) = some r := h;clear h
 by_cases c4 : a1 ≤ a0
 ·rw [if_pos c4] at H;have c4b0 : decide (a1 ≤ a0) = true := decide_eq_true c4;clear c4;obtain rfl := Option.some.inj H
  go_enter Try.func79,Try.ntmps79
  go_wp2
  go_ret
  exact ⟨by first | rfl | (simp only [IntKind.wrap_i64,wrap64];done) | (simp;done) | (simp [*];done),by repeat (first | exact Drawn0.refl _ | apply Drawn0.step)⟩
 ·rw [if_neg c4] at H;have c4b0 : decide (a1 ≤ a0) = false := decide_eq_false c4;clear c4;obtain rfl := Option.some.inj H
  go_enter Try.func79,Try.ntmps79
  go_wp2
  go_ret
  exact ⟨by first | rfl | (simp only [IntKind.wrap_i64,wrap64];done) | (simp;done) | (simp [*];done),by repeat (first | exact Drawn0.refl _ | apply Drawn0.step)⟩
end Go.Proofs.Ytidkniacmcbgiaa.G
end

section
namespace Go.Proofs.Ytidkniacmcbgiaa.G
open Go.RowKit Go.Proofs.YtidkniacmcbgiaaW.PrintWords Go.Proofs.YtidkniacmcbgiaaW.PrintLast Go.Proofs.YtidkniacmcbgiaaW.PrintMore
attribute [local go_sem] max2_int min2_int max_two min_two max_three min_three max_four min_four
set_option linter.unusedVariables false
set_option linter.unusedSimpArgs false
theorem run_clear_any {P : Program} {n : Nat} (w : World) (t e ty : TypeId) (z : Value) (ht : P.underlying t = some (.slice e)) (hv : ∀ w, (zeroValue e).run P w = .ok z w) (hz1 : ∀ u ∈ (Builtin.zeroCells z.cells n).toList, u.oneCell' = true) (b o c : Nat) (hn : 0 < n)
    (hc : ∀ j, j < (Builtin.zeroCells z.cells n).toList.length → (w.cell? ⟨b, o + j, none⟩).isSome = true) (hf : ∀ j, j < (Builtin.zeroCells z.cells n).toList.length → w.frozen? ⟨b, o + j, none⟩ = false) :
    (Builtin.clear_ #[t] ty #[.slice (some ⟨b, o, none⟩) n c]).run P w = .ok (.tuple #[]) (w.setCells b o (Builtin.zeroCells z.cells n).toList) := by
  have hst := run_storeCells_cells (P := P) b o (Builtin.zeroCells z.cells n).toList 0 w (by simpa using hc) (by simpa using hf) hz1
  simp only [Nat.add_zero] at hst
  obtain ⟨m, rfl⟩ : ∃ m, n = m + 1 := ⟨n - 1, by omega⟩
  simp [Builtin.clear_, run_underlying ht, hv, hst]
theorem zeroCells_len (cs : Array Value) (n : Nat) : (Builtin.zeroCells cs n).toList.length = n * cs.size := by
  simp [Builtin.zeroCells]
theorem R_beyond {α : Type} {d : Kd α} {e : Nat} {w : World} {base : Nat} {ok : Nat → Prop} {g m c : Nat} {xs : List α} (h : d.R e w base ok (.slice (some ⟨g, 0, none⟩) m c) xs) (news : List Value) (o : Nat) (ho : m * d.sz ≤ o) (hfit : o + news.length ≤ c * d.sz) :
    d.R e (w.setCells g o news) base ok (.slice (some ⟨g, 0, none⟩) m c) xs ∧ w.grownBy (w.setCells g o news) (some g) := by
  obtain ⟨hn, hnc, _⟩ := Kd.R_reads' h
  obtain ⟨hok, inner, hown, hr⟩ := h
  have hin : inner.length = m * d.sz := by rw [hr.1, hn]
  rcases hown.2 with ⟨hv, _⟩ | ⟨g', cap', cur, hv, hb, hh, hle, hcm, hcs, htake⟩
  · cases hv
  injection hv with ha _ hc
  injection ha with ha
  injection ha with hg
  subst hg; subst hc
  rw [← hn] at htake
  have hnc' : m * d.sz ≤ c * d.sz := Nat.mul_le_mul_right _ hnc
  obtain ⟨cur', h3, h4, h5⟩ := setCells_row news o w cur hh (by rw [hcs]; exact hfit)
  obtain ⟨s1, s2, s3, s4⟩ := setCells_same g news o w
  have hfar : ∀ k', k' ≠ g → (w.setCells g o news).heap[k']? = w.heap[k']? := fun k' hk' => setCells_far news _ k' hk'
  have htl : cur'.toList.take (m * d.sz) = inner := by
    rw [h5, List.append_assoc, List.take_append_of_le_length (by rw [List.length_take, Array.length_toList, hcs]; omega), List.take_take, Nat.min_eq_left ho, htake]
  refine ⟨⟨hok, inner, ⟨hown.1, .inr ⟨g, c, cur', by rw [hn], hb, h3, hle, hcm, by rw [h4, hcs], by rw [← hn]; exact htl⟩⟩, hr.imp_ (fun p q hp => d.M_move (fun k' hk' => hfar k' (fun he => hk'.2 (by rw [he]; simp [Value.ownBlock]))) hp)⟩, ⟨s1, s2, s3, by rw [s4]; exact Nat.le_refl _, fun k' _ hk' => hfar k' (fun he => hk' (by rw [he]))⟩⟩
theorem R_cleared {α : Type} {P : Program} {d : Kd α} {e : Nat} {w : World} {base : Nat} {ok : Nat → Prop} {g m c n : Nat} {xs : List α} (h : d.R e w base ok (.slice (some ⟨g, 0, none⟩) m c) xs) (t ty : TypeId) (z : Value) (ht : P.underlying t = some (.slice e)) (hv : ∀ w, (zeroValue e).run P w = .ok z w) (hzs : z.cells.size = d.sz)
    (hz1 : ∀ u ∈ (Builtin.zeroCells z.cells n).toList, u.oneCell' = true) (hn : 0 < n) (hfit : m + n ≤ c) :
    ∃ w1, (Builtin.clear_ #[t] ty #[.slice (some ⟨g, m * d.sz, none⟩) n (c - m)]).run P w = .ok (.tuple #[]) w1 ∧ d.R e w1 base ok (.slice (some ⟨g, 0, none⟩) m c) xs ∧ w.grownBy w1 (some g) := by
  have hfit' : m * d.sz + n * d.sz ≤ c * d.sz := by rw [← Nat.add_mul]; exact Nat.mul_le_mul_right _ hfit
  have hl : (Builtin.zeroCells z.cells n).toList.length = n * d.sz := by rw [zeroCells_len, hzs]
  obtain ⟨hx, _⟩ := Kd.R_own h
  obtain ⟨inner, hown, hr⟩ := h.2
  rcases hown.2 with ⟨hv', _⟩ | ⟨g', cap', cur, hv', hb, hh, hle, hcm, hcs, htake⟩
  · cases hv'
  injection hv' with ha _ hc
  injection ha with ha
  injection ha with hg
  subst hg; subst hc
  have hb2 := R_beyond h (Builtin.zeroCells z.cells n).toList (m * d.sz) (Nat.le_refl _) (by rw [hl]; exact hfit')
  refine ⟨_, run_clear_any w t e ty z ht hv hz1 g (m * d.sz) (c - m) hn (fun j hj => ?_) (fun j hj => blk_frozen hh _), hb2.1, hb2.2⟩
  rw [hl] at hj
  rw [cell_of_row w g _ cur e (0, 0) hh, Array.getElem?_eq_getElem (by omega)]
  rfl
end Go.Proofs.Ytidkniacmcbgiaa.G
end

section
namespace Go.Proofs.Ytidkniacmcbgiaa.G
open Go.RowKit Go.Proofs.YtidkniacmcbgiaaW.PrintWords Go.Proofs.YtidkniacmcbgiaaW.PrintLast Go.Proofs.YtidkniacmcbgiaaW.PrintMore
attribute [local go_sem] max2_int min2_int max_two min_two max_three min_three max_four min_four
set_option linter.unusedVariables false
set_option linter.unusedSimpArgs false
def slices_Delete_int_int.f (l0 : List (Int)) (a1 : Int) (a2 : Int) : Option (List (Int)) := if 0 ≤ a1 ∧ a1 < (l0.length : Int) ∧ a2 = a1 + 1 then some (l0.eraseIdx a1.toNat) else none
set_option maxHeartbeats 4000000 in
set_option maxRecDepth 20000 in
theorem slices_Delete_int_int.calls (P0_ : Nat → Prop) (u9000_ : Value) (l0 : List (Int)) (a1 : Int) (a2 : Int) (r : List (Int)) (w0 w : World) (hB : Below w0.heap.size w0 w) (ho0 : Kd.R (Kd.int .i64) 3 w w0.heap.size P0_ u9000_ l0) (h : slices_Delete_int_int.f l0 a1 a2 = some r) :
  Calls Try.prog 119 #[u9000_,.int .i64 a1,.int .i64 a2] w fun e w' => ∃ v0_ : Value,e = .returned (v0_) ∧ Kd.R (Kd.int .i64) 3 w' w0.heap.size (fun k_ => (P0_ k_ ∨ w.heap.size ≤ k_)) v0_ r ∧ Below w0.heap.size w0 w' ∧ Kept w w' (fun k_ => P0_ k_) := by
 unfold slices_Delete_int_int.f at h
 by_cases hq : 0 ≤ a1 ∧ a1 < (l0.length : Int) ∧ a2 = a1 + 1
 ·rw [if_pos hq] at h;obtain rfl := Option.some.inj h;obtain ⟨h0,h1,rfl⟩ := hq;clear h;obtain ⟨k,rfl⟩ : ∃ k : Nat,a1 = (k : Int) := ⟨a1.toNat,by omega⟩
  have hk : k < l0.length := by omega
  obtain ⟨g,c,rfl,hbg,hg,cells,hcells⟩ := Kd.R_form ho0 (by omega);obtain ⟨_,hc,hC⟩ := Kd.R_reads' ho0;have hl : l0.length ≤ 9223372036854775807 := hC.2.1;have HO := Aside0.mk ho0;have HB := Aside0.mk hB;clear ho0 hB hC hcells
  go_enter Try.func119,Try.ntmps119
  go_wp2
  have hinfo : (Try.prog.info? 3).map (·.size) = some ((Kd.int .i64)).sz := by kernel_rfl
  have ht := Try.underlying77
  have hA0 : (if c = k + 1 then some (⟨g,0,none⟩ : Addr) else some ⟨g,k + 1,none⟩) = if c = k + 1 then some (⟨g,0,none⟩ : Addr) else (some (⟨g,0,none⟩ : Addr)).map (·.add ((k + 1) * ((Kd.int .i64)).sz)) := by
   rw [show ((Kd.int .i64)).sz = 1 from rfl]
   simp [Addr.add]
  have HA0 := Aside0.mk hA0;clear hA0
  have hkc : k ≤ c := by omega
  have hz1 : ((0 : Int) ≤ (k : Int) + 1) = True := eq_true (by omega);have hz2 : ((k : Int) + 1 ≤ (l0.length : Int)) = True := eq_true (by omega)
  go_region_law (refine Kd.R_delete_step ((Kd.int .i64)) (w0 := w0) w0.heap.size (by rfl) (.tmp 22) (.tmp 25) 77 3 rfl ht hinfo (c := c) (k := k) (n := l0.length) rfl rfl HA0.out rfl (Kd.R_drew HO.out) hk (below_drew1 HB.out) HB.out.size ?_;intro w1 ho1 hb1 hg1)
  obtain ⟨m,hm⟩ : ∃ m,l0.length = m + 1 := ⟨l0.length - 1,by omega⟩
  have hmm : l0.length - 1 = m := by omega
  rw [hmm] at ho1 ⊢;have hcm : (c = m) = False := eq_false (by omega);have hcm1 : ((m : Int) + 1 ≤ (c : Int)) = True := eq_true (by omega);have hcm2 : (m + 1 ≤ c) = True := eq_true (by omega);obtain ⟨w2,hcl,ho2,hg2⟩ := R_cleared (P := Try.prog) (n := 1) ho1 77 0 (.int .i64 0) ht (fun w => by kernel_rfl) rfl (List.all_eq_true.1 (by kernel_rfl)) (by decide) (by omega);rw [show m * ((Kd.int .i64)).sz = m from Nat.mul_one m] at hcl;have HO2 := Aside0.mk ho2;have HB1 := Aside0.mk hb1;have HG1 := Aside0.mk hg1;have HG2 := Aside0.mk hg2;clear ho1 hb1 hg1 ho2 hg2
  rename_i hK hT
  refine hK _ _ ?_;rw [hm];clear hz2 h1 hk hl hmm hK hT;go_simp;generalize (if c = k + 1 then (some (⟨g,0,none⟩ : Addr)) else some ⟨g,k + 1,none⟩) = ax at ⊢;have hbg' := Aside0.mk hbg;clear hinfo HA0 hkc hz1 hc hg hbg
  go_wp2
  go_ret
  refine ⟨_,rfl,Kd.R_mono HO2.out (fun _ hk => .inl hk),HB1.out.grown HG2.out HB1.out.size (fun k hk => ?_),Kept.of_grown HG2.out (Kept.of_grown HG1.out (Kept.drew (Kept.refl w _)) ?_) ?_⟩
  ·injection hk with hk
   subst hk;exact hbg'.out
  ·intro k hk
   injection hk with hk
   subst hk;exact .inl (HO.out.1 _ (by simp [Value.ownBlock]))
  ·intro k hk
   injection hk with hk
   subst hk;exact .inl (HO.out.1 _ (by simp [Value.ownBlock]))
 ·rw [if_neg hq] at h;cases h
end Go.Proofs.Ytidkniacmcbgiaa.G
end

section
namespace Go.Proofs.Ytidkniacmcbgiaa.G
open Go.RowKit Go.Proofs.YtidkniacmcbgiaaW.PrintWords Go.Proofs.YtidkniacmcbgiaaW.PrintLast Go.Proofs.YtidkniacmcbgiaaW.PrintMore
attribute [local go_sem] max2_int min2_int max_two min_two max_three min_three max_four min_four
set_option linter.unusedVariables false
set_option linter.unusedSimpArgs false
set_option maxHeartbeats 2000000 in
theorem slices_IndexFunc_int_int.calls (A0 : Option Addr) (c0 : Nat) (l0 : List (Int)) (g : Nat) (lb : Array Value) (eg : ∀ args w,(callFunc g args).run Try.prog w = .ok (.enter g args) w) (p : Int → Bool) (w : World)
  (hr0 : Kd.C (Kd.int .i64) w A0 l0.length l0) (hc0 : l0.length ≤ c0)
  (hp : ∀ W,Below w.heap.size w W → ∀ x ∈ l0,Calls Try.prog g (#[.int .i64 x] ++ lb) W fun e w' => e = .returned (.bool (p x)) ∧ Below w.heap.size w w') :
  Calls Try.prog 117 #[.slice A0 l0.length c0,.func (.func g) #[] lb] w fun e w' => e = .returned (.int .i64 (idxP p l0)) ∧ Below w.heap.size w w' := by
 have hl : l0.length ≤ 9223372036854775807 := hr0.2.1;have HR0 := Aside0.mk hr0;have HP := Aside0.mk hp;clear hr0 hp;generalize hn : l0.length = n at *;have Hn := Aside0.mk hn;clear hn
 go_enter Try.func117,Try.ntmps117
 go_wp2
 go_loopg [5,8] n (fun gg _ s8 wr => ∃ kk : Nat,kk ≤ n ∧ n - kk ≤ gg ∧ s8 = .int .i64 kk ∧ Aside0 (Below w.heap.size w wr) ∧ Aside0 (∀ j x,j < kk → l0[j]? = some x → p x = false))
 case atStart => exact ⟨0,Nat.zero_le _,by omega,rfl,⟨Below.refl _ w⟩,⟨fun j _ hj => absurd hj (Nat.not_lt_zero _)⟩⟩
 case round =>
  obtain ⟨kk,hkk,hg,rfl,BW,AF⟩ := hrel
  by_cases hlt : kk < n
  ·have hltz : (kk : Int) < (n : Int) := by omega
   obtain ⟨ad,e0,hx0⟩ := Kd.at_int HR0.out (kk : Int) (by omega) (by omega);cases e0;simp only [Int.toNat_natCast] at hx0;(try rw [show ((Kd.int .i64)).sz = 1 from rfl,Nat.mul_one,Nat.add_zero] at hx0);replace hx0 := (BW.out.cell (World.block_lt_of_cell? w _ hx0)).trans hx0
   have hm : l0[kk]? = some (rd l0 (kk : Int)) := by
    have h1 : kk < l0.length := by rw [Hn.out];exact hlt
    simp [rd,List.getD_eq_getElem?_getD,List.getElem?_eq_getElem h1]
   have hcall := HP.out wr BW.out (rd l0 (kk : Int)) (List.mem_of_getElem? hm);generalize hy : rd l0 (kk : Int) = y at *;clear hy;have HM := Aside0.mk hm;clear hm
   cases hq : p y with
   | true =>
    rw [hq] at hcall;have HQ := Aside0.mk hq;clear hq
    go_wp2_with (go_at_fn g;refine hcall.mono ?_;rintro e w' ⟨rfl,hb'⟩)
    go_ret
    refine ⟨?_,hb'⟩;rw [idxP_hit HM.out HQ.out AF.out];rfl
   | false =>
    rw [hq] at hcall;have HQ := Aside0.mk hq;clear hq
    go_wp2_with (go_at_fn g;refine hcall.mono ?_;rintro e w' ⟨rfl,hb'⟩)
    go_roundg (n - (kk + 1))
    case measure => omega
    case rel =>
     refine ⟨kk + 1,by omega,by omega,by go_num,⟨hb'⟩,⟨fun j x hj hx => ?_⟩⟩
     by_cases e : j = kk
     ·subst e;rw [HM.out] at hx;cases hx;exact HQ.out
     ·exact AF.out j x (by omega) hx
  ·have hltz : ¬ (kk : Int) < (n : Int) := by omega
   have : kk = n := by omega
   subst this
   go_wp2
   go_ret
   refine ⟨?_,BW.out⟩
   rw [idxP_miss (fun x hx => by
    obtain ⟨j,hj,rfl⟩ := List.mem_iff_getElem.1 hx
    exact AF.out j _ (by rw [← Hn.out];exact hj) (List.getElem?_eq_getElem hj))]
   rfl
end Go.Proofs.Ytidkniacmcbgiaa.G
end

section
namespace Go.Proofs.Ytidkniacmcbgiaa.G
open Go.RowKit Go.Proofs.YtidkniacmcbgiaaW.PrintWords Go.Proofs.YtidkniacmcbgiaaW.PrintLast Go.Proofs.YtidkniacmcbgiaaW.PrintMore
attribute [local go_sem] max2_int min2_int max_two min_two max_three min_three max_four min_four
set_option linter.unusedVariables false
set_option linter.unusedSimpArgs false
theorem impl_Log_up.test (b1 b2 : Nat) (A0 : Option Addr) (c0 : Nat) (l0 : List (S73)) (x : S73) (n : Int) (m : Nat) (w : World) (h1 : w.heap[b1]? = some (.cells #[.slice A0 m c0] 26 (0, 0))) (h2 : w.heap[b2]? = some (.cells #[.int .i64 x.f0, .int .i64 x.f1, .bool x.f2] 73 (0, 0)))
    (hr0 : Kd.C k73 w A0 m l0) (h0 : 0 ≤ n) (hn : n < (m : Int)) :
    Calls Try.prog 118 (#[.int .i64 n] ++ #[.pointer (some ⟨b1, 0, none⟩), .pointer (some ⟨b2, 0, none⟩)]) w fun e w' => e = .returned (.bool ((rd_T73 l0 n).f1 == x.f1)) ∧ Below w.heap.size w w' := by
  rw [show (#[.int .i64 n] ++ #[.pointer (some ⟨b1, 0, none⟩), .pointer (some ⟨b2, 0, none⟩)] : Array Value) = #[.int .i64 n, .pointer (some ⟨b1, 0, none⟩), .pointer (some ⟨b2, 0, none⟩)] from rfl]
  obtain ⟨ad, e0, hx0, hx1, hx2⟩ := at_T73 hr0 n h0 hn
  cases e0
  have c1 : w.cell? ⟨b1, 0, none⟩ = some (.slice (some ad) m c0) := (blk_cell h1 0).trans rfl
  have c2 : w.cell? ⟨b2, 1, none⟩ = some (.int .i64 x.f1) := (blk_cell h2 1).trans rfl
  clear h1 h2 hr0 hx0 hx2
  replace h0 := eq_true h0
  replace hn := eq_true hn
  generalize rd_T73 l0 n = y at *
  go_enter Try.func118, Try.ntmps118
  go_wp2
  go_region
  rename_i hK
  refine hK _ _ ?_
  go_wp2
  go_ret
  exact ⟨rfl, below_drew1 (Below.refl _ _)⟩
theorem impl_Log_up.within (n lo hi : Int) : impl_within.f n lo hi = some (decide (lo ≤ n) && decide (n ≤ hi)) := by
  unfold impl_within.f
  split <;> simp [*]
theorem impl_Log_up.stored {w W : World} {gb1 gb2 : Nat} {c1 : Value} {u : Nat → Prop} {v : Value} {out : List Int} (a b : Value) (d : Value) (HO : Kd.R (Kd.int .i64) 3 W w.heap.size u v out) (HB : Below w.heap.size w W) (BK1 : W.heap[gb1]? = some (.cells #[c1] 26 (0, 0)))
    (BK2 : W.heap[gb2]? = some (.cells #[.int .i64 0, .int .i64 0, .bool false] 73 (0, 0))) (GE : w.heap.size ≤ gb2) :
    Kd.R (Kd.int .i64) 3 (((W.setCell ⟨gb2, 0, none⟩ a).setCell ⟨gb2, 1, none⟩ b).setCell ⟨gb2, 2, none⟩ d) w.heap.size u v out ∧ Below w.heap.size w (((W.setCell ⟨gb2, 0, none⟩ a).setCell ⟨gb2, 1, none⟩ b).setCell ⟨gb2, 2, none⟩ d) ∧
    (((W.setCell ⟨gb2, 0, none⟩ a).setCell ⟨gb2, 1, none⟩ b).setCell ⟨gb2, 2, none⟩ d).heap[gb1]? = some (.cells #[c1] 26 (0, 0)) ∧
    (((W.setCell ⟨gb2, 0, none⟩ a).setCell ⟨gb2, 1, none⟩ b).setCell ⟨gb2, 2, none⟩ d).heap[gb2]? = some (.cells #[a, b, d] 73 (0, 0)) := by
  have hne := blk_ne BK1 BK2 (by decide)
  refine ⟨Kd.R_mono (Kd.R_far (p := ⟨gb2, 2, none⟩) (Kd.R_far (p := ⟨gb2, 1, none⟩) (Kd.R_far (p := ⟨gb2, 0, none⟩) (Kd.R_types HO BK2 (by decide)) (fun _ hk => hk.2) a) (fun _ hk => hk.2) b) (fun _ hk => hk.2) d) (fun _ h => h.1), below_set (below_set (below_set HB GE) GE) GE, blk_far (blk_far (blk_far BK1 hne _) hne _) hne _, ?_⟩
  exact blk_put (cs := #[a, b, .bool false]) (blk_put (cs := #[a, .int .i64 0, .bool false]) (blk_put (cs := #[.int .i64 0, .int .i64 0, .bool false]) BK2 0 _ rfl) 1 _ rfl) 2 _ rfl
theorem impl_Log_up.idx_lt {α : Type} (p : α → Bool) (l : List α) : idxP p l < (l.length : Int) ∧ -1 ≤ idxP p l := by
  unfold idxP
  cases e : l.findIdx? p with
  | none => simp only; omega
  | some i =>
    rw [List.findIdx?_eq_some_iff_getElem] at e
    obtain ⟨h, _⟩ := e
    simp only
    omega
def impl_Log_up.good (b : Int) (x : S73) : Bool := (decide (b ≤ x.f0) && decide (x.f0 ≤ 100000)) && (decide (0 ≤ x.f1) && decide (x.f1 ≤ 9999))
def impl_Log_up.at (l : List (S73)) (x : S73) (out : List Int) : Int := idxP (fun n => (rd_T73 l n).f1 == x.f1) out
def impl_Log_up.step (l : List (S73)) (i : Nat) (s : Int × List Int) : Option (Int × List Int) :=
  if impl_Log_up.good s.1 (rd_T73 l (i : Int)) = false then none else
  if decide (impl_Log_up.at l (rd_T73 l (i : Int)) s.2 < 0) = (rd_T73 l (i : Int)).f2 then none else
  if (rd_T73 l (i : Int)).f2 = true then some ((rd_T73 l (i : Int)).f0, s.2.eraseIdx (impl_Log_up.at l (rd_T73 l (i : Int)) s.2).toNat) else some ((rd_T73 l (i : Int)).f0, s.2 ++ [(i : Int)])
def impl_Log_up.to (l : List (S73)) : Nat → Option (Int × List Int)
  | 0 => some (0, [])
  | n + 1 => (impl_Log_up.to l n).bind (impl_Log_up.step l n)
theorem impl_Log_up.to_none {l : List (S73)} {i n : Nat} (h : impl_Log_up.to l i = none) (hi : i ≤ n) : impl_Log_up.to l n = none := by
  induction n with
  | zero => obtain rfl : i = 0 := by omega
            exact h
  | succ n ih =>
    rcases Nat.lt_or_ge i (n + 1) with h1 | h1
    · rw [impl_Log_up.to, ih (by omega)]
      rfl
    · obtain rfl : i = n + 1 := by omega
      exact h
theorem impl_Log_up.to_in {l : List (S73)} {n : Nat} {s : Int × List Int} (h : impl_Log_up.to l n = some s) : s.2.length ≤ n ∧ ∀ x ∈ s.2, 0 ≤ x ∧ x < (n : Int) := by
  induction n generalizing s with
  | zero =>
    cases h
    simp
  | succ n ih =>
    rw [impl_Log_up.to] at h
    obtain ⟨s0, h0, h1⟩ := Option.bind_eq_some_iff.1 h
    obtain ⟨i1, i2⟩ := ih h0
    unfold impl_Log_up.step at h1
    split at h1
    · cases h1
    · split at h1
      · cases h1
      · split at h1
        · cases h1
          refine ⟨?_, fun x hx => ?_⟩
          · have := List.length_eraseIdx_le (l := s0.2) (i := (impl_Log_up.at l (rd_T73 l (n : Int)) s0.2).toNat)
            simp only
            omega
          · have := i2 x (List.mem_of_mem_eraseIdx hx)
            omega
        · cases h1
          refine ⟨by simp; omega, fun x hx => ?_⟩
          simp only [List.mem_append, List.mem_singleton] at hx
          rcases hx with hx | rfl
          · have := i2 x hx
            omega
          · omega
def impl_Log_up.f (l0 : List (S73)) : Option (List Int × Bool) := if l0.length ≤ 1048576 then some (match impl_Log_up.to l0 l0.length with | none => ([], false) | some s => (s.2, decide ((l0.length : Int) ≤ 60))) else none
set_option maxHeartbeats 8000000 in
set_option maxRecDepth 100000 in
theorem impl_Log_up.calls (A0 : Option Addr) (c0 : Nat) (l0 : List (S73)) (r1 : List Int) (r2 : Bool) (w : World) (hr0 : Kd.C k73 w A0 l0.length l0) (hc0 : l0.length ≤ c0) (h : impl_Log_up.f l0 = some (r1, r2)) :
    Calls Try.prog 75 #[.slice A0 l0.length c0] w fun e w' => ∃ v0_ : Value, e = .returned (.tuple #[v0_, .bool r2]) ∧ Kd.R (Kd.int .i64) 3 w' w.heap.size (fun _ => True) v0_ r1 ∧ Below w.heap.size w w' := by
  unfold impl_Log_up.f at h
  by_cases hL : l0.length ≤ 1048576
  · rw [if_pos hL] at h
    have h := Option.some.inj h
    have hu := Try.underlying73
    have eg := enters_of Try.func118 (by kernel_rfl) rfl
    have HR0 := Aside0.mk hr0
    have HC0 := Aside0.mk hc0
    have HB := Aside0.mk (Below.refl w.heap.size w)
    have HH := Aside0.mk h
    have HLn := Aside0.mk hL
    clear hr0 h hL
    generalize hn : l0.length = n at *
    have Hn := Aside0.mk hn
    clear hn
    go_enter Try.func75, Try.ntmps75
    go_wp2_with ((with_reducible refine gate_dst (N := 9) rfl ?_); refine Kd.R_lit (Kd.int .i64) _ 3 ?hg (N := 9) ?hd (xs := ([] : List Int)) (inner := []) (ok := fun k_ => k_ ≠ w.heap.size) (okp := fun k_ => k_ ≠ w.heap.size) ?hr ?hp (fun _ hk => hk) (by simp) (Below.refl _ _) (Nat.le_refl _) (by simp) ?_; (case hd => rfl); (case hg => rfl); (case hr => first | (go_simp; done) | (go_simp; rfl)); (case hp => exact (Reps.none _ _)); intro v1 w1 ho1 hb1 hg_ hnew_; clear hg_ hnew_; have HO1 := Aside0.mk (Kd.R_lower ho1 (by simp : w.heap.size ≤ _)); have HB1 := Aside0.mk (below_step (below_alloc (Below.refl _ w) _) hb1); have BK1 := Aside0.mk (blk_below (blk_new w _) hb1); clear ho1 hb1; have hz1 : w1.cell? ⟨w.heap.size, 0, none⟩ = some (.slice A0 n c0) := (blk_cell BK1.out 0).trans rfl)
    go_loopg [4, 5, 12] n (fun gg s4 s5 s12 wr => ∃ (kk : Nat) (b : Int) (out : List Int), kk ≤ n ∧ n - kk ≤ gg ∧ s12 = .int .i64 kk ∧ s5 = .int .i64 b ∧ Aside0 (impl_Log_up.to l0 kk = some (b, out)) ∧ Aside0 (Kd.R (Kd.int .i64) 3 wr w.heap.size (fun k_ => k_ ≠ w.heap.size) s4 out) ∧ Aside0 (Below w.heap.size w wr) ∧ Aside0 (wr.heap[w.heap.size]? = some (.cells #[.slice A0 n c0] 26 (0, 0))))
    case atStart => exact ⟨0, 0, [], Nat.zero_le _, by omega, rfl, rfl, ⟨rfl⟩, HO1, HB1, BK1⟩
    case round =>
      obtain ⟨kk, b, out, hkk, hg, rfl, rfl, HT, HO, HB2, BK⟩ := hrel
      obtain ⟨Ao, co, rfl⟩ := Kd.R_slice HO.out
      by_cases hlt : kk < n
      · have hltz : (kk : Int) < (n : Int) := by omega
        obtain ⟨ad, e0, hx0, hx1, hx2⟩ := at_T73 HR0.out (kk : Int) (by omega) (by omega)
        cases e0
        simp only [Int.toNat_natCast] at hx0 hx1 hx2
        replace hx0 := (HB2.out.cell (World.block_lt_of_cell? w _ hx0)).trans hx0
        replace hx1 := (HB2.out.cell (World.block_lt_of_cell? w _ hx1)).trans hx1
        replace hx2 := (HB2.out.cell (World.block_lt_of_cell? w _ hx2)).trans hx2
        have HS : Aside0 (impl_Log_up.to l0 (kk + 1) = impl_Log_up.step l0 kk (b, out)) := ⟨by rw [impl_Log_up.to, HT.out]; rfl⟩
        have HI := Aside0.mk (impl_Log_up.to_in HT.out)
        generalize hx : rd_T73 l0 (kk : Int) = x at *
        have HX := Aside0.mk hx
        have HW1 := Aside0.mk (impl_Log_up.within x.f0 b 100000)
        have HW2 := Aside0.mk (impl_Log_up.within x.f1 0 9999)
        have HR2 := Aside0.mk (Kd.C_below HR0.out HB2.out)
        have hfail : Aside0 (impl_Log_up.to l0 (kk + 1) = none → r1 = [] ∧ r2 = false) := ⟨fun h0 => by
          have := HH.out
          rw [impl_Log_up.to_none h0 (by omega)] at this
          simp only [Prod.mk.injEq] at this
          exact ⟨this.1.symm, this.2.symm⟩⟩
        clear hx
        cases hb1 : (decide (b ≤ x.f0) && decide (x.f0 ≤ 100000)) with
        | false =>
          rw [hb1] at HW1
          have h0 := hfail.out (by rw [HS.out]; simp only [impl_Log_up.step, HX.out]; rw [if_pos (by simp only [impl_Log_up.good]; rw [hb1]; rfl)])
          obtain ⟨rfl, rfl⟩ := h0
          clear hb1
          go_wp2_with (first | ((with_reducible refine gate_dst (N := 7) rfl ?_); refine box_event ?hg (N := 7) ?hd (cs := #[.int .i64 0, .int .i64 0, .bool false]) (t := 73) ?hr ?_; (case hd => rfl); (case hg => rfl); (case hr => first | (go_simp; done) | (go_simp; rfl)); intro gb2 hg2 w8 hbox hb8; have HO8 := Aside0.mk (Kd.R_below HO.out hb8); have HB8 := Aside0.mk (below_step HB2.out hb8); have BK8 := Aside0.mk (blk_below BK.out hb8); have BE8 := Aside0.mk hbox; have GE8 := Aside0.mk (show w.heap.size ≤ gb2 by rw [hg2]; exact HB2.out.size); have ST8 := Aside0.mk (impl_Log_up.stored (.int .i64 x.f0) (.int .i64 x.f1) (.bool x.f2) HO8.out HB8.out BK8.out BE8.out GE8.out); have hcz0 : w8.cell? ⟨gb2, 0, none⟩ = some (.int .i64 0) := (blk_cell BE8.out 0).trans rfl; have hcz1 : w8.cell? ⟨gb2, 1, none⟩ = some (.int .i64 0) := (blk_cell BE8.out 1).trans rfl; have hcz2 : w8.cell? ⟨gb2, 2, none⟩ = some (.bool false) := (blk_cell BE8.out 2).trans rfl; have hfz0 := blk_frozen BE8.out 0; have hfz1 := blk_frozen BE8.out 1; have hfz2 := blk_frozen BE8.out 2; clear hb8 hbox hg2) | (go_at_call 79; (with_reducible refine (impl_within.calls _ _ _ _ _ HW1.out).mono ?_); rintro e w9 ⟨rfl, hd9⟩; have HB9 := Aside0.mk (below_step ST8.out.2.1 hd9.below); have HO9 := Aside0.mk (Kd.R_below ST8.out.1 hd9.below); have BK9 := Aside0.mk (blk_below ST8.out.2.2.1 hd9.below); have BE9 := Aside0.mk (blk_below ST8.out.2.2.2 hd9.below); have hc0 : w9.cell? ⟨gb2, 0, none⟩ = some (.int .i64 x.f0) := (blk_cell BE9.out 0).trans rfl; have hc1 : w9.cell? ⟨gb2, 1, none⟩ = some (.int .i64 x.f1) := (blk_cell BE9.out 1).trans rfl; have hc2 : w9.cell? ⟨gb2, 2, none⟩ = some (.bool x.f2) := (blk_cell BE9.out 2).trans rfl; clear hd9))
          go_ret2
          exact ⟨_, rfl, Kd.R_nil _ _ _ _ _, HB9.out⟩
        | true =>
          rw [hb1] at HW1
          cases hb2 : (decide (0 ≤ x.f1) && decide (x.f1 ≤ 9999)) with
          | false =>
            rw [hb2] at HW2
            have h0 := hfail.out (by rw [HS.out]; simp only [impl_Log_up.step, HX.out]; rw [if_pos (by simp only [impl_Log_up.good]; rw [hb1, hb2]; rfl)])
            obtain ⟨rfl, rfl⟩ := h0
            clear hb1 hb2
            go_wp2_with (first | ((with_reducible refine gate_dst (N := 7) rfl ?_); refine box_event ?hg (N := 7) ?hd (cs := #[.int .i64 0, .int .i64 0, .bool false]) (t := 73) ?hr ?_; (case hd => rfl); (case hg => rfl); (case hr => first | (go_simp; done) | (go_simp; rfl)); intro gb2 hg2 w8 hbox hb8; have HO8 := Aside0.mk (Kd.R_below HO.out hb8); have HB8 := Aside0.mk (below_step HB2.out hb8); have BK8 := Aside0.mk (blk_below BK.out hb8); have BE8 := Aside0.mk hbox; have GE8 := Aside0.mk (show w.heap.size ≤ gb2 by rw [hg2]; exact HB2.out.size); have ST8 := Aside0.mk (impl_Log_up.stored (.int .i64 x.f0) (.int .i64 x.f1) (.bool x.f2) HO8.out HB8.out BK8.out BE8.out GE8.out); have hcz0 : w8.cell? ⟨gb2, 0, none⟩ = some (.int .i64 0) := (blk_cell BE8.out 0).trans rfl; have hcz1 : w8.cell? ⟨gb2, 1, none⟩ = some (.int .i64 0) := (blk_cell BE8.out 1).trans rfl; have hcz2 : w8.cell? ⟨gb2, 2, none⟩ = some (.bool false) := (blk_cell BE8.out 2).trans rfl; have hfz0 := blk_frozen BE8.out 0; have hfz1 := blk_frozen BE8.out 1; have hfz2 := blk_frozen BE8.out 2; clear hb8 hbox hg2) | (go_at_call 79; (with_reducible refine (impl_within.calls _ _ _ _ _ HW1.out).mono ?_); rintro e w9 ⟨rfl, hd9⟩; have HB9 := Aside0.mk (below_step ST8.out.2.1 hd9.below); have HO9 := Aside0.mk (Kd.R_below ST8.out.1 hd9.below); have BK9 := Aside0.mk (blk_below ST8.out.2.2.1 hd9.below); have BE9 := Aside0.mk (blk_below ST8.out.2.2.2 hd9.below); have hc0 : w9.cell? ⟨gb2, 0, none⟩ = some (.int .i64 x.f0) := (blk_cell BE9.out 0).trans rfl; have hc1 : w9.cell? ⟨gb2, 1, none⟩ = some (.int .i64 x.f1) := (blk_cell BE9.out 1).trans rfl; have hc2 : w9.cell? ⟨gb2, 2, none⟩ = some (.bool x.f2) := (blk_cell BE9.out 2).trans rfl; clear hd9) | (go_at_call 79; (with_reducible refine (impl_within.calls _ _ _ _ _ HW2.out).mono ?_); rintro e w10 ⟨rfl, hd10⟩; have HB10 := Aside0.mk (below_step HB9.out hd10.below); have HO10 := Aside0.mk (Kd.R_below HO9.out hd10.below); have BK10 := Aside0.mk (blk_below BK9.out hd10.below); have BE10 := Aside0.mk (blk_below BE9.out hd10.below); have hd0 : w10.cell? ⟨gb2, 0, none⟩ = some (.int .i64 x.f0) := (blk_cell BE10.out 0).trans rfl; have hd1 : w10.cell? ⟨gb2, 1, none⟩ = some (.int .i64 x.f1) := (blk_cell BE10.out 1).trans rfl; have hd2 : w10.cell? ⟨gb2, 2, none⟩ = some (.bool x.f2) := (blk_cell BE10.out 2).trans rfl; clear hd10))
            go_ret2
            exact ⟨_, rfl, Kd.R_nil _ _ _ _ _, HB10.out⟩
          | true =>
            rw [hb2] at HW2
            have HKA : Aside0 (idxP (fun n => (rd_T73 l0 n).f1 == x.f1) out = impl_Log_up.at l0 x out) := ⟨rfl⟩
            have hkb := impl_Log_up.idx_lt (fun n => (rd_T73 l0 n).f1 == x.f1) out
            rw [HKA.out] at hkb
            have HG : Aside0 (impl_Log_up.good b x = true) := ⟨by simp only [impl_Log_up.good]; rw [hb1, hb2]; rfl⟩
            have HS2 : Aside0 (impl_Log_up.to l0 (kk + 1) = if decide (impl_Log_up.at l0 x out < 0) = x.f2 then none else if x.f2 = true then some (x.f0, out.eraseIdx (impl_Log_up.at l0 x out).toNat) else some (x.f0, out ++ [(kk : Int)])) := ⟨by
              rw [HS.out]
              simp only [impl_Log_up.step, HX.out, HG.out]
              rfl⟩
            generalize impl_Log_up.at l0 x out = ka at *
            have hkl := HI.out.1
            simp only at hkl
            have hka1 : wrap64 (ka + 1) = ka + 1 := by have := HLn.out; unfold wrap64; omega
            have hka2 : IntKind.i64.wrap (ka + 1) = ka + 1 := by have := hka1; unfold wrap64 at this; rw [IntKind.wrap_i64]; exact this
            clear hb1 hb2
            by_cases hneg : ka < 0
            · have hd : decide (ka < 0) = true := decide_eq_true hneg
              cases hf2 : x.f2 with
              | true =>
                have HF2 := Aside0.mk hf2
                have h0 := hfail.out (by rw [HS2.out, hd, hf2]; rfl)
                obtain ⟨rfl, rfl⟩ := h0
                clear hf2
                go_wp2_with (first | ((with_reducible refine gate_dst (N := 7) rfl ?_); refine box_event ?hg (N := 7) ?hd (cs := #[.int .i64 0, .int .i64 0, .bool false]) (t := 73) ?hr ?_; (case hd => rfl); (case hg => rfl); (case hr => first | (go_simp; done) | (go_simp; rfl)); intro gb2 hg2 w8 hbox hb8; have HO8 := Aside0.mk (Kd.R_below HO.out hb8); have HB8 := Aside0.mk (below_step HB2.out hb8); have BK8 := Aside0.mk (blk_below BK.out hb8); have BE8 := Aside0.mk hbox; have GE8 := Aside0.mk (show w.heap.size ≤ gb2 by rw [hg2]; exact HB2.out.size); have ST8 := Aside0.mk (impl_Log_up.stored (.int .i64 x.f0) (.int .i64 x.f1) (.bool x.f2) HO8.out HB8.out BK8.out BE8.out GE8.out); have hcz0 : w8.cell? ⟨gb2, 0, none⟩ = some (.int .i64 0) := (blk_cell BE8.out 0).trans rfl; have hcz1 : w8.cell? ⟨gb2, 1, none⟩ = some (.int .i64 0) := (blk_cell BE8.out 1).trans rfl; have hcz2 : w8.cell? ⟨gb2, 2, none⟩ = some (.bool false) := (blk_cell BE8.out 2).trans rfl; have hfz0 := blk_frozen BE8.out 0; have hfz1 := blk_frozen BE8.out 1; have hfz2 := blk_frozen BE8.out 2; clear hb8 hbox hg2) | (go_at_call 79; (with_reducible refine (impl_within.calls _ _ _ _ _ HW1.out).mono ?_); rintro e w9 ⟨rfl, hd9⟩; have HB9 := Aside0.mk (below_step ST8.out.2.1 hd9.below); have HO9 := Aside0.mk (Kd.R_below ST8.out.1 hd9.below); have BK9 := Aside0.mk (blk_below ST8.out.2.2.1 hd9.below); have BE9 := Aside0.mk (blk_below ST8.out.2.2.2 hd9.below); have hc0 : w9.cell? ⟨gb2, 0, none⟩ = some (.int .i64 x.f0) := (blk_cell BE9.out 0).trans rfl; have hc1 : w9.cell? ⟨gb2, 1, none⟩ = some (.int .i64 x.f1) := (blk_cell BE9.out 1).trans rfl; have hc2 : w9.cell? ⟨gb2, 2, none⟩ = some (.bool x.f2) := (blk_cell BE9.out 2).trans rfl; clear hd9) | (go_at_call 79; (with_reducible refine (impl_within.calls _ _ _ _ _ HW2.out).mono ?_); rintro e w10 ⟨rfl, hd10⟩; have HB10 := Aside0.mk (below_step HB9.out hd10.below); have HO10 := Aside0.mk (Kd.R_below HO9.out hd10.below); have BK10 := Aside0.mk (blk_below BK9.out hd10.below); have BE10 := Aside0.mk (blk_below BE9.out hd10.below); have hd0 : w10.cell? ⟨gb2, 0, none⟩ = some (.int .i64 x.f0) := (blk_cell BE10.out 0).trans rfl; have hd1 : w10.cell? ⟨gb2, 1, none⟩ = some (.int .i64 x.f1) := (blk_cell BE10.out 1).trans rfl; have hd2 : w10.cell? ⟨gb2, 2, none⟩ = some (.bool x.f2) := (blk_cell BE10.out 2).trans rfl; clear hd10) | (go_at_call 117; refine (slices_IndexFunc_int_int.calls Ao co out _ #[.pointer (some ⟨w.heap.size, 0, none⟩), .pointer (some ⟨gb2, 0, none⟩)] eg (fun n => (rd_T73 l0 n).f1 == x.f1) _ (Kd.R_reads' HO10.out).2.2 (Kd.R_reads' HO10.out).2.1 (fun W hW m hm => (impl_Log_up.test _ _ _ c0 l0 x m n W (blk_below BK10.out hW) (blk_below BE10.out hW) (Kd.C_below (Kd.C_below HR0.out HB10.out) hW) (HI.out.2 m hm).1 (by have := (HI.out.2 m hm).2; omega)).mono (fun _ _ h => ⟨h.1, below_then hW hW.size h.2⟩))).mono ?_; rintro e w11 ⟨he11, hb11⟩; rw [HKA.out] at he11; subst he11; have HB11 := Aside0.mk (below_step HB10.out hb11); have HO11 := Aside0.mk (Kd.R_below HO10.out hb11); have BK11 := Aside0.mk (blk_below BK10.out hb11); have BE11 := Aside0.mk (blk_below BE10.out hb11); have he2 : w11.cell? ⟨gb2, 2, none⟩ = some (.bool x.f2) := (blk_cell BE11.out 2).trans rfl; rw [HF2.out] at he2; clear hb11))
                go_ret2
                exact ⟨_, rfl, Kd.R_nil _ _ _ _ _, HB11.out⟩
              | false =>
                have HF2 := Aside0.mk hf2
                clear hf2
                go_wp2_with (first | ((with_reducible refine gate_dst (N := 7) rfl ?_); refine box_event ?hg (N := 7) ?hd (cs := #[.int .i64 0, .int .i64 0, .bool false]) (t := 73) ?hr ?_; (case hd => rfl); (case hg => rfl); (case hr => first | (go_simp; done) | (go_simp; rfl)); intro gb2 hg2 w8 hbox hb8; have HO8 := Aside0.mk (Kd.R_below HO.out hb8); have HB8 := Aside0.mk (below_step HB2.out hb8); have BK8 := Aside0.mk (blk_below BK.out hb8); have BE8 := Aside0.mk hbox; have GE8 := Aside0.mk (show w.heap.size ≤ gb2 by rw [hg2]; exact HB2.out.size); have ST8 := Aside0.mk (impl_Log_up.stored (.int .i64 x.f0) (.int .i64 x.f1) (.bool x.f2) HO8.out HB8.out BK8.out BE8.out GE8.out); have hcz0 : w8.cell? ⟨gb2, 0, none⟩ = some (.int .i64 0) := (blk_cell BE8.out 0).trans rfl; have hcz1 : w8.cell? ⟨gb2, 1, none⟩ = some (.int .i64 0) := (blk_cell BE8.out 1).trans rfl; have hcz2 : w8.cell? ⟨gb2, 2, none⟩ = some (.bool false) := (blk_cell BE8.out 2).trans rfl; have hfz0 := blk_frozen BE8.out 0; have hfz1 := blk_frozen BE8.out 1; have hfz2 := blk_frozen BE8.out 2; clear hb8 hbox hg2) | (go_at_call 79; (with_reducible refine (impl_within.calls _ _ _ _ _ HW1.out).mono ?_); rintro e w9 ⟨rfl, hd9⟩; have HB9 := Aside0.mk (below_step ST8.out.2.1 hd9.below); have HO9 := Aside0.mk (Kd.R_below ST8.out.1 hd9.below); have BK9 := Aside0.mk (blk_below ST8.out.2.2.1 hd9.below); have BE9 := Aside0.mk (blk_below ST8.out.2.2.2 hd9.below); have hc0 : w9.cell? ⟨gb2, 0, none⟩ = some (.int .i64 x.f0) := (blk_cell BE9.out 0).trans rfl; have hc1 : w9.cell? ⟨gb2, 1, none⟩ = some (.int .i64 x.f1) := (blk_cell BE9.out 1).trans rfl; have hc2 : w9.cell? ⟨gb2, 2, none⟩ = some (.bool x.f2) := (blk_cell BE9.out 2).trans rfl; clear hd9) | (go_at_call 79; (with_reducible refine (impl_within.calls _ _ _ _ _ HW2.out).mono ?_); rintro e w10 ⟨rfl, hd10⟩; have HB10 := Aside0.mk (below_step HB9.out hd10.below); have HO10 := Aside0.mk (Kd.R_below HO9.out hd10.below); have BK10 := Aside0.mk (blk_below BK9.out hd10.below); have BE10 := Aside0.mk (blk_below BE9.out hd10.below); have hd0 : w10.cell? ⟨gb2, 0, none⟩ = some (.int .i64 x.f0) := (blk_cell BE10.out 0).trans rfl; have hd1 : w10.cell? ⟨gb2, 1, none⟩ = some (.int .i64 x.f1) := (blk_cell BE10.out 1).trans rfl; have hd2 : w10.cell? ⟨gb2, 2, none⟩ = some (.bool x.f2) := (blk_cell BE10.out 2).trans rfl; clear hd10) | (go_at_call 117; refine (slices_IndexFunc_int_int.calls Ao co out _ #[.pointer (some ⟨w.heap.size, 0, none⟩), .pointer (some ⟨gb2, 0, none⟩)] eg (fun n => (rd_T73 l0 n).f1 == x.f1) _ (Kd.R_reads' HO10.out).2.2 (Kd.R_reads' HO10.out).2.1 (fun W hW m hm => (impl_Log_up.test _ _ _ c0 l0 x m n W (blk_below BK10.out hW) (blk_below BE10.out hW) (Kd.C_below (Kd.C_below HR0.out HB10.out) hW) (HI.out.2 m hm).1 (by have := (HI.out.2 m hm).2; omega)).mono (fun _ _ h => ⟨h.1, below_then hW hW.size h.2⟩))).mono ?_; rintro e w11 ⟨he11, hb11⟩; rw [HKA.out] at he11; subst he11; have HB11 := Aside0.mk (below_step HB10.out hb11); have HO11 := Aside0.mk (Kd.R_below HO10.out hb11); have BK11 := Aside0.mk (blk_below BK10.out hb11); have BE11 := Aside0.mk (blk_below BE10.out hb11); have he2 : w11.cell? ⟨gb2, 2, none⟩ = some (.bool x.f2) := (blk_cell BE11.out 2).trans rfl; rw [HF2.out] at he2; clear hb11) | ((with_reducible refine gate_builtin (b := .append) (xs := #[.tmp 33, .tmp 35]) rfl ?_); at_builtin; refine Kd.R_append (Kd.int .i64) (w0 := w) w.heap.size rfl (.tmp 33) (.tmp 35) 77 3 (.int .i64 0) 8 rfl Try.underlying77 info3 rfl (by decide) (by omega) _ out (kk : Int) [.int .i64 (kk : Int)] (fun k_ => k_ ≠ w.heap.size) (fun _ => False) rfl (by first | (go_simp; done) | (go_simp; rfl)) ?aP (fun _ hk => hk.elim) ?aF ?aO ?aB ?aS ?aL ?_; (case aP => exact rfl); (case aB => exact HB11.out); (case aF => exact (fun k_ hk => by have := blk_lt BK11.out; omega)); (case aO => exact HO11.out); (case aS => exact HB11.out.size); (case aL => have := HLn.out; omega); intro v12 w12 ho12 hb12 hg12 hat12; have HB12 := Aside0.mk hb12; have HO12 := Aside0.mk ho12; have BK12 := Aside0.mk (blk_grown BK11.out hg12 (fun e => HO11.out.1 _ e.symm rfl)); clear ho12 hb12 hg12 hat12))
                go_roundg (n - (kk + 1))
                case measure => omega
                case rel => have := HLn.out; exact ⟨kk + 1, x.f0, out ++ [(kk : Int)], by omega, by omega, by rw [show ((kk + 1 : Nat) : Int) = wrap64 ((kk : Int) + 1) from by unfold wrap64; omega], rfl, ⟨by rw [HS2.out, hd, HF2.out]; rfl⟩, HO12, HB12, BK12⟩
            · have hd : decide (ka < 0) = false := decide_eq_false hneg
              cases hf2 : x.f2 with
              | false =>
                have HF2 := Aside0.mk hf2
                have h0 := hfail.out (by rw [HS2.out, hd, hf2]; rfl)
                obtain ⟨rfl, rfl⟩ := h0
                clear hf2
                go_wp2_with (first | ((with_reducible refine gate_dst (N := 7) rfl ?_); refine box_event ?hg (N := 7) ?hd (cs := #[.int .i64 0, .int .i64 0, .bool false]) (t := 73) ?hr ?_; (case hd => rfl); (case hg => rfl); (case hr => first | (go_simp; done) | (go_simp; rfl)); intro gb2 hg2 w8 hbox hb8; have HO8 := Aside0.mk (Kd.R_below HO.out hb8); have HB8 := Aside0.mk (below_step HB2.out hb8); have BK8 := Aside0.mk (blk_below BK.out hb8); have BE8 := Aside0.mk hbox; have GE8 := Aside0.mk (show w.heap.size ≤ gb2 by rw [hg2]; exact HB2.out.size); have ST8 := Aside0.mk (impl_Log_up.stored (.int .i64 x.f0) (.int .i64 x.f1) (.bool x.f2) HO8.out HB8.out BK8.out BE8.out GE8.out); have hcz0 : w8.cell? ⟨gb2, 0, none⟩ = some (.int .i64 0) := (blk_cell BE8.out 0).trans rfl; have hcz1 : w8.cell? ⟨gb2, 1, none⟩ = some (.int .i64 0) := (blk_cell BE8.out 1).trans rfl; have hcz2 : w8.cell? ⟨gb2, 2, none⟩ = some (.bool false) := (blk_cell BE8.out 2).trans rfl; have hfz0 := blk_frozen BE8.out 0; have hfz1 := blk_frozen BE8.out 1; have hfz2 := blk_frozen BE8.out 2; clear hb8 hbox hg2) | (go_at_call 79; (with_reducible refine (impl_within.calls _ _ _ _ _ HW1.out).mono ?_); rintro e w9 ⟨rfl, hd9⟩; have HB9 := Aside0.mk (below_step ST8.out.2.1 hd9.below); have HO9 := Aside0.mk (Kd.R_below ST8.out.1 hd9.below); have BK9 := Aside0.mk (blk_below ST8.out.2.2.1 hd9.below); have BE9 := Aside0.mk (blk_below ST8.out.2.2.2 hd9.below); have hc0 : w9.cell? ⟨gb2, 0, none⟩ = some (.int .i64 x.f0) := (blk_cell BE9.out 0).trans rfl; have hc1 : w9.cell? ⟨gb2, 1, none⟩ = some (.int .i64 x.f1) := (blk_cell BE9.out 1).trans rfl; have hc2 : w9.cell? ⟨gb2, 2, none⟩ = some (.bool x.f2) := (blk_cell BE9.out 2).trans rfl; clear hd9) | (go_at_call 79; (with_reducible refine (impl_within.calls _ _ _ _ _ HW2.out).mono ?_); rintro e w10 ⟨rfl, hd10⟩; have HB10 := Aside0.mk (below_step HB9.out hd10.below); have HO10 := Aside0.mk (Kd.R_below HO9.out hd10.below); have BK10 := Aside0.mk (blk_below BK9.out hd10.below); have BE10 := Aside0.mk (blk_below BE9.out hd10.below); have hd0 : w10.cell? ⟨gb2, 0, none⟩ = some (.int .i64 x.f0) := (blk_cell BE10.out 0).trans rfl; have hd1 : w10.cell? ⟨gb2, 1, none⟩ = some (.int .i64 x.f1) := (blk_cell BE10.out 1).trans rfl; have hd2 : w10.cell? ⟨gb2, 2, none⟩ = some (.bool x.f2) := (blk_cell BE10.out 2).trans rfl; clear hd10) | (go_at_call 117; refine (slices_IndexFunc_int_int.calls Ao co out _ #[.pointer (some ⟨w.heap.size, 0, none⟩), .pointer (some ⟨gb2, 0, none⟩)] eg (fun n => (rd_T73 l0 n).f1 == x.f1) _ (Kd.R_reads' HO10.out).2.2 (Kd.R_reads' HO10.out).2.1 (fun W hW m hm => (impl_Log_up.test _ _ _ c0 l0 x m n W (blk_below BK10.out hW) (blk_below BE10.out hW) (Kd.C_below (Kd.C_below HR0.out HB10.out) hW) (HI.out.2 m hm).1 (by have := (HI.out.2 m hm).2; omega)).mono (fun _ _ h => ⟨h.1, below_then hW hW.size h.2⟩))).mono ?_; rintro e w11 ⟨he11, hb11⟩; rw [HKA.out] at he11; subst he11; have HB11 := Aside0.mk (below_step HB10.out hb11); have HO11 := Aside0.mk (Kd.R_below HO10.out hb11); have BK11 := Aside0.mk (blk_below BK10.out hb11); have BE11 := Aside0.mk (blk_below BE10.out hb11); have he2 : w11.cell? ⟨gb2, 2, none⟩ = some (.bool x.f2) := (blk_cell BE11.out 2).trans rfl; rw [HF2.out] at he2; clear hb11))
                go_ret2
                exact ⟨_, rfl, Kd.R_nil _ _ _ _ _, HB11.out⟩
              | true =>
                have HF2 := Aside0.mk hf2
                clear hf2
                have HDE : Aside0 (slices_Delete_int_int.f out ka (ka + 1) = some (out.eraseIdx ka.toNat)) := ⟨by unfold slices_Delete_int_int.f; rw [if_pos ⟨by omega, by omega, rfl⟩]⟩
                go_wp2_with (first | ((with_reducible refine gate_dst (N := 7) rfl ?_); refine box_event ?hg (N := 7) ?hd (cs := #[.int .i64 0, .int .i64 0, .bool false]) (t := 73) ?hr ?_; (case hd => rfl); (case hg => rfl); (case hr => first | (go_simp; done) | (go_simp; rfl)); intro gb2 hg2 w8 hbox hb8; have HO8 := Aside0.mk (Kd.R_below HO.out hb8); have HB8 := Aside0.mk (below_step HB2.out hb8); have BK8 := Aside0.mk (blk_below BK.out hb8); have BE8 := Aside0.mk hbox; have GE8 := Aside0.mk (show w.heap.size ≤ gb2 by rw [hg2]; exact HB2.out.size); have ST8 := Aside0.mk (impl_Log_up.stored (.int .i64 x.f0) (.int .i64 x.f1) (.bool x.f2) HO8.out HB8.out BK8.out BE8.out GE8.out); have hcz0 : w8.cell? ⟨gb2, 0, none⟩ = some (.int .i64 0) := (blk_cell BE8.out 0).trans rfl; have hcz1 : w8.cell? ⟨gb2, 1, none⟩ = some (.int .i64 0) := (blk_cell BE8.out 1).trans rfl; have hcz2 : w8.cell? ⟨gb2, 2, none⟩ = some (.bool false) := (blk_cell BE8.out 2).trans rfl; have hfz0 := blk_frozen BE8.out 0; have hfz1 := blk_frozen BE8.out 1; have hfz2 := blk_frozen BE8.out 2; clear hb8 hbox hg2) | (go_at_call 79; (with_reducible refine (impl_within.calls _ _ _ _ _ HW1.out).mono ?_); rintro e w9 ⟨rfl, hd9⟩; have HB9 := Aside0.mk (below_step ST8.out.2.1 hd9.below); have HO9 := Aside0.mk (Kd.R_below ST8.out.1 hd9.below); have BK9 := Aside0.mk (blk_below ST8.out.2.2.1 hd9.below); have BE9 := Aside0.mk (blk_below ST8.out.2.2.2 hd9.below); have hc0 : w9.cell? ⟨gb2, 0, none⟩ = some (.int .i64 x.f0) := (blk_cell BE9.out 0).trans rfl; have hc1 : w9.cell? ⟨gb2, 1, none⟩ = some (.int .i64 x.f1) := (blk_cell BE9.out 1).trans rfl; have hc2 : w9.cell? ⟨gb2, 2, none⟩ = some (.bool x.f2) := (blk_cell BE9.out 2).trans rfl; clear hd9) | (go_at_call 79; (with_reducible refine (impl_within.calls _ _ _ _ _ HW2.out).mono ?_); rintro e w10 ⟨rfl, hd10⟩; have HB10 := Aside0.mk (below_step HB9.out hd10.below); have HO10 := Aside0.mk (Kd.R_below HO9.out hd10.below); have BK10 := Aside0.mk (blk_below BK9.out hd10.below); have BE10 := Aside0.mk (blk_below BE9.out hd10.below); have hd0 : w10.cell? ⟨gb2, 0, none⟩ = some (.int .i64 x.f0) := (blk_cell BE10.out 0).trans rfl; have hd1 : w10.cell? ⟨gb2, 1, none⟩ = some (.int .i64 x.f1) := (blk_cell BE10.out 1).trans rfl; have hd2 : w10.cell? ⟨gb2, 2, none⟩ = some (.bool x.f2) := (blk_cell BE10.out 2).trans rfl; clear hd10) | (go_at_call 117; refine (slices_IndexFunc_int_int.calls Ao co out _ #[.pointer (some ⟨w.heap.size, 0, none⟩), .pointer (some ⟨gb2, 0, none⟩)] eg (fun n => (rd_T73 l0 n).f1 == x.f1) _ (Kd.R_reads' HO10.out).2.2 (Kd.R_reads' HO10.out).2.1 (fun W hW m hm => (impl_Log_up.test _ _ _ c0 l0 x m n W (blk_below BK10.out hW) (blk_below BE10.out hW) (Kd.C_below (Kd.C_below HR0.out HB10.out) hW) (HI.out.2 m hm).1 (by have := (HI.out.2 m hm).2; omega)).mono (fun _ _ h => ⟨h.1, below_then hW hW.size h.2⟩))).mono ?_; rintro e w11 ⟨he11, hb11⟩; rw [HKA.out] at he11; subst he11; have HB11 := Aside0.mk (below_step HB10.out hb11); have HO11 := Aside0.mk (Kd.R_below HO10.out hb11); have BK11 := Aside0.mk (blk_below BK10.out hb11); have BE11 := Aside0.mk (blk_below BE10.out hb11); have he2 : w11.cell? ⟨gb2, 2, none⟩ = some (.bool x.f2) := (blk_cell BE11.out 2).trans rfl; rw [HF2.out] at he2; clear hb11) | (go_at_call 119; refine (slices_Delete_int_int.calls (fun k_ => k_ ≠ w.heap.size) _ out ka (ka + 1) _ w _ HB11.out HO11.out HDE.out).mono ?_; rintro e w12 ⟨v12, rfl, ho12, hb12, hk12⟩; have HB12 := Aside0.mk hb12; have HO12 := Aside0.mk (Kd.R_mono ho12 (ok' := fun k_ => k_ ≠ w.heap.size) (fun k hk => hk.elim id (fun h => by have := blk_lt BK11.out; omega))); have BK12 := Aside0.mk (blk_kept BK11.out hk12 (fun h => h rfl)); clear ho12 hb12 hk12))
                go_roundg (n - (kk + 1))
                case measure => omega
                case rel => have := HLn.out; exact ⟨kk + 1, x.f0, out.eraseIdx ka.toNat, by omega, by omega, by rw [show ((kk + 1 : Nat) : Int) = wrap64 ((kk : Int) + 1) from by unfold wrap64; omega], rfl, ⟨by rw [HS2.out, hd, HF2.out]; rfl⟩, HO12, HB12, BK12⟩
      · have hltz : ¬ (kk : Int) < (n : Int) := by omega
        have : kk = n := by omega
        subst this
        have hz2 := (blk_cell BK.out 0).trans rfl
        have hr : out = r1 ∧ decide ((kk : Int) ≤ 60) = r2 := by
          have := HH.out
          rw [HT.out] at this
          simpa using this
        obtain ⟨rfl, rfl⟩ := hr
        go_wp2
        go_region
        rename_i hK
        refine hK _ _ ?_
        clear hK
        go_wp2
        go_ret2
        exact ⟨_, rfl, Kd.R_mono (Kd.R_drew HO.out) (fun _ _ => trivial), below_drew1 HB2.out⟩
  · rw [if_neg hL] at h
    cases h
end Go.Proofs.Ytidkniacmcbgiaa.G
end

section
namespace Go.Proofs.Ytidkniacmcbgiaa.G
open Go.RowKit Go.Proofs.YtidkniacmcbgiaaW.PrintWords Go.Proofs.YtidkniacmcbgiaaW.PrintLast Go.Proofs.YtidkniacmcbgiaaW.PrintMore
attribute [local go_sem] max2_int min2_int max_two min_two max_three min_three max_four min_four
set_option linter.unusedVariables false
set_option linter.unusedSimpArgs false
def impl_ValidLog.f (l0 : List (S73)) : Option (Bool) := (impl_Log_up.f l0).bind fun bt101 => (some bt101.2)
set_option maxHeartbeats 8000000 in
set_option maxRecDepth 100000 in
theorem impl_ValidLog.calls (A0 : Option Addr) (c0 : Nat) (l0 : List (S73)) (r : Bool) (w : World) (hr0 : Kd.C k73 w A0 l0.length l0) (hc0 : l0.length ≤ c0) (h : impl_ValidLog.f l0 = some r) :
  Calls Try.prog 25 #[.slice A0 l0.length c0] w fun e w' => e = .returned (.bool r) ∧ Below w.heap.size w w' := by
 have HR0 := Aside0.mk hr0;have HC0 := Aside0.mk hc0;clear hr0 hc0;have HB := Aside0.mk (Below.refl w.heap.size w);have H : ((impl_Log_up.f l0).bind fun bt101 => (some bt101.2)) = some r := h;clear h;replace H := Option.bind_eq_some_iff.mp H;obtain ⟨⟨t101,t102⟩,A20,H⟩ := H;replace H : (some t102) = some r := H;have A2 := Aside0.mk A20;clear A20;obtain rfl := Option.some.inj H
 go_enter Try.func25,Try.ntmps25
 go_wp2_with (first | ((with_reducible refine gate_callee (f := 75) rfl ?_);refine goesL_ (some 7) rfl rfl Try.func75 (by kernel_rfl) rfl #[.slice A0 l0.length c0] rfl (by (try simp only [List.map_toArray,List.map_cons,List.map_nil]);first | done | rfl | (simp only [List.length_drop,List.length_take];rfl)) ?_;(with_reducible refine (impl_Log_up.calls _ _ l0 t101 t102 _ ?side1 ?side2 A2.out).mono ?_);(case side1 => repeat (first | exact HR0.out | (with_reducible refine Kd.C_alloc ?_ _) | (with_reducible refine Kd.C_drewN ?_ _) | (with_reducible refine Kd.C_drew ?_)));(case side2 => exact HC0.out);rintro e w3 ⟨v103,rfl,ho0,hb⟩;refine ⟨_,rfl,?_⟩;have n0_ := Aside0.mk (Kd.R_lower ho0 (below_size (by repeat (first | (with_reducible first | exact HB.out | apply below_alloc | apply pw_below_drewN | apply below_drew1) | exact HB.out))));have n1_ := Aside0.mk (below_step (by repeat (first | (with_reducible first | exact HB.out | apply below_alloc | apply pw_below_drewN | apply below_drew1) | exact HB.out)) hb);clear HB;have HO104 := n0_;have HB := n1_;clear n0_ n1_;(try clear hb);(try clear hb2);(try clear hk);(try clear hi);(try clear ho0)))
 go_ret
 exact ⟨by first | rfl | (simp [errW_none,errW_some,IntKind.wrap_i64,wrap64];done) | (simp [errW_none,errW_some] <;> rfl) | (simp [*,errW_none,errW_some] <;> rfl),by repeat (first | (with_reducible first | exact HB.out | apply below_alloc | apply pw_below_drewN | apply below_drew1) | exact HB.out)⟩
end Go.Proofs.Ytidkniacmcbgiaa.G
end

section
namespace Go.Proofs.Ytidkniacmcbgiaa.G
open Go.RowKit Go.Proofs.YtidkniacmcbgiaaW.PrintWords Go.Proofs.YtidkniacmcbgiaaW.PrintLast Go.Proofs.YtidkniacmcbgiaaW.PrintMore
attribute [local go_sem] max2_int min2_int max_two min_two max_three min_three max_four min_four
set_option linter.unusedVariables false
set_option linter.unusedSimpArgs false
def impl_unless.f (a0 : Bool) (a1 : Int) : Option (Int) := if a0 = true then (some 0) else (some a1)
set_option maxHeartbeats 8000000 in
set_option maxRecDepth 100000 in
theorem impl_unless.calls (a0 : Bool) (a1 : Int) (r : Int) (w : World) (h : impl_unless.f a0 a1 = some r) :
  Calls Try.prog 104 #[.bool a0,.int .i64 a1] w fun e w' => e = .returned (.int .i64 r) ∧ Drawn0 w w' := by
 have H : (if a0 = true then (some 0) else (some a1)) = some r := h;clear h
 by_cases c3 : a0 = true
 ·subst c3
  have H1 : (some 0) = some r := by rw [if_pos rfl] at H;exact H
  clear H;have H := H1;clear H1;obtain rfl := Option.some.inj H
  go_enter Try.func104,Try.ntmps104
  go_wp2
  go_ret
  exact ⟨by first | rfl | (simp only [IntKind.wrap_i64,wrap64];done) | (simp;done) | (simp [*];done),by repeat (first | exact Drawn0.refl _ | apply Drawn0.step)⟩
 ·replace c3 := Bool.eq_false_iff.mpr c3;subst c3
  have H1 : (some a1) = some r := by rw [if_neg (show ¬ (false = true) by decide)] at H;exact H
  clear H;have H := H1;clear H1;obtain rfl := Option.some.inj H
  go_enter Try.func104,Try.ntmps104
  go_wp2
  go_ret
  exact ⟨by first | rfl | (simp only [IntKind.wrap_i64,wrap64];done) | (simp;done) | (simp [*];done),by repeat (first | exact Drawn0.refl _ | apply Drawn0.step)⟩
end Go.Proofs.Ytidkniacmcbgiaa.G
end

section
namespace Go.Proofs.Ytidkniacmcbgiaa.G
open Go.RowKit Go.Proofs.YtidkniacmcbgiaaW.PrintWords Go.Proofs.YtidkniacmcbgiaaW.PrintLast Go.Proofs.YtidkniacmcbgiaaW.PrintMore
attribute [local go_sem] max2_int min2_int max_two min_two max_three min_three max_four min_four
set_option linter.unusedVariables false
set_option linter.unusedSimpArgs false
def impl_logsCode.f (l0 : List (S73)) (l1 : List (S73)) : Option (Int) := (impl_ValidLog.f l0).bind fun t101 => (if t101 = true then ((impl_ValidLog.f l1).bind fun t102 => ((impl_unless.f t102 1).bind fun t103 => (some t103))) else ((impl_unless.f false 1).bind fun t104 => (some t104)))
set_option maxHeartbeats 8000000 in
set_option maxRecDepth 100000 in
theorem impl_logsCode.calls (A0 : Option Addr) (c0 : Nat) (l0 : List (S73)) (A1 : Option Addr) (c1 : Nat) (l1 : List (S73)) (r : Int) (w : World) (hr0 : Kd.C k73 w A0 l0.length l0) (hc0 : l0.length ≤ c0) (hr1 : Kd.C k73 w A1 l1.length l1) (hc1 : l1.length ≤ c1) (h : impl_logsCode.f l0 l1 = some r) :
  Calls Try.prog 86 #[.slice A0 l0.length c0,.slice A1 l1.length c1] w fun e w' => e = .returned (.int .i64 r) ∧ Below w.heap.size w w' := by
 have HR0 := Aside0.mk hr0;have HC0 := Aside0.mk hc0;clear hr0 hc0;have HR1 := Aside0.mk hr1;have HC1 := Aside0.mk hc1;clear hr1 hc1;have HB := Aside0.mk (Below.refl w.heap.size w);have H : ((impl_ValidLog.f l0).bind fun t101 => (if t101 = true then ((impl_ValidLog.f l1).bind fun t102 => ((impl_unless.f t102 1).bind fun t103 => (some t103))) else ((impl_unless.f false 1).bind fun t104 => (some t104)))) = some r := h;clear h;replace H := Option.bind_eq_some_iff.mp H;obtain ⟨t101,A30,H⟩ := H;replace H : (if t101 = true then ((impl_ValidLog.f l1).bind fun t102 => ((impl_unless.f t102 1).bind fun t103 => (some t103))) else ((impl_unless.f false 1).bind fun t104 => (some t104))) = some r := H;have A3 := Aside0.mk A30;clear A30
 by_cases c4 : t101 = true
 ·subst c4
  have H1 : ((impl_ValidLog.f l1).bind fun t102 => ((impl_unless.f t102 1).bind fun t103 => (some t103))) = some r := by rw [if_pos rfl] at H;exact H
  clear H;have H := H1;clear H1;replace H := Option.bind_eq_some_iff.mp H;obtain ⟨t102,A50,H⟩ := H;replace H : ((impl_unless.f t102 1).bind fun t103 => (some t103)) = some r := H;have A5 := Aside0.mk A50;clear A50;replace H := Option.bind_eq_some_iff.mp H;obtain ⟨t103,A60,H⟩ := H;replace H : (some t103) = some r := H;have A6 := Aside0.mk A60;clear A60;obtain rfl := Option.some.inj H
  go_enter Try.func86,Try.ntmps86
  go_wp2_with (first | ((with_reducible refine gate_callee (f := 25) rfl ?_);refine goesL_ (some 6) rfl rfl Try.func25 (by kernel_rfl) rfl #[.slice A0 l0.length c0] rfl (by (try simp only [List.map_toArray,List.map_cons,List.map_nil]);first | done | rfl | (simp only [List.length_drop,List.length_take];rfl)) ?_;(with_reducible refine (impl_ValidLog.calls _ _ l0 true _ ?side1 ?side2 A3.out).mono ?_);(case side1 => repeat (first | exact HR0.out | (with_reducible refine Kd.C_alloc ?_ _) | (with_reducible refine Kd.C_drewN ?_ _) | (with_reducible refine Kd.C_drew ?_)));(case side2 => exact HC0.out);rintro e w7 ⟨rfl,hb⟩;refine ⟨_,rfl,?_⟩;have n0_ := Aside0.mk (below_step (by repeat (first | (with_reducible first | exact HB.out | apply below_alloc | apply pw_below_drewN | apply below_drew1) | exact HB.out)) hb);clear HB;have HB := n0_;clear n0_;(try clear hb);(try clear hb2);(try clear hk);(try clear hi)) | (go_at_call 25;(with_reducible refine (impl_ValidLog.calls _ _ l1 t102 _ ?side1 ?side2 A5.out).mono ?_);(case side1 => repeat (first | exact (Kd.C_below HR1.out HB.out) | (with_reducible refine Kd.C_alloc ?_ _) | (with_reducible refine Kd.C_drewN ?_ _) | (with_reducible refine Kd.C_drew ?_)));(case side2 => exact HC1.out);rintro e w8 ⟨rfl,hb⟩;have n0_ := Aside0.mk (below_step (by repeat (first | (with_reducible first | exact HB.out | apply below_alloc | apply pw_below_drewN | apply below_drew1) | exact HB.out)) hb);clear HB;have HB := n0_;clear n0_;(try clear hb);(try clear hb2);(try clear hk);(try clear hi)) | ((with_reducible refine gate_callee (f := 104) rfl ?_);refine goesL_ (some 11) rfl rfl Try.func104 (by kernel_rfl) rfl #[.bool t102,.int .i64 1] rfl (by (try simp only [List.map_toArray,List.map_cons,List.map_nil]);first | done | rfl | (simp only [List.length_drop,List.length_take];rfl)) ?_;(with_reducible refine (impl_unless.calls t102 1 t103 _ A6.out).mono ?_);rintro e w' ⟨rfl,⟨nd,rfl⟩⟩;refine ⟨_,rfl,?_⟩))
  go_ret
  exact ⟨by first | rfl | (simp [errW_none,errW_some,IntKind.wrap_i64,wrap64];done) | (simp [errW_none,errW_some] <;> rfl) | (simp [*,errW_none,errW_some] <;> rfl),by repeat (first | (with_reducible first | exact HB.out | apply below_alloc | apply pw_below_drewN | apply below_drew1) | exact HB.out)⟩
 ·replace c4 := Bool.eq_false_iff.mpr c4;subst c4
  have H1 : ((impl_unless.f false 1).bind fun t104 => (some t104)) = some r := by rw [if_neg (show ¬ (false = true) by decide)] at H;exact H
  clear H;have H := H1;clear H1;replace H := Option.bind_eq_some_iff.mp H;obtain ⟨t104,A90,H⟩ := H;replace H : (some t104) = some r := H;have A9 := Aside0.mk A90;clear A90;obtain rfl := Option.some.inj H
  go_enter Try.func86,Try.ntmps86
  go_wp2_with (first | ((with_reducible refine gate_callee (f := 25) rfl ?_);refine goesL_ (some 6) rfl rfl Try.func25 (by kernel_rfl) rfl #[.slice A0 l0.length c0] rfl (by (try simp only [List.map_toArray,List.map_cons,List.map_nil]);first | done | rfl | (simp only [List.length_drop,List.length_take];rfl)) ?_;(with_reducible refine (impl_ValidLog.calls _ _ l0 false _ ?side1 ?side2 A3.out).mono ?_);(case side1 => repeat (first | exact HR0.out | (with_reducible refine Kd.C_alloc ?_ _) | (with_reducible refine Kd.C_drewN ?_ _) | (with_reducible refine Kd.C_drew ?_)));(case side2 => exact HC0.out);rintro e w10 ⟨rfl,hb⟩;refine ⟨_,rfl,?_⟩;have n0_ := Aside0.mk (below_step (by repeat (first | (with_reducible first | exact HB.out | apply below_alloc | apply pw_below_drewN | apply below_drew1) | exact HB.out)) hb);clear HB;have HB := n0_;clear n0_;(try clear hb);(try clear hb2);(try clear hk);(try clear hi)) | ((with_reducible refine gate_callee (f := 104) rfl ?_);refine goesL_ (some 11) rfl rfl Try.func104 (by kernel_rfl) rfl #[.bool false,.int .i64 1] rfl (by (try simp only [List.map_toArray,List.map_cons,List.map_nil]);first | done | rfl | (simp only [List.length_drop,List.length_take];rfl)) ?_;(with_reducible refine (impl_unless.calls false 1 t104 _ A9.out).mono ?_);rintro e w' ⟨rfl,⟨nd,rfl⟩⟩;refine ⟨_,rfl,?_⟩))
  go_ret
  exact ⟨by first | rfl | (simp [errW_none,errW_some,IntKind.wrap_i64,wrap64];done) | (simp [errW_none,errW_some] <;> rfl) | (simp [*,errW_none,errW_some] <;> rfl),by repeat (first | (with_reducible first | exact HB.out | apply below_alloc | apply pw_below_drewN | apply below_drew1) | exact HB.out)⟩
end Go.Proofs.Ytidkniacmcbgiaa.G
end

section
namespace Go.Proofs.Ytidkniacmcbgiaa.G
open Go.RowKit Go.Proofs.YtidkniacmcbgiaaW.PrintWords Go.Proofs.YtidkniacmcbgiaaW.PrintLast Go.Proofs.YtidkniacmcbgiaaW.PrintMore
attribute [local go_sem] max2_int min2_int max_two min_two max_three min_three max_four min_four
set_option linter.unusedVariables false
set_option linter.unusedSimpArgs false
def impl_OffsetOf.ab (x : Int) : Int := if x < 0 then -x else x
def impl_OffsetOf.bet (m b n s : Int) : Bool := decide (m < n) || (decide (m = n) && (decide (impl_OffsetOf.ab s < impl_OffsetOf.ab b) || (decide (impl_OffsetOf.ab s = impl_OffsetOf.ab b) && decide (b < s))))
theorem impl_OffsetOf.bet_iff {m b n s : Int} : impl_OffsetOf.bet m b n s = true ↔ (m < n ∨ m = n ∧ (impl_OffsetOf.ab s < impl_OffsetOf.ab b ∨ impl_OffsetOf.ab s = impl_OffsetOf.ab b ∧ b < s)) := by simp [impl_OffsetOf.bet]
def impl_OffsetOf.IsBest (C : Int → Int) (K : Int → Prop) (b m : Int) : Prop :=
 (b = 0 ∧ m = 0 ∧ ∀ s,¬ K s) ∨ (K b ∧ C b = m ∧ 0 < m ∧ ∀ s,K s → impl_OffsetOf.bet m b (C s) s = false)
theorem impl_OffsetOf.IsBest.one {C : Int → Int} {K : Int → Prop} {b m b' m' : Int} (h : impl_OffsetOf.IsBest C K b m) (h' : impl_OffsetOf.IsBest C K b' m') : b = b' ∧ m = m' := by
 rcases h with ⟨rfl,rfl,h⟩ | ⟨hk,hc,hp,h⟩
 ·rcases h' with ⟨rfl,rfl,h'⟩ | ⟨hk',_⟩
  ·exact ⟨rfl,rfl⟩
  ·exact absurd hk' (h _)
 ·rcases h' with ⟨rfl,rfl,h'⟩ | ⟨hk',hc',hp',h'⟩
  ·exact absurd hk (h' _)
  ·have q1 := h _ hk';have q2 := h' _ hk;rw [hc'] at q1;rw [hc] at q2;rw [← Bool.not_eq_true,impl_OffsetOf.bet_iff] at q1 q2
   unfold impl_OffsetOf.ab at q1 q2
   omega
theorem impl_OffsetOf.IsBest.zero (C : Int → Int) {K : Int → Prop} (h : ∀ s,¬ K s) : impl_OffsetOf.IsBest C K 0 0 := .inl ⟨rfl,rfl,h⟩
theorem impl_OffsetOf.IsBest.same {C : Int → Int} {K K' : Int → Prop} {b m : Int} (h : impl_OffsetOf.IsBest C K b m) (hk : ∀ s,K' s ↔ K s) : impl_OffsetOf.IsBest C K' b m := by
 have : K' = K := funext fun s => propext (hk s)
 rw [this];exact h
theorem impl_OffsetOf.IsBest.step {C : Int → Int} {K K' : Int → Prop} {b m x : Int} (h : impl_OffsetOf.IsBest C K b m) (hk : ∀ s,K' s ↔ (K s ∨ s = x)) (hx : 0 < C x) :
  impl_OffsetOf.IsBest C K' (if impl_OffsetOf.bet m b (C x) x = true then x else b) (if impl_OffsetOf.bet m b (C x) x = true then C x else m) := by
 have tr : ∀ {s n},impl_OffsetOf.bet m b (C x) x = true → impl_OffsetOf.bet m b n s = false → impl_OffsetOf.bet (C x) x n s = false := by
  intro s n h1 h2;rw [impl_OffsetOf.bet_iff] at h1;rw [← Bool.not_eq_true,impl_OffsetOf.bet_iff] at h2 ⊢
  unfold impl_OffsetOf.ab at *
  omega
 have rf : ∀ n s,impl_OffsetOf.bet n s n s = false := by
  intro n s;rw [← Bool.not_eq_true,impl_OffsetOf.bet_iff]
  omega
 by_cases hb : impl_OffsetOf.bet m b (C x) x = true
 ·rw [if_pos hb,if_pos hb];refine .inr ⟨(hk x).2 (.inr rfl),rfl,hx,fun s hs => ?_⟩
  rcases (hk s).1 hs with hs | rfl
  ·rcases h with ⟨rfl,rfl,h⟩ | ⟨_,_,_,h⟩
   ·exact absurd hs (h s)
   ·exact tr hb (h s hs)
  ·exact rf _ _
 ·rw [if_neg hb,if_neg hb]
  rcases h with ⟨rfl,rfl,h⟩ | ⟨h1,h2,h3,h⟩
  ·exact absurd (impl_OffsetOf.bet_iff.2 (.inl hx)) hb
  ·refine .inr ⟨(hk b).2 (.inl h1),h2,h3,fun s hs => ?_⟩
   rcases (hk s).1 hs with hs | rfl
   ·exact h s hs
   ·exact Bool.not_eq_true _ ▸ hb
def impl_OffsetOf.bstep (C : Int → Int) (p : Int × Int) (x : Int) : Int × Int := (if impl_OffsetOf.bet p.2 p.1 (C x) x = true then x else p.1,if impl_OffsetOf.bet p.2 p.1 (C x) x = true then C x else p.2)
theorem impl_OffsetOf.best_fold (C : Int → Int) : ∀ (L : List Int) (K : Int → Prop) (b m : Int),impl_OffsetOf.IsBest C K b m → (∀ x ∈ L,0 < C x) → impl_OffsetOf.IsBest C (fun s => K s ∨ s ∈ L) (L.foldl (impl_OffsetOf.bstep C) (b,m)).1 (L.foldl (impl_OffsetOf.bstep C) (b,m)).2 := by
 intro L
 induction L with
 | nil => intro K b m h _;exact h.same (fun s => by simp)
 | cons x L ih =>
  intro K b m h hp;have := h.step (K' := fun s => K s ∨ s = x) (fun s => Iff.rfl) (hp x (by simp));have := ih _ _ _ this (fun y hy => hp y (by simp [hy]));rw [List.foldl_cons];exact this.same (fun s => by simp [or_assoc])
def impl_OffsetOf.cnt (L : List Int) (s : Int) : Int := (L.count s : Nat)
theorem impl_OffsetOf.cnt_snoc (L : List Int) (x s : Int) : impl_OffsetOf.cnt (L ++ [x]) s = impl_OffsetOf.cnt L s + (if s = x then 1 else 0) := by
 unfold impl_OffsetOf.cnt
 rw [List.count_append]
 by_cases h : s = x
 ·subst h;simp
 ·rw [if_neg h];simp [Ne.symm h]
theorem impl_OffsetOf.cnt_pos {L : List Int} {s : Int} : 0 < impl_OffsetOf.cnt L s ↔ s ∈ L := by
 unfold impl_OffsetOf.cnt
 rw [← List.count_pos_iff (a := s) (l := L)]
 omega
theorem impl_OffsetOf.cnt_le (L : List Int) (s : Int) : 0 ≤ impl_OffsetOf.cnt L s ∧ impl_OffsetOf.cnt L s ≤ (L.length : Int) := by
 unfold impl_OffsetOf.cnt
 have := List.count_le_length (a := s) (l := L)
 omega
def impl_OffsetOf.res (L : List Int) : Int × Int × Int :=
 if (L.foldl (impl_OffsetOf.bstep (impl_OffsetOf.cnt L)) (0,0)).2 = 0 then (0,0,6) else ((L.foldl (impl_OffsetOf.bstep (impl_OffsetOf.cnt L)) (0,0)).1,(L.foldl (impl_OffsetOf.bstep (impl_OffsetOf.cnt L)) (0,0)).2,0)
theorem impl_OffsetOf.res_of {L : List Int} {b m : Int} (h : impl_OffsetOf.IsBest (impl_OffsetOf.cnt L) (fun s => s ∈ L) b m) : impl_OffsetOf.res L = if m = 0 then (0,0,6) else (b,m,0) := by
 have hh := impl_OffsetOf.best_fold (impl_OffsetOf.cnt L) L (fun _ => False) 0 0 (impl_OffsetOf.IsBest.zero _ (fun s h => h)) (fun x hx => impl_OffsetOf.cnt_pos.2 hx);have := (hh.same (K' := fun s => s ∈ L) (fun s => by simp)).one h
 unfold impl_OffsetOf.res
 rw [this.1,this.2]
theorem impl_OffsetOf.zeroE (w : World) : (zeroValue 2).run Try.prog w = .ok (.int .i64 0) w := by kernel_rfl
def impl_OffsetOf.inb (x : S73) : Bool := decide (0 ≤ x.f0) && decide (x.f0 ≤ 100000)
theorem impl_OffsetOf.inb_at {l : List (S73)} (h : l.all impl_OffsetOf.inb = true) {i : Int} (h0 : 0 ≤ i) (hi : i < (l.length : Int)) : 0 ≤ (rd_T73 l i).f0 ∧ (rd_T73 l i).f0 ≤ 100000 := by
 have hm : rd_T73 l i ∈ l := by
  obtain ⟨j,rfl⟩ : ∃ j : Nat,i = (j : Int) := ⟨i.toNat,by omega⟩
  have hj : j < l.length := by omega
  have : rd_T73 l (j : Int) = l[j] := by simp [rd_T73,List.getD_eq_getElem?_getD,List.getElem?_eq_getElem hj]
  rw [this];exact List.getElem_mem hj
 have := List.all_eq_true.1 h _ hm;simp only [impl_OffsetOf.inb,Bool.and_eq_true,decide_eq_true_eq] at this
 omega
theorem impl_OffsetOf.wf {n : Int} (h0 : -1000000 ≤ n) (h1 : n ≤ 1000000) : (Lit.int .i64 n).wf = true := by
 simp [Lit.wf,IntKind.min,IntKind.max,IntKind.signed,IntKind.bits]
 omega
def impl_OffsetOf.dif (x y : S73) : List Int := if x.f1 = y.f1 ∧ x.f2 = y.f2 then [x.f0 - y.f0] else []
def impl_OffsetOf.din (x : S73) (l : List (S73)) : Nat → List Int
 | 0 => []
 | k + 1 => impl_OffsetOf.din x l k ++ impl_OffsetOf.dif x (rd_T73 l (k : Int))
def impl_OffsetOf.dou (l0 l1 : List (S73)) : Nat → List Int
 | 0 => []
 | i + 1 => impl_OffsetOf.dou l0 l1 i ++ impl_OffsetOf.din (rd_T73 l0 (i : Int)) l1 l1.length
theorem impl_OffsetOf.dif_len (x y : S73) : (impl_OffsetOf.dif x y).length ≤ 1 := by
 unfold impl_OffsetOf.dif
 split <;> simp
theorem impl_OffsetOf.din_len (x : S73) (l : List (S73)) (k : Nat) : (impl_OffsetOf.din x l k).length ≤ k := by
 induction k with
 | zero => simp [impl_OffsetOf.din]
 | succ k ih =>
  have := impl_OffsetOf.dif_len x (rd_T73 l (k : Int));rw [impl_OffsetOf.din,List.length_append]
  omega
theorem impl_OffsetOf.dou_len (l0 l1 : List (S73)) (h : l1.length ≤ 60) (i : Nat) : (impl_OffsetOf.dou l0 l1 i).length ≤ 60 * i := by
 induction i with
 | zero => simp [impl_OffsetOf.dou]
 | succ i ih =>
  have := impl_OffsetOf.din_len (rd_T73 l0 (i : Int)) l1 l1.length;rw [impl_OffsetOf.dou,List.length_append]
  omega
def impl_OffsetOf.f (l0 l1 : List (S73)) : Option (Int × Int × Int) :=
 (impl_logsCode.f l0 l1).bind fun c => if c ≠ 0 then some (0,0,c) else if l0.length ≤ 60 ∧ l1.length ≤ 60 ∧ l0.all impl_OffsetOf.inb = true ∧ l1.all impl_OffsetOf.inb = true then some (impl_OffsetOf.res (impl_OffsetOf.dou l0 l1 l0.length)) else none
def impl_OffsetOf.MapAt (L : List Int) (B : Nat) (W : World) : Prop := ∃ D : DataW Unit,W.ownsMap Try.prog 2 (plainElem Try.prog 2) B L.length D ∧ (∀ s : Int,D.atKey (.int .i64 s) (.lit (.int .i64 0)) = .lit (.int .i64 (impl_OffsetOf.cnt L s))) ∧ ∀ s : Int,Maps.has D (.int .i64 s) = true ↔ s ∈ L
theorem impl_OffsetOf.MapAt.kept {L : List Int} {B : Nat} {W W1 : World} (h : impl_OffsetOf.MapAt L B W) (hb : Below W.heap.size W W1) : impl_OffsetOf.MapAt L B W1 := by
 obtain ⟨D,h1,h2⟩ := h;exact ⟨D,h1.kept (grown_of_below hb none) (by simp),h2⟩
theorem impl_OffsetOf.MapAt.set {L : List Int} {B g j : Nat} {W : World} (h : impl_OffsetOf.MapAt L B W) (hne : B ≠ g) (u : Value) : impl_OffsetOf.MapAt L B (W.setCell ⟨g,j,none⟩ u) := by
 obtain ⟨D,h1,h2⟩ := h;exact ⟨D,h1.setCell hne u,h2⟩
theorem impl_OffsetOf.MapAt.lt {L : List Int} {B : Nat} {W : World} (h : impl_OffsetOf.MapAt L B W) : B < W.heap.size := by
 obtain ⟨D,h1,_⟩ := h;exact h1.lt
theorem impl_OffsetOf.MapAt.put {L : List Int} {B : Nat} {W : World} {D : DataW Unit} {k : Int} (hD : Go.Maps.IsMap D) (h2 : ∀ s : Int,D.atKey (.int .i64 s) (.lit (.int .i64 0)) = .lit (.int .i64 (impl_OffsetOf.cnt L s))) (h3 : ∀ s : Int,Maps.has D (.int .i64 s) = true ↔ s ∈ L) (h1 : W.ownsMap Try.prog 2 (plainElem Try.prog 2) B (L.length + 1) (D.put (.int .i64 k) (.lit (.int .i64 (impl_OffsetOf.cnt L k + 1))))) : impl_OffsetOf.MapAt (L ++ [k]) B W := by
 refine ⟨_,by rw [List.length_append];exact h1,fun s => ?_,fun s => ?_⟩
 ·by_cases e : s = k
  ·subst e;rw [Go.Maps.atKey_put_same hD (by first | trivial | rfl | decide),impl_OffsetOf.cnt_snoc,if_pos rfl]
  ·rw [Go.Maps.atKey_put_other (fun h => e (by injection h)),h2,impl_OffsetOf.cnt_snoc,if_neg e,Int.add_zero]
 ·by_cases e : s = k
  ·subst e
   simp [Go.Maps.has_put_same hD (show WideAt.IsKeyLit (.int .i64 s) from by first | trivial | rfl | decide)]
  ·rw [Go.Maps.has_put_other (fun h => e (by injection h)),h3]
   simp [e]
theorem impl_OffsetOf.near_pos {b x n1 n2 : Int} (h1 : n1 = if impl_OffsetOf.ab b < impl_OffsetOf.ab x then -1 else if impl_OffsetOf.ab b > impl_OffsetOf.ab x then 1 else 0) (h2 : n2 = if x < b then -1 else if x > b then 1 else 0) :
  decide ((if n1 = 0 then n2 else n1) > 0) = (decide (impl_OffsetOf.ab x < impl_OffsetOf.ab b) || (decide (impl_OffsetOf.ab x = impl_OffsetOf.ab b) && decide (b < x))) := by
 subst h1;subst h2;generalize impl_OffsetOf.ab x = p;generalize impl_OffsetOf.ab b = q;rw [Bool.eq_iff_iff];simp only [Bool.or_eq_true,Bool.and_eq_true,decide_eq_true_eq]
 repeat' split
 all_goals omega
theorem impl_OffsetOf.cmp_eq (a b : Int) : cmp_Compare_int64.f a b = some (if a < b then -1 else if a > b then 1 else 0) := by
 unfold cmp_Compare_int64.f cmp_isNaN_int64.f
 simp only [bne_self_eq_false,Option.bind_some,Bool.false_eq_true,if_false]
 by_cases h1 : a < b
 ·rw [if_pos h1,if_pos h1]
 ·rw [if_neg h1,if_neg h1]
  by_cases h2 : a > b
  ·rw [if_pos h2,if_pos h2]
  ·rw [if_neg h2,if_neg h2]
theorem impl_OffsetOf.or_eq (n1 n2 : Int) : cmp_Or_int.f 9 [n1,n2] = some (if n1 = 0 then n2 else n1) := by
 by_cases h1 : n1 = 0
 ·by_cases h2 : n2 = 0
  ·subst h1;subst h2;simp [cmp_Or_int.f,cmp_Or_int.l0,rd,wrap64]
  ·subst h1;simp [cmp_Or_int.f,cmp_Or_int.l0,rd,wrap64,h2]
 ·simp [cmp_Or_int.f,cmp_Or_int.l0,rd,wrap64,h1]
theorem impl_OffsetOf.same_int (s x : Int) : Lit.sameKey (.int .i64 s) (.int .i64 x) = decide (s = x) := by
 by_cases h : s = x
 ·subst h;rw [WideAt.sameKey_self (by first | trivial | rfl | decide)]
  simp
 ·rw [Go.Maps.sameKey_ne (fun h_ => h (by injection h_))]
  simp [h]
theorem impl_OffsetOf.left_step {L : List Int} {left : Lit → Bool} {x s : Int} (hx : x ∈ L) : (s ∈ L ∧ (left (.int .i64 s) && !Lit.sameKey (.int .i64 s) (.int .i64 x)) = false) ↔ ((s ∈ L ∧ left (.int .i64 s) = false) ∨ s = x) := by
 rw [impl_OffsetOf.same_int]
 by_cases h : s = x
 ·subst h;simp [hx]
 ·simp [h]
theorem impl_OffsetOf.dou_in {l0 l1 : List (S73)} (h0 : l0.all impl_OffsetOf.inb = true) (h1 : l1.all impl_OffsetOf.inb = true) {n : Nat} (hn : n ≤ l0.length) : ∀ s ∈ impl_OffsetOf.dou l0 l1 n,-100000 ≤ s ∧ s ≤ 100000 := by
 induction n with
 | zero => intro s hs;cases hs
 | succ n ih =>
  intro s hs;rw [impl_OffsetOf.dou] at hs
  rcases List.mem_append.1 hs with hs | hs
  ·exact ih (by omega) s hs
  ·have hx := impl_OffsetOf.inb_at h0 (i := (n : Int)) (by omega) (by omega);generalize rd_T73 l0 (n : Int) = x at *
   have : ∀ k,k ≤ l1.length → ∀ s ∈ impl_OffsetOf.din x l1 k,-100000 ≤ s ∧ s ≤ 100000 := by
    intro k
    induction k with
    | zero => intro _ s hs;cases hs
    | succ k ihk =>
     intro hk s hs;rw [impl_OffsetOf.din] at hs
     rcases List.mem_append.1 hs with hs | hs
     ·exact ihk (by omega) s hs
     ·have hy := impl_OffsetOf.inb_at h1 (i := (k : Int)) (by omega) (by omega)
      unfold impl_OffsetOf.dif at hs
      split at hs
      ·simp only [List.mem_singleton] at hs
       omega
      ·cases hs
   exact this _ (Nat.le_refl _) s hs
set_option maxHeartbeats 8000000 in
set_option maxRecDepth 100000 in
theorem impl_OffsetOf.calls (A0 : Option Addr) (c0 : Nat) (l0 : List (S73)) (A1 : Option Addr) (c1 : Nat) (l1 : List (S73)) (r1 r2 r3 : Int) (w : World) (hr0 : Kd.C k73 w A0 l0.length l0) (hc0 : l0.length ≤ c0) (hr1 : Kd.C k73 w A1 l1.length l1) (hc1 : l1.length ≤ c1) (h : impl_OffsetOf.f l0 l1 = some (r1,r2,r3)) :
  Calls Try.prog 45 #[.slice A0 l0.length c0,.slice A1 l1.length c1] w fun e w' => e = .returned (.tuple #[.int .i64 r1,.int .i64 r2,.int .i64 r3]) ∧ Below w.heap.size w w' := by
 unfold impl_OffsetOf.f at h
 obtain ⟨v,hv,h⟩ := Option.bind_eq_some_iff.1 h;have HR0 := Aside0.mk hr0;have HR1 := Aside0.mk hr1;have HVC := Aside0.mk (impl_logsCode.calls A0 c0 l0 A1 c1 l1 _ w hr0 hc0 hr1 hc1 hv);have hu := Try.underlying73;clear hv hr0 hr1 hc0 hc1
 by_cases hv0 : v = 0
 ·subst hv0;rw [if_neg (by simp)] at h
  by_cases hq : l0.length ≤ 60 ∧ l1.length ≤ 60 ∧ l0.all impl_OffsetOf.inb = true ∧ l1.all impl_OffsetOf.inb = true
  ·rw [if_pos hq] at h;have h := Option.some.inj h;obtain ⟨hl0,hl1,hin0,hin1⟩ := hq;have HH := Aside0.mk h;have HL0 := Aside0.mk hl0;have HL1 := Aside0.mk hl1;have HI0 := Aside0.mk hin0;have HI1 := Aside0.mk hin1;have HDL := Aside0.mk (impl_OffsetOf.dou_len l0 l1 hl1);have HDI := Aside0.mk (fun x => impl_OffsetOf.din_len x l1);clear h hin0 hin1;generalize hn0 : l0.length = n0 at *;generalize hn1 : l1.length = n1 at *;have Hn0 := Aside0.mk hn0;have Hn1 := Aside0.mk hn1;clear hn0 hn1;have hmm := @run_makeMap Try.prog
   go_enter Try.func45,Try.ntmps45
   go_wp2_with (go_at_call 86;refine HVC.out.mono ?_;rintro e w1 ⟨rfl,hb1⟩;have HB1 := Aside0.mk hb1;clear hb1)
   go_loopg [27] n0 (fun gg s27 wr => ∃ (kk : Nat),kk ≤ n0 ∧ n0 - kk ≤ gg ∧ s27 = .int .i64 kk ∧ Aside0 (impl_OffsetOf.MapAt (impl_OffsetOf.dou l0 l1 kk) w1.heap.size wr) ∧ Aside0 (Below w.heap.size w wr))
   case atStart => exact ⟨0,Nat.zero_le _,by omega,rfl,⟨⟨.map [],World.ownsMap_made _ _ _ _,fun s => rfl,fun s => by simp [Maps.has,impl_OffsetOf.dou]⟩⟩,⟨below_alloc HB1.out _⟩⟩
   case round =>
    obtain ⟨kk,hkk,hg,rfl,HM,HB⟩ := hrel;clear hmm
    by_cases hlt : kk < n0
    ·have hltz : (kk : Int) < (n0 : Int) := by omega
     obtain ⟨ad,e0,hx0,hx1,hx2⟩ := at_T73 HR0.out (kk : Int) (by omega) (by omega);cases e0;simp only [Int.toNat_natCast] at hx0 hx1 hx2;replace hx0 := (HB.out.cell (World.block_lt_of_cell? w _ hx0)).trans hx0;replace hx1 := (HB.out.cell (World.block_lt_of_cell? w _ hx1)).trans hx1;replace hx2 := (HB.out.cell (World.block_lt_of_cell? w _ hx2)).trans hx2;have IX := impl_OffsetOf.inb_at HI0.out (i := (kk : Int)) (by omega) (by rw [Hn0.out];exact hltz);have HS : Aside0 (impl_OffsetOf.dou l0 l1 (kk + 1) = impl_OffsetOf.dou l0 l1 kk ++ impl_OffsetOf.din (rd_T73 l0 (kk : Int)) l1 n1) := ⟨by rw [impl_OffsetOf.dou,Hn1.out]⟩;obtain ⟨x,hx⟩ : ∃ x,rd_T73 l0 (kk : Int) = x := ⟨_,rfl⟩;rw [hx] at hx0 hx1 hx2 IX HS;clear hx
     go_wp2_with (first | ((with_reducible refine gate_dst (N := 10) rfl ?_);refine box_event ?hg (N := 10) ?hd (cs := #[.int .i64 0,.int .i64 0,.bool false]) (t := 73) ?hr ?_;(case hd => rfl);(case hg => rfl);(case hr => first | (go_simp;done) | (go_simp;rfl));intro gb hgb w8 hbox hb8;have HM8 := Aside0.mk (HM.out.kept hb8);have HB8 := Aside0.mk (below_step HB.out hb8);have BE8 := Aside0.mk hbox;have GE8 := Aside0.mk (show w.heap.size ≤ gb by rw [hgb];exact HB.out.size);have NE8 := Aside0.mk (show w1.heap.size ≠ gb by rw [hgb];exact Nat.ne_of_lt HM.out.lt);have hcz0 : w8.cell? ⟨gb,0,none⟩ = some (.int .i64 0) := (blk_cell BE8.out 0).trans rfl;have hcz1 : w8.cell? ⟨gb,1,none⟩ = some (.int .i64 0) := (blk_cell BE8.out 1).trans rfl;have hcz2 : w8.cell? ⟨gb,2,none⟩ = some (.bool false) := (blk_cell BE8.out 2).trans rfl;have hfz0 := blk_frozen BE8.out 0;have hfz1 := blk_frozen BE8.out 1;have hfz2 := blk_frozen BE8.out 2;clear hb8 hbox hgb) | ((with_reducible refine gate_store (t := 73) (p := 10) rfl ?_);refine store_event (t := 73) (p := 10) (v := ?vo) (w1 := (((w8.setCell ⟨gb,0,none⟩ (.int .i64 x.f0)).setCell ⟨gb,1,none⟩ (.int .i64 x.f1)).setCell ⟨gb,2,none⟩ (.bool x.f2))) ?hg ?ho ?hn ?hr ?_;(case ho => rfl);(case hg => rfl);(case hn => rfl);(case hr => first | (go_simp;done) | (go_simp;rfl));intro w9 hw;have HM9 := Aside0.mk (show impl_OffsetOf.MapAt (impl_OffsetOf.dou l0 l1 kk) w1.heap.size w9 from by rw [hw];exact ((HM8.out.set NE8.out _).set NE8.out _).set NE8.out _);have HB9 := Aside0.mk (show Below w.heap.size w w9 from by rw [hw];exact below_set (below_set (below_set HB8.out GE8.out) GE8.out) GE8.out);have BE9 := Aside0.mk (show w9.heap[gb]? = some (.cells #[.int .i64 x.f0,.int .i64 x.f1,.bool x.f2] 73 (0,0)) from by rw [hw];exact blk_put (cs := #[.int .i64 x.f0,.int .i64 x.f1,.bool false]) (blk_put (cs := #[.int .i64 x.f0,.int .i64 0,.bool false]) (blk_put (cs := #[.int .i64 0,.int .i64 0,.bool false]) BE8.out 0 _ rfl) 1 _ rfl) 2 _ rfl);clear hw hcz0 hcz1 hcz2 hfz0 hfz1 hfz2 hx0 hx1 hx2))
     go_loopg [33] n1 (fun gg s33 wr => ∃ (kj : Nat),kj ≤ n1 ∧ n1 - kj ≤ gg ∧ s33 = .int .i64 kj ∧ Aside0 (impl_OffsetOf.MapAt (impl_OffsetOf.dou l0 l1 kk ++ impl_OffsetOf.din x l1 kj) w1.heap.size wr) ∧ Aside0 (Below w.heap.size w wr) ∧ Aside0 (wr.heap[gb]? = some (.cells #[.int .i64 x.f0,.int .i64 x.f1,.bool x.f2] 73 (0,0))))
     case atStart => exact ⟨0,Nat.zero_le _,by omega,rfl,⟨by rw [impl_OffsetOf.din,List.append_nil];exact HM9.out⟩,HB9,BE9⟩
     case round =>
      obtain ⟨kj,hkj,hgj,rfl,HMj,HBj,HEj⟩ := hrel
      by_cases hlt : kj < n1
      ·have hltz : (kj : Int) < (n1 : Int) := by omega
       obtain ⟨ad2,e0,hy0,hy1,hy2⟩ := at_T73 HR1.out (kj : Int) (by omega) (by omega);cases e0;simp only [Int.toNat_natCast] at hy0 hy1 hy2;replace hy0 := (HBj.out.cell (World.block_lt_of_cell? w _ hy0)).trans hy0;replace hy1 := (HBj.out.cell (World.block_lt_of_cell? w _ hy1)).trans hy1;replace hy2 := (HBj.out.cell (World.block_lt_of_cell? w _ hy2)).trans hy2;have IY := impl_OffsetOf.inb_at HI1.out (i := (kj : Int)) (by omega) (by rw [Hn1.out];exact hltz);have HSj : Aside0 (impl_OffsetOf.din x l1 (kj + 1) = impl_OffsetOf.din x l1 kj ++ impl_OffsetOf.dif x (rd_T73 l1 (kj : Int))) := ⟨rfl⟩;obtain ⟨y,hy⟩ : ∃ y,rd_T73 l1 (kj : Int) = y := ⟨_,rfl⟩;rw [hy] at hy0 hy1 hy2 IY HSj;clear hy
       have HAG : Aside0 (∀ W,Calls Try.prog 92 #[.agg #[.int .i64 x.f0,.int .i64 x.f1,.bool x.f2],.agg #[.int .i64 y.f0,.int .i64 y.f1,.bool y.f2]] W fun e w' => e = .returned (.bool (decide (x.f1 = y.f1 ∧ x.f2 = y.f2))) ∧ Below W.heap.size W w') := ⟨fun W => impl_Entry_agree.calls x.f0 x.f1 x.f2 y.f0 y.f1 y.f2 _ W (by
        unfold impl_Entry_agree.f
        by_cases h1 : x.f1 = y.f1
        ·rw [if_pos h1];simp only [h1,true_and];cases x.f2 <;> cases y.f2 <;> rfl
        ·rw [if_neg h1];simp only [h1,false_and,decide_false])⟩
       by_cases hag : x.f1 = y.f1 ∧ x.f2 = y.f2
       ·rw [decide_eq_true hag] at HAG;have HSk : Aside0 (impl_OffsetOf.din x l1 (kj + 1) = impl_OffsetOf.din x l1 kj ++ [x.f0 - y.f0]) := ⟨by rw [HSj.out,impl_OffsetOf.dif,if_pos hag]⟩
        have HLN : Aside0 ((impl_OffsetOf.dou l0 l1 kk ++ impl_OffsetOf.din x l1 kj).length ≤ 10000) := ⟨by
         have q1 := HDL.out kk;have q2 := HDI.out x kj;rw [List.length_append]
         omega⟩
        have HW : Aside0 (IntKind.i64.wrap (x.f0 - y.f0) = x.f0 - y.f0) := ⟨IntWalk.i64_in _ (by omega)⟩;have HWF : Aside0 ((Lit.int .i64 (x.f0 - y.f0)).wf = true) := ⟨impl_OffsetOf.wf (by omega) (by omega)⟩;have hcb := impl_OffsetOf.cnt_le (impl_OffsetOf.dou l0 l1 kk ++ impl_OffsetOf.din x l1 kj) (x.f0 - y.f0);obtain ⟨c,hc⟩ : ∃ c,impl_OffsetOf.cnt (impl_OffsetOf.dou l0 l1 kk ++ impl_OffsetOf.din x l1 kj) (x.f0 - y.f0) = c := ⟨_,rfl⟩;rw [hc] at hcb;have HC := Aside0.mk hc;have HCB : Aside0 (0 ≤ c ∧ c ≤ 10000) := ⟨⟨hcb.1,by have := HLN.out;omega⟩⟩;have HW1 : Aside0 (IntKind.i64.wrap (c + 1) = c + 1) := ⟨IntWalk.i64_in _ (by have := HCB.out;omega)⟩;have NE9 := NE8;clear hag HSj hc hcb IX IY
        go_wp2_with (first | ((with_reducible refine gate_dst (N := 12) rfl ?_);refine box_event ?hg (N := 12) ?hd (cs := #[.int .i64 0,.int .i64 0,.bool false]) (t := 73) ?hr ?_;(case hd => rfl);(case hg => rfl);(case hr => first | (go_simp;done) | (go_simp;rfl));intro gc hgc w18 hbox hb8;have HM18 := Aside0.mk (HMj.out.kept hb8);have HB18 := Aside0.mk (below_step HBj.out hb8);have BF8 := Aside0.mk hbox;have BE18 := Aside0.mk (blk_below HEj.out hb8);have GF8 := Aside0.mk (show w.heap.size ≤ gc by rw [hgc];exact HBj.out.size);have NE18 := Aside0.mk (show w1.heap.size ≠ gc by rw [hgc];exact Nat.ne_of_lt HMj.out.lt);have NG18 := Aside0.mk (show gb ≠ gc by rw [hgc];exact Nat.ne_of_lt (blk_lt HEj.out));have hcz0 : w18.cell? ⟨gc,0,none⟩ = some (.int .i64 0) := (blk_cell BF8.out 0).trans rfl;have hcz1 : w18.cell? ⟨gc,1,none⟩ = some (.int .i64 0) := (blk_cell BF8.out 1).trans rfl;have hcz2 : w18.cell? ⟨gc,2,none⟩ = some (.bool false) := (blk_cell BF8.out 2).trans rfl;have hfz0 := blk_frozen BF8.out 0;have hfz1 := blk_frozen BF8.out 1;have hfz2 := blk_frozen BF8.out 2;clear hb8 hbox hgc) | ((with_reducible refine gate_store (t := 73) (p := 12) rfl ?_);refine store_event (t := 73) (p := 12) (v := ?vo2) (w1 := (((w18.setCell ⟨gc,0,none⟩ (.int .i64 y.f0)).setCell ⟨gc,1,none⟩ (.int .i64 y.f1)).setCell ⟨gc,2,none⟩ (.bool y.f2))) ?hg ?ho ?hn ?hr ?_;(case ho => rfl);(case hg => rfl);(case hn => rfl);(case hr => first | (go_simp;done) | (go_simp;rfl));intro w19 hw;have HM19 := Aside0.mk (show impl_OffsetOf.MapAt (impl_OffsetOf.dou l0 l1 kk ++ impl_OffsetOf.din x l1 kj) w1.heap.size w19 from by rw [hw];exact ((HM18.out.set NE18.out _).set NE18.out _).set NE18.out _);have HB19 := Aside0.mk (show Below w.heap.size w w19 from by rw [hw];exact below_set (below_set (below_set HB18.out GF8.out) GF8.out) GF8.out);have BE19 := Aside0.mk (show w19.heap[gb]? = some (.cells #[.int .i64 x.f0,.int .i64 x.f1,.bool x.f2] 73 (0,0)) from by rw [hw];exact blk_far (blk_far (blk_far BE18.out NG18.out _) NG18.out _) NG18.out _);have BF9 := Aside0.mk (show w19.heap[gc]? = some (.cells #[.int .i64 y.f0,.int .i64 y.f1,.bool y.f2] 73 (0,0)) from by rw [hw];exact blk_put (cs := #[.int .i64 y.f0,.int .i64 y.f1,.bool false]) (blk_put (cs := #[.int .i64 y.f0,.int .i64 0,.bool false]) (blk_put (cs := #[.int .i64 0,.int .i64 0,.bool false]) BF8.out 0 _ rfl) 1 _ rfl) 2 _ rfl);clear hw hcz0 hcz1 hcz2 hfz0 hfz1 hfz2 hy0 hy1 hy2;have hd0 : w19.cell? ⟨gb,0,none⟩ = some (.int .i64 x.f0) := (blk_cell BE19.out 0).trans rfl;have hd1 : w19.cell? ⟨gb,1,none⟩ = some (.int .i64 x.f1) := (blk_cell BE19.out 1).trans rfl;have hd2 : w19.cell? ⟨gb,2,none⟩ = some (.bool x.f2) := (blk_cell BE19.out 2).trans rfl;have hc0 : w19.cell? ⟨gc,0,none⟩ = some (.int .i64 y.f0) := (blk_cell BF9.out 0).trans rfl;have hc1 : w19.cell? ⟨gc,1,none⟩ = some (.int .i64 y.f1) := (blk_cell BF9.out 1).trans rfl;have hc2 : w19.cell? ⟨gc,2,none⟩ = some (.bool y.f2) := (blk_cell BF9.out 2).trans rfl) | (go_at_call 92;refine (HAG.out _).mono ?_;rintro e w20 ⟨rfl,hb2⟩;have HM20 := Aside0.mk (HM19.out.kept hb2);have HB20 := Aside0.mk (below_step HB19.out hb2);have BE20 := Aside0.mk (blk_below BE19.out hb2);have BF20 := Aside0.mk (blk_below BF9.out hb2);clear hb2 hd0 hd1 hd2 hc0 hc1 hc2;have hd0 : w20.cell? ⟨gb,0,none⟩ = some (.int .i64 x.f0) := (blk_cell BE20.out 0).trans rfl;have hc0 : w20.cell? ⟨gc,0,none⟩ = some (.int .i64 y.f0) := (blk_cell BF20.out 0).trans rfl;have hw64 := HW.out;obtain ⟨D,hown,hat,hhas⟩ := HM20.out;have HOWN := Aside0.mk hown;have HAT := Aside0.mk hat;have HHAS := Aside0.mk hhas;clear hown hat hhas) | (at_lookup;refine wpList_lookup_own_int _ rfl _ _ 96 rfl 2 2 .i64 (Go.Maps.int_keyed Try.underlying2) Try.underlying96 Try.underlying2 (impl_OffsetOf.zeroE _) w1.heap.size _ _ rfl HOWN.out _ _ rfl (Go.Maps.keyOf_int_mk Try.underlying2 HWF.out) ?_;intro cc hatc hwc;obtain rfl : c = cc := (by have h_ := (HAT.out (x.f0 - y.f0)).symm.trans hatc;rw [HC.out] at h_;injection h_ with h_;injection h_ with _ h_);clear hatc hwc;have hw1 := HW1.out) | (at_mapUpdate;refine wpList_mapUpdate_own _ rfl _ _ _ 96 rfl 2 2 (Go.Maps.int_keyed Try.underlying2) Try.underlying96 _ w1.heap.size _ _ rfl HOWN.out (by have := HLN.out;unfold maxLen;omega) _ _ _ rfl rfl (Go.Maps.keyOf_int_mk Try.underlying2 HWF.out) _ [] (plainElem_int Try.underlying2 (impl_OffsetOf.wf (by have := HCB.out;omega) (by have := HCB.out;omega))) ?_;intro w21 hown1 hgrow1;have HM21 := Aside0.mk (impl_OffsetOf.MapAt.put (L := impl_OffsetOf.dou l0 l1 kk ++ impl_OffsetOf.din x l1 kj) (k := x.f0 - y.f0) HOWN.out.isMap HAT.out HHAS.out (by rw [HC.out];exact hown1));have HB21 := Aside0.mk (HB20.out.grown hgrow1 HB20.out.size (fun j hj => by cases hj;exact HB1.out.size));have BE21 := Aside0.mk (blk_grown BE20.out hgrow1 (by simp only [ne_eq,Option.some.injEq];exact fun h_ => NE9.out h_.symm));clear hown1 hgrow1))
        go_roundg (n1 - (kj + 1))
        case measure => omega
        case rel => exact ⟨kj + 1,by omega,by omega,by go_num,⟨by rw [HSk.out,← List.append_assoc];exact HM21.out⟩,HB21,BE21⟩
       ·rw [decide_eq_false hag] at HAG;have HSk : Aside0 (impl_OffsetOf.din x l1 (kj + 1) = impl_OffsetOf.din x l1 kj) := ⟨by rw [HSj.out,impl_OffsetOf.dif,if_neg hag,List.append_nil]⟩;clear hag HSj
        go_wp2_with (first | ((with_reducible refine gate_dst (N := 12) rfl ?_);refine box_event ?hg (N := 12) ?hd (cs := #[.int .i64 0,.int .i64 0,.bool false]) (t := 73) ?hr ?_;(case hd => rfl);(case hg => rfl);(case hr => first | (go_simp;done) | (go_simp;rfl));intro gc hgc w18 hbox hb8;have HM18 := Aside0.mk (HMj.out.kept hb8);have HB18 := Aside0.mk (below_step HBj.out hb8);have BF8 := Aside0.mk hbox;have BE18 := Aside0.mk (blk_below HEj.out hb8);have GF8 := Aside0.mk (show w.heap.size ≤ gc by rw [hgc];exact HBj.out.size);have NE18 := Aside0.mk (show w1.heap.size ≠ gc by rw [hgc];exact Nat.ne_of_lt HMj.out.lt);have NG18 := Aside0.mk (show gb ≠ gc by rw [hgc];exact Nat.ne_of_lt (blk_lt HEj.out));have hcz0 : w18.cell? ⟨gc,0,none⟩ = some (.int .i64 0) := (blk_cell BF8.out 0).trans rfl;have hcz1 : w18.cell? ⟨gc,1,none⟩ = some (.int .i64 0) := (blk_cell BF8.out 1).trans rfl;have hcz2 : w18.cell? ⟨gc,2,none⟩ = some (.bool false) := (blk_cell BF8.out 2).trans rfl;have hfz0 := blk_frozen BF8.out 0;have hfz1 := blk_frozen BF8.out 1;have hfz2 := blk_frozen BF8.out 2;clear hb8 hbox hgc) | ((with_reducible refine gate_store (t := 73) (p := 12) rfl ?_);refine store_event (t := 73) (p := 12) (v := ?vo2) (w1 := (((w18.setCell ⟨gc,0,none⟩ (.int .i64 y.f0)).setCell ⟨gc,1,none⟩ (.int .i64 y.f1)).setCell ⟨gc,2,none⟩ (.bool y.f2))) ?hg ?ho ?hn ?hr ?_;(case ho => rfl);(case hg => rfl);(case hn => rfl);(case hr => first | (go_simp;done) | (go_simp;rfl));intro w19 hw;have HM19 := Aside0.mk (show impl_OffsetOf.MapAt (impl_OffsetOf.dou l0 l1 kk ++ impl_OffsetOf.din x l1 kj) w1.heap.size w19 from by rw [hw];exact ((HM18.out.set NE18.out _).set NE18.out _).set NE18.out _);have HB19 := Aside0.mk (show Below w.heap.size w w19 from by rw [hw];exact below_set (below_set (below_set HB18.out GF8.out) GF8.out) GF8.out);have BE19 := Aside0.mk (show w19.heap[gb]? = some (.cells #[.int .i64 x.f0,.int .i64 x.f1,.bool x.f2] 73 (0,0)) from by rw [hw];exact blk_far (blk_far (blk_far BE18.out NG18.out _) NG18.out _) NG18.out _);have BF9 := Aside0.mk (show w19.heap[gc]? = some (.cells #[.int .i64 y.f0,.int .i64 y.f1,.bool y.f2] 73 (0,0)) from by rw [hw];exact blk_put (cs := #[.int .i64 y.f0,.int .i64 y.f1,.bool false]) (blk_put (cs := #[.int .i64 y.f0,.int .i64 0,.bool false]) (blk_put (cs := #[.int .i64 0,.int .i64 0,.bool false]) BF8.out 0 _ rfl) 1 _ rfl) 2 _ rfl);clear hw hcz0 hcz1 hcz2 hfz0 hfz1 hfz2 hy0 hy1 hy2;have hd0 : w19.cell? ⟨gb,0,none⟩ = some (.int .i64 x.f0) := (blk_cell BE19.out 0).trans rfl;have hd1 : w19.cell? ⟨gb,1,none⟩ = some (.int .i64 x.f1) := (blk_cell BE19.out 1).trans rfl;have hd2 : w19.cell? ⟨gb,2,none⟩ = some (.bool x.f2) := (blk_cell BE19.out 2).trans rfl;have hc0 : w19.cell? ⟨gc,0,none⟩ = some (.int .i64 y.f0) := (blk_cell BF9.out 0).trans rfl;have hc1 : w19.cell? ⟨gc,1,none⟩ = some (.int .i64 y.f1) := (blk_cell BF9.out 1).trans rfl;have hc2 : w19.cell? ⟨gc,2,none⟩ = some (.bool y.f2) := (blk_cell BF9.out 2).trans rfl) | (go_at_call 92;refine (HAG.out _).mono ?_;rintro e w20 ⟨rfl,hb2⟩;have HM20 := Aside0.mk (HM19.out.kept hb2);have HB20 := Aside0.mk (below_step HB19.out hb2);have BE20 := Aside0.mk (blk_below BE19.out hb2);have BF20 := Aside0.mk (blk_below BF9.out hb2);clear hb2 hd0 hd1 hd2 hc0 hc1 hc2))
        go_roundg (n1 - (kj + 1))
        case measure => omega
        case rel => exact ⟨kj + 1,by omega,by omega,by go_num,⟨by rw [HSk.out];exact HM20.out⟩,HB20,BE20⟩
      ·have hltz : ¬ (kj : Int) < (n1 : Int) := by omega
       have : kj = n1 := by omega
       subst this
       go_wp2
       go_roundg (n0 - (kk + 1))
       case measure => omega
       case rel => exact ⟨kk + 1,by omega,by omega,by go_num,⟨by rw [HS.out];exact HMj.out⟩,HBj⟩
    ·have hltz : ¬ (kk : Int) < (n0 : Int) := by omega
     have : kk = n0 := by omega
     subst this;obtain ⟨D,hown,hat,hhas⟩ := HM.out;have HAT := Aside0.mk hat;have HHAS := Aside0.mk hhas;have HLN : Aside0 ((impl_OffsetOf.dou l0 l1 kk).length ≤ 10000) := ⟨by have q1 := HDL.out kk;omega⟩;have HIX : Aside0 (∀ s ∈ impl_OffsetOf.dou l0 l1 kk,-100000 ≤ s ∧ s ≤ 100000) := ⟨impl_OffsetOf.dou_in HI0.out HI1.out (by rw [Hn0.out];exact Nat.le_refl _)⟩;obtain ⟨L,hL⟩ : ∃ L,impl_OffsetOf.dou l0 l1 kk = L := ⟨_,rfl⟩;rw [hL] at hown HAT HHAS HLN HH HIX;have HOWN := Aside0.mk hown;clear hL hat hhas hown
     go_wp2_with (first | (at_range;refine wpList_range_own _ rfl _ 96 rfl 2 2 (Go.Maps.int_keyed Try.underlying2) Try.underlying96 _ w1.heap.size _ D rfl HOWN.out ?_;intro w30 hrg0 hg0 hs0))
     have HRG0 := Aside0.mk hrg0;have HB30 := Aside0.mk (HB.out.grown hg0 HB.out.size (fun j hj => by cases hj));have GR30 := Aside0.mk (show w.heap.size ≤ wr.heap.size from HB.out.size);generalize wr.heap.size = rr at *;clear hrg0 hg0 hs0
     go_loopw [13,14] (fun s13 s14 wr' => ∃ (left : Lit → Bool) (cnt_ : Nat) (b m : Int),wr'.ranges Try.prog 2 (plainElem Try.prog 2) w1.heap.size rr L.length D left cnt_ ∧ s13 = .int .i64 b ∧ s14 = .int .i64 m ∧ Aside0 (impl_OffsetOf.IsBest (impl_OffsetOf.cnt L) (fun s => s ∈ L ∧ left (.int .i64 s) = false) b m) ∧ Aside0 (Below w.heap.size w wr')) (fun _ _ wr' => wr'.rangeLeft w1.heap.size rr)
     case atStart => exact ⟨_,_,0,0,HRG0.out,rfl,rfl,⟨impl_OffsetOf.IsBest.zero _ (fun s h_ => by have := (HHAS.out s).2 h_.1;rw [h_.2] at this;cases this)⟩,HB30⟩
     case round =>
      obtain ⟨left,cnt_,b,m,hrg,rfl,rfl,HBST,HBr⟩ := hrel;have HRG := Aside0.mk hrg;clear hrg HB HB30 HRG0
      go_wp2_with (first | (at_next;refine wpList_next_ranges_ii _ rfl _ rfl 2 2 .i64 .i64 (Go.Maps.int_keyed Try.underlying2) Try.underlying2 Try.underlying2 w1.heap.size rr L.length _ _ _ rfl HRG.out ?_ ?_))
      ·intro _ hl0;have hres := impl_OffsetOf.res_of (HBST.out.same (K' := fun s => s ∈ L) (fun s => by simp [hl0]));rw [HH.out] at hres;clear hl0
       by_cases hm0 : m = 0
       ·subst hm0;rw [if_pos rfl] at hres;simp only [Prod.mk.injEq] at hres;obtain ⟨rfl,rfl,rfl⟩ := hres
        go_wp2
        go_ret3
        exact ⟨rfl,HBr.out⟩
       ·rw [if_neg hm0] at hres;simp only [Prod.mk.injEq] at hres;have hmb : (m == 0) = false := beq_eq_false_iff_ne.mpr hm0;clear hm0;obtain ⟨rfl,rfl,rfl⟩ := hres
        go_wp2
        go_ret3
        exact ⟨rfl,HBr.out⟩
      ·intro x c w31 cnt1 hwx hwc hlx hat1 hrg1 hlt hg1 hs1 hen;have hxL : x ∈ L := (HHAS.out x).1 (Go.Maps.has_true_of_atKey hat1)
       have hcc : c = impl_OffsetOf.cnt L x := by
        have h_ := (HAT.out x).symm.trans (hat1 (.lit (.int .i64 0)))
        injection h_ with h_
        injection h_ with _ h_
        exact h_.symm
       have hxb := HIX.out x hxL
       have hbb : -100000 ≤ b ∧ b ≤ 100000 := by
        rcases HBST.out with ⟨rfl,_⟩ | ⟨hk,_⟩
        ·omega
        ·exact HIX.out b hk.1
       have hab : (if b < -b then -b else b) = impl_OffsetOf.ab b := by unfold impl_OffsetOf.ab;split <;> split <;> omega
       have hax : (if x < -x then -x else x) = impl_OffsetOf.ab x := by unfold impl_OffsetOf.ab;split <;> split <;> omega
       have hwb : IntKind.i64.wrap (-b) = -b := IntWalk.i64_in _ (by omega);have hwx1 : IntKind.i64.wrap (-x) = -x := IntWalk.i64_in _ (by omega)
       obtain ⟨n1,hn1⟩ : ∃ n1,n1 = if impl_OffsetOf.ab b < impl_OffsetOf.ab x then -1 else if impl_OffsetOf.ab b > impl_OffsetOf.ab x then 1 else (0 : Int) := ⟨_,rfl⟩
       obtain ⟨n2,hn2⟩ : ∃ n2,n2 = if x < b then -1 else if x > b then 1 else (0 : Int) := ⟨_,rfl⟩
       obtain ⟨nr,hnr⟩ : ∃ nr,nr = if n1 = 0 then n2 else n1 := ⟨_,rfl⟩
       have HNR : Aside0 (impl_OffsetOf.bet m b c x = (decide (m < c) || (decide (m = c) && decide (nr > 0)))) := ⟨by rw [hnr,impl_OffsetOf.near_pos hn1 hn2];rfl⟩;have CMP1 : Aside0 (∀ W,Calls Try.prog 94 #[.int .i64 (impl_OffsetOf.ab b),.int .i64 (impl_OffsetOf.ab x)] W fun e w' => e = .returned (.int .i64 n1) ∧ Drawn0 W w') := ⟨fun W => cmp_Compare_int64.calls _ _ _ W (by rw [hn1];exact impl_OffsetOf.cmp_eq _ _)⟩;have CMP2 : Aside0 (∀ W,Calls Try.prog 94 #[.int .i64 x,.int .i64 b] W fun e w' => e = .returned (.int .i64 n2) ∧ Drawn0 W w') := ⟨fun W => cmp_Compare_int64.calls _ _ _ W (by rw [hn2];exact impl_OffsetOf.cmp_eq _ _)⟩;have ORF : Aside0 (cmp_Or_int.f 9 [n1,n2] = some nr) := ⟨by rw [hnr];exact impl_OffsetOf.or_eq _ _⟩;have HRG1 := Aside0.mk hrg1;have HLT := Aside0.mk hlt;have HEN := Aside0.mk hen;have HXL := Aside0.mk hxL;have HCC := Aside0.mk hcc;have HLX := Aside0.mk hlx;have HB31 := Aside0.mk (HBr.out.grown hg1 HBr.out.size (fun j hj => by cases hj;exact GR30.out));have HC := Aside0.mk (Below.refl w31.heap.size w31);generalize hp : impl_OffsetOf.ab b = p at *;generalize hq : impl_OffsetOf.ab x = q at *;clear hrg1 hlt hxL hcc hlx hg1 hs1 hat1 hxb hbb hn1 hn2 hnr hp hq hwx hwc;have HRX : Aside0 (∀ W,Below w31.heap.size w31 W → W.ranges Try.prog 2 (plainElem Try.prog 2) w1.heap.size rr L.length D (fun z => left z && !z.sameKey (.int .i64 x)) cnt1) := ⟨fun W hb_ => HRG1.out.kept (grown_of_below hb_ none) (by simp) (by simp)⟩
       have HBX : Aside0 (impl_OffsetOf.IsBest (impl_OffsetOf.cnt L) (fun s => s ∈ L ∧ (left (.int .i64 s) && !Lit.sameKey (.int .i64 s) (.int .i64 x)) = false) (if impl_OffsetOf.bet m b c x = true then x else b) (if impl_OffsetOf.bet m b c x = true then c else m)) := ⟨by
        rw [HCC.out]
        exact HBST.out.step (fun s => impl_OffsetOf.left_step HXL.out) (impl_OffsetOf.cnt_pos.2 HXL.out)⟩
       by_cases hc1 : m < c
       ·rw [HNR.out,decide_eq_true hc1] at HBX;simp only [Bool.true_or,if_true] at HBX;have hc1b : decide (c > m) = true := decide_eq_true hc1;clear hc1
        go_wp2_with (first | (go_at_call 94;(with_reducible refine (CMP1.out _).mono ?_);rintro e w_ ⟨rfl,⟨nd,rfl⟩⟩) | (go_at_call 94;(with_reducible refine (CMP2.out _).mono ?_);rintro e w_ ⟨rfl,⟨nd,rfl⟩⟩) | ((with_reducible refine gate_dst (N := 69) rfl ?_);refine Kd.R_lit (Kd.int .i64) _ 3 ?hg69 (N := 69) ?hd69 (xs := ([n1,n2] : List Int)) (inner := [.int .i64 n1,.int .i64 n2]) (ok := fun _ => True) (okp := fun _ => True) ?hr69 ?hp69 (fun _ hk => hk) trivial (Below.refl _ _) (Nat.le_refl _) (by simp) ?_;(case hd69 => rfl);(case hg69 => rfl);(case hr69 => first | (go_simp;done) | (go_simp;rfl));(case hp69 => exact (Reps.one (show Kd.M (Kd.int .i64) _ _ _ n1 [.int .i64 n1] from rfl) (Reps.one (show Kd.M (Kd.int .i64) _ _ _ n2 [.int .i64 n2] from rfl) (Reps.none _ _))));intro v105 w32 ho12 hb hg_ hnew_;clear hg_ hnew_;have HO := Aside0.mk ho12;have n0_ := Aside0.mk (below_step (by repeat (first | exact HC.out | apply pw_below_drewN | apply below_drew1)) hb);clear HC;have HC := n0_;have n0_ := Aside0.mk (below_step (by repeat (first | exact HB31.out | apply pw_below_drewN | apply below_drew1)) hb);clear HB31;have HB31 := n0_;clear n0_ hb ho12;obtain ⟨Ao13,co13,eo13⟩ := Kd.R_slice HO.out;subst eo13) | (go_at_call 93;refine (cmp_Or_int.calls 9 _ _ [n1,n2] nr _ ?side1 ?side2 ORF.out).mono ?_;(case side1 => repeat (first | exact (Kd.R_reads' HO.out).2.2 | (with_reducible refine Kd.C_alloc ?_ _) | (with_reducible refine Kd.C_drewN ?_ _) | (with_reducible refine Kd.C_drew ?_)));(case side2 => exact (Kd.R_reads' HO.out).2.1);rintro e w_ ⟨rfl,⟨nd,rfl⟩⟩))
        go_roundw
        case rel => exact ⟨_,cnt1,x,c,HRX.out _ (by repeat (first | exact HC.out | apply pw_below_drewN | apply below_drew1)),rfl,rfl,HBX,⟨by repeat (first | exact HB31.out | apply pw_below_drewN | apply below_drew1)⟩⟩
        case measure => rw [(HRX.out _ (by repeat (first | exact HC.out | apply pw_below_drewN | apply below_drew1))).left_eq,HRG.out.left_eq];exact HLT.out
       ·rw [HNR.out,decide_eq_false hc1] at HBX;simp only [Bool.false_or] at HBX;have hc1b : decide (c > m) = false := decide_eq_false hc1;clear hc1
        by_cases hc2 : c = m
        ·rw [decide_eq_true hc2.symm] at HBX;simp only [Bool.true_and,decide_eq_true_eq] at HBX;have hc2b : (c == m) = true := beq_iff_eq.mpr hc2;clear hc2
         by_cases hc3 : nr > 0
         ·rw [if_pos hc3,if_pos hc3] at HBX;have hc3b : decide (nr > 0) = true := decide_eq_true hc3;have hc3c : decide (0 < nr) = true := decide_eq_true hc3;clear hc3
          go_wp2_with (first | (go_at_call 94;(with_reducible refine (CMP1.out _).mono ?_);rintro e w_ ⟨rfl,⟨nd,rfl⟩⟩) | (go_at_call 94;(with_reducible refine (CMP2.out _).mono ?_);rintro e w_ ⟨rfl,⟨nd,rfl⟩⟩) | ((with_reducible refine gate_dst (N := 69) rfl ?_);refine Kd.R_lit (Kd.int .i64) _ 3 ?hg69 (N := 69) ?hd69 (xs := ([n1,n2] : List Int)) (inner := [.int .i64 n1,.int .i64 n2]) (ok := fun _ => True) (okp := fun _ => True) ?hr69 ?hp69 (fun _ hk => hk) trivial (Below.refl _ _) (Nat.le_refl _) (by simp) ?_;(case hd69 => rfl);(case hg69 => rfl);(case hr69 => first | (go_simp;done) | (go_simp;rfl));(case hp69 => exact (Reps.one (show Kd.M (Kd.int .i64) _ _ _ n1 [.int .i64 n1] from rfl) (Reps.one (show Kd.M (Kd.int .i64) _ _ _ n2 [.int .i64 n2] from rfl) (Reps.none _ _))));intro v105 w32 ho12 hb hg_ hnew_;clear hg_ hnew_;have HO := Aside0.mk ho12;have n0_ := Aside0.mk (below_step (by repeat (first | exact HC.out | apply pw_below_drewN | apply below_drew1)) hb);clear HC;have HC := n0_;have n0_ := Aside0.mk (below_step (by repeat (first | exact HB31.out | apply pw_below_drewN | apply below_drew1)) hb);clear HB31;have HB31 := n0_;clear n0_ hb ho12;obtain ⟨Ao13,co13,eo13⟩ := Kd.R_slice HO.out;subst eo13) | (go_at_call 93;refine (cmp_Or_int.calls 9 _ _ [n1,n2] nr _ ?side1 ?side2 ORF.out).mono ?_;(case side1 => repeat (first | exact (Kd.R_reads' HO.out).2.2 | (with_reducible refine Kd.C_alloc ?_ _) | (with_reducible refine Kd.C_drewN ?_ _) | (with_reducible refine Kd.C_drew ?_)));(case side2 => exact (Kd.R_reads' HO.out).2.1);rintro e w_ ⟨rfl,⟨nd,rfl⟩⟩))
          go_roundw
          case rel => exact ⟨_,cnt1,x,c,HRX.out _ (by repeat (first | exact HC.out | apply pw_below_drewN | apply below_drew1)),rfl,rfl,HBX,⟨by repeat (first | exact HB31.out | apply pw_below_drewN | apply below_drew1)⟩⟩
          case measure => rw [(HRX.out _ (by repeat (first | exact HC.out | apply pw_below_drewN | apply below_drew1))).left_eq,HRG.out.left_eq];exact HLT.out
         ·rw [if_neg hc3,if_neg hc3] at HBX;have hc3b : decide (nr > 0) = false := decide_eq_false hc3;have hc3c : decide (0 < nr) = false := decide_eq_false hc3;clear hc3
          go_wp2_with (first | (go_at_call 94;(with_reducible refine (CMP1.out _).mono ?_);rintro e w_ ⟨rfl,⟨nd,rfl⟩⟩) | (go_at_call 94;(with_reducible refine (CMP2.out _).mono ?_);rintro e w_ ⟨rfl,⟨nd,rfl⟩⟩) | ((with_reducible refine gate_dst (N := 69) rfl ?_);refine Kd.R_lit (Kd.int .i64) _ 3 ?hg69 (N := 69) ?hd69 (xs := ([n1,n2] : List Int)) (inner := [.int .i64 n1,.int .i64 n2]) (ok := fun _ => True) (okp := fun _ => True) ?hr69 ?hp69 (fun _ hk => hk) trivial (Below.refl _ _) (Nat.le_refl _) (by simp) ?_;(case hd69 => rfl);(case hg69 => rfl);(case hr69 => first | (go_simp;done) | (go_simp;rfl));(case hp69 => exact (Reps.one (show Kd.M (Kd.int .i64) _ _ _ n1 [.int .i64 n1] from rfl) (Reps.one (show Kd.M (Kd.int .i64) _ _ _ n2 [.int .i64 n2] from rfl) (Reps.none _ _))));intro v105 w32 ho12 hb hg_ hnew_;clear hg_ hnew_;have HO := Aside0.mk ho12;have n0_ := Aside0.mk (below_step (by repeat (first | exact HC.out | apply pw_below_drewN | apply below_drew1)) hb);clear HC;have HC := n0_;have n0_ := Aside0.mk (below_step (by repeat (first | exact HB31.out | apply pw_below_drewN | apply below_drew1)) hb);clear HB31;have HB31 := n0_;clear n0_ hb ho12;obtain ⟨Ao13,co13,eo13⟩ := Kd.R_slice HO.out;subst eo13) | (go_at_call 93;refine (cmp_Or_int.calls 9 _ _ [n1,n2] nr _ ?side1 ?side2 ORF.out).mono ?_;(case side1 => repeat (first | exact (Kd.R_reads' HO.out).2.2 | (with_reducible refine Kd.C_alloc ?_ _) | (with_reducible refine Kd.C_drewN ?_ _) | (with_reducible refine Kd.C_drew ?_)));(case side2 => exact (Kd.R_reads' HO.out).2.1);rintro e w_ ⟨rfl,⟨nd,rfl⟩⟩))
          go_roundw
          case rel => exact ⟨_,cnt1,b,m,HRX.out _ (by repeat (first | exact HC.out | apply pw_below_drewN | apply below_drew1)),rfl,rfl,HBX,⟨by repeat (first | exact HB31.out | apply pw_below_drewN | apply below_drew1)⟩⟩
          case measure => rw [(HRX.out _ (by repeat (first | exact HC.out | apply pw_below_drewN | apply below_drew1))).left_eq,HRG.out.left_eq];exact HLT.out
        ·rw [decide_eq_false (fun h_ => hc2 h_.symm)] at HBX;simp only [Bool.false_and,Bool.false_eq_true,if_false] at HBX;have hc2b : (c == m) = false := beq_eq_false_iff_ne.mpr hc2;clear hc2
         go_wp2_with (first | (go_at_call 94;(with_reducible refine (CMP1.out _).mono ?_);rintro e w_ ⟨rfl,⟨nd,rfl⟩⟩) | (go_at_call 94;(with_reducible refine (CMP2.out _).mono ?_);rintro e w_ ⟨rfl,⟨nd,rfl⟩⟩) | ((with_reducible refine gate_dst (N := 69) rfl ?_);refine Kd.R_lit (Kd.int .i64) _ 3 ?hg69 (N := 69) ?hd69 (xs := ([n1,n2] : List Int)) (inner := [.int .i64 n1,.int .i64 n2]) (ok := fun _ => True) (okp := fun _ => True) ?hr69 ?hp69 (fun _ hk => hk) trivial (Below.refl _ _) (Nat.le_refl _) (by simp) ?_;(case hd69 => rfl);(case hg69 => rfl);(case hr69 => first | (go_simp;done) | (go_simp;rfl));(case hp69 => exact (Reps.one (show Kd.M (Kd.int .i64) _ _ _ n1 [.int .i64 n1] from rfl) (Reps.one (show Kd.M (Kd.int .i64) _ _ _ n2 [.int .i64 n2] from rfl) (Reps.none _ _))));intro v105 w32 ho12 hb hg_ hnew_;clear hg_ hnew_;have HO := Aside0.mk ho12;have n0_ := Aside0.mk (below_step (by repeat (first | exact HC.out | apply pw_below_drewN | apply below_drew1)) hb);clear HC;have HC := n0_;have n0_ := Aside0.mk (below_step (by repeat (first | exact HB31.out | apply pw_below_drewN | apply below_drew1)) hb);clear HB31;have HB31 := n0_;clear n0_ hb ho12;obtain ⟨Ao13,co13,eo13⟩ := Kd.R_slice HO.out;subst eo13) | (go_at_call 93;refine (cmp_Or_int.calls 9 _ _ [n1,n2] nr _ ?side1 ?side2 ORF.out).mono ?_;(case side1 => repeat (first | exact (Kd.R_reads' HO.out).2.2 | (with_reducible refine Kd.C_alloc ?_ _) | (with_reducible refine Kd.C_drewN ?_ _) | (with_reducible refine Kd.C_drew ?_)));(case side2 => exact (Kd.R_reads' HO.out).2.1);rintro e w_ ⟨rfl,⟨nd,rfl⟩⟩))
         go_roundw
         case rel => exact ⟨_,cnt1,b,m,HRX.out _ (by repeat (first | exact HC.out | apply pw_below_drewN | apply below_drew1)),rfl,rfl,HBX,⟨by repeat (first | exact HB31.out | apply pw_below_drewN | apply below_drew1)⟩⟩
         case measure => rw [(HRX.out _ (by repeat (first | exact HC.out | apply pw_below_drewN | apply below_drew1))).left_eq,HRG.out.left_eq];exact HLT.out
  ·rw [if_neg hq] at h;cases h
 ·rw [if_pos hv0] at h;have h := Option.some.inj h;simp only [Prod.mk.injEq] at h;obtain ⟨rfl,rfl,rfl⟩ := h;have hvb : (v != 0) = true := bne_iff_ne.mpr hv0
  go_enter Try.func45,Try.ntmps45
  go_wp2_with (go_at_call 86;refine HVC.out.mono ?_;rintro e w1 ⟨rfl,hb1⟩;have HB1 := Aside0.mk hb1;clear hb1)
  go_ret3
  exact ⟨rfl,HB1.out⟩
end Go.Proofs.Ytidkniacmcbgiaa.G
end

section
namespace Go.Proofs.Ytidkniacmcbgiaa.G
open Go.RowKit Go.Proofs.YtidkniacmcbgiaaW.PrintWords Go.Proofs.YtidkniacmcbgiaaW.PrintLast Go.Proofs.YtidkniacmcbgiaaW.PrintMore
attribute [local go_sem] max2_int min2_int max_two min_two max_three min_three max_four min_four
set_option linter.unusedVariables false
set_option linter.unusedSimpArgs false
def laws_eqEntry.f (a0_0 : Int) (a0_1 : Int) (a0_2 : Bool) (a1_0 : Int) (a1_1 : Int) (a1_2 : Bool) : Option (Bool) := if a0_0 = a1_0 then (if a0_1 = a1_1 then (if (a0_2 != a1_2) = true then (some false) else (some true)) else (some false)) else (some false)
set_option maxHeartbeats 8000000 in
set_option maxRecDepth 100000 in
theorem laws_eqEntry.calls (a0_0 : Int) (a0_1 : Int) (a0_2 : Bool) (a1_0 : Int) (a1_1 : Int) (a1_2 : Bool) (r : Bool) (w : World) (h : laws_eqEntry.f a0_0 a0_1 a0_2 a1_0 a1_1 a1_2 = some r) :
  Calls Try.prog 73 #[.agg #[.int .i64 a0_0,.int .i64 a0_1,.bool a0_2],.agg #[.int .i64 a1_0,.int .i64 a1_1,.bool a1_2]] w fun e w' => e = .returned (.bool r) ∧ Below w.heap.size w w' := by
 have hu73 := Try.underlying73;have HB := Aside0.mk (Below.refl w.heap.size w);have H : (if a0_0 = a1_0 then (if a0_1 = a1_1 then (if (a0_2 != a1_2) = true then (some false) else (some true)) else (some false)) else (some false)) = some r := h;clear h
 by_cases c3 : a0_0 = a1_0
 ·rw [if_pos c3] at H;have c3b0 : (a0_0 == a1_0) = true := beq_iff_eq.mpr c3;have c3b1 : (a0_0 != a1_0) = false := bne_eq_false_iff_eq.mpr c3;clear c3
  by_cases c4 : a0_1 = a1_1
  ·rw [if_pos c4] at H;have c4b0 : (a0_1 == a1_1) = true := beq_iff_eq.mpr c4;have c4b1 : (a0_1 != a1_1) = false := bne_eq_false_iff_eq.mpr c4;clear c4
   by_cases c5 : (a0_2 != a1_2) = true
   ·rw [if_pos c5] at H;have c5b0 : (a0_2 != a1_2) = true := c5;(try (have c5b1 : decide (a0_2 = a1_2) = false := by simpa using c5));(try (have c5b2 : (a0_2 == a1_2) = false := by simpa using c5));(try (have c5b3 : ¬ (a0_2 = a1_2) := by simpa using c5));clear c5;obtain rfl := Option.some.inj H
    go_enter Try.func73,Try.ntmps73
    go_wp2_with (first | ((with_reducible refine gate_dst (N := 2) rfl ?_);refine box_event ?hg (N := 2) ?hd (cs := #[.int .i64 a0_0,.int .i64 a0_1,.bool a0_2]) (t := 73) ?hr ?_;(case hd => rfl);(case hg => rfl);(case hr => first | (go_simp;done) | (go_simp;rfl));intro gb101 hg w6 hbox hb;have n0_ := Aside0.mk (below_step (by repeat (first | (with_reducible first | exact HB.out | apply below_alloc | apply pw_below_drewN | apply below_drew1) | exact HB.out)) hb);have n1_ := Aside0.mk (hbox);have n2_ := Aside0.mk ((by rw [hg];exact (below_size (by repeat (first | (with_reducible first | exact HB.out | apply below_alloc | apply pw_below_drewN | apply below_drew1) | exact HB.out))) : w.heap.size ≤ gb101));have n3_ := Aside0.mk ((by rw [hg];exact (below_size (by repeat (first | (with_reducible first | exact HB.out | apply below_alloc | apply pw_below_drewN | apply below_drew1) | exact HB.out))) : w.heap.size ≤ gb101));clear HB;have HB := n0_;have BK101 := n1_;have GW101 := n2_;have GE101 := n3_;clear n0_ n1_ n2_ n3_;clear hb hbox hg) | ((with_reducible refine gate_dst (N := 3) rfl ?_);refine box_event ?hg (N := 3) ?hd (cs := #[.int .i64 a1_0,.int .i64 a1_1,.bool a1_2]) (t := 73) ?hr ?_;(case hd => rfl);(case hg => rfl);(case hr => first | (go_simp;done) | (go_simp;rfl));intro gb102 hg w7 hbox hb;have n0_ := Aside0.mk (blk_below (g := gb101) (o := .cells #[.int .i64 a0_0,.int .i64 a0_1,.bool a0_2] 73 (0,0)) (by (with_reducible repeat (first | refine blk_drewN ?_ _ | refine blk_drew ?_ | refine blk_alloc ?_ _));exact BK101.out) hb);have n1_ := Aside0.mk (below_step (by repeat (first | (with_reducible first | exact HB.out | apply below_alloc | apply pw_below_drewN | apply below_drew1 | refine below_set ?_ GE101.out) | exact HB.out)) hb);have n2_ := Aside0.mk (hbox);have n3_ := Aside0.mk ((by rw [hg];exact (below_size (by repeat (first | (with_reducible first | exact HB.out | apply below_alloc | apply pw_below_drewN | apply below_drew1 | refine below_set ?_ GE101.out) | exact HB.out))) : w.heap.size ≤ gb102));have n4_ := Aside0.mk ((by rw [hg];exact (below_size (by repeat (first | (with_reducible first | exact HB.out | apply below_alloc | apply pw_below_drewN | apply below_drew1 | refine below_set ?_ GE101.out) | exact HB.out))) : w.heap.size ≤ gb102));have n5_ := Aside0.mk ((by rw [hg];exact Nat.ne_of_lt (blk_lt (g := gb101) (o := .cells #[.int .i64 a0_0,.int .i64 a0_1,.bool a0_2] 73 (0,0)) (by (with_reducible repeat (first | refine blk_drewN ?_ _ | refine blk_drew ?_ | refine blk_alloc ?_ _));exact BK101.out)) : gb101 ≠ gb102));have n6_ := Aside0.mk ((by rw [hg];exact Nat.ne_of_gt (blk_lt (g := gb101) (o := .cells #[.int .i64 a0_0,.int .i64 a0_1,.bool a0_2] 73 (0,0)) (by (with_reducible repeat (first | refine blk_drewN ?_ _ | refine blk_drew ?_ | refine blk_alloc ?_ _));exact BK101.out)) : gb102 ≠ gb101));clear BK101;clear HB;have BK101 := n0_;have HB := n1_;have BK102 := n2_;have GW102 := n3_;have GE102 := n4_;have NB101_102 := n5_;have NB102_101 := n6_;clear n0_ n1_ n2_ n3_ n4_ n5_ n6_;clear hb hbox hg;have hnb8 := NB101_102.out;have hnc8 := NB102_101.out;have hcz9_0 : w7.cell? ⟨gb101,0,none⟩ = some (.int .i64 a0_0) := (blk_cell BK101.out 0).trans rfl;have hcz9_1 : w7.cell? ⟨gb101,1,none⟩ = some (.int .i64 a0_1) := (blk_cell BK101.out 1).trans rfl;have hcz9_2 : w7.cell? ⟨gb101,2,none⟩ = some (.bool a0_2) := (blk_cell BK101.out 2).trans rfl;have hfz9_0 := blk_frozen BK101.out 0;have hfz9_1 := blk_frozen BK101.out 1;have hfz9_2 := blk_frozen BK101.out 2;have hcz10_0 : w7.cell? ⟨gb102,0,none⟩ = some (.int .i64 a1_0) := (blk_cell BK102.out 0).trans rfl;have hcz10_1 : w7.cell? ⟨gb102,1,none⟩ = some (.int .i64 a1_1) := (blk_cell BK102.out 1).trans rfl;have hcz10_2 : w7.cell? ⟨gb102,2,none⟩ = some (.bool a1_2) := (blk_cell BK102.out 2).trans rfl;have hfz10_0 := blk_frozen BK102.out 0;have hfz10_1 := blk_frozen BK102.out 1;have hfz10_2 := blk_frozen BK102.out 2))
    go_ret
    exact ⟨by first | rfl | (simp [errW_none,errW_some,IntKind.wrap_i64,wrap64];done) | (simp [errW_none,errW_some] <;> rfl) | (simp [*,errW_none,errW_some] <;> rfl),by repeat (first | (with_reducible first | exact HB.out | apply below_alloc | apply pw_below_drewN | apply below_drew1 | refine below_set ?_ GE101.out | refine below_set ?_ GE102.out) | exact HB.out)⟩
   ·rw [if_neg c5] at H
    have c5b0 : (a0_2 != a1_2) = false := by simpa using c5
    (try (have c5b1 : decide (a0_2 = a1_2) = true := by simpa using c5));(try (have c5b2 : (a0_2 == a1_2) = true := by simpa using c5));clear c5;obtain rfl := Option.some.inj H
    go_enter Try.func73,Try.ntmps73
    go_wp2_with (first | ((with_reducible refine gate_dst (N := 2) rfl ?_);refine box_event ?hg (N := 2) ?hd (cs := #[.int .i64 a0_0,.int .i64 a0_1,.bool a0_2]) (t := 73) ?hr ?_;(case hd => rfl);(case hg => rfl);(case hr => first | (go_simp;done) | (go_simp;rfl));intro gb101 hg w11 hbox hb;have n0_ := Aside0.mk (below_step (by repeat (first | (with_reducible first | exact HB.out | apply below_alloc | apply pw_below_drewN | apply below_drew1) | exact HB.out)) hb);have n1_ := Aside0.mk (hbox);have n2_ := Aside0.mk ((by rw [hg];exact (below_size (by repeat (first | (with_reducible first | exact HB.out | apply below_alloc | apply pw_below_drewN | apply below_drew1) | exact HB.out))) : w.heap.size ≤ gb101));have n3_ := Aside0.mk ((by rw [hg];exact (below_size (by repeat (first | (with_reducible first | exact HB.out | apply below_alloc | apply pw_below_drewN | apply below_drew1) | exact HB.out))) : w.heap.size ≤ gb101));clear HB;have HB := n0_;have BK101 := n1_;have GW101 := n2_;have GE101 := n3_;clear n0_ n1_ n2_ n3_;clear hb hbox hg) | ((with_reducible refine gate_dst (N := 3) rfl ?_);refine box_event ?hg (N := 3) ?hd (cs := #[.int .i64 a1_0,.int .i64 a1_1,.bool a1_2]) (t := 73) ?hr ?_;(case hd => rfl);(case hg => rfl);(case hr => first | (go_simp;done) | (go_simp;rfl));intro gb102 hg w12 hbox hb;have n0_ := Aside0.mk (blk_below (g := gb101) (o := .cells #[.int .i64 a0_0,.int .i64 a0_1,.bool a0_2] 73 (0,0)) (by (with_reducible repeat (first | refine blk_drewN ?_ _ | refine blk_drew ?_ | refine blk_alloc ?_ _));exact BK101.out) hb);have n1_ := Aside0.mk (below_step (by repeat (first | (with_reducible first | exact HB.out | apply below_alloc | apply pw_below_drewN | apply below_drew1 | refine below_set ?_ GE101.out) | exact HB.out)) hb);have n2_ := Aside0.mk (hbox);have n3_ := Aside0.mk ((by rw [hg];exact (below_size (by repeat (first | (with_reducible first | exact HB.out | apply below_alloc | apply pw_below_drewN | apply below_drew1 | refine below_set ?_ GE101.out) | exact HB.out))) : w.heap.size ≤ gb102));have n4_ := Aside0.mk ((by rw [hg];exact (below_size (by repeat (first | (with_reducible first | exact HB.out | apply below_alloc | apply pw_below_drewN | apply below_drew1 | refine below_set ?_ GE101.out) | exact HB.out))) : w.heap.size ≤ gb102));have n5_ := Aside0.mk ((by rw [hg];exact Nat.ne_of_lt (blk_lt (g := gb101) (o := .cells #[.int .i64 a0_0,.int .i64 a0_1,.bool a0_2] 73 (0,0)) (by (with_reducible repeat (first | refine blk_drewN ?_ _ | refine blk_drew ?_ | refine blk_alloc ?_ _));exact BK101.out)) : gb101 ≠ gb102));have n6_ := Aside0.mk ((by rw [hg];exact Nat.ne_of_gt (blk_lt (g := gb101) (o := .cells #[.int .i64 a0_0,.int .i64 a0_1,.bool a0_2] 73 (0,0)) (by (with_reducible repeat (first | refine blk_drewN ?_ _ | refine blk_drew ?_ | refine blk_alloc ?_ _));exact BK101.out)) : gb102 ≠ gb101));clear BK101;clear HB;have BK101 := n0_;have HB := n1_;have BK102 := n2_;have GW102 := n3_;have GE102 := n4_;have NB101_102 := n5_;have NB102_101 := n6_;clear n0_ n1_ n2_ n3_ n4_ n5_ n6_;clear hb hbox hg;have hnb13 := NB101_102.out;have hnc13 := NB102_101.out;have hcz14_0 : w12.cell? ⟨gb101,0,none⟩ = some (.int .i64 a0_0) := (blk_cell BK101.out 0).trans rfl;have hcz14_1 : w12.cell? ⟨gb101,1,none⟩ = some (.int .i64 a0_1) := (blk_cell BK101.out 1).trans rfl;have hcz14_2 : w12.cell? ⟨gb101,2,none⟩ = some (.bool a0_2) := (blk_cell BK101.out 2).trans rfl;have hfz14_0 := blk_frozen BK101.out 0;have hfz14_1 := blk_frozen BK101.out 1;have hfz14_2 := blk_frozen BK101.out 2;have hcz15_0 : w12.cell? ⟨gb102,0,none⟩ = some (.int .i64 a1_0) := (blk_cell BK102.out 0).trans rfl;have hcz15_1 : w12.cell? ⟨gb102,1,none⟩ = some (.int .i64 a1_1) := (blk_cell BK102.out 1).trans rfl;have hcz15_2 : w12.cell? ⟨gb102,2,none⟩ = some (.bool a1_2) := (blk_cell BK102.out 2).trans rfl;have hfz15_0 := blk_frozen BK102.out 0;have hfz15_1 := blk_frozen BK102.out 1;have hfz15_2 := blk_frozen BK102.out 2))
    go_ret
    exact ⟨by first | rfl | (simp [errW_none,errW_some,IntKind.wrap_i64,wrap64];done) | (simp [errW_none,errW_some] <;> rfl) | (simp [*,errW_none,errW_some] <;> rfl),by repeat (first | (with_reducible first | exact HB.out | apply below_alloc | apply pw_below_drewN | apply below_drew1 | refine below_set ?_ GE101.out | refine below_set ?_ GE102.out) | exact HB.out)⟩
  ·rw [if_neg c4] at H;have c4b0 : (a0_1 == a1_1) = false := beq_eq_false_iff_ne.mpr c4;have c4b1 : (a0_1 != a1_1) = true := bne_iff_ne.mpr c4;obtain rfl := Option.some.inj H
   go_enter Try.func73,Try.ntmps73
   go_wp2_with (first | ((with_reducible refine gate_dst (N := 2) rfl ?_);refine box_event ?hg (N := 2) ?hd (cs := #[.int .i64 a0_0,.int .i64 a0_1,.bool a0_2]) (t := 73) ?hr ?_;(case hd => rfl);(case hg => rfl);(case hr => first | (go_simp;done) | (go_simp;rfl));intro gb101 hg w16 hbox hb;have n0_ := Aside0.mk (below_step (by repeat (first | (with_reducible first | exact HB.out | apply below_alloc | apply pw_below_drewN | apply below_drew1) | exact HB.out)) hb);have n1_ := Aside0.mk (hbox);have n2_ := Aside0.mk ((by rw [hg];exact (below_size (by repeat (first | (with_reducible first | exact HB.out | apply below_alloc | apply pw_below_drewN | apply below_drew1) | exact HB.out))) : w.heap.size ≤ gb101));have n3_ := Aside0.mk ((by rw [hg];exact (below_size (by repeat (first | (with_reducible first | exact HB.out | apply below_alloc | apply pw_below_drewN | apply below_drew1) | exact HB.out))) : w.heap.size ≤ gb101));clear HB;have HB := n0_;have BK101 := n1_;have GW101 := n2_;have GE101 := n3_;clear n0_ n1_ n2_ n3_;clear hb hbox hg) | ((with_reducible refine gate_dst (N := 3) rfl ?_);refine box_event ?hg (N := 3) ?hd (cs := #[.int .i64 a1_0,.int .i64 a1_1,.bool a1_2]) (t := 73) ?hr ?_;(case hd => rfl);(case hg => rfl);(case hr => first | (go_simp;done) | (go_simp;rfl));intro gb102 hg w17 hbox hb;have n0_ := Aside0.mk (blk_below (g := gb101) (o := .cells #[.int .i64 a0_0,.int .i64 a0_1,.bool a0_2] 73 (0,0)) (by (with_reducible repeat (first | refine blk_drewN ?_ _ | refine blk_drew ?_ | refine blk_alloc ?_ _));exact BK101.out) hb);have n1_ := Aside0.mk (below_step (by repeat (first | (with_reducible first | exact HB.out | apply below_alloc | apply pw_below_drewN | apply below_drew1 | refine below_set ?_ GE101.out) | exact HB.out)) hb);have n2_ := Aside0.mk (hbox);have n3_ := Aside0.mk ((by rw [hg];exact (below_size (by repeat (first | (with_reducible first | exact HB.out | apply below_alloc | apply pw_below_drewN | apply below_drew1 | refine below_set ?_ GE101.out) | exact HB.out))) : w.heap.size ≤ gb102));have n4_ := Aside0.mk ((by rw [hg];exact (below_size (by repeat (first | (with_reducible first | exact HB.out | apply below_alloc | apply pw_below_drewN | apply below_drew1 | refine below_set ?_ GE101.out) | exact HB.out))) : w.heap.size ≤ gb102));have n5_ := Aside0.mk ((by rw [hg];exact Nat.ne_of_lt (blk_lt (g := gb101) (o := .cells #[.int .i64 a0_0,.int .i64 a0_1,.bool a0_2] 73 (0,0)) (by (with_reducible repeat (first | refine blk_drewN ?_ _ | refine blk_drew ?_ | refine blk_alloc ?_ _));exact BK101.out)) : gb101 ≠ gb102));have n6_ := Aside0.mk ((by rw [hg];exact Nat.ne_of_gt (blk_lt (g := gb101) (o := .cells #[.int .i64 a0_0,.int .i64 a0_1,.bool a0_2] 73 (0,0)) (by (with_reducible repeat (first | refine blk_drewN ?_ _ | refine blk_drew ?_ | refine blk_alloc ?_ _));exact BK101.out)) : gb102 ≠ gb101));clear BK101;clear HB;have BK101 := n0_;have HB := n1_;have BK102 := n2_;have GW102 := n3_;have GE102 := n4_;have NB101_102 := n5_;have NB102_101 := n6_;clear n0_ n1_ n2_ n3_ n4_ n5_ n6_;clear hb hbox hg;have hnb18 := NB101_102.out;have hnc18 := NB102_101.out;have hcz19_0 : w17.cell? ⟨gb101,0,none⟩ = some (.int .i64 a0_0) := (blk_cell BK101.out 0).trans rfl;have hcz19_1 : w17.cell? ⟨gb101,1,none⟩ = some (.int .i64 a0_1) := (blk_cell BK101.out 1).trans rfl;have hcz19_2 : w17.cell? ⟨gb101,2,none⟩ = some (.bool a0_2) := (blk_cell BK101.out 2).trans rfl;have hfz19_0 := blk_frozen BK101.out 0;have hfz19_1 := blk_frozen BK101.out 1;have hfz19_2 := blk_frozen BK101.out 2;have hcz20_0 : w17.cell? ⟨gb102,0,none⟩ = some (.int .i64 a1_0) := (blk_cell BK102.out 0).trans rfl;have hcz20_1 : w17.cell? ⟨gb102,1,none⟩ = some (.int .i64 a1_1) := (blk_cell BK102.out 1).trans rfl;have hcz20_2 : w17.cell? ⟨gb102,2,none⟩ = some (.bool a1_2) := (blk_cell BK102.out 2).trans rfl;have hfz20_0 := blk_frozen BK102.out 0;have hfz20_1 := blk_frozen BK102.out 1;have hfz20_2 := blk_frozen BK102.out 2))
   go_ret
   exact ⟨by first | rfl | (simp [errW_none,errW_some,IntKind.wrap_i64,wrap64];done) | (simp [errW_none,errW_some] <;> rfl) | (simp [*,errW_none,errW_some] <;> rfl),by repeat (first | (with_reducible first | exact HB.out | apply below_alloc | apply pw_below_drewN | apply below_drew1 | refine below_set ?_ GE101.out | refine below_set ?_ GE102.out) | exact HB.out)⟩
 ·rw [if_neg c3] at H;have c3b0 : (a0_0 == a1_0) = false := beq_eq_false_iff_ne.mpr c3;have c3b1 : (a0_0 != a1_0) = true := bne_iff_ne.mpr c3;obtain rfl := Option.some.inj H
  go_enter Try.func73,Try.ntmps73
  go_wp2_with (first | ((with_reducible refine gate_dst (N := 2) rfl ?_);refine box_event ?hg (N := 2) ?hd (cs := #[.int .i64 a0_0,.int .i64 a0_1,.bool a0_2]) (t := 73) ?hr ?_;(case hd => rfl);(case hg => rfl);(case hr => first | (go_simp;done) | (go_simp;rfl));intro gb101 hg w21 hbox hb;have n0_ := Aside0.mk (below_step (by repeat (first | (with_reducible first | exact HB.out | apply below_alloc | apply pw_below_drewN | apply below_drew1) | exact HB.out)) hb);have n1_ := Aside0.mk (hbox);have n2_ := Aside0.mk ((by rw [hg];exact (below_size (by repeat (first | (with_reducible first | exact HB.out | apply below_alloc | apply pw_below_drewN | apply below_drew1) | exact HB.out))) : w.heap.size ≤ gb101));have n3_ := Aside0.mk ((by rw [hg];exact (below_size (by repeat (first | (with_reducible first | exact HB.out | apply below_alloc | apply pw_below_drewN | apply below_drew1) | exact HB.out))) : w.heap.size ≤ gb101));clear HB;have HB := n0_;have BK101 := n1_;have GW101 := n2_;have GE101 := n3_;clear n0_ n1_ n2_ n3_;clear hb hbox hg) | ((with_reducible refine gate_dst (N := 3) rfl ?_);refine box_event ?hg (N := 3) ?hd (cs := #[.int .i64 a1_0,.int .i64 a1_1,.bool a1_2]) (t := 73) ?hr ?_;(case hd => rfl);(case hg => rfl);(case hr => first | (go_simp;done) | (go_simp;rfl));intro gb102 hg w22 hbox hb;have n0_ := Aside0.mk (blk_below (g := gb101) (o := .cells #[.int .i64 a0_0,.int .i64 a0_1,.bool a0_2] 73 (0,0)) (by (with_reducible repeat (first | refine blk_drewN ?_ _ | refine blk_drew ?_ | refine blk_alloc ?_ _));exact BK101.out) hb);have n1_ := Aside0.mk (below_step (by repeat (first | (with_reducible first | exact HB.out | apply below_alloc | apply pw_below_drewN | apply below_drew1 | refine below_set ?_ GE101.out) | exact HB.out)) hb);have n2_ := Aside0.mk (hbox);have n3_ := Aside0.mk ((by rw [hg];exact (below_size (by repeat (first | (with_reducible first | exact HB.out | apply below_alloc | apply pw_below_drewN | apply below_drew1 | refine below_set ?_ GE101.out) | exact HB.out))) : w.heap.size ≤ gb102));have n4_ := Aside0.mk ((by rw [hg];exact (below_size (by repeat (first | (with_reducible first | exact HB.out | apply below_alloc | apply pw_below_drewN | apply below_drew1 | refine below_set ?_ GE101.out) | exact HB.out))) : w.heap.size ≤ gb102));have n5_ := Aside0.mk ((by rw [hg];exact Nat.ne_of_lt (blk_lt (g := gb101) (o := .cells #[.int .i64 a0_0,.int .i64 a0_1,.bool a0_2] 73 (0,0)) (by (with_reducible repeat (first | refine blk_drewN ?_ _ | refine blk_drew ?_ | refine blk_alloc ?_ _));exact BK101.out)) : gb101 ≠ gb102));have n6_ := Aside0.mk ((by rw [hg];exact Nat.ne_of_gt (blk_lt (g := gb101) (o := .cells #[.int .i64 a0_0,.int .i64 a0_1,.bool a0_2] 73 (0,0)) (by (with_reducible repeat (first | refine blk_drewN ?_ _ | refine blk_drew ?_ | refine blk_alloc ?_ _));exact BK101.out)) : gb102 ≠ gb101));clear BK101;clear HB;have BK101 := n0_;have HB := n1_;have BK102 := n2_;have GW102 := n3_;have GE102 := n4_;have NB101_102 := n5_;have NB102_101 := n6_;clear n0_ n1_ n2_ n3_ n4_ n5_ n6_;clear hb hbox hg;have hnb23 := NB101_102.out;have hnc23 := NB102_101.out;have hcz24_0 : w22.cell? ⟨gb101,0,none⟩ = some (.int .i64 a0_0) := (blk_cell BK101.out 0).trans rfl;have hcz24_1 : w22.cell? ⟨gb101,1,none⟩ = some (.int .i64 a0_1) := (blk_cell BK101.out 1).trans rfl;have hcz24_2 : w22.cell? ⟨gb101,2,none⟩ = some (.bool a0_2) := (blk_cell BK101.out 2).trans rfl;have hfz24_0 := blk_frozen BK101.out 0;have hfz24_1 := blk_frozen BK101.out 1;have hfz24_2 := blk_frozen BK101.out 2;have hcz25_0 : w22.cell? ⟨gb102,0,none⟩ = some (.int .i64 a1_0) := (blk_cell BK102.out 0).trans rfl;have hcz25_1 : w22.cell? ⟨gb102,1,none⟩ = some (.int .i64 a1_1) := (blk_cell BK102.out 1).trans rfl;have hcz25_2 : w22.cell? ⟨gb102,2,none⟩ = some (.bool a1_2) := (blk_cell BK102.out 2).trans rfl;have hfz25_0 := blk_frozen BK102.out 0;have hfz25_1 := blk_frozen BK102.out 1;have hfz25_2 := blk_frozen BK102.out 2))
  go_ret
  exact ⟨by first | rfl | (simp [errW_none,errW_some,IntKind.wrap_i64,wrap64];done) | (simp [errW_none,errW_some] <;> rfl) | (simp [*,errW_none,errW_some] <;> rfl),by repeat (first | (with_reducible first | exact HB.out | apply below_alloc | apply pw_below_drewN | apply below_drew1 | refine below_set ?_ GE101.out | refine below_set ?_ GE102.out) | exact HB.out)⟩
end Go.Proofs.Ytidkniacmcbgiaa.G
end

section
namespace Go.Proofs.Ytidkniacmcbgiaa.G
open Go.RowKit Go.Proofs.YtidkniacmcbgiaaW.PrintWords Go.Proofs.YtidkniacmcbgiaaW.PrintLast Go.Proofs.YtidkniacmcbgiaaW.PrintMore
attribute [local go_sem] max2_int min2_int max_two min_two max_three min_three max_four min_four
set_option linter.unusedVariables false
set_option linter.unusedSimpArgs false
def laws_eqLog.l0 : Nat → List (S73) → List (S73) → Int → Option (Bool)
 | 0,_,_,_ => none
 | k + 1,x0,x1,x5 => if x5 < (x0.length : Int) then (if 0 ≤ x5 then (if x5 < (x1.length : Int) then ((laws_eqEntry.f ((rd_T73 x0 x5).f0) ((rd_T73 x0 x5).f1) ((rd_T73 x0 x5).f2) ((rd_T73 x1 x5).f0) ((rd_T73 x1 x5).f1) ((rd_T73 x1 x5).f2)).bind fun t103 => (if t103 = true then (laws_eqLog.l0 k x0 x1 (wrap64 (x5 + 1))) else (some false))) else (none)) else (none)) else (some true)
def laws_eqLog.f (k : Nat) (l0 : List (S73)) (l1 : List (S73)) : Option (Bool) := if (l0.length : Int) = (l1.length : Int) then (laws_eqLog.l0 k l0 l1 0) else (some false)
def laws_eqLog.T6 : Bool × List (List Nat × List Nat) := (true,[([],[]),([],[]),([0,1],[0,1]),([2],[2]),([],[]),([],[]),([4,5],[4,5]),([6],[6]),([3,7],[3,7]),([8],[8])])
def laws_eqLog.B6 : List Nat := [0,0,3,7,0,0,48,112,255,511]
theorem laws_eqLog.tab6 : rtab .any (opsOf Try.f23 6) = laws_eqLog.T6 := by kernel_rfl
theorem laws_eqLog.bits6 : waitsOk laws_eqLog.T6.2 laws_eqLog.B6 = true := by kernel_rfl
set_option maxHeartbeats 8000000 in
set_option maxRecDepth 100000 in
theorem laws_eqLog.calls (k : Nat) (A0 : Option Addr) (c0 : Nat) (l0 : List (S73)) (A1 : Option Addr) (c1 : Nat) (l1 : List (S73)) (r : Bool) (w : World) (hr0 : Kd.C k73 w A0 l0.length l0) (hc0 : l0.length ≤ c0) (hr1 : Kd.C k73 w A1 l1.length l1) (hc1 : l1.length ≤ c1) (h : laws_eqLog.f k l0 l1 = some r) :
  Calls Try.prog 23 #[.slice A0 l0.length c0,.slice A1 l1.length c1] w fun e w' => e = .returned (.bool r) ∧ Below w.heap.size w w' := by
 have hu73 := Try.underlying73;have HR0 := Aside0.mk hr0;have HC0 := Aside0.mk hc0;clear hr0 hc0;have HR1 := Aside0.mk hr1;have HC1 := Aside0.mk hc1;clear hr1 hc1;have HB := Aside0.mk (Below.refl w.heap.size w);have H : (if (l0.length : Int) = (l1.length : Int) then (laws_eqLog.l0 k l0 l1 0) else (some false)) = some r := h;clear h
 by_cases c3 : (l0.length : Int) = (l1.length : Int)
 ·rw [if_pos c3] at H;have c3b0 : ((l0.length : Int) == (l1.length : Int)) = true := beq_iff_eq.mpr c3;have c3b1 : ((l0.length : Int) != (l1.length : Int)) = false := bne_eq_false_iff_eq.mpr c3
  have c3b2 : (l0.length == l1.length) = true := by first | simpa using c3 | (simp at c3 ⊢;omega)
  clear c3;have H' := Aside0.mk H;clear H
  go_enter Try.func23,Try.ntmps23
  go_wp2
  go_loopg [5] k (fun kq v5 w' => ∃ (x5_1 : Int),v5 = .int .i64 x5_1 ∧ Aside0 (laws_eqLog.l0 kq l0 l1 x5_1 = some r) ∧ Aside0 (kq ≤ k) ∧ Aside0 (Below w.heap.size w w'))
  case atStart => exact ⟨(0),(by first | rfl | (simp only [IntKind.wrap_i64,wrap64];done) | (simp;done) | (simp [*];done)),H',⟨Nat.le_refl _⟩,⟨by repeat (first | (with_reducible first | exact HB.out | apply below_alloc | apply pw_below_drewN | apply below_drew1) | exact HB.out)⟩⟩
  case round =>
   clear H';(try clear c1);(try clear c2);(try clear p2);(try clear c3);(try clear c3b0);(try clear c3b1);(try clear c3b2);obtain ⟨x5_1,rfl,HA,HK1,HB⟩ := hrel
   cases gk with
   | zero => exact absurd HA.out (by simp [laws_eqLog.l0])
   | succ k1 =>
    have H := HA.out;clear HA;simp only [laws_eqLog.l0] at H
    by_cases c4 : x5_1 < (l0.length : Int)
    ·rw [if_pos c4] at H;have c4b0 : decide (x5_1 < (l0.length : Int)) = true := decide_eq_true c4;clear c4
     by_cases c5 : 0 ≤ x5_1
     ·rw [if_pos c5] at H;have c5b0 : decide (0 ≤ x5_1) = true := decide_eq_true c5;clear c5
      by_cases c6 : x5_1 < (l1.length : Int)
      ·rw [if_pos c6] at H;have c6b0 : decide (x5_1 < (l1.length : Int)) = true := decide_eq_true c6;clear c6;replace H := Option.bind_eq_some_iff.mp H;obtain ⟨t103,A70,H⟩ := H;replace H : (if t103 = true then (laws_eqLog.l0 k1 l0 l1 (wrap64 (x5_1 + 1))) else (some false)) = some r := H;have A7 := Aside0.mk A70;clear A70
       by_cases c8 : t103 = true
       ·subst c8
        have H1 : (laws_eqLog.l0 k1 l0 l1 (wrap64 (x5_1 + 1))) = some r := by rw [if_pos rfl] at H;exact H
        clear H;have H := H1;clear H1;have H' := Aside0.mk H;clear H;(try go_wp2);have n0_ := Aside0.mk (below_drew1 HB.out);clear HB;have HB := n0_;clear n0_;have p101 : 0 ≤ (x5_1 : Int) := of_decide_eq_true (by first | (with_reducible assumption) | assumption);have q101 : x5_1 < (l0.length : Int) := of_decide_eq_true (by first | (with_reducible assumption) | assumption);obtain ⟨ad101,e101,hx101_0,hx101_1,hx101_2⟩ := at_T73 HR0.out x5_1 p101 q101;have hw101_2 := hx101_2;have hw101_1 := hx101_1;have hw101_0 := hx101_0;cases e101;replace hx101_0 := (HB.out.cell (World.block_lt_of_cell? w _ hx101_0)).trans hx101_0;replace hx101_1 := (HB.out.cell (World.block_lt_of_cell? w _ hx101_1)).trans hx101_1;replace hx101_2 := (HB.out.cell (World.block_lt_of_cell? w _ hx101_2)).trans hx101_2;replace p101 := eq_true p101;replace q101 := eq_true q101;have p102 : 0 ≤ (x5_1 : Int) := of_decide_eq_true (by first | (with_reducible assumption) | assumption);have q102 : x5_1 < (l1.length : Int) := of_decide_eq_true (by first | (with_reducible assumption) | assumption);obtain ⟨ad102,e102,hx102_0,hx102_1,hx102_2⟩ := at_T73 HR1.out x5_1 p102 q102;have hw102_2 := hx102_2;have hw102_1 := hx102_1;have hw102_0 := hx102_0;cases e102;replace hx102_0 := (HB.out.cell (World.block_lt_of_cell? w _ hx102_0)).trans hx102_0;replace hx102_1 := (HB.out.cell (World.block_lt_of_cell? w _ hx102_1)).trans hx102_1;replace hx102_2 := (HB.out.cell (World.block_lt_of_cell? w _ hx102_2)).trans hx102_2;replace p102 := eq_true p102;replace q102 := eq_true q102;refine start_ (n := 10) (S := fun w' => w'.cell? (ad101.add ((x5_1).toNat * 3)) = some (.int .i64 ((rd_T73 l0 x5_1).f0)) ∧ w'.cell? ⟨(ad101.add ((x5_1).toNat * 3)).block,(ad101.add ((x5_1).toNat * 3)).off + 1,none⟩ = some (.int .i64 ((rd_T73 l0 x5_1).f1)) ∧ w'.cell? ⟨(ad101.add ((x5_1).toNat * 3)).block,(ad101.add ((x5_1).toNat * 3)).off + 2,none⟩ = some (.bool ((rd_T73 l0 x5_1).f2)) ∧ w'.cell? (ad102.add ((x5_1).toNat * 3)) = some (.int .i64 ((rd_T73 l1 x5_1).f0)) ∧ w'.cell? ⟨(ad102.add ((x5_1).toNat * 3)).block,(ad102.add ((x5_1).toNat * 3)).off + 1,none⟩ = some (.int .i64 ((rd_T73 l1 x5_1).f1)) ∧ w'.cell? ⟨(ad102.add ((x5_1).toNat * 3)).block,(ad102.add ((x5_1).toNat * 3)).off + 2,none⟩ = some (.bool ((rd_T73 l1 x5_1).f2))) (ds := []) #[false,false,false,false,false,false,false,false,false,false] (by kernel_rfl) rfl rfl ⟨((HB.out.cell (World.block_lt_of_cell? w _ hw101_0)).trans hw101_0),((HB.out.cell (World.block_lt_of_cell? w _ hw101_1)).trans hw101_1),((HB.out.cell (World.block_lt_of_cell? w _ hw101_2)).trans hw101_2),((HB.out.cell (World.block_lt_of_cell? w _ hw102_0)).trans hw102_0),((HB.out.cell (World.block_lt_of_cell? w _ hw102_1)).trans hw102_1),((HB.out.cell (World.block_lt_of_cell? w _ hw102_2)).trans hw102_2)⟩ (fun hHeld => ?_);refine with_tabW laws_eqLog.tab6 laws_eqLog.bits6 (fun HT_ HW_ => ?_);generalize wr.drew = w9 at HB hx101_0 hx101_1 hx101_2 hx102_0 hx102_1 hx102_2 hHeld ⊢;refine pure_ (i := 0) (N := some 17) (v := ?_) (a' := ?_) #[true,false,false,false,false,false,false,false,false,false] rfl rfl (any_of HT_.out (by kernel_rfl)) (fun _ _ _ h => h) (Or.inl ⟨by rfl,?_⟩) ?_ ?_;rotate_left
        ·intro w';go_simp;with_reducible rfl
        rotate_left
        ·simp only [Act.put,List.setIfInBounds_toArray,List.set_cons_zero,List.set_cons_succ,i64_w,i32_w];rfl
        refine pure_ (i := 1) (N := some 18) (v := ?_) (a' := ?_) #[true,true,false,false,false,false,false,false,false,false] rfl rfl (any_of HT_.out (by kernel_rfl)) (fun _ _ _ h => h) (Or.inl ⟨by rfl,?_⟩) ?_ ?_;rotate_left
        ·intro w';go_simp;with_reducible rfl
        rotate_left
        ·simp only [Act.put,List.setIfInBounds_toArray,List.set_cons_zero,List.set_cons_succ,i64_w,i32_w];rfl
        refine pure_ (i := 2) (N := some 19) (v := ?_) (a' := ?_) #[true,true,true,false,false,false,false,false,false,false] rfl rfl (any_of HT_.out (by kernel_rfl)) (fun _ _ _ h => h) (Or.inl ⟨by rfl,?_⟩) ?_ ?_;rotate_left
        ·intro w';go_simp;with_reducible rfl
        rotate_left
        ·simp only [Act.put,List.setIfInBounds_toArray,List.set_cons_zero,List.set_cons_succ,i64_w,i32_w];rfl
        refine pure_ (i := 4) (N := some 21) (v := ?_) (a' := ?_) #[true,true,true,false,true,false,false,false,false,false] rfl rfl (any_of HT_.out (by kernel_rfl)) (fun _ _ _ h => h) (Or.inl ⟨by rfl,?_⟩) ?_ ?_;rotate_left
        ·intro w';go_simp;with_reducible rfl
        rotate_left
        ·simp only [Act.put,List.setIfInBounds_toArray,List.set_cons_zero,List.set_cons_succ,i64_w,i32_w];rfl
        refine pure_ (i := 5) (N := some 22) (v := ?_) (a' := ?_) #[true,true,true,false,true,true,false,false,false,false] rfl rfl (any_of HT_.out (by kernel_rfl)) (fun _ _ _ h => h) (Or.inl ⟨by rfl,?_⟩) ?_ ?_;rotate_left
        ·intro w';go_simp;with_reducible rfl
        rotate_left
        ·simp only [Act.put,List.setIfInBounds_toArray,List.set_cons_zero,List.set_cons_succ,i64_w,i32_w];rfl
        refine pure_ (i := 6) (N := some 23) (v := ?_) (a' := ?_) #[true,true,true,false,true,true,true,false,false,false] rfl rfl (any_of HT_.out (by kernel_rfl)) (fun _ _ _ h => h) (Or.inl ⟨by rfl,?_⟩) ?_ ?_;rotate_left
        ·intro w';go_simp;with_reducible rfl
        rotate_left
        ·simp only [Act.put,List.setIfInBounds_toArray,List.set_cons_zero,List.set_cons_succ,i64_w,i32_w];rfl
        refine take_ (i := 3) (N := some 20) (v := ?_) (a' := ?_) #[true,true,true,true,true,true,true,false,false,false] rfl rfl (take_ofW HT_.out HW_.out (by kernel_rfl)) (fun _ _ _ h => h) (Or.inl ⟨by rfl,?_⟩) hHeld ?_ ?_;rotate_left
        ·rintro w' ⟨s0,s1,s2,s3,s4,s5⟩
         go_simp;with_reducible rfl
        rotate_left
        ·simp only [Act.put,List.setIfInBounds_toArray,List.set_cons_zero,List.set_cons_succ,i64_w,i32_w];rfl
        refine take_ (i := 7) (N := some 24) (v := ?_) (a' := ?_) #[true,true,true,true,true,true,true,true,false,false] rfl rfl (take_ofW HT_.out HW_.out (by kernel_rfl)) (fun _ _ _ h => h) (Or.inl ⟨by rfl,?_⟩) hHeld ?_ ?_;rotate_left
        ·rintro w' ⟨s0,s1,s2,s3,s4,s5⟩
         go_simp;with_reducible rfl
        rotate_left
        ·simp only [Act.put,List.setIfInBounds_toArray,List.set_cons_zero,List.set_cons_succ,i64_w,i32_w];rfl
        refine one_ (i := 8) (N := some 25) #[true,true,true,true,true,true,true,true,true,false] rfl rfl (one_of HT_.out (by kernel_rfl)) (by decide) (fun K hK => ?_);refine goes_ Try.func73 (by kernel_rfl) rfl #[.agg #[.int .i64 ((rd_T73 l0 x5_1).f0),.int .i64 ((rd_T73 l0 x5_1).f1),.bool ((rd_T73 l0 x5_1).f2)],.agg #[.int .i64 ((rd_T73 l1 x5_1).f0),.int .i64 ((rd_T73 l1 x5_1).f1),.bool ((rd_T73 l1 x5_1).f2)]] (by rfl) rfl rfl (by (try simp only [List.map_toArray,List.map_cons,List.map_nil]);first | done | rfl | (simp only [List.length_drop,List.length_take];rfl)) ?_
        with_reducible refine (laws_eqEntry.calls ((rd_T73 l0 x5_1).f0) ((rd_T73 l0 x5_1).f1) ((rd_T73 l0 x5_1).f2) ((rd_T73 l1 x5_1).f0) ((rd_T73 l1 x5_1).f1) ((rd_T73 l1 x5_1).f2) true _ A7.out).mono ?_
        rintro e w10 ⟨rfl,hb⟩
        refine ⟨_,rfl,?_⟩;have n0_ := Aside0.mk (below_step (by repeat (first | (with_reducible first | exact HB.out | apply below_alloc | apply pw_below_drewN | apply below_drew1) | exact HB.out)) hb);clear HB;have HB := n0_;clear n0_;(try clear hb);(try clear hb2);(try clear hk);(try clear hi);refine hK.out _ _ ⟨((HB.out.cell (World.block_lt_of_cell? w _ hw101_0)).trans hw101_0),((HB.out.cell (World.block_lt_of_cell? w _ hw101_1)).trans hw101_1),((HB.out.cell (World.block_lt_of_cell? w _ hw101_2)).trans hw101_2),((HB.out.cell (World.block_lt_of_cell? w _ hw102_0)).trans hw102_0),((HB.out.cell (World.block_lt_of_cell? w _ hw102_1)).trans hw102_1),((HB.out.cell (World.block_lt_of_cell? w _ hw102_2)).trans hw102_2)⟩ (fun hHeld => ?_);clear hK K;refine norm_ (a' := ?_) ?_ ?_;rotate_left
        ·show Act.put _ (some 25) _ = _
         simp only [Act.put,List.setIfInBounds_toArray,List.set_cons_zero,List.set_cons_succ,i64_w,i32_w];rfl
        refine pure_ (i := 9) (N := some 26) (v := ?_) (a' := ?_) #[true,true,true,true,true,true,true,true,true,true] rfl rfl (any_of HT_.out (by kernel_rfl)) (fun _ _ _ h => h) (Or.inl ⟨by rfl,?_⟩) ?_ ?_;rotate_left
        ·intro w';go_simp;with_reducible rfl
        rotate_left
        ·simp only [Act.put,List.setIfInBounds_toArray,List.set_cons_zero,List.set_cons_succ,i64_w,i32_w];rfl
        refine done_ (done_of HT_.out (by kernel_rfl)) ?_;(try go_wp2)
        go_roundg k1
        case measure => have := HK1.out;omega
        case rel => exact ⟨(wrap64 (x5_1 + 1)),(by first | rfl | (simp only [IntKind.wrap_i64,wrap64];done) | (simp;done) | (simp [*];done)),H',⟨by have := HK1.out;omega⟩,⟨by repeat (first | (with_reducible first | exact HB.out | apply below_alloc | apply pw_below_drewN | apply below_drew1) | exact HB.out)⟩⟩
       ·replace c8 := Bool.eq_false_iff.mpr c8;subst c8
        have H1 : (some false) = some r := by rw [if_neg (show ¬ (false = true) by decide)] at H;exact H
        clear H;have H := H1;clear H1;obtain rfl := Option.some.inj H;(try go_wp2);have n0_ := Aside0.mk (below_drew1 HB.out);clear HB;have HB := n0_;clear n0_;have p101 : 0 ≤ (x5_1 : Int) := of_decide_eq_true (by first | (with_reducible assumption) | assumption);have q101 : x5_1 < (l0.length : Int) := of_decide_eq_true (by first | (with_reducible assumption) | assumption);obtain ⟨ad101,e101,hx101_0,hx101_1,hx101_2⟩ := at_T73 HR0.out x5_1 p101 q101;have hw101_2 := hx101_2;have hw101_1 := hx101_1;have hw101_0 := hx101_0;cases e101;replace hx101_0 := (HB.out.cell (World.block_lt_of_cell? w _ hx101_0)).trans hx101_0;replace hx101_1 := (HB.out.cell (World.block_lt_of_cell? w _ hx101_1)).trans hx101_1;replace hx101_2 := (HB.out.cell (World.block_lt_of_cell? w _ hx101_2)).trans hx101_2;replace p101 := eq_true p101;replace q101 := eq_true q101;have p102 : 0 ≤ (x5_1 : Int) := of_decide_eq_true (by first | (with_reducible assumption) | assumption);have q102 : x5_1 < (l1.length : Int) := of_decide_eq_true (by first | (with_reducible assumption) | assumption);obtain ⟨ad102,e102,hx102_0,hx102_1,hx102_2⟩ := at_T73 HR1.out x5_1 p102 q102;have hw102_2 := hx102_2;have hw102_1 := hx102_1;have hw102_0 := hx102_0;cases e102;replace hx102_0 := (HB.out.cell (World.block_lt_of_cell? w _ hx102_0)).trans hx102_0;replace hx102_1 := (HB.out.cell (World.block_lt_of_cell? w _ hx102_1)).trans hx102_1;replace hx102_2 := (HB.out.cell (World.block_lt_of_cell? w _ hx102_2)).trans hx102_2;replace p102 := eq_true p102;replace q102 := eq_true q102;refine start_ (n := 10) (S := fun w' => w'.cell? (ad101.add ((x5_1).toNat * 3)) = some (.int .i64 ((rd_T73 l0 x5_1).f0)) ∧ w'.cell? ⟨(ad101.add ((x5_1).toNat * 3)).block,(ad101.add ((x5_1).toNat * 3)).off + 1,none⟩ = some (.int .i64 ((rd_T73 l0 x5_1).f1)) ∧ w'.cell? ⟨(ad101.add ((x5_1).toNat * 3)).block,(ad101.add ((x5_1).toNat * 3)).off + 2,none⟩ = some (.bool ((rd_T73 l0 x5_1).f2)) ∧ w'.cell? (ad102.add ((x5_1).toNat * 3)) = some (.int .i64 ((rd_T73 l1 x5_1).f0)) ∧ w'.cell? ⟨(ad102.add ((x5_1).toNat * 3)).block,(ad102.add ((x5_1).toNat * 3)).off + 1,none⟩ = some (.int .i64 ((rd_T73 l1 x5_1).f1)) ∧ w'.cell? ⟨(ad102.add ((x5_1).toNat * 3)).block,(ad102.add ((x5_1).toNat * 3)).off + 2,none⟩ = some (.bool ((rd_T73 l1 x5_1).f2))) (ds := []) #[false,false,false,false,false,false,false,false,false,false] (by kernel_rfl) rfl rfl ⟨((HB.out.cell (World.block_lt_of_cell? w _ hw101_0)).trans hw101_0),((HB.out.cell (World.block_lt_of_cell? w _ hw101_1)).trans hw101_1),((HB.out.cell (World.block_lt_of_cell? w _ hw101_2)).trans hw101_2),((HB.out.cell (World.block_lt_of_cell? w _ hw102_0)).trans hw102_0),((HB.out.cell (World.block_lt_of_cell? w _ hw102_1)).trans hw102_1),((HB.out.cell (World.block_lt_of_cell? w _ hw102_2)).trans hw102_2)⟩ (fun hHeld => ?_);refine with_tabW laws_eqLog.tab6 laws_eqLog.bits6 (fun HT_ HW_ => ?_);generalize wr.drew = w11 at HB hx101_0 hx101_1 hx101_2 hx102_0 hx102_1 hx102_2 hHeld ⊢;refine pure_ (i := 0) (N := some 17) (v := ?_) (a' := ?_) #[true,false,false,false,false,false,false,false,false,false] rfl rfl (any_of HT_.out (by kernel_rfl)) (fun _ _ _ h => h) (Or.inl ⟨by rfl,?_⟩) ?_ ?_;rotate_left
        ·intro w';go_simp;with_reducible rfl
        rotate_left
        ·simp only [Act.put,List.setIfInBounds_toArray,List.set_cons_zero,List.set_cons_succ,i64_w,i32_w];rfl
        refine pure_ (i := 1) (N := some 18) (v := ?_) (a' := ?_) #[true,true,false,false,false,false,false,false,false,false] rfl rfl (any_of HT_.out (by kernel_rfl)) (fun _ _ _ h => h) (Or.inl ⟨by rfl,?_⟩) ?_ ?_;rotate_left
        ·intro w';go_simp;with_reducible rfl
        rotate_left
        ·simp only [Act.put,List.setIfInBounds_toArray,List.set_cons_zero,List.set_cons_succ,i64_w,i32_w];rfl
        refine pure_ (i := 2) (N := some 19) (v := ?_) (a' := ?_) #[true,true,true,false,false,false,false,false,false,false] rfl rfl (any_of HT_.out (by kernel_rfl)) (fun _ _ _ h => h) (Or.inl ⟨by rfl,?_⟩) ?_ ?_;rotate_left
        ·intro w';go_simp;with_reducible rfl
        rotate_left
        ·simp only [Act.put,List.setIfInBounds_toArray,List.set_cons_zero,List.set_cons_succ,i64_w,i32_w];rfl
        refine pure_ (i := 4) (N := some 21) (v := ?_) (a' := ?_) #[true,true,true,false,true,false,false,false,false,false] rfl rfl (any_of HT_.out (by kernel_rfl)) (fun _ _ _ h => h) (Or.inl ⟨by rfl,?_⟩) ?_ ?_;rotate_left
        ·intro w';go_simp;with_reducible rfl
        rotate_left
        ·simp only [Act.put,List.setIfInBounds_toArray,List.set_cons_zero,List.set_cons_succ,i64_w,i32_w];rfl
        refine pure_ (i := 5) (N := some 22) (v := ?_) (a' := ?_) #[true,true,true,false,true,true,false,false,false,false] rfl rfl (any_of HT_.out (by kernel_rfl)) (fun _ _ _ h => h) (Or.inl ⟨by rfl,?_⟩) ?_ ?_;rotate_left
        ·intro w';go_simp;with_reducible rfl
        rotate_left
        ·simp only [Act.put,List.setIfInBounds_toArray,List.set_cons_zero,List.set_cons_succ,i64_w,i32_w];rfl
        refine pure_ (i := 6) (N := some 23) (v := ?_) (a' := ?_) #[true,true,true,false,true,true,true,false,false,false] rfl rfl (any_of HT_.out (by kernel_rfl)) (fun _ _ _ h => h) (Or.inl ⟨by rfl,?_⟩) ?_ ?_;rotate_left
        ·intro w';go_simp;with_reducible rfl
        rotate_left
        ·simp only [Act.put,List.setIfInBounds_toArray,List.set_cons_zero,List.set_cons_succ,i64_w,i32_w];rfl
        refine take_ (i := 3) (N := some 20) (v := ?_) (a' := ?_) #[true,true,true,true,true,true,true,false,false,false] rfl rfl (take_ofW HT_.out HW_.out (by kernel_rfl)) (fun _ _ _ h => h) (Or.inl ⟨by rfl,?_⟩) hHeld ?_ ?_;rotate_left
        ·rintro w' ⟨s0,s1,s2,s3,s4,s5⟩
         go_simp;with_reducible rfl
        rotate_left
        ·simp only [Act.put,List.setIfInBounds_toArray,List.set_cons_zero,List.set_cons_succ,i64_w,i32_w];rfl
        refine take_ (i := 7) (N := some 24) (v := ?_) (a' := ?_) #[true,true,true,true,true,true,true,true,false,false] rfl rfl (take_ofW HT_.out HW_.out (by kernel_rfl)) (fun _ _ _ h => h) (Or.inl ⟨by rfl,?_⟩) hHeld ?_ ?_;rotate_left
        ·rintro w' ⟨s0,s1,s2,s3,s4,s5⟩
         go_simp;with_reducible rfl
        rotate_left
        ·simp only [Act.put,List.setIfInBounds_toArray,List.set_cons_zero,List.set_cons_succ,i64_w,i32_w];rfl
        refine one_ (i := 8) (N := some 25) #[true,true,true,true,true,true,true,true,true,false] rfl rfl (one_of HT_.out (by kernel_rfl)) (by decide) (fun K hK => ?_);refine goes_ Try.func73 (by kernel_rfl) rfl #[.agg #[.int .i64 ((rd_T73 l0 x5_1).f0),.int .i64 ((rd_T73 l0 x5_1).f1),.bool ((rd_T73 l0 x5_1).f2)],.agg #[.int .i64 ((rd_T73 l1 x5_1).f0),.int .i64 ((rd_T73 l1 x5_1).f1),.bool ((rd_T73 l1 x5_1).f2)]] (by rfl) rfl rfl (by (try simp only [List.map_toArray,List.map_cons,List.map_nil]);first | done | rfl | (simp only [List.length_drop,List.length_take];rfl)) ?_
        with_reducible refine (laws_eqEntry.calls ((rd_T73 l0 x5_1).f0) ((rd_T73 l0 x5_1).f1) ((rd_T73 l0 x5_1).f2) ((rd_T73 l1 x5_1).f0) ((rd_T73 l1 x5_1).f1) ((rd_T73 l1 x5_1).f2) false _ A7.out).mono ?_
        rintro e w12 ⟨rfl,hb⟩
        refine ⟨_,rfl,?_⟩;have n0_ := Aside0.mk (below_step (by repeat (first | (with_reducible first | exact HB.out | apply below_alloc | apply pw_below_drewN | apply below_drew1) | exact HB.out)) hb);clear HB;have HB := n0_;clear n0_;(try clear hb);(try clear hb2);(try clear hk);(try clear hi);refine hK.out _ _ ⟨((HB.out.cell (World.block_lt_of_cell? w _ hw101_0)).trans hw101_0),((HB.out.cell (World.block_lt_of_cell? w _ hw101_1)).trans hw101_1),((HB.out.cell (World.block_lt_of_cell? w _ hw101_2)).trans hw101_2),((HB.out.cell (World.block_lt_of_cell? w _ hw102_0)).trans hw102_0),((HB.out.cell (World.block_lt_of_cell? w _ hw102_1)).trans hw102_1),((HB.out.cell (World.block_lt_of_cell? w _ hw102_2)).trans hw102_2)⟩ (fun hHeld => ?_);clear hK K;refine norm_ (a' := ?_) ?_ ?_;rotate_left
        ·show Act.put _ (some 25) _ = _
         simp only [Act.put,List.setIfInBounds_toArray,List.set_cons_zero,List.set_cons_succ,i64_w,i32_w];rfl
        refine pure_ (i := 9) (N := some 26) (v := ?_) (a' := ?_) #[true,true,true,true,true,true,true,true,true,true] rfl rfl (any_of HT_.out (by kernel_rfl)) (fun _ _ _ h => h) (Or.inl ⟨by rfl,?_⟩) ?_ ?_;rotate_left
        ·intro w';go_simp;with_reducible rfl
        rotate_left
        ·simp only [Act.put,List.setIfInBounds_toArray,List.set_cons_zero,List.set_cons_succ,i64_w,i32_w];rfl
        refine done_ (done_of HT_.out (by kernel_rfl)) ?_;(try go_wp2)
        go_ret
        exact ⟨by first | rfl | (simp [errW_none,errW_some,IntKind.wrap_i64,wrap64];done) | (simp [errW_none,errW_some] <;> rfl) | (simp [*,errW_none,errW_some] <;> rfl),by repeat (first | (with_reducible first | exact HB.out | apply below_alloc | apply pw_below_drewN | apply below_drew1) | exact HB.out)⟩
      ·rw [if_neg c6] at H;exact absurd H (by simp)
     ·rw [if_neg c5] at H;exact absurd H (by simp)
    ·rw [if_neg c4] at H;have c4b0 : decide (x5_1 < (l0.length : Int)) = false := decide_eq_false c4;clear c4;obtain rfl := Option.some.inj H
     go_wp2
     go_ret
     exact ⟨by first | rfl | (simp [errW_none,errW_some,IntKind.wrap_i64,wrap64];done) | (simp [errW_none,errW_some] <;> rfl) | (simp [*,errW_none,errW_some] <;> rfl),by repeat (first | (with_reducible first | exact HB.out | apply below_alloc | apply pw_below_drewN | apply below_drew1) | exact HB.out)⟩
 ·rw [if_neg c3] at H;have c3b0 : ((l0.length : Int) == (l1.length : Int)) = false := beq_eq_false_iff_ne.mpr c3;have c3b1 : ((l0.length : Int) != (l1.length : Int)) = true := bne_iff_ne.mpr c3
  have c3b2 : (l0.length == l1.length) = false := by first | simpa using c3 | (simp at c3 ⊢;omega)
  obtain rfl := Option.some.inj H
  go_enter Try.func23,Try.ntmps23
  go_wp2
  go_ret
  exact ⟨by first | rfl | (simp [errW_none,errW_some,IntKind.wrap_i64,wrap64];done) | (simp [errW_none,errW_some] <;> rfl) | (simp [*,errW_none,errW_some] <;> rfl),by repeat (first | (with_reducible first | exact HB.out | apply below_alloc | apply pw_below_drewN | apply below_drew1) | exact HB.out)⟩
end Go.Proofs.Ytidkniacmcbgiaa.G
end

section
namespace Go.Proofs.Ytidkniacmcbgiaa.G
open Go.RowKit Go.Proofs.YtidkniacmcbgiaaW.PrintWords Go.Proofs.YtidkniacmcbgiaaW.PrintLast Go.Proofs.YtidkniacmcbgiaaW.PrintMore
attribute [local go_sem] max2_int min2_int max_two min_two max_three min_three max_four min_four
set_option linter.unusedVariables false
set_option linter.unusedSimpArgs false
def laws_szLog.f (l0 : List (S75)) (a1 : Int) : Option (Int) := if (wrap64 (a1 - (l0.length : Int))) < 0 then (some (-1)) else (some (wrap64 (a1 - (l0.length : Int))))
set_option maxHeartbeats 8000000 in
set_option maxRecDepth 100000 in
theorem laws_szLog.calls (A0 : Option Addr) (c0 : Nat) (l0 : List (S75)) (a1 : Int) (r : Int) (w : World) (hr0 : Kd.C k75 w A0 l0.length l0) (hc0 : l0.length ≤ c0) (h : laws_szLog.f l0 a1 = some r) :
  Calls Try.prog 19 #[.slice A0 l0.length c0,.int .i64 a1] w fun e w' => e = .returned (.int .i64 r) ∧ Drawn0 w w' := by
 have HR0 := Aside0.mk hr0;have HC0 := Aside0.mk hc0;clear hr0 hc0;have H : (if (wrap64 (a1 - (l0.length : Int))) < 0 then (some (-1)) else (some (wrap64 (a1 - (l0.length : Int))))) = some r := h;clear h
 by_cases c3 : (wrap64 (a1 - (l0.length : Int))) < 0
 ·rw [if_pos c3] at H;have c3b0 : decide ((wrap64 (a1 - (l0.length : Int))) < 0) = true := decide_eq_true c3;clear c3;obtain rfl := Option.some.inj H
  go_enter Try.func19,Try.ntmps19
  go_wp2
  go_ret
  exact ⟨by first | rfl | (simp only [IntKind.wrap_i64,wrap64];done) | (simp;done) | (simp [*];done),by repeat (first | exact Drawn0.refl _ | apply Drawn0.step)⟩
 ·rw [if_neg c3] at H;have c3b0 : decide ((wrap64 (a1 - (l0.length : Int))) < 0) = false := decide_eq_false c3;clear c3;obtain rfl := Option.some.inj H
  go_enter Try.func19,Try.ntmps19
  go_wp2
  go_ret
  exact ⟨by first | rfl | (simp only [IntKind.wrap_i64,wrap64];done) | (simp;done) | (simp [*];done),by repeat (first | exact Drawn0.refl _ | apply Drawn0.step)⟩
end Go.Proofs.Ytidkniacmcbgiaa.G
end

section
namespace Go.Proofs.Ytidkniacmcbgiaa.G
open Go.RowKit Go.Proofs.YtidkniacmcbgiaaW.PrintWords Go.Proofs.YtidkniacmcbgiaaW.PrintLast Go.Proofs.YtidkniacmcbgiaaW.PrintMore
attribute [local go_sem] max2_int min2_int max_two min_two max_three min_three max_four min_four
set_option linter.unusedVariables false
set_option linter.unusedSimpArgs false
def laws_toEntry.f (a0_0 : Int) (a0_1 : Int) (a0_2 : Bool) : Option (Int × Int × Bool) := some (a0_0,a0_1,a0_2)
set_option maxHeartbeats 8000000 in
set_option maxRecDepth 100000 in
theorem laws_toEntry.calls (a0_0 : Int) (a0_1 : Int) (a0_2 : Bool) (r1 : Int) (r2 : Int) (r3 : Bool) (w : World) (h : laws_toEntry.f a0_0 a0_1 a0_2 = some (r1,r2,r3)) :
  Calls Try.prog 71 #[.agg #[.int .i64 a0_0,.int .i64 a0_1,.bool a0_2]] w fun e w' => e = .returned (.agg #[.int .i64 r1,.int .i64 r2,.bool r3]) ∧ Below w.heap.size w w' := by
 have hu75 := Try.underlying75;have hu73 := Try.underlying73;have HB := Aside0.mk (Below.refl w.heap.size w);have H : (some (a0_0,a0_1,a0_2)) = some (r1,r2,r3) := h;clear h;simp only [Option.some.injEq,Prod.mk.injEq] at H;obtain ⟨rfl,rfl,rfl⟩ := H
 go_enter Try.func71,Try.ntmps71
 go_wp2_with (first | ((with_reducible refine gate_dst (N := 1) rfl ?_);refine box_event ?hg (N := 1) ?hd (cs := #[.int .i64 a0_0,.int .i64 a0_1,.bool a0_2]) (t := 75) ?hr ?_;(case hd => rfl);(case hg => rfl);(case hr => first | (go_simp;done) | (go_simp;rfl));intro gb101 hg w2 hbox hb;have n0_ := Aside0.mk (below_step (by repeat (first | (with_reducible first | exact HB.out | apply below_alloc | apply pw_below_drewN | apply below_drew1) | exact HB.out)) hb);have n1_ := Aside0.mk (hbox);have n2_ := Aside0.mk ((by rw [hg];exact (below_size (by repeat (first | (with_reducible first | exact HB.out | apply below_alloc | apply pw_below_drewN | apply below_drew1) | exact HB.out))) : w.heap.size ≤ gb101));have n3_ := Aside0.mk ((by rw [hg];exact (below_size (by repeat (first | (with_reducible first | exact HB.out | apply below_alloc | apply pw_below_drewN | apply below_drew1) | exact HB.out))) : w.heap.size ≤ gb101));clear HB;have HB := n0_;have BK101 := n1_;have GW101 := n2_;have GE101 := n3_;clear n0_ n1_ n2_ n3_;clear hb hbox hg) | ((with_reducible refine gate_dst (N := 2) rfl ?_);refine box_event ?hg (N := 2) ?hd (cs := #[.int .i64 0,.int .i64 0,.bool false]) (t := 73) ?hr ?_;(case hd => rfl);(case hg => rfl);(case hr => first | (go_simp;done) | (go_simp;rfl));intro gb102 hg w3 hbox hb;have n0_ := Aside0.mk (blk_below (g := gb101) (o := .cells #[.int .i64 a0_0,.int .i64 a0_1,.bool a0_2] 75 (0,0)) (by (with_reducible repeat (first | refine blk_drewN ?_ _ | refine blk_drew ?_ | refine blk_alloc ?_ _));exact BK101.out) hb);have n1_ := Aside0.mk (below_step (by repeat (first | (with_reducible first | exact HB.out | apply below_alloc | apply pw_below_drewN | apply below_drew1 | refine below_set ?_ GE101.out) | exact HB.out)) hb);have n2_ := Aside0.mk (hbox);have n3_ := Aside0.mk ((by rw [hg];exact (below_size (by repeat (first | (with_reducible first | exact HB.out | apply below_alloc | apply pw_below_drewN | apply below_drew1 | refine below_set ?_ GE101.out) | exact HB.out))) : w.heap.size ≤ gb102));have n4_ := Aside0.mk ((by rw [hg];exact (below_size (by repeat (first | (with_reducible first | exact HB.out | apply below_alloc | apply pw_below_drewN | apply below_drew1 | refine below_set ?_ GE101.out) | exact HB.out))) : w.heap.size ≤ gb102));have n5_ := Aside0.mk ((by rw [hg];exact Nat.ne_of_lt (blk_lt (g := gb101) (o := .cells #[.int .i64 a0_0,.int .i64 a0_1,.bool a0_2] 75 (0,0)) (by (with_reducible repeat (first | refine blk_drewN ?_ _ | refine blk_drew ?_ | refine blk_alloc ?_ _));exact BK101.out)) : gb101 ≠ gb102));have n6_ := Aside0.mk ((by rw [hg];exact Nat.ne_of_gt (blk_lt (g := gb101) (o := .cells #[.int .i64 a0_0,.int .i64 a0_1,.bool a0_2] 75 (0,0)) (by (with_reducible repeat (first | refine blk_drewN ?_ _ | refine blk_drew ?_ | refine blk_alloc ?_ _));exact BK101.out)) : gb102 ≠ gb101));clear BK101;clear HB;have BK101 := n0_;have HB := n1_;have BK102 := n2_;have GW102 := n3_;have GE102 := n4_;have NB101_102 := n5_;have NB102_101 := n6_;clear n0_ n1_ n2_ n3_ n4_ n5_ n6_;clear hb hbox hg) | ((with_reducible refine gate_dst (N := 3) rfl ?_);refine box_event ?hg (N := 3) ?hd (cs := #[.int .i64 0,.int .i64 0,.bool false]) (t := 73) ?hr ?_;(case hd => rfl);(case hg => rfl);(case hr => first | (go_simp;done) | (go_simp;rfl));intro gb103 hg w4 hbox hb;have n0_ := Aside0.mk (blk_below (g := gb101) (o := .cells #[.int .i64 a0_0,.int .i64 a0_1,.bool a0_2] 75 (0,0)) (by (with_reducible repeat (first | refine blk_drewN ?_ _ | refine blk_drew ?_ | refine blk_alloc ?_ _));exact BK101.out) hb);have n1_ := Aside0.mk (blk_below (g := gb102) (o := .cells #[.int .i64 0,.int .i64 0,.bool false] 73 (0,0)) (by (with_reducible repeat (first | refine blk_drewN ?_ _ | refine blk_drew ?_ | refine blk_alloc ?_ _));exact BK102.out) hb);have n2_ := Aside0.mk (below_step (by repeat (first | (with_reducible first | exact HB.out | apply below_alloc | apply pw_below_drewN | apply below_drew1 | refine below_set ?_ GE101.out | refine below_set ?_ GE102.out) | exact HB.out)) hb);have n3_ := Aside0.mk (hbox);have n4_ := Aside0.mk ((by rw [hg];exact (below_size (by repeat (first | (with_reducible first | exact HB.out | apply below_alloc | apply pw_below_drewN | apply below_drew1 | refine below_set ?_ GE101.out | refine below_set ?_ GE102.out) | exact HB.out))) : w.heap.size ≤ gb103));have n5_ := Aside0.mk ((by rw [hg];exact (below_size (by repeat (first | (with_reducible first | exact HB.out | apply below_alloc | apply pw_below_drewN | apply below_drew1 | refine below_set ?_ GE101.out | refine below_set ?_ GE102.out) | exact HB.out))) : w.heap.size ≤ gb103));have n6_ := Aside0.mk ((by rw [hg];exact Nat.ne_of_lt (blk_lt (g := gb101) (o := .cells #[.int .i64 a0_0,.int .i64 a0_1,.bool a0_2] 75 (0,0)) (by (with_reducible repeat (first | refine blk_drewN ?_ _ | refine blk_drew ?_ | refine blk_alloc ?_ _));exact BK101.out)) : gb101 ≠ gb103));have n7_ := Aside0.mk ((by rw [hg];exact Nat.ne_of_gt (blk_lt (g := gb101) (o := .cells #[.int .i64 a0_0,.int .i64 a0_1,.bool a0_2] 75 (0,0)) (by (with_reducible repeat (first | refine blk_drewN ?_ _ | refine blk_drew ?_ | refine blk_alloc ?_ _));exact BK101.out)) : gb103 ≠ gb101));have n8_ := Aside0.mk ((by rw [hg];exact Nat.ne_of_lt (blk_lt (g := gb102) (o := .cells #[.int .i64 0,.int .i64 0,.bool false] 73 (0,0)) (by (with_reducible repeat (first | refine blk_drewN ?_ _ | refine blk_drew ?_ | refine blk_alloc ?_ _));exact BK102.out)) : gb102 ≠ gb103));have n9_ := Aside0.mk ((by rw [hg];exact Nat.ne_of_gt (blk_lt (g := gb102) (o := .cells #[.int .i64 0,.int .i64 0,.bool false] 73 (0,0)) (by (with_reducible repeat (first | refine blk_drewN ?_ _ | refine blk_drew ?_ | refine blk_alloc ?_ _));exact BK102.out)) : gb103 ≠ gb102));clear BK101;clear BK102;clear HB;have BK101 := n0_;have BK102 := n1_;have HB := n2_;have BK103 := n3_;have GW103 := n4_;have GE103 := n5_;have NB101_103 := n6_;have NB103_101 := n7_;have NB102_103 := n8_;have NB103_102 := n9_;clear n0_ n1_ n2_ n3_ n4_ n5_ n6_ n7_ n8_ n9_;clear hb hbox hg;have hnb5 := NB101_102.out;have hnc5 := NB102_101.out;have hnb6 := NB101_103.out;have hnc6 := NB103_101.out;have hcz7_0 : w4.cell? ⟨gb101,0,none⟩ = some (.int .i64 a0_0) := (blk_cell BK101.out 0).trans rfl;have hcz7_1 : w4.cell? ⟨gb101,1,none⟩ = some (.int .i64 a0_1) := (blk_cell BK101.out 1).trans rfl;have hcz7_2 : w4.cell? ⟨gb101,2,none⟩ = some (.bool a0_2) := (blk_cell BK101.out 2).trans rfl;have hfz7_0 := blk_frozen BK101.out 0;have hfz7_1 := blk_frozen BK101.out 1;have hfz7_2 := blk_frozen BK101.out 2;have hnb8 := NB103_102.out;have hnc8 := NB102_103.out;have hcz9_0 : w4.cell? ⟨gb103,0,none⟩ = some (.int .i64 0) := (blk_cell BK103.out 0).trans rfl;have hcz9_1 : w4.cell? ⟨gb103,1,none⟩ = some (.int .i64 0) := (blk_cell BK103.out 1).trans rfl;have hcz9_2 : w4.cell? ⟨gb103,2,none⟩ = some (.bool false) := (blk_cell BK103.out 2).trans rfl;have hfz9_0 := blk_frozen BK103.out 0;have hfz9_1 := blk_frozen BK103.out 1;have hfz9_2 := blk_frozen BK103.out 2;have hcz10_0 : w4.cell? ⟨gb102,0,none⟩ = some (.int .i64 0) := (blk_cell BK102.out 0).trans rfl;have hcz10_1 : w4.cell? ⟨gb102,1,none⟩ = some (.int .i64 0) := (blk_cell BK102.out 1).trans rfl;have hcz10_2 : w4.cell? ⟨gb102,2,none⟩ = some (.bool false) := (blk_cell BK102.out 2).trans rfl;have hfz10_0 := blk_frozen BK102.out 0;have hfz10_1 := blk_frozen BK102.out 1;have hfz10_2 := blk_frozen BK102.out 2))
 refine bodyPost_ret (results_cell_row rfl _ _ gb102 73 #[.int .i64 a0_0,.int .i64 a0_1,.bool a0_2] (0,0) _ rfl (by (with_reducible repeat (first | refine blk_drewN ?_ _ | refine blk_drew ?_ | refine blk_alloc ?_ _));refine blk_put (cs := #[.int .i64 a0_0,.int .i64 a0_1,.bool false]) ?_ 2 _ rfl;(with_reducible repeat (first | refine blk_drewN ?_ _ | refine blk_drew ?_ | refine blk_alloc ?_ _));refine blk_put (cs := #[.int .i64 a0_0,.int .i64 0,.bool false]) ?_ 1 _ rfl;(with_reducible repeat (first | refine blk_drewN ?_ _ | refine blk_drew ?_ | refine blk_alloc ?_ _));refine blk_put (cs := #[.int .i64 0,.int .i64 0,.bool false]) ?_ 0 _ rfl;(with_reducible repeat (first | refine blk_drewN ?_ _ | refine blk_drew ?_ | refine blk_alloc ?_ _));refine blk_far ?_ NB102_103.out _;(with_reducible repeat (first | refine blk_drewN ?_ _ | refine blk_drew ?_ | refine blk_alloc ?_ _));refine blk_far ?_ NB102_103.out _;(with_reducible repeat (first | refine blk_drewN ?_ _ | refine blk_drew ?_ | refine blk_alloc ?_ _));refine blk_far ?_ NB102_103.out _;(with_reducible repeat (first | refine blk_drewN ?_ _ | refine blk_drew ?_ | refine blk_alloc ?_ _));exact BK102.out) Try.underlying73 rfl (by kernel_rfl)) rfl ?_;exact ⟨by first | rfl | (simp [errW_none,errW_some,IntKind.wrap_i64,wrap64];done) | (simp [errW_none,errW_some] <;> rfl) | (simp [*,errW_none,errW_some] <;> rfl),by repeat (first | (with_reducible first | exact HB.out | apply below_alloc | apply pw_below_drewN | apply below_drew1 | refine below_set ?_ GE101.out | refine below_set ?_ GE102.out | refine below_set ?_ GE103.out) | exact HB.out)⟩
end Go.Proofs.Ytidkniacmcbgiaa.G
end

section
namespace Go.Proofs.Ytidkniacmcbgiaa.G
open Go.RowKit Go.Proofs.YtidkniacmcbgiaaW.PrintWords Go.Proofs.YtidkniacmcbgiaaW.PrintLast Go.Proofs.YtidkniacmcbgiaaW.PrintMore
attribute [local go_sem] max2_int min2_int max_two min_two max_three min_three max_four min_four
set_option linter.unusedVariables false
set_option linter.unusedSimpArgs false
def laws_toLog.l0 : Nat → List (S75) → List (S73) → Int → Option ((List (S73)))
 | 0,_,_,_ => none
 | k + 1,x0,x3,x4 => if x4 < (x0.length : Int) then (if 0 ≤ x4 then ((laws_toEntry.f ((rd_T75 x0 x4).f0) ((rd_T75 x0 x4).f1) ((rd_T75 x0 x4).f2)).bind fun bt105 => (if x4 < (x3.length : Int) then (laws_toLog.l0 k x0 (x3.set (x4 : Int).toNat (⟨bt105.1,bt105.2.1,bt105.2.2⟩ : S73)) (wrap64 (x4 + 1))) else (none))) else (none)) else (some x3)
def laws_toLog.f (k : Nat) (l0 : List (S75)) : Option ((List (S73))) := if 0 ≤ (l0.length : Int) then (if ((l0.length : Int) : Int).toNat ≤ 11728124029610 then (laws_toLog.l0 k l0 (List.replicate ((l0.length : Int) : Int).toNat z73) 0) else (none)) else (none)
set_option maxHeartbeats 8000000 in
set_option maxRecDepth 100000 in
theorem laws_toLog.calls (k : Nat) (A0 : Option Addr) (c0 : Nat) (l0 : List (S75)) (r : List (S73)) (w : World) (hr0 : Kd.C k75 w A0 l0.length l0) (hc0 : l0.length ≤ c0) (h : laws_toLog.f k l0 = some r) :
  Calls Try.prog 21 #[.slice A0 l0.length c0] w fun e w' => ∃ v0_ : Value,e = .returned (v0_) ∧ Kd.R k73 73 w' w.heap.size (fun _ => True) v0_ r ∧ Below w.heap.size w w' := by
 have hu75 := Try.underlying75;have hu73 := Try.underlying73;have HR0 := Aside0.mk hr0;have HC0 := Aside0.mk hc0;clear hr0 hc0;have HB := Aside0.mk (Below.refl w.heap.size w);have H : (if 0 ≤ (l0.length : Int) then (if ((l0.length : Int) : Int).toNat ≤ 11728124029610 then (laws_toLog.l0 k l0 (List.replicate ((l0.length : Int) : Int).toNat z73) 0) else (none)) else (none)) = some r := h;clear h
 by_cases c2 : 0 ≤ (l0.length : Int)
 ·rw [if_pos c2] at H;have c2b0 := eq_true c2;have c2b1 : decide (0 ≤ (l0.length : Int)) = true := decide_eq_true c2;clear c2
  by_cases c3 : ((l0.length : Int) : Int).toNat ≤ 11728124029610
  ·rw [if_pos c3] at H;have c3b0 := eq_true c3;have c3b1 : decide (((l0.length : Int) : Int).toNat ≤ 11728124029610) = true := decide_eq_true c3;clear c3;obtain ⟨y101,hy101⟩ : ∃ y_ : List (S73),y_ = (List.replicate ((l0.length : Int) : Int).toNat z73) := ⟨_,rfl⟩
   replace H : (laws_toLog.l0 k l0 y101 0) = some r := by first | (rw [hy101];with_reducible exact H) | (have H2_ := (Option.bind_some _ _).symm.trans H;rw [hy101];with_reducible exact H2_) | (have H2_ := (Option.bind_some _ _).symm.trans H;with_reducible exact H2_) | with_reducible exact H | (rw [hy101];exact H) | exact H
   have Ny101 := Aside0.mk hy101;clear hy101;have H' := Aside0.mk H;clear H
   go_enter Try.func21,Try.ntmps21
   go_wp2_with (first | ((with_reducible refine gate_dst (N := 7) rfl ?_);refine Kd.R_make k73 _ 73 rfl (N := 7) rfl 26 _ _ rfl (l0.length : Int) rfl rfl Try.underlying26 (.agg #[(.int .i64 0),(.int .i64 0),(.bool false)]) 24 info73 rfl (by decide) (by omega) z73 (ok := fun _ => True) (okp := fun _ => True) (k73_mkM _ _ _ z73 ) (fun _ hk => hk) trivial (of_decide_eq_true (by first | (with_reducible assumption) | assumption)) (Nat.le_trans (Nat.mul_le_mul_right _ (of_decide_eq_true (by first | (with_reducible assumption) | assumption) : (l0.length : Int).toNat ≤ 11728124029610)) (by omega)) (Below.refl _ _) (Nat.le_refl _) ?_;intro v102 w4 ho5 hb hg_ hnew_;clear hg_ hnew_;(first | rw [← Ny101.out] at ho5 | (simp only [Int.reduceToNat] at ho5;rw [← Ny101.out] at ho5));have n0_ := Aside0.mk (Kd.R_lower ho5 (below_size (by repeat (first | (with_reducible first | exact HB.out | apply below_alloc | apply pw_below_drewN | apply below_drew1) | exact HB.out))));have n1_ := Aside0.mk (below_step (by repeat (first | (with_reducible first | exact HB.out | apply below_alloc | apply pw_below_drewN | apply below_drew1) | exact HB.out)) hb);clear HB;have HO103 := n0_;have HB := n1_;clear n0_ n1_;clear hb ho5))
   go_loopg [4] k (fun kq v4 w' => ∃ (x3_1 : List (S73)) (x4_1 : Int),v4 = .int .i64 x4_1 ∧ Aside0 (laws_toLog.l0 kq l0 x3_1 x4_1 = some r) ∧ Aside0 (kq ≤ k) ∧ Aside0 (Kd.R k73 73 w' w.heap.size (fun _ => True) v102 x3_1) ∧ Aside0 (Below w.heap.size w w'))
   case atStart => exact ⟨(y101),(0),(by first | rfl | (simp only [IntKind.wrap_i64,wrap64];done) | (simp;done) | (simp [*];done)),H',⟨Nat.le_refl _⟩,⟨by (with_reducible repeat (first | apply Kd.R_alloc | apply Kd.R_drewN | apply Kd.R_drew));exact HO103.out⟩,⟨by repeat (first | (with_reducible first | exact HB.out | apply below_alloc | apply pw_below_drewN | apply below_drew1) | exact HB.out)⟩⟩
   case round =>
    clear H';(try clear c2);(try clear c2b0);(try clear c2b1);(try clear p2);(try clear c3);(try clear c3b0);(try clear c3b1);obtain ⟨x3_1,x4_1,rfl,HA,HK1,HO_3,HB⟩ := hrel
    cases gk with
    | zero => exact absurd HA.out (by simp [laws_toLog.l0])
    | succ k1 =>
     have H := HA.out;clear HA;simp only [laws_toLog.l0] at H
     by_cases c6 : x4_1 < (l0.length : Int)
     ·rw [if_pos c6] at H;have c6b0 : decide (x4_1 < (l0.length : Int)) = true := decide_eq_true c6;clear c6
      by_cases c7 : 0 ≤ x4_1
      ·rw [if_pos c7] at H;have c7b0 : decide (0 ≤ x4_1) = true := decide_eq_true c7;clear c7;replace H := Option.bind_eq_some_iff.mp H;obtain ⟨⟨t105,t106,t107⟩,A80,H⟩ := H;replace H : (if x4_1 < (x3_1.length : Int) then (laws_toLog.l0 k1 l0 (x3_1.set (x4_1 : Int).toNat (⟨t105,t106,t107⟩ : S73)) (wrap64 (x4_1 + 1))) else (none)) = some r := H;have A8 := Aside0.mk A80;clear A80
       by_cases c9 : x4_1 < (x3_1.length : Int)
       ·rw [if_pos c9] at H;have c9b0 : decide (x4_1 < (x3_1.length : Int)) = true := decide_eq_true c9;clear c9;obtain ⟨y108,hy108⟩ : ∃ y_ : List (S73),y_ = (x3_1.set (x4_1 : Int).toNat (⟨t105,t106,t107⟩ : S73)) := ⟨_,rfl⟩
        replace H : (laws_toLog.l0 k1 l0 y108 (wrap64 (x4_1 + 1))) = some r := by first | (rw [hy108];with_reducible exact H) | (have H2_ := (Option.bind_some _ _).symm.trans H;rw [hy108];with_reducible exact H2_) | (have H2_ := (Option.bind_some _ _).symm.trans H;with_reducible exact H2_) | with_reducible exact H | (rw [hy108];exact H) | exact H
        have Ny108 := Aside0.mk hy108;clear hy108;have H' := Aside0.mk H;clear H;have p104 : 0 ≤ (x4_1 : Int) := of_decide_eq_true (by first | (with_reducible assumption) | assumption);have q104 : x4_1 < (l0.length : Int) := of_decide_eq_true (by first | (with_reducible assumption) | assumption);obtain ⟨ad104,e104,hx104_0,hx104_1,hx104_2⟩ := at_T75 HR0.out x4_1 p104 q104;cases e104;replace hx104_0 := (HB.out.cell (World.block_lt_of_cell? w _ hx104_0)).trans hx104_0;replace hx104_1 := (HB.out.cell (World.block_lt_of_cell? w _ hx104_1)).trans hx104_1;replace hx104_2 := (HB.out.cell (World.block_lt_of_cell? w _ hx104_2)).trans hx104_2;replace p104 := eq_true p104;replace q104 := eq_true q104
        go_wp2_with (first | ((with_reducible refine gate_callee (f := 71) rfl ?_);refine goesL_ (some 20) rfl rfl Try.func71 (by kernel_rfl) rfl #[.agg #[.int .i64 ((rd_T75 l0 x4_1).f0),.int .i64 ((rd_T75 l0 x4_1).f1),.bool ((rd_T75 l0 x4_1).f2)]] rfl (by (try simp only [List.map_toArray,List.map_cons,List.map_nil]);first | done | rfl | (simp only [List.length_drop,List.length_take];rfl)) ?_;(with_reducible refine (laws_toEntry.calls ((rd_T75 l0 x4_1).f0) ((rd_T75 l0 x4_1).f1) ((rd_T75 l0 x4_1).f2) t105 t106 t107 _ A8.out).mono ?_);rintro e w11 ⟨rfl,hb⟩;refine ⟨_,rfl,?_⟩;have n0_ := Aside0.mk (Kd.R_below (by (with_reducible repeat (first | apply Kd.R_alloc | apply Kd.R_drewN | apply Kd.R_drew));exact HO_3.out) hb);have n1_ := Aside0.mk (below_step (by repeat (first | (with_reducible first | exact HB.out | apply below_alloc | apply pw_below_drewN | apply below_drew1) | exact HB.out)) hb);clear HO_3;clear HB;have HO_3 := n0_;have HB := n1_;clear n0_ n1_;(try clear hb);(try clear hb2);(try clear hk);(try clear hi);have p10 : 0 ≤ (x4_1 : Int) := of_decide_eq_true (by first | (with_reducible assumption) | assumption);have q10 : (x4_1 : Int) < ((x3_1.length : Int) : Int) := of_decide_eq_true (by first | (with_reducible assumption) | assumption);obtain ⟨go10,co10,eo10,gb10,gl10,cl10,HG10⟩ := Kd.R_form HO_3.out (by omega);(first | cases eo10 | (injection eo10 with ea_ en_ ec_;(first | subst ea_ | (injection ea_ with ea_;subst ea_));subst ec_;clear en_));have GB10 := Aside0.mk gb10;have GG10 := Aside0.mk HG10;clear gb10 gl10 HG10;obtain ⟨ce10,hcl10,hM10,hcc10,hfr10⟩ := Kd.R_elem HO_3.out z73 (x4_1 : Int) p10 q10;obtain rfl := k73_openM hM10;have hx10_0 : w11.cell? ⟨go10,(x4_1 : Int).toNat * 3,none⟩ = some (.int .i64 ((rd_T73 x3_1 x4_1).f0)) := hcc10 0 _ rfl;have hx10_1 : w11.cell? ⟨go10,(x4_1 : Int).toNat * 3 + 1,none⟩ = some (.int .i64 ((rd_T73 x3_1 x4_1).f1)) := hcc10 1 _ rfl;have hx10_2 : w11.cell? ⟨go10,(x4_1 : Int).toNat * 3 + 2,none⟩ = some (.bool ((rd_T73 x3_1 x4_1).f2)) := hcc10 2 _ rfl;have hf10_0 : w11.frozen? ⟨go10,(x4_1 : Int).toNat * 3,none⟩ = false := hfr10 0;have hf10_1 : w11.frozen? ⟨go10,(x4_1 : Int).toNat * 3 + 1,none⟩ = false := hfr10 1;have hf10_2 : w11.frozen? ⟨go10,(x4_1 : Int).toNat * 3 + 2,none⟩ = false := hfr10 2;(clear hcl10 hcc10 hfr10;(try clear hM10));replace p10 := eq_true p10;replace q10 := eq_true q10;have HX12 := Aside0.mk (show Kd.R k73 73 w11 w.heap.size (fun _ => True) (.slice (some ⟨go10,0,none⟩) x3_1.length co10) x3_1 from (by (with_reducible repeat (first | apply Kd.R_alloc | apply Kd.R_drewN | apply Kd.R_drew));exact HO_3.out));obtain ⟨ce12,hcl12,hM12,hcc12,hfr12⟩ := Kd.R_elem HX12.out z73 (x4_1 : Int) (of_decide_eq_true (by first | (with_reducible assumption) | assumption)) (by have h_ : (x4_1 : Int) < ((x3_1.length : Int) : Int) := of_decide_eq_true (by first | (with_reducible assumption) | assumption);first | exact h_ | (have e_ := (Kd.R_reads' HO_3.out).1;omega) | simpa using h_);obtain rfl := k73_openM hM12;have HP12 := Kd.R_seg HX12.out (x4_1 : Int) (of_decide_eq_true (by first | (with_reducible assumption) | assumption)) (by have h_ : (x4_1 : Int) < ((x3_1.length : Int) : Int) := of_decide_eq_true (by first | (with_reducible assumption) | assumption);first | exact h_ | (have e_ := (Kd.R_reads' HO_3.out).1;omega) | simpa using h_) (seg := [.int .i64 t105,.int .i64 t106,.bool t107]) (j := 0) hcl12 hcc12 (show 3 ≤ 3 from by decide) (x' := (⟨t105,t106,t107⟩ : S73)) (k73_mkM _ _ _ (⟨t105,t106,t107⟩ : S73) ) (fun _ hk => hk);have hx12_0 := hcc12 0 _ rfl;(try simp only [show (k73).sz = 3 from rfl,Nat.mul_one,Nat.add_zero] at hx12_0);have hf12_0 := hfr12 0;(try simp only [show (k73).sz = 3 from rfl,Nat.mul_one,Nat.add_zero] at hf12_0);have hx12_1 := hcc12 1 _ rfl;(try simp only [show (k73).sz = 3 from rfl,Nat.mul_one,Nat.add_zero] at hx12_1);have hf12_1 := hfr12 1;(try simp only [show (k73).sz = 3 from rfl,Nat.mul_one,Nat.add_zero] at hf12_1);have hx12_2 := hcc12 2 _ rfl;(try simp only [show (k73).sz = 3 from rfl,Nat.mul_one,Nat.add_zero] at hx12_2);have hf12_2 := hfr12 2;(try simp only [show (k73).sz = 3 from rfl,Nat.mul_one,Nat.add_zero] at hf12_2);(clear hcl12 hcc12 hfr12;(try clear hM12))) | ((with_reducible refine gate_store (t := 73) (p := 21) rfl ?_);refine store_event (t := 73) (p := 21) (v := ?vo_w13) (w1 := (((w11.setCell ⟨go10,(x4_1 : Int).toNat * 3,none⟩ (.int .i64 t105)).setCell ⟨go10,(x4_1 : Int).toNat * 3 + 1,none⟩ (.int .i64 t106)).setCell ⟨go10,(x4_1 : Int).toNat * 3 + 2,none⟩ (.bool t107))) ?hg ?ho ?hn ?hr ?_;(case ho => rfl);(case hg => rfl);(case hn => rfl);(case hr => first | (go_simp;done) | (go_simp;rfl));intro w13 hw;have hg : w11.grownBy w13 (some go10) := (by rw [hw];exact HP12.2);have hp_ : Kd.R k73 73 w13 w.heap.size (fun _ => True) (.slice (some ⟨go10,0,none⟩) x3_1.length co10) y108 := (by rw [hw,Ny108.out];exact HP12.1);clear HP12;have n0_ := Aside0.mk (hp_);have n1_ := Aside0.mk ((by rw [hw];exact below_set (below_set (below_set (HB.out) GB10.out) GB10.out) GB10.out : Below w.heap.size w w13));clear HO_3;clear HB;have HO_3 := n0_;have HB := n1_;clear n0_ n1_;clear hg hw hp_))
        go_roundg k1
        case measure => have := HK1.out;omega
        case rel => exact ⟨(y108),(wrap64 (x4_1 + 1)),(by first | rfl | (simp only [IntKind.wrap_i64,wrap64];done) | (simp;done) | (simp [*];done)),H',⟨by have := HK1.out;omega⟩,⟨by (with_reducible repeat (first | apply Kd.R_alloc | apply Kd.R_drewN | apply Kd.R_drew));exact HO_3.out⟩,⟨by repeat (first | (with_reducible first | exact HB.out | apply below_alloc | apply pw_below_drewN | apply below_drew1) | exact HB.out)⟩⟩
       ·rw [if_neg c9] at H;exact absurd H (by simp)
      ·rw [if_neg c7] at H;exact absurd H (by simp)
     ·rw [if_neg c6] at H;have c6b0 : decide (x4_1 < (l0.length : Int)) = false := decide_eq_false c6;clear c6;obtain rfl := Option.some.inj H
      go_wp2
      go_ret
      exact ⟨_,by first | rfl | (simp [errW_none,errW_some,IntKind.wrap_i64,wrap64];done) | (simp [errW_none,errW_some] <;> rfl) | (simp [*,errW_none,errW_some] <;> rfl),by (with_reducible repeat (first | apply Kd.R_alloc | apply Kd.R_drewN | apply Kd.R_drew));exact HO_3.out,by repeat (first | (with_reducible first | exact HB.out | apply below_alloc | apply pw_below_drewN | apply below_drew1) | exact HB.out)⟩
  ·rw [if_neg c3] at H;exact absurd H (by simp)
 ·rw [if_neg c2] at H;exact absurd H (by simp)
end Go.Proofs.Ytidkniacmcbgiaa.G
end

section
namespace Go.Proofs.Ytidkniacmcbgiaa.G
open Go.RowKit Go.Proofs.YtidkniacmcbgiaaW.PrintWords Go.Proofs.YtidkniacmcbgiaaW.PrintLast Go.Proofs.YtidkniacmcbgiaaW.PrintMore
attribute [local go_sem] max2_int min2_int max_two min_two max_three min_three max_four min_four
set_option linter.unusedVariables false
set_option linter.unusedSimpArgs false
def spec_l00Has.l0 : Nat → List Int → Int → Int → Option (Bool)
 | 0,_,_,_ => none
 | k + 1,x0,x1,x5 => if x5 < (x0.length : Int) then (if 0 ≤ x5 then (if (rd x0 x5) = x1 then (some true) else (spec_l00Has.l0 k x0 x1 (wrap64 (x5 + 1)))) else (none)) else (some false)
def spec_l00Has.f (k : Nat) (l0 : List Int) (a1 : Int) : Option (Bool) := spec_l00Has.l0 k l0 a1 0
set_option maxHeartbeats 8000000 in
set_option maxRecDepth 100000 in
theorem spec_l00Has.calls (k : Nat) (A0 : Option Addr) (c0 : Nat) (l0 : List Int) (a1 : Int) (r : Bool) (w : World) (hr0 : Kd.C (Kd.int .i64) w A0 l0.length l0) (hc0 : l0.length ≤ c0) (h : spec_l00Has.f k l0 a1 = some r) :
  Calls Try.prog 89 #[.slice A0 l0.length c0,.int .i64 a1] w fun e w' => e = .returned (.bool r) ∧ Drawn0 w w' := by
 have HR0 := Aside0.mk hr0;have HC0 := Aside0.mk hc0;clear hr0 hc0;have H : (spec_l00Has.l0 k l0 a1 0) = some r := h;clear h;have H' := Aside0.mk H;clear H
 go_enter Try.func89,Try.ntmps89
 go_wp2
 go_loopg [5] k (fun kq v5 w' => ∃ (x5_1 : Int),v5 = .int .i64 x5_1 ∧ Aside0 (spec_l00Has.l0 kq l0 a1 x5_1 = some r) ∧ Aside0 (kq ≤ k) ∧ Drawn0 w w')
 case atStart => exact ⟨(0),(by first | rfl | (simp only [IntKind.wrap_i64,wrap64];done) | (simp;done) | (simp [*];done)),H',⟨Nat.le_refl _⟩,by repeat (first | exact Drawn0.refl _ | apply Drawn0.step)⟩
 case round =>
  clear H';(try clear p2);obtain ⟨x5_1,rfl,HA,HK1,⟨m1,rfl⟩⟩ := hrel
  cases gk with
  | zero => exact absurd HA.out (by simp [spec_l00Has.l0])
  | succ k1 =>
   have H := HA.out;clear HA;simp only [spec_l00Has.l0] at H
   by_cases c3 : x5_1 < (l0.length : Int)
   ·rw [if_pos c3] at H;have c3b0 : decide (x5_1 < (l0.length : Int)) = true := decide_eq_true c3;clear c3
    by_cases c4 : 0 ≤ x5_1
    ·rw [if_pos c4] at H;have c4b0 : decide (0 ≤ x5_1) = true := decide_eq_true c4;clear c4
     by_cases c5 : (rd l0 x5_1) = a1
     ·rw [if_pos c5] at H;have c5b0 : ((rd l0 x5_1) == a1) = true := beq_iff_eq.mpr c5;have c5b1 : ((rd l0 x5_1) != a1) = false := bne_eq_false_iff_eq.mpr c5;clear c5;obtain rfl := Option.some.inj H;have p101 : 0 ≤ (x5_1 : Int) := of_decide_eq_true (by first | (with_reducible assumption) | assumption);have q101 : x5_1 < (l0.length : Int) := of_decide_eq_true (by first | (with_reducible assumption) | assumption);obtain ⟨ad101,e101,hx101_0⟩ := Kd.at_int HR0.out x5_1 p101 q101;cases e101;replace p101 := eq_true p101;replace q101 := eq_true q101
      go_wp2
      go_ret
      exact ⟨by first | rfl | (simp only [IntKind.wrap_i64,wrap64];done) | (simp;done) | (simp [*];done),by repeat (first | exact Drawn0.refl _ | apply Drawn0.step)⟩
     ·rw [if_neg c5] at H;have c5b0 : ((rd l0 x5_1) == a1) = false := beq_eq_false_iff_ne.mpr c5;have c5b1 : ((rd l0 x5_1) != a1) = true := bne_iff_ne.mpr c5;have H' := Aside0.mk H;clear H;have p101 : 0 ≤ (x5_1 : Int) := of_decide_eq_true (by first | (with_reducible assumption) | assumption);have q101 : x5_1 < (l0.length : Int) := of_decide_eq_true (by first | (with_reducible assumption) | assumption);obtain ⟨ad101,e101,hx101_0⟩ := Kd.at_int HR0.out x5_1 p101 q101;cases e101;replace p101 := eq_true p101;replace q101 := eq_true q101
      go_wp2
      go_roundg k1
      case measure => have := HK1.out;omega
      case rel => exact ⟨(wrap64 (x5_1 + 1)),(by first | rfl | (simp only [IntKind.wrap_i64,wrap64];done) | (simp;done) | (simp [*];done)),H',⟨by have := HK1.out;omega⟩,by repeat (first | exact Drawn0.refl _ | apply Drawn0.step)⟩
    ·rw [if_neg c4] at H;exact absurd H (by simp)
   ·rw [if_neg c3] at H;have c3b0 : decide (x5_1 < (l0.length : Int)) = false := decide_eq_false c3;clear c3;obtain rfl := Option.some.inj H
    go_wp2
    go_ret
    exact ⟨by first | rfl | (simp only [IntKind.wrap_i64,wrap64];done) | (simp;done) | (simp [*];done),by repeat (first | exact Drawn0.refl _ | apply Drawn0.step)⟩
end Go.Proofs.Ytidkniacmcbgiaa.G
end

section
namespace Go.Proofs.Ytidkniacmcbgiaa.G
open Go.RowKit Go.Proofs.YtidkniacmcbgiaaW.PrintWords Go.Proofs.YtidkniacmcbgiaaW.PrintLast Go.Proofs.YtidkniacmcbgiaaW.PrintMore
attribute [local go_sem] max2_int min2_int max_two min_two max_three min_three max_four min_four
set_option linter.unusedVariables false
set_option linter.unusedSimpArgs false
def spec_l07Agree.f (a0_0 : Int) (a0_1 : Int) (a0_2 : Bool) (a1_0 : Int) (a1_1 : Int) (a1_2 : Bool) : Option (Bool) := if a0_1 = a1_1 then (some (a0_2 == a1_2)) else (some false)
set_option maxHeartbeats 8000000 in
set_option maxRecDepth 100000 in
theorem spec_l07Agree.calls (a0_0 : Int) (a0_1 : Int) (a0_2 : Bool) (a1_0 : Int) (a1_1 : Int) (a1_2 : Bool) (r : Bool) (w : World) (h : spec_l07Agree.f a0_0 a0_1 a0_2 a1_0 a1_1 a1_2 = some r) :
  Calls Try.prog 88 #[.agg #[.int .i64 a0_0,.int .i64 a0_1,.bool a0_2],.agg #[.int .i64 a1_0,.int .i64 a1_1,.bool a1_2]] w fun e w' => e = .returned (.bool r) ∧ Below w.heap.size w w' := by
 have hu73 := Try.underlying73;have HB := Aside0.mk (Below.refl w.heap.size w);have H : (if a0_1 = a1_1 then (some (a0_2 == a1_2)) else (some false)) = some r := h;clear h
 by_cases c3 : a0_1 = a1_1
 ·rw [if_pos c3] at H;have c3b0 : (a0_1 == a1_1) = true := beq_iff_eq.mpr c3;have c3b1 : (a0_1 != a1_1) = false := bne_eq_false_iff_eq.mpr c3;clear c3;obtain rfl := Option.some.inj H
  go_enter Try.func88,Try.ntmps88
  go_wp2_with (first | ((with_reducible refine gate_dst (N := 2) rfl ?_);refine box_event ?hg (N := 2) ?hd (cs := #[.int .i64 a0_0,.int .i64 a0_1,.bool a0_2]) (t := 73) ?hr ?_;(case hd => rfl);(case hg => rfl);(case hr => first | (go_simp;done) | (go_simp;rfl));intro gb101 hg w4 hbox hb;have n0_ := Aside0.mk (below_step (by repeat (first | (with_reducible first | exact HB.out | apply below_alloc | apply pw_below_drewN | apply below_drew1) | exact HB.out)) hb);have n1_ := Aside0.mk (hbox);have n2_ := Aside0.mk ((by rw [hg];exact (below_size (by repeat (first | (with_reducible first | exact HB.out | apply below_alloc | apply pw_below_drewN | apply below_drew1) | exact HB.out))) : w.heap.size ≤ gb101));have n3_ := Aside0.mk ((by rw [hg];exact (below_size (by repeat (first | (with_reducible first | exact HB.out | apply below_alloc | apply pw_below_drewN | apply below_drew1) | exact HB.out))) : w.heap.size ≤ gb101));clear HB;have HB := n0_;have BK101 := n1_;have GW101 := n2_;have GE101 := n3_;clear n0_ n1_ n2_ n3_;clear hb hbox hg) | ((with_reducible refine gate_dst (N := 3) rfl ?_);refine box_event ?hg (N := 3) ?hd (cs := #[.int .i64 a1_0,.int .i64 a1_1,.bool a1_2]) (t := 73) ?hr ?_;(case hd => rfl);(case hg => rfl);(case hr => first | (go_simp;done) | (go_simp;rfl));intro gb102 hg w5 hbox hb;have n0_ := Aside0.mk (blk_below (g := gb101) (o := .cells #[.int .i64 a0_0,.int .i64 a0_1,.bool a0_2] 73 (0,0)) (by (with_reducible repeat (first | refine blk_drewN ?_ _ | refine blk_drew ?_ | refine blk_alloc ?_ _));exact BK101.out) hb);have n1_ := Aside0.mk (below_step (by repeat (first | (with_reducible first | exact HB.out | apply below_alloc | apply pw_below_drewN | apply below_drew1 | refine below_set ?_ GE101.out) | exact HB.out)) hb);have n2_ := Aside0.mk (hbox);have n3_ := Aside0.mk ((by rw [hg];exact (below_size (by repeat (first | (with_reducible first | exact HB.out | apply below_alloc | apply pw_below_drewN | apply below_drew1 | refine below_set ?_ GE101.out) | exact HB.out))) : w.heap.size ≤ gb102));have n4_ := Aside0.mk ((by rw [hg];exact (below_size (by repeat (first | (with_reducible first | exact HB.out | apply below_alloc | apply pw_below_drewN | apply below_drew1 | refine below_set ?_ GE101.out) | exact HB.out))) : w.heap.size ≤ gb102));have n5_ := Aside0.mk ((by rw [hg];exact Nat.ne_of_lt (blk_lt (g := gb101) (o := .cells #[.int .i64 a0_0,.int .i64 a0_1,.bool a0_2] 73 (0,0)) (by (with_reducible repeat (first | refine blk_drewN ?_ _ | refine blk_drew ?_ | refine blk_alloc ?_ _));exact BK101.out)) : gb101 ≠ gb102));have n6_ := Aside0.mk ((by rw [hg];exact Nat.ne_of_gt (blk_lt (g := gb101) (o := .cells #[.int .i64 a0_0,.int .i64 a0_1,.bool a0_2] 73 (0,0)) (by (with_reducible repeat (first | refine blk_drewN ?_ _ | refine blk_drew ?_ | refine blk_alloc ?_ _));exact BK101.out)) : gb102 ≠ gb101));clear BK101;clear HB;have BK101 := n0_;have HB := n1_;have BK102 := n2_;have GW102 := n3_;have GE102 := n4_;have NB101_102 := n5_;have NB102_101 := n6_;clear n0_ n1_ n2_ n3_ n4_ n5_ n6_;clear hb hbox hg;have hnb6 := NB101_102.out;have hnc6 := NB102_101.out;have hcz7_0 : w5.cell? ⟨gb101,0,none⟩ = some (.int .i64 a0_0) := (blk_cell BK101.out 0).trans rfl;have hcz7_1 : w5.cell? ⟨gb101,1,none⟩ = some (.int .i64 a0_1) := (blk_cell BK101.out 1).trans rfl;have hcz7_2 : w5.cell? ⟨gb101,2,none⟩ = some (.bool a0_2) := (blk_cell BK101.out 2).trans rfl;have hfz7_0 := blk_frozen BK101.out 0;have hfz7_1 := blk_frozen BK101.out 1;have hfz7_2 := blk_frozen BK101.out 2;have hcz8_0 : w5.cell? ⟨gb102,0,none⟩ = some (.int .i64 a1_0) := (blk_cell BK102.out 0).trans rfl;have hcz8_1 : w5.cell? ⟨gb102,1,none⟩ = some (.int .i64 a1_1) := (blk_cell BK102.out 1).trans rfl;have hcz8_2 : w5.cell? ⟨gb102,2,none⟩ = some (.bool a1_2) := (blk_cell BK102.out 2).trans rfl;have hfz8_0 := blk_frozen BK102.out 0;have hfz8_1 := blk_frozen BK102.out 1;have hfz8_2 := blk_frozen BK102.out 2))
  go_ret
  exact ⟨by first | rfl | (simp [errW_none,errW_some,IntKind.wrap_i64,wrap64];done) | (simp [errW_none,errW_some] <;> rfl) | (simp [*,errW_none,errW_some] <;> rfl),by repeat (first | (with_reducible first | exact HB.out | apply below_alloc | apply pw_below_drewN | apply below_drew1 | refine below_set ?_ GE101.out | refine below_set ?_ GE102.out) | exact HB.out)⟩
 ·rw [if_neg c3] at H;have c3b0 : (a0_1 == a1_1) = false := beq_eq_false_iff_ne.mpr c3;have c3b1 : (a0_1 != a1_1) = true := bne_iff_ne.mpr c3;obtain rfl := Option.some.inj H
  go_enter Try.func88,Try.ntmps88
  go_wp2_with (first | ((with_reducible refine gate_dst (N := 2) rfl ?_);refine box_event ?hg (N := 2) ?hd (cs := #[.int .i64 a0_0,.int .i64 a0_1,.bool a0_2]) (t := 73) ?hr ?_;(case hd => rfl);(case hg => rfl);(case hr => first | (go_simp;done) | (go_simp;rfl));intro gb101 hg w9 hbox hb;have n0_ := Aside0.mk (below_step (by repeat (first | (with_reducible first | exact HB.out | apply below_alloc | apply pw_below_drewN | apply below_drew1) | exact HB.out)) hb);have n1_ := Aside0.mk (hbox);have n2_ := Aside0.mk ((by rw [hg];exact (below_size (by repeat (first | (with_reducible first | exact HB.out | apply below_alloc | apply pw_below_drewN | apply below_drew1) | exact HB.out))) : w.heap.size ≤ gb101));have n3_ := Aside0.mk ((by rw [hg];exact (below_size (by repeat (first | (with_reducible first | exact HB.out | apply below_alloc | apply pw_below_drewN | apply below_drew1) | exact HB.out))) : w.heap.size ≤ gb101));clear HB;have HB := n0_;have BK101 := n1_;have GW101 := n2_;have GE101 := n3_;clear n0_ n1_ n2_ n3_;clear hb hbox hg) | ((with_reducible refine gate_dst (N := 3) rfl ?_);refine box_event ?hg (N := 3) ?hd (cs := #[.int .i64 a1_0,.int .i64 a1_1,.bool a1_2]) (t := 73) ?hr ?_;(case hd => rfl);(case hg => rfl);(case hr => first | (go_simp;done) | (go_simp;rfl));intro gb102 hg w10 hbox hb;have n0_ := Aside0.mk (blk_below (g := gb101) (o := .cells #[.int .i64 a0_0,.int .i64 a0_1,.bool a0_2] 73 (0,0)) (by (with_reducible repeat (first | refine blk_drewN ?_ _ | refine blk_drew ?_ | refine blk_alloc ?_ _));exact BK101.out) hb);have n1_ := Aside0.mk (below_step (by repeat (first | (with_reducible first | exact HB.out | apply below_alloc | apply pw_below_drewN | apply below_drew1 | refine below_set ?_ GE101.out) | exact HB.out)) hb);have n2_ := Aside0.mk (hbox);have n3_ := Aside0.mk ((by rw [hg];exact (below_size (by repeat (first | (with_reducible first | exact HB.out | apply below_alloc | apply pw_below_drewN | apply below_drew1 | refine below_set ?_ GE101.out) | exact HB.out))) : w.heap.size ≤ gb102));have n4_ := Aside0.mk ((by rw [hg];exact (below_size (by repeat (first | (with_reducible first | exact HB.out | apply below_alloc | apply pw_below_drewN | apply below_drew1 | refine below_set ?_ GE101.out) | exact HB.out))) : w.heap.size ≤ gb102));have n5_ := Aside0.mk ((by rw [hg];exact Nat.ne_of_lt (blk_lt (g := gb101) (o := .cells #[.int .i64 a0_0,.int .i64 a0_1,.bool a0_2] 73 (0,0)) (by (with_reducible repeat (first | refine blk_drewN ?_ _ | refine blk_drew ?_ | refine blk_alloc ?_ _));exact BK101.out)) : gb101 ≠ gb102));have n6_ := Aside0.mk ((by rw [hg];exact Nat.ne_of_gt (blk_lt (g := gb101) (o := .cells #[.int .i64 a0_0,.int .i64 a0_1,.bool a0_2] 73 (0,0)) (by (with_reducible repeat (first | refine blk_drewN ?_ _ | refine blk_drew ?_ | refine blk_alloc ?_ _));exact BK101.out)) : gb102 ≠ gb101));clear BK101;clear HB;have BK101 := n0_;have HB := n1_;have BK102 := n2_;have GW102 := n3_;have GE102 := n4_;have NB101_102 := n5_;have NB102_101 := n6_;clear n0_ n1_ n2_ n3_ n4_ n5_ n6_;clear hb hbox hg;have hnb11 := NB101_102.out;have hnc11 := NB102_101.out;have hcz12_0 : w10.cell? ⟨gb101,0,none⟩ = some (.int .i64 a0_0) := (blk_cell BK101.out 0).trans rfl;have hcz12_1 : w10.cell? ⟨gb101,1,none⟩ = some (.int .i64 a0_1) := (blk_cell BK101.out 1).trans rfl;have hcz12_2 : w10.cell? ⟨gb101,2,none⟩ = some (.bool a0_2) := (blk_cell BK101.out 2).trans rfl;have hfz12_0 := blk_frozen BK101.out 0;have hfz12_1 := blk_frozen BK101.out 1;have hfz12_2 := blk_frozen BK101.out 2;have hcz13_0 : w10.cell? ⟨gb102,0,none⟩ = some (.int .i64 a1_0) := (blk_cell BK102.out 0).trans rfl;have hcz13_1 : w10.cell? ⟨gb102,1,none⟩ = some (.int .i64 a1_1) := (blk_cell BK102.out 1).trans rfl;have hcz13_2 : w10.cell? ⟨gb102,2,none⟩ = some (.bool a1_2) := (blk_cell BK102.out 2).trans rfl;have hfz13_0 := blk_frozen BK102.out 0;have hfz13_1 := blk_frozen BK102.out 1;have hfz13_2 := blk_frozen BK102.out 2))
  go_ret
  exact ⟨by first | rfl | (simp [errW_none,errW_some,IntKind.wrap_i64,wrap64];done) | (simp [errW_none,errW_some] <;> rfl) | (simp [*,errW_none,errW_some] <;> rfl),by repeat (first | (with_reducible first | exact HB.out | apply below_alloc | apply pw_below_drewN | apply below_drew1 | refine below_set ?_ GE101.out | refine below_set ?_ GE102.out) | exact HB.out)⟩
end Go.Proofs.Ytidkniacmcbgiaa.G
end

section
namespace Go.Proofs.Ytidkniacmcbgiaa.G
open Go.RowKit Go.Proofs.YtidkniacmcbgiaaW.PrintWords Go.Proofs.YtidkniacmcbgiaaW.PrintLast Go.Proofs.YtidkniacmcbgiaaW.PrintMore
attribute [local go_sem] max2_int min2_int max_two min_two max_three min_three max_four min_four
set_option linter.unusedVariables false
set_option linter.unusedSimpArgs false
def spec_l00In.f (a0 : Int) (a1 : Int) (a2 : Int) : Option (Bool) := if a0 ≥ a1 then (some (decide (a0 ≤ a2))) else (some false)
set_option maxHeartbeats 8000000 in
set_option maxRecDepth 100000 in
theorem spec_l00In.calls (a0 : Int) (a1 : Int) (a2 : Int) (r : Bool) (w : World) (h : spec_l00In.f a0 a1 a2 = some r) :
  Calls Try.prog 77 #[.int .i64 a0,.int .i64 a1,.int .i64 a2] w fun e w' => e = .returned (.bool r) ∧ Drawn0 w w' := by
 have H : (if a0 ≥ a1 then (some (decide (a0 ≤ a2))) else (some false)) = some r := h;clear h
 by_cases c4 : a0 ≥ a1
 ·rw [if_pos c4] at H;have c4b0 : decide (a1 ≤ a0) = true := decide_eq_true c4;clear c4;obtain rfl := Option.some.inj H
  go_enter Try.func77,Try.ntmps77
  go_wp2
  go_ret
  exact ⟨by first | rfl | (simp only [IntKind.wrap_i64,wrap64];done) | (simp;done) | (simp [*];done),by repeat (first | exact Drawn0.refl _ | apply Drawn0.step)⟩
 ·rw [if_neg c4] at H;have c4b0 : decide (a1 ≤ a0) = false := decide_eq_false c4;clear c4;obtain rfl := Option.some.inj H
  go_enter Try.func77,Try.ntmps77
  go_wp2
  go_ret
  exact ⟨by first | rfl | (simp only [IntKind.wrap_i64,wrap64];done) | (simp;done) | (simp [*];done),by repeat (first | exact Drawn0.refl _ | apply Drawn0.step)⟩
end Go.Proofs.Ytidkniacmcbgiaa.G
end

section
namespace Go.Proofs.Ytidkniacmcbgiaa.G
open Go.RowKit Go.Proofs.YtidkniacmcbgiaaW.PrintWords Go.Proofs.YtidkniacmcbgiaaW.PrintLast Go.Proofs.YtidkniacmcbgiaaW.PrintMore
attribute [local go_sem] max2_int min2_int max_two min_two max_three min_three max_four min_four
set_option linter.unusedVariables false
set_option linter.unusedSimpArgs false
mutual
def spec_l07Up.l0 : Nat → List (S73) → Int → List Int → Int → Option (List Int × Bool)
 | 0,_,_,_,_ => none
 | k + 1,x0,x1,x6,x7 => if x7 < x1 then (spec_l07Up.l1 k x0 x1 x6 x7 (-1) 0) else (some (x6,true))
def spec_l07Up.l1 : Nat → List (S73) → Int → List Int → Int → Int → Int → Option (List Int × Bool)
 | 0,_,_,_,_,_,_ => none
 | k + 1,x0,x1,x6,x7,x8,x9 => if x9 < (x6.length : Int) then (if 0 ≤ x9 then (if 0 ≤ (rd x6 x9) then (if (rd x6 x9) < (x0.length : Int) then (if 0 ≤ x7 then (if x7 < (x0.length : Int) then (if ((rd_T73 x0 (rd x6 x9)).f1) = ((rd_T73 x0 x7).f1) then (spec_l07Up.l1 k x0 x1 x6 x7 x9 (wrap64 (x9 + 1))) else (spec_l07Up.l1 k x0 x1 x6 x7 x8 (wrap64 (x9 + 1)))) else (none)) else (none)) else (none)) else (none)) else (none)) else (if 0 ≤ x7 then (if x7 < (x0.length : Int) then (if (((rd_T73 x0 x7).f2) != (decide (x8 ≥ 0))) = true then (some ((([] : List Int)),false)) else (if x8 < 0 then (if x6.length < 17592186044416 then (spec_l07Up.l0 k x0 x1 (x6 ++ [x7]) (wrap64 (x7 + 1))) else (none)) else ((some (([] : List Int) : List Int)).bind fun y114 => (if 0 ≤ x8 then (if x8 ≤ (x6.length : Int) then ((some (x6.take (x8 : Int).toNat : List Int)).bind fun y117 => (if y114.length + y117.length < 17592186044416 then ((some (y114 ++ y117 : List Int)).bind fun y121 => (if 0 ≤ (wrap64 (x8 + 1)) then (if (wrap64 (x8 + 1)) ≤ (x6.length : Int) then ((some (x6.drop ((wrap64 (x8 + 1)) : Int).toNat : List Int)).bind fun y124 => (if y121.length + y124.length < 17592186044416 then (spec_l07Up.l0 k x0 x1 (y121 ++ y124) (wrap64 (x7 + 1))) else (none))) else (none)) else (none))) else (none))) else (none)) else (none))))) else (none)) else (none))
end
def spec_l07Up.f (k : Nat) (l0 : List (S73)) (a1 : Int) : Option (List Int × Bool) := spec_l07Up.l0 k l0 a1 (([] : List Int)) 0
def spec_l07Up.T9 : Bool × List (List Nat × List Nat) := (true,[([],[]),([],[]),([],[]),([1,2],[1,2]),([3],[3]),([0,4],[0,4]),([5],[5]),([6],[6]),([],[]),([],[]),([8,9],[8,9]),([10],[10]),([11],[11]),([7,12],[7,12])])
def spec_l07Up.B9 : List Nat := [0,0,0,6,14,31,63,127,0,0,768,1792,3840,8191]
theorem spec_l07Up.tab9 : rtab .any (opsOf Try.f76 9) = spec_l07Up.T9 := by kernel_rfl
theorem spec_l07Up.bits9 : waitsOk spec_l07Up.T9.2 spec_l07Up.B9 = true := by kernel_rfl
def spec_l07Up.T15 : Bool × List (List Nat × List Nat) := (true,[([],[]),([],[]),([],[]),([1,2],[1,2]),([0,3],[0,3]),([],[]),([],[]),([6],[6]),([5,7],[5,7]),([4,8,4],[4,8]),([9,9,0,1,2,3,4,5,6,7,8,9],[1,5,9])])
def spec_l07Up.B15 : List Nat := [0,0,0,6,15,0,0,64,224,511,1023]
theorem spec_l07Up.tab15 : rtab .any (opsOf Try.f76 15) = spec_l07Up.T15 := by kernel_rfl
theorem spec_l07Up.bits15 : waitsOk spec_l07Up.T15.2 spec_l07Up.B15 = true := by kernel_rfl
set_option maxHeartbeats 8000000 in
set_option maxRecDepth 100000 in
theorem spec_l07Up.calls (k : Nat) (A0 : Option Addr) (c0 : Nat) (l0 : List (S73)) (a1 : Int) (r1 : List Int) (r2 : Bool) (w : World) (hr0 : Kd.C k73 w A0 l0.length l0) (hc0 : l0.length ≤ c0) (h : spec_l07Up.f k l0 a1 = some (r1,r2)) :
  Calls Try.prog 76 #[.slice A0 l0.length c0,.int .i64 a1] w fun e w' => ∃ v0_ : Value,e = .returned (.tuple #[v0_,.bool r2]) ∧ Kd.R (Kd.int .i64) 3 w' w.heap.size (fun _ => True) v0_ r1 ∧ Below w.heap.size w w' := by
 have HR0 := Aside0.mk hr0;have HC0 := Aside0.mk hc0;clear hr0 hc0;have HB := Aside0.mk (Below.refl w.heap.size w);have H : (spec_l07Up.l0 k l0 a1 (([] : List Int)) 0) = some (r1,r2) := h;clear h;obtain ⟨y101,hy101⟩ : ∃ y_ : List Int,y_ = (([] : List Int)) := ⟨_,rfl⟩
 replace H : (spec_l07Up.l0 k l0 a1 y101 0) = some (r1,r2) := by first | (rw [hy101];with_reducible exact H) | (have H2_ := (Option.bind_some _ _).symm.trans H;rw [hy101];with_reducible exact H2_) | (have H2_ := (Option.bind_some _ _).symm.trans H;with_reducible exact H2_) | with_reducible exact H | (rw [hy101];exact H) | exact H
 have Ny101 := Aside0.mk hy101;clear hy101;have H' := Aside0.mk H;clear H
 go_enter Try.func76,Try.ntmps76
 go_wp2_with (first | ((with_reducible refine gate_dst (N := 10) rfl ?_);refine Kd.R_lit (Kd.int .i64) _ 3 ?hg (N := 10) ?hd (xs := ([] : List Int)) (inner := []) (ok := fun _ => True) (okp := fun _ => True) ?hr ?hp (fun _ hk => hk) trivial (Below.refl _ _) (Nat.le_refl _) (by simp) ?_;(case hd => rfl);(case hg => rfl);(case hr => first | (go_simp;done) | (go_simp;rfl));(case hp => exact (Reps.none _ _));intro v102 w3 ho4 hb hg_ hnew_;clear hg_ hnew_;(first | rw [← Ny101.out] at ho4 | (simp only [Int.reduceToNat] at ho4;rw [← Ny101.out] at ho4));have n0_ := Aside0.mk (Kd.R_lower ho4 (below_size (by repeat (first | (with_reducible first | exact HB.out | apply below_alloc | apply pw_below_drewN | apply below_drew1) | exact HB.out))));have n1_ := Aside0.mk (below_step (by repeat (first | (with_reducible first | exact HB.out | apply below_alloc | apply pw_below_drewN | apply below_drew1) | exact HB.out)) hb);clear HB;have HO103 := n0_;have HB := n1_;clear n0_ n1_;clear hb ho4))
 go_loopg [6,7] k (fun kq v6 v7 w' => ∃ (x6_1 : List Int) (x7_1 : Int),v7 = .int .i64 x7_1 ∧ Aside0 (spec_l07Up.l0 kq l0 a1 x6_1 x7_1 = some (r1,r2)) ∧ Aside0 (kq ≤ k) ∧ Aside0 (Kd.R (Kd.int .i64) 3 w' w.heap.size (fun _ => True) v6 x6_1) ∧ Aside0 (Below w.heap.size w w'))
 case atStart => exact ⟨(y101),(0),(by first | rfl | (simp only [IntKind.wrap_i64,wrap64];done) | (simp;done) | (simp [*];done)),H',⟨Nat.le_refl _⟩,⟨by (with_reducible repeat (first | apply Kd.R_alloc | apply Kd.R_drewN | apply Kd.R_drew));exact HO103.out⟩,⟨by repeat (first | (with_reducible first | exact HB.out | apply below_alloc | apply pw_below_drewN | apply below_drew1) | exact HB.out)⟩⟩
 case round =>
  clear H';(try clear p2);obtain ⟨x6_1,x7_1,rfl,HA,HK1,HO_6,HB⟩ := hrel
  cases gk with
  | zero => exact absurd HA.out (by simp [spec_l07Up.l0])
  | succ k1 =>
   have H := HA.out;clear HA;simp only [spec_l07Up.l0] at H
   by_cases c5 : x7_1 < a1
   ·rw [if_pos c5] at H;have c5b0 : decide (x7_1 < a1) = true := decide_eq_true c5;clear c5;have H' := Aside0.mk H;clear H
    go_wp2
    go_loopg [8,9] k1 (fun kq v8 v9 w' => ∃ (x8_2 : Int) (x9_2 : Int),v8 = .int .i64 x8_2 ∧ v9 = .int .i64 x9_2 ∧ Aside0 (spec_l07Up.l1 kq l0 a1 x6_1 x7_1 x8_2 x9_2 = some (r1,r2)) ∧ Aside0 (kq ≤ k1) ∧ Aside0 (Kd.R (Kd.int .i64) 3 w' w.heap.size (fun _ => True) u6 x6_1) ∧ Aside0 (Below w.heap.size w w'))
    case atStart => exact ⟨((-1)),(0),(by first | rfl | (simp only [IntKind.wrap_i64,wrap64];done) | (simp;done) | (simp [*];done)),(by first | rfl | (simp only [IntKind.wrap_i64,wrap64];done) | (simp;done) | (simp [*];done)),H',⟨Nat.le_refl _⟩,⟨by (with_reducible repeat (first | apply Kd.R_alloc | apply Kd.R_drewN | apply Kd.R_drew));exact HO_6.out⟩,⟨by repeat (first | (with_reducible first | exact HB.out | apply below_alloc | apply pw_below_drewN | apply below_drew1) | exact HB.out)⟩⟩
    case round =>
     clear H';(try clear p2);(try clear c5);(try clear c5b0);(try clear p2);obtain ⟨x8_2,x9_2,rfl,rfl,HA,HK2,HO_6,HB⟩ := hrel
     cases gk with
     | zero => exact absurd HA.out (by simp [spec_l07Up.l1])
     | succ k2 =>
      have H := HA.out;clear HA;simp only [spec_l07Up.l1] at H
      by_cases c6 : x9_2 < (x6_1.length : Int)
      ·rw [if_pos c6] at H;have c6b0 : decide (x9_2 < (x6_1.length : Int)) = true := decide_eq_true c6;clear c6
       by_cases c7 : 0 ≤ x9_2
       ·rw [if_pos c7] at H;have c7b0 : decide (0 ≤ x9_2) = true := decide_eq_true c7;clear c7
        by_cases c8 : 0 ≤ (rd x6_1 x9_2)
        ·rw [if_pos c8] at H;have c8b0 : decide (0 ≤ (rd x6_1 x9_2)) = true := decide_eq_true c8;clear c8
         by_cases c9 : (rd x6_1 x9_2) < (l0.length : Int)
         ·rw [if_pos c9] at H;have c9b0 : decide ((rd x6_1 x9_2) < (l0.length : Int)) = true := decide_eq_true c9;clear c9
          by_cases c10 : 0 ≤ x7_1
          ·rw [if_pos c10] at H;have c10b0 : decide (0 ≤ x7_1) = true := decide_eq_true c10;clear c10
           by_cases c11 : x7_1 < (l0.length : Int)
           ·rw [if_pos c11] at H;have c11b0 : decide (x7_1 < (l0.length : Int)) = true := decide_eq_true c11;clear c11
            by_cases c12 : ((rd_T73 l0 (rd x6_1 x9_2)).f1) = ((rd_T73 l0 x7_1).f1)
            ·rw [if_pos c12] at H;have c12b0 : (((rd_T73 l0 (rd x6_1 x9_2)).f1) == ((rd_T73 l0 x7_1).f1)) = true := beq_iff_eq.mpr c12;have c12b1 : (((rd_T73 l0 (rd x6_1 x9_2)).f1) != ((rd_T73 l0 x7_1).f1)) = false := bne_eq_false_iff_eq.mpr c12;clear c12;have H' := Aside0.mk H;clear H;obtain ⟨Ao13,co13,eo13⟩ := Kd.R_slice HO_6.out;subst eo13;(try go_wp2);have n0_ := Aside0.mk (Kd.R_drew HO_6.out);have n1_ := Aside0.mk (below_drew1 HB.out);clear HO_6;clear HB;have HO_6 := n0_;have HB := n1_;clear n0_ n1_;have p104 : 0 ≤ (x9_2 : Int) := of_decide_eq_true (by first | (with_reducible assumption) | assumption);have q104 : x9_2 < (x6_1.length : Int) := of_decide_eq_true (by first | (with_reducible assumption) | assumption);obtain ⟨ad104,e104,hx104_0⟩ := Kd.at_int (Kd.R_reads' HO_6.out).2.2 x9_2 p104 q104;cases e104;replace p104 := eq_true p104;replace q104 := eq_true q104;have p105 : 0 ≤ ((rd x6_1 x9_2) : Int) := of_decide_eq_true (by first | (with_reducible assumption) | assumption);have q105 : (rd x6_1 x9_2) < (l0.length : Int) := of_decide_eq_true (by first | (with_reducible assumption) | assumption);obtain ⟨ad105,e105,hx105_0,hx105_1,hx105_2⟩ := at_T73 HR0.out (rd x6_1 x9_2) p105 q105;have hw105_2 := hx105_2;have hw105_1 := hx105_1;have hw105_0 := hx105_0;cases e105;replace hx105_0 := (HB.out.cell (World.block_lt_of_cell? w _ hx105_0)).trans hx105_0;replace hx105_1 := (HB.out.cell (World.block_lt_of_cell? w _ hx105_1)).trans hx105_1;replace hx105_2 := (HB.out.cell (World.block_lt_of_cell? w _ hx105_2)).trans hx105_2;replace p105 := eq_true p105;replace q105 := eq_true q105;have p106 : 0 ≤ (x7_1 : Int) := of_decide_eq_true (by first | (with_reducible assumption) | assumption);have q106 : x7_1 < (l0.length : Int) := of_decide_eq_true (by first | (with_reducible assumption) | assumption);obtain ⟨ad106,e106,hx106_0,hx106_1,hx106_2⟩ := at_T73 HR0.out x7_1 p106 q106;have hw106_2 := hx106_2;have hw106_1 := hx106_1;have hw106_0 := hx106_0;obtain rfl : ad105 = ad106 := (by injection e106);replace hx106_0 := (HB.out.cell (World.block_lt_of_cell? w _ hx106_0)).trans hx106_0;replace hx106_1 := (HB.out.cell (World.block_lt_of_cell? w _ hx106_1)).trans hx106_1;replace hx106_2 := (HB.out.cell (World.block_lt_of_cell? w _ hx106_2)).trans hx106_2;replace p106 := eq_true p106;replace q106 := eq_true q106;refine start_ (n := 14) (S := fun w' => w'.cell? (ad104.add (x9_2).toNat) = some (.int .i64 (rd x6_1 x9_2)) ∧ w'.cell? (ad105.add (((rd x6_1 x9_2)).toNat * 3)) = some (.int .i64 ((rd_T73 l0 (rd x6_1 x9_2)).f0)) ∧ w'.cell? ⟨(ad105.add (((rd x6_1 x9_2)).toNat * 3)).block,(ad105.add (((rd x6_1 x9_2)).toNat * 3)).off + 1,none⟩ = some (.int .i64 ((rd_T73 l0 (rd x6_1 x9_2)).f1)) ∧ w'.cell? ⟨(ad105.add (((rd x6_1 x9_2)).toNat * 3)).block,(ad105.add (((rd x6_1 x9_2)).toNat * 3)).off + 2,none⟩ = some (.bool ((rd_T73 l0 (rd x6_1 x9_2)).f2)) ∧ w'.cell? (ad105.add ((x7_1).toNat * 3)) = some (.int .i64 ((rd_T73 l0 x7_1).f0)) ∧ w'.cell? ⟨(ad105.add ((x7_1).toNat * 3)).block,(ad105.add ((x7_1).toNat * 3)).off + 1,none⟩ = some (.int .i64 ((rd_T73 l0 x7_1).f1)) ∧ w'.cell? ⟨(ad105.add ((x7_1).toNat * 3)).block,(ad105.add ((x7_1).toNat * 3)).off + 2,none⟩ = some (.bool ((rd_T73 l0 x7_1).f2))) (ds := []) #[false,false,false,false,false,false,false,false,false,false,false,false,false,false] (by kernel_rfl) rfl rfl ⟨hx104_0,((HB.out.cell (World.block_lt_of_cell? w _ hw105_0)).trans hw105_0),((HB.out.cell (World.block_lt_of_cell? w _ hw105_1)).trans hw105_1),((HB.out.cell (World.block_lt_of_cell? w _ hw105_2)).trans hw105_2),((HB.out.cell (World.block_lt_of_cell? w _ hw106_0)).trans hw106_0),((HB.out.cell (World.block_lt_of_cell? w _ hw106_1)).trans hw106_1),((HB.out.cell (World.block_lt_of_cell? w _ hw106_2)).trans hw106_2)⟩ (fun hHeld => ?_);refine with_tabW spec_l07Up.tab9 spec_l07Up.bits9 (fun HT_ HW_ => ?_);generalize wr.drew = w14 at HO_6 HB hx104_0 hx105_0 hx105_1 hx105_2 hx106_0 hx106_1 hx106_2 hHeld ⊢;refine pure_ (i := 0) (N := some 22) (v := ?_) (a' := ?_) #[true,false,false,false,false,false,false,false,false,false,false,false,false,false] rfl rfl (any_of HT_.out (by kernel_rfl)) (fun _ _ _ h => h) (Or.inl ⟨by rfl,?_⟩) ?_ ?_;rotate_left
             ·intro w';go_simp;with_reducible rfl
             rotate_left
             ·simp only [Act.put,List.setIfInBounds_toArray,List.set_cons_zero,List.set_cons_succ,i64_w,i32_w];rfl
             refine pure_ (i := 1) (N := some 23) (v := ?_) (a' := ?_) #[true,true,false,false,false,false,false,false,false,false,false,false,false,false] rfl rfl (any_of HT_.out (by kernel_rfl)) (fun _ _ _ h => h) (Or.inl ⟨by rfl,?_⟩) ?_ ?_;rotate_left
             ·intro w';go_simp;with_reducible rfl
             rotate_left
             ·simp only [Act.put,List.setIfInBounds_toArray,List.set_cons_zero,List.set_cons_succ,i64_w,i32_w];rfl
             refine pure_ (i := 2) (N := some 24) (v := ?_) (a' := ?_) #[true,true,true,false,false,false,false,false,false,false,false,false,false,false] rfl rfl (any_of HT_.out (by kernel_rfl)) (fun _ _ _ h => h) (Or.inl ⟨by rfl,?_⟩) ?_ ?_;rotate_left
             ·intro w';go_simp;with_reducible rfl
             rotate_left
             ·simp only [Act.put,List.setIfInBounds_toArray,List.set_cons_zero,List.set_cons_succ,i64_w,i32_w];rfl
             refine pure_ (i := 3) (N := some 25) (v := ?_) (a' := ?_) #[true,true,true,true,false,false,false,false,false,false,false,false,false,false] rfl rfl (any_of HT_.out (by kernel_rfl)) (fun _ _ _ h => h) (Or.inl ⟨by rfl,?_⟩) ?_ ?_;rotate_left
             ·intro w';go_simp;with_reducible rfl
             rotate_left
             ·simp only [Act.put,List.setIfInBounds_toArray,List.set_cons_zero,List.set_cons_succ,i64_w,i32_w];rfl
             refine pure_ (i := 8) (N := some 30) (v := ?_) (a' := ?_) #[true,true,true,true,false,false,false,false,true,false,false,false,false,false] rfl rfl (any_of HT_.out (by kernel_rfl)) (fun _ _ _ h => h) (Or.inl ⟨by rfl,?_⟩) ?_ ?_;rotate_left
             ·intro w';go_simp;with_reducible rfl
             rotate_left
             ·simp only [Act.put,List.setIfInBounds_toArray,List.set_cons_zero,List.set_cons_succ,i64_w,i32_w];rfl
             refine pure_ (i := 9) (N := some 31) (v := ?_) (a' := ?_) #[true,true,true,true,false,false,false,false,true,true,false,false,false,false] rfl rfl (any_of HT_.out (by kernel_rfl)) (fun _ _ _ h => h) (Or.inl ⟨by rfl,?_⟩) ?_ ?_;rotate_left
             ·intro w';go_simp;with_reducible rfl
             rotate_left
             ·simp only [Act.put,List.setIfInBounds_toArray,List.set_cons_zero,List.set_cons_succ,i64_w,i32_w];rfl
             refine pure_ (i := 10) (N := some 32) (v := ?_) (a' := ?_) #[true,true,true,true,false,false,false,false,true,true,true,false,false,false] rfl rfl (any_of HT_.out (by kernel_rfl)) (fun _ _ _ h => h) (Or.inl ⟨by rfl,?_⟩) ?_ ?_;rotate_left
             ·intro w';go_simp;with_reducible rfl
             rotate_left
             ·simp only [Act.put,List.setIfInBounds_toArray,List.set_cons_zero,List.set_cons_succ,i64_w,i32_w];rfl
             refine pure_ (i := 11) (N := some 33) (v := ?_) (a' := ?_) #[true,true,true,true,false,false,false,false,true,true,true,true,false,false] rfl rfl (any_of HT_.out (by kernel_rfl)) (fun _ _ _ h => h) (Or.inl ⟨by rfl,?_⟩) ?_ ?_;rotate_left
             ·intro w';go_simp;with_reducible rfl
             rotate_left
             ·simp only [Act.put,List.setIfInBounds_toArray,List.set_cons_zero,List.set_cons_succ,i64_w,i32_w];rfl
             refine take_ (i := 4) (N := some 26) (v := ?_) (a' := ?_) #[true,true,true,true,true,false,false,false,true,true,true,true,false,false] rfl rfl (take_ofW HT_.out HW_.out (by kernel_rfl)) (fun _ _ _ h => h) (Or.inl ⟨by rfl,?_⟩) hHeld ?_ ?_;rotate_left
             ·rintro w' ⟨s0,s1,s2,s3,s4,s5,s6⟩
              go_simp;with_reducible rfl
             rotate_left
             ·simp only [Act.put,List.setIfInBounds_toArray,List.set_cons_zero,List.set_cons_succ,i64_w,i32_w];rfl
             refine pure_ (i := 5) (N := some 27) (v := ?_) (a' := ?_) #[true,true,true,true,true,true,false,false,true,true,true,true,false,false] rfl rfl (any_of HT_.out (by kernel_rfl)) (fun _ _ _ h => h) (Or.inl ⟨by rfl,?_⟩) ?_ ?_;rotate_left
             ·intro w';go_simp;with_reducible rfl
             rotate_left
             ·simp only [Act.put,List.setIfInBounds_toArray,List.set_cons_zero,List.set_cons_succ,i64_w,i32_w];rfl
             refine pure_ (i := 6) (N := some 28) (v := ?_) (a' := ?_) #[true,true,true,true,true,true,true,false,true,true,true,true,false,false] rfl rfl (any_of HT_.out (by kernel_rfl)) (fun _ _ _ h => h) (Or.inl ⟨by rfl,?_⟩) ?_ ?_;rotate_left
             ·intro w';go_simp;with_reducible rfl
             rotate_left
             ·simp only [Act.put,List.setIfInBounds_toArray,List.set_cons_zero,List.set_cons_succ,i64_w,i32_w];rfl
             refine take_ (i := 7) (N := some 29) (v := ?_) (a' := ?_) #[true,true,true,true,true,true,true,true,true,true,true,true,false,false] rfl rfl (take_ofW HT_.out HW_.out (by kernel_rfl)) (fun _ _ _ h => h) (Or.inl ⟨by rfl,?_⟩) hHeld ?_ ?_;rotate_left
             ·rintro w' ⟨s0,s1,s2,s3,s4,s5,s6⟩
              go_simp;with_reducible rfl
             rotate_left
             ·simp only [Act.put,List.setIfInBounds_toArray,List.set_cons_zero,List.set_cons_succ,i64_w,i32_w];rfl
             refine take_ (i := 12) (N := some 34) (v := ?_) (a' := ?_) #[true,true,true,true,true,true,true,true,true,true,true,true,true,false] rfl rfl (take_ofW HT_.out HW_.out (by kernel_rfl)) (fun _ _ _ h => h) (Or.inl ⟨by rfl,?_⟩) hHeld ?_ ?_;rotate_left
             ·rintro w' ⟨s0,s1,s2,s3,s4,s5,s6⟩
              go_simp;with_reducible rfl
             rotate_left
             ·simp only [Act.put,List.setIfInBounds_toArray,List.set_cons_zero,List.set_cons_succ,i64_w,i32_w];rfl
             refine pure_ (i := 13) (N := some 35) (v := ?_) (a' := ?_) #[true,true,true,true,true,true,true,true,true,true,true,true,true,true] rfl rfl (any_of HT_.out (by kernel_rfl)) (fun _ _ _ h => h) (Or.inl ⟨by rfl,?_⟩) ?_ ?_;rotate_left
             ·intro w';go_simp;with_reducible rfl
             rotate_left
             ·simp only [Act.put,List.setIfInBounds_toArray,List.set_cons_zero,List.set_cons_succ,i64_w,i32_w];rfl
             refine done_ (done_of HT_.out (by kernel_rfl)) ?_;(try go_wp2)
             go_roundg k2
             case measure => have := HK1.out;have := HK2.out;omega
             case rel => exact ⟨(x9_2),(wrap64 (x9_2 + 1)),(by first | rfl | (simp only [IntKind.wrap_i64,wrap64];done) | (simp;done) | (simp [*];done)),(by first | rfl | (simp only [IntKind.wrap_i64,wrap64];done) | (simp;done) | (simp [*];done)),H',⟨by have := HK1.out;have := HK2.out;omega⟩,⟨by (with_reducible repeat (first | apply Kd.R_alloc | apply Kd.R_drewN | apply Kd.R_drew));exact HO_6.out⟩,⟨by repeat (first | (with_reducible first | exact HB.out | apply below_alloc | apply pw_below_drewN | apply below_drew1) | exact HB.out)⟩⟩
            ·rw [if_neg c12] at H;have c12b0 : (((rd_T73 l0 (rd x6_1 x9_2)).f1) == ((rd_T73 l0 x7_1).f1)) = false := beq_eq_false_iff_ne.mpr c12;have c12b1 : (((rd_T73 l0 (rd x6_1 x9_2)).f1) != ((rd_T73 l0 x7_1).f1)) = true := bne_iff_ne.mpr c12;have H' := Aside0.mk H;clear H;obtain ⟨Ao15,co15,eo15⟩ := Kd.R_slice HO_6.out;subst eo15;(try go_wp2);have n0_ := Aside0.mk (Kd.R_drew HO_6.out);have n1_ := Aside0.mk (below_drew1 HB.out);clear HO_6;clear HB;have HO_6 := n0_;have HB := n1_;clear n0_ n1_;have p104 : 0 ≤ (x9_2 : Int) := of_decide_eq_true (by first | (with_reducible assumption) | assumption);have q104 : x9_2 < (x6_1.length : Int) := of_decide_eq_true (by first | (with_reducible assumption) | assumption);obtain ⟨ad104,e104,hx104_0⟩ := Kd.at_int (Kd.R_reads' HO_6.out).2.2 x9_2 p104 q104;cases e104;replace p104 := eq_true p104;replace q104 := eq_true q104;have p105 : 0 ≤ ((rd x6_1 x9_2) : Int) := of_decide_eq_true (by first | (with_reducible assumption) | assumption);have q105 : (rd x6_1 x9_2) < (l0.length : Int) := of_decide_eq_true (by first | (with_reducible assumption) | assumption);obtain ⟨ad105,e105,hx105_0,hx105_1,hx105_2⟩ := at_T73 HR0.out (rd x6_1 x9_2) p105 q105;have hw105_2 := hx105_2;have hw105_1 := hx105_1;have hw105_0 := hx105_0;cases e105;replace hx105_0 := (HB.out.cell (World.block_lt_of_cell? w _ hx105_0)).trans hx105_0;replace hx105_1 := (HB.out.cell (World.block_lt_of_cell? w _ hx105_1)).trans hx105_1;replace hx105_2 := (HB.out.cell (World.block_lt_of_cell? w _ hx105_2)).trans hx105_2;replace p105 := eq_true p105;replace q105 := eq_true q105;have p106 : 0 ≤ (x7_1 : Int) := of_decide_eq_true (by first | (with_reducible assumption) | assumption);have q106 : x7_1 < (l0.length : Int) := of_decide_eq_true (by first | (with_reducible assumption) | assumption);obtain ⟨ad106,e106,hx106_0,hx106_1,hx106_2⟩ := at_T73 HR0.out x7_1 p106 q106;have hw106_2 := hx106_2;have hw106_1 := hx106_1;have hw106_0 := hx106_0;obtain rfl : ad105 = ad106 := (by injection e106);replace hx106_0 := (HB.out.cell (World.block_lt_of_cell? w _ hx106_0)).trans hx106_0;replace hx106_1 := (HB.out.cell (World.block_lt_of_cell? w _ hx106_1)).trans hx106_1;replace hx106_2 := (HB.out.cell (World.block_lt_of_cell? w _ hx106_2)).trans hx106_2;replace p106 := eq_true p106;replace q106 := eq_true q106;refine start_ (n := 14) (S := fun w' => w'.cell? (ad104.add (x9_2).toNat) = some (.int .i64 (rd x6_1 x9_2)) ∧ w'.cell? (ad105.add (((rd x6_1 x9_2)).toNat * 3)) = some (.int .i64 ((rd_T73 l0 (rd x6_1 x9_2)).f0)) ∧ w'.cell? ⟨(ad105.add (((rd x6_1 x9_2)).toNat * 3)).block,(ad105.add (((rd x6_1 x9_2)).toNat * 3)).off + 1,none⟩ = some (.int .i64 ((rd_T73 l0 (rd x6_1 x9_2)).f1)) ∧ w'.cell? ⟨(ad105.add (((rd x6_1 x9_2)).toNat * 3)).block,(ad105.add (((rd x6_1 x9_2)).toNat * 3)).off + 2,none⟩ = some (.bool ((rd_T73 l0 (rd x6_1 x9_2)).f2)) ∧ w'.cell? (ad105.add ((x7_1).toNat * 3)) = some (.int .i64 ((rd_T73 l0 x7_1).f0)) ∧ w'.cell? ⟨(ad105.add ((x7_1).toNat * 3)).block,(ad105.add ((x7_1).toNat * 3)).off + 1,none⟩ = some (.int .i64 ((rd_T73 l0 x7_1).f1)) ∧ w'.cell? ⟨(ad105.add ((x7_1).toNat * 3)).block,(ad105.add ((x7_1).toNat * 3)).off + 2,none⟩ = some (.bool ((rd_T73 l0 x7_1).f2))) (ds := []) #[false,false,false,false,false,false,false,false,false,false,false,false,false,false] (by kernel_rfl) rfl rfl ⟨hx104_0,((HB.out.cell (World.block_lt_of_cell? w _ hw105_0)).trans hw105_0),((HB.out.cell (World.block_lt_of_cell? w _ hw105_1)).trans hw105_1),((HB.out.cell (World.block_lt_of_cell? w _ hw105_2)).trans hw105_2),((HB.out.cell (World.block_lt_of_cell? w _ hw106_0)).trans hw106_0),((HB.out.cell (World.block_lt_of_cell? w _ hw106_1)).trans hw106_1),((HB.out.cell (World.block_lt_of_cell? w _ hw106_2)).trans hw106_2)⟩ (fun hHeld => ?_);refine with_tabW spec_l07Up.tab9 spec_l07Up.bits9 (fun HT_ HW_ => ?_);generalize wr.drew = w16 at HO_6 HB hx104_0 hx105_0 hx105_1 hx105_2 hx106_0 hx106_1 hx106_2 hHeld ⊢;refine pure_ (i := 0) (N := some 22) (v := ?_) (a' := ?_) #[true,false,false,false,false,false,false,false,false,false,false,false,false,false] rfl rfl (any_of HT_.out (by kernel_rfl)) (fun _ _ _ h => h) (Or.inl ⟨by rfl,?_⟩) ?_ ?_;rotate_left
             ·intro w';go_simp;with_reducible rfl
             rotate_left
             ·simp only [Act.put,List.setIfInBounds_toArray,List.set_cons_zero,List.set_cons_succ,i64_w,i32_w];rfl
             refine pure_ (i := 1) (N := some 23) (v := ?_) (a' := ?_) #[true,true,false,false,false,false,false,false,false,false,false,false,false,false] rfl rfl (any_of HT_.out (by kernel_rfl)) (fun _ _ _ h => h) (Or.inl ⟨by rfl,?_⟩) ?_ ?_;rotate_left
             ·intro w';go_simp;with_reducible rfl
             rotate_left
             ·simp only [Act.put,List.setIfInBounds_toArray,List.set_cons_zero,List.set_cons_succ,i64_w,i32_w];rfl
             refine pure_ (i := 2) (N := some 24) (v := ?_) (a' := ?_) #[true,true,true,false,false,false,false,false,false,false,false,false,false,false] rfl rfl (any_of HT_.out (by kernel_rfl)) (fun _ _ _ h => h) (Or.inl ⟨by rfl,?_⟩) ?_ ?_;rotate_left
             ·intro w';go_simp;with_reducible rfl
             rotate_left
             ·simp only [Act.put,List.setIfInBounds_toArray,List.set_cons_zero,List.set_cons_succ,i64_w,i32_w];rfl
             refine pure_ (i := 3) (N := some 25) (v := ?_) (a' := ?_) #[true,true,true,true,false,false,false,false,false,false,false,false,false,false] rfl rfl (any_of HT_.out (by kernel_rfl)) (fun _ _ _ h => h) (Or.inl ⟨by rfl,?_⟩) ?_ ?_;rotate_left
             ·intro w';go_simp;with_reducible rfl
             rotate_left
             ·simp only [Act.put,List.setIfInBounds_toArray,List.set_cons_zero,List.set_cons_succ,i64_w,i32_w];rfl
             refine pure_ (i := 8) (N := some 30) (v := ?_) (a' := ?_) #[true,true,true,true,false,false,false,false,true,false,false,false,false,false] rfl rfl (any_of HT_.out (by kernel_rfl)) (fun _ _ _ h => h) (Or.inl ⟨by rfl,?_⟩) ?_ ?_;rotate_left
             ·intro w';go_simp;with_reducible rfl
             rotate_left
             ·simp only [Act.put,List.setIfInBounds_toArray,List.set_cons_zero,List.set_cons_succ,i64_w,i32_w];rfl
             refine pure_ (i := 9) (N := some 31) (v := ?_) (a' := ?_) #[true,true,true,true,false,false,false,false,true,true,false,false,false,false] rfl rfl (any_of HT_.out (by kernel_rfl)) (fun _ _ _ h => h) (Or.inl ⟨by rfl,?_⟩) ?_ ?_;rotate_left
             ·intro w';go_simp;with_reducible rfl
             rotate_left
             ·simp only [Act.put,List.setIfInBounds_toArray,List.set_cons_zero,List.set_cons_succ,i64_w,i32_w];rfl
             refine pure_ (i := 10) (N := some 32) (v := ?_) (a' := ?_) #[true,true,true,true,false,false,false,false,true,true,true,false,false,false] rfl rfl (any_of HT_.out (by kernel_rfl)) (fun _ _ _ h => h) (Or.inl ⟨by rfl,?_⟩) ?_ ?_;rotate_left
             ·intro w';go_simp;with_reducible rfl
             rotate_left
             ·simp only [Act.put,List.setIfInBounds_toArray,List.set_cons_zero,List.set_cons_succ,i64_w,i32_w];rfl
             refine pure_ (i := 11) (N := some 33) (v := ?_) (a' := ?_) #[true,true,true,true,false,false,false,false,true,true,true,true,false,false] rfl rfl (any_of HT_.out (by kernel_rfl)) (fun _ _ _ h => h) (Or.inl ⟨by rfl,?_⟩) ?_ ?_;rotate_left
             ·intro w';go_simp;with_reducible rfl
             rotate_left
             ·simp only [Act.put,List.setIfInBounds_toArray,List.set_cons_zero,List.set_cons_succ,i64_w,i32_w];rfl
             refine take_ (i := 4) (N := some 26) (v := ?_) (a' := ?_) #[true,true,true,true,true,false,false,false,true,true,true,true,false,false] rfl rfl (take_ofW HT_.out HW_.out (by kernel_rfl)) (fun _ _ _ h => h) (Or.inl ⟨by rfl,?_⟩) hHeld ?_ ?_;rotate_left
             ·rintro w' ⟨s0,s1,s2,s3,s4,s5,s6⟩
              go_simp;with_reducible rfl
             rotate_left
             ·simp only [Act.put,List.setIfInBounds_toArray,List.set_cons_zero,List.set_cons_succ,i64_w,i32_w];rfl
             refine pure_ (i := 5) (N := some 27) (v := ?_) (a' := ?_) #[true,true,true,true,true,true,false,false,true,true,true,true,false,false] rfl rfl (any_of HT_.out (by kernel_rfl)) (fun _ _ _ h => h) (Or.inl ⟨by rfl,?_⟩) ?_ ?_;rotate_left
             ·intro w';go_simp;with_reducible rfl
             rotate_left
             ·simp only [Act.put,List.setIfInBounds_toArray,List.set_cons_zero,List.set_cons_succ,i64_w,i32_w];rfl
             refine pure_ (i := 6) (N := some 28) (v := ?_) (a' := ?_) #[true,true,true,true,true,true,true,false,true,true,true,true,false,false] rfl rfl (any_of HT_.out (by kernel_rfl)) (fun _ _ _ h => h) (Or.inl ⟨by rfl,?_⟩) ?_ ?_;rotate_left
             ·intro w';go_simp;with_reducible rfl
             rotate_left
             ·simp only [Act.put,List.setIfInBounds_toArray,List.set_cons_zero,List.set_cons_succ,i64_w,i32_w];rfl
             refine take_ (i := 7) (N := some 29) (v := ?_) (a' := ?_) #[true,true,true,true,true,true,true,true,true,true,true,true,false,false] rfl rfl (take_ofW HT_.out HW_.out (by kernel_rfl)) (fun _ _ _ h => h) (Or.inl ⟨by rfl,?_⟩) hHeld ?_ ?_;rotate_left
             ·rintro w' ⟨s0,s1,s2,s3,s4,s5,s6⟩
              go_simp;with_reducible rfl
             rotate_left
             ·simp only [Act.put,List.setIfInBounds_toArray,List.set_cons_zero,List.set_cons_succ,i64_w,i32_w];rfl
             refine take_ (i := 12) (N := some 34) (v := ?_) (a' := ?_) #[true,true,true,true,true,true,true,true,true,true,true,true,true,false] rfl rfl (take_ofW HT_.out HW_.out (by kernel_rfl)) (fun _ _ _ h => h) (Or.inl ⟨by rfl,?_⟩) hHeld ?_ ?_;rotate_left
             ·rintro w' ⟨s0,s1,s2,s3,s4,s5,s6⟩
              go_simp;with_reducible rfl
             rotate_left
             ·simp only [Act.put,List.setIfInBounds_toArray,List.set_cons_zero,List.set_cons_succ,i64_w,i32_w];rfl
             refine pure_ (i := 13) (N := some 35) (v := ?_) (a' := ?_) #[true,true,true,true,true,true,true,true,true,true,true,true,true,true] rfl rfl (any_of HT_.out (by kernel_rfl)) (fun _ _ _ h => h) (Or.inl ⟨by rfl,?_⟩) ?_ ?_;rotate_left
             ·intro w';go_simp;with_reducible rfl
             rotate_left
             ·simp only [Act.put,List.setIfInBounds_toArray,List.set_cons_zero,List.set_cons_succ,i64_w,i32_w];rfl
             refine done_ (done_of HT_.out (by kernel_rfl)) ?_;(try go_wp2)
             go_roundg k2
             case measure => have := HK1.out;have := HK2.out;omega
             case rel => exact ⟨(x8_2),(wrap64 (x9_2 + 1)),(by first | rfl | (simp only [IntKind.wrap_i64,wrap64];done) | (simp;done) | (simp [*];done)),(by first | rfl | (simp only [IntKind.wrap_i64,wrap64];done) | (simp;done) | (simp [*];done)),H',⟨by have := HK1.out;have := HK2.out;omega⟩,⟨by (with_reducible repeat (first | apply Kd.R_alloc | apply Kd.R_drewN | apply Kd.R_drew));exact HO_6.out⟩,⟨by repeat (first | (with_reducible first | exact HB.out | apply below_alloc | apply pw_below_drewN | apply below_drew1) | exact HB.out)⟩⟩
           ·rw [if_neg c11] at H;exact absurd H (by simp)
          ·rw [if_neg c10] at H;exact absurd H (by simp)
         ·rw [if_neg c9] at H;exact absurd H (by simp)
        ·rw [if_neg c8] at H;exact absurd H (by simp)
       ·rw [if_neg c7] at H;exact absurd H (by simp)
      ·rw [if_neg c6] at H;have c6b0 : decide (x9_2 < (x6_1.length : Int)) = false := decide_eq_false c6;clear c6
       by_cases c17 : 0 ≤ x7_1
       ·rw [if_pos c17] at H;have c17b0 : decide (0 ≤ x7_1) = true := decide_eq_true c17;clear c17
        by_cases c18 : x7_1 < (l0.length : Int)
        ·rw [if_pos c18] at H;have c18b0 : decide (x7_1 < (l0.length : Int)) = true := decide_eq_true c18;clear c18
         by_cases c19 : (((rd_T73 l0 x7_1).f2) != (decide (x8_2 ≥ 0))) = true
         ·rw [if_pos c19] at H;have c19b0 : (((rd_T73 l0 x7_1).f2) != (decide (x8_2 ≥ 0))) = true := c19;(try (have c19b1 : decide (((rd_T73 l0 x7_1).f2) = (decide (x8_2 ≥ 0))) = false := by simpa using c19));(try (have c19b2 : (((rd_T73 l0 x7_1).f2) == (decide (x8_2 ≥ 0))) = false := by simpa using c19));(try (have c19b3 : ¬ (((rd_T73 l0 x7_1).f2) = (decide (x8_2 ≥ 0))) := by simpa using c19));clear c19;obtain ⟨y108,hy108⟩ : ∃ y_ : List Int,y_ = (([] : List Int)) := ⟨_,rfl⟩
          replace H : (some (y108,false)) = some (r1,r2) := by first | (rw [hy108];with_reducible exact H) | (have H2_ := (Option.bind_some _ _).symm.trans H;rw [hy108];with_reducible exact H2_) | (have H2_ := (Option.bind_some _ _).symm.trans H;with_reducible exact H2_) | with_reducible exact H | (rw [hy108];exact H) | exact H
          have Ny108 := Aside0.mk hy108;clear hy108;simp only [Option.some.injEq,Prod.mk.injEq] at H;obtain ⟨rfl,rfl⟩ := H;obtain ⟨Ao20,co20,eo20⟩ := Kd.R_slice HO_6.out;subst eo20;have p107 : 0 ≤ (x7_1 : Int) := of_decide_eq_true (by first | (with_reducible assumption) | assumption);have q107 : x7_1 < (l0.length : Int) := of_decide_eq_true (by first | (with_reducible assumption) | assumption);obtain ⟨ad107,e107,hx107_0,hx107_1,hx107_2⟩ := at_T73 HR0.out x7_1 p107 q107;cases e107;replace hx107_0 := (HB.out.cell (World.block_lt_of_cell? w _ hx107_0)).trans hx107_0;replace hx107_1 := (HB.out.cell (World.block_lt_of_cell? w _ hx107_1)).trans hx107_1;replace hx107_2 := (HB.out.cell (World.block_lt_of_cell? w _ hx107_2)).trans hx107_2;replace p107 := eq_true p107;replace q107 := eq_true q107
          go_wp2_with (first | ((with_reducible refine gate_dst (N := 45) rfl ?_);refine Kd.R_lit (Kd.int .i64) _ 3 ?hg (N := 45) ?hd (xs := ([] : List Int)) (inner := []) (ok := fun _ => True) (okp := fun _ => True) ?hr ?hp (fun _ hk => hk) trivial (Below.refl _ _) (Nat.le_refl _) (by simp) ?_;(case hd => rfl);(case hg => rfl);(case hr => first | (go_simp;done) | (go_simp;rfl));(case hp => exact (Reps.none _ _));intro v109 w21 ho22 hb hg_ hnew_;clear hg_ hnew_;(first | rw [← Ny108.out] at ho22 | (simp only [Int.reduceToNat] at ho22;rw [← Ny108.out] at ho22));have n0_ := Aside0.mk (Kd.R_elder' (by (with_reducible repeat (first | apply Kd.R_alloc | apply Kd.R_drewN | apply Kd.R_drew));exact HO_6.out) (Kd.R_base ho22) hb);have n1_ := Aside0.mk (Kd.R_lower (Kd.R_new' ho22 (Kd.R_lt (by (with_reducible repeat (first | apply Kd.R_alloc | apply Kd.R_drewN | apply Kd.R_drew));exact HO_6.out))) (below_size (by repeat (first | (with_reducible first | exact HB.out | apply below_alloc | apply pw_below_drewN | apply below_drew1) | exact HB.out))));have n2_ := Aside0.mk (below_step (by repeat (first | (with_reducible first | exact HB.out | apply below_alloc | apply pw_below_drewN | apply below_drew1) | exact HB.out)) hb);clear HO_6;clear HB;have HO_6 := n0_;have HO110 := n1_;have HB := n2_;clear n0_ n1_ n2_;clear hb ho22))
          go_ret2
          exact ⟨_,by first | rfl | (simp [errW_none,errW_some,IntKind.wrap_i64,wrap64];done) | (simp [errW_none,errW_some] <;> rfl) | (simp [*,errW_none,errW_some] <;> rfl),by (with_reducible repeat (first | apply Kd.R_alloc | apply Kd.R_drewN | apply Kd.R_drew));exact Kd.R_mono HO110.out (fun _ hk => trivial),by repeat (first | (with_reducible first | exact HB.out | apply below_alloc | apply pw_below_drewN | apply below_drew1) | exact HB.out)⟩
         ·rw [if_neg c19] at H
          have c19b0 : (((rd_T73 l0 x7_1).f2) != (decide (x8_2 ≥ 0))) = false := by simpa using c19
          (try (have c19b1 : decide (((rd_T73 l0 x7_1).f2) = (decide (x8_2 ≥ 0))) = true := by simpa using c19));(try (have c19b2 : (((rd_T73 l0 x7_1).f2) == (decide (x8_2 ≥ 0))) = true := by simpa using c19));clear c19
          by_cases c23 : x8_2 < 0
          ·rw [if_pos c23] at H;have c23b0 : decide (x8_2 < 0) = true := decide_eq_true c23
           have c19z : ((rd_T73 l0 x7_1).f2) = false := by have h_ := c19b0;rw [show decide (x8_2 ≥ 0) = false from decide_eq_false (by omega)] at h_;simpa using h_
           have c19y : decide (0 ≤ x8_2) = false := decide_eq_false (by omega);clear c23
           by_cases c24 : x6_1.length < 17592186044416
           ·rw [if_pos c24] at H;have LMc24 := Aside0.mk c24;clear c24;obtain ⟨y111,hy111⟩ : ∃ y_ : List Int,y_ = (x6_1 ++ [x7_1]) := ⟨_,rfl⟩
            replace H : (spec_l07Up.l0 k2 l0 a1 y111 (wrap64 (x7_1 + 1))) = some (r1,r2) := by first | (rw [hy111];with_reducible exact H) | (have H2_ := (Option.bind_some _ _).symm.trans H;rw [hy111];with_reducible exact H2_) | (have H2_ := (Option.bind_some _ _).symm.trans H;with_reducible exact H2_) | with_reducible exact H | (rw [hy111];exact H) | exact H
            have Ny111 := Aside0.mk hy111;clear hy111;have H' := Aside0.mk H;clear H;obtain ⟨Ao25,co25,eo25⟩ := Kd.R_slice HO_6.out;subst eo25;have p107 : 0 ≤ (x7_1 : Int) := of_decide_eq_true (by first | (with_reducible assumption) | assumption);have q107 : x7_1 < (l0.length : Int) := of_decide_eq_true (by first | (with_reducible assumption) | assumption);obtain ⟨ad107,e107,hx107_0,hx107_1,hx107_2⟩ := at_T73 HR0.out x7_1 p107 q107;cases e107;replace hx107_0 := (HB.out.cell (World.block_lt_of_cell? w _ hx107_0)).trans hx107_0;replace hx107_1 := (HB.out.cell (World.block_lt_of_cell? w _ hx107_1)).trans hx107_1;replace hx107_2 := (HB.out.cell (World.block_lt_of_cell? w _ hx107_2)).trans hx107_2;replace p107 := eq_true p107;replace q107 := eq_true q107
            go_wp2_with (first | ((with_reducible refine gate_builtin (b := .append) (xs := #[.tmp 48,.tmp 50]) rfl ?_);at_builtin;refine Kd.R_append (Kd.int .i64) (w0 := w) w.heap.size rfl (.tmp 48) (.tmp 50) 77 3 (.int .i64 0) 8 rfl Try.underlying77 info3 rfl (by decide) (by omega) (.slice Ao25 x6_1.length co25) x6_1 x7_1 [.int .i64 x7_1] (fun _ => True) (fun _ => False) rfl rfl ?aP (fun _ hk => hk.elim) ?aF ?aO ?aB ?aS ?aL ?_;(case aP => exact rfl);(case aB => exact (by repeat (first | (with_reducible first | exact HB.out | apply below_alloc | apply pw_below_drewN | apply below_drew1) | exact HB.out)));(case aF => exact (fun _ _ => trivial));(case aO => exact (by (with_reducible repeat (first | apply Kd.R_alloc | apply Kd.R_drewN | apply Kd.R_drew));exact HO_6.out));(case aS => exact (below_size (by repeat (first | (with_reducible first | exact HB.out | apply below_alloc | apply pw_below_drewN | apply below_drew1) | exact HB.out))));(case aL => have := LMc24.out;omega);intro v112 w26 ho hb hg hat;rw [← Ny111.out] at ho;have n0_ := Aside0.mk (hb);have n1_ := Aside0.mk (ho);clear HB;clear HO_6;have HB := n0_;have HO113 := n1_;clear n0_ n1_;clear ho hb hg hat))
            go_roundg k2
            case measure => have := HK1.out;have := HK2.out;omega
            case rel => exact ⟨(y111),(wrap64 (x7_1 + 1)),(by first | rfl | (simp only [IntKind.wrap_i64,wrap64];done) | (simp;done) | (simp [*];done)),H',⟨by have := HK1.out;have := HK2.out;omega⟩,⟨by (with_reducible repeat (first | apply Kd.R_alloc | apply Kd.R_drewN | apply Kd.R_drew));exact HO113.out⟩,⟨by repeat (first | (with_reducible first | exact HB.out | apply below_alloc | apply pw_below_drewN | apply below_drew1) | exact HB.out)⟩⟩
           ·rw [if_neg c24] at H;exact absurd H (by simp)
          ·rw [if_neg c23] at H;have c23b0 : decide (x8_2 < 0) = false := decide_eq_false c23
           have c19z : (!(rd_T73 l0 x7_1).f2) = false := by have h_ := c19b0;rw [show decide (x8_2 ≥ 0) = true from decide_eq_true (by omega)] at h_;simpa using h_
           have c19y : decide (0 ≤ x8_2) = true := decide_eq_true (by omega);clear c23;obtain ⟨y114,hy114⟩ : ∃ y_ : List Int,y_ = (([] : List Int)) := ⟨_,rfl⟩
           replace H : (if 0 ≤ x8_2 then (if x8_2 ≤ (x6_1.length : Int) then ((some (x6_1.take (x8_2 : Int).toNat : List Int)).bind fun y117 => (if y114.length + y117.length < 17592186044416 then ((some (y114 ++ y117 : List Int)).bind fun y121 => (if 0 ≤ (wrap64 (x8_2 + 1)) then (if (wrap64 (x8_2 + 1)) ≤ (x6_1.length : Int) then ((some (x6_1.drop ((wrap64 (x8_2 + 1)) : Int).toNat : List Int)).bind fun y124 => (if y121.length + y124.length < 17592186044416 then (spec_l07Up.l0 k2 l0 a1 (y121 ++ y124) (wrap64 (x7_1 + 1))) else (none))) else (none)) else (none))) else (none))) else (none)) else (none)) = some (r1,r2) := by first | (rw [hy114];with_reducible exact H) | (have H2_ := (Option.bind_some _ _).symm.trans H;rw [hy114];with_reducible exact H2_) | (have H2_ := (Option.bind_some _ _).symm.trans H;with_reducible exact H2_) | with_reducible exact H | (rw [hy114];exact H) | exact H
           have Ny114 := Aside0.mk hy114;clear hy114
           by_cases c27 : 0 ≤ x8_2
           ·rw [if_pos c27] at H;have c27b0 := eq_true c27;have c27b1 : decide (0 ≤ x8_2) = true := decide_eq_true c27;clear c27
            by_cases c28 : x8_2 ≤ (x6_1.length : Int)
            ·rw [if_pos c28] at H;have c28b0 := eq_true c28;have c28b1 : decide (x8_2 ≤ (x6_1.length : Int)) = true := decide_eq_true c28;clear c28;obtain ⟨y117,hy117⟩ : ∃ y_ : List Int,y_ = (x6_1.take (x8_2 : Int).toNat) := ⟨_,rfl⟩
             replace H : (if y114.length + y117.length < 17592186044416 then ((some (y114 ++ y117 : List Int)).bind fun y121 => (if 0 ≤ (wrap64 (x8_2 + 1)) then (if (wrap64 (x8_2 + 1)) ≤ (x6_1.length : Int) then ((some (x6_1.drop ((wrap64 (x8_2 + 1)) : Int).toNat : List Int)).bind fun y124 => (if y121.length + y124.length < 17592186044416 then (spec_l07Up.l0 k2 l0 a1 (y121 ++ y124) (wrap64 (x7_1 + 1))) else (none))) else (none)) else (none))) else (none)) = some (r1,r2) := by first | (rw [hy117];with_reducible exact H) | (have H2_ := (Option.bind_some _ _).symm.trans H;rw [hy117];with_reducible exact H2_) | (have H2_ := (Option.bind_some _ _).symm.trans H;with_reducible exact H2_) | with_reducible exact H | (rw [hy117];exact H) | exact H
             have Ny117 := Aside0.mk hy117;clear hy117
             by_cases c29 : y114.length + y117.length < 17592186044416
             ·rw [if_pos c29] at H;have LMc29 := Aside0.mk c29;clear c29;obtain ⟨y121,hy121⟩ : ∃ y_ : List Int,y_ = (y114 ++ y117) := ⟨_,rfl⟩
              replace H : (if 0 ≤ (wrap64 (x8_2 + 1)) then (if (wrap64 (x8_2 + 1)) ≤ (x6_1.length : Int) then ((some (x6_1.drop ((wrap64 (x8_2 + 1)) : Int).toNat : List Int)).bind fun y124 => (if y121.length + y124.length < 17592186044416 then (spec_l07Up.l0 k2 l0 a1 (y121 ++ y124) (wrap64 (x7_1 + 1))) else (none))) else (none)) else (none)) = some (r1,r2) := by first | (rw [hy121];with_reducible exact H) | (have H2_ := (Option.bind_some _ _).symm.trans H;rw [hy121];with_reducible exact H2_) | (have H2_ := (Option.bind_some _ _).symm.trans H;with_reducible exact H2_) | with_reducible exact H | (rw [hy121];exact H) | exact H
              have Ny121 := Aside0.mk hy121;clear hy121;obtain ⟨ji30,hji30⟩ : ∃ j_ : Int,(wrap64 (x8_2 + 1)) = j_ := ⟨_,rfl⟩
              replace H : (if 0 ≤ (ji30) then (if (ji30) ≤ (x6_1.length : Int) then ((some (x6_1.drop ((ji30) : Int).toNat : List Int)).bind fun y124 => (if y121.length + y124.length < 17592186044416 then (spec_l07Up.l0 k2 l0 a1 (y121 ++ y124) (wrap64 (x7_1 + 1))) else (none))) else (none)) else (none)) = some (r1,r2) := by first | (rw [hji30] at H;exact H) | (simp only [hji30] at H ⊢;exact H)
              have hji30w : (IntKind.i64.wrap (x8_2 + 1)) = ji30 := (i64_w _).trans hji30
              by_cases c31 : 0 ≤ (ji30)
              ·rw [if_pos c31] at H;have c31b0 := eq_true c31;have c31b1 : decide (0 ≤ (ji30)) = true := decide_eq_true c31;clear c31
               by_cases c32 : (ji30) ≤ (x6_1.length : Int)
               ·rw [if_pos c32] at H;have c32b0 := eq_true c32;have c32b1 : decide ((ji30) ≤ (x6_1.length : Int)) = true := decide_eq_true c32;clear c32;obtain ⟨y124,hy124⟩ : ∃ y_ : List Int,y_ = (x6_1.drop ((ji30) : Int).toNat) := ⟨_,rfl⟩
                replace H : (if y121.length + y124.length < 17592186044416 then (spec_l07Up.l0 k2 l0 a1 (y121 ++ y124) (wrap64 (x7_1 + 1))) else (none)) = some (r1,r2) := by first | (rw [hy124];with_reducible exact H) | (have H2_ := (Option.bind_some _ _).symm.trans H;rw [hy124];with_reducible exact H2_) | (have H2_ := (Option.bind_some _ _).symm.trans H;with_reducible exact H2_) | with_reducible exact H | (rw [hy124];exact H) | exact H
                have Ny124 := Aside0.mk hy124;clear hy124
                by_cases c33 : y121.length + y124.length < 17592186044416
                ·rw [if_pos c33] at H;have LMc33 := Aside0.mk c33;clear c33;obtain ⟨y128,hy128⟩ : ∃ y_ : List Int,y_ = (y121 ++ y124) := ⟨_,rfl⟩
                 replace H : (spec_l07Up.l0 k2 l0 a1 y128 (wrap64 (x7_1 + 1))) = some (r1,r2) := by first | (rw [hy128];with_reducible exact H) | (have H2_ := (Option.bind_some _ _).symm.trans H;rw [hy128];with_reducible exact H2_) | (have H2_ := (Option.bind_some _ _).symm.trans H;with_reducible exact H2_) | with_reducible exact H | (rw [hy128];exact H) | exact H
                 have Ny128 := Aside0.mk hy128;clear hy128;have H' := Aside0.mk H;clear H;obtain ⟨Ao34,co34,eo34⟩ := Kd.R_slice HO_6.out;subst eo34;have p107 : 0 ≤ (x7_1 : Int) := of_decide_eq_true (by first | (with_reducible assumption) | assumption);have q107 : x7_1 < (l0.length : Int) := of_decide_eq_true (by first | (with_reducible assumption) | assumption);obtain ⟨ad107,e107,hx107_0,hx107_1,hx107_2⟩ := at_T73 HR0.out x7_1 p107 q107;cases e107;replace hx107_0 := (HB.out.cell (World.block_lt_of_cell? w _ hx107_0)).trans hx107_0;replace hx107_1 := (HB.out.cell (World.block_lt_of_cell? w _ hx107_1)).trans hx107_1;replace hx107_2 := (HB.out.cell (World.block_lt_of_cell? w _ hx107_2)).trans hx107_2;replace p107 := eq_true p107;replace q107 := eq_true q107;(try go_wp2);have n0_ := Aside0.mk (Kd.R_drew HO_6.out);have n1_ := Aside0.mk (below_drew1 HB.out);clear HO_6;clear HB;have HO_6 := n0_;have HB := n1_;clear n0_ n1_;have q36 : (x8_2 : Int) ≤ ((x6_1.length : Int) : Int) := of_decide_eq_true (by first | (with_reducible assumption) | assumption);obtain ⟨i036,hi036,_,hsz36,_⟩ := info_parts info3;have hroom36 : x6_1.length ≤ co34 := (Kd.R_reads' HO_6.out).2.1;have hC36 : Kd.C (Kd.int .i64) _ Ao34 x6_1.length x6_1 := (Kd.R_reads' HO_6.out).2.2;have hcut36 := cut_to (P := Try.prog) 77 3 .i64 Try.underlying77 hi036 Ao34 x6_1.length co34 x8_2 (of_decide_eq_true (by first | (with_reducible assumption) | assumption)) q36 hroom36;have hr36 := Kd.C_take (m := (x8_2 : Int).toNat) hC36 (by omega);have hy36 : y117.length = (x8_2 : Int).toNat := (by rw [Ny117.out,List.length_take];omega);rw [← Ny117.out] at hr36;rw [← hy36] at hcut36;have HR120 := Aside0.mk hr36;have HC120 := Aside0.mk (show y117.length ≤ co34 from by omega);clear hr36 hC36 hroom36 hi036 hsz36;have KY36 := Aside0.mk hy36;clear hy36;have KL36 := Aside0.mk (show (x8_2 : Int).toNat ≤ x6_1.length from by omega);replace q36 := eq_true q36;have q37 : ((ji30) : Int) ≤ ((x6_1.length : Int) : Int) := of_decide_eq_true (by first | (with_reducible assumption) | assumption);obtain ⟨i037,hi037,_,hsz37,_⟩ := info_parts info3;have hroom37 : x6_1.length ≤ co34 := (Kd.R_reads' HO_6.out).2.1;have hC37 : Kd.C (Kd.int .i64) _ Ao34 x6_1.length x6_1 := (Kd.R_reads' HO_6.out).2.2;have q037 : (0 : Int) ≤ ((ji30) : Int) := of_decide_eq_true (by first | (with_reducible assumption) | assumption);have hcut37 := cut_from (P := Try.prog) 77 3 .i64 Try.underlying77 hi037 1 hsz37 Ao34 x6_1.length co34 (ji30) q037 q37;have hr37 := Kd.C_drop (m := ((ji30) : Int).toNat) (c := co34) hC37 (by omega) hroom37;obtain ⟨A37,hA37⟩ : ∃ A1,A1 = (if co34 = ((ji30) : Int).toNat then Ao34 else (Ao34 : Option Addr).map (·.add (((ji30) : Int).toNat * 1))) := ⟨_,rfl⟩;obtain ⟨c37,hc37⟩ : ∃ c1,c1 = co34 - ((ji30) : Int).toNat := ⟨_,rfl⟩;have hy37 : y124.length = x6_1.length - ((ji30) : Int).toNat := (by rw [Ny124.out,List.length_drop] <;> omega);rw [show (x6_1).drop ((ji30) : Int).toNat = y124 from Ny124.out.symm] at hr37;replace hr37 : Kd.C (Kd.int .i64) _ A37 y124.length y124 := (by rw [hA37];exact hr37);rw [← hy37,← hA37,← hc37] at hcut37;have HR127 := Aside0.mk hr37;have HC127 := Aside0.mk (show y124.length ≤ c37 from by rw [hy37,hc37];exact Nat.sub_le_sub_right hroom37 _);clear hr37 hC37 hroom37 hi037 hsz37 hc37;have KY37 := Aside0.mk hy37;have KA37 := Aside0.mk hA37;clear hy37 hA37;have KL37 := Aside0.mk (show ((ji30) : Int).toNat ≤ x6_1.length from by omega);replace q37 := eq_true q37;refine start_ (n := 11) (S := fun w' => True) (ds := []) #[false,false,false,false,false,false,false,false,false,false,false] (by kernel_rfl) rfl rfl trivial (fun hHeld => ?_);refine with_tabW spec_l07Up.tab15 spec_l07Up.bits15 (fun HT_ HW_ => ?_);generalize wr.drew = w35 at HO_6 HB HR120 HR127 hHeld ⊢;refine pure_ (i := 1) (N := some 53) (v := ?_) (a' := ?_) #[false,true,false,false,false,false,false,false,false,false,false] rfl rfl (any_of HT_.out (by kernel_rfl)) (fun _ _ _ h => h) (Or.inl ⟨by rfl,?_⟩) ?_ ?_;rotate_left
                 ·intro w';go_simp;with_reducible rfl
                 rotate_left
                 ·simp only [Act.put,List.setIfInBounds_toArray,List.set_cons_zero,List.set_cons_succ,i64_w,i32_w];rfl
                 refine pure_ (i := 2) (N := some 54) (v := ?_) (a' := ?_) #[false,true,true,false,false,false,false,false,false,false,false] rfl rfl (any_of HT_.out (by kernel_rfl)) (fun _ _ _ h => h) (Or.inl ⟨by rfl,?_⟩) ?_ ?_;rotate_left
                 ·intro w';go_simp;with_reducible rfl
                 rotate_left
                 ·simp only [Act.put,List.setIfInBounds_toArray,List.set_cons_zero,List.set_cons_succ,i64_w,i32_w];rfl
                 refine pure_ (i := 3) (N := some 55) (v := ?_) (a' := ?_) #[false,true,true,true,false,false,false,false,false,false,false] rfl rfl (any_of HT_.out (by kernel_rfl)) (fun _ _ _ h => h) (Or.inl ⟨by rfl,?_⟩) ?_ ?_;rotate_left
                 ·intro w';go_simp;with_reducible rfl
                 rotate_left
                 ·simp only [Act.put,List.setIfInBounds_toArray,List.set_cons_zero,List.set_cons_succ,i64_w,i32_w];rfl
                 refine pure_ (i := 5) (N := some 57) (v := ?_) (a' := ?_) #[false,true,true,true,false,true,false,false,false,false,false] rfl rfl (any_of HT_.out (by kernel_rfl)) (fun _ _ _ h => h) (Or.inl ⟨by rfl,?_⟩) ?_ ?_;rotate_left
                 ·intro w';go_simp;with_reducible rfl
                 rotate_left
                 ·simp only [Act.put,List.setIfInBounds_toArray,List.set_cons_zero,List.set_cons_succ,i64_w,i32_w];rfl
                 refine pure_ (i := 6) (N := some 58) (v := ?_) (a' := ?_) #[false,true,true,true,false,true,true,false,false,false,false] rfl rfl (any_of HT_.out (by kernel_rfl)) (fun _ _ _ h => h) (Or.inl ⟨by rfl,?_⟩) ?_ ?_;rotate_left
                 ·intro w';go_simp;with_reducible rfl
                 rotate_left
                 ·simp only [Act.put,List.setIfInBounds_toArray,List.set_cons_zero,List.set_cons_succ,i64_w,i32_w];rfl
                 refine pure_ (i := 7) (N := some 59) (v := ?_) (a' := ?_) #[false,true,true,true,false,true,true,true,false,false,false] rfl rfl (any_of HT_.out (by kernel_rfl)) (fun _ _ _ h => h) (Or.inl ⟨by rfl,?_⟩) ?_ ?_;rotate_left
                 ·intro w';go_simp;with_reducible rfl
                 rotate_left
                 ·simp only [Act.put,List.setIfInBounds_toArray,List.set_cons_zero,List.set_cons_succ,i64_w,i32_w];rfl
                 refine pure_ (i := 8) (N := some 60) (v := ?_) (a' := ?_) #[false,true,true,true,false,true,true,true,true,false,false] rfl rfl (any_of HT_.out (by kernel_rfl)) (fun _ _ _ h => h) (Or.inl ⟨by rfl,?_⟩) ?_ ?_;rotate_left
                 ·intro w';go_simp;with_reducible rfl
                 rotate_left
                 ·simp only [Act.put,List.setIfInBounds_toArray,List.set_cons_zero,List.set_cons_succ,i64_w,i32_w];rfl
                 refine one_ (i := 0) (N := some 52) #[true,true,true,true,false,true,true,true,true,false,false] rfl rfl (one_of HT_.out (by kernel_rfl)) (by decide) (fun K hK => ?_);refine Kd.R_lit_step (Kd.int .i64) _ 3 ?hg (N := 52) ?hd (xs := ([] : List Int)) (inner := []) (ok := fun _ => True) (okp := fun _ => True) ?hr ?hp (fun _ hk => hk) trivial (Below.refl _ _) (Nat.le_refl _) (by simp) ?_;(case hd => rfl);(case hg => rfl);(case hr => first | (go_simp;done) | (go_simp;rfl));(case hp => exact (Reps.none _ _));intro v115 w38 ho39 hb hg_ hnew_;clear hg_ hnew_;(first | rw [← Ny114.out] at ho39 | (simp only [Int.reduceToNat] at ho39;rw [← Ny114.out] at ho39));have n0_ := Aside0.mk (Kd.R_elder' (by (with_reducible repeat (first | apply Kd.R_alloc | apply Kd.R_drewN | apply Kd.R_drew));exact HO_6.out) (Kd.R_base ho39) hb);have n1_ := Aside0.mk (Kd.R_lower (Kd.R_new' ho39 (Kd.R_lt (by (with_reducible repeat (first | apply Kd.R_alloc | apply Kd.R_drewN | apply Kd.R_drew));exact HO_6.out))) (below_size (by repeat (first | (with_reducible first | exact HB.out | apply below_alloc | apply pw_below_drewN | apply below_drew1) | exact HB.out))));have n2_ := Aside0.mk (Kd.C_below (by repeat (first | (with_reducible exact HR120.out) | (with_reducible refine Kd.C_alloc ?_ _) | (with_reducible refine Kd.C_drewN ?_ _) | (with_reducible refine Kd.C_drew ?_) | exact HR120.out)) hb);have n3_ := Aside0.mk (Kd.C_below (by repeat (first | (with_reducible exact HR127.out) | (with_reducible refine Kd.C_alloc ?_ _) | (with_reducible refine Kd.C_drewN ?_ _) | (with_reducible refine Kd.C_drew ?_) | exact HR127.out)) hb);have n4_ := Aside0.mk (below_step (by repeat (first | (with_reducible first | exact HB.out | apply below_alloc | apply pw_below_drewN | apply below_drew1) | exact HB.out)) hb);clear HO_6;clear HR120;clear HR127;clear HB;have HO_6 := n0_;have HO116 := n1_;have HR120 := n2_;have HR127 := n3_;have HB := n4_;clear n0_ n1_ n2_ n3_ n4_;clear hb ho39;refine hK.out _ _ trivial (fun hHeld => ?_);clear hK K;refine norm_ (a' := ?_) ?_ ?_;rotate_left
                 ·show Act.put _ (some 52) _ = _
                  simp only [Act.put,List.setIfInBounds_toArray,List.set_cons_zero,List.set_cons_succ,i64_w,i32_w];rfl
                 refine one_ (i := 4) (N := some 56) #[true,true,true,true,true,true,true,true,true,false,false] rfl rfl (one_of HT_.out (by kernel_rfl)) (by decide) (fun K hK => ?_);refine Kd.R_append_rows_step (Kd.int .i64) (w0 := w) w.heap.size (by rfl) (.tmp 52) (.tmp 55) 77 3 (.int .i64 0) 8 rfl Try.underlying77 info3 rfl (by decide) (by omega) v115 y114 y117 _ _ _ (fun k_ => some k_ ≠ (.slice Ao34 x6_1.length co34 : Value).ownBlock) (fun _ => False) rfl rfl ?aO ?aR (fun _ _ h => h) (fun _ h => h.elim) ?aF ?aB ?aS ?aL ?_;(case aR => repeat (first | exact (by repeat (first | (with_reducible exact HR120.out) | (with_reducible refine Kd.C_alloc ?_ _) | (with_reducible refine Kd.C_drewN ?_ _) | (with_reducible refine Kd.C_drew ?_) | exact HR120.out)) | (with_reducible refine Kd.C_alloc ?_ _) | (with_reducible refine Kd.C_drewN ?_ _) | (with_reducible refine Kd.C_drew ?_)));(case aB => exact (by repeat (first | (with_reducible first | exact HB.out | apply below_alloc | apply pw_below_drewN | apply below_drew1) | exact HB.out)));(case aF => exact (fun k_ hk => Kd.fresh' (Kd.R_lt (by (with_reducible repeat (first | apply Kd.R_alloc | apply Kd.R_drewN | apply Kd.R_drew));exact HO_6.out)) k_ hk));(case aO => exact (by (with_reducible repeat (first | apply Kd.R_alloc | apply Kd.R_drewN | apply Kd.R_drew));exact Kd.R_mono HO116.out (fun _ hk => hk.2)));(case aS => exact (below_size (by repeat (first | (with_reducible first | exact HB.out | apply below_alloc | apply pw_below_drewN | apply below_drew1) | exact HB.out))));(case aL => have := LMc29.out;omega);intro v122 w40 ho hb hg hat;rw [← Ny121.out] at ho;have n0_ := Aside0.mk (Kd.R_after (ok := (fun _ => True)) (by (with_reducible repeat (first | apply Kd.R_alloc | apply Kd.R_drewN | apply Kd.R_drew));exact HO_6.out) hg hat);have n1_ := Aside0.mk (hb);have n2_ := Aside0.mk ((show Kd.C (Kd.int .i64) w40 Ao34 y117.length y117 from by rw [Ny117.out];exact Kd.C_take (m := (x8_2 : Int).toNat) ((Kd.R_reads' (Kd.R_after (ok := (fun _ => True)) (by (with_reducible repeat (first | apply Kd.R_alloc | apply Kd.R_drewN | apply Kd.R_drew));exact HO_6.out) hg hat)).2.2) KL36.out));have n3_ := Aside0.mk ((show Kd.C (Kd.int .i64) w40 A37 y124.length y124 from by rw [Ny124.out,KA37.out];exact Kd.C_drop (m := ((ji30) : Int).toNat) (c := co34) ((Kd.R_reads' (Kd.R_after (ok := (fun _ => True)) (by (with_reducible repeat (first | apply Kd.R_alloc | apply Kd.R_drewN | apply Kd.R_drew));exact HO_6.out) hg hat)).2.2) KL37.out ((Kd.R_reads' (Kd.R_after (ok := (fun _ => True)) (by (with_reducible repeat (first | apply Kd.R_alloc | apply Kd.R_drewN | apply Kd.R_drew));exact HO_6.out) hg hat)).2.1)));have n4_ := Aside0.mk (ho);clear HO_6;clear HB;clear HR120;clear HR127;clear HO116;have HO_6 := n0_;have HB := n1_;have HR120 := n2_;have HR127 := n3_;have HO123 := n4_;clear n0_ n1_ n2_ n3_ n4_;clear ho hb hg hat;refine hK.out _ _ trivial (fun hHeld => ?_);clear hK K;refine norm_ (a' := ?_) ?_ ?_;rotate_left
                 ·show Act.put _ (some 56) _ = _
                  simp only [Act.put,List.setIfInBounds_toArray,List.set_cons_zero,List.set_cons_succ,i64_w,i32_w];rfl
                 refine one_ (i := 9) (N := some 61) #[true,true,true,true,true,true,true,true,true,true,false] rfl rfl (one_of HT_.out (by kernel_rfl)) (by decide) (fun K hK => ?_);refine Kd.R_append_rows_step (Kd.int .i64) (w0 := w) w.heap.size (by rfl) (.tmp 56) (.tmp 60) 77 3 (.int .i64 0) 8 rfl Try.underlying77 info3 rfl (by decide) (by omega) v122 y121 y124 _ _ _ (fun k_ => some k_ ≠ (.slice Ao34 x6_1.length co34 : Value).ownBlock) (fun _ => False) rfl rfl ?aO ?aR (fun _ _ h => h) (fun _ h => h.elim) ?aF ?aB ?aS ?aL ?_;(case aR => repeat (first | exact (by repeat (first | (with_reducible exact HR127.out) | (with_reducible refine Kd.C_alloc ?_ _) | (with_reducible refine Kd.C_drewN ?_ _) | (with_reducible refine Kd.C_drew ?_) | exact HR127.out)) | (with_reducible refine Kd.C_alloc ?_ _) | (with_reducible refine Kd.C_drewN ?_ _) | (with_reducible refine Kd.C_drew ?_)));(case aB => exact (by repeat (first | (with_reducible first | exact HB.out | apply below_alloc | apply pw_below_drewN | apply below_drew1) | exact HB.out)));(case aF => exact (fun k_ hk => Kd.fresh' (Kd.R_lt (by (with_reducible repeat (first | apply Kd.R_alloc | apply Kd.R_drewN | apply Kd.R_drew));exact HO_6.out)) k_ hk));(case aO => exact (by (with_reducible repeat (first | apply Kd.R_alloc | apply Kd.R_drewN | apply Kd.R_drew));exact HO123.out));(case aS => exact (below_size (by repeat (first | (with_reducible first | exact HB.out | apply below_alloc | apply pw_below_drewN | apply below_drew1) | exact HB.out))));(case aL => have := LMc33.out;omega);intro v129 w41 ho hb hg hat;rw [← Ny128.out] at ho;have n0_ := Aside0.mk (Kd.R_after (ok := (fun _ => True)) (by (with_reducible repeat (first | apply Kd.R_alloc | apply Kd.R_drewN | apply Kd.R_drew));exact HO_6.out) hg hat);have n1_ := Aside0.mk (hb);have n2_ := Aside0.mk ((show Kd.C (Kd.int .i64) w41 Ao34 y117.length y117 from by rw [Ny117.out];exact Kd.C_take (m := (x8_2 : Int).toNat) ((Kd.R_reads' (Kd.R_after (ok := (fun _ => True)) (by (with_reducible repeat (first | apply Kd.R_alloc | apply Kd.R_drewN | apply Kd.R_drew));exact HO_6.out) hg hat)).2.2) KL36.out));have n3_ := Aside0.mk ((show Kd.C (Kd.int .i64) w41 A37 y124.length y124 from by rw [Ny124.out,KA37.out];exact Kd.C_drop (m := ((ji30) : Int).toNat) (c := co34) ((Kd.R_reads' (Kd.R_after (ok := (fun _ => True)) (by (with_reducible repeat (first | apply Kd.R_alloc | apply Kd.R_drewN | apply Kd.R_drew));exact HO_6.out) hg hat)).2.2) KL37.out ((Kd.R_reads' (Kd.R_after (ok := (fun _ => True)) (by (with_reducible repeat (first | apply Kd.R_alloc | apply Kd.R_drewN | apply Kd.R_drew));exact HO_6.out) hg hat)).2.1)));have n4_ := Aside0.mk (ho);clear HO_6;clear HB;clear HR120;clear HR127;clear HO123;have HO_6 := n0_;have HB := n1_;have HR120 := n2_;have HR127 := n3_;have HO130 := n4_;clear n0_ n1_ n2_ n3_ n4_;clear ho hb hg hat;refine hK.out _ _ trivial (fun hHeld => ?_);clear hK K;refine norm_ (a' := ?_) ?_ ?_;rotate_left
                 ·show Act.put _ (some 61) _ = _
                  simp only [Act.put,List.setIfInBounds_toArray,List.set_cons_zero,List.set_cons_succ,i64_w,i32_w];rfl
                 refine pure_ (i := 10) (N := some 6) (v := ?_) (a' := ?_) #[true,true,true,true,true,true,true,true,true,true,true] rfl rfl (any_of HT_.out (by kernel_rfl)) (fun _ _ _ h => h) (Or.inl ⟨by rfl,?_⟩) ?_ ?_;rotate_left
                 ·intro w';go_simp;with_reducible rfl
                 rotate_left
                 ·simp only [Act.put,List.setIfInBounds_toArray,List.set_cons_zero,List.set_cons_succ,i64_w,i32_w];rfl
                 refine done_ (done_of HT_.out (by kernel_rfl)) ?_;(try go_wp2)
                 go_roundg k2
                 case measure => have := HK1.out;have := HK2.out;omega
                 case rel => exact ⟨(y128),(wrap64 (x7_1 + 1)),(by first | rfl | (simp only [IntKind.wrap_i64,wrap64];done) | (simp;done) | (simp [*];done)),H',⟨by have := HK1.out;have := HK2.out;omega⟩,⟨by (with_reducible repeat (first | apply Kd.R_alloc | apply Kd.R_drewN | apply Kd.R_drew));exact Kd.R_mono HO130.out (fun _ hk => trivial)⟩,⟨by repeat (first | (with_reducible first | exact HB.out | apply below_alloc | apply pw_below_drewN | apply below_drew1) | exact HB.out)⟩⟩
                ·rw [if_neg c33] at H;exact absurd H (by simp)
               ·rw [if_neg c32] at H;exact absurd H (by simp)
              ·rw [if_neg c31] at H;exact absurd H (by simp)
             ·rw [if_neg c29] at H;exact absurd H (by simp)
            ·rw [if_neg c28] at H;exact absurd H (by simp)
           ·rw [if_neg c27] at H;exact absurd H (by simp)
        ·rw [if_neg c18] at H;exact absurd H (by simp)
       ·rw [if_neg c17] at H;exact absurd H (by simp)
   ·rw [if_neg c5] at H;have c5b0 : decide (x7_1 < a1) = false := decide_eq_false c5;clear c5;simp only [Option.some.injEq,Prod.mk.injEq] at H;obtain ⟨rfl,rfl⟩ := H
    go_wp2
    go_ret2
    exact ⟨_,by first | rfl | (simp [errW_none,errW_some,IntKind.wrap_i64,wrap64];done) | (simp [errW_none,errW_some] <;> rfl) | (simp [*,errW_none,errW_some] <;> rfl),by (with_reducible repeat (first | apply Kd.R_alloc | apply Kd.R_drewN | apply Kd.R_drew));exact HO_6.out,by repeat (first | (with_reducible first | exact HB.out | apply below_alloc | apply pw_below_drewN | apply below_drew1) | exact HB.out)⟩
end Go.Proofs.Ytidkniacmcbgiaa.G
end
