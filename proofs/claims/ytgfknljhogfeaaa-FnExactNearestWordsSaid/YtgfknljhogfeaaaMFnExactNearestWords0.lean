/- The law's functions, their contracts, and the plain lemmas: texts of this claim, laid together. -/
import Derived.Test.YtgfknljhogfeaaaProg
import Derived.Below
import Derived.Deep.Draws
import Derived.Deep.AppendLies
import Derived.Maps.AppendAt
import Derived.OwnWalk
import Derived.Laws.BytesArg
import Derived.Laws.MakeOwn
import Derived.Laws.OwnMore
import Derived.Deep.OwnRows
import Derived.Tactics
import Derived.Lib.ConvBytes
import Derived.Laws.Slices
import Derived.WalkKit
import Derived.KernelRfl
import Derived.RowKit3
import Derived.Deep.LoopGhost
import Derived.Deep.QuietTactic
import Derived.BigQuiet
import Derived.WideLaws
import Derived.Deep.DeepCutAuto
import Derived.Deep.CutBlock
import Derived.Deep.RegionHeld3
import Derived.Laws.Rows
import Derived.Lib.AppendStr
import Derived.ArgAppend
import Derived.Laws.IdiomCopy
import Derived.OrdersHeld
import Derived.Laws.BitsLemmas
import Derived.RowKit
import Derived.Shelf.Abstract
import Derived.WalkSpells
import Derived.WalkLawsBesides
import Derived.Test.YtgfknljhogfeaaaWWords
import Derived.Test.YtgfknljhogfeaaaWLast
import Derived.Test.YtgfknljhogfeaaaWTab
import Derived.Test.YtgfknljhogfeaaaWFour
import Derived.Test.YtgfknljhogfeaaaWQPut
import Derived.Test.YtgfknljhogfeaaaWApart
import Derived.Test.YtgfknljhogfeaaaWArr
import Derived.Test.YtgfknljhogfeaaaWZeros
import Derived.Test.YtgfknljhogfeaaaWFoot
import Derived.Test.YtgfknljhogfeaaaWKept
import Derived.Test.YtgfknljhogfeaaaWShare
import Derived.Test.YtgfknljhogfeaaaWN
import Derived.Test.YtgfknljhogfeaaaWFootNe
import Derived.Test.YtgfknljhogfeaaaWAt
import Derived.Test.YtgfknljhogfeaaaWEqStruct
import Derived.Test.YtgfknljhogfeaaaWRepsOne
import Derived.Test.YtgfknljhogfeaaaWInv
import Derived.Test.YtgfknljhogfeaaaWInvWords
import Derived.Test.YtgfknljhogfeaaaWGuard
import Derived.Test.YtgfknljhogfeaaaWNEv
import Derived.Test.YtgfknljhogfeaaaWMore
import Derived.Deep.MidRow
import Derived.Laws.CopyOwn
section
namespace Go.Proofs.Ytgfknljhogfeaaa.G
open Go.RowKit Go.Proofs.YtgfknljhogfeaaaW.PrintWords Go.Proofs.YtgfknljhogfeaaaW.PrintLast Go.Proofs.YtgfknljhogfeaaaW.PrintMore
attribute [local go_sem] max2_int min2_int max_two min_two max_three min_three max_four min_four
set_option linter.unusedVariables false
set_option linter.unusedSimpArgs false
def errW : Option Int → Value
  | none => .nilIface
  | some c => .iface 0 (.int .i64 c)
theorem errW_none : errW none = .nilIface := rfl
theorem errW_some (c : Int) : errW (some c) = .iface 0 (.int .i64 c) := rfl
theorem info5 : (Try.prog.info? 5).map (fun i => (i.zero, i.size, i.bytes)) = some (some (.int .u8 0), 1, 1) := by kernel_rfl
theorem info61 : (Try.prog.info? 61).map (fun i => (i.zero, i.size, i.bytes)) = some (some (.agg #[(.int .u8 0), (.int .u8 0), (.int .u8 0), (.int .u8 0), (.int .u8 0), (.int .u8 0)]), 6, 6) := by kernel_rfl
theorem info68 : (Try.prog.info? 68).map (fun i => (i.zero, i.size, i.bytes)) = some (some (.agg #[(.int .u8 0), (.int .u8 0), (.int .u8 0), (.int .u8 0), (.int .u8 0), (.int .u8 0), (.int .u8 0), (.int .u8 0), (.int .u8 0), (.int .u8 0), (.int .u8 0), (.int .u8 0), (.int .u8 0), (.int .u8 0), (.int .u8 0), (.int .u8 0), (.int .u8 0), (.int .u8 0), (.int .u8 0), (.int .u8 0), (.int .u8 0), (.int .u8 0), (.int .u8 0), (.int .u8 0)]), 24, 24) := by kernel_rfl
theorem info79 : (Try.prog.info? 79).map (fun i => (i.zero, i.size, i.bytes)) = some (some (.slice none 0 0), 1, 24) := by kernel_rfl
structure S67 where
  f0 : Int
  f1 : Int
  f2 : Int
  f3 : Int
  f4 : Int
  f5 : Int
  f6 : Int
  f7 : Int
  f8 : Int
  f9 : Int
  f10 : Int
  f11 : Int
  f12 : Int
  f13 : Int
  f14 : Int
  f15 : Int
  f16 : Int
  f17 : Int
  f18 : Int
  f19 : Int
  f20 : Int
  f21 : Int
  f22 : Int
  f23 : Int
def z67 : S67 := ⟨(0 : Int), (0 : Int), (0 : Int), (0 : Int), (0 : Int), (0 : Int), (0 : Int), (0 : Int), (0 : Int), (0 : Int), (0 : Int), (0 : Int), (0 : Int), (0 : Int), (0 : Int), (0 : Int), (0 : Int), (0 : Int), (0 : Int), (0 : Int), (0 : Int), (0 : Int), (0 : Int), (0 : Int)⟩
def k67 : Kd S67 := Kd.iso (Kd.pair (Kd.int .u8) (Kd.pair (Kd.int .u8) (Kd.pair (Kd.int .u8) (Kd.pair (Kd.int .u8) (Kd.pair (Kd.int .u8) (Kd.pair (Kd.int .u8) (Kd.pair (Kd.int .u8) (Kd.pair (Kd.int .u8) (Kd.pair (Kd.int .u8) (Kd.pair (Kd.int .u8) (Kd.pair (Kd.int .u8) (Kd.pair (Kd.int .u8) (Kd.pair (Kd.int .u8) (Kd.pair (Kd.int .u8) (Kd.pair (Kd.int .u8) (Kd.pair (Kd.int .u8) (Kd.pair (Kd.int .u8) (Kd.pair (Kd.int .u8) (Kd.pair (Kd.int .u8) (Kd.pair (Kd.int .u8) (Kd.pair (Kd.int .u8) (Kd.pair (Kd.int .u8) (Kd.pair (Kd.int .u8) (Kd.int .u8)))))))))))))))))))))))) (fun x : S67 => (x.f0, x.f1, x.f2, x.f3, x.f4, x.f5, x.f6, x.f7, x.f8, x.f9, x.f10, x.f11, x.f12, x.f13, x.f14, x.f15, x.f16, x.f17, x.f18, x.f19, x.f20, x.f21, x.f22, x.f23))
theorem k67_open {w : World} {x : S67} {cs : List Value} (h : k67.K w x cs) : cs = [.int .u8 x.f0, .int .u8 x.f1, .int .u8 x.f2, .int .u8 x.f3, .int .u8 x.f4, .int .u8 x.f5, .int .u8 x.f6, .int .u8 x.f7, .int .u8 x.f8, .int .u8 x.f9, .int .u8 x.f10, .int .u8 x.f11, .int .u8 x.f12, .int .u8 x.f13, .int .u8 x.f14, .int .u8 x.f15, .int .u8 x.f16, .int .u8 x.f17, .int .u8 x.f18, .int .u8 x.f19, .int .u8 x.f20, .int .u8 x.f21, .int .u8 x.f22, .int .u8 x.f23] := by
  obtain ⟨_, _, rfl, rfl, ⟨_, _, rfl, rfl, ⟨_, _, rfl, rfl, ⟨_, _, rfl, rfl, ⟨_, _, rfl, rfl, ⟨_, _, rfl, rfl, ⟨_, _, rfl, rfl, ⟨_, _, rfl, rfl, ⟨_, _, rfl, rfl, ⟨_, _, rfl, rfl, ⟨_, _, rfl, rfl, ⟨_, _, rfl, rfl, ⟨_, _, rfl, rfl, ⟨_, _, rfl, rfl, ⟨_, _, rfl, rfl, ⟨_, _, rfl, rfl, ⟨_, _, rfl, rfl, ⟨_, _, rfl, rfl, ⟨_, _, rfl, rfl, ⟨_, _, rfl, rfl, ⟨_, _, rfl, rfl, ⟨_, _, rfl, rfl, ⟨_, _, rfl, rfl, rfl⟩⟩⟩⟩⟩⟩⟩⟩⟩⟩⟩⟩⟩⟩⟩⟩⟩⟩⟩⟩⟩⟩⟩ := h
  exact rfl
def rd_T67 (xs : List S67) (i : Int) : S67 := xs.getD i.toNat z67
def rd_L2 (xs : List (List Int)) (i : Int) : (List Int) := xs.getD i.toNat ([] : List Int)
theorem at_L2 {w : World} {A : Option Addr} {n : Nat} {xs : List (List Int)} (h : Kd.C (Kd.slice 5 (Kd.int .u8)) w A n xs) (i : Int) (h0 : 0 ≤ i) (h1 : i < n) : ∃ ad A0 c0, A = some ad ∧ w.cell? (ad.add i.toNat) = some (.slice A0 (rd_L2 xs i).length c0) ∧ (rd_L2 xs i).length ≤ c0 ∧ (Kd.int .u8).C w A0 (rd_L2 xs i).length (rd_L2 xs i) := by
  obtain ⟨ad, c, e, _, hK, hc0⟩ := Kd.C_get h ([] : List Int) i h0 h1
  have hc : ∀ j u, c[j]? = some u → w.cell? (ad.add (i.toNat * 1 + j)) = some u := hc0
  obtain ⟨A0, c0, rfl, l0, g0⟩ := hK
  exact ⟨ad, A0, c0, e, by have hq := hc 0 _ rfl; rwa [Nat.mul_one, Nat.add_zero] at hq, l0, g0⟩
structure S68 where
  f0 : Int
  f1 : Int
  f2 : Int
  f3 : Int
  f4 : Int
  f5 : Int
  f6 : Int
  f7 : Int
  f8 : Int
  f9 : Int
  f10 : Int
  f11 : Int
  f12 : Int
  f13 : Int
  f14 : Int
  f15 : Int
  f16 : Int
  f17 : Int
  f18 : Int
  f19 : Int
  f20 : Int
  f21 : Int
  f22 : Int
  f23 : Int
def z68 : S68 := ⟨(0 : Int), (0 : Int), (0 : Int), (0 : Int), (0 : Int), (0 : Int), (0 : Int), (0 : Int), (0 : Int), (0 : Int), (0 : Int), (0 : Int), (0 : Int), (0 : Int), (0 : Int), (0 : Int), (0 : Int), (0 : Int), (0 : Int), (0 : Int), (0 : Int), (0 : Int), (0 : Int), (0 : Int)⟩
def k68 : Kd S68 := Kd.iso (Kd.pair (Kd.int .u8) (Kd.pair (Kd.int .u8) (Kd.pair (Kd.int .u8) (Kd.pair (Kd.int .u8) (Kd.pair (Kd.int .u8) (Kd.pair (Kd.int .u8) (Kd.pair (Kd.int .u8) (Kd.pair (Kd.int .u8) (Kd.pair (Kd.int .u8) (Kd.pair (Kd.int .u8) (Kd.pair (Kd.int .u8) (Kd.pair (Kd.int .u8) (Kd.pair (Kd.int .u8) (Kd.pair (Kd.int .u8) (Kd.pair (Kd.int .u8) (Kd.pair (Kd.int .u8) (Kd.pair (Kd.int .u8) (Kd.pair (Kd.int .u8) (Kd.pair (Kd.int .u8) (Kd.pair (Kd.int .u8) (Kd.pair (Kd.int .u8) (Kd.pair (Kd.int .u8) (Kd.pair (Kd.int .u8) (Kd.int .u8)))))))))))))))))))))))) (fun x : S68 => (x.f0, x.f1, x.f2, x.f3, x.f4, x.f5, x.f6, x.f7, x.f8, x.f9, x.f10, x.f11, x.f12, x.f13, x.f14, x.f15, x.f16, x.f17, x.f18, x.f19, x.f20, x.f21, x.f22, x.f23))
theorem k68_open {w : World} {x : S68} {cs : List Value} (h : k68.K w x cs) : cs = [.int .u8 x.f0, .int .u8 x.f1, .int .u8 x.f2, .int .u8 x.f3, .int .u8 x.f4, .int .u8 x.f5, .int .u8 x.f6, .int .u8 x.f7, .int .u8 x.f8, .int .u8 x.f9, .int .u8 x.f10, .int .u8 x.f11, .int .u8 x.f12, .int .u8 x.f13, .int .u8 x.f14, .int .u8 x.f15, .int .u8 x.f16, .int .u8 x.f17, .int .u8 x.f18, .int .u8 x.f19, .int .u8 x.f20, .int .u8 x.f21, .int .u8 x.f22, .int .u8 x.f23] := by
  obtain ⟨_, _, rfl, rfl, ⟨_, _, rfl, rfl, ⟨_, _, rfl, rfl, ⟨_, _, rfl, rfl, ⟨_, _, rfl, rfl, ⟨_, _, rfl, rfl, ⟨_, _, rfl, rfl, ⟨_, _, rfl, rfl, ⟨_, _, rfl, rfl, ⟨_, _, rfl, rfl, ⟨_, _, rfl, rfl, ⟨_, _, rfl, rfl, ⟨_, _, rfl, rfl, ⟨_, _, rfl, rfl, ⟨_, _, rfl, rfl, ⟨_, _, rfl, rfl, ⟨_, _, rfl, rfl, ⟨_, _, rfl, rfl, ⟨_, _, rfl, rfl, ⟨_, _, rfl, rfl, ⟨_, _, rfl, rfl, ⟨_, _, rfl, rfl, ⟨_, _, rfl, rfl, rfl⟩⟩⟩⟩⟩⟩⟩⟩⟩⟩⟩⟩⟩⟩⟩⟩⟩⟩⟩⟩⟩⟩⟩ := h
  exact rfl
theorem k68_mkM (w : World) (base : Nat) (ok : Nat → Prop) (x : S68)  : k68.M w base ok x [.int .u8 x.f0, .int .u8 x.f1, .int .u8 x.f2, .int .u8 x.f3, .int .u8 x.f4, .int .u8 x.f5, .int .u8 x.f6, .int .u8 x.f7, .int .u8 x.f8, .int .u8 x.f9, .int .u8 x.f10, .int .u8 x.f11, .int .u8 x.f12, .int .u8 x.f13, .int .u8 x.f14, .int .u8 x.f15, .int .u8 x.f16, .int .u8 x.f17, .int .u8 x.f18, .int .u8 x.f19, .int .u8 x.f20, .int .u8 x.f21, .int .u8 x.f22, .int .u8 x.f23] := ⟨[.int .u8 x.f0], [.int .u8 x.f1, .int .u8 x.f2, .int .u8 x.f3, .int .u8 x.f4, .int .u8 x.f5, .int .u8 x.f6, .int .u8 x.f7, .int .u8 x.f8, .int .u8 x.f9, .int .u8 x.f10, .int .u8 x.f11, .int .u8 x.f12, .int .u8 x.f13, .int .u8 x.f14, .int .u8 x.f15, .int .u8 x.f16, .int .u8 x.f17, .int .u8 x.f18, .int .u8 x.f19, .int .u8 x.f20, .int .u8 x.f21, .int .u8 x.f22, .int .u8 x.f23], rfl, rfl, ⟨[.int .u8 x.f1], [.int .u8 x.f2, .int .u8 x.f3, .int .u8 x.f4, .int .u8 x.f5, .int .u8 x.f6, .int .u8 x.f7, .int .u8 x.f8, .int .u8 x.f9, .int .u8 x.f10, .int .u8 x.f11, .int .u8 x.f12, .int .u8 x.f13, .int .u8 x.f14, .int .u8 x.f15, .int .u8 x.f16, .int .u8 x.f17, .int .u8 x.f18, .int .u8 x.f19, .int .u8 x.f20, .int .u8 x.f21, .int .u8 x.f22, .int .u8 x.f23], rfl, rfl, ⟨[.int .u8 x.f2], [.int .u8 x.f3, .int .u8 x.f4, .int .u8 x.f5, .int .u8 x.f6, .int .u8 x.f7, .int .u8 x.f8, .int .u8 x.f9, .int .u8 x.f10, .int .u8 x.f11, .int .u8 x.f12, .int .u8 x.f13, .int .u8 x.f14, .int .u8 x.f15, .int .u8 x.f16, .int .u8 x.f17, .int .u8 x.f18, .int .u8 x.f19, .int .u8 x.f20, .int .u8 x.f21, .int .u8 x.f22, .int .u8 x.f23], rfl, rfl, ⟨[.int .u8 x.f3], [.int .u8 x.f4, .int .u8 x.f5, .int .u8 x.f6, .int .u8 x.f7, .int .u8 x.f8, .int .u8 x.f9, .int .u8 x.f10, .int .u8 x.f11, .int .u8 x.f12, .int .u8 x.f13, .int .u8 x.f14, .int .u8 x.f15, .int .u8 x.f16, .int .u8 x.f17, .int .u8 x.f18, .int .u8 x.f19, .int .u8 x.f20, .int .u8 x.f21, .int .u8 x.f22, .int .u8 x.f23], rfl, rfl, ⟨[.int .u8 x.f4], [.int .u8 x.f5, .int .u8 x.f6, .int .u8 x.f7, .int .u8 x.f8, .int .u8 x.f9, .int .u8 x.f10, .int .u8 x.f11, .int .u8 x.f12, .int .u8 x.f13, .int .u8 x.f14, .int .u8 x.f15, .int .u8 x.f16, .int .u8 x.f17, .int .u8 x.f18, .int .u8 x.f19, .int .u8 x.f20, .int .u8 x.f21, .int .u8 x.f22, .int .u8 x.f23], rfl, rfl, ⟨[.int .u8 x.f5], [.int .u8 x.f6, .int .u8 x.f7, .int .u8 x.f8, .int .u8 x.f9, .int .u8 x.f10, .int .u8 x.f11, .int .u8 x.f12, .int .u8 x.f13, .int .u8 x.f14, .int .u8 x.f15, .int .u8 x.f16, .int .u8 x.f17, .int .u8 x.f18, .int .u8 x.f19, .int .u8 x.f20, .int .u8 x.f21, .int .u8 x.f22, .int .u8 x.f23], rfl, rfl, ⟨[.int .u8 x.f6], [.int .u8 x.f7, .int .u8 x.f8, .int .u8 x.f9, .int .u8 x.f10, .int .u8 x.f11, .int .u8 x.f12, .int .u8 x.f13, .int .u8 x.f14, .int .u8 x.f15, .int .u8 x.f16, .int .u8 x.f17, .int .u8 x.f18, .int .u8 x.f19, .int .u8 x.f20, .int .u8 x.f21, .int .u8 x.f22, .int .u8 x.f23], rfl, rfl, ⟨[.int .u8 x.f7], [.int .u8 x.f8, .int .u8 x.f9, .int .u8 x.f10, .int .u8 x.f11, .int .u8 x.f12, .int .u8 x.f13, .int .u8 x.f14, .int .u8 x.f15, .int .u8 x.f16, .int .u8 x.f17, .int .u8 x.f18, .int .u8 x.f19, .int .u8 x.f20, .int .u8 x.f21, .int .u8 x.f22, .int .u8 x.f23], rfl, rfl, ⟨[.int .u8 x.f8], [.int .u8 x.f9, .int .u8 x.f10, .int .u8 x.f11, .int .u8 x.f12, .int .u8 x.f13, .int .u8 x.f14, .int .u8 x.f15, .int .u8 x.f16, .int .u8 x.f17, .int .u8 x.f18, .int .u8 x.f19, .int .u8 x.f20, .int .u8 x.f21, .int .u8 x.f22, .int .u8 x.f23], rfl, rfl, ⟨[.int .u8 x.f9], [.int .u8 x.f10, .int .u8 x.f11, .int .u8 x.f12, .int .u8 x.f13, .int .u8 x.f14, .int .u8 x.f15, .int .u8 x.f16, .int .u8 x.f17, .int .u8 x.f18, .int .u8 x.f19, .int .u8 x.f20, .int .u8 x.f21, .int .u8 x.f22, .int .u8 x.f23], rfl, rfl, ⟨[.int .u8 x.f10], [.int .u8 x.f11, .int .u8 x.f12, .int .u8 x.f13, .int .u8 x.f14, .int .u8 x.f15, .int .u8 x.f16, .int .u8 x.f17, .int .u8 x.f18, .int .u8 x.f19, .int .u8 x.f20, .int .u8 x.f21, .int .u8 x.f22, .int .u8 x.f23], rfl, rfl, ⟨[.int .u8 x.f11], [.int .u8 x.f12, .int .u8 x.f13, .int .u8 x.f14, .int .u8 x.f15, .int .u8 x.f16, .int .u8 x.f17, .int .u8 x.f18, .int .u8 x.f19, .int .u8 x.f20, .int .u8 x.f21, .int .u8 x.f22, .int .u8 x.f23], rfl, rfl, ⟨[.int .u8 x.f12], [.int .u8 x.f13, .int .u8 x.f14, .int .u8 x.f15, .int .u8 x.f16, .int .u8 x.f17, .int .u8 x.f18, .int .u8 x.f19, .int .u8 x.f20, .int .u8 x.f21, .int .u8 x.f22, .int .u8 x.f23], rfl, rfl, ⟨[.int .u8 x.f13], [.int .u8 x.f14, .int .u8 x.f15, .int .u8 x.f16, .int .u8 x.f17, .int .u8 x.f18, .int .u8 x.f19, .int .u8 x.f20, .int .u8 x.f21, .int .u8 x.f22, .int .u8 x.f23], rfl, rfl, ⟨[.int .u8 x.f14], [.int .u8 x.f15, .int .u8 x.f16, .int .u8 x.f17, .int .u8 x.f18, .int .u8 x.f19, .int .u8 x.f20, .int .u8 x.f21, .int .u8 x.f22, .int .u8 x.f23], rfl, rfl, ⟨[.int .u8 x.f15], [.int .u8 x.f16, .int .u8 x.f17, .int .u8 x.f18, .int .u8 x.f19, .int .u8 x.f20, .int .u8 x.f21, .int .u8 x.f22, .int .u8 x.f23], rfl, rfl, ⟨[.int .u8 x.f16], [.int .u8 x.f17, .int .u8 x.f18, .int .u8 x.f19, .int .u8 x.f20, .int .u8 x.f21, .int .u8 x.f22, .int .u8 x.f23], rfl, rfl, ⟨[.int .u8 x.f17], [.int .u8 x.f18, .int .u8 x.f19, .int .u8 x.f20, .int .u8 x.f21, .int .u8 x.f22, .int .u8 x.f23], rfl, rfl, ⟨[.int .u8 x.f18], [.int .u8 x.f19, .int .u8 x.f20, .int .u8 x.f21, .int .u8 x.f22, .int .u8 x.f23], rfl, rfl, ⟨[.int .u8 x.f19], [.int .u8 x.f20, .int .u8 x.f21, .int .u8 x.f22, .int .u8 x.f23], rfl, rfl, ⟨[.int .u8 x.f20], [.int .u8 x.f21, .int .u8 x.f22, .int .u8 x.f23], rfl, rfl, ⟨[.int .u8 x.f21], [.int .u8 x.f22, .int .u8 x.f23], rfl, rfl, ⟨[.int .u8 x.f22], [.int .u8 x.f23], rfl, rfl, rfl⟩⟩⟩⟩⟩⟩⟩⟩⟩⟩⟩⟩⟩⟩⟩⟩⟩⟩⟩⟩⟩⟩⟩
def rd_T68 (xs : List S68) (i : Int) : S68 := xs.getD i.toNat z68
structure S60 where
  f0 : Int
  f1 : Int
  f2 : Int
  f3 : Int
  f4 : Int
  f5 : Int
structure S61 where
  f0 : Int
  f1 : Int
  f2 : Int
  f3 : Int
  f4 : Int
  f5 : Int
def z61 : S61 := ⟨(0 : Int), (0 : Int), (0 : Int), (0 : Int), (0 : Int), (0 : Int)⟩
def k61 : Kd S61 := Kd.iso (Kd.pair (Kd.int .u8) (Kd.pair (Kd.int .u8) (Kd.pair (Kd.int .u8) (Kd.pair (Kd.int .u8) (Kd.pair (Kd.int .u8) (Kd.int .u8)))))) (fun x : S61 => (x.f0, x.f1, x.f2, x.f3, x.f4, x.f5))
theorem k61_open {w : World} {x : S61} {cs : List Value} (h : k61.K w x cs) : cs = [.int .u8 x.f0, .int .u8 x.f1, .int .u8 x.f2, .int .u8 x.f3, .int .u8 x.f4, .int .u8 x.f5] := by
  obtain ⟨_, _, rfl, rfl, ⟨_, _, rfl, rfl, ⟨_, _, rfl, rfl, ⟨_, _, rfl, rfl, ⟨_, _, rfl, rfl, rfl⟩⟩⟩⟩⟩ := h
  exact rfl
theorem k61_mkM (w : World) (base : Nat) (ok : Nat → Prop) (x : S61)  : k61.M w base ok x [.int .u8 x.f0, .int .u8 x.f1, .int .u8 x.f2, .int .u8 x.f3, .int .u8 x.f4, .int .u8 x.f5] := ⟨[.int .u8 x.f0], [.int .u8 x.f1, .int .u8 x.f2, .int .u8 x.f3, .int .u8 x.f4, .int .u8 x.f5], rfl, rfl, ⟨[.int .u8 x.f1], [.int .u8 x.f2, .int .u8 x.f3, .int .u8 x.f4, .int .u8 x.f5], rfl, rfl, ⟨[.int .u8 x.f2], [.int .u8 x.f3, .int .u8 x.f4, .int .u8 x.f5], rfl, rfl, ⟨[.int .u8 x.f3], [.int .u8 x.f4, .int .u8 x.f5], rfl, rfl, ⟨[.int .u8 x.f4], [.int .u8 x.f5], rfl, rfl, rfl⟩⟩⟩⟩⟩
def rd_T61 (xs : List S61) (i : Int) : S61 := xs.getD i.toNat z61
def rd_L10 (xs : List (List S61)) (i : Int) : (List S61) := xs.getD i.toNat ([] : List S61)
theorem at_L10 {w : World} {A : Option Addr} {n : Nat} {xs : List (List S61)} (h : Kd.C (Kd.slice 61 k61) w A n xs) (i : Int) (h0 : 0 ≤ i) (h1 : i < n) : ∃ ad A0 c0, A = some ad ∧ w.cell? (ad.add i.toNat) = some (.slice A0 (rd_L10 xs i).length c0) ∧ (rd_L10 xs i).length ≤ c0 ∧ k61.C w A0 (rd_L10 xs i).length (rd_L10 xs i) := by
  obtain ⟨ad, c, e, _, hK, hc0⟩ := Kd.C_get h ([] : List S61) i h0 h1
  have hc : ∀ j u, c[j]? = some u → w.cell? (ad.add (i.toNat * 1 + j)) = some u := hc0
  obtain ⟨A0, c0, rfl, l0, g0⟩ := hK
  exact ⟨ad, A0, c0, e, by have hq := hc 0 _ rfl; rwa [Nat.mul_one, Nat.add_zero] at hq, l0, g0⟩
structure S33 where
  f0 : (List S68)
  f1 : (List (List Int))
structure S25 where
  f0 : (List S67)
  f1 : (List (List Int))
def k25 : Kd S25 := Kd.iso (Kd.pair (Kd.slice 67 k67) (Kd.slice 55 (Kd.slice 5 (Kd.int .u8)))) (fun x : S25 => (x.f0, x.f1))
theorem k25_open {w : World} {x : S25} {cs : List Value} (h : k25.K w x cs) : ∃ A0 c0 A1 c1, cs = [.slice A0 x.f0.length c0, .slice A1 x.f1.length c1] ∧ x.f0.length ≤ c0 ∧ k67.C w A0 x.f0.length x.f0 ∧ x.f1.length ≤ c1 ∧ (Kd.slice 5 (Kd.int .u8)).C w A1 x.f1.length x.f1 := by
  obtain ⟨_, _, rfl, ⟨A0, c0, rfl, l0, g0⟩, ⟨A1, c1, rfl, l1, g1⟩⟩ := h
  exact ⟨A0, c0, A1, c1, rfl, l0, g0, l1, g1⟩
def idxP {α : Type} (p : α → Bool) (l : List α) : Int := match l.findIdx? p with | some i => (i : Int) | none => -1
theorem idxP_hit {α : Type} {p : α → Bool} {l : List α} {k : Nat} {y : α} (hy : l[k]? = some y) (hp : p y = true) (hn : ∀ j x, j < k → l[j]? = some x → p x = false) : idxP p l = (k : Int) := by
  have hk : k < l.length := (List.getElem?_eq_some_iff.1 hy).1
  have e : l.findIdx? p = some k := by
    rw [List.findIdx?_eq_some_iff_getElem]
    refine ⟨hk, ?_, fun j hj => ?_⟩
    · rw [(List.getElem?_eq_some_iff.1 hy).2]; exact hp
    · have := hn j l[j] hj (List.getElem?_eq_getElem (by omega))
      simp [this]
  simp [idxP, e]
theorem idxP_miss {α : Type} {p : α → Bool} {l : List α} (h : ∀ x ∈ l, p x = false) : idxP p l = -1 := by
  have e : l.findIdx? p = none := by
    rw [List.findIdx?_eq_none_iff]
    exact h
  simp [idxP, e]
theorem idxP_nonneg {α : Type} (p : α → Bool) (l : List α) : decide (0 ≤ idxP p l) = l.any p := by
  unfold idxP
  cases e : l.findIdx? p with
  | none =>
    rw [List.findIdx?_eq_none_iff] at e
    have : l.any p = false := by rw [List.any_eq_false]; intro x hx; simp [e x hx]
    simp [this]
  | some i =>
    rw [List.findIdx?_eq_some_iff_getElem] at e
    obtain ⟨h, hp, _⟩ := e
    have : l.any p = true := List.any_eq_true.2 ⟨l[i], List.getElem_mem h, hp⟩
    simp [this]
end Go.Proofs.Ytgfknljhogfeaaa.G
end

section
namespace Go.Proofs.Ytgfknljhogfeaaa.G
open Go.RowKit Go.Proofs.YtgfknljhogfeaaaW.PrintWords Go.Proofs.YtgfknljhogfeaaaW.PrintLast Go.Proofs.YtgfknljhogfeaaaW.PrintMore
attribute [local go_sem] max2_int min2_int max_two min_two max_three min_three max_four min_four
set_option linter.unusedVariables false
set_option linter.unusedSimpArgs false
def IsBox (k : IntKind) (t : Nat) (w : World) (b : Nat) (xs : List Int) : Prop := w.heap[b]? = some (.cells (nums k xs).toArray t (0, 0))
section
variable {w W w1 : World} {b b' t t' : Nat} {k k' : IntKind} {xs ys : List Int}
theorem box_at (h : IsBox k t w b xs) {j : Nat} (hj : j < xs.length) : w.cell? ⟨b, j, none⟩ = some (.int k xs[j]) := by
  rw [blk_cell h j]
  simp [nums, List.getElem?_eq_getElem hj]
theorem box_frozen (h : IsBox k t w b xs) (j : Nat) : w.frozen? ⟨b, j, none⟩ = false := blk_frozen h j
theorem box_set (h : IsBox k t w b xs) (j : Nat) (v : Int) : IsBox k t (w.setCell ⟨b, j, none⟩ (.int k v)) b (xs.set j v) := by
  refine blk_put h j _ ?_
  simp [nums, List.map_set]
theorem box_far (h : IsBox k t w b xs) {p : Addr} (hp : b ≠ p.block) (u : Value) : IsBox k t (w.setCell p u) b xs := blk_far h hp u
theorem box_below (h : IsBox k t w b xs) (hb : Below w.heap.size w w1) : IsBox k t w1 b xs := blk_below h hb
theorem box_lt (h : IsBox k t w b xs) : b < w.heap.size := blk_lt h
theorem box_row (h : IsBox k t w b xs) (ys : List Int) : IsBox k t (w.setRow b (nums k ys).toArray) b ys := setRow_heap w b _ _ t (0, 0) h
theorem box_apart (h : IsBox k t w b xs) (hne : b ≠ b') (cs : Array Value) : IsBox k t (w.setRow b' cs) b xs := (setRow_other w b' b cs hne).trans h
theorem nums_one (k : IntKind) (xs : List Int) : (nums k xs).toArray.all (·.oneCell') = true := all_oneCell_toArray fun v hv => by
  obtain ⟨x, _, rfl⟩ := List.mem_map.1 hv
  rfl
theorem box_C (h : IsBox k t w b xs) (hl : xs.length ≤ 9223372036854775807) : Kd.C (Kd.int k) w (some ⟨b, 0, none⟩) xs.length xs := by
  refine ⟨rfl, hl, fun _ => ⟨_, rfl, fun j p hj => ⟨[.int k p], rfl, rfl, fun i u hu => ?_⟩⟩⟩
  obtain ⟨hjl, rfl⟩ := List.getElem?_eq_some_iff.1 hj
  rcases i with _ | i
  · have e : (⟨b, 0, none⟩ : Addr).add (j * 1 + 0) = ⟨b, j, none⟩ := by
      rw [Addr.add_mid]
      simp
    rw [show (Kd.int k).sz = 1 from rfl, e, box_at h hjl]
    exact hu
  · simp at hu
theorem cells_C {ad : Addr} (h : ∀ j : Nat, j < xs.length → w.cell? (ad.add j) = some (.int k (xs.getD j 0))) (hl : xs.length ≤ 9223372036854775807) : Kd.C (Kd.int k) w (some ad) xs.length xs := by
  refine ⟨rfl, hl, fun _ => ⟨_, rfl, fun j p hj => ⟨[.int k p], rfl, rfl, fun i u hu => ?_⟩⟩⟩
  obtain ⟨hjl, rfl⟩ := List.getElem?_eq_some_iff.1 hj
  rcases i with _ | i
  · rw [show (Kd.int k).sz = 1 from rfl, show j * 1 + 0 = j by omega, h j hjl, List.getD_eq_getElem?_getD, List.getElem?_eq_getElem hjl]
    exact hu
  · simp at hu
theorem add_addA (a : Addr) (m n : Nat) : (a.add m).add n = a.add (m + n) := by
  unfold Addr.add
  by_cases h1 : m = 0
  · subst h1
    simp
  · by_cases h2 : n = 0
    · subst h2
      simp [h1]
    · simp [h1, h2, Nat.add_assoc]
theorem take_put {n i : Nat} (hl : xs.length = n) (hi : i < n) : (xs.take i ++ List.replicate (n - i) 0).set i (xs[i]'(by omega)) = xs.take (i + 1) ++ List.replicate (n - (i + 1)) 0 := by
  have ht : (xs.take i).length = i := by rw [List.length_take]; omega
  rw [List.set_append_right _ _ (by omega), ht, Nat.sub_self, show n - i = (n - (i + 1)) + 1 by omega, List.replicate_succ, List.set_cons_zero, List.take_succ_eq_append_getElem (show i < xs.length by omega), List.append_assoc]
  rfl
end
section
variable {P : Program} {ops : Array Oper} {Q : Exit → Act → World → Prop} {rest : List Oper} {o : Oper} {a : Act} {W : World} {k : IntKind} {b t : Nat} {xs ys : List Int}
theorem box_load (hgd : o.guard = none) {p : Operand} (ho : o.op = .load t p) (hx : a.eval p = .pointer (some ⟨b, 0, none⟩)) (h : IsBox k t W b xs) {d : TypeDesc} (hu : P.underlying t = some d) (hd : (match d with | .struct _ | .array _ _ => true | _ => false) = true) (hi : (P.info? t).map (·.size) = some xs.length)
    (hK : wpList P ops Q rest (a.put o.dst (.agg (nums k xs).toArray)) W) : wpList P ops Q (o :: rest) a W := by
  refine wpList_plain hgd fun K hk => ?_
  unfold Oper.wp execOp
  simp only [ho, hx, Instr.loadAt, Instr.sureAddr, Sem.run_bind, Sem.run_pure, Result.andThen_ok, run_loadVar_row W b t t _ (0, 0) d h hu hd (by simpa [nums] using hi)]
  exact hk _ _ hK
theorem load_any (hgd : o.guard = none) {p : Operand} (ho : o.op = .load t p) {ad : Addr} (hx : a.eval p = .pointer (some ad)) {cs : List Value} (hc : ∀ j v, cs[j]? = some v → W.cell? (ad.add j) = some v) {d : TypeDesc} (hu : P.underlying t = some d) (hd : (match d with | .struct _ | .array _ _ => true | _ => false) = true) (hi : (P.info? t).map (·.size) = some cs.length)
    (hK : wpList P ops Q rest (a.put o.dst (.agg cs.toArray)) W) : wpList P ops Q (o :: rest) a W := by
  refine wpList_plain hgd fun K hk => ?_
  have hl : (loadCells ad cs.length).run P W = .ok cs.toArray W := run_loadCells_list (P := P) W ad cs hc
  have hv : (loadVar t ad).run P W = .ok (.agg cs.toArray) W := by
    cases hq : P.info? t with
    | none => simp [hq] at hi
    | some i =>
      have hs : i.size = cs.length := by simpa [hq] using hi
      have hagg : (isAgg t).run P W = .ok true W := by
        unfold isAgg
        rw [Sem.run_bind, run_underlying hu W]
        cases d <;> simp_all
      simp [loadVar, Sem.run_bind, hagg, sizeOf, typeInfo, hq, hs, hl]
  unfold Oper.wp execOp
  simp only [ho, hx, Instr.loadAt, Instr.sureAddr, Sem.run_bind, Sem.run_pure, Result.andThen_ok, hv]
  exact hk _ _ hK
theorem exec_load_any {p : Operand} (ho : o.op = .load t p) {ad : Addr} (hx : a.eval p = .pointer (some ad)) {cs : List Value} (hc : ∀ j v, cs[j]? = some v → W.cell? (ad.add j) = some v) {d : TypeDesc} (hu : P.underlying t = some d) (hd : (match d with | .struct _ | .array _ _ => true | _ => false) = true) (hi : (P.info? t).map (·.size) = some cs.length) : (execOp a.eval o).run P W = .ok (.value (.agg cs.toArray)) W := by
  have hl : (loadCells ad cs.length).run P W = .ok cs.toArray W := run_loadCells_list (P := P) W ad cs hc
  have hv : (loadVar t ad).run P W = .ok (.agg cs.toArray) W := by
    cases hq : P.info? t with
    | none => simp [hq] at hi
    | some i =>
      have hs : i.size = cs.length := by simpa [hq] using hi
      have hagg : (isAgg t).run P W = .ok true W := by
        unfold isAgg
        rw [Sem.run_bind, run_underlying hu W]
        cases d <;> simp_all
      simp [loadVar, Sem.run_bind, hagg, sizeOf, typeInfo, hq, hs, hl]
  unfold execOp
  simp only [ho, hx, Instr.loadAt, Instr.sureAddr, Sem.run_bind, Sem.run_pure, Result.andThen_ok, hv]
theorem gate_load {p : Operand} (_ho : o.op = .load t p) (h : wpList P ops Q (o :: rest) a W) : wpList P ops Q (o :: rest) a W := h
theorem box_store (hgd : o.guard = none) {p x : Operand} (ho : o.op = .store t p x) (hN : o.dst = none) (hp : a.eval p = .pointer (some ⟨b, 0, none⟩)) (hx : a.eval x = .agg (nums k ys).toArray) (h : IsBox k t W b xs) (hl : xs.length = ys.length) (hi : (P.info? t).map (·.size) = some ys.length)
    (hK : ∀ W', W' = W.setRow b (nums k ys).toArray → wpList P ops Q rest a W') : wpList P ops Q (o :: rest) a W := by
  refine wpList_plain hgd fun K hk => ?_
  unfold Oper.wp execOp
  simp only [ho, hp, hx, Instr.storeAt, Instr.sureAddr, Sem.run_bind, Sem.run_pure, Result.andThen_ok, run_storeVar_row W b t t _ (nums k ys).toArray h (by simpa [nums] using hi) (by simp [nums, hl]) (nums_one k ys)]
  show K (a.put o.dst undef) _
  rw [hN]
  exact hk _ _ (hK _ rfl)
end
def difN (xs ys : List Int) : Nat → Nat
  | 0 => 0
  | j + 1 => difN xs ys j + if xs.getD j 0 = ys.getD j 0 then 0 else 1
theorem difN_le (xs ys : List Int) : ∀ j, difN xs ys j ≤ j
  | 0 => Nat.le_refl _
  | j + 1 => by
    have := difN_le xs ys j
    unfold difN
    split <;> omega
theorem all_succ {α : Type} {l : List α} {i : Nat} (h : i < l.length) (p : α → Bool) : (l.take (i + 1)).all p = ((l.take i).all p && p l[i]) := by
  rw [List.take_succ_eq_append_getElem h, List.all_append]
  simp
def posB (b k : Nat) : Nat := (b % 3 * 2 + k % 2) + 6 * (b / 3 * 2 + k / 2)
theorem posB_lt {b k : Nat} (hb : b < 6) (hk : k < 4) : posB b k < 24 := by
  unfold posB
  omega
def cntB (xs : List Int) (b : Nat) : Nat → List Int
  | 0 => List.replicate 6 0
  | m + 1 => (cntB xs b m).set (xs.getD (posB b m) 0).toNat ((cntB xs b m).getD (xs.getD (posB b m) 0).toNat 0 + 1)
theorem cntB_len (xs : List Int) (b : Nat) : ∀ m, (cntB xs b m).length = 6
  | 0 => rfl
  | m + 1 => by
    rw [cntB, List.length_set]
    exact cntB_len xs b m
theorem cntB_le (xs : List Int) (b : Nat) : ∀ m j, 0 ≤ (cntB xs b m).getD j 0 ∧ (cntB xs b m).getD j 0 ≤ m
  | 0, j => by
    have e : (cntB xs b 0).getD j 0 = 0 := by
      unfold cntB
      rw [List.getD_eq_getElem?_getD, List.getElem?_replicate]
      split <;> rfl
    rw [e]
    omega
  | m + 1, j => by
    have h1 := cntB_le xs b m j
    have h2 := cntB_le xs b m (xs.getD (posB b m) 0).toNat
    rw [cntB, List.getD_eq_getElem?_getD, List.getElem?_set]
    split
    · split
      · simp only [Option.getD_some]
        omega
      · simp
        omega
    · rw [← List.getD_eq_getElem?_getD]
      omega
def bstB (cs : List Int) : Nat → Nat
  | 0 => 0
  | c + 1 => if cs.getD (bstB cs c) 0 < cs.getD (c + 1) 0 then c + 1 else bstB cs c
theorem bstB_le (cs : List Int) : ∀ c, bstB cs c ≤ c
  | 0 => Nat.le_refl _
  | c + 1 => by
    have := bstB_le cs c
    unfold bstB
    split <;> omega
def oneB (xs : List Int) (b : Nat) : Int := ((bstB (cntB xs b 4) 5 : Nat) : Int)
def blurB (xs : List Int) : List Int := (List.range 6).map (oneB xs)
theorem blurB_len (xs : List Int) : (blurB xs).length = 6 := by simp [blurB]
theorem oneB_lt (xs : List Int) (b : Nat) : 0 ≤ oneB xs b ∧ oneB xs b < 6 := by
  have := bstB_le (cntB xs b 4) 5
  unfold oneB
  omega
theorem range_put (f : Nat → Int) {n i : Nat} (h : i < n) : ((List.range i).map f ++ List.replicate (n - i) 0).set i (f i) = (List.range (i + 1)).map f ++ List.replicate (n - (i + 1)) 0 := by
  rw [List.set_append_right _ _ (by simp), List.length_map, List.length_range, Nat.sub_self, show n - i = (n - (i + 1)) + 1 by omega, List.replicate_succ, List.set_cons_zero, List.range_succ, List.map_append, List.append_assoc]
  rfl
theorem wrapB {x : Int} (h0 : -9223372036854775808 ≤ x) (h1 : x ≤ 9223372036854775807) : IntKind.i64.wrap x = x := by
  rw [IntKind.wrap_i64]
  omega
section
variable {P : Program} {ops : Array Oper} {Q : Exit → Act → World → Prop} {rest : List Oper} {o : Oper} {a : Act}
theorem slice_event {W : World} (hgd : o.guard = none) {N : Tmp} (_hd : o.dst = some N) {k : IntKind} {xs : List Int} {t : TypeId}
    (hrun : (execOp a.eval o).run P W = .ok (.value (.slice (some ⟨W.heap.size, 0, none⟩) xs.length xs.length)) (W.alloc (.cells (nums k xs).toArray t (0, 0))))
    (h : ∀ g, g = W.heap.size → ∀ w1, IsBox k t w1 g xs → Below W.heap.size W w1 → wpList P ops Q rest (a.put o.dst (.slice (some ⟨g, 0, none⟩) xs.length xs.length)) w1) : wpList P ops Q (o :: rest) a W :=
  Kd.event_run hgd hrun (h _ rfl _ (blk_new W _) (below_alloc (Below.refl _ _) _))
end
theorem bstB_ge (cs : List Int) : ∀ c j, j ≤ c → cs.getD j 0 ≤ cs.getD (bstB cs c) 0
  | 0, j, h => by
    obtain rfl : j = 0 := by omega
    exact Int.le_refl _
  | c + 1, j, h => by
    unfold bstB
    by_cases hj : j ≤ c
    · have := bstB_ge cs c j hj
      split
      · omega
      · exact this
    · obtain rfl : j = c + 1 := by omega
      split
      · exact Int.le_refl _
      · omega
theorem bstB_gt (cs : List Int) : ∀ c j, j < bstB cs c → cs.getD j 0 < cs.getD (bstB cs c) 0
  | 0, j, h => absurd h (Nat.not_lt_zero _)
  | c + 1, j, h => by
    unfold bstB at h ⊢
    split
    · rename_i hc
      rw [if_pos hc] at h
      have := bstB_ge cs c j (by omega)
      omega
    · rename_i hc
      rw [if_neg hc] at h
      exact bstB_gt cs c j h
def arrL61 (x : S61) : List Int := [x.f0, x.f1, x.f2, x.f3, x.f4, x.f5]
def arrS61 (l : List Int) : S61 := ⟨l.getD 0 0, l.getD 1 0, l.getD 2 0, l.getD 3 0, l.getD 4 0, l.getD 5 0⟩
theorem arrL61_len (x : S61) : (arrL61 x).length = 6 := rfl
theorem rowA61 {w : World} {A : Option Addr} {n : Nat} {xs : List S61} (h : Kd.C k61 w A n xs) {i : Nat} (hi : i < n) : ∃ ad, A = some ad ∧ ∀ j : Nat, j < 6 → w.cell? ((ad.add (i * 6)).add j) = some (.int .u8 ((arrL61 (rd_T61 xs (i : Int))).getD j 0)) := by
  obtain ⟨ad, c, e, _, hK, hc0⟩ := Kd.C_get h z61 (i : Int) (by omega) (by omega)
  have hc : ∀ j u, c[j]? = some u → w.cell? (ad.add (i * 6 + j)) = some u := hc0
  obtain rfl := k61_open hK
  refine ⟨ad, e, fun j hj => ?_⟩
  rw [add_addA]
  refine hc j _ ?_
  have : j = 0 ∨ j = 1 ∨ j = 2 ∨ j = 3 ∨ j = 4 ∨ j = 5 := by omega
  rcases this with rfl | rfl | rfl | rfl | rfl | rfl <;> rfl
def arrL67 (x : S67) : List Int := [x.f0, x.f1, x.f2, x.f3, x.f4, x.f5, x.f6, x.f7, x.f8, x.f9, x.f10, x.f11, x.f12, x.f13, x.f14, x.f15, x.f16, x.f17, x.f18, x.f19, x.f20, x.f21, x.f22, x.f23]
def RowAt67 (w : World) (ad : Addr) (x : S67) : Prop := ∀ j v, (nums .u8 (arrL67 x))[j]? = some v → w.cell? (ad.add j) = some v
theorem row_T67 {w : World} {A : Option Addr} {n : Nat} {xs : List S67} (h : Kd.C k67 w A n xs) (i : Int) (h0 : 0 ≤ i) (h1 : i < n) : ∃ ad, A = some ad ∧ RowAt67 w (ad.add (i.toNat * 24)) (rd_T67 xs i) := by
  obtain ⟨ad, c, e, _, hK, hc0⟩ := Kd.C_get h z67 i h0 h1
  have hc : ∀ j u, c[j]? = some u → w.cell? (ad.add (i.toNat * 24 + j)) = some u := hc0
  obtain rfl := k67_open hK
  exact ⟨ad, e, fun j v hv => by rw [add_addA]; exact hc j v hv⟩
theorem row_below67 {w w1 : World} {ad : Addr} {x : S67} (h : RowAt67 w ad x) (hb : Below w.heap.size w w1) : RowAt67 w1 ad x := fun j v hv => (hb.cell (World.block_lt_of_cell? w _ (h j v hv))).trans (h j v hv)
theorem size67 : (Try.prog.info? 67).map (·.size) = some 24 := by kernel_rfl
def arrL68 (x : S68) : List Int := [x.f0, x.f1, x.f2, x.f3, x.f4, x.f5, x.f6, x.f7, x.f8, x.f9, x.f10, x.f11, x.f12, x.f13, x.f14, x.f15, x.f16, x.f17, x.f18, x.f19, x.f20, x.f21, x.f22, x.f23]
def arrS68 (l : List Int) : S68 := ⟨l.getD 0 0, l.getD 1 0, l.getD 2 0, l.getD 3 0, l.getD 4 0, l.getD 5 0, l.getD 6 0, l.getD 7 0, l.getD 8 0, l.getD 9 0, l.getD 10 0, l.getD 11 0, l.getD 12 0, l.getD 13 0, l.getD 14 0, l.getD 15 0, l.getD 16 0, l.getD 17 0, l.getD 18 0, l.getD 19 0, l.getD 20 0, l.getD 21 0, l.getD 22 0, l.getD 23 0⟩
theorem arrL68_S : ∀ l : List Int, l.length = 24 → arrL68 (arrS68 l) = l
  | [a0, a1, a2, a3, a4, a5, a6, a7, a8, a9, a10, a11, a12, a13, a14, a15, a16, a17, a18, a19, a20, a21, a22, a23], _ => rfl
theorem rowA68 {w : World} {A : Option Addr} {n : Nat} {xs : List S68} (h : Kd.C k68 w A n xs) {i : Nat} (hi : i < n) : ∃ ad, A = some ad ∧ ∀ j : Nat, j < 24 → w.cell? ((ad.add (i * 24)).add j) = some (.int .u8 ((arrL68 (rd_T68 xs (i : Int))).getD j 0)) := by
  obtain ⟨ad, c, e, _, hK, hc0⟩ := Kd.C_get h z68 (i : Int) (by omega) (by omega)
  have hc : ∀ j u, c[j]? = some u → w.cell? (ad.add (i * 24 + j)) = some u := hc0
  obtain rfl := k68_open hK
  refine ⟨ad, e, fun j hj => ?_⟩
  rw [add_addA]
  refine hc j _ ?_
  have : j = 0 ∨ j = 1 ∨ j = 2 ∨ j = 3 ∨ j = 4 ∨ j = 5 ∨ j = 6 ∨ j = 7 ∨ j = 8 ∨ j = 9 ∨ j = 10 ∨ j = 11 ∨ j = 12 ∨ j = 13 ∨ j = 14 ∨ j = 15 ∨ j = 16 ∨ j = 17 ∨ j = 18 ∨ j = 19 ∨ j = 20 ∨ j = 21 ∨ j = 22 ∨ j = 23 := by omega
  rcases this with rfl | rfl | rfl | rfl | rfl | rfl | rfl | rfl | rfl | rfl | rfl | rfl | rfl | rfl | rfl | rfl | rfl | rfl | rfl | rfl | rfl | rfl | rfl | rfl <;> rfl
def RowAt68 (w : World) (ad : Addr) (x : S68) : Prop := ∀ j v, (nums .u8 (arrL68 x))[j]? = some v → w.cell? (ad.add j) = some v
theorem row_T68 {w : World} {A : Option Addr} {n : Nat} {xs : List S68} (h : Kd.C k68 w A n xs) (i : Int) (h0 : 0 ≤ i) (h1 : i < n) : ∃ ad, A = some ad ∧ RowAt68 w (ad.add (i.toNat * 24)) (rd_T68 xs i) := by
  obtain ⟨ad, c, e, _, hK, hc0⟩ := Kd.C_get h z68 i h0 h1
  have hc : ∀ j u, c[j]? = some u → w.cell? (ad.add (i.toNat * 24 + j)) = some u := hc0
  obtain rfl := k68_open hK
  exact ⟨ad, e, fun j v hv => by rw [add_addA]; exact hc j v hv⟩
theorem row_below68 {w w1 : World} {ad : Addr} {x : S68} (h : RowAt68 w ad x) (hb : Below w.heap.size w w1) : RowAt68 w1 ad x := fun j v hv => (hb.cell (World.block_lt_of_cell? w _ (h j v hv))).trans (h j v hv)
theorem load_T68 {P : Program} {ops : Array Oper} {Q : Exit → Act → World → Prop} {rest : List Oper} {o : Oper} {a : Act} {W : World} (hgd : o.guard = none) {p : Operand} (ho : o.op = .load 68 p) (ad : Addr) (hx : a.eval p = .pointer (some ad)) {x : S68} (hc : RowAt68 W ad x) {m e : Nat} (hu : P.underlying 68 = some (.array m e)) (hi : (P.info? 68).map (·.size) = some 24)
    (hK : wpList P ops Q rest (a.put o.dst (.agg #[.int .u8 x.f0, .int .u8 x.f1, .int .u8 x.f2, .int .u8 x.f3, .int .u8 x.f4, .int .u8 x.f5, .int .u8 x.f6, .int .u8 x.f7, .int .u8 x.f8, .int .u8 x.f9, .int .u8 x.f10, .int .u8 x.f11, .int .u8 x.f12, .int .u8 x.f13, .int .u8 x.f14, .int .u8 x.f15, .int .u8 x.f16, .int .u8 x.f17, .int .u8 x.f18, .int .u8 x.f19, .int .u8 x.f20, .int .u8 x.f21, .int .u8 x.f22, .int .u8 x.f23])) W) : wpList P ops Q (o :: rest) a W :=
  load_any hgd ho hx hc hu rfl hi hK
theorem size68 : (Try.prog.info? 68).map (·.size) = some 24 := by kernel_rfl
end Go.Proofs.Ytgfknljhogfeaaa.G
end

section
namespace Go.Proofs.Ytgfknljhogfeaaa.G
open Go.RowKit Go.Proofs.YtgfknljhogfeaaaW.PrintWords Go.Proofs.YtgfknljhogfeaaaW.PrintLast Go.Proofs.YtgfknljhogfeaaaW.PrintMore
attribute [local go_sem] max2_int min2_int max_two min_two max_three min_three max_four min_four
set_option linter.unusedVariables false
set_option linter.unusedSimpArgs false
def slices_Index_int_int.l0 : Nat → List Int → Int → Int → Int → Option (Int)
 | 0,_,_,_,_ => none
 | k + 1,x0,x1,x7,x8 => if x8 < x7 then (if 0 ≤ x8 then (if x8 < (x0.length : Int) then (if x1 = (rd x0 x8) then (some x8) else (slices_Index_int_int.l0 k x0 x1 x7 (wrap64 (x8 + 1)))) else (none)) else (none)) else (some (-1))
def slices_Index_int_int.f (k : Nat) (l0 : List Int) (a1 : Int) : Option (Int) := slices_Index_int_int.l0 k l0 a1 (l0.length : Int) 0
set_option maxHeartbeats 8000000 in
set_option maxRecDepth 100000 in
theorem slices_Index_int_int.calls (k : Nat) (A0 : Option Addr) (c0 : Nat) (l0 : List Int) (a1 : Int) (r : Int) (w : World) (hr0 : Kd.C (Kd.int .i64) w A0 l0.length l0) (hc0 : l0.length ≤ c0) (h : slices_Index_int_int.f k l0 a1 = some r) :
  Calls Try.prog 100 #[.slice A0 l0.length c0,.int .i64 a1] w fun e w' => e = .returned (.int .i64 r) ∧ Drawn0 w w' := by
 have HR0 := Aside0.mk hr0;have HC0 := Aside0.mk hc0;clear hr0 hc0;have H : (slices_Index_int_int.l0 k l0 a1 (l0.length : Int) 0) = some r := h;clear h;have H' := Aside0.mk H;clear H
 go_enter Try.func100,Try.ntmps100
 go_wp2
 go_loopg [8] k (fun kq v8 w' => ∃ (x8_1 : Int),v8 = .int .i64 x8_1 ∧ Aside0 (slices_Index_int_int.l0 kq l0 a1 (l0.length : Int) x8_1 = some r) ∧ Aside0 (kq ≤ k) ∧ Drawn0 w w')
 case atStart => exact ⟨(0),(by first | rfl | (simp only [IntKind.wrap_i64,wrap64];done) | (simp;done) | (simp [*];done)),H',⟨Nat.le_refl _⟩,by repeat (first | exact Drawn0.refl _ | apply Drawn0.step)⟩
 case round =>
  clear H';(try clear c1);(try clear p2);obtain ⟨x8_1,rfl,HA,HK1,⟨m1,rfl⟩⟩ := hrel
  cases gk with
  | zero => exact absurd HA.out (by simp [slices_Index_int_int.l0])
  | succ k1 =>
   have H := HA.out;clear HA;simp only [slices_Index_int_int.l0] at H
   by_cases c3 : x8_1 < (l0.length : Int)
   ·rw [if_pos c3] at H;have c3b0 : decide (x8_1 < (l0.length : Int)) = true := decide_eq_true c3;clear c3
    by_cases c4 : 0 ≤ x8_1
    ·rw [if_pos c4] at H;have c4b0 : decide (0 ≤ x8_1) = true := decide_eq_true c4;clear c4
     by_cases c5 : x8_1 < (l0.length : Int)
     ·rw [if_pos c5] at H;have c5b0 : decide (x8_1 < (l0.length : Int)) = true := decide_eq_true c5;clear c5
      by_cases c6 : a1 = (rd l0 x8_1)
      ·rw [if_pos c6] at H;have c6b0 : (a1 == (rd l0 x8_1)) = true := beq_iff_eq.mpr c6;have c6b1 : (a1 != (rd l0 x8_1)) = false := bne_eq_false_iff_eq.mpr c6;clear c6;obtain rfl := Option.some.inj H;have p101 : 0 ≤ (x8_1 : Int) := of_decide_eq_true (by first | (with_reducible assumption) | assumption);have q101 : x8_1 < (l0.length : Int) := of_decide_eq_true (by first | (with_reducible assumption) | assumption);obtain ⟨ad101,e101,hx101_0⟩ := Kd.at_int HR0.out x8_1 p101 q101;cases e101;replace p101 := eq_true p101;replace q101 := eq_true q101
       go_wp2
       go_ret
       exact ⟨by first | rfl | (simp only [IntKind.wrap_i64,wrap64];done) | (simp;done) | (simp [*];done),by repeat (first | exact Drawn0.refl _ | apply Drawn0.step)⟩
      ·rw [if_neg c6] at H;have c6b0 : (a1 == (rd l0 x8_1)) = false := beq_eq_false_iff_ne.mpr c6;have c6b1 : (a1 != (rd l0 x8_1)) = true := bne_iff_ne.mpr c6;have H' := Aside0.mk H;clear H;have p101 : 0 ≤ (x8_1 : Int) := of_decide_eq_true (by first | (with_reducible assumption) | assumption);have q101 : x8_1 < (l0.length : Int) := of_decide_eq_true (by first | (with_reducible assumption) | assumption);obtain ⟨ad101,e101,hx101_0⟩ := Kd.at_int HR0.out x8_1 p101 q101;cases e101;replace p101 := eq_true p101;replace q101 := eq_true q101
       go_wp2
       go_roundg k1
       case measure => have := HK1.out;omega
       case rel => exact ⟨(wrap64 (x8_1 + 1)),(by first | rfl | (simp only [IntKind.wrap_i64,wrap64];done) | (simp;done) | (simp [*];done)),H',⟨by have := HK1.out;omega⟩,by repeat (first | exact Drawn0.refl _ | apply Drawn0.step)⟩
     ·rw [if_neg c5] at H;exact absurd H (by simp)
    ·rw [if_neg c4] at H;exact absurd H (by simp)
   ·rw [if_neg c3] at H;have c3b0 : decide (x8_1 < (l0.length : Int)) = false := decide_eq_false c3;clear c3;obtain rfl := Option.some.inj H
    go_wp2
    go_ret
    exact ⟨by first | rfl | (simp only [IntKind.wrap_i64,wrap64];done) | (simp;done) | (simp [*];done),by repeat (first | exact Drawn0.refl _ | apply Drawn0.step)⟩
end Go.Proofs.Ytgfknljhogfeaaa.G
end

section
namespace Go.Proofs.Ytgfknljhogfeaaa.G
open Go.RowKit Go.Proofs.YtgfknljhogfeaaaW.PrintWords Go.Proofs.YtgfknljhogfeaaaW.PrintLast Go.Proofs.YtgfknljhogfeaaaW.PrintMore
attribute [local go_sem] max2_int min2_int max_two min_two max_three min_three max_four min_four
set_option linter.unusedVariables false
set_option linter.unusedSimpArgs false
def gmax (l : List Int) : Int := match l with | [] => 0 | x :: xs => xs.foldl mx x
theorem gmax_snoc {l : List Int} {k : Nat} (h0 : 1 ≤ k) (h : k < l.length) : gmax (l.take (k + 1)) = mx (gmax (l.take k)) (rd l (k : Int)) := by
 rw [List.take_succ_eq_append_getElem h]
 have e : rd l (k : Int) = l[k] := by simp [rd,List.getD_eq_getElem?_getD,List.getElem?_eq_getElem h]
 rw [e]
 rcases hl : l.take k with _ | ⟨x,xs⟩
 ·have := congrArg List.length hl
  simp at this
  rcases this with h1 | h1
  ·omega
  ·subst h1
   simp at h
 ·simp [gmax,List.foldl_append]
def slices_Max_int_int.f (l0 : List Int) : Option Int := if 1 ≤ l0.length then some (gmax l0) else none
set_option maxHeartbeats 4000000 in
theorem slices_Max_int_int.calls (A0 : Option Addr) (c0 : Nat) (l0 : List Int) (r : Int) (w : World) (hr0 : Kd.C (Kd.int .i64) w A0 l0.length l0) (hc0 : l0.length ≤ c0) (h : slices_Max_int_int.f l0 = some r) :
  Calls Try.prog 101 #[.slice A0 l0.length c0] w fun e w' => e = .returned (.int .i64 r) ∧ Drawn0 w w' := by
 unfold slices_Max_int_int.f at h
 by_cases h1 : 1 ≤ l0.length
 ·rw [if_pos h1] at h;obtain rfl := Option.some.inj h;clear h;have hl : l0.length ≤ 9223372036854775807 := hr0.2.1;obtain ⟨ad,e0,h0⟩ := Kd.at_int hr0 0 (by omega) (by omega);have HR0 := Aside0.mk hr0;cases e0;simp only [show (0 : Int).toNat = 0 from rfl,Addr.add_zero'] at h0;clear hr0;have hq : decide ((l0.length : Int) < 1) = false := decide_eq_false (by omega);have hq0 : ((0 : Int) < (l0.length : Int)) = True := eq_true (by omega);have hq1 : (0 < l0.length) = True := eq_true (by omega)
  have hr1 : gmax (l0.take 1) = rd l0 0 := by
   rcases l0 with _ | ⟨x,l⟩
   ·simp at h1
   ·simp [gmax,rd]
  have HR1 := Aside0.mk hr1;clear hr1
  go_enter Try.func101,Try.ntmps101
  go_wp2
  go_loopg [3,4] l0.length (fun gg s3 s4 wr => ∃ kk : Nat,1 ≤ kk ∧ kk ≤ l0.length ∧ l0.length - kk ≤ gg ∧ s4 = .int .i64 kk ∧ s3 = .int .i64 (gmax (l0.take kk)) ∧ Aside0 (Drawn0 w wr))
  case atStart => exact ⟨1,by omega,by omega,by omega,rfl,by rw [HR1.out],⟨by repeat (first | exact Drawn0.refl _ | apply Drawn0.step)⟩⟩
  case round =>
   obtain ⟨kk,h1k,hkk,hg,rfl,rfl,HD⟩ := hrel
   by_cases hlt : kk < l0.length
   ·have hltz : decide ((kk : Int) < (l0.length : Int)) = true := decide_eq_true (by omega);obtain ⟨ad',e0,hx⟩ := Kd.at_int HR0.out (kk : Int) (by omega) (by omega)
    obtain rfl : ad = ad' := by injection e0
    simp only [Int.toNat_natCast] at hx;replace hx := (HD.out.below.cell (World.block_lt_of_cell? w _ hx)).trans hx;have HS := Aside0.mk (gmax_snoc h1k hlt);clear h0
    go_wp2
    all_goals
     go_roundg (l0.length - (kk + 1))
     case measure => omega
     case rel => exact ⟨kk + 1,by omega,by omega,by omega,by go_num,by rw [HS.out,mx];first | rw [if_pos (by omega)] | rw [if_neg (by omega)],HD⟩
   ·have hltz : decide ((kk : Int) < (l0.length : Int)) = false := decide_eq_false (by omega)
    have : kk = l0.length := by omega
    have HK := Aside0.mk this;clear this
    go_wp2
    go_ret
    exact ⟨by rw [HK.out,List.take_length];rfl,HD.out⟩
 ·rw [if_neg h1] at h;cases h
end Go.Proofs.Ytgfknljhogfeaaa.G
end

section
namespace Go.Proofs.Ytgfknljhogfeaaa.G
open Go.RowKit Go.Proofs.YtgfknljhogfeaaaW.PrintWords Go.Proofs.YtgfknljhogfeaaaW.PrintLast Go.Proofs.YtgfknljhogfeaaaW.PrintMore
attribute [local go_sem] max2_int min2_int max_two min_two max_three min_three max_four min_four
set_option linter.unusedVariables false
set_option linter.unusedSimpArgs false
def impl_Flag_blur.f (a0_0 : Int) (a0_1 : Int) (a0_2 : Int) (a0_3 : Int) (a0_4 : Int) (a0_5 : Int) (a0_6 : Int) (a0_7 : Int) (a0_8 : Int) (a0_9 : Int) (a0_10 : Int) (a0_11 : Int) (a0_12 : Int) (a0_13 : Int) (a0_14 : Int) (a0_15 : Int) (a0_16 : Int) (a0_17 : Int) (a0_18 : Int) (a0_19 : Int) (a0_20 : Int) (a0_21 : Int) (a0_22 : Int) (a0_23 : Int) : Option (Int × Int × Int × Int × Int × Int) := if ([a0_0,a0_1,a0_2,a0_3,a0_4,a0_5,a0_6,a0_7,a0_8,a0_9,a0_10,a0_11,a0_12,a0_13,a0_14,a0_15,a0_16,a0_17,a0_18,a0_19,a0_20,a0_21,a0_22,a0_23] : List Int).all (fun c => decide (0 ≤ c) && decide (c < 6)) = true then some (oneB [a0_0,a0_1,a0_2,a0_3,a0_4,a0_5,a0_6,a0_7,a0_8,a0_9,a0_10,a0_11,a0_12,a0_13,a0_14,a0_15,a0_16,a0_17,a0_18,a0_19,a0_20,a0_21,a0_22,a0_23] 0,oneB [a0_0,a0_1,a0_2,a0_3,a0_4,a0_5,a0_6,a0_7,a0_8,a0_9,a0_10,a0_11,a0_12,a0_13,a0_14,a0_15,a0_16,a0_17,a0_18,a0_19,a0_20,a0_21,a0_22,a0_23] 1,oneB [a0_0,a0_1,a0_2,a0_3,a0_4,a0_5,a0_6,a0_7,a0_8,a0_9,a0_10,a0_11,a0_12,a0_13,a0_14,a0_15,a0_16,a0_17,a0_18,a0_19,a0_20,a0_21,a0_22,a0_23] 2,oneB [a0_0,a0_1,a0_2,a0_3,a0_4,a0_5,a0_6,a0_7,a0_8,a0_9,a0_10,a0_11,a0_12,a0_13,a0_14,a0_15,a0_16,a0_17,a0_18,a0_19,a0_20,a0_21,a0_22,a0_23] 3,oneB [a0_0,a0_1,a0_2,a0_3,a0_4,a0_5,a0_6,a0_7,a0_8,a0_9,a0_10,a0_11,a0_12,a0_13,a0_14,a0_15,a0_16,a0_17,a0_18,a0_19,a0_20,a0_21,a0_22,a0_23] 4,oneB [a0_0,a0_1,a0_2,a0_3,a0_4,a0_5,a0_6,a0_7,a0_8,a0_9,a0_10,a0_11,a0_12,a0_13,a0_14,a0_15,a0_16,a0_17,a0_18,a0_19,a0_20,a0_21,a0_22,a0_23] 5) else none
theorem impl_Flag_blur.max : ∀ (cs : List Int),cs.length = 6 → gmax cs = cs.getD (bstB cs 5) 0
 | [x0,x1,x2,x3,x4,x5],_ => by
  have h0 := bstB_ge [x0,x1,x2,x3,x4,x5] 5 0 (by decide);have h1 := bstB_ge [x0,x1,x2,x3,x4,x5] 5 1 (by decide);have h2 := bstB_ge [x0,x1,x2,x3,x4,x5] 5 2 (by decide);have h3 := bstB_ge [x0,x1,x2,x3,x4,x5] 5 3 (by decide);have h4 := bstB_ge [x0,x1,x2,x3,x4,x5] 5 4 (by decide);have h5 := bstB_ge [x0,x1,x2,x3,x4,x5] 5 5 (by decide);have hl := bstB_le [x0,x1,x2,x3,x4,x5] 5;have hm : gmax [x0,x1,x2,x3,x4,x5] = mx (mx (mx (mx (mx x0 x1) x2) x3) x4) x5 := rfl;rw [hm];simp only [List.getD_cons_zero,List.getD_cons_succ] at h0 h1 h2 h3 h4 h5;generalize bstB [x0,x1,x2,x3,x4,x5] 5 = q at *
  have hq : q = 0 ∨ q = 1 ∨ q = 2 ∨ q = 3 ∨ q = 4 ∨ q = 5 := by omega
  unfold mx
  rcases hq with rfl | rfl | rfl | rfl | rfl | rfl <;> simp only [List.getD_cons_zero,List.getD_cons_succ] at h0 h1 h2 h3 h4 h5 ⊢ <;> (repeat' split) <;> omega
theorem impl_Flag_blur.first {cs : List Int} (hl : cs.length = 6) : slices_Index_int_int.f 100 cs (gmax cs) = some ((bstB cs 5 : Nat) : Int) := by
 rw [impl_Flag_blur.max cs hl];have hle := bstB_le cs 5
 have go : ∀ d i k : Nat,i + d = bstB cs 5 → d < k → slices_Index_int_int.l0 k cs (cs.getD (bstB cs 5) 0) (cs.length : Int) (i : Int) = some ((bstB cs 5 : Nat) : Int) := by
  intro d
  induction d with
  | zero =>
   intro i k hi hk;obtain ⟨k,rfl⟩ : ∃ m,k = m + 1 := ⟨k - 1,by omega⟩
   obtain rfl : i = bstB cs 5 := by omega
   rw [slices_Index_int_int.l0,if_pos (by omega),if_pos (by omega),if_pos (by omega),if_pos (show cs.getD (bstB cs 5) 0 = rd cs ((bstB cs 5 : Nat) : Int) from rfl)]
  | succ d ih =>
   intro i k hi hk;obtain ⟨k,rfl⟩ : ∃ m,k = m + 1 := ⟨k - 1,by omega⟩;have hg := bstB_gt cs 5 i (by omega);have r1 : rd cs (i : Int) = cs.getD i 0 := rfl;rw [slices_Index_int_int.l0,if_pos (by omega),if_pos (by omega),if_pos (by omega),r1,if_neg (by omega),show wrap64 ((i : Int) + 1) = ((i + 1 : Nat) : Int) from by unfold wrap64;omega];exact ih (i + 1) k (by omega) (by omega)
 exact go (bstB cs 5) 0 100 (by omega) (by omega)
theorem impl_Flag_blur.four (b : Nat) : [2 * ((b % 3 : Nat) : Int) + 12 * ((b / 3 : Nat) : Int),2 * ((b % 3 : Nat) : Int) + 12 * ((b / 3 : Nat) : Int) + 1,2 * ((b % 3 : Nat) : Int) + 12 * ((b / 3 : Nat) : Int) + 6,2 * ((b % 3 : Nat) : Int) + 12 * ((b / 3 : Nat) : Int) + 6 + 1] = (List.range 4).map fun i => ((posB b i : Nat) : Int) := by
 have e : (List.range 4).map (fun i => ((posB b i : Nat) : Int)) = [((posB b 0 : Nat) : Int),((posB b 1 : Nat) : Int),((posB b 2 : Nat) : Int),((posB b 3 : Nat) : Int)] := rfl;rw [e]
 unfold posB
 generalize b % 3 = m;generalize b / 3 = d
 congr 1
 ·omega
 congr 1
 ·omega
 congr 1
 ·omega
 congr 1
 omega
set_option maxHeartbeats 8000000 in
set_option maxRecDepth 100000 in
theorem impl_Flag_blur.core (xs : List Int) (hx : xs.length = 24) (hv : ∀ x ∈ xs,0 ≤ x ∧ x < 6) (w : World) :
  Calls Try.prog 80 #[.agg (nums .u8 xs).toArray] w fun e w' => e = .returned (.agg (nums .u8 (blurB xs)).toArray) ∧ Below w.heap.size w w' := by
 have HV : Aside0 (∀ j : Nat,j < 24 → 0 ≤ xs.getD j 0 ∧ xs.getD j 0 < 6) := ⟨fun j hj => by
  rw [List.getD_eq_getElem?_getD,List.getElem?_eq_getElem (show j < xs.length by omega)]
  exact hv _ (List.getElem_mem _)⟩
 have HB := Aside0.mk (Below.refl w.heap.size w);have HIT := Aside0.mk (show (Try.prog.info? 60).map (·.size) = some 6 by kernel_rfl);have HIC := Aside0.mk (show (Try.prog.info? 133).map (·.size) = some 6 by kernel_rfl);clear hv
 go_enter Try.func80,Try.ntmps80
 go_wp2_with (first | ((with_reducible refine gate_dst (N := 1) rfl ?_);refine box_event ?hg (N := 1) ?hd (cs := (nums .u8 xs).toArray) (t := 68) ?hr ?_;(case hd => rfl);(case hg => rfl);(case hr => first | (go_simp;done) | (go_simp;rfl));intro b1 hg_ w1 hb_ hB_;have HB1 := Aside0.mk (below_step HB.out hB_);have BK1 := Aside0.mk (show IsBox .u8 68 w1 b1 xs from hb_);clear hb_ hB_ hg_) | ((with_reducible refine gate_dst (N := 2) rfl ?_);refine box_event ?hg (N := 2) ?hd (cs := (nums .u8 (List.replicate 6 0)).toArray) (t := 60) ?hr ?_;(case hd => rfl);(case hg => rfl);(case hr => first | (go_simp;done) | (go_simp;rfl));intro b2 hg_ w2 hb_ hB_;have HB2 := Aside0.mk (below_step HB1.out hB_);have BK2 := Aside0.mk (box_below BK1.out hB_);have BL2 := Aside0.mk (show IsBox .u8 60 w2 b2 (List.replicate 6 0) from hb_);have GE2 := Aside0.mk (show w.heap.size ≤ b2 by rw [hg_];exact below_size HB1.out);clear hb_ hB_ hg_) | ((with_reducible refine gate_dst (N := 3) rfl ?_);refine box_event ?hg (N := 3) ?hd (cs := (nums .u8 (List.replicate 6 0)).toArray) (t := 60) ?hr ?_;(case hd => rfl);(case hg => rfl);(case hr => first | (go_simp;done) | (go_simp;rfl));intro b3 hg_ w3 hb_ hB_;have N32 := Aside0.mk (show b3 ≠ b2 by rw [hg_];have := box_lt BL2.out;omega);have N31 := Aside0.mk (show b3 ≠ b1 by rw [hg_];have := box_lt BK2.out;omega);have GE3 := Aside0.mk (show w.heap.size ≤ b3 by rw [hg_];exact below_size HB2.out);have HB3 := Aside0.mk (below_step HB2.out hB_);have BK3 := Aside0.mk (box_below BK2.out hB_);have BL3 := Aside0.mk (box_below BL2.out hB_);have BM3 := Aside0.mk (show IsBox .u8 60 w3 b3 (List.replicate 6 0) from hb_);clear hb_ hB_ hg_) | ((with_reducible refine gate_store (t := 60) (p := 3) rfl ?_);refine box_store (k := .u8) (t := 60) (b := b3) (xs := (List.replicate 6 0)) (ys := (List.replicate 6 0)) rfl rfl rfl rfl rfl BM3.out rfl HIT.out ?_;intro w4 hw_;have BK4 := Aside0.mk (show IsBox .u8 68 w4 b1 xs by rw [hw_];exact box_apart BK3.out N31.out.symm _);have BL4 := Aside0.mk (show IsBox .u8 60 w4 b2 (List.replicate 6 0) by rw [hw_];exact box_apart BL3.out N32.out.symm _);have BM4 := Aside0.mk (show IsBox .u8 60 w4 b3 (List.replicate 6 0) by rw [hw_];exact box_row BM3.out (List.replicate 6 0));have HB4 := Aside0.mk (show Below w.heap.size w w4 by rw [hw_];exact Go.below_setRow HB3.out GE3.out _);clear hw_))
 go_loopg [10] 7 (fun gg s10 wr => ∃ b : Nat,b ≤ 6 ∧ 6 - b ≤ gg ∧ s10 = .int .i64 b ∧ Aside0 (Below w.heap.size w wr) ∧ Aside0 (IsBox .u8 68 wr b1 xs) ∧ Aside0 (IsBox .u8 60 wr b2 (List.replicate 6 0)) ∧ Aside0 (IsBox .u8 60 wr b3 ((List.range b).map (oneB xs) ++ List.replicate (6 - b) 0)))
 case atStart => exact ⟨0,by omega,by omega,rfl,HB4,BK4,BL4,BM4⟩
 case round =>
  clear HB HB1 HB2 HB3 HB4 BK1 BK2 BK3 BK4 BL2 BL3 BM3 BL4 BM4;obtain ⟨b,hb,hg,rfl,HBr,BKr,BLr,BMr⟩ := hrel
  by_cases hlt : b < 6
  ·have hltz : (b : Int) < 6 := by omega
   have e1 : Int.tmod (b : Int) 3 = ((b % 3 : Nat) : Int) := rfl;have e3 : Int.tdiv (b : Int) 3 = ((b / 3 : Nat) : Int) := rfl
   have g1 : b % 3 < 3 := by omega
   have g3 : b / 3 < 2 := by omega
   have H4 := Aside0.mk (impl_Flag_blur.four b);generalize b % 3 = bm at *;generalize b / 3 = bd at *
   go_wp2_with (first | ((with_reducible refine gate_dst (N := 6) rfl ?_);refine box_event ?hg (N := 6) ?hd (cs := (nums .i64 (List.replicate 6 0)).toArray) (t := 133) ?hr ?_;(case hd => rfl);(case hg => rfl);(case hr => first | (go_simp;done) | (go_simp;rfl));intro b6 hg_ w6 hb_ hB_;have N61 := Aside0.mk (show b1 ≠ b6 by rw [hg_];have := box_lt BKr.out;omega);have N62 := Aside0.mk (show b2 ≠ b6 by rw [hg_];have := box_lt BLr.out;omega);have N63 := Aside0.mk (show b3 ≠ b6 by rw [hg_];have := box_lt BMr.out;omega);have GE6 := Aside0.mk (show w.heap.size ≤ b6 by rw [hg_];exact below_size HBr.out);have HB6 := Aside0.mk (below_step HBr.out hB_);have BK6 := Aside0.mk (box_below BKr.out hB_);have BL6 := Aside0.mk (box_below BLr.out hB_);have BM6 := Aside0.mk (box_below BMr.out hB_);have BC6 := Aside0.mk (show IsBox .i64 133 w6 b6 (List.replicate 6 0) from hb_);clear hb_ hB_ hg_) | ((with_reducible refine gate_store (t := 133) (p := 6) rfl ?_);refine box_store (k := .i64) (t := 133) (b := b6) (xs := (List.replicate 6 0)) (ys := (List.replicate 6 0)) rfl rfl rfl rfl rfl BC6.out rfl HIC.out ?_;intro w7 hw_;have BK7 := Aside0.mk (show IsBox .u8 68 w7 b1 xs by rw [hw_];exact box_apart BK6.out N61.out _);have BL7 := Aside0.mk (show IsBox .u8 60 w7 b2 (List.replicate 6 0) by rw [hw_];exact box_apart BL6.out N62.out _);have BM7 := Aside0.mk (show IsBox .u8 60 w7 b3 ((List.range b).map (oneB xs) ++ List.replicate (6 - b) 0) by rw [hw_];exact box_apart BM6.out N63.out _);have BC7 := Aside0.mk (show IsBox .i64 133 w7 b6 (cntB xs b 0) by rw [hw_];exact box_row BC6.out (List.replicate 6 0));have HB7 := Aside0.mk (show Below w.heap.size w w7 by rw [hw_];exact Go.below_setRow HB6.out GE6.out _);clear hw_) | ((with_reducible refine gate_dst (N := 29) rfl ?_);refine slice_event ?hg (N := 29) ?hd (k := .i64) (xs := [2 * (bm : Int) + 12 * (bd : Int),2 * (bm : Int) + 12 * (bd : Int) + 1,2 * (bm : Int) + 12 * (bd : Int) + 6,2 * (bm : Int) + 12 * (bd : Int) + 6 + 1]) (t := 3) ?hr ?_;(case hd => rfl);(case hg => rfl);(case hr => first | (go_simp;done) | (go_simp;rfl));intro bs hg_ w8 hbx hB_;have HB8 := Aside0.mk (below_step HB7.out hB_);have BK8 := Aside0.mk (box_below BK7.out hB_);have BL8 := Aside0.mk (box_below BL7.out hB_);have BM8 := Aside0.mk (box_below BM7.out hB_);have BC8 := Aside0.mk (box_below BC7.out hB_);have NS8 := Aside0.mk (show bs ≠ b6 by rw [hg_];have := box_lt BC7.out;omega);rw [H4.out] at hbx;have BS8 := Aside0.mk hbx;clear hbx hB_ hg_))
   clear HB6 HB7 BK6 BK7 BL6 BL7 BM6 BM7 BC6 BC7
   go_loopg [31] 5 (fun gg s31 wr => ∃ k : Nat,k ≤ 4 ∧ 4 - k ≤ gg ∧ s31 = .int .i64 k ∧ Aside0 (Below w.heap.size w wr) ∧ Aside0 (IsBox .u8 68 wr b1 xs) ∧ Aside0 (IsBox .u8 60 wr b2 (List.replicate 6 0)) ∧ Aside0 (IsBox .u8 60 wr b3 ((List.range b).map (oneB xs) ++ List.replicate (6 - b) 0)) ∧ Aside0 (IsBox .i64 133 wr b6 (cntB xs b k)) ∧ Aside0 (IsBox .i64 3 wr bs ((List.range 4).map fun i => ((posB b i : Nat) : Int))))
   case atStart => exact ⟨0,by omega,by omega,rfl,HB8,BK8,BL8,BM8,BC8,BS8⟩
   case round =>
    clear HBr BKr BLr BMr HB8 BK8 BL8 BM8 BC8 BS8;obtain ⟨k,hk,hg2,rfl,HBr,BKr,BLr,BMr,BCr,BSr⟩ := hrel
    by_cases hlk : k < 4
    ·have hlkz : (k : Int) < 4 := by omega
     have HPL := Aside0.mk (posB_lt hlt hlk);have c0 := box_at BSr.out (j := k) (by simp;omega);rw [show ((List.range 4).map fun i => ((posB b i : Nat) : Int))[k]'(by simp;omega) = ((posB b k : Nat) : Int) by simp] at c0;have c1 := box_at BKr.out (j := posB b k) (by rw [hx];exact HPL.out);have hv := HV.out _ HPL.out;rw [show xs[posB b k]'(by rw [hx];exact HPL.out) = xs.getD (posB b k) 0 by rw [List.getD_eq_getElem?_getD,List.getElem?_eq_getElem (by rw [hx];exact HPL.out)];rfl] at c1;have HN := Aside0.mk (show cntB xs b (k + 1) = (cntB xs b k).set (xs.getD (posB b k) 0).toNat ((cntB xs b k).getD (xs.getD (posB b k) 0).toNat 0 + 1) from rfl);have HCL := Aside0.mk (cntB_len xs b k);have hle := cntB_le xs b k (xs.getD (posB b k) 0).toNat;generalize xs.getD (posB b k) 0 = c at *;generalize posB b k = q at *
     have hqz : (q : Int) < 24 := by have := HPL.out;omega
     obtain ⟨v,rfl⟩ : ∃ v : Nat,c = (v : Int) := ⟨c.toNat,by omega⟩;rw [Int.toNat_natCast] at HN hle
     have hvz : (v : Int) < 6 := by omega
     have c2 := box_at BCr.out (show v < (cntB xs b k).length by rw [HCL.out];omega);have f2 := box_frozen BCr.out v;rw [show (cntB xs b k).getD v 0 = (cntB xs b k)[v]'(by rw [HCL.out];omega) by rw [List.getD_eq_getElem?_getD,List.getElem?_eq_getElem (show v < (cntB xs b k).length by rw [HCL.out];omega)];rfl] at hle HN;have BCs := Aside0.mk (box_set BCr.out v ((cntB xs b k)[v]'(by rw [HCL.out];omega) + 1));have BKs := Aside0.mk (box_far BKr.out (p := ⟨b6,v,none⟩) N61.out (.int .i64 ((cntB xs b k)[v]'(by rw [HCL.out];omega) + 1)));have BLs := Aside0.mk (box_far BLr.out (p := ⟨b6,v,none⟩) N62.out (.int .i64 ((cntB xs b k)[v]'(by rw [HCL.out];omega) + 1)));have BMs := Aside0.mk (box_far BMr.out (p := ⟨b6,v,none⟩) N63.out (.int .i64 ((cntB xs b k)[v]'(by rw [HCL.out];omega) + 1)));have BSs := Aside0.mk (box_far BSr.out (p := ⟨b6,v,none⟩) NS8.out (.int .i64 ((cntB xs b k)[v]'(by rw [HCL.out];omega) + 1)));have HBs := Aside0.mk (below_set (j := v) (v := .int .i64 ((cntB xs b k)[v]'(by rw [HCL.out];omega) + 1)) (h := HBr.out) (hg := GE6.out));rw [← HN.out] at BCs;generalize (cntB xs b k)[v]'(by rw [HCL.out];omega) = u at *;have hu0 : 0 ≤ u := hle.1
     have hu1 : u ≤ 4 := by have := hle.2;omega
     clear hle HN HCL hv
     go_wp2
     go_roundg (4 - (k + 1))
     case measure => omega
     case rel => exact ⟨k + 1,by omega,by omega,by go_num,HBs,BKs,BLs,BMs,BCs,BSs⟩
    ·have : k = 4 := by omega
     subst this;have HCL := Aside0.mk (cntB_len xs b 4)
     have HMX : Aside0 (∀ (W : World),IsBox .i64 133 W b6 (cntB xs b 4) → Calls Try.prog 101 #[.slice (some ⟨b6,0,none⟩) 6 6] W fun e w' => e = .returned (.int .i64 (gmax (cntB xs b 4))) ∧ Drawn0 W w') := ⟨fun W hb_ => by
      have h_ := slices_Max_int_int.calls (some ⟨b6,0,none⟩) 6 (cntB xs b 4) (gmax (cntB xs b 4)) W (box_C hb_ (by rw [HCL.out];decide)) (by rw [HCL.out];exact Nat.le_refl _) (by unfold slices_Max_int_int.f;rw [if_pos (by rw [HCL.out];decide)]);rw [HCL.out] at h_
      exact h_⟩
     have HIX : Aside0 (∀ (W : World),IsBox .i64 133 W b6 (cntB xs b 4) → Calls Try.prog 100 #[.slice (some ⟨b6,0,none⟩) 6 6,.int .i64 (gmax (cntB xs b 4))] W fun e w' => e = .returned (.int .i64 (oneB xs b)) ∧ Drawn0 W w') := ⟨fun W hb_ => by
      have h_ := slices_Index_int_int.calls 100 (some ⟨b6,0,none⟩) 6 (cntB xs b 4) (gmax (cntB xs b 4)) (oneB xs b) W (box_C hb_ (by rw [HCL.out];decide)) (by rw [HCL.out];exact Nat.le_refl _) (impl_Flag_blur.first HCL.out);rw [HCL.out] at h_
      exact h_⟩
     have c3 := box_at BMr.out (j := b) (by simp;omega);have f3 := box_frozen BMr.out b;have HO := oneB_lt xs b;have HRP := Aside0.mk (range_put (oneB xs) hlt);generalize hov : oneB xs b = ov at *
     have em : ov % 256 = ov := by omega
     have em2 : IntKind.u8.wrap ov = ov := by
      simp only [IntKind.wrap,IntKind.signed,IntKind.bits]
      simp
      omega
     generalize gmax (cntB xs b 4) = gm at *;clear HCL HO
     go_wp2
     go_region_with (first | (go_at_call 101;refine (HMX.out _ (by exact BCr.out)).mono ?_;rintro e w' ⟨rfl,⟨nd,rfl⟩⟩) | (go_at_call 100;refine (HIX.out _ (by exact BCr.out)).mono ?_;rintro e w' ⟨rfl,⟨nd,rfl⟩⟩))
     (try simp only [em2])
     go_wp2
     go_roundg (6 - (b + 1))
     case measure => omega
     case rel => exact ⟨b + 1,by omega,by omega,by go_num,⟨by refine below_set (h := ?_) (hg := GE3.out);repeat (first | exact HBr.out | apply below_drew | apply pw_below_drewN | apply below_drew1)⟩,⟨box_far (show IsBox .u8 68 _ b1 xs from BKr.out) (p := ⟨b3,b,none⟩) N31.out.symm _⟩,⟨box_far (show IsBox .u8 60 _ b2 (List.replicate 6 0) from BLr.out) (p := ⟨b3,b,none⟩) N32.out.symm _⟩,⟨by rw [← HRP.out];exact box_set (show IsBox .u8 60 _ b3 _ from BMr.out) b ov⟩⟩
  ·have : b = 6 := by omega
   subst this
   have e6 : (List.range 6).map (oneB xs) ++ List.replicate (6 - 6) 0 = blurB xs := by simp [blurB]
   rw [e6] at BMr;have HLB := Aside0.mk (blurB_len xs);clear e6;obtain ⟨ys,hys⟩ : ∃ ys,ys = blurB xs := ⟨_,rfl⟩;rw [← hys] at BMr HLB;have HYS := Aside0.mk hys;clear hys
   go_wp2_with (first | ((with_reducible refine gate_dst (N := 51) rfl ?_);refine box_load (k := .u8) (t := 60) (b := b3) (xs := ys) rfl rfl rfl BMr.out Try.underlying60 rfl (by rw [HLB.out];exact HIT.out) ?_) | ((with_reducible refine gate_store (t := 60) (p := 2) rfl ?_);refine box_store (k := .u8) (t := 60) (b := b2) (xs := (List.replicate 6 0)) (ys := ys) rfl rfl rfl rfl rfl BLr.out (by rw [HLB.out];rfl) (by rw [HLB.out];exact HIT.out) ?_;intro w9 hw9;have BL9 := Aside0.mk (show IsBox .u8 60 w9 b2 ys by rw [hw9];exact box_row BLr.out ys);have HB9 := Aside0.mk (show Below w.heap.size w w9 by rw [hw9];exact Go.below_setRow HBr.out GE2.out _);clear hw9))
   refine bodyPost_ret (results_cell_row rfl _ _ b2 60 _ (0,0) _ rfl BL9.out Try.underlying60 rfl (by simpa [nums,HLB.out] using HIT.out)) rfl ?_;exact ⟨by rw [HYS.out],HB9.out⟩
theorem impl_Flag_blur.calls (a0_0 : Int) (a0_1 : Int) (a0_2 : Int) (a0_3 : Int) (a0_4 : Int) (a0_5 : Int) (a0_6 : Int) (a0_7 : Int) (a0_8 : Int) (a0_9 : Int) (a0_10 : Int) (a0_11 : Int) (a0_12 : Int) (a0_13 : Int) (a0_14 : Int) (a0_15 : Int) (a0_16 : Int) (a0_17 : Int) (a0_18 : Int) (a0_19 : Int) (a0_20 : Int) (a0_21 : Int) (a0_22 : Int) (a0_23 : Int) (r1 : Int) (r2 : Int) (r3 : Int) (r4 : Int) (r5 : Int) (r6 : Int) (w : World) (h : impl_Flag_blur.f a0_0 a0_1 a0_2 a0_3 a0_4 a0_5 a0_6 a0_7 a0_8 a0_9 a0_10 a0_11 a0_12 a0_13 a0_14 a0_15 a0_16 a0_17 a0_18 a0_19 a0_20 a0_21 a0_22 a0_23 = some (r1,r2,r3,r4,r5,r6)) :
  Calls Try.prog 80 #[.agg #[.int .u8 a0_0,.int .u8 a0_1,.int .u8 a0_2,.int .u8 a0_3,.int .u8 a0_4,.int .u8 a0_5,.int .u8 a0_6,.int .u8 a0_7,.int .u8 a0_8,.int .u8 a0_9,.int .u8 a0_10,.int .u8 a0_11,.int .u8 a0_12,.int .u8 a0_13,.int .u8 a0_14,.int .u8 a0_15,.int .u8 a0_16,.int .u8 a0_17,.int .u8 a0_18,.int .u8 a0_19,.int .u8 a0_20,.int .u8 a0_21,.int .u8 a0_22,.int .u8 a0_23]] w fun e w' => e = .returned (.agg #[.int .u8 r1,.int .u8 r2,.int .u8 r3,.int .u8 r4,.int .u8 r5,.int .u8 r6]) ∧ Below w.heap.size w w' := by
 unfold impl_Flag_blur.f at h
 by_cases hv : ([a0_0,a0_1,a0_2,a0_3,a0_4,a0_5,a0_6,a0_7,a0_8,a0_9,a0_10,a0_11,a0_12,a0_13,a0_14,a0_15,a0_16,a0_17,a0_18,a0_19,a0_20,a0_21,a0_22,a0_23] : List Int).all (fun c => decide (0 ≤ c) && decide (c < 6)) = true
 ·rw [if_pos hv] at h;simp only [Option.some.injEq,Prod.mk.injEq] at h;obtain ⟨rfl,rfl,rfl,rfl,rfl,rfl⟩ := h;exact impl_Flag_blur.core [a0_0,a0_1,a0_2,a0_3,a0_4,a0_5,a0_6,a0_7,a0_8,a0_9,a0_10,a0_11,a0_12,a0_13,a0_14,a0_15,a0_16,a0_17,a0_18,a0_19,a0_20,a0_21,a0_22,a0_23] rfl (fun x hx => by have h_ := List.all_eq_true.1 hv x hx;simpa using h_) w
 ·rw [if_neg hv] at h;cases h
end Go.Proofs.Ytgfknljhogfeaaa.G
end

section
namespace Go.Proofs.Ytgfknljhogfeaaa.G
open Go.RowKit Go.Proofs.YtgfknljhogfeaaaW.PrintWords Go.Proofs.YtgfknljhogfeaaaW.PrintLast Go.Proofs.YtgfknljhogfeaaaW.PrintMore
attribute [local go_sem] max2_int min2_int max_two min_two max_three min_three max_four min_four
set_option linter.unusedVariables false
set_option linter.unusedSimpArgs false
def impl_Code_sights.l0 : Nat → List (S61) → List Int → Int → Int → List (S68) → List (List Int) → Option ((List (S61)))
 | 0,_,_,_,_,_,_ => none
 | k + 1,x5,x9,x10,x11,x102000,x102001 => if x11 < x10 then (if 0 ≤ x11 then (if x11 < (x9.length : Int) then (if 0 ≤ (rd x9 x11) then (if (rd x9 x11) < (x102000.length : Int) then ((impl_Flag_blur.f ((rd_T68 x102000 (rd x9 x11)).f0) ((rd_T68 x102000 (rd x9 x11)).f1) ((rd_T68 x102000 (rd x9 x11)).f2) ((rd_T68 x102000 (rd x9 x11)).f3) ((rd_T68 x102000 (rd x9 x11)).f4) ((rd_T68 x102000 (rd x9 x11)).f5) ((rd_T68 x102000 (rd x9 x11)).f6) ((rd_T68 x102000 (rd x9 x11)).f7) ((rd_T68 x102000 (rd x9 x11)).f8) ((rd_T68 x102000 (rd x9 x11)).f9) ((rd_T68 x102000 (rd x9 x11)).f10) ((rd_T68 x102000 (rd x9 x11)).f11) ((rd_T68 x102000 (rd x9 x11)).f12) ((rd_T68 x102000 (rd x9 x11)).f13) ((rd_T68 x102000 (rd x9 x11)).f14) ((rd_T68 x102000 (rd x9 x11)).f15) ((rd_T68 x102000 (rd x9 x11)).f16) ((rd_T68 x102000 (rd x9 x11)).f17) ((rd_T68 x102000 (rd x9 x11)).f18) ((rd_T68 x102000 (rd x9 x11)).f19) ((rd_T68 x102000 (rd x9 x11)).f20) ((rd_T68 x102000 (rd x9 x11)).f21) ((rd_T68 x102000 (rd x9 x11)).f22) ((rd_T68 x102000 (rd x9 x11)).f23)).bind fun bt107 => (if x5.length < 23456248059221 then (impl_Code_sights.l0 k (x5 ++ [(⟨bt107.1,bt107.2.1,bt107.2.2.1,bt107.2.2.2.1,bt107.2.2.2.2.1,bt107.2.2.2.2.2⟩ : S61)]) x9 x10 (wrap64 (x11 + 1)) x102000 x102001) else (none))) else (none)) else (none)) else (none)) else (none)) else (some x5)
def impl_Code_sights.f (k : Nat) (l0_0 : List (S68)) (l0_1 : List (List Int)) (l1 : List Int) : Option ((List (S61))) := impl_Code_sights.l0 k (([] : List (S61))) l1 (l1.length : Int) 0 l0_0 l0_1
set_option maxHeartbeats 8000000 in
set_option maxRecDepth 100000 in
theorem impl_Code_sights.calls (k : Nat) (A0_0 : Option Addr) (c0_0 : Nat) (l0_0 : List (S68)) (A0_1 : Option Addr) (c0_1 : Nat) (l0_1 : List (List Int)) (A1 : Option Addr) (c1 : Nat) (l1 : List Int) (r : List (S61)) (w : World) (hr0_0 : Kd.C k68 w A0_0 l0_0.length l0_0) (hc0_0 : l0_0.length ≤ c0_0) (hr0_1 : Kd.C (Kd.slice 5 (Kd.int .u8)) w A0_1 l0_1.length l0_1) (hc0_1 : l0_1.length ≤ c0_1) (hr1 : Kd.C (Kd.int .u8) w A1 l1.length l1) (hc1 : l1.length ≤ c1) (h : impl_Code_sights.f k l0_0 l0_1 l1 = some r) :
  Calls Try.prog 47 #[.agg #[.slice A0_0 l0_0.length c0_0,.slice A0_1 l0_1.length c0_1],.slice A1 l1.length c1] w fun e w' => ∃ v0_ : Value,e = .returned (v0_) ∧ Kd.R k61 61 w' w.heap.size (fun _ => True) v0_ r ∧ Below w.heap.size w w' := by
 have hu33 := Try.underlying33;have HR0_0 := Aside0.mk hr0_0;have HC0_0 := Aside0.mk hc0_0;clear hr0_0 hc0_0;have HR0_1 := Aside0.mk hr0_1;have HC0_1 := Aside0.mk hc0_1;clear hr0_1 hc0_1;have HR1 := Aside0.mk hr1;have HC1 := Aside0.mk hc1;clear hr1 hc1;have HB := Aside0.mk (Below.refl w.heap.size w);have H : (impl_Code_sights.l0 k (([] : List (S61))) l1 (l1.length : Int) 0 l0_0 l0_1) = some r := h;clear h;obtain ⟨y102,hy102⟩ : ∃ y_ : List (S61),y_ = (([] : List (S61))) := ⟨_,rfl⟩
 replace H : (impl_Code_sights.l0 k y102 l1 (l1.length : Int) 0 l0_0 l0_1) = some r := by first | (rw [hy102];with_reducible exact H) | (have H2_ := (Option.bind_some _ _).symm.trans H;rw [hy102];with_reducible exact H2_) | (have H2_ := (Option.bind_some _ _).symm.trans H;with_reducible exact H2_) | with_reducible exact H | (rw [hy102];exact H) | exact H
 have Ny102 := Aside0.mk hy102;clear hy102;have H' := Aside0.mk H;clear H
 go_enter Try.func47,Try.ntmps47
 go_wp2_with (first | ((with_reducible refine gate_dst (N := 2) rfl ?_);refine box_event ?hg (N := 2) ?hd (cs := #[.slice A0_0 l0_0.length c0_0,.slice A0_1 l0_1.length c0_1]) (t := 33) ?hr ?_;(case hd => rfl);(case hg => rfl);(case hr => first | (go_simp;done) | (go_simp;rfl));intro gb101 hg w3 hbox hb;have n0_ := Aside0.mk (below_step (by repeat (first | (with_reducible first | exact HB.out | apply below_alloc | apply pw_below_drewN | apply below_drew1) | exact HB.out)) hb);have n1_ := Aside0.mk (hbox);have n2_ := Aside0.mk ((by rw [hg];exact (below_size (by repeat (first | (with_reducible first | exact HB.out | apply below_alloc | apply pw_below_drewN | apply below_drew1) | exact HB.out))) : w.heap.size ≤ gb101));have n3_ := Aside0.mk ((by rw [hg];exact (below_size (by repeat (first | (with_reducible first | exact HB.out | apply below_alloc | apply pw_below_drewN | apply below_drew1) | exact HB.out))) : w.heap.size ≤ gb101));clear HB;have HB := n0_;have BK101 := n1_;have GW101 := n2_;have GE101 := n3_;clear n0_ n1_ n2_ n3_;clear hb hbox hg) | ((with_reducible refine gate_dst (N := 8) rfl ?_);refine Kd.R_lit k61 _ 61 ?hg (N := 8) ?hd (xs := ([] : List (S61))) (inner := []) (ok := fun _ => True) (okp := fun _ => True) ?hr ?hp (fun _ hk => hk) trivial (Below.refl _ _) (Nat.le_refl _) (by simp) ?_;(case hd => rfl);(case hg => rfl);(case hr => first | (go_simp;done) | (go_simp;rfl));(case hp => exact (Reps.none _ _));intro v103 w4 ho5 hb hg_ hnew_;clear hg_ hnew_;(first | rw [← Ny102.out] at ho5 | (simp only [Int.reduceToNat] at ho5;rw [← Ny102.out] at ho5));have n0_ := Aside0.mk (Kd.R_lower ho5 (below_size (by repeat (first | (with_reducible first | exact HB.out | apply below_alloc | apply pw_below_drewN | apply below_drew1 | refine below_set ?_ GE101.out) | exact HB.out))));have n1_ := Aside0.mk (blk_below (g := gb101) (o := .cells #[.slice A0_0 l0_0.length c0_0,.slice A0_1 l0_1.length c0_1] 33 (0,0)) (by (with_reducible repeat (first | refine blk_drewN ?_ _ | refine blk_drew ?_ | refine blk_alloc ?_ _));exact BK101.out) hb);have n2_ := Aside0.mk (below_step (by repeat (first | (with_reducible first | exact HB.out | apply below_alloc | apply pw_below_drewN | apply below_drew1 | refine below_set ?_ GE101.out) | exact HB.out)) hb);clear BK101;clear HB;have HO104 := n0_;have BK101 := n1_;have HB := n2_;clear n0_ n1_ n2_;clear hb ho5))
 go_loopg [5,11] k (fun kq v5 v11 w' => ∃ (x5_1 : List (S61)) (x11_1 : Int),v11 = .int .i64 x11_1 ∧ Aside0 (impl_Code_sights.l0 kq x5_1 l1 (l1.length : Int) x11_1 l0_0 l0_1 = some r) ∧ Aside0 (kq ≤ k) ∧ Aside0 (Kd.R k61 61 w' w.heap.size (fun _ => True) v5 x5_1) ∧ Aside0 (w'.heap[gb101]? = some (.cells #[(.slice A0_0 l0_0.length c0_0),(.slice A0_1 l0_1.length c0_1)] 33 (0,0))) ∧ Aside0 (Below w.heap.size w w'))
 case atStart => exact ⟨(y102),(0),(by first | rfl | (simp only [IntKind.wrap_i64,wrap64];done) | (simp;done) | (simp [*];done)),H',⟨Nat.le_refl _⟩,⟨by (with_reducible repeat (first | apply Kd.R_alloc | apply Kd.R_drewN | apply Kd.R_drew));exact HO104.out⟩,⟨by (with_reducible repeat (first | refine blk_drewN ?_ _ | refine blk_drew ?_ | refine blk_alloc ?_ _));exact BK101.out⟩,⟨by repeat (first | (with_reducible first | exact HB.out | apply below_alloc | apply pw_below_drewN | apply below_drew1 | refine below_set ?_ GE101.out) | exact HB.out)⟩⟩
 case round =>
  clear H';(try clear c1);(try clear p2);(try clear c4);obtain ⟨x5_1,x11_1,rfl,HA,HK1,HO_5,BK101,HB⟩ := hrel
  cases gk with
  | zero => exact absurd HA.out (by simp [impl_Code_sights.l0])
  | succ k1 =>
   have H := HA.out;clear HA;simp only [impl_Code_sights.l0] at H
   by_cases c6 : x11_1 < (l1.length : Int)
   ·rw [if_pos c6] at H;have c6b0 : decide (x11_1 < (l1.length : Int)) = true := decide_eq_true c6;clear c6
    by_cases c7 : 0 ≤ x11_1
    ·rw [if_pos c7] at H;have c7b0 : decide (0 ≤ x11_1) = true := decide_eq_true c7;clear c7
     by_cases c8 : x11_1 < (l1.length : Int)
     ·rw [if_pos c8] at H;have c8b0 : decide (x11_1 < (l1.length : Int)) = true := decide_eq_true c8;clear c8
      by_cases c9 : 0 ≤ (rd l1 x11_1)
      ·rw [if_pos c9] at H;have c9b0 : decide (0 ≤ (rd l1 x11_1)) = true := decide_eq_true c9;clear c9
       by_cases c10 : (rd l1 x11_1) < (l0_0.length : Int)
       ·rw [if_pos c10] at H;have c10b0 : decide ((rd l1 x11_1) < (l0_0.length : Int)) = true := decide_eq_true c10;clear c10;replace H := Option.bind_eq_some_iff.mp H;obtain ⟨⟨t107,t108,t109,t110,t111,t112⟩,A110,H⟩ := H;replace H : (if x5_1.length < 23456248059221 then (impl_Code_sights.l0 k1 (x5_1 ++ [(⟨t107,t108,t109,t110,t111,t112⟩ : S61)]) l1 (l1.length : Int) (wrap64 (x11_1 + 1)) l0_0 l0_1) else (none)) = some r := H;have A11 := Aside0.mk A110;clear A110
        by_cases c12 : x5_1.length < 23456248059221
        ·rw [if_pos c12] at H;have LMc12 := Aside0.mk c12;clear c12;obtain ⟨y113,hy113⟩ : ∃ y_ : List (S61),y_ = (x5_1 ++ [(⟨t107,t108,t109,t110,t111,t112⟩ : S61)]) := ⟨_,rfl⟩
         replace H : (impl_Code_sights.l0 k1 y113 l1 (l1.length : Int) (wrap64 (x11_1 + 1)) l0_0 l0_1) = some r := by first | (rw [hy113];with_reducible exact H) | (have H2_ := (Option.bind_some _ _).symm.trans H;rw [hy113];with_reducible exact H2_) | (have H2_ := (Option.bind_some _ _).symm.trans H;with_reducible exact H2_) | with_reducible exact H | (rw [hy113];exact H) | exact H
         have Ny113 := Aside0.mk hy113;clear hy113;have H' := Aside0.mk H;clear H;have p105 : 0 ≤ (x11_1 : Int) := of_decide_eq_true (by first | (with_reducible assumption) | assumption);have q105 : x11_1 < (l1.length : Int) := of_decide_eq_true (by first | (with_reducible assumption) | assumption);obtain ⟨ad105,e105,hx105_0⟩ := Kd.at_int HR1.out x11_1 p105 q105;cases e105;replace hx105_0 := (HB.out.cell (World.block_lt_of_cell? w _ hx105_0)).trans hx105_0;replace p105 := eq_true p105;replace q105 := eq_true q105;have hcz13_0 : wr.cell? ⟨gb101,0,none⟩ = some (.slice A0_0 l0_0.length c0_0) := (blk_cell BK101.out 0).trans rfl;have hcz13_1 : wr.cell? ⟨gb101,1,none⟩ = some (.slice A0_1 l0_1.length c0_1) := (blk_cell BK101.out 1).trans rfl;have hfz13_0 := blk_frozen BK101.out 0;have hfz13_1 := blk_frozen BK101.out 1;have p106 : 0 ≤ ((rd l1 x11_1) : Int) := of_decide_eq_true (by first | (with_reducible assumption) | assumption);have q106 : (rd l1 x11_1) < (l0_0.length : Int) := of_decide_eq_true (by first | (with_reducible assumption) | assumption);obtain ⟨ad106,e106,hrow_⟩ := row_T68 HR0_0.out (rd l1 x11_1) p106 q106;cases e106;have HRW106 : Aside0 (RowAt68 _ (ad106.add (((rd l1 x11_1)).toNat * 24)) _) := ⟨row_below68 hrow_ HB.out⟩;clear hrow_;replace p106 := eq_true p106;replace q106 := eq_true q106
         go_wp2_with (first | ((with_reducible refine gate_load (t := 68) rfl ?_);refine load_T68 rfl rfl (ad106.add (((rd l1 x11_1)).toNat * 24)) rfl HRW106.out Try.underlying68 size68 ?_) | ((with_reducible refine gate_callee (f := 80) rfl ?_);refine goesL_ (some 21) rfl rfl Try.func80 (by kernel_rfl) rfl #[.agg #[.int .u8 ((rd_T68 l0_0 (rd l1 x11_1)).f0),.int .u8 ((rd_T68 l0_0 (rd l1 x11_1)).f1),.int .u8 ((rd_T68 l0_0 (rd l1 x11_1)).f2),.int .u8 ((rd_T68 l0_0 (rd l1 x11_1)).f3),.int .u8 ((rd_T68 l0_0 (rd l1 x11_1)).f4),.int .u8 ((rd_T68 l0_0 (rd l1 x11_1)).f5),.int .u8 ((rd_T68 l0_0 (rd l1 x11_1)).f6),.int .u8 ((rd_T68 l0_0 (rd l1 x11_1)).f7),.int .u8 ((rd_T68 l0_0 (rd l1 x11_1)).f8),.int .u8 ((rd_T68 l0_0 (rd l1 x11_1)).f9),.int .u8 ((rd_T68 l0_0 (rd l1 x11_1)).f10),.int .u8 ((rd_T68 l0_0 (rd l1 x11_1)).f11),.int .u8 ((rd_T68 l0_0 (rd l1 x11_1)).f12),.int .u8 ((rd_T68 l0_0 (rd l1 x11_1)).f13),.int .u8 ((rd_T68 l0_0 (rd l1 x11_1)).f14),.int .u8 ((rd_T68 l0_0 (rd l1 x11_1)).f15),.int .u8 ((rd_T68 l0_0 (rd l1 x11_1)).f16),.int .u8 ((rd_T68 l0_0 (rd l1 x11_1)).f17),.int .u8 ((rd_T68 l0_0 (rd l1 x11_1)).f18),.int .u8 ((rd_T68 l0_0 (rd l1 x11_1)).f19),.int .u8 ((rd_T68 l0_0 (rd l1 x11_1)).f20),.int .u8 ((rd_T68 l0_0 (rd l1 x11_1)).f21),.int .u8 ((rd_T68 l0_0 (rd l1 x11_1)).f22),.int .u8 ((rd_T68 l0_0 (rd l1 x11_1)).f23)]] rfl (by (try simp only [List.map_toArray,List.map_cons,List.map_nil]);first | done | rfl | (simp only [List.length_drop,List.length_take];rfl)) ?_;(with_reducible refine (impl_Flag_blur.calls ((rd_T68 l0_0 (rd l1 x11_1)).f0) ((rd_T68 l0_0 (rd l1 x11_1)).f1) ((rd_T68 l0_0 (rd l1 x11_1)).f2) ((rd_T68 l0_0 (rd l1 x11_1)).f3) ((rd_T68 l0_0 (rd l1 x11_1)).f4) ((rd_T68 l0_0 (rd l1 x11_1)).f5) ((rd_T68 l0_0 (rd l1 x11_1)).f6) ((rd_T68 l0_0 (rd l1 x11_1)).f7) ((rd_T68 l0_0 (rd l1 x11_1)).f8) ((rd_T68 l0_0 (rd l1 x11_1)).f9) ((rd_T68 l0_0 (rd l1 x11_1)).f10) ((rd_T68 l0_0 (rd l1 x11_1)).f11) ((rd_T68 l0_0 (rd l1 x11_1)).f12) ((rd_T68 l0_0 (rd l1 x11_1)).f13) ((rd_T68 l0_0 (rd l1 x11_1)).f14) ((rd_T68 l0_0 (rd l1 x11_1)).f15) ((rd_T68 l0_0 (rd l1 x11_1)).f16) ((rd_T68 l0_0 (rd l1 x11_1)).f17) ((rd_T68 l0_0 (rd l1 x11_1)).f18) ((rd_T68 l0_0 (rd l1 x11_1)).f19) ((rd_T68 l0_0 (rd l1 x11_1)).f20) ((rd_T68 l0_0 (rd l1 x11_1)).f21) ((rd_T68 l0_0 (rd l1 x11_1)).f22) ((rd_T68 l0_0 (rd l1 x11_1)).f23) t107 t108 t109 t110 t111 t112 _ A11.out).mono ?_);rintro e w14 ⟨rfl,hb⟩;refine ⟨_,rfl,?_⟩;have n0_ := Aside0.mk (Kd.R_below (by (with_reducible repeat (first | apply Kd.R_alloc | apply Kd.R_drewN | apply Kd.R_drew));exact HO_5.out) hb);have n1_ := Aside0.mk (blk_below (g := gb101) (o := .cells #[.slice (some ad106) l0_0.length c0_0,.slice A0_1 l0_1.length c0_1] 33 (0,0)) (by (with_reducible repeat (first | refine blk_drewN ?_ _ | refine blk_drew ?_ | refine blk_alloc ?_ _));exact BK101.out) hb);have n2_ := Aside0.mk (below_step (by repeat (first | (with_reducible first | exact HB.out | apply below_alloc | apply pw_below_drewN | apply below_drew1 | refine below_set ?_ GE101.out) | exact HB.out)) hb);clear HO_5;clear BK101;clear HB;have HO_5 := n0_;have BK101 := n1_;have HB := n2_;clear n0_ n1_ n2_;(try clear hb);(try clear hb2);(try clear hk);(try clear hi)) | ((with_reducible refine gate_builtin (b := .append) (xs := #[.tmp 15,.tmp 22]) rfl ?_);at_builtin;refine Kd.R_append k61 (w0 := w) w.heap.size rfl (.tmp 15) (.tmp 22) 27 61 (.agg #[(.int .u8 0),(.int .u8 0),(.int .u8 0),(.int .u8 0),(.int .u8 0),(.int .u8 0)]) 6 rfl Try.underlying27 info61 rfl (by decide) (by omega) u5 x5_1 (⟨t107,t108,t109,t110,t111,t112⟩ : S61) [.int .u8 t107,.int .u8 t108,.int .u8 t109,.int .u8 t110,.int .u8 t111,.int .u8 t112] (fun _ => True) (fun _ => False) rfl rfl ?aP (fun _ hk => hk.elim) ?aF ?aO ?aB ?aS ?aL ?_;(case aP => exact k61_mkM _ _ _ (⟨t107,t108,t109,t110,t111,t112⟩ : S61));(case aB => exact (by repeat (first | (with_reducible first | exact HB.out | apply below_alloc | apply pw_below_drewN | apply below_drew1 | refine below_set ?_ GE101.out) | exact HB.out)));(case aF => exact (fun _ _ => trivial));(case aO => exact (by (with_reducible repeat (first | apply Kd.R_alloc | apply Kd.R_drewN | apply Kd.R_drew));exact HO_5.out));(case aS => exact (below_size (by repeat (first | (with_reducible first | exact HB.out | apply below_alloc | apply pw_below_drewN | apply below_drew1 | refine below_set ?_ GE101.out) | exact HB.out))));(case aL => have := LMc12.out;omega);intro v114 w15 ho hb hg hat;rw [← Ny113.out] at ho;have n0_ := Aside0.mk (blk_grown (g := gb101) (o := .cells #[.slice (some ad106) l0_0.length c0_0,.slice A0_1 l0_1.length c0_1] 33 (0,0)) (by (with_reducible repeat (first | refine blk_drewN ?_ _ | refine blk_drew ?_ | refine blk_alloc ?_ _));exact BK101.out) hg (Kd.R_ne HO_5.out BK101.out (by decide)));have n1_ := Aside0.mk (hb);have n2_ := Aside0.mk (ho);clear BK101;clear HB;clear HO_5;have BK101 := n0_;have HB := n1_;have HO115 := n2_;clear n0_ n1_ n2_;clear ho hb hg hat))
         go_roundg k1
         case measure => have := HK1.out;omega
         case rel => exact ⟨(y113),(wrap64 (x11_1 + 1)),(by first | rfl | (simp only [IntKind.wrap_i64,wrap64];done) | (simp;done) | (simp [*];done)),H',⟨by have := HK1.out;omega⟩,⟨by (with_reducible repeat (first | apply Kd.R_alloc | apply Kd.R_drewN | apply Kd.R_drew));exact HO115.out⟩,⟨by (with_reducible repeat (first | refine blk_drewN ?_ _ | refine blk_drew ?_ | refine blk_alloc ?_ _));exact BK101.out⟩,⟨by repeat (first | (with_reducible first | exact HB.out | apply below_alloc | apply pw_below_drewN | apply below_drew1 | refine below_set ?_ GE101.out) | exact HB.out)⟩⟩
        ·rw [if_neg c12] at H;exact absurd H (by simp)
       ·rw [if_neg c10] at H;exact absurd H (by simp)
      ·rw [if_neg c9] at H;exact absurd H (by simp)
     ·rw [if_neg c8] at H;exact absurd H (by simp)
    ·rw [if_neg c7] at H;exact absurd H (by simp)
   ·rw [if_neg c6] at H;have c6b0 : decide (x11_1 < (l1.length : Int)) = false := decide_eq_false c6;clear c6;obtain rfl := Option.some.inj H
    go_wp2
    go_ret
    exact ⟨_,by first | rfl | (simp [errW_none,errW_some,IntKind.wrap_i64,wrap64];done) | (simp [errW_none,errW_some] <;> rfl) | (simp [*,errW_none,errW_some] <;> rfl),by (with_reducible repeat (first | apply Kd.R_alloc | apply Kd.R_drewN | apply Kd.R_drew));exact HO_5.out,by repeat (first | (with_reducible first | exact HB.out | apply below_alloc | apply pw_below_drewN | apply below_drew1 | refine below_set ?_ GE101.out) | exact HB.out)⟩
end Go.Proofs.Ytgfknljhogfeaaa.G
end

section
namespace Go.Proofs.Ytgfknljhogfeaaa.G
open Go.RowKit Go.Proofs.YtgfknljhogfeaaaW.PrintWords Go.Proofs.YtgfknljhogfeaaaW.PrintLast Go.Proofs.YtgfknljhogfeaaaW.PrintMore
attribute [local go_sem] max2_int min2_int max_two min_two max_three min_three max_four min_four
set_option linter.unusedVariables false
set_option linter.unusedSimpArgs false
def anyO {α : Type} (p : α → Option Bool) (l : List α) : Option Bool := if l.all (fun x => (p x).isSome) = true then some (l.any (fun x => p x == some true)) else none
theorem anyO_some {α : Type} {p : α → Option Bool} {l : List α} {r : Bool} (h : anyO p l = some r) : (∀ x ∈ l, (p x).isSome = true) ∧ l.any (fun x => p x == some true) = r := by
  unfold anyO at h
  split at h
  · rename_i ha
    exact ⟨List.all_eq_true.1 ha, Option.some.inj h⟩
  · cases h
theorem allSome {α : Type} {p : α → Option Bool} {q : α → Bool} {l : List α} (h : ∀ x ∈ l, p x = some (q x)) : l.all (fun x => (p x).isSome) = true := List.all_eq_true.2 fun x hx => by rw [h x hx]; rfl
theorem someEq {α : Type} {p : α → Option Bool} {q : α → Bool} {l : List α} (h : ∀ x ∈ l, p x = some (q x)) : ∀ x ∈ l, (p x == some true) = q x := fun x hx => by rw [h x hx]; cases q x <;> rfl
theorem any_congr_ {α : Type} {p q : α → Bool} {l : List α} (h : ∀ x ∈ l, p x = q x) : l.any p = l.any q := by
  induction l with
  | nil => rfl
  | cons a l ih => simp [h a (by simp), ih (fun x hx => h x (by simp [hx]))]
theorem anyO_eq {α : Type} {p : α → Option Bool} {q : α → Bool} {l : List α} (h : ∀ x ∈ l, p x = some (q x)) : anyO p l = some (l.any q) := by
  unfold anyO
  rw [if_pos (allSome h), any_congr_ (someEq h)]
section
variable {P : Program} {ops : Array Oper} {Q : Exit → Act → World → Prop}
theorem goesLD_ {rest : List Oper} {oi : Oper} {a : Act} {w : World} (N : Option Tmp) (hd : oi.dst = N) (hg : oi.guard = none) {p : Operand} {f : FuncId} {fn : Func} {as_ : Array Operand} {ts : Array TypeId} (hf : P.funcs[f]? = some fn) (hname : (fn.name == "runtime.NumGoroutine") = false) (hb : fn.body.isSome = true) (lb args : Array Value)
    (hop : oi.op = .call { callee := .value p, args := as_, argTypes := ts }) (hp : a.eval p = .func (.func f) #[] lb) (hargs : as_.map a.eval ++ lb = args)
    (h : Calls P f args w fun e w' => ∃ v, e = .returned v ∧ wpList P ops Q rest (a.put N v) w') : wpList P ops Q (oi :: rest) a w := by
  refine wpList_plain hg fun K hK => ?_
  have he := Go.Proofs.YtgfknljhogfeaaaW.PrintLast.enters_ hf hname hb args w
  have hrun : (execOp a.eval oi).run P w = .ok (.enter f args) w := by
    unfold execOp
    simp [hop, resolve, hp, Deferred.ofValue, invoke, hargs, he]
  unfold Oper.wp
  rw [hrun, Oper.upon_enter]
  refine h.mono fun e w'' hh => ?_
  obtain ⟨v, rfl, hk⟩ := hh
  subst hd
  exact hK _ _ hk
theorem gate_calleeD {rest : List Oper} {o : Oper} {a : Act} {W : World} {p : Operand} {as_ : Array Operand} {ts : Array TypeId} (_ho : o.op = .call { callee := .value p, args := as_, argTypes := ts }) (h : wpList P ops Q (o :: rest) a W) : wpList P ops Q (o :: rest) a W := h
end
end Go.Proofs.Ytgfknljhogfeaaa.G
end

section
namespace Go.Proofs.Ytgfknljhogfeaaa.G
open Go.RowKit Go.Proofs.YtgfknljhogfeaaaW.PrintWords Go.Proofs.YtgfknljhogfeaaaW.PrintLast Go.Proofs.YtgfknljhogfeaaaW.PrintMore
attribute [local go_sem] max2_int min2_int max_two min_two max_three min_three max_four min_four
set_option linter.unusedVariables false
set_option linter.unusedSimpArgs false
def impl_size_uint8.f (l0 : List Int) : Option (Int) := some (l0.length : Int)
set_option maxHeartbeats 8000000 in
set_option maxRecDepth 100000 in
theorem impl_size_uint8.calls (A0 : Option Addr) (c0 : Nat) (l0 : List Int) (r : Int) (w : World) (hr0 : Kd.C (Kd.int .u8) w A0 l0.length l0) (hc0 : l0.length ≤ c0) (h : impl_size_uint8.f l0 = some r) :
  Calls Try.prog 110 #[.slice A0 l0.length c0] w fun e w' => e = .returned (.int .i64 r) ∧ Drawn0 w w' := by
 have HR0 := Aside0.mk hr0;have HC0 := Aside0.mk hc0;clear hr0 hc0;have H : (some (l0.length : Int)) = some r := h;clear h;obtain rfl := Option.some.inj H
 go_enter Try.func110,Try.ntmps110
 go_wp2
 go_ret
 exact ⟨by first | rfl | (simp only [IntKind.wrap_i64,wrap64];done) | (simp;done) | (simp [*];done),by repeat (first | exact Drawn0.refl _ | apply Drawn0.step)⟩
end Go.Proofs.Ytgfknljhogfeaaa.G
end

section
namespace Go.Proofs.Ytgfknljhogfeaaa.G
open Go.RowKit Go.Proofs.YtgfknljhogfeaaaW.PrintWords Go.Proofs.YtgfknljhogfeaaaW.PrintLast Go.Proofs.YtgfknljhogfeaaaW.PrintMore
attribute [local go_sem] max2_int min2_int max_two min_two max_three min_three max_four min_four
set_option linter.unusedVariables false
set_option linter.unusedSimpArgs false
def impl_within.f (a0 : Int) (a1 : Int) (a2 : Int) : Option (Bool) := if a1 ≤ a0 then (some (decide (a0 ≤ a2))) else (some false)
set_option maxHeartbeats 8000000 in
set_option maxRecDepth 100000 in
theorem impl_within.calls (a0 : Int) (a1 : Int) (a2 : Int) (r : Bool) (w : World) (h : impl_within.f a0 a1 a2 = some r) :
  Calls Try.prog 45 #[.int .i64 a0,.int .i64 a1,.int .i64 a2] w fun e w' => e = .returned (.bool r) ∧ Drawn0 w w' := by
 have H : (if a1 ≤ a0 then (some (decide (a0 ≤ a2))) else (some false)) = some r := h;clear h
 by_cases c4 : a1 ≤ a0
 ·rw [if_pos c4] at H;have c4b0 : decide (a1 ≤ a0) = true := decide_eq_true c4;clear c4;obtain rfl := Option.some.inj H
  go_enter Try.func45,Try.ntmps45
  go_wp2
  go_ret
  exact ⟨by first | rfl | (simp only [IntKind.wrap_i64,wrap64];done) | (simp;done) | (simp [*];done),by repeat (first | exact Drawn0.refl _ | apply Drawn0.step)⟩
 ·rw [if_neg c4] at H;have c4b0 : decide (a1 ≤ a0) = false := decide_eq_false c4;clear c4;obtain rfl := Option.some.inj H
  go_enter Try.func45,Try.ntmps45
  go_wp2
  go_ret
  exact ⟨by first | rfl | (simp only [IntKind.wrap_i64,wrap64];done) | (simp;done) | (simp [*];done),by repeat (first | exact Drawn0.refl _ | apply Drawn0.step)⟩
end Go.Proofs.Ytgfknljhogfeaaa.G
end

section
namespace Go.Proofs.Ytgfknljhogfeaaa.G
open Go.RowKit Go.Proofs.YtgfknljhogfeaaaW.PrintWords Go.Proofs.YtgfknljhogfeaaaW.PrintLast Go.Proofs.YtgfknljhogfeaaaW.PrintMore
attribute [local go_sem] max2_int min2_int max_two min_two max_three min_three max_four min_four
set_option linter.unusedVariables false
set_option linter.unusedSimpArgs false
def impl_Word_isWord_1.f (a0 : Int) (a1 : Int) : Option (Bool) := some (decide ((wrap64 (a0)) ≥ (mn a1 37)))
set_option maxHeartbeats 8000000 in
set_option maxRecDepth 100000 in
theorem impl_Word_isWord_1.calls (a0 : Int) (a1 : Int) (b1 : Nat) (r : Bool) (w : World) (hb1 : w.heap[b1]? = some (.cells #[.int .i64 a1] 2 (0,0))) (h : impl_Word_isWord_1.f a0 a1 = some r) :
  Calls Try.prog 112 #[.int .u8 a0,.pointer (some ⟨b1,0,none⟩)] w fun e w' => e = .returned (.bool r) ∧ Below w.heap.size w w' := by
 have BK1 := Aside0.mk hb1;clear hb1;have HB := Aside0.mk (Below.refl w.heap.size w);have H : (some (decide ((wrap64 (a0)) ≥ (mn a1 37)))) = some r := h;clear h;obtain ⟨ji3,hji3⟩ : ∃ j_ : Int,(mn a1 37) = j_ := ⟨_,rfl⟩
 replace H : (some (decide ((wrap64 (a0)) ≥ (ji3)))) = some r := by first | (rw [hji3] at H;exact H) | (simp only [hji3] at H ⊢;exact H)
 (try (have hji3h : ji3 ≤ 37 := by (rw [← hji3];unfold mn;(repeat' split) <;> omega)));(try (have hji3g : ji3 ≤ 64 := by omega));have hji3_ : (if 37 < a1 then 37 else a1) = ji3 := hji3;obtain rfl := Option.some.inj H;have hcz4_0 : w.cell? ⟨b1,0,none⟩ = some (.int .i64 a1) := (blk_cell BK1.out 0).trans rfl;have hfz4_0 := blk_frozen BK1.out 0
 go_enter Try.func112,Try.ntmps112
 go_wp2
 go_ret
 exact ⟨by first | rfl | (simp [errW_none,errW_some,IntKind.wrap_i64,wrap64];done) | (simp [errW_none,errW_some] <;> rfl) | (simp only [← hji3];first | rfl | (simp [errW_none,errW_some] <;> rfl)) | (simp [*,errW_none,errW_some] <;> rfl),by repeat (first | (with_reducible first | exact HB.out | apply below_alloc | apply pw_below_drewN | apply below_drew1 | refine below_set ?_ GE1.out) | exact HB.out)⟩
end Go.Proofs.Ytgfknljhogfeaaa.G
end

section
namespace Go.Proofs.Ytgfknljhogfeaaa.G
open Go.RowKit Go.Proofs.YtgfknljhogfeaaaW.PrintWords Go.Proofs.YtgfknljhogfeaaaW.PrintLast Go.Proofs.YtgfknljhogfeaaaW.PrintMore
attribute [local go_sem] max2_int min2_int max_two min_two max_three min_three max_four min_four
set_option linter.unusedVariables false
set_option linter.unusedSimpArgs false
set_option maxHeartbeats 2000000 in
theorem slices_IndexFunc_Word_uint8.calls (A0 : Option Addr) (c0 : Nat) (l0 : List (Int)) (g : Nat) (lb : Array Value) (eg : ∀ args w,(callFunc g args).run Try.prog w = .ok (.enter g args) w) (p : Int → Bool) (w : World)
  (hr0 : Kd.C (Kd.int .u8) w A0 l0.length l0) (hc0 : l0.length ≤ c0)
  (hp : ∀ W,Below w.heap.size w W → ∀ x ∈ l0,Calls Try.prog g (#[.int .u8 x] ++ lb) W fun e w' => e = .returned (.bool (p x)) ∧ Below w.heap.size w w') :
  Calls Try.prog 114 #[.slice A0 l0.length c0,.func (.func g) #[] lb] w fun e w' => e = .returned (.int .i64 (idxP p l0)) ∧ Below w.heap.size w w' := by
 have hl : l0.length ≤ 9223372036854775807 := hr0.2.1;have HR0 := Aside0.mk hr0;have HP := Aside0.mk hp;clear hr0 hp;generalize hn : l0.length = n at *;have Hn := Aside0.mk hn;clear hn
 go_enter Try.func114,Try.ntmps114
 go_wp2
 go_loopg [5,8] n (fun gg _ s8 wr => ∃ kk : Nat,kk ≤ n ∧ n - kk ≤ gg ∧ s8 = .int .i64 kk ∧ Aside0 (Below w.heap.size w wr) ∧ Aside0 (∀ j x,j < kk → l0[j]? = some x → p x = false))
 case atStart => exact ⟨0,Nat.zero_le _,by omega,rfl,⟨Below.refl _ w⟩,⟨fun j _ hj => absurd hj (Nat.not_lt_zero _)⟩⟩
 case round =>
  obtain ⟨kk,hkk,hg,rfl,BW,AF⟩ := hrel
  by_cases hlt : kk < n
  ·have hltz : (kk : Int) < (n : Int) := by omega
   obtain ⟨ad,e0,hx0⟩ := Kd.at_int HR0.out (kk : Int) (by omega) (by omega);cases e0;simp only [Int.toNat_natCast] at hx0;(try rw [show ((Kd.int .u8)).sz = 1 from rfl,Nat.mul_one,Nat.add_zero] at hx0);replace hx0 := (BW.out.cell (World.block_lt_of_cell? w _ hx0)).trans hx0
   have hm : l0[kk]? = some (rd l0 (kk : Int)) := by
    have h1 : kk < l0.length := by rw [Hn.out];exact hlt
    simp [rd,List.getD_eq_getElem?_getD,List.getElem?_eq_getElem h1]
   have hcall := HP.out wr BW.out (rd l0 (kk : Int)) (List.mem_of_getElem? hm);generalize hy : rd l0 (kk : Int) = y at *;clear hy;have HM := Aside0.mk hm;clear hm
   cases hq : p y with
   | true =>
    rw [hq] at hcall;have HQ := Aside0.mk hq;clear hq
    go_wp2_with (go_at_fn g;refine hcall.mono ?_;rintro e w' ⟨rfl,hb'⟩)
    go_ret
    refine ⟨?_,hb'⟩;rw [idxP_hit HM.out HQ.out AF.out];rfl
   | false =>
    rw [hq] at hcall;have HQ := Aside0.mk hq;clear hq
    go_wp2_with (go_at_fn g;refine hcall.mono ?_;rintro e w' ⟨rfl,hb'⟩)
    go_roundg (n - (kk + 1))
    case measure => omega
    case rel =>
     refine ⟨kk + 1,by omega,by omega,by go_num,⟨hb'⟩,⟨fun j x hj hx => ?_⟩⟩
     by_cases e : j = kk
     ·subst e;rw [HM.out] at hx;cases hx;exact HQ.out
     ·exact AF.out j x (by omega) hx
  ·have hltz : ¬ (kk : Int) < (n : Int) := by omega
   have : kk = n := by omega
   subst this
   go_wp2
   go_ret
   refine ⟨?_,BW.out⟩
   rw [idxP_miss (fun x hx => by
    obtain ⟨j,hj,rfl⟩ := List.mem_iff_getElem.1 hx
    exact AF.out j _ (by rw [← Hn.out];exact hj) (List.getElem?_eq_getElem hj))]
   rfl
end Go.Proofs.Ytgfknljhogfeaaa.G
end

section
namespace Go.Proofs.Ytgfknljhogfeaaa.G
open Go.RowKit Go.Proofs.YtgfknljhogfeaaaW.PrintWords Go.Proofs.YtgfknljhogfeaaaW.PrintLast Go.Proofs.YtgfknljhogfeaaaW.PrintMore
attribute [local go_sem] max2_int min2_int max_two min_two max_three min_three max_four min_four
set_option linter.unusedVariables false
set_option linter.unusedSimpArgs false
set_option maxHeartbeats 2000000 in
theorem slices_ContainsFunc_Word_uint8.calls (A0 : Option Addr) (c0 : Nat) (l0 : List (Int)) (g : Nat) (lb : Array Value) (eg : ∀ args w,(callFunc g args).run Try.prog w = .ok (.enter g args) w) (p : Int → Bool) (w : World)
  (hr0 : Kd.C (Kd.int .u8) w A0 l0.length l0) (hc0 : l0.length ≤ c0)
  (hp : ∀ W,Below w.heap.size w W → ∀ x ∈ l0,Calls Try.prog g (#[.int .u8 x] ++ lb) W fun e w' => e = .returned (.bool (p x)) ∧ Below w.heap.size w w') :
  Calls Try.prog 111 #[.slice A0 l0.length c0,.func (.func g) #[] lb] w fun e w' => e = .returned (.bool (l0.any p)) ∧ Below w.heap.size w w' := by
 have H := Aside0.mk (slices_IndexFunc_Word_uint8.calls A0 c0 l0 g lb eg p w hr0 hc0 hp);rw [← idxP_nonneg];clear hp hr0 eg
 go_enter Try.func111,Try.ntmps111
 go_wp2_with (go_at_call 114;refine H.out.mono ?_;rintro e w' ⟨rfl,hb'⟩)
 go_ret
 exact ⟨rfl,hb'⟩
end Go.Proofs.Ytgfknljhogfeaaa.G
end

section
namespace Go.Proofs.Ytgfknljhogfeaaa.G
open Go.RowKit Go.Proofs.YtgfknljhogfeaaaW.PrintWords Go.Proofs.YtgfknljhogfeaaaW.PrintLast Go.Proofs.YtgfknljhogfeaaaW.PrintMore
attribute [local go_sem] max2_int min2_int max_two min_two max_three min_three max_four min_four
set_option linter.unusedVariables false
set_option linter.unusedSimpArgs false
def slices_ContainsFunc_Word_uint8__impl_Word_isWord_1.f (l0 : List (Int)) (a1 : Int) : Option (Bool) := anyO (fun x => impl_Word_isWord_1.f x a1) l0
set_option maxHeartbeats 2000000 in
theorem slices_ContainsFunc_Word_uint8__impl_Word_isWord_1.calls (A0 : Option Addr) (c0 : Nat) (l0 : List (Int)) (a1 : Int) (b1 : Nat) (r : Bool) (w : World) (hr0 : Kd.C (Kd.int .u8) w A0 l0.length l0) (hc0 : l0.length ≤ c0) (hb1 : w.heap[b1]? = some (.cells #[.int .i64 a1] 2 (0,0))) (h : slices_ContainsFunc_Word_uint8__impl_Word_isWord_1.f l0 a1 = some r) :
  Calls Try.prog 111 #[.slice A0 l0.length c0,.func (.func 112) #[] #[.pointer (some ⟨b1,0,none⟩)]] w fun e w' => e = .returned (.bool r) ∧ Below w.heap.size w w' := by
 have eg := enters_of Try.func112 (by kernel_rfl) rfl;obtain ⟨hall,rfl⟩ := anyO_some h;refine slices_ContainsFunc_Word_uint8.calls A0 c0 l0 _ #[.pointer (some ⟨b1,0,none⟩)] eg (fun x => impl_Word_isWord_1.f x a1 == some true) w hr0 hc0 (fun W hW x hx => ?_);obtain ⟨b,hb⟩ := Option.isSome_iff_exists.1 (hall x hx);rw [show (#[.int .u8 x] ++ #[.pointer (some ⟨b1,0,none⟩)] : Array Value) = #[.int .u8 x,.pointer (some ⟨b1,0,none⟩)] from rfl]
 refine (impl_Word_isWord_1.calls x a1 b1 b W  (blk_below hb1 hW) hb).mono fun e w' ⟨he,hw⟩ => ⟨he.trans (by rw [hb];cases b <;> rfl),?_⟩
 exact below_then hW hW.size hw
end Go.Proofs.Ytgfknljhogfeaaa.G
end

section
namespace Go.Proofs.Ytgfknljhogfeaaa.G
open Go.RowKit Go.Proofs.YtgfknljhogfeaaaW.PrintWords Go.Proofs.YtgfknljhogfeaaaW.PrintLast Go.Proofs.YtgfknljhogfeaaaW.PrintMore
attribute [local go_sem] max2_int min2_int max_two min_two max_three min_three max_four min_four
set_option linter.unusedVariables false
set_option linter.unusedSimpArgs false
def impl_Word_isWord.f (l0 : List Int) (a1 : Int) : Option (Bool) := (impl_size_uint8.f l0).bind fun t102 => ((impl_within.f t102 1 8).bind fun t103 => (if t103 = true then ((slices_ContainsFunc_Word_uint8__impl_Word_isWord_1.f l0 a1).bind fun t104 => (some (!t104))) else (some false)))
set_option maxHeartbeats 8000000 in
set_option maxRecDepth 100000 in
theorem impl_Word_isWord.calls (A0 : Option Addr) (c0 : Nat) (l0 : List Int) (a1 : Int) (r : Bool) (w : World) (hr0 : Kd.C (Kd.int .u8) w A0 l0.length l0) (hc0 : l0.length ≤ c0) (h : impl_Word_isWord.f l0 a1 = some r) :
  Calls Try.prog 95 #[.slice A0 l0.length c0,.int .i64 a1] w fun e w' => e = .returned (.bool r) ∧ Below w.heap.size w w' := by
 have HR0 := Aside0.mk hr0;have HC0 := Aside0.mk hc0;clear hr0 hc0;have HB := Aside0.mk (Below.refl w.heap.size w);have H : ((impl_size_uint8.f l0).bind fun t102 => ((impl_within.f t102 1 8).bind fun t103 => (if t103 = true then ((slices_ContainsFunc_Word_uint8__impl_Word_isWord_1.f l0 a1).bind fun t104 => (some (!t104))) else (some false)))) = some r := h;clear h;replace H := Option.bind_eq_some_iff.mp H;obtain ⟨t102,A30,H⟩ := H;replace H : ((impl_within.f t102 1 8).bind fun t103 => (if t103 = true then ((slices_ContainsFunc_Word_uint8__impl_Word_isWord_1.f l0 a1).bind fun t104 => (some (!t104))) else (some false))) = some r := H;have A3 := Aside0.mk A30;clear A30;replace H := Option.bind_eq_some_iff.mp H;obtain ⟨t103,A40,H⟩ := H;replace H : (if t103 = true then ((slices_ContainsFunc_Word_uint8__impl_Word_isWord_1.f l0 a1).bind fun t104 => (some (!t104))) else (some false)) = some r := H;have A4 := Aside0.mk A40;clear A40
 by_cases c5 : t103 = true
 ·subst c5
  have H1 : ((slices_ContainsFunc_Word_uint8__impl_Word_isWord_1.f l0 a1).bind fun t104 => (some (!t104))) = some r := by rw [if_pos rfl] at H;exact H
  clear H;have H := H1;clear H1;replace H := Option.bind_eq_some_iff.mp H;obtain ⟨t104,A60,H⟩ := H;replace H : (some (!t104)) = some r := H;have A6 := Aside0.mk A60;clear A60;obtain rfl := Option.some.inj H
  go_enter Try.func95,Try.ntmps95
  go_wp2_with (first | ((with_reducible refine gate_dst (N := 3) rfl ?_);refine box_event ?hg (N := 3) ?hd (cs := #[.int .i64 a1]) (t := 2) ?hr ?_;(case hd => rfl);(case hg => rfl);(case hr => first | (go_simp;done) | (go_simp;rfl));intro gb101 hg w7 hbox hb;have n0_ := Aside0.mk (below_step (by repeat (first | (with_reducible first | exact HB.out | apply below_alloc | apply pw_below_drewN | apply below_drew1) | exact HB.out)) hb);have n1_ := Aside0.mk (hbox);have n2_ := Aside0.mk ((by rw [hg];exact (below_size (by repeat (first | (with_reducible first | exact HB.out | apply below_alloc | apply pw_below_drewN | apply below_drew1) | exact HB.out))) : w.heap.size ≤ gb101));have n3_ := Aside0.mk ((by rw [hg];exact (below_size (by repeat (first | (with_reducible first | exact HB.out | apply below_alloc | apply pw_below_drewN | apply below_drew1) | exact HB.out))) : w.heap.size ≤ gb101));clear HB;have HB := n0_;have BK101 := n1_;have GW101 := n2_;have GE101 := n3_;clear n0_ n1_ n2_ n3_;clear hb hbox hg) | ((with_reducible refine gate_callee (f := 110) rfl ?_);refine goesL_ (some 6) rfl rfl Try.func110 (by kernel_rfl) rfl #[.slice A0 l0.length c0] rfl (by (try simp only [List.map_toArray,List.map_cons,List.map_nil]);first | done | rfl | (simp only [List.length_drop,List.length_take];rfl)) ?_;(with_reducible refine (impl_size_uint8.calls _ _ l0 t102 _ ?side1 ?side2 A3.out).mono ?_);(case side1 => repeat (first | exact (Kd.C_below HR0.out HB.out) | (with_reducible refine Kd.C_alloc ?_ _) | (with_reducible refine Kd.C_drewN ?_ _) | (with_reducible refine Kd.C_drew ?_)));(case side2 => exact HC0.out);rintro e w' ⟨rfl,⟨nd,rfl⟩⟩;refine ⟨_,rfl,?_⟩) | ((with_reducible refine gate_callee (f := 45) rfl ?_);refine goesL_ (some 7) rfl rfl Try.func45 (by kernel_rfl) rfl #[.int .i64 t102,.int .i64 1,.int .i64 8] rfl (by (try simp only [List.map_toArray,List.map_cons,List.map_nil]);first | done | rfl | (simp only [List.length_drop,List.length_take];rfl)) ?_;(with_reducible refine (impl_within.calls t102 1 8 true _ A4.out).mono ?_);rintro e w' ⟨rfl,⟨nd,rfl⟩⟩;refine ⟨_,rfl,?_⟩) | (go_at_call 111;(with_reducible refine (slices_ContainsFunc_Word_uint8__impl_Word_isWord_1.calls _ _ l0 a1 gb101 t104 _ ?side1 ?side2 ?side3 A6.out).mono ?_);(case side1 => repeat (first | exact (Kd.C_below HR0.out (by repeat (first | (with_reducible first | exact HB.out | apply below_alloc | apply pw_below_drewN | apply below_drew1 | refine below_set ?_ GE101.out) | exact HB.out))) | (with_reducible refine Kd.C_alloc ?_ _) | (with_reducible refine Kd.C_drewN ?_ _) | (with_reducible refine Kd.C_drew ?_)));(case side2 => exact HC0.out);(case side3 => (with_reducible repeat (first | refine blk_drewN ?_ _ | refine blk_drew ?_ | refine blk_alloc ?_ _));exact BK101.out);rintro e w8 ⟨rfl,hb⟩;have n0_ := Aside0.mk (blk_below (g := gb101) (o := .cells #[.int .i64 a1] 2 (0,0)) (by (with_reducible repeat (first | refine blk_drewN ?_ _ | refine blk_drew ?_ | refine blk_alloc ?_ _));exact BK101.out) hb);have n1_ := Aside0.mk (below_step (by repeat (first | (with_reducible first | exact HB.out | apply below_alloc | apply pw_below_drewN | apply below_drew1 | refine below_set ?_ GE101.out) | exact HB.out)) hb);clear BK101;clear HB;have BK101 := n0_;have HB := n1_;clear n0_ n1_;(try clear hb);(try clear hb2);(try clear hk);(try clear hi)))
  go_ret
  exact ⟨by first | rfl | (simp [errW_none,errW_some,IntKind.wrap_i64,wrap64];done) | (simp [errW_none,errW_some] <;> rfl) | (simp [*,errW_none,errW_some] <;> rfl),by repeat (first | (with_reducible first | exact HB.out | apply below_alloc | apply pw_below_drewN | apply below_drew1 | refine below_set ?_ GE101.out) | exact HB.out)⟩
 ·replace c5 := Bool.eq_false_iff.mpr c5;subst c5
  have H1 : (some false) = some r := by rw [if_neg (show ¬ (false = true) by decide)] at H;exact H
  clear H;have H := H1;clear H1;obtain rfl := Option.some.inj H
  go_enter Try.func95,Try.ntmps95
  go_wp2_with (first | ((with_reducible refine gate_dst (N := 3) rfl ?_);refine box_event ?hg (N := 3) ?hd (cs := #[.int .i64 a1]) (t := 2) ?hr ?_;(case hd => rfl);(case hg => rfl);(case hr => first | (go_simp;done) | (go_simp;rfl));intro gb101 hg w9 hbox hb;have n0_ := Aside0.mk (below_step (by repeat (first | (with_reducible first | exact HB.out | apply below_alloc | apply pw_below_drewN | apply below_drew1) | exact HB.out)) hb);have n1_ := Aside0.mk (hbox);have n2_ := Aside0.mk ((by rw [hg];exact (below_size (by repeat (first | (with_reducible first | exact HB.out | apply below_alloc | apply pw_below_drewN | apply below_drew1) | exact HB.out))) : w.heap.size ≤ gb101));have n3_ := Aside0.mk ((by rw [hg];exact (below_size (by repeat (first | (with_reducible first | exact HB.out | apply below_alloc | apply pw_below_drewN | apply below_drew1) | exact HB.out))) : w.heap.size ≤ gb101));clear HB;have HB := n0_;have BK101 := n1_;have GW101 := n2_;have GE101 := n3_;clear n0_ n1_ n2_ n3_;clear hb hbox hg) | ((with_reducible refine gate_callee (f := 110) rfl ?_);refine goesL_ (some 6) rfl rfl Try.func110 (by kernel_rfl) rfl #[.slice A0 l0.length c0] rfl (by (try simp only [List.map_toArray,List.map_cons,List.map_nil]);first | done | rfl | (simp only [List.length_drop,List.length_take];rfl)) ?_;(with_reducible refine (impl_size_uint8.calls _ _ l0 t102 _ ?side1 ?side2 A3.out).mono ?_);(case side1 => repeat (first | exact (Kd.C_below HR0.out HB.out) | (with_reducible refine Kd.C_alloc ?_ _) | (with_reducible refine Kd.C_drewN ?_ _) | (with_reducible refine Kd.C_drew ?_)));(case side2 => exact HC0.out);rintro e w' ⟨rfl,⟨nd,rfl⟩⟩;refine ⟨_,rfl,?_⟩) | ((with_reducible refine gate_callee (f := 45) rfl ?_);refine goesL_ (some 7) rfl rfl Try.func45 (by kernel_rfl) rfl #[.int .i64 t102,.int .i64 1,.int .i64 8] rfl (by (try simp only [List.map_toArray,List.map_cons,List.map_nil]);first | done | rfl | (simp only [List.length_drop,List.length_take];rfl)) ?_;(with_reducible refine (impl_within.calls t102 1 8 false _ A4.out).mono ?_);rintro e w' ⟨rfl,⟨nd,rfl⟩⟩;refine ⟨_,rfl,?_⟩))
  go_ret
  exact ⟨by first | rfl | (simp [errW_none,errW_some,IntKind.wrap_i64,wrap64];done) | (simp [errW_none,errW_some] <;> rfl) | (simp [*,errW_none,errW_some] <;> rfl),by repeat (first | (with_reducible first | exact HB.out | apply below_alloc | apply pw_below_drewN | apply below_drew1 | refine below_set ?_ GE101.out) | exact HB.out)⟩
end Go.Proofs.Ytgfknljhogfeaaa.G
end

section
namespace Go.Proofs.Ytgfknljhogfeaaa.G
open Go.RowKit Go.Proofs.YtgfknljhogfeaaaW.PrintWords Go.Proofs.YtgfknljhogfeaaaW.PrintLast Go.Proofs.YtgfknljhogfeaaaW.PrintMore
attribute [local go_sem] max2_int min2_int max_two min_two max_three min_three max_four min_four
set_option linter.unusedVariables false
set_option linter.unusedSimpArgs false
def impl_areWords_1.f (l0 : List Int) (a1 : Int) (l2 : List (List Int)) : Option (Bool) := (impl_Word_isWord.f l0 a1).bind fun t101 => (if t101 = true then (if 0 < (l2.length : Int) then (some ((l0.length : Int) != ((rd_L2 l2 0).length : Int))) else (none)) else (some true))
set_option maxHeartbeats 8000000 in
set_option maxRecDepth 100000 in
theorem impl_areWords_1.calls (A0 : Option Addr) (c0 : Nat) (l0 : List Int) (a1 : Int) (b1 : Nat) (A2 : Option Addr) (c2 : Nat) (l2 : List (List Int)) (b2 : Nat) (r : Bool) (w : World) (hr0 : Kd.C (Kd.int .u8) w A0 l0.length l0) (hc0 : l0.length ≤ c0) (hr2 : Kd.C (Kd.slice 5 (Kd.int .u8)) w A2 l2.length l2) (hc2 : l2.length ≤ c2) (hb1 : w.heap[b1]? = some (.cells #[.int .i64 a1] 2 (0,0))) (hb2 : w.heap[b2]? = some (.cells #[.slice A2 l2.length c2] 31 (0,0))) (hn1_2 : b1 ≠ b2) (h : impl_areWords_1.f l0 a1 l2 = some r) :
  Calls Try.prog 94 #[.slice A0 l0.length c0,.pointer (some ⟨b1,0,none⟩),.pointer (some ⟨b2,0,none⟩)] w fun e w' => e = .returned (.bool r) ∧ Below w.heap.size w w' := by
 have HR0 := Aside0.mk hr0;have HC0 := Aside0.mk hc0;clear hr0 hc0;have HR2 := Aside0.mk hr2;have HC2 := Aside0.mk hc2;clear hr2 hc2;have BK1 := Aside0.mk hb1;clear hb1;have BK2 := Aside0.mk hb2;clear hb2;have NB1_2 := Aside0.mk hn1_2;have NB2_1 := Aside0.mk (Ne.symm hn1_2);clear hn1_2;have HB := Aside0.mk (Below.refl w.heap.size w);have H : ((impl_Word_isWord.f l0 a1).bind fun t101 => (if t101 = true then (if 0 < (l2.length : Int) then (some ((l0.length : Int) != ((rd_L2 l2 0).length : Int))) else (none)) else (some true))) = some r := h;clear h;replace H := Option.bind_eq_some_iff.mp H;obtain ⟨t101,A40,H⟩ := H;replace H : (if t101 = true then (if 0 < (l2.length : Int) then (some ((l0.length : Int) != ((rd_L2 l2 0).length : Int))) else (none)) else (some true)) = some r := H;have A4 := Aside0.mk A40;clear A40
 by_cases c5 : t101 = true
 ·subst c5
  have H1 : (if 0 < (l2.length : Int) then (some ((l0.length : Int) != ((rd_L2 l2 0).length : Int))) else (none)) = some r := by rw [if_pos rfl] at H;exact H
  clear H;have H := H1;clear H1
  by_cases c6 : 0 < (l2.length : Int)
  ·rw [if_pos c6] at H;have c6b0 : decide (0 < (l2.length : Int)) = true := decide_eq_true c6;have c6b1 : decide (0 < l2.length) = true := decide_eq_true (by omega);clear c6;obtain rfl := Option.some.inj H;have hnb7 := NB1_2.out;have hnc7 := NB2_1.out;have hcz8_0 : w.cell? ⟨b1,0,none⟩ = some (.int .i64 a1) := (blk_cell BK1.out 0).trans rfl;have hfz8_0 := blk_frozen BK1.out 0
   go_enter Try.func94,Try.ntmps94
   go_wp2_with (first | ((with_reducible refine gate_callee (f := 95) rfl ?_);refine goesL_ (some 7) rfl rfl Try.func95 (by kernel_rfl) rfl #[.slice A0 l0.length c0,.int .i64 a1] rfl (by (try simp only [List.map_toArray,List.map_cons,List.map_nil]);first | done | rfl | (simp only [List.length_drop,List.length_take];rfl)) ?_;(with_reducible refine (impl_Word_isWord.calls _ _ l0 a1 true _ ?side1 ?side2 A4.out).mono ?_);(case side1 => repeat (first | exact HR0.out | (with_reducible refine Kd.C_alloc ?_ _) | (with_reducible refine Kd.C_drewN ?_ _) | (with_reducible refine Kd.C_drew ?_)));(case side2 => exact HC0.out);rintro e w9 ⟨rfl,hb⟩;refine ⟨_,rfl,?_⟩;have n0_ := Aside0.mk (blk_below (g := b1) (o := .cells #[.int .i64 a1] 2 (0,0)) (by (with_reducible repeat (first | refine blk_drewN ?_ _ | refine blk_drew ?_ | refine blk_alloc ?_ _));exact BK1.out) hb);have n1_ := Aside0.mk (blk_below (g := b2) (o := .cells #[.slice A2 l2.length c2] 31 (0,0)) (by (with_reducible repeat (first | refine blk_drewN ?_ _ | refine blk_drew ?_ | refine blk_alloc ?_ _));exact BK2.out) hb);have n2_ := Aside0.mk (below_step (by repeat (first | (with_reducible first | exact HB.out | apply below_alloc | apply pw_below_drewN | apply below_drew1 | refine below_set ?_ GE1.out | refine below_set ?_ GE2.out) | exact HB.out)) hb);clear BK1;clear BK2;clear HB;have BK1 := n0_;have BK2 := n1_;have HB := n2_;clear n0_ n1_ n2_;(try clear hb);(try clear hb2);(try clear hk);(try clear hi);have hcz10_0 : w9.cell? ⟨b2,0,none⟩ = some (.slice A2 l2.length c2) := (blk_cell BK2.out 0).trans rfl;have hfz10_0 := blk_frozen BK2.out 0;have p102 : 0 ≤ (0 : Int) := (by omega);have q102 : 0 < (l2.length : Int) := of_decide_eq_true (by first | (with_reducible assumption) | assumption);obtain ⟨ad102,A102_0,c102_0,e102,hx102_0,hl102_0,hi102_0⟩ := at_L2 HR2.out 0 p102 q102;cases e102;have qi102 : (0 < l2.length) = True := eq_true (by omega);(try rw [show ((0 : Int)).toNat = 0 from rfl] at hx102_0);(try rw [Addr.add_zero'] at hx102_0);replace hx102_0 := (HB.out.cell (World.block_lt_of_cell? w _ hx102_0)).trans hx102_0;have HR102_0 := Aside0.mk hi102_0;have HC102_0 := Aside0.mk hl102_0;clear hi102_0 hl102_0;replace p102 := eq_true p102;replace q102 := eq_true q102))
   go_ret
   exact ⟨by first | rfl | (simp [errW_none,errW_some,IntKind.wrap_i64,wrap64];done) | (simp [errW_none,errW_some] <;> rfl) | (simp [*,errW_none,errW_some] <;> rfl),by repeat (first | (with_reducible first | exact HB.out | apply below_alloc | apply pw_below_drewN | apply below_drew1 | refine below_set ?_ GE1.out | refine below_set ?_ GE2.out) | exact HB.out)⟩
  ·rw [if_neg c6] at H;exact absurd H (by simp)
 ·replace c5 := Bool.eq_false_iff.mpr c5;subst c5
  have H1 : (some true) = some r := by rw [if_neg (show ¬ (false = true) by decide)] at H;exact H
  clear H;have H := H1;clear H1;obtain rfl := Option.some.inj H;have hnb11 := NB1_2.out;have hnc11 := NB2_1.out;have hcz12_0 : w.cell? ⟨b1,0,none⟩ = some (.int .i64 a1) := (blk_cell BK1.out 0).trans rfl;have hfz12_0 := blk_frozen BK1.out 0
  go_enter Try.func94,Try.ntmps94
  go_wp2_with (first | ((with_reducible refine gate_callee (f := 95) rfl ?_);refine goesL_ (some 7) rfl rfl Try.func95 (by kernel_rfl) rfl #[.slice A0 l0.length c0,.int .i64 a1] rfl (by (try simp only [List.map_toArray,List.map_cons,List.map_nil]);first | done | rfl | (simp only [List.length_drop,List.length_take];rfl)) ?_;(with_reducible refine (impl_Word_isWord.calls _ _ l0 a1 false _ ?side1 ?side2 A4.out).mono ?_);(case side1 => repeat (first | exact HR0.out | (with_reducible refine Kd.C_alloc ?_ _) | (with_reducible refine Kd.C_drewN ?_ _) | (with_reducible refine Kd.C_drew ?_)));(case side2 => exact HC0.out);rintro e w13 ⟨rfl,hb⟩;refine ⟨_,rfl,?_⟩;have n0_ := Aside0.mk (blk_below (g := b1) (o := .cells #[.int .i64 a1] 2 (0,0)) (by (with_reducible repeat (first | refine blk_drewN ?_ _ | refine blk_drew ?_ | refine blk_alloc ?_ _));exact BK1.out) hb);have n1_ := Aside0.mk (blk_below (g := b2) (o := .cells #[.slice A2 l2.length c2] 31 (0,0)) (by (with_reducible repeat (first | refine blk_drewN ?_ _ | refine blk_drew ?_ | refine blk_alloc ?_ _));exact BK2.out) hb);have n2_ := Aside0.mk (below_step (by repeat (first | (with_reducible first | exact HB.out | apply below_alloc | apply pw_below_drewN | apply below_drew1 | refine below_set ?_ GE1.out | refine below_set ?_ GE2.out) | exact HB.out)) hb);clear BK1;clear BK2;clear HB;have BK1 := n0_;have BK2 := n1_;have HB := n2_;clear n0_ n1_ n2_;(try clear hb);(try clear hb2);(try clear hk);(try clear hi)))
  go_ret
  exact ⟨by first | rfl | (simp [errW_none,errW_some,IntKind.wrap_i64,wrap64];done) | (simp [errW_none,errW_some] <;> rfl) | (simp [*,errW_none,errW_some] <;> rfl),by repeat (first | (with_reducible first | exact HB.out | apply below_alloc | apply pw_below_drewN | apply below_drew1 | refine below_set ?_ GE1.out | refine below_set ?_ GE2.out) | exact HB.out)⟩
end Go.Proofs.Ytgfknljhogfeaaa.G
end

section
namespace Go.Proofs.Ytgfknljhogfeaaa.G
open Go.RowKit Go.Proofs.YtgfknljhogfeaaaW.PrintWords Go.Proofs.YtgfknljhogfeaaaW.PrintLast Go.Proofs.YtgfknljhogfeaaaW.PrintMore
attribute [local go_sem] max2_int min2_int max_two min_two max_three min_three max_four min_four
set_option linter.unusedVariables false
set_option linter.unusedSimpArgs false
set_option maxHeartbeats 2000000 in
theorem slices_IndexFunc_Word_Word.calls (A0 : Option Addr) (c0 : Nat) (l0 : List (List Int)) (g : Nat) (lb : Array Value) (eg : ∀ args w,(callFunc g args).run Try.prog w = .ok (.enter g args) w) (p : List Int → Bool) (w : World)
  (hr0 : Kd.C (Kd.slice 5 (Kd.int .u8)) w A0 l0.length l0) (hc0 : l0.length ≤ c0)
  (hp : ∀ W,Below w.heap.size w W → ∀ x ∈ l0,∀ (A1 : Option Addr) (c1 : Nat),x.length ≤ c1 → Kd.C (Kd.int .u8) W A1 x.length x → Calls Try.prog g (#[.slice A1 x.length c1] ++ lb) W fun e w' => e = .returned (.bool (p x)) ∧ Below w.heap.size w w') :
  Calls Try.prog 109 #[.slice A0 l0.length c0,.func (.func g) #[] lb] w fun e w' => e = .returned (.int .i64 (idxP p l0)) ∧ Below w.heap.size w w' := by
 have hl : l0.length ≤ 9223372036854775807 := hr0.2.1;have HR0 := Aside0.mk hr0;have HP := Aside0.mk hp;clear hr0 hp;generalize hn : l0.length = n at *;have Hn := Aside0.mk hn;clear hn
 go_enter Try.func109,Try.ntmps109
 go_wp2
 go_loopg [5,8] n (fun gg _ s8 wr => ∃ kk : Nat,kk ≤ n ∧ n - kk ≤ gg ∧ s8 = .int .i64 kk ∧ Aside0 (Below w.heap.size w wr) ∧ Aside0 (∀ j x,j < kk → l0[j]? = some x → p x = false))
 case atStart => exact ⟨0,Nat.zero_le _,by omega,rfl,⟨Below.refl _ w⟩,⟨fun j _ hj => absurd hj (Nat.not_lt_zero _)⟩⟩
 case round =>
  obtain ⟨kk,hkk,hg,rfl,BW,AF⟩ := hrel
  by_cases hlt : kk < n
  ·have hltz : (kk : Int) < (n : Int) := by omega
   obtain ⟨ad,A1,c1,e0,hx0,hlc,hC1⟩ := at_L2 HR0.out (kk : Int) (by omega) (by omega);cases e0;simp only [Int.toNat_natCast] at hx0;replace hx0 := (BW.out.cell (World.block_lt_of_cell? w _ hx0)).trans hx0
   have hm : l0[kk]? = some (rd_L2 l0 (kk : Int)) := by
    have h1 : kk < l0.length := by rw [Hn.out];exact hlt
    simp [rd_L2,List.getD_eq_getElem?_getD,List.getElem?_eq_getElem h1]
   have hcall := HP.out wr BW.out (rd_L2 l0 (kk : Int)) (List.mem_of_getElem? hm) A1 c1 hlc (Kd.C_below hC1 BW.out);clear hC1;generalize hy : rd_L2 l0 (kk : Int) = y at *;clear hy;have HM := Aside0.mk hm;clear hm
   cases hq : p y with
   | true =>
    rw [hq] at hcall;have HQ := Aside0.mk hq;clear hq
    go_wp2_with (go_at_fn g;refine hcall.mono ?_;rintro e w' ⟨rfl,hb'⟩)
    go_ret
    refine ⟨?_,hb'⟩;rw [idxP_hit HM.out HQ.out AF.out];rfl
   | false =>
    rw [hq] at hcall;have HQ := Aside0.mk hq;clear hq
    go_wp2_with (go_at_fn g;refine hcall.mono ?_;rintro e w' ⟨rfl,hb'⟩)
    go_roundg (n - (kk + 1))
    case measure => omega
    case rel =>
     refine ⟨kk + 1,by omega,by omega,by go_num,⟨hb'⟩,⟨fun j x hj hx => ?_⟩⟩
     by_cases e : j = kk
     ·subst e;rw [HM.out] at hx;cases hx;exact HQ.out
     ·exact AF.out j x (by omega) hx
  ·have hltz : ¬ (kk : Int) < (n : Int) := by omega
   have : kk = n := by omega
   subst this
   go_wp2
   go_ret
   refine ⟨?_,BW.out⟩
   rw [idxP_miss (fun x hx => by
    obtain ⟨j,hj,rfl⟩ := List.mem_iff_getElem.1 hx
    exact AF.out j _ (by rw [← Hn.out];exact hj) (List.getElem?_eq_getElem hj))]
   rfl
end Go.Proofs.Ytgfknljhogfeaaa.G
end

section
namespace Go.Proofs.Ytgfknljhogfeaaa.G
open Go.RowKit Go.Proofs.YtgfknljhogfeaaaW.PrintWords Go.Proofs.YtgfknljhogfeaaaW.PrintLast Go.Proofs.YtgfknljhogfeaaaW.PrintMore
attribute [local go_sem] max2_int min2_int max_two min_two max_three min_three max_four min_four
set_option linter.unusedVariables false
set_option linter.unusedSimpArgs false
set_option maxHeartbeats 2000000 in
theorem slices_ContainsFunc_Word_Word.calls (A0 : Option Addr) (c0 : Nat) (l0 : List (List Int)) (g : Nat) (lb : Array Value) (eg : ∀ args w,(callFunc g args).run Try.prog w = .ok (.enter g args) w) (p : List Int → Bool) (w : World)
  (hr0 : Kd.C (Kd.slice 5 (Kd.int .u8)) w A0 l0.length l0) (hc0 : l0.length ≤ c0)
  (hp : ∀ W,Below w.heap.size w W → ∀ x ∈ l0,∀ (A1 : Option Addr) (c1 : Nat),x.length ≤ c1 → Kd.C (Kd.int .u8) W A1 x.length x → Calls Try.prog g (#[.slice A1 x.length c1] ++ lb) W fun e w' => e = .returned (.bool (p x)) ∧ Below w.heap.size w w') :
  Calls Try.prog 93 #[.slice A0 l0.length c0,.func (.func g) #[] lb] w fun e w' => e = .returned (.bool (l0.any p)) ∧ Below w.heap.size w w' := by
 have H := Aside0.mk (slices_IndexFunc_Word_Word.calls A0 c0 l0 g lb eg p w hr0 hc0 hp);rw [← idxP_nonneg];clear hp hr0 eg
 go_enter Try.func93,Try.ntmps93
 go_wp2_with (go_at_call 109;refine H.out.mono ?_;rintro e w' ⟨rfl,hb'⟩)
 go_ret
 exact ⟨rfl,hb'⟩
end Go.Proofs.Ytgfknljhogfeaaa.G
end

section
namespace Go.Proofs.Ytgfknljhogfeaaa.G
open Go.RowKit Go.Proofs.YtgfknljhogfeaaaW.PrintWords Go.Proofs.YtgfknljhogfeaaaW.PrintLast Go.Proofs.YtgfknljhogfeaaaW.PrintMore
attribute [local go_sem] max2_int min2_int max_two min_two max_three min_three max_four min_four
set_option linter.unusedVariables false
set_option linter.unusedSimpArgs false
def slices_ContainsFunc_Word_Word__impl_areWords_1.f (l0 : List (List Int)) (a1 : Int) (l2 : List (List Int)) : Option (Bool) := anyO (fun x => impl_areWords_1.f x a1 l2) l0
set_option maxHeartbeats 2000000 in
theorem slices_ContainsFunc_Word_Word__impl_areWords_1.calls (A0 : Option Addr) (c0 : Nat) (l0 : List (List Int)) (a1 : Int) (b1 : Nat) (A2 : Option Addr) (c2 : Nat) (l2 : List (List Int)) (b2 : Nat) (r : Bool) (w : World) (hr0 : Kd.C (Kd.slice 5 (Kd.int .u8)) w A0 l0.length l0) (hc0 : l0.length ≤ c0) (hr2 : Kd.C (Kd.slice 5 (Kd.int .u8)) w A2 l2.length l2) (hc2 : l2.length ≤ c2) (hb1 : w.heap[b1]? = some (.cells #[.int .i64 a1] 2 (0,0))) (hb2 : w.heap[b2]? = some (.cells #[.slice A2 l2.length c2] 31 (0,0))) (hn1_2 : b1 ≠ b2) (h : slices_ContainsFunc_Word_Word__impl_areWords_1.f l0 a1 l2 = some r) :
  Calls Try.prog 93 #[.slice A0 l0.length c0,.func (.func 94) #[] #[.pointer (some ⟨b1,0,none⟩),.pointer (some ⟨b2,0,none⟩)]] w fun e w' => e = .returned (.bool r) ∧ Below w.heap.size w w' := by
 have eg := enters_of Try.func94 (by kernel_rfl) rfl;obtain ⟨hall,rfl⟩ := anyO_some h;refine slices_ContainsFunc_Word_Word.calls A0 c0 l0 _ #[.pointer (some ⟨b1,0,none⟩),.pointer (some ⟨b2,0,none⟩)] eg (fun x => impl_areWords_1.f x a1 l2 == some true) w hr0 hc0 (fun W hW x hx A1_ c1_ hl_ hC_ => ?_);obtain ⟨b,hb⟩ := Option.isSome_iff_exists.1 (hall x hx);rw [show (#[.slice A1_ x.length c1_] ++ #[.pointer (some ⟨b1,0,none⟩),.pointer (some ⟨b2,0,none⟩)] : Array Value) = #[.slice A1_ x.length c1_,.pointer (some ⟨b1,0,none⟩),.pointer (some ⟨b2,0,none⟩)] from rfl]
 refine (impl_areWords_1.calls A1_ c1_ x a1 b1 A2 c2 l2 b2 b W hC_ hl_ (Kd.C_below hr2 hW) hc2 (blk_below hb1 hW) (blk_below hb2 hW) hn1_2 hb).mono fun e w' ⟨he,hw⟩ => ⟨he.trans (by rw [hb];cases b <;> rfl),?_⟩
 exact below_then hW hW.size hw
end Go.Proofs.Ytgfknljhogfeaaa.G
end

section
namespace Go.Proofs.Ytgfknljhogfeaaa.G
open Go.RowKit Go.Proofs.YtgfknljhogfeaaaW.PrintWords Go.Proofs.YtgfknljhogfeaaaW.PrintLast Go.Proofs.YtgfknljhogfeaaaW.PrintMore
attribute [local go_sem] max2_int min2_int max_two min_two max_three min_three max_four min_four
set_option linter.unusedVariables false
set_option linter.unusedSimpArgs false
def impl_areWords.f (l0 : List (List Int)) (a1 : Int) : Option (Bool) := (slices_ContainsFunc_Word_Word__impl_areWords_1.f l0 a1 l0).bind fun t103 => (some (!t103))
set_option maxHeartbeats 8000000 in
set_option maxRecDepth 100000 in
theorem impl_areWords.calls (A0 : Option Addr) (c0 : Nat) (l0 : List (List Int)) (a1 : Int) (r : Bool) (w : World) (hr0 : Kd.C (Kd.slice 5 (Kd.int .u8)) w A0 l0.length l0) (hc0 : l0.length ≤ c0) (h : impl_areWords.f l0 a1 = some r) :
  Calls Try.prog 65 #[.slice A0 l0.length c0,.int .i64 a1] w fun e w' => e = .returned (.bool r) ∧ Below w.heap.size w w' := by
 have HR0 := Aside0.mk hr0;have HC0 := Aside0.mk hc0;clear hr0 hc0;have HB := Aside0.mk (Below.refl w.heap.size w);have H : ((slices_ContainsFunc_Word_Word__impl_areWords_1.f l0 a1 l0).bind fun t103 => (some (!t103))) = some r := h;clear h;replace H := Option.bind_eq_some_iff.mp H;obtain ⟨t103,A30,H⟩ := H;replace H : (some (!t103)) = some r := H;have A3 := Aside0.mk A30;clear A30;obtain rfl := Option.some.inj H
 go_enter Try.func65,Try.ntmps65
 go_wp2_with (first | ((with_reducible refine gate_dst (N := 2) rfl ?_);refine box_event ?hg (N := 2) ?hd (cs := #[.slice A0 l0.length c0]) (t := 31) ?hr ?_;(case hd => rfl);(case hg => rfl);(case hr => first | (go_simp;done) | (go_simp;rfl));intro gb101 hg w4 hbox hb;have n0_ := Aside0.mk (below_step (by repeat (first | (with_reducible first | exact HB.out | apply below_alloc | apply pw_below_drewN | apply below_drew1) | exact HB.out)) hb);have n1_ := Aside0.mk (hbox);have n2_ := Aside0.mk ((by rw [hg];exact (below_size (by repeat (first | (with_reducible first | exact HB.out | apply below_alloc | apply pw_below_drewN | apply below_drew1) | exact HB.out))) : w.heap.size ≤ gb101));have n3_ := Aside0.mk ((by rw [hg];exact (below_size (by repeat (first | (with_reducible first | exact HB.out | apply below_alloc | apply pw_below_drewN | apply below_drew1) | exact HB.out))) : w.heap.size ≤ gb101));clear HB;have HB := n0_;have BK101 := n1_;have GW101 := n2_;have GE101 := n3_;clear n0_ n1_ n2_ n3_;clear hb hbox hg) | ((with_reducible refine gate_dst (N := 3) rfl ?_);refine box_event ?hg (N := 3) ?hd (cs := #[.int .i64 a1]) (t := 2) ?hr ?_;(case hd => rfl);(case hg => rfl);(case hr => first | (go_simp;done) | (go_simp;rfl));intro gb102 hg w5 hbox hb;have n0_ := Aside0.mk (blk_below (g := gb101) (o := .cells #[.slice A0 l0.length c0] 31 (0,0)) (by (with_reducible repeat (first | refine blk_drewN ?_ _ | refine blk_drew ?_ | refine blk_alloc ?_ _));exact BK101.out) hb);have n1_ := Aside0.mk (below_step (by repeat (first | (with_reducible first | exact HB.out | apply below_alloc | apply pw_below_drewN | apply below_drew1 | refine below_set ?_ GE101.out) | exact HB.out)) hb);have n2_ := Aside0.mk (hbox);have n3_ := Aside0.mk ((by rw [hg];exact (below_size (by repeat (first | (with_reducible first | exact HB.out | apply below_alloc | apply pw_below_drewN | apply below_drew1 | refine below_set ?_ GE101.out) | exact HB.out))) : w.heap.size ≤ gb102));have n4_ := Aside0.mk ((by rw [hg];exact (below_size (by repeat (first | (with_reducible first | exact HB.out | apply below_alloc | apply pw_below_drewN | apply below_drew1 | refine below_set ?_ GE101.out) | exact HB.out))) : w.heap.size ≤ gb102));have n5_ := Aside0.mk ((by rw [hg];exact Nat.ne_of_lt (blk_lt (g := gb101) (o := .cells #[.slice A0 l0.length c0] 31 (0,0)) (by (with_reducible repeat (first | refine blk_drewN ?_ _ | refine blk_drew ?_ | refine blk_alloc ?_ _));exact BK101.out)) : gb101 ≠ gb102));have n6_ := Aside0.mk ((by rw [hg];exact Nat.ne_of_gt (blk_lt (g := gb101) (o := .cells #[.slice A0 l0.length c0] 31 (0,0)) (by (with_reducible repeat (first | refine blk_drewN ?_ _ | refine blk_drew ?_ | refine blk_alloc ?_ _));exact BK101.out)) : gb102 ≠ gb101));clear BK101;clear HB;have BK101 := n0_;have HB := n1_;have BK102 := n2_;have GW102 := n3_;have GE102 := n4_;have NB101_102 := n5_;have NB102_101 := n6_;clear n0_ n1_ n2_ n3_ n4_ n5_ n6_;clear hb hbox hg;have hnb6 := NB101_102.out;have hnc6 := NB102_101.out;have hcz7_0 : w5.cell? ⟨gb101,0,none⟩ = some (.slice A0 l0.length c0) := (blk_cell BK101.out 0).trans rfl;have hfz7_0 := blk_frozen BK101.out 0) | ((with_reducible refine gate_callee (f := 93) rfl ?_);refine goesL_ (some 7) rfl rfl Try.func93 (by kernel_rfl) rfl #[.slice A0 l0.length c0,.func (.func 94) #[] #[.pointer (some ⟨gb102,0,none⟩),.pointer (some ⟨gb101,0,none⟩)]] rfl (by (try simp only [List.map_toArray,List.map_cons,List.map_nil]);first | done | rfl | (simp only [List.length_drop,List.length_take];rfl)) ?_;(with_reducible refine (slices_ContainsFunc_Word_Word__impl_areWords_1.calls _ _ l0 a1 gb102 A0 c0 l0 gb101 t103 _ ?side1 ?side2 ?side3 ?side4 ?side5 ?side6 ?side7 A3.out).mono ?_);(case side1 => repeat (first | exact (Kd.C_below HR0.out HB.out) | (with_reducible refine Kd.C_alloc ?_ _) | (with_reducible refine Kd.C_drewN ?_ _) | (with_reducible refine Kd.C_drew ?_)));(case side2 => exact HC0.out);(case side3 => repeat (first | exact (Kd.C_below HR0.out HB.out) | (with_reducible refine Kd.C_alloc ?_ _) | (with_reducible refine Kd.C_drewN ?_ _) | (with_reducible refine Kd.C_drew ?_)));(case side4 => exact HC0.out);(case side5 => (with_reducible repeat (first | refine blk_drewN ?_ _ | refine blk_drew ?_ | refine blk_alloc ?_ _));exact BK102.out);(case side6 => (with_reducible repeat (first | refine blk_drewN ?_ _ | refine blk_drew ?_ | refine blk_alloc ?_ _));exact BK101.out);(case side7 => exact NB102_101.out);rintro e w8 ⟨rfl,hb⟩;refine ⟨_,rfl,?_⟩;have n0_ := Aside0.mk (blk_below (g := gb101) (o := .cells #[.slice A0 l0.length c0] 31 (0,0)) (by (with_reducible repeat (first | refine blk_drewN ?_ _ | refine blk_drew ?_ | refine blk_alloc ?_ _));exact BK101.out) hb);have n1_ := Aside0.mk (blk_below (g := gb102) (o := .cells #[.int .i64 a1] 2 (0,0)) (by (with_reducible repeat (first | refine blk_drewN ?_ _ | refine blk_drew ?_ | refine blk_alloc ?_ _));exact BK102.out) hb);have n2_ := Aside0.mk (below_step (by repeat (first | (with_reducible first | exact HB.out | apply below_alloc | apply pw_below_drewN | apply below_drew1 | refine below_set ?_ GE101.out | refine below_set ?_ GE102.out) | exact HB.out)) hb);clear BK101;clear BK102;clear HB;have BK101 := n0_;have BK102 := n1_;have HB := n2_;clear n0_ n1_ n2_;(try clear hb);(try clear hb2);(try clear hk);(try clear hi)))
 go_ret
 exact ⟨by first | rfl | (simp [errW_none,errW_some,IntKind.wrap_i64,wrap64];done) | (simp [errW_none,errW_some] <;> rfl) | (simp [*,errW_none,errW_some] <;> rfl),by repeat (first | (with_reducible first | exact HB.out | apply below_alloc | apply pw_below_drewN | apply below_drew1 | refine below_set ?_ GE101.out | refine below_set ?_ GE102.out) | exact HB.out)⟩
end Go.Proofs.Ytgfknljhogfeaaa.G
end

section
namespace Go.Proofs.Ytgfknljhogfeaaa.G
open Go.RowKit Go.Proofs.YtgfknljhogfeaaaW.PrintWords Go.Proofs.YtgfknljhogfeaaaW.PrintLast Go.Proofs.YtgfknljhogfeaaaW.PrintMore
attribute [local go_sem] max2_int min2_int max_two min_two max_three min_three max_four min_four
set_option linter.unusedVariables false
set_option linter.unusedSimpArgs false
def impl_unless.f (a0 : Bool) (a1 : Int) : Option (Int) := if a0 = true then (some 0) else (some a1)
set_option maxHeartbeats 8000000 in
set_option maxRecDepth 100000 in
theorem impl_unless.calls (a0 : Bool) (a1 : Int) (r : Int) (w : World) (h : impl_unless.f a0 a1 = some r) :
  Calls Try.prog 71 #[.bool a0,.int .i64 a1] w fun e w' => e = .returned (.int .i64 r) ∧ Drawn0 w w' := by
 have H : (if a0 = true then (some 0) else (some a1)) = some r := h;clear h
 by_cases c3 : a0 = true
 ·subst c3
  have H1 : (some 0) = some r := by rw [if_pos rfl] at H;exact H
  clear H;have H := H1;clear H1;obtain rfl := Option.some.inj H
  go_enter Try.func71,Try.ntmps71
  go_wp2
  go_ret
  exact ⟨by first | rfl | (simp only [IntKind.wrap_i64,wrap64];done) | (simp;done) | (simp [*];done),by repeat (first | exact Drawn0.refl _ | apply Drawn0.step)⟩
 ·replace c3 := Bool.eq_false_iff.mpr c3;subst c3
  have H1 : (some a1) = some r := by rw [if_neg (show ¬ (false = true) by decide)] at H;exact H
  clear H;have H := H1;clear H1;obtain rfl := Option.some.inj H
  go_enter Try.func71,Try.ntmps71
  go_wp2
  go_ret
  exact ⟨by first | rfl | (simp only [IntKind.wrap_i64,wrap64];done) | (simp;done) | (simp [*];done),by repeat (first | exact Drawn0.refl _ | apply Drawn0.step)⟩
end Go.Proofs.Ytgfknljhogfeaaa.G
end

section
namespace Go.Proofs.Ytgfknljhogfeaaa.G
open Go.RowKit Go.Proofs.YtgfknljhogfeaaaW.PrintWords Go.Proofs.YtgfknljhogfeaaaW.PrintLast Go.Proofs.YtgfknljhogfeaaaW.PrintMore
attribute [local go_sem] max2_int min2_int max_two min_two max_three min_three max_four min_four
set_option linter.unusedVariables false
set_option linter.unusedSimpArgs false
def impl_ValidFlag_1.f (a0 : Int) : Option (Bool) := some (decide (a0 ≥ 6))
set_option maxHeartbeats 8000000 in
set_option maxRecDepth 100000 in
theorem impl_ValidFlag_1.calls (a0 : Int) (r : Bool) (w : World) (h : impl_ValidFlag_1.f a0 = some r) :
  Calls Try.prog 97 #[.int .u8 a0] w fun e w' => e = .returned (.bool r) ∧ Drawn0 w w' := by
 have H : (some (decide (a0 ≥ 6))) = some r := h;clear h;obtain rfl := Option.some.inj H
 go_enter Try.func97,Try.ntmps97
 go_wp2
 go_ret
 exact ⟨by first | rfl | (simp only [IntKind.wrap_i64,wrap64];done) | (simp;done) | (simp [*];done),by repeat (first | exact Drawn0.refl _ | apply Drawn0.step)⟩
end Go.Proofs.Ytgfknljhogfeaaa.G
end

section
namespace Go.Proofs.Ytgfknljhogfeaaa.G
open Go.RowKit Go.Proofs.YtgfknljhogfeaaaW.PrintWords Go.Proofs.YtgfknljhogfeaaaW.PrintLast Go.Proofs.YtgfknljhogfeaaaW.PrintMore
attribute [local go_sem] max2_int min2_int max_two min_two max_three min_three max_four min_four
set_option linter.unusedVariables false
set_option linter.unusedSimpArgs false
set_option maxHeartbeats 2000000 in
theorem slices_IndexFunc_uint8_uint8.calls (A0 : Option Addr) (c0 : Nat) (l0 : List (Int)) (g : Nat) (lb : Array Value) (eg : ∀ args w,(callFunc g args).run Try.prog w = .ok (.enter g args) w) (p : Int → Bool) (w : World)
  (hr0 : Kd.C (Kd.int .u8) w A0 l0.length l0) (hc0 : l0.length ≤ c0)
  (hp : ∀ W,Below w.heap.size w W → ∀ x ∈ l0,Calls Try.prog g (#[.int .u8 x] ++ lb) W fun e w' => e = .returned (.bool (p x)) ∧ Below w.heap.size w w') :
  Calls Try.prog 103 #[.slice A0 l0.length c0,.func (.func g) #[] lb] w fun e w' => e = .returned (.int .i64 (idxP p l0)) ∧ Below w.heap.size w w' := by
 have hl : l0.length ≤ 9223372036854775807 := hr0.2.1;have HR0 := Aside0.mk hr0;have HP := Aside0.mk hp;clear hr0 hp;generalize hn : l0.length = n at *;have Hn := Aside0.mk hn;clear hn
 go_enter Try.func103,Try.ntmps103
 go_wp2
 go_loopg [5,8] n (fun gg _ s8 wr => ∃ kk : Nat,kk ≤ n ∧ n - kk ≤ gg ∧ s8 = .int .i64 kk ∧ Aside0 (Below w.heap.size w wr) ∧ Aside0 (∀ j x,j < kk → l0[j]? = some x → p x = false))
 case atStart => exact ⟨0,Nat.zero_le _,by omega,rfl,⟨Below.refl _ w⟩,⟨fun j _ hj => absurd hj (Nat.not_lt_zero _)⟩⟩
 case round =>
  obtain ⟨kk,hkk,hg,rfl,BW,AF⟩ := hrel
  by_cases hlt : kk < n
  ·have hltz : (kk : Int) < (n : Int) := by omega
   obtain ⟨ad,e0,hx0⟩ := Kd.at_int HR0.out (kk : Int) (by omega) (by omega);cases e0;simp only [Int.toNat_natCast] at hx0;(try rw [show ((Kd.int .u8)).sz = 1 from rfl,Nat.mul_one,Nat.add_zero] at hx0);replace hx0 := (BW.out.cell (World.block_lt_of_cell? w _ hx0)).trans hx0
   have hm : l0[kk]? = some (rd l0 (kk : Int)) := by
    have h1 : kk < l0.length := by rw [Hn.out];exact hlt
    simp [rd,List.getD_eq_getElem?_getD,List.getElem?_eq_getElem h1]
   have hcall := HP.out wr BW.out (rd l0 (kk : Int)) (List.mem_of_getElem? hm);generalize hy : rd l0 (kk : Int) = y at *;clear hy;have HM := Aside0.mk hm;clear hm
   cases hq : p y with
   | true =>
    rw [hq] at hcall;have HQ := Aside0.mk hq;clear hq
    go_wp2_with (go_at_fn g;refine hcall.mono ?_;rintro e w' ⟨rfl,hb'⟩)
    go_ret
    refine ⟨?_,hb'⟩;rw [idxP_hit HM.out HQ.out AF.out];rfl
   | false =>
    rw [hq] at hcall;have HQ := Aside0.mk hq;clear hq
    go_wp2_with (go_at_fn g;refine hcall.mono ?_;rintro e w' ⟨rfl,hb'⟩)
    go_roundg (n - (kk + 1))
    case measure => omega
    case rel =>
     refine ⟨kk + 1,by omega,by omega,by go_num,⟨hb'⟩,⟨fun j x hj hx => ?_⟩⟩
     by_cases e : j = kk
     ·subst e;rw [HM.out] at hx;cases hx;exact HQ.out
     ·exact AF.out j x (by omega) hx
  ·have hltz : ¬ (kk : Int) < (n : Int) := by omega
   have : kk = n := by omega
   subst this
   go_wp2
   go_ret
   refine ⟨?_,BW.out⟩
   rw [idxP_miss (fun x hx => by
    obtain ⟨j,hj,rfl⟩ := List.mem_iff_getElem.1 hx
    exact AF.out j _ (by rw [← Hn.out];exact hj) (List.getElem?_eq_getElem hj))]
   rfl
end Go.Proofs.Ytgfknljhogfeaaa.G
end

section
namespace Go.Proofs.Ytgfknljhogfeaaa.G
open Go.RowKit Go.Proofs.YtgfknljhogfeaaaW.PrintWords Go.Proofs.YtgfknljhogfeaaaW.PrintLast Go.Proofs.YtgfknljhogfeaaaW.PrintMore
attribute [local go_sem] max2_int min2_int max_two min_two max_three min_three max_four min_four
set_option linter.unusedVariables false
set_option linter.unusedSimpArgs false
set_option maxHeartbeats 2000000 in
theorem slices_ContainsFunc_uint8_uint8.calls (A0 : Option Addr) (c0 : Nat) (l0 : List (Int)) (g : Nat) (lb : Array Value) (eg : ∀ args w,(callFunc g args).run Try.prog w = .ok (.enter g args) w) (p : Int → Bool) (w : World)
  (hr0 : Kd.C (Kd.int .u8) w A0 l0.length l0) (hc0 : l0.length ≤ c0)
  (hp : ∀ W,Below w.heap.size w W → ∀ x ∈ l0,Calls Try.prog g (#[.int .u8 x] ++ lb) W fun e w' => e = .returned (.bool (p x)) ∧ Below w.heap.size w w') :
  Calls Try.prog 87 #[.slice A0 l0.length c0,.func (.func g) #[] lb] w fun e w' => e = .returned (.bool (l0.any p)) ∧ Below w.heap.size w w' := by
 have H := Aside0.mk (slices_IndexFunc_uint8_uint8.calls A0 c0 l0 g lb eg p w hr0 hc0 hp);rw [← idxP_nonneg];clear hp hr0 eg
 go_enter Try.func87,Try.ntmps87
 go_wp2_with (go_at_call 103;refine H.out.mono ?_;rintro e w' ⟨rfl,hb'⟩)
 go_ret
 exact ⟨rfl,hb'⟩
end Go.Proofs.Ytgfknljhogfeaaa.G
end

section
namespace Go.Proofs.Ytgfknljhogfeaaa.G
open Go.RowKit Go.Proofs.YtgfknljhogfeaaaW.PrintWords Go.Proofs.YtgfknljhogfeaaaW.PrintLast Go.Proofs.YtgfknljhogfeaaaW.PrintMore
attribute [local go_sem] max2_int min2_int max_two min_two max_three min_three max_four min_four
set_option linter.unusedVariables false
set_option linter.unusedSimpArgs false
def slices_ContainsFunc_uint8_uint8__impl_ValidFlag_1.f (l0 : List (Int)) : Option (Bool) := anyO (fun x => impl_ValidFlag_1.f x) l0
set_option maxHeartbeats 2000000 in
theorem slices_ContainsFunc_uint8_uint8__impl_ValidFlag_1.calls (A0 : Option Addr) (c0 : Nat) (l0 : List (Int)) (r : Bool) (w : World) (hr0 : Kd.C (Kd.int .u8) w A0 l0.length l0) (hc0 : l0.length ≤ c0) (h : slices_ContainsFunc_uint8_uint8__impl_ValidFlag_1.f l0 = some r) :
  Calls Try.prog 87 #[.slice A0 l0.length c0,.func (.func 97) #[] #[]] w fun e w' => e = .returned (.bool r) ∧ Below w.heap.size w w' := by
 have eg := enters_of Try.func97 (by kernel_rfl) rfl;obtain ⟨hall,rfl⟩ := anyO_some h;refine slices_ContainsFunc_uint8_uint8.calls A0 c0 l0 _ #[] eg (fun x => impl_ValidFlag_1.f x == some true) w hr0 hc0 (fun W hW x hx => ?_);obtain ⟨b,hb⟩ := Option.isSome_iff_exists.1 (hall x hx);rw [show (#[.int .u8 x] ++ #[] : Array Value) = #[.int .u8 x] from rfl]
 refine (impl_ValidFlag_1.calls x b W  hb).mono fun e w' ⟨he,hw⟩ => ⟨he.trans (by rw [hb];cases b <;> rfl),?_⟩
 exact below_then hW hW.size hw.below
end Go.Proofs.Ytgfknljhogfeaaa.G
end

section
namespace Go.Proofs.Ytgfknljhogfeaaa.G
open Go.RowKit Go.Proofs.YtgfknljhogfeaaaW.PrintWords Go.Proofs.YtgfknljhogfeaaaW.PrintLast Go.Proofs.YtgfknljhogfeaaaW.PrintMore
attribute [local go_sem] max2_int min2_int max_two min_two max_three min_three max_four min_four
set_option linter.unusedVariables false
set_option linter.unusedSimpArgs false
set_option maxHeartbeats 4000000 in
theorem impl_ValidFlag.core (xs : List Int) (hx : xs.length = 24) (w : World) :
  Calls Try.prog 73 #[.agg (nums .u8 xs).toArray] w fun e w' => e = .returned (.bool (!(xs.any fun c => decide (c ≥ 6)))) ∧ Below w.heap.size w w' := by
 have HB := Aside0.mk (Below.refl w.heap.size w)
 have HF : Aside0 (∀ (W : World) (b : Nat),IsBox .u8 68 W b xs → Calls Try.prog 87 #[.slice (some ⟨b,0,none⟩) 24 24,.func (.func 97) #[] #[]] W fun e w' => e = .returned (.bool (xs.any fun c => decide (c ≥ 6))) ∧ Below W.heap.size W w') := ⟨fun W b hb => by
  have h_ := slices_ContainsFunc_uint8_uint8__impl_ValidFlag_1.calls (some ⟨b,0,none⟩) 24 xs (xs.any fun c => decide (c ≥ 6)) W (box_C hb (by omega)) (by omega) (anyO_eq fun c _ => rfl);rw [hx] at h_
  exact h_⟩
 go_enter Try.func73,Try.ntmps73
 go_wp2_with (first | ((with_reducible refine gate_dst (N := 1) rfl ?_);refine box_event ?hg (N := 1) ?hd (cs := (nums .u8 xs).toArray) (t := 68) ?hr ?_;(case hd => rfl);(case hg => rfl);(case hr => first | (go_simp;done) | (go_simp;rfl));intro b1 hg_ w1 hb_ hB_;have HB1 := Aside0.mk (below_step HB.out hB_);have BK1 := Aside0.mk (show IsBox .u8 68 w1 b1 xs from hb_);clear hb_ hB_ hg_) | (go_at_call 87;refine (HF.out _ _ BK1.out).mono ?_;rintro e w2 ⟨rfl,hb2⟩;have HB2 := Aside0.mk (below_step HB1.out hb2);clear hb2))
 go_ret
 exact ⟨by first | rfl | simp,HB2.out⟩
end Go.Proofs.Ytgfknljhogfeaaa.G
end

section
namespace Go.Proofs.Ytgfknljhogfeaaa.G
open Go.RowKit Go.Proofs.YtgfknljhogfeaaaW.PrintWords Go.Proofs.YtgfknljhogfeaaaW.PrintLast Go.Proofs.YtgfknljhogfeaaaW.PrintMore
attribute [local go_sem] max2_int min2_int max_two min_two max_three min_three max_four min_four
set_option linter.unusedVariables false
set_option linter.unusedSimpArgs false
def impl_setCode_1.f (a0_0 : Int) (a0_1 : Int) (a0_2 : Int) (a0_3 : Int) (a0_4 : Int) (a0_5 : Int) (a0_6 : Int) (a0_7 : Int) (a0_8 : Int) (a0_9 : Int) (a0_10 : Int) (a0_11 : Int) (a0_12 : Int) (a0_13 : Int) (a0_14 : Int) (a0_15 : Int) (a0_16 : Int) (a0_17 : Int) (a0_18 : Int) (a0_19 : Int) (a0_20 : Int) (a0_21 : Int) (a0_22 : Int) (a0_23 : Int) : Option Bool := some (([a0_0,a0_1,a0_2,a0_3,a0_4,a0_5,a0_6,a0_7,a0_8,a0_9,a0_10,a0_11,a0_12,a0_13,a0_14,a0_15,a0_16,a0_17,a0_18,a0_19,a0_20,a0_21,a0_22,a0_23] : List Int).any fun c => decide (c ≥ 6))
set_option maxHeartbeats 4000000 in
theorem impl_setCode_1.core (xs : List Int) (hx : xs.length = 24) (w : World) :
  Calls Try.prog 92 #[.agg (nums .u8 xs).toArray] w fun e w' => e = .returned (.bool (xs.any fun c => decide (c ≥ 6))) ∧ Below w.heap.size w w' := by
 have HB := Aside0.mk (Below.refl w.heap.size w);have HSZ := Aside0.mk (show (Try.prog.info? 68).map (·.size) = some xs.length by rw [hx];exact size68);have HF := Aside0.mk (fun W => impl_ValidFlag.core xs hx W);generalize (xs.any fun c => decide (c ≥ 6)) = res at *;clear hx
 go_enter Try.func92,Try.ntmps92
 go_wp2_with (first | ((with_reducible refine gate_dst (N := 1) rfl ?_);refine box_event ?hg (N := 1) ?hd (cs := (nums .u8 xs).toArray) (t := 68) ?hr ?_;(case hd => rfl);(case hg => rfl);(case hr => first | (go_simp;done) | (go_simp;rfl));intro b1 hg_ w1 hb_ hB_;have HB1 := Aside0.mk (below_step HB.out hB_);have BK1 := Aside0.mk (show IsBox .u8 68 w1 b1 xs from hb_);clear hb_ hB_ hg_) | ((with_reducible refine gate_load (t := 68) rfl ?_);refine box_load (k := .u8) (t := 68) (b := b1) (xs := xs) rfl rfl rfl BK1.out Try.underlying68 rfl HSZ.out ?_) | (go_at_call 73;refine (HF.out _).mono ?_;rintro e w2 ⟨rfl,hb2⟩;have HB2 := Aside0.mk (below_step HB1.out hb2);clear hb2))
 go_ret
 exact ⟨by first | rfl | simp,HB2.out⟩
theorem impl_setCode_1.calls (a0_0 : Int) (a0_1 : Int) (a0_2 : Int) (a0_3 : Int) (a0_4 : Int) (a0_5 : Int) (a0_6 : Int) (a0_7 : Int) (a0_8 : Int) (a0_9 : Int) (a0_10 : Int) (a0_11 : Int) (a0_12 : Int) (a0_13 : Int) (a0_14 : Int) (a0_15 : Int) (a0_16 : Int) (a0_17 : Int) (a0_18 : Int) (a0_19 : Int) (a0_20 : Int) (a0_21 : Int) (a0_22 : Int) (a0_23 : Int) (r : Bool) (w : World) (h : impl_setCode_1.f a0_0 a0_1 a0_2 a0_3 a0_4 a0_5 a0_6 a0_7 a0_8 a0_9 a0_10 a0_11 a0_12 a0_13 a0_14 a0_15 a0_16 a0_17 a0_18 a0_19 a0_20 a0_21 a0_22 a0_23 = some r) :
  Calls Try.prog 92 #[.agg #[.int .u8 a0_0,.int .u8 a0_1,.int .u8 a0_2,.int .u8 a0_3,.int .u8 a0_4,.int .u8 a0_5,.int .u8 a0_6,.int .u8 a0_7,.int .u8 a0_8,.int .u8 a0_9,.int .u8 a0_10,.int .u8 a0_11,.int .u8 a0_12,.int .u8 a0_13,.int .u8 a0_14,.int .u8 a0_15,.int .u8 a0_16,.int .u8 a0_17,.int .u8 a0_18,.int .u8 a0_19,.int .u8 a0_20,.int .u8 a0_21,.int .u8 a0_22,.int .u8 a0_23]] w fun e w' => e = .returned (.bool r) ∧ Below w.heap.size w w' := by
 obtain rfl := Option.some.inj h;exact impl_setCode_1.core [a0_0,a0_1,a0_2,a0_3,a0_4,a0_5,a0_6,a0_7,a0_8,a0_9,a0_10,a0_11,a0_12,a0_13,a0_14,a0_15,a0_16,a0_17,a0_18,a0_19,a0_20,a0_21,a0_22,a0_23] rfl w
end Go.Proofs.Ytgfknljhogfeaaa.G
end

section
namespace Go.Proofs.Ytgfknljhogfeaaa.G
open Go.RowKit Go.Proofs.YtgfknljhogfeaaaW.PrintWords Go.Proofs.YtgfknljhogfeaaaW.PrintLast Go.Proofs.YtgfknljhogfeaaaW.PrintMore
attribute [local go_sem] max2_int min2_int max_two min_two max_three min_three max_four min_four
set_option linter.unusedVariables false
set_option linter.unusedSimpArgs false
set_option maxHeartbeats 2000000 in
theorem slices_IndexFunc_Flag_Flag.calls (A0 : Option Addr) (c0 : Nat) (l0 : List (S68)) (g : Nat) (lb : Array Value) (eg : ∀ args w,(callFunc g args).run Try.prog w = .ok (.enter g args) w) (p : S68 → Bool) (w : World)
  (hr0 : Kd.C k68 w A0 l0.length l0) (hc0 : l0.length ≤ c0)
  (hp : ∀ W,Below w.heap.size w W → ∀ x ∈ l0,Calls Try.prog g (#[.agg #[.int .u8 x.f0,.int .u8 x.f1,.int .u8 x.f2,.int .u8 x.f3,.int .u8 x.f4,.int .u8 x.f5,.int .u8 x.f6,.int .u8 x.f7,.int .u8 x.f8,.int .u8 x.f9,.int .u8 x.f10,.int .u8 x.f11,.int .u8 x.f12,.int .u8 x.f13,.int .u8 x.f14,.int .u8 x.f15,.int .u8 x.f16,.int .u8 x.f17,.int .u8 x.f18,.int .u8 x.f19,.int .u8 x.f20,.int .u8 x.f21,.int .u8 x.f22,.int .u8 x.f23]] ++ lb) W fun e w' => e = .returned (.bool (p x)) ∧ Below w.heap.size w w') :
  Calls Try.prog 108 #[.slice A0 l0.length c0,.func (.func g) #[] lb] w fun e w' => e = .returned (.int .i64 (idxP p l0)) ∧ Below w.heap.size w w' := by
 have hl : l0.length ≤ 9223372036854775807 := hr0.2.1;have HR0 := Aside0.mk hr0;have HP := Aside0.mk hp;clear hr0 hp;generalize hn : l0.length = n at *;have Hn := Aside0.mk hn;clear hn
 go_enter Try.func108,Try.ntmps108
 go_wp2
 go_loopg [5,8] n (fun gg _ s8 wr => ∃ kk : Nat,kk ≤ n ∧ n - kk ≤ gg ∧ s8 = .int .i64 kk ∧ Aside0 (Below w.heap.size w wr) ∧ Aside0 (∀ j x,j < kk → l0[j]? = some x → p x = false))
 case atStart => exact ⟨0,Nat.zero_le _,by omega,rfl,⟨Below.refl _ w⟩,⟨fun j _ hj => absurd hj (Nat.not_lt_zero _)⟩⟩
 case round =>
  obtain ⟨kk,hkk,hg,rfl,BW,AF⟩ := hrel
  by_cases hlt : kk < n
  ·have hltz : (kk : Int) < (n : Int) := by omega
   obtain ⟨ad,e0,hrow_⟩ := row_T68 HR0.out (kk : Int) (by omega) (by omega);cases e0;have HRW0 : Aside0 (RowAt68 _ (ad.add (kk * 24)) _) := ⟨row_below68 hrow_ BW.out⟩;clear hrow_
   have hm : l0[kk]? = some (rd_T68 l0 (kk : Int)) := by
    have h1 : kk < l0.length := by rw [Hn.out];exact hlt
    simp [rd_T68,List.getD_eq_getElem?_getD,List.getElem?_eq_getElem h1]
   have hcall := HP.out wr BW.out (rd_T68 l0 (kk : Int)) (List.mem_of_getElem? hm);generalize hy : rd_T68 l0 (kk : Int) = y at *;clear hy;have HM := Aside0.mk hm;clear hm
   cases hq : p y with
   | true =>
    rw [hq] at hcall;have HQ := Aside0.mk hq;clear hq
    go_wp2_with (first | ((with_reducible refine gate_load (t := 68) rfl ?_);refine load_T68 rfl rfl (ad.add (kk * 24)) rfl HRW0.out Try.underlying68 size68 ?_) | (go_at_fn g;refine hcall.mono ?_;rintro e w' ⟨rfl,hb'⟩))
    go_ret
    refine ⟨?_,hb'⟩;rw [idxP_hit HM.out HQ.out AF.out];rfl
   | false =>
    rw [hq] at hcall;have HQ := Aside0.mk hq;clear hq
    go_wp2_with (first | ((with_reducible refine gate_load (t := 68) rfl ?_);refine load_T68 rfl rfl (ad.add (kk * 24)) rfl HRW0.out Try.underlying68 size68 ?_) | (go_at_fn g;refine hcall.mono ?_;rintro e w' ⟨rfl,hb'⟩))
    go_roundg (n - (kk + 1))
    case measure => omega
    case rel =>
     refine ⟨kk + 1,by omega,by omega,by go_num,⟨hb'⟩,⟨fun j x hj hx => ?_⟩⟩
     by_cases e : j = kk
     ·subst e;rw [HM.out] at hx;cases hx;exact HQ.out
     ·exact AF.out j x (by omega) hx
  ·have hltz : ¬ (kk : Int) < (n : Int) := by omega
   have : kk = n := by omega
   subst this
   go_wp2
   go_ret
   refine ⟨?_,BW.out⟩
   rw [idxP_miss (fun x hx => by
    obtain ⟨j,hj,rfl⟩ := List.mem_iff_getElem.1 hx
    exact AF.out j _ (by rw [← Hn.out];exact hj) (List.getElem?_eq_getElem hj))]
   rfl
end Go.Proofs.Ytgfknljhogfeaaa.G
end

section
namespace Go.Proofs.Ytgfknljhogfeaaa.G
open Go.RowKit Go.Proofs.YtgfknljhogfeaaaW.PrintWords Go.Proofs.YtgfknljhogfeaaaW.PrintLast Go.Proofs.YtgfknljhogfeaaaW.PrintMore
attribute [local go_sem] max2_int min2_int max_two min_two max_three min_three max_four min_four
set_option linter.unusedVariables false
set_option linter.unusedSimpArgs false
set_option maxHeartbeats 2000000 in
theorem slices_ContainsFunc_Flag_Flag.calls (A0 : Option Addr) (c0 : Nat) (l0 : List (S68)) (g : Nat) (lb : Array Value) (eg : ∀ args w,(callFunc g args).run Try.prog w = .ok (.enter g args) w) (p : S68 → Bool) (w : World)
  (hr0 : Kd.C k68 w A0 l0.length l0) (hc0 : l0.length ≤ c0)
  (hp : ∀ W,Below w.heap.size w W → ∀ x ∈ l0,Calls Try.prog g (#[.agg #[.int .u8 x.f0,.int .u8 x.f1,.int .u8 x.f2,.int .u8 x.f3,.int .u8 x.f4,.int .u8 x.f5,.int .u8 x.f6,.int .u8 x.f7,.int .u8 x.f8,.int .u8 x.f9,.int .u8 x.f10,.int .u8 x.f11,.int .u8 x.f12,.int .u8 x.f13,.int .u8 x.f14,.int .u8 x.f15,.int .u8 x.f16,.int .u8 x.f17,.int .u8 x.f18,.int .u8 x.f19,.int .u8 x.f20,.int .u8 x.f21,.int .u8 x.f22,.int .u8 x.f23]] ++ lb) W fun e w' => e = .returned (.bool (p x)) ∧ Below w.heap.size w w') :
  Calls Try.prog 91 #[.slice A0 l0.length c0,.func (.func g) #[] lb] w fun e w' => e = .returned (.bool (l0.any p)) ∧ Below w.heap.size w w' := by
 have H := Aside0.mk (slices_IndexFunc_Flag_Flag.calls A0 c0 l0 g lb eg p w hr0 hc0 hp);rw [← idxP_nonneg];clear hp hr0 eg
 go_enter Try.func91,Try.ntmps91
 go_wp2_with (go_at_call 108;refine H.out.mono ?_;rintro e w' ⟨rfl,hb'⟩)
 go_ret
 exact ⟨rfl,hb'⟩
end Go.Proofs.Ytgfknljhogfeaaa.G
end

section
namespace Go.Proofs.Ytgfknljhogfeaaa.G
open Go.RowKit Go.Proofs.YtgfknljhogfeaaaW.PrintWords Go.Proofs.YtgfknljhogfeaaaW.PrintLast Go.Proofs.YtgfknljhogfeaaaW.PrintMore
attribute [local go_sem] max2_int min2_int max_two min_two max_three min_three max_four min_four
set_option linter.unusedVariables false
set_option linter.unusedSimpArgs false
def slices_ContainsFunc_Flag_Flag__impl_setCode_1.f (l0 : List (S68)) : Option (Bool) := anyO (fun x => impl_setCode_1.f x.f0 x.f1 x.f2 x.f3 x.f4 x.f5 x.f6 x.f7 x.f8 x.f9 x.f10 x.f11 x.f12 x.f13 x.f14 x.f15 x.f16 x.f17 x.f18 x.f19 x.f20 x.f21 x.f22 x.f23) l0
set_option maxHeartbeats 2000000 in
theorem slices_ContainsFunc_Flag_Flag__impl_setCode_1.calls (A0 : Option Addr) (c0 : Nat) (l0 : List (S68)) (r : Bool) (w : World) (hr0 : Kd.C k68 w A0 l0.length l0) (hc0 : l0.length ≤ c0) (h : slices_ContainsFunc_Flag_Flag__impl_setCode_1.f l0 = some r) :
  Calls Try.prog 91 #[.slice A0 l0.length c0,.func (.func 92) #[] #[]] w fun e w' => e = .returned (.bool r) ∧ Below w.heap.size w w' := by
 have eg := enters_of Try.func92 (by kernel_rfl) rfl;obtain ⟨hall,rfl⟩ := anyO_some h;refine slices_ContainsFunc_Flag_Flag.calls A0 c0 l0 _ #[] eg (fun x => impl_setCode_1.f x.f0 x.f1 x.f2 x.f3 x.f4 x.f5 x.f6 x.f7 x.f8 x.f9 x.f10 x.f11 x.f12 x.f13 x.f14 x.f15 x.f16 x.f17 x.f18 x.f19 x.f20 x.f21 x.f22 x.f23 == some true) w hr0 hc0 (fun W hW x hx => ?_);obtain ⟨b,hb⟩ := Option.isSome_iff_exists.1 (hall x hx);rw [show (#[.agg #[.int .u8 x.f0,.int .u8 x.f1,.int .u8 x.f2,.int .u8 x.f3,.int .u8 x.f4,.int .u8 x.f5,.int .u8 x.f6,.int .u8 x.f7,.int .u8 x.f8,.int .u8 x.f9,.int .u8 x.f10,.int .u8 x.f11,.int .u8 x.f12,.int .u8 x.f13,.int .u8 x.f14,.int .u8 x.f15,.int .u8 x.f16,.int .u8 x.f17,.int .u8 x.f18,.int .u8 x.f19,.int .u8 x.f20,.int .u8 x.f21,.int .u8 x.f22,.int .u8 x.f23]] ++ #[] : Array Value) = #[.agg #[.int .u8 x.f0,.int .u8 x.f1,.int .u8 x.f2,.int .u8 x.f3,.int .u8 x.f4,.int .u8 x.f5,.int .u8 x.f6,.int .u8 x.f7,.int .u8 x.f8,.int .u8 x.f9,.int .u8 x.f10,.int .u8 x.f11,.int .u8 x.f12,.int .u8 x.f13,.int .u8 x.f14,.int .u8 x.f15,.int .u8 x.f16,.int .u8 x.f17,.int .u8 x.f18,.int .u8 x.f19,.int .u8 x.f20,.int .u8 x.f21,.int .u8 x.f22,.int .u8 x.f23]] from rfl]
 refine (impl_setCode_1.calls x.f0 x.f1 x.f2 x.f3 x.f4 x.f5 x.f6 x.f7 x.f8 x.f9 x.f10 x.f11 x.f12 x.f13 x.f14 x.f15 x.f16 x.f17 x.f18 x.f19 x.f20 x.f21 x.f22 x.f23 b W  hb).mono fun e w' ⟨he,hw⟩ => ⟨he.trans (by rw [hb];cases b <;> rfl),?_⟩
 exact below_then hW hW.size hw
end Go.Proofs.Ytgfknljhogfeaaa.G
end

section
namespace Go.Proofs.Ytgfknljhogfeaaa.G
open Go.RowKit Go.Proofs.YtgfknljhogfeaaaW.PrintWords Go.Proofs.YtgfknljhogfeaaaW.PrintLast Go.Proofs.YtgfknljhogfeaaaW.PrintMore
attribute [local go_sem] max2_int min2_int max_two min_two max_three min_three max_four min_four
set_option linter.unusedVariables false
set_option linter.unusedSimpArgs false
def impl_setCode.f (l0 : List (S68)) (a1 : Int) : Option (Int) := (slices_ContainsFunc_Flag_Flag__impl_setCode_1.f l0).bind fun t101 => (if t101 = true then (some 1) else (if (l0.length : Int) > 40 then (some 3) else ((impl_within.f a1 0 6).bind fun t102 => ((impl_unless.f t102 2).bind fun t103 => (some t103)))))
set_option maxHeartbeats 8000000 in
set_option maxRecDepth 100000 in
theorem impl_setCode.calls (A0 : Option Addr) (c0 : Nat) (l0 : List (S68)) (a1 : Int) (r : Int) (w : World) (hr0 : Kd.C k68 w A0 l0.length l0) (hc0 : l0.length ≤ c0) (h : impl_setCode.f l0 a1 = some r) :
  Calls Try.prog 64 #[.slice A0 l0.length c0,.int .i64 a1] w fun e w' => e = .returned (.int .i64 r) ∧ Below w.heap.size w w' := by
 have HR0 := Aside0.mk hr0;have HC0 := Aside0.mk hc0;clear hr0 hc0;have HB := Aside0.mk (Below.refl w.heap.size w);have H : ((slices_ContainsFunc_Flag_Flag__impl_setCode_1.f l0).bind fun t101 => (if t101 = true then (some 1) else (if (l0.length : Int) > 40 then (some 3) else ((impl_within.f a1 0 6).bind fun t102 => ((impl_unless.f t102 2).bind fun t103 => (some t103)))))) = some r := h;clear h;replace H := Option.bind_eq_some_iff.mp H;obtain ⟨t101,A30,H⟩ := H;replace H : (if t101 = true then (some 1) else (if (l0.length : Int) > 40 then (some 3) else ((impl_within.f a1 0 6).bind fun t102 => ((impl_unless.f t102 2).bind fun t103 => (some t103))))) = some r := H;have A3 := Aside0.mk A30;clear A30
 by_cases c4 : t101 = true
 ·subst c4
  have H1 : (some 1) = some r := by rw [if_pos rfl] at H;exact H
  clear H;have H := H1;clear H1;obtain rfl := Option.some.inj H
  go_enter Try.func64,Try.ntmps64
  go_wp2_with (first | ((with_reducible refine gate_callee (f := 91) rfl ?_);refine goesL_ (some 7) rfl rfl Try.func91 (by kernel_rfl) rfl #[.slice A0 l0.length c0,.func (.func 92) #[] #[]] rfl (by (try simp only [List.map_toArray,List.map_cons,List.map_nil]);first | done | rfl | (simp only [List.length_drop,List.length_take];rfl)) ?_;(with_reducible refine (slices_ContainsFunc_Flag_Flag__impl_setCode_1.calls _ _ l0 true _ ?side1 ?side2 A3.out).mono ?_);(case side1 => repeat (first | exact HR0.out | (with_reducible refine Kd.C_alloc ?_ _) | (with_reducible refine Kd.C_drewN ?_ _) | (with_reducible refine Kd.C_drew ?_)));(case side2 => exact HC0.out);rintro e w5 ⟨rfl,hb⟩;refine ⟨_,rfl,?_⟩;have n0_ := Aside0.mk (below_step (by repeat (first | (with_reducible first | exact HB.out | apply below_alloc | apply pw_below_drewN | apply below_drew1) | exact HB.out)) hb);clear HB;have HB := n0_;clear n0_;(try clear hb);(try clear hb2);(try clear hk);(try clear hi)))
  go_ret
  exact ⟨by first | rfl | (simp [errW_none,errW_some,IntKind.wrap_i64,wrap64];done) | (simp [errW_none,errW_some] <;> rfl) | (simp [*,errW_none,errW_some] <;> rfl),by repeat (first | (with_reducible first | exact HB.out | apply below_alloc | apply pw_below_drewN | apply below_drew1) | exact HB.out)⟩
 ·replace c4 := Bool.eq_false_iff.mpr c4;subst c4
  have H1 : (if (l0.length : Int) > 40 then (some 3) else ((impl_within.f a1 0 6).bind fun t102 => ((impl_unless.f t102 2).bind fun t103 => (some t103)))) = some r := by rw [if_neg (show ¬ (false = true) by decide)] at H;exact H
  clear H;have H := H1;clear H1
  by_cases c6 : (l0.length : Int) > 40
  ·rw [if_pos c6] at H;have c6b0 : decide (40 < (l0.length : Int)) = true := decide_eq_true c6;have c6b1 : decide (40 < l0.length) = true := decide_eq_true (by omega);clear c6;obtain rfl := Option.some.inj H
   go_enter Try.func64,Try.ntmps64
   go_wp2_with (first | ((with_reducible refine gate_callee (f := 91) rfl ?_);refine goesL_ (some 7) rfl rfl Try.func91 (by kernel_rfl) rfl #[.slice A0 l0.length c0,.func (.func 92) #[] #[]] rfl (by (try simp only [List.map_toArray,List.map_cons,List.map_nil]);first | done | rfl | (simp only [List.length_drop,List.length_take];rfl)) ?_;(with_reducible refine (slices_ContainsFunc_Flag_Flag__impl_setCode_1.calls _ _ l0 false _ ?side1 ?side2 A3.out).mono ?_);(case side1 => repeat (first | exact HR0.out | (with_reducible refine Kd.C_alloc ?_ _) | (with_reducible refine Kd.C_drewN ?_ _) | (with_reducible refine Kd.C_drew ?_)));(case side2 => exact HC0.out);rintro e w7 ⟨rfl,hb⟩;refine ⟨_,rfl,?_⟩;have n0_ := Aside0.mk (below_step (by repeat (first | (with_reducible first | exact HB.out | apply below_alloc | apply pw_below_drewN | apply below_drew1) | exact HB.out)) hb);clear HB;have HB := n0_;clear n0_;(try clear hb);(try clear hb2);(try clear hk);(try clear hi)))
   go_ret
   exact ⟨by first | rfl | (simp [errW_none,errW_some,IntKind.wrap_i64,wrap64];done) | (simp [errW_none,errW_some] <;> rfl) | (simp [*,errW_none,errW_some] <;> rfl),by repeat (first | (with_reducible first | exact HB.out | apply below_alloc | apply pw_below_drewN | apply below_drew1) | exact HB.out)⟩
  ·rw [if_neg c6] at H;have c6b0 : decide (40 < (l0.length : Int)) = false := decide_eq_false c6;have c6b1 : decide (40 < l0.length) = false := decide_eq_false (by omega);clear c6;replace H := Option.bind_eq_some_iff.mp H;obtain ⟨t102,A80,H⟩ := H;replace H : ((impl_unless.f t102 2).bind fun t103 => (some t103)) = some r := H;have A8 := Aside0.mk A80;clear A80;replace H := Option.bind_eq_some_iff.mp H;obtain ⟨t103,A90,H⟩ := H;replace H : (some t103) = some r := H;have A9 := Aside0.mk A90;clear A90;obtain rfl := Option.some.inj H
   go_enter Try.func64,Try.ntmps64
   go_wp2_with (first | ((with_reducible refine gate_callee (f := 91) rfl ?_);refine goesL_ (some 7) rfl rfl Try.func91 (by kernel_rfl) rfl #[.slice A0 l0.length c0,.func (.func 92) #[] #[]] rfl (by (try simp only [List.map_toArray,List.map_cons,List.map_nil]);first | done | rfl | (simp only [List.length_drop,List.length_take];rfl)) ?_;(with_reducible refine (slices_ContainsFunc_Flag_Flag__impl_setCode_1.calls _ _ l0 false _ ?side1 ?side2 A3.out).mono ?_);(case side1 => repeat (first | exact HR0.out | (with_reducible refine Kd.C_alloc ?_ _) | (with_reducible refine Kd.C_drewN ?_ _) | (with_reducible refine Kd.C_drew ?_)));(case side2 => exact HC0.out);rintro e w10 ⟨rfl,hb⟩;refine ⟨_,rfl,?_⟩;have n0_ := Aside0.mk (below_step (by repeat (first | (with_reducible first | exact HB.out | apply below_alloc | apply pw_below_drewN | apply below_drew1) | exact HB.out)) hb);clear HB;have HB := n0_;clear n0_;(try clear hb);(try clear hb2);(try clear hk);(try clear hi)) | ((with_reducible refine gate_callee (f := 45) rfl ?_);refine goesL_ (some 13) rfl rfl Try.func45 (by kernel_rfl) rfl #[.int .i64 a1,.int .i64 0,.int .i64 6] rfl (by (try simp only [List.map_toArray,List.map_cons,List.map_nil]);first | done | rfl | (simp only [List.length_drop,List.length_take];rfl)) ?_;(with_reducible refine (impl_within.calls a1 0 6 t102 _ A8.out).mono ?_);rintro e w' ⟨rfl,⟨nd,rfl⟩⟩;refine ⟨_,rfl,?_⟩) | ((with_reducible refine gate_callee (f := 71) rfl ?_);refine goesL_ (some 14) rfl rfl Try.func71 (by kernel_rfl) rfl #[.bool t102,.int .i64 2] rfl (by (try simp only [List.map_toArray,List.map_cons,List.map_nil]);first | done | rfl | (simp only [List.length_drop,List.length_take];rfl)) ?_;(with_reducible refine (impl_unless.calls t102 2 t103 _ A9.out).mono ?_);rintro e w' ⟨rfl,⟨nd,rfl⟩⟩;refine ⟨_,rfl,?_⟩))
   go_ret
   exact ⟨by first | rfl | (simp [errW_none,errW_some,IntKind.wrap_i64,wrap64];done) | (simp [errW_none,errW_some] <;> rfl) | (simp [*,errW_none,errW_some] <;> rfl),by repeat (first | (with_reducible first | exact HB.out | apply below_alloc | apply pw_below_drewN | apply below_drew1) | exact HB.out)⟩
end Go.Proofs.Ytgfknljhogfeaaa.G
end

section
namespace Go.Proofs.Ytgfknljhogfeaaa.G
open Go.RowKit Go.Proofs.YtgfknljhogfeaaaW.PrintWords Go.Proofs.YtgfknljhogfeaaaW.PrintLast Go.Proofs.YtgfknljhogfeaaaW.PrintMore
attribute [local go_sem] max2_int min2_int max_two min_two max_three min_three max_four min_four
set_option linter.unusedVariables false
set_option linter.unusedSimpArgs false
def impl_size_Flag.f (l0 : List (S68)) : Option (Int) := some (l0.length : Int)
set_option maxHeartbeats 8000000 in
set_option maxRecDepth 100000 in
theorem impl_size_Flag.calls (A0 : Option Addr) (c0 : Nat) (l0 : List (S68)) (r : Int) (w : World) (hr0 : Kd.C k68 w A0 l0.length l0) (hc0 : l0.length ≤ c0) (h : impl_size_Flag.f l0 = some r) :
  Calls Try.prog 66 #[.slice A0 l0.length c0] w fun e w' => e = .returned (.int .i64 r) ∧ Drawn0 w w' := by
 have HR0 := Aside0.mk hr0;have HC0 := Aside0.mk hc0;clear hr0 hc0;have H : (some (l0.length : Int)) = some r := h;clear h;obtain rfl := Option.some.inj H
 go_enter Try.func66,Try.ntmps66
 go_wp2
 go_ret
 exact ⟨by first | rfl | (simp only [IntKind.wrap_i64,wrap64];done) | (simp;done) | (simp [*];done),by repeat (first | exact Drawn0.refl _ | apply Drawn0.step)⟩
end Go.Proofs.Ytgfknljhogfeaaa.G
end

section
namespace Go.Proofs.Ytgfknljhogfeaaa.G
open Go.RowKit Go.Proofs.YtgfknljhogfeaaaW.PrintWords Go.Proofs.YtgfknljhogfeaaaW.PrintLast Go.Proofs.YtgfknljhogfeaaaW.PrintMore
attribute [local go_sem] max2_int min2_int max_two min_two max_three min_three max_four min_four
set_option linter.unusedVariables false
set_option linter.unusedSimpArgs false
def impl_ValidCode.f (l0_0 : List (S68)) (l0_1 : List (List Int)) : Option (Bool) := if (l0_0.length : Int) > 0 then ((impl_setCode.f l0_0 0).bind fun t102 => (if t102 = 0 then (if (l0_1.length : Int) ≤ 60 then ((impl_size_Flag.f l0_0).bind fun t103 => ((impl_areWords.f l0_1 t103).bind fun t104 => (some t104))) else (some false)) else (some false))) else (some false)
def impl_ValidCode.T1 : Bool × List (List Nat × List Nat) := (true,[([],[]),([0],[0]),([1],[1]),([2],[2]),([3],[3]),([4],[4]),([5,4],[4,5]),([6,4,4],[4,6]),([7,4],[4,7]),([4,8],[4,8]),([9,7],[9]),([10],[10]),([11,10],[10,11]),([12,10],[10,12]),([13,10],[10,13]),([10,14],[10,14]),([15,10],[15]),([16],[16]),([17,16],[16,17]),([16],[16]),([19,16],[16,19]),([20,16,16],[16,20]),([18,21,21,16],[16,18,21]),([16,22],[16,22]),([23,22,0,1,2,3,4,5,6,7,8,9,10,11,12,13,14,15,16,17,18,19,20,21,22,23],[23])])
def impl_ValidCode.B1 : List Nat := [0,1,3,7,15,31,63,127,255,511,1023,2047,4095,8191,16383,32767,65535,131071,262143,131071,655359,1703935,4194303,8388607,16777215]
theorem impl_ValidCode.tab1 : rtab .any (opsOf Try.f30 1) = impl_ValidCode.T1 := by kernel_rfl
theorem impl_ValidCode.bits1 : waitsOk impl_ValidCode.T1.2 impl_ValidCode.B1 = true := by kernel_rfl
set_option maxHeartbeats 8000000 in
set_option maxRecDepth 100000 in
theorem impl_ValidCode.calls (A0_0 : Option Addr) (c0_0 : Nat) (l0_0 : List (S68)) (A0_1 : Option Addr) (c0_1 : Nat) (l0_1 : List (List Int)) (r : Bool) (w : World) (hr0_0 : Kd.C k68 w A0_0 l0_0.length l0_0) (hc0_0 : l0_0.length ≤ c0_0) (hr0_1 : Kd.C (Kd.slice 5 (Kd.int .u8)) w A0_1 l0_1.length l0_1) (hc0_1 : l0_1.length ≤ c0_1) (h : impl_ValidCode.f l0_0 l0_1 = some r) :
  Calls Try.prog 30 #[.agg #[.slice A0_0 l0_0.length c0_0,.slice A0_1 l0_1.length c0_1]] w fun e w' => e = .returned (.bool r) ∧ Below w.heap.size w w' := by
 have hu33 := Try.underlying33;have HR0_0 := Aside0.mk hr0_0;have HC0_0 := Aside0.mk hc0_0;clear hr0_0 hc0_0;have HR0_1 := Aside0.mk hr0_1;have HC0_1 := Aside0.mk hc0_1;clear hr0_1 hc0_1;have HB := Aside0.mk (Below.refl w.heap.size w);have H : (if (l0_0.length : Int) > 0 then ((impl_setCode.f l0_0 0).bind fun t102 => (if t102 = 0 then (if (l0_1.length : Int) ≤ 60 then ((impl_size_Flag.f l0_0).bind fun t103 => ((impl_areWords.f l0_1 t103).bind fun t104 => (some t104))) else (some false)) else (some false))) else (some false)) = some r := h;clear h
 by_cases c2 : (l0_0.length : Int) > 0
 ·rw [if_pos c2] at H;have c2b0 : decide (0 < (l0_0.length : Int)) = true := decide_eq_true c2;have c2b1 : decide (0 < l0_0.length) = true := decide_eq_true (by omega);clear c2;replace H := Option.bind_eq_some_iff.mp H;obtain ⟨t102,A30,H⟩ := H;replace H : (if t102 = 0 then (if (l0_1.length : Int) ≤ 60 then ((impl_size_Flag.f l0_0).bind fun t103 => ((impl_areWords.f l0_1 t103).bind fun t104 => (some t104))) else (some false)) else (some false)) = some r := H;have A3 := Aside0.mk A30;clear A30
  by_cases c4 : t102 = 0
  ·rw [if_pos c4] at H;have c4b0 : (t102 == 0) = true := beq_iff_eq.mpr c4;have c4b1 : (t102 != 0) = false := bne_eq_false_iff_eq.mpr c4;clear c4
   by_cases c5 : (l0_1.length : Int) ≤ 60
   ·rw [if_pos c5] at H;have c5b0 : decide ((l0_1.length : Int) ≤ 60) = true := decide_eq_true c5;have c5b1 : decide (l0_1.length ≤ 60) = true := decide_eq_true (by omega);clear c5;replace H := Option.bind_eq_some_iff.mp H;obtain ⟨t103,A60,H⟩ := H;replace H : ((impl_areWords.f l0_1 t103).bind fun t104 => (some t104)) = some r := H;have A6 := Aside0.mk A60;clear A60;replace H := Option.bind_eq_some_iff.mp H;obtain ⟨t104,A70,H⟩ := H;replace H : (some t104) = some r := H;have A7 := Aside0.mk A70;clear A70;obtain rfl := Option.some.inj H
    go_enter Try.func30,Try.ntmps30
    try go_wp2_with (first | ((with_reducible refine gate_dst (N := 1) rfl ?_);(try (refine gate_guard (by rfl) ?_;dsimp only));refine box_event ?hg (N := 1) ?hd (cs := #[.slice A0_0 l0_0.length c0_0,.slice A0_1 l0_1.length c0_1]) (t := 33) ?hr ?_;(case hd => rfl);(case hg => rfl);(case hr => first | (go_simp;done) | (go_simp;rfl));intro gb101 hg w8 hbox hb;have n0_ := Aside0.mk (below_step (by repeat (first | (with_reducible first | exact HB.out | apply below_alloc | apply pw_below_drewN | apply below_drew1) | exact HB.out)) hb);have n1_ := Aside0.mk (hbox);have n2_ := Aside0.mk ((by rw [hg];exact (below_size (by repeat (first | (with_reducible first | exact HB.out | apply below_alloc | apply pw_below_drewN | apply below_drew1) | exact HB.out))) : w.heap.size ≤ gb101));have n3_ := Aside0.mk ((by rw [hg];exact (below_size (by repeat (first | (with_reducible first | exact HB.out | apply below_alloc | apply pw_below_drewN | apply below_drew1) | exact HB.out))) : w.heap.size ≤ gb101));clear HB;have HB := n0_;have BK101 := n1_;have GW101 := n2_;have GE101 := n3_;clear n0_ n1_ n2_ n3_;clear hb hbox hg))
    have n0_ := Aside0.mk (blk_drew BK101.out);have n1_ := Aside0.mk (below_drew1 HB.out);clear BK101;clear HB;have BK101 := n0_;have HB := n1_;clear n0_ n1_;refine start_ (n := 25) (S := fun w' => w'.cell? ⟨gb101,0,none⟩ = some (.slice A0_0 l0_0.length c0_0) ∧ w'.cell? ⟨gb101,1,none⟩ = some (.slice A0_1 l0_1.length c0_1)) (ds := []) #[false,false,false,false,false,false,false,false,false,false,false,false,false,false,false,false,false,false,false,false,false,false,false,false,false] (by kernel_rfl) rfl rfl ⟨(blk_cell BK101.out 0).trans rfl,(blk_cell BK101.out 1).trans rfl⟩ (fun hHeld => ?_);refine with_tabW impl_ValidCode.tab1 impl_ValidCode.bits1 (fun HT_ HW_ => ?_);generalize w8.drew = w9 at BK101 HB hHeld ⊢;refine pure_ (i := 0) (N := some 3) (v := ?_) (a' := ?_) #[true,false,false,false,false,false,false,false,false,false,false,false,false,false,false,false,false,false,false,false,false,false,false,false,false] rfl rfl (any_of HT_.out (by kernel_rfl)) (fun _ _ _ h => h) (Or.inl ⟨by rfl,?_⟩) ?_ ?_;rotate_left
    ·intro w';go_simp;with_reducible rfl
    rotate_left
    ·simp only [Act.put,List.setIfInBounds_toArray,List.set_cons_zero,List.set_cons_succ,i64_w,i32_w];rfl
    refine take_ (i := 1) (N := some 4) (v := ?_) (a' := ?_) #[true,true,false,false,false,false,false,false,false,false,false,false,false,false,false,false,false,false,false,false,false,false,false,false,false] rfl rfl (take_ofW HT_.out HW_.out (by kernel_rfl)) (fun _ _ _ h => h) (Or.inl ⟨by rfl,?_⟩) hHeld ?_ ?_;rotate_left
    ·rintro w' ⟨s0,s1⟩
     go_simp;with_reducible rfl
    rotate_left
    ·simp only [Act.put,List.setIfInBounds_toArray,List.set_cons_zero,List.set_cons_succ,i64_w,i32_w];rfl
    refine pure_ (i := 2) (N := some 5) (v := ?_) (a' := ?_) #[true,true,true,false,false,false,false,false,false,false,false,false,false,false,false,false,false,false,false,false,false,false,false,false,false] rfl rfl (any_of HT_.out (by kernel_rfl)) (fun _ _ _ h => h) (Or.inl ⟨by rfl,?_⟩) ?_ ?_;rotate_left
    ·intro w';go_simp;with_reducible rfl
    rotate_left
    ·simp only [Act.put,List.setIfInBounds_toArray,List.set_cons_zero,List.set_cons_succ,i64_w,i32_w];rfl
    refine pure_ (i := 3) (N := some 6) (v := ?_) (a' := ?_) #[true,true,true,true,false,false,false,false,false,false,false,false,false,false,false,false,false,false,false,false,false,false,false,false,false] rfl rfl (any_of HT_.out (by kernel_rfl)) (fun _ _ _ h => h) (Or.inl ⟨by rfl,?_⟩) ?_ ?_;rotate_left
    ·intro w';go_simp;with_reducible rfl
    rotate_left
    ·simp only [Act.put,List.setIfInBounds_toArray,List.set_cons_zero,List.set_cons_succ,i64_w,i32_w];rfl
    refine pure_ (i := 4) (N := some 7) (v := ?_) (a' := ?_) #[true,true,true,true,true,false,false,false,false,false,false,false,false,false,false,false,false,false,false,false,false,false,false,false,false] rfl rfl (any_of HT_.out (by kernel_rfl)) (fun _ _ _ h => h) (Or.inl ⟨by rfl,?_⟩) ?_ ?_;rotate_left
    ·intro w';go_simp;with_reducible rfl
    rotate_left
    ·simp only [Act.put,List.setIfInBounds_toArray,List.set_cons_zero,List.set_cons_succ,i64_w,i32_w];rfl
    refine pure_ (i := 5) (N := some 8) (v := ?_) (a' := ?_) #[true,true,true,true,true,true,false,false,false,false,false,false,false,false,false,false,false,false,false,false,false,false,false,false,false] rfl rfl (any_of HT_.out (by kernel_rfl)) (fun _ _ _ h => h) (Or.inl ⟨by rfl,?_⟩) ?_ ?_;rotate_left
    ·intro w';go_simp;with_reducible rfl
    rotate_left
    ·simp only [Act.put,List.setIfInBounds_toArray,List.set_cons_zero,List.set_cons_succ,i64_w,i32_w];rfl
    refine take_ (i := 6) (N := some 9) (v := ?_) (a' := ?_) #[true,true,true,true,true,true,true,false,false,false,false,false,false,false,false,false,false,false,false,false,false,false,false,false,false] rfl rfl (take_ofW HT_.out HW_.out (by kernel_rfl)) (fun _ _ _ h => h) (Or.inl ⟨by rfl,?_⟩) hHeld ?_ ?_;rotate_left
    ·rintro w' ⟨s0,s1⟩
     go_simp;with_reducible rfl
    rotate_left
    ·simp only [Act.put,List.setIfInBounds_toArray,List.set_cons_zero,List.set_cons_succ,i64_w,i32_w];rfl
    refine one_ (i := 7) (N := some 10) #[true,true,true,true,true,true,true,true,false,false,false,false,false,false,false,false,false,false,false,false,false,false,false,false,false] rfl rfl (one_of HT_.out (by kernel_rfl)) (by decide) (fun K hK => ?_);refine goes_ Try.func64 (by kernel_rfl) rfl #[.slice A0_0 l0_0.length c0_0,.int .i64 0] (by rfl) rfl rfl (by (try simp only [List.map_toArray,List.map_cons,List.map_nil]);first | done | rfl | (simp only [List.length_drop,List.length_take];rfl)) ?_
    with_reducible refine (impl_setCode.calls _ _ l0_0 0 t102 _ ?side1 ?side2 A3.out).mono ?_
    (case side1 => repeat (first | exact (Kd.C_below HR0_0.out HB.out) | (with_reducible refine Kd.C_alloc ?_ _) | (with_reducible refine Kd.C_drewN ?_ _) | (with_reducible refine Kd.C_drew ?_)));(case side2 => exact HC0_0.out)
    rintro e w10 ⟨rfl,hb⟩
    refine ⟨_,rfl,?_⟩;have n0_ := Aside0.mk (blk_below (g := gb101) (o := .cells #[.slice A0_0 l0_0.length c0_0,.slice A0_1 l0_1.length c0_1] 33 (0,0)) (by (with_reducible repeat (first | refine blk_drewN ?_ _ | refine blk_drew ?_ | refine blk_alloc ?_ _));exact BK101.out) hb);have n1_ := Aside0.mk (below_step (by repeat (first | (with_reducible first | exact HB.out | apply below_alloc | apply pw_below_drewN | apply below_drew1 | refine below_set ?_ GE101.out) | exact HB.out)) hb);clear BK101;clear HB;have BK101 := n0_;have HB := n1_;clear n0_ n1_;(try clear hb);(try clear hb2);(try clear hk);(try clear hi);refine hK.out _ _ ⟨(blk_cell BK101.out 0).trans rfl,(blk_cell BK101.out 1).trans rfl⟩ (fun hHeld => ?_);clear hK K;refine norm_ (a' := ?_) ?_ ?_;rotate_left
    ·show Act.put _ (some 10) _ = _
     simp only [Act.put,List.setIfInBounds_toArray,List.set_cons_zero,List.set_cons_succ,i64_w,i32_w];rfl
    refine pure_ (i := 8) (N := some 11) (v := ?_) (a' := ?_) #[true,true,true,true,true,true,true,true,true,false,false,false,false,false,false,false,false,false,false,false,false,false,false,false,false] rfl rfl (any_of HT_.out (by kernel_rfl)) (fun _ _ _ h => h) (Or.inl ⟨by rfl,?_⟩) ?_ ?_;rotate_left
    ·intro w';go_simp;with_reducible rfl
    rotate_left
    ·simp only [Act.put,List.setIfInBounds_toArray,List.set_cons_zero,List.set_cons_succ,i64_w,i32_w];rfl
    refine pure_ (i := 9) (N := some 12) (v := ?_) (a' := ?_) #[true,true,true,true,true,true,true,true,true,true,false,false,false,false,false,false,false,false,false,false,false,false,false,false,false] rfl rfl (any_of HT_.out (by kernel_rfl)) (fun _ _ _ h => h) (Or.inl ⟨by rfl,?_⟩) ?_ ?_;rotate_left
    ·intro w';go_simp;with_reducible rfl
    rotate_left
    ·simp only [Act.put,List.setIfInBounds_toArray,List.set_cons_zero,List.set_cons_succ,i64_w,i32_w];rfl
    refine pure_ (i := 10) (N := some 13) (v := ?_) (a' := ?_) #[true,true,true,true,true,true,true,true,true,true,true,false,false,false,false,false,false,false,false,false,false,false,false,false,false] rfl rfl (any_of HT_.out (by kernel_rfl)) (fun _ _ _ h => h) (Or.inl ⟨by rfl,?_⟩) ?_ ?_;rotate_left
    ·intro w';go_simp;with_reducible rfl
    rotate_left
    ·simp only [Act.put,List.setIfInBounds_toArray,List.set_cons_zero,List.set_cons_succ,i64_w,i32_w];rfl
    refine pure_ (i := 11) (N := some 14) (v := ?_) (a' := ?_) #[true,true,true,true,true,true,true,true,true,true,true,true,false,false,false,false,false,false,false,false,false,false,false,false,false] rfl rfl (any_of HT_.out (by kernel_rfl)) (fun _ _ _ h => h) (Or.inl ⟨by rfl,?_⟩) ?_ ?_;rotate_left
    ·intro w';go_simp;with_reducible rfl
    rotate_left
    ·simp only [Act.put,List.setIfInBounds_toArray,List.set_cons_zero,List.set_cons_succ,i64_w,i32_w];rfl
    refine take_ (i := 12) (N := some 15) (v := ?_) (a' := ?_) #[true,true,true,true,true,true,true,true,true,true,true,true,true,false,false,false,false,false,false,false,false,false,false,false,false] rfl rfl (take_ofW HT_.out HW_.out (by kernel_rfl)) (fun _ _ _ h => h) (Or.inl ⟨by rfl,?_⟩) hHeld ?_ ?_;rotate_left
    ·rintro w' ⟨s0,s1⟩
     go_simp;with_reducible rfl
    rotate_left
    ·simp only [Act.put,List.setIfInBounds_toArray,List.set_cons_zero,List.set_cons_succ,i64_w,i32_w];rfl
    refine pure_ (i := 13) (N := some 16) (v := ?_) (a' := ?_) #[true,true,true,true,true,true,true,true,true,true,true,true,true,true,false,false,false,false,false,false,false,false,false,false,false] rfl rfl (any_of HT_.out (by kernel_rfl)) (fun _ _ _ h => h) (Or.inl ⟨by rfl,?_⟩) ?_ ?_;rotate_left
    ·intro w';go_simp;with_reducible rfl
    rotate_left
    ·simp only [Act.put,List.setIfInBounds_toArray,List.set_cons_zero,List.set_cons_succ,i64_w,i32_w];rfl
    refine pure_ (i := 14) (N := some 17) (v := ?_) (a' := ?_) #[true,true,true,true,true,true,true,true,true,true,true,true,true,true,true,false,false,false,false,false,false,false,false,false,false] rfl rfl (any_of HT_.out (by kernel_rfl)) (fun _ _ _ h => h) (Or.inl ⟨by rfl,?_⟩) ?_ ?_;rotate_left
    ·intro w';go_simp;with_reducible rfl
    rotate_left
    ·simp only [Act.put,List.setIfInBounds_toArray,List.set_cons_zero,List.set_cons_succ,i64_w,i32_w];rfl
    refine pure_ (i := 15) (N := some 18) (v := ?_) (a' := ?_) #[true,true,true,true,true,true,true,true,true,true,true,true,true,true,true,true,false,false,false,false,false,false,false,false,false] rfl rfl (any_of HT_.out (by kernel_rfl)) (fun _ _ _ h => h) (Or.inl ⟨by rfl,?_⟩) ?_ ?_;rotate_left
    ·intro w';go_simp;with_reducible rfl
    rotate_left
    ·simp only [Act.put,List.setIfInBounds_toArray,List.set_cons_zero,List.set_cons_succ,i64_w,i32_w];rfl
    refine pure_ (i := 16) (N := some 19) (v := ?_) (a' := ?_) #[true,true,true,true,true,true,true,true,true,true,true,true,true,true,true,true,true,false,false,false,false,false,false,false,false] rfl rfl (any_of HT_.out (by kernel_rfl)) (fun _ _ _ h => h) (Or.inl ⟨by rfl,?_⟩) ?_ ?_;rotate_left
    ·intro w';go_simp;with_reducible rfl
    rotate_left
    ·simp only [Act.put,List.setIfInBounds_toArray,List.set_cons_zero,List.set_cons_succ,i64_w,i32_w];rfl
    refine pure_ (i := 17) (N := some 20) (v := ?_) (a' := ?_) #[true,true,true,true,true,true,true,true,true,true,true,true,true,true,true,true,true,true,false,false,false,false,false,false,false] rfl rfl (any_of HT_.out (by kernel_rfl)) (fun _ _ _ h => h) (Or.inl ⟨by rfl,?_⟩) ?_ ?_;rotate_left
    ·intro w';go_simp;with_reducible rfl
    rotate_left
    ·simp only [Act.put,List.setIfInBounds_toArray,List.set_cons_zero,List.set_cons_succ,i64_w,i32_w];rfl
    refine pure_ (i := 19) (N := some 22) (v := ?_) (a' := ?_) #[true,true,true,true,true,true,true,true,true,true,true,true,true,true,true,true,true,true,false,true,false,false,false,false,false] rfl rfl (any_of HT_.out (by kernel_rfl)) (fun _ _ _ h => h) (Or.inl ⟨by rfl,?_⟩) ?_ ?_;rotate_left
    ·intro w';go_simp;with_reducible rfl
    rotate_left
    ·simp only [Act.put,List.setIfInBounds_toArray,List.set_cons_zero,List.set_cons_succ,i64_w,i32_w];rfl
    refine take_ (i := 18) (N := some 21) (v := ?_) (a' := ?_) #[true,true,true,true,true,true,true,true,true,true,true,true,true,true,true,true,true,true,true,true,false,false,false,false,false] rfl rfl (take_ofW HT_.out HW_.out (by kernel_rfl)) (fun _ _ _ h => h) (Or.inl ⟨by rfl,?_⟩) hHeld ?_ ?_;rotate_left
    ·rintro w' ⟨s0,s1⟩
     go_simp;with_reducible rfl
    rotate_left
    ·simp only [Act.put,List.setIfInBounds_toArray,List.set_cons_zero,List.set_cons_succ,i64_w,i32_w];rfl
    refine take_ (i := 20) (N := some 23) (v := ?_) (a' := ?_) #[true,true,true,true,true,true,true,true,true,true,true,true,true,true,true,true,true,true,true,true,true,false,false,false,false] rfl rfl (take_ofW HT_.out HW_.out (by kernel_rfl)) (fun _ _ _ h => h) (Or.inl ⟨by rfl,?_⟩) hHeld ?_ ?_;rotate_left
    ·rintro w' ⟨s0,s1⟩
     go_simp;with_reducible rfl
    rotate_left
    ·simp only [Act.put,List.setIfInBounds_toArray,List.set_cons_zero,List.set_cons_succ,i64_w,i32_w];rfl
    refine one_ (i := 21) (N := some 24) #[true,true,true,true,true,true,true,true,true,true,true,true,true,true,true,true,true,true,true,true,true,true,false,false,false] rfl rfl (one_of HT_.out (by kernel_rfl)) (by decide) (fun K hK => ?_);refine goes_ Try.func66 (by kernel_rfl) rfl #[.slice A0_0 l0_0.length c0_0] (by rfl) rfl rfl (by (try simp only [List.map_toArray,List.map_cons,List.map_nil]);first | done | rfl | (simp only [List.length_drop,List.length_take];rfl)) ?_
    with_reducible refine (impl_size_Flag.calls _ _ l0_0 t103 _ ?side1 ?side2 A6.out).mono ?_
    (case side1 => repeat (first | exact (Kd.C_below HR0_0.out HB.out) | (with_reducible refine Kd.C_alloc ?_ _) | (with_reducible refine Kd.C_drewN ?_ _) | (with_reducible refine Kd.C_drew ?_)));(case side2 => exact HC0_0.out)
    rintro e w' ⟨rfl,⟨nd,rfl⟩⟩
    refine ⟨_,rfl,?_⟩;refine hK.out _ _ ⟨(blk_cell BK101.out 0).trans rfl,(blk_cell BK101.out 1).trans rfl⟩ (fun hHeld => ?_);clear hK K;refine norm_ (a' := ?_) ?_ ?_;rotate_left
    ·show Act.put _ (some 24) _ = _
     simp only [Act.put,List.setIfInBounds_toArray,List.set_cons_zero,List.set_cons_succ,i64_w,i32_w];rfl
    refine one_ (i := 22) (N := some 25) #[true,true,true,true,true,true,true,true,true,true,true,true,true,true,true,true,true,true,true,true,true,true,true,false,false] rfl rfl (one_of HT_.out (by kernel_rfl)) (by decide) (fun K hK => ?_);refine goes_ Try.func65 (by kernel_rfl) rfl #[.slice A0_1 l0_1.length c0_1,.int .i64 t103] (by rfl) rfl rfl (by (try simp only [List.map_toArray,List.map_cons,List.map_nil]);first | done | rfl | (simp only [List.length_drop,List.length_take];rfl)) ?_
    with_reducible refine (impl_areWords.calls _ _ l0_1 t103 t104 _ ?side1 ?side2 A7.out).mono ?_
    (case side1 => repeat (first | exact (Kd.C_below HR0_1.out (by repeat (first | (with_reducible first | exact HB.out | apply below_alloc | apply pw_below_drewN | apply below_drew1 | refine below_set ?_ GE101.out) | exact HB.out))) | (with_reducible refine Kd.C_alloc ?_ _) | (with_reducible refine Kd.C_drewN ?_ _) | (with_reducible refine Kd.C_drew ?_)));(case side2 => exact HC0_1.out)
    rintro e w11 ⟨rfl,hb⟩
    refine ⟨_,rfl,?_⟩;have n0_ := Aside0.mk (blk_below (g := gb101) (o := .cells #[.slice A0_0 l0_0.length c0_0,.slice A0_1 l0_1.length c0_1] 33 (0,0)) (by (with_reducible repeat (first | refine blk_drewN ?_ _ | refine blk_drew ?_ | refine blk_alloc ?_ _));exact BK101.out) hb);have n1_ := Aside0.mk (below_step (by repeat (first | (with_reducible first | exact HB.out | apply below_alloc | apply pw_below_drewN | apply below_drew1 | refine below_set ?_ GE101.out) | exact HB.out)) hb);clear BK101;clear HB;have BK101 := n0_;have HB := n1_;clear n0_ n1_;(try clear hb);(try clear hb2);(try clear hk);(try clear hi);refine hK.out _ _ ⟨(blk_cell BK101.out 0).trans rfl,(blk_cell BK101.out 1).trans rfl⟩ (fun hHeld => ?_);clear hK K;refine norm_ (a' := ?_) ?_ ?_;rotate_left
    ·show Act.put _ (some 25) _ = _
     simp only [Act.put,List.setIfInBounds_toArray,List.set_cons_zero,List.set_cons_succ,i64_w,i32_w];rfl
    refine pure_ (i := 23) (N := some 26) (v := ?_) (a' := ?_) #[true,true,true,true,true,true,true,true,true,true,true,true,true,true,true,true,true,true,true,true,true,true,true,true,false] rfl rfl (any_of HT_.out (by kernel_rfl)) (fun _ _ _ h => h) (Or.inl ⟨by rfl,?_⟩) ?_ ?_;rotate_left
    ·intro w';go_simp;with_reducible rfl
    rotate_left
    ·simp only [Act.put,List.setIfInBounds_toArray,List.set_cons_zero,List.set_cons_succ,i64_w,i32_w];rfl
    refine pure_ (i := 24) (N := some 2) (v := ?_) (a' := ?_) #[true,true,true,true,true,true,true,true,true,true,true,true,true,true,true,true,true,true,true,true,true,true,true,true,true] rfl rfl (any_of HT_.out (by kernel_rfl)) (fun _ _ _ h => h) (Or.inl ⟨by rfl,?_⟩) ?_ ?_;rotate_left
    ·intro w';go_simp;with_reducible rfl
    rotate_left
    ·simp only [Act.put,List.setIfInBounds_toArray,List.set_cons_zero,List.set_cons_succ,i64_w,i32_w];rfl
    refine done_ (done_of HT_.out (by kernel_rfl)) ?_;(try go_wp2)
    go_ret
    exact ⟨by first | rfl | (simp [errW_none,errW_some,IntKind.wrap_i64,wrap64];done) | (simp [errW_none,errW_some] <;> rfl) | (simp [*,errW_none,errW_some] <;> rfl),by repeat (first | (with_reducible first | exact HB.out | apply below_alloc | apply pw_below_drewN | apply below_drew1 | refine below_set ?_ GE101.out) | exact HB.out)⟩
   ·rw [if_neg c5] at H;have c5b0 : decide ((l0_1.length : Int) ≤ 60) = false := decide_eq_false c5;have c5b1 : decide (l0_1.length ≤ 60) = false := decide_eq_false (by omega);clear c5;obtain rfl := Option.some.inj H
    go_enter Try.func30,Try.ntmps30
    try go_wp2_with (first | ((with_reducible refine gate_dst (N := 1) rfl ?_);(try (refine gate_guard (by rfl) ?_;dsimp only));refine box_event ?hg (N := 1) ?hd (cs := #[.slice A0_0 l0_0.length c0_0,.slice A0_1 l0_1.length c0_1]) (t := 33) ?hr ?_;(case hd => rfl);(case hg => rfl);(case hr => first | (go_simp;done) | (go_simp;rfl));intro gb101 hg w12 hbox hb;have n0_ := Aside0.mk (below_step (by repeat (first | (with_reducible first | exact HB.out | apply below_alloc | apply pw_below_drewN | apply below_drew1) | exact HB.out)) hb);have n1_ := Aside0.mk (hbox);have n2_ := Aside0.mk ((by rw [hg];exact (below_size (by repeat (first | (with_reducible first | exact HB.out | apply below_alloc | apply pw_below_drewN | apply below_drew1) | exact HB.out))) : w.heap.size ≤ gb101));have n3_ := Aside0.mk ((by rw [hg];exact (below_size (by repeat (first | (with_reducible first | exact HB.out | apply below_alloc | apply pw_below_drewN | apply below_drew1) | exact HB.out))) : w.heap.size ≤ gb101));clear HB;have HB := n0_;have BK101 := n1_;have GW101 := n2_;have GE101 := n3_;clear n0_ n1_ n2_ n3_;clear hb hbox hg))
    have n0_ := Aside0.mk (blk_drew BK101.out);have n1_ := Aside0.mk (below_drew1 HB.out);clear BK101;clear HB;have BK101 := n0_;have HB := n1_;clear n0_ n1_;refine start_ (n := 25) (S := fun w' => w'.cell? ⟨gb101,0,none⟩ = some (.slice A0_0 l0_0.length c0_0) ∧ w'.cell? ⟨gb101,1,none⟩ = some (.slice A0_1 l0_1.length c0_1)) (ds := []) #[false,false,false,false,false,false,false,false,false,false,false,false,false,false,false,false,false,false,false,false,false,false,false,false,false] (by kernel_rfl) rfl rfl ⟨(blk_cell BK101.out 0).trans rfl,(blk_cell BK101.out 1).trans rfl⟩ (fun hHeld => ?_);refine with_tabW impl_ValidCode.tab1 impl_ValidCode.bits1 (fun HT_ HW_ => ?_);generalize w12.drew = w13 at BK101 HB hHeld ⊢;refine pure_ (i := 0) (N := some 3) (v := ?_) (a' := ?_) #[true,false,false,false,false,false,false,false,false,false,false,false,false,false,false,false,false,false,false,false,false,false,false,false,false] rfl rfl (any_of HT_.out (by kernel_rfl)) (fun _ _ _ h => h) (Or.inl ⟨by rfl,?_⟩) ?_ ?_;rotate_left
    ·intro w';go_simp;with_reducible rfl
    rotate_left
    ·simp only [Act.put,List.setIfInBounds_toArray,List.set_cons_zero,List.set_cons_succ,i64_w,i32_w];rfl
    refine take_ (i := 1) (N := some 4) (v := ?_) (a' := ?_) #[true,true,false,false,false,false,false,false,false,false,false,false,false,false,false,false,false,false,false,false,false,false,false,false,false] rfl rfl (take_ofW HT_.out HW_.out (by kernel_rfl)) (fun _ _ _ h => h) (Or.inl ⟨by rfl,?_⟩) hHeld ?_ ?_;rotate_left
    ·rintro w' ⟨s0,s1⟩
     go_simp;with_reducible rfl
    rotate_left
    ·simp only [Act.put,List.setIfInBounds_toArray,List.set_cons_zero,List.set_cons_succ,i64_w,i32_w];rfl
    refine pure_ (i := 2) (N := some 5) (v := ?_) (a' := ?_) #[true,true,true,false,false,false,false,false,false,false,false,false,false,false,false,false,false,false,false,false,false,false,false,false,false] rfl rfl (any_of HT_.out (by kernel_rfl)) (fun _ _ _ h => h) (Or.inl ⟨by rfl,?_⟩) ?_ ?_;rotate_left
    ·intro w';go_simp;with_reducible rfl
    rotate_left
    ·simp only [Act.put,List.setIfInBounds_toArray,List.set_cons_zero,List.set_cons_succ,i64_w,i32_w];rfl
    refine pure_ (i := 3) (N := some 6) (v := ?_) (a' := ?_) #[true,true,true,true,false,false,false,false,false,false,false,false,false,false,false,false,false,false,false,false,false,false,false,false,false] rfl rfl (any_of HT_.out (by kernel_rfl)) (fun _ _ _ h => h) (Or.inl ⟨by rfl,?_⟩) ?_ ?_;rotate_left
    ·intro w';go_simp;with_reducible rfl
    rotate_left
    ·simp only [Act.put,List.setIfInBounds_toArray,List.set_cons_zero,List.set_cons_succ,i64_w,i32_w];rfl
    refine pure_ (i := 4) (N := some 7) (v := ?_) (a' := ?_) #[true,true,true,true,true,false,false,false,false,false,false,false,false,false,false,false,false,false,false,false,false,false,false,false,false] rfl rfl (any_of HT_.out (by kernel_rfl)) (fun _ _ _ h => h) (Or.inl ⟨by rfl,?_⟩) ?_ ?_;rotate_left
    ·intro w';go_simp;with_reducible rfl
    rotate_left
    ·simp only [Act.put,List.setIfInBounds_toArray,List.set_cons_zero,List.set_cons_succ,i64_w,i32_w];rfl
    refine pure_ (i := 5) (N := some 8) (v := ?_) (a' := ?_) #[true,true,true,true,true,true,false,false,false,false,false,false,false,false,false,false,false,false,false,false,false,false,false,false,false] rfl rfl (any_of HT_.out (by kernel_rfl)) (fun _ _ _ h => h) (Or.inl ⟨by rfl,?_⟩) ?_ ?_;rotate_left
    ·intro w';go_simp;with_reducible rfl
    rotate_left
    ·simp only [Act.put,List.setIfInBounds_toArray,List.set_cons_zero,List.set_cons_succ,i64_w,i32_w];rfl
    refine take_ (i := 6) (N := some 9) (v := ?_) (a' := ?_) #[true,true,true,true,true,true,true,false,false,false,false,false,false,false,false,false,false,false,false,false,false,false,false,false,false] rfl rfl (take_ofW HT_.out HW_.out (by kernel_rfl)) (fun _ _ _ h => h) (Or.inl ⟨by rfl,?_⟩) hHeld ?_ ?_;rotate_left
    ·rintro w' ⟨s0,s1⟩
     go_simp;with_reducible rfl
    rotate_left
    ·simp only [Act.put,List.setIfInBounds_toArray,List.set_cons_zero,List.set_cons_succ,i64_w,i32_w];rfl
    refine one_ (i := 7) (N := some 10) #[true,true,true,true,true,true,true,true,false,false,false,false,false,false,false,false,false,false,false,false,false,false,false,false,false] rfl rfl (one_of HT_.out (by kernel_rfl)) (by decide) (fun K hK => ?_);refine goes_ Try.func64 (by kernel_rfl) rfl #[.slice A0_0 l0_0.length c0_0,.int .i64 0] (by rfl) rfl rfl (by (try simp only [List.map_toArray,List.map_cons,List.map_nil]);first | done | rfl | (simp only [List.length_drop,List.length_take];rfl)) ?_
    with_reducible refine (impl_setCode.calls _ _ l0_0 0 t102 _ ?side1 ?side2 A3.out).mono ?_
    (case side1 => repeat (first | exact (Kd.C_below HR0_0.out HB.out) | (with_reducible refine Kd.C_alloc ?_ _) | (with_reducible refine Kd.C_drewN ?_ _) | (with_reducible refine Kd.C_drew ?_)));(case side2 => exact HC0_0.out)
    rintro e w14 ⟨rfl,hb⟩
    refine ⟨_,rfl,?_⟩;have n0_ := Aside0.mk (blk_below (g := gb101) (o := .cells #[.slice A0_0 l0_0.length c0_0,.slice A0_1 l0_1.length c0_1] 33 (0,0)) (by (with_reducible repeat (first | refine blk_drewN ?_ _ | refine blk_drew ?_ | refine blk_alloc ?_ _));exact BK101.out) hb);have n1_ := Aside0.mk (below_step (by repeat (first | (with_reducible first | exact HB.out | apply below_alloc | apply pw_below_drewN | apply below_drew1 | refine below_set ?_ GE101.out) | exact HB.out)) hb);clear BK101;clear HB;have BK101 := n0_;have HB := n1_;clear n0_ n1_;(try clear hb);(try clear hb2);(try clear hk);(try clear hi);refine hK.out _ _ ⟨(blk_cell BK101.out 0).trans rfl,(blk_cell BK101.out 1).trans rfl⟩ (fun hHeld => ?_);clear hK K;refine norm_ (a' := ?_) ?_ ?_;rotate_left
    ·show Act.put _ (some 10) _ = _
     simp only [Act.put,List.setIfInBounds_toArray,List.set_cons_zero,List.set_cons_succ,i64_w,i32_w];rfl
    refine pure_ (i := 8) (N := some 11) (v := ?_) (a' := ?_) #[true,true,true,true,true,true,true,true,true,false,false,false,false,false,false,false,false,false,false,false,false,false,false,false,false] rfl rfl (any_of HT_.out (by kernel_rfl)) (fun _ _ _ h => h) (Or.inl ⟨by rfl,?_⟩) ?_ ?_;rotate_left
    ·intro w';go_simp;with_reducible rfl
    rotate_left
    ·simp only [Act.put,List.setIfInBounds_toArray,List.set_cons_zero,List.set_cons_succ,i64_w,i32_w];rfl
    refine pure_ (i := 9) (N := some 12) (v := ?_) (a' := ?_) #[true,true,true,true,true,true,true,true,true,true,false,false,false,false,false,false,false,false,false,false,false,false,false,false,false] rfl rfl (any_of HT_.out (by kernel_rfl)) (fun _ _ _ h => h) (Or.inl ⟨by rfl,?_⟩) ?_ ?_;rotate_left
    ·intro w';go_simp;with_reducible rfl
    rotate_left
    ·simp only [Act.put,List.setIfInBounds_toArray,List.set_cons_zero,List.set_cons_succ,i64_w,i32_w];rfl
    refine pure_ (i := 10) (N := some 13) (v := ?_) (a' := ?_) #[true,true,true,true,true,true,true,true,true,true,true,false,false,false,false,false,false,false,false,false,false,false,false,false,false] rfl rfl (any_of HT_.out (by kernel_rfl)) (fun _ _ _ h => h) (Or.inl ⟨by rfl,?_⟩) ?_ ?_;rotate_left
    ·intro w';go_simp;with_reducible rfl
    rotate_left
    ·simp only [Act.put,List.setIfInBounds_toArray,List.set_cons_zero,List.set_cons_succ,i64_w,i32_w];rfl
    refine pure_ (i := 11) (N := some 14) (v := ?_) (a' := ?_) #[true,true,true,true,true,true,true,true,true,true,true,true,false,false,false,false,false,false,false,false,false,false,false,false,false] rfl rfl (any_of HT_.out (by kernel_rfl)) (fun _ _ _ h => h) (Or.inl ⟨by rfl,?_⟩) ?_ ?_;rotate_left
    ·intro w';go_simp;with_reducible rfl
    rotate_left
    ·simp only [Act.put,List.setIfInBounds_toArray,List.set_cons_zero,List.set_cons_succ,i64_w,i32_w];rfl
    refine take_ (i := 12) (N := some 15) (v := ?_) (a' := ?_) #[true,true,true,true,true,true,true,true,true,true,true,true,true,false,false,false,false,false,false,false,false,false,false,false,false] rfl rfl (take_ofW HT_.out HW_.out (by kernel_rfl)) (fun _ _ _ h => h) (Or.inl ⟨by rfl,?_⟩) hHeld ?_ ?_;rotate_left
    ·rintro w' ⟨s0,s1⟩
     go_simp;with_reducible rfl
    rotate_left
    ·simp only [Act.put,List.setIfInBounds_toArray,List.set_cons_zero,List.set_cons_succ,i64_w,i32_w];rfl
    refine pure_ (i := 13) (N := some 16) (v := ?_) (a' := ?_) #[true,true,true,true,true,true,true,true,true,true,true,true,true,true,false,false,false,false,false,false,false,false,false,false,false] rfl rfl (any_of HT_.out (by kernel_rfl)) (fun _ _ _ h => h) (Or.inl ⟨by rfl,?_⟩) ?_ ?_;rotate_left
    ·intro w';go_simp;with_reducible rfl
    rotate_left
    ·simp only [Act.put,List.setIfInBounds_toArray,List.set_cons_zero,List.set_cons_succ,i64_w,i32_w];rfl
    refine pure_ (i := 14) (N := some 17) (v := ?_) (a' := ?_) #[true,true,true,true,true,true,true,true,true,true,true,true,true,true,true,false,false,false,false,false,false,false,false,false,false] rfl rfl (any_of HT_.out (by kernel_rfl)) (fun _ _ _ h => h) (Or.inl ⟨by rfl,?_⟩) ?_ ?_;rotate_left
    ·intro w';go_simp;with_reducible rfl
    rotate_left
    ·simp only [Act.put,List.setIfInBounds_toArray,List.set_cons_zero,List.set_cons_succ,i64_w,i32_w];rfl
    refine pure_ (i := 15) (N := some 18) (v := ?_) (a' := ?_) #[true,true,true,true,true,true,true,true,true,true,true,true,true,true,true,true,false,false,false,false,false,false,false,false,false] rfl rfl (any_of HT_.out (by kernel_rfl)) (fun _ _ _ h => h) (Or.inl ⟨by rfl,?_⟩) ?_ ?_;rotate_left
    ·intro w';go_simp;with_reducible rfl
    rotate_left
    ·simp only [Act.put,List.setIfInBounds_toArray,List.set_cons_zero,List.set_cons_succ,i64_w,i32_w];rfl
    refine pure_ (i := 16) (N := some 19) (v := ?_) (a' := ?_) #[true,true,true,true,true,true,true,true,true,true,true,true,true,true,true,true,true,false,false,false,false,false,false,false,false] rfl rfl (any_of HT_.out (by kernel_rfl)) (fun _ _ _ h => h) (Or.inl ⟨by rfl,?_⟩) ?_ ?_;rotate_left
    ·intro w';go_simp;with_reducible rfl
    rotate_left
    ·simp only [Act.put,List.setIfInBounds_toArray,List.set_cons_zero,List.set_cons_succ,i64_w,i32_w];rfl
    refine pure_ (i := 17) (N := some 20) (v := undef) (a' := ?_) #[true,true,true,true,true,true,true,true,true,true,true,true,true,true,true,true,true,true,false,false,false,false,false,false,false] rfl rfl (any_of HT_.out (by kernel_rfl)) (fun _ _ _ h => h) (Or.inr ⟨by rfl,rfl⟩) ?_ ?_;rotate_left
    ·simp only [Act.put,List.setIfInBounds_toArray,List.set_cons_zero,List.set_cons_succ,i64_w,i32_w];rfl
    refine pure_ (i := 18) (N := some 21) (v := undef) (a' := ?_) #[true,true,true,true,true,true,true,true,true,true,true,true,true,true,true,true,true,true,true,false,false,false,false,false,false] rfl rfl (any_of HT_.out (by kernel_rfl)) (fun _ _ _ h => h) (Or.inr ⟨by rfl,rfl⟩) ?_ ?_;rotate_left
    ·simp only [Act.put,List.setIfInBounds_toArray,List.set_cons_zero,List.set_cons_succ,i64_w,i32_w];rfl
    refine pure_ (i := 19) (N := some 22) (v := undef) (a' := ?_) #[true,true,true,true,true,true,true,true,true,true,true,true,true,true,true,true,true,true,true,true,false,false,false,false,false] rfl rfl (any_of HT_.out (by kernel_rfl)) (fun _ _ _ h => h) (Or.inr ⟨by rfl,rfl⟩) ?_ ?_;rotate_left
    ·simp only [Act.put,List.setIfInBounds_toArray,List.set_cons_zero,List.set_cons_succ,i64_w,i32_w];rfl
    refine pure_ (i := 20) (N := some 23) (v := undef) (a' := ?_) #[true,true,true,true,true,true,true,true,true,true,true,true,true,true,true,true,true,true,true,true,true,false,false,false,false] rfl rfl (any_of HT_.out (by kernel_rfl)) (fun _ _ _ h => h) (Or.inr ⟨by rfl,rfl⟩) ?_ ?_;rotate_left
    ·simp only [Act.put,List.setIfInBounds_toArray,List.set_cons_zero,List.set_cons_succ,i64_w,i32_w];rfl
    refine pure_ (i := 21) (N := some 24) (v := undef) (a' := ?_) #[true,true,true,true,true,true,true,true,true,true,true,true,true,true,true,true,true,true,true,true,true,true,false,false,false] rfl rfl (any_of HT_.out (by kernel_rfl)) (fun _ _ _ h => h) (Or.inr ⟨by rfl,rfl⟩) ?_ ?_;rotate_left
    ·simp only [Act.put,List.setIfInBounds_toArray,List.set_cons_zero,List.set_cons_succ,i64_w,i32_w];rfl
    refine pure_ (i := 22) (N := some 25) (v := undef) (a' := ?_) #[true,true,true,true,true,true,true,true,true,true,true,true,true,true,true,true,true,true,true,true,true,true,true,false,false] rfl rfl (any_of HT_.out (by kernel_rfl)) (fun _ _ _ h => h) (Or.inr ⟨by rfl,rfl⟩) ?_ ?_;rotate_left
    ·simp only [Act.put,List.setIfInBounds_toArray,List.set_cons_zero,List.set_cons_succ,i64_w,i32_w];rfl
    refine pure_ (i := 23) (N := some 26) (v := ?_) (a' := ?_) #[true,true,true,true,true,true,true,true,true,true,true,true,true,true,true,true,true,true,true,true,true,true,true,true,false] rfl rfl (any_of HT_.out (by kernel_rfl)) (fun _ _ _ h => h) (Or.inl ⟨by rfl,?_⟩) ?_ ?_;rotate_left
    ·intro w';go_simp;with_reducible rfl
    rotate_left
    ·simp only [Act.put,List.setIfInBounds_toArray,List.set_cons_zero,List.set_cons_succ,i64_w,i32_w];rfl
    refine pure_ (i := 24) (N := some 2) (v := ?_) (a' := ?_) #[true,true,true,true,true,true,true,true,true,true,true,true,true,true,true,true,true,true,true,true,true,true,true,true,true] rfl rfl (any_of HT_.out (by kernel_rfl)) (fun _ _ _ h => h) (Or.inl ⟨by rfl,?_⟩) ?_ ?_;rotate_left
    ·intro w';go_simp;with_reducible rfl
    rotate_left
    ·simp only [Act.put,List.setIfInBounds_toArray,List.set_cons_zero,List.set_cons_succ,i64_w,i32_w];rfl
    refine done_ (done_of HT_.out (by kernel_rfl)) ?_;(try go_wp2)
    go_ret
    exact ⟨by first | rfl | (simp [errW_none,errW_some,IntKind.wrap_i64,wrap64];done) | (simp [errW_none,errW_some] <;> rfl) | (simp [*,errW_none,errW_some] <;> rfl),by repeat (first | (with_reducible first | exact HB.out | apply below_alloc | apply pw_below_drewN | apply below_drew1 | refine below_set ?_ GE101.out) | exact HB.out)⟩
  ·rw [if_neg c4] at H;have c4b0 : (t102 == 0) = false := beq_eq_false_iff_ne.mpr c4;have c4b1 : (t102 != 0) = true := bne_iff_ne.mpr c4;obtain rfl := Option.some.inj H
   go_enter Try.func30,Try.ntmps30
   try go_wp2_with (first | ((with_reducible refine gate_dst (N := 1) rfl ?_);(try (refine gate_guard (by rfl) ?_;dsimp only));refine box_event ?hg (N := 1) ?hd (cs := #[.slice A0_0 l0_0.length c0_0,.slice A0_1 l0_1.length c0_1]) (t := 33) ?hr ?_;(case hd => rfl);(case hg => rfl);(case hr => first | (go_simp;done) | (go_simp;rfl));intro gb101 hg w15 hbox hb;have n0_ := Aside0.mk (below_step (by repeat (first | (with_reducible first | exact HB.out | apply below_alloc | apply pw_below_drewN | apply below_drew1) | exact HB.out)) hb);have n1_ := Aside0.mk (hbox);have n2_ := Aside0.mk ((by rw [hg];exact (below_size (by repeat (first | (with_reducible first | exact HB.out | apply below_alloc | apply pw_below_drewN | apply below_drew1) | exact HB.out))) : w.heap.size ≤ gb101));have n3_ := Aside0.mk ((by rw [hg];exact (below_size (by repeat (first | (with_reducible first | exact HB.out | apply below_alloc | apply pw_below_drewN | apply below_drew1) | exact HB.out))) : w.heap.size ≤ gb101));clear HB;have HB := n0_;have BK101 := n1_;have GW101 := n2_;have GE101 := n3_;clear n0_ n1_ n2_ n3_;clear hb hbox hg))
   have n0_ := Aside0.mk (blk_drew BK101.out);have n1_ := Aside0.mk (below_drew1 HB.out);clear BK101;clear HB;have BK101 := n0_;have HB := n1_;clear n0_ n1_;refine start_ (n := 25) (S := fun w' => w'.cell? ⟨gb101,0,none⟩ = some (.slice A0_0 l0_0.length c0_0) ∧ w'.cell? ⟨gb101,1,none⟩ = some (.slice A0_1 l0_1.length c0_1)) (ds := []) #[false,false,false,false,false,false,false,false,false,false,false,false,false,false,false,false,false,false,false,false,false,false,false,false,false] (by kernel_rfl) rfl rfl ⟨(blk_cell BK101.out 0).trans rfl,(blk_cell BK101.out 1).trans rfl⟩ (fun hHeld => ?_);refine with_tabW impl_ValidCode.tab1 impl_ValidCode.bits1 (fun HT_ HW_ => ?_);generalize w15.drew = w16 at BK101 HB hHeld ⊢;refine pure_ (i := 0) (N := some 3) (v := ?_) (a' := ?_) #[true,false,false,false,false,false,false,false,false,false,false,false,false,false,false,false,false,false,false,false,false,false,false,false,false] rfl rfl (any_of HT_.out (by kernel_rfl)) (fun _ _ _ h => h) (Or.inl ⟨by rfl,?_⟩) ?_ ?_;rotate_left
   ·intro w';go_simp;with_reducible rfl
   rotate_left
   ·simp only [Act.put,List.setIfInBounds_toArray,List.set_cons_zero,List.set_cons_succ,i64_w,i32_w];rfl
   refine take_ (i := 1) (N := some 4) (v := ?_) (a' := ?_) #[true,true,false,false,false,false,false,false,false,false,false,false,false,false,false,false,false,false,false,false,false,false,false,false,false] rfl rfl (take_ofW HT_.out HW_.out (by kernel_rfl)) (fun _ _ _ h => h) (Or.inl ⟨by rfl,?_⟩) hHeld ?_ ?_;rotate_left
   ·rintro w' ⟨s0,s1⟩
    go_simp;with_reducible rfl
   rotate_left
   ·simp only [Act.put,List.setIfInBounds_toArray,List.set_cons_zero,List.set_cons_succ,i64_w,i32_w];rfl
   refine pure_ (i := 2) (N := some 5) (v := ?_) (a' := ?_) #[true,true,true,false,false,false,false,false,false,false,false,false,false,false,false,false,false,false,false,false,false,false,false,false,false] rfl rfl (any_of HT_.out (by kernel_rfl)) (fun _ _ _ h => h) (Or.inl ⟨by rfl,?_⟩) ?_ ?_;rotate_left
   ·intro w';go_simp;with_reducible rfl
   rotate_left
   ·simp only [Act.put,List.setIfInBounds_toArray,List.set_cons_zero,List.set_cons_succ,i64_w,i32_w];rfl
   refine pure_ (i := 3) (N := some 6) (v := ?_) (a' := ?_) #[true,true,true,true,false,false,false,false,false,false,false,false,false,false,false,false,false,false,false,false,false,false,false,false,false] rfl rfl (any_of HT_.out (by kernel_rfl)) (fun _ _ _ h => h) (Or.inl ⟨by rfl,?_⟩) ?_ ?_;rotate_left
   ·intro w';go_simp;with_reducible rfl
   rotate_left
   ·simp only [Act.put,List.setIfInBounds_toArray,List.set_cons_zero,List.set_cons_succ,i64_w,i32_w];rfl
   refine pure_ (i := 4) (N := some 7) (v := ?_) (a' := ?_) #[true,true,true,true,true,false,false,false,false,false,false,false,false,false,false,false,false,false,false,false,false,false,false,false,false] rfl rfl (any_of HT_.out (by kernel_rfl)) (fun _ _ _ h => h) (Or.inl ⟨by rfl,?_⟩) ?_ ?_;rotate_left
   ·intro w';go_simp;with_reducible rfl
   rotate_left
   ·simp only [Act.put,List.setIfInBounds_toArray,List.set_cons_zero,List.set_cons_succ,i64_w,i32_w];rfl
   refine pure_ (i := 5) (N := some 8) (v := ?_) (a' := ?_) #[true,true,true,true,true,true,false,false,false,false,false,false,false,false,false,false,false,false,false,false,false,false,false,false,false] rfl rfl (any_of HT_.out (by kernel_rfl)) (fun _ _ _ h => h) (Or.inl ⟨by rfl,?_⟩) ?_ ?_;rotate_left
   ·intro w';go_simp;with_reducible rfl
   rotate_left
   ·simp only [Act.put,List.setIfInBounds_toArray,List.set_cons_zero,List.set_cons_succ,i64_w,i32_w];rfl
   refine take_ (i := 6) (N := some 9) (v := ?_) (a' := ?_) #[true,true,true,true,true,true,true,false,false,false,false,false,false,false,false,false,false,false,false,false,false,false,false,false,false] rfl rfl (take_ofW HT_.out HW_.out (by kernel_rfl)) (fun _ _ _ h => h) (Or.inl ⟨by rfl,?_⟩) hHeld ?_ ?_;rotate_left
   ·rintro w' ⟨s0,s1⟩
    go_simp;with_reducible rfl
   rotate_left
   ·simp only [Act.put,List.setIfInBounds_toArray,List.set_cons_zero,List.set_cons_succ,i64_w,i32_w];rfl
   refine one_ (i := 7) (N := some 10) #[true,true,true,true,true,true,true,true,false,false,false,false,false,false,false,false,false,false,false,false,false,false,false,false,false] rfl rfl (one_of HT_.out (by kernel_rfl)) (by decide) (fun K hK => ?_);refine goes_ Try.func64 (by kernel_rfl) rfl #[.slice A0_0 l0_0.length c0_0,.int .i64 0] (by rfl) rfl rfl (by (try simp only [List.map_toArray,List.map_cons,List.map_nil]);first | done | rfl | (simp only [List.length_drop,List.length_take];rfl)) ?_
   with_reducible refine (impl_setCode.calls _ _ l0_0 0 t102 _ ?side1 ?side2 A3.out).mono ?_
   (case side1 => repeat (first | exact (Kd.C_below HR0_0.out HB.out) | (with_reducible refine Kd.C_alloc ?_ _) | (with_reducible refine Kd.C_drewN ?_ _) | (with_reducible refine Kd.C_drew ?_)));(case side2 => exact HC0_0.out)
   rintro e w17 ⟨rfl,hb⟩
   refine ⟨_,rfl,?_⟩;have n0_ := Aside0.mk (blk_below (g := gb101) (o := .cells #[.slice A0_0 l0_0.length c0_0,.slice A0_1 l0_1.length c0_1] 33 (0,0)) (by (with_reducible repeat (first | refine blk_drewN ?_ _ | refine blk_drew ?_ | refine blk_alloc ?_ _));exact BK101.out) hb);have n1_ := Aside0.mk (below_step (by repeat (first | (with_reducible first | exact HB.out | apply below_alloc | apply pw_below_drewN | apply below_drew1 | refine below_set ?_ GE101.out) | exact HB.out)) hb);clear BK101;clear HB;have BK101 := n0_;have HB := n1_;clear n0_ n1_;(try clear hb);(try clear hb2);(try clear hk);(try clear hi);refine hK.out _ _ ⟨(blk_cell BK101.out 0).trans rfl,(blk_cell BK101.out 1).trans rfl⟩ (fun hHeld => ?_);clear hK K;refine norm_ (a' := ?_) ?_ ?_;rotate_left
   ·show Act.put _ (some 10) _ = _
    simp only [Act.put,List.setIfInBounds_toArray,List.set_cons_zero,List.set_cons_succ,i64_w,i32_w];rfl
   refine pure_ (i := 8) (N := some 11) (v := ?_) (a' := ?_) #[true,true,true,true,true,true,true,true,true,false,false,false,false,false,false,false,false,false,false,false,false,false,false,false,false] rfl rfl (any_of HT_.out (by kernel_rfl)) (fun _ _ _ h => h) (Or.inl ⟨by rfl,?_⟩) ?_ ?_;rotate_left
   ·intro w';go_simp;with_reducible rfl
   rotate_left
   ·simp only [Act.put,List.setIfInBounds_toArray,List.set_cons_zero,List.set_cons_succ,i64_w,i32_w];rfl
   refine pure_ (i := 9) (N := some 12) (v := ?_) (a' := ?_) #[true,true,true,true,true,true,true,true,true,true,false,false,false,false,false,false,false,false,false,false,false,false,false,false,false] rfl rfl (any_of HT_.out (by kernel_rfl)) (fun _ _ _ h => h) (Or.inl ⟨by rfl,?_⟩) ?_ ?_;rotate_left
   ·intro w';go_simp;with_reducible rfl
   rotate_left
   ·simp only [Act.put,List.setIfInBounds_toArray,List.set_cons_zero,List.set_cons_succ,i64_w,i32_w];rfl
   refine pure_ (i := 10) (N := some 13) (v := ?_) (a' := ?_) #[true,true,true,true,true,true,true,true,true,true,true,false,false,false,false,false,false,false,false,false,false,false,false,false,false] rfl rfl (any_of HT_.out (by kernel_rfl)) (fun _ _ _ h => h) (Or.inl ⟨by rfl,?_⟩) ?_ ?_;rotate_left
   ·intro w';go_simp;with_reducible rfl
   rotate_left
   ·simp only [Act.put,List.setIfInBounds_toArray,List.set_cons_zero,List.set_cons_succ,i64_w,i32_w];rfl
   refine pure_ (i := 11) (N := some 14) (v := undef) (a' := ?_) #[true,true,true,true,true,true,true,true,true,true,true,true,false,false,false,false,false,false,false,false,false,false,false,false,false] rfl rfl (any_of HT_.out (by kernel_rfl)) (fun _ _ _ h => h) (Or.inr ⟨by rfl,rfl⟩) ?_ ?_;rotate_left
   ·simp only [Act.put,List.setIfInBounds_toArray,List.set_cons_zero,List.set_cons_succ,i64_w,i32_w];rfl
   refine pure_ (i := 12) (N := some 15) (v := undef) (a' := ?_) #[true,true,true,true,true,true,true,true,true,true,true,true,true,false,false,false,false,false,false,false,false,false,false,false,false] rfl rfl (any_of HT_.out (by kernel_rfl)) (fun _ _ _ h => h) (Or.inr ⟨by rfl,rfl⟩) ?_ ?_;rotate_left
   ·simp only [Act.put,List.setIfInBounds_toArray,List.set_cons_zero,List.set_cons_succ,i64_w,i32_w];rfl
   refine pure_ (i := 13) (N := some 16) (v := undef) (a' := ?_) #[true,true,true,true,true,true,true,true,true,true,true,true,true,true,false,false,false,false,false,false,false,false,false,false,false] rfl rfl (any_of HT_.out (by kernel_rfl)) (fun _ _ _ h => h) (Or.inr ⟨by rfl,rfl⟩) ?_ ?_;rotate_left
   ·simp only [Act.put,List.setIfInBounds_toArray,List.set_cons_zero,List.set_cons_succ,i64_w,i32_w];rfl
   refine pure_ (i := 14) (N := some 17) (v := undef) (a' := ?_) #[true,true,true,true,true,true,true,true,true,true,true,true,true,true,true,false,false,false,false,false,false,false,false,false,false] rfl rfl (any_of HT_.out (by kernel_rfl)) (fun _ _ _ h => h) (Or.inr ⟨by rfl,rfl⟩) ?_ ?_;rotate_left
   ·simp only [Act.put,List.setIfInBounds_toArray,List.set_cons_zero,List.set_cons_succ,i64_w,i32_w];rfl
   refine pure_ (i := 15) (N := some 18) (v := ?_) (a' := ?_) #[true,true,true,true,true,true,true,true,true,true,true,true,true,true,true,true,false,false,false,false,false,false,false,false,false] rfl rfl (any_of HT_.out (by kernel_rfl)) (fun _ _ _ h => h) (Or.inl ⟨by rfl,?_⟩) ?_ ?_;rotate_left
   ·intro w';go_simp;with_reducible rfl
   rotate_left
   ·simp only [Act.put,List.setIfInBounds_toArray,List.set_cons_zero,List.set_cons_succ,i64_w,i32_w];rfl
   refine pure_ (i := 16) (N := some 19) (v := ?_) (a' := ?_) #[true,true,true,true,true,true,true,true,true,true,true,true,true,true,true,true,true,false,false,false,false,false,false,false,false] rfl rfl (any_of HT_.out (by kernel_rfl)) (fun _ _ _ h => h) (Or.inl ⟨by rfl,?_⟩) ?_ ?_;rotate_left
   ·intro w';go_simp;with_reducible rfl
   rotate_left
   ·simp only [Act.put,List.setIfInBounds_toArray,List.set_cons_zero,List.set_cons_succ,i64_w,i32_w];rfl
   refine pure_ (i := 17) (N := some 20) (v := undef) (a' := ?_) #[true,true,true,true,true,true,true,true,true,true,true,true,true,true,true,true,true,true,false,false,false,false,false,false,false] rfl rfl (any_of HT_.out (by kernel_rfl)) (fun _ _ _ h => h) (Or.inr ⟨by rfl,rfl⟩) ?_ ?_;rotate_left
   ·simp only [Act.put,List.setIfInBounds_toArray,List.set_cons_zero,List.set_cons_succ,i64_w,i32_w];rfl
   refine pure_ (i := 18) (N := some 21) (v := undef) (a' := ?_) #[true,true,true,true,true,true,true,true,true,true,true,true,true,true,true,true,true,true,true,false,false,false,false,false,false] rfl rfl (any_of HT_.out (by kernel_rfl)) (fun _ _ _ h => h) (Or.inr ⟨by rfl,rfl⟩) ?_ ?_;rotate_left
   ·simp only [Act.put,List.setIfInBounds_toArray,List.set_cons_zero,List.set_cons_succ,i64_w,i32_w];rfl
   refine pure_ (i := 19) (N := some 22) (v := undef) (a' := ?_) #[true,true,true,true,true,true,true,true,true,true,true,true,true,true,true,true,true,true,true,true,false,false,false,false,false] rfl rfl (any_of HT_.out (by kernel_rfl)) (fun _ _ _ h => h) (Or.inr ⟨by rfl,rfl⟩) ?_ ?_;rotate_left
   ·simp only [Act.put,List.setIfInBounds_toArray,List.set_cons_zero,List.set_cons_succ,i64_w,i32_w];rfl
   refine pure_ (i := 20) (N := some 23) (v := undef) (a' := ?_) #[true,true,true,true,true,true,true,true,true,true,true,true,true,true,true,true,true,true,true,true,true,false,false,false,false] rfl rfl (any_of HT_.out (by kernel_rfl)) (fun _ _ _ h => h) (Or.inr ⟨by rfl,rfl⟩) ?_ ?_;rotate_left
   ·simp only [Act.put,List.setIfInBounds_toArray,List.set_cons_zero,List.set_cons_succ,i64_w,i32_w];rfl
   refine pure_ (i := 21) (N := some 24) (v := undef) (a' := ?_) #[true,true,true,true,true,true,true,true,true,true,true,true,true,true,true,true,true,true,true,true,true,true,false,false,false] rfl rfl (any_of HT_.out (by kernel_rfl)) (fun _ _ _ h => h) (Or.inr ⟨by rfl,rfl⟩) ?_ ?_;rotate_left
   ·simp only [Act.put,List.setIfInBounds_toArray,List.set_cons_zero,List.set_cons_succ,i64_w,i32_w];rfl
   refine pure_ (i := 22) (N := some 25) (v := undef) (a' := ?_) #[true,true,true,true,true,true,true,true,true,true,true,true,true,true,true,true,true,true,true,true,true,true,true,false,false] rfl rfl (any_of HT_.out (by kernel_rfl)) (fun _ _ _ h => h) (Or.inr ⟨by rfl,rfl⟩) ?_ ?_;rotate_left
   ·simp only [Act.put,List.setIfInBounds_toArray,List.set_cons_zero,List.set_cons_succ,i64_w,i32_w];rfl
   refine pure_ (i := 23) (N := some 26) (v := ?_) (a' := ?_) #[true,true,true,true,true,true,true,true,true,true,true,true,true,true,true,true,true,true,true,true,true,true,true,true,false] rfl rfl (any_of HT_.out (by kernel_rfl)) (fun _ _ _ h => h) (Or.inl ⟨by rfl,?_⟩) ?_ ?_;rotate_left
   ·intro w';go_simp;with_reducible rfl
   rotate_left
   ·simp only [Act.put,List.setIfInBounds_toArray,List.set_cons_zero,List.set_cons_succ,i64_w,i32_w];rfl
   refine pure_ (i := 24) (N := some 2) (v := ?_) (a' := ?_) #[true,true,true,true,true,true,true,true,true,true,true,true,true,true,true,true,true,true,true,true,true,true,true,true,true] rfl rfl (any_of HT_.out (by kernel_rfl)) (fun _ _ _ h => h) (Or.inl ⟨by rfl,?_⟩) ?_ ?_;rotate_left
   ·intro w';go_simp;with_reducible rfl
   rotate_left
   ·simp only [Act.put,List.setIfInBounds_toArray,List.set_cons_zero,List.set_cons_succ,i64_w,i32_w];rfl
   refine done_ (done_of HT_.out (by kernel_rfl)) ?_;(try go_wp2)
   go_ret
   exact ⟨by first | rfl | (simp [errW_none,errW_some,IntKind.wrap_i64,wrap64];done) | (simp [errW_none,errW_some] <;> rfl) | (simp [*,errW_none,errW_some] <;> rfl),by repeat (first | (with_reducible first | exact HB.out | apply below_alloc | apply pw_below_drewN | apply below_drew1 | refine below_set ?_ GE101.out) | exact HB.out)⟩
 ·rw [if_neg c2] at H;have c2b0 : decide (0 < (l0_0.length : Int)) = false := decide_eq_false c2;have c2b1 : decide (0 < l0_0.length) = false := decide_eq_false (by omega);clear c2;obtain rfl := Option.some.inj H
  go_enter Try.func30,Try.ntmps30
  try go_wp2_with (first | ((with_reducible refine gate_dst (N := 1) rfl ?_);(try (refine gate_guard (by rfl) ?_;dsimp only));refine box_event ?hg (N := 1) ?hd (cs := #[.slice A0_0 l0_0.length c0_0,.slice A0_1 l0_1.length c0_1]) (t := 33) ?hr ?_;(case hd => rfl);(case hg => rfl);(case hr => first | (go_simp;done) | (go_simp;rfl));intro gb101 hg w18 hbox hb;have n0_ := Aside0.mk (below_step (by repeat (first | (with_reducible first | exact HB.out | apply below_alloc | apply pw_below_drewN | apply below_drew1) | exact HB.out)) hb);have n1_ := Aside0.mk (hbox);have n2_ := Aside0.mk ((by rw [hg];exact (below_size (by repeat (first | (with_reducible first | exact HB.out | apply below_alloc | apply pw_below_drewN | apply below_drew1) | exact HB.out))) : w.heap.size ≤ gb101));have n3_ := Aside0.mk ((by rw [hg];exact (below_size (by repeat (first | (with_reducible first | exact HB.out | apply below_alloc | apply pw_below_drewN | apply below_drew1) | exact HB.out))) : w.heap.size ≤ gb101));clear HB;have HB := n0_;have BK101 := n1_;have GW101 := n2_;have GE101 := n3_;clear n0_ n1_ n2_ n3_;clear hb hbox hg))
  have n0_ := Aside0.mk (blk_drew BK101.out);have n1_ := Aside0.mk (below_drew1 HB.out);clear BK101;clear HB;have BK101 := n0_;have HB := n1_;clear n0_ n1_;refine start_ (n := 25) (S := fun w' => w'.cell? ⟨gb101,0,none⟩ = some (.slice A0_0 l0_0.length c0_0) ∧ w'.cell? ⟨gb101,1,none⟩ = some (.slice A0_1 l0_1.length c0_1)) (ds := []) #[false,false,false,false,false,false,false,false,false,false,false,false,false,false,false,false,false,false,false,false,false,false,false,false,false] (by kernel_rfl) rfl rfl ⟨(blk_cell BK101.out 0).trans rfl,(blk_cell BK101.out 1).trans rfl⟩ (fun hHeld => ?_);refine with_tabW impl_ValidCode.tab1 impl_ValidCode.bits1 (fun HT_ HW_ => ?_);generalize w18.drew = w19 at BK101 HB hHeld ⊢;refine pure_ (i := 0) (N := some 3) (v := ?_) (a' := ?_) #[true,false,false,false,false,false,false,false,false,false,false,false,false,false,false,false,false,false,false,false,false,false,false,false,false] rfl rfl (any_of HT_.out (by kernel_rfl)) (fun _ _ _ h => h) (Or.inl ⟨by rfl,?_⟩) ?_ ?_;rotate_left
  ·intro w';go_simp;with_reducible rfl
  rotate_left
  ·simp only [Act.put,List.setIfInBounds_toArray,List.set_cons_zero,List.set_cons_succ,i64_w,i32_w];rfl
  refine take_ (i := 1) (N := some 4) (v := ?_) (a' := ?_) #[true,true,false,false,false,false,false,false,false,false,false,false,false,false,false,false,false,false,false,false,false,false,false,false,false] rfl rfl (take_ofW HT_.out HW_.out (by kernel_rfl)) (fun _ _ _ h => h) (Or.inl ⟨by rfl,?_⟩) hHeld ?_ ?_;rotate_left
  ·rintro w' ⟨s0,s1⟩
   go_simp;with_reducible rfl
  rotate_left
  ·simp only [Act.put,List.setIfInBounds_toArray,List.set_cons_zero,List.set_cons_succ,i64_w,i32_w];rfl
  refine pure_ (i := 2) (N := some 5) (v := ?_) (a' := ?_) #[true,true,true,false,false,false,false,false,false,false,false,false,false,false,false,false,false,false,false,false,false,false,false,false,false] rfl rfl (any_of HT_.out (by kernel_rfl)) (fun _ _ _ h => h) (Or.inl ⟨by rfl,?_⟩) ?_ ?_;rotate_left
  ·intro w';go_simp;with_reducible rfl
  rotate_left
  ·simp only [Act.put,List.setIfInBounds_toArray,List.set_cons_zero,List.set_cons_succ,i64_w,i32_w];rfl
  refine pure_ (i := 3) (N := some 6) (v := ?_) (a' := ?_) #[true,true,true,true,false,false,false,false,false,false,false,false,false,false,false,false,false,false,false,false,false,false,false,false,false] rfl rfl (any_of HT_.out (by kernel_rfl)) (fun _ _ _ h => h) (Or.inl ⟨by rfl,?_⟩) ?_ ?_;rotate_left
  ·intro w';go_simp;with_reducible rfl
  rotate_left
  ·simp only [Act.put,List.setIfInBounds_toArray,List.set_cons_zero,List.set_cons_succ,i64_w,i32_w];rfl
  refine pure_ (i := 4) (N := some 7) (v := ?_) (a' := ?_) #[true,true,true,true,true,false,false,false,false,false,false,false,false,false,false,false,false,false,false,false,false,false,false,false,false] rfl rfl (any_of HT_.out (by kernel_rfl)) (fun _ _ _ h => h) (Or.inl ⟨by rfl,?_⟩) ?_ ?_;rotate_left
  ·intro w';go_simp;with_reducible rfl
  rotate_left
  ·simp only [Act.put,List.setIfInBounds_toArray,List.set_cons_zero,List.set_cons_succ,i64_w,i32_w];rfl
  refine pure_ (i := 5) (N := some 8) (v := undef) (a' := ?_) #[true,true,true,true,true,true,false,false,false,false,false,false,false,false,false,false,false,false,false,false,false,false,false,false,false] rfl rfl (any_of HT_.out (by kernel_rfl)) (fun _ _ _ h => h) (Or.inr ⟨by rfl,rfl⟩) ?_ ?_;rotate_left
  ·simp only [Act.put,List.setIfInBounds_toArray,List.set_cons_zero,List.set_cons_succ,i64_w,i32_w];rfl
  refine pure_ (i := 6) (N := some 9) (v := undef) (a' := ?_) #[true,true,true,true,true,true,true,false,false,false,false,false,false,false,false,false,false,false,false,false,false,false,false,false,false] rfl rfl (any_of HT_.out (by kernel_rfl)) (fun _ _ _ h => h) (Or.inr ⟨by rfl,rfl⟩) ?_ ?_;rotate_left
  ·simp only [Act.put,List.setIfInBounds_toArray,List.set_cons_zero,List.set_cons_succ,i64_w,i32_w];rfl
  refine pure_ (i := 7) (N := some 10) (v := undef) (a' := ?_) #[true,true,true,true,true,true,true,true,false,false,false,false,false,false,false,false,false,false,false,false,false,false,false,false,false] rfl rfl (any_of HT_.out (by kernel_rfl)) (fun _ _ _ h => h) (Or.inr ⟨by rfl,rfl⟩) ?_ ?_;rotate_left
  ·simp only [Act.put,List.setIfInBounds_toArray,List.set_cons_zero,List.set_cons_succ,i64_w,i32_w];rfl
  refine pure_ (i := 8) (N := some 11) (v := undef) (a' := ?_) #[true,true,true,true,true,true,true,true,true,false,false,false,false,false,false,false,false,false,false,false,false,false,false,false,false] rfl rfl (any_of HT_.out (by kernel_rfl)) (fun _ _ _ h => h) (Or.inr ⟨by rfl,rfl⟩) ?_ ?_;rotate_left
  ·simp only [Act.put,List.setIfInBounds_toArray,List.set_cons_zero,List.set_cons_succ,i64_w,i32_w];rfl
  refine pure_ (i := 9) (N := some 12) (v := ?_) (a' := ?_) #[true,true,true,true,true,true,true,true,true,true,false,false,false,false,false,false,false,false,false,false,false,false,false,false,false] rfl rfl (any_of HT_.out (by kernel_rfl)) (fun _ _ _ h => h) (Or.inl ⟨by rfl,?_⟩) ?_ ?_;rotate_left
  ·intro w';go_simp;with_reducible rfl
  rotate_left
  ·simp only [Act.put,List.setIfInBounds_toArray,List.set_cons_zero,List.set_cons_succ,i64_w,i32_w];rfl
  refine pure_ (i := 10) (N := some 13) (v := ?_) (a' := ?_) #[true,true,true,true,true,true,true,true,true,true,true,false,false,false,false,false,false,false,false,false,false,false,false,false,false] rfl rfl (any_of HT_.out (by kernel_rfl)) (fun _ _ _ h => h) (Or.inl ⟨by rfl,?_⟩) ?_ ?_;rotate_left
  ·intro w';go_simp;with_reducible rfl
  rotate_left
  ·simp only [Act.put,List.setIfInBounds_toArray,List.set_cons_zero,List.set_cons_succ,i64_w,i32_w];rfl
  refine pure_ (i := 11) (N := some 14) (v := undef) (a' := ?_) #[true,true,true,true,true,true,true,true,true,true,true,true,false,false,false,false,false,false,false,false,false,false,false,false,false] rfl rfl (any_of HT_.out (by kernel_rfl)) (fun _ _ _ h => h) (Or.inr ⟨by rfl,rfl⟩) ?_ ?_;rotate_left
  ·simp only [Act.put,List.setIfInBounds_toArray,List.set_cons_zero,List.set_cons_succ,i64_w,i32_w];rfl
  refine pure_ (i := 12) (N := some 15) (v := undef) (a' := ?_) #[true,true,true,true,true,true,true,true,true,true,true,true,true,false,false,false,false,false,false,false,false,false,false,false,false] rfl rfl (any_of HT_.out (by kernel_rfl)) (fun _ _ _ h => h) (Or.inr ⟨by rfl,rfl⟩) ?_ ?_;rotate_left
  ·simp only [Act.put,List.setIfInBounds_toArray,List.set_cons_zero,List.set_cons_succ,i64_w,i32_w];rfl
  refine pure_ (i := 13) (N := some 16) (v := undef) (a' := ?_) #[true,true,true,true,true,true,true,true,true,true,true,true,true,true,false,false,false,false,false,false,false,false,false,false,false] rfl rfl (any_of HT_.out (by kernel_rfl)) (fun _ _ _ h => h) (Or.inr ⟨by rfl,rfl⟩) ?_ ?_;rotate_left
  ·simp only [Act.put,List.setIfInBounds_toArray,List.set_cons_zero,List.set_cons_succ,i64_w,i32_w];rfl
  refine pure_ (i := 14) (N := some 17) (v := undef) (a' := ?_) #[true,true,true,true,true,true,true,true,true,true,true,true,true,true,true,false,false,false,false,false,false,false,false,false,false] rfl rfl (any_of HT_.out (by kernel_rfl)) (fun _ _ _ h => h) (Or.inr ⟨by rfl,rfl⟩) ?_ ?_;rotate_left
  ·simp only [Act.put,List.setIfInBounds_toArray,List.set_cons_zero,List.set_cons_succ,i64_w,i32_w];rfl
  refine pure_ (i := 15) (N := some 18) (v := ?_) (a' := ?_) #[true,true,true,true,true,true,true,true,true,true,true,true,true,true,true,true,false,false,false,false,false,false,false,false,false] rfl rfl (any_of HT_.out (by kernel_rfl)) (fun _ _ _ h => h) (Or.inl ⟨by rfl,?_⟩) ?_ ?_;rotate_left
  ·intro w';go_simp;with_reducible rfl
  rotate_left
  ·simp only [Act.put,List.setIfInBounds_toArray,List.set_cons_zero,List.set_cons_succ,i64_w,i32_w];rfl
  refine pure_ (i := 16) (N := some 19) (v := ?_) (a' := ?_) #[true,true,true,true,true,true,true,true,true,true,true,true,true,true,true,true,true,false,false,false,false,false,false,false,false] rfl rfl (any_of HT_.out (by kernel_rfl)) (fun _ _ _ h => h) (Or.inl ⟨by rfl,?_⟩) ?_ ?_;rotate_left
  ·intro w';go_simp;with_reducible rfl
  rotate_left
  ·simp only [Act.put,List.setIfInBounds_toArray,List.set_cons_zero,List.set_cons_succ,i64_w,i32_w];rfl
  refine pure_ (i := 17) (N := some 20) (v := undef) (a' := ?_) #[true,true,true,true,true,true,true,true,true,true,true,true,true,true,true,true,true,true,false,false,false,false,false,false,false] rfl rfl (any_of HT_.out (by kernel_rfl)) (fun _ _ _ h => h) (Or.inr ⟨by rfl,rfl⟩) ?_ ?_;rotate_left
  ·simp only [Act.put,List.setIfInBounds_toArray,List.set_cons_zero,List.set_cons_succ,i64_w,i32_w];rfl
  refine pure_ (i := 18) (N := some 21) (v := undef) (a' := ?_) #[true,true,true,true,true,true,true,true,true,true,true,true,true,true,true,true,true,true,true,false,false,false,false,false,false] rfl rfl (any_of HT_.out (by kernel_rfl)) (fun _ _ _ h => h) (Or.inr ⟨by rfl,rfl⟩) ?_ ?_;rotate_left
  ·simp only [Act.put,List.setIfInBounds_toArray,List.set_cons_zero,List.set_cons_succ,i64_w,i32_w];rfl
  refine pure_ (i := 19) (N := some 22) (v := undef) (a' := ?_) #[true,true,true,true,true,true,true,true,true,true,true,true,true,true,true,true,true,true,true,true,false,false,false,false,false] rfl rfl (any_of HT_.out (by kernel_rfl)) (fun _ _ _ h => h) (Or.inr ⟨by rfl,rfl⟩) ?_ ?_;rotate_left
  ·simp only [Act.put,List.setIfInBounds_toArray,List.set_cons_zero,List.set_cons_succ,i64_w,i32_w];rfl
  refine pure_ (i := 20) (N := some 23) (v := undef) (a' := ?_) #[true,true,true,true,true,true,true,true,true,true,true,true,true,true,true,true,true,true,true,true,true,false,false,false,false] rfl rfl (any_of HT_.out (by kernel_rfl)) (fun _ _ _ h => h) (Or.inr ⟨by rfl,rfl⟩) ?_ ?_;rotate_left
  ·simp only [Act.put,List.setIfInBounds_toArray,List.set_cons_zero,List.set_cons_succ,i64_w,i32_w];rfl
  refine pure_ (i := 21) (N := some 24) (v := undef) (a' := ?_) #[true,true,true,true,true,true,true,true,true,true,true,true,true,true,true,true,true,true,true,true,true,true,false,false,false] rfl rfl (any_of HT_.out (by kernel_rfl)) (fun _ _ _ h => h) (Or.inr ⟨by rfl,rfl⟩) ?_ ?_;rotate_left
  ·simp only [Act.put,List.setIfInBounds_toArray,List.set_cons_zero,List.set_cons_succ,i64_w,i32_w];rfl
  refine pure_ (i := 22) (N := some 25) (v := undef) (a' := ?_) #[true,true,true,true,true,true,true,true,true,true,true,true,true,true,true,true,true,true,true,true,true,true,true,false,false] rfl rfl (any_of HT_.out (by kernel_rfl)) (fun _ _ _ h => h) (Or.inr ⟨by rfl,rfl⟩) ?_ ?_;rotate_left
  ·simp only [Act.put,List.setIfInBounds_toArray,List.set_cons_zero,List.set_cons_succ,i64_w,i32_w];rfl
  refine pure_ (i := 23) (N := some 26) (v := ?_) (a' := ?_) #[true,true,true,true,true,true,true,true,true,true,true,true,true,true,true,true,true,true,true,true,true,true,true,true,false] rfl rfl (any_of HT_.out (by kernel_rfl)) (fun _ _ _ h => h) (Or.inl ⟨by rfl,?_⟩) ?_ ?_;rotate_left
  ·intro w';go_simp;with_reducible rfl
  rotate_left
  ·simp only [Act.put,List.setIfInBounds_toArray,List.set_cons_zero,List.set_cons_succ,i64_w,i32_w];rfl
  refine pure_ (i := 24) (N := some 2) (v := ?_) (a' := ?_) #[true,true,true,true,true,true,true,true,true,true,true,true,true,true,true,true,true,true,true,true,true,true,true,true,true] rfl rfl (any_of HT_.out (by kernel_rfl)) (fun _ _ _ h => h) (Or.inl ⟨by rfl,?_⟩) ?_ ?_;rotate_left
  ·intro w';go_simp;with_reducible rfl
  rotate_left
  ·simp only [Act.put,List.setIfInBounds_toArray,List.set_cons_zero,List.set_cons_succ,i64_w,i32_w];rfl
  refine done_ (done_of HT_.out (by kernel_rfl)) ?_;(try go_wp2)
  go_ret
  exact ⟨by first | rfl | (simp [errW_none,errW_some,IntKind.wrap_i64,wrap64];done) | (simp [errW_none,errW_some] <;> rfl) | (simp [*,errW_none,errW_some] <;> rfl),by repeat (first | (with_reducible first | exact HB.out | apply below_alloc | apply pw_below_drewN | apply below_drew1 | refine below_set ?_ GE101.out) | exact HB.out)⟩
end Go.Proofs.Ytgfknljhogfeaaa.G
end

section
namespace Go.Proofs.Ytgfknljhogfeaaa.G
open Go.RowKit Go.Proofs.YtgfknljhogfeaaaW.PrintWords Go.Proofs.YtgfknljhogfeaaaW.PrintLast Go.Proofs.YtgfknljhogfeaaaW.PrintMore
attribute [local go_sem] max2_int min2_int max_two min_two max_three min_three max_four min_four
set_option linter.unusedVariables false
set_option linter.unusedSimpArgs false
def impl_unlike.l0 : Nat → List Int → Int → List Int → Int → Int → Option (Int)
 | 0,_,_,_,_,_ => none
 | k + 1,x1,x5,x8,x9,x10 => if x10 < x9 then (if 0 ≤ x10 then (if x10 < (x8.length : Int) then (if x10 < (x1.length : Int) then (if (rd x1 x10) = (rd x8 x10) then (impl_unlike.l0 k x1 x5 x8 x9 (wrap64 (x10 + 1))) else (impl_unlike.l0 k x1 (wrap64 (x5 + 1)) x8 x9 (wrap64 (x10 + 1)))) else (none)) else (none)) else (none)) else (some x5)
def impl_unlike.f (k : Nat) (l0 : List Int) (l1 : List Int) : Option (Int) := impl_unlike.l0 k l1 0 l0 (l0.length : Int) 0
set_option maxHeartbeats 8000000 in
set_option maxRecDepth 100000 in
theorem impl_unlike.calls (k : Nat) (A0 : Option Addr) (c0 : Nat) (l0 : List Int) (A1 : Option Addr) (c1 : Nat) (l1 : List Int) (r : Int) (w : World) (hr0 : Kd.C (Kd.int .u8) w A0 l0.length l0) (hc0 : l0.length ≤ c0) (hr1 : Kd.C (Kd.int .u8) w A1 l1.length l1) (hc1 : l1.length ≤ c1) (h : impl_unlike.f k l0 l1 = some r) :
  Calls Try.prog 84 #[.slice A0 l0.length c0,.slice A1 l1.length c1] w fun e w' => e = .returned (.int .i64 r) ∧ Drawn0 w w' := by
 have HR0 := Aside0.mk hr0;have HC0 := Aside0.mk hc0;clear hr0 hc0;have HR1 := Aside0.mk hr1;have HC1 := Aside0.mk hc1;clear hr1 hc1;have H : (impl_unlike.l0 k l1 0 l0 (l0.length : Int) 0) = some r := h;clear h;have H' := Aside0.mk H;clear H
 go_enter Try.func84,Try.ntmps84
 go_wp2
 go_loopg [5,10] k (fun kq v5 v10 w' => ∃ (x5_1 : Int) (x10_1 : Int),v5 = .int .i64 x5_1 ∧ v10 = .int .i64 x10_1 ∧ Aside0 (impl_unlike.l0 kq l1 x5_1 l0 (l0.length : Int) x10_1 = some r) ∧ Aside0 (kq ≤ k) ∧ Drawn0 w w')
 case atStart => exact ⟨(0),(0),(by first | rfl | (simp only [IntKind.wrap_i64,wrap64];done) | (simp;done) | (simp [*];done)),(by first | rfl | (simp only [IntKind.wrap_i64,wrap64];done) | (simp;done) | (simp [*];done)),H',⟨Nat.le_refl _⟩,by repeat (first | exact Drawn0.refl _ | apply Drawn0.step)⟩
 case round =>
  clear H';(try clear c1);(try clear p2);obtain ⟨x5_1,x10_1,rfl,rfl,HA,HK1,⟨m1,rfl⟩⟩ := hrel
  cases gk with
  | zero => exact absurd HA.out (by simp [impl_unlike.l0])
  | succ k1 =>
   have H := HA.out;clear HA;simp only [impl_unlike.l0] at H
   by_cases c3 : x10_1 < (l0.length : Int)
   ·rw [if_pos c3] at H;have c3b0 : decide (x10_1 < (l0.length : Int)) = true := decide_eq_true c3;clear c3
    by_cases c4 : 0 ≤ x10_1
    ·rw [if_pos c4] at H;have c4b0 : decide (0 ≤ x10_1) = true := decide_eq_true c4;clear c4
     by_cases c5 : x10_1 < (l0.length : Int)
     ·rw [if_pos c5] at H;have c5b0 : decide (x10_1 < (l0.length : Int)) = true := decide_eq_true c5;clear c5
      by_cases c6 : x10_1 < (l1.length : Int)
      ·rw [if_pos c6] at H;have c6b0 : decide (x10_1 < (l1.length : Int)) = true := decide_eq_true c6;clear c6
       by_cases c7 : (rd l1 x10_1) = (rd l0 x10_1)
       ·rw [if_pos c7] at H;have c7b0 : ((rd l1 x10_1) == (rd l0 x10_1)) = true := beq_iff_eq.mpr c7;have c7b1 : ((rd l1 x10_1) != (rd l0 x10_1)) = false := bne_eq_false_iff_eq.mpr c7;clear c7;have H' := Aside0.mk H;clear H;have p101 : 0 ≤ (x10_1 : Int) := of_decide_eq_true (by first | (with_reducible assumption) | assumption);have q101 : x10_1 < (l0.length : Int) := of_decide_eq_true (by first | (with_reducible assumption) | assumption);obtain ⟨ad101,e101,hx101_0⟩ := Kd.at_int HR0.out x10_1 p101 q101;cases e101;replace p101 := eq_true p101;replace q101 := eq_true q101;have p102 : 0 ≤ (x10_1 : Int) := of_decide_eq_true (by first | (with_reducible assumption) | assumption);have q102 : x10_1 < (l1.length : Int) := of_decide_eq_true (by first | (with_reducible assumption) | assumption);obtain ⟨ad102,e102,hx102_0⟩ := Kd.at_int HR1.out x10_1 p102 q102;cases e102;replace p102 := eq_true p102;replace q102 := eq_true q102
        go_wp2
        go_roundg k1
        case measure => have := HK1.out;omega
        case rel => exact ⟨(x5_1),(wrap64 (x10_1 + 1)),(by first | rfl | (simp only [IntKind.wrap_i64,wrap64];done) | (simp;done) | (simp [*];done)),(by first | rfl | (simp only [IntKind.wrap_i64,wrap64];done) | (simp;done) | (simp [*];done)),H',⟨by have := HK1.out;omega⟩,by repeat (first | exact Drawn0.refl _ | apply Drawn0.step)⟩
       ·rw [if_neg c7] at H;have c7b0 : ((rd l1 x10_1) == (rd l0 x10_1)) = false := beq_eq_false_iff_ne.mpr c7;have c7b1 : ((rd l1 x10_1) != (rd l0 x10_1)) = true := bne_iff_ne.mpr c7;have H' := Aside0.mk H;clear H;have p101 : 0 ≤ (x10_1 : Int) := of_decide_eq_true (by first | (with_reducible assumption) | assumption);have q101 : x10_1 < (l0.length : Int) := of_decide_eq_true (by first | (with_reducible assumption) | assumption);obtain ⟨ad101,e101,hx101_0⟩ := Kd.at_int HR0.out x10_1 p101 q101;cases e101;replace p101 := eq_true p101;replace q101 := eq_true q101;have p102 : 0 ≤ (x10_1 : Int) := of_decide_eq_true (by first | (with_reducible assumption) | assumption);have q102 : x10_1 < (l1.length : Int) := of_decide_eq_true (by first | (with_reducible assumption) | assumption);obtain ⟨ad102,e102,hx102_0⟩ := Kd.at_int HR1.out x10_1 p102 q102;cases e102;replace p102 := eq_true p102;replace q102 := eq_true q102
        go_wp2
        go_roundg k1
        case measure => have := HK1.out;omega
        case rel => exact ⟨(wrap64 (x5_1 + 1)),(wrap64 (x10_1 + 1)),(by first | rfl | (simp only [IntKind.wrap_i64,wrap64];done) | (simp;done) | (simp [*];done)),(by first | rfl | (simp only [IntKind.wrap_i64,wrap64];done) | (simp;done) | (simp [*];done)),H',⟨by have := HK1.out;omega⟩,by repeat (first | exact Drawn0.refl _ | apply Drawn0.step)⟩
      ·rw [if_neg c6] at H;exact absurd H (by simp)
     ·rw [if_neg c5] at H;exact absurd H (by simp)
    ·rw [if_neg c4] at H;exact absurd H (by simp)
   ·rw [if_neg c3] at H;have c3b0 : decide (x10_1 < (l0.length : Int)) = false := decide_eq_false c3;clear c3;obtain rfl := Option.some.inj H
    go_wp2
    go_ret
    exact ⟨by first | rfl | (simp only [IntKind.wrap_i64,wrap64];done) | (simp;done) | (simp [*];done),by repeat (first | exact Drawn0.refl _ | apply Drawn0.step)⟩
end Go.Proofs.Ytgfknljhogfeaaa.G
end

section
namespace Go.Proofs.Ytgfknljhogfeaaa.G
open Go.RowKit Go.Proofs.YtgfknljhogfeaaaW.PrintWords Go.Proofs.YtgfknljhogfeaaaW.PrintLast Go.Proofs.YtgfknljhogfeaaaW.PrintMore
attribute [local go_sem] max2_int min2_int max_two min_two max_three min_three max_four min_four
set_option linter.unusedVariables false
set_option linter.unusedSimpArgs false
def impl_sightsApart.to (l0 l1 : List S61) : Nat → Nat
 | 0 => 0
 | i + 1 => impl_sightsApart.to l0 l1 i + difN (arrL61 (rd_T61 l0 (i : Int))) (arrL61 (rd_T61 l1 (i : Int))) 6
theorem impl_sightsApart.to_le (l0 l1 : List S61) : ∀ i,impl_sightsApart.to l0 l1 i ≤ 6 * i
 | 0 => Nat.le_refl _
 | i + 1 => by
  have h1 := impl_sightsApart.to_le l0 l1 i;have h2 := difN_le (arrL61 (rd_T61 l0 (i : Int))) (arrL61 (rd_T61 l1 (i : Int))) 6
  unfold impl_sightsApart.to
  omega
theorem impl_sightsApart.unl {xs ys : List Int} (h : xs.length ≤ ys.length) (h1 : xs.length ≤ 100) : impl_unlike.f 200 xs ys = some ((difN xs ys xs.length : Nat) : Int) := by
 have go : ∀ d i k : Nat,i + d = xs.length → d < k → impl_unlike.l0 k ys ((difN xs ys i : Nat) : Int) xs (xs.length : Int) (i : Int) = some ((difN xs ys xs.length : Nat) : Int) := by
  intro d
  induction d with
  | zero =>
   intro i k hi hk;obtain ⟨k,rfl⟩ : ∃ m,k = m + 1 := ⟨k - 1,by omega⟩
   obtain rfl : i = xs.length := by omega
   rw [impl_unlike.l0,if_neg (by omega)]
  | succ d ih =>
   intro i k hi hk;obtain ⟨k,rfl⟩ : ∃ m,k = m + 1 := ⟨k - 1,by omega⟩;have hle := difN_le xs ys i;have e1 := ih (i + 1) k (by omega) (by omega)
   have ed : difN xs ys (i + 1) = difN xs ys i + if xs.getD i 0 = ys.getD i 0 then 0 else 1 := rfl
   have r1 : rd xs (i : Int) = xs.getD i 0 := rfl;have r2 : rd ys (i : Int) = ys.getD i 0 := rfl;rw [impl_unlike.l0,if_pos (by omega),if_pos (by omega),if_pos (by omega),if_pos (by omega),r1,r2,show wrap64 ((i : Int) + 1) = ((i + 1 : Nat) : Int) from by unfold wrap64;omega]
   by_cases he : xs.getD i 0 = ys.getD i 0
   ·rw [ed,if_pos he] at e1;rw [if_pos he.symm];exact e1
   ·rw [ed,if_neg he] at e1;rw [if_neg (fun h_ => he h_.symm),show wrap64 (((difN xs ys i : Nat) : Int) + 1) = ((difN xs ys i + 1 : Nat) : Int) from by unfold wrap64;omega];exact e1
 exact go xs.length 0 200 (by omega) (by omega)
def impl_sightsApart.f (l0 l1 : List S61) : Option Int := if l0.length ≤ l1.length ∧ l0.length ≤ 1000000000000 then some (((impl_sightsApart.to l0 l1 l0.length : Nat)) : Int) else none
set_option maxHeartbeats 4000000 in
theorem impl_sightsApart.calls (A0 : Option Addr) (c0 : Nat) (l0 : List (S61)) (A1 : Option Addr) (c1 : Nat) (l1 : List (S61)) (r : Int) (w : World) (hr0 : Kd.C k61 w A0 l0.length l0) (hc0 : l0.length ≤ c0) (hr1 : Kd.C k61 w A1 l1.length l1) (hc1 : l1.length ≤ c1) (h : impl_sightsApart.f l0 l1 = some r) :
  Calls Try.prog 56 #[.slice A0 l0.length c0,.slice A1 l1.length c1] w fun e w' => e = .returned (.int .i64 r) ∧ Drawn0 w w' := by
 unfold impl_sightsApart.f at h
 by_cases hc : l0.length ≤ l1.length ∧ l0.length ≤ 1000000000000
 ·rw [if_pos hc] at h;obtain rfl := Option.some.inj h;obtain ⟨hca,hcb⟩ := hc;clear h;have hl9 : l0.length ≤ 9223372036854775807 := hr0.2.1;have hl8 : l1.length ≤ 9223372036854775807 := hr1.2.1;have HR0 := Aside0.mk hr0;have HR1 := Aside0.mk hr1;clear hr0 hr1;generalize hn : l0.length = m at *;have Hn := Aside0.mk hn;clear hn;generalize hn1 : l1.length = m1 at *;have Hn1 := Aside0.mk hn1;clear hn1
  go_enter Try.func56,Try.ntmps56
  go_wp2
  go_loopg [5,9] (m + 1) (fun gg s5 s9 wr => ∃ i : Nat,i ≤ m ∧ m - i ≤ gg ∧ s9 = .int .i64 i ∧ s5 = .int .i64 ((impl_sightsApart.to l0 l1 i : Nat)) ∧ Drawn0 w wr)
  case atStart => exact ⟨0,by omega,by omega,rfl,rfl,by repeat (first | exact Drawn0.refl _ | apply Drawn0.step)⟩
  case round =>
   obtain ⟨i,hi,hg,rfl,rfl,⟨m2,rfl⟩⟩ := hrel
   by_cases hlt : i < m
   ·have hltz : (i : Int) < (m : Int) := by omega
    have hltz1 : (i : Int) < (m1 : Int) := by omega
    obtain ⟨ad,e0,hcell⟩ := rowA61 HR0.out hlt;cases e0;obtain ⟨ad1,e1,hcell1⟩ := rowA61 HR1.out (show i < m1 by omega);cases e1
    have HU : Aside0 (∀ q : Nat,Calls Try.prog 84 #[.slice (some (ad.add (i * 6))) 6 6,.slice (some (ad1.add (i * 6))) 6 6] (w.drewN q) fun e w' => e = .returned (.int .i64 ((difN (arrL61 (rd_T61 l0 (i : Int))) (arrL61 (rd_T61 l1 (i : Int))) 6 : Nat) : Int)) ∧ Drawn0 (w.drewN q) w') := ⟨fun q =>
     impl_unlike.calls 200 (some (ad.add (i * 6))) 6 (arrL61 (rd_T61 l0 (i : Int))) (some (ad1.add (i * 6))) 6 (arrL61 (rd_T61 l1 (i : Int))) _ _ (Kd.C_drewN (cells_C (fun j hj => hcell j hj) (by rw [arrL61_len];omega)) q) (Nat.le_refl _) (Kd.C_drewN (cells_C (fun j hj => hcell1 j hj) (by rw [arrL61_len];omega)) q) (Nat.le_refl _) (impl_sightsApart.unl (Nat.le_refl _) (by rw [arrL61_len];omega))⟩
    have HT := Aside0.mk (show impl_sightsApart.to l0 l1 (i + 1) = impl_sightsApart.to l0 l1 i + difN (arrL61 (rd_T61 l0 (i : Int))) (arrL61 (rd_T61 l1 (i : Int))) 6 from rfl);have hM := impl_sightsApart.to_le l0 l1 i;have hD := difN_le (arrL61 (rd_T61 l0 (i : Int))) (arrL61 (rd_T61 l1 (i : Int))) 6;clear hcell hcell1;generalize impl_sightsApart.to l0 l1 i = q at *;generalize difN (arrL61 (rd_T61 l0 (i : Int))) (arrL61 (rd_T61 l1 (i : Int))) 6 = d at *
    have hb : (q : Int) + (d : Int) ≤ 9223372036854775807 := by omega
    have HW := Aside0.mk (show wrap64 ((q : Int) + (d : Int)) = ((q + d : Nat) : Int) from by unfold wrap64;omega);clear hM hD
    go_wp2_with (first | (go_at_call 84;refine (HU.out _).mono ?_;rintro e w' ⟨rfl,⟨nd,rfl⟩⟩;(try first | exact ⟨rfl,_,World.drewN_drewN _ _ _⟩ | exact ⟨rfl,_,Eq.trans (World.drewN_drewN _ _ _) (congrArg (World.drewN _) (Nat.add_assoc _ _ _))⟩)))
    repeat (go_quiet (first | (go_at_call 84;refine (HU.out _).mono ?_;rintro e w' ⟨rfl,⟨nd,rfl⟩⟩;(try first | exact ⟨rfl,_,World.drewN_drewN _ _ _⟩ | exact ⟨rfl,_,Eq.trans (World.drewN_drewN _ _ _) (congrArg (World.drewN _) (Nat.add_assoc _ _ _))⟩)));try go_wp2)
    go_roundg (m - (i + 1))
    case measure => omega
    case rel => exact ⟨i + 1,by omega,by omega,by go_num,by rw [HT.out];first | rfl | go_num | (congr 1;omega),by repeat (first | exact Drawn0.refl _ | apply Drawn0.step)⟩
   ·have : i = m := by omega
    subst this
    go_wp2
    go_ret
    exact ⟨by first | rfl | simp,by repeat (first | exact Drawn0.refl _ | apply Drawn0.step)⟩
 ·rw [if_neg hc] at h;cases h
end Go.Proofs.Ytgfknljhogfeaaa.G
end

section
namespace Go.Proofs.Ytgfknljhogfeaaa.G
open Go.RowKit Go.Proofs.YtgfknljhogfeaaaW.PrintWords Go.Proofs.YtgfknljhogfeaaaW.PrintLast Go.Proofs.YtgfknljhogfeaaaW.PrintMore
attribute [local go_sem] max2_int min2_int max_two min_two max_three min_three max_four min_four
set_option linter.unusedVariables false
set_option linter.unusedSimpArgs false
def impl_NearestWords_1.f (a0 : Int) (a1 : Int) (l2 : List (List (S61))) : Option (Int) := if 0 ≤ a0 then (if a0 < (l2.length : Int) then (if 0 ≤ a1 then (if a1 < (l2.length : Int) then ((impl_sightsApart.f (rd_L10 l2 a0) (rd_L10 l2 a1)).bind fun t103 => (some t103)) else (none)) else (none)) else (none)) else (none)
set_option maxHeartbeats 8000000 in
set_option maxRecDepth 100000 in
theorem impl_NearestWords_1.calls (a0 : Int) (a1 : Int) (A2 : Option Addr) (c2 : Nat) (l2 : List (List (S61))) (b2 : Nat) (r : Int) (w : World) (hr2 : Kd.C (Kd.slice 61 k61) w A2 l2.length l2) (hc2 : l2.length ≤ c2) (hb2 : w.heap[b2]? = some (.cells #[.slice A2 l2.length c2] 87 (0,0))) (h : impl_NearestWords_1.f a0 a1 l2 = some r) :
  Calls Try.prog 55 #[.int .i64 a0,.int .i64 a1,.pointer (some ⟨b2,0,none⟩)] w fun e w' => e = .returned (.int .i64 r) ∧ Drawn0 w w' := by
 have HR2 := Aside0.mk hr2;have HC2 := Aside0.mk hc2;clear hr2 hc2;have BK2 := Aside0.mk hb2;clear hb2;have H : (if 0 ≤ a0 then (if a0 < (l2.length : Int) then (if 0 ≤ a1 then (if a1 < (l2.length : Int) then ((impl_sightsApart.f (rd_L10 l2 a0) (rd_L10 l2 a1)).bind fun t103 => (some t103)) else (none)) else (none)) else (none)) else (none)) = some r := h;clear h
 by_cases c4 : 0 ≤ a0
 ·rw [if_pos c4] at H;have c4b0 : decide (0 ≤ a0) = true := decide_eq_true c4;clear c4
  by_cases c5 : a0 < (l2.length : Int)
  ·rw [if_pos c5] at H;have c5b0 : decide (a0 < (l2.length : Int)) = true := decide_eq_true c5;clear c5
   by_cases c6 : 0 ≤ a1
   ·rw [if_pos c6] at H;have c6b0 : decide (0 ≤ a1) = true := decide_eq_true c6;clear c6
    by_cases c7 : a1 < (l2.length : Int)
    ·rw [if_pos c7] at H;have c7b0 : decide (a1 < (l2.length : Int)) = true := decide_eq_true c7;clear c7;replace H := Option.bind_eq_some_iff.mp H;obtain ⟨t103,A80,H⟩ := H;replace H : (some t103) = some r := H;have A8 := Aside0.mk A80;clear A80;obtain rfl := Option.some.inj H;have hcz9_0 : w.cell? ⟨b2,0,none⟩ = some (.slice A2 l2.length c2) := (blk_cell BK2.out 0).trans rfl;have hfz9_0 := blk_frozen BK2.out 0;have p101 : 0 ≤ (a0 : Int) := of_decide_eq_true (by first | (with_reducible assumption) | assumption);have q101 : a0 < (l2.length : Int) := of_decide_eq_true (by first | (with_reducible assumption) | assumption);obtain ⟨ad101,A101_0,c101_0,e101,hx101_0,hl101_0,hi101_0⟩ := at_L10 HR2.out a0 p101 q101;cases e101;have HR101_0 := Aside0.mk hi101_0;have HC101_0 := Aside0.mk hl101_0;clear hi101_0 hl101_0;replace p101 := eq_true p101;replace q101 := eq_true q101;have p102 : 0 ≤ (a1 : Int) := of_decide_eq_true (by first | (with_reducible assumption) | assumption);have q102 : a1 < (l2.length : Int) := of_decide_eq_true (by first | (with_reducible assumption) | assumption);obtain ⟨ad102,A102_0,c102_0,e102,hx102_0,hl102_0,hi102_0⟩ := at_L10 HR2.out a1 p102 q102;obtain rfl : ad101 = ad102 := (by injection e102);have HR102_0 := Aside0.mk hi102_0;have HC102_0 := Aside0.mk hl102_0;clear hi102_0 hl102_0;replace p102 := eq_true p102;replace q102 := eq_true q102
     go_enter Try.func55,Try.ntmps55
     go_wp2_with (first | (go_at_call 56;(with_reducible refine (impl_sightsApart.calls _ _ (rd_L10 l2 a0) _ _ (rd_L10 l2 a1) t103 _ ?side1 ?side2 ?side3 ?side4 A8.out).mono ?_);(case side1 => repeat (first | exact HR101_0.out | (with_reducible refine Kd.C_alloc ?_ _) | (with_reducible refine Kd.C_drewN ?_ _) | (with_reducible refine Kd.C_drew ?_)));(case side2 => exact HC101_0.out);(case side3 => repeat (first | exact HR102_0.out | (with_reducible refine Kd.C_alloc ?_ _) | (with_reducible refine Kd.C_drewN ?_ _) | (with_reducible refine Kd.C_drew ?_)));(case side4 => exact HC102_0.out);rintro e w' ⟨rfl,⟨nd,rfl⟩⟩;(try first | exact ⟨rfl,_,World.drewN_drewN _ _ _⟩ | exact ⟨rfl,_,Eq.trans (World.drewN_drewN _ _ _) (congrArg (World.drewN _) (Nat.add_assoc _ _ _))⟩)))
     repeat (go_quiet (first | (go_at_call 56;(with_reducible refine (impl_sightsApart.calls _ _ (rd_L10 l2 a0) _ _ (rd_L10 l2 a1) t103 _ ?side1 ?side2 ?side3 ?side4 A8.out).mono ?_);(case side1 => repeat (first | exact HR101_0.out | (with_reducible refine Kd.C_alloc ?_ _) | (with_reducible refine Kd.C_drewN ?_ _) | (with_reducible refine Kd.C_drew ?_)));(case side2 => exact HC101_0.out);(case side3 => repeat (first | exact HR102_0.out | (with_reducible refine Kd.C_alloc ?_ _) | (with_reducible refine Kd.C_drewN ?_ _) | (with_reducible refine Kd.C_drew ?_)));(case side4 => exact HC102_0.out);rintro e w' ⟨rfl,⟨nd,rfl⟩⟩;(try first | exact ⟨rfl,_,World.drewN_drewN _ _ _⟩ | exact ⟨rfl,_,Eq.trans (World.drewN_drewN _ _ _) (congrArg (World.drewN _) (Nat.add_assoc _ _ _))⟩)));try go_wp2_with (first | (go_at_call 56;(with_reducible refine (impl_sightsApart.calls _ _ (rd_L10 l2 a0) _ _ (rd_L10 l2 a1) t103 _ ?side1 ?side2 ?side3 ?side4 A8.out).mono ?_);(case side1 => repeat (first | exact HR101_0.out | (with_reducible refine Kd.C_alloc ?_ _) | (with_reducible refine Kd.C_drewN ?_ _) | (with_reducible refine Kd.C_drew ?_)));(case side2 => exact HC101_0.out);(case side3 => repeat (first | exact HR102_0.out | (with_reducible refine Kd.C_alloc ?_ _) | (with_reducible refine Kd.C_drewN ?_ _) | (with_reducible refine Kd.C_drew ?_)));(case side4 => exact HC102_0.out);rintro e w' ⟨rfl,⟨nd,rfl⟩⟩;(try first | exact ⟨rfl,_,World.drewN_drewN _ _ _⟩ | exact ⟨rfl,_,Eq.trans (World.drewN_drewN _ _ _) (congrArg (World.drewN _) (Nat.add_assoc _ _ _))⟩))))
     go_ret
     exact ⟨by first | rfl | (simp only [IntKind.wrap_i64,wrap64];done) | (simp;done) | (simp [*];done),by repeat (first | exact Drawn0.refl _ | apply Drawn0.step)⟩
    ·rw [if_neg c7] at H;exact absurd H (by simp)
   ·rw [if_neg c6] at H;exact absurd H (by simp)
  ·rw [if_neg c5] at H;exact absurd H (by simp)
 ·rw [if_neg c4] at H;exact absurd H (by simp)
end Go.Proofs.Ytgfknljhogfeaaa.G
end

section
namespace Go.Proofs.Ytgfknljhogfeaaa.G
open Go.RowKit Go.Proofs.YtgfknljhogfeaaaW.PrintWords Go.Proofs.YtgfknljhogfeaaaW.PrintLast Go.Proofs.YtgfknljhogfeaaaW.PrintMore
attribute [local go_sem] max2_int min2_int max_two min_two max_three min_three max_four min_four
set_option linter.unusedVariables false
set_option linter.unusedSimpArgs false
mutual
def impl_nearest__impl_NearestWords_1.l0 : Nat → Int → Int → Int → Int → Int → Int → List (List (S61)) → Option (Int × Int × Int × Bool)
 | 0,_,_,_,_,_,_,_ => none
 | k + 1,x0,x8,x9,x10,x14,x15,x2000 => if x15 < x14 then (impl_nearest__impl_NearestWords_1.l1 k x0 x8 x9 x10 x15 (wrap64 (x15 + 1)) x14 x15 x2000) else (some (x8,x9,x10,decide (x10 ≥ 0)))
def impl_nearest__impl_NearestWords_1.l1 : Nat → Int → Int → Int → Int → Int → Int → Int → Int → List (List (S61)) → Option (Int × Int × Int × Bool)
 | 0,_,_,_,_,_,_,_,_,_ => none
 | k + 1,x0,x8,x9,x10,x11,x12,x14,x15,x2000 => if x12 < x0 then ((impl_NearestWords_1.f x11 x12 x2000).bind fun t101 => (if x10 < 0 then (impl_nearest__impl_NearestWords_1.l1 k x0 x11 x12 t101 x11 (wrap64 (x12 + 1)) x14 x15 x2000) else (if t101 < x10 then (impl_nearest__impl_NearestWords_1.l1 k x0 x11 x12 t101 x11 (wrap64 (x12 + 1)) x14 x15 x2000) else (impl_nearest__impl_NearestWords_1.l1 k x0 x8 x9 x10 x11 (wrap64 (x12 + 1)) x14 x15 x2000)))) else (impl_nearest__impl_NearestWords_1.l0 k x0 x8 x9 x10 x14 (wrap64 (x15 + 1)) x2000)
end
def impl_nearest__impl_NearestWords_1.f (k : Nat) (a0 : Int) (l1 : List (List (S61))) : Option (Int × Int × Int × Bool) := impl_nearest__impl_NearestWords_1.l0 k a0 0 0 (-1) a0 0 l1
set_option maxHeartbeats 8000000 in
set_option maxRecDepth 100000 in
theorem impl_nearest__impl_NearestWords_1.calls (k : Nat) (a0 : Int) (A1 : Option Addr) (c1 : Nat) (l1 : List (List (S61))) (b1 : Nat) (r1 : Int) (r2 : Int) (r3 : Int) (r4 : Bool) (w : World) (hr1 : Kd.C (Kd.slice 61 k61) w A1 l1.length l1) (hc1 : l1.length ≤ c1) (hb1 : w.heap[b1]? = some (.cells #[.slice A1 l1.length c1] 87 (0,0))) (h : impl_nearest__impl_NearestWords_1.f k a0 l1 = some (r1,r2,r3,r4)) :
  Calls Try.prog 54 #[.int .i64 a0,.func (.func 55) #[] #[.pointer (some ⟨b1,0,none⟩)]] w fun e w' => e = .returned (.tuple #[.int .i64 r1,.int .i64 r2,.int .i64 r3,.bool r4]) ∧ Drawn0 w w' := by
 have HR1 := Aside0.mk hr1;have HC1 := Aside0.mk hc1;clear hr1 hc1;have BK1 := Aside0.mk hb1;clear hb1;have H : (impl_nearest__impl_NearestWords_1.l0 k a0 0 0 (-1) a0 0 l1) = some (r1,r2,r3,r4) := h;clear h;have H' := Aside0.mk H;clear H
 go_enter Try.func54,Try.ntmps54
 go_wp2
 go_loopg [8,9,10,15] k (fun kq v8 v9 v10 v15 w' => ∃ (x8_1 : Int) (x9_1 : Int) (x10_1 : Int) (x15_1 : Int),v8 = .int .i64 x8_1 ∧ v9 = .int .i64 x9_1 ∧ v10 = .int .i64 x10_1 ∧ v15 = .int .i64 x15_1 ∧ Aside0 (impl_nearest__impl_NearestWords_1.l0 kq a0 x8_1 x9_1 x10_1 a0 x15_1 l1 = some (r1,r2,r3,r4)) ∧ Aside0 (kq ≤ k) ∧ Aside0 (w'.heap[b1]? = some (.cells #[(.slice A1 l1.length c1)] 87 (0,0))) ∧ Drawn0 w w')
 case atStart => exact ⟨(0),(0),((-1)),(0),(by first | rfl | (simp only [IntKind.wrap_i64,wrap64];done) | (simp;done) | (simp [*];done)),(by first | rfl | (simp only [IntKind.wrap_i64,wrap64];done) | (simp;done) | (simp [*];done)),(by first | rfl | (simp only [IntKind.wrap_i64,wrap64];done) | (simp;done) | (simp [*];done)),(by first | rfl | (simp only [IntKind.wrap_i64,wrap64];done) | (simp;done) | (simp [*];done)),H',⟨Nat.le_refl _⟩,⟨by (with_reducible repeat (first | refine blk_drewN ?_ _ | refine blk_drew ?_ | refine blk_alloc ?_ _));exact BK1.out⟩,by repeat (first | exact Drawn0.refl _ | apply Drawn0.step)⟩
 case round =>
  clear H';(try clear c1);(try clear p2);obtain ⟨x8_1,x9_1,x10_1,x15_1,rfl,rfl,rfl,rfl,HA,HK1,BK1,⟨m1,rfl⟩⟩ := hrel
  cases gk with
  | zero => exact absurd HA.out (by simp [impl_nearest__impl_NearestWords_1.l0])
  | succ k1 =>
   have H := HA.out;clear HA;simp only [impl_nearest__impl_NearestWords_1.l0] at H
   by_cases c3 : x15_1 < a0
   ·rw [if_pos c3] at H;have c3b0 : decide (x15_1 < a0) = true := decide_eq_true c3;clear c3;have H' := Aside0.mk H;clear H
    go_wp2
    go_loopg [8,9,10,12] k1 (fun kq v8 v9 v10 v12 w' => ∃ (x8_2 : Int) (x9_2 : Int) (x10_2 : Int) (x12_2 : Int),v8 = .int .i64 x8_2 ∧ v9 = .int .i64 x9_2 ∧ v10 = .int .i64 x10_2 ∧ v12 = .int .i64 x12_2 ∧ Aside0 (impl_nearest__impl_NearestWords_1.l1 kq a0 x8_2 x9_2 x10_2 x15_1 x12_2 a0 x15_1 l1 = some (r1,r2,r3,r4)) ∧ Aside0 (kq ≤ k1) ∧ Aside0 (w'.heap[b1]? = some (.cells #[(.slice A1 l1.length c1)] 87 (0,0))) ∧ Drawn0 w w')
    case atStart => exact ⟨(x8_1),(x9_1),(x10_1),(wrap64 (x15_1 + 1)),(by first | rfl | (simp only [IntKind.wrap_i64,wrap64];done) | (simp;done) | (simp [*];done)),(by first | rfl | (simp only [IntKind.wrap_i64,wrap64];done) | (simp;done) | (simp [*];done)),(by first | rfl | (simp only [IntKind.wrap_i64,wrap64];done) | (simp;done) | (simp [*];done)),(by first | rfl | (simp only [IntKind.wrap_i64,wrap64];done) | (simp;done) | (simp [*];done)),H',⟨Nat.le_refl _⟩,⟨by (with_reducible repeat (first | refine blk_drewN ?_ _ | refine blk_drew ?_ | refine blk_alloc ?_ _));exact BK1.out⟩,by repeat (first | exact Drawn0.refl _ | apply Drawn0.step)⟩
    case round =>
     clear H';(try clear c1);(try clear p2);(try clear c3);(try clear c3b0);(try clear p2);obtain ⟨x8_2,x9_2,x10_2,x12_2,rfl,rfl,rfl,rfl,HA,HK2,BK1,⟨m2,rfl⟩⟩ := hrel
     cases gk with
     | zero => exact absurd HA.out (by simp [impl_nearest__impl_NearestWords_1.l1])
     | succ k2 =>
      have H := HA.out;clear HA;simp only [impl_nearest__impl_NearestWords_1.l1] at H
      by_cases c4 : x12_2 < a0
      ·rw [if_pos c4] at H;have c4b0 : decide (x12_2 < a0) = true := decide_eq_true c4;clear c4;replace H := Option.bind_eq_some_iff.mp H;obtain ⟨t101,A50,H⟩ := H;replace H : (if x10_2 < 0 then (impl_nearest__impl_NearestWords_1.l1 k2 a0 x15_1 x12_2 t101 x15_1 (wrap64 (x12_2 + 1)) a0 x15_1 l1) else (if t101 < x10_2 then (impl_nearest__impl_NearestWords_1.l1 k2 a0 x15_1 x12_2 t101 x15_1 (wrap64 (x12_2 + 1)) a0 x15_1 l1) else (impl_nearest__impl_NearestWords_1.l1 k2 a0 x8_2 x9_2 x10_2 x15_1 (wrap64 (x12_2 + 1)) a0 x15_1 l1))) = some (r1,r2,r3,r4) := H;have A5 := Aside0.mk A50;clear A50
       by_cases c6 : x10_2 < 0
       ·rw [if_pos c6] at H;have c6b0 : decide (x10_2 < 0) = true := decide_eq_true c6;clear c6;have H' := Aside0.mk H;clear H
        go_wp2_with (first | ((with_reducible refine gate_calleeD rfl ?_);refine goesLD_ (some 28) rfl rfl Try.func55 (by kernel_rfl) rfl #[.pointer (some ⟨b1,0,none⟩)] #[.int .i64 x15_1,.int .i64 x12_2,.pointer (some ⟨b1,0,none⟩)] rfl rfl (by (try simp only [List.map_toArray,List.map_cons,List.map_nil]);first | done | rfl | (simp only [List.length_drop,List.length_take];rfl)) ?_;(with_reducible refine (impl_NearestWords_1.calls x15_1 x12_2 A1 c1 l1 b1 t101 _ ?side1 ?side2 ?side3 A5.out).mono ?_);(case side1 => repeat (first | exact HR1.out | (with_reducible refine Kd.C_alloc ?_ _) | (with_reducible refine Kd.C_drewN ?_ _) | (with_reducible refine Kd.C_drew ?_)));(case side2 => exact HC1.out);(case side3 => (with_reducible repeat (first | refine blk_drewN ?_ _ | refine blk_drew ?_ | refine blk_alloc ?_ _));exact BK1.out);rintro e w' ⟨rfl,⟨nd,rfl⟩⟩;refine ⟨_,rfl,?_⟩))
        go_roundg k2
        case measure => have := HK1.out;have := HK2.out;omega
        case rel => exact ⟨(x15_1),(x12_2),(t101),(wrap64 (x12_2 + 1)),(by first | rfl | (simp only [IntKind.wrap_i64,wrap64];done) | (simp;done) | (simp [*];done)),(by first | rfl | (simp only [IntKind.wrap_i64,wrap64];done) | (simp;done) | (simp [*];done)),(by first | rfl | (simp only [IntKind.wrap_i64,wrap64];done) | (simp;done) | (simp [*];done)),(by first | rfl | (simp only [IntKind.wrap_i64,wrap64];done) | (simp;done) | (simp [*];done)),H',⟨by have := HK1.out;have := HK2.out;omega⟩,⟨by (with_reducible repeat (first | refine blk_drewN ?_ _ | refine blk_drew ?_ | refine blk_alloc ?_ _));exact BK1.out⟩,by repeat (first | exact Drawn0.refl _ | apply Drawn0.step)⟩
       ·rw [if_neg c6] at H;have c6b0 : decide (x10_2 < 0) = false := decide_eq_false c6;clear c6
        by_cases c7 : t101 < x10_2
        ·rw [if_pos c7] at H;have c7b0 : decide (t101 < x10_2) = true := decide_eq_true c7;clear c7;have H' := Aside0.mk H;clear H
         go_wp2_with (first | ((with_reducible refine gate_calleeD rfl ?_);refine goesLD_ (some 28) rfl rfl Try.func55 (by kernel_rfl) rfl #[.pointer (some ⟨b1,0,none⟩)] #[.int .i64 x15_1,.int .i64 x12_2,.pointer (some ⟨b1,0,none⟩)] rfl rfl (by (try simp only [List.map_toArray,List.map_cons,List.map_nil]);first | done | rfl | (simp only [List.length_drop,List.length_take];rfl)) ?_;(with_reducible refine (impl_NearestWords_1.calls x15_1 x12_2 A1 c1 l1 b1 t101 _ ?side1 ?side2 ?side3 A5.out).mono ?_);(case side1 => repeat (first | exact HR1.out | (with_reducible refine Kd.C_alloc ?_ _) | (with_reducible refine Kd.C_drewN ?_ _) | (with_reducible refine Kd.C_drew ?_)));(case side2 => exact HC1.out);(case side3 => (with_reducible repeat (first | refine blk_drewN ?_ _ | refine blk_drew ?_ | refine blk_alloc ?_ _));exact BK1.out);rintro e w' ⟨rfl,⟨nd,rfl⟩⟩;refine ⟨_,rfl,?_⟩))
         go_roundg k2
         case measure => have := HK1.out;have := HK2.out;omega
         case rel => exact ⟨(x15_1),(x12_2),(t101),(wrap64 (x12_2 + 1)),(by first | rfl | (simp only [IntKind.wrap_i64,wrap64];done) | (simp;done) | (simp [*];done)),(by first | rfl | (simp only [IntKind.wrap_i64,wrap64];done) | (simp;done) | (simp [*];done)),(by first | rfl | (simp only [IntKind.wrap_i64,wrap64];done) | (simp;done) | (simp [*];done)),(by first | rfl | (simp only [IntKind.wrap_i64,wrap64];done) | (simp;done) | (simp [*];done)),H',⟨by have := HK1.out;have := HK2.out;omega⟩,⟨by (with_reducible repeat (first | refine blk_drewN ?_ _ | refine blk_drew ?_ | refine blk_alloc ?_ _));exact BK1.out⟩,by repeat (first | exact Drawn0.refl _ | apply Drawn0.step)⟩
        ·rw [if_neg c7] at H;have c7b0 : decide (t101 < x10_2) = false := decide_eq_false c7;clear c7;have H' := Aside0.mk H;clear H
         go_wp2_with (first | ((with_reducible refine gate_calleeD rfl ?_);refine goesLD_ (some 28) rfl rfl Try.func55 (by kernel_rfl) rfl #[.pointer (some ⟨b1,0,none⟩)] #[.int .i64 x15_1,.int .i64 x12_2,.pointer (some ⟨b1,0,none⟩)] rfl rfl (by (try simp only [List.map_toArray,List.map_cons,List.map_nil]);first | done | rfl | (simp only [List.length_drop,List.length_take];rfl)) ?_;(with_reducible refine (impl_NearestWords_1.calls x15_1 x12_2 A1 c1 l1 b1 t101 _ ?side1 ?side2 ?side3 A5.out).mono ?_);(case side1 => repeat (first | exact HR1.out | (with_reducible refine Kd.C_alloc ?_ _) | (with_reducible refine Kd.C_drewN ?_ _) | (with_reducible refine Kd.C_drew ?_)));(case side2 => exact HC1.out);(case side3 => (with_reducible repeat (first | refine blk_drewN ?_ _ | refine blk_drew ?_ | refine blk_alloc ?_ _));exact BK1.out);rintro e w' ⟨rfl,⟨nd,rfl⟩⟩;refine ⟨_,rfl,?_⟩))
         go_roundg k2
         case measure => have := HK1.out;have := HK2.out;omega
         case rel => exact ⟨(x8_2),(x9_2),(x10_2),(wrap64 (x12_2 + 1)),(by first | rfl | (simp only [IntKind.wrap_i64,wrap64];done) | (simp;done) | (simp [*];done)),(by first | rfl | (simp only [IntKind.wrap_i64,wrap64];done) | (simp;done) | (simp [*];done)),(by first | rfl | (simp only [IntKind.wrap_i64,wrap64];done) | (simp;done) | (simp [*];done)),(by first | rfl | (simp only [IntKind.wrap_i64,wrap64];done) | (simp;done) | (simp [*];done)),H',⟨by have := HK1.out;have := HK2.out;omega⟩,⟨by (with_reducible repeat (first | refine blk_drewN ?_ _ | refine blk_drew ?_ | refine blk_alloc ?_ _));exact BK1.out⟩,by repeat (first | exact Drawn0.refl _ | apply Drawn0.step)⟩
      ·rw [if_neg c4] at H;have c4b0 : decide (x12_2 < a0) = false := decide_eq_false c4;clear c4;have H' := Aside0.mk H;clear H
       go_wp2
       go_roundg k2
       case measure => have := HK1.out;have := HK2.out;omega
       case rel => exact ⟨(x8_2),(x9_2),(x10_2),(wrap64 (x15_1 + 1)),(by first | rfl | (simp only [IntKind.wrap_i64,wrap64];done) | (simp;done) | (simp [*];done)),(by first | rfl | (simp only [IntKind.wrap_i64,wrap64];done) | (simp;done) | (simp [*];done)),(by first | rfl | (simp only [IntKind.wrap_i64,wrap64];done) | (simp;done) | (simp [*];done)),(by first | rfl | (simp only [IntKind.wrap_i64,wrap64];done) | (simp;done) | (simp [*];done)),H',⟨by have := HK1.out;have := HK2.out;omega⟩,⟨by (with_reducible repeat (first | refine blk_drewN ?_ _ | refine blk_drew ?_ | refine blk_alloc ?_ _));exact BK1.out⟩,by repeat (first | exact Drawn0.refl _ | apply Drawn0.step)⟩
   ·rw [if_neg c3] at H;have c3b0 : decide (x15_1 < a0) = false := decide_eq_false c3;clear c3;simp only [Option.some.injEq,Prod.mk.injEq] at H;obtain ⟨rfl,rfl,rfl,rfl⟩ := H
    go_wp2
    refine bodyPost_ret (results_list (rs := [.tmp 4,.tmp 5,.tmp 6,.tmp 7]) rfl (by simp) (.tmp (.tmp (.tmp (.tmp .nil))))) rfl ?_;exact ⟨by first | rfl | (simp only [IntKind.wrap_i64,wrap64];done) | (simp;done) | (simp [*];done),by repeat (first | exact Drawn0.refl _ | apply Drawn0.step)⟩
end Go.Proofs.Ytgfknljhogfeaaa.G
end

section
namespace Go.Proofs.Ytgfknljhogfeaaa.G
open Go.RowKit Go.Proofs.YtgfknljhogfeaaaW.PrintWords Go.Proofs.YtgfknljhogfeaaaW.PrintLast Go.Proofs.YtgfknljhogfeaaaW.PrintMore
attribute [local go_sem] max2_int min2_int max_two min_two max_three min_three max_four min_four
set_option linter.unusedVariables false
set_option linter.unusedSimpArgs false
theorem impl_NearestWords.apart {W : World} {b : Nat} {s12 v : Value} {x12 : List (List S61)} {t6 : List S61} {p q : Nat → Prop} (HR : Kd.R k61 61 W b q v t6) (HO : Kd.R (Kd.slice 61 k61) 27 W b p s12 x12) : ∀ k,some k = v.ownBlock → some k ≠ s12.ownBlock := fun k hk h2 => by
 obtain ⟨c1,h1⟩ := Kd.R_typed HR k hk.symm;obtain ⟨c2,h3⟩ := Kd.R_typed HO k h2.symm;rw [h1] at h3
 injection h3 with h3
 injection h3 with _ h3 _
 exact absurd h3 (by decide)
def impl_NearestWords.see (k : Nat) (s0 : List S68) (s1 : List (List Int)) (x : List Int) : List S61 := (impl_Code_sights.f k s0 s1 x).getD []
def impl_NearestWords.f (k : Nat) (s0 : List S68) (s1 : List (List Int)) : Option (Int × Int × Int × Int) := (impl_ValidCode.f s0 s1).bind fun t => if t = true then (if s1.length ≤ 1000000 ∧ s1.all (fun x => (impl_Code_sights.f k s0 s1 x).isSome) = true then (impl_nearest__impl_NearestWords_1.f k (s1.length : Int) (s1.map (impl_NearestWords.see k s0 s1))).bind fun q => some (if q.2.2.2 = true then (q.1,q.2.1,q.2.2.1,0) else (0,0,0,6)) else none) else some (0,0,0,1)
set_option maxHeartbeats 8000000 in
set_option maxRecDepth 100000 in
theorem impl_NearestWords.calls (k : Nat) (A0_0 : Option Addr) (c0_0 : Nat) (l0_0 : List S68) (A0_1 : Option Addr) (c0_1 : Nat) (l0_1 : List (List Int)) (r1 r2 r3 r4 : Int) (w : World) (hr0_0 : Kd.C k68 w A0_0 l0_0.length l0_0) (hc0_0 : l0_0.length ≤ c0_0) (hr0_1 : Kd.C (Kd.slice 5 (Kd.int .u8)) w A0_1 l0_1.length l0_1) (hc0_1 : l0_1.length ≤ c0_1) (h : impl_NearestWords.f k l0_0 l0_1 = some (r1,r2,r3,r4)) :
  Calls Try.prog 18 #[.agg #[.slice A0_0 l0_0.length c0_0,.slice A0_1 l0_1.length c0_1]] w fun e w' => e = .returned (.tuple #[.int .i64 r1,.int .i64 r2,.int .i64 r3,.int .i64 r4]) ∧ Below w.heap.size w w' := by
 have hu33 := Try.underlying33;have HB := Aside0.mk (Below.refl w.heap.size w)
 unfold impl_NearestWords.f at h
 replace h := Option.bind_eq_some_iff.mp h;obtain ⟨t,A1,h⟩ := h;have HVC : Aside0 (∀ W : World,Below w.heap.size w W → Calls Try.prog 30 #[.agg #[.slice A0_0 l0_0.length c0_0,.slice A0_1 l0_1.length c0_1]] W fun e w' => e = .returned (.bool t) ∧ Below W.heap.size W w') := ⟨fun W hW => impl_ValidCode.calls _ _ l0_0 _ _ l0_1 t W (Kd.C_below hr0_0 hW) hc0_0 (Kd.C_below hr0_1 hW) hc0_1 A1⟩;clear A1
 cases t with
 | false =>
  rw [if_neg (by decide)] at h;simp only [Option.some.injEq,Prod.mk.injEq] at h;obtain ⟨rfl,rfl,rfl,rfl⟩ := h;clear hr0_0 hc0_0 hr0_1 hc0_1;generalize l0_0.length = n0 at *;generalize l0_1.length = n1 at *
  go_enter Try.func18,Try.ntmps18
  go_wp2_with (first | ((with_reducible refine gate_dst (N := 1) rfl ?_);refine box_event ?hg (N := 1) ?hd (cs := #[.slice A0_0 n0 c0_0,.slice A0_1 n1 c0_1]) (t := 33) ?hr ?_;(case hd => rfl);(case hg => rfl);(case hr => first | (go_simp;done) | (go_simp;rfl));intro gc hg_ w1 hbox hb;have BKc1 := Aside0.mk hbox;have GEc := Aside0.mk (show w.heap.size ≤ gc by rw [hg_];exact below_size HB.out);have HB1 := Aside0.mk (below_step HB.out hb);have hq0 : w1.cell? ⟨gc,0,none⟩ = some (.slice A0_0 n0 c0_0) := (blk_cell BKc1.out 0).trans rfl;have hq1 : w1.cell? ⟨gc,1,none⟩ = some (.slice A0_1 n1 c0_1) := (blk_cell BKc1.out 1).trans rfl;clear hb hbox hg_) | (go_at_call 30;refine (HVC.out _ HB1.out).mono ?_;rintro e w2 ⟨rfl,hb2⟩;have HB2 := Aside0.mk (below_step HB1.out hb2);have BKc2 := Aside0.mk (blk_below BKc1.out hb2);clear hb2))
  refine bodyPost_ret (results_list (rs := [.tmp 2,.tmp 3,.tmp 4,.tmp 5]) rfl (by simp) (.tmp (.tmp (.tmp (.tmp .nil))))) rfl ?_;exact ⟨by first | rfl | simp,HB2.out⟩
 | true =>
  rw [if_pos rfl] at h
  by_cases hc : l0_1.length ≤ 1000000 ∧ l0_1.all (fun x => (impl_Code_sights.f k l0_0 l0_1 x).isSome) = true
  ·rw [if_pos hc] at h;obtain ⟨hlm,hall⟩ := hc;replace h := Option.bind_eq_some_iff.mp h;obtain ⟨⟨q1,q2,q3,q4⟩,A2,h⟩ := h;have h : (if q4 = true then (q1,q2,q3,(0 : Int)) else (0,0,0,6)) = (r1,r2,r3,r4) := Option.some.inj h
   have HNE : Aside0 (∀ (W : World) (A : Option Addr) (c b : Nat),Kd.C (Kd.slice 61 k61) W A l0_1.length (l0_1.map (impl_NearestWords.see k l0_0 l0_1)) → l0_1.length ≤ c → W.heap[b]? = some (.cells #[.slice A l0_1.length c] 87 (0,0)) → Calls Try.prog 54 #[.int .i64 l0_1.length,.func (.func 55) #[] #[.pointer (some ⟨b,0,none⟩)]] W fun e w' => e = .returned (.tuple #[.int .i64 q1,.int .i64 q2,.int .i64 q3,.bool q4]) ∧ Drawn0 W w') := ⟨fun W A c b h1 h2 h3 => by
    have hlm : (l0_1.map (impl_NearestWords.see k l0_0 l0_1)).length = l0_1.length := List.length_map ..;have h_ := impl_nearest__impl_NearestWords_1.calls k (l0_1.length : Int) A c (l0_1.map (impl_NearestWords.see k l0_0 l0_1)) b q1 q2 q3 q4 W (by rw [hlm];exact h1) (by rw [hlm];exact h2) (by rw [hlm];exact h3) A2
    exact h_⟩
   have HR1 := Aside0.mk hr0_1
   have HSA : Aside0 (∀ (x : List Int) (Aw : Option Addr) (cw : Nat) (W : World),x ∈ l0_1 → Below w.heap.size w W → Kd.C (Kd.int .u8) w Aw x.length x → x.length ≤ cw → Calls Try.prog 47 #[.agg #[.slice A0_0 l0_0.length c0_0,.slice A0_1 l0_1.length c0_1],.slice Aw x.length cw] W fun e w' => ∃ v0_ : Value,e = .returned (v0_) ∧ Kd.R k61 61 w' W.heap.size (fun _ => True) v0_ (impl_NearestWords.see k l0_0 l0_1 x) ∧ Below W.heap.size W w') := ⟨fun x Aw cw W hx hW h1 h2 => by
    have hs := List.all_eq_true.1 hall x hx;obtain ⟨t,ht⟩ := Option.isSome_iff_exists.1 hs
    have e : impl_NearestWords.see k l0_0 l0_1 x = t := by unfold impl_NearestWords.see;rw [ht];rfl
    rw [e]
    exact impl_Code_sights.calls k _ _ l0_0 _ _ l0_1 _ _ x t W (Kd.C_below hr0_0 hW) hc0_0 (Kd.C_below hr0_1 hW) hc0_1 (Kd.C_below h1 hW) h2 ht⟩
   clear A2 hall hr0_0 hc0_0 hr0_1 hc0_1;generalize hn0 : l0_0.length = n0 at *;clear hn0;generalize hn1 : l0_1.length = n1 at *;have Hn1 := Aside0.mk hn1;clear hn1;have HH := Aside0.mk h;clear h
   go_enter Try.func18,Try.ntmps18
   go_wp2_with (first | ((with_reducible refine gate_dst (N := 1) rfl ?_);refine box_event ?hg (N := 1) ?hd (cs := #[.slice A0_0 n0 c0_0,.slice A0_1 n1 c0_1]) (t := 33) ?hr ?_;(case hd => rfl);(case hg => rfl);(case hr => first | (go_simp;done) | (go_simp;rfl));intro gc hg_ w1 hbox hb;have BKc1 := Aside0.mk hbox;have GEc := Aside0.mk (show w.heap.size ≤ gc by rw [hg_];exact below_size HB.out);have HB1 := Aside0.mk (below_step HB.out hb);have hq0 : w1.cell? ⟨gc,0,none⟩ = some (.slice A0_0 n0 c0_0) := (blk_cell BKc1.out 0).trans rfl;have hq1 : w1.cell? ⟨gc,1,none⟩ = some (.slice A0_1 n1 c0_1) := (blk_cell BKc1.out 1).trans rfl;clear hb hbox hg_) | (go_at_call 30;refine (HVC.out _ HB1.out).mono ?_;rintro e w2 ⟨rfl,hb2⟩;have HB2 := Aside0.mk (below_step HB1.out hb2);have BKc2 := Aside0.mk (blk_below BKc1.out hb2);clear hb2) | ((with_reducible refine gate_dst (N := 16) rfl ?_);refine Kd.R_lit (Kd.slice 61 k61) w.heap.size 27 ?hg (N := 16) ?hd (xs := ([] : List (List S61))) (inner := []) (ok := fun _ => True) (okp := fun _ => True) ?hr ?hp (fun _ hk => hk) trivial HB2.out (below_size HB2.out) (by simp) ?_;(case hd => rfl);(case hg => rfl);(case hr => first | (go_simp;done) | (go_simp;rfl));(case hp => exact (Reps.none _ _));intro vl w3 ho3 hb3 hg_ hnew_;have BKc3 := Aside0.mk (blk_grown (by exact BKc2.out) hg_ (by simp));clear hg_ hnew_;obtain ⟨Al,cl,el⟩ := Kd.R_slice ho3;rw [el] at ho3;have HO3 := Aside0.mk (show Kd.R (Kd.slice 61 k61) 27 w3 w.heap.size (fun _ => True) (.slice Al 0 cl) ([] : List (List S61)) from ho3);have HB3 := Aside0.mk hb3;simp only [List.length_nil] at el;subst el;clear ho3 hb3) | ((with_reducible refine gate_dst (N := 6) rfl ?_);refine box_event ?hg (N := 6) ?hd (cs := #[.slice none 0 0]) (t := 87) ?hr ?_;(case hd => rfl);(case hg => rfl);(case hr => first | (go_simp;done) | (go_simp;rfl));intro gl hg_ w4 hbox hb;have BKl4 := Aside0.mk hbox;have GEl := Aside0.mk (show w.heap.size ≤ gl by rw [hg_];exact below_size HB3.out);have HB4 := Aside0.mk (below_step HB3.out hb);have BKc4 := Aside0.mk (blk_below BKc3.out hb);have HO4 := Aside0.mk (Kd.R_below HO3.out hb);have hq2 : w4.cell? ⟨gl,0,none⟩ = some (.slice none 0 0) := (blk_cell BKl4.out 0).trans rfl;have hq3 := blk_frozen BKl4.out 0;have hq4 : w4.cell? ⟨gc,0,none⟩ = some (.slice A0_0 n0 c0_0) := (blk_cell BKc4.out 0).trans rfl;have hq5 : w4.cell? ⟨gc,1,none⟩ = some (.slice A0_1 n1 c0_1) := (blk_cell BKc4.out 1).trans rfl;have hne5 : gc ≠ gl := blk_ne BKc4.out BKl4.out (by decide);have hne6 : gl ≠ gc := hne5.symm;clear hb hbox hg_))
   have BKl5 := Aside0.mk (show (w4.setCell ⟨gl,0,none⟩ (.slice Al 0 cl)).heap[gl]? = some (.cells #[.slice Al 0 cl] 87 (0,0)) from blk_put (by exact BKl4.out) 0 (.slice Al 0 cl) rfl);have BKc5 := Aside0.mk (blk_far (by exact BKc4.out) (p := ⟨gl,0,none⟩) hne5 (.slice Al 0 cl));have HO5 := Aside0.mk (Kd.R_set HO4.out (by exact BKl4.out) (by decide) 0 (.slice Al 0 cl));have HB5 := Aside0.mk (below_set (j := 0) (v := .slice Al 0 cl) HB4.out GEl.out);have HNG := Aside0.mk hne5;clear hne5 hne6 hq0 hq1 hq2 hq3 hq4 hq5 BKl4 BKc4 HO4 HB4 HO3 HB3 BKc3 HB2 BKc2 HB1 BKc1 HB
   go_loopg [8,20] (n1 + 1) (fun gg s8 s20 wr => ∃ (j : Nat) (v : Value),j ≤ n1 ∧ n1 - j ≤ gg ∧ s20 = .int .i64 j ∧ Aside0 (Kd.R (Kd.slice 61 k61) 27 wr w.heap.size (fun _ => True) v ((l0_1.take j).map (impl_NearestWords.see k l0_0 l0_1))) ∧ Aside0 (wr.heap[gl]? = some (.cells #[v] 87 (0,0))) ∧ Aside0 (wr.heap[gc]? = some (.cells #[.slice A0_0 n0 c0_0,.slice A0_1 n1 c0_1] 33 (0,0))) ∧ Aside0 (Below w.heap.size w wr))
   case atStart => exact ⟨0,.slice Al 0 cl,by omega,by omega,rfl,HO5,BKl5,BKc5,HB5⟩
   case round =>
    clear BKl5 BKc5 HO5 HB5;obtain ⟨j,v,hj,hg2,rfl,HO,BKl,BKc,HB⟩ := hrel;obtain ⟨Ao,co,eo⟩ := Kd.R_slice HO.out;subst eo
    by_cases hlj : j < n1
    ·have hljz : (j : Int) < (n1 : Int) := by omega
     have hljd : decide ((j : Int) < (n1 : Int)) = true := decide_eq_true hljz;have HJ := Aside0.mk (show j < l0_1.length by rw [Hn1.out];exact hlj);obtain ⟨ad,Aw,cw,e0,hx0,hlc,hC1⟩ := at_L2 HR1.out (j : Int) (by omega) (by omega);cases e0;simp only [Int.toNat_natCast] at hx0;have HD := Aside0.mk (show rd_L2 l0_1 (j : Int) = l0_1[j]'HJ.out by unfold rd_L2;rw [Int.toNat_natCast,List.getD_eq_getElem?_getD,List.getElem?_eq_getElem HJ.out];rfl);have y2 := (HB.out.cell (World.block_lt_of_cell? w _ hx0)).trans hx0;have HSee := Aside0.mk (fun (W : World) (hW : Below w.heap.size w W) => HSA.out (rd_L2 l0_1 (j : Int)) Aw cw W (by rw [HD.out];exact List.getElem_mem _) hW hC1 hlc);have HSC := Aside0.mk (show (l0_1.take (j + 1)).map (impl_NearestWords.see k l0_0 l0_1) = (l0_1.take j).map (impl_NearestWords.see k l0_0 l0_1) ++ [impl_NearestWords.see k l0_0 l0_1 (rd_L2 l0_1 (j : Int))] by rw [List.take_succ_eq_append_getElem HJ.out,List.map_append,HD.out];rfl);have HLM := Aside0.mk (show ((l0_1.take j).map (impl_NearestWords.see k l0_0 l0_1)).length ≤ 1000000 by rw [List.length_map,List.length_take];omega);clear hx0 hlc hC1 HD;generalize rd_L2 l0_1 (j : Int) = x at *;generalize impl_NearestWords.see k l0_0 l0_1 x = ts at *;generalize (l0_1.take j).map (impl_NearestWords.see k l0_0 l0_1) = out at *;generalize hnx : x.length = mx at *;clear hnx;generalize hno : out.length = no at *
     go_wp2
     refine start_ (n := 7) (S := fun w' => w'.cell? ⟨gl,0,none⟩ = some (.slice Ao no co) ∧ w'.cell? ⟨gc,0,none⟩ = some (.slice A0_0 n0 c0_0) ∧ w'.cell? ⟨gc,1,none⟩ = some (.slice (some ad) n1 c0_1)) (ds := [6]) #[false,false,false,false,false,false,false] (by kernel_rfl) rfl rfl ⟨(blk_cell (blk_drew BKl.out) 0).trans rfl,(blk_cell (blk_drew BKc.out) 0).trans rfl,(blk_cell (blk_drew BKc.out) 1).trans rfl⟩ (fun hHeld => ?_);have BKl1 := Aside0.mk (blk_drew BKl.out);have BKc1 := Aside0.mk (blk_drew BKc.out);have HO1 := Aside0.mk (Kd.R_drew HO.out);have HB1 := Aside0.mk (below_drew1 HB.out);clear BKl BKc HO HB y2;generalize wr.drew = wd at BKl1 BKc1 HO1 HB1 hHeld ⊢;have BKl := BKl1;have BKc := BKc1;have HO := HO1;have HB := HB1;clear BKl1 BKc1 HO1 HB1;refine pure_ (i := 2) (N := some 26) (v := ?_) (a' := ?_) #[false,false,true,false,false,false,false] rfl rfl (by kernel_rfl) (fun _ _ _ h => h) (Or.inl ⟨by rfl,?_⟩) ?_ ?_;rotate_left
     ·intro w';go_simp;with_reducible rfl
     rotate_left
     ·simp only [Act.put,List.setIfInBounds_toArray,List.set_cons_zero,List.set_cons_succ,i64_w,i32_w];rfl
     refine take_ (i := 0) (N := some 24) (v := ?_) (a' := ?_) #[true,false,true,false,false,false,false] rfl rfl (by kernel_rfl) (fun _ _ _ h => h) (Or.inl ⟨by rfl,?_⟩) hHeld ?_ ?_;rotate_left
     ·rintro w' ⟨s0,s1,s2⟩
      go_simp;with_reducible rfl
     rotate_left
     ·simp only [Act.put,List.setIfInBounds_toArray,List.set_cons_zero,List.set_cons_succ,i64_w,i32_w];rfl
     refine take_ (i := 1) (N := some 25) (v := ?_) (a' := ?_) #[true,true,true,false,false,false,false] rfl rfl (by kernel_rfl) (fun _ _ _ h => h) (Or.inl ⟨by rfl,?_⟩) hHeld ?_ ?_;rotate_left
     ·rintro w' ⟨s0,s1,s2⟩
      go_simp;with_reducible rfl
     rotate_left
     ·simp only [Act.put,List.setIfInBounds_toArray,List.set_cons_zero,List.set_cons_succ,i64_w,i32_w];rfl
     refine one_ (i := 3) (N := some 27) #[true,true,true,true,false,false,false] rfl rfl (by kernel_rfl) (by decide) (fun K hK => ?_);refine goes_ Try.func47 (by kernel_rfl) rfl #[.agg #[.slice A0_0 n0 c0_0,.slice (some ad) n1 c0_1],.slice Aw mx cw] (by rfl) rfl rfl (by (try simp only [List.map_toArray,List.map_cons,List.map_nil]);first | done | rfl) ?_;refine (HSee.out _ HB.out).mono ?_
     rintro e w3 ⟨v3,rfl,ho3,hb⟩
     refine ⟨_,rfl,?_⟩;obtain ⟨As,cs,es⟩ := Kd.R_slice ho3;subst es;have m0_ := Aside0.mk (Kd.R_below HO.out hb);have m1_ := Aside0.mk (below_step HB.out hb);have m2_ := Aside0.mk (blk_below BKl.out hb);have m3_ := Aside0.mk (blk_below BKc.out hb);have HR := Aside0.mk (Kd.R_lower ho3 (below_size HB.out));clear HO HB BKl BKc hb ho3;have HO := m0_;have HB := m1_;have BKl := m2_;have BKc := m3_;clear m0_ m1_ m2_ m3_;have HAP := Aside0.mk (impl_NearestWords.apart HR.out HO.out);refine hK.out _ _ ⟨(blk_cell (BKl.out) 0).trans rfl,(blk_cell (BKc.out) 0).trans rfl,(blk_cell (BKc.out) 1).trans rfl⟩ (fun hHeld => ?_);clear hK K;refine norm_ (a' := ?_) ?_ ?_;rotate_left
     ·show Act.put _ (some 27) _ = _
      simp only [Act.put,List.setIfInBounds_toArray,List.set_cons_zero,List.set_cons_succ,i64_w,i32_w];rfl
     refine one_ (i := 4) (N := some 28) #[true,true,true,true,true,false,false] rfl rfl (by kernel_rfl) (by decide) (fun K hK => ?_);refine value_ (w1 := ?_) (v := ?_) (by rfl) rfl ?_ ?_;rotate_left 2
     ·go_simp
      constructor
      ·rfl
      ·rfl
     refine hK.out _ _ ⟨(blk_cell (blk_alloc BKl.out _) 0).trans rfl,(blk_cell (blk_alloc BKc.out _) 0).trans rfl,(blk_cell (blk_alloc BKc.out _) 1).trans rfl⟩ (fun hHeld => ?_);clear hK K;refine norm_ (a' := ?_) ?_ ?_;rotate_left
     ·show Act.put _ (some 28) _ = _
      simp only [Act.put,List.setIfInBounds_toArray,List.set_cons_zero,List.set_cons_succ,i64_w,i32_w];rfl
     refine one_ (i := 5) (N := some 29) #[true,true,true,true,true,true,false] rfl rfl (by kernel_rfl) (by decide) (fun K hK => ?_);refine Kd.R_append_step (Kd.slice 61 k61) (w0 := w) w.heap.size (by rfl) (.tmp 24) (.tmp 28) 87 27 (.slice none 0 0) 24 (by rfl) Try.underlying87 (show (Try.prog.info? 27).map (fun i => (i.zero,i.size,i.bytes)) = some (some (.slice none 0 0),1,24) by kernel_rfl) rfl (by decide) (by omega) _ out ts [.slice As ts.length cs] (fun _ => True) (fun k_ => some k_ = (.slice As ts.length cs : Value).ownBlock) (by rfl) (by rfl) ?aP ?aK ?aF ?aO ?aB ?aS ?aL ?_;(case aP => exact Kd.M_row (Kd.R_tight rfl HR.out));(case aK => exact fun k_ hk_ => ⟨trivial,HAP.out k_ hk_⟩);(case aF => exact fun _ _ => trivial);(case aO => exact HO.out);(case aB => exact HB.out);(case aS => exact below_size HB.out);(case aL => have := HLM.out;omega);intro v1 w5 ho hb hg _;obtain ⟨Ar,cr,er⟩ := Kd.R_slice ho;generalize hnr : (out ++ [ts]).length = nr at er;clear hnr;subst er;have m2_ : Aside0 (w5.heap[gl]? = some (.cells #[.slice Ao no co] 87 (0,0))) := ⟨blk_grown (by exact BKl.out) hg (Kd.R_ne HO.out BKl.out (by decide))⟩;have m3_ : Aside0 (w5.heap[gc]? = some (.cells #[.slice A0_0 n0 c0_0,.slice (some ad) n1 c0_1] 33 (0,0))) := ⟨blk_grown (by exact BKc.out) hg (Kd.R_ne HO.out BKc.out (by decide))⟩;have m0_ := Aside0.mk ho;have m1_ := Aside0.mk hb;clear HO HB BKl BKc ho hb hg;have HO := m0_;have HB := m1_;have BKl := m2_;have BKc := m3_;clear m0_ m1_ m2_ m3_;have hfl := blk_frozen BKl.out 0;have hcl : w5.cell? ⟨gl,0,none⟩ = some (.slice Ao no co) := (blk_cell BKl.out 0).trans rfl;refine hK.out _ _ ⟨(blk_cell (BKl.out) 0).trans rfl,(blk_cell (BKc.out) 0).trans rfl,(blk_cell (BKc.out) 1).trans rfl⟩ (fun hHeld => ?_);clear hK K;refine norm_ (a' := ?_) ?_ ?_;rotate_left
     ·show Act.put _ (some 29) _ = _
      simp only [Act.put,List.setIfInBounds_toArray,List.set_cons_zero,List.set_cons_succ,i64_w,i32_w];rfl
     refine last_ (i := 6) (N := none) #[true,true,true,true,true,true,true] rfl rfl (by kernel_rfl) (by decide) (fun K hK => ?_);refine skip_ (w1 := ?_) (by rfl) rfl ?_ ?_;rotate_left
     ·go_simp;rfl
     refine hK.out _ _ ?_;clear hK K;refine done_ (by kernel_rfl) ?_;have BKl7 := Aside0.mk (show (w5.setCell ⟨gl,0,none⟩ (.slice Ar nr cr)).heap[gl]? = some (.cells #[.slice Ar nr cr] 87 (0,0)) from blk_put (by exact BKl.out) 0 (.slice Ar nr cr) rfl);have BKc7 := Aside0.mk (blk_far (by exact BKc.out) (p := ⟨gl,0,none⟩) HNG.out (.slice Ar nr cr));have HO7 := Aside0.mk (Kd.R_set HO.out (by exact BKl.out) (by decide) 0 (.slice Ar nr cr));have HB7 := Aside0.mk (below_set (j := 0) (v := .slice Ar nr cr) HB.out GEl.out)
     go_wp2
     go_roundg (n1 - (j + 1))
     case measure => omega
     case rel => exact ⟨j + 1,.slice Ar nr cr,by omega,by omega,by go_num,⟨by rw [HSC.out];exact HO7.out⟩,BKl7,BKc7,HB7⟩
    ·have hljz : ¬ (j : Int) < (n1 : Int) := by omega
     have hljd : decide ((j : Int) < (n1 : Int)) = false := decide_eq_false hljz
     have hlen : ((l0_1.take j).map (impl_NearestWords.see k l0_0 l0_1)).length = n1 := by rw [List.length_map,List.length_take,Hn1.out];omega
     rw [hlen] at HO BKl;rw [show l0_1.take j = l0_1 from List.take_of_length_le (by rw [Hn1.out];omega)] at HO;obtain ⟨h1,h2,h3⟩ := Kd.R_reads' HO.out;have HC := Aside0.mk (show Kd.C (Kd.slice 61 k61) wr Ao n1 (l0_1.map (impl_NearestWords.see k l0_0 l0_1)) by rw [h1];exact h3);have HC2 := Aside0.mk h2;clear h1 h2 h3 hlen;have hl0 : wr.cell? ⟨gl,0,none⟩ = some (.slice Ao n1 co) := (blk_cell BKl.out 0).trans rfl;have hh := HH.out
     cases q4 with
     | true =>
      rw [if_pos rfl] at hh;simp only [Prod.mk.injEq] at hh;obtain ⟨rfl,rfl,rfl,rfl⟩ := hh
      go_wp2_with (go_at_call 54;refine (HNE.out wr Ao co gl HC.out HC2.out BKl.out).mono ?_;rintro e w6 ⟨rfl,⟨nd,rfl⟩⟩)
      refine bodyPost_ret (results_list (rs := [.tmp 2,.tmp 3,.tmp 4,.tmp 5]) rfl (by simp) (.tmp (.tmp (.tmp (.tmp .nil))))) rfl ?_;exact ⟨by first | rfl | simp,pw_below_drewN HB.out nd⟩
     | false =>
      rw [if_neg (by decide)] at hh;simp only [Prod.mk.injEq] at hh;obtain ⟨rfl,rfl,rfl,rfl⟩ := hh
      go_wp2_with (go_at_call 54;refine (HNE.out wr Ao co gl HC.out HC2.out BKl.out).mono ?_;rintro e w6 ⟨rfl,⟨nd,rfl⟩⟩)
      refine bodyPost_ret (results_list (rs := [.tmp 2,.tmp 3,.tmp 4,.tmp 5]) rfl (by simp) (.tmp (.tmp (.tmp (.tmp .nil))))) rfl ?_;exact ⟨by first | rfl | simp,pw_below_drewN HB.out nd⟩
  ·rw [if_neg hc] at h;cases h
end Go.Proofs.Ytgfknljhogfeaaa.G
end

section
namespace Go.Proofs.Ytgfknljhogfeaaa.G
open Go.RowKit Go.Proofs.YtgfknljhogfeaaaW.PrintWords Go.Proofs.YtgfknljhogfeaaaW.PrintLast Go.Proofs.YtgfknljhogfeaaaW.PrintMore
attribute [local go_sem] max2_int min2_int max_two min_two max_three min_three max_four min_four
set_option linter.unusedVariables false
set_option linter.unusedSimpArgs false
set_option maxHeartbeats 4000000 in
theorem laws_eqFlag.core (xs ys : List Int) (hx : xs.length = 24) (hy : ys.length = 24) (w : World) :
  Calls Try.prog 81 #[.agg (nums .u8 xs).toArray,.agg (nums .u8 ys).toArray] w fun e w' => e = .returned (.bool (decide (xs = ys))) ∧ Below w.heap.size w w' := by
 have HB := Aside0.mk (Below.refl w.heap.size w)
 go_enter Try.func81,Try.ntmps81
 go_wp2_with (first | ((with_reducible refine gate_dst (N := 2) rfl ?_);refine box_event ?hg (N := 2) ?hd (cs := (nums .u8 xs).toArray) (t := 68) ?hr ?_;(case hd => rfl);(case hg => rfl);(case hr => first | (go_simp;done) | (go_simp;rfl));intro b1 hg_ w1 hb_ hB_;have HB1 := Aside0.mk (below_step HB.out hB_);have BK1 := Aside0.mk (show IsBox .u8 68 w1 b1 xs from hb_);clear hb_ hB_ hg_) | ((with_reducible refine gate_dst (N := 3) rfl ?_);refine box_event ?hg (N := 3) ?hd (cs := (nums .u8 ys).toArray) (t := 68) ?hr ?_;(case hd => rfl);(case hg => rfl);(case hr => first | (go_simp;done) | (go_simp;rfl));intro b2 hg_ w2 hb_ hB_;have HB2 := Aside0.mk (below_step HB1.out hB_);have BK2 := Aside0.mk (box_below BK1.out hB_);have BL2 := Aside0.mk (show IsBox .u8 68 w2 b2 ys from hb_);clear hb_ hB_ hg_))
 go_loopg [5] 25 (fun gg s5 wr => ∃ i : Nat,i ≤ 24 ∧ 24 - i ≤ gg ∧ s5 = .int .i64 i ∧ Aside0 (xs.take i = ys.take i) ∧ Aside0 (Below w.heap.size w wr) ∧ Aside0 (IsBox .u8 68 wr b1 xs) ∧ Aside0 (IsBox .u8 68 wr b2 ys))
 case atStart => exact ⟨0,by omega,by omega,rfl,⟨rfl⟩,HB2,BK2,BL2⟩
 case round =>
  obtain ⟨i,hi,hg,rfl,HE,HBr,BKr,BLr⟩ := hrel
  by_cases hlt : i < 24
  ·have hltz : (i : Int) < 24 := by omega
   have c1 := box_at BKr.out (show i < xs.length by omega);have c2 := box_at BLr.out (show i < ys.length by omega)
   by_cases he : xs[i] = ys[i]
   ·have h0 : (xs[i] == ys[i]) = true := beq_iff_eq.mpr he;have h1 : (xs[i] != ys[i]) = false := bne_eq_false_iff_eq.mpr he;have HE1 := Aside0.mk (show xs.take (i + 1) = ys.take (i + 1) by rw [List.take_succ_eq_append_getElem (show i < xs.length by omega),List.take_succ_eq_append_getElem (show i < ys.length by omega),HE.out,he]);clear he
    go_wp2
    repeat (go_quiet (fail);try go_wp2)
    go_roundg (24 - (i + 1))
    case measure => omega
    case rel => exact ⟨i + 1,by omega,by omega,by go_num,HE1,⟨by repeat (first | exact HBr.out | apply pw_below_drewN | apply below_drew1)⟩,⟨BKr.out⟩,⟨BLr.out⟩⟩
   ·have h0 : (xs[i] == ys[i]) = false := beq_eq_false_iff_ne.mpr he;have h1 : (xs[i] != ys[i]) = true := bne_iff_ne.mpr he;have hd : decide (xs = ys) = false := decide_eq_false (fun e => he (by subst e;rfl));clear he
    go_wp2
    repeat (go_quiet (fail);try go_wp2)
    go_ret
    exact ⟨by first | (rw [hd];done) | (rw [hd];rfl) | simp [hd],by repeat (first | exact HBr.out | apply pw_below_drewN | apply below_drew1)⟩
  ·have : i = 24 := by omega
   subst this
   go_wp2
   go_ret
   refine ⟨?_,by repeat (first | exact HBr.out | apply pw_below_drewN | apply below_drew1)⟩;have := HE.out;rw [List.take_of_length_le (by omega),List.take_of_length_le (by omega)] at this
   simp [this]
end Go.Proofs.Ytgfknljhogfeaaa.G
end
