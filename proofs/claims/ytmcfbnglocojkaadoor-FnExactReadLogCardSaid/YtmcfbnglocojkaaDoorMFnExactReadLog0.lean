/- The law's functions, their contracts, and the plain lemmas: texts of this claim, laid together. -/
import Derived.Test.YtmcfbnglocojkaaDoorProg
import Derived.Below
import Derived.Deep.Draws
import Derived.Deep.AppendLies
import Derived.Maps.AppendAt
import Derived.OwnWalk
import Derived.Laws.BytesArg
import Derived.Laws.MakeOwn
import Derived.Laws.OwnMore
import Derived.Deep.OwnRows
import Derived.Tactics
import Derived.Lib.ConvBytes
import Derived.Laws.Slices
import Derived.WalkKit
import Derived.KernelRfl
import Derived.RowKit3
import Derived.Deep.LoopGhost
import Derived.Deep.QuietTactic
import Derived.BigQuiet
import Derived.WideLaws
import Derived.Deep.DeepCutAuto
import Derived.Deep.CutBlock
import Derived.Deep.RegionHeld3
import Derived.Laws.Rows
import Derived.Lib.AppendStr
import Derived.ArgAppend
import Derived.Laws.IdiomCopy
import Derived.OrdersHeld
import Derived.Laws.BitsLemmas
import Derived.RowKit
import Derived.Shelf.Abstract
import Derived.WalkSpells
import Derived.WalkLawsBesides
import Derived.Lib.AppendIntMem
import Derived.Test.YtmcfbnglocojkaaDoorWWords
import Derived.Test.YtmcfbnglocojkaaDoorWLast
import Derived.Test.YtmcfbnglocojkaaDoorWTab
import Derived.Test.YtmcfbnglocojkaaDoorWFour
import Derived.Test.YtmcfbnglocojkaaDoorWQPut
import Derived.Test.YtmcfbnglocojkaaDoorWApart
import Derived.Test.YtmcfbnglocojkaaDoorWArr
import Derived.Test.YtmcfbnglocojkaaDoorWZeros
import Derived.Test.YtmcfbnglocojkaaDoorWFoot
import Derived.Test.YtmcfbnglocojkaaDoorWKept
import Derived.Test.YtmcfbnglocojkaaDoorWShare
import Derived.Test.YtmcfbnglocojkaaDoorWN
import Derived.Test.YtmcfbnglocojkaaDoorWFootNe
import Derived.Test.YtmcfbnglocojkaaDoorWAt
import Derived.Test.YtmcfbnglocojkaaDoorWEqStruct
import Derived.Test.YtmcfbnglocojkaaDoorWRepsOne
import Derived.Test.YtmcfbnglocojkaaDoorWInv
import Derived.Test.YtmcfbnglocojkaaDoorWInvWords
import Derived.Test.YtmcfbnglocojkaaDoorWGuard
import Derived.Test.YtmcfbnglocojkaaDoorWNEv
import Derived.Test.YtmcfbnglocojkaaDoorWMore
import Derived.Deep.RegionLaw
import Derived.Shelf.Strings.Builder1
import Derived.Shelf.Small.Strs
import Derived.Shelf.Strings.BuilderF
import Derived.Shelf.Strings.BuilderK
import Derived.Shelf.Strconv.Itoa0
import Derived.Shelf.Strconv.Itoa1
import Derived.Shelf.LaysM
import Derived.Shelf.Strconv.Itoa2
import Derived.Shelf.Strconv.Itoa3
import Derived.Shelf.Strconv.Itoa4
import Derived.Shelf.Strconv.ParseIntEmpty
import Derived.Shelf.Strconv.Clone
import Derived.Shelf.Strconv.SyntaxError
import Derived.Shelf.LaysC
import Derived.Shelf.Strconv.ToError
import Derived.Shelf.Strconv.Lower
import Derived.Shelf.Strconv.ParseUint10
import Derived.Shelf.Strconv.ParseUint10Empty
import Derived.Shelf.Strconv.ParseUint10Any
import Derived.Shelf.Strconv.ParseInt10
import Derived.Shelf.Strconv.RangeError
import Derived.Shelf.Strconv.ToErrorRange
import Derived.Shelf.Strconv.ParseUintEmpty
import Derived.Shelf.Strconv.ParseUint10b64
import Derived.Shelf.Strconv.ParseUint10b32
import Derived.Shelf.Strconv.ParseUint10b16
import Derived.Shelf.Strconv.ParseUint10b8
import Derived.Shelf.Strconv.ParseUint10At
import Derived.Shelf.Strconv.ParseInt10At64
import Derived.Shelf.Strconv.ParseInt10At32
import Derived.Shelf.Strconv.ParseInt10At16
import Derived.Shelf.Strconv.ParseInt10At8
import Derived.Shelf.Strconv.ParseInt10All
import Derived.Shelf.Strconv.ParseIntPublic10
import Derived.Shelf.Strconv.ErrVarParseInt
import Derived.Shelf.Strings.Search1
import Derived.Shelf.Strings.Search2
import Derived.Shelf.Strings.Search3
import Derived.Shelf.Strings.Count
import Derived.Shelf.Strings.Shaped
import Derived.Shelf.Strings.Split
import Derived.Shelf.Strings.SplitShaped
import Derived.Shelf.Unicode.DecodeSlow
import Derived.Shelf.Strings.BuilderCap
import Derived.RangeFuncNested
import Derived.RangeFuncBound
import Derived.RangeFuncCalls
import Derived.RangeFuncLeaves
import Derived.OrdersIn
import Derived.OwnWalkIn
import Derived.TacticsInMore
import Derived.LoopIn
import Derived.Sort.LoopGhostIn
import Derived.RegionIn
import Derived.BigRegionIn
import Derived.Lib.SplitLaws
section
namespace Go.Proofs.YtmcfbnglocojkaaDoor.G
open Go.RowKit Go.Proofs.YtmcfbnglocojkaaDoorW.PrintWords Go.Proofs.YtmcfbnglocojkaaDoorW.PrintLast Go.Proofs.YtmcfbnglocojkaaDoorW.PrintMore
attribute [local go_sem] max2_int min2_int max_two min_two max_three min_three max_four min_four
set_option linter.unusedVariables false
set_option linter.unusedSimpArgs false
def errW : Option Int → Value
  | none => .nilIface
  | some c => .iface 72 (.int .i64 c)
theorem errW_none : errW none = .nilIface := rfl
theorem errW_some (c : Int) : errW (some c) = .iface 72 (.int .i64 c) := rfl
theorem info3 : (Tryd.prog.info? 3).map (fun i => (i.zero, i.size, i.bytes)) = some (some (.int .i64 0), 1, 8) := by kernel_rfl
theorem info9 : (Tryd.prog.info? 9).map (fun i => (i.zero, i.size, i.bytes)) = some (some (.string ⟨#[]⟩), 1, 16) := by kernel_rfl
theorem info34 : (Tryd.prog.info? 34).map (fun i => (i.zero, i.size, i.bytes)) = some (some (.agg #[(.int .i64 0), (.int .i64 0), (.bool false)]), 3, 24) := by kernel_rfl
structure S34 where
  f0 : Int
  f1 : Int
  f2 : Bool
def z34 : S34 := ⟨(0 : Int), (0 : Int), false⟩
def k34 : Kd S34 := Kd.iso (Kd.pair (Kd.int .i64) (Kd.pair (Kd.int .i64) Kd.bool)) (fun x : S34 => (x.f0, x.f1, x.f2))
theorem k34_open {w : World} {x : S34} {cs : List Value} (h : k34.K w x cs) : cs = [.int .i64 x.f0, .int .i64 x.f1, .bool x.f2] := by
  obtain ⟨_, _, rfl, rfl, ⟨_, _, rfl, rfl, rfl⟩⟩ := h
  exact rfl
theorem k34_openM {w : World} {base : Nat} {ok : Nat → Prop} {x : S34} {cs : List Value} (h : k34.M w base ok x cs) : cs = [.int .i64 x.f0, .int .i64 x.f1, .bool x.f2] := by
  obtain ⟨_, _, rfl, rfl, ⟨_, _, rfl, rfl, rfl⟩⟩ := h
  exact rfl
theorem k34_mkM (w : World) (base : Nat) (ok : Nat → Prop) (x : S34)  : k34.M w base ok x [.int .i64 x.f0, .int .i64 x.f1, .bool x.f2] := ⟨[.int .i64 x.f0], [.int .i64 x.f1, .bool x.f2], rfl, rfl, ⟨[.int .i64 x.f1], [.bool x.f2], rfl, rfl, rfl⟩⟩
def rd_T34 (xs : List S34) (i : Int) : S34 := xs.getD i.toNat z34
theorem at_T34 {w : World} {A : Option Addr} {n : Nat} {xs : List S34} (h : Kd.C k34 w A n xs) (i : Int) (h0 : 0 ≤ i) (h1 : i < n) : ∃ ad , A = some ad ∧ w.cell? (ad.add (i.toNat * 3)) = some (.int .i64 (rd_T34 xs i).f0) ∧ w.cell? ⟨(ad.add (i.toNat * 3)).block, (ad.add (i.toNat * 3)).off + 1, none⟩ = some (.int .i64 (rd_T34 xs i).f1) ∧ w.cell? ⟨(ad.add (i.toNat * 3)).block, (ad.add (i.toNat * 3)).off + 2, none⟩ = some (.bool (rd_T34 xs i).f2) := by
  obtain ⟨ad, c, e, _, hK, hc0⟩ := Kd.C_get h z34 i h0 h1
  have hc : ∀ j u, c[j]? = some u → w.cell? (ad.add (i.toNat * 3 + j)) = some u := hc0
  obtain rfl := k34_open hK
  exact ⟨ad, e, hc 0 _ rfl, by rw [← add_field _ _ 1 (by omega)]; exact hc 1 _ rfl, by rw [← add_field _ _ 2 (by omega)]; exact hc 2 _ rfl⟩
def idxP {α : Type} (p : α → Bool) (l : List α) : Int := match l.findIdx? p with | some i => (i : Int) | none => -1
theorem idxP_hit {α : Type} {p : α → Bool} {l : List α} {k : Nat} {y : α} (hy : l[k]? = some y) (hp : p y = true) (hn : ∀ j x, j < k → l[j]? = some x → p x = false) : idxP p l = (k : Int) := by
  have hk : k < l.length := (List.getElem?_eq_some_iff.1 hy).1
  have e : l.findIdx? p = some k := by
    rw [List.findIdx?_eq_some_iff_getElem]
    refine ⟨hk, ?_, fun j hj => ?_⟩
    · rw [(List.getElem?_eq_some_iff.1 hy).2]; exact hp
    · have := hn j l[j] hj (List.getElem?_eq_getElem (by omega))
      simp [this]
  simp [idxP, e]
theorem idxP_miss {α : Type} {p : α → Bool} {l : List α} (h : ∀ x ∈ l, p x = false) : idxP p l = -1 := by
  have e : l.findIdx? p = none := by
    rw [List.findIdx?_eq_none_iff]
    exact h
  simp [idxP, e]
theorem idxP_nonneg {α : Type} (p : α → Bool) (l : List α) : decide (0 ≤ idxP p l) = l.any p := by
  unfold idxP
  cases e : l.findIdx? p with
  | none =>
    rw [List.findIdx?_eq_none_iff] at e
    have : l.any p = false := by rw [List.any_eq_false]; intro x hx; simp [e x hx]
    simp [this]
  | some i =>
    rw [List.findIdx?_eq_some_iff_getElem] at e
    obtain ⟨h, hp, _⟩ := e
    have : l.any p = true := List.any_eq_true.2 ⟨l[i], List.getElem_mem h, hp⟩
    simp [this]
structure EnvIs (w : World) : Prop where
  pow : Lib.TabIs Tryd.prog w "internal/strconv.uint64pow10" .u64 Lib.pow10Tab
  syn : ∃ tp p, w.var? Tryd.prog "strconv.ErrSyntax" = some #[.iface tp p]
  rng : ∃ tp p, w.var? Tryd.prog "strconv.ErrRange" = some #[.iface tp p]
  maxlen : ∃ m, w.cell? ⟨0, 0, none⟩ = some (.int .i64 m)
def Env (w : World) : Prop := ∀ w', Below w.heap.size w w' → EnvIs w'
theorem Env_on {w W : World} (h : Env w) (hb : Below w.heap.size w W) : Env W := fun w' h' => h w' (below_then hb hb.size h')
theorem Env_here {w : World} (h : Env w) : EnvIs w := h w (Below.refl _ _)
theorem var_below {P : Program} {w w' : World} {n : String} {v : Array Value} (h : w.var? P n = some v) (hb : Below w.heap.size w w') : w'.var? P n = some v := by
  unfold World.var? at *
  cases hg : P.globalNamed n with
  | none => simp [hg] at h
  | some g =>
    simp only [hg, Option.bind_some] at h ⊢
    have hlt : g < w.heap.size := by
      rcases Nat.lt_or_ge g w.heap.size with h' | h'
      · exact h'
      · rw [Array.getElem?_eq_none h'] at h
        simp at h
    rw [hb.block g hlt]
    exact h
end Go.Proofs.YtmcfbnglocojkaaDoor.G
end

section
namespace Go.Proofs.YtmcfbnglocojkaaDoor.G
open Go.RowKit Go.Proofs.YtmcfbnglocojkaaDoorW.PrintWords Go.Proofs.YtmcfbnglocojkaaDoorW.PrintLast Go.Proofs.YtmcfbnglocojkaaDoorW.PrintMore
attribute [local go_sem] max2_int min2_int max_two min_two max_three min_three max_four min_four
set_option linter.unusedVariables false
set_option linter.unusedSimpArgs false
def impl_within.f (a0 : Int) (a1 : Int) (a2 : Int) : Option (Bool) := if a1 ≤ a0 then (some (decide (a0 ≤ a2))) else (some false)
set_option maxHeartbeats 8000000 in
set_option maxRecDepth 100000 in
theorem impl_within.calls (a0 : Int) (a1 : Int) (a2 : Int) (r : Bool) (w : World) (h : impl_within.f a0 a1 a2 = some r) :
  Calls Tryd.prog 26 #[.int .i64 a0,.int .i64 a1,.int .i64 a2] w fun e w' => e = .returned (.bool r) ∧ Drawn0 w w' := by
 have H : (if a1 ≤ a0 then (some (decide (a0 ≤ a2))) else (some false)) = some r := h;clear h
 by_cases c4 : a1 ≤ a0
 ·rw [if_pos c4] at H;have c4b0 : decide (a1 ≤ a0) = true := decide_eq_true c4;clear c4;obtain rfl := Option.some.inj H
  go_enter Tryd.func26,Tryd.ntmps26
  go_wp2
  go_ret
  exact ⟨by first | rfl | (simp only [IntKind.wrap_i64,wrap64];done) | (simp;done) | (simp [*];done),by repeat (first | exact Drawn0.refl _ | apply Drawn0.step)⟩
 ·rw [if_neg c4] at H;have c4b0 : decide (a1 ≤ a0) = false := decide_eq_false c4;clear c4;obtain rfl := Option.some.inj H
  go_enter Tryd.func26,Tryd.ntmps26
  go_wp2
  go_ret
  exact ⟨by first | rfl | (simp only [IntKind.wrap_i64,wrap64];done) | (simp;done) | (simp [*];done),by repeat (first | exact Drawn0.refl _ | apply Drawn0.step)⟩
end Go.Proofs.YtmcfbnglocojkaaDoor.G
end

section
namespace Go.Proofs.YtmcfbnglocojkaaDoor.G
open Go.RowKit Go.Proofs.YtmcfbnglocojkaaDoorW.PrintWords Go.Proofs.YtmcfbnglocojkaaDoorW.PrintLast Go.Proofs.YtmcfbnglocojkaaDoorW.PrintMore
attribute [local go_sem] max2_int min2_int max_two min_two max_three min_three max_four min_four
set_option linter.unusedVariables false
set_option linter.unusedSimpArgs false
theorem run_clear_any {P : Program} {n : Nat} (w : World) (t e ty : TypeId) (z : Value) (ht : P.underlying t = some (.slice e)) (hv : ∀ w, (zeroValue e).run P w = .ok z w) (hz1 : ∀ u ∈ (Builtin.zeroCells z.cells n).toList, u.oneCell' = true) (b o c : Nat) (hn : 0 < n)
    (hc : ∀ j, j < (Builtin.zeroCells z.cells n).toList.length → (w.cell? ⟨b, o + j, none⟩).isSome = true) (hf : ∀ j, j < (Builtin.zeroCells z.cells n).toList.length → w.frozen? ⟨b, o + j, none⟩ = false) :
    (Builtin.clear_ #[t] ty #[.slice (some ⟨b, o, none⟩) n c]).run P w = .ok (.tuple #[]) (w.setCells b o (Builtin.zeroCells z.cells n).toList) := by
  have hst := run_storeCells_cells (P := P) b o (Builtin.zeroCells z.cells n).toList 0 w (by simpa using hc) (by simpa using hf) hz1
  simp only [Nat.add_zero] at hst
  obtain ⟨m, rfl⟩ : ∃ m, n = m + 1 := ⟨n - 1, by omega⟩
  simp [Builtin.clear_, run_underlying ht, hv, hst]
theorem zeroCells_len (cs : Array Value) (n : Nat) : (Builtin.zeroCells cs n).toList.length = n * cs.size := by
  simp [Builtin.zeroCells]
theorem R_beyond {α : Type} {d : Kd α} {e : Nat} {w : World} {base : Nat} {ok : Nat → Prop} {g m c : Nat} {xs : List α} (h : d.R e w base ok (.slice (some ⟨g, 0, none⟩) m c) xs) (news : List Value) (o : Nat) (ho : m * d.sz ≤ o) (hfit : o + news.length ≤ c * d.sz) :
    d.R e (w.setCells g o news) base ok (.slice (some ⟨g, 0, none⟩) m c) xs ∧ w.grownBy (w.setCells g o news) (some g) := by
  obtain ⟨hn, hnc, _⟩ := Kd.R_reads' h
  obtain ⟨hok, inner, hown, hr⟩ := h
  have hin : inner.length = m * d.sz := by rw [hr.1, hn]
  rcases hown.2 with ⟨hv, _⟩ | ⟨g', cap', cur, hv, hb, hh, hle, hcm, hcs, htake⟩
  · cases hv
  injection hv with ha _ hc
  injection ha with ha
  injection ha with hg
  subst hg; subst hc
  rw [← hn] at htake
  have hnc' : m * d.sz ≤ c * d.sz := Nat.mul_le_mul_right _ hnc
  obtain ⟨cur', h3, h4, h5⟩ := setCells_row news o w cur hh (by rw [hcs]; exact hfit)
  obtain ⟨s1, s2, s3, s4⟩ := setCells_same g news o w
  have hfar : ∀ k', k' ≠ g → (w.setCells g o news).heap[k']? = w.heap[k']? := fun k' hk' => setCells_far news _ k' hk'
  have htl : cur'.toList.take (m * d.sz) = inner := by
    rw [h5, List.append_assoc, List.take_append_of_le_length (by rw [List.length_take, Array.length_toList, hcs]; omega), List.take_take, Nat.min_eq_left ho, htake]
  refine ⟨⟨hok, inner, ⟨hown.1, .inr ⟨g, c, cur', by rw [hn], hb, h3, hle, hcm, by rw [h4, hcs], by rw [← hn]; exact htl⟩⟩, hr.imp_ (fun p q hp => d.M_move (fun k' hk' => hfar k' (fun he => hk'.2 (by rw [he]; simp [Value.ownBlock]))) hp)⟩, ⟨s1, s2, s3, by rw [s4]; exact Nat.le_refl _, fun k' _ hk' => hfar k' (fun he => hk' (by rw [he]))⟩⟩
theorem R_cleared {α : Type} {P : Program} {d : Kd α} {e : Nat} {w : World} {base : Nat} {ok : Nat → Prop} {g m c n : Nat} {xs : List α} (h : d.R e w base ok (.slice (some ⟨g, 0, none⟩) m c) xs) (t ty : TypeId) (z : Value) (ht : P.underlying t = some (.slice e)) (hv : ∀ w, (zeroValue e).run P w = .ok z w) (hzs : z.cells.size = d.sz)
    (hz1 : ∀ u ∈ (Builtin.zeroCells z.cells n).toList, u.oneCell' = true) (hn : 0 < n) (hfit : m + n ≤ c) :
    ∃ w1, (Builtin.clear_ #[t] ty #[.slice (some ⟨g, m * d.sz, none⟩) n (c - m)]).run P w = .ok (.tuple #[]) w1 ∧ d.R e w1 base ok (.slice (some ⟨g, 0, none⟩) m c) xs ∧ w.grownBy w1 (some g) := by
  have hfit' : m * d.sz + n * d.sz ≤ c * d.sz := by rw [← Nat.add_mul]; exact Nat.mul_le_mul_right _ hfit
  have hl : (Builtin.zeroCells z.cells n).toList.length = n * d.sz := by rw [zeroCells_len, hzs]
  obtain ⟨hx, _⟩ := Kd.R_own h
  obtain ⟨inner, hown, hr⟩ := h.2
  rcases hown.2 with ⟨hv', _⟩ | ⟨g', cap', cur, hv', hb, hh, hle, hcm, hcs, htake⟩
  · cases hv'
  injection hv' with ha _ hc
  injection ha with ha
  injection ha with hg
  subst hg; subst hc
  have hb2 := R_beyond h (Builtin.zeroCells z.cells n).toList (m * d.sz) (Nat.le_refl _) (by rw [hl]; exact hfit')
  refine ⟨_, run_clear_any w t e ty z ht hv hz1 g (m * d.sz) (c - m) hn (fun j hj => ?_) (fun j hj => blk_frozen hh _), hb2.1, hb2.2⟩
  rw [hl] at hj
  rw [cell_of_row w g _ cur e (0, 0) hh, Array.getElem?_eq_getElem (by omega)]
  rfl
end Go.Proofs.YtmcfbnglocojkaaDoor.G
end

section
namespace Go.Proofs.YtmcfbnglocojkaaDoor.G
open Go.RowKit Go.Proofs.YtmcfbnglocojkaaDoorW.PrintWords Go.Proofs.YtmcfbnglocojkaaDoorW.PrintLast Go.Proofs.YtmcfbnglocojkaaDoorW.PrintMore
attribute [local go_sem] max2_int min2_int max_two min_two max_three min_three max_four min_four
set_option linter.unusedVariables false
set_option linter.unusedSimpArgs false
def slices_Delete_int_int.f (l0 : List (Int)) (a1 : Int) (a2 : Int) : Option (List (Int)) := if 0 ≤ a1 ∧ a1 < (l0.length : Int) ∧ a2 = a1 + 1 then some (l0.eraseIdx a1.toNat) else none
set_option maxHeartbeats 4000000 in
set_option maxRecDepth 20000 in
theorem slices_Delete_int_int.calls (P0_ : Nat → Prop) (u9000_ : Value) (l0 : List (Int)) (a1 : Int) (a2 : Int) (r : List (Int)) (w0 w : World) (hB : Below w0.heap.size w0 w) (ho0 : Kd.R (Kd.int .i64) 3 w w0.heap.size P0_ u9000_ l0) (h : slices_Delete_int_int.f l0 a1 a2 = some r) :
  Calls Tryd.prog 53 #[u9000_,.int .i64 a1,.int .i64 a2] w fun e w' => ∃ v0_ : Value,e = .returned (v0_) ∧ Kd.R (Kd.int .i64) 3 w' w0.heap.size (fun k_ => (P0_ k_ ∨ w.heap.size ≤ k_)) v0_ r ∧ Below w0.heap.size w0 w' ∧ Kept w w' (fun k_ => P0_ k_) := by
 unfold slices_Delete_int_int.f at h
 by_cases hq : 0 ≤ a1 ∧ a1 < (l0.length : Int) ∧ a2 = a1 + 1
 ·rw [if_pos hq] at h;obtain rfl := Option.some.inj h;obtain ⟨h0,h1,rfl⟩ := hq;clear h;obtain ⟨k,rfl⟩ : ∃ k : Nat,a1 = (k : Int) := ⟨a1.toNat,by omega⟩
  have hk : k < l0.length := by omega
  obtain ⟨g,c,rfl,hbg,hg,cells,hcells⟩ := Kd.R_form ho0 (by omega);obtain ⟨_,hc,hC⟩ := Kd.R_reads' ho0;have hl : l0.length ≤ 9223372036854775807 := hC.2.1;have HO := Aside0.mk ho0;have HB := Aside0.mk hB;clear ho0 hB hC hcells
  go_enter Tryd.func53,Tryd.ntmps53
  go_wp2
  have hinfo : (Tryd.prog.info? 3).map (·.size) = some ((Kd.int .i64)).sz := by kernel_rfl
  have ht := Tryd.underlying45
  have hA0 : (if c = k + 1 then some (⟨g,0,none⟩ : Addr) else some ⟨g,k + 1,none⟩) = if c = k + 1 then some (⟨g,0,none⟩ : Addr) else (some (⟨g,0,none⟩ : Addr)).map (·.add ((k + 1) * ((Kd.int .i64)).sz)) := by
   rw [show ((Kd.int .i64)).sz = 1 from rfl]
   simp [Addr.add]
  have HA0 := Aside0.mk hA0;clear hA0
  have hkc : k ≤ c := by omega
  have hz1 : ((0 : Int) ≤ (k : Int) + 1) = True := eq_true (by omega);have hz2 : ((k : Int) + 1 ≤ (l0.length : Int)) = True := eq_true (by omega)
  go_region_law (refine Kd.R_delete_step ((Kd.int .i64)) (w0 := w0) w0.heap.size (by rfl) (.tmp 22) (.tmp 25) 45 3 rfl ht hinfo (c := c) (k := k) (n := l0.length) rfl rfl HA0.out rfl (Kd.R_drew HO.out) hk (below_drew1 HB.out) HB.out.size ?_;intro w1 ho1 hb1 hg1)
  obtain ⟨m,hm⟩ : ∃ m,l0.length = m + 1 := ⟨l0.length - 1,by omega⟩
  have hmm : l0.length - 1 = m := by omega
  rw [hmm] at ho1 ⊢;have hcm : (c = m) = False := eq_false (by omega);have hcm1 : ((m : Int) + 1 ≤ (c : Int)) = True := eq_true (by omega);have hcm2 : (m + 1 ≤ c) = True := eq_true (by omega);obtain ⟨w2,hcl,ho2,hg2⟩ := R_cleared (P := Tryd.prog) (n := 1) ho1 45 0 (.int .i64 0) ht (fun w => by kernel_rfl) rfl (List.all_eq_true.1 (by kernel_rfl)) (by decide) (by omega);rw [show m * ((Kd.int .i64)).sz = m from Nat.mul_one m] at hcl;have HO2 := Aside0.mk ho2;have HB1 := Aside0.mk hb1;have HG1 := Aside0.mk hg1;have HG2 := Aside0.mk hg2;clear ho1 hb1 hg1 ho2 hg2
  rename_i hK hT
  refine hK _ _ ?_;rw [hm];clear hz2 h1 hk hl hmm hK hT;go_simp;generalize (if c = k + 1 then (some (⟨g,0,none⟩ : Addr)) else some ⟨g,k + 1,none⟩) = ax at ⊢;have hbg' := Aside0.mk hbg;clear hinfo HA0 hkc hz1 hc hg hbg
  go_wp2
  go_ret
  refine ⟨_,rfl,Kd.R_mono HO2.out (fun _ hk => .inl hk),HB1.out.grown HG2.out HB1.out.size (fun k hk => ?_),Kept.of_grown HG2.out (Kept.of_grown HG1.out (Kept.drew (Kept.refl w _)) ?_) ?_⟩
  ·injection hk with hk
   subst hk;exact hbg'.out
  ·intro k hk
   injection hk with hk
   subst hk;exact .inl (HO.out.1 _ (by simp [Value.ownBlock]))
  ·intro k hk
   injection hk with hk
   subst hk;exact .inl (HO.out.1 _ (by simp [Value.ownBlock]))
 ·rw [if_neg hq] at h;cases h
end Go.Proofs.YtmcfbnglocojkaaDoor.G
end

section
namespace Go.Proofs.YtmcfbnglocojkaaDoor.G
open Go.RowKit Go.Proofs.YtmcfbnglocojkaaDoorW.PrintWords Go.Proofs.YtmcfbnglocojkaaDoorW.PrintLast Go.Proofs.YtmcfbnglocojkaaDoorW.PrintMore
attribute [local go_sem] max2_int min2_int max_two min_two max_three min_three max_four min_four
set_option linter.unusedVariables false
set_option linter.unusedSimpArgs false
set_option maxHeartbeats 2000000 in
theorem slices_IndexFunc_int_int.calls (A0 : Option Addr) (c0 : Nat) (l0 : List (Int)) (g : Nat) (lb : Array Value) (eg : ∀ args w,(callFunc g args).run Tryd.prog w = .ok (.enter g args) w) (p : Int → Bool) (w : World)
  (hr0 : Kd.C (Kd.int .i64) w A0 l0.length l0) (hc0 : l0.length ≤ c0)
  (hp : ∀ W,Below w.heap.size w W → ∀ x ∈ l0,Calls Tryd.prog g (#[.int .i64 x] ++ lb) W fun e w' => e = .returned (.bool (p x)) ∧ Below w.heap.size w w') :
  Calls Tryd.prog 51 #[.slice A0 l0.length c0,.func (.func g) #[] lb] w fun e w' => e = .returned (.int .i64 (idxP p l0)) ∧ Below w.heap.size w w' := by
 have hl : l0.length ≤ 9223372036854775807 := hr0.2.1;have HR0 := Aside0.mk hr0;have HP := Aside0.mk hp;clear hr0 hp;generalize hn : l0.length = n at *;have Hn := Aside0.mk hn;clear hn
 go_enter Tryd.func51,Tryd.ntmps51
 go_wp2
 go_loopg [5,8] n (fun gg _ s8 wr => ∃ kk : Nat,kk ≤ n ∧ n - kk ≤ gg ∧ s8 = .int .i64 kk ∧ Aside0 (Below w.heap.size w wr) ∧ Aside0 (∀ j x,j < kk → l0[j]? = some x → p x = false))
 case atStart => exact ⟨0,Nat.zero_le _,by omega,rfl,⟨Below.refl _ w⟩,⟨fun j _ hj => absurd hj (Nat.not_lt_zero _)⟩⟩
 case round =>
  obtain ⟨kk,hkk,hg,rfl,BW,AF⟩ := hrel
  by_cases hlt : kk < n
  ·have hltz : (kk : Int) < (n : Int) := by omega
   obtain ⟨ad,e0,hx0⟩ := Kd.at_int HR0.out (kk : Int) (by omega) (by omega);cases e0;simp only [Int.toNat_natCast] at hx0;(try rw [show ((Kd.int .i64)).sz = 1 from rfl,Nat.mul_one,Nat.add_zero] at hx0);replace hx0 := (BW.out.cell (World.block_lt_of_cell? w _ hx0)).trans hx0
   have hm : l0[kk]? = some (rd l0 (kk : Int)) := by
    have h1 : kk < l0.length := by rw [Hn.out];exact hlt
    simp [rd,List.getD_eq_getElem?_getD,List.getElem?_eq_getElem h1]
   have hcall := HP.out wr BW.out (rd l0 (kk : Int)) (List.mem_of_getElem? hm);generalize hy : rd l0 (kk : Int) = y at *;clear hy;have HM := Aside0.mk hm;clear hm
   cases hq : p y with
   | true =>
    rw [hq] at hcall;have HQ := Aside0.mk hq;clear hq
    go_wp2_with (go_at_fn g;refine hcall.mono ?_;rintro e w' ⟨rfl,hb'⟩)
    go_ret
    refine ⟨?_,hb'⟩;rw [idxP_hit HM.out HQ.out AF.out];rfl
   | false =>
    rw [hq] at hcall;have HQ := Aside0.mk hq;clear hq
    go_wp2_with (go_at_fn g;refine hcall.mono ?_;rintro e w' ⟨rfl,hb'⟩)
    go_roundg (n - (kk + 1))
    case measure => omega
    case rel =>
     refine ⟨kk + 1,by omega,by omega,by go_num,⟨hb'⟩,⟨fun j x hj hx => ?_⟩⟩
     by_cases e : j = kk
     ·subst e;rw [HM.out] at hx;cases hx;exact HQ.out
     ·exact AF.out j x (by omega) hx
  ·have hltz : ¬ (kk : Int) < (n : Int) := by omega
   have : kk = n := by omega
   subst this
   go_wp2
   go_ret
   refine ⟨?_,BW.out⟩
   rw [idxP_miss (fun x hx => by
    obtain ⟨j,hj,rfl⟩ := List.mem_iff_getElem.1 hx
    exact AF.out j _ (by rw [← Hn.out];exact hj) (List.getElem?_eq_getElem hj))]
   rfl
end Go.Proofs.YtmcfbnglocojkaaDoor.G
end

section
namespace Go.Proofs.YtmcfbnglocojkaaDoor.G
open Go.RowKit Go.Proofs.YtmcfbnglocojkaaDoorW.PrintWords Go.Proofs.YtmcfbnglocojkaaDoorW.PrintLast Go.Proofs.YtmcfbnglocojkaaDoorW.PrintMore
attribute [local go_sem] max2_int min2_int max_two min_two max_three min_three max_four min_four
set_option linter.unusedVariables false
set_option linter.unusedSimpArgs false
theorem impl_Log_up.test (b1 b2 : Nat) (A0 : Option Addr) (c0 : Nat) (l0 : List (S34)) (x : S34) (n : Int) (m : Nat) (w : World) (h1 : w.heap[b1]? = some (.cells #[.slice A0 m c0] 23 (0,0))) (h2 : w.heap[b2]? = some (.cells #[.int .i64 x.f0,.int .i64 x.f1,.bool x.f2] 34 (0,0)))
  (hr0 : Kd.C k34 w A0 m l0) (h0 : 0 ≤ n) (hn : n < (m : Int)) :
  Calls Tryd.prog 52 (#[.int .i64 n] ++ #[.pointer (some ⟨b1,0,none⟩),.pointer (some ⟨b2,0,none⟩)]) w fun e w' => e = .returned (.bool ((rd_T34 l0 n).f1 == x.f1)) ∧ Below w.heap.size w w' := by
 rw [show (#[.int .i64 n] ++ #[.pointer (some ⟨b1,0,none⟩),.pointer (some ⟨b2,0,none⟩)] : Array Value) = #[.int .i64 n,.pointer (some ⟨b1,0,none⟩),.pointer (some ⟨b2,0,none⟩)] from rfl];obtain ⟨ad,e0,hx0,hx1,hx2⟩ := at_T34 hr0 n h0 hn;cases e0;have c1 : w.cell? ⟨b1,0,none⟩ = some (.slice (some ad) m c0) := (blk_cell h1 0).trans rfl;have c2 : w.cell? ⟨b2,1,none⟩ = some (.int .i64 x.f1) := (blk_cell h2 1).trans rfl;clear h1 h2 hr0 hx0 hx2;replace h0 := eq_true h0;replace hn := eq_true hn;generalize rd_T34 l0 n = y at *
 go_enter Tryd.func52,Tryd.ntmps52
 go_wp2
 go_region
 rename_i hK
 refine hK _ _ ?_
 go_wp2
 go_ret
 exact ⟨rfl,below_drew1 (Below.refl _ _)⟩
theorem impl_Log_up.within (n lo hi : Int) : impl_within.f n lo hi = some (decide (lo ≤ n) && decide (n ≤ hi)) := by
 unfold impl_within.f
 split <;> simp [*]
theorem impl_Log_up.stored {w W : World} {gb1 gb2 : Nat} {c1 : Value} {u : Nat → Prop} {v : Value} {out : List Int} (a b : Value) (d : Value) (HO : Kd.R (Kd.int .i64) 3 W w.heap.size u v out) (HB : Below w.heap.size w W) (BK1 : W.heap[gb1]? = some (.cells #[c1] 23 (0,0)))
  (BK2 : W.heap[gb2]? = some (.cells #[.int .i64 0,.int .i64 0,.bool false] 34 (0,0))) (GE : w.heap.size ≤ gb2) :
  Kd.R (Kd.int .i64) 3 (((W.setCell ⟨gb2,0,none⟩ a).setCell ⟨gb2,1,none⟩ b).setCell ⟨gb2,2,none⟩ d) w.heap.size u v out ∧ Below w.heap.size w (((W.setCell ⟨gb2,0,none⟩ a).setCell ⟨gb2,1,none⟩ b).setCell ⟨gb2,2,none⟩ d) ∧
  (((W.setCell ⟨gb2,0,none⟩ a).setCell ⟨gb2,1,none⟩ b).setCell ⟨gb2,2,none⟩ d).heap[gb1]? = some (.cells #[c1] 23 (0,0)) ∧
  (((W.setCell ⟨gb2,0,none⟩ a).setCell ⟨gb2,1,none⟩ b).setCell ⟨gb2,2,none⟩ d).heap[gb2]? = some (.cells #[a,b,d] 34 (0,0)) := by
 have hne := blk_ne BK1 BK2 (by decide);refine ⟨Kd.R_mono (Kd.R_far (p := ⟨gb2,2,none⟩) (Kd.R_far (p := ⟨gb2,1,none⟩) (Kd.R_far (p := ⟨gb2,0,none⟩) (Kd.R_types HO BK2 (by decide)) (fun _ hk => hk.2) a) (fun _ hk => hk.2) b) (fun _ hk => hk.2) d) (fun _ h => h.1),below_set (below_set (below_set HB GE) GE) GE,blk_far (blk_far (blk_far BK1 hne _) hne _) hne _,?_⟩;exact blk_put (cs := #[a,b,.bool false]) (blk_put (cs := #[a,.int .i64 0,.bool false]) (blk_put (cs := #[.int .i64 0,.int .i64 0,.bool false]) BK2 0 _ rfl) 1 _ rfl) 2 _ rfl
theorem impl_Log_up.idx_lt {α : Type} (p : α → Bool) (l : List α) : idxP p l < (l.length : Int) ∧ -1 ≤ idxP p l := by
 unfold idxP
 cases e : l.findIdx? p with
 | none => simp only;omega
 | some i =>
  rw [List.findIdx?_eq_some_iff_getElem] at e;obtain ⟨h,_⟩ := e;simp only
  omega
def impl_Log_up.good (b : Int) (x : S34) : Bool := (decide (b ≤ x.f0) && decide (x.f0 ≤ 100000)) && (decide (0 ≤ x.f1) && decide (x.f1 ≤ 9999))
def impl_Log_up.at (l : List (S34)) (x : S34) (out : List Int) : Int := idxP (fun n => (rd_T34 l n).f1 == x.f1) out
def impl_Log_up.step (l : List (S34)) (i : Nat) (s : Int × List Int) : Option (Int × List Int) :=
 if impl_Log_up.good s.1 (rd_T34 l (i : Int)) = false then none else
 if decide (impl_Log_up.at l (rd_T34 l (i : Int)) s.2 < 0) = (rd_T34 l (i : Int)).f2 then none else
 if (rd_T34 l (i : Int)).f2 = true then some ((rd_T34 l (i : Int)).f0,s.2.eraseIdx (impl_Log_up.at l (rd_T34 l (i : Int)) s.2).toNat) else some ((rd_T34 l (i : Int)).f0,s.2 ++ [(i : Int)])
def impl_Log_up.to (l : List (S34)) : Nat → Option (Int × List Int)
 | 0 => some (0,[])
 | n + 1 => (impl_Log_up.to l n).bind (impl_Log_up.step l n)
theorem impl_Log_up.to_none {l : List (S34)} {i n : Nat} (h : impl_Log_up.to l i = none) (hi : i ≤ n) : impl_Log_up.to l n = none := by
 induction n with
 | zero =>
  obtain rfl : i = 0 := by omega
  exact h
 | succ n ih =>
  rcases Nat.lt_or_ge i (n + 1) with h1 | h1
  ·rw [impl_Log_up.to,ih (by omega)];rfl
  ·obtain rfl : i = n + 1 := by omega
   exact h
theorem impl_Log_up.to_in {l : List (S34)} {n : Nat} {s : Int × List Int} (h : impl_Log_up.to l n = some s) : s.2.length ≤ n ∧ ∀ x ∈ s.2,0 ≤ x ∧ x < (n : Int) := by
 induction n generalizing s with
 | zero =>
  cases h
  simp
 | succ n ih =>
  rw [impl_Log_up.to] at h;obtain ⟨s0,h0,h1⟩ := Option.bind_eq_some_iff.1 h;obtain ⟨i1,i2⟩ := ih h0
  unfold impl_Log_up.step at h1
  split at h1
  ·cases h1
  ·split at h1
   ·cases h1
   ·split at h1
    ·cases h1;refine ⟨?_,fun x hx => ?_⟩
     ·have := List.length_eraseIdx_le (l := s0.2) (i := (impl_Log_up.at l (rd_T34 l (n : Int)) s0.2).toNat);simp only
      omega
     ·have := i2 x (List.mem_of_mem_eraseIdx hx)
      omega
    ·cases h1;refine ⟨by simp;omega,fun x hx => ?_⟩;simp only [List.mem_append,List.mem_singleton] at hx
     rcases hx with hx | rfl
     ·have := i2 x hx
      omega
     ·omega
def impl_Log_up.f (l0 : List (S34)) : Option (List Int × Bool) := if l0.length ≤ 1048576 then some (match impl_Log_up.to l0 l0.length with | none => ([],false) | some s => (s.2,decide ((l0.length : Int) ≤ 60))) else none
set_option maxHeartbeats 8000000 in
set_option maxRecDepth 100000 in
theorem impl_Log_up.calls (A0 : Option Addr) (c0 : Nat) (l0 : List (S34)) (r1 : List Int) (r2 : Bool) (w : World) (hr0 : Kd.C k34 w A0 l0.length l0) (hc0 : l0.length ≤ c0) (h : impl_Log_up.f l0 = some (r1,r2)) :
  Calls Tryd.prog 38 #[.slice A0 l0.length c0] w fun e w' => ∃ v0_ : Value,e = .returned (.tuple #[v0_,.bool r2]) ∧ Kd.R (Kd.int .i64) 3 w' w.heap.size (fun _ => True) v0_ r1 ∧ Below w.heap.size w w' := by
 unfold impl_Log_up.f at h
 by_cases hL : l0.length ≤ 1048576
 ·rw [if_pos hL] at h;have h := Option.some.inj h;have hu := Tryd.underlying34;have eg := enters_of Tryd.func52 (by kernel_rfl) rfl;have HR0 := Aside0.mk hr0;have HC0 := Aside0.mk hc0;have HB := Aside0.mk (Below.refl w.heap.size w);have HH := Aside0.mk h;have HLn := Aside0.mk hL;clear hr0 h hL;generalize hn : l0.length = n at *;have Hn := Aside0.mk hn;clear hn
  go_enter Tryd.func38,Tryd.ntmps38
  go_wp2_with ((with_reducible refine gate_dst (N := 9) rfl ?_);refine Kd.R_lit (Kd.int .i64) _ 3 ?hg (N := 9) ?hd (xs := ([] : List Int)) (inner := []) (ok := fun k_ => k_ ≠ w.heap.size) (okp := fun k_ => k_ ≠ w.heap.size) ?hr ?hp (fun _ hk => hk) (by simp) (Below.refl _ _) (Nat.le_refl _) (by simp) ?_;(case hd => rfl);(case hg => rfl);(case hr => first | (go_simp;done) | (go_simp;rfl));(case hp => exact (Reps.none _ _));intro v1 w1 ho1 hb1 hg_ hnew_;clear hg_ hnew_;have HO1 := Aside0.mk (Kd.R_lower ho1 (by simp : w.heap.size ≤ _));have HB1 := Aside0.mk (below_step (below_alloc (Below.refl _ w) _) hb1);have BK1 := Aside0.mk (blk_below (blk_new w _) hb1);clear ho1 hb1;have hz1 : w1.cell? ⟨w.heap.size,0,none⟩ = some (.slice A0 n c0) := (blk_cell BK1.out 0).trans rfl)
  go_loopg [4,5,12] n (fun gg s4 s5 s12 wr => ∃ (kk : Nat) (b : Int) (out : List Int),kk ≤ n ∧ n - kk ≤ gg ∧ s12 = .int .i64 kk ∧ s5 = .int .i64 b ∧ Aside0 (impl_Log_up.to l0 kk = some (b,out)) ∧ Aside0 (Kd.R (Kd.int .i64) 3 wr w.heap.size (fun k_ => k_ ≠ w.heap.size) s4 out) ∧ Aside0 (Below w.heap.size w wr) ∧ Aside0 (wr.heap[w.heap.size]? = some (.cells #[.slice A0 n c0] 23 (0,0))))
  case atStart => exact ⟨0,0,[],Nat.zero_le _,by omega,rfl,rfl,⟨rfl⟩,HO1,HB1,BK1⟩
  case round =>
   obtain ⟨kk,b,out,hkk,hg,rfl,rfl,HT,HO,HB2,BK⟩ := hrel;obtain ⟨Ao,co,rfl⟩ := Kd.R_slice HO.out
   by_cases hlt : kk < n
   ·have hltz : (kk : Int) < (n : Int) := by omega
    obtain ⟨ad,e0,hx0,hx1,hx2⟩ := at_T34 HR0.out (kk : Int) (by omega) (by omega);cases e0;simp only [Int.toNat_natCast] at hx0 hx1 hx2;replace hx0 := (HB2.out.cell (World.block_lt_of_cell? w _ hx0)).trans hx0;replace hx1 := (HB2.out.cell (World.block_lt_of_cell? w _ hx1)).trans hx1;replace hx2 := (HB2.out.cell (World.block_lt_of_cell? w _ hx2)).trans hx2;have HS : Aside0 (impl_Log_up.to l0 (kk + 1) = impl_Log_up.step l0 kk (b,out)) := ⟨by rw [impl_Log_up.to,HT.out];rfl⟩;have HI := Aside0.mk (impl_Log_up.to_in HT.out);generalize hx : rd_T34 l0 (kk : Int) = x at *;have HX := Aside0.mk hx;have HW1 := Aside0.mk (impl_Log_up.within x.f0 b 100000);have HW2 := Aside0.mk (impl_Log_up.within x.f1 0 9999);have HR2 := Aside0.mk (Kd.C_below HR0.out HB2.out)
    have hfail : Aside0 (impl_Log_up.to l0 (kk + 1) = none → r1 = [] ∧ r2 = false) := ⟨fun h0 => by
     have := HH.out;rw [impl_Log_up.to_none h0 (by omega)] at this;simp only [Prod.mk.injEq] at this
     exact ⟨this.1.symm,this.2.symm⟩⟩
    clear hx
    cases hb1 : (decide (b ≤ x.f0) && decide (x.f0 ≤ 100000)) with
    | false =>
     rw [hb1] at HW1;have h0 := hfail.out (by rw [HS.out];simp only [impl_Log_up.step,HX.out];rw [if_pos (by simp only [impl_Log_up.good];rw [hb1];rfl)]);obtain ⟨rfl,rfl⟩ := h0;clear hb1
     go_wp2_with (first | ((with_reducible refine gate_dst (N := 7) rfl ?_);refine box_event ?hg (N := 7) ?hd (cs := #[.int .i64 0,.int .i64 0,.bool false]) (t := 34) ?hr ?_;(case hd => rfl);(case hg => rfl);(case hr => first | (go_simp;done) | (go_simp;rfl));intro gb2 hg2 w8 hbox hb8;have HO8 := Aside0.mk (Kd.R_below HO.out hb8);have HB8 := Aside0.mk (below_step HB2.out hb8);have BK8 := Aside0.mk (blk_below BK.out hb8);have BE8 := Aside0.mk hbox;have GE8 := Aside0.mk (show w.heap.size ≤ gb2 by rw [hg2];exact HB2.out.size);have ST8 := Aside0.mk (impl_Log_up.stored (.int .i64 x.f0) (.int .i64 x.f1) (.bool x.f2) HO8.out HB8.out BK8.out BE8.out GE8.out);have hcz0 : w8.cell? ⟨gb2,0,none⟩ = some (.int .i64 0) := (blk_cell BE8.out 0).trans rfl;have hcz1 : w8.cell? ⟨gb2,1,none⟩ = some (.int .i64 0) := (blk_cell BE8.out 1).trans rfl;have hcz2 : w8.cell? ⟨gb2,2,none⟩ = some (.bool false) := (blk_cell BE8.out 2).trans rfl;have hfz0 := blk_frozen BE8.out 0;have hfz1 := blk_frozen BE8.out 1;have hfz2 := blk_frozen BE8.out 2;clear hb8 hbox hg2) | (go_at_call 26;(with_reducible refine (impl_within.calls _ _ _ _ _ HW1.out).mono ?_);rintro e w9 ⟨rfl,hd9⟩;have HB9 := Aside0.mk (below_step ST8.out.2.1 hd9.below);have HO9 := Aside0.mk (Kd.R_below ST8.out.1 hd9.below);have BK9 := Aside0.mk (blk_below ST8.out.2.2.1 hd9.below);have BE9 := Aside0.mk (blk_below ST8.out.2.2.2 hd9.below);have hc0 : w9.cell? ⟨gb2,0,none⟩ = some (.int .i64 x.f0) := (blk_cell BE9.out 0).trans rfl;have hc1 : w9.cell? ⟨gb2,1,none⟩ = some (.int .i64 x.f1) := (blk_cell BE9.out 1).trans rfl;have hc2 : w9.cell? ⟨gb2,2,none⟩ = some (.bool x.f2) := (blk_cell BE9.out 2).trans rfl;clear hd9))
     go_ret2
     exact ⟨_,rfl,Kd.R_nil _ _ _ _ _,HB9.out⟩
    | true =>
     rw [hb1] at HW1
     cases hb2 : (decide (0 ≤ x.f1) && decide (x.f1 ≤ 9999)) with
     | false =>
      rw [hb2] at HW2;have h0 := hfail.out (by rw [HS.out];simp only [impl_Log_up.step,HX.out];rw [if_pos (by simp only [impl_Log_up.good];rw [hb1,hb2];rfl)]);obtain ⟨rfl,rfl⟩ := h0;clear hb1 hb2
      go_wp2_with (first | ((with_reducible refine gate_dst (N := 7) rfl ?_);refine box_event ?hg (N := 7) ?hd (cs := #[.int .i64 0,.int .i64 0,.bool false]) (t := 34) ?hr ?_;(case hd => rfl);(case hg => rfl);(case hr => first | (go_simp;done) | (go_simp;rfl));intro gb2 hg2 w8 hbox hb8;have HO8 := Aside0.mk (Kd.R_below HO.out hb8);have HB8 := Aside0.mk (below_step HB2.out hb8);have BK8 := Aside0.mk (blk_below BK.out hb8);have BE8 := Aside0.mk hbox;have GE8 := Aside0.mk (show w.heap.size ≤ gb2 by rw [hg2];exact HB2.out.size);have ST8 := Aside0.mk (impl_Log_up.stored (.int .i64 x.f0) (.int .i64 x.f1) (.bool x.f2) HO8.out HB8.out BK8.out BE8.out GE8.out);have hcz0 : w8.cell? ⟨gb2,0,none⟩ = some (.int .i64 0) := (blk_cell BE8.out 0).trans rfl;have hcz1 : w8.cell? ⟨gb2,1,none⟩ = some (.int .i64 0) := (blk_cell BE8.out 1).trans rfl;have hcz2 : w8.cell? ⟨gb2,2,none⟩ = some (.bool false) := (blk_cell BE8.out 2).trans rfl;have hfz0 := blk_frozen BE8.out 0;have hfz1 := blk_frozen BE8.out 1;have hfz2 := blk_frozen BE8.out 2;clear hb8 hbox hg2) | (go_at_call 26;(with_reducible refine (impl_within.calls _ _ _ _ _ HW1.out).mono ?_);rintro e w9 ⟨rfl,hd9⟩;have HB9 := Aside0.mk (below_step ST8.out.2.1 hd9.below);have HO9 := Aside0.mk (Kd.R_below ST8.out.1 hd9.below);have BK9 := Aside0.mk (blk_below ST8.out.2.2.1 hd9.below);have BE9 := Aside0.mk (blk_below ST8.out.2.2.2 hd9.below);have hc0 : w9.cell? ⟨gb2,0,none⟩ = some (.int .i64 x.f0) := (blk_cell BE9.out 0).trans rfl;have hc1 : w9.cell? ⟨gb2,1,none⟩ = some (.int .i64 x.f1) := (blk_cell BE9.out 1).trans rfl;have hc2 : w9.cell? ⟨gb2,2,none⟩ = some (.bool x.f2) := (blk_cell BE9.out 2).trans rfl;clear hd9) | (go_at_call 26;(with_reducible refine (impl_within.calls _ _ _ _ _ HW2.out).mono ?_);rintro e w10 ⟨rfl,hd10⟩;have HB10 := Aside0.mk (below_step HB9.out hd10.below);have HO10 := Aside0.mk (Kd.R_below HO9.out hd10.below);have BK10 := Aside0.mk (blk_below BK9.out hd10.below);have BE10 := Aside0.mk (blk_below BE9.out hd10.below);have hd0 : w10.cell? ⟨gb2,0,none⟩ = some (.int .i64 x.f0) := (blk_cell BE10.out 0).trans rfl;have hd1 : w10.cell? ⟨gb2,1,none⟩ = some (.int .i64 x.f1) := (blk_cell BE10.out 1).trans rfl;have hd2 : w10.cell? ⟨gb2,2,none⟩ = some (.bool x.f2) := (blk_cell BE10.out 2).trans rfl;clear hd10))
      go_ret2
      exact ⟨_,rfl,Kd.R_nil _ _ _ _ _,HB10.out⟩
     | true =>
      rw [hb2] at HW2;have HKA : Aside0 (idxP (fun n => (rd_T34 l0 n).f1 == x.f1) out = impl_Log_up.at l0 x out) := ⟨rfl⟩;have hkb := impl_Log_up.idx_lt (fun n => (rd_T34 l0 n).f1 == x.f1) out;rw [HKA.out] at hkb;have HG : Aside0 (impl_Log_up.good b x = true) := ⟨by simp only [impl_Log_up.good];rw [hb1,hb2];rfl⟩
      have HS2 : Aside0 (impl_Log_up.to l0 (kk + 1) = if decide (impl_Log_up.at l0 x out < 0) = x.f2 then none else if x.f2 = true then some (x.f0,out.eraseIdx (impl_Log_up.at l0 x out).toNat) else some (x.f0,out ++ [(kk : Int)])) := ⟨by
       rw [HS.out];simp only [impl_Log_up.step,HX.out,HG.out]
       rfl⟩
      generalize impl_Log_up.at l0 x out = ka at *;have hkl := HI.out.1;simp only at hkl
      have hka1 : wrap64 (ka + 1) = ka + 1 := by have := HLn.out;unfold wrap64;omega
      have hka2 : IntKind.i64.wrap (ka + 1) = ka + 1 := by have := hka1;unfold wrap64 at this;rw [IntKind.wrap_i64];exact this
      clear hb1 hb2
      by_cases hneg : ka < 0
      ·have hd : decide (ka < 0) = true := decide_eq_true hneg
       cases hf2 : x.f2 with
       | true =>
        have HF2 := Aside0.mk hf2;have h0 := hfail.out (by rw [HS2.out,hd,hf2];rfl);obtain ⟨rfl,rfl⟩ := h0;clear hf2
        go_wp2_with (first | ((with_reducible refine gate_dst (N := 7) rfl ?_);refine box_event ?hg (N := 7) ?hd (cs := #[.int .i64 0,.int .i64 0,.bool false]) (t := 34) ?hr ?_;(case hd => rfl);(case hg => rfl);(case hr => first | (go_simp;done) | (go_simp;rfl));intro gb2 hg2 w8 hbox hb8;have HO8 := Aside0.mk (Kd.R_below HO.out hb8);have HB8 := Aside0.mk (below_step HB2.out hb8);have BK8 := Aside0.mk (blk_below BK.out hb8);have BE8 := Aside0.mk hbox;have GE8 := Aside0.mk (show w.heap.size ≤ gb2 by rw [hg2];exact HB2.out.size);have ST8 := Aside0.mk (impl_Log_up.stored (.int .i64 x.f0) (.int .i64 x.f1) (.bool x.f2) HO8.out HB8.out BK8.out BE8.out GE8.out);have hcz0 : w8.cell? ⟨gb2,0,none⟩ = some (.int .i64 0) := (blk_cell BE8.out 0).trans rfl;have hcz1 : w8.cell? ⟨gb2,1,none⟩ = some (.int .i64 0) := (blk_cell BE8.out 1).trans rfl;have hcz2 : w8.cell? ⟨gb2,2,none⟩ = some (.bool false) := (blk_cell BE8.out 2).trans rfl;have hfz0 := blk_frozen BE8.out 0;have hfz1 := blk_frozen BE8.out 1;have hfz2 := blk_frozen BE8.out 2;clear hb8 hbox hg2) | (go_at_call 26;(with_reducible refine (impl_within.calls _ _ _ _ _ HW1.out).mono ?_);rintro e w9 ⟨rfl,hd9⟩;have HB9 := Aside0.mk (below_step ST8.out.2.1 hd9.below);have HO9 := Aside0.mk (Kd.R_below ST8.out.1 hd9.below);have BK9 := Aside0.mk (blk_below ST8.out.2.2.1 hd9.below);have BE9 := Aside0.mk (blk_below ST8.out.2.2.2 hd9.below);have hc0 : w9.cell? ⟨gb2,0,none⟩ = some (.int .i64 x.f0) := (blk_cell BE9.out 0).trans rfl;have hc1 : w9.cell? ⟨gb2,1,none⟩ = some (.int .i64 x.f1) := (blk_cell BE9.out 1).trans rfl;have hc2 : w9.cell? ⟨gb2,2,none⟩ = some (.bool x.f2) := (blk_cell BE9.out 2).trans rfl;clear hd9) | (go_at_call 26;(with_reducible refine (impl_within.calls _ _ _ _ _ HW2.out).mono ?_);rintro e w10 ⟨rfl,hd10⟩;have HB10 := Aside0.mk (below_step HB9.out hd10.below);have HO10 := Aside0.mk (Kd.R_below HO9.out hd10.below);have BK10 := Aside0.mk (blk_below BK9.out hd10.below);have BE10 := Aside0.mk (blk_below BE9.out hd10.below);have hd0 : w10.cell? ⟨gb2,0,none⟩ = some (.int .i64 x.f0) := (blk_cell BE10.out 0).trans rfl;have hd1 : w10.cell? ⟨gb2,1,none⟩ = some (.int .i64 x.f1) := (blk_cell BE10.out 1).trans rfl;have hd2 : w10.cell? ⟨gb2,2,none⟩ = some (.bool x.f2) := (blk_cell BE10.out 2).trans rfl;clear hd10) | (go_at_call 51;refine (slices_IndexFunc_int_int.calls Ao co out _ #[.pointer (some ⟨w.heap.size,0,none⟩),.pointer (some ⟨gb2,0,none⟩)] eg (fun n => (rd_T34 l0 n).f1 == x.f1) _ (Kd.R_reads' HO10.out).2.2 (Kd.R_reads' HO10.out).2.1 (fun W hW m hm => (impl_Log_up.test _ _ _ c0 l0 x m n W (blk_below BK10.out hW) (blk_below BE10.out hW) (Kd.C_below (Kd.C_below HR0.out HB10.out) hW) (HI.out.2 m hm).1 (by have := (HI.out.2 m hm).2;omega)).mono (fun _ _ h => ⟨h.1,below_then hW hW.size h.2⟩))).mono ?_;rintro e w11 ⟨he11,hb11⟩;rw [HKA.out] at he11;subst he11;have HB11 := Aside0.mk (below_step HB10.out hb11);have HO11 := Aside0.mk (Kd.R_below HO10.out hb11);have BK11 := Aside0.mk (blk_below BK10.out hb11);have BE11 := Aside0.mk (blk_below BE10.out hb11);have he2 : w11.cell? ⟨gb2,2,none⟩ = some (.bool x.f2) := (blk_cell BE11.out 2).trans rfl;rw [HF2.out] at he2;clear hb11))
        go_ret2
        exact ⟨_,rfl,Kd.R_nil _ _ _ _ _,HB11.out⟩
       | false =>
        have HF2 := Aside0.mk hf2;clear hf2
        go_wp2_with (first | ((with_reducible refine gate_dst (N := 7) rfl ?_);refine box_event ?hg (N := 7) ?hd (cs := #[.int .i64 0,.int .i64 0,.bool false]) (t := 34) ?hr ?_;(case hd => rfl);(case hg => rfl);(case hr => first | (go_simp;done) | (go_simp;rfl));intro gb2 hg2 w8 hbox hb8;have HO8 := Aside0.mk (Kd.R_below HO.out hb8);have HB8 := Aside0.mk (below_step HB2.out hb8);have BK8 := Aside0.mk (blk_below BK.out hb8);have BE8 := Aside0.mk hbox;have GE8 := Aside0.mk (show w.heap.size ≤ gb2 by rw [hg2];exact HB2.out.size);have ST8 := Aside0.mk (impl_Log_up.stored (.int .i64 x.f0) (.int .i64 x.f1) (.bool x.f2) HO8.out HB8.out BK8.out BE8.out GE8.out);have hcz0 : w8.cell? ⟨gb2,0,none⟩ = some (.int .i64 0) := (blk_cell BE8.out 0).trans rfl;have hcz1 : w8.cell? ⟨gb2,1,none⟩ = some (.int .i64 0) := (blk_cell BE8.out 1).trans rfl;have hcz2 : w8.cell? ⟨gb2,2,none⟩ = some (.bool false) := (blk_cell BE8.out 2).trans rfl;have hfz0 := blk_frozen BE8.out 0;have hfz1 := blk_frozen BE8.out 1;have hfz2 := blk_frozen BE8.out 2;clear hb8 hbox hg2) | (go_at_call 26;(with_reducible refine (impl_within.calls _ _ _ _ _ HW1.out).mono ?_);rintro e w9 ⟨rfl,hd9⟩;have HB9 := Aside0.mk (below_step ST8.out.2.1 hd9.below);have HO9 := Aside0.mk (Kd.R_below ST8.out.1 hd9.below);have BK9 := Aside0.mk (blk_below ST8.out.2.2.1 hd9.below);have BE9 := Aside0.mk (blk_below ST8.out.2.2.2 hd9.below);have hc0 : w9.cell? ⟨gb2,0,none⟩ = some (.int .i64 x.f0) := (blk_cell BE9.out 0).trans rfl;have hc1 : w9.cell? ⟨gb2,1,none⟩ = some (.int .i64 x.f1) := (blk_cell BE9.out 1).trans rfl;have hc2 : w9.cell? ⟨gb2,2,none⟩ = some (.bool x.f2) := (blk_cell BE9.out 2).trans rfl;clear hd9) | (go_at_call 26;(with_reducible refine (impl_within.calls _ _ _ _ _ HW2.out).mono ?_);rintro e w10 ⟨rfl,hd10⟩;have HB10 := Aside0.mk (below_step HB9.out hd10.below);have HO10 := Aside0.mk (Kd.R_below HO9.out hd10.below);have BK10 := Aside0.mk (blk_below BK9.out hd10.below);have BE10 := Aside0.mk (blk_below BE9.out hd10.below);have hd0 : w10.cell? ⟨gb2,0,none⟩ = some (.int .i64 x.f0) := (blk_cell BE10.out 0).trans rfl;have hd1 : w10.cell? ⟨gb2,1,none⟩ = some (.int .i64 x.f1) := (blk_cell BE10.out 1).trans rfl;have hd2 : w10.cell? ⟨gb2,2,none⟩ = some (.bool x.f2) := (blk_cell BE10.out 2).trans rfl;clear hd10) | (go_at_call 51;refine (slices_IndexFunc_int_int.calls Ao co out _ #[.pointer (some ⟨w.heap.size,0,none⟩),.pointer (some ⟨gb2,0,none⟩)] eg (fun n => (rd_T34 l0 n).f1 == x.f1) _ (Kd.R_reads' HO10.out).2.2 (Kd.R_reads' HO10.out).2.1 (fun W hW m hm => (impl_Log_up.test _ _ _ c0 l0 x m n W (blk_below BK10.out hW) (blk_below BE10.out hW) (Kd.C_below (Kd.C_below HR0.out HB10.out) hW) (HI.out.2 m hm).1 (by have := (HI.out.2 m hm).2;omega)).mono (fun _ _ h => ⟨h.1,below_then hW hW.size h.2⟩))).mono ?_;rintro e w11 ⟨he11,hb11⟩;rw [HKA.out] at he11;subst he11;have HB11 := Aside0.mk (below_step HB10.out hb11);have HO11 := Aside0.mk (Kd.R_below HO10.out hb11);have BK11 := Aside0.mk (blk_below BK10.out hb11);have BE11 := Aside0.mk (blk_below BE10.out hb11);have he2 : w11.cell? ⟨gb2,2,none⟩ = some (.bool x.f2) := (blk_cell BE11.out 2).trans rfl;rw [HF2.out] at he2;clear hb11) | ((with_reducible refine gate_builtin (b := .append) (xs := #[.tmp 33,.tmp 35]) rfl ?_);at_builtin;refine Kd.R_append (Kd.int .i64) (w0 := w) w.heap.size rfl (.tmp 33) (.tmp 35) 45 3 (.int .i64 0) 8 rfl Tryd.underlying45 info3 rfl (by decide) (by omega) _ out (kk : Int) [.int .i64 (kk : Int)] (fun k_ => k_ ≠ w.heap.size) (fun _ => False) rfl (by first | (go_simp;done) | (go_simp;rfl)) ?aP (fun _ hk => hk.elim) ?aF ?aO ?aB ?aS ?aL ?_;(case aP => exact rfl);(case aB => exact HB11.out);(case aF => exact (fun k_ hk => by have := blk_lt BK11.out;omega));(case aO => exact HO11.out);(case aS => exact HB11.out.size);(case aL => have := HLn.out;omega);intro v12 w12 ho12 hb12 hg12 hat12;have HB12 := Aside0.mk hb12;have HO12 := Aside0.mk ho12;have BK12 := Aside0.mk (blk_grown BK11.out hg12 (fun e => HO11.out.1 _ e.symm rfl));clear ho12 hb12 hg12 hat12))
        go_roundg (n - (kk + 1))
        case measure => omega
        case rel => have := HLn.out;exact ⟨kk + 1,x.f0,out ++ [(kk : Int)],by omega,by omega,by rw [show ((kk + 1 : Nat) : Int) = wrap64 ((kk : Int) + 1) from by unfold wrap64;omega],rfl,⟨by rw [HS2.out,hd,HF2.out];rfl⟩,HO12,HB12,BK12⟩
      ·have hd : decide (ka < 0) = false := decide_eq_false hneg
       cases hf2 : x.f2 with
       | false =>
        have HF2 := Aside0.mk hf2;have h0 := hfail.out (by rw [HS2.out,hd,hf2];rfl);obtain ⟨rfl,rfl⟩ := h0;clear hf2
        go_wp2_with (first | ((with_reducible refine gate_dst (N := 7) rfl ?_);refine box_event ?hg (N := 7) ?hd (cs := #[.int .i64 0,.int .i64 0,.bool false]) (t := 34) ?hr ?_;(case hd => rfl);(case hg => rfl);(case hr => first | (go_simp;done) | (go_simp;rfl));intro gb2 hg2 w8 hbox hb8;have HO8 := Aside0.mk (Kd.R_below HO.out hb8);have HB8 := Aside0.mk (below_step HB2.out hb8);have BK8 := Aside0.mk (blk_below BK.out hb8);have BE8 := Aside0.mk hbox;have GE8 := Aside0.mk (show w.heap.size ≤ gb2 by rw [hg2];exact HB2.out.size);have ST8 := Aside0.mk (impl_Log_up.stored (.int .i64 x.f0) (.int .i64 x.f1) (.bool x.f2) HO8.out HB8.out BK8.out BE8.out GE8.out);have hcz0 : w8.cell? ⟨gb2,0,none⟩ = some (.int .i64 0) := (blk_cell BE8.out 0).trans rfl;have hcz1 : w8.cell? ⟨gb2,1,none⟩ = some (.int .i64 0) := (blk_cell BE8.out 1).trans rfl;have hcz2 : w8.cell? ⟨gb2,2,none⟩ = some (.bool false) := (blk_cell BE8.out 2).trans rfl;have hfz0 := blk_frozen BE8.out 0;have hfz1 := blk_frozen BE8.out 1;have hfz2 := blk_frozen BE8.out 2;clear hb8 hbox hg2) | (go_at_call 26;(with_reducible refine (impl_within.calls _ _ _ _ _ HW1.out).mono ?_);rintro e w9 ⟨rfl,hd9⟩;have HB9 := Aside0.mk (below_step ST8.out.2.1 hd9.below);have HO9 := Aside0.mk (Kd.R_below ST8.out.1 hd9.below);have BK9 := Aside0.mk (blk_below ST8.out.2.2.1 hd9.below);have BE9 := Aside0.mk (blk_below ST8.out.2.2.2 hd9.below);have hc0 : w9.cell? ⟨gb2,0,none⟩ = some (.int .i64 x.f0) := (blk_cell BE9.out 0).trans rfl;have hc1 : w9.cell? ⟨gb2,1,none⟩ = some (.int .i64 x.f1) := (blk_cell BE9.out 1).trans rfl;have hc2 : w9.cell? ⟨gb2,2,none⟩ = some (.bool x.f2) := (blk_cell BE9.out 2).trans rfl;clear hd9) | (go_at_call 26;(with_reducible refine (impl_within.calls _ _ _ _ _ HW2.out).mono ?_);rintro e w10 ⟨rfl,hd10⟩;have HB10 := Aside0.mk (below_step HB9.out hd10.below);have HO10 := Aside0.mk (Kd.R_below HO9.out hd10.below);have BK10 := Aside0.mk (blk_below BK9.out hd10.below);have BE10 := Aside0.mk (blk_below BE9.out hd10.below);have hd0 : w10.cell? ⟨gb2,0,none⟩ = some (.int .i64 x.f0) := (blk_cell BE10.out 0).trans rfl;have hd1 : w10.cell? ⟨gb2,1,none⟩ = some (.int .i64 x.f1) := (blk_cell BE10.out 1).trans rfl;have hd2 : w10.cell? ⟨gb2,2,none⟩ = some (.bool x.f2) := (blk_cell BE10.out 2).trans rfl;clear hd10) | (go_at_call 51;refine (slices_IndexFunc_int_int.calls Ao co out _ #[.pointer (some ⟨w.heap.size,0,none⟩),.pointer (some ⟨gb2,0,none⟩)] eg (fun n => (rd_T34 l0 n).f1 == x.f1) _ (Kd.R_reads' HO10.out).2.2 (Kd.R_reads' HO10.out).2.1 (fun W hW m hm => (impl_Log_up.test _ _ _ c0 l0 x m n W (blk_below BK10.out hW) (blk_below BE10.out hW) (Kd.C_below (Kd.C_below HR0.out HB10.out) hW) (HI.out.2 m hm).1 (by have := (HI.out.2 m hm).2;omega)).mono (fun _ _ h => ⟨h.1,below_then hW hW.size h.2⟩))).mono ?_;rintro e w11 ⟨he11,hb11⟩;rw [HKA.out] at he11;subst he11;have HB11 := Aside0.mk (below_step HB10.out hb11);have HO11 := Aside0.mk (Kd.R_below HO10.out hb11);have BK11 := Aside0.mk (blk_below BK10.out hb11);have BE11 := Aside0.mk (blk_below BE10.out hb11);have he2 : w11.cell? ⟨gb2,2,none⟩ = some (.bool x.f2) := (blk_cell BE11.out 2).trans rfl;rw [HF2.out] at he2;clear hb11))
        go_ret2
        exact ⟨_,rfl,Kd.R_nil _ _ _ _ _,HB11.out⟩
       | true =>
        have HF2 := Aside0.mk hf2;clear hf2;have HDE : Aside0 (slices_Delete_int_int.f out ka (ka + 1) = some (out.eraseIdx ka.toNat)) := ⟨by unfold slices_Delete_int_int.f;rw [if_pos ⟨by omega,by omega,rfl⟩]⟩
        go_wp2_with (first | ((with_reducible refine gate_dst (N := 7) rfl ?_);refine box_event ?hg (N := 7) ?hd (cs := #[.int .i64 0,.int .i64 0,.bool false]) (t := 34) ?hr ?_;(case hd => rfl);(case hg => rfl);(case hr => first | (go_simp;done) | (go_simp;rfl));intro gb2 hg2 w8 hbox hb8;have HO8 := Aside0.mk (Kd.R_below HO.out hb8);have HB8 := Aside0.mk (below_step HB2.out hb8);have BK8 := Aside0.mk (blk_below BK.out hb8);have BE8 := Aside0.mk hbox;have GE8 := Aside0.mk (show w.heap.size ≤ gb2 by rw [hg2];exact HB2.out.size);have ST8 := Aside0.mk (impl_Log_up.stored (.int .i64 x.f0) (.int .i64 x.f1) (.bool x.f2) HO8.out HB8.out BK8.out BE8.out GE8.out);have hcz0 : w8.cell? ⟨gb2,0,none⟩ = some (.int .i64 0) := (blk_cell BE8.out 0).trans rfl;have hcz1 : w8.cell? ⟨gb2,1,none⟩ = some (.int .i64 0) := (blk_cell BE8.out 1).trans rfl;have hcz2 : w8.cell? ⟨gb2,2,none⟩ = some (.bool false) := (blk_cell BE8.out 2).trans rfl;have hfz0 := blk_frozen BE8.out 0;have hfz1 := blk_frozen BE8.out 1;have hfz2 := blk_frozen BE8.out 2;clear hb8 hbox hg2) | (go_at_call 26;(with_reducible refine (impl_within.calls _ _ _ _ _ HW1.out).mono ?_);rintro e w9 ⟨rfl,hd9⟩;have HB9 := Aside0.mk (below_step ST8.out.2.1 hd9.below);have HO9 := Aside0.mk (Kd.R_below ST8.out.1 hd9.below);have BK9 := Aside0.mk (blk_below ST8.out.2.2.1 hd9.below);have BE9 := Aside0.mk (blk_below ST8.out.2.2.2 hd9.below);have hc0 : w9.cell? ⟨gb2,0,none⟩ = some (.int .i64 x.f0) := (blk_cell BE9.out 0).trans rfl;have hc1 : w9.cell? ⟨gb2,1,none⟩ = some (.int .i64 x.f1) := (blk_cell BE9.out 1).trans rfl;have hc2 : w9.cell? ⟨gb2,2,none⟩ = some (.bool x.f2) := (blk_cell BE9.out 2).trans rfl;clear hd9) | (go_at_call 26;(with_reducible refine (impl_within.calls _ _ _ _ _ HW2.out).mono ?_);rintro e w10 ⟨rfl,hd10⟩;have HB10 := Aside0.mk (below_step HB9.out hd10.below);have HO10 := Aside0.mk (Kd.R_below HO9.out hd10.below);have BK10 := Aside0.mk (blk_below BK9.out hd10.below);have BE10 := Aside0.mk (blk_below BE9.out hd10.below);have hd0 : w10.cell? ⟨gb2,0,none⟩ = some (.int .i64 x.f0) := (blk_cell BE10.out 0).trans rfl;have hd1 : w10.cell? ⟨gb2,1,none⟩ = some (.int .i64 x.f1) := (blk_cell BE10.out 1).trans rfl;have hd2 : w10.cell? ⟨gb2,2,none⟩ = some (.bool x.f2) := (blk_cell BE10.out 2).trans rfl;clear hd10) | (go_at_call 51;refine (slices_IndexFunc_int_int.calls Ao co out _ #[.pointer (some ⟨w.heap.size,0,none⟩),.pointer (some ⟨gb2,0,none⟩)] eg (fun n => (rd_T34 l0 n).f1 == x.f1) _ (Kd.R_reads' HO10.out).2.2 (Kd.R_reads' HO10.out).2.1 (fun W hW m hm => (impl_Log_up.test _ _ _ c0 l0 x m n W (blk_below BK10.out hW) (blk_below BE10.out hW) (Kd.C_below (Kd.C_below HR0.out HB10.out) hW) (HI.out.2 m hm).1 (by have := (HI.out.2 m hm).2;omega)).mono (fun _ _ h => ⟨h.1,below_then hW hW.size h.2⟩))).mono ?_;rintro e w11 ⟨he11,hb11⟩;rw [HKA.out] at he11;subst he11;have HB11 := Aside0.mk (below_step HB10.out hb11);have HO11 := Aside0.mk (Kd.R_below HO10.out hb11);have BK11 := Aside0.mk (blk_below BK10.out hb11);have BE11 := Aside0.mk (blk_below BE10.out hb11);have he2 : w11.cell? ⟨gb2,2,none⟩ = some (.bool x.f2) := (blk_cell BE11.out 2).trans rfl;rw [HF2.out] at he2;clear hb11) | (go_at_call 53;refine (slices_Delete_int_int.calls (fun k_ => k_ ≠ w.heap.size) _ out ka (ka + 1) _ w _ HB11.out HO11.out HDE.out).mono ?_;rintro e w12 ⟨v12,rfl,ho12,hb12,hk12⟩;have HB12 := Aside0.mk hb12;have HO12 := Aside0.mk (Kd.R_mono ho12 (ok' := fun k_ => k_ ≠ w.heap.size) (fun k hk => hk.elim id (fun h => by have := blk_lt BK11.out;omega)));have BK12 := Aside0.mk (blk_kept BK11.out hk12 (fun h => h rfl));clear ho12 hb12 hk12))
        go_roundg (n - (kk + 1))
        case measure => omega
        case rel => have := HLn.out;exact ⟨kk + 1,x.f0,out.eraseIdx ka.toNat,by omega,by omega,by rw [show ((kk + 1 : Nat) : Int) = wrap64 ((kk : Int) + 1) from by unfold wrap64;omega],rfl,⟨by rw [HS2.out,hd,HF2.out];rfl⟩,HO12,HB12,BK12⟩
   ·have hltz : ¬ (kk : Int) < (n : Int) := by omega
    have : kk = n := by omega
    subst this;have hz2 := (blk_cell BK.out 0).trans rfl
    have hr : out = r1 ∧ decide ((kk : Int) ≤ 60) = r2 := by
     have := HH.out;rw [HT.out] at this
     simpa using this
    obtain ⟨rfl,rfl⟩ := hr
    go_wp2
    go_region
    rename_i hK
    refine hK _ _ ?_;clear hK
    go_wp2
    go_ret2
    exact ⟨_,rfl,Kd.R_mono (Kd.R_drew HO.out) (fun _ _ => trivial),below_drew1 HB2.out⟩
 ·rw [if_neg hL] at h;cases h
end Go.Proofs.YtmcfbnglocojkaaDoor.G
end

section
namespace Go.Proofs.YtmcfbnglocojkaaDoor.G
open Go.RowKit Go.Proofs.YtmcfbnglocojkaaDoorW.PrintWords Go.Proofs.YtmcfbnglocojkaaDoorW.PrintLast Go.Proofs.YtmcfbnglocojkaaDoorW.PrintMore
attribute [local go_sem] max2_int min2_int max_two min_two max_three min_three max_four min_four
set_option linter.unusedVariables false
set_option linter.unusedSimpArgs false
def impl_ValidLog.f (l0 : List (S34)) : Option (Bool) := (impl_Log_up.f l0).bind fun bt101 => (some bt101.2)
set_option maxHeartbeats 8000000 in
set_option maxRecDepth 100000 in
theorem impl_ValidLog.calls (A0 : Option Addr) (c0 : Nat) (l0 : List (S34)) (r : Bool) (w : World) (hr0 : Kd.C k34 w A0 l0.length l0) (hc0 : l0.length ≤ c0) (h : impl_ValidLog.f l0 = some r) :
  Calls Tryd.prog 27 #[.slice A0 l0.length c0] w fun e w' => e = .returned (.bool r) ∧ Below w.heap.size w w' := by
 have HR0 := Aside0.mk hr0;have HC0 := Aside0.mk hc0;clear hr0 hc0;have HB := Aside0.mk (Below.refl w.heap.size w);have H : ((impl_Log_up.f l0).bind fun bt101 => (some bt101.2)) = some r := h;clear h;replace H := Option.bind_eq_some_iff.mp H;obtain ⟨⟨t101,t102⟩,A20,H⟩ := H;replace H : (some t102) = some r := H;have A2 := Aside0.mk A20;clear A20;obtain rfl := Option.some.inj H
 go_enter Tryd.func27,Tryd.ntmps27
 go_wp2_with (first | ((with_reducible refine gate_callee (f := 38) rfl ?_);refine goesL_ (some 7) rfl rfl Tryd.func38 (by kernel_rfl) rfl #[.slice A0 l0.length c0] rfl (by (try simp only [List.map_toArray,List.map_cons,List.map_nil]);first | done | rfl | (simp only [List.length_drop,List.length_take];rfl)) ?_;(with_reducible refine (impl_Log_up.calls _ _ l0 t101 t102 _ ?side1 ?side2 A2.out).mono ?_);(case side1 => repeat (first | exact HR0.out | (with_reducible refine Kd.C_alloc ?_ _) | (with_reducible refine Kd.C_drewN ?_ _) | (with_reducible refine Kd.C_drew ?_)));(case side2 => exact HC0.out);rintro e w3 ⟨v103,rfl,ho0,hb⟩;refine ⟨_,rfl,?_⟩;have n0_ := Aside0.mk (Kd.R_lower ho0 (below_size (by repeat (first | (with_reducible first | exact HB.out | apply below_alloc | apply pw_below_drewN | apply below_drew1) | exact HB.out))));have n1_ := Aside0.mk (below_step (by repeat (first | (with_reducible first | exact HB.out | apply below_alloc | apply pw_below_drewN | apply below_drew1) | exact HB.out)) hb);clear HB;have HO104 := n0_;have HB := n1_;clear n0_ n1_;(try clear hb);(try clear hb2);(try clear hk);(try clear hi);(try clear ho0)))
 go_ret
 exact ⟨by first | rfl | (simp [errW_none,errW_some,IntKind.wrap_i64,wrap64];done) | (simp [errW_none,errW_some] <;> rfl) | (simp [*,errW_none,errW_some] <;> rfl),by repeat (first | (with_reducible first | exact HB.out | apply below_alloc | apply pw_below_drewN | apply below_drew1) | exact HB.out)⟩
end Go.Proofs.YtmcfbnglocojkaaDoor.G
end

section
namespace Go.Proofs
open Go.Shelf
def Tryd.lays169_ren : Go.Shelf.Ren := ⟨fun | 169 => 29 | n => n, fun | 70 => 55 | 9 => 9 | 0 => 0 | 72 => 58 | 37 => 56 | 127 => 68 | 3 => 3 | 5 => 5 | n => n, fun | n => n⟩
theorem Tryd.lays169 : Go.Proofs.Lays.n169 Tryd.prog Tryd.lays169_ren := {
  mixed := by kernel_rfl
  f169 := Tryd.func29.trans (congrArg some (by kernel_rfl))
  t0 := Tryd.underlying0
  a0 := Tryd.isAgg0
  z0 := Tryd.sizeOf0
  v0 := Tryd.zeroValue0
  t3 := Tryd.underlying3
  a3 := Tryd.isAgg3
  z3 := Tryd.sizeOf3
  v3 := Tryd.zeroValue3
  t9 := Tryd.underlying9
  a9 := Tryd.isAgg9
  z9 := Tryd.sizeOf9
  v9 := Tryd.zeroValue9
  t37 := Tryd.underlying56
  a37 := Tryd.isAgg56
  z37 := Tryd.sizeOf56
  v37 := Tryd.zeroValue56
  t70 := Tryd.underlying55
  a70 := Tryd.isAgg55
  z70 := Tryd.sizeOf55
  v70 := Tryd.zeroValue55
  t72 := Tryd.underlying58
  a72 := Tryd.isAgg58
  z72 := Tryd.sizeOf58
  v72 := Tryd.zeroValue58
  t127 := Tryd.underlying68
  a127 := Tryd.isAgg68
  z127 := Tryd.sizeOf68
  v127 := Tryd.zeroValue68 }
theorem Tryd.Builder_Extra_169 : Builder.Extra Tryd.prog Tryd.lays169_ren := {
  sizeBuilder := by kernel_rfl
  liesBuilder := by kernel_rfl
  t5 := Tryd.underlying5
  a5 := Tryd.isAgg5
  z5 := Tryd.sizeOf5
  v5 := Tryd.zeroValue5
  infoByte := by kernel_rfl
  cellsByte := by kernel_rfl
  sizeByte := by kernel_rfl
  neB5 := by decide }
def Tryd.lays137_ren : Go.Shelf.Ren := ⟨fun | 137 => 21 | 217 => 30 | 266 => 40 | n => n, fun | 9 => 9 | 5 => 5 | 3 => 3 | n => n, fun | n => n⟩
theorem Tryd.lays137 : Go.Proofs.Lays.n137 Tryd.prog Tryd.lays137_ren := {
  mixed := by kernel_rfl
  f137 := Tryd.func21.trans (congrArg some (by kernel_rfl))
  f217 := Tryd.func30.trans (congrArg some (by kernel_rfl))
  f266 := Tryd.func40.trans (congrArg some (by kernel_rfl))
  t3 := Tryd.underlying3
  a3 := Tryd.isAgg3
  z3 := Tryd.sizeOf3
  v3 := Tryd.zeroValue3
  t5 := Tryd.underlying5
  a5 := Tryd.isAgg5
  z5 := Tryd.sizeOf5
  v5 := Tryd.zeroValue5
  t9 := Tryd.underlying9
  a9 := Tryd.isAgg9
  z9 := Tryd.sizeOf9
  v9 := Tryd.zeroValue9 }
open Go.RowKit in
theorem Tryd.strings_IndexByte (s : ByteArray) (c : Int) (w : World) :
    Calls Tryd.prog 21 #[.string s, .int .u8 c] w fun e w' => e = .returned (.int .i64 (Lib.indexByte s.data.toList c.toNat.toUInt8)) ∧ w' = w := Any.strings_IndexByte Tryd.lays137 s c w
open Go.RowKit in
theorem Tryd.Builder_String_any_k (B b : Nat) (l : List UInt8) (w : World) (h : Lib.IsBuilderF 58 5 B b (Lib.byteCells l) w) (hBw : B ≤ w.heap.size) :
    Calls Tryd.prog 29 #[.pointer (some ⟨b, 0, none⟩)] w fun e w' => e = .returned (.string ⟨l.toArray⟩) ∧ (Lib.IsBuilderF 58 5 B b (Lib.byteCells l) w' ∧ Below B w w' ∧ Lib.OthersKept 5 (some b) w w') := Any.Builder_String_any_k Tryd.lays169 Tryd.Builder_Extra_169 B b l w h hBw
def Tryd.laysM173_ren : Go.Shelf.Ren := ⟨fun | 173 => 37 | 246 => 50 | 283 => 64 | 284 => 65 | 285 => 66 | 286 => 67 | 129 => 71 | 317 => 70 | 318 => 72 | 319 => 73 | 320 => 74 | 337 => 75 | 338 => 76 | n => n, fun | 2 => 2 | 3 => 3 | 9 => 9 | 4 => 4 | 171 => 92 | 0 => 0 | 53 => 73 | 37 => 56 | 5 => 5 | 173 => 95 | 212 => 108 | 51 => 101 | 20 => 20 | 213 => 109 | 46 => 76 | 232 => 112 | 233 => 113 | n => n, fun | 17 => 5 | 18 => 6 | 19 => 7 | n => n⟩
theorem Tryd.laysM173 : Go.Proofs.LaysM.n173 Tryd.prog Tryd.laysM173_ren := {
  mixed := by kernel_rfl
  f129 := Tryd.func71.trans (congrArg some (by kernel_rfl))
  f173 := Tryd.func37.trans (congrArg some (by kernel_rfl))
  f246 := Tryd.func50.trans (congrArg some (by kernel_rfl))
  f283 := Tryd.func64.trans (congrArg some (by kernel_rfl))
  f284 := Tryd.func65.trans (congrArg some (by kernel_rfl))
  f285 := Tryd.func66.trans (congrArg some (by kernel_rfl))
  f286 := Tryd.func67.trans (congrArg some (by kernel_rfl))
  f317 := Tryd.func70.trans (congrArg some (by kernel_rfl))
  f318 := Tryd.func72.trans (congrArg some (by kernel_rfl))
  f319 := Tryd.func73.trans (congrArg some (by kernel_rfl))
  f320 := Tryd.func74.trans (congrArg some (by kernel_rfl))
  f337 := Tryd.func75.trans (congrArg some (by kernel_rfl))
  f338 := Tryd.func76.trans (congrArg some (by kernel_rfl))
  t0 := Tryd.underlying0
  a0 := Tryd.isAgg0
  z0 := Tryd.sizeOf0
  v0 := Tryd.zeroValue0
  t2 := Tryd.underlying2
  a2 := Tryd.isAgg2
  z2 := Tryd.sizeOf2
  v2 := Tryd.zeroValue2
  t3 := Tryd.underlying3
  a3 := Tryd.isAgg3
  z3 := Tryd.sizeOf3
  v3 := Tryd.zeroValue3
  t4 := Tryd.underlying4
  a4 := Tryd.isAgg4
  z4 := Tryd.sizeOf4
  v4 := Tryd.zeroValue4
  t5 := Tryd.underlying5
  a5 := Tryd.isAgg5
  z5 := Tryd.sizeOf5
  v5 := Tryd.zeroValue5
  t9 := Tryd.underlying9
  a9 := Tryd.isAgg9
  z9 := Tryd.sizeOf9
  v9 := Tryd.zeroValue9
  t20 := Tryd.underlying20
  a20 := Tryd.isAgg20
  z20 := Tryd.sizeOf20
  v20 := Tryd.zeroValue20
  t37 := Tryd.underlying56
  a37 := Tryd.isAgg56
  z37 := Tryd.sizeOf56
  v37 := Tryd.zeroValue56
  t46 := Tryd.underlying76
  a46 := Tryd.isAgg76
  z46 := Tryd.sizeOf76
  v46 := Tryd.zeroValue76
  t51 := Tryd.underlying101
  a51 := Tryd.isAgg101
  z51 := Tryd.sizeOf101
  v51 := Tryd.zeroValue101
  t53 := Tryd.underlying73
  a53 := Tryd.isAgg73
  z53 := Tryd.sizeOf73
  v53 := Tryd.zeroValue73
  t171 := Tryd.underlying92
  a171 := Tryd.isAgg92
  z171 := Tryd.sizeOf92
  v171 := Tryd.zeroValue92
  t173 := Tryd.underlying95
  a173 := Tryd.isAgg95
  z173 := Tryd.sizeOf95
  v173 := Tryd.zeroValue95
  t212 := Tryd.underlying108
  a212 := Tryd.isAgg108
  z212 := Tryd.sizeOf108
  v212 := Tryd.zeroValue108
  t213 := Tryd.underlying109
  a213 := Tryd.isAgg109
  z213 := Tryd.sizeOf109
  t232 := Tryd.underlying112
  a232 := Tryd.isAgg112
  z232 := Tryd.sizeOf112
  v232 := Tryd.zeroValue112
  t233 := Tryd.underlying113
  a233 := Tryd.isAgg113
  z233 := Tryd.sizeOf113
  v233 := Tryd.zeroValue113
  g17 := by kernel_rfl
  g18 := by kernel_rfl
  g19 := by kernel_rfl
  i0 := by kernel_rfl
  i2 := by kernel_rfl
  i3 := by kernel_rfl
  i4 := by kernel_rfl
  i5 := by kernel_rfl
  i9 := by kernel_rfl
  i20 := by kernel_rfl
  i37 := by kernel_rfl
  i46 := by kernel_rfl
  i51 := by kernel_rfl
  i53 := by kernel_rfl
  i171 := by kernel_rfl
  i173 := by kernel_rfl
  i212 := by kernel_rfl
  i232 := by kernel_rfl
  i233 := by kernel_rfl
  m17 := by kernel_rfl
  m18 := by kernel_rfl
  m19 := by kernel_rfl }
open Go.RowKit Go.Sort Go.Lib in
theorem Tryd.strconv_FormatInt_10 (n : Int) (h0 : -9223372036854775808 ≤ n) (h1 : n ≤ 9223372036854775807) (w : World) (htab : Lib.TabIs Tryd.prog w "internal/strconv.uint64pow10" .u64 Lib.pow10Tab) :
    Calls Tryd.prog 37 #[.int .i64 n, .int .i64 10] w fun e w' => e = .returned (.string ⟨(Lib.itoa n).toArray⟩) ∧ ∃ k os, w' = grow (w.drewN k) os := Any.strconv_FormatInt_10 Tryd.laysM173 n h0 h1 w htab
def Tryd.laysC174_ren : Go.Shelf.Ren := ⟨fun | 174 => 24 | 247 => 35 | 245 => 36 | 287 => 45 | 279 => 46 | 280 => 47 | 281 => 48 | 282 => 49 | 321 => 59 | 322 => 60 | 316 => 61 | 171 => 63 | 205 => 62 | 243 => 69 | 246 => 50 | 283 => 64 | 284 => 65 | 285 => 66 | 286 => 67 | 129 => 71 | 317 => 70 | 318 => 72 | 319 => 73 | 320 => 74 | 337 => 75 | 338 => 76 | n => n, fun | 9 => 9 | 3 => 3 | 2 => 2 | 75 => 51 | 85 => 52 | 4 => 4 | 167 => 72 | 5 => 5 | 53 => 73 | 175 => 74 | 46 => 76 | 168 => 77 | 37 => 56 | 0 => 0 | 210 => 89 | 21 => 21 | 127 => 68 | 145 => 106 | 143 => 104 | 171 => 92 | 173 => 95 | 212 => 108 | 51 => 101 | 20 => 20 | 213 => 109 | 232 => 112 | 233 => 113 | 80 => 61 | n => n, fun | 15 => 1 | 16 => 2 | 17 => 5 | 18 => 6 | 19 => 7 | n => n⟩
theorem Tryd.laysC174 : Go.Proofs.LaysC.n174 Tryd.prog Tryd.laysC174_ren := {
  mixed := by kernel_rfl
  f129 := Tryd.func71.trans (congrArg some (by kernel_rfl))
  f171 := Tryd.func63.trans (congrArg some (by kernel_rfl))
  f174 := Tryd.func24.trans (congrArg some (by kernel_rfl))
  f205 := Tryd.func62.trans (congrArg some (by kernel_rfl))
  f243 := Tryd.func69.trans (congrArg some (by kernel_rfl))
  f245 := Tryd.func36.trans (congrArg some (by kernel_rfl))
  f246 := Tryd.func50.trans (congrArg some (by kernel_rfl))
  f247 := Tryd.func35.trans (congrArg some (by kernel_rfl))
  f279 := Tryd.func46.trans (congrArg some (by kernel_rfl))
  f280 := Tryd.func47.trans (congrArg some (by kernel_rfl))
  f281 := Tryd.func48.trans (congrArg some (by kernel_rfl))
  f282 := Tryd.func49.trans (congrArg some (by kernel_rfl))
  f283 := Tryd.func64.trans (congrArg some (by kernel_rfl))
  f284 := Tryd.func65.trans (congrArg some (by kernel_rfl))
  f285 := Tryd.func66.trans (congrArg some (by kernel_rfl))
  f286 := Tryd.func67.trans (congrArg some (by kernel_rfl))
  f287 := Tryd.func45.trans (congrArg some (by kernel_rfl))
  f316 := Tryd.func61.trans (congrArg some (by kernel_rfl))
  f317 := Tryd.func70.trans (congrArg some (by kernel_rfl))
  f318 := Tryd.func72.trans (congrArg some (by kernel_rfl))
  f319 := Tryd.func73.trans (congrArg some (by kernel_rfl))
  f320 := Tryd.func74.trans (congrArg some (by kernel_rfl))
  f321 := Tryd.func59.trans (congrArg some (by kernel_rfl))
  f322 := Tryd.func60.trans (congrArg some (by kernel_rfl))
  f337 := Tryd.func75.trans (congrArg some (by kernel_rfl))
  f338 := Tryd.func76.trans (congrArg some (by kernel_rfl))
  t0 := Tryd.underlying0
  a0 := Tryd.isAgg0
  z0 := Tryd.sizeOf0
  v0 := Tryd.zeroValue0
  t2 := Tryd.underlying2
  a2 := Tryd.isAgg2
  z2 := Tryd.sizeOf2
  v2 := Tryd.zeroValue2
  t3 := Tryd.underlying3
  a3 := Tryd.isAgg3
  z3 := Tryd.sizeOf3
  v3 := Tryd.zeroValue3
  t4 := Tryd.underlying4
  a4 := Tryd.isAgg4
  z4 := Tryd.sizeOf4
  v4 := Tryd.zeroValue4
  t5 := Tryd.underlying5
  a5 := Tryd.isAgg5
  z5 := Tryd.sizeOf5
  v5 := Tryd.zeroValue5
  t9 := Tryd.underlying9
  a9 := Tryd.isAgg9
  z9 := Tryd.sizeOf9
  v9 := Tryd.zeroValue9
  t20 := Tryd.underlying20
  a20 := Tryd.isAgg20
  z20 := Tryd.sizeOf20
  v20 := Tryd.zeroValue20
  t21 := Tryd.underlying21
  a21 := Tryd.isAgg21
  z21 := Tryd.sizeOf21
  v21 := Tryd.zeroValue21
  t37 := Tryd.underlying56
  a37 := Tryd.isAgg56
  z37 := Tryd.sizeOf56
  v37 := Tryd.zeroValue56
  t46 := Tryd.underlying76
  a46 := Tryd.isAgg76
  z46 := Tryd.sizeOf76
  v46 := Tryd.zeroValue76
  t51 := Tryd.underlying101
  a51 := Tryd.isAgg101
  z51 := Tryd.sizeOf101
  v51 := Tryd.zeroValue101
  t53 := Tryd.underlying73
  a53 := Tryd.isAgg73
  z53 := Tryd.sizeOf73
  v53 := Tryd.zeroValue73
  t75 := Tryd.underlying51
  a75 := Tryd.isAgg51
  z75 := Tryd.sizeOf51
  v75 := Tryd.zeroValue51
  t85 := Tryd.underlying52
  a85 := Tryd.isAgg52
  z85 := Tryd.sizeOf52
  v85 := Tryd.zeroValue52
  t127 := Tryd.underlying68
  a127 := Tryd.isAgg68
  z127 := Tryd.sizeOf68
  v127 := Tryd.zeroValue68
  t143 := Tryd.underlying104
  a143 := Tryd.isAgg104
  z143 := Tryd.sizeOf104
  v143 := Tryd.zeroValue104
  t145 := Tryd.underlying106
  a145 := Tryd.isAgg106
  z145 := Tryd.sizeOf106
  v145 := Tryd.zeroValue106
  t167 := Tryd.underlying72
  a167 := Tryd.isAgg72
  z167 := Tryd.sizeOf72
  v167 := Tryd.zeroValue72
  t168 := Tryd.underlying77
  a168 := Tryd.isAgg77
  z168 := Tryd.sizeOf77
  v168 := Tryd.zeroValue77
  t171 := Tryd.underlying92
  a171 := Tryd.isAgg92
  z171 := Tryd.sizeOf92
  v171 := Tryd.zeroValue92
  t173 := Tryd.underlying95
  a173 := Tryd.isAgg95
  z173 := Tryd.sizeOf95
  v173 := Tryd.zeroValue95
  t175 := Tryd.underlying74
  a175 := Tryd.isAgg74
  z175 := Tryd.sizeOf74
  v175 := Tryd.zeroValue74
  t210 := Tryd.underlying89
  a210 := Tryd.isAgg89
  z210 := Tryd.sizeOf89
  v210 := Tryd.zeroValue89
  t212 := Tryd.underlying108
  a212 := Tryd.isAgg108
  z212 := Tryd.sizeOf108
  v212 := Tryd.zeroValue108
  t213 := Tryd.underlying109
  a213 := Tryd.isAgg109
  z213 := Tryd.sizeOf109
  t232 := Tryd.underlying112
  a232 := Tryd.isAgg112
  z232 := Tryd.sizeOf112
  v232 := Tryd.zeroValue112
  t233 := Tryd.underlying113
  a233 := Tryd.isAgg113
  z233 := Tryd.sizeOf113
  v233 := Tryd.zeroValue113
  g15 := by kernel_rfl
  g16 := by kernel_rfl
  g17 := by kernel_rfl
  g18 := by kernel_rfl
  g19 := by kernel_rfl
  t80 := Tryd.underlying61
  a80 := Tryd.isAgg61
  z80 := Tryd.sizeOf61
  v80 := Tryd.zeroValue61
  i0 := by kernel_rfl
  i2 := by kernel_rfl
  i3 := by kernel_rfl
  i4 := by kernel_rfl
  i5 := by kernel_rfl
  i9 := by kernel_rfl
  i20 := by kernel_rfl
  i21 := by kernel_rfl
  i37 := by kernel_rfl
  i46 := by kernel_rfl
  i51 := by kernel_rfl
  i53 := by kernel_rfl
  i75 := by kernel_rfl
  i80 := by kernel_rfl
  i85 := by kernel_rfl
  i127 := by kernel_rfl
  i143 := by kernel_rfl
  i145 := by kernel_rfl
  i167 := by kernel_rfl
  i168 := by kernel_rfl
  i171 := by kernel_rfl
  i173 := by kernel_rfl
  i175 := by kernel_rfl
  i210 := by kernel_rfl
  i212 := by kernel_rfl
  i232 := by kernel_rfl
  i233 := by kernel_rfl
  m15 := by kernel_rfl
  m16 := by kernel_rfl
  m17 := by kernel_rfl
  m18 := by kernel_rfl
  m19 := by kernel_rfl
  c0 := by kernel_rfl
  c2 := by kernel_rfl
  c3 := by kernel_rfl
  c4 := by kernel_rfl
  c5 := by kernel_rfl
  c9 := by kernel_rfl
  c20 := by kernel_rfl
  c21 := by kernel_rfl
  c37 := by kernel_rfl
  c46 := by kernel_rfl
  c51 := by kernel_rfl
  c53 := by kernel_rfl
  c75 := by kernel_rfl
  c80 := by kernel_rfl
  c85 := by kernel_rfl
  c127 := by kernel_rfl
  c143 := by kernel_rfl
  c145 := by kernel_rfl
  c167 := by kernel_rfl
  c168 := by kernel_rfl
  c171 := by kernel_rfl
  c173 := by kernel_rfl
  c175 := by kernel_rfl
  c210 := by kernel_rfl
  c212 := by kernel_rfl
  c213 := by kernel_rfl
  c232 := by kernel_rfl
  c233 := by kernel_rfl }
open Go.RowKit in
theorem Tryd.strconv_ParseInt_10_at64_ok (s : ByteArray) (hmax : s.size ≤ 9223372036854775806) (v : Int) (h : Lib.parseIntB 64 s.data.toList = .ok v) (w : World) :
    Calls Tryd.prog 24 #[.string s, .int .i64 10, .int .i64 64] w fun e w' => e = .returned (.tuple #[.int .i64 v, .nilIface]) ∧ (w' = w ∨ ∃ t, w' = Lib.bytesWorld w 5 t) := Any.strconv_ParseInt_10_at64_ok Tryd.laysC174 s hmax v h w
open Go.RowKit in
theorem Tryd.strconv_ParseInt_10_at64_syntax_var (s : ByteArray) (hlim : s.size ≤ 281474976710656) (h : Lib.parseIntB 64 s.data.toList = .«syntax») (tp : TypeId) (p : Value) (w : World) (hvar : w.var? Tryd.prog "strconv.ErrSyntax" = some #[.iface tp p]) :
    Calls Tryd.prog 24 #[.string s, .int .i64 10, .int .i64 64] w fun e w' => ∃ N, e = .returned (.tuple #[.int .i64 (0), .iface 77 (.pointer (some ⟨N, 0, none⟩))]) ∧ w.heap.size ≤ N ∧ w'.heap[N]? = some (.cells #[.string ⟨#[80, 97, 114, 115, 101, 73, 110, 116]⟩, .string s, .iface tp p] 89 (0, 0)) ∧ Below w.heap.size w w' := Any.strconv_ParseInt_10_at64_syntax_var Tryd.laysC174 s hlim h tp p w hvar
open Go.RowKit in
theorem Tryd.strconv_ParseInt_10_at64_range_var (s : ByteArray) (hlim : s.size ≤ 281474976710656) (h : Lib.parseIntB 64 s.data.toList = .range) (tp : TypeId) (p : Value) (w : World) (hvar : w.var? Tryd.prog "strconv.ErrRange" = some #[.iface tp p]) :
    Calls Tryd.prog 24 #[.string s, .int .i64 10, .int .i64 64] w fun e w' => ∃ N, e = .returned (.tuple #[.int .i64 (Lib.intSat 64 s.data.toList), .iface 77 (.pointer (some ⟨N, 0, none⟩))]) ∧ w.heap.size ≤ N ∧ w'.heap[N]? = some (.cells #[.string ⟨#[80, 97, 114, 115, 101, 73, 110, 116]⟩, .string s, .iface tp p] 89 (0, 0)) ∧ Below w.heap.size w w' := Any.strconv_ParseInt_10_at64_range_var Tryd.laysC174 s hlim h tp p w hvar
def Tryd.lays146_ren : Go.Shelf.Ren := ⟨fun | 146 => 13 | 221 => 22 | 268 => 31 | 138 => 32 | 143 => 33 | 195 => 41 | 197 => 42 | 218 => 43 | 219 => 44 | 260 => 55 | 217 => 30 | 225 => 56 | 224 => 57 | 267 => 58 | 266 => 40 | 314 => 68 | n => n, fun | 9 => 9 | 31 => 29 | 3 => 3 | 4 => 4 | 0 => 0 | 105 => 70 | 21 => 21 | 5 => 5 | 46 => 76 | 119 => 97 | 139 => 100 | 138 => 99 | 146 => 102 | 51 => 101 | n => n, fun | 1 => 0 | 3 => 3 | 4 => 4 | n => n⟩
theorem Tryd.lays146 : Go.Proofs.Lays.n146 Tryd.prog Tryd.lays146_ren := {
  mixed := by kernel_rfl
  f138 := Tryd.func32.trans (congrArg some (by kernel_rfl))
  f143 := Tryd.func33.trans (congrArg some (by kernel_rfl))
  f146 := Tryd.func13.trans (congrArg some (by kernel_rfl))
  f195 := Tryd.func41.trans (congrArg some (by kernel_rfl))
  f197 := Tryd.func42.trans (congrArg some (by kernel_rfl))
  f217 := Tryd.func30.trans (congrArg some (by kernel_rfl))
  f218 := Tryd.func43.trans (congrArg some (by kernel_rfl))
  f219 := Tryd.func44.trans (congrArg some (by kernel_rfl))
  f221 := Tryd.func22.trans (congrArg some (by kernel_rfl))
  f224 := Tryd.func57.trans (congrArg some (by kernel_rfl))
  f225 := Tryd.func56.trans (congrArg some (by kernel_rfl))
  f260 := Tryd.func55.trans (congrArg some (by kernel_rfl))
  f266 := Tryd.func40.trans (congrArg some (by kernel_rfl))
  f267 := Tryd.func58.trans (congrArg some (by kernel_rfl))
  f268 := Tryd.func31.trans (congrArg some (by kernel_rfl))
  f314 := Tryd.func68.trans (congrArg some (by kernel_rfl))
  t0 := Tryd.underlying0
  a0 := Tryd.isAgg0
  z0 := Tryd.sizeOf0
  v0 := Tryd.zeroValue0
  t3 := Tryd.underlying3
  a3 := Tryd.isAgg3
  z3 := Tryd.sizeOf3
  v3 := Tryd.zeroValue3
  t4 := Tryd.underlying4
  a4 := Tryd.isAgg4
  z4 := Tryd.sizeOf4
  v4 := Tryd.zeroValue4
  t5 := Tryd.underlying5
  a5 := Tryd.isAgg5
  z5 := Tryd.sizeOf5
  v5 := Tryd.zeroValue5
  t9 := Tryd.underlying9
  a9 := Tryd.isAgg9
  z9 := Tryd.sizeOf9
  v9 := Tryd.zeroValue9
  t21 := Tryd.underlying21
  a21 := Tryd.isAgg21
  z21 := Tryd.sizeOf21
  v21 := Tryd.zeroValue21
  t31 := Tryd.underlying29
  a31 := Tryd.isAgg29
  z31 := Tryd.sizeOf29
  v31 := Tryd.zeroValue29
  t46 := Tryd.underlying76
  a46 := Tryd.isAgg76
  z46 := Tryd.sizeOf76
  v46 := Tryd.zeroValue76
  t51 := Tryd.underlying101
  a51 := Tryd.isAgg101
  z51 := Tryd.sizeOf101
  v51 := Tryd.zeroValue101
  t105 := Tryd.underlying70
  a105 := Tryd.isAgg70
  z105 := Tryd.sizeOf70
  v105 := Tryd.zeroValue70
  t119 := Tryd.underlying97
  a119 := Tryd.isAgg97
  z119 := Tryd.sizeOf97
  t138 := Tryd.underlying99
  a138 := Tryd.isAgg99
  z138 := Tryd.sizeOf99
  v138 := Tryd.zeroValue99
  t139 := Tryd.underlying100
  a139 := Tryd.isAgg100
  z139 := Tryd.sizeOf100
  v139 := Tryd.zeroValue100
  t146 := Tryd.underlying102
  a146 := Tryd.isAgg102
  z146 := Tryd.sizeOf102
  v146 := Tryd.zeroValue102
  g1 := by kernel_rfl
  g3 := by kernel_rfl
  g4 := by kernel_rfl }
open Go.RowKit Go.Lib in
theorem Tryd.strings_Split (s sep : ByteArray) (m : Int) (w : World) (hs : s.size < 4294967281) (hm : w.cell? ⟨0, 0, none⟩ = some (.int .i64 m)) (h1 : 1 ≤ sep.size) :
    Calls Tryd.prog 13 #[.string s, .string sep] w fun e w' =>
      e = .returned (.slice (some ⟨w.heap.size, 0, none⟩) (Lib.countB s sep + 1) (Lib.countB s sep + 1)) ∧ w' = w.alloc (.cells ((Lib.splitB sep 0 (Lib.countB s sep) s).map Value.string).toArray 9) := Any.strings_Split Tryd.lays146 (by kernel_rfl) s sep m w hs hm h1
def Tryd.laysM146_ren : Go.Shelf.Ren := ⟨fun | 146 => 13 | 221 => 22 | 268 => 31 | 138 => 32 | 143 => 33 | 195 => 41 | 197 => 42 | 218 => 43 | 219 => 44 | 260 => 55 | 217 => 30 | 225 => 56 | 224 => 57 | 267 => 58 | 266 => 40 | 314 => 68 | n => n, fun | 9 => 9 | 31 => 29 | 3 => 3 | 4 => 4 | 0 => 0 | 105 => 70 | 21 => 21 | 5 => 5 | 46 => 76 | 119 => 97 | 139 => 100 | 138 => 99 | 146 => 102 | 51 => 101 | n => n, fun | 1 => 0 | 3 => 3 | 4 => 4 | n => n⟩
theorem Tryd.laysM146 : Go.Proofs.LaysM.n146 Tryd.prog Tryd.laysM146_ren := {
  mixed := by kernel_rfl
  f138 := Tryd.func32.trans (congrArg some (by kernel_rfl))
  f143 := Tryd.func33.trans (congrArg some (by kernel_rfl))
  f146 := Tryd.func13.trans (congrArg some (by kernel_rfl))
  f195 := Tryd.func41.trans (congrArg some (by kernel_rfl))
  f197 := Tryd.func42.trans (congrArg some (by kernel_rfl))
  f217 := Tryd.func30.trans (congrArg some (by kernel_rfl))
  f218 := Tryd.func43.trans (congrArg some (by kernel_rfl))
  f219 := Tryd.func44.trans (congrArg some (by kernel_rfl))
  f221 := Tryd.func22.trans (congrArg some (by kernel_rfl))
  f224 := Tryd.func57.trans (congrArg some (by kernel_rfl))
  f225 := Tryd.func56.trans (congrArg some (by kernel_rfl))
  f260 := Tryd.func55.trans (congrArg some (by kernel_rfl))
  f266 := Tryd.func40.trans (congrArg some (by kernel_rfl))
  f267 := Tryd.func58.trans (congrArg some (by kernel_rfl))
  f268 := Tryd.func31.trans (congrArg some (by kernel_rfl))
  f314 := Tryd.func68.trans (congrArg some (by kernel_rfl))
  t0 := Tryd.underlying0
  a0 := Tryd.isAgg0
  z0 := Tryd.sizeOf0
  v0 := Tryd.zeroValue0
  t3 := Tryd.underlying3
  a3 := Tryd.isAgg3
  z3 := Tryd.sizeOf3
  v3 := Tryd.zeroValue3
  t4 := Tryd.underlying4
  a4 := Tryd.isAgg4
  z4 := Tryd.sizeOf4
  v4 := Tryd.zeroValue4
  t5 := Tryd.underlying5
  a5 := Tryd.isAgg5
  z5 := Tryd.sizeOf5
  v5 := Tryd.zeroValue5
  t9 := Tryd.underlying9
  a9 := Tryd.isAgg9
  z9 := Tryd.sizeOf9
  v9 := Tryd.zeroValue9
  t21 := Tryd.underlying21
  a21 := Tryd.isAgg21
  z21 := Tryd.sizeOf21
  v21 := Tryd.zeroValue21
  t31 := Tryd.underlying29
  a31 := Tryd.isAgg29
  z31 := Tryd.sizeOf29
  v31 := Tryd.zeroValue29
  t46 := Tryd.underlying76
  a46 := Tryd.isAgg76
  z46 := Tryd.sizeOf76
  v46 := Tryd.zeroValue76
  t51 := Tryd.underlying101
  a51 := Tryd.isAgg101
  z51 := Tryd.sizeOf101
  v51 := Tryd.zeroValue101
  t105 := Tryd.underlying70
  a105 := Tryd.isAgg70
  z105 := Tryd.sizeOf70
  v105 := Tryd.zeroValue70
  t119 := Tryd.underlying97
  a119 := Tryd.isAgg97
  z119 := Tryd.sizeOf97
  t138 := Tryd.underlying99
  a138 := Tryd.isAgg99
  z138 := Tryd.sizeOf99
  v138 := Tryd.zeroValue99
  t139 := Tryd.underlying100
  a139 := Tryd.isAgg100
  z139 := Tryd.sizeOf100
  v139 := Tryd.zeroValue100
  t146 := Tryd.underlying102
  a146 := Tryd.isAgg102
  z146 := Tryd.sizeOf102
  v146 := Tryd.zeroValue102
  g1 := by kernel_rfl
  g3 := by kernel_rfl
  g4 := by kernel_rfl
  i0 := by kernel_rfl
  i3 := by kernel_rfl
  i4 := by kernel_rfl
  i5 := by kernel_rfl
  i9 := by kernel_rfl
  i21 := by kernel_rfl
  i31 := by kernel_rfl
  i46 := by kernel_rfl
  i51 := by kernel_rfl
  i105 := by kernel_rfl
  i138 := by kernel_rfl
  i139 := by kernel_rfl
  i146 := by kernel_rfl
  m1 := by kernel_rfl
  s1_3 := fun w h => Go.Proofs.cell_of_shapedOpen_int (zero := #[.int .i64 0]) (t := 3) h (of_decide_eq_true (by kernel_rfl)) (by kernel_rfl) rfl (by kernel_rfl) (by kernel_rfl) Tryd.underlying3
  m3 := by kernel_rfl
  m4 := by kernel_rfl }
def Tryd.lays166_ren : Go.Shelf.Ren := ⟨fun | 166 => 28 | 240 => 39 | 276 => 54 | n => n, fun | 20 => 20 | 9 => 9 | 72 => 58 | 70 => 55 | 37 => 56 | 164 => 83 | 75 => 51 | 80 => 61 | 3 => 3 | 4 => 4 | 5 => 5 | 0 => 0 | n => n, fun | n => n⟩
theorem Tryd.lays166 : Go.Proofs.Lays.n166 Tryd.prog Tryd.lays166_ren := {
  mixed := by kernel_rfl
  f166 := Tryd.func28.trans (congrArg some (by kernel_rfl))
  f240 := Tryd.func39.trans (congrArg some (by kernel_rfl))
  f276 := Tryd.func54.trans (congrArg some (by kernel_rfl))
  t0 := Tryd.underlying0
  a0 := Tryd.isAgg0
  z0 := Tryd.sizeOf0
  v0 := Tryd.zeroValue0
  t3 := Tryd.underlying3
  a3 := Tryd.isAgg3
  z3 := Tryd.sizeOf3
  v3 := Tryd.zeroValue3
  t4 := Tryd.underlying4
  a4 := Tryd.isAgg4
  z4 := Tryd.sizeOf4
  v4 := Tryd.zeroValue4
  t9 := Tryd.underlying9
  a9 := Tryd.isAgg9
  z9 := Tryd.sizeOf9
  v9 := Tryd.zeroValue9
  t20 := Tryd.underlying20
  a20 := Tryd.isAgg20
  z20 := Tryd.sizeOf20
  v20 := Tryd.zeroValue20
  t37 := Tryd.underlying56
  a37 := Tryd.isAgg56
  z37 := Tryd.sizeOf56
  v37 := Tryd.zeroValue56
  t70 := Tryd.underlying55
  a70 := Tryd.isAgg55
  z70 := Tryd.sizeOf55
  v70 := Tryd.zeroValue55
  t72 := Tryd.underlying58
  a72 := Tryd.isAgg58
  z72 := Tryd.sizeOf58
  v72 := Tryd.zeroValue58
  t75 := Tryd.underlying51
  a75 := Tryd.isAgg51
  z75 := Tryd.sizeOf51
  v75 := Tryd.zeroValue51
  t164 := Tryd.underlying83
  a164 := Tryd.isAgg83
  z164 := Tryd.sizeOf83
  v164 := Tryd.zeroValue83 }
theorem Tryd.Builder_Extra_166 : Builder.Extra Tryd.prog Tryd.lays166_ren := {
  sizeBuilder := by kernel_rfl
  liesBuilder := by kernel_rfl
  t5 := Tryd.underlying5
  a5 := Tryd.isAgg5
  z5 := Tryd.sizeOf5
  v5 := Tryd.zeroValue5
  infoByte := by kernel_rfl
  cellsByte := by kernel_rfl
  sizeByte := by kernel_rfl
  neB5 := by decide }
theorem Tryd.Builder_WriteString_k (B b : Nat) (bs : List Value) (s : ByteArray) (w : World) (h : Lib.IsBuilderF 58 5 B b bs w) (hlen : bs.length + s.size ≤ 140737488355328) (hBw : B ≤ w.heap.size) :
    Calls Tryd.prog 28 #[.pointer (some ⟨b, 0, none⟩), .string s] w fun e w' => e = .returned (.tuple #[.int .i64 s.size, .nilIface]) ∧ (Lib.BuilderAtF 58 5 B b (.pointer (some ⟨b, 0, none⟩)) (bs ++ Lib.strCells s) w' ∧ Go.RowKit.Below B w w' ∧ Lib.OthersKept 5 (some b) w w') := Any.Builder_WriteString_k Tryd.lays166 Tryd.Builder_Extra_166 B b bs s w h hlen hBw
end Go.Proofs
end

section
namespace Go.Proofs.YtmcfbnglocojkaaDoor.G
open Go.RowKit Go.Proofs.YtmcfbnglocojkaaDoorW.PrintWords Go.Proofs.YtmcfbnglocojkaaDoorW.PrintLast Go.Proofs.YtmcfbnglocojkaaDoorW.PrintMore
attribute [local go_sem] max2_int min2_int max_two min_two max_three min_three max_four min_four
set_option linter.unusedVariables false
set_option linter.unusedSimpArgs false
def impl_decimal.f (a0 : Int) : Option ByteArray := if -9223372036854775808 ≤ a0 then (if a0 ≤ 9223372036854775807 then some ⟨(Lib.itoa a0).toArray⟩ else none) else none
theorem impl_decimal.calls (a0 : Int) (r : ByteArray) (w : World) (henv : Env w) (h : impl_decimal.f a0 = some r) :
  Calls Tryd.prog 25 #[.int .i64 a0] w fun e w' => e = .returned (.string r) ∧ Below w.heap.size w w' := by
 unfold impl_decimal.f at h
 split at h
 ·split at h
  ·rename_i h0 h1
   obtain rfl := Option.some.inj h;have HT := (Env_here henv).pow
   have c := fun W ht => Tryd.strconv_FormatInt_10 a0 h0 h1 W ht
   clear h henv
   go_enter Tryd.func25,Tryd.ntmps25
   go_wp2_with (go_at_call 37;refine (c _ HT).mono ?_;rintro e w' ⟨rfl,k,os,rfl⟩)
   go_ret
   exact ⟨rfl,Lib.below_grow _ _ (Nat.le_refl _) k os⟩
  ·cases h
 ·cases h
end Go.Proofs.YtmcfbnglocojkaaDoor.G
end

section
namespace Go.Proofs.YtmcfbnglocojkaaDoor.G
open Go.RowKit Go.Proofs.YtmcfbnglocojkaaDoorW.PrintWords Go.Proofs.YtmcfbnglocojkaaDoorW.PrintLast Go.Proofs.YtmcfbnglocojkaaDoorW.PrintMore
attribute [local go_sem] max2_int min2_int max_two min_two max_three min_three max_four min_four
set_option linter.unusedVariables false
set_option linter.unusedSimpArgs false
def impl_LogText.line (x : S34) : Option ByteArray := (impl_decimal.f x.f0).bind fun t1 => (impl_decimal.f x.f1).bind fun t2 => some (((t1 ++ (if x.f2 = true then (⟨#[32,100,111,119,110,32]⟩ : ByteArray) else ⟨#[32,117,112,32]⟩)) ++ t2) ++ (⟨#[10]⟩ : ByteArray))
def impl_LogText.l0 : List (S34) → ByteArray → Option ByteArray
 | [],acc => some acc
 | x :: r,acc => (impl_LogText.line x).bind fun s => if acc.size + s.size ≤ 140737488355328 then impl_LogText.l0 r (acc ++ s) else none
def impl_LogText.f (l0 : List (S34)) : Option ByteArray := (impl_ValidLog.f l0).bind fun v => if v = true then impl_LogText.l0 l0 ⟨#[]⟩ else some ⟨#[]⟩
theorem impl_LogText.kept {T e : TypeId} {B b : Nat} {l : List Value} {w w' : World} (h : Lib.IsBuilderF T e B b l w) (hb : Below w.heap.size w w') : Lib.IsBuilderF T e B b l w' := by
 have one : ∀ p : Value,Lib.BuilderAtF T e B b p l w → Lib.BuilderAtF T e B b p l w' := by
  rintro p ⟨hB,v,h1,h2,h3⟩
  refine ⟨hB,v,blk_below h1 hb,?_,h3⟩;obtain ⟨g1,g2 | ⟨g,cap,cur,fz,e1,e2,e3,e4⟩⟩ := h2
  ·exact ⟨g1,.inl g2⟩
  ·exact ⟨g1,.inr ⟨g,cap,cur,fz,e1,e2,blk_below e3 hb,e4⟩⟩
 exact h.elim (fun x => .inl (one _ x)) (fun x => .inr (one _ x))
theorem impl_LogText.lt {T e : TypeId} {B b : Nat} {l : List Value} {w : World} (h : Lib.IsBuilderF T e B b l w) : b < w.heap.size := h.elim (fun x => x.lt) (fun x => x.lt)
theorem impl_LogText.cells (a s : ByteArray) : Lib.byteCells a.data.toList ++ Lib.strCells s = Lib.byteCells (a ++ s).data.toList := by
 simp [Lib.byteCells,Lib.strCells]
theorem impl_LogText.new {T e : TypeId} {B b : Nat} {w : World} (hB : B ≤ b) (h : w.heap[b]? = some (.cells #[.pointer none,.slice none 0 0] T (0,0))) : Lib.IsBuilderF T e B b (Lib.byteCells (⟨#[]⟩ : ByteArray).data.toList) w :=
 .inl ⟨hB,.slice none 0 0,h,Go.World.ownsRowF_nil w B e 1,by simp [Value.ownBlock]⟩
theorem impl_LogText.drop {l : List (S34)} {i : Nat} (h : i < l.length) (acc : ByteArray) : impl_LogText.l0 (l.drop i) acc = (impl_LogText.line (rd_T34 l (i : Int))).bind fun s => if acc.size + s.size ≤ 140737488355328 then impl_LogText.l0 (l.drop (i + 1)) (acc ++ s) else none := by
 have e : rd_T34 l (i : Int) = l[i] := by
  show l.getD i _ = l[i]
  rw [List.getD_eq_getElem?_getD,List.getElem?_eq_getElem h];rfl
 rw [e,List.drop_eq_getElem_cons h];rfl
def impl_LogText.T10 : Bool × List (List Nat × List Nat) := (true,[([],[]),([0],[0]),([1],[1]),([],[]),([2,3],[2,3]),([],[]),([5],[5]),([6,2],[6]),([4,7],[4,7]),([8],[8]),([9,7],[9])])
def impl_LogText.B10 : List Nat := [0,1,3,0,15,0,32,103,255,511,1023]
theorem impl_LogText.tab10 : rtab .any (opsOf Tryd.f16 10) = impl_LogText.T10 := by kernel_rfl
theorem impl_LogText.bits10 : waitsOk impl_LogText.T10.2 impl_LogText.B10 = true := by kernel_rfl
set_option maxHeartbeats 8000000 in
set_option maxRecDepth 100000 in
theorem impl_LogText.calls (A0 : Option Addr) (c0 : Nat) (l0 : List (S34)) (r : ByteArray) (w : World) (hr0 : Kd.C k34 w A0 l0.length l0) (hc0 : l0.length ≤ c0) (henv : Env w) (h : impl_LogText.f l0 = some r) :
  Calls Tryd.prog 16 #[.slice A0 l0.length c0] w fun e w' => e = .returned (.string r) ∧ Below w.heap.size w w' := by
 have hu := Tryd.underlying34;have HR0 := Aside0.mk hr0;have HC0 := Aside0.mk hc0;have HENV := Aside0.mk henv;have HB := Aside0.mk (Below.refl w.heap.size w)
 unfold impl_LogText.f at h
 obtain ⟨v,A20,H⟩ := Option.bind_eq_some_iff.mp h;have A2 := Aside0.mk A20;clear hr0 hc0 henv h A20
 cases v with
 | false =>
  have H1 : (some (⟨#[]⟩ : ByteArray)) = some r := by rw [if_neg (by decide)] at H;exact H
  clear H;obtain rfl := Option.some.inj H1;clear H1
  go_enter Tryd.func16,Tryd.ntmps16
  go_wp2_with (first | ((with_reducible refine gate_callee (f := 27) rfl ?_);refine goesL_ (some 8) rfl rfl Tryd.func27 (by kernel_rfl) rfl #[.slice A0 l0.length c0] rfl (by (try simp only [List.map_toArray,List.map_cons,List.map_nil]);first | done | rfl) ?_;(with_reducible refine (impl_ValidLog.calls _ _ l0 false _ ?side1 ?side2 A2.out).mono ?_);(case side1 => repeat (first | exact HR0.out | (with_reducible refine Kd.C_alloc ?_ _) | (with_reducible refine Kd.C_drewN ?_ _) | (with_reducible refine Kd.C_drew ?_)));(case side2 => exact HC0.out);rintro e w4 ⟨rfl,hb⟩;refine ⟨_,rfl,?_⟩;have n0_ := Aside0.mk (below_step (by repeat (first | (with_reducible first | exact HB.out | apply below_alloc | apply pw_below_drewN | apply below_drew1) | exact HB.out)) hb);clear HB;have HB := n0_;clear n0_ hb))
  go_ret
  exact ⟨rfl,by repeat (first | (with_reducible first | exact HB.out | apply below_alloc | apply pw_below_drewN | apply below_drew1) | exact HB.out)⟩
 | true =>
  rw [if_pos rfl] at H;have H' := Aside0.mk H;clear H
  go_enter Tryd.func16,Tryd.ntmps16
  go_wp2_with (first | ((with_reducible refine gate_callee (f := 27) rfl ?_);refine goesL_ (some 8) rfl rfl Tryd.func27 (by kernel_rfl) rfl #[.slice A0 l0.length c0] rfl (by (try simp only [List.map_toArray,List.map_cons,List.map_nil]);first | done | rfl) ?_;(with_reducible refine (impl_ValidLog.calls _ _ l0 true _ ?side1 ?side2 A2.out).mono ?_);(case side1 => repeat (first | exact HR0.out | (with_reducible refine Kd.C_alloc ?_ _) | (with_reducible refine Kd.C_drewN ?_ _) | (with_reducible refine Kd.C_drew ?_)));(case side2 => exact HC0.out);rintro e w4 ⟨rfl,hb⟩;refine ⟨_,rfl,?_⟩;have n0_ := Aside0.mk (below_step (by repeat (first | (with_reducible first | exact HB.out | apply below_alloc | apply pw_below_drewN | apply below_drew1) | exact HB.out)) hb);clear HB;have HB := n0_;clear n0_ hb) | ((with_reducible refine gate_dst (N := 3) rfl ?_);refine box_event ?hg (N := 3) ?hd (cs := #[.pointer none,.slice none 0 0]) (t := 58) ?hr ?_;(case hd => rfl);(case hg => rfl);(case hr => first | (go_simp;done) | (go_simp;rfl));intro gb hg w5 hbox hb;have n0_ := Aside0.mk (below_step (by repeat (first | (with_reducible first | exact HB.out | apply below_alloc | apply pw_below_drewN | apply below_drew1) | exact HB.out)) hb);have n1_ := Aside0.mk hbox;have n2_ := Aside0.mk ((by rw [hg];exact (below_size (by repeat (first | (with_reducible first | exact HB.out | apply below_alloc | apply pw_below_drewN | apply below_drew1) | exact HB.out)))) : w.heap.size ≤ gb);clear HB;have HB := n0_;have BK := n1_;have GB := n2_;clear n0_ n1_ n2_ hb hbox hg;have hcz0 : w5.cell? ⟨gb,0,none⟩ = some (.pointer none) := (blk_cell BK.out 0).trans rfl;have hcz1 : w5.cell? ⟨gb,1,none⟩ = some (.slice none 0 0) := (blk_cell BK.out 1).trans rfl;have hfz0 := blk_frozen BK.out 0;have hfz1 := blk_frozen BK.out 1))
  have n0_ : Aside0 (Lib.IsBuilderF 58 5 w.heap.size gb (Lib.byteCells (⟨#[]⟩ : ByteArray).data.toList) ((w5.setCell ⟨gb,0,none⟩ (.pointer none)).setCell ⟨gb,1,none⟩ (.slice none 0 0))) := ⟨impl_LogText.new GB.out (blk_put (blk_put BK.out 0 _ rfl) 1 _ rfl)⟩;have n1_ : Aside0 (Below w.heap.size w ((w5.setCell ⟨gb,0,none⟩ (.pointer none)).setCell ⟨gb,1,none⟩ (.slice none 0 0))) := ⟨below_set (below_set HB.out GB.out) GB.out⟩;generalize ((w5.setCell ⟨gb,0,none⟩ (.pointer none)).setCell ⟨gb,1,none⟩ (.slice none 0 0)) = w6 at n0_ n1_ ⊢;clear HB BK hcz0 hcz1 hfz0 hfz1;have HB := n1_;have HU := n0_;clear n0_ n1_;have hmax : l0.length ≤ 9223372036854775807 := HR0.out.2.1
  go_loopg [13] l0.length (fun gg v13 wr => ∃ (z : Int) (acc : ByteArray),v13 = .int .i64 z ∧ Aside0 (0 ≤ z ∧ z ≤ (l0.length : Int) ∧ (l0.length : Int) - z ≤ (gg : Int)) ∧ Aside0 (impl_LogText.l0 (l0.drop z.toNat) acc = some r) ∧ Aside0 (Lib.IsBuilderF 58 5 w.heap.size gb (Lib.byteCells acc.data.toList) wr) ∧ Aside0 (Below w.heap.size w wr))
  case atStart => exact ⟨0,⟨#[]⟩,rfl,⟨by omega,by omega,by omega⟩,H',HU,HB⟩
  case round =>
   clear H' HU HB;obtain ⟨z,acc,rfl,HZ,HA,HU,HB⟩ := hrel;obtain ⟨z0,z1,z2⟩ := HZ.out;clear HZ
   by_cases c7 : z < (l0.length : Int)
   ·have c7b0 : decide (z < (l0.length : Int)) = true := decide_eq_true c7;have H := HA.out;clear HA
    have hz : ((z.toNat : Nat) : Int) = z := by omega
    rw [impl_LogText.drop (by omega),hz] at H;obtain ⟨ad,e1,hx0,hx1,hx2⟩ := at_T34 HR0.out z z0 c7;cases e1;replace hx0 := (HB.out.cell (World.block_lt_of_cell? w _ hx0)).trans hx0;replace hx1 := (HB.out.cell (World.block_lt_of_cell? w _ hx1)).trans hx1;replace hx2 := (HB.out.cell (World.block_lt_of_cell? w _ hx2)).trans hx2;generalize rd_T34 l0 z = x at *;obtain ⟨s,A30,H9⟩ := Option.bind_eq_some_iff.mp H;clear H;have H := H9;clear H9
    have hlim : acc.size + s.size ≤ 140737488355328 := by
     by_cases q : acc.size + s.size ≤ 140737488355328
     ·exact q
     ·rw [if_neg q] at H;cases H
    rw [if_pos hlim] at H;have H' := Aside0.mk H;clear H
    unfold impl_LogText.line at A30
    obtain ⟨t1,A41,A31⟩ := Option.bind_eq_some_iff.mp A30;obtain ⟨t2,A51,A3⟩ := Option.bind_eq_some_iff.mp A31;clear A30 A31;have A4 := Aside0.mk A41;have A5 := Aside0.mk A51;clear A41 A51;have HR := Aside0.mk (Below.refl wr.heap.size wr);have HS := Aside0.mk (below_size HB.out);have p0 := eq_true z0;have q0 := eq_true c7;have HZ0 := Aside0.mk z0;have HZ1 := Aside0.mk z1;have HZ2 := Aside0.mk z2;have HZ3 := Aside0.mk c7;have HM := Aside0.mk hmax;clear z0 z1 z2 hz hmax c7
    cases hq : x.f2 with
    | true =>
     rw [hq] at hx2 A3;simp only [Bool.false_eq_true,if_true,if_false] at A3;replace A3 := Option.some.inj A3
     have hs : t1.size + 6 + t2.size + 1 = s.size := by rw [← A3];simp only [ByteArray.size_append'];rfl
     have HSZ := Aside0.mk hs;have HL := Aside0.mk hlim;have A3' := Aside0.mk A3;clear A3 hs hlim
     go_wp2_with (first | ((with_reducible refine gate_dst (N := 5) rfl ?_);refine box_event ?hg (N := 5) ?hd (cs := #[.int .i64 0,.int .i64 0,.bool false]) (t := 34) ?hr ?_;(case hd => rfl);(case hg => rfl);(case hr => first | (go_simp;done) | (go_simp;rfl));intro ge hg w18 hbox hb;have n1_ := Aside0.mk (below_step (by repeat (first | (with_reducible first | exact HR.out | apply below_alloc | apply pw_below_drewN | apply below_drew1) | exact HR.out)) hb);have n2_ := Aside0.mk hbox;have n3_ := Aside0.mk ((by rw [hg];exact (below_size (by repeat (first | (with_reducible first | exact HR.out | apply below_alloc | apply pw_below_drewN | apply below_drew1) | exact HR.out)))) : wr.heap.size ≤ ge);clear HR;have HR := n1_;have BK := n2_;have GE := n3_;clear n1_ n2_ n3_;clear hb hbox hg;have hcz19_0 : w18.cell? ⟨ge,0,none⟩ = some (.int .i64 0) := (blk_cell BK.out 0).trans rfl;have hcz19_1 : w18.cell? ⟨ge,1,none⟩ = some (.int .i64 0) := (blk_cell BK.out 1).trans rfl;have hcz19_2 : w18.cell? ⟨ge,2,none⟩ = some (.bool false) := (blk_cell BK.out 2).trans rfl;have hfz19_0 := blk_frozen BK.out 0;have hfz19_1 := blk_frozen BK.out 1;have hfz19_2 := blk_frozen BK.out 2))
     have n0_ : Aside0 ((((w18.setCell ⟨ge,0,none⟩ (.int .i64 x.f0)).setCell ⟨ge,1,none⟩ (.int .i64 x.f1)).setCell ⟨ge,2,none⟩ (.bool true)).heap[ge]? = some (.cells #[.int .i64 x.f0,.int .i64 x.f1,.bool true] 34 (0,0))) := ⟨blk_put (cs := #[.int .i64 x.f0,.int .i64 x.f1,.bool false]) (blk_put (cs := #[.int .i64 x.f0,.int .i64 0,.bool false]) (blk_put (cs := #[.int .i64 0,.int .i64 0,.bool false]) BK.out 0 _ rfl) 1 _ rfl) 2 _ rfl⟩;have n1_ : Aside0 (Below wr.heap.size wr (((w18.setCell ⟨ge,0,none⟩ (.int .i64 x.f0)).setCell ⟨ge,1,none⟩ (.int .i64 x.f1)).setCell ⟨ge,2,none⟩ (.bool true))) := ⟨below_set (below_set (below_set HR.out GE.out) GE.out) GE.out⟩;clear hcz19_0 hcz19_1 hcz19_2 hfz19_0 hfz19_1 hfz19_2 BK HR;generalize (((w18.setCell ⟨ge,0,none⟩ (.int .i64 x.f0)).setCell ⟨ge,1,none⟩ (.int .i64 x.f1)).setCell ⟨ge,2,none⟩ (.bool true)) = w20 at n0_ n1_ ⊢;have HR := Aside0.mk (below_drew1 n1_.out);have BK := Aside0.mk (blk_drew n0_.out);clear n0_ n1_
     have hL1 : t1.size + 6 ≤ 9223372036854775807 := by have := HSZ.out;have := HL.out;omega
     have hL2 : t1.size + 6 + t2.size ≤ 9223372036854775807 := by have := HSZ.out;have := HL.out;omega
     have hL3 : t1.size + 6 + t2.size + 1 ≤ 9223372036854775807 := by have := HSZ.out;have := HL.out;omega
     have hL1b := eq_true hL1;have hL1d := eq_false (Nat.not_lt.2 hL1);have hL2b := eq_true hL2;have hL2d := eq_false (Nat.not_lt.2 hL2);have hL3b := eq_true hL3;have hL3d := eq_false (Nat.not_lt.2 hL3);have hL1c : decide (t1.size + 6 ≤ 9223372036854775807) = true := decide_eq_true hL1;have hL2c : decide (t1.size + 6 + t2.size ≤ 9223372036854775807) = true := decide_eq_true hL2;have hL3c : decide (t1.size + 6 + t2.size + 1 ≤ 9223372036854775807) = true := decide_eq_true hL3;clear hL1 hL2 hL3;refine start_ (n := 11) (S := fun w' => w'.cell? ⟨ge,0,none⟩ = some (.int .i64 x.f0) ∧ w'.cell? ⟨ge,1,none⟩ = some (.int .i64 x.f1)) (ds := []) #[false,false,false,false,false,false,false,false,false,false,false] (by kernel_rfl) rfl rfl ⟨(blk_cell BK.out 0).trans rfl,(blk_cell BK.out 1).trans rfl⟩ (fun hHeld => ?_);refine with_tabW impl_LogText.tab10 impl_LogText.bits10 (fun HT_ HW_ => ?_);generalize w20.drew = w21 at HR BK hHeld ⊢;refine pure_ (i := 0) (N := some 19) (v := ?_) (a' := ?_) #[true,false,false,false,false,false,false,false,false,false,false] rfl rfl (any_of HT_.out (by kernel_rfl)) (fun _ _ _ h => h) (Or.inl ⟨by rfl,?_⟩) ?_ ?_;rotate_left
     ·intro w';go_simp;with_reducible rfl
     rotate_left
     ·simp only [Act.put,List.setIfInBounds_toArray,List.set_cons_zero,List.set_cons_succ,i64_w,i32_w];rfl
     refine take_ (i := 1) (N := some 20) (v := ?_) (a' := ?_) #[true,true,false,false,false,false,false,false,false,false,false] rfl rfl (take_ofW HT_.out HW_.out (by kernel_rfl)) (fun _ _ _ h => h) (Or.inl ⟨by rfl,?_⟩) hHeld ?_ ?_;rotate_left
     ·rintro w' ⟨s0,s1⟩
      go_simp;with_reducible rfl
     rotate_left
     ·simp only [Act.put,List.setIfInBounds_toArray,List.set_cons_zero,List.set_cons_succ,i64_w,i32_w];rfl
     refine pure_ (i := 3) (N := some 22) (v := ?_) (a' := ?_) #[true,true,false,true,false,false,false,false,false,false,false] rfl rfl (any_of HT_.out (by kernel_rfl)) (fun _ _ _ h => h) (Or.inl ⟨by rfl,?_⟩) ?_ ?_;rotate_left
     ·intro w';go_simp;with_reducible rfl
     rotate_left
     ·simp only [Act.put,List.setIfInBounds_toArray,List.set_cons_zero,List.set_cons_succ,i64_w,i32_w];rfl
     refine pure_ (i := 5) (N := some 24) (v := ?_) (a' := ?_) #[true,true,false,true,false,true,false,false,false,false,false] rfl rfl (any_of HT_.out (by kernel_rfl)) (fun _ _ _ h => h) (Or.inl ⟨by rfl,?_⟩) ?_ ?_;rotate_left
     ·intro w';go_simp;with_reducible rfl
     rotate_left
     ·simp only [Act.put,List.setIfInBounds_toArray,List.set_cons_zero,List.set_cons_succ,i64_w,i32_w];rfl
     refine take_ (i := 6) (N := some 25) (v := ?_) (a' := ?_) #[true,true,false,true,false,true,true,false,false,false,false] rfl rfl (take_ofW HT_.out HW_.out (by kernel_rfl)) (fun _ _ _ h => h) (Or.inl ⟨by rfl,?_⟩) hHeld ?_ ?_;rotate_left
     ·rintro w' ⟨s0,s1⟩
      go_simp;with_reducible rfl
     rotate_left
     ·simp only [Act.put,List.setIfInBounds_toArray,List.set_cons_zero,List.set_cons_succ,i64_w,i32_w];rfl
     refine one_ (i := 2) (N := some 21) #[true,true,true,true,false,true,true,false,false,false,false] rfl rfl (one_of HT_.out (by kernel_rfl)) (by decide) (fun K hK => ?_);refine goes_ Tryd.func25 (by kernel_rfl) rfl #[.int .i64 (x.f0)] (by rfl) rfl rfl (by (try simp only [List.map_toArray,List.map_cons,List.map_nil]);first | done | rfl) ?_
     with_reducible refine (impl_decimal.calls (x.f0) t1 _ ?side1 A4.out).mono ?_
     (case side1 => exact Env_on HENV.out (below_step HB.out HR.out))
     rintro e w22 ⟨rfl,hb⟩
     refine ⟨_,rfl,?_⟩;have n1_ := Aside0.mk (blk_below BK.out hb);have n2_ := Aside0.mk (below_step HR.out hb);clear BK HR;have BK := n1_;have HR := n2_;clear n1_ n2_ hb;refine hK.out _ _ ⟨(blk_cell BK.out 0).trans rfl,(blk_cell BK.out 1).trans rfl⟩ (fun hHeld => ?_);clear hK K;refine norm_ (a' := ?_) ?_ ?_;rotate_left
     ·show Act.put _ (some 21) _ = _
      simp only [Act.put,List.setIfInBounds_toArray,List.set_cons_zero,List.set_cons_succ,i64_w,i32_w];rfl
     refine pure_ (i := 4) (N := some 23) (v := ?_) (a' := ?_) #[true,true,true,true,true,true,true,false,false,false,false] rfl rfl (any_of HT_.out (by kernel_rfl)) (fun _ _ _ h => h) (Or.inl ⟨by rfl,?_⟩) ?_ ?_;rotate_left
     ·intro w';go_simp;with_reducible rfl
     rotate_left
     ·simp only [Act.put,List.setIfInBounds_toArray,List.set_cons_zero,List.set_cons_succ,i64_w,i32_w];rfl
     refine one_ (i := 7) (N := some 26) #[true,true,true,true,true,true,true,true,false,false,false] rfl rfl (one_of HT_.out (by kernel_rfl)) (by decide) (fun K hK => ?_);refine goes_ Tryd.func25 (by kernel_rfl) rfl #[.int .i64 (x.f1)] (by rfl) rfl rfl (by (try simp only [List.map_toArray,List.map_cons,List.map_nil]);first | done | rfl) ?_
     with_reducible refine (impl_decimal.calls (x.f1) t2 _ ?side1 A5.out).mono ?_
     (case side1 => exact Env_on HENV.out (below_step HB.out HR.out))
     rintro e w23 ⟨rfl,hb⟩
     refine ⟨_,rfl,?_⟩;have n1_ := Aside0.mk (blk_below BK.out hb);have n2_ := Aside0.mk (below_step HR.out hb);clear BK HR;have BK := n1_;have HR := n2_;clear n1_ n2_ hb;refine hK.out _ _ ⟨(blk_cell BK.out 0).trans rfl,(blk_cell BK.out 1).trans rfl⟩ (fun hHeld => ?_);clear hK K;refine norm_ (a' := ?_) ?_ ?_;rotate_left
     ·show Act.put _ (some 26) _ = _
      simp only [Act.put,List.setIfInBounds_toArray,List.set_cons_zero,List.set_cons_succ,i64_w,i32_w];rfl
     refine pure_ (i := 8) (N := some 27) (v := ?_) (a' := ?_) #[true,true,true,true,true,true,true,true,true,false,false] rfl rfl (any_of HT_.out (by kernel_rfl)) (fun _ _ _ h => h) (Or.inl ⟨by rfl,?_⟩) ?_ ?_;rotate_left
     ·intro w';go_simp;with_reducible rfl
     rotate_left
     ·simp only [Act.put,List.setIfInBounds_toArray,List.set_cons_zero,List.set_cons_succ,i64_w,i32_w];rfl
     refine pure_ (i := 9) (N := some 28) (v := ?_) (a' := ?_) #[true,true,true,true,true,true,true,true,true,true,false] rfl rfl (any_of HT_.out (by kernel_rfl)) (fun _ _ _ h => h) (Or.inl ⟨by rfl,?_⟩) ?_ ?_;rotate_left
     ·intro w';go_simp;with_reducible rfl
     rotate_left
     ·simp only [Act.put,List.setIfInBounds_toArray,List.set_cons_zero,List.set_cons_succ,i64_w,i32_w];rfl
     refine one_ (i := 10) (N := some 29) #[true,true,true,true,true,true,true,true,true,true,true] rfl rfl (one_of HT_.out (by kernel_rfl)) (by decide) (fun K hK => ?_);refine goes_ Tryd.func28 (by kernel_rfl) rfl #[.pointer (some ⟨gb,0,none⟩),.string s] (by rfl) rfl rfl (by rw [← A3'.out];(try simp only [List.map_toArray,List.map_cons,List.map_nil]);first | done | rfl) ?_;refine (Tryd.Builder_WriteString_k w.heap.size gb _ s _ (impl_LogText.kept HU.out HR.out) (by rw [Lib.byteCells_length];exact HL.out) (Nat.le_trans HS.out (below_size HR.out))).mono ?_
     rintro e w25 ⟨rfl,hbu,hb,hoth⟩
     refine ⟨_,rfl,?_⟩;have n0_ : Aside0 (Lib.IsBuilderF 58 5 w.heap.size gb (Lib.byteCells (acc ++ s).data.toList) w25) := ⟨by rw [← impl_LogText.cells];exact .inr hbu⟩;have n1_ := Aside0.mk (hoth ge _ BK.out (by intro h_;injection h_ with h_;have h1 := impl_LogText.lt HU.out;have := GE.out;omega) (by intro c fz h_;injection h_ with _ h_;exact absurd h_ (by decide)));have n2_ := Aside0.mk (((below_step HB.out HR.out)).trans hb);clear BK HR HU HB;have BK := n1_;have HB := n2_;have HU := n0_;clear n0_ n1_ n2_ hbu hb hoth;refine hK.out _ _ ⟨(blk_cell BK.out 0).trans rfl,(blk_cell BK.out 1).trans rfl⟩ (fun hHeld => ?_);clear hK K;refine norm_ (a' := ?_) ?_ ?_;rotate_left
     ·show Act.put _ (some 29) _ = _
      simp only [Act.put,List.setIfInBounds_toArray,List.set_cons_zero,List.set_cons_succ,i64_w,i32_w];rfl
     refine done_ (done_of HT_.out (by kernel_rfl)) ?_;(try go_wp2)
     have hwz : wrap64 (z + 1) = z + 1 := by have := HZ0.out;have := HZ3.out;have := HM.out;unfold wrap64;omega
     go_roundg (gk - 1)
     case measure => have := HZ2.out;have := HZ3.out;omega
     case rel => exact ⟨wrap64 (z + 1),acc ++ s,(by first | rfl | (simp only [IntKind.wrap_i64,wrap64];done) | (simp;done) | (simp [*];done)),⟨by rw [hwz];have := HZ0.out;have := HZ2.out;have := HZ3.out;refine ⟨by omega,by omega,by omega⟩⟩,⟨by rw [hwz,show (z + 1).toNat = z.toNat + 1 by have := HZ0.out;omega];exact H'.out⟩,HU,HB⟩
    | false =>
     rw [hq] at hx2 A3;simp only [Bool.false_eq_true,if_true,if_false] at A3;replace A3 := Option.some.inj A3
     have hs : t1.size + 4 + t2.size + 1 = s.size := by rw [← A3];simp only [ByteArray.size_append'];rfl
     have HSZ := Aside0.mk hs;have HL := Aside0.mk hlim;have A3' := Aside0.mk A3;clear A3 hs hlim
     go_wp2_with (first | ((with_reducible refine gate_dst (N := 5) rfl ?_);refine box_event ?hg (N := 5) ?hd (cs := #[.int .i64 0,.int .i64 0,.bool false]) (t := 34) ?hr ?_;(case hd => rfl);(case hg => rfl);(case hr => first | (go_simp;done) | (go_simp;rfl));intro ge hg w18 hbox hb;have n1_ := Aside0.mk (below_step (by repeat (first | (with_reducible first | exact HR.out | apply below_alloc | apply pw_below_drewN | apply below_drew1) | exact HR.out)) hb);have n2_ := Aside0.mk hbox;have n3_ := Aside0.mk ((by rw [hg];exact (below_size (by repeat (first | (with_reducible first | exact HR.out | apply below_alloc | apply pw_below_drewN | apply below_drew1) | exact HR.out)))) : wr.heap.size ≤ ge);clear HR;have HR := n1_;have BK := n2_;have GE := n3_;clear n1_ n2_ n3_;clear hb hbox hg;have hcz19_0 : w18.cell? ⟨ge,0,none⟩ = some (.int .i64 0) := (blk_cell BK.out 0).trans rfl;have hcz19_1 : w18.cell? ⟨ge,1,none⟩ = some (.int .i64 0) := (blk_cell BK.out 1).trans rfl;have hcz19_2 : w18.cell? ⟨ge,2,none⟩ = some (.bool false) := (blk_cell BK.out 2).trans rfl;have hfz19_0 := blk_frozen BK.out 0;have hfz19_1 := blk_frozen BK.out 1;have hfz19_2 := blk_frozen BK.out 2))
     have n0_ : Aside0 ((((w18.setCell ⟨ge,0,none⟩ (.int .i64 x.f0)).setCell ⟨ge,1,none⟩ (.int .i64 x.f1)).setCell ⟨ge,2,none⟩ (.bool false)).heap[ge]? = some (.cells #[.int .i64 x.f0,.int .i64 x.f1,.bool false] 34 (0,0))) := ⟨blk_put (cs := #[.int .i64 x.f0,.int .i64 x.f1,.bool false]) (blk_put (cs := #[.int .i64 x.f0,.int .i64 0,.bool false]) (blk_put (cs := #[.int .i64 0,.int .i64 0,.bool false]) BK.out 0 _ rfl) 1 _ rfl) 2 _ rfl⟩;have n1_ : Aside0 (Below wr.heap.size wr (((w18.setCell ⟨ge,0,none⟩ (.int .i64 x.f0)).setCell ⟨ge,1,none⟩ (.int .i64 x.f1)).setCell ⟨ge,2,none⟩ (.bool false))) := ⟨below_set (below_set (below_set HR.out GE.out) GE.out) GE.out⟩;clear hcz19_0 hcz19_1 hcz19_2 hfz19_0 hfz19_1 hfz19_2 BK HR;generalize (((w18.setCell ⟨ge,0,none⟩ (.int .i64 x.f0)).setCell ⟨ge,1,none⟩ (.int .i64 x.f1)).setCell ⟨ge,2,none⟩ (.bool false)) = w20 at n0_ n1_ ⊢;have HR := Aside0.mk (below_drew1 n1_.out);have BK := Aside0.mk (blk_drew n0_.out);clear n0_ n1_
     have hL1 : t1.size + 4 ≤ 9223372036854775807 := by have := HSZ.out;have := HL.out;omega
     have hL2 : t1.size + 4 + t2.size ≤ 9223372036854775807 := by have := HSZ.out;have := HL.out;omega
     have hL3 : t1.size + 4 + t2.size + 1 ≤ 9223372036854775807 := by have := HSZ.out;have := HL.out;omega
     have hL1b := eq_true hL1;have hL1d := eq_false (Nat.not_lt.2 hL1);have hL2b := eq_true hL2;have hL2d := eq_false (Nat.not_lt.2 hL2);have hL3b := eq_true hL3;have hL3d := eq_false (Nat.not_lt.2 hL3);have hL1c : decide (t1.size + 4 ≤ 9223372036854775807) = true := decide_eq_true hL1;have hL2c : decide (t1.size + 4 + t2.size ≤ 9223372036854775807) = true := decide_eq_true hL2;have hL3c : decide (t1.size + 4 + t2.size + 1 ≤ 9223372036854775807) = true := decide_eq_true hL3;clear hL1 hL2 hL3;refine start_ (n := 11) (S := fun w' => w'.cell? ⟨ge,0,none⟩ = some (.int .i64 x.f0) ∧ w'.cell? ⟨ge,1,none⟩ = some (.int .i64 x.f1)) (ds := []) #[false,false,false,false,false,false,false,false,false,false,false] (by kernel_rfl) rfl rfl ⟨(blk_cell BK.out 0).trans rfl,(blk_cell BK.out 1).trans rfl⟩ (fun hHeld => ?_);refine with_tabW impl_LogText.tab10 impl_LogText.bits10 (fun HT_ HW_ => ?_);generalize w20.drew = w21 at HR BK hHeld ⊢;refine pure_ (i := 0) (N := some 19) (v := ?_) (a' := ?_) #[true,false,false,false,false,false,false,false,false,false,false] rfl rfl (any_of HT_.out (by kernel_rfl)) (fun _ _ _ h => h) (Or.inl ⟨by rfl,?_⟩) ?_ ?_;rotate_left
     ·intro w';go_simp;with_reducible rfl
     rotate_left
     ·simp only [Act.put,List.setIfInBounds_toArray,List.set_cons_zero,List.set_cons_succ,i64_w,i32_w];rfl
     refine take_ (i := 1) (N := some 20) (v := ?_) (a' := ?_) #[true,true,false,false,false,false,false,false,false,false,false] rfl rfl (take_ofW HT_.out HW_.out (by kernel_rfl)) (fun _ _ _ h => h) (Or.inl ⟨by rfl,?_⟩) hHeld ?_ ?_;rotate_left
     ·rintro w' ⟨s0,s1⟩
      go_simp;with_reducible rfl
     rotate_left
     ·simp only [Act.put,List.setIfInBounds_toArray,List.set_cons_zero,List.set_cons_succ,i64_w,i32_w];rfl
     refine pure_ (i := 3) (N := some 22) (v := ?_) (a' := ?_) #[true,true,false,true,false,false,false,false,false,false,false] rfl rfl (any_of HT_.out (by kernel_rfl)) (fun _ _ _ h => h) (Or.inl ⟨by rfl,?_⟩) ?_ ?_;rotate_left
     ·intro w';go_simp;with_reducible rfl
     rotate_left
     ·simp only [Act.put,List.setIfInBounds_toArray,List.set_cons_zero,List.set_cons_succ,i64_w,i32_w];rfl
     refine pure_ (i := 5) (N := some 24) (v := ?_) (a' := ?_) #[true,true,false,true,false,true,false,false,false,false,false] rfl rfl (any_of HT_.out (by kernel_rfl)) (fun _ _ _ h => h) (Or.inl ⟨by rfl,?_⟩) ?_ ?_;rotate_left
     ·intro w';go_simp;with_reducible rfl
     rotate_left
     ·simp only [Act.put,List.setIfInBounds_toArray,List.set_cons_zero,List.set_cons_succ,i64_w,i32_w];rfl
     refine take_ (i := 6) (N := some 25) (v := ?_) (a' := ?_) #[true,true,false,true,false,true,true,false,false,false,false] rfl rfl (take_ofW HT_.out HW_.out (by kernel_rfl)) (fun _ _ _ h => h) (Or.inl ⟨by rfl,?_⟩) hHeld ?_ ?_;rotate_left
     ·rintro w' ⟨s0,s1⟩
      go_simp;with_reducible rfl
     rotate_left
     ·simp only [Act.put,List.setIfInBounds_toArray,List.set_cons_zero,List.set_cons_succ,i64_w,i32_w];rfl
     refine one_ (i := 2) (N := some 21) #[true,true,true,true,false,true,true,false,false,false,false] rfl rfl (one_of HT_.out (by kernel_rfl)) (by decide) (fun K hK => ?_);refine goes_ Tryd.func25 (by kernel_rfl) rfl #[.int .i64 (x.f0)] (by rfl) rfl rfl (by (try simp only [List.map_toArray,List.map_cons,List.map_nil]);first | done | rfl) ?_
     with_reducible refine (impl_decimal.calls (x.f0) t1 _ ?side1 A4.out).mono ?_
     (case side1 => exact Env_on HENV.out (below_step HB.out HR.out))
     rintro e w22 ⟨rfl,hb⟩
     refine ⟨_,rfl,?_⟩;have n1_ := Aside0.mk (blk_below BK.out hb);have n2_ := Aside0.mk (below_step HR.out hb);clear BK HR;have BK := n1_;have HR := n2_;clear n1_ n2_ hb;refine hK.out _ _ ⟨(blk_cell BK.out 0).trans rfl,(blk_cell BK.out 1).trans rfl⟩ (fun hHeld => ?_);clear hK K;refine norm_ (a' := ?_) ?_ ?_;rotate_left
     ·show Act.put _ (some 21) _ = _
      simp only [Act.put,List.setIfInBounds_toArray,List.set_cons_zero,List.set_cons_succ,i64_w,i32_w];rfl
     refine pure_ (i := 4) (N := some 23) (v := ?_) (a' := ?_) #[true,true,true,true,true,true,true,false,false,false,false] rfl rfl (any_of HT_.out (by kernel_rfl)) (fun _ _ _ h => h) (Or.inl ⟨by rfl,?_⟩) ?_ ?_;rotate_left
     ·intro w';go_simp;with_reducible rfl
     rotate_left
     ·simp only [Act.put,List.setIfInBounds_toArray,List.set_cons_zero,List.set_cons_succ,i64_w,i32_w];rfl
     refine one_ (i := 7) (N := some 26) #[true,true,true,true,true,true,true,true,false,false,false] rfl rfl (one_of HT_.out (by kernel_rfl)) (by decide) (fun K hK => ?_);refine goes_ Tryd.func25 (by kernel_rfl) rfl #[.int .i64 (x.f1)] (by rfl) rfl rfl (by (try simp only [List.map_toArray,List.map_cons,List.map_nil]);first | done | rfl) ?_
     with_reducible refine (impl_decimal.calls (x.f1) t2 _ ?side1 A5.out).mono ?_
     (case side1 => exact Env_on HENV.out (below_step HB.out HR.out))
     rintro e w23 ⟨rfl,hb⟩
     refine ⟨_,rfl,?_⟩;have n1_ := Aside0.mk (blk_below BK.out hb);have n2_ := Aside0.mk (below_step HR.out hb);clear BK HR;have BK := n1_;have HR := n2_;clear n1_ n2_ hb;refine hK.out _ _ ⟨(blk_cell BK.out 0).trans rfl,(blk_cell BK.out 1).trans rfl⟩ (fun hHeld => ?_);clear hK K;refine norm_ (a' := ?_) ?_ ?_;rotate_left
     ·show Act.put _ (some 26) _ = _
      simp only [Act.put,List.setIfInBounds_toArray,List.set_cons_zero,List.set_cons_succ,i64_w,i32_w];rfl
     refine pure_ (i := 8) (N := some 27) (v := ?_) (a' := ?_) #[true,true,true,true,true,true,true,true,true,false,false] rfl rfl (any_of HT_.out (by kernel_rfl)) (fun _ _ _ h => h) (Or.inl ⟨by rfl,?_⟩) ?_ ?_;rotate_left
     ·intro w';go_simp;with_reducible rfl
     rotate_left
     ·simp only [Act.put,List.setIfInBounds_toArray,List.set_cons_zero,List.set_cons_succ,i64_w,i32_w];rfl
     refine pure_ (i := 9) (N := some 28) (v := ?_) (a' := ?_) #[true,true,true,true,true,true,true,true,true,true,false] rfl rfl (any_of HT_.out (by kernel_rfl)) (fun _ _ _ h => h) (Or.inl ⟨by rfl,?_⟩) ?_ ?_;rotate_left
     ·intro w';go_simp;with_reducible rfl
     rotate_left
     ·simp only [Act.put,List.setIfInBounds_toArray,List.set_cons_zero,List.set_cons_succ,i64_w,i32_w];rfl
     refine one_ (i := 10) (N := some 29) #[true,true,true,true,true,true,true,true,true,true,true] rfl rfl (one_of HT_.out (by kernel_rfl)) (by decide) (fun K hK => ?_);refine goes_ Tryd.func28 (by kernel_rfl) rfl #[.pointer (some ⟨gb,0,none⟩),.string s] (by rfl) rfl rfl (by rw [← A3'.out];(try simp only [List.map_toArray,List.map_cons,List.map_nil]);first | done | rfl) ?_;refine (Tryd.Builder_WriteString_k w.heap.size gb _ s _ (impl_LogText.kept HU.out HR.out) (by rw [Lib.byteCells_length];exact HL.out) (Nat.le_trans HS.out (below_size HR.out))).mono ?_
     rintro e w25 ⟨rfl,hbu,hb,hoth⟩
     refine ⟨_,rfl,?_⟩;have n0_ : Aside0 (Lib.IsBuilderF 58 5 w.heap.size gb (Lib.byteCells (acc ++ s).data.toList) w25) := ⟨by rw [← impl_LogText.cells];exact .inr hbu⟩;have n1_ := Aside0.mk (hoth ge _ BK.out (by intro h_;injection h_ with h_;have h1 := impl_LogText.lt HU.out;have := GE.out;omega) (by intro c fz h_;injection h_ with _ h_;exact absurd h_ (by decide)));have n2_ := Aside0.mk (((below_step HB.out HR.out)).trans hb);clear BK HR HU HB;have BK := n1_;have HB := n2_;have HU := n0_;clear n0_ n1_ n2_ hbu hb hoth;refine hK.out _ _ ⟨(blk_cell BK.out 0).trans rfl,(blk_cell BK.out 1).trans rfl⟩ (fun hHeld => ?_);clear hK K;refine norm_ (a' := ?_) ?_ ?_;rotate_left
     ·show Act.put _ (some 29) _ = _
      simp only [Act.put,List.setIfInBounds_toArray,List.set_cons_zero,List.set_cons_succ,i64_w,i32_w];rfl
     refine done_ (done_of HT_.out (by kernel_rfl)) ?_;(try go_wp2)
     have hwz : wrap64 (z + 1) = z + 1 := by have := HZ0.out;have := HZ3.out;have := HM.out;unfold wrap64;omega
     go_roundg (gk - 1)
     case measure => have := HZ2.out;have := HZ3.out;omega
     case rel => exact ⟨wrap64 (z + 1),acc ++ s,(by first | rfl | (simp only [IntKind.wrap_i64,wrap64];done) | (simp;done) | (simp [*];done)),⟨by rw [hwz];have := HZ0.out;have := HZ2.out;have := HZ3.out;refine ⟨by omega,by omega,by omega⟩⟩,⟨by rw [hwz,show (z + 1).toNat = z.toNat + 1 by have := HZ0.out;omega];exact H'.out⟩,HU,HB⟩
   ·have c7b0 : decide (z < (l0.length : Int)) = false := decide_eq_false c7;have H := HA.out;clear HA;rw [List.drop_eq_nil_of_le (by omega)] at H;obtain rfl := Option.some.inj H;clear H
    go_wp2_with (first | ((with_reducible refine gate_callee (f := 29) rfl ?_);refine goesL_ (some 31) rfl rfl Tryd.func29 (by kernel_rfl) rfl #[.pointer (some ⟨gb,0,none⟩)] rfl (by (try simp only [List.map_toArray,List.map_cons,List.map_nil]);first | done | rfl) ?_;(refine (Tryd.Builder_String_any_k w.heap.size gb acc.data.toList _ (impl_LogText.kept HU.out (by repeat (first | exact Below.refl _ _ | apply below_alloc | apply pw_below_drewN | apply below_drew1))) (below_size (by repeat (first | (with_reducible first | exact HB.out | apply below_alloc | apply pw_below_drewN | apply below_drew1) | exact HB.out)))).mono ?_);rintro e w28 ⟨rfl,_,hb,_⟩;refine ⟨_,rfl,?_⟩;have n0_ := Aside0.mk ((show Below w.heap.size w _ from (by repeat (first | (with_reducible first | exact HB.out | apply below_alloc | apply pw_below_drewN | apply below_drew1) | exact HB.out))).trans hb);clear HB;have HB := n0_;clear n0_ hb))
    go_ret
    exact ⟨by simp,by repeat (first | (with_reducible first | exact HB.out | apply below_alloc | apply pw_below_drewN | apply below_drew1) | exact HB.out)⟩
end Go.Proofs.YtmcfbnglocojkaaDoor.G
end

section
namespace Go.Proofs.YtmcfbnglocojkaaDoor.G
open Go.RowKit Go.Proofs.YtmcfbnglocojkaaDoorW.PrintWords Go.Proofs.YtmcfbnglocojkaaDoorW.PrintLast Go.Proofs.YtmcfbnglocojkaaDoorW.PrintMore
attribute [local go_sem] max2_int min2_int max_two min_two max_three min_three max_four min_four
set_option linter.unusedVariables false
set_option linter.unusedSimpArgs false
def impl_number.is (a0 : ByteArray) (a1 : Int) (v : Int) : Bool := decide (Lib.itoa v = a0.data.toList) && (decide (0 ≤ v) && decide (v ≤ a1))
def impl_number.f (a0 : ByteArray) (a1 : Int) : Option (Int × Bool) := if a0.size ≤ 281474976710656 then (match Lib.parseIntB 64 a0.data.toList with
 | .ok v => if impl_number.is a0 a1 v = true then some (v,true) else some (0,false)
 | _ => some (0,false)) else none
set_option maxHeartbeats 4000000 in
set_option maxRecDepth 100000 in
theorem impl_number.calls (a0 : ByteArray) (a1 : Int) (r1 : Int) (r2 : Bool) (w : World) (henv : Env w) (h : impl_number.f a0 a1 = some (r1,r2)) :
  Calls Tryd.prog 15 #[.string a0,.int .i64 a1] w fun e w' => e = .returned (.tuple #[.int .i64 r1,.bool r2]) ∧ Below w.heap.size w w' := by
 unfold impl_number.f at h
 split at h
 ·rename_i hsz
  obtain ⟨ts,ps,hs⟩ := (Env_here henv).syn;obtain ⟨tr,pr,hr⟩ := (Env_here henv).rng;have HE := Aside0.mk henv
  cases hp : Lib.parseIntB 64 a0.data.toList with
  | «syntax» =>
   rw [hp] at h;simp only [Option.some.injEq,Prod.mk.injEq] at h;obtain ⟨rfl,rfl⟩ := h;have c := Tryd.strconv_ParseInt_10_at64_syntax_var a0 hsz hp ts ps w hs;clear hs hr henv hp hsz
   go_enter Tryd.func15,Tryd.ntmps15
   go_wp2_with (go_at_call 24;refine c.mono ?_;rintro e w1 ⟨n1,rfl,_,_,hb⟩;have HB := Aside0.mk hb;clear hb)
   go_ret2
   exact ⟨rfl,HB.out⟩
  | range =>
   rw [hp] at h;simp only [Option.some.injEq,Prod.mk.injEq] at h;obtain ⟨rfl,rfl⟩ := h;have c := Tryd.strconv_ParseInt_10_at64_range_var a0 hsz hp tr pr w hr;clear hs hr henv hp hsz
   go_enter Tryd.func15,Tryd.ntmps15
   go_wp2_with (go_at_call 24;refine c.mono ?_;rintro e w1 ⟨n1,rfl,_,_,hb⟩;have HB := Aside0.mk hb;clear hb)
   go_ret2
   exact ⟨rfl,HB.out⟩
  | ok v =>
   rw [hp] at h;simp only at h
   have hbd : -9223372036854775808 ≤ v ∧ v ≤ 9223372036854775807 := by
    have := Lib.parseIntB_bounds hp;rw [show ((2 ^ (64 - 1) : Nat) : Int) = 9223372036854775808 from by decide] at this
    omega
   have c := Tryd.strconv_ParseInt_10_at64_ok a0 (by omega) v hp w
   have hdec : ∀ W : World,Below w.heap.size w W → Calls Tryd.prog 25 #[.int .i64 v] W fun e w' => e = .returned (.string ⟨(Lib.itoa v).toArray⟩) ∧ Below W.heap.size W w' := fun W hb => impl_decimal.calls v _ W (Env_on HE.out hb) (by unfold impl_decimal.f;rw [if_pos (by omega),if_pos (by omega)])
   have hwi := impl_within.calls v 0 a1 (decide (0 ≤ v) && decide (v ≤ a1))
   have hwf : impl_within.f v 0 a1 = some (decide (0 ≤ v) && decide (v ≤ a1)) := by
    unfold impl_within.f
    split <;> simp [*]
   have HD := Aside0.mk hdec;have HW := Aside0.mk (fun W => hwi W hwf);clear hs hr henv hp hsz hdec hwi hwf
   go_enter Tryd.func15,Tryd.ntmps15
   go_wp2_with (first | (go_at_call 24;refine c.mono ?_;rintro e w1 ⟨rfl,hw1⟩;have HB := Aside0.mk (show Below w.heap.size w w1 from hw1.elim (fun e => e ▸ Below.refl _ _) (fun ⟨t,e⟩ => e ▸ Lib.bytesWorld_below _ _ _));clear hw1) | (go_at_call 25;refine (HD.out _ HB.out).mono ?_;rintro e w2 ⟨rfl,hb2⟩;have HB2 := Aside0.mk (below_step HB.out hb2);clear hb2) | (go_at_call 26;refine (HW.out _).mono ?_;rintro e w3 ⟨rfl,hd⟩))
   all_goals
    go_ret2
    clear c HD HW HE;refine ⟨?_,by first | exact HB2.out | exact below_step HB2.out hd.below⟩
    unfold impl_number.is at h
    clear HB HB2
    by_cases e0 : Lib.itoa v = a0.data.toList <;> by_cases e1 : 0 ≤ v <;> by_cases e2 : v ≤ a1 <;> simp_all [ByteArray.toList_eq] <;> omega
 ·cases h
end Go.Proofs.YtmcfbnglocojkaaDoor.G
end

section
namespace Go.Proofs.YtmcfbnglocojkaaDoor.G
open Go.RowKit Go.Proofs.YtmcfbnglocojkaaDoorW.PrintWords Go.Proofs.YtmcfbnglocojkaaDoorW.PrintLast Go.Proofs.YtmcfbnglocojkaaDoorW.PrintMore
attribute [local go_sem] max2_int min2_int max_two min_two max_three min_three max_four min_four
set_option linter.unusedVariables false
set_option linter.unusedSimpArgs false
def strings_Split.f (a0 a1 : ByteArray) : Option (List ByteArray) := if a0.size < 4294967281 then (if 1 ≤ a1.size then some (Lib.splitB a1 0 (Lib.countB a0 a1) a0) else none) else none
theorem strings_Split.calls (a0 : ByteArray) (a1 : ByteArray) (r : List ByteArray) (w : World) (henv : Env w) (h : strings_Split.f a0 a1 = some r) :
  Calls Tryd.prog 13 #[.string a0,.string a1] w fun e w' => ∃ v0_ : Value,e = .returned (v0_) ∧ Kd.R Kd.string 9 w' w.heap.size (fun _ => True) v0_ r ∧ Below w.heap.size w w' := by
 unfold strings_Split.f at h
 split at h
 ·split at h
  ·rename_i h0 h1
   obtain rfl := Option.some.inj h;obtain ⟨m,hm⟩ := (Env_here henv).maxlen;have hlen := Lib.splitB_all a1 h1 0 _ a0 rfl;have hle := Lib.countB_le a1 h1 a0.size a0 (Nat.le_refl _);refine (Tryd.strings_Split a0 a1 m w h0 hm h1).mono ?_
   rintro e w' ⟨rfl,rfl⟩
   refine ⟨_,rfl,Kd.R_of_own (enc := Value.string) ⟨?_,.inr ⟨w.heap.size,Lib.countB a0 a1 + 1,_,by rw [hlen],Nat.le_refl _,heap_alloc_new w _,?_,?_,?_,?_⟩⟩ (fun _ _ => trivial),below_alloc (Below.refl _ _) _⟩
   ·simp [encs]
   ·omega
   ·unfold maxLen
    omega
   ·simp [hlen]
   ·rw [Nat.mul_one];simp only [encs];exact List.take_of_length_le (by simp)
  ·cases h
 ·cases h
end Go.Proofs.YtmcfbnglocojkaaDoor.G
end

section
namespace Go.Proofs.YtmcfbnglocojkaaDoor.G
open Go.RowKit Go.Proofs.YtmcfbnglocojkaaDoorW.PrintWords Go.Proofs.YtmcfbnglocojkaaDoorW.PrintLast Go.Proofs.YtmcfbnglocojkaaDoorW.PrintMore
attribute [local go_sem] max2_int min2_int max_two min_two max_three min_three max_four min_four
set_option linter.unusedVariables false
set_option linter.unusedSimpArgs false
def stringslite_HasSuffix.f (a0 : ByteArray) (a1 : ByteArray) : Option (Bool) := if (a0.size : Int) ≥ (a1.size : Int) then (if 0 ≤ (wrap64 ((a0.size : Int) - (a1.size : Int))) then (if (wrap64 ((a0.size : Int) - (a1.size : Int))) ≤ (a0.size : Int) then (some ((a0.extract ((wrap64 ((a0.size : Int) - (a1.size : Int))) : Int).toNat a0.size).toList == a1.toList)) else (none)) else (none)) else (some false)
set_option maxHeartbeats 8000000 in
set_option maxRecDepth 100000 in
theorem stringslite_HasSuffix.calls (a0 : ByteArray) (a1 : ByteArray) (r : Bool) (w : World) (h : stringslite_HasSuffix.f a0 a1 = some r) :
  Calls Tryd.prog 34 #[.string a0,.string a1] w fun e w' => e = .returned (.bool r) ∧ Drawn0 w w' := by
 have H : (if (a0.size : Int) ≥ (a1.size : Int) then (if 0 ≤ (wrap64 ((a0.size : Int) - (a1.size : Int))) then (if (wrap64 ((a0.size : Int) - (a1.size : Int))) ≤ (a0.size : Int) then (some ((a0.extract ((wrap64 ((a0.size : Int) - (a1.size : Int))) : Int).toNat a0.size).toList == a1.toList)) else (none)) else (none)) else (some false)) = some r := h;clear h
 by_cases c3 : (a0.size : Int) ≥ (a1.size : Int)
 ·rw [if_pos c3] at H;have c3b0 : decide ((a1.size : Int) ≤ (a0.size : Int)) = true := decide_eq_true c3;have c3b1 : decide (a1.size ≤ a0.size) = true := decide_eq_true (Int.ofNat_le.mp c3);clear c3;obtain ⟨ji4,hji4⟩ : ∃ j_ : Int,(wrap64 ((a0.size : Int) - (a1.size : Int))) = j_ := ⟨_,rfl⟩
  replace H : (if 0 ≤ (ji4) then (if (ji4) ≤ (a0.size : Int) then (some ((a0.extract ((ji4) : Int).toNat a0.size).toList == a1.toList)) else (none)) else (none)) = some r := by first | (rw [hji4] at H;exact H) | (simp only [hji4] at H ⊢;exact H)
  have hji4w : (IntKind.i64.wrap ((a0.size : Int) - (a1.size : Int))) = ji4 := (i64_w _).trans hji4
  by_cases c5 : 0 ≤ (ji4)
  ·rw [if_pos c5] at H;have c5b0 := eq_true c5;have c5b1 : decide (0 ≤ (ji4)) = true := decide_eq_true c5;clear c5
   by_cases c6 : (ji4) ≤ (a0.size : Int)
   ·rw [if_pos c6] at H;have c6b0 := eq_true c6;have c6b1 : decide ((ji4) ≤ (a0.size : Int)) = true := decide_eq_true c6;clear c6;obtain rfl := Option.some.inj H
    go_enter Tryd.func34,Tryd.ntmps34
    go_wp2
    go_ret
    exact ⟨by first | rfl | (simp only [IntKind.wrap_i64,wrap64];done) | (simp;done) | (simp only [← hji4] <;> (first | rfl | simp)) | (simp [*];done),by repeat (first | exact Drawn0.refl _ | apply Drawn0.step)⟩
   ·rw [if_neg c6] at H;exact absurd H (by simp)
  ·rw [if_neg c5] at H;exact absurd H (by simp)
 ·rw [if_neg c3] at H;have c3b0 : decide ((a1.size : Int) ≤ (a0.size : Int)) = false := decide_eq_false c3;have c3b1 : decide (a1.size ≤ a0.size) = false := decide_eq_false (fun h => c3 (Int.ofNat_le.mpr h));clear c3;obtain rfl := Option.some.inj H
  go_enter Tryd.func34,Tryd.ntmps34
  go_wp2
  go_ret
  exact ⟨by first | rfl | (simp only [IntKind.wrap_i64,wrap64];done) | (simp;done) | (simp [*];done),by repeat (first | exact Drawn0.refl _ | apply Drawn0.step)⟩
end Go.Proofs.YtmcfbnglocojkaaDoor.G
end

section
namespace Go.Proofs.YtmcfbnglocojkaaDoor.G
open Go.RowKit Go.Proofs.YtmcfbnglocojkaaDoorW.PrintWords Go.Proofs.YtmcfbnglocojkaaDoorW.PrintLast Go.Proofs.YtmcfbnglocojkaaDoorW.PrintMore
attribute [local go_sem] max2_int min2_int max_two min_two max_three min_three max_four min_four
set_option linter.unusedVariables false
set_option linter.unusedSimpArgs false
def stringslite_TrimSuffix.f (a0 : ByteArray) (a1 : ByteArray) : Option (ByteArray) := (stringslite_HasSuffix.f a0 a1).bind fun t101 => (if t101 = true then (if 0 ≤ (wrap64 ((a0.size : Int) - (a1.size : Int))) then (if (wrap64 ((a0.size : Int) - (a1.size : Int))) ≤ (a0.size : Int) then (some (a0.extract 0 ((wrap64 ((a0.size : Int) - (a1.size : Int))) : Int).toNat)) else (none)) else (none)) else (some a0))
set_option maxHeartbeats 8000000 in
set_option maxRecDepth 100000 in
theorem stringslite_TrimSuffix.calls (a0 : ByteArray) (a1 : ByteArray) (r : ByteArray) (w : World) (h : stringslite_TrimSuffix.f a0 a1 = some r) :
  Calls Tryd.prog 23 #[.string a0,.string a1] w fun e w' => e = .returned (.string r) ∧ Drawn0 w w' := by
 have H : ((stringslite_HasSuffix.f a0 a1).bind fun t101 => (if t101 = true then (if 0 ≤ (wrap64 ((a0.size : Int) - (a1.size : Int))) then (if (wrap64 ((a0.size : Int) - (a1.size : Int))) ≤ (a0.size : Int) then (some (a0.extract 0 ((wrap64 ((a0.size : Int) - (a1.size : Int))) : Int).toNat)) else (none)) else (none)) else (some a0))) = some r := h;clear h;replace H := Option.bind_eq_some_iff.mp H;obtain ⟨t101,A30,H⟩ := H;replace H : (if t101 = true then (if 0 ≤ (wrap64 ((a0.size : Int) - (a1.size : Int))) then (if (wrap64 ((a0.size : Int) - (a1.size : Int))) ≤ (a0.size : Int) then (some (a0.extract 0 ((wrap64 ((a0.size : Int) - (a1.size : Int))) : Int).toNat)) else (none)) else (none)) else (some a0)) = some r := H;have A3 := Aside0.mk A30;clear A30
 by_cases c4 : t101 = true
 ·subst c4
  have H1 : (if 0 ≤ (wrap64 ((a0.size : Int) - (a1.size : Int))) then (if (wrap64 ((a0.size : Int) - (a1.size : Int))) ≤ (a0.size : Int) then (some (a0.extract 0 ((wrap64 ((a0.size : Int) - (a1.size : Int))) : Int).toNat)) else (none)) else (none)) = some r := by rw [if_pos rfl] at H;exact H
  clear H;have H := H1;clear H1;obtain ⟨ji5,hji5⟩ : ∃ j_ : Int,(wrap64 ((a0.size : Int) - (a1.size : Int))) = j_ := ⟨_,rfl⟩
  replace H : (if 0 ≤ (ji5) then (if (ji5) ≤ (a0.size : Int) then (some (a0.extract 0 ((ji5) : Int).toNat)) else (none)) else (none)) = some r := by first | (rw [hji5] at H;exact H) | (simp only [hji5] at H ⊢;exact H)
  (try rw [hji5] at A3);have hji5w : (IntKind.i64.wrap ((a0.size : Int) - (a1.size : Int))) = ji5 := (i64_w _).trans hji5
  by_cases c6 : 0 ≤ (ji5)
  ·rw [if_pos c6] at H;have c6b0 := eq_true c6;have c6b1 : decide (0 ≤ (ji5)) = true := decide_eq_true c6;clear c6
   by_cases c7 : (ji5) ≤ (a0.size : Int)
   ·rw [if_pos c7] at H;have c7b0 := eq_true c7;have c7b1 : decide ((ji5) ≤ (a0.size : Int)) = true := decide_eq_true c7;clear c7;obtain rfl := Option.some.inj H
    go_enter Tryd.func23,Tryd.ntmps23
    go_wp2_with (first | ((with_reducible refine gate_callee (f := 34) rfl ?_);refine goesL_ (some 7) rfl rfl Tryd.func34 (by kernel_rfl) rfl #[.string a0,.string a1] rfl (by (try simp only [List.map_toArray,List.map_cons,List.map_nil]);first | done | rfl | (simp only [List.length_drop,List.length_take];rfl)) ?_;(with_reducible refine (stringslite_HasSuffix.calls a0 a1 true _ A3.out).mono ?_);rintro e w' ⟨rfl,⟨nd,rfl⟩⟩;refine ⟨_,rfl,?_⟩))
    go_ret
    exact ⟨by first | rfl | (simp only [IntKind.wrap_i64,wrap64];done) | (simp;done) | (simp only [← hji5] <;> (first | rfl | simp)) | (simp [*];done),by repeat (first | exact Drawn0.refl _ | apply Drawn0.step)⟩
   ·rw [if_neg c7] at H;exact absurd H (by simp)
  ·rw [if_neg c6] at H;exact absurd H (by simp)
 ·replace c4 := Bool.eq_false_iff.mpr c4;subst c4
  have H1 : (some a0) = some r := by rw [if_neg (show ¬ (false = true) by decide)] at H;exact H
  clear H;have H := H1;clear H1;obtain rfl := Option.some.inj H
  go_enter Tryd.func23,Tryd.ntmps23
  go_wp2_with (first | ((with_reducible refine gate_callee (f := 34) rfl ?_);refine goesL_ (some 7) rfl rfl Tryd.func34 (by kernel_rfl) rfl #[.string a0,.string a1] rfl (by (try simp only [List.map_toArray,List.map_cons,List.map_nil]);first | done | rfl | (simp only [List.length_drop,List.length_take];rfl)) ?_;(with_reducible refine (stringslite_HasSuffix.calls a0 a1 false _ A3.out).mono ?_);rintro e w' ⟨rfl,⟨nd,rfl⟩⟩;refine ⟨_,rfl,?_⟩))
  go_ret
  exact ⟨by first | rfl | (simp only [IntKind.wrap_i64,wrap64];done) | (simp;done) | (simp [*];done),by repeat (first | exact Drawn0.refl _ | apply Drawn0.step)⟩
end Go.Proofs.YtmcfbnglocojkaaDoor.G
end

section
namespace Go.Proofs.YtmcfbnglocojkaaDoor.G
open Go.RowKit Go.Proofs.YtmcfbnglocojkaaDoorW.PrintWords Go.Proofs.YtmcfbnglocojkaaDoorW.PrintLast Go.Proofs.YtmcfbnglocojkaaDoorW.PrintMore
attribute [local go_sem] max2_int min2_int max_two min_two max_three min_three max_four min_four
set_option linter.unusedVariables false
set_option linter.unusedSimpArgs false
def strings_TrimSuffix.f (a0 : ByteArray) (a1 : ByteArray) : Option (ByteArray) := (stringslite_TrimSuffix.f a0 a1).bind fun t101 => (some t101)
set_option maxHeartbeats 8000000 in
set_option maxRecDepth 100000 in
theorem strings_TrimSuffix.calls (a0 : ByteArray) (a1 : ByteArray) (r : ByteArray) (w : World) (h : strings_TrimSuffix.f a0 a1 = some r) :
  Calls Tryd.prog 14 #[.string a0,.string a1] w fun e w' => e = .returned (.string r) ∧ Drawn0 w w' := by
 have H : ((stringslite_TrimSuffix.f a0 a1).bind fun t101 => (some t101)) = some r := h;clear h;replace H := Option.bind_eq_some_iff.mp H;obtain ⟨t101,A30,H⟩ := H;replace H : (some t101) = some r := H;have A3 := Aside0.mk A30;clear A30;obtain rfl := Option.some.inj H
 go_enter Tryd.func14,Tryd.ntmps14
 go_wp2_with (first | ((with_reducible refine gate_callee (f := 23) rfl ?_);refine goesL_ (some 7) rfl rfl Tryd.func23 (by kernel_rfl) rfl #[.string a0,.string a1] rfl (by (try simp only [List.map_toArray,List.map_cons,List.map_nil]);first | done | rfl | (simp only [List.length_drop,List.length_take];rfl)) ?_;(with_reducible refine (stringslite_TrimSuffix.calls a0 a1 t101 _ A3.out).mono ?_);rintro e w' ⟨rfl,⟨nd,rfl⟩⟩;refine ⟨_,rfl,?_⟩))
 go_ret
 exact ⟨by first | rfl | (simp only [IntKind.wrap_i64,wrap64];done) | (simp;done) | (simp [*];done),by repeat (first | exact Drawn0.refl _ | apply Drawn0.step)⟩
end Go.Proofs.YtmcfbnglocojkaaDoor.G
end

section
namespace Go.Proofs.YtmcfbnglocojkaaDoor.G
open Go.RowKit Go.Proofs.YtmcfbnglocojkaaDoorW.PrintWords Go.Proofs.YtmcfbnglocojkaaDoorW.PrintLast Go.Proofs.YtmcfbnglocojkaaDoorW.PrintMore
attribute [local go_sem] max2_int min2_int max_two min_two max_three min_three max_four min_four
set_option linter.unusedVariables false
set_option linter.unusedSimpArgs false
def impl_ReadLog.boxPost {α : Type} (box : Nat) (I Ix : List α → World → Prop) (xs : List α) (W : World) : Exit → Act → World → Prop
  | .normal, _, W' => KeepsOthers W W' ∧ W'.heap[box]? = W.heap[box]? ∧ I xs W'
  | .ret, _, W' => KeepsOthers W W' ∧ Ix xs W'
  | _, _, _ => False
theorem impl_ReadLog.heap_kept {W W' : World} {box k : Nat} {o : Obj} (hg : W.grownBy W' (some box)) (hne : k ≠ box) (h : W.heap[k]? = some o) : W'.heap[k]? = some o :=
  (hg.block k (Array.getElem?_eq_some_iff.1 h).1 (fun e => hne (by cases e; rfl))).trans h
theorem impl_ReadLog.range_boxed {α : Type} {F : Fence} {n : Nat} {P : Program} {g : Operand} {ps : Array Tmp} {assign body : Code} {Q : Exit → Act → World → Prop} {a : Act} {w : World}
    (hro : F.round = none) (h1 : 1 ≤ n) {gf : Nat} {lb : Array Value} (hg : a.eval g = .func (.func gf) #[] lb) (hFg : F.fn gf) (eg : ∀ args w, (callFunc gf args).run P w = .ok (.enter gf args) w)
    {encs : α → Array Value} (hps : ∀ x, (encs x).size = ps.size) {ok : List α → α → Prop} {S : List α → Prop} {box : Nat} (hbox : box < w.heap.size)
    (hseq : ∀ (l : Nat) (J Jx : List α → World → Prop) (W : World), W.heap[box]? = w.heap[box]? → (∀ s A B, J s A → A.grownBy B (some box) → J s B) → (∀ s A B, Jx s A → A.grownBy B (some box) → Jx s B) →
      (∀ pre x W1, J pre W1 → ok pre x → YieldAt F (n - 1 - 1) P l (encs x) W1 fun e W' => (e = .returned (.bool true) ∧ J (pre ++ [x]) W' ∧ W'.heap[box]? = W1.heap[box]?) ∨ (e = .returned (.bool false) ∧ Jx (pre ++ [x]) W')) → J [] W →
      CallsIn F (n - 1) P gf (#[.func (.yield l) #[] #[]] ++ lb) W fun e W' => (∃ v, e = .returned v) ∧ ((∃ xs, S xs ∧ J xs W') ∨ ∃ pre, Jx pre W'))
    (I Ix : List α → World → Prop) (hI : OwnFrom w.heap.size I) (hIx : OwnFrom w.heap.size Ix) (hIs : ∀ s A B, I s A → A.grownBy B (some box) → I s B) (hXs : ∀ s A B, Ix s A → A.grownBy B (some box) → Ix s B) (h0 : I [] w) (a₁ : α → Act)
    (hassign : ∀ (l : Nat) (x : α) (W : World) (K : Act → World → Prop), K (a₁ x) W →
      assign.wpIn (F.inRound l) (n - 1 - 1) P (Exit.then K (fun _ _ _ => False)) { tmps := (ps.zip (encs x)).foldl (fun t (p, v) => t.setIfInBounds p v) a.tmps, defers := [] } W)
    (hbody : ∀ (l : Nat) (pre : List α) (x : α) (W : World), I pre W → ok pre x → body.wpIn (F.inRound l) (n - 1 - 1) P (impl_ReadLog.boxPost box I Ix (pre ++ [x]) W) (a₁ x) W)
    (hdone : ∀ (D : Nat) (xs : List α) (W : World), w.heap.size ≤ D → S xs → I xs W → W.heap[D]? = some (.deferred (some [])) → Q .normal { a with defers := { target := .collected D, args := #[] } :: a.defers } W)
    (hstop : ∀ (D : Nat) (pre : List α) (W : World), w.heap.size ≤ D → Ix pre W → W.heap[D]? = some (.deferred (some [])) → Code.ret.wpIn F n P Q { a with defers := { target := .collected D, args := #[] } :: a.defers } W) :
    (Code.rangeFunc g ps assign body).wpIn F n P Q a w := by
  refine wpIn_rangeFunc fun fn hfn => ?_
  rw [hro]
  obtain ⟨rec, hrec⟩ : ∃ rec : LoopState → Option Code → Loop, rec = fun st pe => { state := st, pending := pe, fn, tmps := a.tmps, params := ps, assign, body, defers := w.heap.size } := ⟨_, rfl⟩
  obtain ⟨V, hV⟩ : ∃ V, (w.alloc (.deferred (some []))).alloc (.loop (rec .ready none)) = V := ⟨_, rfl⟩
  have sz : V.heap.size = w.heap.size + 2 := by rw [← hV]; simp
  have vL : V.heap[w.heap.size + 1]? = some (.loop (rec .ready none)) := by
    rw [← hV]
    have := World.alloc_heap_new (w.alloc (.deferred (some []))) (.loop (rec .ready none))
    rwa [World.size_alloc] at this
  have vD : V.heap[w.heap.size]? = some (.deferred (some [])) := by
    rw [← hV]
    exact (Below.heap_alloc _ _ _ (by simp)).trans (World.alloc_heap_new w _)
  have vI : I [] V := by
    rw [← hV]
    exact hI.alloc _ (hI.alloc _ h0)
  have vB : V.heap[box]? = w.heap[box]? := by
    rw [← hV]
    exact (Below.heap_alloc _ _ _ (by simp; omega)).trans (Below.heap_alloc _ _ _ hbox)
  refine ⟨w.heap.size + 1, [{ target := .collected w.heap.size, args := #[] }], V, { target := .fn (.func gf) lb, args := #[.func (.yield (w.heap.size + 1)) #[] #[]] }, V, gf,
    #[.func (.yield (w.heap.size + 1)) #[] #[]] ++ lb, V, ?_, ?_, ?_, ?_, fun _ => h1, ?_⟩
  · rw [← hV, hrec]
    exact run_enterLoop_outer _ _ _ _ _
  · simp only [resolve, hg]
    simp [go_sem]
  · intro f' hf'
    simp [Target.leads] at hf'
    subst hf'
    exact hFg
  · simp [invoke, go_sem, eg]
  refine (hseq (w.heap.size + 1)
    (fun pre W => I pre W ∧ W.heap[w.heap.size + 1]? = some (.loop (rec .ready none)) ∧ W.heap[w.heap.size]? = some (.deferred (some [])))
    (fun pre W => Ix pre W ∧ W.heap[w.heap.size + 1]? = some (.loop (rec .done (some .ret))) ∧ W.heap[w.heap.size]? = some (.deferred (some [])))
    V vB (fun s A B h hg => ⟨hIs s A B h.1 hg, impl_ReadLog.heap_kept hg (by omega) h.2.1, impl_ReadLog.heap_kept hg (by omega) h.2.2⟩) (fun s A B h hg => ⟨hXs s A B h.1 hg, impl_ReadLog.heap_kept hg (by omega) h.2.1, impl_ReadLog.heap_kept hg (by omega) h.2.2⟩) ?_ ⟨vI, vL, vD⟩).mono ?_
  · rintro pre x W ⟨hi, hl, hd⟩ hok
    have hy := run_yield (P := P) (args := encs x) hl (by rw [hrec]; exact hps x)
    rw [hrec] at hy
    refine ⟨fn, _, assign, body, hy, roundIn_of_wpIn hfn (hassign _ x W _ ⟨_, run_beginRound hl (by rw [hrec]), ?_⟩)⟩
    have hlt : w.heap.size + 1 < W.heap.size := (Array.getElem?_eq_some_iff.1 hl).1
    obtain ⟨U, hU⟩ : ∃ U, W.putObj (w.heap.size + 1) (.loop { rec .ready none with state := .busy }) = U := ⟨_, rfl⟩
    have uL : U.heap[w.heap.size + 1]? = some (.loop { rec .ready none with state := .busy }) := by rw [← hU]; exact World.putObj_heap_same hlt
    have uD : U.heap[w.heap.size]? = some (.deferred (some [])) := by rw [← hU]; exact (World.putObj_heap_other (by omega)).trans hd
    have uB : U.heap[box]? = W.heap[box]? := by rw [← hU]; exact World.putObj_heap_other (by omega)
    have uI : I pre U := by rw [← hU]; exact hI.putObj _ hi (by omega) hl rfl
    rw [hU]
    refine wpIn_mono (hbody _ pre x U uI hok) ?_
    have fin : ∀ (jump : Option Code) (X : World), KeepsOthers U X → ∃ Y, (Instr.endRound (w.heap.size + 1) jump).run P X = .ok (.bool jump.isNone) Y ∧
        Y = X.putObj (w.heap.size + 1) (.loop (rec (if jump.isNone then .ready else .done) jump)) ∧ X.heap[w.heap.size + 1]? = some (.loop { rec .ready none with state := .busy }) ∧
        Y.heap[w.heap.size + 1]? = some (.loop (rec (if jump.isNone then .ready else .done) jump)) ∧ Y.heap[w.heap.size]? = some (.deferred (some [])) := fun jump X hk => by
      have xL := hk.same _ _ uL rfl
      have xD := hk.same _ _ uD rfl
      have := run_endRound (P := P) jump xL
      rw [hrec] at this
      refine ⟨_, this, by rw [hrec], xL, ?_, (World.putObj_heap_other (by omega)).trans xD⟩
      rw [hrec]
      exact World.putObj_heap_same (Array.getElem?_eq_some_iff.1 xL).1
    rintro e a3 X hp
    cases e with
    | normal =>
      obtain ⟨hk, hb, hi3⟩ := hp
      obtain ⟨Y, hr, rfl, xL, yL, yD⟩ := fin none X hk
      exact ⟨_, _, hr, .inl ⟨rfl, ⟨hI.putObj _ hi3 (by omega) xL rfl, yL, yD⟩, ((World.putObj_heap_other (by omega)).trans hb).trans uB⟩⟩
    | ret =>
      obtain ⟨hk, hi3⟩ := hp
      obtain ⟨Y, hr, rfl, xL, yL, yD⟩ := fin (some .ret) X hk
      exact ⟨_, _, hr, .inr ⟨rfl, hIx.putObj _ hi3 (by omega) xL rfl, yL, yD⟩⟩
    | exit id => exact hp.elim
    | goto t => exact hp.elim
    | panic ch => exact hp.elim
    | outgrown => exact hp.elim
  · rintro e X ⟨⟨v, rfl⟩, ⟨xs, hS, hi, hl, hd⟩ | ⟨pre, hi, hl, hd⟩⟩
    · have := run_endLoop (P := P) hl (by rw [hrec]; simp)
      rw [hrec] at this
      exact ⟨none, _, this, hdone _ xs _ (Nat.le_refl _) hS (hI.putObj _ hi (by omega) hl rfl) ((World.putObj_heap_other (by omega)).trans hd)⟩
    · have := run_endLoop (P := P) hl (by rw [hrec]; simp)
      rw [hrec] at this
      exact ⟨some .ret, _, this, hstop _ pre _ (Nat.le_refl _) (hIx.putObj _ hi (by omega) hl rfl) ((World.putObj_heap_other (by omega)).trans hd)⟩
section
variable {n r : Nat} {P : Program} {ops : Array Oper} {Q : Exit → Act → World → Prop}
theorem impl_ReadLog.lift_op {o : Oper} (hd : ∀ c, o.op ≠ .defer c) {K : Act → World → Prop} {a : Act} {w : World} (h : o.wp P a w K Q) : o.wpIn (Fence.wide.inRound r) n P a w K Q := by
  refine ⟨fun _ _ => trivial, ?_⟩
  rw [Oper.semAt_plain _ _ _ hd]
  unfold Oper.wp at h
  revert h
  generalize (execOp a.eval o).run P w = x
  intro h
  cases x with
  | ok y w' =>
    cases y with
    | value v => exact h
    | skip => exact h
    | defer d => exact h
    | enter f args => exact ⟨fun h => by simp [Fence.wide] at h, callsIn_wide.2 h⟩
    | row row args => exact ⟨fun h => by simp [Fence.wide] at h, fun c cs _ => let ⟨v, w2, h1, h2⟩ := h c cs; ⟨v, w2, h1, stepsIn_wide.2 h2⟩⟩
    | _ => exact h.elim
  | halt y w' => cases y <;> exact h
theorem impl_ReadLog.lift_ops (hd : ∀ (i : Nat) (o : Oper), ops[i]? = some o → ∀ c, o.op ≠ .defer c) (hQ : ∀ a w, ¬ Q .outgrown a w) : ∀ (l : List Nat) (a : Act) (w : World), wpOps P ops Q l a w → wpOpsIn (Fence.wide.inRound r) n P ops Q l a w
  | [], _, _, h => h
  | i :: l, a, w, h => by
    rw [wpOpsIn_cons]
    rw [wpOps_cons] at h
    unfold wpOpIn
    unfold wpOp at h
    cases ho : ops[i]? with
    | none =>
      rw [ho] at h
      exact impl_ReadLog.lift_ops hd hQ l a w h
    | some o =>
      rw [ho] at h
      simp only at h ⊢
      by_cases hw : Region.wanted o (yielded ops a.tmps) = true
      · rw [if_pos hw] at h ⊢
        rcases h with h | ⟨_, x, y, h⟩
        · exact Oper.wpIn_mono (fun a w => impl_ReadLog.lift_ops hd hQ l a w) (impl_ReadLog.lift_op (hd i o ho) h)
        · exact absurd h (hQ x y)
      · rw [if_neg hw] at h ⊢
        exact ⟨fun _ _ => trivial, impl_ReadLog.lift_ops hd hQ l _ w h⟩
def impl_ReadLog.noDefer (ops : Array Oper) : Bool := ops.toList.all fun o => match o.op with | .defer _ => false | _ => true
theorem impl_ReadLog.noDefer_spec (h : impl_ReadLog.noDefer ops = true) : ∀ (i : Nat) (o : Oper), ops[i]? = some o → ∀ c, o.op ≠ .defer c := fun i o ho c e => by
  have h1 : o ∈ ops.toList := by
    obtain ⟨hi, rfl⟩ := Array.getElem?_eq_some_iff.1 ho
    simp
  have h2 := List.all_eq_true.1 h o h1
  simp only [e] at h2
  cases h2
theorem impl_ReadLog.lift_draw {id : Nat} (hm : P.follows .mixedOrders = true) (hd : impl_ReadLog.noDefer ops = true) (hQ : ∀ a w, ¬ Q .outgrown a w) {a : Act} {w : World}
    (h : wpAny P .any ops Q ops.size (Array.replicate ops.size false) a w.drew) : (Code.region id ops true).wpIn (Fence.wide.inRound r) n P Q a w :=
  wpIn_region_draw fun t => by
    simp only [Region.schedule, hm, Bool.true_or, if_true]
    exact impl_ReadLog.lift_ops (impl_ReadLog.noDefer_spec hd) hQ _ a _ (wpAny_sound ops.size t _ a _ h)
end
def impl_ReadLog.lines : List UInt8 → List (List UInt8)
  | [] => []
  | b :: l => if b = 10 then [10] :: impl_ReadLog.lines l else (match impl_ReadLog.lines l with | [] => [[b]] | h :: t => (b :: h) :: t)
theorem impl_ReadLog.lines_hit (t : List UInt8) : ∀ (p : List UInt8), (∀ b ∈ p, b ≠ 10) → impl_ReadLog.lines (p ++ 10 :: t) = (p ++ [10]) :: impl_ReadLog.lines t
  | [], _ => by
    simp only [List.nil_append]
    conv => lhs; unfold impl_ReadLog.lines
    rw [if_pos rfl]
  | b :: p, h => by
    simp only [List.cons_append]
    conv => lhs; unfold impl_ReadLog.lines
    rw [if_neg (h b (by simp)), impl_ReadLog.lines_hit t p (fun x hx => h x (by simp [hx]))]
theorem impl_ReadLog.lines_miss : ∀ (p : List UInt8), p ≠ [] → (∀ b ∈ p, b ≠ 10) → impl_ReadLog.lines p = [p]
  | [], h, _ => absurd rfl h
  | [b], _, h => by simp [impl_ReadLog.lines, h b (by simp)]
  | b :: c :: p, _, h => by
    unfold impl_ReadLog.lines
    rw [if_neg (h b (by simp)), impl_ReadLog.lines_miss (c :: p) (by simp) (fun x hx => h x (List.mem_cons_of_mem _ hx))]
theorem impl_ReadLog.lines_some {s : List UInt8} {i : Nat} (h : Lib.indexByte s 10 = (i : Int)) : i < s.length ∧ impl_ReadLog.lines s = s.take (i + 1) :: impl_ReadLog.lines (s.drop (i + 1)) := by
  obtain ⟨hg, hb⟩ := Lib.indexByte_some h
  obtain ⟨hil, e3⟩ := List.getElem?_eq_some_iff.1 hg
  refine ⟨hil, ?_⟩
  have hs : s = s.take i ++ 10 :: s.drop (i + 1) := by
    rw [← e3, ← List.drop_eq_getElem_cons hil, List.take_append_drop]
  conv => lhs; rw [hs]
  rw [impl_ReadLog.lines_hit _ _ (fun b hb' e => by
    obtain ⟨j, hj, rfl⟩ := List.mem_iff_getElem.1 hb'
    rw [List.length_take] at hj
    rw [List.getElem_take] at e
    exact hb j (by omega) ((List.getElem?_eq_getElem (by omega)).trans (congrArg some e))), List.take_succ_eq_append_getElem hil, e3]
theorem impl_ReadLog.lines_none {s : List UInt8} (hne : s ≠ []) (h : Lib.indexByte s 10 = -1) : impl_ReadLog.lines s = [s] :=
  impl_ReadLog.lines_miss s hne fun b hb e => by
    obtain ⟨j, hj, rfl⟩ := List.mem_iff_getElem.1 hb
    exact Lib.indexByte_none h j (by rw [List.getElem?_eq_getElem hj, e])
attribute [local go_sem] Oper.semAt_some
set_option maxHeartbeats 4000000 in
set_option maxRecDepth 100000 in
theorem impl_ReadLog.iter (n l Bs : Nat) (s0 : List UInt8) (J Jx : List (List UInt8) → World → Prop) (hJ : ∀ s A B, J s A → A.grownBy B (some Bs) → J s B)
    (hY : ∀ pre x W1, J pre W1 → (∃ suf, impl_ReadLog.lines s0 = pre ++ x :: suf) → YieldAt Fence.wide (n - 1) Tryd.prog l #[.string ⟨x.toArray⟩] W1 fun e W' => (e = .returned (.bool true) ∧ J (pre ++ [x]) W' ∧ W'.heap[Bs]? = W1.heap[Bs]?) ∨ (e = .returned (.bool false) ∧ Jx (pre ++ [x]) W'))
    (W : World) (hb : W.heap[Bs]? = some (.cells #[.string ⟨s0.toArray⟩] 9 (0, 0))) (h0 : J [] W) (hlen : s0.length ≤ 4294967280) :
    CallsIn Fence.wide n Tryd.prog 20 #[.func (.yield l) #[] #[], .pointer (some ⟨Bs, 0, none⟩)] W fun e W' => (∃ v, e = .returned v) ∧ ((∃ xs, xs = impl_ReadLog.lines s0 ∧ J xs W') ∨ ∃ pre, Jx pre W') := by
  refine callsIn_of_wp Tryd.func20 rfl trivial ?_ rfl
  simp only [Tryd.ntmps20, List.size_toArray, List.length_cons, List.length_nil, Nat.reduceAdd, Nat.reduceSub, Array.replicate_succ, Array.replicate_zero, List.push_toArray, List.append_toArray, List.nil_append, List.cons_append]
  gi_wp2
  gi_loopg [] (s0.length) (fun g wr => ∃ (pre : List (List UInt8)) (s : List UInt8), impl_ReadLog.lines s0 = pre ++ impl_ReadLog.lines s ∧ wr.heap[Bs]? = some (.cells #[.string ⟨s.toArray⟩] 9 (0, 0)) ∧ J pre wr ∧ s.length ≤ g ∧ s.length ≤ 4294967280)
  case atStart =>
    exact ⟨[], s0, rfl, hb, h0, Nat.le_refl _, hlen⟩
  case round =>
    obtain ⟨pre, s, hx, hbx, hJs, hg, hl⟩ := hrel
    have hc : wr.cell? ⟨Bs, 0, none⟩ = some (.string ⟨s.toArray⟩) := by simp [World.cell?, hbx]
    have hf : wr.frozen? ⟨Bs, 0, none⟩ = false := by simp [World.frozen?, hbx]
    have hm : Tryd.prog.follows .mixedOrders = true := by kernel_rfl
    by_cases hs : s = []
    · subst hs
      gi_wp2
      go_end0
      exact ⟨⟨_, rfl⟩, .inl ⟨_, rfl, by rw [hx]; simpa [impl_ReadLog.lines] using hJs⟩⟩
    · have hpos : 0 < s.length := List.length_pos_iff.2 hs
      have hsz : (⟨s.toArray⟩ : ByteArray).size = s.length := by simp [ByteArray.size]
      have q0 : (0 : Int) < (((⟨s.toArray⟩ : ByteArray).size : Nat) : Int) := by rw [hsz]; omega
      rcases Lib.indexB_cases ⟨s.toArray⟩ ⟨#[10]⟩ with h | ⟨i, h, _⟩
      · have h2 : Lib.indexByte s 10 = -1 := by
          rw [← Lib.index_one]
          exact h
        have hIB : ∀ W, Calls Tryd.prog 21 #[.string ⟨s.toArray⟩, .int .u8 10] W fun e w' => e = .returned (.int .i64 (-1)) ∧ w' = W := fun W => (show (Lib.indexByte s 10 = -1) from h2) ▸ Tryd.strings_IndexByte ⟨s.toArray⟩ 10 W
        have hln := impl_ReadLog.lines_none hs h2
        have hg0 : wr.grownBy (wr.setCell ⟨Bs, 0, none⟩ (.string ⟨#[]⟩)) (some Bs) := grownBy_setCell' wr Bs _
        have hJ2 := hJ _ _ _ hJs hg0
        have hb2 : (wr.setCell ⟨Bs, 0, none⟩ (.string ⟨#[]⟩)).heap[Bs]? = some (.cells #[.string ⟨#[]⟩] 9 (0, 0)) := Boxed.set _ hbx
        obtain ⟨fn, tmps, assign, body, hy, hR⟩ := hY pre s _ hJ2 ⟨[], by rw [hx, hln]⟩
        gi_wp2_with (refine ⟨trivial, (fun h_ => by simp [Fence.wide] at h_), ?_⟩; gi_at_call 21; refine (callsIn_wide.2 (hIB _)).mono ?_; rintro e w' ⟨rfl, hw_⟩; replace hw_ := hw_.symm; subst hw_)
        refine ⟨fun h_ => by simp [Fence.wide] at h_, hR.mono ?_⟩
        rintro e W3 (⟨rfl, hJ3, hk3⟩ | ⟨rfl, hJx3⟩)
        · have hb3 : W3.heap[Bs]? = some (.cells #[.string ⟨([] : List UInt8).toArray⟩] 9 (0, 0)) := hk3.trans hb2
          gi_wp2
          gi_roundg ([] : List UInt8).length
          case measure => (first | (simp; omega) | (rw [List.length_drop]; omega))
          case rel => exact ⟨pre ++ [s], [], by rw [hx, hln]; simp [impl_ReadLog.lines], hb3, hJ3, Nat.le_refl _, by (first | (simp; done) | (rw [List.length_drop]; omega))⟩
        · gi_wp2
          refine bodyPost_ret (results_none rfl _ _ _) rfl ?_
          exact ⟨⟨_, rfl⟩, .inr ⟨_, hJx3⟩⟩
      · have h2 : Lib.indexByte s 10 = (i : Int) := by
          rw [← Lib.index_one]
          exact h
        have hIB : ∀ W, Calls Tryd.prog 21 #[.string ⟨s.toArray⟩, .int .u8 10] W fun e w' => e = .returned (.int .i64 (i : Int)) ∧ w' = W := fun W => (show (Lib.indexByte s 10 = (i : Int)) from h2) ▸ Tryd.strings_IndexByte ⟨s.toArray⟩ 10 W
        obtain ⟨hil, hln⟩ := impl_ReadLog.lines_some h2
        have hw1 : wrap64 ((i : Int) + 1) = ((i + 1 : Nat) : Int) := by
          unfold wrap64
          omega
        have i0 : (0 : Int) ≤ (i : Int) := by omega
        gi_wp2_with (refine ⟨trivial, (fun h_ => by simp [Fence.wide] at h_), ?_⟩; gi_at_call 21; refine (callsIn_wide.2 (hIB _)).mono ?_; rintro e w' ⟨rfl, hw_⟩; replace hw_ := hw_.symm; subst hw_)
        gi_region
        have hx1 : (⟨s.toArray⟩ : ByteArray).extract 0 (i + 1) = ⟨(s.take (i + 1)).toArray⟩ := by
          apply ByteArray.ext
          simp [ByteArray.data_extract, List.extract_eq_take_drop]
        have hx2 : (⟨s.toArray⟩ : ByteArray).extract (i + 1) s.length = ⟨(s.drop (i + 1)).toArray⟩ := by
          apply ByteArray.ext
          simp only [ByteArray.data_extract, List.extract_toArray, List.extract_eq_take_drop]
          rw [List.take_of_length_le (by simp)]
        rw [hx1, hx2]
        obtain ⟨W2, hW2⟩ : ∃ W2, (wr.setCell ⟨Bs, 0, none⟩ (.string ⟨(s.drop (i + 1)).toArray⟩)).drew = W2 := ⟨_, rfl⟩
        have hg0 : wr.grownBy W2 (some Bs) := by
          rw [← hW2]
          obtain ⟨g1, g2, g3, g4, g5⟩ := grownBy_setCell' wr Bs (.string ⟨(s.drop (i + 1)).toArray⟩)
          exact ⟨g1, g2, g3, g4, g5⟩
        have hJ2 := hJ _ _ _ hJs hg0
        have hb2 : W2.heap[Bs]? = some (.cells #[.string ⟨(s.drop (i + 1)).toArray⟩] 9 (0, 0)) := by
          rw [← hW2]
          exact Boxed.set _ hbx
        rw [hW2]
        obtain ⟨fn, tmps, assign, body, hy, hR⟩ := hY pre (s.take (i + 1)) W2 hJ2 ⟨_, by rw [hx, hln]⟩
        gi_wp2
        refine ⟨fun h_ => by simp [Fence.wide] at h_, hR.mono ?_⟩
        rintro e W3 (⟨rfl, hJ3, hk3⟩ | ⟨rfl, hJx3⟩)
        · have hb3 : W3.heap[Bs]? = some (.cells #[.string ⟨(s.drop (i + 1)).toArray⟩] 9 (0, 0)) := hk3.trans hb2
          gi_wp2
          gi_roundg (s.drop (i + 1)).length
          case measure => (first | (simp; omega) | (rw [List.length_drop]; omega))
          case rel => exact ⟨pre ++ [s.take (i + 1)], s.drop (i + 1), by rw [hx, hln]; simp [impl_ReadLog.lines], hb3, hJ3, Nat.le_refl _, by (first | (simp; done) | (rw [List.length_drop]; omega))⟩
        · gi_wp2
          refine bodyPost_ret (results_none rfl _ _ _) rfl ?_
          exact ⟨⟨_, rfl⟩, .inr ⟨_, hJx3⟩⟩
theorem impl_ReadLog.makes (s : ByteArray) (w : World) : Calls Tryd.prog 12 #[.string s] w fun e w' => e = .returned (.func (.func 20) #[] #[.pointer (some ⟨w.heap.size, 0, none⟩)]) ∧ w' = w.alloc (.cells #[.string s] 9) := by
  go_enter Tryd.func12, Tryd.ntmps12
  go_wp2
  go_ret
  exact ⟨rfl, rfl⟩
def impl_ReadLog.one (x : List UInt8) (acc : List S34) : Option (Option S34) :=
  (strings_TrimSuffix.f ⟨x.toArray⟩ ⟨#[10]⟩).bind fun t => (strings_Split.f t ⟨#[32]⟩).bind fun ws =>
    if ws.length = 3 then (if acc.length = 60 then some none else (impl_number.f (ws.getD 0 ByteArray.empty) 100000).bind fun p => (impl_number.f (ws.getD 2 ByteArray.empty) 9999).bind fun q =>
      if p.2 = true ∧ q.2 = true then some (some ⟨p.1, q.1, (ws.getD 1 ByteArray.empty).toList == [100, 111, 119, 110]⟩) else some none) else some none
def impl_ReadLog.l0 : List (List UInt8) → List S34 → Option (Option (List S34))
  | [], acc => some (some acc)
  | x :: r, acc => (impl_ReadLog.one x acc).bind fun o => match o with
    | none => some none
    | some y => impl_ReadLog.l0 r (acc ++ [y])
def impl_ReadLog.f (s : ByteArray) : Option (List S34 × Int) := if s.size ≤ 4294967280 then (impl_ReadLog.l0 (impl_ReadLog.lines s.data.toList) []).bind fun o => match o with
    | none => some ([], 5)
    | some g => (impl_LogText.f g).bind fun t => if t.toList = s.toList then some (g, 0) else some ([], 5)
  else none
def impl_ReadLog.I (w : World) (b2 b3 b4 bs : Nat) (s0 : List UInt8) (R : Option (List S34)) (pre : List (List UInt8)) (W : World) : Prop :=
  ∃ (v : Value) (acc : List S34), (∃ suf, impl_ReadLog.lines s0 = pre ++ suf ∧ impl_ReadLog.l0 suf acc = some R) ∧ acc.length ≤ 60 ∧ Boxed W b4 23 v ∧ Kd.R k34 34 W w.heap.size (fun k => k ≠ bs) v acc ∧
    Boxed W b2 23 (.slice none 0 0) ∧ Boxed W b3 2 (.int .i64 0) ∧ Below w.heap.size w W ∧ bs < W.heap.size
def impl_ReadLog.Ix (w : World) (b2 b3 bs : Nat) (R : Option (List S34)) (pre : List (List UInt8)) (W : World) : Prop :=
  R = none ∧ Boxed W b2 23 (.slice none 0 0) ∧ Boxed W b3 2 (.int .i64 5) ∧ Below w.heap.size w W
section
variable {w : World} {b2 b3 b4 bs : Nat} {s0 : List UInt8} {R : Option (List S34)} {pre : List (List UInt8)} {A B : World} {row : Option Nat}
theorem impl_ReadLog.row_ne (hr : ∀ r, row = some r → w.heap.size ≤ r ∧ (r = bs ∨ ∀ cs q, A.heap[r]? ≠ some (.cells cs q (0, 0)))) {k q : Nat} {cs : Array Value} (hk : k ≠ bs) (h : A.heap[k]? = some (.cells cs q (0, 0))) : some k ≠ row := fun e => by
  rcases (hr k e.symm).2 with h1 | h1
  · exact hk h1
  · exact h1 _ _ h
theorem impl_ReadLog.I_kept (h2 : b2 ≠ bs) (h3 : b3 ≠ bs) (h4 : b4 ≠ bs) (h : impl_ReadLog.I w b2 b3 b4 bs s0 R pre A) (hg : A.grownBy B row) (hr : ∀ r, row = some r → w.heap.size ≤ r ∧ (r = bs ∨ ∀ cs q, A.heap[r]? ≠ some (.cells cs q (0, 0)))) : impl_ReadLog.I w b2 b3 b4 bs s0 R pre B := by
  obtain ⟨v, acc, hl, hn, k4, hR, k2, k3, hB, hb⟩ := h
  refine ⟨v, acc, hl, hn, k4.kept hg (impl_ReadLog.row_ne hr h4 k4), ?_, k2.kept hg (impl_ReadLog.row_ne hr h2 k2), k3.kept hg (impl_ReadLog.row_ne hr h3 k3), hB.grown hg hB.size (fun k e => (hr k e).1), Nat.lt_of_lt_of_le hb hg.size⟩
  refine Kd.R_mono (Kd.R_grown (Kd.R_bound hR) hg fun k hk => ?_) (fun k hk => hk.1)
  obtain ⟨q1, q2, q3, q, q4, cells, q5⟩ := hk
  exact impl_ReadLog.row_ne hr q1 q5
theorem impl_ReadLog.Ix_kept (h2 : b2 ≠ bs) (h3 : b3 ≠ bs) (h : impl_ReadLog.Ix w b2 b3 bs R pre A) (hg : A.grownBy B row) (hr : ∀ r, row = some r → w.heap.size ≤ r ∧ (r = bs ∨ ∀ cs q, A.heap[r]? ≠ some (.cells cs q (0, 0)))) : impl_ReadLog.Ix w b2 b3 bs R pre B := by
  obtain ⟨hl, k2, k3, hB⟩ := h
  exact ⟨hl, k2.kept hg (impl_ReadLog.row_ne hr h2 k2), k3.kept hg (impl_ReadLog.row_ne hr h3 k3), hB.grown hg hB.size (fun k e => (hr k e).1)⟩
theorem impl_ReadLog.non_cells {n0 : Nat} (hle : w.heap.size ≤ n0) (hr : ∀ r, row = some r → n0 ≤ r ∧ ∃ o : Obj, A.heap[r]? = some o ∧ o.isCells = false) : ∀ r, row = some r → w.heap.size ≤ r ∧ (r = bs ∨ ∀ cs q, A.heap[r]? ≠ some (.cells cs q (0, 0))) := fun r e => by
  obtain ⟨h1, o, h2, h3⟩ := hr r e
  exact ⟨Nat.le_trans hle h1, .inr fun cs q h => by rw [h2] at h; cases h; cases h3⟩
end
structure impl_ReadLog.M (w : World) (b2 b3 b4 bs : Nat) (v : Value) (acc : List S34) (Ws W : World) : Prop where
  k4 : Boxed W b4 23 v
  kR : Kd.R k34 34 W w.heap.size (fun k => k ≠ bs) v acc
  k2 : Boxed W b2 23 (.slice none 0 0)
  k3 : Boxed W b3 2 (.int .i64 0)
  kB : Below w.heap.size w W
  kb : bs < W.heap.size
  kO : KeepsOthers Ws W
  kS : W.heap[bs]? = Ws.heap[bs]?
theorem impl_ReadLog.M_below {w : World} {b2 b3 b4 bs : Nat} {v : Value} {acc : List S34} {Ws W W' : World} (h : impl_ReadLog.M w b2 b3 b4 bs v acc Ws W) (hb : Below W.heap.size W W') : impl_ReadLog.M w b2 b3 b4 bs v acc Ws W' where
  k4 := (hb.block _ h.k4.lt).trans h.k4
  kR := Kd.R_below h.kR hb
  k2 := (hb.block _ h.k2.lt).trans h.k2
  k3 := (hb.block _ h.k3.lt).trans h.k3
  kB := h.kB.trans (hb.mono h.kB.size)
  kb := Nat.lt_of_lt_of_le h.kb hb.size
  kO := h.kO.trans ⟨hb.size, fun k o hk _ => (hb.block k (Array.getElem?_eq_some_iff.1 hk).1).trans hk⟩
  kS := (hb.block _ h.kb).trans h.kS
theorem impl_ReadLog.out {w : World} {b2 b3 b4 bs : Nat} {v : Value} {acc : List S34} {Ws W : World} {pre : List (List UInt8)} (h : impl_ReadLog.M w b2 b3 b4 bs v acc Ws W) (z2 : w.heap.size ≤ b2) (z3 : w.heap.size ≤ b3) (n23 : b2 ≠ b3) :
    KeepsOthers Ws ((W.setCell ⟨b2, 0, none⟩ (.slice none 0 0)).setCell ⟨b3, 0, none⟩ (.int .i64 5)) ∧ impl_ReadLog.Ix w b2 b3 bs none pre ((W.setCell ⟨b2, 0, none⟩ (.slice none 0 0)).setCell ⟨b3, 0, none⟩ (.int .i64 5)) :=
  ⟨h.kO.trans ((KeepsOthers.setCell _ _ _).trans (KeepsOthers.setCell _ _ _)), rfl, Boxed.other (Boxed.set _ h.k2) n23 _, Boxed.set _ (Boxed.other h.k3 (Ne.symm n23) _), (h.kB.setCell (p := ⟨b2, 0, none⟩) z2 _).setCell (p := ⟨b3, 0, none⟩) z3 _⟩
theorem impl_ReadLog.start_in {P : Program} {ops : Array Oper} {Q : Exit → Act → World → Prop} {S : World → Prop} {ds : List Nat} {id n m r : Nat} {a : Act} {w : World} (l : Array Bool) (hm : P.follows .mixedOrders = true) (hd : impl_ReadLog.noDefer ops = true) (hQ : ∀ a w, ¬ Q .outgrown a w) (hn : ops.size = n) (hl : Array.replicate n false = l) (hS : S w.drew)
    (h : S w.drew → wpAnyLast P .any ops Q S ds n l a w.drew) : (Code.region id ops true).wpIn (Fence.wide.inRound r) m P Q a w := by
  subst hn
  subst hl
  exact impl_ReadLog.lift_draw hm hd hQ (wpAny_of_last _ _ _ _ (h hS))
theorem impl_ReadLog.goes {w : World} {b2 b3 b4 bs : Nat} {v v1 : Value} {s0 x : List UInt8} {suf pre : List (List UInt8)} {R : Option (List S34)} {acc : List S34} {y : S34} {Ws W w5 : World} (h : impl_ReadLog.M w b2 b3 b4 bs v acc Ws W) (hg : W.grownBy w5 v.ownBlock)
    (ho : Kd.R k34 34 w5 w.heap.size (fun k => k ≠ bs) v1 (acc ++ [y])) (hb : Below w.heap.size w w5) (z4 : w.heap.size ≤ b4) (n24 : b2 ≠ b4) (n34 : b3 ≠ b4) (hx : impl_ReadLog.lines s0 = pre ++ x :: suf) (hn : acc.length < 60) (hl : impl_ReadLog.l0 suf (acc ++ [y]) = some R) (n4 : b4 ≠ bs) :
    KeepsOthers Ws (w5.setCell ⟨b4, 0, none⟩ v1) ∧ (w5.setCell ⟨b4, 0, none⟩ v1).heap[bs]? = Ws.heap[bs]? ∧ impl_ReadLog.I w b2 b3 b4 bs s0 R (pre ++ [x]) (w5.setCell ⟨b4, 0, none⟩ v1) := by
  have k4 := h.k4.kept hg (Kd.R_ne h.kR h.k4 (by decide))
  have k2 := h.k2.kept hg (Kd.R_ne h.kR h.k2 (by decide))
  have k3 := h.k3.kept hg (Kd.R_ne h.kR h.k3 (by decide))
  have hsz : (w5.setCell ⟨b4, 0, none⟩ v1).heap.size = w5.heap.size := by show (w5.heap.modify _ _).size = _; rw [Array.size_modify]
  have hkb : bs < w5.heap.size := Nat.lt_of_lt_of_le h.kb hg.size
  refine ⟨h.kO.trans ((KeepsOthers.of_grownBy hg fun j o e hj => ?_).trans (KeepsOthers.setCell _ _ _)), ?_, ?_⟩
  · obtain ⟨cells, hc⟩ := Kd.R_typed h.kR j e
    rw [hc] at hj
    cases hj
    rfl
  · rw [Below.heap_setCell w5 ⟨b4, 0, none⟩ v1 bs (Ne.symm n4), hg.block bs h.kb (fun e => h.kR.1 bs e.symm rfl)]
    exact h.kS
  · refine ⟨v1, acc ++ [y], ⟨suf, by rw [hx]; simp, hl⟩, by simp; omega, Boxed.set _ k4, Kd.R_set ho k4 (by decide) 0 v1, Boxed.other k2 n24 _, Boxed.other k3 n34 _, hb.setCell (p := ⟨b4, 0, none⟩) z4 _, by rw [hsz]; exact hkb⟩
theorem impl_ReadLog.results2 {fn : Func} {p q : Tmp} {t u : TypeId} (h : fn.results = #[.cell p t, .cell q u]) (tmps : Array Value) (P : Program) (w : World) :
    (results fn tmps).run P w = ((asAddr (tmps.getD p undef)).run P w).andThen fun a w1 => ((loadVar t a).run P w1).andThen fun v w2 => ((asAddr (tmps.getD q undef)).run P w2).andThen fun b w3 => ((loadVar u b).run P w3).andThen fun v' w4 => .ok (.tuple #[v, v']) w4 := by
  simp only [results, h]
  simp [Sem.run_bind, Result.andThen]
theorem impl_ReadLog.ends {W : World} {b2 b3 n c0 : Nat} {A0 : Option Addr} {c : Int} {tmps : Array Value} (k2 : Boxed W b2 23 (.slice A0 n c0)) (k3 : Boxed W b3 2 (.int .i64 c)) (h2 : tmps.getD 2 undef = .pointer (some ⟨b2, 0, none⟩)) (h3 : tmps.getD 3 undef = .pointer (some ⟨b3, 0, none⟩)) :
    (results Tryd.f5 tmps).run Tryd.prog W = .ok (.tuple #[.slice A0 n c0, .int .i64 c]) W := by
  rw [impl_ReadLog.results2 rfl, h2, h3]
  have hc2 := k2.cell
  have hc3 := k3.cell
  go_simp
theorem impl_ReadLog.leave {w W : World} {b2 b3 D n c0 : Nat} {A0 : Option Addr} {c : Int} {v0 : Value} {r1 : List S34} {ok : Nat → Prop} (hb2 : w.heap.size ≤ b2) (hb3 : w.heap.size ≤ b3) (hD : w.heap.size ≤ D) (n23 : b2 ≠ b3) (d2 : b2 ≠ D) (d3 : b3 ≠ D) (hB : Below w.heap.size w W) (hR : Kd.R k34 34 W w.heap.size ok (.slice A0 n c0) r1)
    (k2 : Boxed W b2 23 v0) (k3 : Boxed W b3 2 (.int .i64 0)) (hK : W.heap[D]? = some (.deferred (some []))) :
    ((W.setCell ⟨b2, 0, none⟩ (.slice A0 n c0)).setCell ⟨b3, 0, none⟩ (.int .i64 c)).heap[D]? = some (.deferred (some [])) ∧
    (∀ tmps : Array Value, tmps.getD 2 undef = .pointer (some ⟨b2, 0, none⟩) → tmps.getD 3 undef = .pointer (some ⟨b3, 0, none⟩) → ∃ v, (results Tryd.f5 tmps).run Tryd.prog (((W.setCell ⟨b2, 0, none⟩ (.slice A0 n c0)).setCell ⟨b3, 0, none⟩ (.int .i64 c)).putObj D (.deferred none)) = .ok v (((W.setCell ⟨b2, 0, none⟩ (.slice A0 n c0)).setCell ⟨b3, 0, none⟩ (.int .i64 c)).putObj D (.deferred none)) ∧
      ∃ v0_, Ending.returned v = .returned (.tuple #[v0_, .int .i64 c]) ∧ Kd.R k34 34 (((W.setCell ⟨b2, 0, none⟩ (.slice A0 n c0)).setCell ⟨b3, 0, none⟩ (.int .i64 c)).putObj D (.deferred none)) w.heap.size (fun _ => True) v0_ r1 ∧
        Below w.heap.size w (((W.setCell ⟨b2, 0, none⟩ (.slice A0 n c0)).setCell ⟨b3, 0, none⟩ (.int .i64 c)).putObj D (.deferred none))) := by
  have hK2 : ((W.setCell ⟨b2, 0, none⟩ (.slice A0 n c0)).setCell ⟨b3, 0, none⟩ (.int .i64 c)).heap[D]? = some (.deferred (some [])) := ((KeepsOthers.setCell _ _ _).trans (KeepsOthers.setCell _ _ _)).same D _ hK rfl
  have k3' := Boxed.other k3 (Ne.symm n23) (.slice A0 n c0)
  have m2 := Boxed.other (Boxed.set (.slice A0 n c0) k2) n23 (.int .i64 c)
  have m3 := Boxed.set (.int .i64 c) k3'
  have hR2 := Kd.R_set (Kd.R_set hR k2 (by decide) 0 (.slice A0 n c0)) k3' (by decide) 0 (.int .i64 c)
  have hB2 := (hB.setCell (p := ⟨b2, 0, none⟩) hb2 (.slice A0 n c0)).setCell (p := ⟨b3, 0, none⟩) hb3 (.int .i64 c)
  refine ⟨hK2, ?_⟩
  generalize ((W.setCell ⟨b2, 0, none⟩ (.slice A0 n c0)).setCell ⟨b3, 0, none⟩ (.int .i64 c)) = X at *
  have hgD := grownBy_putObj' X D (.deferred none)
  intro tmps h2 h3
  refine ⟨_, impl_ReadLog.ends (m2.kept hgD (fun e => d2 (by cases e; rfl))) (m3.kept hgD (fun e => d3 (by cases e; rfl))) h2 h3, _, rfl, ?_, hB2.grown hgD hB2.size (fun k e => by cases e; exact hD)⟩
  refine Kd.R_mono (Kd.R_grown (Kd.R_bound hR2) hgD (fun k hk e => ?_)) (fun k hk => trivial)
  obtain ⟨_, _, _, q, _, cells, hc⟩ := hk
  cases e
  rw [hK2] at hc
  cases hc
set_option maxHeartbeats 4000000 in
set_option maxRecDepth 100000 in
theorem impl_ReadLog.calls (a0 : ByteArray) (r1 : List S34) (r2 : Int) (w : World) (henv : Env w) (h : impl_ReadLog.f a0 = some (r1, r2)) :
    Calls Tryd.prog 5 #[.string a0] w fun e w' => ∃ v0_ : Value, e = .returned (.tuple #[v0_, .int .i64 r2]) ∧ Kd.R k34 34 w' w.heap.size (fun _ => True) v0_ r1 ∧ Below w.heap.size w w' := by
  unfold impl_ReadLog.f at h
  split at h
  case isFalse => cases h
  rename_i hsz
  obtain ⟨R, hR, h⟩ := Option.bind_eq_some_iff.mp h
  refine (callsIn_wide (n := 6)).1 ?_
  refine callsIn_of_wp_marks Tryd.func5 rfl trivial ?_ rfl
  simp only [Tryd.ntmps5, List.size_toArray, List.length_cons, List.length_nil, Nat.reduceAdd, Nat.reduceSub, Array.replicate_succ, Array.replicate_zero, List.push_toArray, List.append_toArray, List.nil_append, List.cons_append]
  gi_wp2_with (refine ⟨trivial, ?_⟩; gi_at_call 12; refine (callsIn_wide.2 (impl_ReadLog.makes a0 _)).mono ?_; rintro e w' ⟨rfl, rfl⟩)
  obtain ⟨s0, rfl⟩ : ∃ s0 : List UInt8, a0 = ⟨s0.toArray⟩ := ⟨a0.data.toList, by simp⟩
  have hs0 : s0.length ≤ 4294967280 := by
    have : (⟨s0.toArray⟩ : ByteArray).size = s0.length := by simp [ByteArray.size]
    omega
  have hl0 : impl_ReadLog.l0 (impl_ReadLog.lines s0) [] = some R := hR
  clear hR hsz
  have k2 : Boxed _ _ _ _ := ((((Boxed.new w 23 (.slice none 0 0)).alloc (.cells #[.int .i64 0] 2)).alloc (.cells #[] 34)).alloc (.cells #[.slice (some ⟨w.heap.size + 1 + 1, 0, none⟩) 0 0] 23)).alloc (.cells #[.string ⟨s0.toArray⟩] 9)
  have k3 : Boxed _ _ _ _ := (((Boxed.new (w.alloc (.cells #[.slice none 0 0] 23)) 2 (.int .i64 0)).alloc (.cells #[] 34)).alloc (.cells #[.slice (some ⟨w.heap.size + 1 + 1, 0, none⟩) 0 0] 23)).alloc (.cells #[.string ⟨s0.toArray⟩] 9)
  have k4 : Boxed _ _ _ _ := (Boxed.new (((w.alloc (.cells #[.slice none 0 0] 23)).alloc (.cells #[.int .i64 0] 2)).alloc (.cells #[] 34)) 23 (.slice (some ⟨w.heap.size + 1 + 1, 0, none⟩) 0 0)).alloc (.cells #[.string ⟨s0.toArray⟩] 9)
  have k5 : Boxed _ _ _ _ := Boxed.new ((((w.alloc (.cells #[.slice none 0 0] 23)).alloc (.cells #[.int .i64 0] 2)).alloc (.cells #[] 34)).alloc (.cells #[.slice (some ⟨w.heap.size + 1 + 1, 0, none⟩) 0 0] 23)) 9 (.string ⟨s0.toArray⟩)
  have k0 : (((w.alloc (.cells #[.slice none 0 0] 23)).alloc (.cells #[.int .i64 0] 2)).alloc (.cells #[] 34)).heap[w.heap.size + 1 + 1]? = some (.cells #[] 34 (0, 0)) := by
    have := World.alloc_heap_new ((w.alloc (.cells #[.slice none 0 0] 23)).alloc (.cells #[.int .i64 0] 2)) (.cells #[] 34)
    rwa [World.size_alloc, World.size_alloc] at this
  have k1 := (Below.heap_alloc ((((w.alloc (.cells #[.slice none 0 0] 23)).alloc (.cells #[.int .i64 0] 2)).alloc (.cells #[] 34)).alloc (.cells #[.slice (some ⟨w.heap.size + 1 + 1, 0, none⟩) 0 0] 23)) (.cells #[.string ⟨s0.toArray⟩] 9) (w.heap.size + 1 + 1) (by simp)).trans
    ((Below.heap_alloc (((w.alloc (.cells #[.slice none 0 0] 23)).alloc (.cells #[.int .i64 0] 2)).alloc (.cells #[] 34)) (.cells #[.slice (some ⟨w.heap.size + 1 + 1, 0, none⟩) 0 0] 23) (w.heap.size + 1 + 1) (by simp)).trans k0)
  have kB : Below w.heap.size w (((((w.alloc (.cells #[.slice none 0 0] 23)).alloc (.cells #[.int .i64 0] 2)).alloc (.cells #[] 34)).alloc (.cells #[.slice (some ⟨w.heap.size + 1 + 1, 0, none⟩) 0 0] 23)).alloc (.cells #[.string ⟨s0.toArray⟩] 9)) :=
    (((((Below.refl w.heap.size w).alloc (Nat.le_refl _) _).alloc (by simp) _).alloc (by simp only [World.size_alloc]; omega) _).alloc (by simp only [World.size_alloc]; omega) _).alloc (by simp only [World.size_alloc]; omega) _
  simp only [World.size_alloc] at k3 k4 k5
  have ksz : (((((w.alloc (.cells #[.slice none 0 0] 23)).alloc (.cells #[.int .i64 0] 2)).alloc (.cells #[] 34)).alloc (.cells #[.slice (some ⟨w.heap.size + 1 + 1, 0, none⟩) 0 0] 23)).alloc (.cells #[.string ⟨s0.toArray⟩] 9)).heap.size = w.heap.size + 5 := by simp
  generalize (((((w.alloc (.cells #[.slice none 0 0] 23)).alloc (.cells #[.int .i64 0] 2)).alloc (.cells #[] 34)).alloc (.cells #[.slice (some ⟨w.heap.size + 1 + 1, 0, none⟩) 0 0] 23)).alloc (.cells #[.string ⟨s0.toArray⟩] 9)) = W0 at *
  obtain ⟨b2, e2⟩ : ∃ b, w.heap.size = b := ⟨_, rfl⟩
  obtain ⟨b3, e3⟩ : ∃ b, w.heap.size + 1 = b := ⟨_, rfl⟩
  obtain ⟨b1, e1⟩ : ∃ b, w.heap.size + 1 + 1 = b := ⟨_, rfl⟩
  obtain ⟨b4, e4⟩ : ∃ b, w.heap.size + 1 + 1 + 1 = b := ⟨_, rfl⟩
  obtain ⟨bs, e5⟩ : ∃ b, w.heap.size + 1 + 1 + 1 + 1 = b := ⟨_, rfl⟩
  have z1 : w.heap.size ≤ b2 ∧ w.heap.size ≤ b3 ∧ w.heap.size ≤ b4 ∧ w.heap.size ≤ b1 ∧ b2 ≠ bs ∧ b3 ≠ bs ∧ b4 ≠ bs ∧ b1 ≠ bs ∧ b2 ≠ b3 ∧ b2 ≠ b4 ∧ b3 ≠ b4 ∧ bs < W0.heap.size ∧ w.heap.size ≤ W0.heap.size ∧ w.heap.size ≤ bs ∧ b3 < W0.heap.size ∧ w.heap.size < W0.heap.size := by omega
  rw [e5, e4, e1, e3]
  rw [e5] at k5
  rw [e4, e1] at k4
  rw [e3] at k3
  rw [e1] at k1
  have k2' : Boxed W0 b2 23 (.slice none 0 0) := e2 ▸ k2
  obtain ⟨z2, z3, z4, z5, n2, n3, n4, n1, n23, n24, n34, hbs, hszW, z6, z7, z8⟩ := z1
  clear k0 k2 ksz e1 e3 e4 e5
  subst e2
  have hR0 : Kd.R k34 34 W0 w.heap.size (fun k => k ≠ bs) (.slice (some ⟨b1, 0, none⟩) 0 0) [] :=
    ⟨fun k hk => by simp only [Value.ownBlock, Option.some.injEq] at hk; omega, [], ⟨by simp, .inr ⟨b1, 0, #[], rfl, z5, k1, by simp, by simp [maxLen], by simp, by simp⟩⟩, Reps.none _ _⟩
  have hI0 : impl_ReadLog.I w w.heap.size b3 b4 bs s0 R [] W0 := ⟨_, [], ⟨_, rfl, hl0⟩, by simp, k4, hR0, k2', k3, kB, hbs⟩
  refine impl_ReadLog.range_boxed (w := W0) (n := 6) rfl (by omega) (gf := 20) (lb := #[.pointer (some ⟨bs, 0, none⟩)]) rfl trivial (fun args w => enters_ Tryd.func20 (by kernel_rfl) rfl args w) (encs := fun x : List UInt8 => #[.string ⟨x.toArray⟩]) (fun _ => rfl)
    (ok := fun pre x => ∃ suf, impl_ReadLog.lines s0 = pre ++ x :: suf) (S := fun xs => xs = impl_ReadLog.lines s0) (box := bs) hbs
    (fun l J Jx W hW hJ hJx hY h0 => impl_ReadLog.iter 5 l bs s0 J Jx hJ hY W (hW.trans k5) h0 hs0)
    (impl_ReadLog.I w w.heap.size b3 b4 bs s0 R) (impl_ReadLog.Ix w w.heap.size b3 bs R)
    (fun s A B row hs hg hr => impl_ReadLog.I_kept n2 n3 n4 hs hg (impl_ReadLog.non_cells hszW hr))
    (fun s A B row hs hg hr => impl_ReadLog.Ix_kept n2 n3 hs hg (impl_ReadLog.non_cells hszW hr))
    (fun s A B hs hg => impl_ReadLog.I_kept n2 n3 n4 hs hg (fun r e => by cases e; exact ⟨by omega, .inl rfl⟩))
    (fun s A B hs hg => impl_ReadLog.Ix_kept n2 n3 hs hg (fun r e => by cases e; exact ⟨by omega, .inl rfl⟩))
    hI0
    (fun x => { tmps := #[.string ⟨s0.toArray⟩, undef, .pointer (some ⟨w.heap.size, 0, none⟩), .pointer (some ⟨b3, 0, none⟩), .pointer (some ⟨b4, 0, none⟩), .string ⟨x.toArray⟩, undef, undef, undef, undef, undef, .slice (some ⟨b1, 0, none⟩) 0 0, .string ⟨s0.toArray⟩, .func (.func 20) #[] #[.pointer (some ⟨bs, 0, none⟩)], .string ⟨x.toArray⟩, undef, undef, undef, undef, undef, undef, undef, undef, undef, undef, undef, undef, undef, undef, undef, undef, undef, undef, undef, undef, undef, undef, undef, undef, undef, undef, undef, undef, undef, undef, undef, undef, undef, undef, undef, undef, undef, undef, undef, undef, undef, undef, undef, undef, undef, undef], defers := [] }) ?assign ?body ?done ?stop
  case assign =>
    intro l x W K hK
    gi_wp2
    exact hK
  case body =>
    rintro l pre x W ⟨v, acc, ⟨suf, hsuf, hl⟩, hn, k4, hR1, k2, k3, hB, hb⟩ ⟨suf', hx⟩
    obtain rfl : suf = x :: suf' := List.append_cancel_left (hsuf.symm.trans hx)
    have hM : impl_ReadLog.M w w.heap.size b3 b4 bs v acc W W := ⟨k4, hR1, k2, k3, hB, hb, KeepsOthers.refl _, rfl⟩
    clear k4 hR1 k2 k3 hB hb
    simp only [impl_ReadLog.l0] at hl
    obtain ⟨o, hone, hl_⟩ := Option.bind_eq_some_iff.mp hl
    clear hl
    have hl := hl_
    clear hl_
    unfold impl_ReadLog.one at hone
    obtain ⟨tx, htx, hone_⟩ := Option.bind_eq_some_iff.mp hone
    clear hone
    obtain ⟨ws, hws, hone⟩ := Option.bind_eq_some_iff.mp hone_
    clear hone_
    gi_wp2_with (fail)
    refine ⟨trivial, ?_⟩
    refine (CallsIn.inRound l (callsIn_wide.2 (strings_TrimSuffix.calls _ _ tx _ htx))).mono ?_
    rintro e W1 ⟨rfl, hd⟩
    replace hM := impl_ReadLog.M_below hM hd.below
    clear hd
    gi_wp2_with (fail)
    refine ⟨trivial, ?_⟩
    refine (CallsIn.inRound l (callsIn_wide.2 (strings_Split.calls _ _ ws _ (Env_on henv hM.kB) hws))).mono ?_
    rintro e W2 ⟨v0, rfl, hO, hb⟩
    replace hM := impl_ReadLog.M_below hM hb
    clear hb
    obtain ⟨Aw, cw, rfl⟩ := Kd.R_slice hO
    obtain ⟨Av, cv, rfl⟩ := Kd.R_slice hM.kR
    have hc4 := hM.k4.cell
    have hc2 := hM.k2.cell
    have hf2 := hM.k2.frozen
    have hc3 := hM.k3.cell
    have hf3 := hM.k3.frozen
    by_cases c3 : ws.length = 3
    · rw [if_pos c3] at hone
      obtain ⟨u0, u1, u2, rfl⟩ : ∃ u0 u1 u2, ws = [u0, u1, u2] := by
        rcases ws with _ | ⟨u0, _ | ⟨u1, _ | ⟨u2, _ | ⟨u3, r⟩⟩⟩⟩ <;> simp at c3
        exact ⟨u0, u1, u2, rfl⟩
      by_cases c60 : acc.length = 60
      · rw [if_pos c60] at hone
        cases hone
        obtain rfl : R = none := (Option.some.inj hl).symm
        have c60' : (acc.length : Int) = 60 := by omega
        gi_wp2_with (fail)
        exact impl_ReadLog.out hM z2 z3 n23
      · rw [if_neg c60] at hone
        have c60' : ¬ (acc.length : Int) = 60 := by omega
        have c60b : ((acc.length : Int) == 60) = false := beq_eq_false_iff_ne.2 c60'
        obtain ⟨⟨p1, p2⟩, hp, hone_⟩ := Option.bind_eq_some_iff.mp hone
        clear hone
        obtain ⟨⟨q1, q2⟩, hq, hone⟩ := Option.bind_eq_some_iff.mp hone_
        clear hone_
        replace hp : impl_number.f u0 100000 = some (p1, p2) := hp
        replace hq : impl_number.f u2 9999 = some (q1, q2) := hq
        obtain ⟨ad, e0, hx0⟩ := Kd.at_string (Kd.R_reads' hO).2.2 0 (by omega) (by simp)
        cases e0
        obtain ⟨ad', e0, hx1⟩ := Kd.at_string (Kd.R_reads' hO).2.2 1 (by omega) (by simp)
        cases e0
        obtain ⟨ad', e0, hx2⟩ := Kd.at_string (Kd.R_reads' hO).2.2 2 (by omega) (by simp)
        cases e0
        replace hx0 : W2.cell? (ad.add 0) = some (.string u0) := hx0
        rw [Addr.add_zero'] at hx0
        have ea1 : ad.add 1 = { ad with off := ad.off + 1, spot := none } := by simp [Addr.add]
        have ea2 : ad.add 2 = { ad with off := ad.off + 2, spot := none } := by simp [Addr.add]
        replace hx1 : W2.cell? { ad with off := ad.off + 1, spot := none } = some (.string u1) := by
          rw [← ea1]
          exact hx1
        replace hx2 : W2.cell? { ad with off := ad.off + 2, spot := none } = some (.string u2) := by
          rw [← ea2]
          exact hx2
        gi_wp2_with (fail)
        refine ⟨trivial, ?_⟩
        refine (CallsIn.inRound l (callsIn_wide.2 (impl_number.calls _ _ p1 p2 _ (Env_on henv hM.kB) hp))).mono ?_
        rintro e W3 ⟨rfl, hb⟩
        replace hM := impl_ReadLog.M_below hM hb
        replace hx1 := (hb.cell (World.block_lt_of_cell? W2 _ hx1)).trans hx1
        replace hx2 := (hb.cell (World.block_lt_of_cell? W2 _ hx2)).trans hx2
        clear hb hx0 hc4 hc2 hf2 hc3 hf3 hO
        gi_wp2_with (fail)
        refine ⟨trivial, ?_⟩
        refine (CallsIn.inRound l (callsIn_wide.2 (impl_number.calls _ _ q1 q2 _ (Env_on henv hM.kB) hq))).mono ?_
        rintro e W4 ⟨rfl, hb⟩
        replace hM := impl_ReadLog.M_below hM hb
        replace hx1 := (hb.cell (World.block_lt_of_cell? W3 _ hx1)).trans hx1
        clear hb hx2
        have hc4 := hM.k4.cell
        have hf4 := hM.k4.frozen
        have hc2 := hM.k2.cell
        have hf2 := hM.k2.frozen
        have hc3 := hM.k3.cell
        have hf3 := hM.k3.frozen
        by_cases hpq : p2 = true ∧ q2 = true
        · rw [if_pos hpq] at hone
          obtain ⟨rfl, rfl⟩ := hpq
          simp only [Option.some.injEq] at hone
          subst hone
          gi_wp2_with (fail)
          replace hM := impl_ReadLog.M_below hM (below_drew1 (Below.refl W4.heap.size W4))
          replace hc4 : W4.drew.cell? ⟨b4, 0, none⟩ = some (.slice Av acc.length cv) := hc4
          replace hf4 : W4.drew.frozen? ⟨b4, 0, none⟩ = false := hf4
          replace hx1 : W4.drew.cell? { ad with off := ad.off + 1, spot := none } = some (.string u1) := hx1
          clear hc2 hf2 hc3 hf3
          --REGION
          refine impl_ReadLog.start_in (n := 11) (S := fun w' => w'.cell? ⟨b4, 0, none⟩ = some (.slice Av acc.length cv) ∧ w'.cell? { ad with off := ad.off + 1, spot := none } = some (.string u1)) (ds := [9, 10]) #[false, false, false, false, false, false, false, false, false, false, false] (by kernel_rfl) (by kernel_rfl) (fun _ _ h => h) rfl rfl ⟨hc4, hx1⟩ (fun hHeld => ?_)
          generalize W4.drew = WD at hM hc4 hf4 hx1 hHeld ⊢
          refine pure_ (i := 1) (N := some 47) (v := ?_) (a' := ?_) #[false, true, false, false, false, false, false, false, false, false, false] rfl rfl (by kernel_rfl) (fun _ _ _ h => h) (Or.inl ⟨by rfl, ?_⟩) ?_ ?_
          rotate_left
          · intro w'
            go_simp
            with_reducible rfl
          rotate_left
          · simp only [Act.put, List.setIfInBounds_toArray, List.set_cons_zero, List.set_cons_succ, i64_w, i32_w]
            rfl
          refine pure_ (i := 2) (N := some 48) (v := ?_) (a' := ?_) #[false, true, true, false, false, false, false, false, false, false, false] rfl rfl (by kernel_rfl) (fun _ _ _ h => h) (Or.inl ⟨by rfl, ?_⟩) ?_ ?_
          rotate_left
          · intro w'
            go_simp
            with_reducible rfl
          rotate_left
          · simp only [Act.put, List.setIfInBounds_toArray, List.set_cons_zero, List.set_cons_succ, i64_w, i32_w]
            rfl
          refine pure_ (i := 3) (N := some 49) (v := ?_) (a' := ?_) #[false, true, true, true, false, false, false, false, false, false, false] rfl rfl (by kernel_rfl) (fun _ _ _ h => h) (Or.inl ⟨by rfl, ?_⟩) ?_ ?_
          rotate_left
          · intro w'
            go_simp
            with_reducible rfl
          rotate_left
          · simp only [Act.put, List.setIfInBounds_toArray, List.set_cons_zero, List.set_cons_succ, i64_w, i32_w]
            rfl
          refine pure_ (i := 4) (N := some 50) (v := ?_) (a' := ?_) #[false, true, true, true, true, false, false, false, false, false, false] rfl rfl (by kernel_rfl) (fun _ _ _ h => h) (Or.inl ⟨by rfl, ?_⟩) ?_ ?_
          rotate_left
          · intro w'
            go_simp
            with_reducible rfl
          rotate_left
          · simp only [Act.put, List.setIfInBounds_toArray, List.set_cons_zero, List.set_cons_succ, i64_w, i32_w]
            rfl
          refine take_ (i := 0) (N := some 46) (v := ?_) (a' := ?_) #[true, true, true, true, true, false, false, false, false, false, false] rfl rfl (by kernel_rfl) (fun _ _ _ h => h) (Or.inl ⟨by rfl, ?_⟩) hHeld ?_ ?_
          rotate_left
          · rintro w' ⟨s0, s1⟩
            go_simp
            with_reducible rfl
          rotate_left
          · simp only [Act.put, List.setIfInBounds_toArray, List.set_cons_zero, List.set_cons_succ, i64_w, i32_w]
            rfl
          refine take_ (i := 5) (N := some 51) (v := ?_) (a' := ?_) #[true, true, true, true, true, true, false, false, false, false, false] rfl rfl (by kernel_rfl) (fun _ _ _ h => h) (Or.inl ⟨by rfl, ?_⟩) hHeld ?_ ?_
          rotate_left
          · rintro w' ⟨s0, s1⟩
            go_simp
            with_reducible rfl
          rotate_left
          · simp only [Act.put, List.setIfInBounds_toArray, List.set_cons_zero, List.set_cons_succ, i64_w, i32_w]
            rfl
          refine pure_ (i := 6) (N := some 52) (v := ?_) (a' := ?_) #[true, true, true, true, true, true, true, false, false, false, false] rfl rfl (by kernel_rfl) (fun _ _ _ h => h) (Or.inl ⟨by rfl, ?_⟩) ?_ ?_
          rotate_left
          · intro w'
            go_simp
            with_reducible rfl
          rotate_left
          · simp only [Act.put, List.setIfInBounds_toArray, List.set_cons_zero, List.set_cons_succ, i64_w, i32_w]
            rfl
          refine pure_ (i := 7) (N := some 53) (v := ?_) (a' := ?_) #[true, true, true, true, true, true, true, true, false, false, false] rfl rfl (by kernel_rfl) (fun _ _ _ h => h) (Or.inl ⟨by rfl, ?_⟩) ?_ ?_
          rotate_left
          · intro w'
            go_simp
            with_reducible rfl
          rotate_left
          · simp only [Act.put, List.setIfInBounds_toArray, List.set_cons_zero, List.set_cons_succ, i64_w, i32_w]
            rfl
          refine one_ (i := 8) (N := some 54) #[true, true, true, true, true, true, true, true, true, false, false] rfl rfl (by kernel_rfl) (by decide) (fun K hK => ?_)
          refine value_ (w1 := ?_) (v := ?_) (by rfl) rfl ?_ ?_
          rotate_left 2
          · go_simp
            constructor
            · rfl
            · rfl
          refine hK.out _ _ ⟨((below_alloc (Below.refl WD.heap.size WD) _).cell (World.block_lt_of_cell? WD _ hc4)).trans hc4, ((below_alloc (Below.refl WD.heap.size WD) _).cell (World.block_lt_of_cell? WD _ hx1)).trans hx1⟩ (fun hHeld => ?_)
          clear hK K
          refine norm_ (a' := ?_) ?_ ?_
          rotate_left
          · show Act.put _ (some 54) _ = _
            simp only [Act.put, List.setIfInBounds_toArray, List.set_cons_zero, List.set_cons_succ, i64_w, i32_w]
            rfl
          refine last_ (i := 9) (N := some 55) #[true, true, true, true, true, true, true, true, true, true, false] rfl rfl (by kernel_rfl) (by decide) (fun K hK => ?_)
          refine Kd.R_append_step k34 (w0 := w) w.heap.size (by rfl) (.tmp 46) (.tmp 54) 23 34 (.agg #[(.int .i64 0), (.int .i64 0), (.bool false)]) 24 (by rfl) Tryd.underlying23 info34 rfl (by decide) (by omega) _ acc (⟨p1, q1, u1.toList == [100, 111, 119, 110]⟩ : S34) [.int .i64 p1, .int .i64 q1, .bool (u1.toList == [100, 111, 119, 110])] (fun k => k ≠ bs) (fun _ => False) (by rfl) (by rfl) ?aP (fun _ hk => hk.elim) ?aF ?aO ?aB ?aS ?aL ?_
          (case aP => exact k34_mkM _ _ _ (⟨p1, q1, u1.toList == [100, 111, 119, 110]⟩ : S34))
          (case aF => exact fun k hk => by have := hM.kb; omega)
          (case aO => exact hM.kR)
          (case aB => exact hM.kB)
          (case aS => exact hM.kB.size)
          (case aL => omega)
          intro v1 w5 ho hb hg hat
          obtain ⟨A9, c9, e9⟩ := Kd.R_slice ho
          subst e9
          have hk4 := hM.k4.kept hg (Kd.R_ne hM.kR hM.k4 (by decide))
          have hc5 := hk4.cell
          have hf5 := hk4.frozen
          refine hK.out _ _ ?_
          clear hK K
          refine norm_ (a' := ?_) ?_ ?_
          rotate_left
          · show Act.put _ (some 55) _ = _
            simp only [Act.put, List.setIfInBounds_toArray, List.set_cons_zero, List.set_cons_succ, i64_w, i32_w]
            rfl
          refine last_ (i := 10) (N := none) #[true, true, true, true, true, true, true, true, true, true, true] rfl rfl (by kernel_rfl) (by decide) (fun K hK => ?_)
          refine skip_ (w1 := ?_) (by rfl) rfl ?_ ?_
          rotate_left
          · go_simp
            rfl
          refine hK.out _ _ ?_
          clear hK K
          refine done_ (by kernel_rfl) ?_
          --END
          rw [List.length_append] at ho
          exact impl_ReadLog.goes hM hg ho hb z4 n24 n34 hx (by omega) hl n4
        · rw [if_neg hpq] at hone
          cases hone
          obtain rfl : R = none := (Option.some.inj hl).symm
          cases p2 with
          | false =>
            gi_wp2_with (fail)
            exact impl_ReadLog.out hM z2 z3 n23
          | true =>
            cases q2 with
            | false =>
              gi_wp2_with (fail)
              exact impl_ReadLog.out hM z2 z3 n23
            | true => exact absurd ⟨rfl, rfl⟩ hpq
    · rw [if_neg c3] at hone
      cases hone
      obtain rfl : R = none := (Option.some.inj hl).symm
      have c3' : ¬ (ws.length : Int) = 3 := by omega
      gi_wp2_with (fail)
      exact impl_ReadLog.out hM z2 z3 n23
  case done =>
    rintro D xs W hD rfl ⟨v, acc, ⟨suf, hsuf, hl⟩, hn, k4, hR1, k2, k3, hB, hb⟩ hK
    obtain rfl : suf = [] := by simpa using hsuf
    obtain rfl : R = some acc := by simpa [impl_ReadLog.l0] using hl.symm
    obtain ⟨t, ht, h⟩ := Option.bind_eq_some_iff.mp h
    obtain ⟨Av, cv, rfl⟩ := Kd.R_slice hR1
    obtain ⟨_, hle, hC⟩ := Kd.R_reads' hR1
    have hc4 := k4.cell
    gi_wp2_with (fail)
    refine ⟨trivial, ?_⟩
    refine (callsIn_wide.2 (impl_LogText.calls Av cv acc t _ hC hle (Env_on henv hB) ht)).mono ?_
    rintro e W1 ⟨rfl, hb1⟩
    have hK1 : W1.heap[D]? = some (.deferred (some [])) := (hb1.block _ (Array.getElem?_eq_some_iff.1 hK).1).trans hK
    replace hB := hB.trans (hb1.mono hB.size)
    replace hR1 := Kd.R_below hR1 hb1
    replace k2 : Boxed W1 w.heap.size 23 (.slice none 0 0) := (hb1.block _ k2.lt).trans k2
    replace k3 : Boxed W1 b3 2 (.int .i64 0) := (hb1.block _ k3.lt).trans k3
    replace k4 : Boxed W1 b4 23 (.slice Av acc.length cv) := (hb1.block _ k4.lt).trans k4
    clear hb1 hK hC hc4
    have hc4 := k4.cell
    have hc2 := k2.cell
    have hf2 := k2.frozen
    have hc3 := k3.cell
    have hf3 := k3.frozen
    have nD : ∀ {b : Nat}, b ≠ D → some b ≠ some D := fun h e => h (by cases e; rfl)
    have es : (⟨s0.toArray⟩ : ByteArray).toList = s0 := by simp
    rw [es] at h
    by_cases ct : t.toList = s0
    · rw [if_pos ct] at h
      simp only [Option.some.injEq, Prod.mk.injEq] at h
      obtain ⟨rfl, rfl⟩ := h
      have cb : (t.toList == s0) = true := beq_iff_eq.mpr ct
      gi_wp2_with (fail)
      obtain ⟨hK2, hfin⟩ := impl_ReadLog.leave (c := 0) (Nat.le_refl _) z3 (Nat.le_trans hszW hD) n23 (by omega) (by omega) hB hR1 k2 k3 hK1
      refine ⟨by simp, .inl ⟨_, _, rfl, run_takeDeferred hK2, ?_⟩⟩
      exact hfin _ rfl rfl
    · rw [if_neg ct] at h
      simp only [Option.some.injEq, Prod.mk.injEq] at h
      obtain ⟨rfl, rfl⟩ := h
      have cb : (t.toList == s0) = false := beq_eq_false_iff_ne.mpr ct
      gi_wp2_with (fail)
      obtain ⟨hK2, hfin⟩ := impl_ReadLog.leave (c := 5) (Nat.le_refl _) z3 (Nat.le_trans hszW hD) n23 (by omega) (by omega) hB (Kd.R_nil k34 34 W1 w.heap.size (fun _ => True)) k2 k3 hK1
      refine ⟨by simp, .inl ⟨_, _, rfl, run_takeDeferred hK2, ?_⟩⟩
      exact hfin _ rfl rfl
  case stop =>
    rintro D pre W hD ⟨hRn, k2, k3, hB⟩ hK
    subst hRn
    simp only [Option.some.injEq, Prod.mk.injEq] at h
    obtain ⟨rfl, rfl⟩ := h
    gi_wp2_with (fail)
    refine ⟨by simp, .inl ⟨_, _, rfl, run_takeDeferred hK, ?_⟩⟩
    have hgD := grownBy_putObj' W D (.deferred none)
    have nD : ∀ {b : Nat}, b ≠ D → some b ≠ some D := fun h e => h (by cases e; rfl)
    have m2 := k2.kept hgD (nD (by omega))
    have m3 := k3.kept hgD (nD (by omega))
    exact ⟨_, impl_ReadLog.ends m2 m3 rfl rfl, _, rfl, Kd.R_nil _ _ _ _ _, hB.grown hgD hB.size (fun k e => by cases e; omega)⟩
end Go.Proofs.YtmcfbnglocojkaaDoor.G
end

section
namespace Go.Proofs.YtmcfbnglocojkaaDoor.G
open Go.RowKit Go.Proofs.YtmcfbnglocojkaaDoorW.PrintWords Go.Proofs.YtmcfbnglocojkaaDoorW.PrintLast Go.Proofs.YtmcfbnglocojkaaDoorW.PrintMore
attribute [local go_sem] max2_int min2_int max_two min_two max_three min_three max_four min_four
set_option linter.unusedVariables false
set_option linter.unusedSimpArgs false
def laws_eqEntry.f (a0_0 : Int) (a0_1 : Int) (a0_2 : Bool) (a1_0 : Int) (a1_1 : Int) (a1_2 : Bool) : Option (Bool) := if a0_0 = a1_0 then (if a0_1 = a1_1 then (if (a0_2 != a1_2) = true then (some false) else (some true)) else (some false)) else (some false)
set_option maxHeartbeats 8000000 in
set_option maxRecDepth 100000 in
theorem laws_eqEntry.calls (a0_0 : Int) (a0_1 : Int) (a0_2 : Bool) (a1_0 : Int) (a1_1 : Int) (a1_2 : Bool) (r : Bool) (w : World) (h : laws_eqEntry.f a0_0 a0_1 a0_2 a1_0 a1_1 a1_2 = some r) :
  Calls Tryd.prog 17 #[.agg #[.int .i64 a0_0,.int .i64 a0_1,.bool a0_2],.agg #[.int .i64 a1_0,.int .i64 a1_1,.bool a1_2]] w fun e w' => e = .returned (.bool r) ∧ Below w.heap.size w w' := by
 have hu34 := Tryd.underlying34;have HB := Aside0.mk (Below.refl w.heap.size w);have H : (if a0_0 = a1_0 then (if a0_1 = a1_1 then (if (a0_2 != a1_2) = true then (some false) else (some true)) else (some false)) else (some false)) = some r := h;clear h
 by_cases c3 : a0_0 = a1_0
 ·rw [if_pos c3] at H;have c3b0 : (a0_0 == a1_0) = true := beq_iff_eq.mpr c3;have c3b1 : (a0_0 != a1_0) = false := bne_eq_false_iff_eq.mpr c3;clear c3
  by_cases c4 : a0_1 = a1_1
  ·rw [if_pos c4] at H;have c4b0 : (a0_1 == a1_1) = true := beq_iff_eq.mpr c4;have c4b1 : (a0_1 != a1_1) = false := bne_eq_false_iff_eq.mpr c4;clear c4
   by_cases c5 : (a0_2 != a1_2) = true
   ·rw [if_pos c5] at H;have c5b0 : (a0_2 != a1_2) = true := c5;(try (have c5b1 : decide (a0_2 = a1_2) = false := by simpa using c5));(try (have c5b2 : (a0_2 == a1_2) = false := by simpa using c5));(try (have c5b3 : ¬ (a0_2 = a1_2) := by simpa using c5));clear c5;obtain rfl := Option.some.inj H
    go_enter Tryd.func17,Tryd.ntmps17
    go_wp2_with (first | ((with_reducible refine gate_dst (N := 2) rfl ?_);refine box_event ?hg (N := 2) ?hd (cs := #[.int .i64 a0_0,.int .i64 a0_1,.bool a0_2]) (t := 34) ?hr ?_;(case hd => rfl);(case hg => rfl);(case hr => first | (go_simp;done) | (go_simp;rfl));intro gb101 hg w6 hbox hb;have n0_ := Aside0.mk (below_step (by repeat (first | (with_reducible first | exact HB.out | apply below_alloc | apply pw_below_drewN | apply below_drew1) | exact HB.out)) hb);have n1_ := Aside0.mk (hbox);have n2_ := Aside0.mk ((by rw [hg];exact (below_size (by repeat (first | (with_reducible first | exact HB.out | apply below_alloc | apply pw_below_drewN | apply below_drew1) | exact HB.out))) : w.heap.size ≤ gb101));have n3_ := Aside0.mk ((by rw [hg];exact (below_size (by repeat (first | (with_reducible first | exact HB.out | apply below_alloc | apply pw_below_drewN | apply below_drew1) | exact HB.out))) : w.heap.size ≤ gb101));clear HB;have HB := n0_;have BK101 := n1_;have GW101 := n2_;have GE101 := n3_;clear n0_ n1_ n2_ n3_;clear hb hbox hg) | ((with_reducible refine gate_dst (N := 3) rfl ?_);refine box_event ?hg (N := 3) ?hd (cs := #[.int .i64 a1_0,.int .i64 a1_1,.bool a1_2]) (t := 34) ?hr ?_;(case hd => rfl);(case hg => rfl);(case hr => first | (go_simp;done) | (go_simp;rfl));intro gb102 hg w7 hbox hb;have n0_ := Aside0.mk (blk_below (g := gb101) (o := .cells #[.int .i64 a0_0,.int .i64 a0_1,.bool a0_2] 34 (0,0)) (by (with_reducible repeat (first | refine blk_drewN ?_ _ | refine blk_drew ?_ | refine blk_alloc ?_ _));exact BK101.out) hb);have n1_ := Aside0.mk (below_step (by repeat (first | (with_reducible first | exact HB.out | apply below_alloc | apply pw_below_drewN | apply below_drew1 | refine below_set ?_ GE101.out) | exact HB.out)) hb);have n2_ := Aside0.mk (hbox);have n3_ := Aside0.mk ((by rw [hg];exact (below_size (by repeat (first | (with_reducible first | exact HB.out | apply below_alloc | apply pw_below_drewN | apply below_drew1 | refine below_set ?_ GE101.out) | exact HB.out))) : w.heap.size ≤ gb102));have n4_ := Aside0.mk ((by rw [hg];exact (below_size (by repeat (first | (with_reducible first | exact HB.out | apply below_alloc | apply pw_below_drewN | apply below_drew1 | refine below_set ?_ GE101.out) | exact HB.out))) : w.heap.size ≤ gb102));have n5_ := Aside0.mk ((by rw [hg];exact Nat.ne_of_lt (blk_lt (g := gb101) (o := .cells #[.int .i64 a0_0,.int .i64 a0_1,.bool a0_2] 34 (0,0)) (by (with_reducible repeat (first | refine blk_drewN ?_ _ | refine blk_drew ?_ | refine blk_alloc ?_ _));exact BK101.out)) : gb101 ≠ gb102));have n6_ := Aside0.mk ((by rw [hg];exact Nat.ne_of_gt (blk_lt (g := gb101) (o := .cells #[.int .i64 a0_0,.int .i64 a0_1,.bool a0_2] 34 (0,0)) (by (with_reducible repeat (first | refine blk_drewN ?_ _ | refine blk_drew ?_ | refine blk_alloc ?_ _));exact BK101.out)) : gb102 ≠ gb101));clear BK101;clear HB;have BK101 := n0_;have HB := n1_;have BK102 := n2_;have GW102 := n3_;have GE102 := n4_;have NB101_102 := n5_;have NB102_101 := n6_;clear n0_ n1_ n2_ n3_ n4_ n5_ n6_;clear hb hbox hg;have hnb8 := NB101_102.out;have hnc8 := NB102_101.out;have hcz9_0 : w7.cell? ⟨gb101,0,none⟩ = some (.int .i64 a0_0) := (blk_cell BK101.out 0).trans rfl;have hcz9_1 : w7.cell? ⟨gb101,1,none⟩ = some (.int .i64 a0_1) := (blk_cell BK101.out 1).trans rfl;have hcz9_2 : w7.cell? ⟨gb101,2,none⟩ = some (.bool a0_2) := (blk_cell BK101.out 2).trans rfl;have hfz9_0 := blk_frozen BK101.out 0;have hfz9_1 := blk_frozen BK101.out 1;have hfz9_2 := blk_frozen BK101.out 2;have hcz10_0 : w7.cell? ⟨gb102,0,none⟩ = some (.int .i64 a1_0) := (blk_cell BK102.out 0).trans rfl;have hcz10_1 : w7.cell? ⟨gb102,1,none⟩ = some (.int .i64 a1_1) := (blk_cell BK102.out 1).trans rfl;have hcz10_2 : w7.cell? ⟨gb102,2,none⟩ = some (.bool a1_2) := (blk_cell BK102.out 2).trans rfl;have hfz10_0 := blk_frozen BK102.out 0;have hfz10_1 := blk_frozen BK102.out 1;have hfz10_2 := blk_frozen BK102.out 2))
    go_ret
    exact ⟨by first | rfl | (simp [errW_none,errW_some,IntKind.wrap_i64,wrap64];done) | (simp [errW_none,errW_some] <;> rfl) | (simp [*,errW_none,errW_some] <;> rfl),by repeat (first | (with_reducible first | exact HB.out | apply below_alloc | apply pw_below_drewN | apply below_drew1 | refine below_set ?_ GE101.out | refine below_set ?_ GE102.out) | exact HB.out)⟩
   ·rw [if_neg c5] at H
    have c5b0 : (a0_2 != a1_2) = false := by simpa using c5
    (try (have c5b1 : decide (a0_2 = a1_2) = true := by simpa using c5));(try (have c5b2 : (a0_2 == a1_2) = true := by simpa using c5));clear c5;obtain rfl := Option.some.inj H
    go_enter Tryd.func17,Tryd.ntmps17
    go_wp2_with (first | ((with_reducible refine gate_dst (N := 2) rfl ?_);refine box_event ?hg (N := 2) ?hd (cs := #[.int .i64 a0_0,.int .i64 a0_1,.bool a0_2]) (t := 34) ?hr ?_;(case hd => rfl);(case hg => rfl);(case hr => first | (go_simp;done) | (go_simp;rfl));intro gb101 hg w11 hbox hb;have n0_ := Aside0.mk (below_step (by repeat (first | (with_reducible first | exact HB.out | apply below_alloc | apply pw_below_drewN | apply below_drew1) | exact HB.out)) hb);have n1_ := Aside0.mk (hbox);have n2_ := Aside0.mk ((by rw [hg];exact (below_size (by repeat (first | (with_reducible first | exact HB.out | apply below_alloc | apply pw_below_drewN | apply below_drew1) | exact HB.out))) : w.heap.size ≤ gb101));have n3_ := Aside0.mk ((by rw [hg];exact (below_size (by repeat (first | (with_reducible first | exact HB.out | apply below_alloc | apply pw_below_drewN | apply below_drew1) | exact HB.out))) : w.heap.size ≤ gb101));clear HB;have HB := n0_;have BK101 := n1_;have GW101 := n2_;have GE101 := n3_;clear n0_ n1_ n2_ n3_;clear hb hbox hg) | ((with_reducible refine gate_dst (N := 3) rfl ?_);refine box_event ?hg (N := 3) ?hd (cs := #[.int .i64 a1_0,.int .i64 a1_1,.bool a1_2]) (t := 34) ?hr ?_;(case hd => rfl);(case hg => rfl);(case hr => first | (go_simp;done) | (go_simp;rfl));intro gb102 hg w12 hbox hb;have n0_ := Aside0.mk (blk_below (g := gb101) (o := .cells #[.int .i64 a0_0,.int .i64 a0_1,.bool a0_2] 34 (0,0)) (by (with_reducible repeat (first | refine blk_drewN ?_ _ | refine blk_drew ?_ | refine blk_alloc ?_ _));exact BK101.out) hb);have n1_ := Aside0.mk (below_step (by repeat (first | (with_reducible first | exact HB.out | apply below_alloc | apply pw_below_drewN | apply below_drew1 | refine below_set ?_ GE101.out) | exact HB.out)) hb);have n2_ := Aside0.mk (hbox);have n3_ := Aside0.mk ((by rw [hg];exact (below_size (by repeat (first | (with_reducible first | exact HB.out | apply below_alloc | apply pw_below_drewN | apply below_drew1 | refine below_set ?_ GE101.out) | exact HB.out))) : w.heap.size ≤ gb102));have n4_ := Aside0.mk ((by rw [hg];exact (below_size (by repeat (first | (with_reducible first | exact HB.out | apply below_alloc | apply pw_below_drewN | apply below_drew1 | refine below_set ?_ GE101.out) | exact HB.out))) : w.heap.size ≤ gb102));have n5_ := Aside0.mk ((by rw [hg];exact Nat.ne_of_lt (blk_lt (g := gb101) (o := .cells #[.int .i64 a0_0,.int .i64 a0_1,.bool a0_2] 34 (0,0)) (by (with_reducible repeat (first | refine blk_drewN ?_ _ | refine blk_drew ?_ | refine blk_alloc ?_ _));exact BK101.out)) : gb101 ≠ gb102));have n6_ := Aside0.mk ((by rw [hg];exact Nat.ne_of_gt (blk_lt (g := gb101) (o := .cells #[.int .i64 a0_0,.int .i64 a0_1,.bool a0_2] 34 (0,0)) (by (with_reducible repeat (first | refine blk_drewN ?_ _ | refine blk_drew ?_ | refine blk_alloc ?_ _));exact BK101.out)) : gb102 ≠ gb101));clear BK101;clear HB;have BK101 := n0_;have HB := n1_;have BK102 := n2_;have GW102 := n3_;have GE102 := n4_;have NB101_102 := n5_;have NB102_101 := n6_;clear n0_ n1_ n2_ n3_ n4_ n5_ n6_;clear hb hbox hg;have hnb13 := NB101_102.out;have hnc13 := NB102_101.out;have hcz14_0 : w12.cell? ⟨gb101,0,none⟩ = some (.int .i64 a0_0) := (blk_cell BK101.out 0).trans rfl;have hcz14_1 : w12.cell? ⟨gb101,1,none⟩ = some (.int .i64 a0_1) := (blk_cell BK101.out 1).trans rfl;have hcz14_2 : w12.cell? ⟨gb101,2,none⟩ = some (.bool a0_2) := (blk_cell BK101.out 2).trans rfl;have hfz14_0 := blk_frozen BK101.out 0;have hfz14_1 := blk_frozen BK101.out 1;have hfz14_2 := blk_frozen BK101.out 2;have hcz15_0 : w12.cell? ⟨gb102,0,none⟩ = some (.int .i64 a1_0) := (blk_cell BK102.out 0).trans rfl;have hcz15_1 : w12.cell? ⟨gb102,1,none⟩ = some (.int .i64 a1_1) := (blk_cell BK102.out 1).trans rfl;have hcz15_2 : w12.cell? ⟨gb102,2,none⟩ = some (.bool a1_2) := (blk_cell BK102.out 2).trans rfl;have hfz15_0 := blk_frozen BK102.out 0;have hfz15_1 := blk_frozen BK102.out 1;have hfz15_2 := blk_frozen BK102.out 2))
    go_ret
    exact ⟨by first | rfl | (simp [errW_none,errW_some,IntKind.wrap_i64,wrap64];done) | (simp [errW_none,errW_some] <;> rfl) | (simp [*,errW_none,errW_some] <;> rfl),by repeat (first | (with_reducible first | exact HB.out | apply below_alloc | apply pw_below_drewN | apply below_drew1 | refine below_set ?_ GE101.out | refine below_set ?_ GE102.out) | exact HB.out)⟩
  ·rw [if_neg c4] at H;have c4b0 : (a0_1 == a1_1) = false := beq_eq_false_iff_ne.mpr c4;have c4b1 : (a0_1 != a1_1) = true := bne_iff_ne.mpr c4;obtain rfl := Option.some.inj H
   go_enter Tryd.func17,Tryd.ntmps17
   go_wp2_with (first | ((with_reducible refine gate_dst (N := 2) rfl ?_);refine box_event ?hg (N := 2) ?hd (cs := #[.int .i64 a0_0,.int .i64 a0_1,.bool a0_2]) (t := 34) ?hr ?_;(case hd => rfl);(case hg => rfl);(case hr => first | (go_simp;done) | (go_simp;rfl));intro gb101 hg w16 hbox hb;have n0_ := Aside0.mk (below_step (by repeat (first | (with_reducible first | exact HB.out | apply below_alloc | apply pw_below_drewN | apply below_drew1) | exact HB.out)) hb);have n1_ := Aside0.mk (hbox);have n2_ := Aside0.mk ((by rw [hg];exact (below_size (by repeat (first | (with_reducible first | exact HB.out | apply below_alloc | apply pw_below_drewN | apply below_drew1) | exact HB.out))) : w.heap.size ≤ gb101));have n3_ := Aside0.mk ((by rw [hg];exact (below_size (by repeat (first | (with_reducible first | exact HB.out | apply below_alloc | apply pw_below_drewN | apply below_drew1) | exact HB.out))) : w.heap.size ≤ gb101));clear HB;have HB := n0_;have BK101 := n1_;have GW101 := n2_;have GE101 := n3_;clear n0_ n1_ n2_ n3_;clear hb hbox hg) | ((with_reducible refine gate_dst (N := 3) rfl ?_);refine box_event ?hg (N := 3) ?hd (cs := #[.int .i64 a1_0,.int .i64 a1_1,.bool a1_2]) (t := 34) ?hr ?_;(case hd => rfl);(case hg => rfl);(case hr => first | (go_simp;done) | (go_simp;rfl));intro gb102 hg w17 hbox hb;have n0_ := Aside0.mk (blk_below (g := gb101) (o := .cells #[.int .i64 a0_0,.int .i64 a0_1,.bool a0_2] 34 (0,0)) (by (with_reducible repeat (first | refine blk_drewN ?_ _ | refine blk_drew ?_ | refine blk_alloc ?_ _));exact BK101.out) hb);have n1_ := Aside0.mk (below_step (by repeat (first | (with_reducible first | exact HB.out | apply below_alloc | apply pw_below_drewN | apply below_drew1 | refine below_set ?_ GE101.out) | exact HB.out)) hb);have n2_ := Aside0.mk (hbox);have n3_ := Aside0.mk ((by rw [hg];exact (below_size (by repeat (first | (with_reducible first | exact HB.out | apply below_alloc | apply pw_below_drewN | apply below_drew1 | refine below_set ?_ GE101.out) | exact HB.out))) : w.heap.size ≤ gb102));have n4_ := Aside0.mk ((by rw [hg];exact (below_size (by repeat (first | (with_reducible first | exact HB.out | apply below_alloc | apply pw_below_drewN | apply below_drew1 | refine below_set ?_ GE101.out) | exact HB.out))) : w.heap.size ≤ gb102));have n5_ := Aside0.mk ((by rw [hg];exact Nat.ne_of_lt (blk_lt (g := gb101) (o := .cells #[.int .i64 a0_0,.int .i64 a0_1,.bool a0_2] 34 (0,0)) (by (with_reducible repeat (first | refine blk_drewN ?_ _ | refine blk_drew ?_ | refine blk_alloc ?_ _));exact BK101.out)) : gb101 ≠ gb102));have n6_ := Aside0.mk ((by rw [hg];exact Nat.ne_of_gt (blk_lt (g := gb101) (o := .cells #[.int .i64 a0_0,.int .i64 a0_1,.bool a0_2] 34 (0,0)) (by (with_reducible repeat (first | refine blk_drewN ?_ _ | refine blk_drew ?_ | refine blk_alloc ?_ _));exact BK101.out)) : gb102 ≠ gb101));clear BK101;clear HB;have BK101 := n0_;have HB := n1_;have BK102 := n2_;have GW102 := n3_;have GE102 := n4_;have NB101_102 := n5_;have NB102_101 := n6_;clear n0_ n1_ n2_ n3_ n4_ n5_ n6_;clear hb hbox hg;have hnb18 := NB101_102.out;have hnc18 := NB102_101.out;have hcz19_0 : w17.cell? ⟨gb101,0,none⟩ = some (.int .i64 a0_0) := (blk_cell BK101.out 0).trans rfl;have hcz19_1 : w17.cell? ⟨gb101,1,none⟩ = some (.int .i64 a0_1) := (blk_cell BK101.out 1).trans rfl;have hcz19_2 : w17.cell? ⟨gb101,2,none⟩ = some (.bool a0_2) := (blk_cell BK101.out 2).trans rfl;have hfz19_0 := blk_frozen BK101.out 0;have hfz19_1 := blk_frozen BK101.out 1;have hfz19_2 := blk_frozen BK101.out 2;have hcz20_0 : w17.cell? ⟨gb102,0,none⟩ = some (.int .i64 a1_0) := (blk_cell BK102.out 0).trans rfl;have hcz20_1 : w17.cell? ⟨gb102,1,none⟩ = some (.int .i64 a1_1) := (blk_cell BK102.out 1).trans rfl;have hcz20_2 : w17.cell? ⟨gb102,2,none⟩ = some (.bool a1_2) := (blk_cell BK102.out 2).trans rfl;have hfz20_0 := blk_frozen BK102.out 0;have hfz20_1 := blk_frozen BK102.out 1;have hfz20_2 := blk_frozen BK102.out 2))
   go_ret
   exact ⟨by first | rfl | (simp [errW_none,errW_some,IntKind.wrap_i64,wrap64];done) | (simp [errW_none,errW_some] <;> rfl) | (simp [*,errW_none,errW_some] <;> rfl),by repeat (first | (with_reducible first | exact HB.out | apply below_alloc | apply pw_below_drewN | apply below_drew1 | refine below_set ?_ GE101.out | refine below_set ?_ GE102.out) | exact HB.out)⟩
 ·rw [if_neg c3] at H;have c3b0 : (a0_0 == a1_0) = false := beq_eq_false_iff_ne.mpr c3;have c3b1 : (a0_0 != a1_0) = true := bne_iff_ne.mpr c3;obtain rfl := Option.some.inj H
  go_enter Tryd.func17,Tryd.ntmps17
  go_wp2_with (first | ((with_reducible refine gate_dst (N := 2) rfl ?_);refine box_event ?hg (N := 2) ?hd (cs := #[.int .i64 a0_0,.int .i64 a0_1,.bool a0_2]) (t := 34) ?hr ?_;(case hd => rfl);(case hg => rfl);(case hr => first | (go_simp;done) | (go_simp;rfl));intro gb101 hg w21 hbox hb;have n0_ := Aside0.mk (below_step (by repeat (first | (with_reducible first | exact HB.out | apply below_alloc | apply pw_below_drewN | apply below_drew1) | exact HB.out)) hb);have n1_ := Aside0.mk (hbox);have n2_ := Aside0.mk ((by rw [hg];exact (below_size (by repeat (first | (with_reducible first | exact HB.out | apply below_alloc | apply pw_below_drewN | apply below_drew1) | exact HB.out))) : w.heap.size ≤ gb101));have n3_ := Aside0.mk ((by rw [hg];exact (below_size (by repeat (first | (with_reducible first | exact HB.out | apply below_alloc | apply pw_below_drewN | apply below_drew1) | exact HB.out))) : w.heap.size ≤ gb101));clear HB;have HB := n0_;have BK101 := n1_;have GW101 := n2_;have GE101 := n3_;clear n0_ n1_ n2_ n3_;clear hb hbox hg) | ((with_reducible refine gate_dst (N := 3) rfl ?_);refine box_event ?hg (N := 3) ?hd (cs := #[.int .i64 a1_0,.int .i64 a1_1,.bool a1_2]) (t := 34) ?hr ?_;(case hd => rfl);(case hg => rfl);(case hr => first | (go_simp;done) | (go_simp;rfl));intro gb102 hg w22 hbox hb;have n0_ := Aside0.mk (blk_below (g := gb101) (o := .cells #[.int .i64 a0_0,.int .i64 a0_1,.bool a0_2] 34 (0,0)) (by (with_reducible repeat (first | refine blk_drewN ?_ _ | refine blk_drew ?_ | refine blk_alloc ?_ _));exact BK101.out) hb);have n1_ := Aside0.mk (below_step (by repeat (first | (with_reducible first | exact HB.out | apply below_alloc | apply pw_below_drewN | apply below_drew1 | refine below_set ?_ GE101.out) | exact HB.out)) hb);have n2_ := Aside0.mk (hbox);have n3_ := Aside0.mk ((by rw [hg];exact (below_size (by repeat (first | (with_reducible first | exact HB.out | apply below_alloc | apply pw_below_drewN | apply below_drew1 | refine below_set ?_ GE101.out) | exact HB.out))) : w.heap.size ≤ gb102));have n4_ := Aside0.mk ((by rw [hg];exact (below_size (by repeat (first | (with_reducible first | exact HB.out | apply below_alloc | apply pw_below_drewN | apply below_drew1 | refine below_set ?_ GE101.out) | exact HB.out))) : w.heap.size ≤ gb102));have n5_ := Aside0.mk ((by rw [hg];exact Nat.ne_of_lt (blk_lt (g := gb101) (o := .cells #[.int .i64 a0_0,.int .i64 a0_1,.bool a0_2] 34 (0,0)) (by (with_reducible repeat (first | refine blk_drewN ?_ _ | refine blk_drew ?_ | refine blk_alloc ?_ _));exact BK101.out)) : gb101 ≠ gb102));have n6_ := Aside0.mk ((by rw [hg];exact Nat.ne_of_gt (blk_lt (g := gb101) (o := .cells #[.int .i64 a0_0,.int .i64 a0_1,.bool a0_2] 34 (0,0)) (by (with_reducible repeat (first | refine blk_drewN ?_ _ | refine blk_drew ?_ | refine blk_alloc ?_ _));exact BK101.out)) : gb102 ≠ gb101));clear BK101;clear HB;have BK101 := n0_;have HB := n1_;have BK102 := n2_;have GW102 := n3_;have GE102 := n4_;have NB101_102 := n5_;have NB102_101 := n6_;clear n0_ n1_ n2_ n3_ n4_ n5_ n6_;clear hb hbox hg;have hnb23 := NB101_102.out;have hnc23 := NB102_101.out;have hcz24_0 : w22.cell? ⟨gb101,0,none⟩ = some (.int .i64 a0_0) := (blk_cell BK101.out 0).trans rfl;have hcz24_1 : w22.cell? ⟨gb101,1,none⟩ = some (.int .i64 a0_1) := (blk_cell BK101.out 1).trans rfl;have hcz24_2 : w22.cell? ⟨gb101,2,none⟩ = some (.bool a0_2) := (blk_cell BK101.out 2).trans rfl;have hfz24_0 := blk_frozen BK101.out 0;have hfz24_1 := blk_frozen BK101.out 1;have hfz24_2 := blk_frozen BK101.out 2;have hcz25_0 : w22.cell? ⟨gb102,0,none⟩ = some (.int .i64 a1_0) := (blk_cell BK102.out 0).trans rfl;have hcz25_1 : w22.cell? ⟨gb102,1,none⟩ = some (.int .i64 a1_1) := (blk_cell BK102.out 1).trans rfl;have hcz25_2 : w22.cell? ⟨gb102,2,none⟩ = some (.bool a1_2) := (blk_cell BK102.out 2).trans rfl;have hfz25_0 := blk_frozen BK102.out 0;have hfz25_1 := blk_frozen BK102.out 1;have hfz25_2 := blk_frozen BK102.out 2))
  go_ret
  exact ⟨by first | rfl | (simp [errW_none,errW_some,IntKind.wrap_i64,wrap64];done) | (simp [errW_none,errW_some] <;> rfl) | (simp [*,errW_none,errW_some] <;> rfl),by repeat (first | (with_reducible first | exact HB.out | apply below_alloc | apply pw_below_drewN | apply below_drew1 | refine below_set ?_ GE101.out | refine below_set ?_ GE102.out) | exact HB.out)⟩
end Go.Proofs.YtmcfbnglocojkaaDoor.G
end

section
namespace Go.Proofs.YtmcfbnglocojkaaDoor.G
open Go.RowKit Go.Proofs.YtmcfbnglocojkaaDoorW.PrintWords Go.Proofs.YtmcfbnglocojkaaDoorW.PrintLast Go.Proofs.YtmcfbnglocojkaaDoorW.PrintMore
attribute [local go_sem] max2_int min2_int max_two min_two max_three min_three max_four min_four
set_option linter.unusedVariables false
set_option linter.unusedSimpArgs false
def laws_eqLog.l0 : Nat → List (S34) → List (S34) → Int → Option (Bool)
 | 0,_,_,_ => none
 | k + 1,x0,x1,x5 => if x5 < (x0.length : Int) then (if 0 ≤ x5 then (if x5 < (x1.length : Int) then ((laws_eqEntry.f ((rd_T34 x0 x5).f0) ((rd_T34 x0 x5).f1) ((rd_T34 x0 x5).f2) ((rd_T34 x1 x5).f0) ((rd_T34 x1 x5).f1) ((rd_T34 x1 x5).f2)).bind fun t103 => (if t103 = true then (laws_eqLog.l0 k x0 x1 (wrap64 (x5 + 1))) else (some false))) else (none)) else (none)) else (some true)
def laws_eqLog.f (k : Nat) (l0 : List (S34)) (l1 : List (S34)) : Option (Bool) := if (l0.length : Int) = (l1.length : Int) then (laws_eqLog.l0 k l0 l1 0) else (some false)
def laws_eqLog.T6 : Bool × List (List Nat × List Nat) := (true,[([],[]),([],[]),([0,1],[0,1]),([2],[2]),([],[]),([],[]),([4,5],[4,5]),([6],[6]),([3,7],[3,7]),([8],[8])])
def laws_eqLog.B6 : List Nat := [0,0,3,7,0,0,48,112,255,511]
theorem laws_eqLog.tab6 : rtab .any (opsOf Tryd.f6 6) = laws_eqLog.T6 := by kernel_rfl
theorem laws_eqLog.bits6 : waitsOk laws_eqLog.T6.2 laws_eqLog.B6 = true := by kernel_rfl
set_option maxHeartbeats 8000000 in
set_option maxRecDepth 100000 in
theorem laws_eqLog.calls (k : Nat) (A0 : Option Addr) (c0 : Nat) (l0 : List (S34)) (A1 : Option Addr) (c1 : Nat) (l1 : List (S34)) (r : Bool) (w : World) (hr0 : Kd.C k34 w A0 l0.length l0) (hc0 : l0.length ≤ c0) (hr1 : Kd.C k34 w A1 l1.length l1) (hc1 : l1.length ≤ c1) (h : laws_eqLog.f k l0 l1 = some r) :
  Calls Tryd.prog 6 #[.slice A0 l0.length c0,.slice A1 l1.length c1] w fun e w' => e = .returned (.bool r) ∧ Below w.heap.size w w' := by
 have hu34 := Tryd.underlying34;have HR0 := Aside0.mk hr0;have HC0 := Aside0.mk hc0;clear hr0 hc0;have HR1 := Aside0.mk hr1;have HC1 := Aside0.mk hc1;clear hr1 hc1;have HB := Aside0.mk (Below.refl w.heap.size w);have H : (if (l0.length : Int) = (l1.length : Int) then (laws_eqLog.l0 k l0 l1 0) else (some false)) = some r := h;clear h
 by_cases c3 : (l0.length : Int) = (l1.length : Int)
 ·rw [if_pos c3] at H;have c3b0 : ((l0.length : Int) == (l1.length : Int)) = true := beq_iff_eq.mpr c3;have c3b1 : ((l0.length : Int) != (l1.length : Int)) = false := bne_eq_false_iff_eq.mpr c3
  have c3b2 : (l0.length == l1.length) = true := by first | simpa using c3 | (simp at c3 ⊢;omega)
  clear c3;have H' := Aside0.mk H;clear H
  go_enter Tryd.func6,Tryd.ntmps6
  go_wp2
  go_loopg [5] k (fun kq v5 w' => ∃ (x5_1 : Int),v5 = .int .i64 x5_1 ∧ Aside0 (laws_eqLog.l0 kq l0 l1 x5_1 = some r) ∧ Aside0 (kq ≤ k) ∧ Aside0 (Below w.heap.size w w'))
  case atStart => exact ⟨(0),(by first | rfl | (simp only [IntKind.wrap_i64,wrap64];done) | (simp;done) | (simp [*];done)),H',⟨Nat.le_refl _⟩,⟨by repeat (first | (with_reducible first | exact HB.out | apply below_alloc | apply pw_below_drewN | apply below_drew1) | exact HB.out)⟩⟩
  case round =>
   clear H';(try clear c1);(try clear p2);(try clear c3);(try clear c3b0);(try clear c3b1);(try clear c3b2);obtain ⟨x5_1,rfl,HA,HK1,HB⟩ := hrel
   cases gk with
   | zero => exact absurd HA.out (by simp [laws_eqLog.l0])
   | succ k1 =>
    have H := HA.out;clear HA;simp only [laws_eqLog.l0] at H
    by_cases c4 : x5_1 < (l0.length : Int)
    ·rw [if_pos c4] at H;have c4b0 : decide (x5_1 < (l0.length : Int)) = true := decide_eq_true c4;clear c4
     by_cases c5 : 0 ≤ x5_1
     ·rw [if_pos c5] at H;have c5b0 : decide (0 ≤ x5_1) = true := decide_eq_true c5;clear c5
      by_cases c6 : x5_1 < (l1.length : Int)
      ·rw [if_pos c6] at H;have c6b0 : decide (x5_1 < (l1.length : Int)) = true := decide_eq_true c6;clear c6;replace H := Option.bind_eq_some_iff.mp H;obtain ⟨t103,A70,H⟩ := H;replace H : (if t103 = true then (laws_eqLog.l0 k1 l0 l1 (wrap64 (x5_1 + 1))) else (some false)) = some r := H;have A7 := Aside0.mk A70;clear A70
       by_cases c8 : t103 = true
       ·subst c8
        have H1 : (laws_eqLog.l0 k1 l0 l1 (wrap64 (x5_1 + 1))) = some r := by rw [if_pos rfl] at H;exact H
        clear H;have H := H1;clear H1;have H' := Aside0.mk H;clear H;(try go_wp2);have n0_ := Aside0.mk (below_drew1 HB.out);clear HB;have HB := n0_;clear n0_;have p101 : 0 ≤ (x5_1 : Int) := of_decide_eq_true (by first | (with_reducible assumption) | assumption);have q101 : x5_1 < (l0.length : Int) := of_decide_eq_true (by first | (with_reducible assumption) | assumption);obtain ⟨ad101,e101,hx101_0,hx101_1,hx101_2⟩ := at_T34 HR0.out x5_1 p101 q101;have hw101_2 := hx101_2;have hw101_1 := hx101_1;have hw101_0 := hx101_0;cases e101;replace hx101_0 := (HB.out.cell (World.block_lt_of_cell? w _ hx101_0)).trans hx101_0;replace hx101_1 := (HB.out.cell (World.block_lt_of_cell? w _ hx101_1)).trans hx101_1;replace hx101_2 := (HB.out.cell (World.block_lt_of_cell? w _ hx101_2)).trans hx101_2;replace p101 := eq_true p101;replace q101 := eq_true q101;have p102 : 0 ≤ (x5_1 : Int) := of_decide_eq_true (by first | (with_reducible assumption) | assumption);have q102 : x5_1 < (l1.length : Int) := of_decide_eq_true (by first | (with_reducible assumption) | assumption);obtain ⟨ad102,e102,hx102_0,hx102_1,hx102_2⟩ := at_T34 HR1.out x5_1 p102 q102;have hw102_2 := hx102_2;have hw102_1 := hx102_1;have hw102_0 := hx102_0;cases e102;replace hx102_0 := (HB.out.cell (World.block_lt_of_cell? w _ hx102_0)).trans hx102_0;replace hx102_1 := (HB.out.cell (World.block_lt_of_cell? w _ hx102_1)).trans hx102_1;replace hx102_2 := (HB.out.cell (World.block_lt_of_cell? w _ hx102_2)).trans hx102_2;replace p102 := eq_true p102;replace q102 := eq_true q102;refine start_ (n := 10) (S := fun w' => w'.cell? (ad101.add ((x5_1).toNat * 3)) = some (.int .i64 ((rd_T34 l0 x5_1).f0)) ∧ w'.cell? ⟨(ad101.add ((x5_1).toNat * 3)).block,(ad101.add ((x5_1).toNat * 3)).off + 1,none⟩ = some (.int .i64 ((rd_T34 l0 x5_1).f1)) ∧ w'.cell? ⟨(ad101.add ((x5_1).toNat * 3)).block,(ad101.add ((x5_1).toNat * 3)).off + 2,none⟩ = some (.bool ((rd_T34 l0 x5_1).f2)) ∧ w'.cell? (ad102.add ((x5_1).toNat * 3)) = some (.int .i64 ((rd_T34 l1 x5_1).f0)) ∧ w'.cell? ⟨(ad102.add ((x5_1).toNat * 3)).block,(ad102.add ((x5_1).toNat * 3)).off + 1,none⟩ = some (.int .i64 ((rd_T34 l1 x5_1).f1)) ∧ w'.cell? ⟨(ad102.add ((x5_1).toNat * 3)).block,(ad102.add ((x5_1).toNat * 3)).off + 2,none⟩ = some (.bool ((rd_T34 l1 x5_1).f2))) (ds := []) #[false,false,false,false,false,false,false,false,false,false] (by kernel_rfl) rfl rfl ⟨((HB.out.cell (World.block_lt_of_cell? w _ hw101_0)).trans hw101_0),((HB.out.cell (World.block_lt_of_cell? w _ hw101_1)).trans hw101_1),((HB.out.cell (World.block_lt_of_cell? w _ hw101_2)).trans hw101_2),((HB.out.cell (World.block_lt_of_cell? w _ hw102_0)).trans hw102_0),((HB.out.cell (World.block_lt_of_cell? w _ hw102_1)).trans hw102_1),((HB.out.cell (World.block_lt_of_cell? w _ hw102_2)).trans hw102_2)⟩ (fun hHeld => ?_);refine with_tabW laws_eqLog.tab6 laws_eqLog.bits6 (fun HT_ HW_ => ?_);generalize wr.drew = w9 at HB hx101_0 hx101_1 hx101_2 hx102_0 hx102_1 hx102_2 hHeld ⊢;refine pure_ (i := 0) (N := some 17) (v := ?_) (a' := ?_) #[true,false,false,false,false,false,false,false,false,false] rfl rfl (any_of HT_.out (by kernel_rfl)) (fun _ _ _ h => h) (Or.inl ⟨by rfl,?_⟩) ?_ ?_;rotate_left
        ·intro w';go_simp;with_reducible rfl
        rotate_left
        ·simp only [Act.put,List.setIfInBounds_toArray,List.set_cons_zero,List.set_cons_succ,i64_w,i32_w];rfl
        refine pure_ (i := 1) (N := some 18) (v := ?_) (a' := ?_) #[true,true,false,false,false,false,false,false,false,false] rfl rfl (any_of HT_.out (by kernel_rfl)) (fun _ _ _ h => h) (Or.inl ⟨by rfl,?_⟩) ?_ ?_;rotate_left
        ·intro w';go_simp;with_reducible rfl
        rotate_left
        ·simp only [Act.put,List.setIfInBounds_toArray,List.set_cons_zero,List.set_cons_succ,i64_w,i32_w];rfl
        refine pure_ (i := 2) (N := some 19) (v := ?_) (a' := ?_) #[true,true,true,false,false,false,false,false,false,false] rfl rfl (any_of HT_.out (by kernel_rfl)) (fun _ _ _ h => h) (Or.inl ⟨by rfl,?_⟩) ?_ ?_;rotate_left
        ·intro w';go_simp;with_reducible rfl
        rotate_left
        ·simp only [Act.put,List.setIfInBounds_toArray,List.set_cons_zero,List.set_cons_succ,i64_w,i32_w];rfl
        refine pure_ (i := 4) (N := some 21) (v := ?_) (a' := ?_) #[true,true,true,false,true,false,false,false,false,false] rfl rfl (any_of HT_.out (by kernel_rfl)) (fun _ _ _ h => h) (Or.inl ⟨by rfl,?_⟩) ?_ ?_;rotate_left
        ·intro w';go_simp;with_reducible rfl
        rotate_left
        ·simp only [Act.put,List.setIfInBounds_toArray,List.set_cons_zero,List.set_cons_succ,i64_w,i32_w];rfl
        refine pure_ (i := 5) (N := some 22) (v := ?_) (a' := ?_) #[true,true,true,false,true,true,false,false,false,false] rfl rfl (any_of HT_.out (by kernel_rfl)) (fun _ _ _ h => h) (Or.inl ⟨by rfl,?_⟩) ?_ ?_;rotate_left
        ·intro w';go_simp;with_reducible rfl
        rotate_left
        ·simp only [Act.put,List.setIfInBounds_toArray,List.set_cons_zero,List.set_cons_succ,i64_w,i32_w];rfl
        refine pure_ (i := 6) (N := some 23) (v := ?_) (a' := ?_) #[true,true,true,false,true,true,true,false,false,false] rfl rfl (any_of HT_.out (by kernel_rfl)) (fun _ _ _ h => h) (Or.inl ⟨by rfl,?_⟩) ?_ ?_;rotate_left
        ·intro w';go_simp;with_reducible rfl
        rotate_left
        ·simp only [Act.put,List.setIfInBounds_toArray,List.set_cons_zero,List.set_cons_succ,i64_w,i32_w];rfl
        refine take_ (i := 3) (N := some 20) (v := ?_) (a' := ?_) #[true,true,true,true,true,true,true,false,false,false] rfl rfl (take_ofW HT_.out HW_.out (by kernel_rfl)) (fun _ _ _ h => h) (Or.inl ⟨by rfl,?_⟩) hHeld ?_ ?_;rotate_left
        ·rintro w' ⟨s0,s1,s2,s3,s4,s5⟩
         go_simp;with_reducible rfl
        rotate_left
        ·simp only [Act.put,List.setIfInBounds_toArray,List.set_cons_zero,List.set_cons_succ,i64_w,i32_w];rfl
        refine take_ (i := 7) (N := some 24) (v := ?_) (a' := ?_) #[true,true,true,true,true,true,true,true,false,false] rfl rfl (take_ofW HT_.out HW_.out (by kernel_rfl)) (fun _ _ _ h => h) (Or.inl ⟨by rfl,?_⟩) hHeld ?_ ?_;rotate_left
        ·rintro w' ⟨s0,s1,s2,s3,s4,s5⟩
         go_simp;with_reducible rfl
        rotate_left
        ·simp only [Act.put,List.setIfInBounds_toArray,List.set_cons_zero,List.set_cons_succ,i64_w,i32_w];rfl
        refine one_ (i := 8) (N := some 25) #[true,true,true,true,true,true,true,true,true,false] rfl rfl (one_of HT_.out (by kernel_rfl)) (by decide) (fun K hK => ?_);refine goes_ Tryd.func17 (by kernel_rfl) rfl #[.agg #[.int .i64 ((rd_T34 l0 x5_1).f0),.int .i64 ((rd_T34 l0 x5_1).f1),.bool ((rd_T34 l0 x5_1).f2)],.agg #[.int .i64 ((rd_T34 l1 x5_1).f0),.int .i64 ((rd_T34 l1 x5_1).f1),.bool ((rd_T34 l1 x5_1).f2)]] (by rfl) rfl rfl (by (try simp only [List.map_toArray,List.map_cons,List.map_nil]);first | done | rfl | (simp only [List.length_drop,List.length_take];rfl)) ?_
        with_reducible refine (laws_eqEntry.calls ((rd_T34 l0 x5_1).f0) ((rd_T34 l0 x5_1).f1) ((rd_T34 l0 x5_1).f2) ((rd_T34 l1 x5_1).f0) ((rd_T34 l1 x5_1).f1) ((rd_T34 l1 x5_1).f2) true _ A7.out).mono ?_
        rintro e w10 ⟨rfl,hb⟩
        refine ⟨_,rfl,?_⟩;have n0_ := Aside0.mk (below_step (by repeat (first | (with_reducible first | exact HB.out | apply below_alloc | apply pw_below_drewN | apply below_drew1) | exact HB.out)) hb);clear HB;have HB := n0_;clear n0_;(try clear hb);(try clear hb2);(try clear hk);(try clear hi);refine hK.out _ _ ⟨((HB.out.cell (World.block_lt_of_cell? w _ hw101_0)).trans hw101_0),((HB.out.cell (World.block_lt_of_cell? w _ hw101_1)).trans hw101_1),((HB.out.cell (World.block_lt_of_cell? w _ hw101_2)).trans hw101_2),((HB.out.cell (World.block_lt_of_cell? w _ hw102_0)).trans hw102_0),((HB.out.cell (World.block_lt_of_cell? w _ hw102_1)).trans hw102_1),((HB.out.cell (World.block_lt_of_cell? w _ hw102_2)).trans hw102_2)⟩ (fun hHeld => ?_);clear hK K;refine norm_ (a' := ?_) ?_ ?_;rotate_left
        ·show Act.put _ (some 25) _ = _
         simp only [Act.put,List.setIfInBounds_toArray,List.set_cons_zero,List.set_cons_succ,i64_w,i32_w];rfl
        refine pure_ (i := 9) (N := some 26) (v := ?_) (a' := ?_) #[true,true,true,true,true,true,true,true,true,true] rfl rfl (any_of HT_.out (by kernel_rfl)) (fun _ _ _ h => h) (Or.inl ⟨by rfl,?_⟩) ?_ ?_;rotate_left
        ·intro w';go_simp;with_reducible rfl
        rotate_left
        ·simp only [Act.put,List.setIfInBounds_toArray,List.set_cons_zero,List.set_cons_succ,i64_w,i32_w];rfl
        refine done_ (done_of HT_.out (by kernel_rfl)) ?_;(try go_wp2)
        go_roundg k1
        case measure => have := HK1.out;omega
        case rel => exact ⟨(wrap64 (x5_1 + 1)),(by first | rfl | (simp only [IntKind.wrap_i64,wrap64];done) | (simp;done) | (simp [*];done)),H',⟨by have := HK1.out;omega⟩,⟨by repeat (first | (with_reducible first | exact HB.out | apply below_alloc | apply pw_below_drewN | apply below_drew1) | exact HB.out)⟩⟩
       ·replace c8 := Bool.eq_false_iff.mpr c8;subst c8
        have H1 : (some false) = some r := by rw [if_neg (show ¬ (false = true) by decide)] at H;exact H
        clear H;have H := H1;clear H1;obtain rfl := Option.some.inj H;(try go_wp2);have n0_ := Aside0.mk (below_drew1 HB.out);clear HB;have HB := n0_;clear n0_;have p101 : 0 ≤ (x5_1 : Int) := of_decide_eq_true (by first | (with_reducible assumption) | assumption);have q101 : x5_1 < (l0.length : Int) := of_decide_eq_true (by first | (with_reducible assumption) | assumption);obtain ⟨ad101,e101,hx101_0,hx101_1,hx101_2⟩ := at_T34 HR0.out x5_1 p101 q101;have hw101_2 := hx101_2;have hw101_1 := hx101_1;have hw101_0 := hx101_0;cases e101;replace hx101_0 := (HB.out.cell (World.block_lt_of_cell? w _ hx101_0)).trans hx101_0;replace hx101_1 := (HB.out.cell (World.block_lt_of_cell? w _ hx101_1)).trans hx101_1;replace hx101_2 := (HB.out.cell (World.block_lt_of_cell? w _ hx101_2)).trans hx101_2;replace p101 := eq_true p101;replace q101 := eq_true q101;have p102 : 0 ≤ (x5_1 : Int) := of_decide_eq_true (by first | (with_reducible assumption) | assumption);have q102 : x5_1 < (l1.length : Int) := of_decide_eq_true (by first | (with_reducible assumption) | assumption);obtain ⟨ad102,e102,hx102_0,hx102_1,hx102_2⟩ := at_T34 HR1.out x5_1 p102 q102;have hw102_2 := hx102_2;have hw102_1 := hx102_1;have hw102_0 := hx102_0;cases e102;replace hx102_0 := (HB.out.cell (World.block_lt_of_cell? w _ hx102_0)).trans hx102_0;replace hx102_1 := (HB.out.cell (World.block_lt_of_cell? w _ hx102_1)).trans hx102_1;replace hx102_2 := (HB.out.cell (World.block_lt_of_cell? w _ hx102_2)).trans hx102_2;replace p102 := eq_true p102;replace q102 := eq_true q102;refine start_ (n := 10) (S := fun w' => w'.cell? (ad101.add ((x5_1).toNat * 3)) = some (.int .i64 ((rd_T34 l0 x5_1).f0)) ∧ w'.cell? ⟨(ad101.add ((x5_1).toNat * 3)).block,(ad101.add ((x5_1).toNat * 3)).off + 1,none⟩ = some (.int .i64 ((rd_T34 l0 x5_1).f1)) ∧ w'.cell? ⟨(ad101.add ((x5_1).toNat * 3)).block,(ad101.add ((x5_1).toNat * 3)).off + 2,none⟩ = some (.bool ((rd_T34 l0 x5_1).f2)) ∧ w'.cell? (ad102.add ((x5_1).toNat * 3)) = some (.int .i64 ((rd_T34 l1 x5_1).f0)) ∧ w'.cell? ⟨(ad102.add ((x5_1).toNat * 3)).block,(ad102.add ((x5_1).toNat * 3)).off + 1,none⟩ = some (.int .i64 ((rd_T34 l1 x5_1).f1)) ∧ w'.cell? ⟨(ad102.add ((x5_1).toNat * 3)).block,(ad102.add ((x5_1).toNat * 3)).off + 2,none⟩ = some (.bool ((rd_T34 l1 x5_1).f2))) (ds := []) #[false,false,false,false,false,false,false,false,false,false] (by kernel_rfl) rfl rfl ⟨((HB.out.cell (World.block_lt_of_cell? w _ hw101_0)).trans hw101_0),((HB.out.cell (World.block_lt_of_cell? w _ hw101_1)).trans hw101_1),((HB.out.cell (World.block_lt_of_cell? w _ hw101_2)).trans hw101_2),((HB.out.cell (World.block_lt_of_cell? w _ hw102_0)).trans hw102_0),((HB.out.cell (World.block_lt_of_cell? w _ hw102_1)).trans hw102_1),((HB.out.cell (World.block_lt_of_cell? w _ hw102_2)).trans hw102_2)⟩ (fun hHeld => ?_);refine with_tabW laws_eqLog.tab6 laws_eqLog.bits6 (fun HT_ HW_ => ?_);generalize wr.drew = w11 at HB hx101_0 hx101_1 hx101_2 hx102_0 hx102_1 hx102_2 hHeld ⊢;refine pure_ (i := 0) (N := some 17) (v := ?_) (a' := ?_) #[true,false,false,false,false,false,false,false,false,false] rfl rfl (any_of HT_.out (by kernel_rfl)) (fun _ _ _ h => h) (Or.inl ⟨by rfl,?_⟩) ?_ ?_;rotate_left
        ·intro w';go_simp;with_reducible rfl
        rotate_left
        ·simp only [Act.put,List.setIfInBounds_toArray,List.set_cons_zero,List.set_cons_succ,i64_w,i32_w];rfl
        refine pure_ (i := 1) (N := some 18) (v := ?_) (a' := ?_) #[true,true,false,false,false,false,false,false,false,false] rfl rfl (any_of HT_.out (by kernel_rfl)) (fun _ _ _ h => h) (Or.inl ⟨by rfl,?_⟩) ?_ ?_;rotate_left
        ·intro w';go_simp;with_reducible rfl
        rotate_left
        ·simp only [Act.put,List.setIfInBounds_toArray,List.set_cons_zero,List.set_cons_succ,i64_w,i32_w];rfl
        refine pure_ (i := 2) (N := some 19) (v := ?_) (a' := ?_) #[true,true,true,false,false,false,false,false,false,false] rfl rfl (any_of HT_.out (by kernel_rfl)) (fun _ _ _ h => h) (Or.inl ⟨by rfl,?_⟩) ?_ ?_;rotate_left
        ·intro w';go_simp;with_reducible rfl
        rotate_left
        ·simp only [Act.put,List.setIfInBounds_toArray,List.set_cons_zero,List.set_cons_succ,i64_w,i32_w];rfl
        refine pure_ (i := 4) (N := some 21) (v := ?_) (a' := ?_) #[true,true,true,false,true,false,false,false,false,false] rfl rfl (any_of HT_.out (by kernel_rfl)) (fun _ _ _ h => h) (Or.inl ⟨by rfl,?_⟩) ?_ ?_;rotate_left
        ·intro w';go_simp;with_reducible rfl
        rotate_left
        ·simp only [Act.put,List.setIfInBounds_toArray,List.set_cons_zero,List.set_cons_succ,i64_w,i32_w];rfl
        refine pure_ (i := 5) (N := some 22) (v := ?_) (a' := ?_) #[true,true,true,false,true,true,false,false,false,false] rfl rfl (any_of HT_.out (by kernel_rfl)) (fun _ _ _ h => h) (Or.inl ⟨by rfl,?_⟩) ?_ ?_;rotate_left
        ·intro w';go_simp;with_reducible rfl
        rotate_left
        ·simp only [Act.put,List.setIfInBounds_toArray,List.set_cons_zero,List.set_cons_succ,i64_w,i32_w];rfl
        refine pure_ (i := 6) (N := some 23) (v := ?_) (a' := ?_) #[true,true,true,false,true,true,true,false,false,false] rfl rfl (any_of HT_.out (by kernel_rfl)) (fun _ _ _ h => h) (Or.inl ⟨by rfl,?_⟩) ?_ ?_;rotate_left
        ·intro w';go_simp;with_reducible rfl
        rotate_left
        ·simp only [Act.put,List.setIfInBounds_toArray,List.set_cons_zero,List.set_cons_succ,i64_w,i32_w];rfl
        refine take_ (i := 3) (N := some 20) (v := ?_) (a' := ?_) #[true,true,true,true,true,true,true,false,false,false] rfl rfl (take_ofW HT_.out HW_.out (by kernel_rfl)) (fun _ _ _ h => h) (Or.inl ⟨by rfl,?_⟩) hHeld ?_ ?_;rotate_left
        ·rintro w' ⟨s0,s1,s2,s3,s4,s5⟩
         go_simp;with_reducible rfl
        rotate_left
        ·simp only [Act.put,List.setIfInBounds_toArray,List.set_cons_zero,List.set_cons_succ,i64_w,i32_w];rfl
        refine take_ (i := 7) (N := some 24) (v := ?_) (a' := ?_) #[true,true,true,true,true,true,true,true,false,false] rfl rfl (take_ofW HT_.out HW_.out (by kernel_rfl)) (fun _ _ _ h => h) (Or.inl ⟨by rfl,?_⟩) hHeld ?_ ?_;rotate_left
        ·rintro w' ⟨s0,s1,s2,s3,s4,s5⟩
         go_simp;with_reducible rfl
        rotate_left
        ·simp only [Act.put,List.setIfInBounds_toArray,List.set_cons_zero,List.set_cons_succ,i64_w,i32_w];rfl
        refine one_ (i := 8) (N := some 25) #[true,true,true,true,true,true,true,true,true,false] rfl rfl (one_of HT_.out (by kernel_rfl)) (by decide) (fun K hK => ?_);refine goes_ Tryd.func17 (by kernel_rfl) rfl #[.agg #[.int .i64 ((rd_T34 l0 x5_1).f0),.int .i64 ((rd_T34 l0 x5_1).f1),.bool ((rd_T34 l0 x5_1).f2)],.agg #[.int .i64 ((rd_T34 l1 x5_1).f0),.int .i64 ((rd_T34 l1 x5_1).f1),.bool ((rd_T34 l1 x5_1).f2)]] (by rfl) rfl rfl (by (try simp only [List.map_toArray,List.map_cons,List.map_nil]);first | done | rfl | (simp only [List.length_drop,List.length_take];rfl)) ?_
        with_reducible refine (laws_eqEntry.calls ((rd_T34 l0 x5_1).f0) ((rd_T34 l0 x5_1).f1) ((rd_T34 l0 x5_1).f2) ((rd_T34 l1 x5_1).f0) ((rd_T34 l1 x5_1).f1) ((rd_T34 l1 x5_1).f2) false _ A7.out).mono ?_
        rintro e w12 ⟨rfl,hb⟩
        refine ⟨_,rfl,?_⟩;have n0_ := Aside0.mk (below_step (by repeat (first | (with_reducible first | exact HB.out | apply below_alloc | apply pw_below_drewN | apply below_drew1) | exact HB.out)) hb);clear HB;have HB := n0_;clear n0_;(try clear hb);(try clear hb2);(try clear hk);(try clear hi);refine hK.out _ _ ⟨((HB.out.cell (World.block_lt_of_cell? w _ hw101_0)).trans hw101_0),((HB.out.cell (World.block_lt_of_cell? w _ hw101_1)).trans hw101_1),((HB.out.cell (World.block_lt_of_cell? w _ hw101_2)).trans hw101_2),((HB.out.cell (World.block_lt_of_cell? w _ hw102_0)).trans hw102_0),((HB.out.cell (World.block_lt_of_cell? w _ hw102_1)).trans hw102_1),((HB.out.cell (World.block_lt_of_cell? w _ hw102_2)).trans hw102_2)⟩ (fun hHeld => ?_);clear hK K;refine norm_ (a' := ?_) ?_ ?_;rotate_left
        ·show Act.put _ (some 25) _ = _
         simp only [Act.put,List.setIfInBounds_toArray,List.set_cons_zero,List.set_cons_succ,i64_w,i32_w];rfl
        refine pure_ (i := 9) (N := some 26) (v := ?_) (a' := ?_) #[true,true,true,true,true,true,true,true,true,true] rfl rfl (any_of HT_.out (by kernel_rfl)) (fun _ _ _ h => h) (Or.inl ⟨by rfl,?_⟩) ?_ ?_;rotate_left
        ·intro w';go_simp;with_reducible rfl
        rotate_left
        ·simp only [Act.put,List.setIfInBounds_toArray,List.set_cons_zero,List.set_cons_succ,i64_w,i32_w];rfl
        refine done_ (done_of HT_.out (by kernel_rfl)) ?_;(try go_wp2)
        go_ret
        exact ⟨by first | rfl | (simp [errW_none,errW_some,IntKind.wrap_i64,wrap64];done) | (simp [errW_none,errW_some] <;> rfl) | (simp [*,errW_none,errW_some] <;> rfl),by repeat (first | (with_reducible first | exact HB.out | apply below_alloc | apply pw_below_drewN | apply below_drew1) | exact HB.out)⟩
      ·rw [if_neg c6] at H;exact absurd H (by simp)
     ·rw [if_neg c5] at H;exact absurd H (by simp)
    ·rw [if_neg c4] at H;have c4b0 : decide (x5_1 < (l0.length : Int)) = false := decide_eq_false c4;clear c4;obtain rfl := Option.some.inj H
     go_wp2
     go_ret
     exact ⟨by first | rfl | (simp [errW_none,errW_some,IntKind.wrap_i64,wrap64];done) | (simp [errW_none,errW_some] <;> rfl) | (simp [*,errW_none,errW_some] <;> rfl),by repeat (first | (with_reducible first | exact HB.out | apply below_alloc | apply pw_below_drewN | apply below_drew1) | exact HB.out)⟩
 ·rw [if_neg c3] at H;have c3b0 : ((l0.length : Int) == (l1.length : Int)) = false := beq_eq_false_iff_ne.mpr c3;have c3b1 : ((l0.length : Int) != (l1.length : Int)) = true := bne_iff_ne.mpr c3
  have c3b2 : (l0.length == l1.length) = false := by first | simpa using c3 | (simp at c3 ⊢;omega)
  obtain rfl := Option.some.inj H
  go_enter Tryd.func6,Tryd.ntmps6
  go_wp2
  go_ret
  exact ⟨by first | rfl | (simp [errW_none,errW_some,IntKind.wrap_i64,wrap64];done) | (simp [errW_none,errW_some] <;> rfl) | (simp [*,errW_none,errW_some] <;> rfl),by repeat (first | (with_reducible first | exact HB.out | apply below_alloc | apply pw_below_drewN | apply below_drew1) | exact HB.out)⟩
end Go.Proofs.YtmcfbnglocojkaaDoor.G
end

section
namespace Go.Proofs.YtmcfbnglocojkaaDoor.G
open Go.RowKit Go.Proofs.YtmcfbnglocojkaaDoorW.PrintWords Go.Proofs.YtmcfbnglocojkaaDoorW.PrintLast Go.Proofs.YtmcfbnglocojkaaDoorW.PrintMore
attribute [local go_sem] max2_int min2_int max_two min_two max_three min_three max_four min_four
set_option linter.unusedVariables false
set_option linter.unusedSimpArgs false
def laws_heldLog.l0 : Nat → List (S34) → Int → Int → Option (Int)
 | 0,_,_,_ => none
 | k + 1,x0,x1,x5 => if x5 < (x0.length : Int) then (if 0 ≤ x5 then (if ((rd_T34 x0 x5).f0) = x1 then (if ((rd_T34 x0 x5).f1) = (wrap64 (x1 + 1)) then (if (((rd_T34 x0 x5).f2) != ((Int.tmod (wrap64 ((wrap64 (x1 + 1)) + 1)) 3) == 0)) = true then (some (-1)) else (laws_heldLog.l0 k x0 (wrap64 ((wrap64 ((wrap64 (x1 + 1)) + 1)) + 1)) (wrap64 (x5 + 1)))) else (some (-1))) else (some (-1))) else (none)) else (some x1)
def laws_heldLog.f (k : Nat) (l0 : List (S34)) (a1 : Int) : Option (Int) := laws_heldLog.l0 k l0 a1 0
set_option maxHeartbeats 8000000 in
set_option maxRecDepth 100000 in
theorem laws_heldLog.calls (k : Nat) (A0 : Option Addr) (c0 : Nat) (l0 : List (S34)) (a1 : Int) (r : Int) (w : World) (hr0 : Kd.C k34 w A0 l0.length l0) (hc0 : l0.length ≤ c0) (h : laws_heldLog.f k l0 a1 = some r) :
  Calls Tryd.prog 8 #[.slice A0 l0.length c0,.int .i64 a1] w fun e w' => e = .returned (.int .i64 r) ∧ Drawn0 w w' := by
 have HR0 := Aside0.mk hr0;have HC0 := Aside0.mk hc0;clear hr0 hc0;have H : (laws_heldLog.l0 k l0 a1 0) = some r := h;clear h;have H' := Aside0.mk H;clear H
 go_enter Tryd.func8,Tryd.ntmps8
 go_wp2
 go_loopg [1,5] k (fun kq v1 v5 w' => ∃ (x1_1 : Int) (x5_1 : Int),v1 = .int .i64 x1_1 ∧ v5 = .int .i64 x5_1 ∧ Aside0 (laws_heldLog.l0 kq l0 x1_1 x5_1 = some r) ∧ Aside0 (kq ≤ k) ∧ Drawn0 w w')
 case atStart => exact ⟨(a1),(0),(by first | rfl | (simp only [IntKind.wrap_i64,wrap64];done) | (simp;done) | (simp [*];done)),(by first | rfl | (simp only [IntKind.wrap_i64,wrap64];done) | (simp;done) | (simp [*];done)),H',⟨Nat.le_refl _⟩,by repeat (first | exact Drawn0.refl _ | apply Drawn0.step)⟩
 case round =>
  clear H';(try clear p2);obtain ⟨x1_1,x5_1,rfl,rfl,HA,HK1,⟨m1,rfl⟩⟩ := hrel
  cases gk with
  | zero => exact absurd HA.out (by simp [laws_heldLog.l0])
  | succ k1 =>
   have H := HA.out;clear HA;simp only [laws_heldLog.l0] at H
   by_cases c3 : x5_1 < (l0.length : Int)
   ·rw [if_pos c3] at H;have c3b0 : decide (x5_1 < (l0.length : Int)) = true := decide_eq_true c3;clear c3
    by_cases c4 : 0 ≤ x5_1
    ·rw [if_pos c4] at H;have c4b0 : decide (0 ≤ x5_1) = true := decide_eq_true c4;clear c4
     by_cases c5 : ((rd_T34 l0 x5_1).f0) = x1_1
     ·rw [if_pos c5] at H;have c5b0 : (((rd_T34 l0 x5_1).f0) == x1_1) = true := beq_iff_eq.mpr c5;have c5b1 : (((rd_T34 l0 x5_1).f0) != x1_1) = false := bne_eq_false_iff_eq.mpr c5;clear c5
      by_cases c6 : ((rd_T34 l0 x5_1).f1) = (wrap64 (x1_1 + 1))
      ·rw [if_pos c6] at H;have c6b0 : (((rd_T34 l0 x5_1).f1) == (wrap64 (x1_1 + 1))) = true := beq_iff_eq.mpr c6;have c6b1 : (((rd_T34 l0 x5_1).f1) != (wrap64 (x1_1 + 1))) = false := bne_eq_false_iff_eq.mpr c6;clear c6
       by_cases c7 : (((rd_T34 l0 x5_1).f2) != ((Int.tmod (wrap64 ((wrap64 (x1_1 + 1)) + 1)) 3) == 0)) = true
       ·rw [if_pos c7] at H;have c7b0 : (((rd_T34 l0 x5_1).f2) != ((Int.tmod (wrap64 ((wrap64 (x1_1 + 1)) + 1)) 3) == 0)) = true := c7;(try (have c7b1 : decide (((rd_T34 l0 x5_1).f2) = ((Int.tmod (wrap64 ((wrap64 (x1_1 + 1)) + 1)) 3) == 0)) = false := by simpa using c7));(try (have c7b2 : (((rd_T34 l0 x5_1).f2) == ((Int.tmod (wrap64 ((wrap64 (x1_1 + 1)) + 1)) 3) == 0)) = false := by simpa using c7));(try (have c7b3 : ¬ (((rd_T34 l0 x5_1).f2) = ((Int.tmod (wrap64 ((wrap64 (x1_1 + 1)) + 1)) 3) == 0)) := by simpa using c7));clear c7;obtain rfl := Option.some.inj H;have p101 : 0 ≤ (x5_1 : Int) := of_decide_eq_true (by first | (with_reducible assumption) | assumption);have q101 : x5_1 < (l0.length : Int) := of_decide_eq_true (by first | (with_reducible assumption) | assumption);obtain ⟨ad101,e101,hx101_0,hx101_1,hx101_2⟩ := at_T34 HR0.out x5_1 p101 q101;cases e101;replace p101 := eq_true p101;replace q101 := eq_true q101;have p102 : 0 ≤ (x5_1 : Int) := of_decide_eq_true (by first | (with_reducible assumption) | assumption);have q102 : x5_1 < (l0.length : Int) := of_decide_eq_true (by first | (with_reducible assumption) | assumption);obtain ⟨ad102,e102,hx102_0,hx102_1,hx102_2⟩ := at_T34 HR0.out x5_1 p102 q102;obtain rfl : ad101 = ad102 := (by injection e102);replace p102 := eq_true p102;replace q102 := eq_true q102;have p103 : 0 ≤ (x5_1 : Int) := of_decide_eq_true (by first | (with_reducible assumption) | assumption);have q103 : x5_1 < (l0.length : Int) := of_decide_eq_true (by first | (with_reducible assumption) | assumption);obtain ⟨ad103,e103,hx103_0,hx103_1,hx103_2⟩ := at_T34 HR0.out x5_1 p103 q103;obtain rfl : ad101 = ad103 := (by injection e103);replace p103 := eq_true p103;replace q103 := eq_true q103
        go_wp2
        go_ret
        exact ⟨by first | rfl | (simp only [IntKind.wrap_i64,wrap64];done) | (simp;done) | (simp [*];done),by repeat (first | exact Drawn0.refl _ | apply Drawn0.step)⟩
       ·rw [if_neg c7] at H
        have c7b0 : (((rd_T34 l0 x5_1).f2) != ((Int.tmod (wrap64 ((wrap64 (x1_1 + 1)) + 1)) 3) == 0)) = false := by simpa using c7
        (try (have c7b1 : decide (((rd_T34 l0 x5_1).f2) = ((Int.tmod (wrap64 ((wrap64 (x1_1 + 1)) + 1)) 3) == 0)) = true := by simpa using c7));(try (have c7b2 : (((rd_T34 l0 x5_1).f2) == ((Int.tmod (wrap64 ((wrap64 (x1_1 + 1)) + 1)) 3) == 0)) = true := by simpa using c7));clear c7;have H' := Aside0.mk H;clear H;have p101 : 0 ≤ (x5_1 : Int) := of_decide_eq_true (by first | (with_reducible assumption) | assumption);have q101 : x5_1 < (l0.length : Int) := of_decide_eq_true (by first | (with_reducible assumption) | assumption);obtain ⟨ad101,e101,hx101_0,hx101_1,hx101_2⟩ := at_T34 HR0.out x5_1 p101 q101;cases e101;replace p101 := eq_true p101;replace q101 := eq_true q101;have p102 : 0 ≤ (x5_1 : Int) := of_decide_eq_true (by first | (with_reducible assumption) | assumption);have q102 : x5_1 < (l0.length : Int) := of_decide_eq_true (by first | (with_reducible assumption) | assumption);obtain ⟨ad102,e102,hx102_0,hx102_1,hx102_2⟩ := at_T34 HR0.out x5_1 p102 q102;obtain rfl : ad101 = ad102 := (by injection e102);replace p102 := eq_true p102;replace q102 := eq_true q102;have p103 : 0 ≤ (x5_1 : Int) := of_decide_eq_true (by first | (with_reducible assumption) | assumption);have q103 : x5_1 < (l0.length : Int) := of_decide_eq_true (by first | (with_reducible assumption) | assumption);obtain ⟨ad103,e103,hx103_0,hx103_1,hx103_2⟩ := at_T34 HR0.out x5_1 p103 q103;obtain rfl : ad101 = ad103 := (by injection e103);replace p103 := eq_true p103;replace q103 := eq_true q103
        go_wp2
        go_roundg k1
        case measure => have := HK1.out;omega
        case rel => exact ⟨(wrap64 ((wrap64 ((wrap64 (x1_1 + 1)) + 1)) + 1)),(wrap64 (x5_1 + 1)),(by first | rfl | (simp only [IntKind.wrap_i64,wrap64];done) | (simp;done) | (simp [*];done)),(by first | rfl | (simp only [IntKind.wrap_i64,wrap64];done) | (simp;done) | (simp [*];done)),H',⟨by have := HK1.out;omega⟩,by repeat (first | exact Drawn0.refl _ | apply Drawn0.step)⟩
      ·rw [if_neg c6] at H;have c6b0 : (((rd_T34 l0 x5_1).f1) == (wrap64 (x1_1 + 1))) = false := beq_eq_false_iff_ne.mpr c6;have c6b1 : (((rd_T34 l0 x5_1).f1) != (wrap64 (x1_1 + 1))) = true := bne_iff_ne.mpr c6;obtain rfl := Option.some.inj H;have p101 : 0 ≤ (x5_1 : Int) := of_decide_eq_true (by first | (with_reducible assumption) | assumption);have q101 : x5_1 < (l0.length : Int) := of_decide_eq_true (by first | (with_reducible assumption) | assumption);obtain ⟨ad101,e101,hx101_0,hx101_1,hx101_2⟩ := at_T34 HR0.out x5_1 p101 q101;cases e101;replace p101 := eq_true p101;replace q101 := eq_true q101;have p102 : 0 ≤ (x5_1 : Int) := of_decide_eq_true (by first | (with_reducible assumption) | assumption);have q102 : x5_1 < (l0.length : Int) := of_decide_eq_true (by first | (with_reducible assumption) | assumption);obtain ⟨ad102,e102,hx102_0,hx102_1,hx102_2⟩ := at_T34 HR0.out x5_1 p102 q102;obtain rfl : ad101 = ad102 := (by injection e102);replace p102 := eq_true p102;replace q102 := eq_true q102
       go_wp2
       go_ret
       exact ⟨by first | rfl | (simp only [IntKind.wrap_i64,wrap64];done) | (simp;done) | (simp [*];done),by repeat (first | exact Drawn0.refl _ | apply Drawn0.step)⟩
     ·rw [if_neg c5] at H;have c5b0 : (((rd_T34 l0 x5_1).f0) == x1_1) = false := beq_eq_false_iff_ne.mpr c5;have c5b1 : (((rd_T34 l0 x5_1).f0) != x1_1) = true := bne_iff_ne.mpr c5;obtain rfl := Option.some.inj H;have p101 : 0 ≤ (x5_1 : Int) := of_decide_eq_true (by first | (with_reducible assumption) | assumption);have q101 : x5_1 < (l0.length : Int) := of_decide_eq_true (by first | (with_reducible assumption) | assumption);obtain ⟨ad101,e101,hx101_0,hx101_1,hx101_2⟩ := at_T34 HR0.out x5_1 p101 q101;cases e101;replace p101 := eq_true p101;replace q101 := eq_true q101
      go_wp2
      go_ret
      exact ⟨by first | rfl | (simp only [IntKind.wrap_i64,wrap64];done) | (simp;done) | (simp [*];done),by repeat (first | exact Drawn0.refl _ | apply Drawn0.step)⟩
    ·rw [if_neg c4] at H;exact absurd H (by simp)
   ·rw [if_neg c3] at H;have c3b0 : decide (x5_1 < (l0.length : Int)) = false := decide_eq_false c3;clear c3;obtain rfl := Option.some.inj H
    go_wp2
    go_ret
    exact ⟨by first | rfl | (simp only [IntKind.wrap_i64,wrap64];done) | (simp;done) | (simp [*];done),by repeat (first | exact Drawn0.refl _ | apply Drawn0.step)⟩
end Go.Proofs.YtmcfbnglocojkaaDoor.G
end

section
namespace Go.Proofs.YtmcfbnglocojkaaDoor.G
open Go.RowKit Go.Proofs.YtmcfbnglocojkaaDoorW.PrintWords Go.Proofs.YtmcfbnglocojkaaDoorW.PrintLast Go.Proofs.YtmcfbnglocojkaaDoorW.PrintMore
attribute [local go_sem] max2_int min2_int max_two min_two max_three min_three max_four min_four
set_option linter.unusedVariables false
set_option linter.unusedSimpArgs false
def laws_markLog.l0 : Nat → List (S34) → Int → Int → Option (Int × (List (S34)))
 | 0,_,_,_ => none
 | k + 1,x0,x1,x5 => if x5 < (x0.length : Int) then (if 0 ≤ x5 then ((some (x0.set (x5 : Int).toNat (⟨x1,(rd_T34 x0 x5).f1,(rd_T34 x0 x5).f2⟩ : S34) : List (S34))).bind fun y101 => ((some (y101.set (x5 : Int).toNat (⟨(rd_T34 y101 x5).f0,wrap64 (x1 + 1),(rd_T34 y101 x5).f2⟩ : S34) : List (S34))).bind fun y102 => (laws_markLog.l0 k (y102.set (x5 : Int).toNat (⟨(rd_T34 y102 x5).f0,(rd_T34 y102 x5).f1,((Int.tmod (wrap64 ((wrap64 (x1 + 1)) + 1)) 3) == 0)⟩ : S34)) (wrap64 ((wrap64 ((wrap64 (x1 + 1)) + 1)) + 1)) (wrap64 (x5 + 1))))) else (none)) else (some (x1,x0))
def laws_markLog.f (k : Nat) (l0 : List (S34)) (a1 : Int) : Option (Int × (List (S34))) := laws_markLog.l0 k l0 a1 0
set_option maxHeartbeats 8000000 in
set_option maxRecDepth 100000 in
theorem laws_markLog.calls (k : Nat) (P0_ : Nat → Prop) (u9000_ : Value) (l0 : List (S34)) (a1 : Int) (r1 : Int) (r2 : List (S34)) (w0 w : World) (hB : Below w0.heap.size w0 w) (ho0 : Kd.R k34 34 w w0.heap.size P0_ u9000_ l0) (h : laws_markLog.f k l0 a1 = some (r1,r2)) :
  Calls Tryd.prog 7 #[u9000_,.int .i64 a1] w fun e w' => e = .returned (.int .i64 r1) ∧ Kd.R k34 34 w' w0.heap.size (fun k_ => (P0_ k_ ∨ w.heap.size ≤ k_)) u9000_ r2 ∧ Below w0.heap.size w0 w' ∧ Kept w w' (fun k_ => P0_ k_) := by
 have HO0 := Aside0.mk (show Kd.R k34 34 w w0.heap.size (fun k_ => (P0_ k_ ∨ w.heap.size ≤ k_)) u9000_ l0 from Kd.R_mono ho0 (fun k_ hk => (.inl hk)));have HK := Aside0.mk (Kept.refl w (fun k_ => P0_ k_));have HW0 := Aside0.mk hB.size;have HB := Aside0.mk hB;clear hB;have H : (laws_markLog.l0 k l0 a1 0) = some (r1,r2) := h;clear h;have H' := Aside0.mk H;clear H
 go_enter Tryd.func7,Tryd.ntmps7
 go_wp2
 go_loopg [1,5] k (fun kq v1 v5 w' => ∃ (x0_1 : List (S34)) (x1_1 : Int) (x5_1 : Int),v1 = .int .i64 x1_1 ∧ v5 = .int .i64 x5_1 ∧ Aside0 (laws_markLog.l0 kq x0_1 x1_1 x5_1 = some (r1,r2)) ∧ Aside0 (kq ≤ k) ∧ Aside0 (Kd.R k34 34 w' w0.heap.size (fun k_ => (P0_ k_ ∨ w.heap.size ≤ k_)) u9000_ x0_1) ∧ Aside0 (Kept w w' (fun k_ => P0_ k_)) ∧ Aside0 (Below w0.heap.size w0 w'))
 case atStart => exact ⟨(l0),(a1),(0),(by first | rfl | (simp only [IntKind.wrap_i64,wrap64];done) | (simp;done) | (simp [*];done)),(by first | rfl | (simp only [IntKind.wrap_i64,wrap64];done) | (simp;done) | (simp [*];done)),H',⟨Nat.le_refl _⟩,⟨by (with_reducible repeat (first | apply Kd.R_alloc | apply Kd.R_drewN | apply Kd.R_drew));exact HO0.out⟩,⟨by repeat (first | (with_reducible first | exact HK.out | apply Kept.alloc | apply Kept.drewN | apply Kept.drew) | exact HK.out)⟩,⟨by repeat (first | (with_reducible first | exact HB.out | apply below_alloc | apply pw_below_drewN | apply below_drew1) | exact HB.out)⟩⟩
 case round =>
  clear H';(try clear p2);obtain ⟨x0_1,x1_1,x5_1,rfl,rfl,HA,HK1,HO_0,HK,HB⟩ := hrel
  cases gk with
  | zero => exact absurd HA.out (by simp [laws_markLog.l0])
  | succ k1 =>
   have H := HA.out;clear HA;simp only [laws_markLog.l0] at H
   by_cases c3 : x5_1 < (x0_1.length : Int)
   ·rw [if_pos c3] at H;have c3b0 : decide (x5_1 < (x0_1.length : Int)) = true := decide_eq_true c3;clear c3
    by_cases c4 : 0 ≤ x5_1
    ·rw [if_pos c4] at H;have c4b0 : decide (0 ≤ x5_1) = true := decide_eq_true c4;clear c4;obtain ⟨y101,hy101⟩ : ∃ y_ : List (S34),y_ = (x0_1.set (x5_1 : Int).toNat (⟨x1_1,(rd_T34 x0_1 x5_1).f1,(rd_T34 x0_1 x5_1).f2⟩ : S34)) := ⟨_,rfl⟩
     replace H : ((some (y101.set (x5_1 : Int).toNat (⟨(rd_T34 y101 x5_1).f0,wrap64 (x1_1 + 1),(rd_T34 y101 x5_1).f2⟩ : S34) : List (S34))).bind fun y102 => (laws_markLog.l0 k1 (y102.set (x5_1 : Int).toNat (⟨(rd_T34 y102 x5_1).f0,(rd_T34 y102 x5_1).f1,((Int.tmod (wrap64 ((wrap64 (x1_1 + 1)) + 1)) 3) == 0)⟩ : S34)) (wrap64 ((wrap64 ((wrap64 (x1_1 + 1)) + 1)) + 1)) (wrap64 (x5_1 + 1)))) = some (r1,r2) := by first | (rw [hy101];with_reducible exact H) | (have H2_ := (Option.bind_some _ _).symm.trans H;rw [hy101];with_reducible exact H2_) | (have H2_ := (Option.bind_some _ _).symm.trans H;with_reducible exact H2_) | with_reducible exact H | (rw [hy101];exact H) | exact H
     have Ny101 := Aside0.mk hy101;clear hy101;obtain ⟨y102,hy102⟩ : ∃ y_ : List (S34),y_ = (y101.set (x5_1 : Int).toNat (⟨(rd_T34 y101 x5_1).f0,wrap64 (x1_1 + 1),(rd_T34 y101 x5_1).f2⟩ : S34)) := ⟨_,rfl⟩
     replace H : (laws_markLog.l0 k1 (y102.set (x5_1 : Int).toNat (⟨(rd_T34 y102 x5_1).f0,(rd_T34 y102 x5_1).f1,((Int.tmod (wrap64 ((wrap64 (x1_1 + 1)) + 1)) 3) == 0)⟩ : S34)) (wrap64 ((wrap64 ((wrap64 (x1_1 + 1)) + 1)) + 1)) (wrap64 (x5_1 + 1))) = some (r1,r2) := by first | (rw [hy102];with_reducible exact H) | (have H2_ := (Option.bind_some _ _).symm.trans H;rw [hy102];with_reducible exact H2_) | (have H2_ := (Option.bind_some _ _).symm.trans H;with_reducible exact H2_) | with_reducible exact H | (rw [hy102];exact H) | exact H
     have Ny102 := Aside0.mk hy102;clear hy102;obtain ⟨y103,hy103⟩ : ∃ y_ : List (S34),y_ = (y102.set (x5_1 : Int).toNat (⟨(rd_T34 y102 x5_1).f0,(rd_T34 y102 x5_1).f1,((Int.tmod (wrap64 ((wrap64 (x1_1 + 1)) + 1)) 3) == 0)⟩ : S34)) := ⟨_,rfl⟩
     replace H : (laws_markLog.l0 k1 y103 (wrap64 ((wrap64 ((wrap64 (x1_1 + 1)) + 1)) + 1)) (wrap64 (x5_1 + 1))) = some (r1,r2) := by first | (rw [hy103];with_reducible exact H) | (have H2_ := (Option.bind_some _ _).symm.trans H;rw [hy103];with_reducible exact H2_) | (have H2_ := (Option.bind_some _ _).symm.trans H;with_reducible exact H2_) | with_reducible exact H | (rw [hy103];exact H) | exact H
     have Ny103 := Aside0.mk hy103;clear hy103;have H' := Aside0.mk H;clear H;obtain ⟨Ao8,co8,eo8⟩ := Kd.R_slice HO_0.out;subst eo8;have p5 : 0 ≤ (x5_1 : Int) := of_decide_eq_true (by first | (with_reducible assumption) | assumption);have q5 : (x5_1 : Int) < ((x0_1.length : Int) : Int) := of_decide_eq_true (by first | (with_reducible assumption) | assumption);obtain ⟨go5,co5,eo5,gb5,gl5,cl5,HG5⟩ := Kd.R_form HO_0.out (by omega);(first | cases eo5 | (injection eo5 with ea_ en_ ec_;(first | subst ea_ | (injection ea_ with ea_;subst ea_));subst ec_;clear en_));have GB5 := Aside0.mk gb5;have GG5 := Aside0.mk HG5;clear gb5 gl5 HG5;have HMgo5 := Aside0.mk (show (P0_ go5 ∨ w.heap.size ≤ go5) from (HO_0.out.1 _ rfl));obtain ⟨ce5,hcl5,hM5,hcc5,hfr5⟩ := Kd.R_elem HO_0.out z34 (x5_1 : Int) p5 q5;obtain rfl := k34_openM hM5;have hx5_0 : wr.cell? ⟨go5,(x5_1 : Int).toNat * 3,none⟩ = some (.int .i64 ((rd_T34 x0_1 x5_1).f0)) := hcc5 0 _ rfl;have hx5_1 : wr.cell? ⟨go5,(x5_1 : Int).toNat * 3 + 1,none⟩ = some (.int .i64 ((rd_T34 x0_1 x5_1).f1)) := hcc5 1 _ rfl;have hx5_2 : wr.cell? ⟨go5,(x5_1 : Int).toNat * 3 + 2,none⟩ = some (.bool ((rd_T34 x0_1 x5_1).f2)) := hcc5 2 _ rfl;have hf5_0 : wr.frozen? ⟨go5,(x5_1 : Int).toNat * 3,none⟩ = false := hfr5 0;have hf5_1 : wr.frozen? ⟨go5,(x5_1 : Int).toNat * 3 + 1,none⟩ = false := hfr5 1;have hf5_2 : wr.frozen? ⟨go5,(x5_1 : Int).toNat * 3 + 2,none⟩ = false := hfr5 2;(clear hcl5 hcc5 hfr5;(try clear hM5));replace p5 := eq_true p5;replace q5 := eq_true q5;have HX9 := Aside0.mk (show Kd.R k34 34 wr w0.heap.size (fun k_ => (P0_ k_ ∨ w.heap.size ≤ k_)) (.slice (some ⟨go5,0,none⟩) x0_1.length co8) x0_1 from (by (with_reducible repeat (first | apply Kd.R_alloc | apply Kd.R_drewN | apply Kd.R_drew));exact HO_0.out));obtain ⟨ce9,hcl9,hM9,hcc9,hfr9⟩ := Kd.R_elem HX9.out z34 (x5_1 : Int) (of_decide_eq_true (by first | (with_reducible assumption) | assumption)) (by have h_ : (x5_1 : Int) < ((x0_1.length : Int) : Int) := of_decide_eq_true (by first | (with_reducible assumption) | assumption);first | exact h_ | (have e_ := (Kd.R_reads' HO_0.out).1;omega) | simpa using h_);obtain rfl := k34_openM hM9;have HP9 := Kd.R_seg HX9.out (x5_1 : Int) (of_decide_eq_true (by first | (with_reducible assumption) | assumption)) (by have h_ : (x5_1 : Int) < ((x0_1.length : Int) : Int) := of_decide_eq_true (by first | (with_reducible assumption) | assumption);first | exact h_ | (have e_ := (Kd.R_reads' HO_0.out).1;omega) | simpa using h_) (seg := [.int .i64 x1_1]) (j := 0) hcl9 hcc9 (show 1 ≤ 3 from by decide) (x' := (⟨x1_1,(rd_T34 x0_1 x5_1).f1,(rd_T34 x0_1 x5_1).f2⟩ : S34)) (k34_mkM _ _ _ (⟨x1_1,(rd_T34 x0_1 x5_1).f1,(rd_T34 x0_1 x5_1).f2⟩ : S34) ) (fun _ hk => hk);have hx9_0 := hcc9 0 _ rfl;(try simp only [show (k34).sz = 3 from rfl,Nat.mul_one,Nat.add_zero] at hx9_0);have hf9_0 := hfr9 0;(try simp only [show (k34).sz = 3 from rfl,Nat.mul_one,Nat.add_zero] at hf9_0);(clear hcl9 hcc9 hfr9;(try clear hM9))
     go_wp2_with (first | ((with_reducible refine gate_store (t := 2) (p := 16) rfl ?_);refine store_event (t := 2) (p := 16) (v := ?vo_w10) (w1 := (wr.setCell ⟨go5,(x5_1 : Int).toNat * 3,none⟩ (.int .i64 x1_1))) ?hg ?ho ?hn ?hr ?_;(case ho => rfl);(case hg => rfl);(case hn => rfl);(case hr => first | (go_simp;done) | (go_simp;rfl));intro w10 hw;have hg : wr.grownBy w10 (some go5) := (by rw [hw];exact HP9.2);have hp_ : Kd.R k34 34 w10 w0.heap.size (fun k_ => (P0_ k_ ∨ w.heap.size ≤ k_)) (.slice (some ⟨go5,0,none⟩) x0_1.length co8) y101 := (by rw [hw,Ny101.out];exact HP9.1);clear HP9;have n0_ := Aside0.mk (hp_);have n1_ := Aside0.mk ((by rw [hw];exact below_set (HB.out) GB5.out : Below w0.heap.size w0 w10));have n2_ := Aside0.mk (Kept.of_grown (S := (fun k_ => P0_ k_)) hg (by repeat (first | (with_reducible first | exact HK.out | apply Kept.alloc | apply Kept.drewN | apply Kept.drew) | exact HK.out)) (fun k_ e_ => (HO_0.out.1 k_ e_)));clear HO_0;clear HB;clear HK;have HO_0 := n0_;have HB := n1_;have HK := n2_;clear n0_ n1_ n2_;clear hg hw hp_;have p6 : 0 ≤ (x5_1 : Int) := of_decide_eq_true (by first | (with_reducible assumption) | assumption);have q6 : (x5_1 : Int) < ((x0_1.length : Int) : Int) := of_decide_eq_true (by first | (with_reducible assumption) | assumption);obtain ⟨ce6,hcl6,hM6,hcc6,hfr6⟩ := Kd.R_elem HO_0.out z34 (x5_1 : Int) p6 q6;obtain rfl := k34_openM hM6;have hx6_0 : w10.cell? ⟨go5,(x5_1 : Int).toNat * 3,none⟩ = some (.int .i64 ((rd_T34 y101 x5_1).f0)) := hcc6 0 _ rfl;have hx6_1 : w10.cell? ⟨go5,(x5_1 : Int).toNat * 3 + 1,none⟩ = some (.int .i64 ((rd_T34 y101 x5_1).f1)) := hcc6 1 _ rfl;have hx6_2 : w10.cell? ⟨go5,(x5_1 : Int).toNat * 3 + 2,none⟩ = some (.bool ((rd_T34 y101 x5_1).f2)) := hcc6 2 _ rfl;have hf6_0 : w10.frozen? ⟨go5,(x5_1 : Int).toNat * 3,none⟩ = false := hfr6 0;have hf6_1 : w10.frozen? ⟨go5,(x5_1 : Int).toNat * 3 + 1,none⟩ = false := hfr6 1;have hf6_2 : w10.frozen? ⟨go5,(x5_1 : Int).toNat * 3 + 2,none⟩ = false := hfr6 2;(clear hcl6 hcc6 hfr6;(try clear hM6));replace p6 := eq_true p6;replace q6 := eq_true q6;have HX11 := Aside0.mk (show Kd.R k34 34 w10 w0.heap.size (fun k_ => (P0_ k_ ∨ w.heap.size ≤ k_)) (.slice (some ⟨go5,0,none⟩) x0_1.length co8) y101 from (by (with_reducible repeat (first | apply Kd.R_alloc | apply Kd.R_drewN | apply Kd.R_drew));exact HO_0.out));obtain ⟨ce11,hcl11,hM11,hcc11,hfr11⟩ := Kd.R_elem HX11.out z34 (x5_1 : Int) (of_decide_eq_true (by first | (with_reducible assumption) | assumption)) (by have h_ : (x5_1 : Int) < ((x0_1.length : Int) : Int) := of_decide_eq_true (by first | (with_reducible assumption) | assumption);first | exact h_ | (have e_ := (Kd.R_reads' HO_0.out).1;omega) | simpa using h_);obtain rfl := k34_openM hM11;have HP11 := Kd.R_seg HX11.out (x5_1 : Int) (of_decide_eq_true (by first | (with_reducible assumption) | assumption)) (by have h_ : (x5_1 : Int) < ((x0_1.length : Int) : Int) := of_decide_eq_true (by first | (with_reducible assumption) | assumption);first | exact h_ | (have e_ := (Kd.R_reads' HO_0.out).1;omega) | simpa using h_) (seg := [.int .i64 (wrap64 (x1_1 + 1))]) (j := 1) hcl11 hcc11 (show 2 ≤ 3 from by decide) (x' := (⟨(rd_T34 y101 x5_1).f0,wrap64 (x1_1 + 1),(rd_T34 y101 x5_1).f2⟩ : S34)) (k34_mkM _ _ _ (⟨(rd_T34 y101 x5_1).f0,wrap64 (x1_1 + 1),(rd_T34 y101 x5_1).f2⟩ : S34) ) (fun _ hk => hk);have hx11_1 := hcc11 1 _ rfl;(try simp only [show (k34).sz = 3 from rfl,Nat.mul_one,Nat.add_zero] at hx11_1);have hf11_1 := hfr11 1;(try simp only [show (k34).sz = 3 from rfl,Nat.mul_one,Nat.add_zero] at hf11_1);(clear hcl11 hcc11 hfr11;(try clear hM11))) | ((with_reducible refine gate_store (t := 2) (p := 23) rfl ?_);refine store_event (t := 2) (p := 23) (v := ?vo_w12) (w1 := (w10.setCell ⟨go5,(x5_1 : Int).toNat * 3 + 1,none⟩ (.int .i64 (wrap64 (x1_1 + 1))))) ?hg ?ho ?hn ?hr ?_;(case ho => rfl);(case hg => rfl);(case hn => rfl);(case hr => first | (go_simp;done) | (go_simp;rfl));intro w12 hw;have hg : w10.grownBy w12 (some go5) := (by rw [hw];exact HP11.2);have hp_ : Kd.R k34 34 w12 w0.heap.size (fun k_ => (P0_ k_ ∨ w.heap.size ≤ k_)) (.slice (some ⟨go5,0,none⟩) x0_1.length co8) y102 := (by rw [hw,Ny102.out];exact HP11.1);clear HP11;have n0_ := Aside0.mk (hp_);have n1_ := Aside0.mk ((by rw [hw];exact below_set (HB.out) GB5.out : Below w0.heap.size w0 w12));have n2_ := Aside0.mk (Kept.of_grown (S := (fun k_ => P0_ k_)) hg (by repeat (first | (with_reducible first | exact HK.out | apply Kept.alloc | apply Kept.drewN | apply Kept.drew) | exact HK.out)) (fun k_ e_ => (HO_0.out.1 k_ e_)));clear HO_0;clear HB;clear HK;have HO_0 := n0_;have HB := n1_;have HK := n2_;clear n0_ n1_ n2_;clear hg hw hp_;have p7 : 0 ≤ (x5_1 : Int) := of_decide_eq_true (by first | (with_reducible assumption) | assumption);have q7 : (x5_1 : Int) < ((x0_1.length : Int) : Int) := of_decide_eq_true (by first | (with_reducible assumption) | assumption);obtain ⟨ce7,hcl7,hM7,hcc7,hfr7⟩ := Kd.R_elem HO_0.out z34 (x5_1 : Int) p7 q7;obtain rfl := k34_openM hM7;have hx7_0 : w12.cell? ⟨go5,(x5_1 : Int).toNat * 3,none⟩ = some (.int .i64 ((rd_T34 y102 x5_1).f0)) := hcc7 0 _ rfl;have hx7_1 : w12.cell? ⟨go5,(x5_1 : Int).toNat * 3 + 1,none⟩ = some (.int .i64 ((rd_T34 y102 x5_1).f1)) := hcc7 1 _ rfl;have hx7_2 : w12.cell? ⟨go5,(x5_1 : Int).toNat * 3 + 2,none⟩ = some (.bool ((rd_T34 y102 x5_1).f2)) := hcc7 2 _ rfl;have hf7_0 : w12.frozen? ⟨go5,(x5_1 : Int).toNat * 3,none⟩ = false := hfr7 0;have hf7_1 : w12.frozen? ⟨go5,(x5_1 : Int).toNat * 3 + 1,none⟩ = false := hfr7 1;have hf7_2 : w12.frozen? ⟨go5,(x5_1 : Int).toNat * 3 + 2,none⟩ = false := hfr7 2;(clear hcl7 hcc7 hfr7;(try clear hM7));replace p7 := eq_true p7;replace q7 := eq_true q7;have HX13 := Aside0.mk (show Kd.R k34 34 w12 w0.heap.size (fun k_ => (P0_ k_ ∨ w.heap.size ≤ k_)) (.slice (some ⟨go5,0,none⟩) x0_1.length co8) y102 from (by (with_reducible repeat (first | apply Kd.R_alloc | apply Kd.R_drewN | apply Kd.R_drew));exact HO_0.out));obtain ⟨ce13,hcl13,hM13,hcc13,hfr13⟩ := Kd.R_elem HX13.out z34 (x5_1 : Int) (of_decide_eq_true (by first | (with_reducible assumption) | assumption)) (by have h_ : (x5_1 : Int) < ((x0_1.length : Int) : Int) := of_decide_eq_true (by first | (with_reducible assumption) | assumption);first | exact h_ | (have e_ := (Kd.R_reads' HO_0.out).1;omega) | simpa using h_);obtain rfl := k34_openM hM13;have HP13 := Kd.R_seg HX13.out (x5_1 : Int) (of_decide_eq_true (by first | (with_reducible assumption) | assumption)) (by have h_ : (x5_1 : Int) < ((x0_1.length : Int) : Int) := of_decide_eq_true (by first | (with_reducible assumption) | assumption);first | exact h_ | (have e_ := (Kd.R_reads' HO_0.out).1;omega) | simpa using h_) (seg := [.bool ((Int.tmod (wrap64 ((wrap64 (x1_1 + 1)) + 1)) 3) == 0)]) (j := 2) hcl13 hcc13 (show 3 ≤ 3 from by decide) (x' := (⟨(rd_T34 y102 x5_1).f0,(rd_T34 y102 x5_1).f1,((Int.tmod (wrap64 ((wrap64 (x1_1 + 1)) + 1)) 3) == 0)⟩ : S34)) (k34_mkM _ _ _ (⟨(rd_T34 y102 x5_1).f0,(rd_T34 y102 x5_1).f1,((Int.tmod (wrap64 ((wrap64 (x1_1 + 1)) + 1)) 3) == 0)⟩ : S34) ) (fun _ hk => hk);have hx13_2 := hcc13 2 _ rfl;(try simp only [show (k34).sz = 3 from rfl,Nat.mul_one,Nat.add_zero] at hx13_2);have hf13_2 := hfr13 2;(try simp only [show (k34).sz = 3 from rfl,Nat.mul_one,Nat.add_zero] at hf13_2);(clear hcl13 hcc13 hfr13;(try clear hM13))) | ((with_reducible refine gate_store (t := 4) (p := 32) rfl ?_);refine store_event (t := 4) (p := 32) (v := ?vo_w14) (w1 := (w12.setCell ⟨go5,(x5_1 : Int).toNat * 3 + 2,none⟩ (.bool ((Int.tmod (wrap64 ((wrap64 (x1_1 + 1)) + 1)) 3) == 0)))) ?hg ?ho ?hn ?hr ?_;(case ho => rfl);(case hg => rfl);(case hn => rfl);(case hr => first | (go_simp;done) | (go_simp;rfl));intro w14 hw;have hg : w12.grownBy w14 (some go5) := (by rw [hw];exact HP13.2);have hp_ : Kd.R k34 34 w14 w0.heap.size (fun k_ => (P0_ k_ ∨ w.heap.size ≤ k_)) (.slice (some ⟨go5,0,none⟩) x0_1.length co8) y103 := (by rw [hw,Ny103.out];exact HP13.1);clear HP13;have n0_ := Aside0.mk (hp_);have n1_ := Aside0.mk ((by rw [hw];exact below_set (HB.out) GB5.out : Below w0.heap.size w0 w14));have n2_ := Aside0.mk (Kept.of_grown (S := (fun k_ => P0_ k_)) hg (by repeat (first | (with_reducible first | exact HK.out | apply Kept.alloc | apply Kept.drewN | apply Kept.drew) | exact HK.out)) (fun k_ e_ => (HO_0.out.1 k_ e_)));clear HO_0;clear HB;clear HK;have HO_0 := n0_;have HB := n1_;have HK := n2_;clear n0_ n1_ n2_;clear hg hw hp_))
     go_roundg k1
     case measure => have := HK1.out;omega
     case rel => exact ⟨(y103),(wrap64 ((wrap64 ((wrap64 (x1_1 + 1)) + 1)) + 1)),(wrap64 (x5_1 + 1)),(by first | rfl | (simp only [IntKind.wrap_i64,wrap64];done) | (simp;done) | (simp [*];done)),(by first | rfl | (simp only [IntKind.wrap_i64,wrap64];done) | (simp;done) | (simp [*];done)),H',⟨by have := HK1.out;omega⟩,⟨by (with_reducible repeat (first | apply Kd.R_alloc | apply Kd.R_drewN | apply Kd.R_drew));exact HO_0.out⟩,⟨by repeat (first | (with_reducible first | exact HK.out | apply Kept.alloc | apply Kept.drewN | apply Kept.drew) | exact HK.out)⟩,⟨by repeat (first | (with_reducible first | exact HB.out | apply below_alloc | apply pw_below_drewN | apply below_drew1) | exact HB.out)⟩⟩
    ·rw [if_neg c4] at H;exact absurd H (by simp)
   ·rw [if_neg c3] at H;have c3b0 : decide (x5_1 < (x0_1.length : Int)) = false := decide_eq_false c3;clear c3;simp only [Option.some.injEq,Prod.mk.injEq] at H;obtain ⟨rfl,rfl⟩ := H;obtain ⟨Ao15,co15,eo15⟩ := Kd.R_slice HO_0.out;subst eo15
    go_wp2
    go_ret
    exact ⟨by first | rfl | (simp [errW_none,errW_some,IntKind.wrap_i64,wrap64];done) | (simp [errW_none,errW_some] <;> rfl) | (simp [*,errW_none,errW_some] <;> rfl),by (with_reducible repeat (first | apply Kd.R_alloc | apply Kd.R_drewN | apply Kd.R_drew));exact HO_0.out,by repeat (first | (with_reducible first | exact HB.out | apply below_alloc | apply pw_below_drewN | apply below_drew1) | exact HB.out),by repeat (first | (with_reducible first | exact HK.out | apply Kept.alloc | apply Kept.drewN | apply Kept.drew) | exact HK.out)⟩
end Go.Proofs.YtmcfbnglocojkaaDoor.G
end

section
namespace Go.Proofs.YtmcfbnglocojkaaDoor.G
open Go.RowKit Go.Proofs.YtmcfbnglocojkaaDoorW.PrintWords Go.Proofs.YtmcfbnglocojkaaDoorW.PrintLast Go.Proofs.YtmcfbnglocojkaaDoorW.PrintMore
attribute [local go_sem] max2_int min2_int max_two min_two max_three min_three max_four min_four
set_option linter.unusedVariables false
set_option linter.unusedSimpArgs false
mutual
def spec_l01Number.j0 : Nat → ByteArray → Bool → Option (Int × Bool)
 | 0,_,_ => none
 | k + 1,x0,x22 => if x22 = true then (some (0,false)) else (spec_l01Number.l0 k x0 0 0)
def spec_l01Number.l0 : Nat → ByteArray → Int → Int → Option (Int × Bool)
 | 0,_,_,_ => none
 | k + 1,x0,x4,x5 => if x5 < (x0.size : Int) then (if 0 ≤ x5 then (if (bt x0 x5) < 48 then (some (0,false)) else (if (bt x0 x5) > 57 then (some (0,false)) else (spec_l01Number.l0 k x0 (wrap64 ((wrap64 (10 * x4)) + (((bt x0 x5) - 48) % 256))) (wrap64 (x5 + 1))))) else (none)) else (some (x4,true))
end
def spec_l01Number.f (k : Nat) (a0 : ByteArray) : Option (Int × Bool) := if a0.toList = ([] : List UInt8) then (spec_l01Number.j0 k a0 true) else (if (a0.size : Int) > 9 then (spec_l01Number.j0 k a0 true) else (if 0 < (a0.size : Int) then (if (bt a0 0) = 48 then (spec_l01Number.j0 k a0 (decide ((a0.size : Int) > 1))) else (spec_l01Number.j0 k a0 false)) else (none)))
set_option maxHeartbeats 8000000 in
set_option maxRecDepth 100000 in
theorem spec_l01Number.calls (k : Nat) (a0 : ByteArray) (r1 : Int) (r2 : Bool) (w : World) (h : spec_l01Number.f k a0 = some (r1,r2)) :
  Calls Tryd.prog 10 #[.string a0] w fun e w' => e = .returned (.tuple #[.int .i64 r1,.bool r2]) ∧ Drawn0 w w' := by
 have H : (if a0.toList = ([] : List UInt8) then (spec_l01Number.j0 k a0 true) else (if (a0.size : Int) > 9 then (spec_l01Number.j0 k a0 true) else (if 0 < (a0.size : Int) then (if (bt a0 0) = 48 then (spec_l01Number.j0 k a0 (decide ((a0.size : Int) > 1))) else (spec_l01Number.j0 k a0 false)) else (none)))) = some (r1,r2) := h;clear h;have HC2 := Aside0.mk H;clear H
 go_enter Tryd.func10,Tryd.ntmps10
 go_upto_region 1 with (fail)
 go_cut [22] (fun v22 wc => ∃ (kq : Nat) (x22_1 : Bool),v22 = .bool x22_1 ∧ Aside0 (spec_l01Number.j0 kq a0 x22_1 = some (r1,r2)) ∧ Aside0 (kq ≤ k) ∧ Drawn0 w wc)
 case first =>
  have H := HC2.out;clear HC2
  by_cases c3 : a0.toList = ([] : List UInt8)
  ·rw [if_pos c3] at H;have c3b0 : (a0.toList == ([] : List UInt8)) = true := beq_iff_eq.mpr c3;have c3b1 : (a0.toList != ([] : List UInt8)) = false := bne_eq_false_iff_eq.mpr c3;clear c3;(first | rw [c3b0] | (simp only [i64_w,i32_w];rw [c3b0]) | skip);have H' := Aside0.mk H;clear H
   go_wp2
   go_meet
   case rel => exact ⟨_,(true),(by first | rfl | (simp only [IntKind.wrap_i64,wrap64];done) | (simp;done) | (simp [*];done)),H',⟨by first | omega | exact Nat.le_refl _⟩,by repeat (first | exact Drawn0.refl _ | apply Drawn0.step)⟩
  ·rw [if_neg c3] at H;have c3b0 : (a0.toList == ([] : List UInt8)) = false := beq_eq_false_iff_ne.mpr c3;have c3b1 : (a0.toList != ([] : List UInt8)) = true := bne_iff_ne.mpr c3;(first | rw [c3b0] | (simp only [i64_w,i32_w];rw [c3b0]) | skip)
   by_cases c4 : (a0.size : Int) > 9
   ·rw [if_pos c4] at H;have c4b0 : decide (9 < (a0.size : Int)) = true := decide_eq_true c4;have c4b1 : decide (9 < a0.size) = true := decide_eq_true (by omega);clear c4;have H' := Aside0.mk H;clear H
    go_wp2
    go_meet
    case rel => exact ⟨_,(true),(by first | rfl | (simp only [IntKind.wrap_i64,wrap64];done) | (simp;done) | (simp [*];done)),H',⟨by first | omega | exact Nat.le_refl _⟩,by repeat (first | exact Drawn0.refl _ | apply Drawn0.step)⟩
   ·rw [if_neg c4] at H;have c4b0 : decide (9 < (a0.size : Int)) = false := decide_eq_false c4;have c4b1 : decide (9 < a0.size) = false := decide_eq_false (by omega);clear c4
    by_cases c5 : 0 < (a0.size : Int)
    ·rw [if_pos c5] at H;have c5b0 : decide (0 < (a0.size : Int)) = true := decide_eq_true c5;have c5b1 : decide (0 < a0.size) = true := decide_eq_true (by omega);clear c5
     by_cases c7 : (bt a0 0) = 48
     ·rw [if_pos c7] at H;have c7b0 : ((bt a0 0) == 48) = true := beq_iff_eq.mpr c7;have c7b1 : ((bt a0 0) != 48) = false := bne_eq_false_iff_eq.mpr c7;clear c7;have H' := Aside0.mk H;clear H;have p6 : 0 ≤ (0 : Int) := (by omega);have q6 : 0 < a0.size := (by have : (0 : Int) < (a0.size : Int) := of_decide_eq_true (by first | (with_reducible assumption) | assumption);omega);have hx6 : ∀ h : 0 < a0.size,((a0[0]'h).toNat : Int) = bt a0 0 := bt_at a0 0;clear p6;have qi6 : (0 < (a0.size : Int)) = True := eq_true (of_decide_eq_true (by first | (with_reducible assumption) | assumption));replace q6 := eq_true q6
      go_wp2
      go_meet
      case rel => exact ⟨_,(decide ((a0.size : Int) > 1)),(by first | rfl | (simp only [IntKind.wrap_i64,wrap64];done) | (simp;done) | (simp [*];done)),H',⟨by first | omega | exact Nat.le_refl _⟩,by repeat (first | exact Drawn0.refl _ | apply Drawn0.step)⟩
     ·rw [if_neg c7] at H;have c7b0 : ((bt a0 0) == 48) = false := beq_eq_false_iff_ne.mpr c7;have c7b1 : ((bt a0 0) != 48) = true := bne_iff_ne.mpr c7;have H' := Aside0.mk H;clear H;have p6 : 0 ≤ (0 : Int) := (by omega);have q6 : 0 < a0.size := (by have : (0 : Int) < (a0.size : Int) := of_decide_eq_true (by first | (with_reducible assumption) | assumption);omega);have hx6 : ∀ h : 0 < a0.size,((a0[0]'h).toNat : Int) = bt a0 0 := bt_at a0 0;clear p6;have qi6 : (0 < (a0.size : Int)) = True := eq_true (of_decide_eq_true (by first | (with_reducible assumption) | assumption));replace q6 := eq_true q6
      go_wp2
      go_meet
      case rel => exact ⟨_,(false),(by first | rfl | (simp only [IntKind.wrap_i64,wrap64];done) | (simp;done) | (simp [*];done)),H',⟨by first | omega | exact Nat.le_refl _⟩,by repeat (first | exact Drawn0.refl _ | apply Drawn0.step)⟩
    ·rw [if_neg c5] at H;exact absurd H (by simp)
 case rest =>
  clear HC2;(try clear c1);(try clear p2);(try clear c3);(try clear c3b0);(try clear c3b1);(try clear c4);(try clear c4b0);(try clear c4b1);(try clear c5);(try clear c5b0);(try clear c5b1);(try clear p6);(try clear q6);(try clear hx6);(try clear qi6);(try clear c7);(try clear c7b0);(try clear c7b1);(try clear p6);(try clear q6);obtain ⟨kq,x22_1,rfl,HA,HJ1,⟨mc1,rfl⟩⟩ := hcut
  cases kq with
  | zero => exact absurd HA.out (by simp [spec_l01Number.j0])
  | succ kj1 =>
   have H := HA.out;clear HA;simp only [spec_l01Number.j0] at H
   by_cases c8 : x22_1 = true
   ·subst c8
    have H1 : (some (0,false)) = some (r1,r2) := by rw [if_pos rfl] at H;exact H
    clear H;have H := H1;clear H1;simp only [Option.some.injEq,Prod.mk.injEq] at H;obtain ⟨rfl,rfl⟩ := H
    go_wp2
    go_ret2
    exact ⟨by first | rfl | (simp only [IntKind.wrap_i64,wrap64];done) | (simp;done) | (simp [*];done),by repeat (first | exact Drawn0.refl _ | apply Drawn0.step)⟩
   ·replace c8 := Bool.eq_false_iff.mpr c8;subst c8
    have H1 : (spec_l01Number.l0 kj1 a0 0 0) = some (r1,r2) := by rw [if_neg (show ¬ (false = true) by decide)] at H;exact H
    clear H;have H := H1;clear H1;have H' := Aside0.mk H;clear H
    go_wp2
    go_loopg [4,5] kj1 (fun kq v4 v5 w' => ∃ (x4_2 : Int) (x5_2 : Int),v4 = .int .i64 x4_2 ∧ v5 = .int .i64 x5_2 ∧ Aside0 (spec_l01Number.l0 kq a0 x4_2 x5_2 = some (r1,r2)) ∧ Aside0 (kq ≤ kj1) ∧ Drawn0 w w')
    case atStart => exact ⟨(0),(0),(by first | rfl | (simp only [IntKind.wrap_i64,wrap64];done) | (simp;done) | (simp [*];done)),(by first | rfl | (simp only [IntKind.wrap_i64,wrap64];done) | (simp;done) | (simp [*];done)),H',⟨Nat.le_refl _⟩,by repeat (first | exact Drawn0.refl _ | apply Drawn0.step)⟩
    case round =>
     clear H';(try clear c1);(try clear p2);(try clear c3);(try clear c3b0);(try clear c3b1);(try clear c4);(try clear c4b0);(try clear c4b1);(try clear c5);(try clear c5b0);(try clear c5b1);(try clear p6);(try clear q6);(try clear hx6);(try clear qi6);(try clear c7);(try clear c7b0);(try clear c7b1);(try clear c8);(try clear p2);(try clear p6);(try clear q6);obtain ⟨x4_2,x5_2,rfl,rfl,HA,HK2,⟨m2,rfl⟩⟩ := hrel
     cases gk with
     | zero => exact absurd HA.out (by simp [spec_l01Number.l0])
     | succ k2 =>
      have H := HA.out;clear HA;simp only [spec_l01Number.l0] at H
      by_cases c9 : x5_2 < (a0.size : Int)
      ·rw [if_pos c9] at H;have c9b0 : decide (x5_2 < (a0.size : Int)) = true := decide_eq_true c9;clear c9
       by_cases c10 : 0 ≤ x5_2
       ·rw [if_pos c10] at H;have c10b0 : decide (0 ≤ x5_2) = true := decide_eq_true c10;clear c10
        by_cases c12 : (bt a0 x5_2) < 48
        ·rw [if_pos c12] at H;have c12b0 : decide ((bt a0 x5_2) < 48) = true := decide_eq_true c12;clear c12;simp only [Option.some.injEq,Prod.mk.injEq] at H;obtain ⟨rfl,rfl⟩ := H;have p11 : 0 ≤ (x5_2 : Int) := of_decide_eq_true (by first | (with_reducible assumption) | assumption);have q11 : x5_2 < (a0.size : Int) := of_decide_eq_true (by first | (with_reducible assumption) | assumption);have hx11 := bt_at a0 x5_2;replace p11 := eq_true p11;replace q11 := eq_true q11
         go_wp2
         go_ret2
         exact ⟨by first | rfl | (simp only [IntKind.wrap_i64,wrap64];done) | (simp;done) | (simp [*];done),by repeat (first | exact Drawn0.refl _ | apply Drawn0.step)⟩
        ·rw [if_neg c12] at H;have c12b0 : decide ((bt a0 x5_2) < 48) = false := decide_eq_false c12;clear c12
         by_cases c14 : (bt a0 x5_2) > 57
         ·rw [if_pos c14] at H;have c14b0 : decide (57 < (bt a0 x5_2)) = true := decide_eq_true c14;clear c14;simp only [Option.some.injEq,Prod.mk.injEq] at H;obtain ⟨rfl,rfl⟩ := H;have p11 : 0 ≤ (x5_2 : Int) := of_decide_eq_true (by first | (with_reducible assumption) | assumption);have q11 : x5_2 < (a0.size : Int) := of_decide_eq_true (by first | (with_reducible assumption) | assumption);have hx11 := bt_at a0 x5_2;replace p11 := eq_true p11;replace q11 := eq_true q11;have p13 : 0 ≤ (x5_2 : Int) := of_decide_eq_true (by first | (with_reducible assumption) | assumption);have q13 : x5_2 < (a0.size : Int) := of_decide_eq_true (by first | (with_reducible assumption) | assumption);have hx13 := bt_at a0 x5_2;replace p13 := eq_true p13;replace q13 := eq_true q13
          go_wp2
          go_ret2
          exact ⟨by first | rfl | (simp only [IntKind.wrap_i64,wrap64];done) | (simp;done) | (simp [*];done),by repeat (first | exact Drawn0.refl _ | apply Drawn0.step)⟩
         ·rw [if_neg c14] at H;have c14b0 : decide (57 < (bt a0 x5_2)) = false := decide_eq_false c14;clear c14;have H' := Aside0.mk H;clear H;have p11 : 0 ≤ (x5_2 : Int) := of_decide_eq_true (by first | (with_reducible assumption) | assumption);have q11 : x5_2 < (a0.size : Int) := of_decide_eq_true (by first | (with_reducible assumption) | assumption);have hx11 := bt_at a0 x5_2;replace p11 := eq_true p11;replace q11 := eq_true q11;have p13 : 0 ≤ (x5_2 : Int) := of_decide_eq_true (by first | (with_reducible assumption) | assumption);have q13 : x5_2 < (a0.size : Int) := of_decide_eq_true (by first | (with_reducible assumption) | assumption);have hx13 := bt_at a0 x5_2;replace p13 := eq_true p13;replace q13 := eq_true q13;have p15 : 0 ≤ (x5_2 : Int) := of_decide_eq_true (by first | (with_reducible assumption) | assumption);have q15 : x5_2 < (a0.size : Int) := of_decide_eq_true (by first | (with_reducible assumption) | assumption);have hx15 := bt_at a0 x5_2;replace p15 := eq_true p15;replace q15 := eq_true q15
          go_wp2
          go_roundg k2
          case measure => have := HJ1.out;have := HK2.out;omega
          case rel => exact ⟨(wrap64 ((wrap64 (10 * x4_2)) + (((bt a0 x5_2) - 48) % 256))),(wrap64 (x5_2 + 1)),(by first | rfl | (simp only [IntKind.wrap_i64,wrap64];done) | (simp;done) | (simp [*];done)),(by first | rfl | (simp only [IntKind.wrap_i64,wrap64];done) | (simp;done) | (simp [*];done)),H',⟨by have := HJ1.out;have := HK2.out;omega⟩,by repeat (first | exact Drawn0.refl _ | apply Drawn0.step)⟩
       ·rw [if_neg c10] at H;exact absurd H (by simp)
      ·rw [if_neg c9] at H;have c9b0 : decide (x5_2 < (a0.size : Int)) = false := decide_eq_false c9;clear c9;simp only [Option.some.injEq,Prod.mk.injEq] at H;obtain ⟨rfl,rfl⟩ := H
       go_wp2
       go_ret2
       exact ⟨by first | rfl | (simp only [IntKind.wrap_i64,wrap64];done) | (simp;done) | (simp [*];done),by repeat (first | exact Drawn0.refl _ | apply Drawn0.step)⟩
end Go.Proofs.YtmcfbnglocojkaaDoor.G
end

section
namespace Go.Proofs.YtmcfbnglocojkaaDoor.G
open Go.RowKit Go.Proofs.YtmcfbnglocojkaaDoorW.PrintWords Go.Proofs.YtmcfbnglocojkaaDoorW.PrintLast Go.Proofs.YtmcfbnglocojkaaDoorW.PrintMore
attribute [local go_sem] max2_int min2_int max_two min_two max_three min_three max_four min_four
set_option linter.unusedVariables false
set_option linter.unusedSimpArgs false
def spec_l01Split.l0 : Nat → ByteArray → Int → List ByteArray → Int → Int → Option (List ByteArray)
 | 0,_,_,_,_,_ => none
 | k + 1,x0,x1,x5,x6,x7 => if x7 < (x0.size : Int) then (if 0 ≤ x7 then (if (bt x0 x7) = x1 then (if 0 ≤ x6 then (if x6 ≤ x7 then (if x7 ≤ (x0.size : Int) then (if x5.length < 8796093022208 then (spec_l01Split.l0 k x0 x1 (x5 ++ [x0.extract (x6 : Int).toNat (x7 : Int).toNat]) (wrap64 (x7 + 1)) (wrap64 (x7 + 1))) else (none)) else (none)) else (none)) else (none)) else (spec_l01Split.l0 k x0 x1 x5 x6 (wrap64 (x7 + 1)))) else (none)) else (if 0 ≤ x6 then (if x6 ≤ (x0.size : Int) then (if x5.length < 8796093022208 then (some (x5 ++ [x0.extract (x6 : Int).toNat x0.size])) else (none)) else (none)) else (none))
def spec_l01Split.f (k : Nat) (a0 : ByteArray) (a1 : Int) : Option (List ByteArray) := spec_l01Split.l0 k a0 a1 (([] : List ByteArray)) 0 0
set_option maxHeartbeats 8000000 in
set_option maxRecDepth 100000 in
theorem spec_l01Split.calls (k : Nat) (a0 : ByteArray) (a1 : Int) (r : List ByteArray) (w : World) (h : spec_l01Split.f k a0 a1 = some r) :
  Calls Tryd.prog 9 #[.string a0,.int .u8 a1] w fun e w' => ∃ v0_ : Value,e = .returned (v0_) ∧ Kd.R Kd.string 9 w' w.heap.size (fun _ => True) v0_ r ∧ Below w.heap.size w w' := by
 have HB := Aside0.mk (Below.refl w.heap.size w);have H : (spec_l01Split.l0 k a0 a1 (([] : List ByteArray)) 0 0) = some r := h;clear h;obtain ⟨y101,hy101⟩ : ∃ y_ : List ByteArray,y_ = (([] : List ByteArray)) := ⟨_,rfl⟩
 replace H : (spec_l01Split.l0 k a0 a1 y101 0 0) = some r := by first | (rw [hy101];with_reducible exact H) | (have H2_ := (Option.bind_some _ _).symm.trans H;rw [hy101];with_reducible exact H2_) | (have H2_ := (Option.bind_some _ _).symm.trans H;with_reducible exact H2_) | with_reducible exact H | (rw [hy101];exact H) | exact H
 have Ny101 := Aside0.mk hy101;clear hy101;have H' := Aside0.mk H;clear H
 go_enter Tryd.func9,Tryd.ntmps9
 go_wp2_with (first | ((with_reducible refine gate_dst (N := 8) rfl ?_);refine Kd.R_lit Kd.string _ 9 ?hg (N := 8) ?hd (xs := ([] : List ByteArray)) (inner := []) (ok := fun _ => True) (okp := fun _ => True) ?hr ?hp (fun _ hk => hk) trivial (Below.refl _ _) (Nat.le_refl _) (by simp) ?_;(case hd => rfl);(case hg => rfl);(case hr => first | (go_simp;done) | (go_simp;rfl));(case hp => exact (Reps.none _ _));intro v102 w3 ho4 hb hg_ hnew_;clear hg_ hnew_;(first | rw [← Ny101.out] at ho4 | (simp only [Int.reduceToNat] at ho4;rw [← Ny101.out] at ho4));have n0_ := Aside0.mk (Kd.R_lower ho4 (below_size (by repeat (first | (with_reducible first | exact HB.out | apply below_alloc | apply pw_below_drewN | apply below_drew1) | exact HB.out))));have n1_ := Aside0.mk (below_step (by repeat (first | (with_reducible first | exact HB.out | apply below_alloc | apply pw_below_drewN | apply below_drew1) | exact HB.out)) hb);clear HB;have HO103 := n0_;have HB := n1_;clear n0_ n1_;clear hb ho4))
 go_loopg [5,6,7] k (fun kq v5 v6 v7 w' => ∃ (x5_1 : List ByteArray) (x6_1 : Int) (x7_1 : Int),v6 = .int .i64 x6_1 ∧ v7 = .int .i64 x7_1 ∧ Aside0 (spec_l01Split.l0 kq a0 a1 x5_1 x6_1 x7_1 = some r) ∧ Aside0 (kq ≤ k) ∧ Aside0 (Kd.R Kd.string 9 w' w.heap.size (fun _ => True) v5 x5_1) ∧ Aside0 (Below w.heap.size w w'))
 case atStart => exact ⟨(y101),(0),(0),(by first | rfl | (simp only [IntKind.wrap_i64,wrap64];done) | (simp;done) | (simp [*];done)),(by first | rfl | (simp only [IntKind.wrap_i64,wrap64];done) | (simp;done) | (simp [*];done)),H',⟨Nat.le_refl _⟩,⟨by (with_reducible repeat (first | apply Kd.R_alloc | apply Kd.R_drewN | apply Kd.R_drew));exact HO103.out⟩,⟨by repeat (first | (with_reducible first | exact HB.out | apply below_alloc | apply pw_below_drewN | apply below_drew1) | exact HB.out)⟩⟩
 case round =>
  clear H';(try clear p2);obtain ⟨x5_1,x6_1,x7_1,rfl,rfl,HA,HK1,HO_5,HB⟩ := hrel
  cases gk with
  | zero => exact absurd HA.out (by simp [spec_l01Split.l0])
  | succ k1 =>
   have H := HA.out;clear HA;simp only [spec_l01Split.l0] at H
   by_cases c5 : x7_1 < (a0.size : Int)
   ·rw [if_pos c5] at H;have c5b0 : decide (x7_1 < (a0.size : Int)) = true := decide_eq_true c5;clear c5
    by_cases c6 : 0 ≤ x7_1
    ·rw [if_pos c6] at H;have c6b0 : decide (0 ≤ x7_1) = true := decide_eq_true c6;clear c6
     by_cases c8 : (bt a0 x7_1) = a1
     ·rw [if_pos c8] at H;have c8b0 : ((bt a0 x7_1) == a1) = true := beq_iff_eq.mpr c8;have c8b1 : ((bt a0 x7_1) != a1) = false := bne_eq_false_iff_eq.mpr c8;clear c8
      by_cases c9 : 0 ≤ x6_1
      ·rw [if_pos c9] at H;have c9b0 := eq_true c9;have c9b1 : decide (0 ≤ x6_1) = true := decide_eq_true c9;clear c9
       by_cases c10 : x6_1 ≤ x7_1
       ·rw [if_pos c10] at H;have c10b0 := eq_true c10;have c10b1 : decide (x6_1 ≤ x7_1) = true := decide_eq_true c10;clear c10
        by_cases c11 : x7_1 ≤ (a0.size : Int)
        ·rw [if_pos c11] at H;have c11b0 := eq_true c11;have c11b1 : decide (x7_1 ≤ (a0.size : Int)) = true := decide_eq_true c11;clear c11
         by_cases c12 : x5_1.length < 8796093022208
         ·rw [if_pos c12] at H;have LMc12 := Aside0.mk c12;clear c12;obtain ⟨y104,hy104⟩ : ∃ y_ : List ByteArray,y_ = (x5_1 ++ [a0.extract (x6_1 : Int).toNat (x7_1 : Int).toNat]) := ⟨_,rfl⟩
          replace H : (spec_l01Split.l0 k1 a0 a1 y104 (wrap64 (x7_1 + 1)) (wrap64 (x7_1 + 1))) = some r := by first | (rw [hy104];with_reducible exact H) | (have H2_ := (Option.bind_some _ _).symm.trans H;rw [hy104];with_reducible exact H2_) | (have H2_ := (Option.bind_some _ _).symm.trans H;with_reducible exact H2_) | with_reducible exact H | (rw [hy104];exact H) | exact H
          have Ny104 := Aside0.mk hy104;clear hy104;have H' := Aside0.mk H;clear H;have p7 : 0 ≤ (x7_1 : Int) := of_decide_eq_true (by first | (with_reducible assumption) | assumption);have q7 : x7_1 < (a0.size : Int) := of_decide_eq_true (by first | (with_reducible assumption) | assumption);have hx7 := bt_at a0 x7_1;replace p7 := eq_true p7;replace q7 := eq_true q7
          go_wp2_with (first | ((with_reducible refine gate_builtin (b := .append) (xs := #[.tmp 20,.tmp 25]) rfl ?_);at_builtin;refine Kd.R_append Kd.string (w0 := w) w.heap.size rfl (.tmp 20) (.tmp 25) 29 9 (.string ⟨#[]⟩) 16 rfl Tryd.underlying29 info9 rfl (by decide) (by omega) u5 x5_1 (a0.extract (x6_1 : Int).toNat (x7_1 : Int).toNat) [.string (a0.extract (x6_1 : Int).toNat (x7_1 : Int).toNat)] (fun _ => True) (fun _ => False) rfl rfl ?aP (fun _ hk => hk.elim) ?aF ?aO ?aB ?aS ?aL ?_;(case aP => exact rfl);(case aB => exact (by repeat (first | (with_reducible first | exact HB.out | apply below_alloc | apply pw_below_drewN | apply below_drew1) | exact HB.out)));(case aF => exact (fun _ _ => trivial));(case aO => exact (by (with_reducible repeat (first | apply Kd.R_alloc | apply Kd.R_drewN | apply Kd.R_drew));exact HO_5.out));(case aS => exact (below_size (by repeat (first | (with_reducible first | exact HB.out | apply below_alloc | apply pw_below_drewN | apply below_drew1) | exact HB.out))));(case aL => have := LMc12.out;omega);intro v105 w13 ho hb hg hat;rw [← Ny104.out] at ho;have n0_ := Aside0.mk (hb);have n1_ := Aside0.mk (ho);clear HB;clear HO_5;have HB := n0_;have HO106 := n1_;clear n0_ n1_;clear ho hb hg hat))
          go_roundg k1
          case measure => have := HK1.out;omega
          case rel => exact ⟨(y104),(wrap64 (x7_1 + 1)),(wrap64 (x7_1 + 1)),(by first | rfl | (simp only [IntKind.wrap_i64,wrap64];done) | (simp;done) | (simp [*];done)),(by first | rfl | (simp only [IntKind.wrap_i64,wrap64];done) | (simp;done) | (simp [*];done)),H',⟨by have := HK1.out;omega⟩,⟨by (with_reducible repeat (first | apply Kd.R_alloc | apply Kd.R_drewN | apply Kd.R_drew));exact HO106.out⟩,⟨by repeat (first | (with_reducible first | exact HB.out | apply below_alloc | apply pw_below_drewN | apply below_drew1) | exact HB.out)⟩⟩
         ·rw [if_neg c12] at H;exact absurd H (by simp)
        ·rw [if_neg c11] at H;exact absurd H (by simp)
       ·rw [if_neg c10] at H;exact absurd H (by simp)
      ·rw [if_neg c9] at H;exact absurd H (by simp)
     ·rw [if_neg c8] at H;have c8b0 : ((bt a0 x7_1) == a1) = false := beq_eq_false_iff_ne.mpr c8;have c8b1 : ((bt a0 x7_1) != a1) = true := bne_iff_ne.mpr c8;have H' := Aside0.mk H;clear H;have p7 : 0 ≤ (x7_1 : Int) := of_decide_eq_true (by first | (with_reducible assumption) | assumption);have q7 : x7_1 < (a0.size : Int) := of_decide_eq_true (by first | (with_reducible assumption) | assumption);have hx7 := bt_at a0 x7_1;replace p7 := eq_true p7;replace q7 := eq_true q7
      go_wp2
      go_roundg k1
      case measure => have := HK1.out;omega
      case rel => exact ⟨(x5_1),(x6_1),(wrap64 (x7_1 + 1)),(by first | rfl | (simp only [IntKind.wrap_i64,wrap64];done) | (simp;done) | (simp [*];done)),(by first | rfl | (simp only [IntKind.wrap_i64,wrap64];done) | (simp;done) | (simp [*];done)),H',⟨by have := HK1.out;omega⟩,⟨by (with_reducible repeat (first | apply Kd.R_alloc | apply Kd.R_drewN | apply Kd.R_drew));exact HO_5.out⟩,⟨by repeat (first | (with_reducible first | exact HB.out | apply below_alloc | apply pw_below_drewN | apply below_drew1) | exact HB.out)⟩⟩
    ·rw [if_neg c6] at H;exact absurd H (by simp)
   ·rw [if_neg c5] at H;have c5b0 : decide (x7_1 < (a0.size : Int)) = false := decide_eq_false c5;clear c5
    by_cases c14 : 0 ≤ x6_1
    ·rw [if_pos c14] at H;have c14b0 := eq_true c14;have c14b1 : decide (0 ≤ x6_1) = true := decide_eq_true c14;clear c14
     by_cases c15 : x6_1 ≤ (a0.size : Int)
     ·rw [if_pos c15] at H;have c15b0 := eq_true c15;have c15b1 : decide (x6_1 ≤ (a0.size : Int)) = true := decide_eq_true c15;clear c15
      by_cases c16 : x5_1.length < 8796093022208
      ·rw [if_pos c16] at H;have LMc16 := Aside0.mk c16;clear c16;obtain ⟨y107,hy107⟩ : ∃ y_ : List ByteArray,y_ = (x5_1 ++ [a0.extract (x6_1 : Int).toNat a0.size]) := ⟨_,rfl⟩
       replace H : (some y107) = some r := by first | (rw [hy107];with_reducible exact H) | (have H2_ := (Option.bind_some _ _).symm.trans H;rw [hy107];with_reducible exact H2_) | (have H2_ := (Option.bind_some _ _).symm.trans H;with_reducible exact H2_) | with_reducible exact H | (rw [hy107];exact H) | exact H
       have Ny107 := Aside0.mk hy107;clear hy107;obtain rfl := Option.some.inj H
       go_wp2_with (first | ((with_reducible refine gate_builtin (b := .append) (xs := #[.tmp 29,.tmp 33]) rfl ?_);at_builtin;refine Kd.R_append Kd.string (w0 := w) w.heap.size rfl (.tmp 29) (.tmp 33) 29 9 (.string ⟨#[]⟩) 16 rfl Tryd.underlying29 info9 rfl (by decide) (by omega) u5 x5_1 (a0.extract (x6_1 : Int).toNat a0.size) [.string (a0.extract (x6_1 : Int).toNat a0.size)] (fun _ => True) (fun _ => False) rfl rfl ?aP (fun _ hk => hk.elim) ?aF ?aO ?aB ?aS ?aL ?_;(case aP => exact rfl);(case aB => exact (by repeat (first | (with_reducible first | exact HB.out | apply below_alloc | apply pw_below_drewN | apply below_drew1) | exact HB.out)));(case aF => exact (fun _ _ => trivial));(case aO => exact (by (with_reducible repeat (first | apply Kd.R_alloc | apply Kd.R_drewN | apply Kd.R_drew));exact HO_5.out));(case aS => exact (below_size (by repeat (first | (with_reducible first | exact HB.out | apply below_alloc | apply pw_below_drewN | apply below_drew1) | exact HB.out))));(case aL => have := LMc16.out;omega);intro v108 w17 ho hb hg hat;rw [← Ny107.out] at ho;have n0_ := Aside0.mk (hb);have n1_ := Aside0.mk (ho);clear HB;clear HO_5;have HB := n0_;have HO109 := n1_;clear n0_ n1_;clear ho hb hg hat))
       go_ret
       exact ⟨_,by first | rfl | (simp [errW_none,errW_some,IntKind.wrap_i64,wrap64];done) | (simp [errW_none,errW_some] <;> rfl) | (simp [*,errW_none,errW_some] <;> rfl),by (with_reducible repeat (first | apply Kd.R_alloc | apply Kd.R_drewN | apply Kd.R_drew));exact HO109.out,by repeat (first | (with_reducible first | exact HB.out | apply below_alloc | apply pw_below_drewN | apply below_drew1) | exact HB.out)⟩
      ·rw [if_neg c16] at H;exact absurd H (by simp)
     ·rw [if_neg c15] at H;exact absurd H (by simp)
    ·rw [if_neg c14] at H;exact absurd H (by simp)
end Go.Proofs.YtmcfbnglocojkaaDoor.G
end

section
namespace Go.Proofs.YtmcfbnglocojkaaDoor.G
open Go.RowKit Go.Proofs.YtmcfbnglocojkaaDoorW.PrintWords Go.Proofs.YtmcfbnglocojkaaDoorW.PrintLast Go.Proofs.YtmcfbnglocojkaaDoorW.PrintMore
attribute [local go_sem] max2_int min2_int max_two min_two max_three min_three max_four min_four
set_option linter.unusedVariables false
set_option linter.unusedSimpArgs false
def spec_l00In.f (a0 : Int) (a1 : Int) (a2 : Int) : Option (Bool) := if a0 ≥ a1 then (some (decide (a0 ≤ a2))) else (some false)
set_option maxHeartbeats 8000000 in
set_option maxRecDepth 100000 in
theorem spec_l00In.calls (a0 : Int) (a1 : Int) (a2 : Int) (r : Bool) (w : World) (h : spec_l00In.f a0 a1 a2 = some r) :
  Calls Tryd.prog 18 #[.int .i64 a0,.int .i64 a1,.int .i64 a2] w fun e w' => e = .returned (.bool r) ∧ Drawn0 w w' := by
 have H : (if a0 ≥ a1 then (some (decide (a0 ≤ a2))) else (some false)) = some r := h;clear h
 by_cases c4 : a0 ≥ a1
 ·rw [if_pos c4] at H;have c4b0 : decide (a1 ≤ a0) = true := decide_eq_true c4;clear c4;obtain rfl := Option.some.inj H
  go_enter Tryd.func18,Tryd.ntmps18
  go_wp2
  go_ret
  exact ⟨by first | rfl | (simp only [IntKind.wrap_i64,wrap64];done) | (simp;done) | (simp [*];done),by repeat (first | exact Drawn0.refl _ | apply Drawn0.step)⟩
 ·rw [if_neg c4] at H;have c4b0 : decide (a1 ≤ a0) = false := decide_eq_false c4;clear c4;obtain rfl := Option.some.inj H
  go_enter Tryd.func18,Tryd.ntmps18
  go_wp2
  go_ret
  exact ⟨by first | rfl | (simp only [IntKind.wrap_i64,wrap64];done) | (simp;done) | (simp [*];done),by repeat (first | exact Drawn0.refl _ | apply Drawn0.step)⟩
end Go.Proofs.YtmcfbnglocojkaaDoor.G
end
