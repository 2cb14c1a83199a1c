/- The law's functions, their contracts, and the plain lemmas: texts of this claim, laid together. -/
import Derived.Test.YtcoepebmmgcplaaProg
import Derived.Below
import Derived.Deep.Draws
import Derived.Deep.AppendLies
import Derived.Maps.AppendAt
import Derived.OwnWalk
import Derived.Laws.BytesArg
import Derived.Laws.MakeOwn
import Derived.Laws.OwnMore
import Derived.Deep.OwnRows
import Derived.Tactics
import Derived.Lib.ConvBytes
import Derived.Laws.Slices
import Derived.WalkKit
import Derived.KernelRfl
import Derived.RowKit3
import Derived.Deep.LoopGhost
import Derived.Deep.QuietTactic
import Derived.BigQuiet
import Derived.WideLaws
import Derived.Deep.DeepCutAuto
import Derived.Deep.CutBlock
import Derived.Deep.RegionHeld3
import Derived.Laws.Rows
import Derived.Lib.AppendStr
import Derived.ArgAppend
import Derived.Laws.IdiomCopy
import Derived.OrdersHeld
import Derived.Laws.BitsLemmas
import Derived.RowKit
import Derived.Shelf.Abstract
import Derived.WalkSpells
import Derived.WalkLawsBesides
import Derived.Test.YtcoepebmmgcplaaWWords
import Derived.Test.YtcoepebmmgcplaaWLast
import Derived.Test.YtcoepebmmgcplaaWTab
import Derived.Test.YtcoepebmmgcplaaWFour
import Derived.Test.YtcoepebmmgcplaaWQPut
import Derived.Test.YtcoepebmmgcplaaWApart
import Derived.Test.YtcoepebmmgcplaaWArr
import Derived.Test.YtcoepebmmgcplaaWZeros
import Derived.Test.YtcoepebmmgcplaaWFoot
import Derived.Test.YtcoepebmmgcplaaWKept
import Derived.Test.YtcoepebmmgcplaaWShare
import Derived.Test.YtcoepebmmgcplaaWN
import Derived.Test.YtcoepebmmgcplaaWFootNe
import Derived.Test.YtcoepebmmgcplaaWAt
import Derived.Test.YtcoepebmmgcplaaWEqStruct
import Derived.Test.YtcoepebmmgcplaaWRepsOne
import Derived.Test.YtcoepebmmgcplaaWInv
import Derived.Test.YtcoepebmmgcplaaWInvWords
import Derived.Test.YtcoepebmmgcplaaWGuard
import Derived.Test.YtcoepebmmgcplaaWNEv
import Derived.Test.YtcoepebmmgcplaaWMore
import Derived.Deep.RegionLaw
import Derived.Lib.AppendZeros
import Derived.Sort.Grow
import Derived.Shelf.SlSortCmp.NoneTotal
import Derived.Ground.SlsfProg
import Derived.Shelf.Small.Bits
import Derived.Shelf.Strconv.Itoa0
import Derived.Sort.Statements
section
namespace Go.Proofs.Ytcoepebmmgcplaa.G
open Go.RowKit Go.Proofs.YtcoepebmmgcplaaW.PrintWords Go.Proofs.YtcoepebmmgcplaaW.PrintLast Go.Proofs.YtcoepebmmgcplaaW.PrintMore
attribute [local go_sem] max2_int min2_int max_two min_two max_three min_three max_four min_four
set_option linter.unusedVariables false
set_option linter.unusedSimpArgs false
def errW : Option Int → Value
  | none => .nilIface
  | some c => .iface 0 (.int .i64 c)
theorem errW_none : errW none = .nilIface := rfl
theorem errW_some (c : Int) : errW (some c) = .iface 0 (.int .i64 c) := rfl
theorem info3 : (Try.prog.info? 3).map (fun i => (i.zero, i.size, i.bytes)) = some (some (.int .i64 0), 1, 8) := by kernel_rfl
theorem info25 : (Try.prog.info? 25).map (fun i => (i.zero, i.size, i.bytes)) = some (some (.slice none 0 0), 1, 24) := by kernel_rfl
theorem info40 : (Try.prog.info? 40).map (fun i => (i.zero, i.size, i.bytes)) = some (some (.agg #[(.int .i64 0), (.int .i64 0), (.bool false)]), 3, 24) := by kernel_rfl
structure S57 where
  f0 : Int
  f1 : Int
  f2 : Bool
def z57 : S57 := ⟨(0 : Int), (0 : Int), false⟩
def k57 : Kd S57 := Kd.iso (Kd.pair (Kd.int .i64) (Kd.pair (Kd.int .i64) Kd.bool)) (fun x : S57 => (x.f0, x.f1, x.f2))
theorem k57_open {w : World} {x : S57} {cs : List Value} (h : k57.K w x cs) : cs = [.int .i64 x.f0, .int .i64 x.f1, .bool x.f2] := by
  obtain ⟨_, _, rfl, rfl, ⟨_, _, rfl, rfl, rfl⟩⟩ := h
  exact rfl
def rd_T57 (xs : List S57) (i : Int) : S57 := xs.getD i.toNat z57
theorem at_T57 {w : World} {A : Option Addr} {n : Nat} {xs : List S57} (h : Kd.C k57 w A n xs) (i : Int) (h0 : 0 ≤ i) (h1 : i < n) : ∃ ad , A = some ad ∧ w.cell? (ad.add (i.toNat * 3)) = some (.int .i64 (rd_T57 xs i).f0) ∧ w.cell? ⟨(ad.add (i.toNat * 3)).block, (ad.add (i.toNat * 3)).off + 1, none⟩ = some (.int .i64 (rd_T57 xs i).f1) ∧ w.cell? ⟨(ad.add (i.toNat * 3)).block, (ad.add (i.toNat * 3)).off + 2, none⟩ = some (.bool (rd_T57 xs i).f2) := by
  obtain ⟨ad, c, e, _, hK, hc0⟩ := Kd.C_get h z57 i h0 h1
  have hc : ∀ j u, c[j]? = some u → w.cell? (ad.add (i.toNat * 3 + j)) = some u := hc0
  obtain rfl := k57_open hK
  exact ⟨ad, e, hc 0 _ rfl, by rw [← add_field _ _ 1 (by omega)]; exact hc 1 _ rfl, by rw [← add_field _ _ 2 (by omega)]; exact hc 2 _ rfl⟩
def rd_L3 (xs : List (List S57)) (i : Int) : (List S57) := xs.getD i.toNat ([] : List S57)
theorem at_L3 {w : World} {A : Option Addr} {n : Nat} {xs : List (List S57)} (h : Kd.C (Kd.slice 57 k57) w A n xs) (i : Int) (h0 : 0 ≤ i) (h1 : i < n) : ∃ ad A0 c0, A = some ad ∧ w.cell? (ad.add i.toNat) = some (.slice A0 (rd_L3 xs i).length c0) ∧ (rd_L3 xs i).length ≤ c0 ∧ k57.C w A0 (rd_L3 xs i).length (rd_L3 xs i) := by
  obtain ⟨ad, c, e, _, hK, hc0⟩ := Kd.C_get h ([] : List S57) i h0 h1
  have hc : ∀ j u, c[j]? = some u → w.cell? (ad.add (i.toNat * 1 + j)) = some u := hc0
  obtain ⟨A0, c0, rfl, l0, g0⟩ := hK
  exact ⟨ad, A0, c0, e, by have hq := hc 0 _ rfl; rwa [Nat.mul_one, Nat.add_zero] at hq, l0, g0⟩
structure S40 where
  f0 : Int
  f1 : Int
  f2 : Bool
def z40 : S40 := ⟨(0 : Int), (0 : Int), false⟩
def k40 : Kd S40 := Kd.iso (Kd.pair (Kd.int .i64) (Kd.pair (Kd.int .i64) Kd.bool)) (fun x : S40 => (x.f0, x.f1, x.f2))
theorem k40_open {w : World} {x : S40} {cs : List Value} (h : k40.K w x cs) : cs = [.int .i64 x.f0, .int .i64 x.f1, .bool x.f2] := by
  obtain ⟨_, _, rfl, rfl, ⟨_, _, rfl, rfl, rfl⟩⟩ := h
  exact rfl
theorem k40_openM {w : World} {base : Nat} {ok : Nat → Prop} {x : S40} {cs : List Value} (h : k40.M w base ok x cs) : cs = [.int .i64 x.f0, .int .i64 x.f1, .bool x.f2] := by
  obtain ⟨_, _, rfl, rfl, ⟨_, _, rfl, rfl, rfl⟩⟩ := h
  exact rfl
theorem k40_mkM (w : World) (base : Nat) (ok : Nat → Prop) (x : S40)  : k40.M w base ok x [.int .i64 x.f0, .int .i64 x.f1, .bool x.f2] := ⟨[.int .i64 x.f0], [.int .i64 x.f1, .bool x.f2], rfl, rfl, ⟨[.int .i64 x.f1], [.bool x.f2], rfl, rfl, rfl⟩⟩
def rd_T40 (xs : List S40) (i : Int) : S40 := xs.getD i.toNat z40
theorem at_T40 {w : World} {A : Option Addr} {n : Nat} {xs : List S40} (h : Kd.C k40 w A n xs) (i : Int) (h0 : 0 ≤ i) (h1 : i < n) : ∃ ad , A = some ad ∧ w.cell? (ad.add (i.toNat * 3)) = some (.int .i64 (rd_T40 xs i).f0) ∧ w.cell? ⟨(ad.add (i.toNat * 3)).block, (ad.add (i.toNat * 3)).off + 1, none⟩ = some (.int .i64 (rd_T40 xs i).f1) ∧ w.cell? ⟨(ad.add (i.toNat * 3)).block, (ad.add (i.toNat * 3)).off + 2, none⟩ = some (.bool (rd_T40 xs i).f2) := by
  obtain ⟨ad, c, e, _, hK, hc0⟩ := Kd.C_get h z40 i h0 h1
  have hc : ∀ j u, c[j]? = some u → w.cell? (ad.add (i.toNat * 3 + j)) = some u := hc0
  obtain rfl := k40_open hK
  exact ⟨ad, e, hc 0 _ rfl, by rw [← add_field _ _ 1 (by omega)]; exact hc 1 _ rfl, by rw [← add_field _ _ 2 (by omega)]; exact hc 2 _ rfl⟩
def rd_L5 (xs : List (List S40)) (i : Int) : (List S40) := xs.getD i.toNat ([] : List S40)
theorem at_L5 {w : World} {A : Option Addr} {n : Nat} {xs : List (List S40)} (h : Kd.C (Kd.slice 40 k40) w A n xs) (i : Int) (h0 : 0 ≤ i) (h1 : i < n) : ∃ ad A0 c0, A = some ad ∧ w.cell? (ad.add i.toNat) = some (.slice A0 (rd_L5 xs i).length c0) ∧ (rd_L5 xs i).length ≤ c0 ∧ k40.C w A0 (rd_L5 xs i).length (rd_L5 xs i) := by
  obtain ⟨ad, c, e, _, hK, hc0⟩ := Kd.C_get h ([] : List S40) i h0 h1
  have hc : ∀ j u, c[j]? = some u → w.cell? (ad.add (i.toNat * 1 + j)) = some u := hc0
  obtain ⟨A0, c0, rfl, l0, g0⟩ := hK
  exact ⟨ad, A0, c0, e, by have hq := hc 0 _ rfl; rwa [Nat.mul_one, Nat.add_zero] at hq, l0, g0⟩
def idxP {α : Type} (p : α → Bool) (l : List α) : Int := match l.findIdx? p with | some i => (i : Int) | none => -1
theorem idxP_hit {α : Type} {p : α → Bool} {l : List α} {k : Nat} {y : α} (hy : l[k]? = some y) (hp : p y = true) (hn : ∀ j x, j < k → l[j]? = some x → p x = false) : idxP p l = (k : Int) := by
  have hk : k < l.length := (List.getElem?_eq_some_iff.1 hy).1
  have e : l.findIdx? p = some k := by
    rw [List.findIdx?_eq_some_iff_getElem]
    refine ⟨hk, ?_, fun j hj => ?_⟩
    · rw [(List.getElem?_eq_some_iff.1 hy).2]; exact hp
    · have := hn j l[j] hj (List.getElem?_eq_getElem (by omega))
      simp [this]
  simp [idxP, e]
theorem idxP_miss {α : Type} {p : α → Bool} {l : List α} (h : ∀ x ∈ l, p x = false) : idxP p l = -1 := by
  have e : l.findIdx? p = none := by
    rw [List.findIdx?_eq_none_iff]
    exact h
  simp [idxP, e]
theorem idxP_nonneg {α : Type} (p : α → Bool) (l : List α) : decide (0 ≤ idxP p l) = l.any p := by
  unfold idxP
  cases e : l.findIdx? p with
  | none =>
    rw [List.findIdx?_eq_none_iff] at e
    have : l.any p = false := by rw [List.any_eq_false]; intro x hx; simp [e x hx]
    simp [this]
  | some i =>
    rw [List.findIdx?_eq_some_iff_getElem] at e
    obtain ⟨h, hp, _⟩ := e
    have : l.any p = true := List.any_eq_true.2 ⟨l[i], List.getElem_mem h, hp⟩
    simp [this]
end Go.Proofs.Ytcoepebmmgcplaa.G
end

section
namespace Go.Proofs.Ytcoepebmmgcplaa.G
open Go.RowKit Go.Proofs.YtcoepebmmgcplaaW.PrintWords Go.Proofs.YtcoepebmmgcplaaW.PrintLast Go.Proofs.YtcoepebmmgcplaaW.PrintMore
attribute [local go_sem] max2_int min2_int max_two min_two max_three min_three max_four min_four
set_option linter.unusedVariables false
set_option linter.unusedSimpArgs false
def impl_within.f (a0 : Int) (a1 : Int) (a2 : Int) : Option (Bool) := if a1 ≤ a0 then (some (decide (a0 ≤ a2))) else (some false)
set_option maxHeartbeats 8000000 in
set_option maxRecDepth 100000 in
theorem impl_within.calls (a0 : Int) (a1 : Int) (a2 : Int) (r : Bool) (w : World) (h : impl_within.f a0 a1 a2 = some r) :
  Calls Try.prog 23 #[.int .i64 a0,.int .i64 a1,.int .i64 a2] w fun e w' => e = .returned (.bool r) ∧ Drawn0 w w' := by
 have H : (if a1 ≤ a0 then (some (decide (a0 ≤ a2))) else (some false)) = some r := h;clear h
 by_cases c4 : a1 ≤ a0
 ·rw [if_pos c4] at H;have c4b0 : decide (a1 ≤ a0) = true := decide_eq_true c4;clear c4;obtain rfl := Option.some.inj H
  go_enter Try.func23,Try.ntmps23
  go_wp2
  go_ret
  exact ⟨by first | rfl | (simp only [IntKind.wrap_i64,wrap64];done) | (simp;done) | (simp [*];done),by repeat (first | exact Drawn0.refl _ | apply Drawn0.step)⟩
 ·rw [if_neg c4] at H;have c4b0 : decide (a1 ≤ a0) = false := decide_eq_false c4;clear c4;obtain rfl := Option.some.inj H
  go_enter Try.func23,Try.ntmps23
  go_wp2
  go_ret
  exact ⟨by first | rfl | (simp only [IntKind.wrap_i64,wrap64];done) | (simp;done) | (simp [*];done),by repeat (first | exact Drawn0.refl _ | apply Drawn0.step)⟩
end Go.Proofs.Ytcoepebmmgcplaa.G
end

section
namespace Go.Proofs.Ytcoepebmmgcplaa.G
open Go.RowKit Go.Proofs.YtcoepebmmgcplaaW.PrintWords Go.Proofs.YtcoepebmmgcplaaW.PrintLast Go.Proofs.YtcoepebmmgcplaaW.PrintMore
attribute [local go_sem] max2_int min2_int max_two min_two max_three min_three max_four min_four
set_option linter.unusedVariables false
set_option linter.unusedSimpArgs false
theorem run_clear_any {P : Program} {n : Nat} (w : World) (t e ty : TypeId) (z : Value) (ht : P.underlying t = some (.slice e)) (hv : ∀ w, (zeroValue e).run P w = .ok z w) (hz1 : ∀ u ∈ (Builtin.zeroCells z.cells n).toList, u.oneCell' = true) (b o c : Nat) (hn : 0 < n)
    (hc : ∀ j, j < (Builtin.zeroCells z.cells n).toList.length → (w.cell? ⟨b, o + j, none⟩).isSome = true) (hf : ∀ j, j < (Builtin.zeroCells z.cells n).toList.length → w.frozen? ⟨b, o + j, none⟩ = false) :
    (Builtin.clear_ #[t] ty #[.slice (some ⟨b, o, none⟩) n c]).run P w = .ok (.tuple #[]) (w.setCells b o (Builtin.zeroCells z.cells n).toList) := by
  have hst := run_storeCells_cells (P := P) b o (Builtin.zeroCells z.cells n).toList 0 w (by simpa using hc) (by simpa using hf) hz1
  simp only [Nat.add_zero] at hst
  obtain ⟨m, rfl⟩ : ∃ m, n = m + 1 := ⟨n - 1, by omega⟩
  simp [Builtin.clear_, run_underlying ht, hv, hst]
theorem zeroCells_len (cs : Array Value) (n : Nat) : (Builtin.zeroCells cs n).toList.length = n * cs.size := by
  simp [Builtin.zeroCells]
theorem R_beyond {α : Type} {d : Kd α} {e : Nat} {w : World} {base : Nat} {ok : Nat → Prop} {g m c : Nat} {xs : List α} (h : d.R e w base ok (.slice (some ⟨g, 0, none⟩) m c) xs) (news : List Value) (o : Nat) (ho : m * d.sz ≤ o) (hfit : o + news.length ≤ c * d.sz) :
    d.R e (w.setCells g o news) base ok (.slice (some ⟨g, 0, none⟩) m c) xs ∧ w.grownBy (w.setCells g o news) (some g) := by
  obtain ⟨hn, hnc, _⟩ := Kd.R_reads' h
  obtain ⟨hok, inner, hown, hr⟩ := h
  have hin : inner.length = m * d.sz := by rw [hr.1, hn]
  rcases hown.2 with ⟨hv, _⟩ | ⟨g', cap', cur, hv, hb, hh, hle, hcm, hcs, htake⟩
  · cases hv
  injection hv with ha _ hc
  injection ha with ha
  injection ha with hg
  subst hg; subst hc
  rw [← hn] at htake
  have hnc' : m * d.sz ≤ c * d.sz := Nat.mul_le_mul_right _ hnc
  obtain ⟨cur', h3, h4, h5⟩ := setCells_row news o w cur hh (by rw [hcs]; exact hfit)
  obtain ⟨s1, s2, s3, s4⟩ := setCells_same g news o w
  have hfar : ∀ k', k' ≠ g → (w.setCells g o news).heap[k']? = w.heap[k']? := fun k' hk' => setCells_far news _ k' hk'
  have htl : cur'.toList.take (m * d.sz) = inner := by
    rw [h5, List.append_assoc, List.take_append_of_le_length (by rw [List.length_take, Array.length_toList, hcs]; omega), List.take_take, Nat.min_eq_left ho, htake]
  refine ⟨⟨hok, inner, ⟨hown.1, .inr ⟨g, c, cur', by rw [hn], hb, h3, hle, hcm, by rw [h4, hcs], by rw [← hn]; exact htl⟩⟩, hr.imp_ (fun p q hp => d.M_move (fun k' hk' => hfar k' (fun he => hk'.2 (by rw [he]; simp [Value.ownBlock]))) hp)⟩, ⟨s1, s2, s3, by rw [s4]; exact Nat.le_refl _, fun k' _ hk' => hfar k' (fun he => hk' (by rw [he]))⟩⟩
theorem R_cleared {α : Type} {P : Program} {d : Kd α} {e : Nat} {w : World} {base : Nat} {ok : Nat → Prop} {g m c n : Nat} {xs : List α} (h : d.R e w base ok (.slice (some ⟨g, 0, none⟩) m c) xs) (t ty : TypeId) (z : Value) (ht : P.underlying t = some (.slice e)) (hv : ∀ w, (zeroValue e).run P w = .ok z w) (hzs : z.cells.size = d.sz)
    (hz1 : ∀ u ∈ (Builtin.zeroCells z.cells n).toList, u.oneCell' = true) (hn : 0 < n) (hfit : m + n ≤ c) :
    ∃ w1, (Builtin.clear_ #[t] ty #[.slice (some ⟨g, m * d.sz, none⟩) n (c - m)]).run P w = .ok (.tuple #[]) w1 ∧ d.R e w1 base ok (.slice (some ⟨g, 0, none⟩) m c) xs ∧ w.grownBy w1 (some g) := by
  have hfit' : m * d.sz + n * d.sz ≤ c * d.sz := by rw [← Nat.add_mul]; exact Nat.mul_le_mul_right _ hfit
  have hl : (Builtin.zeroCells z.cells n).toList.length = n * d.sz := by rw [zeroCells_len, hzs]
  obtain ⟨hx, _⟩ := Kd.R_own h
  obtain ⟨inner, hown, hr⟩ := h.2
  rcases hown.2 with ⟨hv', _⟩ | ⟨g', cap', cur, hv', hb, hh, hle, hcm, hcs, htake⟩
  · cases hv'
  injection hv' with ha _ hc
  injection ha with ha
  injection ha with hg
  subst hg; subst hc
  have hb2 := R_beyond h (Builtin.zeroCells z.cells n).toList (m * d.sz) (Nat.le_refl _) (by rw [hl]; exact hfit')
  refine ⟨_, run_clear_any w t e ty z ht hv hz1 g (m * d.sz) (c - m) hn (fun j hj => ?_) (fun j hj => blk_frozen hh _), hb2.1, hb2.2⟩
  rw [hl] at hj
  rw [cell_of_row w g _ cur e (0, 0) hh, Array.getElem?_eq_getElem (by omega)]
  rfl
end Go.Proofs.Ytcoepebmmgcplaa.G
end

section
namespace Go.Proofs.Ytcoepebmmgcplaa.G
open Go.RowKit Go.Proofs.YtcoepebmmgcplaaW.PrintWords Go.Proofs.YtcoepebmmgcplaaW.PrintLast Go.Proofs.YtcoepebmmgcplaaW.PrintMore
attribute [local go_sem] max2_int min2_int max_two min_two max_three min_three max_four min_four
set_option linter.unusedVariables false
set_option linter.unusedSimpArgs false
def slices_Delete_int_int.f (l0 : List (Int)) (a1 : Int) (a2 : Int) : Option (List (Int)) := if 0 ≤ a1 ∧ a1 < (l0.length : Int) ∧ a2 = a1 + 1 then some (l0.eraseIdx a1.toNat) else none
set_option maxHeartbeats 4000000 in
set_option maxRecDepth 20000 in
theorem slices_Delete_int_int.calls (P0_ : Nat → Prop) (u9000_ : Value) (l0 : List (Int)) (a1 : Int) (a2 : Int) (r : List (Int)) (w0 w : World) (hB : Below w0.heap.size w0 w) (ho0 : Kd.R (Kd.int .i64) 3 w w0.heap.size P0_ u9000_ l0) (h : slices_Delete_int_int.f l0 a1 a2 = some r) :
  Calls Try.prog 60 #[u9000_,.int .i64 a1,.int .i64 a2] w fun e w' => ∃ v0_ : Value,e = .returned (v0_) ∧ Kd.R (Kd.int .i64) 3 w' w0.heap.size (fun k_ => (P0_ k_ ∨ w.heap.size ≤ k_)) v0_ r ∧ Below w0.heap.size w0 w' ∧ Kept w w' (fun k_ => P0_ k_) := by
 unfold slices_Delete_int_int.f at h
 by_cases hq : 0 ≤ a1 ∧ a1 < (l0.length : Int) ∧ a2 = a1 + 1
 ·rw [if_pos hq] at h;obtain rfl := Option.some.inj h;obtain ⟨h0,h1,rfl⟩ := hq;clear h;obtain ⟨k,rfl⟩ : ∃ k : Nat,a1 = (k : Int) := ⟨a1.toNat,by omega⟩
  have hk : k < l0.length := by omega
  obtain ⟨g,c,rfl,hbg,hg,cells,hcells⟩ := Kd.R_form ho0 (by omega);obtain ⟨_,hc,hC⟩ := Kd.R_reads' ho0;have hl : l0.length ≤ 9223372036854775807 := hC.2.1;have HO := Aside0.mk ho0;have HB := Aside0.mk hB;clear ho0 hB hC hcells
  go_enter Try.func60,Try.ntmps60
  go_wp2
  have hinfo : (Try.prog.info? 3).map (·.size) = some ((Kd.int .i64)).sz := by kernel_rfl
  have ht := Try.underlying53
  have hA0 : (if c = k + 1 then some (⟨g,0,none⟩ : Addr) else some ⟨g,k + 1,none⟩) = if c = k + 1 then some (⟨g,0,none⟩ : Addr) else (some (⟨g,0,none⟩ : Addr)).map (·.add ((k + 1) * ((Kd.int .i64)).sz)) := by
   rw [show ((Kd.int .i64)).sz = 1 from rfl]
   simp [Addr.add]
  have HA0 := Aside0.mk hA0;clear hA0
  have hkc : k ≤ c := by omega
  have hz1 : ((0 : Int) ≤ (k : Int) + 1) = True := eq_true (by omega);have hz2 : ((k : Int) + 1 ≤ (l0.length : Int)) = True := eq_true (by omega)
  go_region_law (refine Kd.R_delete_step ((Kd.int .i64)) (w0 := w0) w0.heap.size (by rfl) (.tmp 22) (.tmp 25) 53 3 rfl ht hinfo (c := c) (k := k) (n := l0.length) rfl rfl HA0.out rfl (Kd.R_drew HO.out) hk (below_drew1 HB.out) HB.out.size ?_;intro w1 ho1 hb1 hg1)
  obtain ⟨m,hm⟩ : ∃ m,l0.length = m + 1 := ⟨l0.length - 1,by omega⟩
  have hmm : l0.length - 1 = m := by omega
  rw [hmm] at ho1 ⊢;have hcm : (c = m) = False := eq_false (by omega);have hcm1 : ((m : Int) + 1 ≤ (c : Int)) = True := eq_true (by omega);have hcm2 : (m + 1 ≤ c) = True := eq_true (by omega);obtain ⟨w2,hcl,ho2,hg2⟩ := R_cleared (P := Try.prog) (n := 1) ho1 53 0 (.int .i64 0) ht (fun w => by kernel_rfl) rfl (List.all_eq_true.1 (by kernel_rfl)) (by decide) (by omega);rw [show m * ((Kd.int .i64)).sz = m from Nat.mul_one m] at hcl;have HO2 := Aside0.mk ho2;have HB1 := Aside0.mk hb1;have HG1 := Aside0.mk hg1;have HG2 := Aside0.mk hg2;clear ho1 hb1 hg1 ho2 hg2
  rename_i hK hT
  refine hK _ _ ?_;rw [hm];clear hz2 h1 hk hl hmm hK hT;go_simp;generalize (if c = k + 1 then (some (⟨g,0,none⟩ : Addr)) else some ⟨g,k + 1,none⟩) = ax at ⊢;have hbg' := Aside0.mk hbg;clear hinfo HA0 hkc hz1 hc hg hbg
  go_wp2
  go_ret
  refine ⟨_,rfl,Kd.R_mono HO2.out (fun _ hk => .inl hk),HB1.out.grown HG2.out HB1.out.size (fun k hk => ?_),Kept.of_grown HG2.out (Kept.of_grown HG1.out (Kept.drew (Kept.refl w _)) ?_) ?_⟩
  ·injection hk with hk
   subst hk;exact hbg'.out
  ·intro k hk
   injection hk with hk
   subst hk;exact .inl (HO.out.1 _ (by simp [Value.ownBlock]))
  ·intro k hk
   injection hk with hk
   subst hk;exact .inl (HO.out.1 _ (by simp [Value.ownBlock]))
 ·rw [if_neg hq] at h;cases h
end Go.Proofs.Ytcoepebmmgcplaa.G
end

section
namespace Go.Proofs.Ytcoepebmmgcplaa.G
open Go.RowKit Go.Proofs.YtcoepebmmgcplaaW.PrintWords Go.Proofs.YtcoepebmmgcplaaW.PrintLast Go.Proofs.YtcoepebmmgcplaaW.PrintMore
attribute [local go_sem] max2_int min2_int max_two min_two max_three min_three max_four min_four
set_option linter.unusedVariables false
set_option linter.unusedSimpArgs false
set_option maxHeartbeats 2000000 in
theorem slices_IndexFunc_int_int.calls (A0 : Option Addr) (c0 : Nat) (l0 : List (Int)) (g : Nat) (lb : Array Value) (eg : ∀ args w,(callFunc g args).run Try.prog w = .ok (.enter g args) w) (p : Int → Bool) (w : World)
  (hr0 : Kd.C (Kd.int .i64) w A0 l0.length l0) (hc0 : l0.length ≤ c0)
  (hp : ∀ W,Below w.heap.size w W → ∀ x ∈ l0,Calls Try.prog g (#[.int .i64 x] ++ lb) W fun e w' => e = .returned (.bool (p x)) ∧ Below w.heap.size w w') :
  Calls Try.prog 58 #[.slice A0 l0.length c0,.func (.func g) #[] lb] w fun e w' => e = .returned (.int .i64 (idxP p l0)) ∧ Below w.heap.size w w' := by
 have hl : l0.length ≤ 9223372036854775807 := hr0.2.1;have HR0 := Aside0.mk hr0;have HP := Aside0.mk hp;clear hr0 hp;generalize hn : l0.length = n at *;have Hn := Aside0.mk hn;clear hn
 go_enter Try.func58,Try.ntmps58
 go_wp2
 go_loopg [5,8] n (fun gg _ s8 wr => ∃ kk : Nat,kk ≤ n ∧ n - kk ≤ gg ∧ s8 = .int .i64 kk ∧ Aside0 (Below w.heap.size w wr) ∧ Aside0 (∀ j x,j < kk → l0[j]? = some x → p x = false))
 case atStart => exact ⟨0,Nat.zero_le _,by omega,rfl,⟨Below.refl _ w⟩,⟨fun j _ hj => absurd hj (Nat.not_lt_zero _)⟩⟩
 case round =>
  obtain ⟨kk,hkk,hg,rfl,BW,AF⟩ := hrel
  by_cases hlt : kk < n
  ·have hltz : (kk : Int) < (n : Int) := by omega
   obtain ⟨ad,e0,hx0⟩ := Kd.at_int HR0.out (kk : Int) (by omega) (by omega);cases e0;simp only [Int.toNat_natCast] at hx0;(try rw [show ((Kd.int .i64)).sz = 1 from rfl,Nat.mul_one,Nat.add_zero] at hx0);replace hx0 := (BW.out.cell (World.block_lt_of_cell? w _ hx0)).trans hx0
   have hm : l0[kk]? = some (rd l0 (kk : Int)) := by
    have h1 : kk < l0.length := by rw [Hn.out];exact hlt
    simp [rd,List.getD_eq_getElem?_getD,List.getElem?_eq_getElem h1]
   have hcall := HP.out wr BW.out (rd l0 (kk : Int)) (List.mem_of_getElem? hm);generalize hy : rd l0 (kk : Int) = y at *;clear hy;have HM := Aside0.mk hm;clear hm
   cases hq : p y with
   | true =>
    rw [hq] at hcall;have HQ := Aside0.mk hq;clear hq
    go_wp2_with (go_at_fn g;refine hcall.mono ?_;rintro e w' ⟨rfl,hb'⟩)
    go_ret
    refine ⟨?_,hb'⟩;rw [idxP_hit HM.out HQ.out AF.out];rfl
   | false =>
    rw [hq] at hcall;have HQ := Aside0.mk hq;clear hq
    go_wp2_with (go_at_fn g;refine hcall.mono ?_;rintro e w' ⟨rfl,hb'⟩)
    go_roundg (n - (kk + 1))
    case measure => omega
    case rel =>
     refine ⟨kk + 1,by omega,by omega,by go_num,⟨hb'⟩,⟨fun j x hj hx => ?_⟩⟩
     by_cases e : j = kk
     ·subst e;rw [HM.out] at hx;cases hx;exact HQ.out
     ·exact AF.out j x (by omega) hx
  ·have hltz : ¬ (kk : Int) < (n : Int) := by omega
   have : kk = n := by omega
   subst this
   go_wp2
   go_ret
   refine ⟨?_,BW.out⟩
   rw [idxP_miss (fun x hx => by
    obtain ⟨j,hj,rfl⟩ := List.mem_iff_getElem.1 hx
    exact AF.out j _ (by rw [← Hn.out];exact hj) (List.getElem?_eq_getElem hj))]
   rfl
end Go.Proofs.Ytcoepebmmgcplaa.G
end

section
namespace Go.Proofs.Ytcoepebmmgcplaa.G
open Go.RowKit Go.Proofs.YtcoepebmmgcplaaW.PrintWords Go.Proofs.YtcoepebmmgcplaaW.PrintLast Go.Proofs.YtcoepebmmgcplaaW.PrintMore
attribute [local go_sem] max2_int min2_int max_two min_two max_three min_three max_four min_four
set_option linter.unusedVariables false
set_option linter.unusedSimpArgs false
theorem impl_Log_up.test (b1 b2 : Nat) (A0 : Option Addr) (c0 : Nat) (l0 : List (S40)) (x : S40) (n : Int) (m : Nat) (w : World) (h1 : w.heap[b1]? = some (.cells #[.slice A0 m c0] 25 (0,0))) (h2 : w.heap[b2]? = some (.cells #[.int .i64 x.f0,.int .i64 x.f1,.bool x.f2] 40 (0,0)))
  (hr0 : Kd.C k40 w A0 m l0) (h0 : 0 ≤ n) (hn : n < (m : Int)) :
  Calls Try.prog 59 (#[.int .i64 n] ++ #[.pointer (some ⟨b1,0,none⟩),.pointer (some ⟨b2,0,none⟩)]) w fun e w' => e = .returned (.bool ((rd_T40 l0 n).f1 == x.f1)) ∧ Below w.heap.size w w' := by
 rw [show (#[.int .i64 n] ++ #[.pointer (some ⟨b1,0,none⟩),.pointer (some ⟨b2,0,none⟩)] : Array Value) = #[.int .i64 n,.pointer (some ⟨b1,0,none⟩),.pointer (some ⟨b2,0,none⟩)] from rfl];obtain ⟨ad,e0,hx0,hx1,hx2⟩ := at_T40 hr0 n h0 hn;cases e0;have c1 : w.cell? ⟨b1,0,none⟩ = some (.slice (some ad) m c0) := (blk_cell h1 0).trans rfl;have c2 : w.cell? ⟨b2,1,none⟩ = some (.int .i64 x.f1) := (blk_cell h2 1).trans rfl;clear h1 h2 hr0 hx0 hx2;replace h0 := eq_true h0;replace hn := eq_true hn;generalize rd_T40 l0 n = y at *
 go_enter Try.func59,Try.ntmps59
 go_wp2
 go_region
 rename_i hK
 refine hK _ _ ?_
 go_wp2
 go_ret
 exact ⟨rfl,below_drew1 (Below.refl _ _)⟩
theorem impl_Log_up.within (n lo hi : Int) : impl_within.f n lo hi = some (decide (lo ≤ n) && decide (n ≤ hi)) := by
 unfold impl_within.f
 split <;> simp [*]
theorem impl_Log_up.stored {w W : World} {gb1 gb2 : Nat} {c1 : Value} {u : Nat → Prop} {v : Value} {out : List Int} (a b : Value) (d : Value) (HO : Kd.R (Kd.int .i64) 3 W w.heap.size u v out) (HB : Below w.heap.size w W) (BK1 : W.heap[gb1]? = some (.cells #[c1] 25 (0,0)))
  (BK2 : W.heap[gb2]? = some (.cells #[.int .i64 0,.int .i64 0,.bool false] 40 (0,0))) (GE : w.heap.size ≤ gb2) :
  Kd.R (Kd.int .i64) 3 (((W.setCell ⟨gb2,0,none⟩ a).setCell ⟨gb2,1,none⟩ b).setCell ⟨gb2,2,none⟩ d) w.heap.size u v out ∧ Below w.heap.size w (((W.setCell ⟨gb2,0,none⟩ a).setCell ⟨gb2,1,none⟩ b).setCell ⟨gb2,2,none⟩ d) ∧
  (((W.setCell ⟨gb2,0,none⟩ a).setCell ⟨gb2,1,none⟩ b).setCell ⟨gb2,2,none⟩ d).heap[gb1]? = some (.cells #[c1] 25 (0,0)) ∧
  (((W.setCell ⟨gb2,0,none⟩ a).setCell ⟨gb2,1,none⟩ b).setCell ⟨gb2,2,none⟩ d).heap[gb2]? = some (.cells #[a,b,d] 40 (0,0)) := by
 have hne := blk_ne BK1 BK2 (by decide);refine ⟨Kd.R_mono (Kd.R_far (p := ⟨gb2,2,none⟩) (Kd.R_far (p := ⟨gb2,1,none⟩) (Kd.R_far (p := ⟨gb2,0,none⟩) (Kd.R_types HO BK2 (by decide)) (fun _ hk => hk.2) a) (fun _ hk => hk.2) b) (fun _ hk => hk.2) d) (fun _ h => h.1),below_set (below_set (below_set HB GE) GE) GE,blk_far (blk_far (blk_far BK1 hne _) hne _) hne _,?_⟩;exact blk_put (cs := #[a,b,.bool false]) (blk_put (cs := #[a,.int .i64 0,.bool false]) (blk_put (cs := #[.int .i64 0,.int .i64 0,.bool false]) BK2 0 _ rfl) 1 _ rfl) 2 _ rfl
theorem impl_Log_up.idx_lt {α : Type} (p : α → Bool) (l : List α) : idxP p l < (l.length : Int) ∧ -1 ≤ idxP p l := by
 unfold idxP
 cases e : l.findIdx? p with
 | none => simp only;omega
 | some i =>
  rw [List.findIdx?_eq_some_iff_getElem] at e;obtain ⟨h,_⟩ := e;simp only
  omega
def impl_Log_up.good (b : Int) (x : S40) : Bool := (decide (b ≤ x.f0) && decide (x.f0 ≤ 100000)) && (decide (0 ≤ x.f1) && decide (x.f1 ≤ 9999))
def impl_Log_up.at (l : List (S40)) (x : S40) (out : List Int) : Int := idxP (fun n => (rd_T40 l n).f1 == x.f1) out
def impl_Log_up.step (l : List (S40)) (i : Nat) (s : Int × List Int) : Option (Int × List Int) :=
 if impl_Log_up.good s.1 (rd_T40 l (i : Int)) = false then none else
 if decide (impl_Log_up.at l (rd_T40 l (i : Int)) s.2 < 0) = (rd_T40 l (i : Int)).f2 then none else
 if (rd_T40 l (i : Int)).f2 = true then some ((rd_T40 l (i : Int)).f0,s.2.eraseIdx (impl_Log_up.at l (rd_T40 l (i : Int)) s.2).toNat) else some ((rd_T40 l (i : Int)).f0,s.2 ++ [(i : Int)])
def impl_Log_up.to (l : List (S40)) : Nat → Option (Int × List Int)
 | 0 => some (0,[])
 | n + 1 => (impl_Log_up.to l n).bind (impl_Log_up.step l n)
theorem impl_Log_up.to_none {l : List (S40)} {i n : Nat} (h : impl_Log_up.to l i = none) (hi : i ≤ n) : impl_Log_up.to l n = none := by
 induction n with
 | zero =>
  obtain rfl : i = 0 := by omega
  exact h
 | succ n ih =>
  rcases Nat.lt_or_ge i (n + 1) with h1 | h1
  ·rw [impl_Log_up.to,ih (by omega)];rfl
  ·obtain rfl : i = n + 1 := by omega
   exact h
theorem impl_Log_up.to_in {l : List (S40)} {n : Nat} {s : Int × List Int} (h : impl_Log_up.to l n = some s) : s.2.length ≤ n ∧ ∀ x ∈ s.2,0 ≤ x ∧ x < (n : Int) := by
 induction n generalizing s with
 | zero =>
  cases h
  simp
 | succ n ih =>
  rw [impl_Log_up.to] at h;obtain ⟨s0,h0,h1⟩ := Option.bind_eq_some_iff.1 h;obtain ⟨i1,i2⟩ := ih h0
  unfold impl_Log_up.step at h1
  split at h1
  ·cases h1
  ·split at h1
   ·cases h1
   ·split at h1
    ·cases h1;refine ⟨?_,fun x hx => ?_⟩
     ·have := List.length_eraseIdx_le (l := s0.2) (i := (impl_Log_up.at l (rd_T40 l (n : Int)) s0.2).toNat);simp only
      omega
     ·have := i2 x (List.mem_of_mem_eraseIdx hx)
      omega
    ·cases h1;refine ⟨by simp;omega,fun x hx => ?_⟩;simp only [List.mem_append,List.mem_singleton] at hx
     rcases hx with hx | rfl
     ·have := i2 x hx
      omega
     ·omega
def impl_Log_up.f (l0 : List (S40)) : Option (List Int × Bool) := if l0.length ≤ 1048576 then some (match impl_Log_up.to l0 l0.length with | none => ([],false) | some s => (s.2,decide ((l0.length : Int) ≤ 60))) else none
set_option maxHeartbeats 8000000 in
set_option maxRecDepth 100000 in
theorem impl_Log_up.calls (A0 : Option Addr) (c0 : Nat) (l0 : List (S40)) (r1 : List Int) (r2 : Bool) (w : World) (hr0 : Kd.C k40 w A0 l0.length l0) (hc0 : l0.length ≤ c0) (h : impl_Log_up.f l0 = some (r1,r2)) :
  Calls Try.prog 45 #[.slice A0 l0.length c0] w fun e w' => ∃ v0_ : Value,e = .returned (.tuple #[v0_,.bool r2]) ∧ Kd.R (Kd.int .i64) 3 w' w.heap.size (fun _ => True) v0_ r1 ∧ Below w.heap.size w w' := by
 unfold impl_Log_up.f at h
 by_cases hL : l0.length ≤ 1048576
 ·rw [if_pos hL] at h;have h := Option.some.inj h;have hu := Try.underlying40;have eg := enters_of Try.func59 (by kernel_rfl) rfl;have HR0 := Aside0.mk hr0;have HC0 := Aside0.mk hc0;have HB := Aside0.mk (Below.refl w.heap.size w);have HH := Aside0.mk h;have HLn := Aside0.mk hL;clear hr0 h hL;generalize hn : l0.length = n at *;have Hn := Aside0.mk hn;clear hn
  go_enter Try.func45,Try.ntmps45
  go_wp2_with ((with_reducible refine gate_dst (N := 9) rfl ?_);refine Kd.R_lit (Kd.int .i64) _ 3 ?hg (N := 9) ?hd (xs := ([] : List Int)) (inner := []) (ok := fun k_ => k_ ≠ w.heap.size) (okp := fun k_ => k_ ≠ w.heap.size) ?hr ?hp (fun _ hk => hk) (by simp) (Below.refl _ _) (Nat.le_refl _) (by simp) ?_;(case hd => rfl);(case hg => rfl);(case hr => first | (go_simp;done) | (go_simp;rfl));(case hp => exact (Reps.none _ _));intro v1 w1 ho1 hb1 hg_ hnew_;clear hg_ hnew_;have HO1 := Aside0.mk (Kd.R_lower ho1 (by simp : w.heap.size ≤ _));have HB1 := Aside0.mk (below_step (below_alloc (Below.refl _ w) _) hb1);have BK1 := Aside0.mk (blk_below (blk_new w _) hb1);clear ho1 hb1;have hz1 : w1.cell? ⟨w.heap.size,0,none⟩ = some (.slice A0 n c0) := (blk_cell BK1.out 0).trans rfl)
  go_loopg [4,5,12] n (fun gg s4 s5 s12 wr => ∃ (kk : Nat) (b : Int) (out : List Int),kk ≤ n ∧ n - kk ≤ gg ∧ s12 = .int .i64 kk ∧ s5 = .int .i64 b ∧ Aside0 (impl_Log_up.to l0 kk = some (b,out)) ∧ Aside0 (Kd.R (Kd.int .i64) 3 wr w.heap.size (fun k_ => k_ ≠ w.heap.size) s4 out) ∧ Aside0 (Below w.heap.size w wr) ∧ Aside0 (wr.heap[w.heap.size]? = some (.cells #[.slice A0 n c0] 25 (0,0))))
  case atStart => exact ⟨0,0,[],Nat.zero_le _,by omega,rfl,rfl,⟨rfl⟩,HO1,HB1,BK1⟩
  case round =>
   obtain ⟨kk,b,out,hkk,hg,rfl,rfl,HT,HO,HB2,BK⟩ := hrel;obtain ⟨Ao,co,rfl⟩ := Kd.R_slice HO.out
   by_cases hlt : kk < n
   ·have hltz : (kk : Int) < (n : Int) := by omega
    obtain ⟨ad,e0,hx0,hx1,hx2⟩ := at_T40 HR0.out (kk : Int) (by omega) (by omega);cases e0;simp only [Int.toNat_natCast] at hx0 hx1 hx2;replace hx0 := (HB2.out.cell (World.block_lt_of_cell? w _ hx0)).trans hx0;replace hx1 := (HB2.out.cell (World.block_lt_of_cell? w _ hx1)).trans hx1;replace hx2 := (HB2.out.cell (World.block_lt_of_cell? w _ hx2)).trans hx2;have HS : Aside0 (impl_Log_up.to l0 (kk + 1) = impl_Log_up.step l0 kk (b,out)) := ⟨by rw [impl_Log_up.to,HT.out];rfl⟩;have HI := Aside0.mk (impl_Log_up.to_in HT.out);generalize hx : rd_T40 l0 (kk : Int) = x at *;have HX := Aside0.mk hx;have HW1 := Aside0.mk (impl_Log_up.within x.f0 b 100000);have HW2 := Aside0.mk (impl_Log_up.within x.f1 0 9999);have HR2 := Aside0.mk (Kd.C_below HR0.out HB2.out)
    have hfail : Aside0 (impl_Log_up.to l0 (kk + 1) = none → r1 = [] ∧ r2 = false) := ⟨fun h0 => by
     have := HH.out;rw [impl_Log_up.to_none h0 (by omega)] at this;simp only [Prod.mk.injEq] at this
     exact ⟨this.1.symm,this.2.symm⟩⟩
    clear hx
    cases hb1 : (decide (b ≤ x.f0) && decide (x.f0 ≤ 100000)) with
    | false =>
     rw [hb1] at HW1;have h0 := hfail.out (by rw [HS.out];simp only [impl_Log_up.step,HX.out];rw [if_pos (by simp only [impl_Log_up.good];rw [hb1];rfl)]);obtain ⟨rfl,rfl⟩ := h0;clear hb1
     go_wp2_with (first | ((with_reducible refine gate_dst (N := 7) rfl ?_);refine box_event ?hg (N := 7) ?hd (cs := #[.int .i64 0,.int .i64 0,.bool false]) (t := 40) ?hr ?_;(case hd => rfl);(case hg => rfl);(case hr => first | (go_simp;done) | (go_simp;rfl));intro gb2 hg2 w8 hbox hb8;have HO8 := Aside0.mk (Kd.R_below HO.out hb8);have HB8 := Aside0.mk (below_step HB2.out hb8);have BK8 := Aside0.mk (blk_below BK.out hb8);have BE8 := Aside0.mk hbox;have GE8 := Aside0.mk (show w.heap.size ≤ gb2 by rw [hg2];exact HB2.out.size);have ST8 := Aside0.mk (impl_Log_up.stored (.int .i64 x.f0) (.int .i64 x.f1) (.bool x.f2) HO8.out HB8.out BK8.out BE8.out GE8.out);have hcz0 : w8.cell? ⟨gb2,0,none⟩ = some (.int .i64 0) := (blk_cell BE8.out 0).trans rfl;have hcz1 : w8.cell? ⟨gb2,1,none⟩ = some (.int .i64 0) := (blk_cell BE8.out 1).trans rfl;have hcz2 : w8.cell? ⟨gb2,2,none⟩ = some (.bool false) := (blk_cell BE8.out 2).trans rfl;have hfz0 := blk_frozen BE8.out 0;have hfz1 := blk_frozen BE8.out 1;have hfz2 := blk_frozen BE8.out 2;clear hb8 hbox hg2) | (go_at_call 23;(with_reducible refine (impl_within.calls _ _ _ _ _ HW1.out).mono ?_);rintro e w9 ⟨rfl,hd9⟩;have HB9 := Aside0.mk (below_step ST8.out.2.1 hd9.below);have HO9 := Aside0.mk (Kd.R_below ST8.out.1 hd9.below);have BK9 := Aside0.mk (blk_below ST8.out.2.2.1 hd9.below);have BE9 := Aside0.mk (blk_below ST8.out.2.2.2 hd9.below);have hc0 : w9.cell? ⟨gb2,0,none⟩ = some (.int .i64 x.f0) := (blk_cell BE9.out 0).trans rfl;have hc1 : w9.cell? ⟨gb2,1,none⟩ = some (.int .i64 x.f1) := (blk_cell BE9.out 1).trans rfl;have hc2 : w9.cell? ⟨gb2,2,none⟩ = some (.bool x.f2) := (blk_cell BE9.out 2).trans rfl;clear hd9))
     go_ret2
     exact ⟨_,rfl,Kd.R_nil _ _ _ _ _,HB9.out⟩
    | true =>
     rw [hb1] at HW1
     cases hb2 : (decide (0 ≤ x.f1) && decide (x.f1 ≤ 9999)) with
     | false =>
      rw [hb2] at HW2;have h0 := hfail.out (by rw [HS.out];simp only [impl_Log_up.step,HX.out];rw [if_pos (by simp only [impl_Log_up.good];rw [hb1,hb2];rfl)]);obtain ⟨rfl,rfl⟩ := h0;clear hb1 hb2
      go_wp2_with (first | ((with_reducible refine gate_dst (N := 7) rfl ?_);refine box_event ?hg (N := 7) ?hd (cs := #[.int .i64 0,.int .i64 0,.bool false]) (t := 40) ?hr ?_;(case hd => rfl);(case hg => rfl);(case hr => first | (go_simp;done) | (go_simp;rfl));intro gb2 hg2 w8 hbox hb8;have HO8 := Aside0.mk (Kd.R_below HO.out hb8);have HB8 := Aside0.mk (below_step HB2.out hb8);have BK8 := Aside0.mk (blk_below BK.out hb8);have BE8 := Aside0.mk hbox;have GE8 := Aside0.mk (show w.heap.size ≤ gb2 by rw [hg2];exact HB2.out.size);have ST8 := Aside0.mk (impl_Log_up.stored (.int .i64 x.f0) (.int .i64 x.f1) (.bool x.f2) HO8.out HB8.out BK8.out BE8.out GE8.out);have hcz0 : w8.cell? ⟨gb2,0,none⟩ = some (.int .i64 0) := (blk_cell BE8.out 0).trans rfl;have hcz1 : w8.cell? ⟨gb2,1,none⟩ = some (.int .i64 0) := (blk_cell BE8.out 1).trans rfl;have hcz2 : w8.cell? ⟨gb2,2,none⟩ = some (.bool false) := (blk_cell BE8.out 2).trans rfl;have hfz0 := blk_frozen BE8.out 0;have hfz1 := blk_frozen BE8.out 1;have hfz2 := blk_frozen BE8.out 2;clear hb8 hbox hg2) | (go_at_call 23;(with_reducible refine (impl_within.calls _ _ _ _ _ HW1.out).mono ?_);rintro e w9 ⟨rfl,hd9⟩;have HB9 := Aside0.mk (below_step ST8.out.2.1 hd9.below);have HO9 := Aside0.mk (Kd.R_below ST8.out.1 hd9.below);have BK9 := Aside0.mk (blk_below ST8.out.2.2.1 hd9.below);have BE9 := Aside0.mk (blk_below ST8.out.2.2.2 hd9.below);have hc0 : w9.cell? ⟨gb2,0,none⟩ = some (.int .i64 x.f0) := (blk_cell BE9.out 0).trans rfl;have hc1 : w9.cell? ⟨gb2,1,none⟩ = some (.int .i64 x.f1) := (blk_cell BE9.out 1).trans rfl;have hc2 : w9.cell? ⟨gb2,2,none⟩ = some (.bool x.f2) := (blk_cell BE9.out 2).trans rfl;clear hd9) | (go_at_call 23;(with_reducible refine (impl_within.calls _ _ _ _ _ HW2.out).mono ?_);rintro e w10 ⟨rfl,hd10⟩;have HB10 := Aside0.mk (below_step HB9.out hd10.below);have HO10 := Aside0.mk (Kd.R_below HO9.out hd10.below);have BK10 := Aside0.mk (blk_below BK9.out hd10.below);have BE10 := Aside0.mk (blk_below BE9.out hd10.below);have hd0 : w10.cell? ⟨gb2,0,none⟩ = some (.int .i64 x.f0) := (blk_cell BE10.out 0).trans rfl;have hd1 : w10.cell? ⟨gb2,1,none⟩ = some (.int .i64 x.f1) := (blk_cell BE10.out 1).trans rfl;have hd2 : w10.cell? ⟨gb2,2,none⟩ = some (.bool x.f2) := (blk_cell BE10.out 2).trans rfl;clear hd10))
      go_ret2
      exact ⟨_,rfl,Kd.R_nil _ _ _ _ _,HB10.out⟩
     | true =>
      rw [hb2] at HW2;have HKA : Aside0 (idxP (fun n => (rd_T40 l0 n).f1 == x.f1) out = impl_Log_up.at l0 x out) := ⟨rfl⟩;have hkb := impl_Log_up.idx_lt (fun n => (rd_T40 l0 n).f1 == x.f1) out;rw [HKA.out] at hkb;have HG : Aside0 (impl_Log_up.good b x = true) := ⟨by simp only [impl_Log_up.good];rw [hb1,hb2];rfl⟩
      have HS2 : Aside0 (impl_Log_up.to l0 (kk + 1) = if decide (impl_Log_up.at l0 x out < 0) = x.f2 then none else if x.f2 = true then some (x.f0,out.eraseIdx (impl_Log_up.at l0 x out).toNat) else some (x.f0,out ++ [(kk : Int)])) := ⟨by
       rw [HS.out];simp only [impl_Log_up.step,HX.out,HG.out]
       rfl⟩
      generalize impl_Log_up.at l0 x out = ka at *;have hkl := HI.out.1;simp only at hkl
      have hka1 : wrap64 (ka + 1) = ka + 1 := by have := HLn.out;unfold wrap64;omega
      have hka2 : IntKind.i64.wrap (ka + 1) = ka + 1 := by have := hka1;unfold wrap64 at this;rw [IntKind.wrap_i64];exact this
      clear hb1 hb2
      by_cases hneg : ka < 0
      ·have hd : decide (ka < 0) = true := decide_eq_true hneg
       cases hf2 : x.f2 with
       | true =>
        have HF2 := Aside0.mk hf2;have h0 := hfail.out (by rw [HS2.out,hd,hf2];rfl);obtain ⟨rfl,rfl⟩ := h0;clear hf2
        go_wp2_with (first | ((with_reducible refine gate_dst (N := 7) rfl ?_);refine box_event ?hg (N := 7) ?hd (cs := #[.int .i64 0,.int .i64 0,.bool false]) (t := 40) ?hr ?_;(case hd => rfl);(case hg => rfl);(case hr => first | (go_simp;done) | (go_simp;rfl));intro gb2 hg2 w8 hbox hb8;have HO8 := Aside0.mk (Kd.R_below HO.out hb8);have HB8 := Aside0.mk (below_step HB2.out hb8);have BK8 := Aside0.mk (blk_below BK.out hb8);have BE8 := Aside0.mk hbox;have GE8 := Aside0.mk (show w.heap.size ≤ gb2 by rw [hg2];exact HB2.out.size);have ST8 := Aside0.mk (impl_Log_up.stored (.int .i64 x.f0) (.int .i64 x.f1) (.bool x.f2) HO8.out HB8.out BK8.out BE8.out GE8.out);have hcz0 : w8.cell? ⟨gb2,0,none⟩ = some (.int .i64 0) := (blk_cell BE8.out 0).trans rfl;have hcz1 : w8.cell? ⟨gb2,1,none⟩ = some (.int .i64 0) := (blk_cell BE8.out 1).trans rfl;have hcz2 : w8.cell? ⟨gb2,2,none⟩ = some (.bool false) := (blk_cell BE8.out 2).trans rfl;have hfz0 := blk_frozen BE8.out 0;have hfz1 := blk_frozen BE8.out 1;have hfz2 := blk_frozen BE8.out 2;clear hb8 hbox hg2) | (go_at_call 23;(with_reducible refine (impl_within.calls _ _ _ _ _ HW1.out).mono ?_);rintro e w9 ⟨rfl,hd9⟩;have HB9 := Aside0.mk (below_step ST8.out.2.1 hd9.below);have HO9 := Aside0.mk (Kd.R_below ST8.out.1 hd9.below);have BK9 := Aside0.mk (blk_below ST8.out.2.2.1 hd9.below);have BE9 := Aside0.mk (blk_below ST8.out.2.2.2 hd9.below);have hc0 : w9.cell? ⟨gb2,0,none⟩ = some (.int .i64 x.f0) := (blk_cell BE9.out 0).trans rfl;have hc1 : w9.cell? ⟨gb2,1,none⟩ = some (.int .i64 x.f1) := (blk_cell BE9.out 1).trans rfl;have hc2 : w9.cell? ⟨gb2,2,none⟩ = some (.bool x.f2) := (blk_cell BE9.out 2).trans rfl;clear hd9) | (go_at_call 23;(with_reducible refine (impl_within.calls _ _ _ _ _ HW2.out).mono ?_);rintro e w10 ⟨rfl,hd10⟩;have HB10 := Aside0.mk (below_step HB9.out hd10.below);have HO10 := Aside0.mk (Kd.R_below HO9.out hd10.below);have BK10 := Aside0.mk (blk_below BK9.out hd10.below);have BE10 := Aside0.mk (blk_below BE9.out hd10.below);have hd0 : w10.cell? ⟨gb2,0,none⟩ = some (.int .i64 x.f0) := (blk_cell BE10.out 0).trans rfl;have hd1 : w10.cell? ⟨gb2,1,none⟩ = some (.int .i64 x.f1) := (blk_cell BE10.out 1).trans rfl;have hd2 : w10.cell? ⟨gb2,2,none⟩ = some (.bool x.f2) := (blk_cell BE10.out 2).trans rfl;clear hd10) | (go_at_call 58;refine (slices_IndexFunc_int_int.calls Ao co out _ #[.pointer (some ⟨w.heap.size,0,none⟩),.pointer (some ⟨gb2,0,none⟩)] eg (fun n => (rd_T40 l0 n).f1 == x.f1) _ (Kd.R_reads' HO10.out).2.2 (Kd.R_reads' HO10.out).2.1 (fun W hW m hm => (impl_Log_up.test _ _ _ c0 l0 x m n W (blk_below BK10.out hW) (blk_below BE10.out hW) (Kd.C_below (Kd.C_below HR0.out HB10.out) hW) (HI.out.2 m hm).1 (by have := (HI.out.2 m hm).2;omega)).mono (fun _ _ h => ⟨h.1,below_then hW hW.size h.2⟩))).mono ?_;rintro e w11 ⟨he11,hb11⟩;rw [HKA.out] at he11;subst he11;have HB11 := Aside0.mk (below_step HB10.out hb11);have HO11 := Aside0.mk (Kd.R_below HO10.out hb11);have BK11 := Aside0.mk (blk_below BK10.out hb11);have BE11 := Aside0.mk (blk_below BE10.out hb11);have he2 : w11.cell? ⟨gb2,2,none⟩ = some (.bool x.f2) := (blk_cell BE11.out 2).trans rfl;rw [HF2.out] at he2;clear hb11))
        go_ret2
        exact ⟨_,rfl,Kd.R_nil _ _ _ _ _,HB11.out⟩
       | false =>
        have HF2 := Aside0.mk hf2;clear hf2
        go_wp2_with (first | ((with_reducible refine gate_dst (N := 7) rfl ?_);refine box_event ?hg (N := 7) ?hd (cs := #[.int .i64 0,.int .i64 0,.bool false]) (t := 40) ?hr ?_;(case hd => rfl);(case hg => rfl);(case hr => first | (go_simp;done) | (go_simp;rfl));intro gb2 hg2 w8 hbox hb8;have HO8 := Aside0.mk (Kd.R_below HO.out hb8);have HB8 := Aside0.mk (below_step HB2.out hb8);have BK8 := Aside0.mk (blk_below BK.out hb8);have BE8 := Aside0.mk hbox;have GE8 := Aside0.mk (show w.heap.size ≤ gb2 by rw [hg2];exact HB2.out.size);have ST8 := Aside0.mk (impl_Log_up.stored (.int .i64 x.f0) (.int .i64 x.f1) (.bool x.f2) HO8.out HB8.out BK8.out BE8.out GE8.out);have hcz0 : w8.cell? ⟨gb2,0,none⟩ = some (.int .i64 0) := (blk_cell BE8.out 0).trans rfl;have hcz1 : w8.cell? ⟨gb2,1,none⟩ = some (.int .i64 0) := (blk_cell BE8.out 1).trans rfl;have hcz2 : w8.cell? ⟨gb2,2,none⟩ = some (.bool false) := (blk_cell BE8.out 2).trans rfl;have hfz0 := blk_frozen BE8.out 0;have hfz1 := blk_frozen BE8.out 1;have hfz2 := blk_frozen BE8.out 2;clear hb8 hbox hg2) | (go_at_call 23;(with_reducible refine (impl_within.calls _ _ _ _ _ HW1.out).mono ?_);rintro e w9 ⟨rfl,hd9⟩;have HB9 := Aside0.mk (below_step ST8.out.2.1 hd9.below);have HO9 := Aside0.mk (Kd.R_below ST8.out.1 hd9.below);have BK9 := Aside0.mk (blk_below ST8.out.2.2.1 hd9.below);have BE9 := Aside0.mk (blk_below ST8.out.2.2.2 hd9.below);have hc0 : w9.cell? ⟨gb2,0,none⟩ = some (.int .i64 x.f0) := (blk_cell BE9.out 0).trans rfl;have hc1 : w9.cell? ⟨gb2,1,none⟩ = some (.int .i64 x.f1) := (blk_cell BE9.out 1).trans rfl;have hc2 : w9.cell? ⟨gb2,2,none⟩ = some (.bool x.f2) := (blk_cell BE9.out 2).trans rfl;clear hd9) | (go_at_call 23;(with_reducible refine (impl_within.calls _ _ _ _ _ HW2.out).mono ?_);rintro e w10 ⟨rfl,hd10⟩;have HB10 := Aside0.mk (below_step HB9.out hd10.below);have HO10 := Aside0.mk (Kd.R_below HO9.out hd10.below);have BK10 := Aside0.mk (blk_below BK9.out hd10.below);have BE10 := Aside0.mk (blk_below BE9.out hd10.below);have hd0 : w10.cell? ⟨gb2,0,none⟩ = some (.int .i64 x.f0) := (blk_cell BE10.out 0).trans rfl;have hd1 : w10.cell? ⟨gb2,1,none⟩ = some (.int .i64 x.f1) := (blk_cell BE10.out 1).trans rfl;have hd2 : w10.cell? ⟨gb2,2,none⟩ = some (.bool x.f2) := (blk_cell BE10.out 2).trans rfl;clear hd10) | (go_at_call 58;refine (slices_IndexFunc_int_int.calls Ao co out _ #[.pointer (some ⟨w.heap.size,0,none⟩),.pointer (some ⟨gb2,0,none⟩)] eg (fun n => (rd_T40 l0 n).f1 == x.f1) _ (Kd.R_reads' HO10.out).2.2 (Kd.R_reads' HO10.out).2.1 (fun W hW m hm => (impl_Log_up.test _ _ _ c0 l0 x m n W (blk_below BK10.out hW) (blk_below BE10.out hW) (Kd.C_below (Kd.C_below HR0.out HB10.out) hW) (HI.out.2 m hm).1 (by have := (HI.out.2 m hm).2;omega)).mono (fun _ _ h => ⟨h.1,below_then hW hW.size h.2⟩))).mono ?_;rintro e w11 ⟨he11,hb11⟩;rw [HKA.out] at he11;subst he11;have HB11 := Aside0.mk (below_step HB10.out hb11);have HO11 := Aside0.mk (Kd.R_below HO10.out hb11);have BK11 := Aside0.mk (blk_below BK10.out hb11);have BE11 := Aside0.mk (blk_below BE10.out hb11);have he2 : w11.cell? ⟨gb2,2,none⟩ = some (.bool x.f2) := (blk_cell BE11.out 2).trans rfl;rw [HF2.out] at he2;clear hb11) | ((with_reducible refine gate_builtin (b := .append) (xs := #[.tmp 33,.tmp 35]) rfl ?_);at_builtin;refine Kd.R_append (Kd.int .i64) (w0 := w) w.heap.size rfl (.tmp 33) (.tmp 35) 53 3 (.int .i64 0) 8 rfl Try.underlying53 info3 rfl (by decide) (by omega) _ out (kk : Int) [.int .i64 (kk : Int)] (fun k_ => k_ ≠ w.heap.size) (fun _ => False) rfl (by first | (go_simp;done) | (go_simp;rfl)) ?aP (fun _ hk => hk.elim) ?aF ?aO ?aB ?aS ?aL ?_;(case aP => exact rfl);(case aB => exact HB11.out);(case aF => exact (fun k_ hk => by have := blk_lt BK11.out;omega));(case aO => exact HO11.out);(case aS => exact HB11.out.size);(case aL => have := HLn.out;omega);intro v12 w12 ho12 hb12 hg12 hat12;have HB12 := Aside0.mk hb12;have HO12 := Aside0.mk ho12;have BK12 := Aside0.mk (blk_grown BK11.out hg12 (fun e => HO11.out.1 _ e.symm rfl));clear ho12 hb12 hg12 hat12))
        go_roundg (n - (kk + 1))
        case measure => omega
        case rel => have := HLn.out;exact ⟨kk + 1,x.f0,out ++ [(kk : Int)],by omega,by omega,by rw [show ((kk + 1 : Nat) : Int) = wrap64 ((kk : Int) + 1) from by unfold wrap64;omega],rfl,⟨by rw [HS2.out,hd,HF2.out];rfl⟩,HO12,HB12,BK12⟩
      ·have hd : decide (ka < 0) = false := decide_eq_false hneg
       cases hf2 : x.f2 with
       | false =>
        have HF2 := Aside0.mk hf2;have h0 := hfail.out (by rw [HS2.out,hd,hf2];rfl);obtain ⟨rfl,rfl⟩ := h0;clear hf2
        go_wp2_with (first | ((with_reducible refine gate_dst (N := 7) rfl ?_);refine box_event ?hg (N := 7) ?hd (cs := #[.int .i64 0,.int .i64 0,.bool false]) (t := 40) ?hr ?_;(case hd => rfl);(case hg => rfl);(case hr => first | (go_simp;done) | (go_simp;rfl));intro gb2 hg2 w8 hbox hb8;have HO8 := Aside0.mk (Kd.R_below HO.out hb8);have HB8 := Aside0.mk (below_step HB2.out hb8);have BK8 := Aside0.mk (blk_below BK.out hb8);have BE8 := Aside0.mk hbox;have GE8 := Aside0.mk (show w.heap.size ≤ gb2 by rw [hg2];exact HB2.out.size);have ST8 := Aside0.mk (impl_Log_up.stored (.int .i64 x.f0) (.int .i64 x.f1) (.bool x.f2) HO8.out HB8.out BK8.out BE8.out GE8.out);have hcz0 : w8.cell? ⟨gb2,0,none⟩ = some (.int .i64 0) := (blk_cell BE8.out 0).trans rfl;have hcz1 : w8.cell? ⟨gb2,1,none⟩ = some (.int .i64 0) := (blk_cell BE8.out 1).trans rfl;have hcz2 : w8.cell? ⟨gb2,2,none⟩ = some (.bool false) := (blk_cell BE8.out 2).trans rfl;have hfz0 := blk_frozen BE8.out 0;have hfz1 := blk_frozen BE8.out 1;have hfz2 := blk_frozen BE8.out 2;clear hb8 hbox hg2) | (go_at_call 23;(with_reducible refine (impl_within.calls _ _ _ _ _ HW1.out).mono ?_);rintro e w9 ⟨rfl,hd9⟩;have HB9 := Aside0.mk (below_step ST8.out.2.1 hd9.below);have HO9 := Aside0.mk (Kd.R_below ST8.out.1 hd9.below);have BK9 := Aside0.mk (blk_below ST8.out.2.2.1 hd9.below);have BE9 := Aside0.mk (blk_below ST8.out.2.2.2 hd9.below);have hc0 : w9.cell? ⟨gb2,0,none⟩ = some (.int .i64 x.f0) := (blk_cell BE9.out 0).trans rfl;have hc1 : w9.cell? ⟨gb2,1,none⟩ = some (.int .i64 x.f1) := (blk_cell BE9.out 1).trans rfl;have hc2 : w9.cell? ⟨gb2,2,none⟩ = some (.bool x.f2) := (blk_cell BE9.out 2).trans rfl;clear hd9) | (go_at_call 23;(with_reducible refine (impl_within.calls _ _ _ _ _ HW2.out).mono ?_);rintro e w10 ⟨rfl,hd10⟩;have HB10 := Aside0.mk (below_step HB9.out hd10.below);have HO10 := Aside0.mk (Kd.R_below HO9.out hd10.below);have BK10 := Aside0.mk (blk_below BK9.out hd10.below);have BE10 := Aside0.mk (blk_below BE9.out hd10.below);have hd0 : w10.cell? ⟨gb2,0,none⟩ = some (.int .i64 x.f0) := (blk_cell BE10.out 0).trans rfl;have hd1 : w10.cell? ⟨gb2,1,none⟩ = some (.int .i64 x.f1) := (blk_cell BE10.out 1).trans rfl;have hd2 : w10.cell? ⟨gb2,2,none⟩ = some (.bool x.f2) := (blk_cell BE10.out 2).trans rfl;clear hd10) | (go_at_call 58;refine (slices_IndexFunc_int_int.calls Ao co out _ #[.pointer (some ⟨w.heap.size,0,none⟩),.pointer (some ⟨gb2,0,none⟩)] eg (fun n => (rd_T40 l0 n).f1 == x.f1) _ (Kd.R_reads' HO10.out).2.2 (Kd.R_reads' HO10.out).2.1 (fun W hW m hm => (impl_Log_up.test _ _ _ c0 l0 x m n W (blk_below BK10.out hW) (blk_below BE10.out hW) (Kd.C_below (Kd.C_below HR0.out HB10.out) hW) (HI.out.2 m hm).1 (by have := (HI.out.2 m hm).2;omega)).mono (fun _ _ h => ⟨h.1,below_then hW hW.size h.2⟩))).mono ?_;rintro e w11 ⟨he11,hb11⟩;rw [HKA.out] at he11;subst he11;have HB11 := Aside0.mk (below_step HB10.out hb11);have HO11 := Aside0.mk (Kd.R_below HO10.out hb11);have BK11 := Aside0.mk (blk_below BK10.out hb11);have BE11 := Aside0.mk (blk_below BE10.out hb11);have he2 : w11.cell? ⟨gb2,2,none⟩ = some (.bool x.f2) := (blk_cell BE11.out 2).trans rfl;rw [HF2.out] at he2;clear hb11))
        go_ret2
        exact ⟨_,rfl,Kd.R_nil _ _ _ _ _,HB11.out⟩
       | true =>
        have HF2 := Aside0.mk hf2;clear hf2;have HDE : Aside0 (slices_Delete_int_int.f out ka (ka + 1) = some (out.eraseIdx ka.toNat)) := ⟨by unfold slices_Delete_int_int.f;rw [if_pos ⟨by omega,by omega,rfl⟩]⟩
        go_wp2_with (first | ((with_reducible refine gate_dst (N := 7) rfl ?_);refine box_event ?hg (N := 7) ?hd (cs := #[.int .i64 0,.int .i64 0,.bool false]) (t := 40) ?hr ?_;(case hd => rfl);(case hg => rfl);(case hr => first | (go_simp;done) | (go_simp;rfl));intro gb2 hg2 w8 hbox hb8;have HO8 := Aside0.mk (Kd.R_below HO.out hb8);have HB8 := Aside0.mk (below_step HB2.out hb8);have BK8 := Aside0.mk (blk_below BK.out hb8);have BE8 := Aside0.mk hbox;have GE8 := Aside0.mk (show w.heap.size ≤ gb2 by rw [hg2];exact HB2.out.size);have ST8 := Aside0.mk (impl_Log_up.stored (.int .i64 x.f0) (.int .i64 x.f1) (.bool x.f2) HO8.out HB8.out BK8.out BE8.out GE8.out);have hcz0 : w8.cell? ⟨gb2,0,none⟩ = some (.int .i64 0) := (blk_cell BE8.out 0).trans rfl;have hcz1 : w8.cell? ⟨gb2,1,none⟩ = some (.int .i64 0) := (blk_cell BE8.out 1).trans rfl;have hcz2 : w8.cell? ⟨gb2,2,none⟩ = some (.bool false) := (blk_cell BE8.out 2).trans rfl;have hfz0 := blk_frozen BE8.out 0;have hfz1 := blk_frozen BE8.out 1;have hfz2 := blk_frozen BE8.out 2;clear hb8 hbox hg2) | (go_at_call 23;(with_reducible refine (impl_within.calls _ _ _ _ _ HW1.out).mono ?_);rintro e w9 ⟨rfl,hd9⟩;have HB9 := Aside0.mk (below_step ST8.out.2.1 hd9.below);have HO9 := Aside0.mk (Kd.R_below ST8.out.1 hd9.below);have BK9 := Aside0.mk (blk_below ST8.out.2.2.1 hd9.below);have BE9 := Aside0.mk (blk_below ST8.out.2.2.2 hd9.below);have hc0 : w9.cell? ⟨gb2,0,none⟩ = some (.int .i64 x.f0) := (blk_cell BE9.out 0).trans rfl;have hc1 : w9.cell? ⟨gb2,1,none⟩ = some (.int .i64 x.f1) := (blk_cell BE9.out 1).trans rfl;have hc2 : w9.cell? ⟨gb2,2,none⟩ = some (.bool x.f2) := (blk_cell BE9.out 2).trans rfl;clear hd9) | (go_at_call 23;(with_reducible refine (impl_within.calls _ _ _ _ _ HW2.out).mono ?_);rintro e w10 ⟨rfl,hd10⟩;have HB10 := Aside0.mk (below_step HB9.out hd10.below);have HO10 := Aside0.mk (Kd.R_below HO9.out hd10.below);have BK10 := Aside0.mk (blk_below BK9.out hd10.below);have BE10 := Aside0.mk (blk_below BE9.out hd10.below);have hd0 : w10.cell? ⟨gb2,0,none⟩ = some (.int .i64 x.f0) := (blk_cell BE10.out 0).trans rfl;have hd1 : w10.cell? ⟨gb2,1,none⟩ = some (.int .i64 x.f1) := (blk_cell BE10.out 1).trans rfl;have hd2 : w10.cell? ⟨gb2,2,none⟩ = some (.bool x.f2) := (blk_cell BE10.out 2).trans rfl;clear hd10) | (go_at_call 58;refine (slices_IndexFunc_int_int.calls Ao co out _ #[.pointer (some ⟨w.heap.size,0,none⟩),.pointer (some ⟨gb2,0,none⟩)] eg (fun n => (rd_T40 l0 n).f1 == x.f1) _ (Kd.R_reads' HO10.out).2.2 (Kd.R_reads' HO10.out).2.1 (fun W hW m hm => (impl_Log_up.test _ _ _ c0 l0 x m n W (blk_below BK10.out hW) (blk_below BE10.out hW) (Kd.C_below (Kd.C_below HR0.out HB10.out) hW) (HI.out.2 m hm).1 (by have := (HI.out.2 m hm).2;omega)).mono (fun _ _ h => ⟨h.1,below_then hW hW.size h.2⟩))).mono ?_;rintro e w11 ⟨he11,hb11⟩;rw [HKA.out] at he11;subst he11;have HB11 := Aside0.mk (below_step HB10.out hb11);have HO11 := Aside0.mk (Kd.R_below HO10.out hb11);have BK11 := Aside0.mk (blk_below BK10.out hb11);have BE11 := Aside0.mk (blk_below BE10.out hb11);have he2 : w11.cell? ⟨gb2,2,none⟩ = some (.bool x.f2) := (blk_cell BE11.out 2).trans rfl;rw [HF2.out] at he2;clear hb11) | (go_at_call 60;refine (slices_Delete_int_int.calls (fun k_ => k_ ≠ w.heap.size) _ out ka (ka + 1) _ w _ HB11.out HO11.out HDE.out).mono ?_;rintro e w12 ⟨v12,rfl,ho12,hb12,hk12⟩;have HB12 := Aside0.mk hb12;have HO12 := Aside0.mk (Kd.R_mono ho12 (ok' := fun k_ => k_ ≠ w.heap.size) (fun k hk => hk.elim id (fun h => by have := blk_lt BK11.out;omega)));have BK12 := Aside0.mk (blk_kept BK11.out hk12 (fun h => h rfl));clear ho12 hb12 hk12))
        go_roundg (n - (kk + 1))
        case measure => omega
        case rel => have := HLn.out;exact ⟨kk + 1,x.f0,out.eraseIdx ka.toNat,by omega,by omega,by rw [show ((kk + 1 : Nat) : Int) = wrap64 ((kk : Int) + 1) from by unfold wrap64;omega],rfl,⟨by rw [HS2.out,hd,HF2.out];rfl⟩,HO12,HB12,BK12⟩
   ·have hltz : ¬ (kk : Int) < (n : Int) := by omega
    have : kk = n := by omega
    subst this;have hz2 := (blk_cell BK.out 0).trans rfl
    have hr : out = r1 ∧ decide ((kk : Int) ≤ 60) = r2 := by
     have := HH.out;rw [HT.out] at this
     simpa using this
    obtain ⟨rfl,rfl⟩ := hr
    go_wp2
    go_region
    rename_i hK
    refine hK _ _ ?_;clear hK
    go_wp2
    go_ret2
    exact ⟨_,rfl,Kd.R_mono (Kd.R_drew HO.out) (fun _ _ => trivial),below_drew1 HB2.out⟩
 ·rw [if_neg hL] at h;cases h
end Go.Proofs.Ytcoepebmmgcplaa.G
end

section
namespace Go.Proofs.Ytcoepebmmgcplaa.G
open Go.RowKit Go.Proofs.YtcoepebmmgcplaaW.PrintWords Go.Proofs.YtcoepebmmgcplaaW.PrintLast Go.Proofs.YtcoepebmmgcplaaW.PrintMore
attribute [local go_sem] max2_int min2_int max_two min_two max_three min_three max_four min_four
set_option linter.unusedVariables false
set_option linter.unusedSimpArgs false
def impl_ValidLog.f (l0 : List (S40)) : Option (Bool) := (impl_Log_up.f l0).bind fun bt101 => (some bt101.2)
set_option maxHeartbeats 8000000 in
set_option maxRecDepth 100000 in
theorem impl_ValidLog.calls (A0 : Option Addr) (c0 : Nat) (l0 : List (S40)) (r : Bool) (w : World) (hr0 : Kd.C k40 w A0 l0.length l0) (hc0 : l0.length ≤ c0) (h : impl_ValidLog.f l0 = some r) :
  Calls Try.prog 32 #[.slice A0 l0.length c0] w fun e w' => e = .returned (.bool r) ∧ Below w.heap.size w w' := by
 have HR0 := Aside0.mk hr0;have HC0 := Aside0.mk hc0;clear hr0 hc0;have HB := Aside0.mk (Below.refl w.heap.size w);have H : ((impl_Log_up.f l0).bind fun bt101 => (some bt101.2)) = some r := h;clear h;replace H := Option.bind_eq_some_iff.mp H;obtain ⟨⟨t101,t102⟩,A20,H⟩ := H;replace H : (some t102) = some r := H;have A2 := Aside0.mk A20;clear A20;obtain rfl := Option.some.inj H
 go_enter Try.func32,Try.ntmps32
 go_wp2_with (first | ((with_reducible refine gate_callee (f := 45) rfl ?_);refine goesL_ (some 7) rfl rfl Try.func45 (by kernel_rfl) rfl #[.slice A0 l0.length c0] rfl (by (try simp only [List.map_toArray,List.map_cons,List.map_nil]);first | done | rfl | (simp only [List.length_drop,List.length_take];rfl)) ?_;(with_reducible refine (impl_Log_up.calls _ _ l0 t101 t102 _ ?side1 ?side2 A2.out).mono ?_);(case side1 => repeat (first | exact HR0.out | (with_reducible refine Kd.C_alloc ?_ _) | (with_reducible refine Kd.C_drewN ?_ _) | (with_reducible refine Kd.C_drew ?_)));(case side2 => exact HC0.out);rintro e w3 ⟨v103,rfl,ho0,hb⟩;refine ⟨_,rfl,?_⟩;have n0_ := Aside0.mk (Kd.R_lower ho0 (below_size (by repeat (first | (with_reducible first | exact HB.out | apply below_alloc | apply pw_below_drewN | apply below_drew1) | exact HB.out))));have n1_ := Aside0.mk (below_step (by repeat (first | (with_reducible first | exact HB.out | apply below_alloc | apply pw_below_drewN | apply below_drew1) | exact HB.out)) hb);clear HB;have HO104 := n0_;have HB := n1_;clear n0_ n1_;(try clear hb);(try clear hb2);(try clear hk);(try clear hi);(try clear ho0)))
 go_ret
 exact ⟨by first | rfl | (simp [errW_none,errW_some,IntKind.wrap_i64,wrap64];done) | (simp [errW_none,errW_some] <;> rfl) | (simp [*,errW_none,errW_some] <;> rfl),by repeat (first | (with_reducible first | exact HB.out | apply below_alloc | apply pw_below_drewN | apply below_drew1) | exact HB.out)⟩
end Go.Proofs.Ytcoepebmmgcplaa.G
end

section
namespace Go.Proofs.Ytcoepebmmgcplaa.G
open Go.RowKit Go.Proofs.YtcoepebmmgcplaaW.PrintWords Go.Proofs.YtcoepebmmgcplaaW.PrintLast Go.Proofs.YtcoepebmmgcplaaW.PrintMore
attribute [local go_sem] max2_int min2_int max_two min_two max_three min_three max_four min_four
set_option linter.unusedVariables false
set_option linter.unusedSimpArgs false
def impl_size_Log.f (l0 : List (List (S40))) : Option (Int) := some (l0.length : Int)
set_option maxHeartbeats 8000000 in
set_option maxRecDepth 100000 in
theorem impl_size_Log.calls (A0 : Option Addr) (c0 : Nat) (l0 : List (List (S40))) (r : Int) (w : World) (hr0 : Kd.C (Kd.slice 40 k40) w A0 l0.length l0) (hc0 : l0.length ≤ c0) (h : impl_size_Log.f l0 = some r) :
  Calls Try.prog 24 #[.slice A0 l0.length c0] w fun e w' => e = .returned (.int .i64 r) ∧ Drawn0 w w' := by
 have HR0 := Aside0.mk hr0;have HC0 := Aside0.mk hc0;clear hr0 hc0;have H : (some (l0.length : Int)) = some r := h;clear h;obtain rfl := Option.some.inj H
 go_enter Try.func24,Try.ntmps24
 go_wp2
 go_ret
 exact ⟨by first | rfl | (simp only [IntKind.wrap_i64,wrap64];done) | (simp;done) | (simp [*];done),by repeat (first | exact Drawn0.refl _ | apply Drawn0.step)⟩
end Go.Proofs.Ytcoepebmmgcplaa.G
end

section
namespace Go.Proofs.Ytcoepebmmgcplaa.G
open Go.RowKit Go.Proofs.YtcoepebmmgcplaaW.PrintWords Go.Proofs.YtcoepebmmgcplaaW.PrintLast Go.Proofs.YtcoepebmmgcplaaW.PrintMore
attribute [local go_sem] max2_int min2_int max_two min_two max_three min_three max_four min_four
set_option linter.unusedVariables false
set_option linter.unusedSimpArgs false
def impl_unless.f (a0 : Bool) (a1 : Int) : Option (Int) := if a0 = true then (some 0) else (some a1)
set_option maxHeartbeats 8000000 in
set_option maxRecDepth 100000 in
theorem impl_unless.calls (a0 : Bool) (a1 : Int) (r : Int) (w : World) (h : impl_unless.f a0 a1 = some r) :
  Calls Try.prog 22 #[.bool a0,.int .i64 a1] w fun e w' => e = .returned (.int .i64 r) ∧ Drawn0 w w' := by
 have H : (if a0 = true then (some 0) else (some a1)) = some r := h;clear h
 by_cases c3 : a0 = true
 ·subst c3
  have H1 : (some 0) = some r := by rw [if_pos rfl] at H;exact H
  clear H;have H := H1;clear H1;obtain rfl := Option.some.inj H
  go_enter Try.func22,Try.ntmps22
  go_wp2
  go_ret
  exact ⟨by first | rfl | (simp only [IntKind.wrap_i64,wrap64];done) | (simp;done) | (simp [*];done),by repeat (first | exact Drawn0.refl _ | apply Drawn0.step)⟩
 ·replace c3 := Bool.eq_false_iff.mpr c3;subst c3
  have H1 : (some a1) = some r := by rw [if_neg (show ¬ (false = true) by decide)] at H;exact H
  clear H;have H := H1;clear H1;obtain rfl := Option.some.inj H
  go_enter Try.func22,Try.ntmps22
  go_wp2
  go_ret
  exact ⟨by first | rfl | (simp only [IntKind.wrap_i64,wrap64];done) | (simp;done) | (simp [*];done),by repeat (first | exact Drawn0.refl _ | apply Drawn0.step)⟩
end Go.Proofs.Ytcoepebmmgcplaa.G
end

section
namespace Go.Proofs.Ytcoepebmmgcplaa.G
open Go.RowKit Go.Proofs.YtcoepebmmgcplaaW.PrintWords Go.Proofs.YtcoepebmmgcplaaW.PrintLast Go.Proofs.YtcoepebmmgcplaaW.PrintMore
attribute [local go_sem] max2_int min2_int max_two min_two max_three min_three max_four min_four
set_option linter.unusedVariables false
set_option linter.unusedSimpArgs false
def anyO {α : Type} (p : α → Option Bool) (l : List α) : Option Bool := if l.all (fun x => (p x).isSome) = true then some (l.any (fun x => p x == some true)) else none
def delO {α : Type} (p : α → Option Bool) (l : List α) : Option (List α) := if l.all (fun x => (p x).isSome) = true then some (l.filter (fun x => !(p x == some true))) else none
theorem anyO_some {α : Type} {p : α → Option Bool} {l : List α} {r : Bool} (h : anyO p l = some r) : (∀ x ∈ l, (p x).isSome = true) ∧ l.any (fun x => p x == some true) = r := by
  unfold anyO at h
  split at h
  · rename_i ha
    exact ⟨List.all_eq_true.1 ha, Option.some.inj h⟩
  · cases h
theorem delO_some {α : Type} {p : α → Option Bool} {l r : List α} (h : delO p l = some r) : (∀ x ∈ l, (p x).isSome = true) ∧ l.filter (fun x => !(p x == some true)) = r := by
  unfold delO at h
  split at h
  · rename_i ha
    exact ⟨List.all_eq_true.1 ha, Option.some.inj h⟩
  · cases h
theorem allSome {α : Type} {p : α → Option Bool} {q : α → Bool} {l : List α} (h : ∀ x ∈ l, p x = some (q x)) : l.all (fun x => (p x).isSome) = true := List.all_eq_true.2 fun x hx => by rw [h x hx]; rfl
theorem someEq {α : Type} {p : α → Option Bool} {q : α → Bool} {l : List α} (h : ∀ x ∈ l, p x = some (q x)) : ∀ x ∈ l, (p x == some true) = q x := fun x hx => by rw [h x hx]; cases q x <;> rfl
theorem any_congr_ {α : Type} {p q : α → Bool} {l : List α} (h : ∀ x ∈ l, p x = q x) : l.any p = l.any q := by
  induction l with
  | nil => rfl
  | cons a l ih => simp [h a (by simp), ih (fun x hx => h x (by simp [hx]))]
theorem anyO_eq {α : Type} {p : α → Option Bool} {q : α → Bool} {l : List α} (h : ∀ x ∈ l, p x = some (q x)) : anyO p l = some (l.any q) := by
  unfold anyO
  rw [if_pos (allSome h), any_congr_ (someEq h)]
theorem delO_eq {α : Type} {p : α → Option Bool} {q : α → Bool} {l : List α} (h : ∀ x ∈ l, p x = some (q x)) : delO p l = some (l.filter (fun x => !q x)) := by
  unfold delO
  rw [if_pos (allSome h), List.filter_congr (fun x hx => by rw [someEq h x hx])]
section
variable {P : Program} {ops : Array Oper} {Q : Exit → Act → World → Prop}
end
end Go.Proofs.Ytcoepebmmgcplaa.G
end

section
namespace Go.Proofs.Ytcoepebmmgcplaa.G
open Go.RowKit Go.Proofs.YtcoepebmmgcplaaW.PrintWords Go.Proofs.YtcoepebmmgcplaaW.PrintLast Go.Proofs.YtcoepebmmgcplaaW.PrintMore
attribute [local go_sem] max2_int min2_int max_two min_two max_three min_three max_four min_four
set_option linter.unusedVariables false
set_option linter.unusedSimpArgs false
def impl_allCode_1.f (l0 : List (S40)) : Option (Bool) := (impl_ValidLog.f l0).bind fun t101 => (some (!t101))
set_option maxHeartbeats 8000000 in
set_option maxRecDepth 100000 in
theorem impl_allCode_1.calls (A0 : Option Addr) (c0 : Nat) (l0 : List (S40)) (r : Bool) (w : World) (hr0 : Kd.C k40 w A0 l0.length l0) (hc0 : l0.length ≤ c0) (h : impl_allCode_1.f l0 = some r) :
  Calls Try.prog 37 #[.slice A0 l0.length c0] w fun e w' => e = .returned (.bool r) ∧ Below w.heap.size w w' := by
 have HR0 := Aside0.mk hr0;have HC0 := Aside0.mk hc0;clear hr0 hc0;have HB := Aside0.mk (Below.refl w.heap.size w);have H : ((impl_ValidLog.f l0).bind fun t101 => (some (!t101))) = some r := h;clear h;replace H := Option.bind_eq_some_iff.mp H;obtain ⟨t101,A20,H⟩ := H;replace H : (some (!t101)) = some r := H;have A2 := Aside0.mk A20;clear A20;obtain rfl := Option.some.inj H
 go_enter Try.func37,Try.ntmps37
 go_wp2_with (first | ((with_reducible refine gate_callee (f := 32) rfl ?_);refine goesL_ (some 4) rfl rfl Try.func32 (by kernel_rfl) rfl #[.slice A0 l0.length c0] rfl (by (try simp only [List.map_toArray,List.map_cons,List.map_nil]);first | done | rfl | (simp only [List.length_drop,List.length_take];rfl)) ?_;(with_reducible refine (impl_ValidLog.calls _ _ l0 t101 _ ?side1 ?side2 A2.out).mono ?_);(case side1 => repeat (first | exact HR0.out | (with_reducible refine Kd.C_alloc ?_ _) | (with_reducible refine Kd.C_drewN ?_ _) | (with_reducible refine Kd.C_drew ?_)));(case side2 => exact HC0.out);rintro e w3 ⟨rfl,hb⟩;refine ⟨_,rfl,?_⟩;have n0_ := Aside0.mk (below_step (by repeat (first | (with_reducible first | exact HB.out | apply below_alloc | apply pw_below_drewN | apply below_drew1) | exact HB.out)) hb);clear HB;have HB := n0_;clear n0_;(try clear hb);(try clear hb2);(try clear hk);(try clear hi)))
 go_ret
 exact ⟨by first | rfl | (simp [errW_none,errW_some,IntKind.wrap_i64,wrap64];done) | (simp [errW_none,errW_some] <;> rfl) | (simp [*,errW_none,errW_some] <;> rfl),by repeat (first | (with_reducible first | exact HB.out | apply below_alloc | apply pw_below_drewN | apply below_drew1) | exact HB.out)⟩
end Go.Proofs.Ytcoepebmmgcplaa.G
end

section
namespace Go.Proofs.Ytcoepebmmgcplaa.G
open Go.RowKit Go.Proofs.YtcoepebmmgcplaaW.PrintWords Go.Proofs.YtcoepebmmgcplaaW.PrintLast Go.Proofs.YtcoepebmmgcplaaW.PrintMore
attribute [local go_sem] max2_int min2_int max_two min_two max_three min_three max_four min_four
set_option linter.unusedVariables false
set_option linter.unusedSimpArgs false
set_option maxHeartbeats 2000000 in
theorem slices_IndexFunc_Log_Log.calls (A0 : Option Addr) (c0 : Nat) (l0 : List (List (S40))) (g : Nat) (lb : Array Value) (eg : ∀ args w,(callFunc g args).run Try.prog w = .ok (.enter g args) w) (p : List (S40) → Bool) (w : World)
  (hr0 : Kd.C (Kd.slice 40 k40) w A0 l0.length l0) (hc0 : l0.length ≤ c0)
  (hp : ∀ W,Below w.heap.size w W → ∀ x ∈ l0,∀ (A1 : Option Addr) (c1 : Nat),x.length ≤ c1 → Kd.C k40 W A1 x.length x → Calls Try.prog g (#[.slice A1 x.length c1] ++ lb) W fun e w' => e = .returned (.bool (p x)) ∧ Below w.heap.size w w') :
  Calls Try.prog 46 #[.slice A0 l0.length c0,.func (.func g) #[] lb] w fun e w' => e = .returned (.int .i64 (idxP p l0)) ∧ Below w.heap.size w w' := by
 have hl : l0.length ≤ 9223372036854775807 := hr0.2.1;have HR0 := Aside0.mk hr0;have HP := Aside0.mk hp;clear hr0 hp;generalize hn : l0.length = n at *;have Hn := Aside0.mk hn;clear hn
 go_enter Try.func46,Try.ntmps46
 go_wp2
 go_loopg [5,8] n (fun gg _ s8 wr => ∃ kk : Nat,kk ≤ n ∧ n - kk ≤ gg ∧ s8 = .int .i64 kk ∧ Aside0 (Below w.heap.size w wr) ∧ Aside0 (∀ j x,j < kk → l0[j]? = some x → p x = false))
 case atStart => exact ⟨0,Nat.zero_le _,by omega,rfl,⟨Below.refl _ w⟩,⟨fun j _ hj => absurd hj (Nat.not_lt_zero _)⟩⟩
 case round =>
  obtain ⟨kk,hkk,hg,rfl,BW,AF⟩ := hrel
  by_cases hlt : kk < n
  ·have hltz : (kk : Int) < (n : Int) := by omega
   obtain ⟨ad,A1,c1,e0,hx0,hlc,hC1⟩ := at_L5 HR0.out (kk : Int) (by omega) (by omega);cases e0;simp only [Int.toNat_natCast] at hx0;replace hx0 := (BW.out.cell (World.block_lt_of_cell? w _ hx0)).trans hx0
   have hm : l0[kk]? = some (rd_L5 l0 (kk : Int)) := by
    have h1 : kk < l0.length := by rw [Hn.out];exact hlt
    simp [rd_L5,List.getD_eq_getElem?_getD,List.getElem?_eq_getElem h1]
   have hcall := HP.out wr BW.out (rd_L5 l0 (kk : Int)) (List.mem_of_getElem? hm) A1 c1 hlc (Kd.C_below hC1 BW.out);clear hC1;generalize hy : rd_L5 l0 (kk : Int) = y at *;clear hy;have HM := Aside0.mk hm;clear hm
   cases hq : p y with
   | true =>
    rw [hq] at hcall;have HQ := Aside0.mk hq;clear hq
    go_wp2_with (go_at_fn g;refine hcall.mono ?_;rintro e w' ⟨rfl,hb'⟩)
    go_ret
    refine ⟨?_,hb'⟩;rw [idxP_hit HM.out HQ.out AF.out];rfl
   | false =>
    rw [hq] at hcall;have HQ := Aside0.mk hq;clear hq
    go_wp2_with (go_at_fn g;refine hcall.mono ?_;rintro e w' ⟨rfl,hb'⟩)
    go_roundg (n - (kk + 1))
    case measure => omega
    case rel =>
     refine ⟨kk + 1,by omega,by omega,by go_num,⟨hb'⟩,⟨fun j x hj hx => ?_⟩⟩
     by_cases e : j = kk
     ·subst e;rw [HM.out] at hx;cases hx;exact HQ.out
     ·exact AF.out j x (by omega) hx
  ·have hltz : ¬ (kk : Int) < (n : Int) := by omega
   have : kk = n := by omega
   subst this
   go_wp2
   go_ret
   refine ⟨?_,BW.out⟩
   rw [idxP_miss (fun x hx => by
    obtain ⟨j,hj,rfl⟩ := List.mem_iff_getElem.1 hx
    exact AF.out j _ (by rw [← Hn.out];exact hj) (List.getElem?_eq_getElem hj))]
   rfl
end Go.Proofs.Ytcoepebmmgcplaa.G
end

section
namespace Go.Proofs.Ytcoepebmmgcplaa.G
open Go.RowKit Go.Proofs.YtcoepebmmgcplaaW.PrintWords Go.Proofs.YtcoepebmmgcplaaW.PrintLast Go.Proofs.YtcoepebmmgcplaaW.PrintMore
attribute [local go_sem] max2_int min2_int max_two min_two max_three min_three max_four min_four
set_option linter.unusedVariables false
set_option linter.unusedSimpArgs false
set_option maxHeartbeats 2000000 in
theorem slices_ContainsFunc_Log_Log.calls (A0 : Option Addr) (c0 : Nat) (l0 : List (List (S40))) (g : Nat) (lb : Array Value) (eg : ∀ args w,(callFunc g args).run Try.prog w = .ok (.enter g args) w) (p : List (S40) → Bool) (w : World)
  (hr0 : Kd.C (Kd.slice 40 k40) w A0 l0.length l0) (hc0 : l0.length ≤ c0)
  (hp : ∀ W,Below w.heap.size w W → ∀ x ∈ l0,∀ (A1 : Option Addr) (c1 : Nat),x.length ≤ c1 → Kd.C k40 W A1 x.length x → Calls Try.prog g (#[.slice A1 x.length c1] ++ lb) W fun e w' => e = .returned (.bool (p x)) ∧ Below w.heap.size w w') :
  Calls Try.prog 36 #[.slice A0 l0.length c0,.func (.func g) #[] lb] w fun e w' => e = .returned (.bool (l0.any p)) ∧ Below w.heap.size w w' := by
 have H := Aside0.mk (slices_IndexFunc_Log_Log.calls A0 c0 l0 g lb eg p w hr0 hc0 hp);rw [← idxP_nonneg];clear hp hr0 eg
 go_enter Try.func36,Try.ntmps36
 go_wp2_with (go_at_call 46;refine H.out.mono ?_;rintro e w' ⟨rfl,hb'⟩)
 go_ret
 exact ⟨rfl,hb'⟩
end Go.Proofs.Ytcoepebmmgcplaa.G
end

section
namespace Go.Proofs.Ytcoepebmmgcplaa.G
open Go.RowKit Go.Proofs.YtcoepebmmgcplaaW.PrintWords Go.Proofs.YtcoepebmmgcplaaW.PrintLast Go.Proofs.YtcoepebmmgcplaaW.PrintMore
attribute [local go_sem] max2_int min2_int max_two min_two max_three min_three max_four min_four
set_option linter.unusedVariables false
set_option linter.unusedSimpArgs false
def slices_ContainsFunc_Log_Log__impl_allCode_1.f (l0 : List (List (S40))) : Option (Bool) := anyO (fun x => impl_allCode_1.f x) l0
set_option maxHeartbeats 2000000 in
theorem slices_ContainsFunc_Log_Log__impl_allCode_1.calls (A0 : Option Addr) (c0 : Nat) (l0 : List (List (S40))) (r : Bool) (w : World) (hr0 : Kd.C (Kd.slice 40 k40) w A0 l0.length l0) (hc0 : l0.length ≤ c0) (h : slices_ContainsFunc_Log_Log__impl_allCode_1.f l0 = some r) :
  Calls Try.prog 36 #[.slice A0 l0.length c0,.func (.func 37) #[] #[]] w fun e w' => e = .returned (.bool r) ∧ Below w.heap.size w w' := by
 have eg := enters_of Try.func37 (by kernel_rfl) rfl;obtain ⟨hall,rfl⟩ := anyO_some h;refine slices_ContainsFunc_Log_Log.calls A0 c0 l0 _ #[] eg (fun x => impl_allCode_1.f x == some true) w hr0 hc0 (fun W hW x hx A1_ c1_ hl_ hC_ => ?_);obtain ⟨b,hb⟩ := Option.isSome_iff_exists.1 (hall x hx);rw [show (#[.slice A1_ x.length c1_] ++ #[] : Array Value) = #[.slice A1_ x.length c1_] from rfl]
 refine (impl_allCode_1.calls A1_ c1_ x b W hC_ hl_ hb).mono fun e w' ⟨he,hw⟩ => ⟨he.trans (by rw [hb];cases b <;> rfl),?_⟩
 exact below_then hW hW.size hw
end Go.Proofs.Ytcoepebmmgcplaa.G
end

section
namespace Go.Proofs.Ytcoepebmmgcplaa.G
open Go.RowKit Go.Proofs.YtcoepebmmgcplaaW.PrintWords Go.Proofs.YtcoepebmmgcplaaW.PrintLast Go.Proofs.YtcoepebmmgcplaaW.PrintMore
attribute [local go_sem] max2_int min2_int max_two min_two max_three min_three max_four min_four
set_option linter.unusedVariables false
set_option linter.unusedSimpArgs false
def impl_allCode.f (l0 : List (List (S40))) : Option (Int) := (slices_ContainsFunc_Log_Log__impl_allCode_1.f l0).bind fun t101 => (if t101 = true then (some 1) else ((impl_size_Log.f l0).bind fun t102 => ((impl_within.f t102 1 8).bind fun t103 => ((impl_unless.f t103 2).bind fun t104 => (some t104)))))
set_option maxHeartbeats 8000000 in
set_option maxRecDepth 100000 in
theorem impl_allCode.calls (A0 : Option Addr) (c0 : Nat) (l0 : List (List (S40))) (r : Int) (w : World) (hr0 : Kd.C (Kd.slice 40 k40) w A0 l0.length l0) (hc0 : l0.length ≤ c0) (h : impl_allCode.f l0 = some r) :
  Calls Try.prog 21 #[.slice A0 l0.length c0] w fun e w' => e = .returned (.int .i64 r) ∧ Below w.heap.size w w' := by
 have HR0 := Aside0.mk hr0;have HC0 := Aside0.mk hc0;clear hr0 hc0;have HB := Aside0.mk (Below.refl w.heap.size w);have H : ((slices_ContainsFunc_Log_Log__impl_allCode_1.f l0).bind fun t101 => (if t101 = true then (some 1) else ((impl_size_Log.f l0).bind fun t102 => ((impl_within.f t102 1 8).bind fun t103 => ((impl_unless.f t103 2).bind fun t104 => (some t104)))))) = some r := h;clear h;replace H := Option.bind_eq_some_iff.mp H;obtain ⟨t101,A20,H⟩ := H;replace H : (if t101 = true then (some 1) else ((impl_size_Log.f l0).bind fun t102 => ((impl_within.f t102 1 8).bind fun t103 => ((impl_unless.f t103 2).bind fun t104 => (some t104))))) = some r := H;have A2 := Aside0.mk A20;clear A20
 by_cases c3 : t101 = true
 ·subst c3
  have H1 : (some 1) = some r := by rw [if_pos rfl] at H;exact H
  clear H;have H := H1;clear H1;obtain rfl := Option.some.inj H
  go_enter Try.func21,Try.ntmps21
  go_wp2_with (first | ((with_reducible refine gate_callee (f := 36) rfl ?_);refine goesL_ (some 4) rfl rfl Try.func36 (by kernel_rfl) rfl #[.slice A0 l0.length c0,.func (.func 37) #[] #[]] rfl (by (try simp only [List.map_toArray,List.map_cons,List.map_nil]);first | done | rfl | (simp only [List.length_drop,List.length_take];rfl)) ?_;(with_reducible refine (slices_ContainsFunc_Log_Log__impl_allCode_1.calls _ _ l0 true _ ?side1 ?side2 A2.out).mono ?_);(case side1 => repeat (first | exact HR0.out | (with_reducible refine Kd.C_alloc ?_ _) | (with_reducible refine Kd.C_drewN ?_ _) | (with_reducible refine Kd.C_drew ?_)));(case side2 => exact HC0.out);rintro e w4 ⟨rfl,hb⟩;refine ⟨_,rfl,?_⟩;have n0_ := Aside0.mk (below_step (by repeat (first | (with_reducible first | exact HB.out | apply below_alloc | apply pw_below_drewN | apply below_drew1) | exact HB.out)) hb);clear HB;have HB := n0_;clear n0_;(try clear hb);(try clear hb2);(try clear hk);(try clear hi)))
  go_ret
  exact ⟨by first | rfl | (simp [errW_none,errW_some,IntKind.wrap_i64,wrap64];done) | (simp [errW_none,errW_some] <;> rfl) | (simp [*,errW_none,errW_some] <;> rfl),by repeat (first | (with_reducible first | exact HB.out | apply below_alloc | apply pw_below_drewN | apply below_drew1) | exact HB.out)⟩
 ·replace c3 := Bool.eq_false_iff.mpr c3;subst c3
  have H1 : ((impl_size_Log.f l0).bind fun t102 => ((impl_within.f t102 1 8).bind fun t103 => ((impl_unless.f t103 2).bind fun t104 => (some t104)))) = some r := by rw [if_neg (show ¬ (false = true) by decide)] at H;exact H
  clear H;have H := H1;clear H1;replace H := Option.bind_eq_some_iff.mp H;obtain ⟨t102,A50,H⟩ := H;replace H : ((impl_within.f t102 1 8).bind fun t103 => ((impl_unless.f t103 2).bind fun t104 => (some t104))) = some r := H;have A5 := Aside0.mk A50;clear A50;replace H := Option.bind_eq_some_iff.mp H;obtain ⟨t103,A60,H⟩ := H;replace H : ((impl_unless.f t103 2).bind fun t104 => (some t104)) = some r := H;have A6 := Aside0.mk A60;clear A60;replace H := Option.bind_eq_some_iff.mp H;obtain ⟨t104,A70,H⟩ := H;replace H : (some t104) = some r := H;have A7 := Aside0.mk A70;clear A70;obtain rfl := Option.some.inj H
  go_enter Try.func21,Try.ntmps21
  go_wp2_with (first | ((with_reducible refine gate_callee (f := 36) rfl ?_);refine goesL_ (some 4) rfl rfl Try.func36 (by kernel_rfl) rfl #[.slice A0 l0.length c0,.func (.func 37) #[] #[]] rfl (by (try simp only [List.map_toArray,List.map_cons,List.map_nil]);first | done | rfl | (simp only [List.length_drop,List.length_take];rfl)) ?_;(with_reducible refine (slices_ContainsFunc_Log_Log__impl_allCode_1.calls _ _ l0 false _ ?side1 ?side2 A2.out).mono ?_);(case side1 => repeat (first | exact HR0.out | (with_reducible refine Kd.C_alloc ?_ _) | (with_reducible refine Kd.C_drewN ?_ _) | (with_reducible refine Kd.C_drew ?_)));(case side2 => exact HC0.out);rintro e w8 ⟨rfl,hb⟩;refine ⟨_,rfl,?_⟩;have n0_ := Aside0.mk (below_step (by repeat (first | (with_reducible first | exact HB.out | apply below_alloc | apply pw_below_drewN | apply below_drew1) | exact HB.out)) hb);clear HB;have HB := n0_;clear n0_;(try clear hb);(try clear hb2);(try clear hk);(try clear hi)) | ((with_reducible refine gate_callee (f := 24) rfl ?_);refine goesL_ (some 6) rfl rfl Try.func24 (by kernel_rfl) rfl #[.slice A0 l0.length c0] rfl (by (try simp only [List.map_toArray,List.map_cons,List.map_nil]);first | done | rfl | (simp only [List.length_drop,List.length_take];rfl)) ?_;(with_reducible refine (impl_size_Log.calls _ _ l0 t102 _ ?side1 ?side2 A5.out).mono ?_);(case side1 => repeat (first | exact (Kd.C_below HR0.out HB.out) | (with_reducible refine Kd.C_alloc ?_ _) | (with_reducible refine Kd.C_drewN ?_ _) | (with_reducible refine Kd.C_drew ?_)));(case side2 => exact HC0.out);rintro e w' ⟨rfl,⟨nd,rfl⟩⟩;refine ⟨_,rfl,?_⟩) | ((with_reducible refine gate_callee (f := 23) rfl ?_);refine goesL_ (some 7) rfl rfl Try.func23 (by kernel_rfl) rfl #[.int .i64 t102,.int .i64 1,.int .i64 8] rfl (by (try simp only [List.map_toArray,List.map_cons,List.map_nil]);first | done | rfl | (simp only [List.length_drop,List.length_take];rfl)) ?_;(with_reducible refine (impl_within.calls t102 1 8 t103 _ A6.out).mono ?_);rintro e w' ⟨rfl,⟨nd,rfl⟩⟩;refine ⟨_,rfl,?_⟩) | ((with_reducible refine gate_callee (f := 22) rfl ?_);refine goesL_ (some 8) rfl rfl Try.func22 (by kernel_rfl) rfl #[.bool t103,.int .i64 2] rfl (by (try simp only [List.map_toArray,List.map_cons,List.map_nil]);first | done | rfl | (simp only [List.length_drop,List.length_take];rfl)) ?_;(with_reducible refine (impl_unless.calls t103 2 t104 _ A7.out).mono ?_);rintro e w' ⟨rfl,⟨nd,rfl⟩⟩;refine ⟨_,rfl,?_⟩))
  go_ret
  exact ⟨by first | rfl | (simp [errW_none,errW_some,IntKind.wrap_i64,wrap64];done) | (simp [errW_none,errW_some] <;> rfl) | (simp [*,errW_none,errW_some] <;> rfl),by repeat (first | (with_reducible first | exact HB.out | apply below_alloc | apply pw_below_drewN | apply below_drew1) | exact HB.out)⟩
end Go.Proofs.Ytcoepebmmgcplaa.G
end

section
namespace Go.Proofs.Ytcoepebmmgcplaa.G
open Go.RowKit Go.Proofs.YtcoepebmmgcplaaW.PrintWords Go.Proofs.YtcoepebmmgcplaaW.PrintLast Go.Proofs.YtcoepebmmgcplaaW.PrintMore
attribute [local go_sem] max2_int min2_int max_two min_two max_three min_three max_four min_four
set_option linter.unusedVariables false
set_option linter.unusedSimpArgs false
def impl_firstOf.l0 : Nat → List Int → Int → Int → Option (Int)
 | 0,_,_,_ => none
 | k + 1,x5,x6,x7 => if x7 < x6 then (if 0 ≤ x7 then (if x7 < (x5.length : Int) then (if (rd x5 x7) = 0 then (impl_firstOf.l0 k x5 x6 (wrap64 (x7 + 1))) else (some (rd x5 x7))) else (none)) else (none)) else (some 0)
def impl_firstOf.f (k : Nat) (l0 : List Int) : Option (Int) := impl_firstOf.l0 k l0 (l0.length : Int) 0
set_option maxHeartbeats 8000000 in
set_option maxRecDepth 100000 in
theorem impl_firstOf.calls (k : Nat) (A0 : Option Addr) (c0 : Nat) (l0 : List Int) (r : Int) (w : World) (hr0 : Kd.C (Kd.int .i64) w A0 l0.length l0) (hc0 : l0.length ≤ c0) (h : impl_firstOf.f k l0 = some r) :
  Calls Try.prog 20 #[.slice A0 l0.length c0] w fun e w' => e = .returned (.int .i64 r) ∧ Drawn0 w w' := by
 have HR0 := Aside0.mk hr0;have HC0 := Aside0.mk hc0;clear hr0 hc0;have H : (impl_firstOf.l0 k l0 (l0.length : Int) 0) = some r := h;clear h;have H' := Aside0.mk H;clear H
 go_enter Try.func20,Try.ntmps20
 go_wp2
 go_loopg [7] k (fun kq v7 w' => ∃ (x7_1 : Int),v7 = .int .i64 x7_1 ∧ Aside0 (impl_firstOf.l0 kq l0 (l0.length : Int) x7_1 = some r) ∧ Aside0 (kq ≤ k) ∧ Drawn0 w w')
 case atStart => exact ⟨(0),(by first | rfl | (simp only [IntKind.wrap_i64,wrap64];done) | (simp;done) | (simp [*];done)),H',⟨Nat.le_refl _⟩,by repeat (first | exact Drawn0.refl _ | apply Drawn0.step)⟩
 case round =>
  clear H';obtain ⟨x7_1,rfl,HA,HK1,⟨m1,rfl⟩⟩ := hrel
  cases gk with
  | zero => exact absurd HA.out (by simp [impl_firstOf.l0])
  | succ k1 =>
   have H := HA.out;clear HA;simp only [impl_firstOf.l0] at H
   by_cases c2 : x7_1 < (l0.length : Int)
   ·rw [if_pos c2] at H;have c2b0 : decide (x7_1 < (l0.length : Int)) = true := decide_eq_true c2;clear c2
    by_cases c3 : 0 ≤ x7_1
    ·rw [if_pos c3] at H;have c3b0 : decide (0 ≤ x7_1) = true := decide_eq_true c3;clear c3
     by_cases c4 : x7_1 < (l0.length : Int)
     ·rw [if_pos c4] at H;have c4b0 : decide (x7_1 < (l0.length : Int)) = true := decide_eq_true c4;clear c4
      by_cases c5 : (rd l0 x7_1) = 0
      ·rw [if_pos c5] at H;have c5b0 : ((rd l0 x7_1) == 0) = true := beq_iff_eq.mpr c5;have c5b1 : ((rd l0 x7_1) != 0) = false := bne_eq_false_iff_eq.mpr c5;clear c5;have H' := Aside0.mk H;clear H;have p101 : 0 ≤ (x7_1 : Int) := of_decide_eq_true (by first | (with_reducible assumption) | assumption);have q101 : x7_1 < (l0.length : Int) := of_decide_eq_true (by first | (with_reducible assumption) | assumption);obtain ⟨ad101,e101,hx101_0⟩ := Kd.at_int HR0.out x7_1 p101 q101;cases e101;replace p101 := eq_true p101;replace q101 := eq_true q101
       go_wp2
       go_roundg k1
       case measure => have := HK1.out;omega
       case rel => exact ⟨(wrap64 (x7_1 + 1)),(by first | rfl | (simp only [IntKind.wrap_i64,wrap64];done) | (simp;done) | (simp [*];done)),H',⟨by have := HK1.out;omega⟩,by repeat (first | exact Drawn0.refl _ | apply Drawn0.step)⟩
      ·rw [if_neg c5] at H;have c5b0 : ((rd l0 x7_1) == 0) = false := beq_eq_false_iff_ne.mpr c5;have c5b1 : ((rd l0 x7_1) != 0) = true := bne_iff_ne.mpr c5;obtain rfl := Option.some.inj H;have p101 : 0 ≤ (x7_1 : Int) := of_decide_eq_true (by first | (with_reducible assumption) | assumption);have q101 : x7_1 < (l0.length : Int) := of_decide_eq_true (by first | (with_reducible assumption) | assumption);obtain ⟨ad101,e101,hx101_0⟩ := Kd.at_int HR0.out x7_1 p101 q101;cases e101;replace p101 := eq_true p101;replace q101 := eq_true q101
       go_wp2
       go_ret
       exact ⟨by first | rfl | (simp only [IntKind.wrap_i64,wrap64];done) | (simp;done) | (simp [*];done),by repeat (first | exact Drawn0.refl _ | apply Drawn0.step)⟩
     ·rw [if_neg c4] at H;exact absurd H (by simp)
    ·rw [if_neg c3] at H;exact absurd H (by simp)
   ·rw [if_neg c2] at H;have c2b0 : decide (x7_1 < (l0.length : Int)) = false := decide_eq_false c2;clear c2;obtain rfl := Option.some.inj H
    go_wp2
    go_ret
    exact ⟨by first | rfl | (simp only [IntKind.wrap_i64,wrap64];done) | (simp;done) | (simp [*];done),by repeat (first | exact Drawn0.refl _ | apply Drawn0.step)⟩
end Go.Proofs.Ytcoepebmmgcplaa.G
end

section
namespace Go.Proofs.Ytcoepebmmgcplaa.G
open Go.RowKit Go.Proofs.YtcoepebmmgcplaaW.PrintWords Go.Proofs.YtcoepebmmgcplaaW.PrintLast Go.Proofs.YtcoepebmmgcplaaW.PrintMore
attribute [local go_sem] max2_int min2_int max_two min_two max_three min_three max_four min_four
set_option linter.unusedVariables false
set_option linter.unusedSimpArgs false
theorem eqA40 (d : Nat) (w : World) (x0 y0 : Int) (x1 y1 : Int) (x2 y2 : Bool) :
    (Op.equalIn (d + 2) 40 (.agg #[.int .i64 x0, .int .i64 x1, .bool x2]) (.agg #[.int .i64 y0, .int .i64 y1, .bool y2])).run Try.prog w = .ok (x0 == y0 && (x1 == y1 && (x2 == y2))) w := by
  refine eqA_of Try.underlying40 (by kernel_rfl) ?_
  refine eqf_cons (by rfl) (by go_simp; rfl) (by go_simp; rfl) (by go_simp) ?_
  refine eqf_cons (by rfl) (by go_simp; rfl) (by go_simp; rfl) (by go_simp) ?_
  exact eqf_last (by rfl) (by go_simp; rfl) (by go_simp; rfl) (by go_simp)
end Go.Proofs.Ytcoepebmmgcplaa.G
end

section
namespace Go.Proofs.Ytcoepebmmgcplaa.G
open Go.RowKit Go.Proofs.YtcoepebmmgcplaaW.PrintWords Go.Proofs.YtcoepebmmgcplaaW.PrintLast Go.Proofs.YtcoepebmmgcplaaW.PrintMore
attribute [local go_sem] max2_int min2_int max_two min_two max_three min_three max_four min_four
set_option linter.unusedVariables false
set_option linter.unusedSimpArgs false
attribute [local go_sem high] eqA40
def slices_Compact_Log_Entry.eq (x y : S40) : Bool := x.f0 == y.f0 && (x.f1 == y.f1 && (x.f2 == y.f2))
def slices_Compact_Log_Entry.to (l : List S40) : Nat → List S40
 | 0 => []
 | j + 1 => if j = 0 ∨ slices_Compact_Log_Entry.eq (l.getD j z40) (l.getD (j - 1) z40) = false then slices_Compact_Log_Entry.to l j ++ [l.getD j z40] else slices_Compact_Log_Entry.to l j
def slices_Compact_Log_Entry.f (l0 : List S40) : Option (List S40) := some (slices_Compact_Log_Entry.to l0 l0.length)
theorem slices_Compact_Log_Entry.zc {m : Nat} (u : Value) (hu : u ∈ (Builtin.zeroCells #[.int .i64 0,.int .i64 0,.bool false] m).toList) : u.oneCell' = true := by
 rw [Array.mem_toList_iff] at hu
 unfold Builtin.zeroCells at hu
 obtain ⟨i,_,rfl⟩ := Array.mem_map.1 hu;have h : i % (#[.int .i64 0,.int .i64 0,.bool false] : Array Value).size < 3 := Nat.mod_lt _ (by decide);generalize i % (#[.int .i64 0,.int .i64 0,.bool false] : Array Value).size = q at *
 rcases (by omega : q = 0 ∨ q = 1 ∨ q = 2) with rfl | rfl | rfl <;> rfl
theorem slices_Compact_Log_Entry.same {l0 xs : List S40} {i j : Nat} (h : xs.drop i = l0.drop i) (hij : i ≤ j) : xs.getD j z40 = l0.getD j z40 := by
 have h1 := congrArg (fun l => l[j - i]?) h;simp only [List.getElem?_drop] at h1;rw [show i + (j - i) = j by omega] at h1;rw [List.getD_eq_getElem?_getD,h1,List.getD_eq_getElem?_getD]
theorem slices_Compact_Log_Entry.cmp {l0 xs : List S40} {i p : Nat} (hi : i ≤ p) (hp : p + 1 < l0.length) (h1 : xs.length = l0.length) (h2 : xs.take i = slices_Compact_Log_Entry.to l0 (p + 1)) (h3 : xs.drop i = l0.drop i) :
  (slices_Compact_Log_Entry.eq (xs.getD (p + 1) z40) (xs.getD p z40) = true → xs.take i = slices_Compact_Log_Entry.to l0 (p + 2)) ∧ (slices_Compact_Log_Entry.eq (xs.getD (p + 1) z40) (xs.getD p z40) = false → (xs.set i (xs.getD (p + 1) z40)).take (i + 1) = slices_Compact_Log_Entry.to l0 (p + 2)) ∧ (xs.set i (xs.getD (p + 1) z40)).drop (i + 1) = l0.drop (i + 1) := by
 have ex := slices_Compact_Log_Entry.same h3 (show i ≤ p + 1 by omega);have ey := slices_Compact_Log_Entry.same h3 hi;rw [ex,ey];refine ⟨fun h => ?_,fun h => ?_,?_⟩
 ·rw [h2];simp only [slices_Compact_Log_Entry.to,Nat.add_sub_cancel,h]
  simp
 ·rw [List.take_succ_eq_append_getElem (by simp;omega),List.take_set_of_le (Nat.le_refl _),h2];simp only [slices_Compact_Log_Entry.to,Nat.add_sub_cancel,h]
  simp
 ·rw [List.drop_set_of_lt (by omega)];have h4 := congrArg (List.drop 1) h3
  simpa [List.drop_drop] using h4
theorem slices_Compact_Log_Entry.get {l0 : List S40} {j : Nat} (h : j < l0.length) : l0.getD j z40 = l0[j] := by
 rw [List.getD_eq_getElem?_getD,List.getElem?_eq_getElem h];rfl
theorem slices_Compact_Log_Entry.one {l0 : List S40} (h : 1 ≤ l0.length) : slices_Compact_Log_Entry.to l0 (0 + 1) = l0.take (0 + 1) := by
 rcases l0 with _ | ⟨x,l⟩
 ·simp at h
 ·simp [slices_Compact_Log_Entry.to]
theorem slices_Compact_Log_Entry.more {l0 : List S40} {m : Nat} (h : m + 1 < l0.length) (h1 : slices_Compact_Log_Entry.to l0 (m + 1) = l0.take (m + 1)) (h2 : slices_Compact_Log_Entry.eq (l0.getD (m + 1) z40) (l0.getD m z40) = false) : slices_Compact_Log_Entry.to l0 (m + 2) = l0.take (m + 2) := by
 have e : slices_Compact_Log_Entry.to l0 (m + 2) = slices_Compact_Log_Entry.to l0 (m + 1) ++ [l0.getD (m + 1) z40] := by
  conv => lhs;unfold slices_Compact_Log_Entry.to
  simp only [Nat.add_sub_cancel,h2,or_true,if_true]
 rw [e,h1,slices_Compact_Log_Entry.get h,← List.take_succ_eq_append_getElem h]
theorem slices_Compact_Log_Entry.less {l0 : List S40} {m : Nat} (h1 : slices_Compact_Log_Entry.to l0 (m + 1) = l0.take (m + 1)) (h2 : slices_Compact_Log_Entry.eq (l0.getD (m + 1) z40) (l0.getD m z40) = true) : slices_Compact_Log_Entry.to l0 (m + 2) = l0.take (m + 1) := by
 have e : slices_Compact_Log_Entry.to l0 (m + 2) = slices_Compact_Log_Entry.to l0 (m + 1) := by
  conv => lhs;unfold slices_Compact_Log_Entry.to
  simp only [Nat.add_sub_cancel,h2]
  simp
 rw [e,h1]
set_option maxHeartbeats 4000000 in
set_option maxRecDepth 100000 in
theorem slices_Compact_Log_Entry.calls (P0_ : Nat → Prop) (u9000_ : Value) (l0 : List (S40)) (r : List S40) (w0 w : World) (hB : Below w0.heap.size w0 w) (ho0 : Kd.R k40 40 w w0.heap.size P0_ u9000_ l0) (h : slices_Compact_Log_Entry.f l0 = some r) :
  Calls Try.prog 29 #[u9000_] w fun e w' => ∃ v0_ : Value,e = .returned (v0_) ∧ Kd.R k40 40 w' w0.heap.size (fun k_ => (P0_ k_ ∨ w.heap.size ≤ k_)) v0_ r ∧ Below w0.heap.size w0 w' ∧ Kept w w' (fun k_ => P0_ k_) := by
 obtain rfl := Option.some.inj h;clear h;obtain ⟨A0,c,rfl⟩ := Kd.R_slice ho0;obtain ⟨_,hc,hC⟩ := Kd.R_reads' ho0;have hl : l0.length ≤ 9223372036854775807 := hC.2.1;have hu := Try.underlying40;have HO := Aside0.mk ho0;have HB := Aside0.mk hB
 by_cases hl2 : l0.length < 2
 ·have hd : decide ((l0.length : Int) < 2) = true := decide_eq_true (by omega)
  have he : slices_Compact_Log_Entry.to l0 l0.length = l0 := by
   rcases l0 with _ | ⟨x,_ | ⟨y,l⟩⟩
   ·rfl
   ·rfl
   ·exact absurd hl2 (by simp)
  have HE := Aside0.mk he;clear ho0 hB hC he
  go_enter Try.func29,Try.ntmps29
  go_wp2
  go_ret
  rw [HE.out];exact ⟨_,rfl,Kd.R_mono HO.out (fun _ hk => .inl hk),HB.out,Kept.refl w _⟩
 ·have hd : decide ((l0.length : Int) < 2) = false := decide_eq_false (by omega);obtain ⟨b0,c0,e0,hbg,hg,cells,hcells⟩ := Kd.R_form ho0 (by omega);cases e0;have GB := Aside0.mk hbg;have PG := Aside0.mk (ho0.1 b0 rfl);generalize hn : l0.length = n at *;have Hn := Aside0.mk hn
  have hn2 : 2 ≤ n := by omega
  clear hn ho0 hB hC hcells hbg hl2
  go_enter Try.func29,Try.ntmps29
  go_wp2
  go_loopg [3] n (fun gg s3 wr => ∃ m : Nat,m + 1 ≤ n ∧ n - (m + 1) ≤ gg ∧ s3 = .int .i64 ((m : Int) + 1) ∧ Aside0 (slices_Compact_Log_Entry.to l0 (m + 1) = l0.take (m + 1)) ∧ Aside0 (Kd.R k40 40 wr w0.heap.size P0_ (.slice (some ⟨b0,0,none⟩) n c) l0) ∧ Aside0 (Below w0.heap.size w0 wr) ∧ Aside0 (Kept w wr P0_))
  case atStart =>
   refine ⟨0,by omega,by omega,by go_num,⟨slices_Compact_Log_Entry.one (by rw [Hn.out];omega)⟩,⟨by (with_reducible repeat (first | apply Kd.R_alloc | apply Kd.R_drewN | apply Kd.R_drew));exact HO.out⟩,⟨by repeat (first | exact HB.out | apply below_drew1)⟩,⟨by repeat (first | exact Kept.refl w _ | apply Kept.drew)⟩⟩
  case round =>
   obtain ⟨m,hm,hg',rfl,HX,HOr,HBr,HKr⟩ := hrel;clear HO HB
   by_cases hlt : m + 1 < n
   ·have hltz : (m : Int) + 1 < (n : Int) := by omega
    have hw1 : IntKind.i64.wrap ((m : Int) + 1 - 1) = (m : Int) := by rw [IntKind.wrap_i64];omega
    obtain ⟨ceR,hclR,hMR,hccR,hfrR⟩ := Kd.R_elem HOr.out z40 ((m + 1 : Nat) : Int) (by omega) (by omega);obtain rfl := k40_openM hMR;have hx0 := hccR 0 _ rfl
    try simp only [show (k40).sz = 3 from rfl,Nat.mul_one,Nat.add_zero] at hx0
    have hx1 := hccR 1 _ rfl
    try simp only [show (k40).sz = 3 from rfl,Nat.mul_one,Nat.add_zero] at hx1
    have hx2 := hccR 2 _ rfl
    try simp only [show (k40).sz = 3 from rfl,Nat.mul_one,Nat.add_zero] at hx2
    clear hclR hccR hfrR hMR;obtain ⟨ceR,hclR,hMR,hccR,hfrR⟩ := Kd.R_elem HOr.out z40 (m : Int) (by omega) (by omega);obtain rfl := k40_openM hMR;have hy0 := hccR 0 _ rfl
    try simp only [show (k40).sz = 3 from rfl,Nat.mul_one,Nat.add_zero] at hy0
    have hy1 := hccR 1 _ rfl
    try simp only [show (k40).sz = 3 from rfl,Nat.mul_one,Nat.add_zero] at hy1
    have hy2 := hccR 2 _ rfl
    try simp only [show (k40).sz = 3 from rfl,Nat.mul_one,Nat.add_zero] at hy2
    clear hclR hccR hfrR hMR;simp only [Int.toNat_natCast] at hx0 hx1 hx2 hy0 hy1 hy2
    have hyy : ∀ j : Nat,rdOf z40 l0 (j : Int) = l0.getD j z40 := fun _ => rfl
    try simp only [hyy] at hx0 hx1 hx2 hy0 hy1 hy2
    clear hyy
    have hX2 : slices_Compact_Log_Entry.eq (l0.getD (m + 1) z40) (l0.getD m z40) = false → slices_Compact_Log_Entry.to l0 (m + 2) = l0.take (m + 2) := fun he => slices_Compact_Log_Entry.more (by rw [Hn.out];omega) HX.out he
    have hX3 : slices_Compact_Log_Entry.eq (l0.getD (m + 1) z40) (l0.getD m z40) = true → slices_Compact_Log_Entry.to l0 (m + 2) = l0.take (m + 1) := fun he => slices_Compact_Log_Entry.less HX.out he
    have HX2 := Aside0.mk hX2;have HX3 := Aside0.mk hX3;clear hX2 hX3
    have ht : ((m : Int) + 1).toNat = m + 1 := by omega
    have hp : (0 ≤ (m : Int) + 1) = True := eq_true (by omega);have hp1 : (0 ≤ (m : Int)) = True := eq_true (by omega);have hp2 : ((m : Int) < (n : Int)) = True := eq_true (by omega)
    cases hq : slices_Compact_Log_Entry.eq (l0.getD (m + 1) z40) (l0.getD m z40) with
    | false =>
     have HQ := Aside0.mk hq
     unfold slices_Compact_Log_Entry.eq at hq
     generalize l0.getD (m + 1) z40 = x at *;generalize l0.getD m z40 = y at *
     go_wp2
     repeat (go_quiet (fail);try go_wp2)
     go_roundg (n - (m + 2))
     case measure => omega
     case rel => exact ⟨m + 1,by omega,by omega,by go_num,⟨HX2.out HQ.out⟩,⟨by (with_reducible repeat (first | apply Kd.R_alloc | apply Kd.R_drewN | apply Kd.R_drew));exact HOr.out⟩,⟨by repeat (first | exact HBr.out | apply pw_below_drewN | apply below_drew1)⟩,⟨by repeat (first | exact HKr.out | apply Kept.drewN | apply Kept.drew)⟩⟩
    | true =>
     have HQ := Aside0.mk hq
     unfold slices_Compact_Log_Entry.eq at hq
     generalize l0.getD (m + 1) z40 = x at *;generalize l0.getD m z40 = y at *;have hcm : (c = m + 1) = False := eq_false (by omega);have hcm1 : ((m : Int) + 1 ≤ (n : Int)) = True := eq_true (by omega);have hcm2 : ((m : Int) + 1 ≤ (c : Int)) = True := eq_true (by omega);have hcm3 : (m + 1 ≤ c) = True := eq_true (by omega);have hcm4 : (m + 1 ≤ n) = True := eq_true (by omega)
     go_wp2
     repeat (go_quiet (fail);try go_wp2)
     have HX4 := Aside0.mk (HX3.out HQ.out);clear HX2 HX3 HQ HX hg' hltz;clear hx0 hx1 hx2 hy0 hy1 hy2 hcm hcm1 hcm2 hcm3 hcm4 hp hp1 hp2 ht hw1 hq;obtain ⟨q,hqe⟩ : ∃ q,q = m + 1 := ⟨_,rfl⟩
     have hqi : ((m : Int) + 1) = (q : Int) := by omega
     rw [show m + 2 = q + 1 by omega,← hqe] at HX4;simp only [hqi];rw [← hqe]
     have hqn : q < n := by omega
     clear hqi hqe hm hlt;obtain ⟨nn,hnn0⟩ : ∃ nn,nn = n - q := ⟨_,rfl⟩;rw [← hnn0]
     have hnn : q + nn = n := by omega
     clear hnn0
     go_loopg [3,5] nn (fun gg s3 s5 wr => ∃ (i t : Nat) (xs : List S40),t + 1 ≤ nn ∧ nn - (t + 1) ≤ gg ∧ i ≤ q + t ∧ s3 = .int .i64 i ∧ s5 = .int .i64 ((t : Int) + 1) ∧ Aside0 (xs.length = n ∧ xs.take i = slices_Compact_Log_Entry.to l0 (q + t + 1) ∧ xs.drop i = l0.drop i) ∧ Aside0 (Kd.R k40 40 wr w0.heap.size P0_ (.slice (some ⟨b0,0,none⟩) n c) xs) ∧ Aside0 (Below w0.heap.size w0 wr) ∧ Aside0 (Kept w wr P0_))
     case atStart => exact ⟨q,0,l0,by omega,by omega,by omega,rfl,by go_num,⟨Hn.out,HX4.out.symm,rfl⟩,⟨by (with_reducible repeat (first | apply Kd.R_alloc | apply Kd.R_drewN | apply Kd.R_drew));exact HOr.out⟩,⟨by repeat (first | exact HBr.out | apply pw_below_drewN | apply below_drew1)⟩,⟨by repeat (first | exact HKr.out | apply Kept.drewN | apply Kept.drew)⟩⟩
     case round =>
      clear HOr HBr HKr HX4;obtain ⟨i,t,xs,htn,hg2,hit,rfl,rfl,HX,HOr,HBr,HKr⟩ := hrel
      by_cases hlt : t + 1 < nn
      ·have hltz : (t : Int) + 1 < (nn : Int) := by omega
       have hw1 : IntKind.i64.wrap ((t : Int) + 1 - 1) = (t : Int) := by rw [IntKind.wrap_i64];omega
       have hlen := HX.out.1;obtain ⟨ceR,hclR,hMR,hccR,hfrR⟩ := Kd.R_elem HOr.out z40 ((q + t + 1 : Nat) : Int) (by omega) (by omega);obtain rfl := k40_openM hMR;have hx0 := hccR 0 _ rfl;have hx1 := hccR 1 _ rfl;have hx2 := hccR 2 _ rfl;clear hclR hccR hfrR hMR;obtain ⟨ceR,hclR,hMR,hccR,hfrR⟩ := Kd.R_elem HOr.out z40 ((q + t : Nat) : Int) (by omega) (by omega);obtain rfl := k40_openM hMR;have hy0 := hccR 0 _ rfl;have hy1 := hccR 1 _ rfl;have hy2 := hccR 2 _ rfl;clear hclR hccR hfrR hMR
       have e1 : (q + t + 1) * 3 = q * 3 + (t + 1) * 3 := by omega
       have e2 : (q + t) * 3 = q * 3 + t * 3 := by omega
       simp only [Int.toNat_natCast,show (k40).sz = 3 from rfl,Nat.add_zero,e1,e2] at hx0 hx1 hx2 hy0 hy1 hy2;clear e1 e2;have HF := Aside0.mk (slices_Compact_Log_Entry.cmp (l0 := l0) (xs := xs) (i := i) (p := q + t) hit (by rw [Hn.out];omega) (by rw [Hn.out];exact HX.out.1) HX.out.2.1 HX.out.2.2)
       have ht : ((t : Int) + 1).toNat = t + 1 := by omega
       have hp : (0 ≤ (t : Int) + 1) = True := eq_true (by omega);have hp1 : (0 ≤ (t : Int)) = True := eq_true (by omega);have hp2 : ((t : Int) < (nn : Int)) = True := eq_true (by omega)
       cases hq : slices_Compact_Log_Entry.eq (xs.getD (q + t + 1) z40) (xs.getD (q + t) z40) with
       | true =>
        have HQ := Aside0.mk hq
        unfold slices_Compact_Log_Entry.eq at hq
        generalize xs.getD (q + t + 1) z40 = x' at *;generalize xs.getD (q + t) z40 = y' at *
        go_wp2
        repeat (go_quiet (fail);try go_wp2)
        go_roundg (nn - (t + 2))
        case measure => omega
        case rel => exact ⟨i,t + 1,xs,by omega,by omega,by omega,rfl,by go_num,⟨hlen,HF.out.1 HQ.out,HX.out.2.2⟩,⟨by (with_reducible repeat (first | apply Kd.R_alloc | apply Kd.R_drewN | apply Kd.R_drew));exact HOr.out⟩,⟨by repeat (first | exact HBr.out | apply pw_below_drewN | apply below_drew1)⟩,⟨by repeat (first | exact HKr.out | apply Kept.drewN | apply Kept.drew)⟩⟩
       | false =>
        have HQ := Aside0.mk hq
        unfold slices_Compact_Log_Entry.eq at hq
        generalize xs.getD (q + t + 1) z40 = x' at *;generalize xs.getD (q + t) z40 = y' at *
        have hiz : (i : Int) < (n : Int) := by omega
        have HV0 := Aside0.mk hx0;have HV1 := Aside0.mk hx1;have HV2 := Aside0.mk hx2
        go_wp2
        go_quiet (fail)
        obtain ⟨w9,hw9⟩ : ∃ w9,w9 = wr.drewN nq := ⟨_,rfl⟩;have HO9 := Aside0.mk (show Kd.R k40 40 w9 w0.heap.size P0_ (.slice (some ⟨b0,0,none⟩) n c) xs from by rw [hw9];(with_reducible repeat (first | apply Kd.R_drewN | apply Kd.R_drew));exact HOr.out);have HB9 := Aside0.mk (show Below w0.heap.size w0 w9 from by rw [hw9];repeat (first | exact HBr.out | apply pw_below_drewN | apply below_drew1));have HK9 := Aside0.mk (show Kept w w9 P0_ from by rw [hw9];repeat (first | exact HKr.out | apply Kept.drewN | apply Kept.drew))
        have hz0 : w9.cell? ⟨b0,q * 3 + (t + 1) * 3,none⟩ = some (.int .i64 x'.f0) := by rw [hw9];exact HV0.out
        have hz1 : w9.cell? ⟨b0,q * 3 + (t + 1) * 3 + 1,none⟩ = some (.int .i64 x'.f1) := by rw [hw9];exact HV1.out
        have hz2 : w9.cell? ⟨b0,q * 3 + (t + 1) * 3 + 2,none⟩ = some (.bool x'.f2) := by rw [hw9];exact HV2.out
        rw [← hw9];clear hw9 hx0 hx1 hx2 hy0 hy1 hy2 HOr HBr HKr HV0 HV1 HV2;obtain ⟨ce,hcl,hM,hcc,hfr⟩ := Kd.R_elem HO9.out z40 (i : Int) (by omega) (by omega);obtain rfl := k40_openM hM;have HP9 := Aside0.mk (Kd.R_seg HO9.out (i : Int) (by omega) (by omega) (seg := [.int .i64 x'.f0,.int .i64 x'.f1,.bool x'.f2]) (j := 0) hcl hcc (show 3 ≤ 3 from by decide) (x' := x') (k40_mkM _ _ _ x') (fun _ hk => hk));have hr0 := hcc 0 _ rfl;have hr1 := hcc 1 _ rfl;have hr2 := hcc 2 _ rfl;have hs0 := hfr 0;have hs1 := hfr 1;have hs2 := hfr 2;simp only [Int.toNat_natCast,show (k40).sz = 3 from rfl,Nat.add_zero] at hr0 hr1 hr2 hs0 hs1 hs2;clear hcl hcc hfr hM
        go_wp2_with (first | ((with_reducible refine gate_store (t := 40) (p := 51) rfl ?_);refine store_event (t := 40) (p := 51) (v := ?vo) (w1 := (((w9.setCell ⟨b0,i * 3,none⟩ (.int .i64 x'.f0)).setCell ⟨b0,i * 3 + 1,none⟩ (.int .i64 x'.f1)).setCell ⟨b0,i * 3 + 2,none⟩ (.bool x'.f2))) ?hg ?ho ?hn ?hr ?_;(case ho => rfl);(case hg => rfl);(case hn => rfl);(case hr => first | (go_simp;done) | (go_simp;rfl));intro w10 hw;have HO10 := Aside0.mk (show Kd.R k40 40 w10 w0.heap.size P0_ (.slice (some ⟨b0,0,none⟩) n c) (xs.set i x') from by rw [hw];exact HP9.out.1);have HB10 := Aside0.mk (show Below w0.heap.size w0 w10 from by rw [hw];exact (((HB9.out).setCell GB.out (.int .i64 x'.f0)).setCell GB.out (.int .i64 x'.f1)).setCell GB.out (.bool x'.f2));have HK10 := Aside0.mk (show Kept w w10 P0_ from by rw [hw];exact (((HK9.out).setCell (.inl PG.out) (.int .i64 x'.f0)).setCell (.inl PG.out) (.int .i64 x'.f1)).setCell (.inl PG.out) (.bool x'.f2));clear hw))
        go_roundg (nn - (t + 2))
        case measure => omega
        case rel => exact ⟨i + 1,t + 1,xs.set i x',by omega,by omega,by omega,by go_num,by go_num,⟨by rw [List.length_set];exact hlen,HF.out.2.1 HQ.out,HF.out.2.2⟩,HO10,HB10,HK10⟩
      ·have hltz : ¬ (t : Int) + 1 < (nn : Int) := by omega
       have hlen := HX.out.1
       have hin : i < n := by omega
       have htn2 : q + t + 1 = n := by omega
       have hT := Kd.R_take HOr.out (m := i) (by omega);have ht := Try.underlying25;obtain ⟨w2,hcl,ho2,hg2⟩ := R_cleared (P := Try.prog) (n := n - i) hT 25 0 (.agg #[(.int .i64 0),(.int .i64 0),(.bool false)]) ht (fun w => by kernel_rfl) rfl (fun u hu => slices_Compact_Log_Entry.zc _ hu) (by omega) (by omega);rw [show i * (k40).sz = i * 3 from rfl] at hcl;have HO2 := Aside0.mk ho2;have HG2 := Aside0.mk hg2;have hcm : (c = i) = False := eq_false (by omega);have hcm1 : ((i : Int) ≤ (c : Int)) = True := eq_true (by omega);have hcm2 : (i ≤ c) = True := eq_true (by omega);have hcm3 : ((i : Int) ≤ (n : Int)) = True := eq_true (by omega);have hcm4 : (i ≤ n) = True := eq_true (by omega);have HE := HX.out.2.1;rw [htn2] at HE;have HE2 := Aside0.mk HE;clear ho2 hg2 hT HX HE htn2
       go_wp2
       go_ret
       rw [← HE2.out];refine ⟨_,rfl,Kd.R_mono HO2.out (fun _ hk => .inl hk),HBr.out.grown HG2.out HBr.out.size (fun k hk => ?_),Kept.of_grown HG2.out HKr.out ?_⟩
       ·injection hk with hk
        subst hk;exact GB.out
       ·intro k hk
        injection hk with hk
        subst hk;exact .inl PG.out
   ·have hltz : ¬ (m : Int) + 1 < (n : Int) := by omega
    have : m + 1 = n := by omega
    have HE := HX.out;rw [this,List.take_of_length_le (by rw [Hn.out];exact Nat.le_refl _)] at HE;have HE2 := Aside0.mk HE;clear HX HE
    go_wp2
    go_ret
    rw [HE2.out];exact ⟨_,rfl,Kd.R_mono (by (with_reducible repeat (first | apply Kd.R_alloc | apply Kd.R_drewN | apply Kd.R_drew));exact HOr.out) (fun _ hk => .inl hk),by repeat (first | exact HBr.out | apply pw_below_drewN | apply below_drew1),by repeat (first | exact HKr.out | apply Kept.drewN | apply Kept.drew)⟩
end Go.Proofs.Ytcoepebmmgcplaa.G
end

section
namespace Go.Proofs.Ytcoepebmmgcplaa.G
open Go.RowKit Go.Proofs.YtcoepebmmgcplaaW.PrintWords Go.Proofs.YtcoepebmmgcplaaW.PrintLast Go.Proofs.YtcoepebmmgcplaaW.PrintMore
attribute [local go_sem] max2_int min2_int max_two min_two max_three min_three max_four min_four
set_option linter.unusedVariables false
set_option linter.unusedSimpArgs false
set_option maxHeartbeats 2000000 in
theorem slices_Grow_Log_Entry.nil (n : Nat) (h1 : n < 5864062014805) (w : World) :
  Calls Try.prog 38 #[.slice none 0 0,.int .i64 n] w fun e w' => ∃ v0_ : Value,e = .returned v0_ ∧ Kd.R k40 40 w' w.heap.size (fun _ => True) v0_ [] ∧ Below w.heap.size w w' := by
 have hneg : decide ((n : Int) < 0) = false := decide_eq_false (by omega)
 by_cases hn : n = 0
 ·subst hn
  go_enter Try.func38,Try.ntmps38
  go_wp2
  go_ret
  exact ⟨_,rfl,Kd.R_nil _ _ _ _ _,by repeat (first | exact Below.refl _ _ | apply below_drew1)⟩
 ·obtain ⟨i0,hi,hz0,hz1,hz2⟩ := info_parts info40;have happ := Lib.run_append_nil_zeros (P := Try.prog) w 25 3 25 40 i0 (.agg #[(.int .i64 0),(.int .i64 0),(.bool false)]) .i64 .i64 Try.underlying25 Try.underlying3 hi hz0 n (by omega) (by rw [hz1];decide) (by omega) (by rw [hz2];omega);generalize hcap : grownCap w n 0 40 = cap2 at happ
  have hcapge : n ≤ cap2 := by rw [← hcap];exact grownCap_ge w _ 0 40
  have hcaple : cap2 ≤ maxLen := by rw [← hcap];exact grownCap_le_maxLen w _ 0 40 (by unfold maxLen;omega)
  generalize hZ : (Builtin.zeroCells (Value.agg #[(.int .i64 0),(.int .i64 0),(.bool false)]).cells n ++ Builtin.zeroCells (Value.agg #[(.int .i64 0),(.int .i64 0),(.bool false)]).cells (cap2 - n)) = Z at happ
  have hZs : Z.size = cap2 * 3 := by rw [← hZ];simp [size_zeroCells,Value.cells];omega
  have hpos : decide ((n : Int) > 0) = true := decide_eq_true (by omega);have hpos1 : decide (0 < (n : Int)) = true := decide_eq_true (by omega)
  have hw0 : IntKind.i64.wrap (n : Int) = n := by rw [IntKind.wrap_i64];omega
  clear hcap hZ
  go_enter Try.func38,Try.ntmps38
  go_wp2_with (at_builtin;refine Lib.wpList_append_run _ rfl _ _ _ _ rfl _ _ rfl rfl _ _ happ ?_)
  go_ret
  refine ⟨_,rfl,?_,below_drew1 (below_alloc (Below.refl _ _) _)⟩;exact ⟨fun _ _ => trivial,[],⟨by simp,.inr ⟨w.heap.size,cap2,Z,rfl,Nat.le_refl _,heap_alloc_new w _,Nat.zero_le _,hcaple,hZs,by simp⟩⟩,Reps.none _ _⟩
end Go.Proofs.Ytcoepebmmgcplaa.G
end

section
namespace Go.Proofs.Ytcoepebmmgcplaa.G
open Go.RowKit Go.Proofs.YtcoepebmmgcplaaW.PrintWords Go.Proofs.YtcoepebmmgcplaaW.PrintLast Go.Proofs.YtcoepebmmgcplaaW.PrintMore
attribute [local go_sem] max2_int min2_int max_two min_two max_three min_three max_four min_four
set_option linter.unusedVariables false
set_option linter.unusedSimpArgs false
def slices_Concat_Log_Entry.f (l0 : List (List (S40))) : Option (List (S40)) := if l0.flatten.length < 5864062014805 then some l0.flatten else none
theorem slices_Concat_Log_Entry.succ {l0 : List (List (S40))} {k : Nat} {x : List (S40)} (h : l0[k]? = some x) : (l0.take (k + 1)).flatten = (l0.take k).flatten ++ x := by
 obtain ⟨hk,rfl⟩ := List.getElem?_eq_some_iff.1 h;rw [List.take_succ_eq_append_getElem hk,List.flatten_append]
 simp
theorem slices_Concat_Log_Entry.le (l0 : List (List (S40))) (k : Nat) : (l0.take k).flatten.length ≤ l0.flatten.length := by
 conv => rhs;rw [← List.take_append_drop k l0]
 rw [List.flatten_append,List.length_append]
 omega
set_option maxHeartbeats 8000000 in
theorem slices_Concat_Log_Entry.calls (A0 : Option Addr) (c0 : Nat) (l0 : List (List (S40))) (r : List (S40)) (w : World) (hr0 : Kd.C (Kd.slice 40 k40) w A0 l0.length l0) (hc0 : l0.length ≤ c0) (h : slices_Concat_Log_Entry.f l0 = some r) :
  Calls Try.prog 25 #[.slice A0 l0.length c0] w fun e w' => ∃ v0_ : Value,e = .returned v0_ ∧ Kd.R k40 40 w' w.heap.size (fun _ => True) v0_ r ∧ Below w.heap.size w w' := by
 unfold slices_Concat_Log_Entry.f at h
 by_cases hl : l0.flatten.length < 5864062014805
 ·rw [if_pos hl] at h;obtain rfl := Option.some.inj h;clear h;have hl9 : l0.length ≤ 9223372036854775807 := hr0.2.1;have hle := slices_Concat_Log_Entry.le l0;have HR0 := Aside0.mk hr0;have HLE := Aside0.mk hle;clear hr0 hle;generalize hn : l0.length = n at *;have Hn := Aside0.mk hn;clear hn;have HF := Aside0.mk hl;clear hl
  go_enter Try.func25,Try.ntmps25
  go_wp2
  go_loopg [3,11] n (fun gg s3 s11 wr => ∃ kk : Nat,kk ≤ n ∧ n - kk ≤ gg ∧ s11 = .int .i64 kk ∧ s3 = .int .i64 ((l0.take kk).flatten.length : Nat) ∧ Aside0 (Below w.heap.size w wr))
  case atStart => exact ⟨0,Nat.zero_le _,by omega,rfl,by simp,⟨by repeat (first | exact Below.refl _ _ | apply below_drew1)⟩⟩
  case round =>
   obtain ⟨kk,hkk,hg,rfl,rfl,BW⟩ := hrel
   by_cases hlt : kk < n
   ·have hltz : (kk : Int) < (n : Int) := by omega
    obtain ⟨ad,A1,c1,e0,hx0,hlc,hC1⟩ := at_L5 HR0.out (kk : Int) (by omega) (by omega);cases e0;simp only [Int.toNat_natCast] at hx0;replace hx0 := (BW.out.cell (World.block_lt_of_cell? w _ hx0)).trans hx0
    have hm : l0[kk]? = some (rd_L5 l0 (kk : Int)) := by
     have h1 : kk < l0.length := by rw [Hn.out];exact hlt
     simp [rd_L5,rdOf,List.getD_eq_getElem?_getD,List.getElem?_eq_getElem h1]
    generalize rd_L5 l0 (kk : Int) = x at *;have hs := congrArg List.length (slices_Concat_Log_Entry.succ hm);rw [List.length_append] at hs;have hs1 := HLE.out (kk + 1);have hs2 := HF.out;have HM := Aside0.mk hm;clear hm hC1 hlc;generalize (l0.take kk).flatten.length = a at *;have HS := Aside0.mk hs;have ha : decide (IntKind.i64.wrap ((a : Int) + (x.length : Int)) < 0) = false := decide_eq_false (by rw [IntKind.wrap_i64];omega);have ha1 : decide ((a : Int) + (x.length : Int) < 0) = false := decide_eq_false (by omega)
    have ha2 : IntKind.i64.wrap ((a : Int) + (x.length : Int)) = (a : Int) + (x.length : Int) := by rw [IntKind.wrap_i64];omega
    clear hs hs1 hs2
    go_wp2
    go_roundg (n - (kk + 1))
    case measure => omega
    case rel => exact ⟨kk + 1,by omega,by omega,by go_num,by rw [HS.out];simp,⟨by repeat (first | exact BW.out | apply below_drew1)⟩⟩
   ·have hltz : ¬ (kk : Int) < (n : Int) := by omega
    have : kk = n := by omega
    subst this
    have hT : (l0.take kk).flatten.length = l0.flatten.length := by rw [List.take_of_length_le (by rw [Hn.out];exact Nat.le_refl _)]
    obtain ⟨T,hTe⟩ : ∃ T,T = l0.flatten.length := ⟨_,rfl⟩;rw [hT,← hTe];have HT := Aside0.mk (show T < 5864062014805 by rw [hTe];exact HF.out);clear hT hTe
    go_wp2_with (go_at_call 38;refine (slices_Grow_Log_Entry.nil T HT.out _).mono ?_;rintro e w1 ⟨v1,rfl,ho1,hb1⟩;have HO := Aside0.mk (show Kd.R k40 40 w1 w.heap.size (fun _ => True) v1 [] from Kd.R_lower ho1 (below_size BW.out));have HB := Aside0.mk (show Below w.heap.size w w1 from below_step BW.out hb1);clear ho1 hb1)
    go_loopg [6,27] kk (fun gg s6 s27 wr => ∃ (ii : Nat) (v : Value),ii ≤ kk ∧ kk - ii ≤ gg ∧ s27 = .int .i64 ii ∧ s6 = v ∧ Aside0 (Kd.R k40 40 wr w.heap.size (fun _ => True) v (l0.take ii).flatten) ∧ Aside0 (Below w.heap.size w wr))
    case atStart => exact ⟨0,_,Nat.zero_le _,by omega,rfl,rfl,⟨by (with_reducible repeat (first | apply Kd.R_alloc | apply Kd.R_drewN | apply Kd.R_drew));exact HO.out⟩,⟨by repeat (first | exact HB.out | apply below_drew1)⟩⟩
    case round =>
     clear HO HB BW;obtain ⟨ii,v,hii,hg2,rfl,rfl,HO,HB⟩ := hrel
     by_cases hlt : ii < kk
     ·have hltz : (ii : Int) < (kk : Int) := by omega
      obtain ⟨ad,A1,c1,e0,hx0,hlc,hC1⟩ := at_L5 HR0.out (ii : Int) (by omega) (by omega);cases e0;simp only [Int.toNat_natCast] at hx0;replace hx0 := (HB.out.cell (World.block_lt_of_cell? w _ hx0)).trans hx0
      have hm : l0[ii]? = some (rd_L5 l0 (ii : Int)) := by
       have h1 : ii < l0.length := by rw [Hn.out];exact hlt
       simp [rd_L5,List.getD_eq_getElem?_getD,List.getElem?_eq_getElem h1]
      generalize rd_L5 l0 (ii : Int) = x at *;have hs := congrArg List.length (slices_Concat_Log_Entry.succ hm);rw [List.length_append] at hs;have hs1 := HLE.out (ii + 1);have hs2 := HF.out;have HC := Aside0.mk hC1;have HS := Aside0.mk (slices_Concat_Log_Entry.succ hm)
      have hlim : ((l0.take ii).flatten.length + x.length) * 24 ≤ 140737488355328 := by omega
      have HL := Aside0.mk hlim;clear hm hC1 hs hs1 hs2 hlim
      go_wp2_with (at_builtin;refine Kd.R_append_rows k40 (w0 := w) w.heap.size rfl (.tmp 31) (.tmp 32) 25 40 (.agg #[(.int .i64 0),(.int .i64 0),(.bool false)]) 24 rfl Try.underlying25 info40 rfl (by decide) (by omega) _ (l0.take ii).flatten x _ _ _ (fun _ => True) (fun _ => False) rfl rfl (by (with_reducible repeat (first | apply Kd.R_alloc | apply Kd.R_drewN | apply Kd.R_drew));exact HO.out) (Kd.C_below HC.out (by repeat (first | exact HB.out | apply below_drew1))) (fun _ _ h => h) (fun _ h => h.elim) (fun _ _ => trivial) (by repeat (first | exact HB.out | apply below_drew1)) (Below.size (by repeat (first | exact HB.out | apply below_drew1))) HL.out ?_;intro v2 w2 ho2 hb2 _ _;have HO2 := Aside0.mk ho2;have HB2 := Aside0.mk hb2;clear ho2 hb2)
      go_roundg (kk - (ii + 1))
      case measure => omega
      case rel => exact ⟨ii + 1,v2,by omega,by omega,by go_num,rfl,⟨by rw [HS.out];exact HO2.out⟩,HB2⟩
     ·have : ii = kk := by omega
      subst this
      have hltz : ¬ (ii : Int) < (ii : Int) := by omega
      go_wp2
      go_ret
      refine ⟨_,rfl,?_,by repeat (first | exact HB.out | apply below_drew1)⟩;have h1 := HO.out;rw [List.take_of_length_le (by rw [Hn.out];exact Nat.le_refl _)] at h1;(with_reducible repeat (first | apply Kd.R_alloc | apply Kd.R_drewN | apply Kd.R_drew));exact h1
 ·rw [if_neg hl] at h;cases h
end Go.Proofs.Ytcoepebmmgcplaa.G
end

section
namespace Go.Proofs.Ytcoepebmmgcplaa.G
open Go.RowKit Go.Proofs.YtcoepebmmgcplaaW.PrintWords Go.Proofs.YtcoepebmmgcplaaW.PrintLast Go.Proofs.YtcoepebmmgcplaaW.PrintMore
attribute [local go_sem] max2_int min2_int max_two min_two max_three min_three max_four min_four
set_option linter.unusedVariables false
set_option linter.unusedSimpArgs false
attribute [local go_sem high] eqA40
def slices_Index_Log_Entry.l0 : Nat → List (S40) → Int → Int → Int → Int → Bool → Option (Int)
 | 0,_,_,_,_,_,_ => none
 | k + 1,x0,x7,x8,x102000,x102001,x102002 => if x8 < x7 then (if 0 ≤ x8 then (if x8 < (x0.length : Int) then (if (x102000 == ((rd_T40 x0 x8).f0) && (x102001 == ((rd_T40 x0 x8).f1) && (x102002 == ((rd_T40 x0 x8).f2)))) = true then (some x8) else (slices_Index_Log_Entry.l0 k x0 x7 (wrap64 (x8 + 1)) x102000 x102001 x102002)) else (none)) else (none)) else (some (-1))
def slices_Index_Log_Entry.f (k : Nat) (l0 : List (S40)) (a1_0 : Int) (a1_1 : Int) (a1_2 : Bool) : Option (Int) := slices_Index_Log_Entry.l0 k l0 (l0.length : Int) 0 a1_0 a1_1 a1_2
set_option maxHeartbeats 8000000 in
set_option maxRecDepth 100000 in
theorem slices_Index_Log_Entry.calls (k : Nat) (A0 : Option Addr) (c0 : Nat) (l0 : List (S40)) (a1_0 : Int) (a1_1 : Int) (a1_2 : Bool) (r : Int) (w : World) (hr0 : Kd.C k40 w A0 l0.length l0) (hc0 : l0.length ≤ c0) (h : slices_Index_Log_Entry.f k l0 a1_0 a1_1 a1_2 = some r) :
  Calls Try.prog 44 #[.slice A0 l0.length c0,.agg #[.int .i64 a1_0,.int .i64 a1_1,.bool a1_2]] w fun e w' => e = .returned (.int .i64 r) ∧ Below w.heap.size w w' := by
 have hu40 := Try.underlying40;have HR0 := Aside0.mk hr0;have HC0 := Aside0.mk hc0;clear hr0 hc0;have HB := Aside0.mk (Below.refl w.heap.size w);have H : (slices_Index_Log_Entry.l0 k l0 (l0.length : Int) 0 a1_0 a1_1 a1_2) = some r := h;clear h;have H' := Aside0.mk H;clear H
 go_enter Try.func44,Try.ntmps44
 go_wp2_with (first | ((with_reducible refine gate_dst (N := 3) rfl ?_);refine box_event ?hg (N := 3) ?hd (cs := #[.int .i64 a1_0,.int .i64 a1_1,.bool a1_2]) (t := 40) ?hr ?_;(case hd => rfl);(case hg => rfl);(case hr => first | (go_simp;done) | (go_simp;rfl));intro gb101 hg w3 hbox hb;have n0_ := Aside0.mk (below_step (by repeat (first | (with_reducible first | exact HB.out | apply below_alloc | apply pw_below_drewN | apply below_drew1) | exact HB.out)) hb);have n1_ := Aside0.mk (hbox);have n2_ := Aside0.mk ((by rw [hg];exact (below_size (by repeat (first | (with_reducible first | exact HB.out | apply below_alloc | apply pw_below_drewN | apply below_drew1) | exact HB.out))) : w.heap.size ≤ gb101));have n3_ := Aside0.mk ((by rw [hg];exact (below_size (by repeat (first | (with_reducible first | exact HB.out | apply below_alloc | apply pw_below_drewN | apply below_drew1) | exact HB.out))) : w.heap.size ≤ gb101));clear HB;have HB := n0_;have BK101 := n1_;have GW101 := n2_;have GE101 := n3_;clear n0_ n1_ n2_ n3_;clear hb hbox hg))
 repeat (go_quiet (fail);try go_wp2_with (first | ((with_reducible refine gate_dst (N := 3) rfl ?_);refine box_event ?hg (N := 3) ?hd (cs := #[.int .i64 a1_0,.int .i64 a1_1,.bool a1_2]) (t := 40) ?hr ?_;(case hd => rfl);(case hg => rfl);(case hr => first | (go_simp;done) | (go_simp;rfl));intro gb101 hg w3 hbox hb;have n0_ := Aside0.mk (below_step (by repeat (first | (with_reducible first | exact HB.out | apply below_alloc | apply pw_below_drewN | apply below_drew1) | exact HB.out)) hb);have n1_ := Aside0.mk (hbox);have n2_ := Aside0.mk ((by rw [hg];exact (below_size (by repeat (first | (with_reducible first | exact HB.out | apply below_alloc | apply pw_below_drewN | apply below_drew1) | exact HB.out))) : w.heap.size ≤ gb101));have n3_ := Aside0.mk ((by rw [hg];exact (below_size (by repeat (first | (with_reducible first | exact HB.out | apply below_alloc | apply pw_below_drewN | apply below_drew1) | exact HB.out))) : w.heap.size ≤ gb101));clear HB;have HB := n0_;have BK101 := n1_;have GW101 := n2_;have GE101 := n3_;clear n0_ n1_ n2_ n3_;clear hb hbox hg)))
 go_loopg [8] k (fun kq v8 w' => ∃ (x8_1 : Int),v8 = .int .i64 x8_1 ∧ Aside0 (slices_Index_Log_Entry.l0 kq l0 (l0.length : Int) x8_1 a1_0 a1_1 a1_2 = some r) ∧ Aside0 (kq ≤ k) ∧ Aside0 (w'.heap[gb101]? = some (.cells #[.int .i64 a1_0,.int .i64 a1_1,.bool a1_2] 40 (0,0))) ∧ Aside0 (Below w.heap.size w w'))
 case atStart => exact ⟨(0),(by first | rfl | (simp only [IntKind.wrap_i64,wrap64];done) | (simp;done) | (simp [*];done)),H',⟨Nat.le_refl _⟩,⟨by (with_reducible repeat (first | refine blk_drewN ?_ _ | refine blk_drew ?_ | refine blk_alloc ?_ _));exact BK101.out⟩,⟨by repeat (first | (with_reducible first | exact HB.out | apply below_alloc | apply pw_below_drewN | apply below_drew1 | refine below_set ?_ GE101.out) | exact HB.out)⟩⟩
 case round =>
  clear H';(try clear p2);obtain ⟨x8_1,rfl,HA,HK1,BK101,HB⟩ := hrel
  cases gk with
  | zero => exact absurd HA.out (by simp [slices_Index_Log_Entry.l0])
  | succ k1 =>
   have H := HA.out;clear HA;simp only [slices_Index_Log_Entry.l0] at H
   by_cases c4 : x8_1 < (l0.length : Int)
   ·rw [if_pos c4] at H;have c4b0 : decide (x8_1 < (l0.length : Int)) = true := decide_eq_true c4;clear c4
    by_cases c5 : 0 ≤ x8_1
    ·rw [if_pos c5] at H;have c5b0 : decide (0 ≤ x8_1) = true := decide_eq_true c5;clear c5
     by_cases c6 : x8_1 < (l0.length : Int)
     ·rw [if_pos c6] at H;have c6b0 : decide (x8_1 < (l0.length : Int)) = true := decide_eq_true c6;clear c6
      by_cases c7 : (a1_0 == ((rd_T40 l0 x8_1).f0) && (a1_1 == ((rd_T40 l0 x8_1).f1) && (a1_2 == ((rd_T40 l0 x8_1).f2)))) = true
      ·rw [if_pos c7] at H;have c7b0 : (a1_0 == ((rd_T40 l0 x8_1).f0) && (a1_1 == ((rd_T40 l0 x8_1).f1) && (a1_2 == ((rd_T40 l0 x8_1).f2)))) = true := c7;(try (have c7b1 : decide (a1_0 = ((rd_T40 l0 x8_1).f0) && (a1_1 == ((rd_T40 l0 x8_1).f1) && (a1_2 == ((rd_T40 l0 x8_1).f2)))) = true := by simpa using c7));(try (have c7b2 : (a1_0 == ((rd_T40 l0 x8_1).f0) && (a1_1 == ((rd_T40 l0 x8_1).f1) && (a1_2 == ((rd_T40 l0 x8_1).f2)))) = true := by simpa using c7));clear c7;obtain rfl := Option.some.inj H;have hcz8_0 : wr.cell? ⟨gb101,0,none⟩ = some (.int .i64 a1_0) := (blk_cell BK101.out 0).trans rfl;have hcz8_1 : wr.cell? ⟨gb101,1,none⟩ = some (.int .i64 a1_1) := (blk_cell BK101.out 1).trans rfl;have hcz8_2 : wr.cell? ⟨gb101,2,none⟩ = some (.bool a1_2) := (blk_cell BK101.out 2).trans rfl;have hfz8_0 := blk_frozen BK101.out 0;have hfz8_1 := blk_frozen BK101.out 1;have hfz8_2 := blk_frozen BK101.out 2;have p102 : 0 ≤ (x8_1 : Int) := of_decide_eq_true (by first | (with_reducible assumption) | assumption);have q102 : x8_1 < (l0.length : Int) := of_decide_eq_true (by first | (with_reducible assumption) | assumption);obtain ⟨ad102,e102,hx102_0,hx102_1,hx102_2⟩ := at_T40 HR0.out x8_1 p102 q102;cases e102;replace hx102_0 := (HB.out.cell (World.block_lt_of_cell? w _ hx102_0)).trans hx102_0;replace hx102_1 := (HB.out.cell (World.block_lt_of_cell? w _ hx102_1)).trans hx102_1;replace hx102_2 := (HB.out.cell (World.block_lt_of_cell? w _ hx102_2)).trans hx102_2;replace p102 := eq_true p102;replace q102 := eq_true q102
       go_wp2
       repeat (go_quiet (fail);try go_wp2)
       go_ret
       exact ⟨by first | rfl | (simp [errW_none,errW_some,IntKind.wrap_i64,wrap64];done) | (simp [errW_none,errW_some] <;> rfl) | (simp [*,errW_none,errW_some] <;> rfl),by repeat (first | (with_reducible first | exact HB.out | apply below_alloc | apply pw_below_drewN | apply below_drew1 | refine below_set ?_ GE101.out) | exact HB.out)⟩
      ·rw [if_neg c7] at H
       have c7b0 : (a1_0 == ((rd_T40 l0 x8_1).f0) && (a1_1 == ((rd_T40 l0 x8_1).f1) && (a1_2 == ((rd_T40 l0 x8_1).f2)))) = false := by simpa using c7
       (try (have c7b1 : decide (a1_0 = ((rd_T40 l0 x8_1).f0) && (a1_1 == ((rd_T40 l0 x8_1).f1) && (a1_2 == ((rd_T40 l0 x8_1).f2)))) = false := by simpa using c7));(try (have c7b2 : (a1_0 == ((rd_T40 l0 x8_1).f0) && (a1_1 == ((rd_T40 l0 x8_1).f1) && (a1_2 == ((rd_T40 l0 x8_1).f2)))) = false := by simpa using c7));(try (have c7b3 : ¬ (a1_0 = ((rd_T40 l0 x8_1).f0) && (a1_1 == ((rd_T40 l0 x8_1).f1) && (a1_2 == ((rd_T40 l0 x8_1).f2)))) := by simpa using c7));clear c7;have H' := Aside0.mk H;clear H;have hcz9_0 : wr.cell? ⟨gb101,0,none⟩ = some (.int .i64 a1_0) := (blk_cell BK101.out 0).trans rfl;have hcz9_1 : wr.cell? ⟨gb101,1,none⟩ = some (.int .i64 a1_1) := (blk_cell BK101.out 1).trans rfl;have hcz9_2 : wr.cell? ⟨gb101,2,none⟩ = some (.bool a1_2) := (blk_cell BK101.out 2).trans rfl;have hfz9_0 := blk_frozen BK101.out 0;have hfz9_1 := blk_frozen BK101.out 1;have hfz9_2 := blk_frozen BK101.out 2;have p102 : 0 ≤ (x8_1 : Int) := of_decide_eq_true (by first | (with_reducible assumption) | assumption);have q102 : x8_1 < (l0.length : Int) := of_decide_eq_true (by first | (with_reducible assumption) | assumption);obtain ⟨ad102,e102,hx102_0,hx102_1,hx102_2⟩ := at_T40 HR0.out x8_1 p102 q102;cases e102;replace hx102_0 := (HB.out.cell (World.block_lt_of_cell? w _ hx102_0)).trans hx102_0;replace hx102_1 := (HB.out.cell (World.block_lt_of_cell? w _ hx102_1)).trans hx102_1;replace hx102_2 := (HB.out.cell (World.block_lt_of_cell? w _ hx102_2)).trans hx102_2;replace p102 := eq_true p102;replace q102 := eq_true q102
       go_wp2
       repeat (go_quiet (fail);try go_wp2)
       go_roundg k1
       case measure => have := HK1.out;omega
       case rel => exact ⟨(wrap64 (x8_1 + 1)),(by first | rfl | (simp only [IntKind.wrap_i64,wrap64];done) | (simp;done) | (simp [*];done)),H',⟨by have := HK1.out;omega⟩,⟨by (with_reducible repeat (first | refine blk_drewN ?_ _ | refine blk_drew ?_ | refine blk_alloc ?_ _));exact BK101.out⟩,⟨by repeat (first | (with_reducible first | exact HB.out | apply below_alloc | apply pw_below_drewN | apply below_drew1 | refine below_set ?_ GE101.out) | exact HB.out)⟩⟩
     ·rw [if_neg c6] at H;exact absurd H (by simp)
    ·rw [if_neg c5] at H;exact absurd H (by simp)
   ·rw [if_neg c4] at H;have c4b0 : decide (x8_1 < (l0.length : Int)) = false := decide_eq_false c4;clear c4;obtain rfl := Option.some.inj H
    go_wp2
    repeat (go_quiet (fail);try go_wp2)
    go_ret
    exact ⟨by first | rfl | (simp [errW_none,errW_some,IntKind.wrap_i64,wrap64];done) | (simp [errW_none,errW_some] <;> rfl) | (simp [*,errW_none,errW_some] <;> rfl),by repeat (first | (with_reducible first | exact HB.out | apply below_alloc | apply pw_below_drewN | apply below_drew1 | refine below_set ?_ GE101.out) | exact HB.out)⟩
end Go.Proofs.Ytcoepebmmgcplaa.G
end

section
namespace Go.Proofs.Ytcoepebmmgcplaa.G
open Go.RowKit Go.Proofs.YtcoepebmmgcplaaW.PrintWords Go.Proofs.YtcoepebmmgcplaaW.PrintLast Go.Proofs.YtcoepebmmgcplaaW.PrintMore
attribute [local go_sem] max2_int min2_int max_two min_two max_three min_three max_four min_four
set_option linter.unusedVariables false
set_option linter.unusedSimpArgs false
def slices_Contains_Log_Entry.f (k : Nat) (l0 : List (S40)) (a1_0 : Int) (a1_1 : Int) (a1_2 : Bool) : Option (Bool) := (slices_Index_Log_Entry.f k l0 a1_0 a1_1 a1_2).bind fun t102 => (some (decide (t102 ≥ 0)))
set_option maxHeartbeats 8000000 in
set_option maxRecDepth 100000 in
theorem slices_Contains_Log_Entry.calls (k : Nat) (A0 : Option Addr) (c0 : Nat) (l0 : List (S40)) (a1_0 : Int) (a1_1 : Int) (a1_2 : Bool) (r : Bool) (w : World) (hr0 : Kd.C k40 w A0 l0.length l0) (hc0 : l0.length ≤ c0) (h : slices_Contains_Log_Entry.f k l0 a1_0 a1_1 a1_2 = some r) :
  Calls Try.prog 31 #[.slice A0 l0.length c0,.agg #[.int .i64 a1_0,.int .i64 a1_1,.bool a1_2]] w fun e w' => e = .returned (.bool r) ∧ Below w.heap.size w w' := by
 have hu40 := Try.underlying40;have HR0 := Aside0.mk hr0;have HC0 := Aside0.mk hc0;clear hr0 hc0;have HB := Aside0.mk (Below.refl w.heap.size w);have H : ((slices_Index_Log_Entry.f k l0 a1_0 a1_1 a1_2).bind fun t102 => (some (decide (t102 ≥ 0)))) = some r := h;clear h;replace H := Option.bind_eq_some_iff.mp H;obtain ⟨t102,A30,H⟩ := H;replace H : (some (decide (t102 ≥ 0))) = some r := H;have A3 := Aside0.mk A30;clear A30;obtain rfl := Option.some.inj H
 go_enter Try.func31,Try.ntmps31
 go_wp2_with (first | ((with_reducible refine gate_dst (N := 3) rfl ?_);refine box_event ?hg (N := 3) ?hd (cs := #[.int .i64 a1_0,.int .i64 a1_1,.bool a1_2]) (t := 40) ?hr ?_;(case hd => rfl);(case hg => rfl);(case hr => first | (go_simp;done) | (go_simp;rfl));intro gb101 hg w4 hbox hb;have n0_ := Aside0.mk (below_step (by repeat (first | (with_reducible first | exact HB.out | apply below_alloc | apply pw_below_drewN | apply below_drew1) | exact HB.out)) hb);have n1_ := Aside0.mk (hbox);have n2_ := Aside0.mk ((by rw [hg];exact (below_size (by repeat (first | (with_reducible first | exact HB.out | apply below_alloc | apply pw_below_drewN | apply below_drew1) | exact HB.out))) : w.heap.size ≤ gb101));have n3_ := Aside0.mk ((by rw [hg];exact (below_size (by repeat (first | (with_reducible first | exact HB.out | apply below_alloc | apply pw_below_drewN | apply below_drew1) | exact HB.out))) : w.heap.size ≤ gb101));clear HB;have HB := n0_;have BK101 := n1_;have GW101 := n2_;have GE101 := n3_;clear n0_ n1_ n2_ n3_;clear hb hbox hg;have hcz5_0 : w4.cell? ⟨gb101,0,none⟩ = some (.int .i64 a1_0) := (blk_cell BK101.out 0).trans rfl;have hcz5_1 : w4.cell? ⟨gb101,1,none⟩ = some (.int .i64 a1_1) := (blk_cell BK101.out 1).trans rfl;have hcz5_2 : w4.cell? ⟨gb101,2,none⟩ = some (.bool a1_2) := (blk_cell BK101.out 2).trans rfl;have hfz5_0 := blk_frozen BK101.out 0;have hfz5_1 := blk_frozen BK101.out 1;have hfz5_2 := blk_frozen BK101.out 2) | ((with_reducible refine gate_callee (f := 44) rfl ?_);refine goesL_ (some 7) rfl rfl Try.func44 (by kernel_rfl) rfl #[.slice A0 l0.length c0,.agg #[.int .i64 a1_0,.int .i64 a1_1,.bool a1_2]] rfl (by (try simp only [List.map_toArray,List.map_cons,List.map_nil]);first | done | rfl | (simp only [List.length_drop,List.length_take];rfl)) ?_;(with_reducible refine (slices_Index_Log_Entry.calls k _ _ l0 a1_0 a1_1 a1_2 t102 _ ?side1 ?side2 A3.out).mono ?_);(case side1 => repeat (first | exact (Kd.C_below HR0.out HB.out) | (with_reducible refine Kd.C_alloc ?_ _) | (with_reducible refine Kd.C_drewN ?_ _) | (with_reducible refine Kd.C_drew ?_)));(case side2 => exact HC0.out);rintro e w6 ⟨rfl,hb⟩;refine ⟨_,rfl,?_⟩;have n0_ := Aside0.mk (blk_below (g := gb101) (o := .cells #[.int .i64 a1_0,.int .i64 a1_1,.bool a1_2] 40 (0,0)) (by (with_reducible repeat (first | refine blk_drewN ?_ _ | refine blk_drew ?_ | refine blk_alloc ?_ _));exact BK101.out) hb);have n1_ := Aside0.mk (below_step (by repeat (first | (with_reducible first | exact HB.out | apply below_alloc | apply pw_below_drewN | apply below_drew1 | refine below_set ?_ GE101.out) | exact HB.out)) hb);clear BK101;clear HB;have BK101 := n0_;have HB := n1_;clear n0_ n1_;(try clear hb);(try clear hb2);(try clear hk);(try clear hi)))
 go_ret
 exact ⟨by first | rfl | (simp [errW_none,errW_some,IntKind.wrap_i64,wrap64];done) | (simp [errW_none,errW_some] <;> rfl) | (simp [*,errW_none,errW_some] <;> rfl),by repeat (first | (with_reducible first | exact HB.out | apply below_alloc | apply pw_below_drewN | apply below_drew1 | refine below_set ?_ GE101.out) | exact HB.out)⟩
end Go.Proofs.Ytcoepebmmgcplaa.G
end

section
namespace Go.Proofs.Ytcoepebmmgcplaa.G
open Go.RowKit Go.Proofs.YtcoepebmmgcplaaW.PrintWords Go.Proofs.YtcoepebmmgcplaaW.PrintLast Go.Proofs.YtcoepebmmgcplaaW.PrintMore
attribute [local go_sem] max2_int min2_int max_two min_two max_three min_three max_four min_four
set_option linter.unusedVariables false
set_option linter.unusedSimpArgs false
def impl_AgreedLog_1.l0 : Nat → Int → List (List (S40)) → Int → Int → Int → Int → Int → Bool → Option (Bool)
 | 0,_,_,_,_,_,_,_,_ => none
 | k + 1,x5,x8,x9,x10,x3000,x102000,x102001,x102002 => if x10 < x9 then (if 0 ≤ x10 then (if x10 < (x8.length : Int) then ((slices_Contains_Log_Entry.f k (rd_L5 x8 x10) x102000 x102001 x102002).bind fun t103 => (if t103 = true then (impl_AgreedLog_1.l0 k (wrap64 (x5 + 1)) x8 x9 (wrap64 (x10 + 1)) x3000 x102000 x102001 x102002) else (impl_AgreedLog_1.l0 k x5 x8 x9 (wrap64 (x10 + 1)) x3000 x102000 x102001 x102002))) else (none)) else (none)) else (some (decide (x5 < x3000)))
def impl_AgreedLog_1.f (k : Nat) (a0_0 : Int) (a0_1 : Int) (a0_2 : Bool) (l1 : List (List (S40))) (a2 : Int) : Option (Bool) := impl_AgreedLog_1.l0 k 0 l1 (l1.length : Int) 0 a2 a0_0 a0_1 a0_2
set_option maxHeartbeats 8000000 in
set_option maxRecDepth 100000 in
theorem impl_AgreedLog_1.calls (k : Nat) (a0_0 : Int) (a0_1 : Int) (a0_2 : Bool) (A1 : Option Addr) (c1 : Nat) (l1 : List (List (S40))) (b1 : Nat) (a2 : Int) (b2 : Nat) (r : Bool) (w : World) (hr1 : Kd.C (Kd.slice 40 k40) w A1 l1.length l1) (hc1 : l1.length ≤ c1) (hb1 : w.heap[b1]? = some (.cells #[.slice A1 l1.length c1] 28 (0,0))) (hb2 : w.heap[b2]? = some (.cells #[.int .i64 a2] 2 (0,0))) (hn1_2 : b1 ≠ b2) (h : impl_AgreedLog_1.f k a0_0 a0_1 a0_2 l1 a2 = some r) :
  Calls Try.prog 30 #[.agg #[.int .i64 a0_0,.int .i64 a0_1,.bool a0_2],.pointer (some ⟨b1,0,none⟩),.pointer (some ⟨b2,0,none⟩)] w fun e w' => e = .returned (.bool r) ∧ Below w.heap.size w w' := by
 have hu40 := Try.underlying40;have HR1 := Aside0.mk hr1;have HC1 := Aside0.mk hc1;clear hr1 hc1;have BK1 := Aside0.mk hb1;clear hb1;have BK2 := Aside0.mk hb2;clear hb2;have NB1_2 := Aside0.mk hn1_2;have NB2_1 := Aside0.mk (Ne.symm hn1_2);clear hn1_2;have HB := Aside0.mk (Below.refl w.heap.size w);have H : (impl_AgreedLog_1.l0 k 0 l1 (l1.length : Int) 0 a2 a0_0 a0_1 a0_2) = some r := h;clear h;have H' := Aside0.mk H;clear H
 go_enter Try.func30,Try.ntmps30
 go_wp2_with (first | ((with_reducible refine gate_dst (N := 3) rfl ?_);refine box_event ?hg (N := 3) ?hd (cs := #[.int .i64 a0_0,.int .i64 a0_1,.bool a0_2]) (t := 40) ?hr ?_;(case hd => rfl);(case hg => rfl);(case hr => first | (go_simp;done) | (go_simp;rfl));intro gb101 hg w4 hbox hb;have n0_ := Aside0.mk (blk_below (g := b1) (o := .cells #[.slice A1 l1.length c1] 28 (0,0)) (by (with_reducible repeat (first | refine blk_drewN ?_ _ | refine blk_drew ?_ | refine blk_alloc ?_ _));exact BK1.out) hb);have n1_ := Aside0.mk (blk_below (g := b2) (o := .cells #[.int .i64 a2] 2 (0,0)) (by (with_reducible repeat (first | refine blk_drewN ?_ _ | refine blk_drew ?_ | refine blk_alloc ?_ _));exact BK2.out) hb);have n2_ := Aside0.mk (below_step (by repeat (first | (with_reducible first | exact HB.out | apply below_alloc | apply pw_below_drewN | apply below_drew1 | refine below_set ?_ GE1.out | refine below_set ?_ GE2.out) | exact HB.out)) hb);have n3_ := Aside0.mk (hbox);have n4_ := Aside0.mk ((by rw [hg];exact (below_size (by repeat (first | (with_reducible first | exact HB.out | apply below_alloc | apply pw_below_drewN | apply below_drew1 | refine below_set ?_ GE1.out | refine below_set ?_ GE2.out) | exact HB.out))) : w.heap.size ≤ gb101));have n5_ := Aside0.mk ((by rw [hg];exact (below_size (by repeat (first | (with_reducible first | exact HB.out | apply below_alloc | apply pw_below_drewN | apply below_drew1 | refine below_set ?_ GE1.out | refine below_set ?_ GE2.out) | exact HB.out))) : w.heap.size ≤ gb101));have n6_ := Aside0.mk ((by rw [hg];exact Nat.ne_of_lt (blk_lt (g := b1) (o := .cells #[.slice A1 l1.length c1] 28 (0,0)) (by (with_reducible repeat (first | refine blk_drewN ?_ _ | refine blk_drew ?_ | refine blk_alloc ?_ _));exact BK1.out)) : b1 ≠ gb101));have n7_ := Aside0.mk ((by rw [hg];exact Nat.ne_of_gt (blk_lt (g := b1) (o := .cells #[.slice A1 l1.length c1] 28 (0,0)) (by (with_reducible repeat (first | refine blk_drewN ?_ _ | refine blk_drew ?_ | refine blk_alloc ?_ _));exact BK1.out)) : gb101 ≠ b1));have n8_ := Aside0.mk ((by rw [hg];exact Nat.ne_of_lt (blk_lt (g := b2) (o := .cells #[.int .i64 a2] 2 (0,0)) (by (with_reducible repeat (first | refine blk_drewN ?_ _ | refine blk_drew ?_ | refine blk_alloc ?_ _));exact BK2.out)) : b2 ≠ gb101));have n9_ := Aside0.mk ((by rw [hg];exact Nat.ne_of_gt (blk_lt (g := b2) (o := .cells #[.int .i64 a2] 2 (0,0)) (by (with_reducible repeat (first | refine blk_drewN ?_ _ | refine blk_drew ?_ | refine blk_alloc ?_ _));exact BK2.out)) : gb101 ≠ b2));clear BK1;clear BK2;clear HB;have BK1 := n0_;have BK2 := n1_;have HB := n2_;have BK101 := n3_;have GW101 := n4_;have GE101 := n5_;have NB1_101 := n6_;have NB101_1 := n7_;have NB2_101 := n8_;have NB101_2 := n9_;clear n0_ n1_ n2_ n3_ n4_ n5_ n6_ n7_ n8_ n9_;clear hb hbox hg;have hnb5 := NB1_2.out;have hnc5 := NB2_1.out;have hnb6 := NB1_101.out;have hnc6 := NB101_1.out;have hcz7_0 : w4.cell? ⟨b1,0,none⟩ = some (.slice A1 l1.length c1) := (blk_cell BK1.out 0).trans rfl;have hfz7_0 := blk_frozen BK1.out 0))
 go_loopg [5,10] k (fun kq v5 v10 w' => ∃ (x5_1 : Int) (x10_1 : Int),v5 = .int .i64 x5_1 ∧ v10 = .int .i64 x10_1 ∧ Aside0 (impl_AgreedLog_1.l0 kq x5_1 l1 (l1.length : Int) x10_1 a2 a0_0 a0_1 a0_2 = some r) ∧ Aside0 (kq ≤ k) ∧ Aside0 (w'.heap[b1]? = some (.cells #[(.slice A1 l1.length c1)] 28 (0,0))) ∧ Aside0 (w'.heap[b2]? = some (.cells #[.int .i64 a2] 2 (0,0))) ∧ Aside0 (w'.heap[gb101]? = some (.cells #[.int .i64 a0_0,.int .i64 a0_1,.bool a0_2] 40 (0,0))) ∧ Aside0 (Below w.heap.size w w'))
 case atStart => exact ⟨(0),(0),(by first | rfl | (simp only [IntKind.wrap_i64,wrap64];done) | (simp;done) | (simp [*];done)),(by first | rfl | (simp only [IntKind.wrap_i64,wrap64];done) | (simp;done) | (simp [*];done)),H',⟨Nat.le_refl _⟩,⟨by (with_reducible repeat (first | refine blk_drewN ?_ _ | refine blk_drew ?_ | refine blk_alloc ?_ _));exact BK1.out⟩,⟨by (with_reducible repeat (first | refine blk_drewN ?_ _ | refine blk_drew ?_ | refine blk_alloc ?_ _));exact BK2.out⟩,⟨by (with_reducible repeat (first | refine blk_drewN ?_ _ | refine blk_drew ?_ | refine blk_alloc ?_ _));exact BK101.out⟩,⟨by repeat (first | (with_reducible first | exact HB.out | apply below_alloc | apply pw_below_drewN | apply below_drew1 | refine below_set ?_ GE1.out | refine below_set ?_ GE2.out | refine below_set ?_ GE101.out) | exact HB.out)⟩⟩
 case round =>
  clear H';(try clear c1);(try clear p2);(try clear c3);(try clear c5);(try clear c6);(try clear hcz7_0);(try clear hfz7_0);obtain ⟨x5_1,x10_1,rfl,rfl,HA,HK1,BK1,BK2,BK101,HB⟩ := hrel
  cases gk with
  | zero => exact absurd HA.out (by simp [impl_AgreedLog_1.l0])
  | succ k1 =>
   have H := HA.out;clear HA;simp only [impl_AgreedLog_1.l0] at H
   by_cases c8 : x10_1 < (l1.length : Int)
   ·rw [if_pos c8] at H;have c8b0 : decide (x10_1 < (l1.length : Int)) = true := decide_eq_true c8;clear c8
    by_cases c9 : 0 ≤ x10_1
    ·rw [if_pos c9] at H;have c9b0 : decide (0 ≤ x10_1) = true := decide_eq_true c9;clear c9
     by_cases c10 : x10_1 < (l1.length : Int)
     ·rw [if_pos c10] at H;have c10b0 : decide (x10_1 < (l1.length : Int)) = true := decide_eq_true c10;clear c10;replace H := Option.bind_eq_some_iff.mp H;obtain ⟨t103,A110,H⟩ := H;replace H : (if t103 = true then (impl_AgreedLog_1.l0 k1 (wrap64 (x5_1 + 1)) l1 (l1.length : Int) (wrap64 (x10_1 + 1)) a2 a0_0 a0_1 a0_2) else (impl_AgreedLog_1.l0 k1 x5_1 l1 (l1.length : Int) (wrap64 (x10_1 + 1)) a2 a0_0 a0_1 a0_2)) = some r := H;have A11 := Aside0.mk A110;clear A110
      by_cases c12 : t103 = true
      ·subst c12
       have H1 : (impl_AgreedLog_1.l0 k1 (wrap64 (x5_1 + 1)) l1 (l1.length : Int) (wrap64 (x10_1 + 1)) a2 a0_0 a0_1 a0_2) = some r := by rw [if_pos rfl] at H;exact H
       clear H;have H := H1;clear H1;have H' := Aside0.mk H;clear H;have p102 : 0 ≤ (x10_1 : Int) := of_decide_eq_true (by first | (with_reducible assumption) | assumption);have q102 : x10_1 < (l1.length : Int) := of_decide_eq_true (by first | (with_reducible assumption) | assumption);obtain ⟨ad102,A102_0,c102_0,e102,hx102_0,hl102_0,hi102_0⟩ := at_L5 HR1.out x10_1 p102 q102;cases e102;replace hx102_0 := (HB.out.cell (World.block_lt_of_cell? w _ hx102_0)).trans hx102_0;have HR102_0 := Aside0.mk hi102_0;have HC102_0 := Aside0.mk hl102_0;clear hi102_0 hl102_0;replace p102 := eq_true p102;replace q102 := eq_true q102;have hnb13 := NB101_1.out;have hnc13 := NB1_101.out;have hnb14 := NB101_2.out;have hnc14 := NB2_101.out;have hcz15_0 : wr.cell? ⟨gb101,0,none⟩ = some (.int .i64 a0_0) := (blk_cell BK101.out 0).trans rfl;have hcz15_1 : wr.cell? ⟨gb101,1,none⟩ = some (.int .i64 a0_1) := (blk_cell BK101.out 1).trans rfl;have hcz15_2 : wr.cell? ⟨gb101,2,none⟩ = some (.bool a0_2) := (blk_cell BK101.out 2).trans rfl;have hfz15_0 := blk_frozen BK101.out 0;have hfz15_1 := blk_frozen BK101.out 1;have hfz15_2 := blk_frozen BK101.out 2
       go_wp2_with (first | ((with_reducible refine gate_callee (f := 31) rfl ?_);refine goesL_ (some 16) rfl rfl Try.func31 (by kernel_rfl) rfl #[.slice A102_0 (rd_L5 l1 x10_1).length c102_0,.agg #[.int .i64 a0_0,.int .i64 a0_1,.bool a0_2]] rfl (by (try simp only [List.map_toArray,List.map_cons,List.map_nil]);first | done | rfl | (simp only [List.length_drop,List.length_take];rfl)) ?_;(with_reducible refine (slices_Contains_Log_Entry.calls k1 _ _ (rd_L5 l1 x10_1) a0_0 a0_1 a0_2 true _ ?side1 ?side2 A11.out).mono ?_);(case side1 => repeat (first | exact (Kd.C_below HR102_0.out HB.out) | (with_reducible refine Kd.C_alloc ?_ _) | (with_reducible refine Kd.C_drewN ?_ _) | (with_reducible refine Kd.C_drew ?_)));(case side2 => exact HC102_0.out);rintro e w16 ⟨rfl,hb⟩;refine ⟨_,rfl,?_⟩;have n0_ := Aside0.mk (blk_below (g := b1) (o := .cells #[.slice (some ad102) l1.length c1] 28 (0,0)) (by (with_reducible repeat (first | refine blk_drewN ?_ _ | refine blk_drew ?_ | refine blk_alloc ?_ _));exact BK1.out) hb);have n1_ := Aside0.mk (blk_below (g := b2) (o := .cells #[.int .i64 a2] 2 (0,0)) (by (with_reducible repeat (first | refine blk_drewN ?_ _ | refine blk_drew ?_ | refine blk_alloc ?_ _));exact BK2.out) hb);have n2_ := Aside0.mk (blk_below (g := gb101) (o := .cells #[.int .i64 a0_0,.int .i64 a0_1,.bool a0_2] 40 (0,0)) (by (with_reducible repeat (first | refine blk_drewN ?_ _ | refine blk_drew ?_ | refine blk_alloc ?_ _));exact BK101.out) hb);have n3_ := Aside0.mk (below_step (by repeat (first | (with_reducible first | exact HB.out | apply below_alloc | apply pw_below_drewN | apply below_drew1 | refine below_set ?_ GE1.out | refine below_set ?_ GE2.out | refine below_set ?_ GE101.out) | exact HB.out)) hb);clear BK1;clear BK2;clear BK101;clear HB;have BK1 := n0_;have BK2 := n1_;have BK101 := n2_;have HB := n3_;clear n0_ n1_ n2_ n3_;(try clear hb);(try clear hb2);(try clear hk);(try clear hi)))
       go_roundg k1
       case measure => have := HK1.out;omega
       case rel => exact ⟨(wrap64 (x5_1 + 1)),(wrap64 (x10_1 + 1)),(by first | rfl | (simp only [IntKind.wrap_i64,wrap64];done) | (simp;done) | (simp [*];done)),(by first | rfl | (simp only [IntKind.wrap_i64,wrap64];done) | (simp;done) | (simp [*];done)),H',⟨by have := HK1.out;omega⟩,⟨by (with_reducible repeat (first | refine blk_drewN ?_ _ | refine blk_drew ?_ | refine blk_alloc ?_ _));exact BK1.out⟩,⟨by (with_reducible repeat (first | refine blk_drewN ?_ _ | refine blk_drew ?_ | refine blk_alloc ?_ _));exact BK2.out⟩,⟨by (with_reducible repeat (first | refine blk_drewN ?_ _ | refine blk_drew ?_ | refine blk_alloc ?_ _));exact BK101.out⟩,⟨by repeat (first | (with_reducible first | exact HB.out | apply below_alloc | apply pw_below_drewN | apply below_drew1 | refine below_set ?_ GE1.out | refine below_set ?_ GE2.out | refine below_set ?_ GE101.out) | exact HB.out)⟩⟩
      ·replace c12 := Bool.eq_false_iff.mpr c12;subst c12
       have H1 : (impl_AgreedLog_1.l0 k1 x5_1 l1 (l1.length : Int) (wrap64 (x10_1 + 1)) a2 a0_0 a0_1 a0_2) = some r := by rw [if_neg (show ¬ (false = true) by decide)] at H;exact H
       clear H;have H := H1;clear H1;have H' := Aside0.mk H;clear H;have p102 : 0 ≤ (x10_1 : Int) := of_decide_eq_true (by first | (with_reducible assumption) | assumption);have q102 : x10_1 < (l1.length : Int) := of_decide_eq_true (by first | (with_reducible assumption) | assumption);obtain ⟨ad102,A102_0,c102_0,e102,hx102_0,hl102_0,hi102_0⟩ := at_L5 HR1.out x10_1 p102 q102;cases e102;replace hx102_0 := (HB.out.cell (World.block_lt_of_cell? w _ hx102_0)).trans hx102_0;have HR102_0 := Aside0.mk hi102_0;have HC102_0 := Aside0.mk hl102_0;clear hi102_0 hl102_0;replace p102 := eq_true p102;replace q102 := eq_true q102;have hnb17 := NB101_1.out;have hnc17 := NB1_101.out;have hnb18 := NB101_2.out;have hnc18 := NB2_101.out;have hcz19_0 : wr.cell? ⟨gb101,0,none⟩ = some (.int .i64 a0_0) := (blk_cell BK101.out 0).trans rfl;have hcz19_1 : wr.cell? ⟨gb101,1,none⟩ = some (.int .i64 a0_1) := (blk_cell BK101.out 1).trans rfl;have hcz19_2 : wr.cell? ⟨gb101,2,none⟩ = some (.bool a0_2) := (blk_cell BK101.out 2).trans rfl;have hfz19_0 := blk_frozen BK101.out 0;have hfz19_1 := blk_frozen BK101.out 1;have hfz19_2 := blk_frozen BK101.out 2
       go_wp2_with (first | ((with_reducible refine gate_callee (f := 31) rfl ?_);refine goesL_ (some 16) rfl rfl Try.func31 (by kernel_rfl) rfl #[.slice A102_0 (rd_L5 l1 x10_1).length c102_0,.agg #[.int .i64 a0_0,.int .i64 a0_1,.bool a0_2]] rfl (by (try simp only [List.map_toArray,List.map_cons,List.map_nil]);first | done | rfl | (simp only [List.length_drop,List.length_take];rfl)) ?_;(with_reducible refine (slices_Contains_Log_Entry.calls k1 _ _ (rd_L5 l1 x10_1) a0_0 a0_1 a0_2 false _ ?side1 ?side2 A11.out).mono ?_);(case side1 => repeat (first | exact (Kd.C_below HR102_0.out HB.out) | (with_reducible refine Kd.C_alloc ?_ _) | (with_reducible refine Kd.C_drewN ?_ _) | (with_reducible refine Kd.C_drew ?_)));(case side2 => exact HC102_0.out);rintro e w20 ⟨rfl,hb⟩;refine ⟨_,rfl,?_⟩;have n0_ := Aside0.mk (blk_below (g := b1) (o := .cells #[.slice (some ad102) l1.length c1] 28 (0,0)) (by (with_reducible repeat (first | refine blk_drewN ?_ _ | refine blk_drew ?_ | refine blk_alloc ?_ _));exact BK1.out) hb);have n1_ := Aside0.mk (blk_below (g := b2) (o := .cells #[.int .i64 a2] 2 (0,0)) (by (with_reducible repeat (first | refine blk_drewN ?_ _ | refine blk_drew ?_ | refine blk_alloc ?_ _));exact BK2.out) hb);have n2_ := Aside0.mk (blk_below (g := gb101) (o := .cells #[.int .i64 a0_0,.int .i64 a0_1,.bool a0_2] 40 (0,0)) (by (with_reducible repeat (first | refine blk_drewN ?_ _ | refine blk_drew ?_ | refine blk_alloc ?_ _));exact BK101.out) hb);have n3_ := Aside0.mk (below_step (by repeat (first | (with_reducible first | exact HB.out | apply below_alloc | apply pw_below_drewN | apply below_drew1 | refine below_set ?_ GE1.out | refine below_set ?_ GE2.out | refine below_set ?_ GE101.out) | exact HB.out)) hb);clear BK1;clear BK2;clear BK101;clear HB;have BK1 := n0_;have BK2 := n1_;have BK101 := n2_;have HB := n3_;clear n0_ n1_ n2_ n3_;(try clear hb);(try clear hb2);(try clear hk);(try clear hi)))
       go_roundg k1
       case measure => have := HK1.out;omega
       case rel => exact ⟨(x5_1),(wrap64 (x10_1 + 1)),(by first | rfl | (simp only [IntKind.wrap_i64,wrap64];done) | (simp;done) | (simp [*];done)),(by first | rfl | (simp only [IntKind.wrap_i64,wrap64];done) | (simp;done) | (simp [*];done)),H',⟨by have := HK1.out;omega⟩,⟨by (with_reducible repeat (first | refine blk_drewN ?_ _ | refine blk_drew ?_ | refine blk_alloc ?_ _));exact BK1.out⟩,⟨by (with_reducible repeat (first | refine blk_drewN ?_ _ | refine blk_drew ?_ | refine blk_alloc ?_ _));exact BK2.out⟩,⟨by (with_reducible repeat (first | refine blk_drewN ?_ _ | refine blk_drew ?_ | refine blk_alloc ?_ _));exact BK101.out⟩,⟨by repeat (first | (with_reducible first | exact HB.out | apply below_alloc | apply pw_below_drewN | apply below_drew1 | refine below_set ?_ GE1.out | refine below_set ?_ GE2.out | refine below_set ?_ GE101.out) | exact HB.out)⟩⟩
     ·rw [if_neg c10] at H;exact absurd H (by simp)
    ·rw [if_neg c9] at H;exact absurd H (by simp)
   ·rw [if_neg c8] at H;have c8b0 : decide (x10_1 < (l1.length : Int)) = false := decide_eq_false c8;clear c8;obtain rfl := Option.some.inj H;have hnb21 := NB2_1.out;have hnc21 := NB1_2.out;have hnb22 := NB2_101.out;have hnc22 := NB101_2.out;have hcz23_0 : wr.cell? ⟨b2,0,none⟩ = some (.int .i64 a2) := (blk_cell BK2.out 0).trans rfl;have hfz23_0 := blk_frozen BK2.out 0
    go_wp2
    go_ret
    exact ⟨by first | rfl | (simp [errW_none,errW_some,IntKind.wrap_i64,wrap64];done) | (simp [errW_none,errW_some] <;> rfl) | (simp [*,errW_none,errW_some] <;> rfl),by repeat (first | (with_reducible first | exact HB.out | apply below_alloc | apply pw_below_drewN | apply below_drew1 | refine below_set ?_ GE1.out | refine below_set ?_ GE2.out | refine below_set ?_ GE101.out) | exact HB.out)⟩
end Go.Proofs.Ytcoepebmmgcplaa.G
end

section
namespace Go.Proofs.Ytcoepebmmgcplaa.G
open Go.RowKit Go.Proofs.YtcoepebmmgcplaaW.PrintWords Go.Proofs.YtcoepebmmgcplaaW.PrintLast Go.Proofs.YtcoepebmmgcplaaW.PrintMore
attribute [local go_sem] max2_int min2_int max_two min_two max_three min_three max_four min_four
set_option linter.unusedVariables false
set_option linter.unusedSimpArgs false
set_option maxHeartbeats 2000000 in
theorem slices_IndexFunc_Log_Entry.calls (A0 : Option Addr) (c0 : Nat) (l0 : List (S40)) (g : Nat) (lb : Array Value) (eg : ∀ args w,(callFunc g args).run Try.prog w = .ok (.enter g args) w) (p : S40 → Bool) (w : World)
  (hr0 : Kd.C k40 w A0 l0.length l0) (hc0 : l0.length ≤ c0)
  (hp : ∀ W,Below w.heap.size w W → ∀ x ∈ l0,Calls Try.prog g (#[.agg #[.int .i64 x.f0,.int .i64 x.f1,.bool x.f2]] ++ lb) W fun e w' => e = .returned (.bool (p x)) ∧ Below w.heap.size w w') :
  Calls Try.prog 43 #[.slice A0 l0.length c0,.func (.func g) #[] lb] w fun e w' => e = .returned (.int .i64 (idxP p l0)) ∧ Below w.heap.size w w' := by
 have hu := Try.underlying40;have hl : l0.length ≤ 9223372036854775807 := hr0.2.1;have HR0 := Aside0.mk hr0;have HP := Aside0.mk hp;clear hr0 hp;generalize hn : l0.length = n at *;have Hn := Aside0.mk hn;clear hn
 go_enter Try.func43,Try.ntmps43
 go_wp2
 go_loopg [5,8] n (fun gg _ s8 wr => ∃ kk : Nat,kk ≤ n ∧ n - kk ≤ gg ∧ s8 = .int .i64 kk ∧ Aside0 (Below w.heap.size w wr) ∧ Aside0 (∀ j x,j < kk → l0[j]? = some x → p x = false))
 case atStart => exact ⟨0,Nat.zero_le _,by omega,rfl,⟨Below.refl _ w⟩,⟨fun j _ hj => absurd hj (Nat.not_lt_zero _)⟩⟩
 case round =>
  obtain ⟨kk,hkk,hg,rfl,BW,AF⟩ := hrel
  by_cases hlt : kk < n
  ·have hltz : (kk : Int) < (n : Int) := by omega
   obtain ⟨ad,e0,hx0,hx1,hx2⟩ := at_T40 HR0.out (kk : Int) (by omega) (by omega);cases e0;simp only [Int.toNat_natCast] at hx0 hx1 hx2;replace hx0 := (BW.out.cell (World.block_lt_of_cell? w _ hx0)).trans hx0;replace hx1 := (BW.out.cell (World.block_lt_of_cell? w _ hx1)).trans hx1;replace hx2 := (BW.out.cell (World.block_lt_of_cell? w _ hx2)).trans hx2
   have hm : l0[kk]? = some (rd_T40 l0 (kk : Int)) := by
    have h1 : kk < l0.length := by rw [Hn.out];exact hlt
    simp [rd_T40,List.getD_eq_getElem?_getD,List.getElem?_eq_getElem h1]
   have hcall := HP.out wr BW.out (rd_T40 l0 (kk : Int)) (List.mem_of_getElem? hm);generalize hy : rd_T40 l0 (kk : Int) = y at *;clear hy;have HM := Aside0.mk hm;clear hm
   cases hq : p y with
   | true =>
    rw [hq] at hcall;have HQ := Aside0.mk hq;clear hq
    go_wp2_with (go_at_fn g;refine hcall.mono ?_;rintro e w' ⟨rfl,hb'⟩)
    go_ret
    refine ⟨?_,hb'⟩;rw [idxP_hit HM.out HQ.out AF.out];rfl
   | false =>
    rw [hq] at hcall;have HQ := Aside0.mk hq;clear hq
    go_wp2_with (go_at_fn g;refine hcall.mono ?_;rintro e w' ⟨rfl,hb'⟩)
    go_roundg (n - (kk + 1))
    case measure => omega
    case rel =>
     refine ⟨kk + 1,by omega,by omega,by go_num,⟨hb'⟩,⟨fun j x hj hx => ?_⟩⟩
     by_cases e : j = kk
     ·subst e;rw [HM.out] at hx;cases hx;exact HQ.out
     ·exact AF.out j x (by omega) hx
  ·have hltz : ¬ (kk : Int) < (n : Int) := by omega
   have : kk = n := by omega
   subst this
   go_wp2
   go_ret
   refine ⟨?_,BW.out⟩
   rw [idxP_miss (fun x hx => by
    obtain ⟨j,hj,rfl⟩ := List.mem_iff_getElem.1 hx
    exact AF.out j _ (by rw [← Hn.out];exact hj) (List.getElem?_eq_getElem hj))]
   rfl
end Go.Proofs.Ytcoepebmmgcplaa.G
end

section
namespace Go.Proofs.Ytcoepebmmgcplaa.G
open Go.RowKit Go.Proofs.YtcoepebmmgcplaaW.PrintWords Go.Proofs.YtcoepebmmgcplaaW.PrintLast Go.Proofs.YtcoepebmmgcplaaW.PrintMore
attribute [local go_sem] max2_int min2_int max_two min_two max_three min_three max_four min_four
set_option linter.unusedVariables false
set_option linter.unusedSimpArgs false
theorem slices_DeleteFunc_Log_Entry.stored {w0 w wr w8 : World} {P0_ : Nat → Prop} {gb : Nat} {v : Value} {xs : List (S40)} (y : S40) (h : Kd.R k40 40 wr w0.heap.size P0_ v xs) (HB : Below w0.heap.size w0 wr) (HK : Kept w wr P0_) (hge : wr.heap.size ≤ gb) (hb : Below wr.heap.size wr w8) (hbox : w8.heap[gb]? = some (.cells #[.int .i64 0,.int .i64 0,.bool false] 40 (0,0))) :
  Kd.R k40 40 (((w8.setCell ⟨gb,0,none⟩ (.int .i64 y.f0)).setCell ⟨gb,1,none⟩ (.int .i64 y.f1)).setCell ⟨gb,2,none⟩ (.bool y.f2)) w0.heap.size P0_ v xs ∧ Below w0.heap.size w0 (((w8.setCell ⟨gb,0,none⟩ (.int .i64 y.f0)).setCell ⟨gb,1,none⟩ (.int .i64 y.f1)).setCell ⟨gb,2,none⟩ (.bool y.f2)) ∧ Kept w (((w8.setCell ⟨gb,0,none⟩ (.int .i64 y.f0)).setCell ⟨gb,1,none⟩ (.int .i64 y.f1)).setCell ⟨gb,2,none⟩ (.bool y.f2)) P0_ ∧ (((w8.setCell ⟨gb,0,none⟩ (.int .i64 y.f0)).setCell ⟨gb,1,none⟩ (.int .i64 y.f1)).setCell ⟨gb,2,none⟩ (.bool y.f2)).heap[gb]? = some (.cells #[.int .i64 y.f0,.int .i64 y.f1,.bool y.f2] 40 (0,0)) := by
 have hbg : w0.heap.size ≤ gb := Nat.le_trans HB.size hge;have hbk : w.heap.size ≤ gb := Nat.le_trans HK.1 hge;exact ⟨Kd.R_mono (Kd.R_far (p := ⟨gb,2,none⟩) (Kd.R_far (p := ⟨gb,1,none⟩) (Kd.R_far (p := ⟨gb,0,none⟩) (Kd.R_below (Kd.R_elderB h gb hge) hb) (fun _ hk => hk.2) (.int .i64 y.f0)) (fun _ hk => hk.2) (.int .i64 y.f1)) (fun _ hk => hk.2) (.bool y.f2)) (fun _ hk => hk.1),(((below_then HB HB.size hb).setCell hbg (.int .i64 y.f0)).setCell hbg (.int .i64 y.f1)).setCell hbg (.bool y.f2),(((Kept.below HK hb).setCell (.inr hbk) (.int .i64 y.f0)).setCell (.inr hbk) (.int .i64 y.f1)).setCell (.inr hbk) (.bool y.f2),blk_put (cs := #[.int .i64 y.f0,.int .i64 y.f1,.bool false]) (blk_put (cs := #[.int .i64 y.f0,.int .i64 0,.bool false]) (blk_put (cs := #[.int .i64 0,.int .i64 0,.bool false]) (hbox) 0 _ rfl) 1 _ rfl) 2 _ rfl⟩
theorem slices_DeleteFunc_Log_Entry.zc {m : Nat} (u : Value) (hu : u ∈ (Builtin.zeroCells #[.int .i64 0,.int .i64 0,.bool false] m).toList) : u.oneCell' = true := by
 rw [Array.mem_toList_iff] at hu
 unfold Builtin.zeroCells at hu
 obtain ⟨i,_,rfl⟩ := Array.mem_map.1 hu;have h : i % (#[.int .i64 0,.int .i64 0,.bool false] : Array Value).size < 3 := Nat.mod_lt _ (by decide);generalize i % (#[.int .i64 0,.int .i64 0,.bool false] : Array Value).size = q at *
 rcases (by omega : q = 0 ∨ q = 1 ∨ q = 2) with rfl | rfl | rfl <;> rfl
theorem slices_DeleteFunc_Log_Entry.flt {l0 xs : List (S40)} {p : S40 → Bool} {i j : Nat} (hij : i ≤ j) (hj : j < l0.length) (h1 : xs.length = l0.length) (h2 : xs.take i = (l0.take j).filter (fun x => !p x)) (h3 : xs.drop j = l0.drop j) :
  (p (xs.getD j z40) = true → xs.take i = (l0.take (j + 1)).filter (fun x => !p x)) ∧ (p (xs.getD j z40) = false → (xs.set i (xs.getD j z40)).take (i + 1) = (l0.take (j + 1)).filter (fun x => !p x)) ∧ xs.drop (j + 1) = l0.drop (j + 1) ∧ (xs.set i (xs.getD j z40)).drop (j + 1) = l0.drop (j + 1) ∧ xs.getD j z40 ∈ l0 := by
 have hjx : j < xs.length := by omega
 have e0 : xs[j]? = l0[j]? := by
  have := congrArg (fun l => l[0]?) h3
  simpa using this
 have e1 : xs.getD j z40 = l0[j] := by
  rw [List.getD_eq_getElem?_getD,e0,List.getElem?_eq_getElem hj];rfl
 rw [e1]
 have hd : xs.drop (j + 1) = l0.drop (j + 1) := by
  have := congrArg (List.drop 1) h3
  simpa using this
 have ht : l0.take (j + 1) = l0.take j ++ [l0[j]] := List.take_succ_eq_append_getElem hj;refine ⟨fun hp => ?_,fun hp => ?_,hd,?_,List.getElem_mem hj⟩
 ·rw [ht,List.filter_append,h2]
  simp [hp]
 ·rw [ht,List.filter_append,← h2,List.take_succ_eq_append_getElem (by simpa using (by omega : i < xs.length))]
  simp [hp,List.take_set_of_le]
 ·rw [List.drop_set,if_pos (by omega),hd]
set_option maxHeartbeats 4000000 in
set_option maxRecDepth 20000 in
theorem slices_DeleteFunc_Log_Entry.calls (P0_ : Nat → Prop) (u9000_ : Value) (l0 : List (S40)) (g : Nat) (lb : Array Value) (eg : ∀ args w,(callFunc g args).run Try.prog w = .ok (.enter g args) w) (p : S40 → Bool) (w0 w : World) (hB : Below w0.heap.size w0 w) (ho0 : Kd.R k40 40 w w0.heap.size P0_ u9000_ l0)
  (hp : ∀ W,Below w0.heap.size w0 W → Kept w W P0_ → ∀ x ∈ l0,Calls Try.prog g (#[.agg #[.int .i64 x.f0,.int .i64 x.f1,.bool x.f2]] ++ lb) W fun e w' => e = .returned (.bool (p x)) ∧ Below W.heap.size W w') :
  Calls Try.prog 28 #[u9000_,.func (.func g) #[] lb] w fun e w' => ∃ v0_ : Value,e = .returned (v0_) ∧ Kd.R k40 40 w' w0.heap.size (fun k_ => (P0_ k_ ∨ w.heap.size ≤ k_)) v0_ (l0.filter (fun x => !p x)) ∧ Below w0.heap.size w0 w' ∧ Kept w w' (fun k_ => P0_ k_) := by
 obtain ⟨A0,c,rfl⟩ := Kd.R_slice ho0;obtain ⟨_,hc,hC⟩ := Kd.R_reads' ho0;have hl : l0.length ≤ 9223372036854775807 := hC.2.1;have HI := Aside0.mk (slices_IndexFunc_Log_Entry.calls A0 c l0 g lb eg p w hC hc (fun W hW x hx => (hp W (below_then hB hB.size hW) (Kept.below (Kept.refl w _) hW) x hx).mono fun _ _ h => ⟨h.1,below_then hW hW.size h.2⟩));have hu := Try.underlying40;have HO := Aside0.mk ho0;have HB := Aside0.mk hB;have HP := Aside0.mk hp
 by_cases hany : l0.any p = true
 ·obtain ⟨k,y0,hk,hy,hbef⟩ : ∃ (k : Nat) (y : S40),l0[k]? = some y ∧ p y = true ∧ ∀ j x,j < k → l0[j]? = some x → p x = false := by
   cases e : l0.findIdx? p with
   | none => rw [List.findIdx?_eq_none_iff] at e;obtain ⟨x,hx,hpx⟩ := List.any_eq_true.1 hany;rw [e x hx] at hpx;cases hpx
   | some k =>
    rw [List.findIdx?_eq_some_iff_getElem] at e;obtain ⟨h,hq,hb⟩ := e;refine ⟨k,l0[k],List.getElem?_eq_getElem h,hq,fun j x hj hx => ?_⟩;obtain ⟨_,rfl⟩ := List.getElem?_eq_some_iff.1 hx
    simpa using hb j hj
  have hkl : k < l0.length := (List.getElem?_eq_some_iff.1 hk).1;rw [idxP_hit hk hy hbef] at HI;obtain ⟨b0,c0,e0,hbg,hg,cells,hcells⟩ := Kd.R_form ho0 (by omega);cases e0;have GB := Aside0.mk hbg;have PG := Aside0.mk (ho0.1 b0 rfl)
  have F0 : Aside0 (l0.take k = (l0.take (k + 1)).filter (fun x => !p x)) := ⟨by
   have h1 : (l0.take k).filter (fun x => !p x) = l0.take k := List.filter_eq_self.2 fun x hx => by
    obtain ⟨j,hj,rfl⟩ := List.mem_iff_getElem.1 hx;rw [List.length_take] at hj;rw [List.getElem_take];rw [hbef j _ (by omega) (List.getElem?_eq_getElem (by omega))]
    first | rfl | done
   rw [List.take_succ_eq_append_getElem hkl,List.filter_append,h1]
   have : p l0[k] = true := by rw [(List.getElem?_eq_some_iff.1 hk).2];exact hy
   simp [this]⟩
  generalize hn : l0.length = n at *;have Hn := Aside0.mk hn;have hm1 : decide ((k : Int) = -1) = false := decide_eq_false (by omega)
  have hm2 : ((k : Int) == -1) = false := by first | (simp;done) | (simp;omega)
  clear hn ho0 hB hp hC hcells hbef hk hy hany hbg
  go_enter Try.func28,Try.ntmps28
  go_wp2_with (go_at_call 43;refine HI.out.mono ?_;rintro e w1 ⟨rfl,hb1⟩;have HO1 := Aside0.mk (Kd.R_below HO.out hb1);have HB1 := Aside0.mk (below_then HB.out HB.out.size hb1);have HK1 := Aside0.mk (Kept.below (Kept.refl w P0_) hb1);clear hb1)
  go_loopg [5,6] n (fun gg s5 s6 wr => ∃ (ii jj : Nat) (xs : List (S40)),ii < jj ∧ jj ≤ n ∧ n - jj ≤ gg ∧ s5 = .int .i64 ii ∧ s6 = .int .i64 jj ∧ Aside0 (xs.length = n ∧ xs.take ii = (l0.take jj).filter (fun x => !p x) ∧ xs.drop jj = l0.drop jj) ∧ Aside0 (Kd.R k40 40 wr w0.heap.size P0_ (.slice (some ⟨b0,0,none⟩) n c) xs) ∧ Aside0 (Below w0.heap.size w0 wr) ∧ Aside0 (Kept w wr P0_))
  case atStart => exact ⟨k,k + 1,l0,by omega,by omega,by omega,rfl,by go_num,⟨Hn.out,F0.out,rfl⟩,HO1,HB1,HK1⟩
  case round =>
   obtain ⟨ii,jj,xs,hij,hjn,hg',rfl,rfl,HX,HOr,HBr,HKr⟩ := hrel;clear hm1 hm2 HO1 HB1 HK1 F0
   by_cases hlt : jj < n
   ·have hltz : (jj : Int) < (n : Int) := by omega
    have HF := Aside0.mk (slices_DeleteFunc_Log_Entry.flt (l0 := l0) (p := p) (Nat.le_of_lt hij) (by rw [Hn.out];exact hlt) (by rw [Hn.out];exact HX.out.1) HX.out.2.1 HX.out.2.2);obtain ⟨ceR,hclR,hMR,hccR,hfrR⟩ := Kd.R_elem HOr.out z40 (jj : Int) (by omega) (by omega);obtain rfl := k40_openM hMR;have hx0 := hccR 0 _ rfl
    try simp only [show (k40).sz = 3 from rfl,Nat.mul_one,Nat.add_zero] at hx0
    have hx1 := hccR 1 _ rfl
    try simp only [show (k40).sz = 3 from rfl,Nat.mul_one,Nat.add_zero] at hx1
    have hx2 := hccR 2 _ rfl
    try simp only [show (k40).sz = 3 from rfl,Nat.mul_one,Nat.add_zero] at hx2
    clear hclR hccR hfrR hMR;simp only [Int.toNat_natCast] at hx0 hx1 hx2;have hyy : rd_T40 xs (jj : Int) = xs.getD jj z40 := rfl;have hyz : rdOf z40 xs (jj : Int) = xs.getD jj z40 := rfl;(try simp only [hyy,hyz] at hx0 hx1 hx2);clear hyy hyz;generalize xs.getD jj z40 = y at *;have HC := Aside0.mk (HP.out)
    have hii : (ii : Int) < (n : Int) := by omega
    have hjj1 : (ii : Int) ≤ (c : Int) := by omega
    cases hq : p y with
    | true =>
     have HQ := Aside0.mk hq;clear hq
     go_wp2_with (first | ((with_reducible refine gate_dst (N := 7) rfl ?_);refine box_event ?hg (N := 7) ?hd (cs := #[.int .i64 0,.int .i64 0,.bool false]) (t := 40) ?hr ?_;(case hd => rfl);(case hg => rfl);(case hr => first | (go_simp;done) | (go_simp;rfl));intro gb hgb w8 hbox hb8;have ST := Aside0.mk (slices_DeleteFunc_Log_Entry.stored (w := w) y HOr.out HBr.out HKr.out (Nat.le_of_eq hgb.symm) hb8 hbox);have BE8 := Aside0.mk hbox;have hcz0 : w8.cell? ⟨gb,0,none⟩ = some (.int .i64 0) := (blk_cell BE8.out 0).trans rfl;have hfz0 := blk_frozen BE8.out 0;have hcz1 : w8.cell? ⟨gb,1,none⟩ = some (.int .i64 0) := (blk_cell BE8.out 1).trans rfl;have hfz1 := blk_frozen BE8.out 1;have hcz2 : w8.cell? ⟨gb,2,none⟩ = some (.bool false) := (blk_cell BE8.out 2).trans rfl;have hfz2 := blk_frozen BE8.out 2; clear hb8 hbox hgb) | (go_at_fn g;refine (HP.out _ ST.out.2.1 ST.out.2.2.1 y HF.out.2.2.2.2).mono ?_;rintro e w9 ⟨rfl,hb9⟩;rw [HQ.out];have HO9 := Aside0.mk (Kd.R_below ST.out.1 hb9);have HB9 := Aside0.mk (below_then ST.out.2.1 ST.out.2.1.size hb9);have HK9 := Aside0.mk (Kept.below ST.out.2.2.1 hb9);clear hb9))
     go_roundg (n - (jj + 1))
     case measure => omega
     case rel => exact ⟨ii,jj + 1,xs,by omega,by omega,by omega,rfl,by go_num,⟨HX.out.1,HF.out.1 HQ.out,HF.out.2.2.1⟩,HO9,HB9,HK9⟩
    | false =>
     have HQ := Aside0.mk hq;clear hq
     go_wp2_with (first | ((with_reducible refine gate_dst (N := 7) rfl ?_);refine box_event ?hg (N := 7) ?hd (cs := #[.int .i64 0,.int .i64 0,.bool false]) (t := 40) ?hr ?_;(case hd => rfl);(case hg => rfl);(case hr => first | (go_simp;done) | (go_simp;rfl));intro gb hgb w8 hbox hb8;have ST := Aside0.mk (slices_DeleteFunc_Log_Entry.stored (w := w) y HOr.out HBr.out HKr.out (Nat.le_of_eq hgb.symm) hb8 hbox);have BE8 := Aside0.mk hbox;have hcz0 : w8.cell? ⟨gb,0,none⟩ = some (.int .i64 0) := (blk_cell BE8.out 0).trans rfl;have hfz0 := blk_frozen BE8.out 0;have hcz1 : w8.cell? ⟨gb,1,none⟩ = some (.int .i64 0) := (blk_cell BE8.out 1).trans rfl;have hfz1 := blk_frozen BE8.out 1;have hcz2 : w8.cell? ⟨gb,2,none⟩ = some (.bool false) := (blk_cell BE8.out 2).trans rfl;have hfz2 := blk_frozen BE8.out 2; clear hb8 hbox hgb) | (go_at_fn g;refine (HP.out _ ST.out.2.1 ST.out.2.2.1 y HF.out.2.2.2.2).mono ?_;rintro e w9 ⟨rfl,hb9⟩;rw [HQ.out];have HO9 := Aside0.mk (Kd.R_below ST.out.1 hb9);have HB9 := Aside0.mk (below_then ST.out.2.1 ST.out.2.1.size hb9);have HK9 := Aside0.mk (Kept.below ST.out.2.2.1 hb9);have BE9 := Aside0.mk (blk_below ST.out.2.2.2 hb9);have hcy0 : w9.cell? ⟨gb,0,none⟩ = some (.int .i64 y.f0) := (blk_cell BE9.out 0).trans rfl;have hcy1 : w9.cell? ⟨gb,1,none⟩ = some (.int .i64 y.f1) := (blk_cell BE9.out 1).trans rfl;have hcy2 : w9.cell? ⟨gb,2,none⟩ = some (.bool y.f2) := (blk_cell BE9.out 2).trans rfl; obtain ⟨ce,hcl,hM,hcc,hfr⟩ := Kd.R_elem HO9.out z40 (ii : Int) (by omega) (by omega);obtain rfl := k40_openM hM;have HP9 := Aside0.mk (Kd.R_seg HO9.out (ii : Int) (by omega) (by omega) (seg := [.int .i64 y.f0,.int .i64 y.f1,.bool y.f2]) (j := 0) hcl hcc (show 3 ≤ 3 from by decide) (x' := y) (k40_mkM _ _ _ y) (fun _ hk => hk));have hr0 := hcc 0 _ rfl;(try simp only [show (k40).sz = 3 from rfl,Nat.mul_one,Nat.add_zero] at hr0);have hs0 := hfr 0;(try simp only [show (k40).sz = 3 from rfl,Nat.mul_one,Nat.add_zero] at hs0);have hr1 := hcc 1 _ rfl;(try simp only [show (k40).sz = 3 from rfl,Nat.mul_one,Nat.add_zero] at hr1);have hs1 := hfr 1;(try simp only [show (k40).sz = 3 from rfl,Nat.mul_one,Nat.add_zero] at hs1);have hr2 := hcc 2 _ rfl;(try simp only [show (k40).sz = 3 from rfl,Nat.mul_one,Nat.add_zero] at hr2);have hs2 := hfr 2;(try simp only [show (k40).sz = 3 from rfl,Nat.mul_one,Nat.add_zero] at hs2);(try simp only [Int.toNat_natCast] at hr0);(try simp only [Int.toNat_natCast] at hs0);(try simp only [Int.toNat_natCast] at hr1);(try simp only [Int.toNat_natCast] at hs1);(try simp only [Int.toNat_natCast] at hr2);(try simp only [Int.toNat_natCast] at hs2); clear hcl hcc hfr hM;clear hb9) | ((with_reducible refine gate_store (t := 40) (p := 33) rfl ?_);refine store_event (t := 40) (p := 33) (v := ?vo) (w1 := (((w9.setCell ⟨b0,ii * 3,none⟩ (.int .i64 y.f0)).setCell ⟨b0,ii * 3 + 1,none⟩ (.int .i64 y.f1)).setCell ⟨b0,ii * 3 + 2,none⟩ (.bool y.f2))) ?hg ?ho ?hn ?hr ?_;(case ho => rfl);(case hg => rfl);(case hn => rfl);(case hr => first | (go_simp;done) | (go_simp;rfl));intro w10 hw;have HO10 := Aside0.mk (show Kd.R k40 40 w10 w0.heap.size P0_ (.slice (some ⟨b0,0,none⟩) n c) (xs.set ii y) from by rw [hw];exact HP9.out.1);have HB10 := Aside0.mk (show Below w0.heap.size w0 w10 from by rw [hw];exact (((HB9.out).setCell GB.out (.int .i64 y.f0)).setCell GB.out (.int .i64 y.f1)).setCell GB.out (.bool y.f2));have HK10 := Aside0.mk (show Kept w w10 P0_ from by rw [hw];exact (((HK9.out).setCell (.inl PG.out) (.int .i64 y.f0)).setCell (.inl PG.out) (.int .i64 y.f1)).setCell (.inl PG.out) (.bool y.f2));clear hw))
     go_roundg (n - (jj + 1))
     case measure => omega
     case rel => exact ⟨ii + 1,jj + 1,xs.set ii y,by omega,by omega,by omega,by go_num,by go_num,⟨by rw [List.length_set];exact HX.out.1,HF.out.2.1 HQ.out,HF.out.2.2.2.1⟩,HO10,HB10,HK10⟩
   ·have hltz : ¬ (jj : Int) < (n : Int) := by omega
    have : jj = n := by omega
    subst this;have hT := Kd.R_take HOr.out (m := ii) (by have := HX.out.1;omega);have ht := Try.underlying25;obtain ⟨w2,hcl,ho2,hg2⟩ := R_cleared (P := Try.prog) (n := jj - ii) hT 25 0 (.agg #[(.int .i64 0),(.int .i64 0),(.bool false)]) ht (fun w => by kernel_rfl) rfl (fun u hu => slices_DeleteFunc_Log_Entry.zc _ hu) (by omega) (by omega);rw [show ii * (k40).sz = ii * 3 from rfl] at hcl;have HO2 := Aside0.mk ho2;have HG2 := Aside0.mk hg2;have hcm : (c = ii) = False := eq_false (by omega);have hcm1 : ((ii : Int) ≤ (c : Int)) = True := eq_true (by omega);have hcm2 : (ii ≤ c) = True := eq_true (by omega);have hcm3 : ((ii : Int) ≤ (jj : Int)) = True := eq_true (by omega);have hcm4 : (ii ≤ jj) = True := eq_true (by omega);clear ho2 hg2 hT
    go_wp2
    go_ret
    have HE := HX.out.2.1;rw [List.take_of_length_le (i := jj) (by rw [Hn.out];exact Nat.le_refl _)] at HE;rw [← HE];refine ⟨_,rfl,Kd.R_mono HO2.out (fun _ hk => .inl hk),HBr.out.grown HG2.out HBr.out.size (fun k hk => ?_),Kept.of_grown HG2.out HKr.out ?_⟩
    ·injection hk with hk
     subst hk;exact GB.out
    ·intro k hk
     injection hk with hk
     subst hk;exact .inl PG.out
 ·have hall : ∀ x ∈ l0,p x = false := fun x hx => by
   cases e : p x with
   | false => rfl
   | true => exact absurd (List.any_eq_true.2 ⟨x,hx,e⟩) hany
  rw [idxP_miss hall] at HI;rw [List.filter_eq_self.2 (fun x hx => by rw [hall x hx];rfl)];clear ho0 hB hp hC hany hall HP
  go_enter Try.func28,Try.ntmps28
  go_wp2_with (go_at_call 43;refine HI.out.mono ?_;rintro e w1 ⟨rfl,hb1⟩;have HO1 := Aside0.mk (Kd.R_below HO.out hb1);have HB1 := Aside0.mk (below_then HB.out HB.out.size hb1);have HK1 := Aside0.mk (Kept.below (Kept.refl w P0_) hb1);clear hb1)
  go_ret
  exact ⟨_,rfl,Kd.R_mono HO1.out (fun _ hk => .inl hk),HB1.out,HK1.out⟩
end Go.Proofs.Ytcoepebmmgcplaa.G
end

section
namespace Go.Proofs.Ytcoepebmmgcplaa.G
open Go.RowKit Go.Proofs.YtcoepebmmgcplaaW.PrintWords Go.Proofs.YtcoepebmmgcplaaW.PrintLast Go.Proofs.YtcoepebmmgcplaaW.PrintMore
attribute [local go_sem] max2_int min2_int max_two min_two max_three min_three max_four min_four
set_option linter.unusedVariables false
set_option linter.unusedSimpArgs false
def slices_DeleteFunc_Log_Entry__impl_AgreedLog_1.f (k : Nat) (l0 : List (S40)) (l1 : List (List (S40))) (a2 : Int) : Option (List (S40)) := delO (fun x => impl_AgreedLog_1.f k x.f0 x.f1 x.f2 l1 a2) l0
set_option maxHeartbeats 2000000 in
theorem slices_DeleteFunc_Log_Entry__impl_AgreedLog_1.calls (k : Nat) (P0_ : Nat → Prop) (u9000_ : Value) (l0 : List (S40)) (A1 : Option Addr) (c1 : Nat) (l1 : List (List (S40))) (b1 : Nat) (a2 : Int) (b2 : Nat) (r : List (S40)) (w0 w : World) (hB : Below w0.heap.size w0 w) (ho0 : Kd.R k40 40 w w0.heap.size P0_ u9000_ l0) (hr1 : Kd.C (Kd.slice 40 k40) w0 A1 l1.length l1) (hc1 : l1.length ≤ c1) (hb1 : w.heap[b1]? = some (.cells #[.slice A1 l1.length c1] 28 (0,0))) (hb2 : w.heap[b2]? = some (.cells #[.int .i64 a2] 2 (0,0))) (hn1_2 : b1 ≠ b2) (h : slices_DeleteFunc_Log_Entry__impl_AgreedLog_1.f k l0 l1 a2 = some r) :
  Calls Try.prog 28 #[u9000_,.func (.func 30) #[] #[.pointer (some ⟨b1,0,none⟩),.pointer (some ⟨b2,0,none⟩)]] w fun e w' => ∃ v0_ : Value,e = .returned (v0_) ∧ Kd.R k40 40 w' w0.heap.size (fun k_ => (P0_ k_ ∨ w.heap.size ≤ k_)) v0_ r ∧ Below w0.heap.size w0 w' ∧ Kept w w' (fun k_ => P0_ k_) := by
 have eg := enters_of Try.func30 (by kernel_rfl) rfl;obtain ⟨hall,rfl⟩ := delO_some h;have hty := Kd.R_typed ho0
 have far_ : ∀ (T b : Nat) (cs : Array Value),w.heap[b]? = some (.cells cs T (0,0)) → T ≠ 40 → ∀ W : World,Kept w W (fun k_ => some k_ = u9000_.ownBlock) → W.heap[b]? = some (.cells cs T (0,0)) := fun T b cs hb hne W hk => by
  refine (hk.2 b (blk_lt hb) (fun e => ?_)).trans hb;obtain ⟨c_,hc_⟩ := hty b e.symm;rw [hb] at hc_
  injection hc_ with h1_
  injection h1_ with _ h2_
  exact hne h2_
 refine (slices_DeleteFunc_Log_Entry.calls (fun k_ => some k_ = u9000_.ownBlock) u9000_ l0 _ #[.pointer (some ⟨b1,0,none⟩),.pointer (some ⟨b2,0,none⟩)] eg (fun x => impl_AgreedLog_1.f k x.f0 x.f1 x.f2 l1 a2 == some true) w0 w hB (Kd.R_tight rfl ho0) (fun W hW hK_ x hx => ?_)).mono fun e w' ⟨v0_,he,hR,hb,hk⟩ => ⟨v0_,he,Kd.R_mono hR (fun k_ hk_ => hk_.elim (fun e_ => .inl (ho0.1 k_ e_.symm)) .inr),hb,Kept.mono hk (fun k_ e_ => ho0.1 k_ e_.symm)⟩
 obtain ⟨b,hb⟩ := Option.isSome_iff_exists.1 (hall x hx);rw [show (#[.agg #[.int .i64 x.f0,.int .i64 x.f1,.bool x.f2]] ++ #[.pointer (some ⟨b1,0,none⟩),.pointer (some ⟨b2,0,none⟩)] : Array Value) = #[.agg #[.int .i64 x.f0,.int .i64 x.f1,.bool x.f2],.pointer (some ⟨b1,0,none⟩),.pointer (some ⟨b2,0,none⟩)] from rfl]
 exact (impl_AgreedLog_1.calls k x.f0 x.f1 x.f2 A1 c1 l1 b1 a2 b2 b W (Kd.C_below hr1 hW) hc1 (far_ 28 b1 _ hb1 (by decide) W hK_) (far_ 2 b2 _ hb2 (by decide) W hK_) hn1_2 hb).mono fun e w' ⟨he,hw⟩ => ⟨he.trans (by rw [hb];cases b <;> rfl),hw⟩
end Go.Proofs.Ytcoepebmmgcplaa.G
end

section
namespace Go.Proofs.Ytcoepebmmgcplaa.G
open Go.RowKit Go.Proofs.YtcoepebmmgcplaaW.PrintWords Go.Proofs.YtcoepebmmgcplaaW.PrintLast Go.Proofs.YtcoepebmmgcplaaW.PrintMore
attribute [local go_sem] max2_int min2_int max_two min_two max_three min_three max_four min_four
set_option linter.unusedVariables false
set_option linter.unusedSimpArgs false
def cmp_isNaN_int64.f (a0 : Int) : Option (Bool) := some (a0 != a0)
set_option maxHeartbeats 8000000 in
set_option maxRecDepth 100000 in
theorem cmp_isNaN_int64.calls (a0 : Int) (r : Bool) (w : World) (h : cmp_isNaN_int64.f a0 = some r) :
  Calls Try.prog 57 #[.int .i64 a0] w fun e w' => e = .returned (.bool r) ∧ Drawn0 w w' := by
 have H : (some (a0 != a0)) = some r := h;clear h;obtain rfl := Option.some.inj H
 go_enter Try.func57,Try.ntmps57
 go_wp2
 go_ret
 exact ⟨by first | rfl | (simp only [IntKind.wrap_i64,wrap64];done) | (simp;done) | (simp [*];done),by repeat (first | exact Drawn0.refl _ | apply Drawn0.step)⟩
end Go.Proofs.Ytcoepebmmgcplaa.G
end

section
namespace Go.Proofs.Ytcoepebmmgcplaa.G
open Go.RowKit Go.Proofs.YtcoepebmmgcplaaW.PrintWords Go.Proofs.YtcoepebmmgcplaaW.PrintLast Go.Proofs.YtcoepebmmgcplaaW.PrintMore
attribute [local go_sem] max2_int min2_int max_two min_two max_three min_three max_four min_four
set_option linter.unusedVariables false
set_option linter.unusedSimpArgs false
def cmp_Compare_int64.f (a0 : Int) (a1 : Int) : Option (Int) := (cmp_isNaN_int64.f a0).bind fun t101 => ((cmp_isNaN_int64.f a1).bind fun t102 => (if t101 = true then (if t102 = true then (some 0) else (some (-1))) else (if t102 = true then (some 1) else (if a0 < a1 then (some (-1)) else (if a0 > a1 then (some 1) else (some 0))))))
set_option maxHeartbeats 8000000 in
set_option maxRecDepth 100000 in
theorem cmp_Compare_int64.calls (a0 : Int) (a1 : Int) (r : Int) (w : World) (h : cmp_Compare_int64.f a0 a1 = some r) :
  Calls Try.prog 42 #[.int .i64 a0,.int .i64 a1] w fun e w' => e = .returned (.int .i64 r) ∧ Drawn0 w w' := by
 have H : ((cmp_isNaN_int64.f a0).bind fun t101 => ((cmp_isNaN_int64.f a1).bind fun t102 => (if t101 = true then (if t102 = true then (some 0) else (some (-1))) else (if t102 = true then (some 1) else (if a0 < a1 then (some (-1)) else (if a0 > a1 then (some 1) else (some 0))))))) = some r := h;clear h;replace H := Option.bind_eq_some_iff.mp H;obtain ⟨t101,A30,H⟩ := H;replace H : ((cmp_isNaN_int64.f a1).bind fun t102 => (if t101 = true then (if t102 = true then (some 0) else (some (-1))) else (if t102 = true then (some 1) else (if a0 < a1 then (some (-1)) else (if a0 > a1 then (some 1) else (some 0)))))) = some r := H;have A3 := Aside0.mk A30;clear A30;replace H := Option.bind_eq_some_iff.mp H;obtain ⟨t102,A40,H⟩ := H;replace H : (if t101 = true then (if t102 = true then (some 0) else (some (-1))) else (if t102 = true then (some 1) else (if a0 < a1 then (some (-1)) else (if a0 > a1 then (some 1) else (some 0))))) = some r := H;have A4 := Aside0.mk A40;clear A40
 by_cases c5 : t101 = true
 ·subst c5
  have H1 : (if t102 = true then (some 0) else (some (-1))) = some r := by rw [if_pos rfl] at H;exact H
  clear H;have H := H1;clear H1
  by_cases c6 : t102 = true
  ·subst c6
   have H1 : (some 0) = some r := by rw [if_pos rfl] at H;exact H
   clear H;have H := H1;clear H1;obtain rfl := Option.some.inj H
   go_enter Try.func42,Try.ntmps42
   go_wp2_with (first | ((with_reducible refine gate_callee (f := 57) rfl ?_);refine goesL_ (some 8) rfl rfl Try.func57 (by kernel_rfl) rfl #[.int .i64 a0] rfl (by (try simp only [List.map_toArray,List.map_cons,List.map_nil]);first | done | rfl | (simp only [List.length_drop,List.length_take];rfl)) ?_;(with_reducible refine (cmp_isNaN_int64.calls a0 true _ A3.out).mono ?_);rintro e w' ⟨rfl,⟨nd,rfl⟩⟩;refine ⟨_,rfl,?_⟩) | ((with_reducible refine gate_callee (f := 57) rfl ?_);refine goesL_ (some 10) rfl rfl Try.func57 (by kernel_rfl) rfl #[.int .i64 a1] rfl (by (try simp only [List.map_toArray,List.map_cons,List.map_nil]);first | done | rfl | (simp only [List.length_drop,List.length_take];rfl)) ?_;(with_reducible refine (cmp_isNaN_int64.calls a1 true _ A4.out).mono ?_);rintro e w' ⟨rfl,⟨nd,rfl⟩⟩;refine ⟨_,rfl,?_⟩))
   go_ret
   exact ⟨by first | rfl | (simp only [IntKind.wrap_i64,wrap64];done) | (simp;done) | (simp [*];done),by repeat (first | exact Drawn0.refl _ | apply Drawn0.step)⟩
  ·replace c6 := Bool.eq_false_iff.mpr c6;subst c6
   have H1 : (some (-1)) = some r := by rw [if_neg (show ¬ (false = true) by decide)] at H;exact H
   clear H;have H := H1;clear H1;obtain rfl := Option.some.inj H
   go_enter Try.func42,Try.ntmps42
   go_wp2_with (first | ((with_reducible refine gate_callee (f := 57) rfl ?_);refine goesL_ (some 8) rfl rfl Try.func57 (by kernel_rfl) rfl #[.int .i64 a0] rfl (by (try simp only [List.map_toArray,List.map_cons,List.map_nil]);first | done | rfl | (simp only [List.length_drop,List.length_take];rfl)) ?_;(with_reducible refine (cmp_isNaN_int64.calls a0 true _ A3.out).mono ?_);rintro e w' ⟨rfl,⟨nd,rfl⟩⟩;refine ⟨_,rfl,?_⟩) | ((with_reducible refine gate_callee (f := 57) rfl ?_);refine goesL_ (some 10) rfl rfl Try.func57 (by kernel_rfl) rfl #[.int .i64 a1] rfl (by (try simp only [List.map_toArray,List.map_cons,List.map_nil]);first | done | rfl | (simp only [List.length_drop,List.length_take];rfl)) ?_;(with_reducible refine (cmp_isNaN_int64.calls a1 false _ A4.out).mono ?_);rintro e w' ⟨rfl,⟨nd,rfl⟩⟩;refine ⟨_,rfl,?_⟩))
   go_ret
   exact ⟨by first | rfl | (simp only [IntKind.wrap_i64,wrap64];done) | (simp;done) | (simp [*];done),by repeat (first | exact Drawn0.refl _ | apply Drawn0.step)⟩
 ·replace c5 := Bool.eq_false_iff.mpr c5;subst c5
  have H1 : (if t102 = true then (some 1) else (if a0 < a1 then (some (-1)) else (if a0 > a1 then (some 1) else (some 0)))) = some r := by rw [if_neg (show ¬ (false = true) by decide)] at H;exact H
  clear H;have H := H1;clear H1
  by_cases c7 : t102 = true
  ·subst c7
   have H1 : (some 1) = some r := by rw [if_pos rfl] at H;exact H
   clear H;have H := H1;clear H1;obtain rfl := Option.some.inj H
   go_enter Try.func42,Try.ntmps42
   go_wp2_with (first | ((with_reducible refine gate_callee (f := 57) rfl ?_);refine goesL_ (some 8) rfl rfl Try.func57 (by kernel_rfl) rfl #[.int .i64 a0] rfl (by (try simp only [List.map_toArray,List.map_cons,List.map_nil]);first | done | rfl | (simp only [List.length_drop,List.length_take];rfl)) ?_;(with_reducible refine (cmp_isNaN_int64.calls a0 false _ A3.out).mono ?_);rintro e w' ⟨rfl,⟨nd,rfl⟩⟩;refine ⟨_,rfl,?_⟩) | ((with_reducible refine gate_callee (f := 57) rfl ?_);refine goesL_ (some 10) rfl rfl Try.func57 (by kernel_rfl) rfl #[.int .i64 a1] rfl (by (try simp only [List.map_toArray,List.map_cons,List.map_nil]);first | done | rfl | (simp only [List.length_drop,List.length_take];rfl)) ?_;(with_reducible refine (cmp_isNaN_int64.calls a1 true _ A4.out).mono ?_);rintro e w' ⟨rfl,⟨nd,rfl⟩⟩;refine ⟨_,rfl,?_⟩))
   go_ret
   exact ⟨by first | rfl | (simp only [IntKind.wrap_i64,wrap64];done) | (simp;done) | (simp [*];done),by repeat (first | exact Drawn0.refl _ | apply Drawn0.step)⟩
  ·replace c7 := Bool.eq_false_iff.mpr c7;subst c7
   have H1 : (if a0 < a1 then (some (-1)) else (if a0 > a1 then (some 1) else (some 0))) = some r := by rw [if_neg (show ¬ (false = true) by decide)] at H;exact H
   clear H;have H := H1;clear H1
   by_cases c8 : a0 < a1
   ·rw [if_pos c8] at H;have c8b0 : decide (a0 < a1) = true := decide_eq_true c8;clear c8;obtain rfl := Option.some.inj H
    go_enter Try.func42,Try.ntmps42
    go_wp2_with (first | ((with_reducible refine gate_callee (f := 57) rfl ?_);refine goesL_ (some 8) rfl rfl Try.func57 (by kernel_rfl) rfl #[.int .i64 a0] rfl (by (try simp only [List.map_toArray,List.map_cons,List.map_nil]);first | done | rfl | (simp only [List.length_drop,List.length_take];rfl)) ?_;(with_reducible refine (cmp_isNaN_int64.calls a0 false _ A3.out).mono ?_);rintro e w' ⟨rfl,⟨nd,rfl⟩⟩;refine ⟨_,rfl,?_⟩) | ((with_reducible refine gate_callee (f := 57) rfl ?_);refine goesL_ (some 10) rfl rfl Try.func57 (by kernel_rfl) rfl #[.int .i64 a1] rfl (by (try simp only [List.map_toArray,List.map_cons,List.map_nil]);first | done | rfl | (simp only [List.length_drop,List.length_take];rfl)) ?_;(with_reducible refine (cmp_isNaN_int64.calls a1 false _ A4.out).mono ?_);rintro e w' ⟨rfl,⟨nd,rfl⟩⟩;refine ⟨_,rfl,?_⟩))
    go_ret
    exact ⟨by first | rfl | (simp only [IntKind.wrap_i64,wrap64];done) | (simp;done) | (simp [*];done),by repeat (first | exact Drawn0.refl _ | apply Drawn0.step)⟩
   ·rw [if_neg c8] at H;have c8b0 : decide (a0 < a1) = false := decide_eq_false c8;clear c8
    by_cases c9 : a0 > a1
    ·rw [if_pos c9] at H;have c9b0 : decide (a1 < a0) = true := decide_eq_true c9;clear c9;obtain rfl := Option.some.inj H
     go_enter Try.func42,Try.ntmps42
     go_wp2_with (first | ((with_reducible refine gate_callee (f := 57) rfl ?_);refine goesL_ (some 8) rfl rfl Try.func57 (by kernel_rfl) rfl #[.int .i64 a0] rfl (by (try simp only [List.map_toArray,List.map_cons,List.map_nil]);first | done | rfl | (simp only [List.length_drop,List.length_take];rfl)) ?_;(with_reducible refine (cmp_isNaN_int64.calls a0 false _ A3.out).mono ?_);rintro e w' ⟨rfl,⟨nd,rfl⟩⟩;refine ⟨_,rfl,?_⟩) | ((with_reducible refine gate_callee (f := 57) rfl ?_);refine goesL_ (some 10) rfl rfl Try.func57 (by kernel_rfl) rfl #[.int .i64 a1] rfl (by (try simp only [List.map_toArray,List.map_cons,List.map_nil]);first | done | rfl | (simp only [List.length_drop,List.length_take];rfl)) ?_;(with_reducible refine (cmp_isNaN_int64.calls a1 false _ A4.out).mono ?_);rintro e w' ⟨rfl,⟨nd,rfl⟩⟩;refine ⟨_,rfl,?_⟩))
     go_ret
     exact ⟨by first | rfl | (simp only [IntKind.wrap_i64,wrap64];done) | (simp;done) | (simp [*];done),by repeat (first | exact Drawn0.refl _ | apply Drawn0.step)⟩
    ·rw [if_neg c9] at H;have c9b0 : decide (a1 < a0) = false := decide_eq_false c9;clear c9;obtain rfl := Option.some.inj H
     go_enter Try.func42,Try.ntmps42
     go_wp2_with (first | ((with_reducible refine gate_callee (f := 57) rfl ?_);refine goesL_ (some 8) rfl rfl Try.func57 (by kernel_rfl) rfl #[.int .i64 a0] rfl (by (try simp only [List.map_toArray,List.map_cons,List.map_nil]);first | done | rfl | (simp only [List.length_drop,List.length_take];rfl)) ?_;(with_reducible refine (cmp_isNaN_int64.calls a0 false _ A3.out).mono ?_);rintro e w' ⟨rfl,⟨nd,rfl⟩⟩;refine ⟨_,rfl,?_⟩) | ((with_reducible refine gate_callee (f := 57) rfl ?_);refine goesL_ (some 10) rfl rfl Try.func57 (by kernel_rfl) rfl #[.int .i64 a1] rfl (by (try simp only [List.map_toArray,List.map_cons,List.map_nil]);first | done | rfl | (simp only [List.length_drop,List.length_take];rfl)) ?_;(with_reducible refine (cmp_isNaN_int64.calls a1 false _ A4.out).mono ?_);rintro e w' ⟨rfl,⟨nd,rfl⟩⟩;refine ⟨_,rfl,?_⟩))
     go_ret
     exact ⟨by first | rfl | (simp only [IntKind.wrap_i64,wrap64];done) | (simp;done) | (simp [*];done),by repeat (first | exact Drawn0.refl _ | apply Drawn0.step)⟩
end Go.Proofs.Ytcoepebmmgcplaa.G
end

section
namespace Go.Proofs.Ytcoepebmmgcplaa.G
open Go.RowKit Go.Proofs.YtcoepebmmgcplaaW.PrintWords Go.Proofs.YtcoepebmmgcplaaW.PrintLast Go.Proofs.YtcoepebmmgcplaaW.PrintMore
attribute [local go_sem] max2_int min2_int max_two min_two max_three min_three max_four min_four
set_option linter.unusedVariables false
set_option linter.unusedSimpArgs false
def cmp_Or_int.l0 : Nat → Int → List Int → Int → Int → Option (Int)
 | 0,_,_,_,_ => none
 | k + 1,x3,x6,x7,x8 => if x8 < x7 then (if 0 ≤ x8 then (if x8 < (x6.length : Int) then (if (rd x6 x8) = x3 then (cmp_Or_int.l0 k x3 x6 x7 (wrap64 (x8 + 1))) else (some (rd x6 x8))) else (none)) else (none)) else (some x3)
def cmp_Or_int.f (k : Nat) (l0 : List Int) : Option (Int) := cmp_Or_int.l0 k 0 l0 (l0.length : Int) 0
set_option maxHeartbeats 8000000 in
set_option maxRecDepth 100000 in
theorem cmp_Or_int.calls (k : Nat) (A0 : Option Addr) (c0 : Nat) (l0 : List Int) (r : Int) (w : World) (hr0 : Kd.C (Kd.int .i64) w A0 l0.length l0) (hc0 : l0.length ≤ c0) (h : cmp_Or_int.f k l0 = some r) :
  Calls Try.prog 41 #[.slice A0 l0.length c0] w fun e w' => e = .returned (.int .i64 r) ∧ Drawn0 w w' := by
 have HR0 := Aside0.mk hr0;have HC0 := Aside0.mk hc0;clear hr0 hc0;have H : (cmp_Or_int.l0 k 0 l0 (l0.length : Int) 0) = some r := h;clear h;have H' := Aside0.mk H;clear H
 go_enter Try.func41,Try.ntmps41
 go_wp2
 go_loopg [8] k (fun kq v8 w' => ∃ (x8_1 : Int),v8 = .int .i64 x8_1 ∧ Aside0 (cmp_Or_int.l0 kq 0 l0 (l0.length : Int) x8_1 = some r) ∧ Aside0 (kq ≤ k) ∧ Drawn0 w w')
 case atStart => exact ⟨(0),(by first | rfl | (simp only [IntKind.wrap_i64,wrap64];done) | (simp;done) | (simp [*];done)),H',⟨Nat.le_refl _⟩,by repeat (first | exact Drawn0.refl _ | apply Drawn0.step)⟩
 case round =>
  clear H';obtain ⟨x8_1,rfl,HA,HK1,⟨m1,rfl⟩⟩ := hrel
  cases gk with
  | zero => exact absurd HA.out (by simp [cmp_Or_int.l0])
  | succ k1 =>
   have H := HA.out;clear HA;simp only [cmp_Or_int.l0] at H
   by_cases c2 : x8_1 < (l0.length : Int)
   ·rw [if_pos c2] at H;have c2b0 : decide (x8_1 < (l0.length : Int)) = true := decide_eq_true c2;clear c2
    by_cases c3 : 0 ≤ x8_1
    ·rw [if_pos c3] at H;have c3b0 : decide (0 ≤ x8_1) = true := decide_eq_true c3;clear c3
     by_cases c4 : x8_1 < (l0.length : Int)
     ·rw [if_pos c4] at H;have c4b0 : decide (x8_1 < (l0.length : Int)) = true := decide_eq_true c4;clear c4
      by_cases c5 : (rd l0 x8_1) = 0
      ·rw [if_pos c5] at H;have c5b0 : ((rd l0 x8_1) == 0) = true := beq_iff_eq.mpr c5;have c5b1 : ((rd l0 x8_1) != 0) = false := bne_eq_false_iff_eq.mpr c5;clear c5;have H' := Aside0.mk H;clear H;have p101 : 0 ≤ (x8_1 : Int) := of_decide_eq_true (by first | (with_reducible assumption) | assumption);have q101 : x8_1 < (l0.length : Int) := of_decide_eq_true (by first | (with_reducible assumption) | assumption);obtain ⟨ad101,e101,hx101_0⟩ := Kd.at_int HR0.out x8_1 p101 q101;cases e101;replace p101 := eq_true p101;replace q101 := eq_true q101
       go_wp2
       go_roundg k1
       case measure => have := HK1.out;omega
       case rel => exact ⟨(wrap64 (x8_1 + 1)),(by first | rfl | (simp only [IntKind.wrap_i64,wrap64];done) | (simp;done) | (simp [*];done)),H',⟨by have := HK1.out;omega⟩,by repeat (first | exact Drawn0.refl _ | apply Drawn0.step)⟩
      ·rw [if_neg c5] at H;have c5b0 : ((rd l0 x8_1) == 0) = false := beq_eq_false_iff_ne.mpr c5;have c5b1 : ((rd l0 x8_1) != 0) = true := bne_iff_ne.mpr c5;obtain rfl := Option.some.inj H;have p101 : 0 ≤ (x8_1 : Int) := of_decide_eq_true (by first | (with_reducible assumption) | assumption);have q101 : x8_1 < (l0.length : Int) := of_decide_eq_true (by first | (with_reducible assumption) | assumption);obtain ⟨ad101,e101,hx101_0⟩ := Kd.at_int HR0.out x8_1 p101 q101;cases e101;replace p101 := eq_true p101;replace q101 := eq_true q101
       go_wp2
       go_ret
       exact ⟨by first | rfl | (simp only [IntKind.wrap_i64,wrap64];done) | (simp;done) | (simp [*];done),by repeat (first | exact Drawn0.refl _ | apply Drawn0.step)⟩
     ·rw [if_neg c4] at H;exact absurd H (by simp)
    ·rw [if_neg c3] at H;exact absurd H (by simp)
   ·rw [if_neg c2] at H;have c2b0 : decide (x8_1 < (l0.length : Int)) = false := decide_eq_false c2;clear c2;obtain rfl := Option.some.inj H
    go_wp2
    go_ret
    exact ⟨by first | rfl | (simp only [IntKind.wrap_i64,wrap64];done) | (simp;done) | (simp [*];done),by repeat (first | exact Drawn0.refl _ | apply Drawn0.step)⟩
end Go.Proofs.Ytcoepebmmgcplaa.G
end

section
namespace Go.Proofs.Ytcoepebmmgcplaa.G
open Go.RowKit Go.Proofs.YtcoepebmmgcplaaW.PrintWords Go.Proofs.YtcoepebmmgcplaaW.PrintLast Go.Proofs.YtcoepebmmgcplaaW.PrintMore
attribute [local go_sem] max2_int min2_int max_two min_two max_three min_three max_four min_four
set_option linter.unusedVariables false
set_option linter.unusedSimpArgs false
def impl_compareEntries.j0 : Nat → Int → Bool → Int → Int → Bool → Option (Int)
 | 0,_,_,_,_,_ => none
 | k + 1,x5,x26,x103000,x103001,x103002 => if x26 = true then (some x5) else (if x103002 = true then (some (-1)) else (some 1))
def impl_compareEntries.f (k : Nat) (a0_0 : Int) (a0_1 : Int) (a0_2 : Bool) (a1_0 : Int) (a1_1 : Int) (a1_2 : Bool) : Option (Int) := (cmp_Compare_int64.f a0_0 a1_0).bind fun t103 => ((cmp_Compare_int64.f a0_1 a1_1).bind fun t104 => ((cmp_Or_int.f k (([t103,t104] : List Int))).bind fun t108 => (if t108 = 0 then (impl_compareEntries.j0 k t108 (a0_2 == a1_2) a1_0 a1_1 a1_2) else (impl_compareEntries.j0 k t108 true a1_0 a1_1 a1_2))))
def impl_compareEntries.T1 : Bool × List (List Nat × List Nat) := (true,[([],[]),([0],[0]),([],[]),([2],[2]),([1,3],[1,3]),([],[]),([5],[5]),([],[]),([7],[7]),([6,8,4],[6,8]),([4,9],[4,9]),([10,9],[10]),([11,11,0,1,2,3,4,5,6,7,8,9,10,11],[11])])
def impl_compareEntries.B1 : List Nat := [0,1,0,4,15,0,32,0,128,511,1023,2047,4095]
theorem impl_compareEntries.tab1 : rtab .any (opsOf Try.f27 1) = impl_compareEntries.T1 := by kernel_rfl
theorem impl_compareEntries.bits1 : waitsOk impl_compareEntries.T1.2 impl_compareEntries.B1 = true := by kernel_rfl
def BelowD (w W : World) : Prop := Below w.heap.size w W ∧ w.drawn ≤ W.drawn
theorem BelowD.refl (w : World) : BelowD w w := ⟨Below.refl _ _,Nat.le_refl _⟩
theorem belowD_alloc {w W : World} (h : BelowD w W) (o : Obj) : BelowD w (W.alloc o) := ⟨below_alloc h.1 o,h.2⟩
theorem belowD_drewN {w W : World} (h : BelowD w W) (n : Nat) : BelowD w (W.drewN n) := ⟨pw_below_drewN h.1 n,Nat.le_trans h.2 (Nat.le_add_right _ _)⟩
theorem belowD_drew1 {w W : World} (h : BelowD w W) : BelowD w W.drew := ⟨below_drew1 h.1,Nat.le_trans h.2 (Nat.le_add_right _ _)⟩
theorem belowD_set {w W : World} {g j : Nat} {v : Value} (h : BelowD w W) (hg : w.heap.size ≤ g) : BelowD w (W.setCell ⟨g,j,none⟩ v) := ⟨below_set h.1 hg,by rw [show (W.setCell ⟨g,j,none⟩ v).drawn = W.drawn from by unfold World.setCell;split <;> rfl];exact h.2⟩
theorem belowD_size {w W : World} (h : BelowD w W) : w.heap.size ≤ W.heap.size := h.1.size
theorem belowD_step {w W w2 : World} (h : BelowD w W) (k : BelowD W w2) : BelowD w w2 := ⟨below_step h.1 k.1,Nat.le_trans h.2 k.2⟩
theorem blk_belowD {w w1 : World} {g : Nat} {o : Obj} (h : w.heap[g]? = some o) (hb : BelowD w w1) : w1.heap[g]? = some o := blk_below h hb.1
theorem belowD_grow {w W : World} (h : BelowD w W) : ∃ q os,W = Go.Sort.grow (w.drewN q) os := by
 obtain ⟨hb,hd⟩ := h;refine ⟨W.drawn - w.drawn,W.heap.extract w.heap.size W.heap.size,?_⟩
 have hh : W.heap = w.heap ++ W.heap.extract w.heap.size W.heap.size := by
  apply Array.ext'
  apply List.ext_getElem?
  intro i
  rcases Nat.lt_or_ge i w.heap.size with h1 | h1
  ·have := hb.block i h1;simp only [Array.toList_append,Array.getElem?_toList];rw [List.getElem?_append_left (by simpa using h1),Array.getElem?_toList];exact this
  ·have hs := hb.size;simp only [Array.toList_append,Array.getElem?_toList];rw [List.getElem?_append_right (by simpa using h1),Array.getElem?_toList,Array.getElem?_extract];simp only [Array.length_toList]
   rcases Nat.lt_or_ge i W.heap.size with h2 | h2
   ·rw [if_pos (by omega)]
    congr 1
    omega
   ·rw [if_neg (by omega),Array.getElem?_eq_none h2]
 obtain ⟨heap,tape,drawn,os,output⟩ := W;obtain ⟨heap0,tape0,drawn0,os0,output0⟩ := w;have e1 := hb.os;have e2 := hb.tape;have e3 := hb.output;simp only at e1 e2 e3 hh hd;subst e1 e2 e3
 unfold Go.Sort.grow World.drewN
 simp only [World.mk.injEq,and_true,true_and];exact ⟨hh,by omega⟩
section
variable {P : Program} {ops : Array Oper} {rest : List Oper} {o : Oper} {a : Act} {Q : Exit → Act → World → Prop}
theorem box_eventD {W : World} (hgd : o.guard = none) {N : Tmp} (_hd : o.dst = some N) {cs : Array Value} {t : TypeId}
  (hrun : (execOp a.eval o).run P W = .ok (.value (.pointer (some ⟨W.heap.size,0,none⟩))) (W.alloc (.cells cs t (0,0))))
  (h : ∀ g,g = W.heap.size → ∀ w1,w1.heap[g]? = some (.cells cs t (0,0)) → BelowD W w1 → wpList P ops Q rest (a.put o.dst (.pointer (some ⟨g,0,none⟩))) w1) : wpList P ops Q (o :: rest) a W :=
 Kd.event_run hgd hrun (h _ rfl _ (blk_new W _) (belowD_alloc (BelowD.refl _) _))
theorem litD_step {α : Type} {Kc : Act → World → Prop} (d : Kd α) {W : World} (base e : Nat) (hw : Region.wanted o (yielded ops a.tmps) = true) {N : Tmp} (_hd : o.dst = some N) {xs : List α} {inner : List Value} {ok okp : Nat → Prop}
  (hrun : (execOp a.eval o).run P W = .ok (.value (.slice (some ⟨W.heap.size,0,none⟩) xs.length xs.length)) (W.alloc (.cells inner.toArray e)))
  (hrep : Reps (d.M W base okp) d.sz xs inner) (hok : ∀ k,okp k → ok k) (hfresh : ok W.heap.size) (HB : BelowD W W) (hbase : base ≤ W.heap.size) (hm : xs.length ≤ 9223372036854775807)
  (h : ∀ v1 w1,d.R e w1 base ok v1 xs → BelowD W w1 → W.grownBy w1 none → (∃ b,v1.ownBlock = some b ∧ W.heap.size ≤ b) → Kc (a.put o.dst v1) w1) : if Region.wanted o (yielded ops a.tmps) = true then Oper.wp P o a W Kc Q else Kc (a.put o.dst undef) W := by
 refine event_step hw hrun (h _ _ ⟨fun k hk => ?_,inner,?_,?_⟩ (belowD_alloc HB _) (World.grownBy_alloc W _ none) ⟨W.heap.size,by simp [Value.ownBlock],Nat.le_refl _⟩)
 ·have : W.heap.size = k := by simpa [Value.ownBlock] using hk
  subst this;exact hfresh
 ·have h2 := World.ownsRow_lit (base := base) (e := e) (size := d.sz) W inner.toArray xs.length hbase (by simpa [maxLen] using hm) (by simpa using hrep.1)
  simpa using h2
 ·refine hrep.imp_ (fun p c hp => d.M_mono (fun k hk => ⟨hok k hk.1,fun he => ?_⟩) (Kd.M_below (d.M_bound hp) (below_alloc (Below.refl _ _) _)))
  have h3 : k = W.heap.size := by simpa [Value.ownBlock] using he
  have := hk.2.2.1
  omega
end
set_option maxHeartbeats 8000000 in
set_option maxRecDepth 100000 in
theorem impl_compareEntries.callsD (k : Nat) (a0_0 : Int) (a0_1 : Int) (a0_2 : Bool) (a1_0 : Int) (a1_1 : Int) (a1_2 : Bool) (r : Int) (w : World) (h : impl_compareEntries.f k a0_0 a0_1 a0_2 a1_0 a1_1 a1_2 = some r) :
  Calls Try.prog 27 #[.agg #[.int .i64 a0_0,.int .i64 a0_1,.bool a0_2],.agg #[.int .i64 a1_0,.int .i64 a1_1,.bool a1_2]] w fun e w' => e = .returned (.int .i64 r) ∧ BelowD w w' := by
 have hu40 := Try.underlying40;have HB := Aside0.mk (BelowD.refl w);have H : ((cmp_Compare_int64.f a0_0 a1_0).bind fun t103 => ((cmp_Compare_int64.f a0_1 a1_1).bind fun t104 => ((cmp_Or_int.f k (([t103,t104] : List Int))).bind fun t108 => (if t108 = 0 then (impl_compareEntries.j0 k t108 (a0_2 == a1_2) a1_0 a1_1 a1_2) else (impl_compareEntries.j0 k t108 true a1_0 a1_1 a1_2))))) = some r := h;clear h;replace H := Option.bind_eq_some_iff.mp H;obtain ⟨t103,A30,H⟩ := H;replace H : ((cmp_Compare_int64.f a0_1 a1_1).bind fun t104 => ((cmp_Or_int.f k (([t103,t104] : List Int))).bind fun t108 => (if t108 = 0 then (impl_compareEntries.j0 k t108 (a0_2 == a1_2) a1_0 a1_1 a1_2) else (impl_compareEntries.j0 k t108 true a1_0 a1_1 a1_2)))) = some r := H;have A3 := Aside0.mk A30;clear A30;replace H := Option.bind_eq_some_iff.mp H;obtain ⟨t104,A40,H⟩ := H;replace H : ((cmp_Or_int.f k (([t103,t104] : List Int))).bind fun t108 => (if t108 = 0 then (impl_compareEntries.j0 k t108 (a0_2 == a1_2) a1_0 a1_1 a1_2) else (impl_compareEntries.j0 k t108 true a1_0 a1_1 a1_2))) = some r := H;have A4 := Aside0.mk A40;clear A40;obtain ⟨y105,hy105⟩ : ∃ y_ : List Int,y_ = (([t103,t104] : List Int)) := ⟨_,rfl⟩
 replace H : ((cmp_Or_int.f k y105).bind fun t108 => (if t108 = 0 then (impl_compareEntries.j0 k t108 (a0_2 == a1_2) a1_0 a1_1 a1_2) else (impl_compareEntries.j0 k t108 true a1_0 a1_1 a1_2))) = some r := by first | (rw [hy105];with_reducible exact H) | (have H2_ := (Option.bind_some _ _).symm.trans H;rw [hy105];with_reducible exact H2_) | (have H2_ := (Option.bind_some _ _).symm.trans H;with_reducible exact H2_) | with_reducible exact H | (rw [hy105];exact H) | exact H
 have Ny105 := Aside0.mk hy105;clear hy105;replace H := Option.bind_eq_some_iff.mp H;obtain ⟨t108,A50,H⟩ := H;replace H : (if t108 = 0 then (impl_compareEntries.j0 k t108 (a0_2 == a1_2) a1_0 a1_1 a1_2) else (impl_compareEntries.j0 k t108 true a1_0 a1_1 a1_2)) = some r := H;have A5 := Aside0.mk A50;clear A50;have HC6 := Aside0.mk H;clear H
 go_enter Try.func27,Try.ntmps27
 try go_wp2_with (first | ((with_reducible refine gate_dst (N := 2) rfl ?_);refine box_eventD ?hg (N := 2) ?hd (cs := #[.int .i64 a0_0,.int .i64 a0_1,.bool a0_2]) (t := 40) ?hr ?_;(case hd => rfl);(case hg => rfl);(case hr => first | (go_simp;done) | (go_simp;rfl));intro gb101 hg w7 hbox hb;have n0_ := Aside0.mk (belowD_step (by repeat (first | (with_reducible first | exact HB.out | apply belowD_alloc | apply belowD_drewN | apply belowD_drew1) | exact HB.out)) hb);have n1_ := Aside0.mk (hbox);have n2_ := Aside0.mk ((by rw [hg];exact (belowD_size (by repeat (first | (with_reducible first | exact HB.out | apply belowD_alloc | apply belowD_drewN | apply belowD_drew1) | exact HB.out))) : w.heap.size ≤ gb101));have n3_ := Aside0.mk ((by rw [hg];exact (belowD_size (by repeat (first | (with_reducible first | exact HB.out | apply belowD_alloc | apply belowD_drewN | apply belowD_drew1) | exact HB.out))) : w.heap.size ≤ gb101));clear HB;have HB := n0_;have BK101 := n1_;have GW101 := n2_;have GE101 := n3_;clear n0_ n1_ n2_ n3_;clear hb hbox hg) | ((with_reducible refine gate_dst (N := 3) rfl ?_);refine box_eventD ?hg (N := 3) ?hd (cs := #[.int .i64 a1_0,.int .i64 a1_1,.bool a1_2]) (t := 40) ?hr ?_;(case hd => rfl);(case hg => rfl);(case hr => first | (go_simp;done) | (go_simp;rfl));intro gb102 hg w8 hbox hb;have n0_ := Aside0.mk (blk_belowD (g := gb101) (o := .cells #[.int .i64 a0_0,.int .i64 a0_1,.bool a0_2] 40 (0,0)) (by (with_reducible repeat (first | refine blk_drewN ?_ _ | refine blk_drew ?_ | refine blk_alloc ?_ _));exact BK101.out) hb);have n1_ := Aside0.mk (belowD_step (by repeat (first | (with_reducible first | exact HB.out | apply belowD_alloc | apply belowD_drewN | apply belowD_drew1 | refine belowD_set ?_ GE101.out) | exact HB.out)) hb);have n2_ := Aside0.mk (hbox);have n3_ := Aside0.mk ((by rw [hg];exact (belowD_size (by repeat (first | (with_reducible first | exact HB.out | apply belowD_alloc | apply belowD_drewN | apply belowD_drew1 | refine belowD_set ?_ GE101.out) | exact HB.out))) : w.heap.size ≤ gb102));have n4_ := Aside0.mk ((by rw [hg];exact (belowD_size (by repeat (first | (with_reducible first | exact HB.out | apply belowD_alloc | apply belowD_drewN | apply belowD_drew1 | refine belowD_set ?_ GE101.out) | exact HB.out))) : w.heap.size ≤ gb102));have n5_ := Aside0.mk ((by rw [hg];exact Nat.ne_of_lt (blk_lt (g := gb101) (o := .cells #[.int .i64 a0_0,.int .i64 a0_1,.bool a0_2] 40 (0,0)) (by (with_reducible repeat (first | refine blk_drewN ?_ _ | refine blk_drew ?_ | refine blk_alloc ?_ _));exact BK101.out)) : gb101 ≠ gb102));have n6_ := Aside0.mk ((by rw [hg];exact Nat.ne_of_gt (blk_lt (g := gb101) (o := .cells #[.int .i64 a0_0,.int .i64 a0_1,.bool a0_2] 40 (0,0)) (by (with_reducible repeat (first | refine blk_drewN ?_ _ | refine blk_drew ?_ | refine blk_alloc ?_ _));exact BK101.out)) : gb102 ≠ gb101));clear BK101;clear HB;have BK101 := n0_;have HB := n1_;have BK102 := n2_;have GW102 := n3_;have GE102 := n4_;have NB101_102 := n5_;have NB102_101 := n6_;clear n0_ n1_ n2_ n3_ n4_ n5_ n6_;clear hb hbox hg))
 have n0_ := Aside0.mk (blk_drew BK101.out);have n1_ := Aside0.mk (blk_drew BK102.out);have n2_ := Aside0.mk (belowD_drew1 HB.out);clear BK101;clear BK102;clear HB;have BK101 := n0_;have BK102 := n1_;have HB := n2_;clear n0_ n1_ n2_;refine start_ (n := 13) (S := fun w' => w'.cell? ⟨gb101,0,none⟩ = some (.int .i64 a0_0) ∧ w'.cell? ⟨gb101,1,none⟩ = some (.int .i64 a0_1) ∧ w'.cell? ⟨gb101,2,none⟩ = some (.bool a0_2) ∧ w'.cell? ⟨gb102,0,none⟩ = some (.int .i64 a1_0) ∧ w'.cell? ⟨gb102,1,none⟩ = some (.int .i64 a1_1) ∧ w'.cell? ⟨gb102,2,none⟩ = some (.bool a1_2)) (ds := []) #[false,false,false,false,false,false,false,false,false,false,false,false,false] (by kernel_rfl) rfl rfl ⟨(blk_cell BK101.out 0).trans rfl,(blk_cell BK101.out 1).trans rfl,(blk_cell BK101.out 2).trans rfl,(blk_cell BK102.out 0).trans rfl,(blk_cell BK102.out 1).trans rfl,(blk_cell BK102.out 2).trans rfl⟩ (fun hHeld => ?_);refine with_tabW impl_compareEntries.tab1 impl_compareEntries.bits1 (fun HT_ HW_ => ?_);generalize w8.drew = w9 at BK101 BK102 HB hHeld ⊢;refine pure_ (i := 0) (N := some 6) (v := ?_) (a' := ?_) #[true,false,false,false,false,false,false,false,false,false,false,false,false] rfl rfl (any_of HT_.out (by kernel_rfl)) (fun _ _ _ h => h) (Or.inl ⟨by rfl,?_⟩) ?_ ?_;rotate_left
 ·intro w';go_simp;with_reducible rfl
 rotate_left
 ·simp only [Act.put,List.setIfInBounds_toArray,List.set_cons_zero,List.set_cons_succ,i64_w,i32_w];rfl
 refine pure_ (i := 2) (N := some 8) (v := ?_) (a' := ?_) #[true,false,true,false,false,false,false,false,false,false,false,false,false] rfl rfl (any_of HT_.out (by kernel_rfl)) (fun _ _ _ h => h) (Or.inl ⟨by rfl,?_⟩) ?_ ?_;rotate_left
 ·intro w';go_simp;with_reducible rfl
 rotate_left
 ·simp only [Act.put,List.setIfInBounds_toArray,List.set_cons_zero,List.set_cons_succ,i64_w,i32_w];rfl
 refine pure_ (i := 5) (N := some 11) (v := ?_) (a' := ?_) #[true,false,true,false,false,true,false,false,false,false,false,false,false] rfl rfl (any_of HT_.out (by kernel_rfl)) (fun _ _ _ h => h) (Or.inl ⟨by rfl,?_⟩) ?_ ?_;rotate_left
 ·intro w';go_simp;with_reducible rfl
 rotate_left
 ·simp only [Act.put,List.setIfInBounds_toArray,List.set_cons_zero,List.set_cons_succ,i64_w,i32_w];rfl
 refine pure_ (i := 7) (N := some 13) (v := ?_) (a' := ?_) #[true,false,true,false,false,true,false,true,false,false,false,false,false] rfl rfl (any_of HT_.out (by kernel_rfl)) (fun _ _ _ h => h) (Or.inl ⟨by rfl,?_⟩) ?_ ?_;rotate_left
 ·intro w';go_simp;with_reducible rfl
 rotate_left
 ·simp only [Act.put,List.setIfInBounds_toArray,List.set_cons_zero,List.set_cons_succ,i64_w,i32_w];rfl
 refine take_ (i := 1) (N := some 7) (v := ?_) (a' := ?_) #[true,true,true,false,false,true,false,true,false,false,false,false,false] rfl rfl (take_ofW HT_.out HW_.out (by kernel_rfl)) (fun _ _ _ h => h) (Or.inl ⟨by rfl,?_⟩) hHeld ?_ ?_;rotate_left
 ·rintro w' ⟨s0,s1,s2,s3,s4,s5⟩
  go_simp;with_reducible rfl
 rotate_left
 ·simp only [Act.put,List.setIfInBounds_toArray,List.set_cons_zero,List.set_cons_succ,i64_w,i32_w];rfl
 refine take_ (i := 3) (N := some 9) (v := ?_) (a' := ?_) #[true,true,true,true,false,true,false,true,false,false,false,false,false] rfl rfl (take_ofW HT_.out HW_.out (by kernel_rfl)) (fun _ _ _ h => h) (Or.inl ⟨by rfl,?_⟩) hHeld ?_ ?_;rotate_left
 ·rintro w' ⟨s0,s1,s2,s3,s4,s5⟩
  go_simp;with_reducible rfl
 rotate_left
 ·simp only [Act.put,List.setIfInBounds_toArray,List.set_cons_zero,List.set_cons_succ,i64_w,i32_w];rfl
 refine take_ (i := 6) (N := some 12) (v := ?_) (a' := ?_) #[true,true,true,true,false,true,true,true,false,false,false,false,false] rfl rfl (take_ofW HT_.out HW_.out (by kernel_rfl)) (fun _ _ _ h => h) (Or.inl ⟨by rfl,?_⟩) hHeld ?_ ?_;rotate_left
 ·rintro w' ⟨s0,s1,s2,s3,s4,s5⟩
  go_simp;with_reducible rfl
 rotate_left
 ·simp only [Act.put,List.setIfInBounds_toArray,List.set_cons_zero,List.set_cons_succ,i64_w,i32_w];rfl
 refine take_ (i := 8) (N := some 14) (v := ?_) (a' := ?_) #[true,true,true,true,false,true,true,true,true,false,false,false,false] rfl rfl (take_ofW HT_.out HW_.out (by kernel_rfl)) (fun _ _ _ h => h) (Or.inl ⟨by rfl,?_⟩) hHeld ?_ ?_;rotate_left
 ·rintro w' ⟨s0,s1,s2,s3,s4,s5⟩
  go_simp;with_reducible rfl
 rotate_left
 ·simp only [Act.put,List.setIfInBounds_toArray,List.set_cons_zero,List.set_cons_succ,i64_w,i32_w];rfl
 refine one_ (i := 4) (N := some 10) #[true,true,true,true,true,true,true,true,true,false,false,false,false] rfl rfl (one_of HT_.out (by kernel_rfl)) (by decide) (fun K hK => ?_);refine goes_ Try.func42 (by kernel_rfl) rfl #[.int .i64 a0_0,.int .i64 a1_0] (by rfl) rfl rfl (by (try simp only [List.map_toArray,List.map_cons,List.map_nil]);first | done | rfl | (simp only [List.length_drop,List.length_take];rfl)) ?_
 with_reducible refine (cmp_Compare_int64.calls a0_0 a1_0 t103 _ A3.out).mono ?_
 rintro e w' ⟨rfl,⟨nd,rfl⟩⟩
 refine ⟨_,rfl,?_⟩;refine hK.out _ _ ⟨(blk_cell BK101.out 0).trans rfl,(blk_cell BK101.out 1).trans rfl,(blk_cell BK101.out 2).trans rfl,(blk_cell BK102.out 0).trans rfl,(blk_cell BK102.out 1).trans rfl,(blk_cell BK102.out 2).trans rfl⟩ (fun hHeld => ?_);clear hK K;refine norm_ (a' := ?_) ?_ ?_;rotate_left
 ·show Act.put _ (some 10) _ = _
  simp only [Act.put,List.setIfInBounds_toArray,List.set_cons_zero,List.set_cons_succ,i64_w,i32_w];rfl
 refine one_ (i := 9) (N := some 15) #[true,true,true,true,true,true,true,true,true,true,false,false,false] rfl rfl (one_of HT_.out (by kernel_rfl)) (by decide) (fun K hK => ?_);refine goes_ Try.func42 (by kernel_rfl) rfl #[.int .i64 a0_1,.int .i64 a1_1] (by rfl) rfl rfl (by (try simp only [List.map_toArray,List.map_cons,List.map_nil]);first | done | rfl | (simp only [List.length_drop,List.length_take];rfl)) ?_
 with_reducible refine (cmp_Compare_int64.calls a0_1 a1_1 t104 _ A4.out).mono ?_
 rintro e w' ⟨rfl,⟨nd,rfl⟩⟩
 refine ⟨_,rfl,?_⟩;refine hK.out _ _ ⟨(blk_cell BK101.out 0).trans rfl,(blk_cell BK101.out 1).trans rfl,(blk_cell BK101.out 2).trans rfl,(blk_cell BK102.out 0).trans rfl,(blk_cell BK102.out 1).trans rfl,(blk_cell BK102.out 2).trans rfl⟩ (fun hHeld => ?_);clear hK K;refine norm_ (a' := ?_) ?_ ?_;rotate_left
 ·show Act.put _ (some 15) _ = _
  simp only [Act.put,List.setIfInBounds_toArray,List.set_cons_zero,List.set_cons_succ,i64_w,i32_w];rfl
 refine one_ (i := 10) (N := some 16) #[true,true,true,true,true,true,true,true,true,true,true,false,false] rfl rfl (one_of HT_.out (by kernel_rfl)) (by decide) (fun K hK => ?_);refine litD_step (Kd.int .i64) _ 3 ?hg (N := 16) ?hd (xs := ([t103,t104] : List Int)) (inner := [.int .i64 t103,.int .i64 t104]) (ok := fun _ => True) (okp := fun _ => True) ?hr ?hp (fun _ hk => hk) trivial (BelowD.refl _) (Nat.le_refl _) (by simp) ?_;(case hd => rfl);(case hg => rfl);(case hr => first | (go_simp;done) | (go_simp;rfl));(case hp => exact (Reps.one (show Kd.M (Kd.int .i64) _ _ _ t103 [.int .i64 t103] from rfl) (Reps.one (show Kd.M (Kd.int .i64) _ _ _ t104 [.int .i64 t104] from rfl) (Reps.none _ _))));intro v106 w10 ho11 hb hg_ hnew_;clear hg_ hnew_;(first | rw [← Ny105.out] at ho11 | (simp only [Int.reduceToNat] at ho11;rw [← Ny105.out] at ho11));have n0_ := Aside0.mk (Kd.R_lower ho11 (belowD_size (by repeat (first | (with_reducible first | exact HB.out | apply belowD_alloc | apply belowD_drewN | apply belowD_drew1 | refine belowD_set ?_ GE101.out | refine belowD_set ?_ GE102.out) | exact HB.out))));have n1_ := Aside0.mk (blk_belowD (g := gb101) (o := .cells #[.int .i64 a0_0,.int .i64 a0_1,.bool a0_2] 40 (0,0)) (by (with_reducible repeat (first | refine blk_drewN ?_ _ | refine blk_drew ?_ | refine blk_alloc ?_ _));exact BK101.out) hb);have n2_ := Aside0.mk (blk_belowD (g := gb102) (o := .cells #[.int .i64 a1_0,.int .i64 a1_1,.bool a1_2] 40 (0,0)) (by (with_reducible repeat (first | refine blk_drewN ?_ _ | refine blk_drew ?_ | refine blk_alloc ?_ _));exact BK102.out) hb);have n3_ := Aside0.mk (belowD_step (by repeat (first | (with_reducible first | exact HB.out | apply belowD_alloc | apply belowD_drewN | apply belowD_drew1 | refine belowD_set ?_ GE101.out | refine belowD_set ?_ GE102.out) | exact HB.out)) hb);clear BK101;clear BK102;clear HB;have HO107 := n0_;have BK101 := n1_;have BK102 := n2_;have HB := n3_;clear n0_ n1_ n2_ n3_;clear hb ho11;obtain ⟨Ao12,co12,eo12⟩ := Kd.R_slice HO107.out;(first | subst eo12 | (injection eo12 with f1_ f2_ f3_;have f4_ := f1_.symm;have f5_ := f3_.symm;clear f1_ f2_ f3_;subst f4_;subst f5_));refine hK.out _ _ ⟨(blk_cell BK101.out 0).trans rfl,(blk_cell BK101.out 1).trans rfl,(blk_cell BK101.out 2).trans rfl,(blk_cell BK102.out 0).trans rfl,(blk_cell BK102.out 1).trans rfl,(blk_cell BK102.out 2).trans rfl⟩ (fun hHeld => ?_);clear hK K;refine norm_ (a' := ?_) ?_ ?_;rotate_left
 ·show Act.put _ (some 16) _ = _
  simp only [Act.put,List.setIfInBounds_toArray,List.set_cons_zero,List.set_cons_succ,i64_w,i32_w];rfl
 refine one_ (i := 11) (N := some 17) #[true,true,true,true,true,true,true,true,true,true,true,true,false] rfl rfl (one_of HT_.out (by kernel_rfl)) (by decide) (fun K hK => ?_);refine goes_ Try.func41 (by kernel_rfl) rfl #[.slice Ao12 y105.length co12] (by rfl) rfl rfl (by (try simp only [List.map_toArray,List.map_cons,List.map_nil]);first | done | rfl | (simp only [List.length_drop,List.length_take];rfl)) ?_
 with_reducible refine (cmp_Or_int.calls k _ _ y105 t108 _ ?side1 ?side2 A5.out).mono ?_
 (case side1 => repeat (first | exact (Kd.R_reads' HO107.out).2.2 | (with_reducible refine Kd.C_alloc ?_ _) | (with_reducible refine Kd.C_drewN ?_ _) | (with_reducible refine Kd.C_drew ?_)));(case side2 => exact (Kd.R_reads' HO107.out).2.1)
 rintro e w' ⟨rfl,⟨nd,rfl⟩⟩
 refine ⟨_,rfl,?_⟩;refine hK.out _ _ ⟨(blk_cell BK101.out 0).trans rfl,(blk_cell BK101.out 1).trans rfl,(blk_cell BK101.out 2).trans rfl,(blk_cell BK102.out 0).trans rfl,(blk_cell BK102.out 1).trans rfl,(blk_cell BK102.out 2).trans rfl⟩ (fun hHeld => ?_);clear hK K;refine norm_ (a' := ?_) ?_ ?_;rotate_left
 ·show Act.put _ (some 17) _ = _
  simp only [Act.put,List.setIfInBounds_toArray,List.set_cons_zero,List.set_cons_succ,i64_w,i32_w];rfl
 refine pure_ (i := 12) (N := some 5) (v := ?_) (a' := ?_) #[true,true,true,true,true,true,true,true,true,true,true,true,true] rfl rfl (any_of HT_.out (by kernel_rfl)) (fun _ _ _ h => h) (Or.inl ⟨by rfl,?_⟩) ?_ ?_;rotate_left
 ·intro w';go_simp;with_reducible rfl
 rotate_left
 ·simp only [Act.put,List.setIfInBounds_toArray,List.set_cons_zero,List.set_cons_succ,i64_w,i32_w];rfl
 refine done_ (done_of HT_.out (by kernel_rfl)) ?_
 go_upto_region 2 with (fail)
 go_cut [26] (fun v26 wc => ∃ (kq : Nat) (x26_5 : Bool),v26 = .bool x26_5 ∧ Aside0 (impl_compareEntries.j0 kq t108 x26_5 a1_0 a1_1 a1_2 = some r) ∧ Aside0 (kq ≤ k) ∧ Aside0 (wc.heap[gb101]? = some (.cells #[.int .i64 a0_0,.int .i64 a0_1,.bool a0_2] 40 (0,0))) ∧ Aside0 (wc.heap[gb102]? = some (.cells #[.int .i64 a1_0,.int .i64 a1_1,.bool a1_2] 40 (0,0))) ∧ Aside0 (BelowD w wc))
 case first =>
  have H := HC6.out;clear HC6
  by_cases c13 : t108 = 0
  ·rw [if_pos c13] at H;have c13b0 : (t108 == 0) = true := beq_iff_eq.mpr c13;have c13b1 : (t108 != 0) = false := bne_eq_false_iff_eq.mpr c13;clear c13;(first | rw [c13b0] | (simp only [i64_w,i32_w];rw [c13b0]) | skip);have H' := Aside0.mk H;clear H;have hnb14 := NB101_102.out;have hnc14 := NB102_101.out;have hcz15_0 : w10.cell? ⟨gb101,0,none⟩ = some (.int .i64 a0_0) := (blk_cell BK101.out 0).trans rfl;have hcz15_1 : w10.cell? ⟨gb101,1,none⟩ = some (.int .i64 a0_1) := (blk_cell BK101.out 1).trans rfl;have hcz15_2 : w10.cell? ⟨gb101,2,none⟩ = some (.bool a0_2) := (blk_cell BK101.out 2).trans rfl;have hfz15_0 := blk_frozen BK101.out 0;have hfz15_1 := blk_frozen BK101.out 1;have hfz15_2 := blk_frozen BK101.out 2;have hcz16_0 : w10.cell? ⟨gb102,0,none⟩ = some (.int .i64 a1_0) := (blk_cell BK102.out 0).trans rfl;have hcz16_1 : w10.cell? ⟨gb102,1,none⟩ = some (.int .i64 a1_1) := (blk_cell BK102.out 1).trans rfl;have hcz16_2 : w10.cell? ⟨gb102,2,none⟩ = some (.bool a1_2) := (blk_cell BK102.out 2).trans rfl;have hfz16_0 := blk_frozen BK102.out 0;have hfz16_1 := blk_frozen BK102.out 1;have hfz16_2 := blk_frozen BK102.out 2
   go_wp2
   go_meet
   case rel => exact ⟨_,((a0_2 == a1_2)),(by first | rfl | (simp only [IntKind.wrap_i64,wrap64];done) | (simp;done) | (simp [*];done)),H',⟨by first | omega | exact Nat.le_refl _⟩,⟨by (with_reducible repeat (first | refine blk_drewN ?_ _ | refine blk_drew ?_ | refine blk_alloc ?_ _));exact BK101.out⟩,⟨by (with_reducible repeat (first | refine blk_drewN ?_ _ | refine blk_drew ?_ | refine blk_alloc ?_ _));exact BK102.out⟩,⟨by repeat (first | (with_reducible first | exact HB.out | apply belowD_alloc | apply belowD_drewN | apply belowD_drew1 | refine belowD_set ?_ GE101.out | refine belowD_set ?_ GE102.out) | exact HB.out)⟩⟩
  ·rw [if_neg c13] at H;have c13b0 : (t108 == 0) = false := beq_eq_false_iff_ne.mpr c13;have c13b1 : (t108 != 0) = true := bne_iff_ne.mpr c13;(first | rw [c13b0] | (simp only [i64_w,i32_w];rw [c13b0]) | skip);have H' := Aside0.mk H;clear H
   go_wp2
   go_meet
   case rel => exact ⟨_,(true),(by first | rfl | (simp only [IntKind.wrap_i64,wrap64];done) | (simp;done) | (simp [*];done)),H',⟨by first | omega | exact Nat.le_refl _⟩,⟨by (with_reducible repeat (first | refine blk_drewN ?_ _ | refine blk_drew ?_ | refine blk_alloc ?_ _));exact BK101.out⟩,⟨by (with_reducible repeat (first | refine blk_drewN ?_ _ | refine blk_drew ?_ | refine blk_alloc ?_ _));exact BK102.out⟩,⟨by repeat (first | (with_reducible first | exact HB.out | apply belowD_alloc | apply belowD_drewN | apply belowD_drew1 | refine belowD_set ?_ GE101.out | refine belowD_set ?_ GE102.out) | exact HB.out)⟩⟩
 case rest =>
  clear HC6;(try clear c1);(try clear c2);(try clear p2);(try clear c4);(try clear c13);(try clear c13b0);(try clear c13b1);(try clear c14);(try clear hcz15_0);(try clear hcz15_1);(try clear hcz15_2);(try clear hcz16_0);(try clear hcz16_1);(try clear hcz16_2);(try clear hfz15_0);(try clear hfz15_1);(try clear hfz15_2);(try clear hfz16_0);(try clear hfz16_1);(try clear hfz16_2);obtain ⟨kq,x26_5,rfl,HA,HJ5,BK101,BK102,HB⟩ := hcut
  cases kq with
  | zero => exact absurd HA.out (by simp [impl_compareEntries.j0])
  | succ kj5 =>
   have H := HA.out;clear HA;simp only [impl_compareEntries.j0] at H
   by_cases c17 : x26_5 = true
   ·subst c17
    have H1 : (some t108) = some r := by rw [if_pos rfl] at H;exact H
    clear H;have H := H1;clear H1;obtain rfl := Option.some.inj H
    go_wp2
    go_ret
    exact ⟨by first | rfl | (simp [errW_none,errW_some,IntKind.wrap_i64,wrap64];done) | (simp [errW_none,errW_some] <;> rfl) | (simp [*,errW_none,errW_some] <;> rfl),by repeat (first | (with_reducible first | exact HB.out | apply belowD_alloc | apply belowD_drewN | apply belowD_drew1 | refine belowD_set ?_ GE101.out | refine belowD_set ?_ GE102.out) | exact HB.out)⟩
   ·replace c17 := Bool.eq_false_iff.mpr c17;subst c17
    have H1 : (if a1_2 = true then (some (-1)) else (some 1)) = some r := by rw [if_neg (show ¬ (false = true) by decide)] at H;exact H
    clear H;have H := H1;clear H1
    by_cases c18 : a1_2 = true
    ·subst c18
     have H1 : (some (-1)) = some r := by rw [if_pos rfl] at H;exact H
     clear H;have H := H1;clear H1;obtain rfl := Option.some.inj H;have hnb19 := NB102_101.out;have hnc19 := NB101_102.out;have hcz20_0 : wc.cell? ⟨gb102,0,none⟩ = some (.int .i64 a1_0) := (blk_cell BK102.out 0).trans rfl;have hcz20_1 : wc.cell? ⟨gb102,1,none⟩ = some (.int .i64 a1_1) := (blk_cell BK102.out 1).trans rfl;have hcz20_2 : wc.cell? ⟨gb102,2,none⟩ = some (.bool true) := (blk_cell BK102.out 2).trans rfl;have hfz20_0 := blk_frozen BK102.out 0;have hfz20_1 := blk_frozen BK102.out 1;have hfz20_2 := blk_frozen BK102.out 2
     go_wp2
     go_ret
     exact ⟨by first | rfl | (simp [errW_none,errW_some,IntKind.wrap_i64,wrap64];done) | (simp [errW_none,errW_some] <;> rfl) | (simp [*,errW_none,errW_some] <;> rfl),by repeat (first | (with_reducible first | exact HB.out | apply belowD_alloc | apply belowD_drewN | apply belowD_drew1 | refine belowD_set ?_ GE101.out | refine belowD_set ?_ GE102.out) | exact HB.out)⟩
    ·replace c18 := Bool.eq_false_iff.mpr c18;subst c18
     have H1 : (some 1) = some r := by rw [if_neg (show ¬ (false = true) by decide)] at H;exact H
     clear H;have H := H1;clear H1;obtain rfl := Option.some.inj H;have hnb21 := NB102_101.out;have hnc21 := NB101_102.out;have hcz22_0 : wc.cell? ⟨gb102,0,none⟩ = some (.int .i64 a1_0) := (blk_cell BK102.out 0).trans rfl;have hcz22_1 : wc.cell? ⟨gb102,1,none⟩ = some (.int .i64 a1_1) := (blk_cell BK102.out 1).trans rfl;have hcz22_2 : wc.cell? ⟨gb102,2,none⟩ = some (.bool false) := (blk_cell BK102.out 2).trans rfl;have hfz22_0 := blk_frozen BK102.out 0;have hfz22_1 := blk_frozen BK102.out 1;have hfz22_2 := blk_frozen BK102.out 2
     go_wp2
     go_ret
     exact ⟨by first | rfl | (simp [errW_none,errW_some,IntKind.wrap_i64,wrap64];done) | (simp [errW_none,errW_some] <;> rfl) | (simp [*,errW_none,errW_some] <;> rfl),by repeat (first | (with_reducible first | exact HB.out | apply belowD_alloc | apply belowD_drewN | apply belowD_drew1 | refine belowD_set ?_ GE101.out | refine belowD_set ?_ GE102.out) | exact HB.out)⟩
end Go.Proofs.Ytcoepebmmgcplaa.G
end

section
namespace Go.Proofs
open Go.Shelf
def Try.lays125_ren : Go.Shelf.Ren := ⟨fun | 125 => 40 | 128 => 55 | 129 => 56 | n => n, fun | 46 => 63 | 3 => 3 | 51 => 79 | 53 => 81 | 4 => 4 | 5 => 5 | 9 => 9 | n => n, fun | n => n⟩
theorem Try.lays125 : Go.Proofs.Lays.n125 Try.prog Try.lays125_ren := {
  mixed := by kernel_rfl
  f125 := Try.func40.trans (congrArg some (by kernel_rfl))
  f128 := Try.func55.trans (congrArg some (by kernel_rfl))
  f129 := Try.func56.trans (congrArg some (by kernel_rfl))
  t3 := Try.underlying3
  a3 := Try.isAgg3
  z3 := Try.sizeOf3
  v3 := Try.zeroValue3
  t4 := Try.underlying4
  a4 := Try.isAgg4
  z4 := Try.sizeOf4
  v4 := Try.zeroValue4
  t5 := Try.underlying5
  a5 := Try.isAgg5
  z5 := Try.sizeOf5
  v5 := Try.zeroValue5
  t9 := Try.underlying9
  a9 := Try.isAgg9
  z9 := Try.sizeOf9
  v9 := Try.zeroValue9
  t46 := Try.underlying63
  a46 := Try.isAgg63
  z46 := Try.sizeOf63
  v46 := Try.zeroValue63
  t51 := Try.underlying79
  a51 := Try.isAgg79
  z51 := Try.sizeOf79
  v51 := Try.zeroValue79
  t53 := Try.underlying81
  a53 := Try.isAgg81
  z53 := Try.sizeOf81
  v53 := Try.zeroValue81 }
theorem Try.bits_Len (x : Int) (w : World) (h0 : 0 ≤ x) (h1 : x ≤ 18446744073709551615) :
    Calls Try.prog 40 #[.int .u64 x] w fun e w' => e = .returned (.int .i64 (Lib.bitLen x.toNat)) ∧ w' = w := Any.bits_Len Try.lays125 x w h0 h1
def Try.laysSort_ren : Go.Shelf.Ren := ⟨fun | 14 => 39 | 20 => 47 | 21 => 48 | 22 => 49 | 23 => 50 | 24 => 51 | 25 => 52 | 26 => 53 | 27 => 54 | 46 => 61 | 47 => 62 | 48 => 63 | 49 => 64 | 50 => 65 | 15 => 40 | 57 => 66 | 28 => 55 | 29 => 56 | n => n, fun | 24 => 40 | 22 => 24 | 3 => 3 | 25 => 49 | 4 => 4 | 0 => 0 | 46 => 72 | 45 => 71 | 50 => 76 | 66 => 86 | 39 => 63 | 55 => 81 | 70 => 90 | 76 => 92 | 77 => 93 | 53 => 79 | 5 => 5 | 9 => 9 | n => n, fun | n => n⟩
theorem Try.laysSort : Go.Proofs.SlLaysF0.n14 Try.prog Try.laysSort_ren := {
  mixed := by kernel_rfl
  f14 := ⟨Try.f39.name, by decide, Try.func39.trans (congrArg some (by kernel_rfl))⟩
  f15 := Try.func40.trans (congrArg some (by kernel_rfl))
  f20 := ⟨Try.f47.name, by decide, Try.func47.trans (congrArg some (by kernel_rfl))⟩
  f21 := ⟨Try.f48.name, by decide, Try.func48.trans (congrArg some (by kernel_rfl))⟩
  f22 := ⟨Try.f49.name, by decide, Try.func49.trans (congrArg some (by kernel_rfl))⟩
  f23 := ⟨Try.f50.name, by decide, Try.func50.trans (congrArg some (by kernel_rfl))⟩
  f24 := ⟨Try.f51.name, by decide, Try.func51.trans (congrArg some (by kernel_rfl))⟩
  f25 := ⟨Try.f52.name, by decide, Try.func52.trans (congrArg some (by kernel_rfl))⟩
  f26 := ⟨Try.f53.name, by decide, Try.func53.trans (congrArg some (by kernel_rfl))⟩
  f27 := ⟨Try.f54.name, by decide, Try.func54.trans (congrArg some (by kernel_rfl))⟩
  f28 := Try.func55.trans (congrArg some (by kernel_rfl))
  f29 := Try.func56.trans (congrArg some (by kernel_rfl))
  f46 := ⟨Try.f61.name, by decide, Try.func61.trans (congrArg some (by kernel_rfl))⟩
  f47 := Try.func62.trans (congrArg some (by kernel_rfl))
  f48 := Try.func63.trans (congrArg some (by kernel_rfl))
  f49 := ⟨Try.f64.name, by decide, Try.func64.trans (congrArg some (by kernel_rfl))⟩
  f50 := ⟨Try.f65.name, by decide, Try.func65.trans (congrArg some (by kernel_rfl))⟩
  f57 := ⟨Try.f66.name, by decide, Try.func66.trans (congrArg some (by kernel_rfl))⟩
  t0 := Try.underlying0
  a0 := Try.isAgg0
  z0 := Try.sizeOf0
  v0 := Try.zeroValue0
  t3 := Try.underlying3
  a3 := Try.isAgg3
  z3 := Try.sizeOf3
  v3 := Try.zeroValue3
  t4 := Try.underlying4
  a4 := Try.isAgg4
  z4 := Try.sizeOf4
  v4 := Try.zeroValue4
  t5 := Try.underlying5
  a5 := Try.isAgg5
  z5 := Try.sizeOf5
  v5 := Try.zeroValue5
  t9 := Try.underlying9
  a9 := Try.isAgg9
  z9 := Try.sizeOf9
  v9 := Try.zeroValue9
  t22 := Try.underlying24
  a22 := Try.isAgg24
  z22 := Try.sizeOf24
  v22 := Try.zeroValue24
  t25 := Try.underlying49
  a25 := Try.isAgg49
  z25 := Try.sizeOf49
  v25 := Try.zeroValue49
  t39 := Try.underlying63
  a39 := Try.isAgg63
  z39 := Try.sizeOf63
  v39 := Try.zeroValue63
  t45 := Try.underlying71
  a45 := Try.isAgg71
  z45 := Try.sizeOf71
  v45 := Try.zeroValue71
  t46 := Try.underlying72
  a46 := Try.isAgg72
  z46 := Try.sizeOf72
  v46 := Try.zeroValue72
  t50 := Try.underlying76
  a50 := Try.isAgg76
  z50 := Try.sizeOf76
  v50 := Try.zeroValue76
  t53 := Try.underlying79
  a53 := Try.isAgg79
  z53 := Try.sizeOf79
  v53 := Try.zeroValue79
  t55 := Try.underlying81
  a55 := Try.isAgg81
  z55 := Try.sizeOf81
  v55 := Try.zeroValue81
  t66 := Try.underlying86
  a66 := Try.isAgg86
  z66 := Try.sizeOf86
  v66 := Try.zeroValue86
  t70 := Try.underlying90
  a70 := Try.isAgg90
  z70 := Try.sizeOf90
  v70 := Try.zeroValue90
  t76 := Try.underlying92
  a76 := Try.isAgg92
  z76 := Try.sizeOf92
  v76 := Try.zeroValue92
  t77 := Try.underlying93
  a77 := Try.isAgg93
  z77 := Try.sizeOf93
  v77 := Try.zeroValue93 }
end Go.Proofs
end

section
namespace Go.Proofs.Ytcoepebmmgcplaa.G
open Go.RowKit Go.Proofs.YtcoepebmmgcplaaW.PrintWords Go.Proofs.YtcoepebmmgcplaaW.PrintLast Go.Proofs.YtcoepebmmgcplaaW.PrintMore
attribute [local go_sem] max2_int min2_int max_two min_two max_three min_three max_four min_four
set_option linter.unusedVariables false
set_option linter.unusedSimpArgs false
instance slices_SortFunc_Log_Entry__impl_compareEntries.inh : Inhabited S40 := ⟨z40⟩
def slices_SortFunc_Log_Entry__impl_compareEntries.enc (x : S40) : List Value := [.int .i64 x.f0,.int .i64 x.f1,.bool x.f2]
def slices_SortFunc_Log_Entry__impl_compareEntries.lt (x y : S40) : Bool := decide (x.f0 < y.f0 ∨ (x.f0 = y.f0 ∧ (x.f1 < y.f1 ∨ (x.f1 = y.f1 ∧ (x.f2 = false ∧ y.f2 = true)))))
def slices_SortFunc_Log_Entry__impl_compareEntries.cmp (x y : S40) : Int := if slices_SortFunc_Log_Entry__impl_compareEntries.lt x y = true then -1 else if slices_SortFunc_Log_Entry__impl_compareEntries.lt y x = true then 1 else 0
theorem slices_SortFunc_Log_Entry__impl_compareEntries.ltOf (x y : S40) : Go.Proofs.ltOf slices_SortFunc_Log_Entry__impl_compareEntries.cmp x y = slices_SortFunc_Log_Entry__impl_compareEntries.lt x y := by
 unfold Go.Proofs.ltOf slices_SortFunc_Log_Entry__impl_compareEntries.cmp
 cases slices_SortFunc_Log_Entry__impl_compareEntries.lt x y with
 | true => simp
 | false =>
  cases slices_SortFunc_Log_Entry__impl_compareEntries.lt y x <;> simp
theorem slices_SortFunc_Log_Entry__impl_compareEntries.swo : Go.Sort.SWO (Go.Proofs.ltOf slices_SortFunc_Log_Entry__impl_compareEntries.cmp) where
 irrefl x := by rw [slices_SortFunc_Log_Entry__impl_compareEntries.ltOf];unfold slices_SortFunc_Log_Entry__impl_compareEntries.lt;simp
 trans x y z h1 h2 := by
  rw [slices_SortFunc_Log_Entry__impl_compareEntries.ltOf] at *
  unfold slices_SortFunc_Log_Entry__impl_compareEntries.lt at *
  obtain ⟨a0,a1,a2⟩ := x;obtain ⟨b0,b1,b2⟩ := y;obtain ⟨c0,c1,c2⟩ := z;simp only [decide_eq_true_eq] at *
  cases a2 <;> cases b2 <;> cases c2 <;> simp at * <;> omega
 ntrans x y z h1 h2 := by
  rw [slices_SortFunc_Log_Entry__impl_compareEntries.ltOf] at *
  unfold slices_SortFunc_Log_Entry__impl_compareEntries.lt at *
  obtain ⟨a0,a1,a2⟩ := x;obtain ⟨b0,b1,b2⟩ := y;obtain ⟨c0,c1,c2⟩ := z;simp only [decide_eq_false_iff_not] at *
  cases a2 <;> cases b2 <;> cases c2 <;> simp at * <;> omega
theorem slices_SortFunc_Log_Entry__impl_compareEntries.total (x y : S40) (h1 : Go.Proofs.ltOf slices_SortFunc_Log_Entry__impl_compareEntries.cmp x y = false) (h2 : Go.Proofs.ltOf slices_SortFunc_Log_Entry__impl_compareEntries.cmp y x = false) : x = y := by
 rw [slices_SortFunc_Log_Entry__impl_compareEntries.ltOf] at *
 unfold slices_SortFunc_Log_Entry__impl_compareEntries.lt at *
 obtain ⟨a0,a1,a2⟩ := x;obtain ⟨b0,b1,b2⟩ := y;simp only [decide_eq_false_iff_not] at *
 have : a0 = b0 ∧ a1 = b1 := by constructor <;> omega
 obtain ⟨rfl,rfl⟩ := this
 cases a2 <;> cases b2 <;> simp at * <;> rfl
theorem slices_SortFunc_Log_Entry__impl_compareEntries.says (x y : S40) : impl_compareEntries.f 10 x.f0 x.f1 x.f2 y.f0 y.f1 y.f2 = some (slices_SortFunc_Log_Entry__impl_compareEntries.cmp x y) := by
 have hn : ∀ a : Int,cmp_isNaN_int64.f a = some false := fun a => by simp [cmp_isNaN_int64.f]
 have hc : ∀ a b : Int,cmp_Compare_int64.f a b = some (if a < b then -1 else if a > b then 1 else 0) := fun a b => by
  unfold cmp_Compare_int64.f
  rw [hn,hn];simp only [Option.bind_some];rw [if_neg (by simp),if_neg (by simp)]
  split
  ·rfl
  ·split <;> rfl
 have ho : ∀ a b : Int,cmp_Or_int.f 10 [a,b] = some (if a = 0 then b else a) := fun a b => by
  unfold cmp_Or_int.f
  simp only [cmp_Or_int.l0,List.length_cons,List.length_nil,rd,wrap64]
  by_cases h : a = 0
  ·subst h
   by_cases h2 : b = 0
   ·subst h2
    decide
   ·simp [h2]
  ·simp [h]
 obtain ⟨a0,a1,a2⟩ := x;obtain ⟨b0,b1,b2⟩ := y
 unfold impl_compareEntries.f slices_SortFunc_Log_Entry__impl_compareEntries.cmp slices_SortFunc_Log_Entry__impl_compareEntries.lt
 simp only [hc,ho,Option.bind_some]
 rcases Int.lt_trichotomy a0 b0 with h | h | h
 ·simp [h,impl_compareEntries.j0]
 ·subst h
  rcases Int.lt_trichotomy a1 b1 with h | h | h
  ·simp [h,impl_compareEntries.j0]
  ·subst h
   cases a2 <;> cases b2 <;> simp [impl_compareEntries.j0]
  ·have h1 : ¬ a1 < b1 := by omega
   have h2 : ¬ a1 = b1 := by omega
   simp [h,h1,h2,impl_compareEntries.j0]
 ·have h1 : ¬ a0 < b0 := by omega
  have h2 : ¬ a0 = b0 := by omega
  simp [h,h1,h2,impl_compareEntries.j0]
theorem slices_SortFunc_Log_Entry__impl_compareEntries.lays (blk off size : Nat) (w : World) : Go.Proofs.CmpLays Try.prog 27 #[] slices_SortFunc_Log_Entry__impl_compareEntries.enc 3 slices_SortFunc_Log_Entry__impl_compareEntries.cmp blk off size w := fun m os dk hdk x y => by
 rw [show (#[.agg (slices_SortFunc_Log_Entry__impl_compareEntries.enc x).toArray,.agg (slices_SortFunc_Log_Entry__impl_compareEntries.enc y).toArray] ++ #[] : Array Value) = #[.agg #[.int .i64 x.f0,.int .i64 x.f1,.bool x.f2],.agg #[.int .i64 y.f0,.int .i64 y.f1,.bool y.f2]] from rfl]
 exact (impl_compareEntries.callsD 10 x.f0 x.f1 x.f2 y.f0 y.f1 y.f2 (slices_SortFunc_Log_Entry__impl_compareEntries.cmp x y) _ (slices_SortFunc_Log_Entry__impl_compareEntries.says x y)).mono fun e w' ⟨he,hb⟩ => ⟨he,belowD_grow hb⟩
def slices_SortFunc_Log_Entry__impl_compareEntries.sorted (l : List S40) : List S40 := l.mergeSort fun x y => !(Go.Proofs.ltOf slices_SortFunc_Log_Entry__impl_compareEntries.cmp) y x
set_option maxHeartbeats 4000000 in
set_option maxRecDepth 100000 in
theorem slices_SortFunc_Log_Entry__impl_compareEntries.some_ (blk cap : Nat) (d : Array S40) (w : World) (hH : Go.Sort.HoldsK slices_SortFunc_Log_Entry__impl_compareEntries.enc 3 w blk 0 d) (hblk : blk < w.heap.size) (hsz : d.size < 4611686018427387904) :
  Calls Try.prog 26 #[.slice (some ⟨blk,0,none⟩) d.size cap,.func (.func 27) #[] #[]] w fun e w' => e = .returned (.tuple #[]) ∧ ∃ n os,w' = Go.Proofs.sortWorldK slices_SortFunc_Log_Entry__impl_compareEntries.enc 3 w blk 0 n (slices_SortFunc_Log_Entry__impl_compareEntries.sorted d.toList).toArray os := by
 have eg : ∀ args w,(callFunc 27 args).run Try.prog w = .ok (.enter 27 args) w := enters_of Try.func27 (by kernel_rfl) rfl
 have hk : ∀ x,(slices_SortFunc_Log_Entry__impl_compareEntries.enc x).length = 3 := fun _ => rfl
 have h1 : ∀ x,∀ v ∈ slices_SortFunc_Log_Entry__impl_compareEntries.enc x,v.oneCell' = true := fun x v hv => by simp [slices_SortFunc_Log_Entry__impl_compareEntries.enc] at hv;rcases hv with rfl | rfl | rfl <;> rfl
 have hlim : Lib.bitLen d.size < 4611686018427387904 := Nat.lt_of_le_of_lt (Lib.bitLen_le d.size 62 (by omega) (by omega)) (by omega);have hp := AnyQ.pdqsortCmpFunc_all Try.laysSort 3 Try.isAgg40 Try.sizeOf40 slices_SortFunc_Log_Entry__impl_compareEntries.enc slices_SortFunc_Log_Entry__impl_compareEntries.cmp 27 #[] slices_SortFunc_Log_Entry__impl_compareEntries.swo blk 0 cap d w eg (slices_SortFunc_Log_Entry__impl_compareEntries.lays blk 0 d.size w) ⟨hk,h1,hH,hblk⟩ (d.size + 1) 0 d.size (Lib.bitLen d.size) d w (by omega) rfl (SWK.start hH) (Nat.zero_le _) (Nat.le_refl _) hsz hlim (Or.inl rfl)
 have hl : Calls Try.prog 40 #[.int .u64 (d.size : Int)] w fun e w' => e = .returned (.int .i64 (Lib.bitLen d.size : Nat)) ∧ w' = w := by
  have h := Try.bits_Len (d.size : Int) w (by omega) (by omega)
  rwa [Int.toNat_natCast] at h
 have wr : IntKind.u64.wrap (d.size : Int) = d.size := by simp [IntKind.wrap,IntKind.bits,IntKind.signed];omega
 have hs := Go.Sort.pdq_sorts (Go.Proofs.ltOf slices_SortFunc_Log_Entry__impl_compareEntries.cmp) slices_SortFunc_Log_Entry__impl_compareEntries.swo d 0 d.size (Lib.bitLen d.size) true true (Nat.zero_le _) (Nat.le_refl _) (Or.inl rfl);have hu := Go.Sort.sorted_unique_holds slices_SortFunc_Log_Entry__impl_compareEntries.swo slices_SortFunc_Log_Entry__impl_compareEntries.total d _ hs.1 hs.2
 change Calls Try.prog 39 _ _ _ at hp
 clear hH h1 hk;have HU := Aside0.mk hu;clear hu hs
 go_enter Try.func26,Try.ntmps26
 go_wp2_with (first | (go_at_call 40;refine hl.mono ?_;rintro e w' ⟨rfl,rfl⟩) | (go_at_call 39;refine hp.mono ?_;rintro e w' ⟨rfl,n,os,rfl⟩))
 go_end0
 exact ⟨rfl,n,os,by unfold slices_SortFunc_Log_Entry__impl_compareEntries.sorted;rw [← HU.out]⟩
set_option maxHeartbeats 4000000 in
set_option maxRecDepth 100000 in
theorem slices_SortFunc_Log_Entry__impl_compareEntries.none_ (p : Option Addr) (cap : Nat) (w : World) : Calls Try.prog 26 #[.slice p 0 cap,.func (.func 27) #[] #[]] w fun e w' => e = .returned (.tuple #[]) ∧ w' = w := by
 have hp := fun lim W => AnyF.pdqsortCmpFunc_none Try.laysSort p cap lim (.func (.func 27) #[] #[]) W
 have hl := fun W => Try.bits_Len 0 W (by omega) (by omega)
 have hp' : ∀ (lim : Int) W,Calls Try.prog 39 #[.slice p 0 cap,.int .i64 0,.int .i64 0,.int .i64 lim,.func (.func 27) #[] #[]] W fun e w' => e = .returned (.tuple #[]) ∧ w' = W := hp
 clear hp
 go_enter Try.func26,Try.ntmps26
 go_wp2_with (first | (go_at_call 40;refine (hl _).mono ?_;rintro e w' ⟨rfl,rfl⟩) | (go_at_call 39;refine (hp' _ _).mono ?_;rintro e w' ⟨rfl,rfl⟩))
 go_end0
 exact ⟨rfl,rfl⟩
theorem slices_SortFunc_Log_Entry__impl_compareEntries.cellAt {R : S40 → List Value → Prop} (hR : ∀ p c,R p c → c = slices_SortFunc_Log_Entry__impl_compareEntries.enc p) {ps : List S40} {cs : List Value} (h : Reps R 3 ps cs) (t : Nat) (ht : t < ps.length * 3) : cs[t]? = some ((slices_SortFunc_Log_Entry__impl_compareEntries.enc (ps.toArray[t / 3]!))[t % 3]!) := by
 have hj : t / 3 < ps.length := by omega
 have h1 := congrArg (fun l : List Value => l[t % 3]?) (hR _ _ (h.2 (t / 3) ps[t / 3] (List.getElem?_eq_getElem hj)));rw [List.getElem?_take_of_lt (by omega),List.getElem?_drop,show t / 3 * 3 + t % 3 = t by omega] at h1;rw [h1,show ps.toArray[t / 3]! = ps[t / 3] by simp [hj]];generalize ps[t / 3] = x
 rcases (by omega : t % 3 = 0 ∨ t % 3 = 1 ∨ t % 3 = 2) with e | e | e <;> rw [e] <;> rfl
theorem slices_SortFunc_Log_Entry__impl_compareEntries.put {R : S40 → List Value → Prop} (hR : ∀ p,R p (slices_SortFunc_Log_Entry__impl_compareEntries.enc p)) {ps : List S40} {cur : Array Value} (hc : ps.length * 3 ≤ cur.size) : Reps R 3 ps ((Go.Sort.putCells id 0 (Go.Sort.flatK slices_SortFunc_Log_Entry__impl_compareEntries.enc 3 ps.toArray) cur).toList.take (ps.length * 3)) := by
 have hsz : (Go.Sort.putCells id 0 (Go.Sort.flatK slices_SortFunc_Log_Entry__impl_compareEntries.enc 3 ps.toArray) cur).size = cur.size := by simp [Go.Sort.putCells]
 have hsl : (Go.Sort.putCells id 0 (Go.Sort.flatK slices_SortFunc_Log_Entry__impl_compareEntries.enc 3 ps.toArray) cur).toList.length = cur.size := by rw [Array.length_toList,hsz]
 refine ⟨by rw [List.length_take,hsl];omega,fun j p hj => ?_⟩;have hjl : j < ps.length := (List.getElem?_eq_some_iff.1 hj).1
 have e : (((Go.Sort.putCells id 0 (Go.Sort.flatK slices_SortFunc_Log_Entry__impl_compareEntries.enc 3 ps.toArray) cur).toList.take (ps.length * 3)).drop (j * 3)).take 3 = slices_SortFunc_Log_Entry__impl_compareEntries.enc p := by
  apply List.ext_getElem?
  intro i
  by_cases hi : i < 3
  ·have h1 : j * 3 + i < (Go.Sort.putCells id 0 (Go.Sort.flatK slices_SortFunc_Log_Entry__impl_compareEntries.enc 3 ps.toArray) cur).size := by rw [hsz];omega
   rw [List.getElem?_take_of_lt hi,List.getElem?_drop,List.getElem?_take_of_lt (by omega),Array.getElem?_toList,Array.getElem?_eq_getElem h1]
   have h2 : (Go.Sort.putCells id 0 (Go.Sort.flatK slices_SortFunc_Log_Entry__impl_compareEntries.enc 3 ps.toArray) cur)[j * 3 + i] = (Go.Sort.flatK slices_SortFunc_Log_Entry__impl_compareEntries.enc 3 ps.toArray)[j * 3 + i]! := by
    simp only [Go.Sort.putCells,Array.getElem_mapIdx];rw [if_pos ⟨Nat.zero_le _,by rw [Go.Sort.size_flatK];simp;omega⟩];rfl
   rw [h2,Go.Sort.get_flatK _ _ _ _ (by simp;omega),show (j * 3 + i) / 3 = j by omega,show (j * 3 + i) % 3 = i by omega]
   have hp : ps.toArray[j]! = p := by
    rw [List.getElem?_eq_getElem hjl] at hj
    simp [hjl,Option.some.inj hj]
   rw [hp]
   rcases (by omega : i = 0 ∨ i = 1 ∨ i = 2) with e | e | e <;> subst e <;> rfl
  ·rw [List.getElem?_eq_none (by simp;omega),List.getElem?_eq_none (by show 3 ≤ i;omega)]
 rw [e];exact hR p
def slices_SortFunc_Log_Entry__impl_compareEntries.f (l0 : List S40) : Option (List S40) := if l0.length < 4611686018427387904 then some (slices_SortFunc_Log_Entry__impl_compareEntries.sorted l0) else none
theorem slices_SortFunc_Log_Entry__impl_compareEntries.calls (P0_ : Nat → Prop) (u9000_ : Value) (l0 : List S40) (r : List S40) (w0 w : World) (hB : Below w0.heap.size w0 w) (ho0 : Kd.R k40 40 w w0.heap.size P0_ u9000_ l0) (h : slices_SortFunc_Log_Entry__impl_compareEntries.f l0 = some r) :
  Calls Try.prog 26 #[u9000_,.func (.func 27) #[] #[]] w fun e w' => e = .returned (.tuple #[]) ∧ Kd.R k40 40 w' w0.heap.size (fun k_ => (P0_ k_ ∨ w.heap.size ≤ k_)) u9000_ r ∧ Below w0.heap.size w0 w' ∧ Kept w w' (fun k_ => P0_ k_) := by
 unfold slices_SortFunc_Log_Entry__impl_compareEntries.f at h
 split at h
 ·rename_i hsz
  obtain rfl := Option.some.inj h;clear h;have hRR := ho0;obtain ⟨hok,inner,hown,hr⟩ := ho0
  have hlen : (slices_SortFunc_Log_Entry__impl_compareEntries.sorted l0).length = l0.length := by unfold slices_SortFunc_Log_Entry__impl_compareEntries.sorted;exact List.length_mergeSort _
  rcases hown.2 with ⟨rfl,hn⟩ | ⟨g,cap,cur,rfl,hb,hh,hle,hcm,hcs,htake⟩
  ·obtain rfl : l0 = [] := List.eq_nil_of_length_eq_zero hn;refine (slices_SortFunc_Log_Entry__impl_compareEntries.none_ none 0 w).mono ?_
   rintro e w' ⟨rfl,rfl⟩
   rw [show slices_SortFunc_Log_Entry__impl_compareEntries.sorted [] = [] by simp [slices_SortFunc_Log_Entry__impl_compareEntries.sorted]];exact ⟨rfl,Kd.R_mono hRR (fun _ hk => .inl hk),hB,Kept.refl _ _⟩
  ·have hg : g < w.heap.size := blk_lt hh;rw [show k40.sz = 3 from rfl] at htake hcs
   have hcur : l0.length * 3 ≤ cur.size := by rw [hcs];exact Nat.mul_le_mul_right 3 hle
   have hH : Go.Sort.HoldsK slices_SortFunc_Log_Entry__impl_compareEntries.enc 3 w g 0 l0.toArray := fun j hj => by
    rw [Go.Sort.size_flatK] at hj;simp only [List.size_toArray] at hj;refine ⟨?_,by rw [Nat.zero_add];exact blk_frozen hh j⟩;have h1 := slices_SortFunc_Log_Entry__impl_compareEntries.cellAt (fun p c hM => k40_openM hM) hr j hj;rw [← htake,List.getElem?_take_of_lt hj,Array.getElem?_toList] at h1;rw [Nat.zero_add,(blk_cell hh j).trans h1,Go.Sort.get_flatK _ _ _ _ (by simpa using hj)];rfl
   have hc := slices_SortFunc_Log_Entry__impl_compareEntries.some_ g cap l0.toArray w hH hg (by simpa using hsz);simp only [List.size_toArray] at hc;refine hc.mono ?_
   rintro e w' ⟨rfl,n,os,hw⟩
   have hblk : w'.heap[g]? = some (.cells (Go.Sort.putCells id 0 (Go.Sort.flatK slices_SortFunc_Log_Entry__impl_compareEntries.enc 3 (slices_SortFunc_Log_Entry__impl_compareEntries.sorted l0).toArray) cur) 40 (0,0)) := by
    rw [hw]
    unfold Go.Proofs.sortWorldK Go.Sort.putRowK Go.Sort.putRow
    rw [Go.Sort.heap_grow_old _ _ (by simpa [Go.Sort.mapBlock] using hg)];simp only [Go.Sort.mapBlock,Go.Sort.heap_ahead,Array.getElem?_modify,if_true,hh,Option.map_some];rfl
   have hoth : ∀ k,k < w.heap.size → k ≠ g → w'.heap[k]? = w.heap[k]? := fun k hk hkg => by
    rw [hw]
    unfold Go.Proofs.sortWorldK Go.Sort.putRowK Go.Sort.putRow
    rw [Go.Sort.heap_grow_old _ _ (by simpa [Go.Sort.mapBlock] using hk)];simp only [Go.Sort.mapBlock,Go.Sort.heap_ahead,Array.getElem?_modify];rw [if_neg (fun e => hkg e.symm)]
   have hsize : w.heap.size ≤ w'.heap.size := by
    rw [hw]
    unfold Go.Proofs.sortWorldK Go.Sort.putRowK
    simp [Go.Sort.size_grow]
   have hbel : Below w0.heap.size w w' := ⟨by rw [hw];rfl,by rw [hw];rfl,by rw [hw];rfl,hsize,fun k hk => hoth k (Nat.lt_of_lt_of_le hk hB.size) (by omega)⟩;refine ⟨rfl,⟨fun k hk => .inl (hok k hk),_,⟨?_,.inr ⟨g,cap,_,?_,hb,hblk,?_,hcm,?_,rfl⟩⟩,?_⟩,hB.trans hbel,⟨hsize,fun k hk hP => hoth k hk (fun e => hP (e ▸ hok g rfl))⟩⟩
   ·have hsl : (Go.Sort.putCells id 0 (Go.Sort.flatK slices_SortFunc_Log_Entry__impl_compareEntries.enc 3 (slices_SortFunc_Log_Entry__impl_compareEntries.sorted l0).toArray) cur).toList.length = cur.size := by rw [Array.length_toList];simp [Go.Sort.putCells]
    rw [hlen,List.length_take,hsl,show k40.sz = 3 from rfl]
    omega
   ·rw [hlen]
   ·rw [hlen];exact hle
   ·simp [Go.Sort.putCells,hcs]
    rfl
   ·exact slices_SortFunc_Log_Entry__impl_compareEntries.put (fun p => k40_mkM _ _ _ p) (by rw [hlen];exact hcur)
 ·cases h
end Go.Proofs.Ytcoepebmmgcplaa.G
end
