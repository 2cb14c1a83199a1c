/- The law's functions, their contracts, and the plain lemmas: texts of this claim, laid together. -/
import Derived.Deep.Slices
import Derived.Deep.Fields
import Derived.ChangeSame
import Derived.OpenShut
import Derived.Test.YtidkniacmcbgiaaMFnExactValidLog0
section
namespace Go.Proofs.Ytidkniacmcbgiaa.G
open Go.RowKit Go.Proofs.YtidkniacmcbgiaaW.PrintWords Go.Proofs.YtidkniacmcbgiaaW.PrintLast Go.Proofs.YtidkniacmcbgiaaW.PrintMore
attribute [local go_sem] max2_int min2_int max_two min_two max_three min_three max_four min_four
set_option linter.unusedVariables false
set_option linter.unusedSimpArgs false

/-! Values that are read as data are values of a kind. -/
open Go.ChangeShapes Go.WideShapes Go.Deep in
/-- A value of type t that reads as data is a value of kind d, and keeps to Wf. -/
structure Opens {α : Type} (P : Program) (t : TypeId) (d : Kd α) (Wf : α → Prop) : Prop where
  sz : P.cellsOf t = d.sz
  op : ∀ {H : Type} {enc : TypeId × Value → H} {w : World} {base : Nat} {spare : Nat → Bool} {held : Bool} {fuel : Nat} {cs : List Value} {x : DataW H × List MemPlace}, DataW.trod enc P w base spare held fuel t cs = some x → ∃ a : α, d.K w a cs ∧ Wf a
theorem opens_int {P : Program} {t : TypeId} {k : IntKind} (ht : P.underlying t = some (.int k)) (hC : P.cellsOf t = 1) : Opens P t (Kd.int k) (fun n => (Lit.int k n).wf = true) where
  sz := hC
  op := fun h => by
    obtain ⟨n, rfl, _, hw⟩ := DataW.trod_int ht h
    exact ⟨n, rfl, hw⟩
theorem opens_bool {P : Program} {t : TypeId} (ht : P.underlying t = some .bool) (hC : P.cellsOf t = 1) : Opens P t Kd.bool (fun _ => True) where
  sz := hC
  op := fun h => by
    obtain ⟨n, rfl, _⟩ := DataW.trod_bool ht h
    exact ⟨n, rfl, trivial⟩
theorem opens_string {P : Program} {t : TypeId} (ht : P.underlying t = some .string) (hC : P.cellsOf t = 1) : Opens P t Kd.string (fun s => s.size ≤ maxLen) where
  sz := hC
  op := fun h => by
    obtain ⟨n, rfl, _, hw⟩ := DataW.trod_string ht h
    exact ⟨n, rfl, hw⟩
theorem list_of {α : Type} {Q : Nat → α → Prop} : ∀ n, (∀ i, i < n → ∃ y, Q i y) → ∃ l : List α, l.length = n ∧ ∀ i y, l[i]? = some y → Q i y
  | 0, _ => ⟨[], rfl, fun i y h => by simp at h⟩
  | n + 1, h => by
    obtain ⟨l, hl, hq⟩ := list_of n (fun i hi => h i (by omega))
    obtain ⟨y, hy⟩ := h n (by omega)
    refine ⟨l ++ [y], by simp [hl], fun i z hz => ?_⟩
    rcases Nat.lt_or_ge i l.length with hi | hi
    · rw [List.getElem?_append_left hi] at hz
      exact hq i z hz
    · rw [List.getElem?_append_right hi] at hz
      have : i - l.length = 0 := by
        rcases Nat.eq_zero_or_pos (i - l.length) with h0 | h0
        · exact h0
        · rw [List.getElem?_eq_none (by simp; omega)] at hz
          cases hz
      rw [this] at hz
      have e : y = z := by simpa using hz
      subst e
      have : i = n := by omega
      subst this
      exact hy
theorem opens_slice {α : Type} {P : Program} {t e : TypeId} {d : Kd α} {Wf : α → Prop} (ht : P.underlying t = some (.slice e)) (hC : P.cellsOf t = 1) (he : Opens P e d Wf) : Opens P t (Kd.slice e d) (fun l => ∀ x ∈ l, Wf x) where
  sz := hC
  op := fun {H enc w base spare held fuel cs x} h => by
    rcases Go.Deep.open_slice ht h with ⟨rfl, _⟩ | ⟨a, len, cap, m, n, D, Pl, rfl, hb, hl, hm, hmm, _, hi⟩
    · exact ⟨[], ⟨none, 0, rfl, Nat.le_refl _, rfl, by simp, fun h => absurd h (by simp)⟩, by simp⟩
    · have hlen : len ≤ m := by rw [hmm]; split <;> omega
      obtain ⟨l, hll, hq⟩ := list_of (Q := fun i y => (∃ c, c.length = d.sz ∧ d.K w y c ∧ ∀ j u, c[j]? = some u → w.cell? (a.add (i * d.sz + j)) = some u) ∧ Wf y) len (fun i him => by
        obtain ⟨cs', hc, ht'⟩ := hi i (by omega)
        obtain ⟨y, hK, hW⟩ := he.op ht'
        obtain ⟨_, hcl, hat⟩ := World.cells?_some hc
        refine ⟨y, ⟨cs', d.K_len hK, hK, fun j u hu => ?_⟩, hW⟩
        have hj : j < cs'.length := (List.getElem?_eq_some_iff.1 hu).1
        have h1 := hat j (by rw [he.sz, ← d.K_len hK]; exact hj)
        rw [← he.sz, ← Go.Deep.add_add, h1, hu])
      refine ⟨l, ⟨some a, cap, by rw [hll], by rw [hll]; exact hl, rfl, by rw [hll]; have := hm; unfold maxLen at this; omega, fun _ => ⟨a, rfl, fun j p hj => (hq j p hj).1⟩⟩, fun y hy => ?_⟩
      obtain ⟨j, hj, rfl⟩ := List.mem_iff_getElem.1 hy
      exact (hq j _ (List.getElem?_eq_getElem hj)).2
/-- Where field i begins, counted in cells. -/
def offs (P : Program) : List TypeId → Nat → Nat
  | [], _ => 0
  | _ :: _, 0 => 0
  | t :: ts, i + 1 => P.cellsOf t + offs P ts i
/-- Fields one behind the other. -/
def OpensF {α : Type} (P : Program) (ts : List TypeId) (d : Kd α) (Wf : α → Prop) : Prop :=
  ∀ {H : Type} {enc : TypeId × Value → H} {w : World} {base : Nat} {spare : Nat → Bool} {held : Bool} {n : Nat} {cs : List Value}, cs.length = d.sz → (∀ i t, ts[i]? = some t → ∃ x, DataW.trod enc P w base spare held n t ((cs.drop (offs P ts i)).take (P.cellsOf t)) = some x) → ∃ a : α, d.K w a cs ∧ Wf a
theorem opensF_one {α : Type} {P : Program} {t : TypeId} {d : Kd α} {Wf : α → Prop} (h : Opens P t d Wf) : OpensF P [t] d Wf := fun {H enc w base spare held n cs} hl hf => by
  obtain ⟨x, hx⟩ := hf 0 t rfl
  simp only [offs, List.drop_zero] at hx
  rw [List.take_of_length_le (by rw [hl, h.sz]; exact Nat.le_refl _)] at hx
  exact h.op hx
theorem opensF_cons {α β : Type} {P : Program} {t : TypeId} {ts : List TypeId} {d : Kd α} {d' : Kd β} {Wf : α → Prop} {Wf' : β → Prop} (h : Opens P t d Wf) (h' : OpensF P ts d' Wf') : OpensF P (t :: ts) (Kd.pair d d') (fun x => Wf x.1 ∧ Wf' x.2) := fun {H enc w base spare held n cs} hl hf => by
  have hl' : cs.length = d.sz + d'.sz := hl
  obtain ⟨x, hx⟩ := hf 0 t rfl
  simp only [offs, List.drop_zero] at hx
  obtain ⟨a, hK, hW⟩ := h.op hx
  obtain ⟨b, hK', hW'⟩ := h' (enc := enc) (w := w) (base := base) (spare := spare) (held := held) (n := n) (cs := cs.drop d.sz) (by rw [List.length_drop, hl']; omega) (fun i t' ht' => by
    obtain ⟨y, hy⟩ := hf (i + 1) t' (by simpa using ht')
    refine ⟨y, ?_⟩
    rw [List.drop_drop]
    simpa only [offs, h.sz] using hy)
  refine ⟨(a, b), ⟨_, _, (List.take_append_drop d.sz cs).symm, ?_, hK'⟩, hW, hW'⟩
  rw [← h.sz]
  exact hK
theorem opens_struct {α β : Type} {P : Program} {t : TypeId} {fs : Array Field} {d : Kd α} {Wf : α → Prop} (f : β → α) (g : α → β) (hfg : ∀ a, f (g a) = a) (ht : P.underlying t = some (.struct fs)) (hC : P.cellsOf t = d.sz)
    (ho : ((List.range fs.size).all fun i => decide ((fs[i]?.map Field.offset) = some (offs P (fs.toList.map Field.type) i))) = true) (h : OpensF P (fs.toList.map Field.type) d Wf) : Opens P t (Kd.iso d f) (fun x => Wf (f x)) where
  sz := hC
  op := fun {H enc w base spare held fuel cs x} hx => by
    obtain ⟨xs, n, _, _, hlen, hxl, hf⟩ := DataW.trod_struct ht hx
    obtain ⟨a, hK, hW⟩ := h (enc := enc) (w := w) (base := base) (spare := spare) (held := held) (n := n) (cs := cs) (by rw [hlen, hC]) (fun i t' ht' => by
      have hi : i < fs.size := by
        have := (List.getElem?_eq_some_iff.1 ht').1
        simpa using this
      have e : fs[i]? = some fs[i] := Array.getElem?_eq_getElem hi
      have et : fs[i].type = t' := by
        rw [List.getElem?_map] at ht'
        have : fs.toList[i]? = some fs[i] := by simp [hi]
        rw [this] at ht'
        simpa using ht'
      have eo := of_decide_eq_true (List.all_eq_true.1 ho i (List.mem_range.2 hi))
      rw [e] at eo
      have eo' : fs[i].offset = offs P (fs.toList.map Field.type) i := by simpa using eo
      have h1 := hf i fs[i] e
      rw [et, eo'] at h1
      exact ⟨_, h1.trans (List.getElem?_eq_getElem (show i < xs.length by omega))⟩)
    exact ⟨g a, by show d.K w (f (g a)) cs; rw [hfg]; exact hK, by show Wf (f (g a)); rw [hfg]; exact hW⟩

theorem op2 : Opens Try.prog 2 (Kd.int .i64) (fun x : Int => (Lit.int .i64 x).wf = true) := opens_int (k := .i64) Try.underlying2 (by kernel_rfl)
theorem op4 : Opens Try.prog 4 Kd.bool (fun x : Bool => True) := opens_bool Try.underlying4 (by kernel_rfl)
theorem op75 : Opens Try.prog 75 k75 (fun x : S75 => (Lit.int .i64 x.f0).wf = true ∧ (Lit.int .i64 x.f1).wf = true ∧ True) := opens_struct (fun x : S75 => (x.f0, x.f1, x.f2)) (fun a => ⟨a.1, a.2.1, a.2.2⟩) (fun _ => rfl) Try.underlying75 (by kernel_rfl) (by kernel_rfl) (opensF_cons op2 (opensF_cons op2 (opensF_one op4)))
theorem op22 : Opens Try.prog 22 (Kd.slice 75 k75) (fun x : List (S75) => (∀ x_ ∈ x, (Lit.int .i64 x_.f0).wf = true ∧ (Lit.int .i64 x_.f1).wf = true ∧ True)) := opens_slice Try.underlying22 (by kernel_rfl) op75
theorem op103 : Opens Try.prog 103 k103 (fun x : S103 => (Lit.int .i64 x.f0).wf = true ∧ (Lit.int .i64 x.f1).wf = true) := opens_struct (fun x : S103 => (x.f0, x.f1)) (fun a => ⟨a.1, a.2⟩) (fun _ => rfl) Try.underlying103 (by kernel_rfl) (by kernel_rfl) (opensF_cons op2 (opensF_one op2))
theorem op49 : Opens Try.prog 49 (Kd.slice 103 k103) (fun x : List (S103) => (∀ x_ ∈ x, (Lit.int .i64 x_.f0).wf = true ∧ (Lit.int .i64 x_.f1).wf = true)) := opens_slice Try.underlying49 (by kernel_rfl) op103
end Go.Proofs.Ytidkniacmcbgiaa.G
end

section
namespace Go.Proofs.Ytidkniacmcbgiaa.G.Pure
open Go.RowKit Go.Proofs.Ytidkniacmcbgiaa.G Go.Proofs.YtidkniacmcbgiaaW.PrintWords Go.Proofs.YtidkniacmcbgiaaW.PrintLast Go.Proofs.YtidkniacmcbgiaaW.PrintMore
set_option linter.unusedVariables false
set_option linter.unusedSimpArgs false
/-! Plain lemmas on numbers, lists and loops with rounds. -/
theorem w64 {n : Int} (h0 : -9223372036854775808 ≤ n) (h1 : n ≤ 9223372036854775807) : wrap64 n = n := by
  unfold wrap64
  omega
theorem i8b {n : Int} (h : (Lit.int .i8 n).wf = true) : -128 ≤ n ∧ n ≤ 127 := by
  simp [Lit.wf, IntKind.min, IntKind.max, IntKind.signed, IntKind.bits] at h
  omega
theorem i64b {n : Int} (h : (Lit.int .i64 n).wf = true) : -9223372036854775808 ≤ n ∧ n ≤ 9223372036854775807 := by
  simp [Lit.wf, IntKind.min, IntKind.max, IntKind.signed, IntKind.bits] at h
  omega
theorem i8w {n : Int} (h0 : -128 ≤ n) (h1 : n ≤ 127) : IntKind.i8.wrap n = n := by
  simp only [IntKind.wrap, IntKind.signed, IntKind.bits]
  simp
  omega
/-- A loop with an invariant: what it comes to. -/
theorem loop_inv {σ γ : Type} (L : Nat → σ → Option γ) (n : Nat) (I : Nat → σ → Prop) (R : γ → Prop)
    (hs : ∀ k i s, i < n → I i s → (∃ s', I (i + 1) s' ∧ L (k + 1) s = L k s') ∨ (∃ r, R r ∧ L (k + 1) s = some r))
    (he : ∀ k s, I n s → ∃ r, R r ∧ L (k + 1) s = some r) : ∀ k s, I 0 s → n < k → ∃ r, R r ∧ L k s = some r := by
  have go : ∀ d i k s, i + d = n → I i s → d < k → ∃ r, R r ∧ L k s = some r := by
    intro d
    induction d with
    | zero =>
      intro i k s hi hI hk
      obtain ⟨k, rfl⟩ : ∃ m, k = m + 1 := ⟨k - 1, by omega⟩
      obtain rfl : i = n := by omega
      exact he k s hI
    | succ d ih =>
      intro i k s hi hI hk
      obtain ⟨k, rfl⟩ : ∃ m, k = m + 1 := ⟨k - 1, by omega⟩
      rcases hs k i s (by omega) hI with ⟨s', hI', h⟩ | h
      · rw [h]
        exact ih (i + 1) k s' (by omega) hI' (by omega)
      · exact h
  intro k s hI hk
  exact go n 0 k s (by omega) hI hk
theorem bind_if {α β : Type} {c : Prop} [Decidable c] {a b : Option α} {f : α → Option β} : (if c then a else b).bind f = if c then a.bind f else b.bind f := by
  split <;> rfl
theorem take_set_succ {α : Type} {l : List α} {i : Nat} (h : i < l.length) (v : α) : (l.set i v).take (i + 1) = l.take i ++ [v] := by
  rw [List.take_succ_eq_append_getElem (by simpa using h)]
  simp [List.take_set_of_le]
theorem rd_nat {l : List Int} {i : Nat} (h : i < l.length) : rd l (i : Int) = l[i] := by
  simp [rd, List.getD_eq_getElem?_getD, List.getElem?_eq_getElem h]

end Go.Proofs.Ytidkniacmcbgiaa.G.Pure
end

section
namespace Go.Proofs.Ytidkniacmcbgiaa.G.Pure
open Go.RowKit Go.Proofs.Ytidkniacmcbgiaa.G Go.Proofs.YtidkniacmcbgiaaW.PrintWords Go.Proofs.YtidkniacmcbgiaaW.PrintLast Go.Proofs.YtidkniacmcbgiaaW.PrintMore
set_option linter.unusedVariables false
set_option linter.unusedSimpArgs false
/-! The laws' helpers over logs. -/
abbrev En := S73
def entryOf (x : S75) : En := ⟨x.f0, x.f1, x.f2⟩
theorem szLog_eq (l : List (S75)) (a : Int) (h0 : 0 ≤ a) (h1 : a ≤ 1048576) (hl : l.length ≤ 9223372036854775807) : laws_szLog.f l a = some (if a - l.length < 0 then -1 else a - l.length) := by
  unfold laws_szLog.f
  rw [w64 (by omega) (by omega)]
  split <;> rfl
theorem rd_laws_Entry {l : List (S75)} {i : Nat} (h : i < l.length) : rd_T75 l (i : Int) = l[i] := by
  simp [rd_T75, List.getD_eq_getElem?_getD, List.getElem?_eq_getElem h]
theorem toLog_eq (k : Nat) (l : List (S75)) (hl : l.length ≤ 1048576) (hk : l.length < k) : laws_toLog.f k l = some (l.map entryOf) := by
  unfold laws_toLog.f
  rw [if_pos (by omega), if_pos (by omega)]
  obtain ⟨r, hr, h⟩ := loop_inv (fun k (s : List En × Int) => laws_toLog.l0 k l s.1 s.2) l.length (fun i s => s.2 = (i : Int) ∧ s.1.length = l.length ∧ s.1.take i = (l.map entryOf).take i) (fun r => r = l.map entryOf)
    (fun k i s hi ⟨h1, h2, h3⟩ => by
      obtain ⟨acc, x⟩ := s
      simp only at h1 h2 h3
      subst h1
      refine .inl ⟨(acc.set i (entryOf l[i]), ((i + 1 : Nat) : Int)), ⟨rfl, by simpa using h2, ?_⟩, ?_⟩
      · rw [take_set_succ (by omega), h3, List.take_succ_eq_append_getElem (by simpa using hi)]
        simp
      · simp only [laws_toLog.l0]
        rw [if_pos (by omega), if_pos (by omega), rd_laws_Entry hi]
        simp only [laws_toEntry.f, Option.bind_some]
        rw [if_pos (by omega), w64 (by omega) (by omega)]
        rfl)
    (fun k s ⟨h1, h2, h3⟩ => by
      obtain ⟨acc, x⟩ := s
      simp only at h1 h2 h3
      subst h1
      refine ⟨acc, ?_, ?_⟩
      · rw [List.take_of_length_le (by omega), List.take_of_length_le (by simp)] at h3
        exact h3
      · simp only [laws_toLog.l0]
        rw [if_neg (by omega)]) k (List.replicate l.length z73, 0) ⟨rfl, by simp, by simp⟩ hk
  subst hr
  simpa using h
theorem eqEntry_self (a : En) : laws_eqEntry.f a.f0 a.f1 a.f2 a.f0 a.f1 a.f2 = some true := by
  simp [laws_eqEntry.f]
theorem eqLog_self (k : Nat) (a : List En) (hl : a.length ≤ 1048576) (hk : a.length < k) : laws_eqLog.f k a a = some true := by
  unfold laws_eqLog.f
  rw [if_pos rfl]
  obtain ⟨r, hr, h⟩ := loop_inv (fun k (s : Int) => laws_eqLog.l0 k a a s) a.length (fun i s => s = (i : Int)) (fun r => r = true)
    (fun k i s hi h1 => by
      subst h1
      refine .inl ⟨((i + 1 : Nat) : Int), rfl, ?_⟩
      simp only [laws_eqLog.l0]
      rw [if_pos (by omega), if_pos (by omega), if_pos (by omega), eqEntry_self]
      simp only [Option.bind_some, if_true]
      rw [w64 (by omega) (by omega)]
      rfl)
    (fun k s h1 => by
      subst h1
      refine ⟨true, rfl, ?_⟩
      simp only [laws_eqLog.l0]
      rw [if_neg (by omega)]) k 0 rfl hk
  subst hr
  exact h
theorem rd_impl_Entry {l : List En} {i : Nat} (h : i < l.length) : rd_T73 l (i : Int) = l[i] := by
  simp [rd_T73, List.getD_eq_getElem?_getD, List.getElem?_eq_getElem h]
theorem rd_set_Entry {l : List En} {i : Nat} (h : i < l.length) (v : En) : rd_T73 (l.set i v) (i : Int) = v := by
  rw [rd_impl_Entry (by simpa using h)]
  simp

end Go.Proofs.Ytidkniacmcbgiaa.G.Pure
end

section
namespace Go.Proofs.Ytidkniacmcbgiaa.G.Pure
open Go.RowKit Go.Proofs.Ytidkniacmcbgiaa.G Go.Proofs.YtidkniacmcbgiaaW.PrintWords Go.Proofs.YtidkniacmcbgiaaW.PrintLast Go.Proofs.YtidkniacmcbgiaaW.PrintMore
set_option linter.unusedVariables false
set_option linter.unusedSimpArgs false
/-! What is up behind a log. -/
theorem loop_inv2 {σ γ : Type} (L : Nat → σ → Option γ) (n K0 : Nat) (I : Nat → σ → Prop) (R : γ → Prop)
    (hs : ∀ k i s, i < n → K0 ≤ k → I i s → (∃ s', I (i + 1) s' ∧ L (k + 1) s = L k s') ∨ (∃ r, R r ∧ L (k + 1) s = some r))
    (he : ∀ k s, K0 ≤ k → I n s → ∃ r, R r ∧ L (k + 1) s = some r) : ∀ k s, I 0 s → n + K0 < k → ∃ r, R r ∧ L k s = some r := by
  have go : ∀ d i k s, i + d = n → I i s → d + K0 < k → ∃ r, R r ∧ L k s = some r := by
    intro d
    induction d with
    | zero =>
      intro i k s hi hI hk
      obtain ⟨k, rfl⟩ : ∃ m, k = m + 1 := ⟨k - 1, by omega⟩
      obtain rfl : i = n := by omega
      exact he k s (by omega) hI
    | succ d ih =>
      intro i k s hi hI hk
      obtain ⟨k, rfl⟩ : ∃ m, k = m + 1 := ⟨k - 1, by omega⟩
      rcases hs k i s (by omega) (by omega) hI with ⟨s', hI', h⟩ | h
      · rw [h]
        exact ih (i + 1) k s' (by omega) hI' (by omega)
      · exact h
  intro k s hI hk
  exact go n 0 k s (by omega) hI (by omega)
def atE (l : List En) (i : Nat) (out : List Int) : Int := impl_Log_up.at l (rd_T73 l (i : Int)) out
def upsStep (l : List En) (i : Nat) (out : List Int) : Option (List Int) :=
  if decide (atE l i out < 0) = (rd_T73 l (i : Int)).f2 then none else if (rd_T73 l (i : Int)).f2 = true then some (out.eraseIdx (atE l i out).toNat) else some (out ++ [(i : Int)])
def ups (l : List En) : Nat → Option (List Int)
  | 0 => some []
  | n + 1 => (ups l n).bind (upsStep l n)
def lastT (l : List En) : Nat → Int
  | 0 => 0
  | n + 1 => (rd_T73 l (n : Int)).f0
def gd (l : List En) : Nat → Bool
  | 0 => true
  | n + 1 => gd l n && impl_Log_up.good (lastT l n) (rd_T73 l (n : Int))
theorem to_eq (l : List En) (n : Nat) : impl_Log_up.to l n = if gd l n = true then (ups l n).map (fun o => (lastT l n, o)) else none := by
  induction n with
  | zero => rfl
  | succ n ih =>
    rw [impl_Log_up.to, ih, ups, gd]
    cases hg : gd l n with
    | false => simp
    | true =>
      cases hu : ups l n with
      | none => simp
      | some o =>
        simp only [if_true, Option.map_some, Option.bind_some, Bool.true_and]
        unfold impl_Log_up.step upsStep atE
        cases hgd : impl_Log_up.good (lastT l n) (rd_T73 l (n : Int)) with
        | false => simp [hgd]
        | true =>
          simp only [hgd, Bool.true_eq_false, if_false, if_true]
          split
          · rfl
          · split <;> rfl
theorem gd_false {l : List En} {i n : Nat} (h : gd l i = false) (hi : i ≤ n) : gd l n = false := by
  induction n with
  | zero => obtain rfl : i = 0 := by omega
            exact h
  | succ n ih =>
    rcases Nat.lt_or_ge i (n + 1) with h1 | h1
    · rw [gd, ih (by omega)]
      rfl
    · obtain rfl : i = n + 1 := by omega
      exact h
theorem ups_none {l : List En} {i n : Nat} (h : ups l i = none) (hi : i ≤ n) : ups l n = none := by
  induction n with
  | zero => obtain rfl : i = 0 := by omega
            exact h
  | succ n ih =>
    rcases Nat.lt_or_ge i (n + 1) with h1 | h1
    · rw [ups, ih (by omega)]
      rfl
    · obtain rfl : i = n + 1 := by omega
      exact h
theorem idxP_none {α : Type} {p : α → Bool} {l : List α} (h : idxP p l < 0) : ∀ x ∈ l, p x = false := by
  have := idxP_nonneg p l
  rw [decide_eq_false (by omega)] at this
  intro x hx
  exact List.any_eq_false.1 this.symm x hx |> (by simpa using ·)
/-- The entries up: within bounds, each signal once. -/
theorem ups_ok {l : List En} {n : Nat} {out : List Int} (h : ups l n = some out) : out.length ≤ n ∧ (∀ x ∈ out, 0 ≤ x ∧ x < (n : Int)) ∧ out.Pairwise (fun a b => (rd_T73 l a).f1 ≠ (rd_T73 l b).f1) := by
  induction n generalizing out with
  | zero =>
    cases h
    simp
  | succ n ih =>
    rw [ups] at h
    obtain ⟨s0, h0, h1⟩ := Option.bind_eq_some_iff.1 h
    obtain ⟨i1, i2, i3⟩ := ih h0
    unfold upsStep at h1
    split at h1
    · cases h1
    · rename_i hne
      split at h1
      · cases h1
        refine ⟨?_, fun x hx => ?_, i3.sublist (List.eraseIdx_sublist ..)⟩
        · have := List.length_eraseIdx_le (l := s0) (i := (atE l n s0).toNat)
          omega
        · have := i2 x (List.mem_of_mem_eraseIdx hx)
          omega
      · rename_i hf
        cases h1
        refine ⟨by simp; omega, fun x hx => ?_, ?_⟩
        · simp only [List.mem_append, List.mem_singleton] at hx
          rcases hx with hx | rfl
          · have := i2 x hx
            omega
          · omega
        · rw [List.pairwise_append]
          refine ⟨i3, by simp, fun a ha b hb => ?_⟩
          simp only [List.mem_singleton] at hb
          subst hb
          have hk : atE l n s0 < 0 := by
            apply Classical.byContradiction
            intro hh
            rw [decide_eq_false hh] at hne
            simp only [Bool.not_eq_true] at hf
            exact hne hf.symm
          have := idxP_none hk a ha
          simpa using this
theorem idxP_take {p : Int → Bool} {out : List Int} {j : Nat} (hj : j < out.length) (hu : ∀ a b (ha : a < out.length) (hb : b < out.length), a < b → p out[a] = true → p out[b] = true → False) : idxP p (out.take (j + 1)) = if p out[j] = true then (j : Int) else idxP p (out.take j) := by
  split
  · rename_i h
    refine idxP_hit (k := j) (y := out[j]) (by rw [List.getElem?_take_of_lt (by omega)]; exact List.getElem?_eq_getElem hj) h (fun a x ha hx => ?_)
    rw [List.getElem?_take_of_lt (by omega)] at hx
    obtain ⟨h1, rfl⟩ := List.getElem?_eq_some_iff.1 hx
    cases hp : p out[a] with
    | false => rfl
    | true => exact (hu a j h1 hj ha hp h).elim
  · rename_i h
    simp only [Bool.not_eq_true] at h
    unfold idxP
    rw [List.take_succ_eq_append_getElem hj, List.findIdx?_append]
    cases e : (out.take j).findIdx? p with
    | some i => simp
    | none => simp [h]
set_option maxHeartbeats 400000 in
theorem specUp_inner {l : List En} {n : Int} {out : List Int} {i : Nat} (hi : i < l.length) (hl : l.length ≤ 60) (ho : out.length ≤ i ∧ (∀ x ∈ out, 0 ≤ x ∧ x < (i : Int)) ∧ out.Pairwise (fun a b => (rd_T73 l a).f1 ≠ (rd_T73 l b).f1)) :
    ∀ (d j K : Nat), j + d = out.length → spec_l07Up.l1 (K + d + 1) l n out (i : Int) (idxP (fun m => (rd_T73 l m).f1 == (rd_T73 l (i : Int)).f1) (out.take j)) (j : Int) = spec_l07Up.l1 (K + 1) l n out (i : Int) (atE l i out) (out.length : Int) := by
  intro d
  induction d with
  | zero =>
    intro j K hj
    obtain rfl : j = out.length := by omega
    rw [List.take_length]
    rfl
  | succ d ih =>
    intro j K hj
    have hjo : j < out.length := by omega
    obtain ⟨h1, h2, h3⟩ := ho
    have hm := h2 out[j] (List.getElem_mem hjo)
    rw [← ih (j + 1) K (by omega), show K + (d + 1) + 1 = (K + d + 1) + 1 by omega]
    conv => lhs; unfold spec_l07Up.l1
    rw [if_pos (by omega), if_pos (by omega), rd_nat hjo, if_pos (by omega), if_pos (by omega), if_pos (by omega), if_pos (by omega), w64 (by omega) (by omega), idxP_take hjo (fun a b ha hb hab pa pb => ?_)]
    · by_cases hq : (rd_T73 l out[j]).f1 = (rd_T73 l (i : Int)).f1
      · rw [if_pos hq, if_pos (by simpa using hq)]
        rfl
      · rw [if_neg hq, if_neg (by simpa using hq)]
        rfl
    · have := List.pairwise_iff_getElem.1 h3 a b ha hb hab
      simp only [beq_iff_eq] at pa pb
      exact this (pa.trans pb.symm)
set_option maxHeartbeats 1000000 in
theorem specUp_outer {l : List En} {n : Nat} (hn : n ≤ l.length) (hl : l.length ≤ 60) : ∀ (d i : Nat) (out : List Int) (K : Nat), i + d = n → ups l i = some out → 70 * (d + 1) ≤ K → spec_l07Up.l0 K l (n : Int) out (i : Int) = some (match ups l n with | some o => (o, true) | none => ([], false)) := by
  intro d
  induction d with
  | zero =>
    intro i out K hi hu hK
    obtain ⟨K, rfl⟩ : ∃ m, K = m + 1 := ⟨K - 1, by omega⟩
    obtain rfl : i = n := by omega
    simp only [spec_l07Up.l0]
    rw [if_neg (by omega), hu]
  | succ d ih =>
    intro i out K hi hu hK
    have ho := ups_ok hu
    obtain ⟨h1, h2, h3⟩ := ho
    obtain ⟨K, rfl⟩ : ∃ m, K = m + out.length + 2 := ⟨K - out.length - 2, by omega⟩
    have hK2 : 70 * (d + 1) ≤ K := by omega
    have hi2 : i + 1 + d = n := by omega
    have hsucc : ((i + 1 : Nat) : Int) = (i : Int) + 1 := by omega
    simp only [spec_l07Up.l0]
    rw [if_pos (by omega)]
    have e := specUp_inner (n := (n : Int)) (l := l) (out := out) (i := i) (by omega) hl ⟨h1, h2, h3⟩ out.length 0 K (by omega)
    rw [show idxP (fun m => (rd_T73 l m).f1 == (rd_T73 l (i : Int)).f1) (out.take 0) = -1 from rfl] at e
    rw [show ((0 : Nat) : Int) = 0 from rfl] at e
    rw [e]
    have hlt := impl_Log_up.idx_lt (fun m => (rd_T73 l m).f1 == (rd_T73 l (i : Int)).f1) out
    have hs : ups l (i + 1) = upsStep l i out := by rw [ups, hu]; rfl
    have hat : idxP (fun m => (rd_T73 l m).f1 == (rd_T73 l (i : Int)).f1) out = atE l i out := rfl
    rw [hat] at hlt
    conv => lhs; unfold spec_l07Up.l1
    rw [if_neg (by omega), if_pos (by omega), if_pos (by omega)]
    unfold upsStep at hs
    by_cases hneg : atE l i out < 0
    · rw [decide_eq_true hneg] at hs
      rw [show decide (atE l i out ≥ 0) = false from decide_eq_false (by omega)]
      cases hf : (rd_T73 l (i : Int)).f2 with
      | true =>
        rw [hf, if_pos rfl] at hs
        rw [if_pos (by rfl), ups_none hs (by omega)]
      | false =>
        rw [hf, if_neg (by simp), if_neg (by simp)] at hs
        rw [if_neg (by simp), if_pos hneg, if_pos (by omega), w64 (by omega) (by omega)]
        have e2 := ih (i + 1) _ K hi2 hs hK2
        rw [hsucc] at e2
        rw [e2]
    · rw [decide_eq_false hneg] at hs
      rw [show decide (atE l i out ≥ 0) = true from decide_eq_true (by omega)]
      cases hf : (rd_T73 l (i : Int)).f2 with
      | false =>
        rw [hf, if_pos rfl] at hs
        rw [if_pos (by rfl), ups_none hs (by omega)]
      | true =>
        rw [hf, if_neg (by simp), if_pos rfl] at hs
        rw [if_neg (by simp), if_neg hneg]
        simp only [Option.bind_some, List.nil_append]
        obtain ⟨q, hq⟩ : ∃ q : Nat, atE l i out = (q : Int) := ⟨(atE l i out).toNat, by omega⟩
        rw [hq] at hs hlt ⊢
        rw [if_pos (by omega), if_pos (by omega), if_pos (by simp; omega), if_pos (by rw [w64 (by omega) (by omega)]; omega), w64 (n := (q : Int) + 1) (by omega) (by omega), if_pos (by omega), if_pos (by simp; omega), w64 (n := (i : Int) + 1) (by omega) (by omega)]
        rw [Int.toNat_natCast, show ((q : Int) + 1).toNat = q + 1 by omega, ← List.eraseIdx_eq_take_drop_succ]
        have e2 := ih (i + 1) (out.eraseIdx q) K hi2 (by rw [hs, Int.toNat_natCast]) hK2
        rw [hsucc] at e2
        rw [e2]
theorem specUp_eq {l : List En} {n K : Nat} (hn : n ≤ l.length) (hl : l.length ≤ 60) (hK : 5000 < K) : spec_l07Up.f K l (n : Int) = some (match ups l n with | some o => (o, true) | none => ([], false)) := by
  unfold spec_l07Up.f
  exact specUp_outer hn hl n 0 [] K (by omega) rfl (by omega)
def validG (l : List En) : Bool := decide (l.length ≤ 60) && gd l l.length && (ups l l.length).isSome
theorem implValid_log {l : List En} (hl : l.length ≤ 1048576) : impl_ValidLog.f l = some (validG l) := by
  unfold impl_ValidLog.f impl_Log_up.f validG
  rw [if_pos hl, to_eq]
  cases hg : gd l l.length with
  | false => simp
  | true =>
    cases hu : ups l l.length with
    | none => simp
    | some o => simp; omega
theorem in_log (n lo hi : Int) : spec_l00In.f n lo hi = some (decide (lo ≤ n) && decide (n ≤ hi)) := by
  unfold spec_l00In.f
  by_cases h : lo ≤ n
  · rw [if_pos h, decide_eq_true h]
    rfl
  · rw [if_neg h, decide_eq_false h]
    rfl
theorem specOk_log {k : Nat} {l : List En} (hk : 6000 < k) : spec_l07Ok.f k l = some (validG l) := by
  unfold spec_l07Ok.f
  by_cases hl : l.length ≤ 60
  · rw [if_neg (by omega)]
    obtain ⟨r, hr, h⟩ := loop_inv2 (fun k (s : Int × Int) => spec_l07Ok.l0 k l s.1 s.2) l.length 5001 (fun i s => s.2 = (i : Int) ∧ s.1 = lastT l i ∧ gd l i = true) (fun r => r = validG l)
      (fun k i s hi hk ⟨h1, h2, h3⟩ => by
        obtain ⟨a, x⟩ := s
        simp only at h1 h2 h3
        subst h1 h2
        simp only [spec_l07Ok.l0]
        rw [if_pos (by omega), if_pos (by omega), in_log]
        simp only [Option.bind_some]
        have hg : gd l (i + 1) = impl_Log_up.good (lastT l i) (rd_T73 l (i : Int)) := by rw [gd, h3]; rfl
        unfold impl_Log_up.good at hg
        have hbad : gd l (i + 1) = false → false = validG l := fun h => by
          unfold validG
          rw [gd_false h (by omega)]
          simp
        cases hb1 : (decide (lastT l i ≤ (rd_T73 l (i : Int)).f0) && decide ((rd_T73 l (i : Int)).f0 ≤ 100000)) with
        | false =>
          rw [hb1] at hg
          exact .inr ⟨false, hbad hg, by simp⟩
        | true =>
          rw [hb1] at hg
          rw [if_pos rfl, in_log]
          simp only [Option.bind_some]
          cases hb2 : (decide (0 ≤ (rd_T73 l (i : Int)).f1) && decide ((rd_T73 l (i : Int)).f1 ≤ 9999)) with
          | false =>
            rw [hb2] at hg
            exact .inr ⟨false, hbad hg, by simp⟩
          | true =>
            rw [hb2] at hg
            refine .inl ⟨((rd_T73 l (i : Int)).f0, ((i + 1 : Nat) : Int)), ⟨rfl, rfl, hg⟩, ?_⟩
            rw [if_pos rfl, w64 (by omega) (by omega)]
            rfl)
      (fun k s hk ⟨h1, h2, h3⟩ => by
        obtain ⟨a, x⟩ := s
        simp only at h1 h2 h3
        subst h1 h2
        refine ⟨validG l, rfl, ?_⟩
        simp only [spec_l07Ok.l0]
        rw [if_neg (by omega), specUp_eq (Nat.le_refl _) hl (by omega)]
        unfold validG
        rw [h3]
        cases ups l l.length <;> simp [hl]) k (0, 0) ⟨rfl, rfl, rfl⟩ (by omega)
    subst hr
    exact h
  · rw [if_pos (by omega)]
    unfold validG
    simp [hl]

end Go.Proofs.Ytidkniacmcbgiaa.G.Pure
end

section
namespace Go.Proofs.Ytidkniacmcbgiaa.G.Pure
open Go.RowKit Go.Proofs.Ytidkniacmcbgiaa.G Go.Proofs.YtidkniacmcbgiaaW.PrintWords Go.Proofs.YtidkniacmcbgiaaW.PrintLast Go.Proofs.YtidkniacmcbgiaaW.PrintMore
set_option linter.unusedVariables false
set_option linter.unusedSimpArgs false
theorem szLog_big {l : List (S75)} (h : l.length ≤ 9223372036854775807) (hL : ¬ l.length ≤ 1048576) : laws_szLog.f l 1048576 = some (-1) := by
  rw [szLog_eq _ _ (by omega) (by omega) h, if_pos (by omega)]
theorem szLog_small {l : List (S75)} (hL : l.length ≤ 1048576) : ∃ n, laws_szLog.f l 1048576 = some n ∧ ¬ n < 0 := by
  refine ⟨_, szLog_eq _ _ (by omega) (by omega) (by omega), ?_⟩
  rw [if_neg (by omega)]
  omega
theorem FnExactValidLog (l0 : List (S75)) (h00 : l0.length ≤ 9223372036854775807) (h01 : (∀ x ∈ l0, (Lit.int .i64 x.f0).wf = true ∧ (Lit.int .i64 x.f1).wf = true ∧ True)) : ∃ k, laws_FnExactValidLog.f k l0 = some true := by
  by_cases hL : l0.length ≤ 1048576
  · obtain ⟨n, hn, hn0⟩ := szLog_small hL
    obtain ⟨k, hk⟩ : ∃ k, 1100000 < k := ⟨_, Nat.lt_succ_self _⟩
    refine ⟨k, ?_⟩
    have hL' : (l0.map entryOf).length ≤ 1048576 := by simpa using hL
    have e1 := toLog_eq k l0 hL (by omega)
    have q1 := eqLog_self k (l0.map entryOf) hL' (by omega)
    have s1 := specOk_log (k := k) (l := l0.map entryOf) (by omega)
    have i1 := implValid_log hL'
    unfold laws_FnExactValidLog.f
    rw [hn]
    simp only [Option.bind_some]
    rw [if_neg hn0]
    simp [spec_ValidLog.f, e1, q1, s1, i1]
  · refine ⟨0, ?_⟩
    unfold laws_FnExactValidLog.f
    rw [szLog_big h00 hL]
    rfl

end Go.Proofs.Ytidkniacmcbgiaa.G.Pure
end

section

end
