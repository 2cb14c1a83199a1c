/- The law's functions, their contracts, and the plain lemmas: texts of this claim, laid together. -/
import Derived.Deep.Slices
import Derived.Deep.Fields
import Derived.ChangeSame
import Derived.OpenShut
import Derived.Test.YtjglinmilhenjaaMFnSlower0
import Derived.Test.YtjglinmilhenjaaMFnSlower1
import Derived.Test.YtjglinmilhenjaaMFnSlower2
section
namespace Go.Proofs.Ytjglinmilhenjaa.G
open Go.RowKit Go.Proofs.YtjglinmilhenjaaW.PrintWords Go.Proofs.YtjglinmilhenjaaW.PrintLast Go.Proofs.YtjglinmilhenjaaW.PrintMore
attribute [local go_sem] max2_int min2_int max_two min_two max_three min_three max_four min_four
set_option linter.unusedVariables false
set_option linter.unusedSimpArgs false
open Go.ChangeShapes Go.WideShapes Go.Deep in
structure Opens {α : Type} (P : Program) (t : TypeId) (d : Kd α) (Wf : α → Prop) : Prop where
  sz : P.cellsOf t = d.sz
  op : ∀ {H : Type} {enc : TypeId × Value → H} {w : World} {base : Nat} {spare : Nat → Bool} {held : Bool} {fuel : Nat} {cs : List Value} {x : DataW H × List MemPlace}, DataW.trod enc P w base spare held fuel t cs = some x → ∃ a : α, d.K w a cs ∧ Wf a
theorem opens_int {P : Program} {t : TypeId} {k : IntKind} (ht : P.underlying t = some (.int k)) (hC : P.cellsOf t = 1) : Opens P t (Kd.int k) (fun n => (Lit.int k n).wf = true) where
  sz := hC
  op := fun h => by
    obtain ⟨n, rfl, _, hw⟩ := DataW.trod_int ht h
    exact ⟨n, rfl, hw⟩
theorem list_of {α : Type} {Q : Nat → α → Prop} : ∀ n, (∀ i, i < n → ∃ y, Q i y) → ∃ l : List α, l.length = n ∧ ∀ i y, l[i]? = some y → Q i y
  | 0, _ => ⟨[], rfl, fun i y h => by simp at h⟩
  | n + 1, h => by
    obtain ⟨l, hl, hq⟩ := list_of n (fun i hi => h i (by omega))
    obtain ⟨y, hy⟩ := h n (by omega)
    refine ⟨l ++ [y], by simp [hl], fun i z hz => ?_⟩
    rcases Nat.lt_or_ge i l.length with hi | hi
    · rw [List.getElem?_append_left hi] at hz
      exact hq i z hz
    · rw [List.getElem?_append_right hi] at hz
      have : i - l.length = 0 := by
        rcases Nat.eq_zero_or_pos (i - l.length) with h0 | h0
        · exact h0
        · rw [List.getElem?_eq_none (by simp; omega)] at hz
          cases hz
      rw [this] at hz
      have e : y = z := by simpa using hz
      subst e
      have : i = n := by omega
      subst this
      exact hy
theorem opens_slice {α : Type} {P : Program} {t e : TypeId} {d : Kd α} {Wf : α → Prop} (ht : P.underlying t = some (.slice e)) (hC : P.cellsOf t = 1) (he : Opens P e d Wf) : Opens P t (Kd.slice e d) (fun l => l.length ≤ 9223372036854775807 ∧ ∀ x ∈ l, Wf x) where
  sz := hC
  op := fun {H enc w base spare held fuel cs x} h => by
    rcases Go.Deep.open_slice ht h with ⟨rfl, _⟩ | ⟨a, len, cap, m, n, D, Pl, rfl, hb, hl, hm, hmm, _, hi⟩
    · exact ⟨[], ⟨none, 0, rfl, Nat.le_refl _, rfl, by simp, fun h => absurd h (by simp)⟩, by simp, by simp⟩
    · have hlen : len ≤ m := by rw [hmm]; split <;> omega
      obtain ⟨l, hll, hq⟩ := list_of (Q := fun i y => (∃ c, c.length = d.sz ∧ d.K w y c ∧ ∀ j u, c[j]? = some u → w.cell? (a.add (i * d.sz + j)) = some u) ∧ Wf y) len (fun i him => by
        obtain ⟨cs', hc, ht'⟩ := hi i (by omega)
        obtain ⟨y, hK, hW⟩ := he.op ht'
        obtain ⟨_, hcl, hat⟩ := World.cells?_some hc
        refine ⟨y, ⟨cs', d.K_len hK, hK, fun j u hu => ?_⟩, hW⟩
        have hj : j < cs'.length := (List.getElem?_eq_some_iff.1 hu).1
        have h1 := hat j (by rw [he.sz, ← d.K_len hK]; exact hj)
        rw [← he.sz, ← Go.Deep.add_add, h1, hu])
      refine ⟨l, ⟨some a, cap, by rw [hll], by rw [hll]; exact hl, rfl, by rw [hll]; have := hm; unfold maxLen at this; omega, fun _ => ⟨a, rfl, fun j p hj => (hq j p hj).1⟩⟩, by rw [hll]; have := hm; unfold maxLen at this; omega, fun y hy => ?_⟩
      obtain ⟨j, hj, rfl⟩ := List.mem_iff_getElem.1 hy
      exact (hq j _ (List.getElem?_eq_getElem hj)).2
theorem op5 : Opens Try.prog 5 (Kd.int .u8) (fun x : Int => (Lit.int .u8 x).wf = true) := opens_int (k := .u8) Try.underlying5 (by kernel_rfl)
theorem op22 : Opens Try.prog 22 (Kd.slice 5 (Kd.int .u8)) (fun x : List Int => (x.length ≤ 9223372036854775807 ∧ ∀ x_ ∈ x, (Lit.int .u8 x_).wf = true)) := opens_slice Try.underlying22 (by kernel_rfl) op5
end Go.Proofs.Ytjglinmilhenjaa.G
end

section
namespace Go.Proofs.Ytjglinmilhenjaa.G.Pure
open Go.RowKit Go.Proofs.Ytjglinmilhenjaa.G Go.Proofs.YtjglinmilhenjaaW.PrintWords Go.Proofs.YtjglinmilhenjaaW.PrintLast Go.Proofs.YtjglinmilhenjaaW.PrintMore
set_option linter.unusedVariables false
set_option linter.unusedSimpArgs false
theorem w64 {n : Int} (h0 : -9223372036854775808 ≤ n) (h1 : n ≤ 9223372036854775807) : wrap64 n = n := by
  unfold wrap64
  omega
theorem i8b {n : Int} (h : (Lit.int .i8 n).wf = true) : -128 ≤ n ∧ n ≤ 127 := by
  simp [Lit.wf, IntKind.min, IntKind.max, IntKind.signed, IntKind.bits] at h
  omega
theorem i8w {n : Int} (h0 : -128 ≤ n) (h1 : n ≤ 127) : IntKind.i8.wrap n = n := by
  simp only [IntKind.wrap, IntKind.signed, IntKind.bits]
  simp
  omega
theorem loop_inv {σ γ : Type} (L : Nat → σ → Option γ) (n : Nat) (I : Nat → σ → Prop) (R : γ → Prop)
    (hs : ∀ k i s, i < n → I i s → (∃ s', I (i + 1) s' ∧ L (k + 1) s = L k s') ∨ (∃ r, R r ∧ L (k + 1) s = some r))
    (he : ∀ k s, I n s → ∃ r, R r ∧ L (k + 1) s = some r) : ∀ k s, I 0 s → n < k → ∃ r, R r ∧ L k s = some r := by
  have go : ∀ d i k s, i + d = n → I i s → d < k → ∃ r, R r ∧ L k s = some r := by
    intro d
    induction d with
    | zero =>
      intro i k s hi hI hk
      obtain ⟨k, rfl⟩ : ∃ m, k = m + 1 := ⟨k - 1, by omega⟩
      obtain rfl : i = n := by omega
      exact he k s hI
    | succ d ih =>
      intro i k s hi hI hk
      obtain ⟨k, rfl⟩ : ∃ m, k = m + 1 := ⟨k - 1, by omega⟩
      rcases hs k i s (by omega) hI with ⟨s', hI', h⟩ | h
      · rw [h]
        exact ih (i + 1) k s' (by omega) hI' (by omega)
      · exact h
  intro k s hI hk
  exact go n 0 k s (by omega) hI hk
end Go.Proofs.Ytjglinmilhenjaa.G.Pure
end

section
namespace Go.Proofs.Ytjglinmilhenjaa.G.Pure
open Go.RowKit Go.Proofs.Ytjglinmilhenjaa.G Go.Proofs.YtjglinmilhenjaaW.PrintWords Go.Proofs.YtjglinmilhenjaaW.PrintLast Go.Proofs.YtjglinmilhenjaaW.PrintMore
set_option linter.unusedVariables false
set_option linter.unusedSimpArgs false
theorem rd_impl_Ship {l : List (S34)} {i : Nat} (h : i < l.length) : rd_T34 l (i : Int) = l[i] := by
  simp [rd_T34, List.getD_eq_getElem?_getD, List.getElem?_eq_getElem h]
end Go.Proofs.Ytjglinmilhenjaa.G.Pure
end

section
namespace Go.Proofs.Ytjglinmilhenjaa.G.Pure
open Go.RowKit Go.Proofs.Ytjglinmilhenjaa.G Go.Proofs.YtjglinmilhenjaaW.PrintWords Go.Proofs.YtjglinmilhenjaaW.PrintLast Go.Proofs.YtjglinmilhenjaaW.PrintMore
set_option linter.unusedVariables false
set_option linter.unusedSimpArgs false
abbrev Sp := S34
abbrev Tm := S60
def scan (pre : List Tm) (a : Nat) : Nat → Int × Int
  | 0 => (-1, -1)
  | n + 1 => match scan pre a n with
    | (f, s) => match pre[a + n]? with
      | some t => if 0 ≤ t.f3 ∧ (f < 0 ∨ t.f3 < s) then (((a + n : Nat) : Int), t.f3) else (f, s)
      | none => (f, s)
def dueL (pre : List Tm) (x : Sp) (read : Int) : Tm :=
  if pre.length = 0 then ⟨-1, 0, 0, x.f2⟩ else
    match scan pre (pre.length - x.f0.toNat) (pre.length - (pre.length - x.f0.toNat)) with
    | (f, s) => if 0 ≤ f then ⟨f, s, s + read, s + read + x.f2⟩ else ⟨-1, -1, -1, -1⟩
def timesGo (ship more : Int) : List Sp → List Tm → List Tm
  | [], acc => acc
  | x :: xs, acc => timesGo ship more xs (acc ++ [dueL acc x (x.f1 + if (acc.length : Int) = ship then more else 0)])
def timesL (ship more : Int) (l : List Sp) : List Tm := timesGo ship more l []
structure TimesOK (ts : List Tm) : Prop where
  first : ∀ t, ts[0]? = some t → t.f0 = -1 ∧ t.f1 = 0 ∧ t.f2 = 0 ∧ 0 ≤ t.f3
  bound : ∀ (i : Nat) t, ts[i]? = some t → t.f3 ≤ 200 * ((i : Int) + 1) ∧ t.f2 ≤ t.f3 ∧ t.f1 ≤ t.f2
  later : ∀ (i : Nat) t, ts[i]? = some t → 0 < i → (t = ⟨-1, -1, -1, -1⟩) ∨ (0 ≤ t.f0 ∧ t.f0 < (i : Int) ∧ 0 ≤ t.f1 ∧ ∃ u, ts[t.f0.toNat]? = some u ∧ u.f3 = t.f1)
theorem TimesOK.nil : TimesOK [] := ⟨fun t h => by simp at h, fun i t h => by simp at h, fun i t h => by simp at h⟩
theorem scan_spec (pre : List Tm) (hok : TimesOK pre) (a n : Nat) (h : a + n ≤ pre.length) :
    (scan pre a n = (-1, -1) ∨ (0 ≤ (scan pre a n).1 ∧ (scan pre a n).1 < ((a + n : Nat) : Int) ∧ 0 ≤ (scan pre a n).2 ∧ (scan pre a n).2 ≤ 200 * ((a + n : Nat) : Int) ∧ ∃ u, pre[(scan pre a n).1.toNat]? = some u ∧ u.f3 = (scan pre a n).2)) := by
  induction n with
  | zero => exact .inl rfl
  | succ n ih =>
    have hi : a + n < pre.length := by omega
    have e : pre[a + n]? = some pre[a + n] := List.getElem?_eq_getElem hi
    have hb := hok.bound _ _ e
    obtain ih := ih (by omega)
    rcases hs : scan pre a n with ⟨f, s⟩
    rw [hs] at ih
    simp only [scan, hs, e]
    split
    · right
      exact ⟨by simp only; omega, by simp only; omega, by simp only; omega, by simp only; omega, pre[a + n], by show pre[((a + n : Nat) : Int).toNat]? = _; rw [Int.toNat_natCast]; exact e, rfl⟩
    · rcases ih with ih | ih
      · exact .inl ih
      · right
        exact ⟨ih.1, by omega, ih.2.2.1, by omega, ih.2.2.2.2⟩
def shipIn (x : Sp) : Prop := 0 ≤ x.f0 ∧ x.f0 ≤ 6 ∧ 0 ≤ x.f1 ∧ x.f1 ≤ 120 ∧ 0 ≤ x.f2 ∧ x.f2 ≤ 60
theorem due_ok {pre : List Tm} (hok : TimesOK pre) {x : Sp} {read : Int} (h2 : 0 ≤ x.f2 ∧ x.f2 ≤ 60) (hr : 0 ≤ read ∧ read ≤ 120) : TimesOK (pre ++ [dueL pre x read]) := by
  have hs := scan_spec pre hok (pre.length - x.f0.toNat) (pre.length - (pre.length - x.f0.toNat)) (by omega)
  rw [show pre.length - x.f0.toNat + (pre.length - (pre.length - x.f0.toNat)) = pre.length by omega] at hs
  unfold dueL
  rcases hsc : scan pre (pre.length - x.f0.toNat) (pre.length - (pre.length - x.f0.toNat)) with ⟨f, s⟩
  rw [hsc] at hs
  simp only at hs
  refine ⟨fun t ht => ?_, fun i t ht => ?_, fun i t ht hi => ?_⟩
  · rcases Nat.eq_zero_or_pos pre.length with h0 | h0
    · rw [List.getElem?_append_right (by omega), if_pos h0] at ht
      simp [h0] at ht
      subst ht
      exact ⟨rfl, rfl, rfl, h2.1⟩
    · rw [List.getElem?_append_left h0] at ht
      exact hok.first t ht
  · rcases Nat.lt_or_ge i pre.length with hi | hi
    · rw [List.getElem?_append_left hi] at ht
      exact hok.bound i t ht
    · rw [List.getElem?_append_right hi] at ht
      have h0 : i - pre.length = 0 := by
        rcases Nat.eq_zero_or_pos (i - pre.length) with h | h
        · exact h
        · rw [List.getElem?_eq_none (by simp; omega)] at ht
          cases ht
      rw [h0] at ht
      simp only [List.getElem?_cons_zero, Option.some.injEq] at ht
      split at ht
      · subst ht
        simp only
        omega
      · split at ht
        · subst ht
          rcases hs with hs | hs
          · simp only [Prod.mk.injEq] at hs
            omega
          · simp only
            omega
        · subst ht
          simp only
          omega
  · rcases Nat.lt_or_ge i pre.length with hl | hl
    · rw [List.getElem?_append_left hl] at ht
      rcases hok.later i t ht hi with h | ⟨h1, h2, h3, u, hu, h4⟩
      · exact .inl h
      · refine .inr ⟨h1, h2, h3, u, ?_, h4⟩
        rw [List.getElem?_append_left (by omega)]
        exact hu
    · rw [List.getElem?_append_right hl] at ht
      have h0 : i - pre.length = 0 := by
        rcases Nat.eq_zero_or_pos (i - pre.length) with h | h
        · exact h
        · rw [List.getElem?_eq_none (by simp; omega)] at ht
          cases ht
      rw [h0] at ht
      simp only [List.getElem?_cons_zero, Option.some.injEq] at ht
      rw [if_neg (by omega)] at ht
      split at ht
      · rcases hs with hs | ⟨h1, h2, h3, h4, u, hu, h5⟩
        · simp only [Prod.mk.injEq] at hs
          omega
        · subst ht
          refine .inr ⟨h1, by simp only; omega, h3, u, ?_, h5⟩
          simp only
          rw [List.getElem?_append_left (by omega)]
          exact hu
      · exact .inl ht.symm
theorem timesGo_len (ship more : Int) : ∀ (l : List Sp) (acc : List Tm), (timesGo ship more l acc).length = acc.length + l.length
  | [], acc => by simp [timesGo]
  | x :: xs, acc => by
    simp only [timesGo]
    rw [timesGo_len ship more xs]
    simp
    omega
theorem timesL_len (ship more : Int) (l : List Sp) : (timesL ship more l).length = l.length := by
  simp [timesL, timesGo_len]
theorem timesGo_ok (ship more : Int) : ∀ (l : List Sp) (acc : List Tm), TimesOK acc → (∀ x ∈ l, 0 ≤ x.f2 ∧ x.f2 ≤ 60) → (∀ i x, l[i]? = some x → 0 ≤ x.f1 + (if ((acc.length + i : Nat) : Int) = ship then more else 0) ∧ x.f1 + (if ((acc.length + i : Nat) : Int) = ship then more else 0) ≤ 120) → TimesOK (timesGo ship more l acc)
  | [], acc, h, _, _ => h
  | x :: xs, acc, h, h2, hr => by
    simp only [timesGo]
    have h0 := hr 0 x rfl
    refine timesGo_ok ship more xs _ (due_ok h (h2 x (by simp)) (by simpa using h0)) (fun y hy => h2 y (by simp [hy])) (fun i y hy => ?_)
    have := hr (i + 1) y (by simpa using hy)
    simp only [List.length_append, List.length_singleton]
    rw [show acc.length + 1 + i = acc.length + (i + 1) by omega]
    exact this
end Go.Proofs.Ytjglinmilhenjaa.G.Pure
end

section
namespace Go.Proofs.Ytjglinmilhenjaa.G.Pure
open Go.RowKit Go.Proofs.Ytjglinmilhenjaa.G Go.Proofs.YtjglinmilhenjaaW.PrintWords Go.Proofs.YtjglinmilhenjaaW.PrintLast Go.Proofs.YtjglinmilhenjaaW.PrintMore
set_option linter.unusedVariables false
set_option linter.unusedSimpArgs false
theorem rd_impl_Times {l : List Tm} {i : Nat} (h : i < l.length) : rd_T60 l (i : Int) = l[i] := by
  simp [rd_T60, List.getD_eq_getElem?_getD, List.getElem?_eq_getElem h]
def tup (t : Tm) : Int × Int × Int × Int := (t.f0, t.f1, t.f2, t.f3)
theorem due_eq (k : Nat) (line : List Sp) (pre : List Tm) (i : Nat) (read : Int) (hi : i < line.length) (hp : pre.length = i) (h20 : i < 20) (hok : TimesOK pre) (hx : shipIn line[i]) (hr : 0 ≤ read ∧ read ≤ 120) (hk : 8 < k) :
    spec_l06Due.f k line pre (i : Int) read = some (tup (dueL pre line[i] read)) := by
  obtain ⟨s0, s1, s2, s3, s4, s5⟩ := hx
  unfold spec_l06Due.f
  rw [if_pos (by omega), if_pos (by omega), rd_impl_Ship hi]
  rw [w64 (n := (line[i]).f2) (by omega) (by omega), w64 (n := (line[i]).f0) (by omega) (by omega)]
  by_cases h0 : (i : Int) = 0
  · rw [if_pos h0]
    simp [dueL, tup, hp, show i = 0 by omega]
  · rw [if_neg h0, w64 (by omega) (by omega)]
    have hsc := fun n (hn : (i - (line[i]).f0.toNat) + n ≤ pre.length) => scan_spec pre hok (i - (line[i]).f0.toNat) n hn
    generalize line[i] = x at *
    obtain ⟨r, hr', h⟩ := loop_inv (fun k (s : Int × Int × Int) => spec_l06Due.l0 k pre (i : Int) read x.f2 s.1 s.2.1 s.2.2 (-1) (-1)) x.f0.toNat
      (fun j s => s.1 = (i : Int) - x.f0 + j ∧ (s.2.1, s.2.2) = scan pre (i - x.f0.toNat) ((i + j - x.f0.toNat) - (i - x.f0.toNat)))
      (fun r => r = tup (dueL pre x read))
      (fun k j s hj ⟨h1, h2⟩ => by
        obtain ⟨p, f, s⟩ := s
        simp only at h1 h2
        subst h1
        refine .inl ?_
        by_cases hneg : 0 ≤ (i : Int) - x.f0 + j
        · obtain ⟨q, hq⟩ : ∃ q : Nat, (i : Int) - x.f0 + j = (q : Int) := ⟨((i : Int) - x.f0 + j).toNat, by omega⟩
          have hql : q < pre.length := by omega
          have hb := hok.bound q _ (List.getElem?_eq_getElem hql)
          have hn : i - x.f0.toNat + (i + j - x.f0.toNat - (i - x.f0.toNat)) = q := by omega
          have hn2 : i + (j + 1) - x.f0.toNat - (i - x.f0.toNat) = (i + j - x.f0.toNat - (i - x.f0.toNat)) + 1 := by omega
          refine ⟨((q : Int) + 1, (scan pre (i - x.f0.toNat) (i + (j + 1) - x.f0.toNat - (i - x.f0.toNat))).1, (scan pre (i - x.f0.toNat) (i + (j + 1) - x.f0.toNat - (i - x.f0.toNat))).2), ⟨by simp only; omega, rfl⟩, ?_⟩
          rw [hn2]
          simp only [scan, ← h2, hn, List.getElem?_eq_getElem hql]
          rw [hq]
          simp only [spec_l06Due.l0]
          rw [if_pos (by omega), if_pos (by omega), if_pos (by omega), if_pos (by omega), rd_impl_Times hql, w64 (n := (q : Int) + 1) (by omega) (by omega), i8w (n := (q : Int)) (by omega) (by omega)]
          by_cases c1 : 0 ≤ pre[q].f3
          · rw [if_pos (by omega)]
            by_cases c2 : f < 0
            · rw [if_pos c2, if_pos ⟨c1, .inl c2⟩]
            · rw [if_neg c2]
              by_cases c3 : pre[q].f3 < s
              · rw [if_pos c3, if_pos ⟨c1, .inr c3⟩]
              · rw [if_neg c3, if_neg (fun h => h.2.elim c2 c3)]
          · rw [if_neg (by omega), if_neg (fun h => c1 h.1)]
        · have hn : i + j - x.f0.toNat - (i - x.f0.toNat) = 0 := by omega
          have hn2 : i + (j + 1) - x.f0.toNat - (i - x.f0.toNat) = 0 := by omega
          refine ⟨((i : Int) - x.f0 + j + 1, f, s), ⟨by simp only; omega, ?_⟩, ?_⟩
          · rw [hn2]; rw [hn] at h2; exact h2
          · simp only [spec_l06Due.l0]
            rw [if_pos (by omega), if_neg (by omega), w64 (by omega) (by omega)])
      (fun k s ⟨h1, h2⟩ => by
        obtain ⟨p, f, s⟩ := s
        simp only at h1 h2
        have hp' : p = (i : Int) := by omega
        subst hp'
        have hn : i + x.f0.toNat - x.f0.toNat - (i - x.f0.toNat) = pre.length - (pre.length - x.f0.toNat) := by omega
        refine ⟨_, rfl, ?_⟩
        have hs := hsc (pre.length - (pre.length - x.f0.toNat)) (by omega)
        rw [hn] at h2
        rw [← h2] at hs
        simp only [spec_l06Due.l0]
        rw [if_neg (by omega)]
        unfold dueL
        rw [if_neg (show ¬ pre.length = 0 by omega), show pre.length - x.f0.toNat = i - x.f0.toNat by omega]
        rw [show pre.length - x.f0.toNat = i - x.f0.toNat by omega] at h2
        rw [← h2]
        simp only
        by_cases c : 0 ≤ f
        · rw [if_pos (by omega), if_pos c]
          rcases hs with hs | hs
          · simp only [Prod.mk.injEq] at hs
            omega
          · simp only at hs
            rw [w64 (n := s + read) (by omega) (by omega), w64 (by omega) (by omega)]
            rfl
        · rw [if_neg (by omega), if_neg c]
          rcases hs with hs | hs
          · simp only [Prod.mk.injEq] at hs
            rw [hs.1, hs.2]
            rfl
          · simp only at hs
            omega) k ((i : Int) - x.f0, -1, -1) ⟨by simp, by
        rw [show i + 0 - x.f0.toNat - (i - x.f0.toNat) = 0 by omega]
        rfl⟩ (by omega)
    subst hr'
    exact h
theorem specTimes_eq (k : Nat) (line : List Sp) (ship more : Int) (hl : line.length ≤ 20) (hx : ∀ x ∈ line, shipIn x) (hr : ∀ (i : Nat) (x : Sp), line[i]? = some x → 0 ≤ x.f1 + (if (i : Int) = ship then more else 0) ∧ x.f1 + (if (i : Int) = ship then more else 0) ≤ 120) (hm : 0 ≤ more ∧ more ≤ 60) (hk : 40 < k) :
    spec_l06Times.f k line ship more = some (timesL ship more line) := by
  unfold spec_l06Times.f
  have go : ∀ (rest : List Sp) (k : Nat) (acc : List Tm), line.drop acc.length = rest → TimesOK acc → acc.length ≤ line.length → rest.length + 10 < k → spec_l06Times.l0 k line ship more acc (acc.length : Int) = some (timesGo ship more rest acc) := by
    intro rest
    induction rest with
    | nil =>
      intro k acc hd hok hle hk
      obtain ⟨k, rfl⟩ : ∃ m, k = m + 1 := ⟨k - 1, by omega⟩
      have := List.drop_eq_nil_iff.1 hd
      simp only [spec_l06Times.l0]
      rw [if_neg (by omega)]
      rfl
    | cons x xs ih =>
      intro k acc hd hok hle hk
      simp only [List.length_cons] at hk
      obtain ⟨k, rfl⟩ : ∃ m, k = m + 1 := ⟨k - 1, by omega⟩
      have hlt : acc.length < line.length := by
        have := congrArg List.length hd
        simp at this
        omega
      have hx0 : line[acc.length] = x := by
        have h1 := List.drop_eq_getElem_cons hlt
        rw [hd] at h1
        exact (List.cons.inj h1).1.symm
      have hxs : line.drop (acc.length + 1) = xs := by
        have h1 := List.drop_eq_getElem_cons hlt
        rw [hd] at h1
        exact (List.cons.inj h1).2.symm
      have hmem : x ∈ line := hx0 ▸ List.getElem_mem hlt
      obtain ⟨s0, s1, s2, s3, s4, s5⟩ := hx x hmem
      have hr' := hr acc.length x (by rw [List.getElem?_eq_getElem hlt, hx0])
      simp only [spec_l06Times.l0]
      rw [if_pos (by omega), if_pos (by omega), rd_impl_Ship hlt, hx0]
      rw [w64 (n := x.f1) (by omega) (by omega), w64 (n := (acc.length : Int) + 1) (by omega) (by omega)]
      have step : ∀ read, read = x.f1 + (if (acc.length : Int) = ship then more else 0) → 
          ((spec_l06Due.f k line acc (acc.length : Int) read).bind fun bt => (if acc.length < 4398046511104 then (spec_l06Times.l0 k line ship more (acc ++ [(⟨bt.1, bt.2.1, bt.2.2.1, bt.2.2.2⟩ : Tm)]) ((acc.length : Int) + 1)) else none)) = some (timesGo ship more (x :: xs) acc) := by
        intro read hread
        rw [due_eq k line acc acc.length read hlt rfl (by omega) hok (by rw [hx0]; exact hx x hmem) (by rw [hread]; exact hr') (by omega)]
        simp only [Option.bind_some]
        rw [if_pos (by omega), hx0]
        have h2 := ih k (acc ++ [dueL acc x read]) (by simpa using hxs) (due_ok hok ⟨s4, s5⟩ (by rw [hread]; exact hr')) (by simp; omega) (by omega)
        rw [show ((acc ++ [dueL acc x read]).length : Int) = (acc.length : Int) + 1 by simp] at h2
        simp only [tup, timesGo]
        rw [← hread]
        exact h2
      by_cases c : (acc.length : Int) = ship
      · rw [if_pos c]
        rw [if_pos c] at hr'
        rw [w64 (n := x.f1 + more) (by omega) (by omega)]
        exact step _ (by rw [if_pos c])
      · rw [if_neg c]
        exact step _ (by rw [if_neg c, Int.add_zero])
  exact go line k [] rfl TimesOK.nil (by simp) (by omega)
end Go.Proofs.Ytjglinmilhenjaa.G.Pure
end

section
namespace Go.Proofs.Ytjglinmilhenjaa.G.Pure
open Go.RowKit Go.Proofs.Ytjglinmilhenjaa.G Go.Proofs.YtjglinmilhenjaaW.PrintWords Go.Proofs.YtjglinmilhenjaaW.PrintLast Go.Proofs.YtjglinmilhenjaaW.PrintMore
set_option linter.unusedVariables false
set_option linter.unusedSimpArgs false
theorem implInner (k : Nat) (acc : List Tm) (line : List Sp) (x : Sp) (i a : Nat) (len x12 : Int) (hi : acc.length = i) (h20 : i < 20) (h1i : 0 < i) (hok : TimesOK acc) (hx : shipIn x) (ha : a ≤ i) :
    ∀ d n, a + n + d = i → impl_times.l1 (k + d + 1) acc (i : Int) ((a + n : Nat) : Int) line len x12 x.f0 x.f1 x.f2 (scan acc a n).1 (scan acc a n).2 (-1) (-1) =
      impl_times.l1 (k + 1) acc (i : Int) (i : Int) line len x12 x.f0 x.f1 x.f2 (scan acc a (i - a)).1 (scan acc a (i - a)).2 (-1) (-1) := by
  intro d
  induction d with
  | zero =>
    intro n hn
    rw [show i - a = n by omega, show a + n = i by omega]
  | succ d ih =>
    intro n hn
    have hql : a + n < acc.length := by omega
    have hb := hok.bound (a + n) _ (List.getElem?_eq_getElem hql)
    have hsc := scan_spec acc hok a n (by omega)
    rw [← ih (n + 1) (by omega)]
    rw [show k + (d + 1) + 1 = (k + d + 1) + 1 by omega]
    conv => lhs; unfold impl_times.l1
    rw [if_pos (by omega), if_pos (by omega), if_pos (by omega), rd_impl_Times hql, w64 (n := ((a + n : Nat) : Int) + 1) (by omega) (by omega), i8w (n := ((a + n : Nat) : Int)) (by omega) (by omega)]
    rw [show ((a + (n + 1) : Nat) : Int) = ((a + n : Nat) : Int) + 1 by omega]
    have hs1 : scan acc a (n + 1) = if 0 ≤ acc[a + n].f3 ∧ ((scan acc a n).1 < 0 ∨ acc[a + n].f3 < (scan acc a n).2) then (((a + n : Nat) : Int), acc[a + n].f3) else scan acc a n := by
      rcases hs : scan acc a n with ⟨f, s⟩
      simp only [scan, hs, List.getElem?_eq_getElem hql]
    rw [hs1]
    have hneg : (scan acc a n).1 < 0 ↔ (scan acc a n).2 < 0 := by
      rcases hsc with h | h
      · rw [h]
      · omega
    by_cases c1 : 0 ≤ acc[a + n].f3
    · rw [if_pos (by omega)]
      by_cases c2 : (scan acc a n).2 < 0
      · rw [if_pos c2, if_pos ⟨c1, .inl (hneg.2 c2)⟩]
      · rw [if_neg c2]
        by_cases c3 : acc[a + n].f3 < (scan acc a n).2
        · rw [if_pos c3, if_pos ⟨c1, .inr c3⟩]
        · rw [if_neg c3, if_neg (fun h => h.2.elim (fun h => c2 (hneg.1 h)) c3)]
    · rw [if_neg (by omega), if_neg (fun h => c1 h.1)]
theorem implRound (k : Nat) (acc : List Tm) (line : List Sp) (x : Sp) (hlt : acc.length < line.length) (h20 : line.length ≤ 20) (hx0 : line[acc.length] = x) (hok : TimesOK acc) (hx : shipIn x) :
    impl_times.l0 (k + (acc.length - (acc.length - x.f0.toNat)) + 3) acc line (line.length : Int) (acc.length : Int) = impl_times.l0 k (acc ++ [dueL acc x x.f1]) line (line.length : Int) ((acc.length : Int) + 1) := by
  obtain ⟨s0, s1, s2, s3, s4, s5⟩ := hx
  have hxx : shipIn x := ⟨s0, s1, s2, s3, s4, s5⟩
  rcases Nat.eq_zero_or_pos acc.length with h0 | h0
  · rw [show k + (acc.length - (acc.length - x.f0.toNat)) + 3 = k + 3 by omega]
    conv => lhs; unfold impl_times.l0
    rw [if_pos (by omega), if_pos (by omega), if_pos (by omega), if_pos (by omega), rd_impl_Ship hlt, hx0]
    conv => lhs; unfold impl_times.j1
    rw [w64 (n := x.f0) (by omega) (by omega), w64 (by omega) (by omega)]
    rw [show mx ((acc.length : Int) - x.f0) 0 = (acc.length : Int) by unfold mx; split <;> omega]
    conv => lhs; unfold impl_times.l1
    rw [if_neg (by omega), if_pos (by omega), if_pos (by omega), if_pos (by omega), w64 (n := x.f2) (by omega) (by omega), w64 (n := x.f2) (by omega) (by omega), w64 (n := (acc.length : Int) + 1) (by omega) (by omega)]
    simp [dueL, h0]
  · obtain ⟨a, ha⟩ : ∃ a, a = acc.length - x.f0.toNat := ⟨_, rfl⟩
    rw [← ha]
    conv => lhs; unfold impl_times.l0
    rw [if_pos (by omega), if_pos (by omega), if_pos (by omega), if_neg (by omega), rd_impl_Ship hlt, hx0]
    conv => lhs; unfold impl_times.j1
    rw [w64 (n := x.f0) (by omega) (by omega), w64 (n := (acc.length : Int) - x.f0) (by omega) (by omega)]
    rw [show mx ((acc.length : Int) - x.f0) 0 = ((a + 0 : Nat) : Int) by unfold mx; split <;> omega]
    have h1 := implInner k acc line x acc.length a (line.length : Int) (acc.length : Int) rfl (by omega) h0 hok hxx (by omega) (acc.length - a) 0 (by omega)
    simp only [scan] at h1
    rw [h1]
    have hsc := scan_spec acc hok a (acc.length - a) (by omega)
    have hd : dueL acc x x.f1 = if 0 ≤ (scan acc a (acc.length - a)).1 then ⟨(scan acc a (acc.length - a)).1, (scan acc a (acc.length - a)).2, (scan acc a (acc.length - a)).2 + x.f1, (scan acc a (acc.length - a)).2 + x.f1 + x.f2⟩ else ⟨-1, -1, -1, -1⟩ := by
      unfold dueL
      rw [if_neg (show ¬ acc.length = 0 by omega), ← ha]
    rw [hd]
    rcases hsc with h | h
    · rw [h]
      conv => lhs; unfold impl_times.l1
      simp only
      rw [if_neg (by omega), if_neg (by omega), if_pos (by omega), if_neg (by omega), w64 (by omega) (by omega)]
    · conv => lhs; unfold impl_times.l1
      rw [if_neg (by omega), if_pos (by omega), if_neg (by omega), if_pos (by omega), if_pos h.1]
      rw [w64 (n := x.f1) (by omega) (by omega), w64 (n := x.f2) (by omega) (by omega), w64 (n := (scan acc a (acc.length - a)).2 + x.f1) (by omega) (by omega), w64 (n := (scan acc a (acc.length - a)).2 + x.f1 + x.f2) (by omega) (by omega), w64 (n := (acc.length : Int) + 1) (by omega) (by omega)]
theorem timesGo_plain (xs : List Sp) (acc : List Tm) : ∀ x, timesGo (-1) 0 (x :: xs) acc = timesGo (-1) 0 xs (acc ++ [dueL acc x x.f1]) := by
  intro x
  simp only [timesGo]
  rw [if_neg (by omega), Int.add_zero]
theorem implTimes_eq (k : Nat) (line : List Sp) (hl : line.length ≤ 20) (hx : ∀ x ∈ line, shipIn x) (hk : 200 < k) : impl_times.f k line = some (timesL (-1) 0 line) := by
  have go : ∀ (rest : List Sp) (k : Nat) (acc : List Tm), line.drop acc.length = rest → TimesOK acc → acc.length ≤ line.length → 9 * rest.length < k → impl_times.l0 k acc line (line.length : Int) (acc.length : Int) = some (timesGo (-1) 0 rest acc) := by
    intro rest
    induction rest with
    | nil =>
      intro k acc hd hok hle hk
      obtain ⟨k, rfl⟩ : ∃ m, k = m + 1 := ⟨k - 1, by omega⟩
      have := List.drop_eq_nil_iff.1 hd
      unfold impl_times.l0
      rw [if_neg (by omega)]
      rfl
    | cons x xs ih =>
      intro k acc hd hok hle hk
      simp only [List.length_cons] at hk
      have hlt : acc.length < line.length := by
        have := congrArg List.length hd
        simp at this
        omega
      have hx0 : line[acc.length] = x := by
        have h1 := List.drop_eq_getElem_cons hlt
        rw [hd] at h1
        exact (List.cons.inj h1).1.symm
      have hxs : line.drop (acc.length + 1) = xs := by
        have h1 := List.drop_eq_getElem_cons hlt
        rw [hd] at h1
        exact (List.cons.inj h1).2.symm
      have hmem : x ∈ line := hx0 ▸ List.getElem_mem hlt
      have hxx := hx x hmem
      obtain ⟨s0, s1, s2, s3, s4, s5⟩ := hxx
      obtain ⟨m, rfl, hm⟩ : ∃ m, k = m + (acc.length - (acc.length - x.f0.toNat)) + 3 ∧ 9 * xs.length < m := ⟨k - (acc.length - (acc.length - x.f0.toNat)) - 3, by omega, by omega⟩
      rw [implRound m acc line x hlt hl hx0 hok (hx x hmem), timesGo_plain]
      have h2 := ih m (acc ++ [dueL acc x x.f1]) (by simpa using hxs) (due_ok hok ⟨s4, s5⟩ ⟨s2, s3⟩) (by simp; omega) hm
      rw [show ((acc ++ [dueL acc x x.f1]).length : Int) = (acc.length : Int) + 1 by simp] at h2
      exact h2
  unfold impl_times.f
  exact go line k [] rfl TimesOK.nil (by simp) (by omega)
end Go.Proofs.Ytjglinmilhenjaa.G.Pure
end

section
namespace Go.Proofs.Ytjglinmilhenjaa.G.Pure
open Go.RowKit Go.Proofs.Ytjglinmilhenjaa.G Go.Proofs.YtjglinmilhenjaaW.PrintWords Go.Proofs.YtjglinmilhenjaaW.PrintLast Go.Proofs.YtjglinmilhenjaaW.PrintMore
set_option linter.unusedVariables false
set_option linter.unusedSimpArgs false
def lastAt (ts : List Tm) : Nat → Nat
  | 0 => 0
  | i + 1 => if ((ts.getD (lastAt ts i) z60).f2) < ((ts.getD i z60).f2) then i else lastAt ts i
theorem lastAt_lt (ts : List Tm) (i : Nat) (h : 0 < i) : lastAt ts i < i := by
  induction i with
  | zero => omega
  | succ i ih =>
    simp only [lastAt]
    split
    · omega
    · rcases Nat.eq_zero_or_pos i with h0 | h0
      · subst h0; simp [lastAt]
      · have := ih h0; omega
theorem getD_in {l : List Tm} {i : Nat} (h : i < l.length) : l.getD i z60 = l[i] := by
  simp [List.getD_eq_getElem?_getD, List.getElem?_eq_getElem h]
theorem rd_getD (l : List Tm) (i : Nat) : rd_T60 l (i : Int) = l.getD i z60 := by
  simp [rd_T60]
theorem specLast_eq (k : Nat) (ts : List Tm) (h0 : 1 ≤ ts.length) (hl : ts.length ≤ 1048576) (hk : ts.length < k) : spec_l06Last.f k ts = some ((lastAt ts ts.length : Nat) : Int) := by
  unfold spec_l06Last.f
  obtain ⟨r, hr, h⟩ := loop_inv (fun k (s : Int × Int) => spec_l06Last.l0 k ts s.1 s.2) (ts.length - 1) (fun i s => s.2 = ((i + 1 : Nat) : Int) ∧ s.1 = ((lastAt ts (i + 1) : Nat) : Int)) (fun r => r = ((lastAt ts ts.length : Nat) : Int))
    (fun k i s hi ⟨h1, h2⟩ => by
      obtain ⟨c, x⟩ := s
      simp only at h1 h2
      subst h1 h2
      have hlt := lastAt_lt ts (i + 1) (by omega)
      refine .inl ⟨(((lastAt ts (i + 1 + 1) : Nat) : Int), ((i + 1 + 1 : Nat) : Int)), ⟨rfl, rfl⟩, ?_⟩
      simp only [spec_l06Last.l0]
      rw [if_pos (by omega), if_pos (by omega), if_pos (by omega), if_pos (by omega), rd_getD, rd_getD, w64 (by omega) (by omega)]
      rw [show lastAt ts (i + 1 + 1) = if ((ts.getD (lastAt ts (i + 1)) z60).f2) < ((ts.getD (i + 1) z60).f2) then i + 1 else lastAt ts (i + 1) from rfl]
      by_cases c : ((ts.getD (lastAt ts (i + 1)) z60).f2) < ((ts.getD (i + 1) z60).f2)
      · rw [if_pos (by omega), if_pos c]
        rfl
      · rw [if_neg (by omega), if_neg c]
        rfl)
    (fun k s ⟨h1, h2⟩ => by
      obtain ⟨c, x⟩ := s
      simp only at h1 h2
      subst h1 h2
      refine ⟨_, rfl, ?_⟩
      simp only [spec_l06Last.l0]
      rw [if_neg (by omega), show ts.length - 1 + 1 = ts.length by omega]) k (0, 1) ⟨rfl, by simp [lastAt]⟩ (by omega)
  subst hr
  exact h
theorem implLast_eq (k : Nat) (ts : List Tm) (h0 : 1 ≤ ts.length) (hc : (ts.getD 0 z60).f2 = 0) (hl : ts.length ≤ 1048576) (hk : ts.length < k) :
    impl_allClosed.l0 k (-1) 0 ts (ts.length : Int) 0 = some ((ts.getD (lastAt ts ts.length) z60).f2, ((lastAt ts ts.length : Nat) : Int)) := by
  obtain ⟨r, hr, h⟩ := loop_inv (fun k (s : Int × Int × Int) => impl_allClosed.l0 k s.1 s.2.1 ts (ts.length : Int) s.2.2) ts.length
    (fun i s => s.2.2 = (i : Int) ∧ (s.1, s.2.1) = if i = 0 then ((-1 : Int), (0 : Int)) else ((ts.getD (lastAt ts i) z60).f2, ((lastAt ts i : Nat) : Int))) (fun r => r = ((ts.getD (lastAt ts ts.length) z60).f2, ((lastAt ts ts.length : Nat) : Int)))
    (fun k i s hi ⟨h1, h2⟩ => by
      obtain ⟨m, c, x⟩ := s
      simp only at h1 h2
      subst h1
      have hn : ((ts.getD (lastAt ts (i + 1)) z60).f2, ((lastAt ts (i + 1) : Nat) : Int)) = if (ts.getD i z60).f2 > m then ((ts.getD i z60).f2, (i : Int)) else (m, c) := by
        by_cases hi0 : i = 0
        · subst hi0
          rw [if_pos rfl] at h2
          simp only [Prod.mk.injEq] at h2
          rw [h2.1, h2.2, if_pos (by rw [hc]; omega)]
          simp [lastAt]
        · rw [if_neg hi0] at h2
          simp only [Prod.mk.injEq] at h2
          rw [show lastAt ts (i + 1) = if ((ts.getD (lastAt ts i) z60).f2) < ((ts.getD i z60).f2) then i else lastAt ts i from rfl, h2.1, h2.2]
          split <;> rfl
      refine .inl ⟨((ts.getD (lastAt ts (i + 1)) z60).f2, ((lastAt ts (i + 1) : Nat) : Int), ((i + 1 : Nat) : Int)), ⟨rfl, by rw [if_neg (by omega)]⟩, ?_⟩
      simp only [impl_allClosed.l0]
      rw [if_pos (by omega), if_pos (by omega), if_pos (by omega), rd_getD, w64 (n := (i : Int) + 1) (by omega) (by omega)]
      by_cases c1 : (ts.getD i z60).f2 > m
      · rw [if_pos c1] at hn ⊢
        simp only [Prod.mk.injEq] at hn
        rw [hn.1, hn.2]
        rfl
      · rw [if_neg c1] at hn ⊢
        simp only [Prod.mk.injEq] at hn
        rw [hn.1, hn.2]
        rfl)
    (fun k s ⟨h1, h2⟩ => by
      obtain ⟨m, c, x⟩ := s
      simp only at h1 h2
      subst h1
      rw [if_neg (by omega)] at h2
      refine ⟨_, rfl, ?_⟩
      simp only [impl_allClosed.l0]
      rw [if_neg (by omega), h2]) k (-1, 0, 0) ⟨rfl, rfl⟩ hk
  subst hr
  exact h
def closedL (line : List Sp) : Int × Int := (((timesL (-1) 0 line).getD (lastAt (timesL (-1) 0 line) line.length) z60).f2, ((lastAt (timesL (-1) 0 line) line.length : Nat) : Int))
theorem timesL_ok {line : List Sp} (h2 : ∀ x ∈ line, shipIn x) : TimesOK (timesL (-1) 0 line) :=
  timesGo_ok (-1) 0 line [] TimesOK.nil (fun x hx => by have := h2 x hx; unfold shipIn at this; omega) (fun i x hx => by
    have := h2 x (List.mem_of_getElem? hx)
    unfold shipIn at this
    rw [if_neg (by simp only [List.length_nil]; omega)]
    omega)
theorem implAllClosedIn_eq (k : Nat) (line : List Sp) (h0 : 1 ≤ line.length) (hl : line.length ≤ 20) (hx : ∀ x ∈ line, shipIn x) (hk : 300 < k) : impl_allClosed.f k line = some (closedL line) := by
  unfold impl_allClosed.f
  rw [implTimes_eq k line hl hx (by omega)]
  simp only [Option.bind_some]
  have hlen := timesL_len (-1) 0 line
  have hf := (timesL_ok hx).first _ (List.getElem?_eq_getElem (by rw [hlen]; omega))
  rw [implLast_eq k _ (by omega) (by rw [getD_in (by rw [hlen]; omega)]; exact hf.2.2.1) (by omega) (by omega)]
  unfold closedL
  rw [hlen]
end Go.Proofs.Ytjglinmilhenjaa.G.Pure
end

section
namespace Go.Proofs.Ytjglinmilhenjaa.G.Pure
open Go.RowKit Go.Proofs.Ytjglinmilhenjaa.G Go.Proofs.YtjglinmilhenjaaW.PrintWords Go.Proofs.YtjglinmilhenjaaW.PrintLast Go.Proofs.YtjglinmilhenjaaW.PrintMore
set_option linter.unusedVariables false
set_option linter.unusedSimpArgs false
def wfShip (x : Sp) : Prop := (Lit.int .i8 x.f0).wf = true ∧ (Lit.int .i8 x.f1).wf = true ∧ (Lit.int .i8 x.f2).wf = true
def validB (l : List Sp) : Bool := decide (1 ≤ (l.length : Int)) && decide ((l.length : Int) ≤ 20) && !l.any shipBad
theorem implValid_eq (l : List Sp) : impl_ValidLine.f l = some (validB l) := rfl
theorem shipBad_wf {x : Sp} (h : wfShip x) : shipBad x = !(decide (0 ≤ x.f0) && decide (x.f0 ≤ 6) && (decide (0 ≤ x.f1) && decide (x.f1 ≤ 60)) && (decide (0 ≤ x.f2) && decide (x.f2 ≤ 60))) := by
  obtain ⟨h0, h1, h2⟩ := h
  have b0 := i8b h0
  have b1 := i8b h1
  have b2 := i8b h2
  unfold shipBad
  rw [w64 (n := x.f0) (by omega) (by omega), w64 (n := x.f1) (by omega) (by omega), w64 (n := x.f2) (by omega) (by omega)]
structure ValidL (l : List Sp) : Prop where
  pos : 1 ≤ l.length
  most : l.length ≤ 20
  ships : ∀ x ∈ l, 0 ≤ x.f0 ∧ x.f0 ≤ 6 ∧ 0 ≤ x.f1 ∧ x.f1 ≤ 60 ∧ 0 ≤ x.f2 ∧ x.f2 ≤ 60
theorem ValidL.in_ {l : List Sp} (h : ValidL l) : ∀ x ∈ l, shipIn x := fun x hx => by
  have := h.ships x hx
  unfold shipIn
  omega
theorem validB_iff {l : List Sp} (hw : ∀ x ∈ l, wfShip x) : validB l = true ↔ ValidL l := by
  constructor
  · intro h
    unfold validB at h
    simp only [Bool.and_eq_true, decide_eq_true_eq, Bool.not_eq_true', List.any_eq_false] at h
    obtain ⟨⟨h1, h2⟩, h3⟩ := h
    refine ⟨by omega, by omega, fun x hx => ?_⟩
    have h4 := h3 x hx
    rw [shipBad_wf (hw x hx)] at h4
    simp at h4
    omega
  · intro h
    unfold validB
    simp only [Bool.and_eq_true, decide_eq_true_eq, Bool.not_eq_true', List.any_eq_false]
    refine ⟨⟨by have := h.pos; omega, by have := h.most; omega⟩, fun x hx => ?_⟩
    rw [shipBad_wf (hw x hx)]
    have := h.ships x hx
    simp
    omega
theorem in_eq (n lo hi : Int) : spec_l00In.f n lo hi = some (decide (lo ≤ n) && decide (n ≤ hi)) := by
  unfold spec_l00In.f
  split
  · simp [*]
  · simp [*]
theorem specOk_eq (k : Nat) (l : List Sp) (hw : ∀ x ∈ l, wfShip x) (hl : l.length ≤ 1048576) (hk : l.length < k) : spec_l06Ok.f k l = some (validB l) := by
  unfold spec_l06Ok.f validB
  rw [in_eq]
  simp only [Option.bind_some]
  by_cases h0 : (decide (1 ≤ (l.length : Int)) && decide ((l.length : Int) ≤ 20)) = true
  · rw [if_pos h0, h0, Bool.true_and]
    obtain ⟨r, hr, h⟩ := loop_inv (fun k (s : Int) => spec_l06Ok.l0 k l s) l.length (fun i s => s = (i : Int) ∧ ∀ j (h : j < l.length), j < i → shipBad l[j] = false) (fun r => r = !l.any shipBad)
      (fun k i s hi ⟨h1, h2⟩ => by
        subst h1
        have hb := hw l[i] (List.getElem_mem hi)
        have hbad := shipBad_wf hb
        obtain ⟨b0, b1, b2⟩ := hb
        have b0 := i8b b0
        have b1 := i8b b1
        have b2 := i8b b2
        cases hq : shipBad l[i] with
        | true =>
          refine .inr ⟨false, ?_, ?_⟩
          · have : l.any shipBad = true := List.any_eq_true.2 ⟨l[i], List.getElem_mem hi, hq⟩
            rw [this]; rfl
          · simp only [spec_l06Ok.l0]
            rw [if_pos (by omega), if_pos (by omega), rd_impl_Ship hi, in_eq, in_eq, in_eq]
            rw [w64 (n := (l[i]).f0) (by omega) (by omega), w64 (n := (l[i]).f1) (by omega) (by omega), w64 (n := (l[i]).f2) (by omega) (by omega)]
            rw [hq] at hbad
            simp only [Option.bind_some]
            generalize (decide (0 ≤ (l[i]).f0) && decide ((l[i]).f0 ≤ 6)) = c0 at *
            generalize (decide (0 ≤ (l[i]).f1) && decide ((l[i]).f1 ≤ 60)) = c1 at *
            generalize (decide (0 ≤ (l[i]).f2) && decide ((l[i]).f2 ≤ 60)) = c2 at *
            cases c0 <;> cases c1 <;> cases c2 <;> first | (exfalso; revert hbad; decide) | rfl
        | false =>
          refine .inl ⟨((i + 1 : Nat) : Int), ⟨rfl, fun j hj hji => ?_⟩, ?_⟩
          · by_cases e : j = i
            · subst e; exact hq
            · exact h2 j hj (by omega)
          · simp only [spec_l06Ok.l0]
            rw [if_pos (by omega), if_pos (by omega), rd_impl_Ship hi, in_eq, in_eq, in_eq]
            rw [w64 (n := (l[i]).f0) (by omega) (by omega), w64 (n := (l[i]).f1) (by omega) (by omega), w64 (n := (l[i]).f2) (by omega) (by omega), w64 (n := (i : Int) + 1) (by omega) (by omega)]
            rw [hq] at hbad
            simp only [Option.bind_some]
            generalize (decide (0 ≤ (l[i]).f0) && decide ((l[i]).f0 ≤ 6)) = c0 at *
            generalize (decide (0 ≤ (l[i]).f1) && decide ((l[i]).f1 ≤ 60)) = c1 at *
            generalize (decide (0 ≤ (l[i]).f2) && decide ((l[i]).f2 ≤ 60)) = c2 at *
            cases c0 <;> cases c1 <;> cases c2 <;> first | (exfalso; revert hbad; decide) | rfl)
      (fun k s ⟨h1, h2⟩ => by
        subst h1
        refine ⟨true, ?_, ?_⟩
        · have : l.any shipBad = false := by
            rw [List.any_eq_false]
            intro x hx
            obtain ⟨j, hj, rfl⟩ := List.mem_iff_getElem.1 hx
            simp [h2 j hj hj]
          rw [this]; rfl
        · simp only [spec_l06Ok.l0]
          rw [if_neg (by omega)]) k 0 ⟨rfl, fun j _ h => absurd h (Nat.not_lt_zero _)⟩ hk
    subst hr
    exact h
  · rw [if_neg h0]
    simp only [Bool.not_eq_true] at h0
    rw [h0, Bool.false_and]
end Go.Proofs.Ytjglinmilhenjaa.G.Pure
end

section
namespace Go.Proofs.Ytjglinmilhenjaa.G.Pure
open Go.RowKit Go.Proofs.Ytjglinmilhenjaa.G Go.Proofs.YtjglinmilhenjaaW.PrintWords Go.Proofs.YtjglinmilhenjaaW.PrintLast Go.Proofs.YtjglinmilhenjaaW.PrintMore
set_option linter.unusedVariables false
set_option linter.unusedSimpArgs false
def resAllClosed (line : List Sp) : Int × Int × Int := if validB line = true then ((closedL line).1, (closedL line).2, 0) else (0, 0, 1)
theorem implAllClosed_eq {k : Nat} {line : List Sp} (hw : ∀ x ∈ line, wfShip x) (hk : 1099000 < k) : impl_AllClosed.f k line = some (resAllClosed line) := by
  unfold impl_AllClosed.f resAllClosed
  rw [implValid_eq]
  simp only [Option.bind_some]
  split
  · rename_i h
    have v := (validB_iff hw).1 h
    rw [implAllClosedIn_eq k line v.pos v.most v.in_ (by omega)]
    rfl
  · rfl
end Go.Proofs.Ytjglinmilhenjaa.G.Pure
end

section
namespace Go.Proofs.Ytjglinmilhenjaa.G.Pure
open Go.RowKit Go.Proofs.Ytjglinmilhenjaa.G Go.Proofs.YtjglinmilhenjaaW.PrintWords Go.Proofs.YtjglinmilhenjaaW.PrintLast Go.Proofs.YtjglinmilhenjaaW.PrintMore
set_option linter.unusedVariables false
set_option linter.unusedSimpArgs false
theorem u64_range (y : Int) : 0 ≤ IntKind.u64.wrap y ∧ IntKind.u64.wrap y ≤ 18446744073709551615 := by
  rw [IntKind.wrap_u64]
  omega
theorem low_byte {x : Int} (h : 0 ≤ x ∧ x ≤ 18446744073709551615) : 0 ≤ wrap64 (Go.bits .and .u64 (x / 1099511627776) 255) ∧ wrap64 (Go.bits .and .u64 (x / 1099511627776) 255) ≤ 255 := by
  have hx : 0 ≤ x / 1099511627776 ∧ x / 1099511627776 ≤ 18446744073709551615 := by omega
  generalize x / 1099511627776 = y at *
  obtain ⟨n, rfl⟩ : ∃ n : Nat, y = (n : Int) := ⟨y.toNat, by omega⟩
  have e : Go.bits .and .u64 (n : Int) ((255 : Nat) : Int) = ((n &&& 255 : Nat) : Int) := bits_and_u64_nat n 255 (by omega) (by omega)
  have e2 : Go.bits .and .u64 (n : Int) 255 = ((n &&& 255 : Nat) : Int) := e
  have hb : n &&& 255 ≤ 255 := Nat.and_le_right
  rw [e2, w64 (by omega) (by omega)]
  omega
def Bytes (code : List Int) : Prop := ∀ x ∈ code, 0 ≤ x ∧ x ≤ 255
theorem bytes_at {code : List Int} (hc : Bytes code) {i : Int} (h0 : 0 ≤ i) (h1 : i < (code.length : Int)) : 0 ≤ rd code i ∧ rd code i ≤ 255 := by
  obtain ⟨j, rfl⟩ : ∃ j : Nat, i = (j : Int) := ⟨i.toNat, by omega⟩
  have hj : j < code.length := by omega
  have : rd code (j : Int) = code[j] := by simp [rd, List.getD_eq_getElem?_getD, List.getElem?_eq_getElem hj]
  rw [this]
  exact hc _ (List.getElem_mem hj)
theorem next_ok {code : List Int} (hc : Bytes code) {at_ seed : Int} (ha : 0 ≤ at_ ∧ at_ ≤ 1000000) : ∃ n s, spec_l00Src_next.f code at_ seed = some (n, at_ + 1, s) ∧ 0 ≤ n ∧ n ≤ 255 := by
  unfold spec_l00Src_next.f
  rw [w64 (n := at_ + 1) (by omega) (by omega)]
  by_cases h1 : at_ < (code.length : Int)
  · have hb := bytes_at hc ha.1 h1
    rw [if_pos h1, if_pos ha.1, if_pos (by omega)]
    exact ⟨_, _, rfl, by rw [w64 (by omega) (by omega)]; exact hb⟩
  · rw [if_neg h1, if_neg (by omega)]
    exact ⟨_, _, rfl, low_byte (u64_range _)⟩
theorem pick_ok {code : List Int} (hc : Bytes code) {at_ seed a : Int} (ha : 0 ≤ at_ ∧ at_ ≤ 1000000) (h1 : 1 < a) (h2 : a ≤ 200) : ∃ n s, spec_l00Src_pick.f code at_ seed a = some (n, at_ + 1, s) ∧ 0 ≤ n ∧ n < a := by
  obtain ⟨n, s, e, hn⟩ := next_ok hc (seed := seed) ha
  unfold spec_l00Src_pick.f
  rw [if_neg (by omega), e]
  simp only [Option.bind_some]
  rw [if_neg (by omega), if_neg (by omega)]
  refine ⟨_, _, rfl, ?_⟩
  rw [Int.tmod_eq_emod_of_nonneg hn.1]
  exact ⟨Int.emod_nonneg _ (by omega), Int.emod_lt_of_pos _ (by omega)⟩
end Go.Proofs.Ytjglinmilhenjaa.G.Pure
end

section
namespace Go.Proofs.Ytjglinmilhenjaa.G.Pure
open Go.RowKit Go.Proofs.Ytjglinmilhenjaa.G Go.Proofs.YtjglinmilhenjaaW.PrintWords Go.Proofs.YtjglinmilhenjaaW.PrintLast Go.Proofs.YtjglinmilhenjaaW.PrintMore
set_option linter.unusedVariables false
set_option linter.unusedSimpArgs false
theorem one_ok {code : List Int} (hc : Bytes code) {at_ seed a : Int} (ha : 0 ≤ at_ ∧ at_ ≤ 1000000) (h1 : 1 < a) (h2 : a ≤ 200) : ∃ b s, spec_l00Src_one.f code at_ seed a = some (b, at_ + 1, s) := by
  obtain ⟨n, s, e, hn⟩ := pick_ok hc (seed := seed) ha h1 h2
  unfold spec_l00Src_one.f
  rw [e]
  exact ⟨_, _, rfl⟩
def Fine (x : Sp) : Prop := 0 ≤ x.f0 ∧ x.f0 ≤ 3 ∧ 0 ≤ x.f1 ∧ x.f1 ≤ 7 ∧ 0 ≤ x.f2 ∧ x.f2 ≤ 4
theorem drawn_in {code : List Int} (hc : Bytes code) : ∀ (n k : Nat) (l : List Sp) (at_ seed : Int), n < k → (l.length + n ≤ 8) → 0 ≤ at_ → at_ + 4 * (n : Int) ≤ 1000 → (∀ x ∈ l, Fine x) →
    ∃ l' a' s', spec_l06Drawn.l0 k l (n : Int) code at_ seed = some (l', a', s') ∧ l'.length = l.length + n ∧ ∀ x ∈ l', Fine x := by
  intro n
  induction n with
  | zero =>
    intro k l at_ seed hk hl h0 h1 hf
    obtain ⟨k, rfl⟩ : ∃ m, k = m + 1 := ⟨k - 1, by omega⟩
    rw [spec_l06Drawn.l0, if_neg (by decide)]
    exact ⟨l, at_, seed, rfl, rfl, hf⟩
  | succ n ih =>
    intro k l at_ seed hk hl h0 h1 hf
    obtain ⟨k, rfl⟩ : ∃ m, k = m + 1 := ⟨k - 1, by omega⟩
    obtain ⟨p1, s1, e1, b1⟩ := pick_ok hc (seed := seed) (a := 3) (at_ := at_) (by omega) (by omega) (by omega)
    obtain ⟨p2, s2, e2, b2⟩ := pick_ok hc (seed := s1) (a := 8) (at_ := at_ + 1) (by omega) (by omega) (by omega)
    obtain ⟨p3, s3, e3, b3⟩ := pick_ok hc (seed := s2) (a := 5) (at_ := at_ + 1 + 1) (by omega) (by omega) (by omega)
    obtain ⟨p4, s4, e4⟩ := one_ok hc (seed := s3) (a := 16) (at_ := at_ + 1 + 1 + 1) (by omega) (by omega) (by omega)
    rw [spec_l06Drawn.l0, if_pos (by omega), e1]
    simp only [Option.bind_some]
    rw [e2]
    simp only [Option.bind_some]
    rw [e3]
    simp only [Option.bind_some]
    rw [e4]
    simp only [Option.bind_some]
    rw [i8w (n := p2) (by omega) (by omega), i8w (n := p3) (by omega) (by omega), w64 (n := 1 + p1) (by omega) (by omega), i8w (n := 1 + p1) (by omega) (by omega), w64 (n := ((n + 1 : Nat) : Int) - 1) (by omega) (by omega), show ((n + 1 : Nat) : Int) - 1 = (n : Int) by omega]
    have hadd : ∀ x : Sp, Fine x → ∃ l' a' s', spec_l06Drawn.l0 k (l ++ [x]) (n : Int) code (at_ + 1 + 1 + 1 + 1) s4 = some (l', a', s') ∧ l'.length = l.length + (n + 1) ∧ ∀ y ∈ l', Fine y := by
      intro x hx
      obtain ⟨l', a', s', q1, q2, q3⟩ := ih k (l ++ [x]) (at_ + 1 + 1 + 1 + 1) s4 (by omega) (by simp; omega) (by omega) (by omega) (fun y hy => by
        rcases List.mem_append.1 hy with hy | hy
        · exact hf y hy
        · rw [List.mem_singleton] at hy
          subst hy
          exact hx)
      exact ⟨l', a', s', q1, by rw [q2]; simp; omega, q3⟩
    split
    · rw [if_pos (by omega)]
      exact hadd _ ⟨by simp only; omega, by simp only; omega, by simp only; omega, by simp only; omega, by simp only; omega, by simp only; omega⟩
    · rw [if_pos (by omega)]
      exact hadd _ ⟨by simp only; omega, by simp only; omega, by simp only; omega, by simp only; omega, by simp only; omega, by simp only; omega⟩
theorem line_ok {code : List Int} (hc : Bytes code) {k : Nat} (hk : 20 < k) : ∃ l : List Sp, spec_A2Line.f k code = some l ∧ ValidL l ∧ l.length ≤ 8 ∧ ∀ x ∈ l, Fine x := by
  obtain ⟨n, s, e, hn⟩ := pick_ok hc (seed := 0) (a := 8) (at_ := 0) (by omega) (by omega) (by omega)
  obtain ⟨l, a', s', q1, q2, q3⟩ := drawn_in hc (n.toNat + 1) k [] (0 + 1) s (by omega) (by simp; omega) (by omega) (by omega) (by simp)
  refine ⟨l, ?_, ⟨by rw [q2]; simp, by rw [q2]; simp; omega, fun x hx => by have := q3 x hx; unfold Fine at this; omega⟩, by rw [q2]; simp; omega, q3⟩
  unfold spec_A2Line.f spec_l00From.f spec_l06Drawn.f
  simp only [Option.bind_some]
  rw [e]
  simp only [Option.bind_some]
  rw [w64 (n := 1 + n) (by omega) (by omega), show 1 + n = ((n.toNat + 1 : Nat) : Int) by omega, q1]
  rfl
theorem fine_wf {x : Sp} (h : Fine x) : wfShip x := by
  unfold Fine at h
  refine ⟨?_, ?_, ?_⟩ <;> simp [Lit.wf, IntKind.min, IntKind.max, IntKind.signed, IntKind.bits] <;> omega
end Go.Proofs.Ytjglinmilhenjaa.G.Pure
end

section
namespace Go.Proofs.Ytjglinmilhenjaa.G.Pure
open Go.RowKit Go.Proofs.Ytjglinmilhenjaa.G Go.Proofs.YtjglinmilhenjaaW.PrintWords Go.Proofs.YtjglinmilhenjaaW.PrintLast Go.Proofs.YtjglinmilhenjaaW.PrintMore
set_option linter.unusedVariables false
set_option linter.unusedSimpArgs false
theorem ValidL.specTimes {line : List Sp} (v : ValidL line) {k : Nat} (hk : 300 < k) : spec_l06Times.f k line (-1) 0 = some (timesL (-1) 0 line) :=
  specTimes_eq k line (-1) 0 v.most v.in_ (fun i x hx => by
    have := v.ships x (List.mem_of_getElem? hx)
    rw [if_neg (by omega)]
    omega) ⟨by omega, by omega⟩ (by omega)
theorem ValidL.timesOK {line : List Sp} (v : ValidL line) : TimesOK (timesL (-1) 0 line) :=
  timesGo_ok (-1) 0 line [] TimesOK.nil (fun x hx => by have := v.ships x hx; omega) (fun i x hx => by
    have := v.ships x (List.mem_of_getElem? hx)
    rw [if_neg (by simp only [List.length_nil]; omega)]
    omega)
end Go.Proofs.Ytjglinmilhenjaa.G.Pure
end

section
namespace Go.Proofs.Ytjglinmilhenjaa.G.Pure
open Go.RowKit Go.Proofs.Ytjglinmilhenjaa.G Go.Proofs.YtjglinmilhenjaaW.PrintWords Go.Proofs.YtjglinmilhenjaaW.PrintLast Go.Proofs.YtjglinmilhenjaaW.PrintMore
set_option linter.unusedVariables false
set_option linter.unusedSimpArgs false
theorem dueL_read (pre : List Tm) (x : Sp) (r q : Int) : dueL pre ⟨x.f0, r, x.f2⟩ q = dueL pre x q := rfl
theorem timesGo_past (ship more : Int) : ∀ (l : List Sp) (acc : List Tm), ship < (acc.length : Int) → timesGo ship more l acc = timesGo (-1) 0 l acc
  | [], acc, _ => rfl
  | x :: xs, acc, h => by
    simp only [timesGo]
    rw [if_neg (by omega), if_neg (by omega)]
    exact timesGo_past ship more xs _ (by simp; omega)
theorem timesGo_set (more : Int) : ∀ (l : List Sp) (acc : List Tm) (q : Nat), acc.length ≤ q → timesGo (-1) 0 (l.set (q - acc.length) ⟨(l.getD (q - acc.length) z34).f0, (l.getD (q - acc.length) z34).f1 + more, (l.getD (q - acc.length) z34).f2⟩) acc = timesGo (q : Int) more l acc
  | [], acc, q, h => rfl
  | x :: xs, acc, q, h => by
    by_cases e : acc.length = q
    · rw [show q - acc.length = 0 by omega]
      simp only [List.set_cons_zero, List.getD_cons_zero, timesGo]
      rw [if_neg (by omega), if_pos (by omega), Int.add_zero, dueL_read]
      exact (timesGo_past (q : Int) more xs _ (by simp; omega)).symm
    · obtain ⟨d, hd⟩ : ∃ d, q - acc.length = d + 1 := ⟨q - acc.length - 1, by omega⟩
      have ih := fun t => timesGo_set more xs (acc ++ [t]) q (by simp; omega)
      simp only [List.length_append, List.length_singleton] at ih
      rw [show q - (acc.length + 1) = d by omega] at ih
      rw [hd]
      simp only [List.set_cons_succ, List.getD_cons_succ, timesGo]
      rw [if_neg (by omega), if_neg (by omega)]
      exact ih _
def laterL (line : List Sp) (q : Nat) (more : Int) : Int :=
  ((timesL (q : Int) more line).getD (lastAt (timesL (q : Int) more line) line.length) z60).f2 - ((timesL (-1) 0 line).getD (lastAt (timesL (-1) 0 line) line.length) z60).f2
theorem TimesOK.small {ts : List Tm} (h : TimesOK ts) (hl : ts.length ≤ 20) (i : Nat) : -1 ≤ (ts.getD i z60).f2 ∧ (ts.getD i z60).f2 ≤ 5000 := by
  rcases Nat.lt_or_ge i ts.length with hi | hi
  · rw [getD_in hi]
    have e := List.getElem?_eq_getElem hi
    have hb := h.bound i _ e
    rcases Nat.eq_zero_or_pos i with h0 | h0
    · subst h0
      have := h.first _ e
      omega
    · rcases h.later i _ e h0 with h1 | h1
      · rw [h1]; decide
      · omega
  · rw [List.getD_eq_getElem?_getD, List.getElem?_eq_none hi]
    decide
theorem readAt {line : List Sp} (v : ValidL line) {q : Nat} {more : Int} (hm : 0 ≤ more ∧ more ≤ 60) : ∀ (i : Nat) (x : Sp), line[i]? = some x → 0 ≤ x.f1 + (if (i : Int) = (q : Int) then more else 0) ∧ x.f1 + (if (i : Int) = (q : Int) then more else 0) ≤ 120 := fun i x hx => by
  have := v.ships x (List.mem_of_getElem? hx)
  split <;> omega
theorem slowOK {line : List Sp} (v : ValidL line) {q : Nat} {more : Int} (hm : 0 ≤ more ∧ more ≤ 60) : TimesOK (timesL (q : Int) more line) :=
  timesGo_ok (q : Int) more line [] TimesOK.nil (fun x hx => by have := v.ships x hx; omega) (fun i x hx => by
    have := readAt v (q := q) hm i x hx
    simpa using this)
theorem specLater_eq {k : Nat} {line : List Sp} (v : ValidL line) {q : Nat} (hq : q < line.length) {more : Int} (hm : 0 ≤ more ∧ more ≤ 60) (hk : 1000 < k) : spec_l06Later.f k line (q : Int) more = some (laterL line q more) := by
  have h20 := v.most
  have h1 := timesL_len (-1) 0 line
  have h2 := timesL_len (q : Int) more line
  have b1 := v.timesOK.small (by omega) (lastAt (timesL (-1) 0 line) line.length)
  have b2 := (slowOK v (q := q) hm).small (by omega) (lastAt (timesL (q : Int) more line) line.length)
  unfold spec_l06Later.f
  rw [v.specTimes (by omega), specTimes_eq k line (q : Int) more v.most v.in_ (readAt v hm) hm (by omega)]
  simp only [Option.bind_some]
  rw [specLast_eq k _ (by omega) (by omega) (by omega), specLast_eq k _ (by omega) (by omega) (by omega)]
  simp only [Option.bind_some]
  have l1 := lastAt_lt (timesL (-1) 0 line) (timesL (-1) 0 line).length (by omega)
  have l2 := lastAt_lt (timesL (q : Int) more line) (timesL (q : Int) more line).length (by omega)
  rw [if_pos (by omega), if_pos (by omega), if_pos (by omega), if_pos (by omega), rd_getD, rd_getD, h1, h2, w64 (by omega) (by omega)]
  rfl
theorem implLater_eq {k : Nat} {line : List Sp} (v : ValidL line) {q : Nat} (hq : q < line.length) {more : Int} (hm : 0 ≤ more ∧ more ≤ 60) (hk : 1000 < k) : impl_later.f k line (q : Int) more = some (laterL line q more) := by
  have h20 := v.most
  have hp := v.pos
  have h1 := timesL_len (-1) 0 line
  have h2 := timesL_len (q : Int) more line
  have b1 := v.timesOK.small (by omega) (lastAt (timesL (-1) 0 line) line.length)
  have b2 := (slowOK v (q := q) hm).small (by omega) (lastAt (timesL (q : Int) more line) line.length)
  have hx := v.ships line[q] (List.getElem_mem hq)
  unfold impl_later.f
  rw [implAllClosedIn_eq k line v.pos v.most v.in_ (by omega)]
  simp only [Option.bind_some, slices_Clone_Ship_Ship.f]
  rw [if_pos (by omega)]
  simp only [Option.bind_some]
  rw [if_pos (by omega), if_pos (by omega), rd_impl_Ship hq, i8w (n := more) (by omega) (by omega), i8w (n := (line[q]).f1 + more) (by omega) (by omega), Int.toNat_natCast]
  rw [implAllClosedIn_eq k (line.set q ⟨(line[q]).f0, (line[q]).f1 + more, (line[q]).f2⟩) (by simp; omega) (by simp; omega) (fun x hx' => by
    rcases List.mem_or_eq_of_mem_set hx' with h | h
    · exact v.in_ x h
    · subst h
      unfold shipIn
      simp only
      omega) (by omega)]
  have hset : timesL (-1) 0 (line.set q ⟨(line[q]).f0, (line[q]).f1 + more, (line[q]).f2⟩) = timesL (q : Int) more line := by
    have := timesGo_set more line [] q (by simp)
    simp only [List.length_nil, Nat.sub_zero] at this
    have e : line.getD q z34 = line[q] := by simp [List.getD_eq_getElem?_getD, List.getElem?_eq_getElem hq]
    rw [e] at this
    exact this
  simp only [Option.bind_some, closedL, hset, List.length_set]
  rw [w64 (by omega) (by omega)]
  rfl
end Go.Proofs.Ytjglinmilhenjaa.G.Pure
end

section
namespace Go.Proofs.Ytjglinmilhenjaa.G.Pure
open Go.RowKit Go.Proofs.Ytjglinmilhenjaa.G Go.Proofs.YtjglinmilhenjaaW.PrintWords Go.Proofs.YtjglinmilhenjaaW.PrintLast Go.Proofs.YtjglinmilhenjaaW.PrintMore
set_option linter.unusedVariables false
set_option linter.unusedSimpArgs false
theorem firstOf_eq (k : Nat) (a b : Int) (hk : 3 ≤ k) : impl_firstOf.f k [a, b] = some (if a = 0 then b else a) := by
  obtain ⟨k, rfl⟩ : ∃ m, k = m + 3 := ⟨k - 3, by omega⟩
  unfold impl_firstOf.f
  have r0 : rd [a, b] 0 = a := rfl
  have r1 : rd [a, b] 1 = b := rfl
  unfold impl_firstOf.l0
  simp only [List.length_cons, List.length_nil]
  rw [if_pos (by omega), if_pos (by omega), if_pos (by omega), r0]
  by_cases h : a = 0
  · rw [if_pos h, if_pos h, w64 (by omega) (by omega)]
    unfold impl_firstOf.l0
    simp only [List.length_cons, List.length_nil]
    rw [if_pos (by omega), if_pos (by omega), if_pos (by omega), show (0 : Int) + 1 = 1 from rfl, r1]
    by_cases h1 : b = 0
    · rw [if_pos h1, w64 (by omega) (by omega)]
      unfold impl_firstOf.l0
      rw [if_neg (by simp), h1]
    · rw [if_neg h1]
  · rw [if_neg h, if_neg h]
end Go.Proofs.Ytjglinmilhenjaa.G.Pure
end

section
namespace Go.Proofs.Ytjglinmilhenjaa.G.Pure
open Go.RowKit Go.Proofs.Ytjglinmilhenjaa.G Go.Proofs.YtjglinmilhenjaaW.PrintWords Go.Proofs.YtjglinmilhenjaaW.PrintLast Go.Proofs.YtjglinmilhenjaaW.PrintMore
set_option linter.unusedVariables false
set_option linter.unusedSimpArgs false
def codeL (line : List Sp) (ship : Int) : Int := if validB line = true then (if (decide (0 ≤ ship) && decide (ship ≤ (line.length : Int) - 1)) = true then 0 else 2) else 1
theorem specAsked_eq {k : Nat} {line : List Sp} {ship : Int} (hw : ∀ x ∈ line, wfShip x) (hl : line.length ≤ 1048576) (hk : 1099000 < k) : spec_l06Asked.f k line ship = some (codeL line ship) := by
  unfold spec_l06Asked.f codeL
  rw [specOk_eq k line hw hl (by omega), in_eq, w64 (by omega) (by omega)]
  simp only [Option.bind_some]
  split
  · split <;> rfl
  · rfl
theorem implCode_eq {line : List Sp} {ship : Int} (hl : line.length ≤ 1048576) : impl_shipCode.f line ship = some (codeL line ship) := by
  unfold impl_shipCode.f codeL impl_size_Ship.f
  rw [implValid_eq]
  simp only [Option.bind_some]
  rw [within_eq, w64 (by omega) (by omega)]
  simp only [Option.bind_some, impl_unless.f]
  split
  · split <;> rfl
  · rfl
theorem codeL_zero {line : List Sp} {ship : Int} (hw : ∀ x ∈ line, wfShip x) : codeL line ship = 0 ↔ ValidL line ∧ ∃ q : Nat, ship = (q : Int) ∧ q < line.length := by
  unfold codeL
  constructor
  · intro h
    split at h
    · rename_i hv
      split at h
      · rename_i hs
        simp only [Bool.and_eq_true, decide_eq_true_eq] at hs
        exact ⟨(validB_iff hw).1 hv, ship.toNat, by omega, by omega⟩
      · omega
    · omega
  · rintro ⟨v, q, rfl, hq⟩
    rw [if_pos ((validB_iff hw).2 v), if_pos (by simp; omega)]
end Go.Proofs.Ytjglinmilhenjaa.G.Pure
end

section
namespace Go.Proofs.Ytjglinmilhenjaa.G.Pure
open Go.RowKit Go.Proofs.Ytjglinmilhenjaa.G Go.Proofs.YtjglinmilhenjaaW.PrintWords Go.Proofs.YtjglinmilhenjaaW.PrintLast Go.Proofs.YtjglinmilhenjaaW.PrintMore
set_option linter.unusedVariables false
set_option linter.unusedSimpArgs false
def moreOk (more : Int) : Bool := decide (0 ≤ more) && decide (more ≤ 60)
def resLaterIf (line : List Sp) (ship more : Int) : Int × Int := if codeL line ship = 0 then (if moreOk more = true then (laterL line ship.toNat more, 0) else (0, 2)) else (0, codeL line ship)
theorem specLaterIf_eq {k : Nat} {line : List Sp} {ship more : Int} (hw : ∀ x ∈ line, wfShip x) (hl : line.length ≤ 1048576) (hk : 1099000 < k) : spec_LaterIf.f (k + 1) line ship more = some (resLaterIf line ship more) := by
  unfold spec_LaterIf.f resLaterIf
  rw [specAsked_eq hw hl (by omega)]
  simp only [Option.bind_some, in_eq]
  by_cases h : codeL line ship = 0
  · rw [if_pos h, if_pos h]
    simp only [spec_LaterIf.j0, h]
    by_cases hm : moreOk more = true
    · rw [if_neg (by show ¬ (!moreOk more) = true; rw [hm]; decide), if_pos hm, if_pos trivial]
      obtain ⟨v, q, rfl, hq⟩ := (codeL_zero hw).1 h
      rw [specLater_eq v hq (by simpa [moreOk] using hm) (by omega)]
      rfl
    · rw [if_pos (by show (!moreOk more) = true; simpa using hm), if_neg hm]
  · rw [if_neg h, if_neg h]
    simp only [spec_LaterIf.j0]
    rw [if_neg (by decide), if_neg h]
theorem implLaterIf_eq {k : Nat} {line : List Sp} {ship more : Int} (hw : ∀ x ∈ line, wfShip x) (hl : line.length ≤ 1048576) (hk : 1099000 < k) : impl_LaterIf.f k line ship more = some (resLaterIf line ship more) := by
  unfold impl_LaterIf.f resLaterIf
  rw [implCode_eq hl, within_eq]
  simp only [Option.bind_some]
  by_cases h : codeL line ship = 0
  · rw [if_pos h, h]
    by_cases hm : moreOk more = true
    · rw [if_pos hm, show (decide (0 ≤ more) && decide (more ≤ 60)) = true from hm]
      simp only [impl_unless.f, if_true, Option.bind_some]
      rw [firstOf_eq k _ _ (by omega)]
      obtain ⟨v, q, rfl, hq⟩ := (codeL_zero hw).1 h
      simp only [if_true, Option.bind_some]
      rw [implLater_eq v hq (by simpa [moreOk] using hm) (by omega)]
      rfl
    · rw [if_neg hm, show (decide (0 ≤ more) && decide (more ≤ 60)) = false by simpa [moreOk] using hm]
      simp only [impl_unless.f, Bool.false_eq_true, if_false, Option.bind_some]
      rw [firstOf_eq k _ _ (by omega)]
      rfl
  · rw [if_neg h]
    have hu : ∀ b, ∃ c, impl_unless.f b 2 = some c := fun b => by unfold impl_unless.f; split <;> exact ⟨_, rfl⟩
    obtain ⟨c, hc⟩ := hu (decide (0 ≤ more) && decide (more ≤ 60))
    rw [hc]
    simp only [Option.bind_some]
    rw [firstOf_eq k _ _ (by omega), if_neg h]
    simp only [Option.bind_some]
    rw [if_neg h]
end Go.Proofs.Ytjglinmilhenjaa.G.Pure
end

section
namespace Go.Proofs.Ytjglinmilhenjaa.G.Pure
open Go.RowKit Go.Proofs.Ytjglinmilhenjaa.G Go.Proofs.YtjglinmilhenjaaW.PrintWords Go.Proofs.YtjglinmilhenjaaW.PrintLast Go.Proofs.YtjglinmilhenjaaW.PrintMore
set_option linter.unusedVariables false
set_option linter.unusedSimpArgs false
def slackL (line : List Sp) (q : Nat) : Nat → Int → Int
  | 0, m => m
  | n + 1, m => if laterL line q (m + 1) = 0 then slackL line q n (m + 1) else m
theorem specSlack {line : List Sp} (v : ValidL line) {q : Nat} (hq : q < line.length) : ∀ (n k : Nat) (m : Int), 1000 < k → 0 ≤ m → m + n = 60 → spec_SlackOf.l0 (k + n + 1) line (q : Int) m = some (slackL line q n m, 0) := by
  intro n
  induction n with
  | zero =>
    intro k m hk h0 hm
    unfold spec_SlackOf.l0
    rw [if_neg (by omega)]
    rfl
  | succ n ih =>
    intro k m hk h0 hm
    rw [show k + (n + 1) + 1 = (k + n + 1) + 1 by omega]
    unfold spec_SlackOf.l0
    rw [if_pos (by omega), w64 (by omega) (by omega), specLater_eq v hq ⟨by omega, by omega⟩ (by omega)]
    simp only [Option.bind_some, slackL]
    split
    · exact ih k (m + 1) hk (by omega) (by omega)
    · rfl
theorem implSlack {line : List Sp} (v : ValidL line) {q : Nat} (hq : q < line.length) : ∀ (n k : Nat) (m : Int), 1000 < k → 0 ≤ m → m + n = 60 → impl_SlackOf.l0 (k + n + 1) line (q : Int) m = some (slackL line q n m, 0) := by
  intro n
  induction n with
  | zero =>
    intro k m hk h0 hm
    unfold impl_SlackOf.l0
    rw [if_neg (by omega)]
    rfl
  | succ n ih =>
    intro k m hk h0 hm
    rw [show k + (n + 1) + 1 = (k + n + 1) + 1 by omega]
    unfold impl_SlackOf.l0
    rw [if_pos (by omega), w64 (by omega) (by omega), implLater_eq v hq ⟨by omega, by omega⟩ (by omega)]
    simp only [Option.bind_some, slackL]
    split
    · exact ih k (m + 1) hk (by omega) (by omega)
    · rfl
def resSlackOf (line : List Sp) (ship : Int) : Int × Int := if codeL line ship = 0 then (slackL line ship.toNat 60 0, 0) else (0, codeL line ship)
theorem specSlackOf_eq {k : Nat} {line : List Sp} {ship : Int} (hw : ∀ x ∈ line, wfShip x) (hl : line.length ≤ 1048576) (hk : 1099000 < k) : spec_SlackOf.f k line ship = some (resSlackOf line ship) := by
  unfold spec_SlackOf.f resSlackOf
  rw [specAsked_eq hw hl hk]
  simp only [Option.bind_some]
  by_cases h : codeL line ship = 0
  · rw [if_pos h, if_pos h]
    obtain ⟨v, q, rfl, hq⟩ := (codeL_zero hw).1 h
    obtain ⟨m, rfl⟩ : ∃ m, k = m + 60 + 1 := ⟨k - 61, by omega⟩
    exact specSlack v hq 60 m 0 (by omega) (by omega) (by omega)
  · rw [if_neg h, if_neg h]
theorem implSlackOf_eq {k : Nat} {line : List Sp} {ship : Int} (hw : ∀ x ∈ line, wfShip x) (hl : line.length ≤ 1048576) (hk : 1099000 < k) : impl_SlackOf.f k line ship = some (resSlackOf line ship) := by
  unfold impl_SlackOf.f resSlackOf
  rw [implCode_eq hl]
  simp only [Option.bind_some]
  by_cases h : codeL line ship = 0
  · rw [if_pos h, if_pos h]
    obtain ⟨v, q, rfl, hq⟩ := (codeL_zero hw).1 h
    obtain ⟨m, rfl⟩ : ∃ m, k = m + 60 + 1 := ⟨k - 61, by omega⟩
    exact implSlack v hq 60 m 0 (by omega) (by omega) (by omega)
  · rw [if_neg h, if_neg h]
end Go.Proofs.Ytjglinmilhenjaa.G.Pure
end

section
namespace Go.Proofs.Ytjglinmilhenjaa.G.Pure
open Go.RowKit Go.Proofs.Ytjglinmilhenjaa.G Go.Proofs.YtjglinmilhenjaaW.PrintWords Go.Proofs.YtjglinmilhenjaaW.PrintLast Go.Proofs.YtjglinmilhenjaaW.PrintMore
set_option linter.unusedVariables false
set_option linter.unusedSimpArgs false
def Slow (δ : Int) (u v : Tm) : Prop := (u.f3 < 0 ∧ v.f3 < 0 ∧ u.f2 = v.f2) ∨ (0 ≤ u.f3 ∧ 0 ≤ v.f3 ∧ u.f2 ≤ v.f2 ∧ v.f2 ≤ u.f2 + δ ∧ u.f3 ≤ v.f3 ∧ v.f3 ≤ u.f3 + δ)
theorem Slow.refl {δ : Int} (hδ : 0 ≤ δ) (u : Tm) : Slow δ u u := by
  unfold Slow
  by_cases h : u.f3 < 0
  · exact .inl ⟨h, h, rfl⟩
  · exact .inr ⟨by omega, by omega, by omega, by omega, by omega, by omega⟩
def SlowL (δ : Int) (p p' : List Tm) : Prop := p.length = p'.length ∧ ∀ (i : Nat) u v, p[i]? = some u → p'[i]? = some v → Slow δ u v
theorem SlowL.refl {δ : Int} (hδ : 0 ≤ δ) (p : List Tm) : SlowL δ p p := ⟨rfl, fun i u v hu hv => by
  rw [hu] at hv
  cases hv
  exact Slow.refl hδ u⟩
theorem SlowL.snoc {δ : Int} {p p' : List Tm} {u v : Tm} (h : SlowL δ p p') (h2 : Slow δ u v) : SlowL δ (p ++ [u]) (p' ++ [v]) := by
  refine ⟨by simp [h.1], fun i a b ha hb => ?_⟩
  rcases Nat.lt_or_ge i p.length with hi | hi
  · rw [List.getElem?_append_left hi] at ha
    rw [List.getElem?_append_left (by have := h.1; omega)] at hb
    exact h.2 i a b ha hb
  · rw [List.getElem?_append_right hi] at ha
    rw [List.getElem?_append_right (by have := h.1; omega), ← h.1] at hb
    rcases Nat.eq_zero_or_pos (i - p.length) with h0 | h0
    · rw [h0] at ha hb
      simp only [List.getElem?_cons_zero, Option.some.injEq] at ha hb
      subst ha; subst hb
      exact h2
    · rw [List.getElem?_eq_none (by simp; omega)] at ha
      cases ha
theorem scan_slow {δ : Int} {p p' : List Tm} (h : SlowL δ p p') (a n : Nat) (hn : a + n ≤ p.length) :
    ((scan p a n).1 < 0 ∧ (scan p' a n).1 < 0) ∨ (0 ≤ (scan p a n).1 ∧ 0 ≤ (scan p' a n).1 ∧ (scan p a n).2 ≤ (scan p' a n).2 ∧ (scan p' a n).2 ≤ (scan p a n).2 + δ) := by
  induction n with
  | zero => left; exact ⟨by simp only [scan]; decide, by simp only [scan]; decide⟩
  | succ n ih =>
    have hi : a + n < p.length := by omega
    have hi' : a + n < p'.length := by have := h.1; omega
    have e : p[a + n]? = some p[a + n] := List.getElem?_eq_getElem hi
    have e' : p'[a + n]? = some p'[a + n] := List.getElem?_eq_getElem hi'
    have hr := h.2 _ _ _ e e'
    have ih := ih (by omega)
    rcases hs : scan p a n with ⟨f, s⟩
    rcases hs' : scan p' a n with ⟨f', s'⟩
    rw [hs, hs'] at ih
    simp only [scan, hs, hs', e, e']
    simp only at ih
    unfold Slow at hr
    split <;> split <;> simp only <;> omega
theorem due_slow {δ : Int} {p p' : List Tm} (h : SlowL δ p p') {x : Sp} {r : Int} (hδ : 0 ≤ δ) (hr : 0 ≤ r) (hx : 0 ≤ x.f2) (hs0 : TimesOK p) : Slow δ (dueL p x r) (dueL p' x r) := by
  unfold dueL
  rw [← h.1]
  by_cases h0 : p.length = 0
  · rw [if_pos h0, if_pos h0]
    exact Slow.refl hδ _
  · rw [if_neg h0, if_neg h0]
    have hsc := scan_slow h (p.length - x.f0.toNat) (p.length - (p.length - x.f0.toNat)) (by omega)
    have hsp := scan_spec p hs0 (p.length - x.f0.toNat) (p.length - (p.length - x.f0.toNat)) (by omega)
    rcases hs : scan p (p.length - x.f0.toNat) (p.length - (p.length - x.f0.toNat)) with ⟨f, s⟩
    rcases hs' : scan p' (p.length - x.f0.toNat) (p.length - (p.length - x.f0.toNat)) with ⟨f', s'⟩
    rw [hs, hs'] at hsc
    rw [hs] at hsp
    simp only at hsc hsp ⊢
    rcases hsc with hc | hc
    · rw [if_neg (by omega), if_neg (by omega)]
      exact Slow.refl hδ _
    · rw [if_pos hc.1, if_pos hc.2.1]
      rcases hsp with hp | hp
      · simp only [Prod.mk.injEq] at hp
        omega
      · exact .inr ⟨by simp only; omega, by simp only; omega, by simp only; omega, by simp only; omega, by simp only; omega, by simp only; omega⟩
theorem due_at {p : List Tm} {x : Sp} {r r' δ : Int} (hδ : 0 ≤ δ) (h : r' = r + δ) (hr : 0 ≤ r) (hx : 0 ≤ x.f2) (hs0 : TimesOK p) : Slow δ (dueL p x r) (dueL p x r') := by
  unfold dueL
  by_cases h0 : p.length = 0
  · rw [if_pos h0, if_pos h0]
    exact Slow.refl hδ _
  · rw [if_neg h0, if_neg h0]
    have hsp := scan_spec p hs0 (p.length - x.f0.toNat) (p.length - (p.length - x.f0.toNat)) (by omega)
    rcases hs : scan p (p.length - x.f0.toNat) (p.length - (p.length - x.f0.toNat)) with ⟨f, s⟩
    rw [hs] at hsp
    simp only at hsp ⊢
    by_cases hf : 0 ≤ f
    · rw [if_pos hf, if_pos hf]
      rcases hsp with hp | hp
      · simp only [Prod.mk.injEq] at hp
        omega
      · exact .inr ⟨by simp only; omega, by simp only; omega, by simp only; omega, by simp only; omega, by simp only; omega, by simp only; omega⟩
    · rw [if_neg hf, if_neg hf]
      exact Slow.refl hδ _
theorem go_slow {δ : Int} (hδ : 0 ≤ δ) (q d e : Int) : ∀ (l : List Sp) (p p' : List Tm), (∀ x ∈ l, 0 ≤ x.f1 ∧ x.f1 ≤ 60 ∧ 0 ≤ x.f2 ∧ x.f2 ≤ 60) → SlowL δ p p' → TimesOK p → q < (p.length : Int) → SlowL δ (timesGo q d l p) (timesGo q e l p')
  | [], p, p', _, h, _, _ => h
  | x :: xs, p, p', hx, h, ho, hq => by
    simp only [timesGo]
    have hx0 := hx x (by simp)
    rw [if_neg (by omega), if_neg (by have := h.1; omega), Int.add_zero]
    exact go_slow hδ q d e xs _ _ (fun y hy => hx y (by simp [hy])) (h.snoc (due_slow h hδ hx0.1 hx0.2.2.1 ho)) (due_ok ho hx0.2.2 (by omega)) (by simp; omega)
theorem go_slower {q d e : Int} (hd : 0 ≤ d) (he : d ≤ e) (he2 : e ≤ 60) : ∀ (l : List Sp) (p : List Tm), (∀ x ∈ l, 0 ≤ x.f1 ∧ x.f1 ≤ 60 ∧ 0 ≤ x.f2 ∧ x.f2 ≤ 60) → TimesOK p → (p.length : Int) ≤ q → SlowL (e - d) (timesGo q d l p) (timesGo q e l p)
  | [], p, _, _, _ => SlowL.refl (by omega) p
  | x :: xs, p, hx, ho, hq => by
    simp only [timesGo]
    have hx0 := hx x (by simp)
    have hxs : ∀ y ∈ xs, 0 ≤ y.f1 ∧ y.f1 ≤ 60 ∧ 0 ≤ y.f2 ∧ y.f2 ≤ 60 := fun y hy => hx y (by simp [hy])
    by_cases hp : (p.length : Int) = q
    · rw [if_pos hp, if_pos hp]
      exact go_slow (by omega) q d e xs _ _ hxs ((SlowL.refl (by omega) p).snoc (due_at (by omega) (by omega) (by omega) hx0.2.2.1 ho)) (due_ok ho hx0.2.2 (by omega)) (by simp; omega)
    · rw [if_neg hp, if_neg hp, Int.add_zero]
      exact go_slower hd he he2 xs _ hxs (due_ok ho hx0.2.2 (by omega)) (by simp; omega)
theorem go_zero (q : Int) : ∀ (l : List Sp) (p : List Tm), timesGo q 0 l p = timesGo (-1) 0 l p
  | [], _ => rfl
  | x :: xs, p => by
    simp only [timesGo, ite_self]
    exact go_zero q xs _
theorem last_max (ts : List Tm) : ∀ n i, i < n → (ts.getD i z60).f2 ≤ (ts.getD (lastAt ts n) z60).f2 := by
  intro n
  induction n with
  | zero => intro i hi; omega
  | succ n ih =>
    intro i hi
    simp only [lastAt]
    split
    · rename_i h
      rcases Nat.lt_or_ge i n with h1 | h1
      · have := ih i h1; omega
      · obtain rfl : i = n := by omega
        omega
    · rename_i h
      rcases Nat.lt_or_ge i n with h1 | h1
      · exact ih i h1
      · obtain rfl : i = n := by omega
        omega
def closedAt (line : List Sp) (q : Nat) (d : Int) : Int := ((timesL (q : Int) d line).getD (lastAt (timesL (q : Int) d line) line.length) z60).f2
theorem slow_getD {δ : Int} {p p' : List Tm} (h : SlowL δ p p') {i : Nat} (hi : i < p.length) : (p.getD i z60).f2 ≤ (p'.getD i z60).f2 ∧ ((p'.getD i z60).f2 ≤ (p.getD i z60).f2 + δ ∨ (p.getD i z60).f2 = (p'.getD i z60).f2) := by
  have hi' : i < p'.length := by have := h.1; omega
  have := h.2 i p[i] p'[i] (List.getElem?_eq_getElem hi) (List.getElem?_eq_getElem hi')
  rw [getD_in hi, getD_in hi']
  unfold Slow at this
  omega
theorem closed_slow {line : List Sp} (v : ValidL line) (q : Nat) {d e : Int} (hd : 0 ≤ d) (he : d ≤ e) (he2 : e ≤ 60) : closedAt line q d ≤ closedAt line q e ∧ closedAt line q e ≤ closedAt line q d + (e - d) := by
  have h : SlowL (e - d) (timesL (q : Int) d line) (timesL (q : Int) e line) := go_slower hd he he2 line [] (fun x hx => by have := v.ships x hx; omega) TimesOK.nil (by simp)
  have hp := v.pos
  have l1 := timesL_len (q : Int) d line
  have l2 := timesL_len (q : Int) e line
  unfold closedAt
  have a1 := lastAt_lt (timesL (q : Int) d line) line.length (by omega)
  have a2 := lastAt_lt (timesL (q : Int) e line) line.length (by omega)
  have m1 := last_max (timesL (q : Int) d line) line.length _ a2
  have m2 := last_max (timesL (q : Int) e line) line.length _ a1
  have g1 := slow_getD h (i := lastAt (timesL (q : Int) d line) line.length) (by omega)
  have g2 := slow_getD h (i := lastAt (timesL (q : Int) e line) line.length) (by omega)
  omega
theorem closed_zero (line : List Sp) (q : Nat) : closedAt line q 0 = (closedL line).1 := by
  unfold closedAt closedL timesL
  rw [go_zero]
theorem later_closed (line : List Sp) (q : Nat) (d : Int) : laterL line q d = closedAt line q d - closedAt line q 0 := by
  rw [closed_zero]
  rfl
theorem later_zero (line : List Sp) (q : Nat) : laterL line q 0 = 0 := by rw [later_closed]; omega
theorem later_in {line : List Sp} (v : ValidL line) (q : Nat) {d : Int} (hd : 0 ≤ d) (h60 : d ≤ 60) : 0 ≤ laterL line q d ∧ laterL line q d ≤ d := by
  have := closed_slow v q (d := 0) (e := d) (by omega) hd h60
  rw [later_closed]
  omega
theorem later_mono {line : List Sp} (v : ValidL line) (q : Nat) {d e : Int} (hd : 0 ≤ d) (he : d ≤ e) (h60 : e ≤ 60) : laterL line q d ≤ laterL line q e := by
  have := closed_slow v q hd he h60
  rw [later_closed, later_closed]
  omega
theorem slack_at (line : List Sp) (q : Nat) : ∀ (n : Nat) (m : Int), laterL line q m = 0 → 0 ≤ m → m + n = 60 → m ≤ slackL line q n m ∧ slackL line q n m ≤ 60 ∧ laterL line q (slackL line q n m) = 0 ∧ (slackL line q n m < 60 → laterL line q (slackL line q n m + 1) ≠ 0) := by
  intro n
  induction n with
  | zero => intro m h h0 hm; exact ⟨Int.le_refl _, by simp only [slackL]; omega, h, fun h_ => by simp only [slackL] at h_; omega⟩
  | succ n ih =>
    intro m h h0 hm
    simp only [slackL]
    split
    · rename_i h1
      have := ih (m + 1) h1 (by omega) (by omega)
      exact ⟨by omega, this.2⟩
    · rename_i h1
      exact ⟨Int.le_refl _, by omega, h, fun _ => h1⟩
theorem slack_iff {line : List Sp} (v : ValidL line) (q : Nat) {d : Int} (hd : 0 ≤ d) (h60 : d < 60) : laterL line q d = 0 ↔ d ≤ slackL line q 60 0 := by
  have s := slack_at line q 60 0 (later_zero line q) (by omega) (by omega)
  constructor
  · intro h
    apply Classical.byContradiction
    intro hn
    have h1 := later_mono v q (d := slackL line q 60 0 + 1) (e := d) (by omega) (by omega) (by omega)
    have h2 := later_in v q (d := slackL line q 60 0 + 1) (by omega) (by omega)
    have h3 := s.2.2.2 (by omega)
    omega
  · intro h
    have h1 := later_mono v q (d := d) (e := slackL line q 60 0) (by omega) h (by omega)
    have h2 := later_in v q (d := d) (by omega) (by omega)
    omega
theorem slowed_closed {line : List Sp} {q : Nat} (hq : q < line.length) (d : Int) : (closedL (line.set q ⟨(line[q]).f0, (line[q]).f1 + d, (line[q]).f2⟩)).1 = closedAt line q d := by
  have := timesGo_set d line [] q (by simp)
  simp only [List.length_nil, Nat.sub_zero] at this
  have e : line.getD q z34 = line[q] := by simp [List.getD_eq_getElem?_getD, List.getElem?_eq_getElem hq]
  rw [e] at this
  have hs : timesL (-1) 0 (line.set q ⟨(line[q]).f0, (line[q]).f1 + d, (line[q]).f2⟩) = timesL (q : Int) d line := this
  unfold closedL closedAt
  rw [hs, List.length_set]
end Go.Proofs.Ytjglinmilhenjaa.G.Pure
end

section
namespace Go.Proofs.Ytjglinmilhenjaa.G.Pure
open Go.RowKit Go.Proofs.Ytjglinmilhenjaa.G Go.Proofs.YtjglinmilhenjaaW.PrintWords Go.Proofs.YtjglinmilhenjaaW.PrintLast Go.Proofs.YtjglinmilhenjaaW.PrintMore
set_option linter.unusedVariables false
set_option linter.unusedSimpArgs false
def resWithout (line : List Sp) (ship : Int) : List Sp × Int := if codeL line ship = 0 then (if line.length = 1 then ([], 4) else (line.eraseIdx ship.toNat, 0)) else ([], codeL line ship)
theorem specWithout_eq {k : Nat} {line : List Sp} {ship : Int} (hw : ∀ x ∈ line, wfShip x) (hl : line.length ≤ 1048576) (hk : 1099000 < k) : spec_WithoutShip.f k line ship = some (resWithout line ship) := by
  unfold spec_WithoutShip.f resWithout
  rw [specAsked_eq hw hl hk]
  simp only [Option.bind_some]
  by_cases h : codeL line ship = 0
  · rw [if_pos h, if_pos h]
    obtain ⟨v, q, rfl, hq⟩ := (codeL_zero hw).1 h
    by_cases h1 : line.length = 1
    · rw [if_pos (by omega), if_pos h1]
    · rw [if_neg (by omega), if_neg h1, if_pos (by omega), if_pos (by omega), w64 (by omega) (by omega), if_pos (by simp; omega), if_pos (by omega), if_pos (by omega), if_pos (by simp; omega)]
      simp only [List.nil_append, Int.toNat_natCast]
      rw [List.eraseIdx_eq_take_drop_succ, show ((q : Int) + 1).toNat = q + 1 by omega]
  · rw [if_neg h, if_neg h]
theorem implWithout_eq {k : Nat} {line : List Sp} {ship : Int} (hw : ∀ x ∈ line, wfShip x) (hl : line.length ≤ 1048576) (hk : 1099000 < k) : impl_WithoutShip.f k line ship = some (resWithout line ship) := by
  unfold impl_WithoutShip.f resWithout
  rw [implCode_eq hl]
  simp only [Option.bind_some, impl_unless.f]
  by_cases h : codeL line ship = 0
  · obtain ⟨v, q, rfl, hq⟩ := (codeL_zero hw).1 h
    by_cases h1 : line.length = 1
    · rw [if_neg (by simp; omega)]
      simp only [Option.bind_some]
      rw [firstOf_eq k _ _ (by omega), if_pos h, if_pos h, if_pos h1]
      rfl
    · rw [if_pos (by simp; omega)]
      simp only [Option.bind_some]
      rw [firstOf_eq k _ _ (by omega), if_pos h, if_pos h, if_neg h1]
      simp only [Option.bind_some, if_true]
      unfold slices_Clone_Ship_Ship.f
      rw [if_pos (by omega)]
      simp only [Option.bind_some]
      unfold slices_Delete_Ship_Ship.f
      rw [w64 (by omega) (by omega), if_pos ⟨by omega, by omega, rfl⟩]
      rfl
  · by_cases h1 : line.length > 1
    · rw [if_pos (by simp; omega)]
      simp only [Option.bind_some]
      rw [firstOf_eq k _ _ (by omega), if_neg h, if_neg h, Option.bind_some, if_neg h]
    · rw [if_neg (by simp; omega)]
      simp only [Option.bind_some]
      rw [firstOf_eq k _ _ (by omega), if_neg h, if_neg h, Option.bind_some, if_neg h]
end Go.Proofs.Ytjglinmilhenjaa.G.Pure
end

section
namespace Go.Proofs.Ytjglinmilhenjaa.G.Pure
open Go.RowKit Go.Proofs.Ytjglinmilhenjaa.G Go.Proofs.YtjglinmilhenjaaW.PrintWords Go.Proofs.YtjglinmilhenjaaW.PrintLast Go.Proofs.YtjglinmilhenjaaW.PrintMore
set_option linter.unusedVariables false
set_option linter.unusedSimpArgs false
theorem at_ok {l : List Int} (hb : Bytes l) {i n : Int} (hi : 0 ≤ i) (hn : 1 ≤ n) : ∃ v, laws_a2At.f l i n = some v ∧ 0 ≤ v ∧ v < n := by
  unfold laws_a2At.f
  by_cases h : i ≥ (l.length : Int)
  · rw [if_pos h]
    exact ⟨0, rfl, by omega, by omega⟩
  · have hr := bytes_at hb hi (by omega)
    rw [if_neg h, if_neg (by omega), if_pos hi, if_pos (by omega), if_neg (by omega), w64 (by omega) (by omega)]
    refine ⟨_, rfl, ?_⟩
    rw [Int.tmod_eq_emod_of_nonneg hr.1]
    exact ⟨Int.emod_nonneg _ (by omega), Int.emod_lt_of_pos _ (by omega)⟩
theorem bytes_of {l : List Int} (h : ∀ x ∈ l, (Lit.int .u8 x).wf = true) : Bytes l := fun x hx => by
  have := h x hx
  simp [Lit.wf, IntKind.min, IntKind.max, IntKind.signed, IntKind.bits] at this
  omega
theorem sameShips_in {l : List Sp} (hl : l.length ≤ 1000) : ∀ (d i k : Nat), i + d = l.length → d < k → spec_A2SameLine.l0 k l l (i : Int) = some true := by
  intro d
  induction d with
  | zero =>
    intro i k hi hk
    obtain ⟨k, rfl⟩ : ∃ m, k = m + 1 := ⟨k - 1, by omega⟩
    rw [spec_A2SameLine.l0, if_neg (by omega)]
  | succ d ih =>
    intro i k hi hk
    obtain ⟨k, rfl⟩ : ∃ m, k = m + 1 := ⟨k - 1, by omega⟩
    have e := ih (i + 1) k (by omega) (by omega)
    rw [show ((i + 1 : Nat) : Int) = (i : Int) + 1 by omega] at e
    rw [spec_A2SameLine.l0]
    simp only [if_pos (show (i : Int) < (l.length : Int) by omega), if_pos (show (0 : Int) ≤ (i : Int) by omega), beq_self_eq_true, Bool.not_true, Bool.or_self, Bool.false_eq_true, if_false, w64 (n := (i : Int) + 1) (by omega) (by omega)]
    exact e
theorem sameShips {l : List Sp} (hl : l.length ≤ 1000) {k : Nat} (hk : 2000 < k) : spec_A2SameLine.f k l l = some true := by
  unfold spec_A2SameLine.f
  rw [if_pos rfl]
  exact sameShips_in hl l.length 0 k (by omega) (by omega)
theorem codeL_ok {line : List Sp} (hw : ∀ x ∈ line, wfShip x) (v : ValidL line) {q : Nat} (hq : q < line.length) : codeL line (q : Int) = 0 := (codeL_zero hw).2 ⟨v, q, rfl, hq⟩
theorem FnSlower (l0 : List Int) (l1 : List Int) (h00 : l0.length ≤ 9223372036854775807) (h01 : (∀ x ∈ l0, (Lit.int .u8 x).wf = true)) (h10 : l1.length ≤ 9223372036854775807) (h11 : (∀ x ∈ l1, (Lit.int .u8 x).wf = true)) : ∃ k, laws_FnSlower.f k l0 l1 = some true := by
  by_cases hbig : (l0.length : Int) > 3000 ∨ (l1.length : Int) > 3000
  · refine ⟨0, ?_⟩
    unfold laws_FnSlower.f laws_a2Long.f
    rcases hbig with h | h
    · rw [if_pos h]; rfl
    · by_cases h' : (l0.length : Int) > 3000
      · rw [if_pos h']; rfl
      · rw [if_neg h', decide_eq_true h]; rfl
  · obtain ⟨K, hK⟩ : ∃ K, 1200000 < K := ⟨_, Nat.lt_succ_self _⟩
    refine ⟨K + 1 + 1 + 1, ?_⟩
    obtain ⟨line, e1, v, h8, hf⟩ := line_ok (bytes_of h01) (k := K + 1 + 1 + 1) (by omega)
    have hp := v.pos
    have hw : ∀ x ∈ line, wfShip x := fun x hx => fine_wf (hf x hx)
    obtain ⟨ship, e2, s0, s1⟩ := at_ok (bytes_of h11) (i := 0) (n := (line.length : Int)) (by omega) (by omega)
    obtain ⟨d, e3, d0, d1⟩ := at_ok (bytes_of h11) (i := 1) (n := 20) (by omega) (by omega)
    obtain ⟨q, rfl⟩ : ∃ q : Nat, ship = (q : Int) := ⟨ship.toNat, by omega⟩
    have hq : q < line.length := by omega
    have hc := codeL_ok hw v hq
    have hx := v.ships line[q] (List.getElem_mem hq)
    have hfx := hf line[q] (List.getElem_mem hq)
    have lin := later_in v q d0 (by omega)
    have sl := slack_at line q 60 0 (later_zero line q) (by omega) (by omega)
    have si := slack_iff v q d0 (by omega)
    have rl : resLaterIf line (q : Int) d = (laterL line q d, 0) := by
      unfold resLaterIf
      rw [if_pos hc, if_pos (by unfold moreOk; rw [decide_eq_true d0, decide_eq_true (by omega)]; rfl), Int.toNat_natCast]
    have rs : resSlackOf line (q : Int) = (slackL line q 60 0, 0) := by
      unfold resSlackOf
      rw [if_pos hc, Int.toNat_natCast]
    have ra : resAllClosed line = ((closedL line).1, (closedL line).2, 0) := if_pos ((validB_iff hw).2 v)
    have f1 := implLaterIf_eq (k := K + 1 + 1 + 1) (line := line) (ship := (q : Int)) (more := d) hw (by omega) (by omega)
    have f2 := specLaterIf_eq (k := K + 1 + 1) (line := line) (ship := (q : Int)) (more := d) hw (by omega) (by omega)
    have f3 := implSlackOf_eq (k := K + 1 + 1 + 1) (line := line) (ship := (q : Int)) hw (by omega) (by omega)
    have f4 := specSlackOf_eq (k := K + 1 + 1 + 1) (line := line) (ship := (q : Int)) hw (by omega) (by omega)
    have f6 := implWithout_eq (k := K) (line := line) (ship := (q : Int)) hw (by omega) (by omega)
    have f7 := specWithout_eq (k := K) (line := line) (ship := (q : Int)) hw (by omega) (by omega)
    rw [rl] at f1 f2
    rw [rs] at f3 f4
    have hj2 : laws_FnSlower.j2 (K + 1) line (q : Int) = some true := by
      rw [laws_FnSlower.j2, f6, f7]
      simp only [Option.bind_some]
      by_cases h1 : line.length = 1
      · rw [if_pos (by omega)]
        unfold resWithout
        rw [if_pos hc, if_pos h1]
        rfl
      · rw [if_neg (by omega)]
        have : resWithout line (q : Int) = (line.eraseIdx q, 0) := by
          unfold resWithout
          rw [if_pos hc, if_neg h1, Int.toNat_natCast]
        rw [this]
        have hel := List.length_eraseIdx_of_lt hq
        simp only [if_true]
        rw [sameShips (by omega) (by omega)]
        simp only [Option.bind_some, if_true]
        rw [w64 (by omega) (by omega), hel]
        have : ((line.length - 1 : Nat) : Int) = (line.length : Int) - 1 := by omega
        rw [this]
        simp
    have hj1 : ∀ c, (c = true → line[q].f1 + d ≤ 60) → laws_FnSlower.j1 (K + 1 + 1) line (q : Int) d (laterL line q d) (closedL line).1 c = some true := by
      intro c hcc
      rw [laws_FnSlower.j1]
      by_cases h : c = true
      · have h60 := hcc h
        rw [if_pos h]
        simp only [Option.bind_some, List.length_nil, List.nil_append]
        rw [if_pos (by omega), if_pos (by omega), if_pos (by omega), rd_impl_Ship hq, i8w (n := d) (by omega) (by omega), i8w (n := line[q].f1 + d) (by omega) (by omega), Int.toNat_natCast]
        have v2 : ValidL (line.set q ⟨(line[q]).f0, (line[q]).f1 + d, (line[q]).f2⟩) := ⟨by simp; omega, by simp; omega, fun x hx' => by
          rcases List.mem_or_eq_of_mem_set hx' with h_ | h_
          · exact v.ships x h_
          · subst h_
            simp only
            omega⟩
        have hw2 : ∀ x ∈ line.set q ⟨(line[q]).f0, (line[q]).f1 + d, (line[q]).f2⟩, wfShip x := fun x hx' => by
          have := v2.ships x hx'
          refine ⟨?_, ?_, ?_⟩ <;> simp [Lit.wf, IntKind.min, IntKind.max, IntKind.signed, IntKind.bits] <;> omega
        rw [implAllClosed_eq (k := K + 1) hw2 (by omega)]
        have ra2 : resAllClosed (line.set q ⟨(line[q]).f0, (line[q]).f1 + d, (line[q]).f2⟩) = ((closedL (line.set q ⟨(line[q]).f0, (line[q]).f1 + d, (line[q]).f2⟩)).1, (closedL (line.set q ⟨(line[q]).f0, (line[q]).f1 + d, (line[q]).f2⟩)).2, 0) := if_pos ((validB_iff hw2).2 v2)
        rw [ra2]
        simp only [Option.bind_some, if_true]
        have hcl := slowed_closed hq d
        have hlc := later_closed line q d
        rw [closed_zero] at hlc
        have hsm := v.timesOK.small (by have := timesL_len (-1) 0 line; omega) (lastAt (timesL (-1) 0 line) line.length)
        have hcb : (closedL line).1 ≤ 5000 ∧ -1 ≤ (closedL line).1 := ⟨hsm.2, hsm.1⟩
        rw [if_pos (by rw [w64 (by omega) (by omega)]; omega)]
        exact hj2
      · rw [if_neg h]
        exact hj2
    have hj0 : laws_FnSlower.j0 (K + 1 + 1 + 1) line (q : Int) d (laterL line q d) false = some true := by
      rw [laws_FnSlower.j0, if_neg (by decide), implAllClosed_eq (k := K + 1 + 1) hw (by omega), ra]
      simp only [Option.bind_some, if_true]
      by_cases h : (q : Int) > 0
      · rw [if_pos h, if_pos (by omega), if_pos (by omega), rd_impl_Ship hq, w64 (n := line[q].f1) (by omega) (by omega), w64 (n := line[q].f1 + d) (by omega) (by omega)]
        exact hj1 _ (fun h_ => by simpa using h_)
      · rw [if_neg h]
        exact hj1 _ (fun h_ => by cases h_)
    have hl : laws_a2Long.f l0 l1 = some false := by
      unfold laws_a2Long.f
      rw [if_neg (by omega), decide_eq_false (by omega)]
    unfold laws_FnSlower.f
    rw [hl]
    simp only [Option.bind_some]
    rw [if_neg (by decide), e1]
    simp only [Option.bind_some]
    rw [e2]
    simp only [Option.bind_some]
    rw [e3]
    simp only [Option.bind_some]
    rw [f1, f2, f3, f4]
    simp only [Option.bind_some, if_true]
    rw [if_neg (by omega), if_neg (by omega), if_neg (by omega), if_neg (by omega)]
    have : ((laterL line q d == 0) != decide (d ≤ slackL line q 60 0)) = false := by
      by_cases h : laterL line q d = 0
      · simp [h, si.1 h]
      · have h2 : ¬ d ≤ slackL line q 60 0 := fun h_ => h (si.2 h_)
        simp [h, h2]
    rw [this]
    exact hj0
end Go.Proofs.Ytjglinmilhenjaa.G.Pure
end
