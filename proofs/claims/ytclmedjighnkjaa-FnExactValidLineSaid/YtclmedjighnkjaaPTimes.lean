/- Plain lemmas over lists and numbers. -/
import Derived.Test.YtclmedjighnkjaaG0base
namespace Go.Proofs.Ytclmedjighnkjaa.G.Pure
open Go.RowKit Go.Proofs.Ytclmedjighnkjaa.G Go.Proofs.YtclmedjighnkjaaW.PrintWords Go.Proofs.YtclmedjighnkjaaW.PrintLast Go.Proofs.YtclmedjighnkjaaW.PrintMore
set_option linter.unusedVariables false
set_option linter.unusedSimpArgs false
/-! The times of a line: what both programs come to. -/
abbrev Sp := S60
abbrev Tm := S69
/-- From whom a ship reads: the first one, of those that fly earliest, among the ships a, a + 1, .., a + n - 1. -/
def scan (pre : List Tm) (a : Nat) : Nat → Int × Int
  | 0 => (-1, -1)
  | n + 1 => match scan pre a n with
    | (f, s) => match pre[a + n]? with
      | some t => if 0 ≤ t.f3 ∧ (f < 0 ∨ t.f3 < s) then (((a + n : Nat) : Int), t.f3) else (f, s)
      | none => (f, s)
/-- The times of a ship with so many ships ahead. -/
def dueL (pre : List Tm) (x : Sp) (read : Int) : Tm :=
  if pre.length = 0 then ⟨-1, 0, 0, x.f2⟩ else
    match scan pre (pre.length - x.f0.toNat) (pre.length - (pre.length - x.f0.toNat)) with
    | (f, s) => if 0 ≤ f then ⟨f, s, s + read, s + read + x.f2⟩ else ⟨-1, -1, -1, -1⟩
def timesGo (ship more : Int) : List Sp → List Tm → List Tm
  | [], acc => acc
  | x :: xs, acc => timesGo ship more xs (acc ++ [dueL acc x (x.f1 + if (acc.length : Int) = ship then more else 0)])
def timesL (ship more : Int) (l : List Sp) : List Tm := timesGo ship more l []
/-- What is known of times. -/
structure TimesOK (ts : List Tm) : Prop where
  first : ∀ t, ts[0]? = some t → t.f0 = -1 ∧ t.f1 = 0 ∧ t.f2 = 0 ∧ 0 ≤ t.f3
  bound : ∀ (i : Nat) t, ts[i]? = some t → t.f3 ≤ 200 * ((i : Int) + 1) ∧ t.f2 ≤ t.f3 ∧ t.f1 ≤ t.f2
  later : ∀ (i : Nat) t, ts[i]? = some t → 0 < i → (t = ⟨-1, -1, -1, -1⟩) ∨ (0 ≤ t.f0 ∧ t.f0 < (i : Int) ∧ 0 ≤ t.f1 ∧ ∃ u, ts[t.f0.toNat]? = some u ∧ u.f3 = t.f1)
theorem TimesOK.nil : TimesOK [] := ⟨fun t h => by simp at h, fun i t h => by simp at h, fun i t h => by simp at h⟩
theorem scan_spec (pre : List Tm) (hok : TimesOK pre) (a n : Nat) (h : a + n ≤ pre.length) :
    (scan pre a n = (-1, -1) ∨ (0 ≤ (scan pre a n).1 ∧ (scan pre a n).1 < ((a + n : Nat) : Int) ∧ 0 ≤ (scan pre a n).2 ∧ (scan pre a n).2 ≤ 200 * ((a + n : Nat) : Int) ∧ ∃ u, pre[(scan pre a n).1.toNat]? = some u ∧ u.f3 = (scan pre a n).2)) := by
  induction n with
  | zero => exact .inl rfl
  | succ n ih =>
    have hi : a + n < pre.length := by omega
    have e : pre[a + n]? = some pre[a + n] := List.getElem?_eq_getElem hi
    have hb := hok.bound _ _ e
    obtain ih := ih (by omega)
    rcases hs : scan pre a n with ⟨f, s⟩
    rw [hs] at ih
    simp only [scan, hs, e]
    split
    · right
      exact ⟨by simp only; omega, by simp only; omega, by simp only; omega, by simp only; omega, pre[a + n], by show pre[((a + n : Nat) : Int).toNat]? = _; rw [Int.toNat_natCast]; exact e, rfl⟩
    · rcases ih with ih | ih
      · exact .inl ih
      · right
        exact ⟨ih.1, by omega, ih.2.2.1, by omega, ih.2.2.2.2⟩
/-- A ship as it may stand in a line: what it needs to read may be longer by up to 60. -/
def shipIn (x : Sp) : Prop := 0 ≤ x.f0 ∧ x.f0 ≤ 6 ∧ 0 ≤ x.f1 ∧ x.f1 ≤ 120 ∧ 0 ≤ x.f2 ∧ x.f2 ≤ 60
theorem due_ok {pre : List Tm} (hok : TimesOK pre) {x : Sp} {read : Int} (h2 : 0 ≤ x.f2 ∧ x.f2 ≤ 60) (hr : 0 ≤ read ∧ read ≤ 120) : TimesOK (pre ++ [dueL pre x read]) := by
  have hs := scan_spec pre hok (pre.length - x.f0.toNat) (pre.length - (pre.length - x.f0.toNat)) (by omega)
  rw [show pre.length - x.f0.toNat + (pre.length - (pre.length - x.f0.toNat)) = pre.length by omega] at hs
  unfold dueL
  rcases hsc : scan pre (pre.length - x.f0.toNat) (pre.length - (pre.length - x.f0.toNat)) with ⟨f, s⟩
  rw [hsc] at hs
  simp only at hs
  refine ⟨fun t ht => ?_, fun i t ht => ?_, fun i t ht hi => ?_⟩
  · rcases Nat.eq_zero_or_pos pre.length with h0 | h0
    · rw [List.getElem?_append_right (by omega), if_pos h0] at ht
      simp [h0] at ht
      subst ht
      exact ⟨rfl, rfl, rfl, h2.1⟩
    · rw [List.getElem?_append_left h0] at ht
      exact hok.first t ht
  · rcases Nat.lt_or_ge i pre.length with hi | hi
    · rw [List.getElem?_append_left hi] at ht
      exact hok.bound i t ht
    · rw [List.getElem?_append_right hi] at ht
      have h0 : i - pre.length = 0 := by
        rcases Nat.eq_zero_or_pos (i - pre.length) with h | h
        · exact h
        · rw [List.getElem?_eq_none (by simp; omega)] at ht
          cases ht
      rw [h0] at ht
      simp only [List.getElem?_cons_zero, Option.some.injEq] at ht
      split at ht
      · subst ht
        simp only
        omega
      · split at ht
        · subst ht
          rcases hs with hs | hs
          · simp only [Prod.mk.injEq] at hs
            omega
          · simp only
            omega
        · subst ht
          simp only
          omega
  · rcases Nat.lt_or_ge i pre.length with hl | hl
    · rw [List.getElem?_append_left hl] at ht
      rcases hok.later i t ht hi with h | ⟨h1, h2, h3, u, hu, h4⟩
      · exact .inl h
      · refine .inr ⟨h1, h2, h3, u, ?_, h4⟩
        rw [List.getElem?_append_left (by omega)]
        exact hu
    · rw [List.getElem?_append_right hl] at ht
      have h0 : i - pre.length = 0 := by
        rcases Nat.eq_zero_or_pos (i - pre.length) with h | h
        · exact h
        · rw [List.getElem?_eq_none (by simp; omega)] at ht
          cases ht
      rw [h0] at ht
      simp only [List.getElem?_cons_zero, Option.some.injEq] at ht
      rw [if_neg (by omega)] at ht
      split at ht
      · rcases hs with hs | ⟨h1, h2, h3, h4, u, hu, h5⟩
        · simp only [Prod.mk.injEq] at hs
          omega
        · subst ht
          refine .inr ⟨h1, by simp only; omega, h3, u, ?_, h5⟩
          simp only
          rw [List.getElem?_append_left (by omega)]
          exact hu
      · exact .inl ht.symm
theorem timesGo_len (ship more : Int) : ∀ (l : List Sp) (acc : List Tm), (timesGo ship more l acc).length = acc.length + l.length
  | [], acc => by simp [timesGo]
  | x :: xs, acc => by
    simp only [timesGo]
    rw [timesGo_len ship more xs]
    simp
    omega
theorem timesL_len (ship more : Int) (l : List Sp) : (timesL ship more l).length = l.length := by
  simp [timesL, timesGo_len]
theorem timesGo_ok (ship more : Int) : ∀ (l : List Sp) (acc : List Tm), TimesOK acc → (∀ x ∈ l, 0 ≤ x.f2 ∧ x.f2 ≤ 60) → (∀ i x, l[i]? = some x → 0 ≤ x.f1 + (if ((acc.length + i : Nat) : Int) = ship then more else 0) ∧ x.f1 + (if ((acc.length + i : Nat) : Int) = ship then more else 0) ≤ 120) → TimesOK (timesGo ship more l acc)
  | [], acc, h, _, _ => h
  | x :: xs, acc, h, h2, hr => by
    simp only [timesGo]
    have h0 := hr 0 x rfl
    refine timesGo_ok ship more xs _ (due_ok h (h2 x (by simp)) (by simpa using h0)) (fun y hy => h2 y (by simp [hy])) (fun i y hy => ?_)
    have := hr (i + 1) y (by simpa using hy)
    simp only [List.length_append, List.length_singleton]
    rw [show acc.length + 1 + i = acc.length + (i + 1) by omega]
    exact this

end Go.Proofs.Ytclmedjighnkjaa.G.Pure
