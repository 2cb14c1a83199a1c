/- The law's functions, their contracts, and the plain lemmas: texts of this claim, laid together. -/
import Derived.Test.YtheenidapjkboaaMFnExactWrongShips0
import Derived.Test.YtheenidapjkboaaMFnExactWrongShips1
import Derived.Test.YtheenidapjkboaaMFnExactWrongShips2
import Derived.Test.YtheenidapjkboaaMFnExactWrongShips3
import Derived.Test.YtheenidapjkboaaMFnExactWrongShips4
section
namespace Go.Proofs.Ytheenidapjkboaa.G.Pure
open Go.RowKit Go.Proofs.Ytheenidapjkboaa.G Go.Proofs.YtheenidapjkboaaW.PrintWords Go.Proofs.YtheenidapjkboaaW.PrintLast Go.Proofs.YtheenidapjkboaaW.PrintMore
set_option linter.unusedVariables false
set_option linter.unusedSimpArgs false
def mstep (n : Int) (s : List Int × Nat) : Option (List Int × Nat) :=
  if n = -10 then (if s.2 = s.1.length then none else some (s.1 ++ [n], s.1.length + 1))
  else if -4 ≤ n ∧ n ≤ -1 then (if s.2 + (-n).toNat - 1 < s.1.length then some (s.1 ++ [rd s.1 ((s.2 + (-n).toNat - 1 : Nat) : Int)], s.2) else none)
  else if 0 ≤ n ∧ n ≤ 39 then some (s.1 ++ [n], s.2) else none
def mto (h : List Int) : Nat → Option (List Int × Nat)
  | 0 => some ([], 0)
  | n + 1 => (mto h n).bind (mstep (rd h (n : Int)))
def MOk (s : List Int × Nat) (n : Nat) : Prop := s.1.length = n ∧ s.2 ≤ n ∧ ∀ j (h : j < s.1.length), s.2 ≤ j → 0 ≤ s.1[j] ∧ s.1[j] ≤ 39
theorem mto_ok {h : List Int} : ∀ n {s : List Int × Nat}, mto h n = some s → MOk s n := by
  intro n
  induction n with
  | zero => intro s hs; cases hs; exact ⟨rfl, Nat.le_refl _, fun j h => by simp at h⟩
  | succ n ih =>
    intro s hs
    rw [mto] at hs
    obtain ⟨s0, h0, h1⟩ := Option.bind_eq_some_iff.1 hs
    obtain ⟨i1, i2, i3⟩ := ih h0
    unfold mstep at h1
    split at h1
    · split at h1
      · cases h1
      · cases h1
        refine ⟨by simp [i1], by simp only; omega, fun j hj h => ?_⟩
        simp only [List.length_append, List.length_singleton] at hj h
        omega
    · split at h1
      · split at h1
        · rename_i hin
          cases h1
          refine ⟨by simp [i1], by simp only; omega, fun j hj h => ?_⟩
          simp only [List.length_append, List.length_singleton] at hj h
          rcases Nat.lt_or_ge j s0.1.length with e | e
          · simp only [List.getElem_append_left e]
            exact i3 j e h
          · obtain rfl : j = s0.1.length := by omega
            simp only [List.getElem_append_right (Nat.le_refl _), Nat.sub_self, List.getElem_cons_zero]
            rw [rd_nat hin]
            exact i3 _ hin (by omega)
        · cases h1
      · split at h1
        · rename_i hk
          cases h1
          refine ⟨by simp [i1], by simp only; omega, fun j hj h => ?_⟩
          simp only [List.length_append, List.length_singleton] at hj h
          rcases Nat.lt_or_ge j s0.1.length with e | e
          · simp only [List.getElem_append_left e]
            exact i3 j e h
          · obtain rfl : j = s0.1.length := by omega
            simp only [List.getElem_append_right (Nat.le_refl _), Nat.sub_self, List.getElem_cons_zero]
            exact hk
        · cases h1
theorem mto_none {h : List Int} {i n : Nat} (hh : mto h i = none) (hi : i ≤ n) : mto h n = none := by
  induction n with
  | zero => obtain rfl : i = 0 := by omega
            exact hh
  | succ n ih =>
    rcases Nat.lt_or_ge i (n + 1) with h1 | h1
    · rw [mto, ih (by omega)]
      rfl
    · obtain rfl : i = n + 1 := by omega
      exact hh
def meanO (h : List Int) : Option (List Int) := if 1 ≤ h.length ∧ h.length ≤ 8 then (match mto h h.length with | some s => if s.2 < s.1.length then some s.1 else none | none => none) else none
theorem kind_eq (n : Int) (h0 : -128 ≤ n) (h1 : n ≤ 127) : impl_isKind.f n = some (decide (0 ≤ n) && decide (n ≤ 39)) := by
  unfold impl_isKind.f impl_within.f
  rw [w64 (by omega) (by omega)]
  by_cases h : 0 ≤ n <;> simp [h]
theorem within8 (n lo hi : Int) : impl_within.f n lo hi = some (decide (lo ≤ n) && decide (n ≤ hi)) := by
  unfold impl_within.f
  split <;> simp [*]
def wfH (h : List Int) : Prop := ∀ x ∈ h, (Lit.int .i8 x).wf = true
theorem wfH_at {h : List Int} (hw : wfH h) {i : Nat} (hi : i < h.length) : -128 ≤ rd h (i : Int) ∧ rd h (i : Int) ≤ 127 := by
  rw [rd_nat hi]
  exact i8b (hw _ (List.getElem_mem hi))
theorem mean_A {h : List Int} (hl : h.length ≤ 1048576) {i : Nat} (hi : i < h.length) {a : List Int} {g : Nat} (o1 : a.length = i) (o2 : g ≤ i) (K1 : Nat) (hn : rd h (i : Int) = -10) :
    impl_Hoist_meaning.l0 (K1 + 1) h a (g : Int) h (h.length : Int) (i : Int) = if g = a.length then some ([], false) else impl_Hoist_meaning.l0 K1 h (a ++ [rd h (i : Int)]) ((a.length + 1 : Nat) : Int) h (h.length : Int) ((i + 1 : Nat) : Int) := by
  rw [show ((i + 1 : Nat) : Int) = (i : Int) + 1 by omega]
  simp only [impl_Hoist_meaning.l0]
  rw [if_pos (by omega), if_pos (by omega), if_pos (by omega), if_pos hn]
  by_cases hg : g = a.length
  · rw [if_pos hg, if_pos (by omega)]
  · rw [if_neg hg, if_neg (by omega), if_pos (by omega)]
    simp only [Option.bind_some]
    rw [w64 (by omega) (by omega), List.length_append, List.length_singleton]
theorem mean_j {K : Nat} {h a : List Int} {g : Nat} {i : Nat} {n : Int} (hl : h.length ≤ 1048576) (hi : i < h.length) (o1 : a.length = i) (x8 : Int) (hn : -128 ≤ n ∧ n ≤ 127) :
    impl_Hoist_meaning.j1 (K + 1) h a (g : Int) n x8 h (h.length : Int) (i : Int) false = if 0 ≤ n ∧ n ≤ 39 then impl_Hoist_meaning.l0 K h (a ++ [n]) (g : Int) h (h.length : Int) ((i + 1 : Nat) : Int) else some ([], false) := by
  rw [show ((i + 1 : Nat) : Int) = (i : Int) + 1 by omega]
  simp only [impl_Hoist_meaning.j1]
  rw [if_neg (by simp), kind_eq _ (by omega) (by omega)]
  simp only [Option.bind_some]
  by_cases hk : 0 ≤ n ∧ n ≤ 39
  · rw [if_pos hk, if_pos (by simp [hk]), if_pos (by omega), w64 (by omega) (by omega)]
  · rw [if_neg hk, if_neg (by simpa using hk)]
theorem mean_jt {K : Nat} {h a : List Int} {g : Nat} {i : Nat} {n : Int} (hl : h.length ≤ 1048576) (hi : i < h.length) (o1 : a.length = i) {p : Nat} (hp : p < a.length) (hk : 0 ≤ a[p] ∧ a[p] ≤ 39) :
    impl_Hoist_meaning.j1 (K + 1) h a (g : Int) n (p : Int) h (h.length : Int) (i : Int) true = impl_Hoist_meaning.l0 K h (a ++ [rd a (p : Int)]) (g : Int) h (h.length : Int) ((i + 1 : Nat) : Int) := by
  rw [show ((i + 1 : Nat) : Int) = (i : Int) + 1 by omega]
  simp only [impl_Hoist_meaning.j1]
  rw [if_pos trivial, if_pos (by omega), if_pos (by omega), rd_nat hp, kind_eq _ (by omega) (by omega)]
  simp only [Option.bind_some]
  rw [if_pos (by simp [hk]), if_pos (by omega), w64 (by omega) (by omega)]
theorem mean_l {K : Nat} {h a : List Int} {g : Nat} {i : Nat} (hl : h.length ≤ 1048576) (hi : i < h.length) (o1 : a.length = i) (o2 : g ≤ i) (hb : -128 ≤ rd h (i : Int) ∧ rd h (i : Int) ≤ 127) (hn : ¬rd h (i : Int) = -10) :
    impl_Hoist_meaning.l0 (K + 1) h a (g : Int) h (h.length : Int) (i : Int) = if -4 ≤ rd h (i : Int) ∧ rd h (i : Int) ≤ -1 then impl_Hoist_meaning.j1 K h a (g : Int) (rd h (i : Int)) ((g : Int) - rd h (i : Int) - 1) h (h.length : Int) (i : Int) (decide ((g : Int) - rd h (i : Int) - 1 < (a.length : Int))) else impl_Hoist_meaning.j1 K h a (g : Int) (rd h (i : Int)) ((g : Int) - rd h (i : Int) - 1) h (h.length : Int) (i : Int) false := by
  generalize hr : impl_Hoist_meaning.j1 K = J
  simp only [impl_Hoist_meaning.l0]
  rw [if_pos (by omega), if_pos (by omega), if_pos (by omega), if_neg hn, within8, w64 (n := rd h (i : Int)) (by omega) (by omega), w64 (n := (g : Int) - rd h (i : Int)) (by omega) (by omega), w64 (n := (g : Int) - rd h (i : Int) - 1) (by omega) (by omega), hr]
  simp only [Option.bind_some]
  by_cases hsub : -4 ≤ rd h (i : Int) ∧ rd h (i : Int) ≤ -1
  · rw [if_pos hsub, if_pos (by simp [hsub])]
  · rw [if_neg hsub, if_neg (by simpa using hsub)]
theorem implMean_step {h : List Int} (hw : wfH h) (hl : h.length ≤ 1048576) {i : Nat} (hi : i < h.length) {s : List Int × Nat} (hs : mto h i = some s) (K : Nat) :
    impl_Hoist_meaning.l0 (K + 2) h s.1 (s.2 : Int) h (h.length : Int) (i : Int) = some ([], false) ∧ mto h (i + 1) = none ∨ ∃ s', mto h (i + 1) = some s' ∧ ∃ K', (K' = K ∨ K' = K + 1) ∧ impl_Hoist_meaning.l0 (K + 2) h s.1 (s.2 : Int) h (h.length : Int) (i : Int) = impl_Hoist_meaning.l0 K' h s'.1 (s'.2 : Int) h (h.length : Int) ((i + 1 : Nat) : Int) := by
  obtain ⟨o1, o2, o3⟩ := mto_ok i hs
  have hb := wfH_at hw hi
  have hm : mto h (i + 1) = mstep (rd h (i : Int)) s := by rw [mto, hs, Option.bind_some]
  rw [hm]
  unfold mstep
  by_cases hn : rd h (i : Int) = -10
  · rw [if_pos hn, mean_A hl hi o1 o2 (K + 1) hn]
    by_cases hg : s.2 = s.1.length
    · rw [if_pos hg, if_pos hg]
      exact .inl (And.intro (Eq.refl _) (Eq.refl _))
    · rw [if_neg hg, if_neg hg]
      exact .inr (Exists.intro _ (And.intro (Eq.refl _) (Exists.intro (K + 1) (And.intro (.inr (Eq.refl _)) (Eq.refl _)))))
  · rw [if_neg hn, mean_l hl hi o1 o2 hb hn]
    by_cases hsub : -4 ≤ rd h (i : Int) ∧ rd h (i : Int) ≤ -1
    · rw [if_pos hsub, if_pos hsub]
      have hat : (s.2 : Int) - rd h (i : Int) - 1 = ((s.2 + (-rd h (i : Int)).toNat - 1 : Nat) : Int) := by omega
      rw [hat]
      by_cases hlt : s.2 + (-rd h (i : Int)).toNat - 1 < s.1.length
      · have hk := o3 _ hlt (by omega)
        rw [if_pos hlt, decide_eq_true (by omega : ((s.2 + (-rd h (i : Int)).toNat - 1 : Nat) : Int) < (s.1.length : Int)), mean_jt hl hi o1 hlt hk]
        exact .inr (Exists.intro _ (And.intro (Eq.refl _) (Exists.intro K (And.intro (.inl (Eq.refl _)) (Eq.refl _)))))
      · rw [if_neg hlt, decide_eq_false (by omega : ¬((s.2 + (-rd h (i : Int)).toNat - 1 : Nat) : Int) < (s.1.length : Int)), mean_j hl hi o1 _ hb, if_neg (by omega)]
        exact .inl (And.intro (Eq.refl _) (Eq.refl _))
    · rw [if_neg hsub, if_neg hsub, mean_j hl hi o1 _ hb]
      by_cases hk : 0 ≤ rd h (i : Int) ∧ rd h (i : Int) ≤ 39
      · rw [if_pos hk, if_pos hk]
        exact .inr (Exists.intro _ (And.intro (Eq.refl _) (Exists.intro K (And.intro (.inl (Eq.refl _)) (Eq.refl _)))))
      · rw [if_neg hk, if_neg hk]
        exact .inl (And.intro (Eq.refl _) (Eq.refl _))
theorem implMean_all {h : List Int} (hw : wfH h) (hl : h.length ≤ 1048576) : ∀ d i s K, i + d = h.length → mto h i = some s → 2 * d + 1 ≤ K → ∃ o, impl_Hoist_meaning.l0 K h s.1 (s.2 : Int) h (h.length : Int) (i : Int) = some (o, (meanO h).isSome) ∧ (∀ m, meanO h = some m → o = m) := by
  intro d
  induction d with
  | zero =>
    intro i s K hi hs hK
    obtain ⟨K, rfl⟩ : ∃ m, K = m + 1 := ⟨K - 1, by omega⟩
    obtain rfl : i = h.length := by omega
    simp only [impl_Hoist_meaning.l0]
    rw [if_neg (by omega)]
    simp only [impl_size_int8.f, Option.bind_some, within8]
    unfold meanO
    rw [hs]
    by_cases hin : 1 ≤ h.length ∧ h.length ≤ 8
    · rw [if_pos hin, if_pos (by simp; omega)]
      by_cases hg : s.2 < s.1.length
      · exact ⟨s.1, by simp [hg], fun m hm => by simpa [hg] using hm⟩
      · exact ⟨s.1, by simp [hg], fun m hm => by simp [hg] at hm⟩
    · rw [if_neg hin, if_neg (by simp; omega)]
      exact ⟨s.1, rfl, fun m hm => by cases hm⟩
  | succ d ih =>
    intro i s K hi hs hK
    obtain ⟨K, rfl⟩ : ∃ m, K = m + 2 := ⟨K - 2, by omega⟩
    rcases implMean_step hw hl (by omega : i < h.length) hs K with ⟨h1, h2⟩ | ⟨s', h1, K', hK', h2⟩
    · have : meanO h = none := by
        unfold meanO
        rw [mto_none h2 (by omega)]
        split <;> rfl
      rw [h1, this]
      exact ⟨[], rfl, fun m hm => by cases hm⟩
    · rw [h2]
      exact ih (i + 1) s' K' (by omega) h1 (by omega)
theorem implMean_eq {k : Nat} {h : List Int} (hw : wfH h) (hl : h.length ≤ 1048576) (hk : 2200000 < k) : ∃ o, impl_Hoist_meaning.f k h = some (o, (meanO h).isSome) ∧ ∀ m, meanO h = some m → o = m := by
  unfold impl_Hoist_meaning.f
  exact implMean_all hw hl h.length 0 ([], 0) k (by omega) rfl (by omega)
theorem implValidH {k : Nat} {h : List Int} (hw : wfH h) (hl : h.length ≤ 1048576) (hk : 2200000 < k) : impl_ValidHoist.f k h = some (meanO h).isSome := by
  obtain ⟨o, h1, _⟩ := implMean_eq hw hl hk
  unfold impl_ValidHoist.f
  rw [h1]
  rfl
theorem group_end {h : List Int} {n : Nat} {s s' : List Int × Nat} (hs : mto h n = some s) (hs' : mstep (rd h (n : Int)) s = some s') : (rd h (n : Int) = -10 ↔ s'.2 = n + 1) := by
  obtain ⟨o1, o2, _⟩ := mto_ok n hs
  unfold mstep at hs'
  split at hs'
  · rename_i hn
    split at hs'
    · cases hs'
    · cases hs'
      exact ⟨fun _ => by simp only; omega, fun _ => hn⟩
  · rename_i hn
    split at hs'
    · split at hs'
      · cases hs'
        exact ⟨fun h => absurd h hn, fun h => by simp only at h; omega⟩
      · cases hs'
    · split at hs'
      · cases hs'
        exact ⟨fun h => absurd h hn, fun h => by simp only at h; omega⟩
      · cases hs'
set_option maxHeartbeats 1000000 in
theorem specMean_all {h : List Int} (hw : wfH h) (hl : 1 ≤ h.length ∧ h.length ≤ 8) : ∀ d i s K, i + d = h.length → mto h i = some s → (i = h.length → s.2 < i) → 3 * d + 1 ≤ K → spec_l02Read.l0 K h (h.length : Int) s.1 (s.2 : Int) (i : Int) = some (match meanO h with | some m => (m, true) | none => ([], false)) := by
  intro d
  induction d with
  | zero =>
    intro i s K hi hs hlast hK
    obtain ⟨K, rfl⟩ : ∃ m, K = m + 1 := ⟨K - 1, by omega⟩
    obtain rfl : i = h.length := by omega
    have o := mto_ok _ hs
    simp only [spec_l02Read.l0]
    rw [if_neg (by omega)]
    unfold meanO
    rw [if_pos hl, hs]
    simp only
    rw [if_pos (by rw [o.1]; exact hlast rfl)]
  | succ d ih =>
    intro i s K hi hs hlast hK
    have hil : i < h.length := by omega
    obtain ⟨o1, o2, o3⟩ := mto_ok i hs
    have hb := wfH_at hw hil
    have hm : mto h (i + 1) = mstep (rd h (i : Int)) s := by rw [mto, hs]; rfl
    have hnone : mstep (rd h (i : Int)) s = none → meanO h = none := fun hh => by
      unfold meanO
      rw [mto_none (hm.trans hh) (by omega)]
      split <;> rfl
    have hfwd : ∀ s' K', mstep (rd h (i : Int)) s = some s' → (i + 1 = h.length → rd h (i : Int) ≠ -10) → 3 * d + 1 ≤ K' → spec_l02Read.l0 K' h (h.length : Int) s'.1 (s'.2 : Int) ((i + 1 : Nat) : Int) = some (match meanO h with | some m => (m, true) | none => ([], false)) := fun s' K' hs' hne hK' => by
      have o' := mto_ok (i + 1) (hm.trans hs')
      refine ih (i + 1) s' K' (by omega) (hm.trans hs') (fun he => ?_) hK'
      have g := group_end hs hs'
      have := hne he
      have := o'.2.1
      rcases Nat.lt_or_ge s'.2 (i + 1) with e | e
      · exact e
      · exact absurd (g.2 (by omega)) (hne he)
    obtain ⟨K, rfl⟩ : ∃ m, K = m + 3 := ⟨K - 3, by omega⟩
    rw [show K + 3 = (K + 2) + 1 from rfl]
    generalize hK2 : K + 2 = K2
    simp only [spec_l02Read.l0]
    rw [if_pos (by omega), if_pos (by omega), if_pos (by omega)]
    unfold mstep at hnone hfwd
    generalize rd h (i : Int) = n at *
    by_cases hn : n = -10
    · rw [if_pos hn] at hnone hfwd ⊢
      by_cases hg : s.2 = s.1.length
      · rw [if_pos (by omega), hnone (by rw [if_pos hg])]
      · rw [if_neg (by omega)]
        by_cases hlst : i + 1 = h.length
        · rw [if_pos (by rw [w64 (by omega) (by omega)]; omega)]
          have hmn : meanO h = none := by
            unfold meanO
            rw [if_pos hl]
            have e2 : mto h h.length = some (s.1 ++ [n], s.1.length + 1) := by
              rw [← hlst, hm]
              unfold mstep
              rw [if_pos hn, if_neg hg]
            rw [e2]
            simp only
            rw [if_neg (by simp)]
          rw [hmn]
        · rw [if_neg (by rw [w64 (by omega) (by omega)]; omega), if_pos (by omega), w64 (by omega) (by omega)]
          have := hfwd (s.1 ++ [n], s.1.length + 1) K2 (by rw [if_neg hg]) (fun h => absurd h hlst) (by omega)
          rw [show ((i + 1 : Nat) : Int) = (i : Int) + 1 by omega] at this
          rw [← this]
          simp only
          rw [show ((s.1.length + 1 : Nat) : Int) = (i : Int) + 1 by omega]
    · rw [if_neg hn] at hnone hfwd ⊢
      rw [show K2 = (K + 1) + 1 by omega]
      generalize hK1 : K + 1 = K1
      have hj1 : (if n ≥ 0 then (spec_l02Read.j1 (K1 + 1) h (h.length : Int) s.1 (s.2 : Int) (i : Int) n (decide (n < 40))) else (spec_l02Read.j1 (K1 + 1) h (h.length : Int) s.1 (s.2 : Int) (i : Int) n false)) = spec_l02Read.j1 (K1 + 1) h (h.length : Int) s.1 (s.2 : Int) (i : Int) n (decide (0 ≤ n ∧ n ≤ 39)) := by
        by_cases h0 : 0 ≤ n
        · rw [if_pos h0]
          congr 1
          rw [decide_eq_decide]
          omega
        · rw [if_neg h0, decide_eq_false (by omega)]
      rw [hj1]
      by_cases hk : 0 ≤ n ∧ n ≤ 39
      · rw [if_neg (by omega), if_pos hk] at hnone hfwd
        rw [decide_eq_true hk]
        simp only [spec_l02Read.j1]
        rw [if_pos trivial, if_pos (by omega), w64 (by omega) (by omega)]
        have := hfwd (s.1 ++ [n], s.2) K1 rfl (fun _ => hn) (by omega)
        rw [show ((i + 1 : Nat) : Int) = (i : Int) + 1 by omega] at this
        exact this
      · rw [decide_eq_false hk]
        simp only [spec_l02Read.j1]
        rw [if_neg (by simp), ← hK1]
        have hj2 : (if n < 0 then (spec_l02Read.j2 (K + 1) h (h.length : Int) s.1 (s.2 : Int) (i : Int) n (decide (n ≥ (-4)))) else (spec_l02Read.j2 (K + 1) h (h.length : Int) s.1 (s.2 : Int) (i : Int) n false)) = spec_l02Read.j2 (K + 1) h (h.length : Int) s.1 (s.2 : Int) (i : Int) n (decide (-4 ≤ n ∧ n ≤ -1)) := by
          by_cases h0 : n < 0
          · rw [if_pos h0]
            congr 1
            rw [decide_eq_decide]
            omega
          · rw [if_neg h0, decide_eq_false (by omega)]
        rw [hj2]
        by_cases hsub : -4 ≤ n ∧ n ≤ -1
        · rw [if_pos hsub] at hnone hfwd
          rw [decide_eq_true hsub]
          simp only [spec_l02Read.j2]
          rw [if_pos trivial, i8w (n := -n) (by omega) (by omega), w64 (n := -n) (by omega) (by omega), w64 (n := (s.2 : Int) + -n) (by omega) (by omega), w64 (n := (s.2 : Int) + -n - 1) (by omega) (by omega)]
          have hat : (s.2 : Int) + -n - 1 = ((s.2 + (-n).toNat - 1 : Nat) : Int) := by omega
          rw [hat]
          by_cases hlt : s.2 + (-n).toNat - 1 < s.1.length
          · rw [if_neg (by omega), if_pos (by omega), if_pos (by omega), if_pos (by omega), w64 (by omega) (by omega)]
            rw [if_pos hlt] at hfwd
            have := hfwd _ K rfl (fun _ => hn) (by omega)
            rw [show ((i + 1 : Nat) : Int) = (i : Int) + 1 by omega] at this
            exact this
          · rw [if_pos (by omega), hnone (by rw [if_neg hlt])]
        · rw [if_neg hsub, if_neg hk] at hnone
          rw [decide_eq_false hsub]
          simp only [spec_l02Read.j2]
          rw [if_neg (by simp), hnone rfl]
theorem specMean_eq {k : Nat} {h : List Int} (hw : wfH h) (hk : 100 < k) : spec_l02Read.f k h = some (match meanO h with | some m => (m, true) | none => ([], false)) := by
  unfold spec_l02Read.f
  rw [in_eq]
  simp only [Option.bind_some]
  by_cases hl : 1 ≤ h.length ∧ h.length ≤ 8
  · rw [if_pos (by simp; omega)]
    exact specMean_all hw hl h.length 0 ([], 0) k (by omega) rfl (by omega) (by omega)
  · rw [if_neg (by simp; omega)]
    unfold meanO
    rw [if_neg hl]
theorem specOkH {k : Nat} {h : List Int} (hw : wfH h) (hk : 100 < k) : spec_l02Ok.f k h = some (meanO h).isSome := by
  unfold spec_l02Ok.f
  rw [specMean_eq hw hk]
  cases meanO h <;> rfl
end Go.Proofs.Ytheenidapjkboaa.G.Pure
end

section
namespace Go.Proofs.Ytheenidapjkboaa.G.Pure
open Go.RowKit Go.Proofs.Ytheenidapjkboaa.G Go.Proofs.YtheenidapjkboaaW.PrintWords Go.Proofs.YtheenidapjkboaaW.PrintLast Go.Proofs.YtheenidapjkboaaW.PrintMore
set_option linter.unusedVariables false
set_option linter.unusedSimpArgs false
theorem rd_impl_Times {l : List Tm} {i : Nat} (h : i < l.length) : rd_T106 l (i : Int) = l[i] := by
  simp [rd_T106, List.getD_eq_getElem?_getD, List.getElem?_eq_getElem h]
def tup (t : Tm) : Int × Int × Int × Int := (t.f0, t.f1, t.f2, t.f3)
theorem due_eq (k : Nat) (line : List Sp) (pre : List Tm) (i : Nat) (read : Int) (hi : i < line.length) (hp : pre.length = i) (h20 : i < 20) (hok : TimesOK pre) (hx : shipIn line[i]) (hr : 0 ≤ read ∧ read ≤ 120) (hk : 8 < k) :
    spec_l06Due.f k line pre (i : Int) read = some (tup (dueL pre line[i] read)) := by
  obtain ⟨s0, s1, s2, s3, s4, s5⟩ := hx
  unfold spec_l06Due.f
  rw [if_pos (by omega), if_pos (by omega), rd_impl_Ship hi]
  rw [w64 (n := (line[i]).f2) (by omega) (by omega), w64 (n := (line[i]).f0) (by omega) (by omega)]
  by_cases h0 : (i : Int) = 0
  · rw [if_pos h0]
    simp [dueL, tup, hp, show i = 0 by omega]
  · rw [if_neg h0, w64 (by omega) (by omega)]
    have hsc := fun n (hn : (i - (line[i]).f0.toNat) + n ≤ pre.length) => scan_spec pre hok (i - (line[i]).f0.toNat) n hn
    generalize line[i] = x at *
    obtain ⟨r, hr', h⟩ := loop_inv (fun k (s : Int × Int × Int) => spec_l06Due.l0 k pre (i : Int) read x.f2 s.1 s.2.1 s.2.2 (-1) (-1)) x.f0.toNat
      (fun j s => s.1 = (i : Int) - x.f0 + j ∧ (s.2.1, s.2.2) = scan pre (i - x.f0.toNat) ((i + j - x.f0.toNat) - (i - x.f0.toNat)))
      (fun r => r = tup (dueL pre x read))
      (fun k j s hj ⟨h1, h2⟩ => by
        obtain ⟨p, f, s⟩ := s
        simp only at h1 h2
        subst h1
        refine .inl ?_
        by_cases hneg : 0 ≤ (i : Int) - x.f0 + j
        · obtain ⟨q, hq⟩ : ∃ q : Nat, (i : Int) - x.f0 + j = (q : Int) := ⟨((i : Int) - x.f0 + j).toNat, by omega⟩
          have hql : q < pre.length := by omega
          have hb := hok.bound q _ (List.getElem?_eq_getElem hql)
          have hn : i - x.f0.toNat + (i + j - x.f0.toNat - (i - x.f0.toNat)) = q := by omega
          have hn2 : i + (j + 1) - x.f0.toNat - (i - x.f0.toNat) = (i + j - x.f0.toNat - (i - x.f0.toNat)) + 1 := by omega
          refine ⟨((q : Int) + 1, (scan pre (i - x.f0.toNat) (i + (j + 1) - x.f0.toNat - (i - x.f0.toNat))).1, (scan pre (i - x.f0.toNat) (i + (j + 1) - x.f0.toNat - (i - x.f0.toNat))).2), ⟨by simp only; omega, rfl⟩, ?_⟩
          rw [hn2]
          simp only [scan, ← h2, hn, List.getElem?_eq_getElem hql]
          rw [hq]
          simp only [spec_l06Due.l0]
          rw [if_pos (by omega), if_pos (by omega), if_pos (by omega), if_pos (by omega), rd_impl_Times hql, w64 (n := (q : Int) + 1) (by omega) (by omega), i8w (n := (q : Int)) (by omega) (by omega)]
          by_cases c1 : 0 ≤ pre[q].f3
          · rw [if_pos (by omega)]
            by_cases c2 : f < 0
            · rw [if_pos c2, if_pos ⟨c1, .inl c2⟩]
            · rw [if_neg c2]
              by_cases c3 : pre[q].f3 < s
              · rw [if_pos c3, if_pos ⟨c1, .inr c3⟩]
              · rw [if_neg c3, if_neg (fun h => h.2.elim c2 c3)]
          · rw [if_neg (by omega), if_neg (fun h => c1 h.1)]
        · have hn : i + j - x.f0.toNat - (i - x.f0.toNat) = 0 := by omega
          have hn2 : i + (j + 1) - x.f0.toNat - (i - x.f0.toNat) = 0 := by omega
          refine ⟨((i : Int) - x.f0 + j + 1, f, s), ⟨by simp only; omega, ?_⟩, ?_⟩
          · rw [hn2]; rw [hn] at h2; exact h2
          · simp only [spec_l06Due.l0]
            rw [if_pos (by omega), if_neg (by omega), w64 (by omega) (by omega)])
      (fun k s ⟨h1, h2⟩ => by
        obtain ⟨p, f, s⟩ := s
        simp only at h1 h2
        have hp' : p = (i : Int) := by omega
        subst hp'
        have hn : i + x.f0.toNat - x.f0.toNat - (i - x.f0.toNat) = pre.length - (pre.length - x.f0.toNat) := by omega
        refine ⟨_, rfl, ?_⟩
        have hs := hsc (pre.length - (pre.length - x.f0.toNat)) (by omega)
        rw [hn] at h2
        rw [← h2] at hs
        simp only [spec_l06Due.l0]
        rw [if_neg (by omega)]
        unfold dueL
        rw [if_neg (show ¬ pre.length = 0 by omega), show pre.length - x.f0.toNat = i - x.f0.toNat by omega]
        rw [show pre.length - x.f0.toNat = i - x.f0.toNat by omega] at h2
        rw [← h2]
        simp only
        by_cases c : 0 ≤ f
        · rw [if_pos (by omega), if_pos c]
          rcases hs with hs | hs
          · simp only [Prod.mk.injEq] at hs
            omega
          · simp only at hs
            rw [w64 (n := s + read) (by omega) (by omega), w64 (by omega) (by omega)]
            rfl
        · rw [if_neg (by omega), if_neg c]
          rcases hs with hs | hs
          · simp only [Prod.mk.injEq] at hs
            rw [hs.1, hs.2]
            rfl
          · simp only at hs
            omega) k ((i : Int) - x.f0, -1, -1) ⟨by simp, by
        rw [show i + 0 - x.f0.toNat - (i - x.f0.toNat) = 0 by omega]
        rfl⟩ (by omega)
    subst hr'
    exact h
theorem specTimes_eq (k : Nat) (line : List Sp) (ship more : Int) (hl : line.length ≤ 20) (hx : ∀ x ∈ line, shipIn x) (hr : ∀ (i : Nat) (x : Sp), line[i]? = some x → 0 ≤ x.f1 + (if (i : Int) = ship then more else 0) ∧ x.f1 + (if (i : Int) = ship then more else 0) ≤ 120) (hm : 0 ≤ more ∧ more ≤ 60) (hk : 40 < k) :
    spec_l06Times.f k line ship more = some (timesL ship more line) := by
  unfold spec_l06Times.f
  have go : ∀ (rest : List Sp) (k : Nat) (acc : List Tm), line.drop acc.length = rest → TimesOK acc → acc.length ≤ line.length → rest.length + 10 < k → spec_l06Times.l0 k line ship more acc (acc.length : Int) = some (timesGo ship more rest acc) := by
    intro rest
    induction rest with
    | nil =>
      intro k acc hd hok hle hk
      obtain ⟨k, rfl⟩ : ∃ m, k = m + 1 := ⟨k - 1, by omega⟩
      have := List.drop_eq_nil_iff.1 hd
      simp only [spec_l06Times.l0]
      rw [if_neg (by omega)]
      rfl
    | cons x xs ih =>
      intro k acc hd hok hle hk
      simp only [List.length_cons] at hk
      obtain ⟨k, rfl⟩ : ∃ m, k = m + 1 := ⟨k - 1, by omega⟩
      have hlt : acc.length < line.length := by
        have := congrArg List.length hd
        simp at this
        omega
      have hx0 : line[acc.length] = x := by
        have h1 := List.drop_eq_getElem_cons hlt
        rw [hd] at h1
        exact (List.cons.inj h1).1.symm
      have hxs : line.drop (acc.length + 1) = xs := by
        have h1 := List.drop_eq_getElem_cons hlt
        rw [hd] at h1
        exact (List.cons.inj h1).2.symm
      have hmem : x ∈ line := hx0 ▸ List.getElem_mem hlt
      obtain ⟨s0, s1, s2, s3, s4, s5⟩ := hx x hmem
      have hr' := hr acc.length x (by rw [List.getElem?_eq_getElem hlt, hx0])
      simp only [spec_l06Times.l0]
      rw [if_pos (by omega), if_pos (by omega), rd_impl_Ship hlt, hx0]
      rw [w64 (n := x.f1) (by omega) (by omega), w64 (n := (acc.length : Int) + 1) (by omega) (by omega)]
      have step : ∀ read, read = x.f1 + (if (acc.length : Int) = ship then more else 0) → 
          ((spec_l06Due.f k line acc (acc.length : Int) read).bind fun bt => (if acc.length < 4398046511104 then (spec_l06Times.l0 k line ship more (acc ++ [(⟨bt.1, bt.2.1, bt.2.2.1, bt.2.2.2⟩ : Tm)]) ((acc.length : Int) + 1)) else none)) = some (timesGo ship more (x :: xs) acc) := by
        intro read hread
        rw [due_eq k line acc acc.length read hlt rfl (by omega) hok (by rw [hx0]; exact hx x hmem) (by rw [hread]; exact hr') (by omega)]
        simp only [Option.bind_some]
        rw [if_pos (by omega), hx0]
        have h2 := ih k (acc ++ [dueL acc x read]) (by simpa using hxs) (due_ok hok ⟨s4, s5⟩ (by rw [hread]; exact hr')) (by simp; omega) (by omega)
        rw [show ((acc ++ [dueL acc x read]).length : Int) = (acc.length : Int) + 1 by simp] at h2
        simp only [tup, timesGo]
        rw [← hread]
        exact h2
      by_cases c : (acc.length : Int) = ship
      · rw [if_pos c]
        rw [if_pos c] at hr'
        rw [w64 (n := x.f1 + more) (by omega) (by omega)]
        exact step _ (by rw [if_pos c])
      · rw [if_neg c]
        exact step _ (by rw [if_neg c, Int.add_zero])
  exact go line k [] rfl TimesOK.nil (by simp) (by omega)
end Go.Proofs.Ytheenidapjkboaa.G.Pure
end

section
namespace Go.Proofs.Ytheenidapjkboaa.G.Pure
open Go.RowKit Go.Proofs.Ytheenidapjkboaa.G Go.Proofs.YtheenidapjkboaaW.PrintWords Go.Proofs.YtheenidapjkboaaW.PrintLast Go.Proofs.YtheenidapjkboaaW.PrintMore
set_option linter.unusedVariables false
set_option linter.unusedSimpArgs false
theorem implInner (k : Nat) (acc : List Tm) (line : List Sp) (x : Sp) (i a : Nat) (len x12 : Int) (hi : acc.length = i) (h20 : i < 20) (h1i : 0 < i) (hok : TimesOK acc) (hx : shipIn x) (ha : a ≤ i) :
  ∀ d n,a + n + d = i → impl_times.l1 (k + d + 1) acc (i : Int) ((a + n : Nat) : Int) line len x12 x.f0 x.f1 x.f2 (scan acc a n).1 (scan acc a n).2 (-1) (-1) =
   impl_times.l1 (k + 1) acc (i : Int) (i : Int) line len x12 x.f0 x.f1 x.f2 (scan acc a (i - a)).1 (scan acc a (i - a)).2 (-1) (-1) := by
 intro d
 induction d with
 | zero =>
  intro n hn
  rw [show i - a = n by omega,show a + n = i by omega]
 | succ d ih =>
  intro n hn
  have hql : a + n < acc.length := by omega
  have hb := hok.bound (a + n) _ (List.getElem?_eq_getElem hql)
  have hsc := scan_spec acc hok a n (by omega)
  rw [← ih (n + 1) (by omega)]
  rw [show k + (d + 1) + 1 = (k + d + 1) + 1 by omega]
  conv => lhs;unfold impl_times.l1
  rw [if_pos (by omega),if_pos (by omega),if_pos (by omega),rd_impl_Times hql,w64 (n := ((a + n : Nat) : Int) + 1) (by omega) (by omega),i8w (n := ((a + n : Nat) : Int)) (by omega) (by omega)]
  rw [show ((a + (n + 1) : Nat) : Int) = ((a + n : Nat) : Int) + 1 by omega]
  have hs1 : scan acc a (n + 1) = if 0 ≤ acc[a + n].f3 ∧ ((scan acc a n).1 < 0 ∨ acc[a + n].f3 < (scan acc a n).2) then (((a + n : Nat) : Int),acc[a + n].f3) else scan acc a n := by
   rcases hs : scan acc a n with ⟨f,s⟩
   simp only [scan,hs,List.getElem?_eq_getElem hql]
  rw [hs1]
  have hneg : (scan acc a n).1 < 0 ↔ (scan acc a n).2 < 0 := by
   rcases hsc with h | h
   ·rw [h]
   ·omega
  by_cases c1 : 0 ≤ acc[a + n].f3
  ·rw [if_pos (by omega)]
   by_cases c2 : (scan acc a n).2 < 0
   ·rw [if_pos c2,if_pos ⟨c1,.inl (hneg.2 c2)⟩]
   ·rw [if_neg c2]
    by_cases c3 : acc[a + n].f3 < (scan acc a n).2
    ·rw [if_pos c3,if_pos ⟨c1,.inr c3⟩]
    ·rw [if_neg c3,if_neg (fun h => h.2.elim (fun h => c2 (hneg.1 h)) c3)]
  ·rw [if_neg (by omega),if_neg (fun h => c1 h.1)]
theorem implRound (k : Nat) (acc : List Tm) (line : List Sp) (x : Sp) (hlt : acc.length < line.length) (h20 : line.length ≤ 20) (hx0 : line[acc.length] = x) (hok : TimesOK acc) (hx : shipIn x) :
  impl_times.l0 (k + (acc.length - (acc.length - x.f0.toNat)) + 3) acc line (line.length : Int) (acc.length : Int) = impl_times.l0 k (acc ++ [dueL acc x x.f1]) line (line.length : Int) ((acc.length : Int) + 1) := by
 obtain ⟨s0,s1,s2,s3,s4,s5⟩ := hx
 have hxx : shipIn x := ⟨s0,s1,s2,s3,s4,s5⟩
 rcases Nat.eq_zero_or_pos acc.length with h0 | h0
 ·rw [show k + (acc.length - (acc.length - x.f0.toNat)) + 3 = k + 3 by omega]
  conv => lhs;unfold impl_times.l0
  rw [if_pos (by omega),if_pos (by omega),if_pos (by omega),if_pos (by omega),rd_impl_Ship hlt,hx0]
  conv => lhs;unfold impl_times.j1
  rw [w64 (n := x.f0) (by omega) (by omega),w64 (by omega) (by omega)]
  rw [show mx ((acc.length : Int) - x.f0) 0 = (acc.length : Int) by unfold mx;split <;> omega]
  conv => lhs;unfold impl_times.l1
  rw [if_neg (by omega),if_pos (by omega),if_pos (by omega),if_pos (by omega),w64 (n := x.f2) (by omega) (by omega),w64 (n := x.f2) (by omega) (by omega),w64 (n := (acc.length : Int) + 1) (by omega) (by omega)]
  simp [dueL,h0]
 ·obtain ⟨a,ha⟩ : ∃ a,a = acc.length - x.f0.toNat := ⟨_,rfl⟩
  rw [← ha]
  conv => lhs;unfold impl_times.l0
  rw [if_pos (by omega),if_pos (by omega),if_pos (by omega),if_neg (by omega),rd_impl_Ship hlt,hx0]
  conv => lhs;unfold impl_times.j1
  rw [w64 (n := x.f0) (by omega) (by omega),w64 (n := (acc.length : Int) - x.f0) (by omega) (by omega)]
  rw [show mx ((acc.length : Int) - x.f0) 0 = ((a + 0 : Nat) : Int) by unfold mx;split <;> omega]
  have h1 := implInner k acc line x acc.length a (line.length : Int) (acc.length : Int) rfl (by omega) h0 hok hxx (by omega) (acc.length - a) 0 (by omega)
  simp only [scan] at h1
  rw [h1]
  have hsc := scan_spec acc hok a (acc.length - a) (by omega)
  have hd : dueL acc x x.f1 = if 0 ≤ (scan acc a (acc.length - a)).1 then ⟨(scan acc a (acc.length - a)).1,(scan acc a (acc.length - a)).2,(scan acc a (acc.length - a)).2 + x.f1,(scan acc a (acc.length - a)).2 + x.f1 + x.f2⟩ else ⟨-1,-1,-1,-1⟩ := by
   unfold dueL
   rw [if_neg (show ¬ acc.length = 0 by omega),← ha]
  rw [hd]
  rcases hsc with h | h
  ·rw [h]
   conv => lhs;unfold impl_times.l1
   simp only
   rw [if_neg (by omega),if_neg (by omega),if_pos (by omega),if_neg (by omega),w64 (by omega) (by omega)]
  ·conv => lhs;unfold impl_times.l1
   rw [if_neg (by omega),if_pos (by omega),if_neg (by omega),if_pos (by omega),if_pos h.1]
   rw [w64 (n := x.f1) (by omega) (by omega),w64 (n := x.f2) (by omega) (by omega),w64 (n := (scan acc a (acc.length - a)).2 + x.f1) (by omega) (by omega),w64 (n := (scan acc a (acc.length - a)).2 + x.f1 + x.f2) (by omega) (by omega),w64 (n := (acc.length : Int) + 1) (by omega) (by omega)]
theorem timesGo_plain (xs : List Sp) (acc : List Tm) : ∀ x,timesGo (-1) 0 (x :: xs) acc = timesGo (-1) 0 xs (acc ++ [dueL acc x x.f1]) := by
 intro x
 simp only [timesGo]
 rw [if_neg (by omega),Int.add_zero]
theorem implTimes_eq (k : Nat) (line : List Sp) (hl : line.length ≤ 20) (hx : ∀ x ∈ line,shipIn x) (hk : 200 < k) : impl_times.f k line = some (timesL (-1) 0 line) := by
 have go : ∀ (rest : List Sp) (k : Nat) (acc : List Tm),line.drop acc.length = rest → TimesOK acc → acc.length ≤ line.length → 9 * rest.length < k → impl_times.l0 k acc line (line.length : Int) (acc.length : Int) = some (timesGo (-1) 0 rest acc) := by
  intro rest
  induction rest with
  | nil =>
   intro k acc hd hok hle hk
   obtain ⟨k,rfl⟩ : ∃ m,k = m + 1 := ⟨k - 1,by omega⟩
   have := List.drop_eq_nil_iff.1 hd
   unfold impl_times.l0
   rw [if_neg (by omega)]
   rfl
  | cons x xs ih =>
   intro k acc hd hok hle hk
   simp only [List.length_cons] at hk
   have hlt : acc.length < line.length := by
    have := congrArg List.length hd
    simp at this
    omega
   have hx0 : line[acc.length] = x := by
    have h1 := List.drop_eq_getElem_cons hlt
    rw [hd] at h1
    exact (List.cons.inj h1).1.symm
   have hxs : line.drop (acc.length + 1) = xs := by
    have h1 := List.drop_eq_getElem_cons hlt
    rw [hd] at h1
    exact (List.cons.inj h1).2.symm
   have hmem : x ∈ line := hx0 ▸ List.getElem_mem hlt
   have hxx := hx x hmem
   obtain ⟨s0,s1,s2,s3,s4,s5⟩ := hxx
   obtain ⟨m,rfl,hm⟩ : ∃ m,k = m + (acc.length - (acc.length - x.f0.toNat)) + 3 ∧ 9 * xs.length < m := ⟨k - (acc.length - (acc.length - x.f0.toNat)) - 3,by omega,by omega⟩
   rw [implRound m acc line x hlt hl hx0 hok (hx x hmem),timesGo_plain]
   have h2 := ih m (acc ++ [dueL acc x x.f1]) (by simpa using hxs) (due_ok hok ⟨s4,s5⟩ ⟨s2,s3⟩) (by simp;omega) hm
   rw [show ((acc ++ [dueL acc x x.f1]).length : Int) = (acc.length : Int) + 1 by simp] at h2
   exact h2
 unfold impl_times.f
 exact go line k [] rfl TimesOK.nil (by simp) (by omega)
end Go.Proofs.Ytheenidapjkboaa.G.Pure
end

section
namespace Go.Proofs.Ytheenidapjkboaa.G.Pure
open Go.RowKit Go.Proofs.Ytheenidapjkboaa.G Go.Proofs.YtheenidapjkboaaW.PrintWords Go.Proofs.YtheenidapjkboaaW.PrintLast Go.Proofs.YtheenidapjkboaaW.PrintMore
set_option linter.unusedVariables false
set_option linter.unusedSimpArgs false
theorem ValidL.specTimes {line : List Sp} (v : ValidL line) {k : Nat} (hk : 300 < k) : spec_l06Times.f k line (-1) 0 = some (timesL (-1) 0 line) :=
 specTimes_eq k line (-1) 0 v.most v.in_ (fun i x hx => by
  have := v.ships x (List.mem_of_getElem? hx)
  rw [if_neg (by omega)]
  omega) ⟨by omega,by omega⟩ (by omega)
theorem ValidL.implTimes {line : List Sp} (v : ValidL line) {k : Nat} (hk : 300 < k) : impl_times.f k line = some (timesL (-1) 0 line) :=
 implTimes_eq k line v.most v.in_ (by omega)
theorem ValidL.timesOK {line : List Sp} (v : ValidL line) : TimesOK (timesL (-1) 0 line) :=
 timesGo_ok (-1) 0 line [] TimesOK.nil (fun x hx => by have := v.ships x hx;omega) (fun i x hx => by
  have := v.ships x (List.mem_of_getElem? hx)
  rw [if_neg (by simp only [List.length_nil];omega)]
  omega)
end Go.Proofs.Ytheenidapjkboaa.G.Pure
end

section
namespace Go.Proofs.Ytheenidapjkboaa.G.Pure
open Go.RowKit Go.Proofs.Ytheenidapjkboaa.G Go.Proofs.YtheenidapjkboaaW.PrintWords Go.Proofs.YtheenidapjkboaaW.PrintLast Go.Proofs.YtheenidapjkboaaW.PrintMore
set_option linter.unusedVariables false
set_option linter.unusedSimpArgs false
def wfF (l : List Ft) : Prop := ∀ x ∈ l,(Lit.int .i8 x.f0).wf = true ∧ (Lit.int .i8 x.f1).wf = true ∧ (Lit.int .i8 x.f2).wf = true
def faultOk (n : Nat) (h : List Int) (f : Ft) : Bool := decide (1 ≤ f.f0 ∧ f.f0 ≤ (n : Int) - 1) && (decide (0 ≤ f.f1 ∧ f.f1 ≤ (h.length : Int) - 1) && (decide (0 ≤ f.f2 ∧ f.f2 ≤ 39) && decide (0 ≤ rd h f.f1)))
def dupF (l : List Ft) (i : Nat) : Bool := (l.take i).any fun g => g.f0 == (rd_T144 l (i : Int)).f0
def badF (n : Nat) (h : List Int) (l : List Ft) (i : Nat) : Bool := dupF l i || !faultOk n h (rd_T144 l (i : Int))
def faultsOk (n : Nat) (h : List Int) (l : List Ft) : Bool := decide (l.length ≤ 20) && (List.range l.length).all fun i => !badF n h l i
theorem wfF_at {l : List Ft} (hw : wfF l) {i : Nat} (hi : i < l.length) : -128 ≤ (rd_T144 l (i : Int)).f0 ∧ (rd_T144 l (i : Int)).f0 ≤ 127 ∧ -128 ≤ (rd_T144 l (i : Int)).f1 ∧ (rd_T144 l (i : Int)).f1 ≤ 127 ∧ -128 ≤ (rd_T144 l (i : Int)).f2 ∧ (rd_T144 l (i : Int)).f2 ≤ 127 := by
 rw [rd_impl_Fault hi]
 have := hw _ (List.getElem_mem hi)
 have a := i8b this.1
 have b := i8b this.2.1
 have c := i8b this.2.2
 omega
theorem faultsOk_false {n : Nat} {h : List Int} {l : List Ft} {i : Nat} (hi : i < l.length) (hb : badF n h l i = true) : faultsOk n h l = false := by
 unfold faultsOk
 rw [Bool.and_eq_false_iff]
 right
 rw [List.all_eq_false]
 exact ⟨i,List.mem_range.2 hi,by simp [hb]⟩
theorem faultsOk_end {n : Nat} {h : List Int} {l : List Ft} (hb : ∀ j,j < l.length → badF n h l j = false) : faultsOk n h l = decide (l.length ≤ 20) := by
 unfold faultsOk
 rw [List.all_eq_true.2 fun j hj => by rw [hb j (List.mem_range.1 hj)];rfl,Bool.and_true]
set_option maxHeartbeats 1000000 in
theorem implAre {k : Nat} {line : List Sp} {h : List Int} {l : List Ft} (hw : wfF l) (hn : line.length ≤ 1048576) (hh : h.length ≤ 1048576) (hl : l.length ≤ 1048576) (hk : l.length < k) : impl_areFaults.f k line h l = some (faultsOk line.length h l) := by
 unfold impl_areFaults.f
 obtain ⟨r,hr,h'⟩ := loop_inv (fun k (s : Int) => impl_areFaults.l0 k line h l l (l.length : Int) s) l.length (fun i s => s = (i : Int) ∧ ∀ j,j < i → badF line.length h l j = false) (fun r => r = faultsOk line.length h l)
  (fun k i s hi ⟨h1,h2⟩ => by
   subst h1
   have hb := wfF_at hw hi
   simp only [impl_areFaults.l0]
   rw [if_pos (by omega),if_pos (by omega),if_pos (by omega),if_pos (by omega),Int.toNat_natCast]
   rw [slices_ContainsFunc_Fault_Fault__impl_areFaults_1.f,anyO_eq (p := fun x : Ft => impl_areFaults_1.f x.f0 x.f1 x.f2 (rd_T144 l (i : Int)).f0 (rd_T144 l (i : Int)).f1 (rd_T144 l (i : Int)).f2) (q := fun x : Ft => x.f0 == (rd_T144 l (i : Int)).f0) (fun x _ => rfl)]
   simp only [Option.bind_some]
   have hst : badF line.length h l i = true → false = faultsOk line.length h l := fun hb => (faultsOk_false hi hb).symm
   have hgo : badF line.length h l i = false → ∃ s' : Int,(s' = ((i + 1 : Nat) : Int) ∧ ∀ j,j < i + 1 → badF line.length h l j = false) ∧ impl_areFaults.l0 k line h l l (l.length : Int) ((i : Int) + 1) = impl_areFaults.l0 k line h l l (l.length : Int) s' := fun hb => ⟨_,⟨rfl,fun j hj => by
    rcases Nat.lt_succ_iff_lt_or_eq.1 hj with e | e
    ·exact h2 j e
    ·subst e;exact hb⟩,by rw [show ((i + 1 : Nat) : Int) = (i : Int) + 1 by omega]⟩
   have hd : ((l.take i).any fun g => g.f0 == (rd_T144 l (i : Int)).f0) = dupF l i := rfl
   rw [hd]
   unfold badF at hst hgo
   cases hdu : dupF l i with
   | true =>
    rw [if_pos rfl]
    exact .inr ⟨false,hst (by rw [hdu];rfl),rfl⟩
   | false =>
    rw [hdu,Bool.false_or] at hst hgo
    rw [if_neg (by simp)]
    generalize rd_T144 l (i : Int) = f at *
    simp only [impl_size_Ship.f,impl_size_int8.f,Option.bind_some,within8]
    rw [w64 (n := f.f0) (by omega) (by omega),w64 (n := f.f1) (by omega) (by omega),w64 (n := (line.length : Int) - 1) (by omega) (by omega),w64 (n := (h.length : Int) - 1) (by omega) (by omega),kind_eq _ (by omega) (by omega),w64 (n := (i : Int) + 1) (by omega) (by omega)]
    simp only [Option.bind_some]
    unfold faultOk at hst hgo
    by_cases c1 : 1 ≤ f.f0 ∧ f.f0 ≤ (line.length : Int) - 1
    ·rw [decide_eq_true c1,Bool.true_and] at hst hgo
     rw [if_pos (by simp [c1])]
     by_cases c2 : 0 ≤ f.f1 ∧ f.f1 ≤ (h.length : Int) - 1
     ·rw [decide_eq_true c2,Bool.true_and] at hst hgo
      rw [if_pos (by simp [c2]),if_pos c2.1,if_pos (by omega)]
      by_cases c4 : rd h f.f1 < 0
      ·rw [if_pos c4]
       exact .inr ⟨false,hst (by rw [decide_eq_false (p := 0 ≤ rd h f.f1) (by omega),Bool.and_false];rfl),rfl⟩
      ·rw [if_neg c4]
       rw [decide_eq_true (p := 0 ≤ rd h f.f1) (by omega),Bool.and_true] at hst hgo
       by_cases c3 : 0 ≤ f.f2 ∧ f.f2 ≤ 39
       ·rw [if_pos (by simp [c3])]
        exact .inl (hgo (by simp [c3]))
       ·rw [if_neg (by simpa using c3)]
        exact .inr ⟨false,hst (by rw [decide_eq_false c3];rfl),rfl⟩
     ·rw [if_neg (by simpa using c2)]
      exact .inr ⟨false,hst (by rw [decide_eq_false c2];rfl),rfl⟩
    ·rw [if_neg (by simpa using c1)]
     exact .inr ⟨false,hst (by rw [decide_eq_false c1];rfl),rfl⟩)
  (fun k s ⟨h1,h2⟩ => by
   subst h1
   refine ⟨_,rfl,?_⟩
   simp only [impl_areFaults.l0]
   rw [if_neg (by omega),faultsOk_end h2]
   congr 1
   rw [decide_eq_decide]
   omega) k 0 ⟨rfl,fun j h => absurd h (Nat.not_lt_zero _)⟩ hk
 subst hr
 exact h'
theorem specDup {line : List Sp} {h : List Int} {l : List Ft} {i : Nat} (hi : i < l.length) (hl : l.length ≤ 20) (K : Nat) (b c : Int) : ∀ d j,j + d = i → ((∀ x,x < j → (rd_T144 l (x : Int)).f0 ≠ (rd_T144 l (i : Int)).f0) → spec_l06Faults.l1 (K + d + 1) line h l (i : Int) (j : Int) (rd_T144 l (i : Int)).f0 b c = if dupF l i = true then some false else spec_l06Faults.l0 K line h l ((i : Int) + 1)) := by
 intro d
 induction d with
 | zero =>
  intro j hj hx
  obtain rfl : j = i := by omega
  simp only [spec_l06Faults.l1,Nat.add_zero]
  rw [if_neg (by omega),w64 (by omega) (by omega),if_neg]
  intro hd
  unfold dupF at hd
  obtain ⟨g,hg,he⟩ := List.any_eq_true.1 hd
  obtain ⟨x,hx1,rfl⟩ := List.mem_iff_getElem.1 hg
  rw [List.length_take] at hx1
  rw [List.getElem_take] at he
  have := hx x (by omega)
  rw [rd_impl_Fault (by omega : x < l.length)] at this
  exact this (by simpa using he)
 | succ d ih =>
  intro j hj hx
  have hjl : j < l.length := by omega
  rw [show K + (d + 1) + 1 = (K + d + 1) + 1 by omega]
  generalize hK : K + d + 1 = K1
  simp only [spec_l06Faults.l1]
  rw [if_pos (by omega),if_pos (by omega),if_pos (by omega),w64 (by omega) (by omega)]
  by_cases he : (rd_T144 l (j : Int)).f0 = (rd_T144 l (i : Int)).f0
  ·rw [if_pos he,if_pos]
   unfold dupF
   rw [List.any_eq_true]
   refine ⟨l[j],?_,?_⟩
   ·rw [List.mem_iff_getElem]
    exact ⟨j,by rw [List.length_take];omega,by rw [List.getElem_take]⟩
   ·rw [rd_impl_Fault hjl] at he
    simpa using he
  ·rw [if_neg he,← hK]
   have e := ih (j + 1) (by omega) (fun x hx' => by
    rcases Nat.lt_succ_iff_lt_or_eq.1 hx' with e | e
    ·exact hx x e
    ·subst e;exact he)
   rw [show ((j + 1 : Nat) : Int) = (j : Int) + 1 by omega] at e
   exact e
set_option maxHeartbeats 1000000 in
theorem specAre_all {line : List Sp} {h : List Int} {l : List Ft} (hw : wfF l) (hn : line.length ≤ 1048576) (hh : h.length ≤ 1048576) (hl : l.length ≤ 20) : ∀ d i K,i + d = l.length → (∀ j,j < i → badF line.length h l j = false) → d * 30 + 1 ≤ K → spec_l06Faults.l0 K line h l (i : Int) = some (faultsOk line.length h l) := by
 intro d
 induction d with
 | zero =>
  intro i K hi hb hK
  obtain ⟨K,rfl⟩ : ∃ m,K = m + 1 := ⟨K - 1,by omega⟩
  obtain rfl : i = l.length := by omega
  simp only [spec_l06Faults.l0]
  rw [if_neg (by omega),faultsOk_end hb,decide_eq_true hl]
 | succ d ih =>
  intro i K hi hb hK
  have hil : i < l.length := by omega
  have hwb := wfF_at hw hil
  simp only [Nat.succ_mul] at hK
  obtain ⟨K,rfl⟩ : ∃ m,K = (m + i + 1) + 1 + 1 := ⟨K - i - 3,by omega⟩
  have hgo := fun (hbad : badF line.length h l i = false) => ih (i + 1) K (by omega) (fun j hj => by
   rcases Nat.lt_succ_iff_lt_or_eq.1 hj with e | e
   ·exact hb j e
   ·subst e;exact hbad) (by omega)
  rw [show ((i + 1 : Nat) : Int) = (i : Int) + 1 by omega] at hgo
  have hst : badF line.length h l i = true → faultsOk line.length h l = false := fun hbad => faultsOk_false hil hbad
  have hd := fun b c => specDup (line := line) (h := h) (l := l) hil hl K b c i 0 (by omega) (fun x hx => absurd hx (Nat.not_lt_zero _))
  rw [show ((0 : Nat) : Int) = 0 from rfl] at hd
  generalize hK2 : K + i + 1 = K2 at *
  simp only [spec_l06Faults.l0]
  rw [if_pos (by omega),if_pos (by omega),in_eq,in_eq,in_eq]
  simp only [Option.bind_some,spec_l06Faults.j1]
  unfold badF at hst hgo
  generalize hf : rd_T144 l (i : Int) = f at *
  rw [w64 (n := f.f0) (by omega) (by omega),w64 (n := f.f1) (by omega) (by omega),w64 (n := f.f2) (by omega) (by omega),w64 (n := (line.length : Int) - 1) (by omega) (by omega),w64 (n := (h.length : Int) - 1) (by omega) (by omega)]
  unfold faultOk at hst hgo
  by_cases c1 : 1 ≤ f.f0 ∧ f.f0 ≤ (line.length : Int) - 1
  ·rw [decide_eq_true c1,Bool.true_and] at hst hgo
   rw [if_pos (by simp [c1])]
   by_cases c2 : 0 ≤ f.f1 ∧ f.f1 ≤ (h.length : Int) - 1
   ·rw [decide_eq_true c2,Bool.true_and] at hst hgo
    rw [if_pos (by simp [c2])]
    by_cases c3 : 0 ≤ f.f2 ∧ f.f2 ≤ 39
    ·rw [decide_eq_true c3,Bool.true_and] at hst hgo
     rw [if_pos (by simp [c3]),if_pos c2.1,if_pos (by omega)]
     by_cases c4 : rd h f.f1 < 0
     ·rw [decide_eq_true c4,if_pos rfl,hst (by rw [decide_eq_false (p := 0 ≤ rd h f.f1) (by omega),Bool.not_false,Bool.or_true])]
     ·rw [decide_eq_true (p := 0 ≤ rd h f.f1) (by omega),Bool.not_true,Bool.or_false] at hst hgo
      rw [decide_eq_false c4,if_neg (by simp),hd]
      cases hdu : dupF l i with
      | true =>
       rw [if_pos rfl,hst hdu]
      | false =>
       rw [if_neg (by simp)]
       exact hgo hdu
    ·rw [if_neg (by simpa using c3),if_pos trivial,hst (by rw [decide_eq_false c3,Bool.false_and,Bool.not_false,Bool.or_true])]
   ·rw [if_neg (by simpa using c2),if_pos trivial,hst (by rw [decide_eq_false c2,Bool.false_and,Bool.not_false,Bool.or_true])]
  ·rw [if_neg (by simpa using c1),if_pos trivial,hst (by rw [decide_eq_false c1,Bool.false_and,Bool.not_false,Bool.or_true])]
theorem specAre {k : Nat} {line : List Sp} {h : List Int} {l : List Ft} (hw : wfF l) (hn : line.length ≤ 1048576) (hh : h.length ≤ 1048576) (hk : 1000 < k) : spec_l06Faults.f k line h l = some (faultsOk line.length h l) := by
 unfold spec_l06Faults.f
 by_cases hl : l.length ≤ 20
 ·rw [if_neg (by omega)]
  exact specAre_all hw hn hh hl l.length 0 k (by omega) (fun j hj => absurd hj (Nat.not_lt_zero _)) (by omega)
 ·rw [if_pos (by omega)]
  unfold faultsOk
  rw [decide_eq_false hl]
  rfl
def codeF (line : List Sp) (h : List Int) (l : List Ft) : Int := if validB line = true ∧ (meanO h).isSome = true ∧ faultsOk line.length h l = true then 0 else 1
theorem implCodeF {k : Nat} {line : List Sp} {h : List Int} {l : List Ft} (hwh : wfH h) (hw : wfF l) (hn : line.length ≤ 1048576) (hh : h.length ≤ 1048576) (hl : l.length ≤ 1048576) (hk : 2200001 < k) : impl_lineCode.f k line h l = some (codeF line h l) := by
 unfold impl_lineCode.f codeF
 rw [implValid_eq,implValidH hwh hh (by omega),implAre hw hn hh hl (by omega)]
 simp only [Option.bind_some]
 cases validB line <;> cases (meanO h).isSome <;> cases faultsOk line.length h l <;> simp [impl_unless.f]
theorem specCodeF {k : Nat} {line : List Sp} {h : List Int} {l : List Ft} (hws : ∀ x ∈ line,wfShip x) (hwh : wfH h) (hw : wfF l) (hn : line.length ≤ 1048576) (hh : h.length ≤ 1048576) (hk : 2200001 < k) : spec_l06Given.f k line h l = some (codeF line h l) := by
 unfold spec_l06Given.f codeF
 rw [specOk_eq k line hws hn (by omega),specOkH hwh (by omega),specAre hw hn hh (by omega)]
 simp only [Option.bind_some]
 cases validB line <;> cases (meanO h).isSome <;> cases faultsOk line.length h l <;> simp
def layF (i : Nat) (own : List Int) (f : Ft) : List Int := if f.f0 = (i : Int) then own.set f.f1.toNat f.f2 else own
def rbGo (h : List Int) (l : List Ft) (ts : List Tm) : Nat → Hs
 | 0 => []
 | n + 1 => rbGo h l ts n ++ [if n = 0 then h else if 0 ≤ (rd_T106 ts (n : Int)).f0 then l.foldl (layF n) (rd_L2 (rbGo h l ts n) (rd_T106 ts (n : Int)).f0) else []]
theorem rbGo_len (h : List Int) (l : List Ft) (ts : List Tm) : ∀ n,(rbGo h l ts n).length = n := by
 intro n
 induction n with
 | zero => rfl
 | succ n ih => rw [rbGo,List.length_append,ih];rfl
theorem layF_len (i : Nat) (l : List Ft) : ∀ own : List Int,(l.foldl (layF i) own).length = own.length := by
 induction l with
 | nil => intro own;rfl
 | cons f l ih =>
  intro own
  rw [List.foldl_cons,ih]
  unfold layF
  split <;> simp
def reachT (ts : List Tm) (j : Nat) : Prop := j = 0 ∨ 0 ≤ (rd_T106 ts (j : Int)).f0
theorem reach_from {ts : List Tm} (hok : TimesOK ts) {n : Nat} (hn : n < ts.length) (h0 : 0 ≤ (rd_T106 ts (n : Int)).f0) : ∃ m : Nat,(rd_T106 ts (n : Int)).f0 = (m : Int) ∧ m < n ∧ reachT ts m := by
 rw [rd_impl_Times hn] at h0 ⊢
 have hnp : 0 < n := by
  rcases Nat.eq_zero_or_pos n with e | e
  ·subst e
   have := hok.first _ (List.getElem?_eq_getElem hn)
   omega
  ·exact e
 rcases hok.later n _ (List.getElem?_eq_getElem hn) hnp with e | ⟨h1,h2,h3,u,hu,hu2⟩
 ·rw [e] at h0
  simp only at h0
  omega
 ·refine ⟨ts[n].f0.toNat,by omega,by omega,?_⟩
  have hlt := (List.getElem?_eq_some_iff.1 hu).1
  rcases Nat.eq_zero_or_pos ts[n].f0.toNat with e | e
  ·exact .inl e
  ·right
   rw [rd_impl_Times hlt]
   rcases hok.later _ u hu e with e2 | e2
   ·rw [e2] at hu2
    simp only at hu2
    omega
   ·rw [(List.getElem?_eq_some_iff.1 hu).2]
    exact e2.1
theorem rbGo_get {h : List Int} {l : List Ft} {ts : List Tm} {j : Nat} : ∀ n,j < n → rd_L2 (rbGo h l ts n) (j : Int) = rd_L2 (rbGo h l ts (j + 1)) (j : Int) := by
 intro n
 induction n with
 | zero => intro h;omega
 | succ n ih =>
  intro hj
  rcases Nat.lt_succ_iff_lt_or_eq.1 hj with e | e
  ·rw [← ih e]
   rw [rdH (by rw [rbGo_len];omega),rdH (by rw [rbGo_len];omega)]
   simp only [rbGo]
   rw [List.getElem_append_left]
  ·subst e
   rfl
theorem rb_ok {h : List Int} {l : List Ft} {ts : List Tm} (hok : TimesOK ts) (hwh : wfH h) (hwf : wfF l) : ∀ n,n ≤ ts.length → ∀ j,j < n → wfH (rd_L2 (rbGo h l ts n) (j : Int)) ∧ (rd_L2 (rbGo h l ts n) (j : Int)).length ≤ h.length ∧ (reachT ts j → (rd_L2 (rbGo h l ts n) (j : Int)).length = h.length) := by
 intro n
 induction n with
 | zero => intro _ j hj;omega
 | succ n ih =>
  intro hn j hj
  rcases Nat.lt_succ_iff_lt_or_eq.1 hj with e | e
  ·have := ih (by omega) j e
   rw [rbGo_get n e] at this
   rw [rbGo_get (n + 1) hj]
   exact this
  ·subst e
   rw [rdH (by rw [rbGo_len];omega)]
   simp only [rbGo]
   rw [List.getElem_append_right (by rw [rbGo_len];omega)]
   simp only [rbGo_len,Nat.sub_self,List.getElem_cons_zero]
   by_cases h0 : j = 0
   ·rw [if_pos h0]
    exact ⟨hwh,Nat.le_refl _,fun _ => rfl⟩
   ·rw [if_neg h0]
    by_cases h1 : 0 ≤ (rd_T106 ts (j : Int)).f0
    ·rw [if_pos h1,layF_len]
     obtain ⟨m,hm,hmj,hr⟩ := reach_from hok (by omega : j < ts.length) h1
     rw [hm]
     obtain ⟨w,le,eq⟩ := ih (by omega) m hmj
     refine ⟨?_,le,fun _ => eq hr⟩
     generalize rd_L2 (rbGo h l ts j) (m : Int) = own at w
     clear hm hr le eq ih h0 h1 hj hn
     induction l generalizing own with
     | nil => exact w
     | cons f l ih2 =>
      rw [List.foldl_cons]
      refine ih2 (fun x hx => hwf x (by simp [hx])) _ ?_
      unfold layF
      split
      ·intro x hx
       rcases List.mem_or_eq_of_mem_set hx with h | h
       ·exact w x h
       ·rw [h]
        exact (hwf f (by simp)).2.2
      ·exact w
    ·rw [if_neg h1]
     exact ⟨fun x hx => by simp at hx,by simp,fun hr => hr.elim (fun e => absurd e h0) (fun e => absurd e h1)⟩
def fitF (h : List Int) (l : List Ft) : Prop := ∀ f ∈ l,0 ≤ f.f1 ∧ f.f1 < (h.length : Int)
theorem fit_of {n : Nat} {h : List Int} {l : List Ft} (hf : faultsOk n h l = true) : fitF h l ∧ l.length ≤ 20 := by
 unfold faultsOk at hf
 simp only [Bool.and_eq_true,decide_eq_true_eq] at hf
 refine ⟨fun f hfm => ?_,hf.1⟩
 obtain ⟨i,hi,rfl⟩ := List.mem_iff_getElem.1 hfm
 have := List.all_eq_true.1 hf.2 i (List.mem_range.2 hi)
 unfold badF at this
 rw [rd_impl_Fault hi] at this
 simp only [faultOk,Bool.not_or,Bool.not_not,Bool.and_eq_true,decide_eq_true_eq] at this
 omega
theorem implLay {h : List Int} {l : List Ft} {ts : List Tm} {out : Hs} (hwf : wfF l) (hfit : fitF h l) (hl : l.length ≤ 20) (hout : out.length ≤ 20) {i : Nat} (hi20 : i ≤ 20) (K : Nat) : ∀ d j (own : List Int),j + d = l.length → own.length = h.length →
  impl_readBy.l1 (K + d + 1) h l out (i : Int) own ts (ts.length : Int) (i : Int) l (l.length : Int) (j : Int) = impl_readBy.l0 K h l (out ++ [(l.drop j).foldl (layF i) own]) ts (ts.length : Int) ((i : Int) + 1) := by
 intro d
 induction d with
 | zero =>
  intro j own hj ho
  obtain rfl : j = l.length := by omega
  simp only [impl_readBy.l1,Nat.add_zero]
  rw [if_neg (by omega),if_pos (by omega),List.drop_of_length_le (Nat.le_refl _),w64 (by omega) (by omega)]
  rfl
 | succ d ih =>
  intro j own hj ho
  have hjl : j < l.length := by omega
  have hwb := wfF_at hwf hjl
  have hfb := hfit _ (List.getElem_mem hjl)
  rw [show K + (d + 1) + 1 = (K + d + 1) + 1 by omega,List.drop_eq_getElem_cons hjl,List.foldl_cons]
  have e := ih (j + 1) (layF i own l[j]) (by omega) (by unfold layF;split <;> simp [ho])
  rw [← e]
  generalize K + d + 1 = K1
  simp only [impl_readBy.l1]
  rw [if_pos (by omega),if_pos (by omega),if_pos (by omega),w64 (by omega) (by omega),w64 (by omega) (by omega)]
  rw [rd_impl_Fault hjl] at hwb ⊢
  rw [show ((j + 1 : Nat) : Int) = (j : Int) + 1 by omega]
  unfold layF
  by_cases hs : l[j].f0 = (i : Int)
  ·rw [if_pos hs,if_pos hfb.1,if_pos (by omega),if_pos hs]
  ·rw [if_neg hs,if_neg hs]
theorem specLay {h : List Int} {l : List Ft} {ts : List Tm} {out : Hs} (hwf : wfF l) (hfit : fitF h l) (hl : l.length ≤ 20) (hout : out.length ≤ 20) {i : Nat} (hi20 : i ≤ 20) (K : Nat) : ∀ d j (own : List Int),j + d = l.length → own.length = h.length →
  spec_l06Read.l1 (K + d + 1) l ts out (i : Int) own (j : Int) = spec_l06Read.l0 K l ts (out ++ [(l.drop j).foldl (layF i) own]) ((i : Int) + 1) := by
 intro d
 induction d with
 | zero =>
  intro j own hj ho
  obtain rfl : j = l.length := by omega
  simp only [spec_l06Read.l1,Nat.add_zero]
  rw [if_neg (by omega),if_pos (by omega),List.drop_of_length_le (Nat.le_refl _),w64 (by omega) (by omega)]
  rfl
 | succ d ih =>
  intro j own hj ho
  have hjl : j < l.length := by omega
  have hwb := wfF_at hwf hjl
  have hfb := hfit _ (List.getElem_mem hjl)
  rw [show K + (d + 1) + 1 = (K + d + 1) + 1 by omega,List.drop_eq_getElem_cons hjl,List.foldl_cons]
  have e := ih (j + 1) (layF i own l[j]) (by omega) (by unfold layF;split <;> simp [ho])
  rw [← e]
  generalize K + d + 1 = K1
  simp only [spec_l06Read.l1]
  rw [if_pos (by omega),if_pos (by omega),w64 (by omega) (by omega),w64 (by omega) (by omega)]
  rw [rd_impl_Fault hjl] at hwb ⊢
  rw [show ((j + 1 : Nat) : Int) = (j : Int) + 1 by omega]
  unfold layF
  by_cases hs : l[j].f0 = (i : Int)
  ·rw [if_pos hs,if_pos hfb.1,if_pos (by omega),if_pos hs]
  ·rw [if_neg hs,if_neg hs]
theorem implRead_all {h : List Int} {l : List Ft} {ts : List Tm} (hok : TimesOK ts) (hwh : wfH h) (hwf : wfF l) (hfit : fitF h l) (hl : l.length ≤ 20) (hts : ts.length ≤ 20) (hh : h.length ≤ 1048576) : ∀ d i K,i + d = ts.length → d * 22 + 1 ≤ K → impl_readBy.l0 K h l (rbGo h l ts i) ts (ts.length : Int) (i : Int) = some (rbGo h l ts ts.length) := by
 intro d
 induction d with
 | zero =>
  intro i K hi hK
  obtain ⟨K,rfl⟩ : ∃ m,K = m + 1 := ⟨K - 1,by omega⟩
  obtain rfl : i = ts.length := by omega
  simp only [impl_readBy.l0]
  rw [if_neg (by omega)]
 | succ d ih =>
  intro i K hi hK
  have hil : i < ts.length := by omega
  have hlen := rbGo_len h l ts i
  simp only [Nat.succ_mul] at hK
  by_cases h0 : i = 0
  ·subst h0
   obtain ⟨K,rfl⟩ : ∃ m,K = m + 1 := ⟨K - 1,by omega⟩
   have e := ih 1 K (by omega) (by omega)
   rw [rbGo,if_pos rfl,show ((1 : Nat) : Int) = 0 + 1 from rfl] at e
   rw [show ((0 : Nat) : Int) = 0 from rfl]
   simp only [impl_readBy.l0]
   rw [if_pos (by omega),if_pos (by omega),if_pos (by omega),if_pos trivial,slices_Clone_Hoist_int8.f,if_pos (by omega)]
   simp only [Option.bind_some]
   rw [if_pos (by omega),w64 (by omega) (by omega)]
   exact e
  ·by_cases h1 : 0 ≤ (rd_T106 ts (i : Int)).f0
   ·obtain ⟨m,hm,hmi,hr⟩ := reach_from hok hil h1
    obtain ⟨w,le,eq⟩ := rb_ok hok hwh hwf i (by omega) m hmi
    obtain ⟨K,rfl⟩ : ∃ q,K = (q + l.length + 1) + 1 := ⟨K - l.length - 2,by omega⟩
    have e := ih (i + 1) K (by omega) (by omega)
    rw [rbGo,if_neg h0,if_pos h1,hm,show ((i + 1 : Nat) : Int) = (i : Int) + 1 by omega] at e
    have e2 := implLay (ts := ts) (out := rbGo h l ts i) (h := h) hwf hfit hl (by omega) (by omega : i ≤ 20) K l.length 0 (rd_L2 (rbGo h l ts i) (m : Int)) (by omega) (eq hr)
    rw [List.drop_zero] at e2
    rw [← e,← e2,show ((0 : Nat) : Int) = 0 from rfl]
    generalize K + l.length + 1 = K1
    simp only [impl_readBy.l0]
    rw [if_pos (by omega),if_pos (by omega),if_pos (by omega),if_neg (by omega),if_pos h1,if_pos h1,if_pos (by omega),hm,slices_Clone_Hoist_int8.f,if_pos (by omega)]
    rfl
   ·obtain ⟨K,rfl⟩ : ∃ m,K = m + 1 := ⟨K - 1,by omega⟩
    have e := ih (i + 1) K (by omega) (by omega)
    rw [rbGo,if_neg h0,if_neg h1,show ((i + 1 : Nat) : Int) = (i : Int) + 1 by omega] at e
    simp only [impl_readBy.l0]
    rw [if_pos (by omega),if_pos (by omega),if_pos (by omega),if_neg (by omega),if_neg h1,if_pos (by omega),w64 (by omega) (by omega)]
    exact e
theorem specRead_all {h : List Int} {l : List Ft} {ts : List Tm} (hok : TimesOK ts) (hwh : wfH h) (hwf : wfF l) (hfit : fitF h l) (hl : l.length ≤ 20) (hts : ts.length ≤ 20) (hh : h.length ≤ 1048576) : ∀ d i K,0 < i → i + d = ts.length → d * 22 + 1 ≤ K → spec_l06Read.l0 K l ts (rbGo h l ts i) (i : Int) = some (rbGo h l ts ts.length) := by
 intro d
 induction d with
 | zero =>
  intro i K hp hi hK
  obtain ⟨K,rfl⟩ : ∃ m,K = m + 1 := ⟨K - 1,by omega⟩
  obtain rfl : i = ts.length := by omega
  simp only [spec_l06Read.l0]
  rw [if_neg (by omega)]
 | succ d ih =>
  intro i K hp hi hK
  have hil : i < ts.length := by omega
  have hlen := rbGo_len h l ts i
  have h0 : i ≠ 0 := by omega
  simp only [Nat.succ_mul] at hK
  by_cases h1 : 0 ≤ (rd_T106 ts (i : Int)).f0
  ·obtain ⟨m,hm,hmi,hr⟩ := reach_from hok hil h1
   obtain ⟨w,le,eq⟩ := rb_ok hok hwh hwf i (by omega) m hmi
   obtain ⟨K,rfl⟩ : ∃ q,K = (q + l.length + 1) + 1 := ⟨K - l.length - 2,by omega⟩
   have e := ih (i + 1) K (by omega) (by omega) (by omega)
   rw [rbGo,if_neg h0,if_pos h1,hm,show ((i + 1 : Nat) : Int) = (i : Int) + 1 by omega] at e
   have e2 := specLay (ts := ts) (out := rbGo h l ts i) (h := h) hwf hfit hl (by omega) (by omega : i ≤ 20) K l.length 0 (rd_L2 (rbGo h l ts i) (m : Int)) (by omega) (eq hr)
   rw [List.drop_zero] at e2
   rw [← e,← e2,show ((0 : Nat) : Int) = 0 from rfl]
   generalize K + l.length + 1 = K1
   simp only [spec_l06Read.l0]
   rw [if_pos (by omega)]
   simp only [Option.bind_some]
   rw [if_pos (by omega),if_pos h1,if_pos h1,if_pos (by omega),hm,if_pos (by simp only [List.length_nil];omega),List.nil_append]
  ·obtain ⟨K,rfl⟩ : ∃ m,K = m + 1 := ⟨K - 1,by omega⟩
   have e := ih (i + 1) K (by omega) (by omega) (by omega)
   rw [rbGo,if_neg h0,if_neg h1,show ((i + 1 : Nat) : Int) = (i : Int) + 1 by omega] at e
   simp only [spec_l06Read.l0]
   rw [if_pos (by omega)]
   simp only [Option.bind_some]
   rw [if_pos (by omega),if_neg h1,if_pos (by omega),w64 (by omega) (by omega)]
   exact e
def readL (line : List Sp) (h : List Int) (l : List Ft) : Hs := rbGo h l (timesL (-1) 0 line) line.length
theorem implReadL {k : Nat} {line : List Sp} {h : List Int} {l : List Ft} (v : ValidL line) (hwh : wfH h) (hwf : wfF l) (hf : faultsOk line.length h l = true) (hh : h.length ≤ 1048576) (hk : 1000 < k) : impl_readBy.f k line h l = some (readL line h l) := by
 obtain ⟨hfit,hl⟩ := fit_of hf
 unfold impl_readBy.f
 rw [v.implTimes (by omega)]
 simp only [Option.bind_some]
 have ht := timesL_len (-1) 0 line
 have := v.most
 have e := implRead_all v.timesOK hwh hwf hfit hl (by omega) hh line.length 0 k (by omega) (by omega)
 rw [ht] at e ⊢
 exact e
theorem specReadL {k : Nat} {line : List Sp} {h : List Int} {l : List Ft} (v : ValidL line) (hwh : wfH h) (hwf : wfF l) (hf : faultsOk line.length h l = true) (hh : h.length ≤ 1048576) (hk : 1000 < k) : spec_l06Read.f k line h l = some (readL line h l) := by
 obtain ⟨hfit,hl⟩ := fit_of hf
 unfold spec_l06Read.f
 rw [v.specTimes (by omega)]
 simp only [Option.bind_some]
 have ht := timesL_len (-1) 0 line
 have := v.most
 have := v.pos
 rw [if_pos (by simp only [List.length_nil];omega),List.nil_append]
 have e := specRead_all v.timesOK hwh hwf hfit hl (by omega) hh (line.length - 1) 1 k (by omega) (by omega) (by omega)
 rw [ht] at e
 exact e
theorem readL_len {line : List Sp} {h : List Int} {l : List Ft} : (readL line h l).length = line.length := rbGo_len _ _ _ _
theorem readL_at {line : List Sp} {h : List Int} {l : List Ft} (v : ValidL line) (hwh : wfH h) (hwf : wfF l) {j : Nat} (hj : j < line.length) : wfH (rd_L2 (readL line h l) (j : Int)) ∧ (rd_L2 (readL line h l) (j : Int)).length ≤ h.length := by
 have := rb_ok v.timesOK hwh hwf line.length (by rw [timesL_len];exact Nat.le_refl _) j hj
 exact ⟨this.1,this.2.1⟩
end Go.Proofs.Ytheenidapjkboaa.G.Pure
end

section
namespace Go.Proofs.Ytheenidapjkboaa.G.Pure
open Go.RowKit Go.Proofs.Ytheenidapjkboaa.G Go.Proofs.YtheenidapjkboaaW.PrintWords Go.Proofs.YtheenidapjkboaaW.PrintLast Go.Proofs.YtheenidapjkboaaW.PrintMore
set_option linter.unusedVariables false
set_option linter.unusedSimpArgs false
theorem code_ok {line : List Sp} {h : List Int} {l : List Ft} : codeF line h l = 0 ↔ validB line = true ∧ (meanO h).isSome = true ∧ faultsOk line.length h l = true := by
 unfold codeF
 split
 ·rename_i hh
  exact ⟨fun _ => hh,fun _ => rfl⟩
 ·rename_i hh
  exact ⟨fun he => by omega,fun he => absurd he hh⟩
def wrStep (m : List Int) (read : Hs) (i : Nat) : List Int := match meanO (rd_L2 read (i : Int)) with | some o => if o = m then [] else [(i : Int)] | none => []
def wrTo (m : List Int) (read : Hs) : Nat → List Int
 | 0 => []
 | n + 1 => wrTo m read n ++ wrStep m read n
theorem wrTo_len (m : List Int) (read : Hs) : ∀ n,(wrTo m read n).length ≤ n := by
 intro n
 induction n with
 | zero => simp [wrTo]
 | succ n ih =>
  rw [wrTo,List.length_append]
  have : (wrStep m read n).length ≤ 1 := by
   unfold wrStep
   split
   ·split <;> simp
   ·simp
  omega
theorem implEqM {k : Nat} {a b : List Int} (ha : a.length ≤ 1048576) (hk : a.length < k) : slices_Equal_Meaning_int8.f k a b = some (decide (a = b)) := by
 unfold slices_Equal_Meaning_int8.f
 by_cases h : a.length = b.length
 ·rw [if_pos (by omega)]
  refine eq_loop (fun k i => slices_Equal_Meaning_int8.l0 k a b (a.length : Int) i) a b h (fun k i hi => ?_) (fun k => ?_) k hk
  ·simp only [slices_Equal_Meaning_int8.l0]
   rw [if_pos (by omega),if_pos (by omega),if_pos (by omega),if_pos (by omega),w64 (by omega) (by omega)]
   rfl
  ·simp only [slices_Equal_Meaning_int8.l0]
   rw [if_neg (by omega)]
 ·rw [if_neg (by omega),decide_eq_false]
  rintro rfl
  exact h rfl
theorem meanO_len {h m : List Int} (hm : meanO h = some m) : m.length ≤ 8 := by
 unfold meanO at hm
 split at hm
 ·rename_i hl
  split at hm
  ·rename_i s hs
   split at hm
   ·cases hm
    have := (mto_ok _ hs).1
    omega
   ·cases hm
  ·cases hm
 ·cases hm
theorem implWrong_all {m : List Int} {read : Hs} (hn : read.length ≤ 20) (hr : ∀ j,j < read.length → wfH (rd_L2 read (j : Int)) ∧ (rd_L2 read (j : Int)).length ≤ 1048576) : ∀ d i K,i + d = read.length → d + 2200002 ≤ K → impl_WrongShips.l0 K m (wrTo m read i) read (read.length : Int) (i : Int) = some (wrTo m read read.length,0) := by
 intro d
 induction d with
 | zero =>
  intro i K hd hK
  obtain ⟨K,rfl⟩ : ∃ m,K = m + 1 := ⟨K - 1,by omega⟩
  obtain rfl : i = read.length := by omega
  simp only [impl_WrongShips.l0]
  rw [if_neg (by omega)]
 | succ d ih =>
  intro i K hd hK
  obtain ⟨K,rfl⟩ : ∃ m,K = m + 1 := ⟨K - 1,by omega⟩
  have hil : i < read.length := by omega
  obtain ⟨hw,hL⟩ := hr i hil
  have e := ih (i + 1) K (by omega) (by omega)
  have hlen := wrTo_len m read i
  rw [show ((i + 1 : Nat) : Int) = (i : Int) + 1 by omega,wrTo] at e
  unfold wrStep at e
  obtain ⟨o,ho,hm⟩ := implMean_eq (k := K) hw hL (by omega)
  simp only [impl_WrongShips.l0]
  rw [if_pos (by omega),if_pos (by omega),if_pos (by omega),w64 (by omega) (by omega),ho]
  simp only [Option.bind_some]
  cases hx : meanO (rd_L2 read (i : Int)) with
  | none =>
   rw [hx] at e
   simp only [List.append_nil] at e
   rw [if_neg (by simp)]
   exact e
  | some x =>
   obtain rfl := hm x hx
   rw [hx] at e
   simp only at e
   have := meanO_len hx
   rw [if_pos (by simp),implEqM (by omega) (by omega)]
   simp only [Option.bind_some]
   by_cases heq : o = m
   ·rw [if_pos heq,List.append_nil] at e
    rw [decide_eq_true heq,if_pos rfl]
    exact e
   ·rw [if_neg heq] at e
    rw [decide_eq_false heq,if_neg (by simp),if_pos (by omega)]
    exact e
theorem specWrong_all {m : List Int} {read : Hs} (hn : read.length ≤ 20) (hr : ∀ j,j < read.length → wfH (rd_L2 read (j : Int)) ∧ (rd_L2 read (j : Int)).length ≤ 1048576) : ∀ d i K,i + d = read.length → d + 2200002 ≤ K → spec_WrongShips.l0 K m read (wrTo m read i) (i : Int) = some (wrTo m read read.length,0) := by
 intro d
 induction d with
 | zero =>
  intro i K hd hK
  obtain ⟨K,rfl⟩ : ∃ m,K = m + 1 := ⟨K - 1,by omega⟩
  obtain rfl : i = read.length := by omega
  simp only [spec_WrongShips.l0]
  rw [if_neg (by omega)]
 | succ d ih =>
  intro i K hd hK
  obtain ⟨K,rfl⟩ : ∃ m,K = m + 1 := ⟨K - 1,by omega⟩
  have hil : i < read.length := by omega
  obtain ⟨hw,hL⟩ := hr i hil
  have e := ih (i + 1) K (by omega) (by omega)
  have hlen := wrTo_len m read i
  rw [show ((i + 1 : Nat) : Int) = (i : Int) + 1 by omega,wrTo] at e
  unfold wrStep at e
  simp only [spec_WrongShips.l0]
  rw [if_pos (by omega),if_pos (by omega),w64 (by omega) (by omega),specMean_eq hw (by omega)]
  cases hx : meanO (rd_L2 read (i : Int)) with
  | none =>
   rw [hx] at e
   simp only [List.append_nil] at e
   simp only [Option.bind_some]
   rw [if_neg (by simp)]
   exact e
  | some x =>
   rw [hx] at e
   simp only at e
   have := meanO_len hx
   simp only [Option.bind_some]
   rw [if_pos trivial,specEqH (by omega) (by omega)]
   simp only [Option.bind_some]
   by_cases heq : x = m
   ·rw [if_pos heq,List.append_nil] at e
    rw [decide_eq_true heq,if_pos rfl]
    exact e
   ·rw [if_neg heq] at e
    rw [decide_eq_false heq,if_neg (by simp),if_pos (by omega)]
    exact e
def resWrong (line : List Sp) (h : List Int) (l : List Ft) : List Int × Int := if codeF line h l = 0 then (wrTo ((meanO h).getD []) (readL line h l) line.length,0) else ([],codeF line h l)
theorem resWrong_len {line : List Sp} {h : List Int} {l : List Ft} (hn : line.length ≤ 1048576) : (resWrong line h l).1.length ≤ 1048576 := by
 unfold resWrong
 split
 ·have := wrTo_len ((meanO h).getD []) (readL line h l) line.length
  simp only
  omega
 ·simp
theorem implWrong_eq {k : Nat} {line : List Sp} {h : List Int} {l : List Ft} (hws : ∀ x ∈ line,wfShip x) (hwh : wfH h) (hw : wfF l) (hn : line.length ≤ 1048576) (hh : h.length ≤ 1048576) (hl : l.length ≤ 1048576) (hk : 2200100 < k) : impl_WrongShips.f k line h l = some (resWrong line h l) := by
 unfold impl_WrongShips.f resWrong
 rw [implCodeF hwh hw hn hh hl (by omega)]
 simp only [Option.bind_some]
 by_cases hc : codeF line h l = 0
 ·rw [if_pos hc,if_pos hc]
  obtain ⟨hv,hm,hf⟩ := code_ok.1 hc
  have v := (validB_iff hws).1 hv
  obtain ⟨o,ho,hom⟩ := implMean_eq (k := k) hwh hh (by omega)
  obtain ⟨x,hx⟩ := Option.isSome_iff_exists.1 hm
  obtain rfl := hom x hx
  rw [ho]
  simp only [Option.bind_some]
  rw [implReadL v hwh hw hf hh (by omega)]
  simp only [Option.bind_some]
  have := v.most
  have e := implWrong_all (m := o) (read := readL line h l) (by rw [readL_len];omega) (fun j hj => by
   rw [readL_len] at hj
   have := readL_at v hwh hw hj
   exact ⟨this.1,by omega⟩) line.length 0 k (by rw [readL_len];omega) (by omega)
  rw [readL_len] at e ⊢
  rw [hx]
  exact e
 ·rw [if_neg hc,if_neg hc]
theorem specWrong_eq {k : Nat} {line : List Sp} {h : List Int} {l : List Ft} (hws : ∀ x ∈ line,wfShip x) (hwh : wfH h) (hw : wfF l) (hn : line.length ≤ 1048576) (hh : h.length ≤ 1048576) (hk : 2200100 < k) : spec_WrongShips.f k line h l = some (resWrong line h l) := by
 unfold spec_WrongShips.f resWrong
 rw [specCodeF hws hwh hw hn hh (by omega)]
 simp only [Option.bind_some]
 by_cases hc : codeF line h l = 0
 ·rw [if_pos hc,if_pos hc]
  obtain ⟨hv,hm,hf⟩ := code_ok.1 hc
  have v := (validB_iff hws).1 hv
  obtain ⟨x,hx⟩ := Option.isSome_iff_exists.1 hm
  rw [specMean_eq hwh (by omega),hx]
  simp only [Option.bind_some]
  rw [specReadL v hwh hw hf hh (by omega)]
  simp only [Option.bind_some]
  have := v.most
  have e := specWrong_all (m := x) (read := readL line h l) (by rw [readL_len];omega) (fun j hj => by
   rw [readL_len] at hj
   have := readL_at v hwh hw hj
   exact ⟨this.1,by omega⟩) line.length 0 k (by rw [readL_len];omega) (by omega)
  rw [readL_len] at e
  exact e
 ·rw [if_neg hc,if_neg hc]
end Go.Proofs.Ytheenidapjkboaa.G.Pure
end

section
namespace Go.Proofs.Ytheenidapjkboaa.G.Pure
open Go.RowKit Go.Proofs.Ytheenidapjkboaa.G Go.Proofs.YtheenidapjkboaaW.PrintWords Go.Proofs.YtheenidapjkboaaW.PrintLast Go.Proofs.YtheenidapjkboaaW.PrintMore
set_option linter.unusedVariables false
set_option linter.unusedSimpArgs false
theorem szShipS_big {l : List (S111)} (hl : l.length ≤ 9223372036854775807) (h : ¬ l.length ≤ 1048576) : laws_szShipS.f l 1048576 = some (-1) := by
 rw [szShipS_eq _ _ (by omega) (by omega) hl,if_pos (by omega)]
theorem szShipS_small {l : List (S111)} (h : l.length ≤ 1048576) : ∃ n,laws_szShipS.f l 1048576 = some n ∧ ¬ n < 0 ∧ n = 1048576 - (l.length : Int) := by
 refine ⟨1048576 - l.length,?_,by omega,rfl⟩
 rw [szShipS_eq _ _ (by omega) (by omega) (by omega),if_neg (by omega)]
end Go.Proofs.Ytheenidapjkboaa.G.Pure
end

section
namespace Go.Proofs.Ytheenidapjkboaa.G.Pure
open Go.RowKit Go.Proofs.Ytheenidapjkboaa.G Go.Proofs.YtheenidapjkboaaW.PrintWords Go.Proofs.YtheenidapjkboaaW.PrintLast Go.Proofs.YtheenidapjkboaaW.PrintMore
set_option linter.unusedVariables false
set_option linter.unusedSimpArgs false
theorem FnExactWrongShips (l0 : List (S111)) (l1 : List Int) (l2 : List (S146)) (h00 : l0.length ≤ 9223372036854775807) (h01 : (∀ x ∈ l0,(Lit.int .i8 x.f0).wf = true ∧ (Lit.int .i8 x.f1).wf = true ∧ (Lit.int .i8 x.f2).wf = true)) (h10 : l1.length ≤ 9223372036854775807) (h11 : (∀ x ∈ l1,(Lit.int .i8 x).wf = true)) (h20 : l2.length ≤ 9223372036854775807) (h21 : (∀ x ∈ l2,(Lit.int .i8 x.f0).wf = true ∧ (Lit.int .i8 x.f1).wf = true ∧ (Lit.int .i8 x.f2).wf = true)) : ∃ k,laws_FnExactWrongShips.f k l0 l1 l2 = some true := by
 obtain ⟨k,hk⟩ : ∃ k,3000000 < k := ⟨_,Nat.lt_succ_self _⟩
 refine ⟨k + 4,?_⟩
 unfold laws_FnExactWrongShips.f
 by_cases hH : (l1.length : Int) > 1048576
 ·rw [if_pos hH]
 ·rw [if_neg hH]
  by_cases hL : l0.length ≤ 1048576
  ·obtain ⟨n,hn,hn0,hn1⟩ := szShipS_small hL
   rw [hn]
   simp only [Option.bind_some]
   rw [if_neg hn0,szFaultS_eq _ _ (by omega) (by omega) h20]
   simp only [Option.bind_some]
   by_cases hF : n - l2.length < 0
   ·rw [if_pos hF,if_pos (by omega)]
   ·rw [if_neg hF,if_neg hF]
    have hw := wf_map h01
    have hwf : wfF (l2.map faultOf) := wf_faults h21
    have hL' : (l0.map shipOf).length ≤ 1048576 := by simpa using hL
    have hF' : (l2.map faultOf).length ≤ 1048576 := by rw [List.length_map];omega
    have hH' : l1.length ≤ 1048576 := by omega
    have e1 := fun j => toShipS_eq (k + j) l0 hL (by omega)
    have e2 := fun j => toHoist_eq (k + j) l1 hH' (by omega)
    have e3 := fun j => toFaultS_eq (k + j) l2 (by omega) (by omega)
    have q1 := fun j => eqShipS_self (k + j) (l0.map shipOf) hL' (by omega)
    have q2 := fun j => eqHoist_self (k + j) l1 hH' (by omega)
    have q3 := fun j => eqFaultS_self (k + j) (l2.map faultOf) hF' (by omega)
    have s1 := fun j => specWrong_eq (k := k + j) hw h11 hwf hL' hH' (by omega)
    have i1 := fun j => implWrong_eq (k := k + j) hw h11 hwf hL' hH' hF' (by omega)
    have hlen := resWrong_len (h := l1) (l := l2.map faultOf) hL'
    have t1 := fun j => eqInt64S_self (k + j) (resWrong (l0.map shipOf) l1 (l2.map faultOf)).1 hlen (by omega)
    obtain ⟨x1,m1,hm1,hm10,hm11⟩ := markShipS_from (k + 3) (l0.map shipOf) 1 hL' (by omega) (by omega) (by omega)
    obtain ⟨x2,m2,hm2,hm20,hm21⟩ := markHoist_from (k + 3) l1 m1 hH' (by omega) hm10 (by omega)
    obtain ⟨x3,m3,hm3,hm30,_⟩ := markFaultS_from (k + 3) (l2.map faultOf) m2 hF' (by omega) hm20 (by omega)
    obtain ⟨l,m',ha,hb,hm5⟩ := markInt64S_held (k + 2) (resWrong (l0.map shipOf) l1 (l2.map faultOf)).1 hlen (by omega)
    have hb0 := hb (k + 1) (by omega)
    have hb1 := hb (k + 2) (by omega)
    generalize resWrong (l0.map shipOf) l1 (l2.map faultOf) = res at *
    simp [laws_FnExactWrongShips.j0,laws_FnExactWrongShips.j1,laws_FnExactWrongShips.j2,e1,e2,e3,q1,q2,q3,s1,i1,t1,hm1,hm2,hm3,ha,hb0,hb1,Int.not_lt.2 hm30,Int.not_lt.2 hm5]
  ·rw [szShipS_big h00 hL]
   rfl
end Go.Proofs.Ytheenidapjkboaa.G.Pure
end
