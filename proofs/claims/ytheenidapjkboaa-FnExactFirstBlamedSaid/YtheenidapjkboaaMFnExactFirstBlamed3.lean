/- The law's functions, their contracts, and the plain lemmas: texts of this claim, laid together. -/
import Derived.Test.YtheenidapjkboaaMFnExactFirstBlamed0
import Derived.Test.YtheenidapjkboaaMFnExactFirstBlamed1
import Derived.Test.YtheenidapjkboaaMFnExactFirstBlamed2
section
namespace Go.Proofs.Ytheenidapjkboaa.G.Pure
open Go.RowKit Go.Proofs.Ytheenidapjkboaa.G Go.Proofs.YtheenidapjkboaaW.PrintWords Go.Proofs.YtheenidapjkboaaW.PrintLast Go.Proofs.YtheenidapjkboaaW.PrintMore
set_option linter.unusedVariables false
set_option linter.unusedSimpArgs false
def wfShip (x : Sp) : Prop := (Lit.int .i8 x.f0).wf = true ∧ (Lit.int .i8 x.f1).wf = true ∧ (Lit.int .i8 x.f2).wf = true
def validB (l : List Sp) : Bool := decide (1 ≤ (l.length : Int)) && decide ((l.length : Int) ≤ 20) && !l.any shipBad
theorem implValid_eq (l : List Sp) : impl_ValidLine.f l = some (validB l) := rfl
theorem shipBad_wf {x : Sp} (h : wfShip x) : shipBad x = !(decide (0 ≤ x.f0) && decide (x.f0 ≤ 6) && (decide (0 ≤ x.f1) && decide (x.f1 ≤ 60)) && (decide (0 ≤ x.f2) && decide (x.f2 ≤ 60))) := by
  obtain ⟨h0, h1, h2⟩ := h
  have b0 := i8b h0
  have b1 := i8b h1
  have b2 := i8b h2
  unfold shipBad
  rw [w64 (n := x.f0) (by omega) (by omega), w64 (n := x.f1) (by omega) (by omega), w64 (n := x.f2) (by omega) (by omega)]
structure ValidL (l : List Sp) : Prop where
  pos : 1 ≤ l.length
  most : l.length ≤ 20
  ships : ∀ x ∈ l, 0 ≤ x.f0 ∧ x.f0 ≤ 6 ∧ 0 ≤ x.f1 ∧ x.f1 ≤ 60 ∧ 0 ≤ x.f2 ∧ x.f2 ≤ 60
theorem ValidL.in_ {l : List Sp} (h : ValidL l) : ∀ x ∈ l, shipIn x := fun x hx => by
  have := h.ships x hx
  unfold shipIn
  omega
theorem validB_iff {l : List Sp} (hw : ∀ x ∈ l, wfShip x) : validB l = true ↔ ValidL l := by
  constructor
  · intro h
    unfold validB at h
    simp only [Bool.and_eq_true, decide_eq_true_eq, Bool.not_eq_true', List.any_eq_false] at h
    obtain ⟨⟨h1, h2⟩, h3⟩ := h
    refine ⟨by omega, by omega, fun x hx => ?_⟩
    have h4 := h3 x hx
    rw [shipBad_wf (hw x hx)] at h4
    simp at h4
    omega
  · intro h
    unfold validB
    simp only [Bool.and_eq_true, decide_eq_true_eq, Bool.not_eq_true', List.any_eq_false]
    refine ⟨⟨by have := h.pos; omega, by have := h.most; omega⟩, fun x hx => ?_⟩
    rw [shipBad_wf (hw x hx)]
    have := h.ships x hx
    simp
    omega
theorem in_eq (n lo hi : Int) : spec_l00In.f n lo hi = some (decide (lo ≤ n) && decide (n ≤ hi)) := by
  unfold spec_l00In.f
  split
  · simp [*]
  · simp [*]
theorem specOk_eq (k : Nat) (l : List Sp) (hw : ∀ x ∈ l, wfShip x) (hl : l.length ≤ 1048576) (hk : l.length < k) : spec_l06Ok.f k l = some (validB l) := by
  unfold spec_l06Ok.f validB
  rw [in_eq]
  simp only [Option.bind_some]
  by_cases h0 : (decide (1 ≤ (l.length : Int)) && decide ((l.length : Int) ≤ 20)) = true
  · rw [if_pos h0, h0, Bool.true_and]
    obtain ⟨r, hr, h⟩ := loop_inv (fun k (s : Int) => spec_l06Ok.l0 k l s) l.length (fun i s => s = (i : Int) ∧ ∀ j (h : j < l.length), j < i → shipBad l[j] = false) (fun r => r = !l.any shipBad)
      (fun k i s hi ⟨h1, h2⟩ => by
        subst h1
        have hb := hw l[i] (List.getElem_mem hi)
        have hbad := shipBad_wf hb
        obtain ⟨b0, b1, b2⟩ := hb
        have b0 := i8b b0
        have b1 := i8b b1
        have b2 := i8b b2
        cases hq : shipBad l[i] with
        | true =>
          refine .inr ⟨false, ?_, ?_⟩
          · have : l.any shipBad = true := List.any_eq_true.2 ⟨l[i], List.getElem_mem hi, hq⟩
            rw [this]; rfl
          · simp only [spec_l06Ok.l0]
            rw [if_pos (by omega), if_pos (by omega), rd_impl_Ship hi, in_eq, in_eq, in_eq]
            rw [w64 (n := (l[i]).f0) (by omega) (by omega), w64 (n := (l[i]).f1) (by omega) (by omega), w64 (n := (l[i]).f2) (by omega) (by omega)]
            rw [hq] at hbad
            simp only [Option.bind_some]
            generalize (decide (0 ≤ (l[i]).f0) && decide ((l[i]).f0 ≤ 6)) = c0 at *
            generalize (decide (0 ≤ (l[i]).f1) && decide ((l[i]).f1 ≤ 60)) = c1 at *
            generalize (decide (0 ≤ (l[i]).f2) && decide ((l[i]).f2 ≤ 60)) = c2 at *
            cases c0 <;> cases c1 <;> cases c2 <;> first | (exfalso; revert hbad; decide) | rfl
        | false =>
          refine .inl ⟨((i + 1 : Nat) : Int), ⟨rfl, fun j hj hji => ?_⟩, ?_⟩
          · by_cases e : j = i
            · subst e; exact hq
            · exact h2 j hj (by omega)
          · simp only [spec_l06Ok.l0]
            rw [if_pos (by omega), if_pos (by omega), rd_impl_Ship hi, in_eq, in_eq, in_eq]
            rw [w64 (n := (l[i]).f0) (by omega) (by omega), w64 (n := (l[i]).f1) (by omega) (by omega), w64 (n := (l[i]).f2) (by omega) (by omega), w64 (n := (i : Int) + 1) (by omega) (by omega)]
            rw [hq] at hbad
            simp only [Option.bind_some]
            generalize (decide (0 ≤ (l[i]).f0) && decide ((l[i]).f0 ≤ 6)) = c0 at *
            generalize (decide (0 ≤ (l[i]).f1) && decide ((l[i]).f1 ≤ 60)) = c1 at *
            generalize (decide (0 ≤ (l[i]).f2) && decide ((l[i]).f2 ≤ 60)) = c2 at *
            cases c0 <;> cases c1 <;> cases c2 <;> first | (exfalso; revert hbad; decide) | rfl)
      (fun k s ⟨h1, h2⟩ => by
        subst h1
        refine ⟨true, ?_, ?_⟩
        · have : l.any shipBad = false := by
            rw [List.any_eq_false]
            intro x hx
            obtain ⟨j, hj, rfl⟩ := List.mem_iff_getElem.1 hx
            simp [h2 j hj hj]
          rw [this]; rfl
        · simp only [spec_l06Ok.l0]
          rw [if_neg (by omega)]) k 0 ⟨rfl, fun j _ h => absurd h (Nat.not_lt_zero _)⟩ hk
    subst hr
    exact h
  · rw [if_neg h0]
    simp only [Bool.not_eq_true] at h0
    rw [h0, Bool.false_and]
theorem wf_map {l : List (S111)} (h : ∀ x ∈ l, (Lit.int .i8 x.f0).wf = true ∧ (Lit.int .i8 x.f1).wf = true ∧ (Lit.int .i8 x.f2).wf = true) : ∀ x ∈ l.map shipOf, wfShip x := by
  intro x hx
  obtain ⟨y, hy, rfl⟩ := List.mem_map.1 hx
  exact h y hy
end Go.Proofs.Ytheenidapjkboaa.G.Pure
end

section
namespace Go.Proofs.Ytheenidapjkboaa.G.Pure
open Go.RowKit Go.Proofs.Ytheenidapjkboaa.G Go.Proofs.YtheenidapjkboaaW.PrintWords Go.Proofs.YtheenidapjkboaaW.PrintLast Go.Proofs.YtheenidapjkboaaW.PrintMore
set_option linter.unusedVariables false
set_option linter.unusedSimpArgs false
def mstep (n : Int) (s : List Int × Nat) : Option (List Int × Nat) :=
  if n = -10 then (if s.2 = s.1.length then none else some (s.1 ++ [n], s.1.length + 1))
  else if -4 ≤ n ∧ n ≤ -1 then (if s.2 + (-n).toNat - 1 < s.1.length then some (s.1 ++ [rd s.1 ((s.2 + (-n).toNat - 1 : Nat) : Int)], s.2) else none)
  else if 0 ≤ n ∧ n ≤ 39 then some (s.1 ++ [n], s.2) else none
def mto (h : List Int) : Nat → Option (List Int × Nat)
  | 0 => some ([], 0)
  | n + 1 => (mto h n).bind (mstep (rd h (n : Int)))
def MOk (s : List Int × Nat) (n : Nat) : Prop := s.1.length = n ∧ s.2 ≤ n ∧ ∀ j (h : j < s.1.length), s.2 ≤ j → 0 ≤ s.1[j] ∧ s.1[j] ≤ 39
theorem mto_ok {h : List Int} : ∀ n {s : List Int × Nat}, mto h n = some s → MOk s n := by
  intro n
  induction n with
  | zero => intro s hs; cases hs; exact ⟨rfl, Nat.le_refl _, fun j h => by simp at h⟩
  | succ n ih =>
    intro s hs
    rw [mto] at hs
    obtain ⟨s0, h0, h1⟩ := Option.bind_eq_some_iff.1 hs
    obtain ⟨i1, i2, i3⟩ := ih h0
    unfold mstep at h1
    split at h1
    · split at h1
      · cases h1
      · cases h1
        refine ⟨by simp [i1], by simp only; omega, fun j hj h => ?_⟩
        simp only [List.length_append, List.length_singleton] at hj h
        omega
    · split at h1
      · split at h1
        · rename_i hin
          cases h1
          refine ⟨by simp [i1], by simp only; omega, fun j hj h => ?_⟩
          simp only [List.length_append, List.length_singleton] at hj h
          rcases Nat.lt_or_ge j s0.1.length with e | e
          · simp only [List.getElem_append_left e]
            exact i3 j e h
          · obtain rfl : j = s0.1.length := by omega
            simp only [List.getElem_append_right (Nat.le_refl _), Nat.sub_self, List.getElem_cons_zero]
            rw [rd_nat hin]
            exact i3 _ hin (by omega)
        · cases h1
      · split at h1
        · rename_i hk
          cases h1
          refine ⟨by simp [i1], by simp only; omega, fun j hj h => ?_⟩
          simp only [List.length_append, List.length_singleton] at hj h
          rcases Nat.lt_or_ge j s0.1.length with e | e
          · simp only [List.getElem_append_left e]
            exact i3 j e h
          · obtain rfl : j = s0.1.length := by omega
            simp only [List.getElem_append_right (Nat.le_refl _), Nat.sub_self, List.getElem_cons_zero]
            exact hk
        · cases h1
theorem mto_none {h : List Int} {i n : Nat} (hh : mto h i = none) (hi : i ≤ n) : mto h n = none := by
  induction n with
  | zero => obtain rfl : i = 0 := by omega
            exact hh
  | succ n ih =>
    rcases Nat.lt_or_ge i (n + 1) with h1 | h1
    · rw [mto, ih (by omega)]
      rfl
    · obtain rfl : i = n + 1 := by omega
      exact hh
def meanO (h : List Int) : Option (List Int) := if 1 ≤ h.length ∧ h.length ≤ 8 then (match mto h h.length with | some s => if s.2 < s.1.length then some s.1 else none | none => none) else none
theorem kind_eq (n : Int) (h0 : -128 ≤ n) (h1 : n ≤ 127) : impl_isKind.f n = some (decide (0 ≤ n) && decide (n ≤ 39)) := by
  unfold impl_isKind.f impl_within.f
  rw [w64 (by omega) (by omega)]
  by_cases h : 0 ≤ n <;> simp [h]
theorem within8 (n lo hi : Int) : impl_within.f n lo hi = some (decide (lo ≤ n) && decide (n ≤ hi)) := by
  unfold impl_within.f
  split <;> simp [*]
def wfH (h : List Int) : Prop := ∀ x ∈ h, (Lit.int .i8 x).wf = true
theorem wfH_at {h : List Int} (hw : wfH h) {i : Nat} (hi : i < h.length) : -128 ≤ rd h (i : Int) ∧ rd h (i : Int) ≤ 127 := by
  rw [rd_nat hi]
  exact i8b (hw _ (List.getElem_mem hi))
theorem mean_A {h : List Int} (hl : h.length ≤ 1048576) {i : Nat} (hi : i < h.length) {a : List Int} {g : Nat} (o1 : a.length = i) (o2 : g ≤ i) (K1 : Nat) (hn : rd h (i : Int) = -10) :
    impl_Hoist_meaning.l0 (K1 + 1) h a (g : Int) h (h.length : Int) (i : Int) = if g = a.length then some ([], false) else impl_Hoist_meaning.l0 K1 h (a ++ [rd h (i : Int)]) ((a.length + 1 : Nat) : Int) h (h.length : Int) ((i + 1 : Nat) : Int) := by
  rw [show ((i + 1 : Nat) : Int) = (i : Int) + 1 by omega]
  simp only [impl_Hoist_meaning.l0]
  rw [if_pos (by omega), if_pos (by omega), if_pos (by omega), if_pos hn]
  by_cases hg : g = a.length
  · rw [if_pos hg, if_pos (by omega)]
  · rw [if_neg hg, if_neg (by omega), if_pos (by omega)]
    simp only [Option.bind_some]
    rw [w64 (by omega) (by omega), List.length_append, List.length_singleton]
theorem mean_j {K : Nat} {h a : List Int} {g : Nat} {i : Nat} {n : Int} (hl : h.length ≤ 1048576) (hi : i < h.length) (o1 : a.length = i) (x8 : Int) (hn : -128 ≤ n ∧ n ≤ 127) :
    impl_Hoist_meaning.j1 (K + 1) h a (g : Int) n x8 h (h.length : Int) (i : Int) false = if 0 ≤ n ∧ n ≤ 39 then impl_Hoist_meaning.l0 K h (a ++ [n]) (g : Int) h (h.length : Int) ((i + 1 : Nat) : Int) else some ([], false) := by
  rw [show ((i + 1 : Nat) : Int) = (i : Int) + 1 by omega]
  simp only [impl_Hoist_meaning.j1]
  rw [if_neg (by simp), kind_eq _ (by omega) (by omega)]
  simp only [Option.bind_some]
  by_cases hk : 0 ≤ n ∧ n ≤ 39
  · rw [if_pos hk, if_pos (by simp [hk]), if_pos (by omega), w64 (by omega) (by omega)]
  · rw [if_neg hk, if_neg (by simpa using hk)]
theorem mean_jt {K : Nat} {h a : List Int} {g : Nat} {i : Nat} {n : Int} (hl : h.length ≤ 1048576) (hi : i < h.length) (o1 : a.length = i) {p : Nat} (hp : p < a.length) (hk : 0 ≤ a[p] ∧ a[p] ≤ 39) :
    impl_Hoist_meaning.j1 (K + 1) h a (g : Int) n (p : Int) h (h.length : Int) (i : Int) true = impl_Hoist_meaning.l0 K h (a ++ [rd a (p : Int)]) (g : Int) h (h.length : Int) ((i + 1 : Nat) : Int) := by
  rw [show ((i + 1 : Nat) : Int) = (i : Int) + 1 by omega]
  simp only [impl_Hoist_meaning.j1]
  rw [if_pos trivial, if_pos (by omega), if_pos (by omega), rd_nat hp, kind_eq _ (by omega) (by omega)]
  simp only [Option.bind_some]
  rw [if_pos (by simp [hk]), if_pos (by omega), w64 (by omega) (by omega)]
theorem mean_l {K : Nat} {h a : List Int} {g : Nat} {i : Nat} (hl : h.length ≤ 1048576) (hi : i < h.length) (o1 : a.length = i) (o2 : g ≤ i) (hb : -128 ≤ rd h (i : Int) ∧ rd h (i : Int) ≤ 127) (hn : ¬rd h (i : Int) = -10) :
    impl_Hoist_meaning.l0 (K + 1) h a (g : Int) h (h.length : Int) (i : Int) = if -4 ≤ rd h (i : Int) ∧ rd h (i : Int) ≤ -1 then impl_Hoist_meaning.j1 K h a (g : Int) (rd h (i : Int)) ((g : Int) - rd h (i : Int) - 1) h (h.length : Int) (i : Int) (decide ((g : Int) - rd h (i : Int) - 1 < (a.length : Int))) else impl_Hoist_meaning.j1 K h a (g : Int) (rd h (i : Int)) ((g : Int) - rd h (i : Int) - 1) h (h.length : Int) (i : Int) false := by
  generalize hr : impl_Hoist_meaning.j1 K = J
  simp only [impl_Hoist_meaning.l0]
  rw [if_pos (by omega), if_pos (by omega), if_pos (by omega), if_neg hn, within8, w64 (n := rd h (i : Int)) (by omega) (by omega), w64 (n := (g : Int) - rd h (i : Int)) (by omega) (by omega), w64 (n := (g : Int) - rd h (i : Int) - 1) (by omega) (by omega), hr]
  simp only [Option.bind_some]
  by_cases hsub : -4 ≤ rd h (i : Int) ∧ rd h (i : Int) ≤ -1
  · rw [if_pos hsub, if_pos (by simp [hsub])]
  · rw [if_neg hsub, if_neg (by simpa using hsub)]
theorem implMean_step {h : List Int} (hw : wfH h) (hl : h.length ≤ 1048576) {i : Nat} (hi : i < h.length) {s : List Int × Nat} (hs : mto h i = some s) (K : Nat) :
    impl_Hoist_meaning.l0 (K + 2) h s.1 (s.2 : Int) h (h.length : Int) (i : Int) = some ([], false) ∧ mto h (i + 1) = none ∨ ∃ s', mto h (i + 1) = some s' ∧ ∃ K', (K' = K ∨ K' = K + 1) ∧ impl_Hoist_meaning.l0 (K + 2) h s.1 (s.2 : Int) h (h.length : Int) (i : Int) = impl_Hoist_meaning.l0 K' h s'.1 (s'.2 : Int) h (h.length : Int) ((i + 1 : Nat) : Int) := by
  obtain ⟨o1, o2, o3⟩ := mto_ok i hs
  have hb := wfH_at hw hi
  have hm : mto h (i + 1) = mstep (rd h (i : Int)) s := by rw [mto, hs, Option.bind_some]
  rw [hm]
  unfold mstep
  by_cases hn : rd h (i : Int) = -10
  · rw [if_pos hn, mean_A hl hi o1 o2 (K + 1) hn]
    by_cases hg : s.2 = s.1.length
    · rw [if_pos hg, if_pos hg]
      exact .inl (And.intro (Eq.refl _) (Eq.refl _))
    · rw [if_neg hg, if_neg hg]
      exact .inr (Exists.intro _ (And.intro (Eq.refl _) (Exists.intro (K + 1) (And.intro (.inr (Eq.refl _)) (Eq.refl _)))))
  · rw [if_neg hn, mean_l hl hi o1 o2 hb hn]
    by_cases hsub : -4 ≤ rd h (i : Int) ∧ rd h (i : Int) ≤ -1
    · rw [if_pos hsub, if_pos hsub]
      have hat : (s.2 : Int) - rd h (i : Int) - 1 = ((s.2 + (-rd h (i : Int)).toNat - 1 : Nat) : Int) := by omega
      rw [hat]
      by_cases hlt : s.2 + (-rd h (i : Int)).toNat - 1 < s.1.length
      · have hk := o3 _ hlt (by omega)
        rw [if_pos hlt, decide_eq_true (by omega : ((s.2 + (-rd h (i : Int)).toNat - 1 : Nat) : Int) < (s.1.length : Int)), mean_jt hl hi o1 hlt hk]
        exact .inr (Exists.intro _ (And.intro (Eq.refl _) (Exists.intro K (And.intro (.inl (Eq.refl _)) (Eq.refl _)))))
      · rw [if_neg hlt, decide_eq_false (by omega : ¬((s.2 + (-rd h (i : Int)).toNat - 1 : Nat) : Int) < (s.1.length : Int)), mean_j hl hi o1 _ hb, if_neg (by omega)]
        exact .inl (And.intro (Eq.refl _) (Eq.refl _))
    · rw [if_neg hsub, if_neg hsub, mean_j hl hi o1 _ hb]
      by_cases hk : 0 ≤ rd h (i : Int) ∧ rd h (i : Int) ≤ 39
      · rw [if_pos hk, if_pos hk]
        exact .inr (Exists.intro _ (And.intro (Eq.refl _) (Exists.intro K (And.intro (.inl (Eq.refl _)) (Eq.refl _)))))
      · rw [if_neg hk, if_neg hk]
        exact .inl (And.intro (Eq.refl _) (Eq.refl _))
theorem implMean_all {h : List Int} (hw : wfH h) (hl : h.length ≤ 1048576) : ∀ d i s K, i + d = h.length → mto h i = some s → 2 * d + 1 ≤ K → ∃ o, impl_Hoist_meaning.l0 K h s.1 (s.2 : Int) h (h.length : Int) (i : Int) = some (o, (meanO h).isSome) ∧ (∀ m, meanO h = some m → o = m) := by
  intro d
  induction d with
  | zero =>
    intro i s K hi hs hK
    obtain ⟨K, rfl⟩ : ∃ m, K = m + 1 := ⟨K - 1, by omega⟩
    obtain rfl : i = h.length := by omega
    simp only [impl_Hoist_meaning.l0]
    rw [if_neg (by omega)]
    simp only [impl_size_int8.f, Option.bind_some, within8]
    unfold meanO
    rw [hs]
    by_cases hin : 1 ≤ h.length ∧ h.length ≤ 8
    · rw [if_pos hin, if_pos (by simp; omega)]
      by_cases hg : s.2 < s.1.length
      · exact ⟨s.1, by simp [hg], fun m hm => by simpa [hg] using hm⟩
      · exact ⟨s.1, by simp [hg], fun m hm => by simp [hg] at hm⟩
    · rw [if_neg hin, if_neg (by simp; omega)]
      exact ⟨s.1, rfl, fun m hm => by cases hm⟩
  | succ d ih =>
    intro i s K hi hs hK
    obtain ⟨K, rfl⟩ : ∃ m, K = m + 2 := ⟨K - 2, by omega⟩
    rcases implMean_step hw hl (by omega : i < h.length) hs K with ⟨h1, h2⟩ | ⟨s', h1, K', hK', h2⟩
    · have : meanO h = none := by
        unfold meanO
        rw [mto_none h2 (by omega)]
        split <;> rfl
      rw [h1, this]
      exact ⟨[], rfl, fun m hm => by cases hm⟩
    · rw [h2]
      exact ih (i + 1) s' K' (by omega) h1 (by omega)
theorem implMean_eq {k : Nat} {h : List Int} (hw : wfH h) (hl : h.length ≤ 1048576) (hk : 2200000 < k) : ∃ o, impl_Hoist_meaning.f k h = some (o, (meanO h).isSome) ∧ ∀ m, meanO h = some m → o = m := by
  unfold impl_Hoist_meaning.f
  exact implMean_all hw hl h.length 0 ([], 0) k (by omega) rfl (by omega)
theorem implValidH {k : Nat} {h : List Int} (hw : wfH h) (hl : h.length ≤ 1048576) (hk : 2200000 < k) : impl_ValidHoist.f k h = some (meanO h).isSome := by
  obtain ⟨o, h1, _⟩ := implMean_eq hw hl hk
  unfold impl_ValidHoist.f
  rw [h1]
  rfl
theorem group_end {h : List Int} {n : Nat} {s s' : List Int × Nat} (hs : mto h n = some s) (hs' : mstep (rd h (n : Int)) s = some s') : (rd h (n : Int) = -10 ↔ s'.2 = n + 1) := by
  obtain ⟨o1, o2, _⟩ := mto_ok n hs
  unfold mstep at hs'
  split at hs'
  · rename_i hn
    split at hs'
    · cases hs'
    · cases hs'
      exact ⟨fun _ => by simp only; omega, fun _ => hn⟩
  · rename_i hn
    split at hs'
    · split at hs'
      · cases hs'
        exact ⟨fun h => absurd h hn, fun h => by simp only at h; omega⟩
      · cases hs'
    · split at hs'
      · cases hs'
        exact ⟨fun h => absurd h hn, fun h => by simp only at h; omega⟩
      · cases hs'
set_option maxHeartbeats 1000000 in
theorem specMean_all {h : List Int} (hw : wfH h) (hl : 1 ≤ h.length ∧ h.length ≤ 8) : ∀ d i s K, i + d = h.length → mto h i = some s → (i = h.length → s.2 < i) → 3 * d + 1 ≤ K → spec_l02Read.l0 K h (h.length : Int) s.1 (s.2 : Int) (i : Int) = some (match meanO h with | some m => (m, true) | none => ([], false)) := by
  intro d
  induction d with
  | zero =>
    intro i s K hi hs hlast hK
    obtain ⟨K, rfl⟩ : ∃ m, K = m + 1 := ⟨K - 1, by omega⟩
    obtain rfl : i = h.length := by omega
    have o := mto_ok _ hs
    simp only [spec_l02Read.l0]
    rw [if_neg (by omega)]
    unfold meanO
    rw [if_pos hl, hs]
    simp only
    rw [if_pos (by rw [o.1]; exact hlast rfl)]
  | succ d ih =>
    intro i s K hi hs hlast hK
    have hil : i < h.length := by omega
    obtain ⟨o1, o2, o3⟩ := mto_ok i hs
    have hb := wfH_at hw hil
    have hm : mto h (i + 1) = mstep (rd h (i : Int)) s := by rw [mto, hs]; rfl
    have hnone : mstep (rd h (i : Int)) s = none → meanO h = none := fun hh => by
      unfold meanO
      rw [mto_none (hm.trans hh) (by omega)]
      split <;> rfl
    have hfwd : ∀ s' K', mstep (rd h (i : Int)) s = some s' → (i + 1 = h.length → rd h (i : Int) ≠ -10) → 3 * d + 1 ≤ K' → spec_l02Read.l0 K' h (h.length : Int) s'.1 (s'.2 : Int) ((i + 1 : Nat) : Int) = some (match meanO h with | some m => (m, true) | none => ([], false)) := fun s' K' hs' hne hK' => by
      have o' := mto_ok (i + 1) (hm.trans hs')
      refine ih (i + 1) s' K' (by omega) (hm.trans hs') (fun he => ?_) hK'
      have g := group_end hs hs'
      have := hne he
      have := o'.2.1
      rcases Nat.lt_or_ge s'.2 (i + 1) with e | e
      · exact e
      · exact absurd (g.2 (by omega)) (hne he)
    obtain ⟨K, rfl⟩ : ∃ m, K = m + 3 := ⟨K - 3, by omega⟩
    rw [show K + 3 = (K + 2) + 1 from rfl]
    generalize hK2 : K + 2 = K2
    simp only [spec_l02Read.l0]
    rw [if_pos (by omega), if_pos (by omega), if_pos (by omega)]
    unfold mstep at hnone hfwd
    generalize rd h (i : Int) = n at *
    by_cases hn : n = -10
    · rw [if_pos hn] at hnone hfwd ⊢
      by_cases hg : s.2 = s.1.length
      · rw [if_pos (by omega), hnone (by rw [if_pos hg])]
      · rw [if_neg (by omega)]
        by_cases hlst : i + 1 = h.length
        · rw [if_pos (by rw [w64 (by omega) (by omega)]; omega)]
          have hmn : meanO h = none := by
            unfold meanO
            rw [if_pos hl]
            have e2 : mto h h.length = some (s.1 ++ [n], s.1.length + 1) := by
              rw [← hlst, hm]
              unfold mstep
              rw [if_pos hn, if_neg hg]
            rw [e2]
            simp only
            rw [if_neg (by simp)]
          rw [hmn]
        · rw [if_neg (by rw [w64 (by omega) (by omega)]; omega), if_pos (by omega), w64 (by omega) (by omega)]
          have := hfwd (s.1 ++ [n], s.1.length + 1) K2 (by rw [if_neg hg]) (fun h => absurd h hlst) (by omega)
          rw [show ((i + 1 : Nat) : Int) = (i : Int) + 1 by omega] at this
          rw [← this]
          simp only
          rw [show ((s.1.length + 1 : Nat) : Int) = (i : Int) + 1 by omega]
    · rw [if_neg hn] at hnone hfwd ⊢
      rw [show K2 = (K + 1) + 1 by omega]
      generalize hK1 : K + 1 = K1
      have hj1 : (if n ≥ 0 then (spec_l02Read.j1 (K1 + 1) h (h.length : Int) s.1 (s.2 : Int) (i : Int) n (decide (n < 40))) else (spec_l02Read.j1 (K1 + 1) h (h.length : Int) s.1 (s.2 : Int) (i : Int) n false)) = spec_l02Read.j1 (K1 + 1) h (h.length : Int) s.1 (s.2 : Int) (i : Int) n (decide (0 ≤ n ∧ n ≤ 39)) := by
        by_cases h0 : 0 ≤ n
        · rw [if_pos h0]
          congr 1
          rw [decide_eq_decide]
          omega
        · rw [if_neg h0, decide_eq_false (by omega)]
      rw [hj1]
      by_cases hk : 0 ≤ n ∧ n ≤ 39
      · rw [if_neg (by omega), if_pos hk] at hnone hfwd
        rw [decide_eq_true hk]
        simp only [spec_l02Read.j1]
        rw [if_pos trivial, if_pos (by omega), w64 (by omega) (by omega)]
        have := hfwd (s.1 ++ [n], s.2) K1 rfl (fun _ => hn) (by omega)
        rw [show ((i + 1 : Nat) : Int) = (i : Int) + 1 by omega] at this
        exact this
      · rw [decide_eq_false hk]
        simp only [spec_l02Read.j1]
        rw [if_neg (by simp), ← hK1]
        have hj2 : (if n < 0 then (spec_l02Read.j2 (K + 1) h (h.length : Int) s.1 (s.2 : Int) (i : Int) n (decide (n ≥ (-4)))) else (spec_l02Read.j2 (K + 1) h (h.length : Int) s.1 (s.2 : Int) (i : Int) n false)) = spec_l02Read.j2 (K + 1) h (h.length : Int) s.1 (s.2 : Int) (i : Int) n (decide (-4 ≤ n ∧ n ≤ -1)) := by
          by_cases h0 : n < 0
          · rw [if_pos h0]
            congr 1
            rw [decide_eq_decide]
            omega
          · rw [if_neg h0, decide_eq_false (by omega)]
        rw [hj2]
        by_cases hsub : -4 ≤ n ∧ n ≤ -1
        · rw [if_pos hsub] at hnone hfwd
          rw [decide_eq_true hsub]
          simp only [spec_l02Read.j2]
          rw [if_pos trivial, i8w (n := -n) (by omega) (by omega), w64 (n := -n) (by omega) (by omega), w64 (n := (s.2 : Int) + -n) (by omega) (by omega), w64 (n := (s.2 : Int) + -n - 1) (by omega) (by omega)]
          have hat : (s.2 : Int) + -n - 1 = ((s.2 + (-n).toNat - 1 : Nat) : Int) := by omega
          rw [hat]
          by_cases hlt : s.2 + (-n).toNat - 1 < s.1.length
          · rw [if_neg (by omega), if_pos (by omega), if_pos (by omega), if_pos (by omega), w64 (by omega) (by omega)]
            rw [if_pos hlt] at hfwd
            have := hfwd _ K rfl (fun _ => hn) (by omega)
            rw [show ((i + 1 : Nat) : Int) = (i : Int) + 1 by omega] at this
            exact this
          · rw [if_pos (by omega), hnone (by rw [if_neg hlt])]
        · rw [if_neg hsub, if_neg hk] at hnone
          rw [decide_eq_false hsub]
          simp only [spec_l02Read.j2]
          rw [if_neg (by simp), hnone rfl]
theorem specMean_eq {k : Nat} {h : List Int} (hw : wfH h) (hk : 100 < k) : spec_l02Read.f k h = some (match meanO h with | some m => (m, true) | none => ([], false)) := by
  unfold spec_l02Read.f
  rw [in_eq]
  simp only [Option.bind_some]
  by_cases hl : 1 ≤ h.length ∧ h.length ≤ 8
  · rw [if_pos (by simp; omega)]
    exact specMean_all hw hl h.length 0 ([], 0) k (by omega) rfl (by omega) (by omega)
  · rw [if_neg (by simp; omega)]
    unfold meanO
    rw [if_neg hl]
theorem specOkH {k : Nat} {h : List Int} (hw : wfH h) (hk : 100 < k) : spec_l02Ok.f k h = some (meanO h).isSome := by
  unfold spec_l02Ok.f
  rw [specMean_eq hw hk]
  cases meanO h <;> rfl
end Go.Proofs.Ytheenidapjkboaa.G.Pure
end

section
namespace Go.Proofs.Ytheenidapjkboaa.G.Pure
open Go.RowKit Go.Proofs.Ytheenidapjkboaa.G Go.Proofs.YtheenidapjkboaaW.PrintWords Go.Proofs.YtheenidapjkboaaW.PrintLast Go.Proofs.YtheenidapjkboaaW.PrintMore
set_option linter.unusedVariables false
set_option linter.unusedSimpArgs false
theorem rd_impl_Times {l : List Tm} {i : Nat} (h : i < l.length) : rd_T106 l (i : Int) = l[i] := by
  simp [rd_T106, List.getD_eq_getElem?_getD, List.getElem?_eq_getElem h]
def tup (t : Tm) : Int × Int × Int × Int := (t.f0, t.f1, t.f2, t.f3)
theorem due_eq (k : Nat) (line : List Sp) (pre : List Tm) (i : Nat) (read : Int) (hi : i < line.length) (hp : pre.length = i) (h20 : i < 20) (hok : TimesOK pre) (hx : shipIn line[i]) (hr : 0 ≤ read ∧ read ≤ 120) (hk : 8 < k) :
    spec_l06Due.f k line pre (i : Int) read = some (tup (dueL pre line[i] read)) := by
  obtain ⟨s0, s1, s2, s3, s4, s5⟩ := hx
  unfold spec_l06Due.f
  rw [if_pos (by omega), if_pos (by omega), rd_impl_Ship hi]
  rw [w64 (n := (line[i]).f2) (by omega) (by omega), w64 (n := (line[i]).f0) (by omega) (by omega)]
  by_cases h0 : (i : Int) = 0
  · rw [if_pos h0]
    simp [dueL, tup, hp, show i = 0 by omega]
  · rw [if_neg h0, w64 (by omega) (by omega)]
    have hsc := fun n (hn : (i - (line[i]).f0.toNat) + n ≤ pre.length) => scan_spec pre hok (i - (line[i]).f0.toNat) n hn
    generalize line[i] = x at *
    obtain ⟨r, hr', h⟩ := loop_inv (fun k (s : Int × Int × Int) => spec_l06Due.l0 k pre (i : Int) read x.f2 s.1 s.2.1 s.2.2 (-1) (-1)) x.f0.toNat
      (fun j s => s.1 = (i : Int) - x.f0 + j ∧ (s.2.1, s.2.2) = scan pre (i - x.f0.toNat) ((i + j - x.f0.toNat) - (i - x.f0.toNat)))
      (fun r => r = tup (dueL pre x read))
      (fun k j s hj ⟨h1, h2⟩ => by
        obtain ⟨p, f, s⟩ := s
        simp only at h1 h2
        subst h1
        refine .inl ?_
        by_cases hneg : 0 ≤ (i : Int) - x.f0 + j
        · obtain ⟨q, hq⟩ : ∃ q : Nat, (i : Int) - x.f0 + j = (q : Int) := ⟨((i : Int) - x.f0 + j).toNat, by omega⟩
          have hql : q < pre.length := by omega
          have hb := hok.bound q _ (List.getElem?_eq_getElem hql)
          have hn : i - x.f0.toNat + (i + j - x.f0.toNat - (i - x.f0.toNat)) = q := by omega
          have hn2 : i + (j + 1) - x.f0.toNat - (i - x.f0.toNat) = (i + j - x.f0.toNat - (i - x.f0.toNat)) + 1 := by omega
          refine ⟨((q : Int) + 1, (scan pre (i - x.f0.toNat) (i + (j + 1) - x.f0.toNat - (i - x.f0.toNat))).1, (scan pre (i - x.f0.toNat) (i + (j + 1) - x.f0.toNat - (i - x.f0.toNat))).2), ⟨by simp only; omega, rfl⟩, ?_⟩
          rw [hn2]
          simp only [scan, ← h2, hn, List.getElem?_eq_getElem hql]
          rw [hq]
          simp only [spec_l06Due.l0]
          rw [if_pos (by omega), if_pos (by omega), if_pos (by omega), if_pos (by omega), rd_impl_Times hql, w64 (n := (q : Int) + 1) (by omega) (by omega), i8w (n := (q : Int)) (by omega) (by omega)]
          by_cases c1 : 0 ≤ pre[q].f3
          · rw [if_pos (by omega)]
            by_cases c2 : f < 0
            · rw [if_pos c2, if_pos ⟨c1, .inl c2⟩]
            · rw [if_neg c2]
              by_cases c3 : pre[q].f3 < s
              · rw [if_pos c3, if_pos ⟨c1, .inr c3⟩]
              · rw [if_neg c3, if_neg (fun h => h.2.elim c2 c3)]
          · rw [if_neg (by omega), if_neg (fun h => c1 h.1)]
        · have hn : i + j - x.f0.toNat - (i - x.f0.toNat) = 0 := by omega
          have hn2 : i + (j + 1) - x.f0.toNat - (i - x.f0.toNat) = 0 := by omega
          refine ⟨((i : Int) - x.f0 + j + 1, f, s), ⟨by simp only; omega, ?_⟩, ?_⟩
          · rw [hn2]; rw [hn] at h2; exact h2
          · simp only [spec_l06Due.l0]
            rw [if_pos (by omega), if_neg (by omega), w64 (by omega) (by omega)])
      (fun k s ⟨h1, h2⟩ => by
        obtain ⟨p, f, s⟩ := s
        simp only at h1 h2
        have hp' : p = (i : Int) := by omega
        subst hp'
        have hn : i + x.f0.toNat - x.f0.toNat - (i - x.f0.toNat) = pre.length - (pre.length - x.f0.toNat) := by omega
        refine ⟨_, rfl, ?_⟩
        have hs := hsc (pre.length - (pre.length - x.f0.toNat)) (by omega)
        rw [hn] at h2
        rw [← h2] at hs
        simp only [spec_l06Due.l0]
        rw [if_neg (by omega)]
        unfold dueL
        rw [if_neg (show ¬ pre.length = 0 by omega), show pre.length - x.f0.toNat = i - x.f0.toNat by omega]
        rw [show pre.length - x.f0.toNat = i - x.f0.toNat by omega] at h2
        rw [← h2]
        simp only
        by_cases c : 0 ≤ f
        · rw [if_pos (by omega), if_pos c]
          rcases hs with hs | hs
          · simp only [Prod.mk.injEq] at hs
            omega
          · simp only at hs
            rw [w64 (n := s + read) (by omega) (by omega), w64 (by omega) (by omega)]
            rfl
        · rw [if_neg (by omega), if_neg c]
          rcases hs with hs | hs
          · simp only [Prod.mk.injEq] at hs
            rw [hs.1, hs.2]
            rfl
          · simp only at hs
            omega) k ((i : Int) - x.f0, -1, -1) ⟨by simp, by
        rw [show i + 0 - x.f0.toNat - (i - x.f0.toNat) = 0 by omega]
        rfl⟩ (by omega)
    subst hr'
    exact h
theorem specTimes_eq (k : Nat) (line : List Sp) (ship more : Int) (hl : line.length ≤ 20) (hx : ∀ x ∈ line, shipIn x) (hr : ∀ (i : Nat) (x : Sp), line[i]? = some x → 0 ≤ x.f1 + (if (i : Int) = ship then more else 0) ∧ x.f1 + (if (i : Int) = ship then more else 0) ≤ 120) (hm : 0 ≤ more ∧ more ≤ 60) (hk : 40 < k) :
    spec_l06Times.f k line ship more = some (timesL ship more line) := by
  unfold spec_l06Times.f
  have go : ∀ (rest : List Sp) (k : Nat) (acc : List Tm), line.drop acc.length = rest → TimesOK acc → acc.length ≤ line.length → rest.length + 10 < k → spec_l06Times.l0 k line ship more acc (acc.length : Int) = some (timesGo ship more rest acc) := by
    intro rest
    induction rest with
    | nil =>
      intro k acc hd hok hle hk
      obtain ⟨k, rfl⟩ : ∃ m, k = m + 1 := ⟨k - 1, by omega⟩
      have := List.drop_eq_nil_iff.1 hd
      simp only [spec_l06Times.l0]
      rw [if_neg (by omega)]
      rfl
    | cons x xs ih =>
      intro k acc hd hok hle hk
      simp only [List.length_cons] at hk
      obtain ⟨k, rfl⟩ : ∃ m, k = m + 1 := ⟨k - 1, by omega⟩
      have hlt : acc.length < line.length := by
        have := congrArg List.length hd
        simp at this
        omega
      have hx0 : line[acc.length] = x := by
        have h1 := List.drop_eq_getElem_cons hlt
        rw [hd] at h1
        exact (List.cons.inj h1).1.symm
      have hxs : line.drop (acc.length + 1) = xs := by
        have h1 := List.drop_eq_getElem_cons hlt
        rw [hd] at h1
        exact (List.cons.inj h1).2.symm
      have hmem : x ∈ line := hx0 ▸ List.getElem_mem hlt
      obtain ⟨s0, s1, s2, s3, s4, s5⟩ := hx x hmem
      have hr' := hr acc.length x (by rw [List.getElem?_eq_getElem hlt, hx0])
      simp only [spec_l06Times.l0]
      rw [if_pos (by omega), if_pos (by omega), rd_impl_Ship hlt, hx0]
      rw [w64 (n := x.f1) (by omega) (by omega), w64 (n := (acc.length : Int) + 1) (by omega) (by omega)]
      have step : ∀ read, read = x.f1 + (if (acc.length : Int) = ship then more else 0) → 
          ((spec_l06Due.f k line acc (acc.length : Int) read).bind fun bt => (if acc.length < 4398046511104 then (spec_l06Times.l0 k line ship more (acc ++ [(⟨bt.1, bt.2.1, bt.2.2.1, bt.2.2.2⟩ : Tm)]) ((acc.length : Int) + 1)) else none)) = some (timesGo ship more (x :: xs) acc) := by
        intro read hread
        rw [due_eq k line acc acc.length read hlt rfl (by omega) hok (by rw [hx0]; exact hx x hmem) (by rw [hread]; exact hr') (by omega)]
        simp only [Option.bind_some]
        rw [if_pos (by omega), hx0]
        have h2 := ih k (acc ++ [dueL acc x read]) (by simpa using hxs) (due_ok hok ⟨s4, s5⟩ (by rw [hread]; exact hr')) (by simp; omega) (by omega)
        rw [show ((acc ++ [dueL acc x read]).length : Int) = (acc.length : Int) + 1 by simp] at h2
        simp only [tup, timesGo]
        rw [← hread]
        exact h2
      by_cases c : (acc.length : Int) = ship
      · rw [if_pos c]
        rw [if_pos c] at hr'
        rw [w64 (n := x.f1 + more) (by omega) (by omega)]
        exact step _ (by rw [if_pos c])
      · rw [if_neg c]
        exact step _ (by rw [if_neg c, Int.add_zero])
  exact go line k [] rfl TimesOK.nil (by simp) (by omega)
end Go.Proofs.Ytheenidapjkboaa.G.Pure
end

section
namespace Go.Proofs.Ytheenidapjkboaa.G.Pure
open Go.RowKit Go.Proofs.Ytheenidapjkboaa.G Go.Proofs.YtheenidapjkboaaW.PrintWords Go.Proofs.YtheenidapjkboaaW.PrintLast Go.Proofs.YtheenidapjkboaaW.PrintMore
set_option linter.unusedVariables false
set_option linter.unusedSimpArgs false
theorem implInner (k : Nat) (acc : List Tm) (line : List Sp) (x : Sp) (i a : Nat) (len x12 : Int) (hi : acc.length = i) (h20 : i < 20) (h1i : 0 < i) (hok : TimesOK acc) (hx : shipIn x) (ha : a ≤ i) :
    ∀ d n, a + n + d = i → impl_times.l1 (k + d + 1) acc (i : Int) ((a + n : Nat) : Int) line len x12 x.f0 x.f1 x.f2 (scan acc a n).1 (scan acc a n).2 (-1) (-1) =
      impl_times.l1 (k + 1) acc (i : Int) (i : Int) line len x12 x.f0 x.f1 x.f2 (scan acc a (i - a)).1 (scan acc a (i - a)).2 (-1) (-1) := by
  intro d
  induction d with
  | zero =>
    intro n hn
    rw [show i - a = n by omega, show a + n = i by omega]
  | succ d ih =>
    intro n hn
    have hql : a + n < acc.length := by omega
    have hb := hok.bound (a + n) _ (List.getElem?_eq_getElem hql)
    have hsc := scan_spec acc hok a n (by omega)
    rw [← ih (n + 1) (by omega)]
    rw [show k + (d + 1) + 1 = (k + d + 1) + 1 by omega]
    conv => lhs; unfold impl_times.l1
    rw [if_pos (by omega), if_pos (by omega), if_pos (by omega), rd_impl_Times hql, w64 (n := ((a + n : Nat) : Int) + 1) (by omega) (by omega), i8w (n := ((a + n : Nat) : Int)) (by omega) (by omega)]
    rw [show ((a + (n + 1) : Nat) : Int) = ((a + n : Nat) : Int) + 1 by omega]
    have hs1 : scan acc a (n + 1) = if 0 ≤ acc[a + n].f3 ∧ ((scan acc a n).1 < 0 ∨ acc[a + n].f3 < (scan acc a n).2) then (((a + n : Nat) : Int), acc[a + n].f3) else scan acc a n := by
      rcases hs : scan acc a n with ⟨f, s⟩
      simp only [scan, hs, List.getElem?_eq_getElem hql]
    rw [hs1]
    have hneg : (scan acc a n).1 < 0 ↔ (scan acc a n).2 < 0 := by
      rcases hsc with h | h
      · rw [h]
      · omega
    by_cases c1 : 0 ≤ acc[a + n].f3
    · rw [if_pos (by omega)]
      by_cases c2 : (scan acc a n).2 < 0
      · rw [if_pos c2, if_pos ⟨c1, .inl (hneg.2 c2)⟩]
      · rw [if_neg c2]
        by_cases c3 : acc[a + n].f3 < (scan acc a n).2
        · rw [if_pos c3, if_pos ⟨c1, .inr c3⟩]
        · rw [if_neg c3, if_neg (fun h => h.2.elim (fun h => c2 (hneg.1 h)) c3)]
    · rw [if_neg (by omega), if_neg (fun h => c1 h.1)]
theorem implRound (k : Nat) (acc : List Tm) (line : List Sp) (x : Sp) (hlt : acc.length < line.length) (h20 : line.length ≤ 20) (hx0 : line[acc.length] = x) (hok : TimesOK acc) (hx : shipIn x) :
    impl_times.l0 (k + (acc.length - (acc.length - x.f0.toNat)) + 3) acc line (line.length : Int) (acc.length : Int) = impl_times.l0 k (acc ++ [dueL acc x x.f1]) line (line.length : Int) ((acc.length : Int) + 1) := by
  obtain ⟨s0, s1, s2, s3, s4, s5⟩ := hx
  have hxx : shipIn x := ⟨s0, s1, s2, s3, s4, s5⟩
  rcases Nat.eq_zero_or_pos acc.length with h0 | h0
  · rw [show k + (acc.length - (acc.length - x.f0.toNat)) + 3 = k + 3 by omega]
    conv => lhs; unfold impl_times.l0
    rw [if_pos (by omega), if_pos (by omega), if_pos (by omega), if_pos (by omega), rd_impl_Ship hlt, hx0]
    conv => lhs; unfold impl_times.j1
    rw [w64 (n := x.f0) (by omega) (by omega), w64 (by omega) (by omega)]
    rw [show mx ((acc.length : Int) - x.f0) 0 = (acc.length : Int) by unfold mx; split <;> omega]
    conv => lhs; unfold impl_times.l1
    rw [if_neg (by omega), if_pos (by omega), if_pos (by omega), if_pos (by omega), w64 (n := x.f2) (by omega) (by omega), w64 (n := x.f2) (by omega) (by omega), w64 (n := (acc.length : Int) + 1) (by omega) (by omega)]
    simp [dueL, h0]
  · obtain ⟨a, ha⟩ : ∃ a, a = acc.length - x.f0.toNat := ⟨_, rfl⟩
    rw [← ha]
    conv => lhs; unfold impl_times.l0
    rw [if_pos (by omega), if_pos (by omega), if_pos (by omega), if_neg (by omega), rd_impl_Ship hlt, hx0]
    conv => lhs; unfold impl_times.j1
    rw [w64 (n := x.f0) (by omega) (by omega), w64 (n := (acc.length : Int) - x.f0) (by omega) (by omega)]
    rw [show mx ((acc.length : Int) - x.f0) 0 = ((a + 0 : Nat) : Int) by unfold mx; split <;> omega]
    have h1 := implInner k acc line x acc.length a (line.length : Int) (acc.length : Int) rfl (by omega) h0 hok hxx (by omega) (acc.length - a) 0 (by omega)
    simp only [scan] at h1
    rw [h1]
    have hsc := scan_spec acc hok a (acc.length - a) (by omega)
    have hd : dueL acc x x.f1 = if 0 ≤ (scan acc a (acc.length - a)).1 then ⟨(scan acc a (acc.length - a)).1, (scan acc a (acc.length - a)).2, (scan acc a (acc.length - a)).2 + x.f1, (scan acc a (acc.length - a)).2 + x.f1 + x.f2⟩ else ⟨-1, -1, -1, -1⟩ := by
      unfold dueL
      rw [if_neg (show ¬ acc.length = 0 by omega), ← ha]
    rw [hd]
    rcases hsc with h | h
    · rw [h]
      conv => lhs; unfold impl_times.l1
      simp only
      rw [if_neg (by omega), if_neg (by omega), if_pos (by omega), if_neg (by omega), w64 (by omega) (by omega)]
    · conv => lhs; unfold impl_times.l1
      rw [if_neg (by omega), if_pos (by omega), if_neg (by omega), if_pos (by omega), if_pos h.1]
      rw [w64 (n := x.f1) (by omega) (by omega), w64 (n := x.f2) (by omega) (by omega), w64 (n := (scan acc a (acc.length - a)).2 + x.f1) (by omega) (by omega), w64 (n := (scan acc a (acc.length - a)).2 + x.f1 + x.f2) (by omega) (by omega), w64 (n := (acc.length : Int) + 1) (by omega) (by omega)]
theorem timesGo_plain (xs : List Sp) (acc : List Tm) : ∀ x, timesGo (-1) 0 (x :: xs) acc = timesGo (-1) 0 xs (acc ++ [dueL acc x x.f1]) := by
  intro x
  simp only [timesGo]
  rw [if_neg (by omega), Int.add_zero]
theorem implTimes_eq (k : Nat) (line : List Sp) (hl : line.length ≤ 20) (hx : ∀ x ∈ line, shipIn x) (hk : 200 < k) : impl_times.f k line = some (timesL (-1) 0 line) := by
  have go : ∀ (rest : List Sp) (k : Nat) (acc : List Tm), line.drop acc.length = rest → TimesOK acc → acc.length ≤ line.length → 9 * rest.length < k → impl_times.l0 k acc line (line.length : Int) (acc.length : Int) = some (timesGo (-1) 0 rest acc) := by
    intro rest
    induction rest with
    | nil =>
      intro k acc hd hok hle hk
      obtain ⟨k, rfl⟩ : ∃ m, k = m + 1 := ⟨k - 1, by omega⟩
      have := List.drop_eq_nil_iff.1 hd
      unfold impl_times.l0
      rw [if_neg (by omega)]
      rfl
    | cons x xs ih =>
      intro k acc hd hok hle hk
      simp only [List.length_cons] at hk
      have hlt : acc.length < line.length := by
        have := congrArg List.length hd
        simp at this
        omega
      have hx0 : line[acc.length] = x := by
        have h1 := List.drop_eq_getElem_cons hlt
        rw [hd] at h1
        exact (List.cons.inj h1).1.symm
      have hxs : line.drop (acc.length + 1) = xs := by
        have h1 := List.drop_eq_getElem_cons hlt
        rw [hd] at h1
        exact (List.cons.inj h1).2.symm
      have hmem : x ∈ line := hx0 ▸ List.getElem_mem hlt
      have hxx := hx x hmem
      obtain ⟨s0, s1, s2, s3, s4, s5⟩ := hxx
      obtain ⟨m, rfl, hm⟩ : ∃ m, k = m + (acc.length - (acc.length - x.f0.toNat)) + 3 ∧ 9 * xs.length < m := ⟨k - (acc.length - (acc.length - x.f0.toNat)) - 3, by omega, by omega⟩
      rw [implRound m acc line x hlt hl hx0 hok (hx x hmem), timesGo_plain]
      have h2 := ih m (acc ++ [dueL acc x x.f1]) (by simpa using hxs) (due_ok hok ⟨s4, s5⟩ ⟨s2, s3⟩) (by simp; omega) hm
      rw [show ((acc ++ [dueL acc x x.f1]).length : Int) = (acc.length : Int) + 1 by simp] at h2
      exact h2
  unfold impl_times.f
  exact go line k [] rfl TimesOK.nil (by simp) (by omega)
end Go.Proofs.Ytheenidapjkboaa.G.Pure
end

section
namespace Go.Proofs.Ytheenidapjkboaa.G.Pure
open Go.RowKit Go.Proofs.Ytheenidapjkboaa.G Go.Proofs.YtheenidapjkboaaW.PrintWords Go.Proofs.YtheenidapjkboaaW.PrintLast Go.Proofs.YtheenidapjkboaaW.PrintMore
set_option linter.unusedVariables false
set_option linter.unusedSimpArgs false
theorem ValidL.specTimes {line : List Sp} (v : ValidL line) {k : Nat} (hk : 300 < k) : spec_l06Times.f k line (-1) 0 = some (timesL (-1) 0 line) :=
  specTimes_eq k line (-1) 0 v.most v.in_ (fun i x hx => by
    have := v.ships x (List.mem_of_getElem? hx)
    rw [if_neg (by omega)]
    omega) ⟨by omega, by omega⟩ (by omega)
theorem ValidL.implTimes {line : List Sp} (v : ValidL line) {k : Nat} (hk : 300 < k) : impl_times.f k line = some (timesL (-1) 0 line) :=
  implTimes_eq k line v.most v.in_ (by omega)
theorem ValidL.timesOK {line : List Sp} (v : ValidL line) : TimesOK (timesL (-1) 0 line) :=
  timesGo_ok (-1) 0 line [] TimesOK.nil (fun x hx => by have := v.ships x hx; omega) (fun i x hx => by
    have := v.ships x (List.mem_of_getElem? hx)
    rw [if_neg (by simp only [List.length_nil]; omega)]
    omega)
theorem TimesOK.sign {ts : List Tm} (h : TimesOK ts) {i : Nat} {t : Tm} (ht : ts[i]? = some t) : (t.f3 < 0 ↔ t.f2 < 0) ∧ (t.f3 < 0 ↔ t.f0 < 0 ∧ 0 < i) := by
  have hb := h.bound i t ht
  rcases Nat.eq_zero_or_pos i with h0 | h0
  · subst h0
    have := h.first t ht
    omega
  · rcases h.later i t ht h0 with rfl | h1
    · exact ⟨⟨fun _ => by decide, fun _ => by decide⟩, ⟨fun _ => ⟨by decide, h0⟩, fun _ => by decide⟩⟩
    · omega
end Go.Proofs.Ytheenidapjkboaa.G.Pure
end

section
namespace Go.Proofs.Ytheenidapjkboaa.G.Pure
open Go.RowKit Go.Proofs.Ytheenidapjkboaa.G Go.Proofs.YtheenidapjkboaaW.PrintWords Go.Proofs.YtheenidapjkboaaW.PrintLast Go.Proofs.YtheenidapjkboaaW.PrintMore
set_option linter.unusedVariables false
set_option linter.unusedSimpArgs false
theorem lineCode_nil {k : Nat} {line : List Sp} {h : List Int} (hw : wfH h) (hl : h.length ≤ 1048576) (hk : 2200001 < k) : impl_lineCode.f k line h [] = some (if validB line = true ∧ (meanO h).isSome = true then 0 else 1) := by
  unfold impl_lineCode.f
  rw [implValid_eq]
  simp only [Option.bind_some]
  obtain ⟨k, rfl⟩ : ∃ j, k = j + 1 := ⟨k - 1, by omega⟩
  cases hv : validB line with
  | false => simp [impl_unless.f]
  | true =>
    simp only [if_true, true_and]
    rw [implValidH hw hl (by omega)]
    simp only [Option.bind_some]
    cases hm : (meanO h).isSome with
    | false => simp [impl_unless.f]
    | true => simp [impl_unless.f, impl_areFaults.f, impl_areFaults.l0]
def fromH (h : List Int) (read : Hs) (t : Tm) : List Int := if 0 ≤ t.f0 then rd_L2 read t.f0 else h
def badH (h : List Int) (read : Hs) (ts : List Tm) (i : Nat) : Bool := decide (0 ≤ (rd_T106 ts (i : Int)).f2) && !decide (rd_L2 read (i : Int) = fromH h read (rd_T106 ts (i : Int)))
def blamed (h : List Int) (read : Hs) (ts : List Tm) : Int × Int := match (List.range ts.length).find? (badH h read ts) with | some i => ((i : Int), 0) | none => (0, 6)
theorem find_hit {p : Nat → Bool} {n i : Nat} (hi : i < n) (hp : p i = true) (hb : ∀ j, j < i → p j = false) : (List.range n).find? p = some i := by
  rw [List.find?_range_eq_some]
  exact ⟨hp, by simpa using hi, fun j hj => by simp [hb j hj]⟩
theorem find_miss {p : Nat → Bool} {n : Nat} (hb : ∀ j, j < n → p j = false) : (List.range n).find? p = none := by
  rw [List.find?_eq_none]
  intro j hj
  rw [hb j (List.mem_range.1 hj)]
  simp
theorem times_from {ts : List Tm} (h : TimesOK ts) {i : Nat} (hi : i < ts.length) : (rd_T106 ts (i : Int)).f0 < (i : Int) ∨ (rd_T106 ts (i : Int)).f0 < 0 := by
  rw [rd_impl_Times hi]
  rcases Nat.eq_zero_or_pos i with h0 | h0
  · subst h0
    have := h.first _ (List.getElem?_eq_getElem hi)
    omega
  · rcases h.later i _ (List.getElem?_eq_getElem hi) h0 with e | e
    · rw [e]
      exact .inr (by decide)
    · omega
theorem times_sign {ts : List Tm} (h : TimesOK ts) {i : Nat} (hi : i < ts.length) : (rd_T106 ts (i : Int)).f3 < 0 ↔ (rd_T106 ts (i : Int)).f2 < 0 := by
  rw [rd_impl_Times hi]
  exact (h.sign (List.getElem?_eq_getElem hi)).1
theorem rdH_len {read : Hs} (hi : ∀ x ∈ read, x.length ≤ 1048576) (i : Int) : (rd_L2 read i).length ≤ 1048576 := by
  unfold rd_L2
  rw [List.getD_eq_getElem?_getD]
  cases e : read[i.toNat]? with
  | none => simp
  | some x => exact hi x (List.mem_of_getElem? e)
theorem implBlamed {k : Nat} {h : List Int} {read : Hs} {ts : List Tm} (hok : TimesOK ts) (hr : read.length = ts.length) (hl : ts.length ≤ 20) (hi : ∀ x ∈ read, x.length ≤ 1048576) (hk : 1100000 < k) : impl_FirstBlamed.l0 k h read ts (ts.length : Int) 0 = some (blamed h read ts) := by
  obtain ⟨r, hr', h'⟩ := loop_inv2 (fun k (s : Int) => impl_FirstBlamed.l0 k h read ts (ts.length : Int) s) ts.length 1048577 (fun i s => s = (i : Int) ∧ ∀ j, j < i → badH h read ts j = false) (fun r => r = blamed h read ts)
    (fun k i s hil hk ⟨h1, h2⟩ => by
      subst h1
      have hf := times_from hok hil
      have hL := rdH_len hi (i : Int)
      simp only [impl_FirstBlamed.l0]
      rw [if_pos (by omega), if_pos (by omega), if_pos (by omega), w64 (by omega) (by omega)]
      have hgo : badH h read ts i = false → (∃ s' : Int, (s' = ((i + 1 : Nat) : Int) ∧ ∀ j, j < i + 1 → badH h read ts j = false) ∧ impl_FirstBlamed.l0 k h read ts (ts.length : Int) ((i : Int) + 1) = impl_FirstBlamed.l0 k h read ts (ts.length : Int) s') := fun hb => ⟨_, ⟨rfl, fun j hj => by
        rcases Nat.lt_succ_iff_lt_or_eq.1 hj with e | e
        · exact h2 j e
        · subst e; exact hb⟩, by rw [show ((i + 1 : Nat) : Int) = (i : Int) + 1 by omega]⟩
      have hst : badH h read ts i = true → ((i : Int), (0 : Int)) = blamed h read ts := fun hb => by
        unfold blamed
        rw [find_hit hil hb h2]
      unfold badH fromH at hgo hst
      generalize rd_T106 ts (i : Int) = t at *
      by_cases h0 : 0 ≤ t.f0
      · rw [if_pos h0] at hgo hst
        rw [if_pos h0, if_pos h0, if_pos (by omega)]
        by_cases h2' : 0 ≤ t.f2
        · rw [decide_eq_true h2', Bool.true_and] at hgo hst
          rw [if_pos h2', if_pos (by omega), implEqH hL (by omega)]
          simp only [Option.bind_some]
          by_cases he : rd_L2 read (i : Int) = rd_L2 read t.f0
          · rw [decide_eq_true he, if_pos rfl]
            exact .inl (hgo (by simp [he]))
          · rw [decide_eq_false he, if_neg (by simp)]
            exact .inr ⟨_, hst (by simp [he]), rfl⟩
        · rw [if_neg h2']
          exact .inl (hgo (by rw [decide_eq_false h2', Bool.false_and]))
      · rw [if_neg h0] at hgo hst
        rw [if_neg h0]
        by_cases h2' : 0 ≤ t.f2
        · rw [decide_eq_true h2', Bool.true_and] at hgo hst
          rw [if_pos h2', if_pos (by omega), implEqH hL (by omega)]
          simp only [Option.bind_some]
          by_cases he : rd_L2 read (i : Int) = h
          · rw [decide_eq_true he, if_pos rfl]
            exact .inl (hgo (by simp [he]))
          · rw [decide_eq_false he, if_neg (by simp)]
            exact .inr ⟨_, hst (by simp [he]), rfl⟩
        · rw [if_neg h2']
          exact .inl (hgo (by rw [decide_eq_false h2', Bool.false_and])))
    (fun k s hk ⟨h1, h2⟩ => by
      subst h1
      refine ⟨blamed h read ts, rfl, ?_⟩
      simp only [impl_FirstBlamed.l0]
      rw [if_neg (by omega)]
      unfold blamed
      rw [find_miss h2]) k 0 ⟨rfl, fun j h => absurd h (Nat.not_lt_zero _)⟩ (by omega)
  subst hr'
  exact h'
theorem specBlamed {k : Nat} {h : List Int} {read : Hs} {ts : List Tm} (hok : TimesOK ts) (hr : read.length = ts.length) (hl : ts.length ≤ 20) (hi : ∀ x ∈ read, x.length ≤ 1048576) (hk : 1100000 < k) : spec_FirstBlamed.l0 k h read ts 0 = some (blamed h read ts) := by
  obtain ⟨r, hr', h'⟩ := loop_inv2 (fun k (s : Int) => spec_FirstBlamed.l0 k h read ts s) ts.length 1048577 (fun i s => s = (i : Int) ∧ ∀ j, j < i → badH h read ts j = false) (fun r => r = blamed h read ts)
    (fun k i s hil hk ⟨h1, h2⟩ => by
      subst h1
      have hf := times_from hok hil
      have hsg := times_sign hok hil
      have hL := rdH_len hi (i : Int)
      simp only [spec_FirstBlamed.l0]
      rw [if_pos (by omega), if_pos (by omega), w64 (by omega) (by omega)]
      have hgo : badH h read ts i = false → (∃ s' : Int, (s' = ((i + 1 : Nat) : Int) ∧ ∀ j, j < i + 1 → badH h read ts j = false) ∧ spec_FirstBlamed.l0 k h read ts ((i : Int) + 1) = spec_FirstBlamed.l0 k h read ts s') := fun hb => ⟨_, ⟨rfl, fun j hj => by
        rcases Nat.lt_succ_iff_lt_or_eq.1 hj with e | e
        · exact h2 j e
        · subst e; exact hb⟩, by rw [show ((i + 1 : Nat) : Int) = (i : Int) + 1 by omega]⟩
      have hst : badH h read ts i = true → ((i : Int), (0 : Int)) = blamed h read ts := fun hb => by
        unfold blamed
        rw [find_hit hil hb h2]
      unfold badH fromH at hgo hst
      generalize rd_T106 ts (i : Int) = t at *
      by_cases h0 : 0 ≤ t.f0
      · rw [if_pos h0] at hgo hst
        rw [if_pos h0, if_pos h0, if_pos (by omega)]
        by_cases h2' : 0 ≤ t.f2
        · rw [decide_eq_true h2', Bool.true_and] at hgo hst
          rw [if_pos (by omega), if_pos (by omega), specEqH hL (by omega)]
          simp only [Option.bind_some]
          by_cases he : rd_L2 read (i : Int) = rd_L2 read t.f0
          · rw [decide_eq_true he, if_pos rfl]
            exact .inl (hgo (by simp [he]))
          · rw [decide_eq_false he, if_neg (by simp)]
            exact .inr ⟨_, hst (by simp [he]), rfl⟩
        · rw [if_neg (by omega)]
          exact .inl (hgo (by rw [decide_eq_false h2', Bool.false_and]))
      · rw [if_neg h0] at hgo hst
        rw [if_neg h0]
        by_cases h2' : 0 ≤ t.f2
        · rw [decide_eq_true h2', Bool.true_and] at hgo hst
          rw [if_pos (by omega), if_pos (by omega), specEqH hL (by omega)]
          simp only [Option.bind_some]
          by_cases he : rd_L2 read (i : Int) = h
          · rw [decide_eq_true he, if_pos rfl]
            exact .inl (hgo (by simp [he]))
          · rw [decide_eq_false he, if_neg (by simp)]
            exact .inr ⟨_, hst (by simp [he]), rfl⟩
        · rw [if_neg (by omega)]
          exact .inl (hgo (by rw [decide_eq_false h2', Bool.false_and])))
    (fun k s hk ⟨h1, h2⟩ => by
      subst h1
      refine ⟨blamed h read ts, rfl, ?_⟩
      simp only [spec_FirstBlamed.l0]
      rw [if_neg (by omega)]
      unfold blamed
      rw [find_miss h2]) k 0 ⟨rfl, fun j h => absurd h (Nat.not_lt_zero _)⟩ (by omega)
  subst hr'
  exact h'
def resBlamed (line : List Sp) (h : List Int) (read : Hs) : Int × Int := if validB line = true ∧ (meanO h).isSome = true then (if read.length = line.length then blamed h read (timesL (-1) 0 line) else (0, 2)) else (0, 1)
theorem implBlamed_eq {k : Nat} {line : List Sp} {h : List Int} {read : Hs} (hw : ∀ x ∈ line, wfShip x) (hwh : wfH h) (hl : h.length ≤ 1048576) (hi : ∀ x ∈ read, x.length ≤ 1048576) (hk : 2200001 < k) : impl_FirstBlamed.f k line h read = some (resBlamed line h read) := by
  unfold impl_FirstBlamed.f resBlamed
  rw [lineCode_nil hwh hl hk]
  simp only [Option.bind_some]
  rw [show ∀ b : Bool, impl_unless.f b 2 = some (if b = true then 0 else 2) from fun b => by cases b <;> rfl]
  simp only [Option.bind_some]
  rw [firstOf_eq k _ _ (by omega)]
  simp only [Option.bind_some]
  by_cases hv : validB line = true ∧ (meanO h).isSome = true
  · rw [if_pos hv, if_pos rfl, if_pos hv]
    by_cases hr : read.length = line.length
    · rw [if_pos (by simp [hr]), if_pos hr]
      have v := (validB_iff hw).1 hv.1
      rw [v.implTimes (by omega)]
      simp only [Option.bind_some]
      exact implBlamed v.timesOK (by rw [timesL_len]; exact hr) (by rw [timesL_len]; exact v.most) hi (by omega)
    · rw [if_neg (by simp; omega), if_neg hr, if_neg (by simp; omega)]
  · rw [if_neg hv, if_neg (by omega), if_neg (by omega), if_neg hv]
theorem specBlamed_eq {k : Nat} {line : List Sp} {h : List Int} {read : Hs} (hw : ∀ x ∈ line, wfShip x) (hll : line.length ≤ 1048576) (hwh : wfH h) (hi : ∀ x ∈ read, x.length ≤ 1048576) (hk : 2200001 < k) : spec_FirstBlamed.f k line h read = some (resBlamed line h read) := by
  unfold spec_FirstBlamed.f resBlamed
  rw [specOk_eq k line hw hll (by omega), specOkH hwh (by omega)]
  simp only [Option.bind_some]
  obtain ⟨k, rfl⟩ : ∃ j, k = j + 1 := ⟨k - 1, by omega⟩
  cases hv : validB line with
  | false => simp [spec_FirstBlamed.j0]
  | true =>
    cases hm : (meanO h).isSome with
    | false => simp [spec_FirstBlamed.j0]
    | true =>
      have v := (validB_iff hw).1 hv
      simp only [if_true, and_self, spec_FirstBlamed.j0, Bool.not_true, Bool.false_eq_true, if_false]
      by_cases hr : read.length = line.length
      · rw [if_pos (by omega), if_pos hr, v.specTimes (by omega)]
        simp only [Option.bind_some]
        exact specBlamed v.timesOK (by rw [timesL_len]; exact hr) (by rw [timesL_len]; exact v.most) hi (by omega)
      · rw [if_neg (by omega), if_neg hr]
end Go.Proofs.Ytheenidapjkboaa.G.Pure
end

section
namespace Go.Proofs.Ytheenidapjkboaa.G.Pure
open Go.RowKit Go.Proofs.Ytheenidapjkboaa.G Go.Proofs.YtheenidapjkboaaW.PrintWords Go.Proofs.YtheenidapjkboaaW.PrintLast Go.Proofs.YtheenidapjkboaaW.PrintMore
set_option linter.unusedVariables false
set_option linter.unusedSimpArgs false
theorem szShipS_big {l : List (S111)} (hl : l.length ≤ 9223372036854775807) (h : ¬ l.length ≤ 1048576) : laws_szShipS.f l 1048576 = some (-1) := by
  rw [szShipS_eq _ _ (by omega) (by omega) hl, if_pos (by omega)]
theorem szShipS_small {l : List (S111)} (h : l.length ≤ 1048576) : ∃ n, laws_szShipS.f l 1048576 = some n ∧ ¬ n < 0 ∧ n = 1048576 - (l.length : Int) := by
  refine ⟨1048576 - l.length, ?_, by omega, rfl⟩
  rw [szShipS_eq _ _ (by omega) (by omega) (by omega), if_neg (by omega)]
end Go.Proofs.Ytheenidapjkboaa.G.Pure
end

section
namespace Go.Proofs.Ytheenidapjkboaa.G.Pure
open Go.RowKit Go.Proofs.Ytheenidapjkboaa.G Go.Proofs.YtheenidapjkboaaW.PrintWords Go.Proofs.YtheenidapjkboaaW.PrintLast Go.Proofs.YtheenidapjkboaaW.PrintMore
set_option linter.unusedVariables false
set_option linter.unusedSimpArgs false
theorem FnExactFirstBlamed (l0 : List (S111)) (l1 : List Int) (l2 : List (List Int)) (h00 : l0.length ≤ 9223372036854775807) (h01 : (∀ x ∈ l0, (Lit.int .i8 x.f0).wf = true ∧ (Lit.int .i8 x.f1).wf = true ∧ (Lit.int .i8 x.f2).wf = true)) (h10 : l1.length ≤ 9223372036854775807) (h11 : (∀ x ∈ l1, (Lit.int .i8 x).wf = true)) (h20 : l2.length ≤ 9223372036854775807) (h21 : (∀ x ∈ l2, (x.length ≤ 9223372036854775807 ∧ ∀ x_ ∈ x, (Lit.int .i8 x_).wf = true))) : ∃ k, laws_FnExactFirstBlamed.f k l0 l1 l2 = some true := by
  obtain ⟨k, hk⟩ : ∃ k, 3000000 < k := ⟨_, Nat.lt_succ_self _⟩
  refine ⟨k + 2, ?_⟩
  unfold laws_FnExactFirstBlamed.f
  by_cases hH : (l1.length : Int) > 1048576
  · rw [if_pos hH]
  · rw [if_neg hH]
    by_cases hL : l0.length ≤ 1048576
    · obtain ⟨n, hn, hn0, hn1⟩ := szShipS_small hL
      rw [hn]
      simp only [Option.bind_some]
      rw [if_neg hn0]
      obtain ⟨m, hm, hc⟩ := szHoistS_ok (k := k + 2) (l := l2) (a0 := n) (by omega) (by omega) h20 (fun x hx => (h21 x hx).1) (by omega)
      rw [hm]
      simp only [Option.bind_some]
      rcases hc with hc | ⟨hm0, hl2, hi2⟩
      · rw [if_pos hc]
      · rw [if_neg hm0]
        have hw := wf_map h01
        have hL' : (l0.map shipOf).length ≤ 1048576 := by simpa using hL
        have hH' : l1.length ≤ 1048576 := by omega
        have e1 := fun j => toShipS_eq (k + j) l0 hL (by omega)
        have e2 := fun j => toHoist_eq (k + j) l1 hH' (by omega)
        have e3 := fun j => toHoistS_eq (k := k + j) hl2 hi2 (by omega)
        have q1 := fun j => eqShipS_self (k + j) (l0.map shipOf) hL' (by omega)
        have q2 := fun j => eqHoist_self (k + j) l1 hH' (by omega)
        have q3 := fun j => eqHoistS_self (k := k + j) hl2 hi2 (by omega)
        have s1 := fun j => specBlamed_eq (k := k + j) hw hL' h11 hi2 (by omega)
        have i1 := fun j => implBlamed_eq (k := k + j) hw h11 hH' hi2 (by omega)
        generalize resBlamed (l0.map shipOf) l1 l2 = res at *
        simp [laws_FnExactFirstBlamed.j0, e1, e2, e3, q1, q2, q3, s1, i1]
    · rw [szShipS_big h00 hL]
      rfl
end Go.Proofs.Ytheenidapjkboaa.G.Pure
end
