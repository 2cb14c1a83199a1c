/- The law's functions, their contracts, and the plain lemmas: texts of this claim, laid together. -/
import Derived.Test.YtidkniacmcbgiaaMFnExactLateShips0
import Derived.Test.YtidkniacmcbgiaaMFnExactLateShips1
section
namespace Go.Proofs.Ytidkniacmcbgiaa.G.Pure
open Go.RowKit Go.Proofs.Ytidkniacmcbgiaa.G Go.Proofs.YtidkniacmcbgiaaW.PrintWords Go.Proofs.YtidkniacmcbgiaaW.PrintLast Go.Proofs.YtidkniacmcbgiaaW.PrintMore
set_option linter.unusedVariables false
set_option linter.unusedSimpArgs false
theorem markLog_from (k : Nat) (a : List En) (m0 : Int) (hl : a.length ≤ 1048576) (hk : a.length < k) (h0 : 0 ≤ m0) (h1 : m0 ≤ 4000000000000000000) : ∃ l m, laws_markLog.f k a m0 = some (m, l) ∧ 0 ≤ m ∧ m ≤ m0 + 4000000 := by
  obtain ⟨r, ⟨h1, h2⟩, h⟩ := loop_inv (fun k (s : List En × Int × Int) => laws_markLog.l0 k s.1 s.2.1 s.2.2) a.length
    (fun i s => s.2.2 = (i : Int) ∧ s.2.1 = m0 + 3 * (i : Int) ∧ s.1.length = a.length)
    (fun r => r.1 = m0 + 3 * (a.length : Int) ∧ True)
    (fun k i s hi ⟨h1, h2, h3⟩ => by
      obtain ⟨acc, m, x⟩ := s
      simp only at h1 h2 h3
      subst h1 h2
      have hia : i < acc.length := by omega
      refine .inl ⟨(acc.set i ⟨m0 + 3 * (i : Int), m0 + 3 * (i : Int) + 1, Int.tmod (m0 + 3 * (i : Int) + 1 + 1) 3 == 0⟩, m0 + 3 * ((i + 1 : Nat) : Int), ((i + 1 : Nat) : Int)), ⟨rfl, rfl, by simpa using h3⟩, ?_⟩
      simp only [laws_markLog.l0]
      rw [if_pos (by omega), if_pos (by omega)]
      simp only [Option.bind_some, Int.toNat_natCast]
      rw [w64 (n := m0 + 3 * (i : Int) + 1) (by omega) (by omega), w64 (n := m0 + 3 * (i : Int) + 1 + 1) (by omega) (by omega), w64 (n := m0 + 3 * (i : Int) + 1 + 1 + 1) (by omega) (by omega), w64 (n := (i : Int) + 1) (by omega) (by omega)]
      simp only [rd_set_Entry, hia, List.set_set, List.length_set]
      rw [show m0 + 3 * (i : Int) + 1 + 1 + 1 = m0 + 3 * ((i + 1 : Nat) : Int) by omega]
      rfl)
    (fun k s ⟨h1, h2, h3⟩ => by
      obtain ⟨acc, m, x⟩ := s
      simp only at h1 h2 h3
      subst h1 h2
      refine ⟨(m0 + 3 * (a.length : Int), acc), ⟨rfl, trivial⟩, ?_⟩
      simp only [laws_markLog.l0]
      rw [if_neg (by omega)]) k (a, m0, 0) ⟨rfl, by simp, rfl⟩ hk
  obtain ⟨m, l⟩ := r
  simp only at h1
  exact ⟨l, m, h, by omega, by omega⟩
end Go.Proofs.Ytidkniacmcbgiaa.G.Pure
end

section
namespace Go.Proofs.Ytidkniacmcbgiaa.G.Pure
open Go.RowKit Go.Proofs.Ytidkniacmcbgiaa.G Go.Proofs.YtidkniacmcbgiaaW.PrintWords Go.Proofs.YtidkniacmcbgiaaW.PrintLast Go.Proofs.YtidkniacmcbgiaaW.PrintMore
set_option linter.unusedVariables false
set_option linter.unusedSimpArgs false
theorem l00Max_eq (x y : Int) : spec_l00Max.f x y = some (mx x y) := by
  unfold spec_l00Max.f mx
  split <;> split <;> first | rfl | (congr 1; omega) | omega
end Go.Proofs.Ytidkniacmcbgiaa.G.Pure
end

section
namespace Go.Proofs.Ytidkniacmcbgiaa.G.Pure
open Go.RowKit Go.Proofs.Ytidkniacmcbgiaa.G Go.Proofs.YtidkniacmcbgiaaW.PrintWords Go.Proofs.YtidkniacmcbgiaaW.PrintLast Go.Proofs.YtidkniacmcbgiaaW.PrintMore
set_option linter.unusedVariables false
set_option linter.unusedSimpArgs false
def isDown (s : Int) (x : En) : Bool := x.f2 && x.f1 == s
def fdI (l : List En) (s : Int) : Int := if idxP (isDown s) l < 0 then -1 else (rd_T73 l (idxP (isDown s) l)).f0
theorem implFirst (l : List En) (s : Int) : impl_Log_firstDown.f l s = some (fdI l s) := rfl
theorem specFirst {k : Nat} {l : List En} {s : Int} (hl : l.length ≤ 1048576) (hk : l.length < k) : spec_l07First.f k l s = some (fdI l s) := by
  unfold spec_l07First.f
  obtain ⟨r, hr, h⟩ := loop_inv (fun k (x : Int) => spec_l07First.l0 k l s x) l.length (fun i x => x = (i : Int) ∧ ∀ j y, j < i → l[j]? = some y → isDown s y = false) (fun r => r = fdI l s)
    (fun k i x hi ⟨h1, h2⟩ => by
      subst h1
      simp only [spec_l07First.l0]
      rw [if_pos (by omega), if_pos (by omega), rd_impl_Entry hi, w64 (by omega) (by omega)]
      by_cases hd : isDown s l[i] = true
      · refine .inr ⟨l[i].f0, ?_, ?_⟩
        · unfold fdI
          rw [idxP_hit (List.getElem?_eq_getElem hi) hd h2, if_neg (by omega), rd_impl_Entry hi]
        · unfold isDown at hd
          simp only [Bool.and_eq_true, beq_iff_eq] at hd
          rw [if_pos hd.1, if_pos hd.2]
      · have hf : isDown s l[i] = false := by simpa using hd
        refine .inl ⟨((i + 1 : Nat) : Int), ⟨rfl, fun j y hj hy => ?_⟩, ?_⟩
        · rcases Nat.lt_succ_iff_lt_or_eq.1 hj with e | e
          · exact h2 j y e hy
          · subst e
            rw [List.getElem?_eq_getElem hi] at hy
            cases hy
            exact hf
        · unfold isDown at hf
          by_cases h3 : l[i].f2 = true
          · rw [if_pos h3, if_neg (by rw [h3] at hf; simpa using hf)]
            rfl
          · rw [if_neg h3]
            rfl)
    (fun k x ⟨h1, h2⟩ => by
      subst h1
      refine ⟨fdI l s, rfl, ?_⟩
      simp only [spec_l07First.l0]
      rw [if_neg (by omega)]
      unfold fdI
      rw [idxP_miss (fun x hx => by
        obtain ⟨j, hj, rfl⟩ := List.mem_iff_getElem.1 hx
        exact h2 j _ hj (List.getElem?_eq_getElem hj)), if_pos (by omega)]) k 0 ⟨rfl, fun j _ h => absurd h (Nat.not_lt_zero _)⟩ hk
  subst hr
  exact h
def sprS (p : Int × Int) (t : Int) : Int × Int := (if 0 ≤ t ∧ (p.1 < 0 ∨ t < p.1) then t else p.1, mx p.2 t)
def sprL (l : Gs) (s : Int) : Nat → Int × Int
  | 0 => (-1, -1)
  | n + 1 => sprS (sprL l s n) (fdI (rd_L5 l (n : Int)) s)
theorem sprL_sign (l : Gs) (s : Int) : ∀ n, ((sprL l s n).1 < 0 ∧ (sprL l s n).2 < 0) ∨ (0 ≤ (sprL l s n).1 ∧ 0 ≤ (sprL l s n).2) := by
  intro n
  induction n with
  | zero => exact .inl ⟨show (-1 : Int) < 0 by decide, show (-1 : Int) < 0 by decide⟩
  | succ n ih =>
    rw [sprL]
    unfold sprS mx
    generalize fdI (rd_L5 l (n : Int)) s = t at *
    simp only
    split <;> split <;> omega
theorem implSpread {k : Nat} {l : Gs} {s : Int} (hl : l.length ≤ 1048576) (hk : l.length < k) : impl_SpreadOf.l0 k s (-1) (-1) l (l.length : Int) 0 = some (if (sprL l s l.length).2 < 0 then (0, 0, 6) else ((sprL l s l.length).1, (sprL l s l.length).2, 0)) := by
  obtain ⟨r, hr, h⟩ := loop_inv (fun k (x : (Int × Int) × Int) => impl_SpreadOf.l0 k s x.1.1 x.1.2 l (l.length : Int) x.2) l.length (fun i x => x.2 = (i : Int) ∧ x.1 = sprL l s i) (fun r => r = if (sprL l s l.length).2 < 0 then (0, 0, 6) else ((sprL l s l.length).1, (sprL l s l.length).2, 0))
    (fun k i x hi ⟨h1, h2⟩ => by
      obtain ⟨⟨a, b⟩, x⟩ := x
      simp only at h1 h2
      subst h1
      refine .inl ⟨(sprL l s (i + 1), ((i + 1 : Nat) : Int)), ⟨rfl, rfl⟩, ?_⟩
      simp only [impl_SpreadOf.l0]
      rw [if_pos (by omega), if_pos (by omega), if_pos (by omega), implFirst, w64 (by omega) (by omega)]
      simp only [Option.bind_some, sprL, ← h2, sprS]
      generalize fdI (rd_L5 l (i : Int)) s = t at *
      by_cases ht : 0 ≤ t
      · rw [if_pos ht]
        by_cases ha : a < 0
        · rw [if_pos ha, if_pos ⟨ht, .inl ha⟩]
          rfl
        · rw [if_neg ha]
          by_cases hb : t < a
          · rw [if_pos hb, if_pos ⟨ht, .inr hb⟩]
            rfl
          · rw [if_neg hb, if_neg (by omega)]
            rfl
      · rw [if_neg ht, if_neg (by omega)]
        rfl)
    (fun k x ⟨h1, h2⟩ => by
      obtain ⟨⟨a, b⟩, x⟩ := x
      simp only at h1 h2
      subst h1
      refine ⟨_, rfl, ?_⟩
      simp only [impl_SpreadOf.l0]
      rw [if_neg (by omega), ← h2]
      split <;> rfl) k ((-1, -1), 0) ⟨rfl, rfl⟩ hk
  subst hr
  exact h
theorem specSpread {k : Nat} {l : Gs} {s : Int} (hl : l.length ≤ 1048576) (hi : ∀ x ∈ l, x.length ≤ 1048576) (hk : 2200000 < k) : spec_l07Spread.f k l s = some (sprL l s l.length) := by
  unfold spec_l07Spread.f
  obtain ⟨r, hr, h⟩ := loop_inv2 (fun k (x : (Int × Int) × Int) => spec_l07Spread.l0 k l s x.1.1 x.1.2 x.2) l.length 1048577 (fun i x => x.2 = (i : Int) ∧ x.1 = sprL l s i) (fun r => r = sprL l s l.length)
    (fun k i x hil hk ⟨h1, h2⟩ => by
      obtain ⟨⟨a, b⟩, x⟩ := x
      simp only at h1 h2
      subst h1
      refine .inl ⟨(sprL l s (i + 1), ((i + 1 : Nat) : Int)), ⟨rfl, rfl⟩, ?_⟩
      simp only [spec_l07Spread.l0]
      rw [if_pos (by omega), if_pos (by omega), specFirst (by rw [rdL_impl hil]; exact hi _ (List.getElem_mem hil)) (by rw [rdL_impl hil]; have := hi _ (List.getElem_mem hil); omega), w64 (by omega) (by omega)]
      simp only [Option.bind_some, sprL, ← h2, sprS, l00Max_eq]
      generalize fdI (rd_L5 l (i : Int)) s = t at *
      by_cases ht : 0 ≤ t
      · rw [if_pos ht]
        by_cases ha : a < 0
        · rw [if_pos ha, if_pos ⟨ht, .inl ha⟩]
          rfl
        · rw [if_neg ha]
          by_cases hb : t < a
          · rw [if_pos hb, if_pos ⟨ht, .inr hb⟩]
            rfl
          · rw [if_neg hb, if_neg (by omega)]
            rfl
      · rw [if_neg ht, if_neg (by omega)]
        rfl)
    (fun k x hk ⟨h1, h2⟩ => by
      obtain ⟨⟨a, b⟩, x⟩ := x
      simp only at h1 h2
      subst h1
      refine ⟨_, rfl, ?_⟩
      simp only [spec_l07Spread.l0]
      rw [if_neg (by omega), ← h2]) k ((-1, -1), 0) ⟨rfl, rfl⟩ (by omega)
  subst hr
  exact h
def codeS (l : Gs) (s : Int) : Int := if codeGs l = 0 then (if (decide (0 ≤ s) && decide (s ≤ 9999)) = true then 0 else 2) else codeGs l
def resSpread (l : Gs) (s : Int) : Int × Int × Int := if codeS l s = 0 then (if (sprL l s l.length).1 < 0 then (0, 0, 6) else ((sprL l s l.length).1, (sprL l s l.length).2, 0)) else (0, 0, codeS l s)
theorem implSpreadOf_eq {k : Nat} {l : Gs} {s : Int} (hl : l.length ≤ 1048576) (hi : ∀ x ∈ l, x.length ≤ 1048576) (hk : 2200000 < k) : impl_SpreadOf.f k l s = some (resSpread l s) := by
  unfold impl_SpreadOf.f resSpread codeS
  rw [implAllCode hi, impl_Log_up.within]
  simp only [Option.bind_some]
  rw [show ∀ b : Bool, impl_unless.f b 2 = some (if b = true then 0 else 2) from fun b => by cases b <;> rfl]
  simp only [Option.bind_some]
  rw [firstOf_eq k _ _ (by omega)]
  simp only [Option.bind_some]
  by_cases hc : (if codeGs l = 0 then (if (decide (0 ≤ s) && decide (s ≤ 9999)) = true then (0 : Int) else 2) else codeGs l) = 0
  · rw [if_pos hc, if_pos hc, implSpread hl (by omega)]
    rcases sprL_sign l s l.length with h | h
    · rw [if_pos h.2, if_pos h.1]
    · rw [if_neg (by omega), if_neg (by omega)]
  · rw [if_neg hc, if_neg hc]
theorem specSpreadOf_eq {k : Nat} {l : Gs} {s : Int} (hl : l.length ≤ 1048576) (hi : ∀ x ∈ l, x.length ≤ 1048576) (hk : 2200002 < k) : spec_SpreadOf.f k l s = some (resSpread l s) := by
  unfold spec_SpreadOf.f resSpread codeS
  obtain ⟨k, rfl⟩ : ∃ j, k = j + 2 := ⟨k - 2, by omega⟩
  rw [specLogs hl (by omega)]
  simp only [Option.bind_some]
  have hj : ∀ c : Int, spec_SpreadOf.j1 (k + 1) l s c = some (if c = 0 then (if (sprL l s l.length).1 < 0 then (0, 0, 6) else ((sprL l s l.length).1, (sprL l s l.length).2, 0)) else (0, 0, c)) := fun c => by
    simp only [spec_SpreadOf.j1]
    by_cases hc : c = 0
    · rw [if_pos hc, specSpread hl hi (by omega), if_pos hc]
      simp only [Option.bind_some]
      split <;> rfl
    · rw [if_neg hc, if_neg hc]
  by_cases hc : codeGs l = 0
  · rw [if_pos hc, in_log]
    simp only [Option.bind_some, spec_SpreadOf.j0]
    rw [hc, if_pos rfl]
    cases (decide (0 ≤ s) && decide (s ≤ 9999)) with
    | true =>
      rw [if_neg (by simp), hj]
      rfl
    | false =>
      rw [if_pos (by rfl), hj]
      rfl
  · rw [if_neg hc]
    simp only [spec_SpreadOf.j0]
    rw [if_neg (by simp), hj]
    simp [hc]
end Go.Proofs.Ytidkniacmcbgiaa.G.Pure
end

section
namespace Go.Proofs.Ytidkniacmcbgiaa.G.Pure
open Go.RowKit Go.Proofs.Ytidkniacmcbgiaa.G Go.Proofs.YtidkniacmcbgiaaW.PrintWords Go.Proofs.YtidkniacmcbgiaaW.PrintLast Go.Proofs.YtidkniacmcbgiaaW.PrintMore
set_option linter.unusedVariables false
set_option linter.unusedSimpArgs false
theorem markLogS_some {k : Nat} {a : Gs} (hl : a.length ≤ 1048576) (hi : ∀ x ∈ a, x.length ≤ 1048576) (hk : 2200000 < k) : ∃ l m, laws_markLogS.f k a 1 = some (m, l) ∧ 0 ≤ m := by
  obtain ⟨r, hr, h⟩ := loop_inv2 (fun k (s : Gs × Int × Int) => laws_markLogS.l0 k s.1 s.2.1 s.2.2) a.length 1048577
    (fun i s => s.2.2 = (i : Int) ∧ 0 ≤ s.2.1 ∧ s.2.1 ≤ 1 + 4000000 * (i : Int) ∧ s.1.length = a.length ∧ ∀ j, i ≤ j → s.1[j]? = a[j]?) (fun r => 0 ≤ r.1)
    (fun k i s hil hk ⟨h1, h2, h3, h4, h5⟩ => by
      obtain ⟨acc, m, x⟩ := s
      simp only at h1 h2 h3 h4 h5
      subst h1
      have hg : acc.getD (i : Int).toNat [] = a[i] := by
        rw [Int.toNat_natCast, List.getD_eq_getElem?_getD, h5 i (Nat.le_refl _), List.getElem?_eq_getElem hil]
        rfl
      have hai := hi _ (List.getElem_mem hil)
      obtain ⟨y, m', hm, hm0, hm1⟩ := markLog_from k a[i] m hai (by omega) h2 (by omega)
      refine .inl ⟨(acc.set i y, m', ((i + 1 : Nat) : Int)), ⟨rfl, hm0, by simp only; omega, by simpa using h4, fun j hj => ?_⟩, ?_⟩
      · simp only
        rw [List.getElem?_set_ne (by omega)]
        exact h5 j (by omega)
      · simp only [laws_markLogS.l0]
        rw [if_pos (by omega), if_pos (by omega), hg, hm, w64 (by omega) (by omega)]
        simp only [Option.bind_some, Int.toNat_natCast]
        rw [show ((i + 1 : Nat) : Int) = (i : Int) + 1 by omega])
    (fun k s hk ⟨h1, h2, h3, h4, h5⟩ => by
      obtain ⟨acc, m, x⟩ := s
      simp only at h1 h2 h3 h4 h5
      subst h1
      refine ⟨(m, acc), h2, ?_⟩
      simp only [laws_markLogS.l0]
      rw [if_neg (by omega)]) k (a, 1, 0) ⟨rfl, by simp, by simp, rfl, fun _ _ => rfl⟩ (by omega)
  exact ⟨r.2, r.1, h, hr⟩
def lateTo (l : Gs) (s hi : Int) : Nat → List Int
  | 0 => []
  | n + 1 => lateTo l s hi n ++ (if fdI (rd_L5 l (n : Int)) s < 0 ∨ fdI (rd_L5 l (n : Int)) s > hi then [(n : Int)] else [])
theorem lateTo_len (l : Gs) (s hi : Int) : ∀ n, (lateTo l s hi n).length ≤ n := by
  intro n
  induction n with
  | zero => simp [lateTo]
  | succ n ih =>
    rw [lateTo, List.length_append]
    split
    · simp only [List.length_singleton]
      omega
    · simp only [List.length_nil]
      omega
theorem implLate {k : Nat} {l : Gs} {s w f : Int} (hl : l.length ≤ 1048576) (hk : l.length < k) : impl_LateShips.l0 k s w f [] l (l.length : Int) 0 = some (lateTo l s (wrap64 (f + w)) l.length, 0) := by
  obtain ⟨r, hr, h⟩ := loop_inv (fun k (x : List Int × Int) => impl_LateShips.l0 k s w f x.1 l (l.length : Int) x.2) l.length (fun i x => x.2 = (i : Int) ∧ x.1 = lateTo l s (wrap64 (f + w)) i) (fun r => r = (lateTo l s (wrap64 (f + w)) l.length, 0))
    (fun k i x hi ⟨h1, h2⟩ => by
      obtain ⟨out, x⟩ := x
      simp only at h1 h2
      subst h1
      have hlen := lateTo_len l s (wrap64 (f + w)) i
      rw [← h2] at hlen
      refine .inl ⟨(lateTo l s (wrap64 (f + w)) (i + 1), ((i + 1 : Nat) : Int)), ⟨rfl, rfl⟩, ?_⟩
      simp only [lateTo, ← h2]
      rw [show ((i + 1 : Nat) : Int) = (i : Int) + 1 by omega]
      simp only [impl_LateShips.l0]
      rw [if_pos (by omega), if_pos (by omega), if_pos (by omega), implFirst, w64 (n := (i : Int) + 1) (by omega) (by omega)]
      simp only [Option.bind_some]
      generalize fdI (rd_L5 l (i : Int)) s = t
      generalize wrap64 (f + w) = b
      by_cases ht : t < 0
      · rw [if_pos ht, if_pos (by omega), if_pos (.inl ht)]
      · rw [if_neg ht]
        by_cases hb : t > b
        · rw [if_pos hb, if_pos (by omega), if_pos (.inr hb)]
        · rw [if_neg hb, if_neg (by omega), List.append_nil])
    (fun k x ⟨h1, h2⟩ => by
      obtain ⟨out, x⟩ := x
      simp only at h1 h2
      subst h1
      refine ⟨_, rfl, ?_⟩
      simp only [impl_LateShips.l0]
      rw [if_neg (by omega), ← h2]) k ([], 0) ⟨rfl, rfl⟩ hk
  subst hr
  exact h
theorem specLate {k : Nat} {l : Gs} {s w f : Int} (hl : l.length ≤ 1048576) (hi : ∀ x ∈ l, x.length ≤ 1048576) (hk : 2200000 < k) : spec_LateShips.l0 k l s w f [] 0 = some (lateTo l s (wrap64 (f + w)) l.length, 0) := by
  obtain ⟨r, hr, h⟩ := loop_inv2 (fun k (x : List Int × Int) => spec_LateShips.l0 k l s w f x.1 x.2) l.length 1048577 (fun i x => x.2 = (i : Int) ∧ x.1 = lateTo l s (wrap64 (f + w)) i) (fun r => r = (lateTo l s (wrap64 (f + w)) l.length, 0))
    (fun k i x hil hk ⟨h1, h2⟩ => by
      obtain ⟨out, x⟩ := x
      simp only at h1 h2
      subst h1
      have hlen := lateTo_len l s (wrap64 (f + w)) i
      rw [← h2] at hlen
      have hai := hi _ (List.getElem_mem hil)
      refine .inl ⟨(lateTo l s (wrap64 (f + w)) (i + 1), ((i + 1 : Nat) : Int)), ⟨rfl, rfl⟩, ?_⟩
      simp only [lateTo, ← h2]
      rw [show ((i + 1 : Nat) : Int) = (i : Int) + 1 by omega]
      simp only [spec_LateShips.l0]
      rw [if_pos (by omega), if_pos (by omega), specFirst (by rw [rdL_impl hil]; exact hai) (by rw [rdL_impl hil]; omega), w64 (n := (i : Int) + 1) (by omega) (by omega)]
      simp only [Option.bind_some]
      generalize fdI (rd_L5 l (i : Int)) s = t
      generalize wrap64 (f + w) = b
      by_cases ht : t < 0
      · rw [if_pos ht, if_pos (by omega), if_pos (.inl ht)]
      · rw [if_neg ht]
        by_cases hb : t > b
        · rw [if_pos hb, if_pos (by omega), if_pos (.inr hb)]
        · rw [if_neg hb, if_neg (by omega), List.append_nil])
    (fun k x hk ⟨h1, h2⟩ => by
      obtain ⟨out, x⟩ := x
      simp only at h1 h2
      subst h1
      refine ⟨_, rfl, ?_⟩
      simp only [spec_LateShips.l0]
      rw [if_neg (by omega), ← h2]) k ([], 0) ⟨rfl, rfl⟩ (by omega)
  subst hr
  exact h
def codeLate (c w : Int) : Int := if c = 0 ∨ c = 6 then (if (decide (0 ≤ w) && decide (w ≤ 100000)) = true then c else 2) else c
theorem codeLate_in {c : Int} (w : Int) (h : c = 0 ∨ c = 6) : codeLate c w = if (decide (0 ≤ w) && decide (w ≤ 100000)) = true then c else 2 := if_pos h
theorem codeLate_out {c : Int} (w : Int) (h : ¬(c = 0 ∨ c = 6)) : codeLate c w = c := if_neg h
def resLate (l : Gs) (s w : Int) : List Int × Int := if codeLate (resSpread l s).2.2 w = 0 then (lateTo l s (wrap64 ((resSpread l s).1 + w)) l.length, 0) else ([], codeLate (resSpread l s).2.2 w)
theorem resLate_len {l : Gs} {s w : Int} (hl : l.length ≤ 1048576) : (resLate l s w).1.length ≤ 1048576 := by
  unfold resLate
  split
  · have := lateTo_len l s (wrap64 ((resSpread l s).1 + w)) l.length
    simp only
    omega
  · simp
theorem implLate_eq {k : Nat} {l : Gs} {s w : Int} (hl : l.length ≤ 1048576) (hi : ∀ x ∈ l, x.length ≤ 1048576) (hk : 2200010 < k) : impl_LateShips.f k l s w = some (resLate l s w) := by
  unfold impl_LateShips.f resLate
  rw [implSpreadOf_eq hl hi (by omega)]
  simp only [Option.bind_some]
  generalize resSpread l s = r
  obtain ⟨f, g, c⟩ := r
  obtain ⟨k, rfl⟩ : ∃ j, k = j + 2 := ⟨k - 2, by omega⟩
  have hj1 : ∀ c : Int, impl_LateShips.j1 (k + 1) l s w f c = some (if c = 0 then (lateTo l s (wrap64 (f + w)) l.length, 0) else ([], c)) := fun c => by
    simp only [impl_LateShips.j1]
    by_cases hc : c = 0
    · rw [if_pos hc, if_pos hc, implLate hl (by omega)]
    · rw [if_neg hc, if_neg hc]
  have ht : impl_LateShips.j0 (k + 2) l s w f c true = some (if (if (decide (0 ≤ w) && decide (w ≤ 100000)) = true then c else 2) = 0 then (lateTo l s (wrap64 (f + w)) l.length, 0) else ([], if (decide (0 ≤ w) && decide (w ≤ 100000)) = true then c else 2)) := by
    generalize hK : k + 1 = K at hj1
    rw [show k + 2 = K + 1 by omega]
    simp only [impl_LateShips.j0]
    rw [if_pos trivial, impl_Log_up.within]
    simp only [Option.bind_some]
    rw [show ∀ b : Bool, impl_unless.f b 2 = some (if b = true then 0 else 2) from fun b => by cases b <;> rfl]
    simp only [Option.bind_some]
    rw [firstOf_eq K _ _ (by omega)]
    simp only [Option.bind_some]
    rw [hj1]
    cases (decide (0 ≤ w) && decide (w ≤ 100000)) with
    | true => simp
    | false => simp
  have hf : impl_LateShips.j0 (k + 2) l s w f c false = some (if c = 0 then (lateTo l s (wrap64 (f + w)) l.length, 0) else ([], c)) := by
    generalize hK : k + 1 = K at hj1
    rw [show k + 2 = K + 1 by omega]
    simp only [impl_LateShips.j0]
    rw [if_neg (by simp), hj1]
  simp only
  by_cases h0 : c = 0
  · rw [if_pos h0, ht, codeLate_in w (.inl h0)]
  · rw [if_neg h0]
    by_cases h6 : c = 6
    · rw [show (c == 6) = true from by simp [h6], ht, codeLate_in w (.inr h6)]
    · rw [show (c == 6) = false from by simp [h6], hf, codeLate_out w (by omega)]
theorem specLate_eq {k : Nat} {l : Gs} {s w : Int} (hl : l.length ≤ 1048576) (hi : ∀ x ∈ l, x.length ≤ 1048576) (hk : 2200010 < k) : spec_LateShips.f k l s w = some (resLate l s w) := by
  unfold spec_LateShips.f resLate
  rw [specSpreadOf_eq hl hi (by omega)]
  simp only [Option.bind_some]
  generalize resSpread l s = r
  obtain ⟨f, g, c⟩ := r
  obtain ⟨k, rfl⟩ : ∃ j, k = j + 2 := ⟨k - 2, by omega⟩
  have hj1 : ∀ c : Int, spec_LateShips.j1 (k + 1) l s w f c = some (if c = 0 then (lateTo l s (wrap64 (f + w)) l.length, 0) else ([], c)) := fun c => by
    simp only [spec_LateShips.j1]
    by_cases hc : c = 0
    · rw [if_pos hc, if_pos hc, specLate hl hi (by omega)]
    · rw [if_neg hc, if_neg hc]
  have hj : ∀ b : Bool, spec_LateShips.j0 (k + 2) l s w f c b = some (if (if b = true then 2 else c) = 0 then (lateTo l s (wrap64 (f + w)) l.length, 0) else ([], if b = true then 2 else c)) := fun b => by
    generalize hK : k + 1 = K at hj1
    rw [show k + 2 = K + 1 by omega]
    simp only [spec_LateShips.j0]
    cases b with
    | true => rw [if_pos rfl, hj1]; rfl
    | false => rw [if_neg (by simp), hj1]; rfl
  have ht : spec_l07Time.f w = some (decide (0 ≤ w) && decide (w ≤ 100000)) := by
    unfold spec_l07Time.f
    rw [in_log]
    rfl
  rw [ht]
  simp only [Option.bind_some, hj]
  by_cases h0 : c = 0
  · rw [if_pos h0, codeLate_in w (.inl h0)]
    cases (decide (0 ≤ w) && decide (w ≤ 100000)) <;> simp [h0]
  · rw [if_neg h0]
    by_cases h6 : c = 6
    · rw [if_pos h6, codeLate_in w (.inr h6)]
      cases (decide (0 ≤ w) && decide (w ≤ 100000)) <;> simp [h6]
    · rw [if_neg h6, codeLate_out w (by omega)]
      simp [h0]
end Go.Proofs.Ytidkniacmcbgiaa.G.Pure
end

section
namespace Go.Proofs.Ytidkniacmcbgiaa.G.Pure
open Go.RowKit Go.Proofs.Ytidkniacmcbgiaa.G Go.Proofs.YtidkniacmcbgiaaW.PrintWords Go.Proofs.YtidkniacmcbgiaaW.PrintLast Go.Proofs.YtidkniacmcbgiaaW.PrintMore
set_option linter.unusedVariables false
set_option linter.unusedSimpArgs false
theorem FnExactLateShips (l0 : List (List (S75))) (a1 : Int) (a2 : Int) (h00 : l0.length ≤ 9223372036854775807) (h01 : (∀ x ∈ l0, (x.length ≤ 9223372036854775807 ∧ ∀ x_ ∈ x, (Lit.int .i64 x_.f0).wf = true ∧ (Lit.int .i64 x_.f1).wf = true ∧ True))) (h10 : (Lit.int .i64 a1).wf = true) (h20 : (Lit.int .i64 a2).wf = true) : ∃ k, laws_FnExactLateShips.f k l0 a1 a2 = some true := by
  obtain ⟨k, hk⟩ : ∃ k, 3000000 < k := ⟨_, Nat.lt_succ_self _⟩
  refine ⟨k + 4, ?_⟩
  obtain ⟨n, hn, hc⟩ := szLogS_ok (k := k + 4) h00 (fun x hx => (h01 x hx).1) (by omega)
  unfold laws_FnExactLateShips.f
  rw [hn]
  simp only [Option.bind_some]
  rcases hc with hc | ⟨hn0, hl, hi⟩
  · rw [if_pos hc]
  · rw [if_neg hn0]
    obtain ⟨hL, hI⟩ := logsOf_len hl hi
    have e1 := fun j => toLogS_eq (k := k + j) hl hi (by omega)
    have q1 := fun j => eqLogS_self (k := k + j) hL hI (by omega)
    have s1 := fun j => specLate_eq (k := k + j) (s := a1) (w := a2) hL hI (by omega)
    have i1 := fun j => implLate_eq (k := k + j) (s := a1) (w := a2) hL hI (by omega)
    have hlen := resLate_len (s := a1) (w := a2) hL
    have t1 := fun j => eqInt64S_self (k + j) (resLate (logsOf l0) a1 a2).1 hlen (by omega)
    obtain ⟨x1, m1, hm1, hm10⟩ := markLogS_some (k := k + 3) hL hI (by omega)
    obtain ⟨l, m', ha, hb, hm5⟩ := markInt64S_held (k + 2) (resLate (logsOf l0) a1 a2).1 hlen (by omega)
    have hb0 := hb (k + 1) (by omega)
    have hb1 := hb (k + 2) (by omega)
    generalize resLate (logsOf l0) a1 a2 = res at *
    simp [laws_FnExactLateShips.j0, laws_FnExactLateShips.j1, laws_FnExactLateShips.j2, e1, q1, s1, i1, t1, hm1, ha, hb0, hb1, Int.not_lt.2 hm10, Int.not_lt.2 hm5]
end Go.Proofs.Ytidkniacmcbgiaa.G.Pure
end
