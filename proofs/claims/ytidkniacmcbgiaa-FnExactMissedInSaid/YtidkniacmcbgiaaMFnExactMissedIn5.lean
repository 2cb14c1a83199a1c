/- The law's functions, their contracts, and the plain lemmas: texts of this claim, laid together. -/
import Derived.Test.YtidkniacmcbgiaaMFnExactMissedIn0
import Derived.Test.YtidkniacmcbgiaaMFnExactMissedIn1
import Derived.Test.YtidkniacmcbgiaaMFnExactMissedIn2
import Derived.Test.YtidkniacmcbgiaaMFnExactMissedIn3
import Derived.Test.YtidkniacmcbgiaaMFnExactMissedIn4
section
namespace Go.Proofs.Ytidkniacmcbgiaa.G.Pure
open Go.RowKit Go.Proofs.Ytidkniacmcbgiaa.G Go.Proofs.YtidkniacmcbgiaaW.PrintWords Go.Proofs.YtidkniacmcbgiaaW.PrintLast Go.Proofs.YtidkniacmcbgiaaW.PrintMore
set_option linter.unusedVariables false
set_option linter.unusedSimpArgs false
theorem loop_inv2 {σ γ : Type} (L : Nat → σ → Option γ) (n K0 : Nat) (I : Nat → σ → Prop) (R : γ → Prop)
    (hs : ∀ k i s, i < n → K0 ≤ k → I i s → (∃ s', I (i + 1) s' ∧ L (k + 1) s = L k s') ∨ (∃ r, R r ∧ L (k + 1) s = some r))
    (he : ∀ k s, K0 ≤ k → I n s → ∃ r, R r ∧ L (k + 1) s = some r) : ∀ k s, I 0 s → n + K0 < k → ∃ r, R r ∧ L k s = some r := by
  have go : ∀ d i k s, i + d = n → I i s → d + K0 < k → ∃ r, R r ∧ L k s = some r := by
    intro d
    induction d with
    | zero =>
      intro i k s hi hI hk
      obtain ⟨k, rfl⟩ : ∃ m, k = m + 1 := ⟨k - 1, by omega⟩
      obtain rfl : i = n := by omega
      exact he k s (by omega) hI
    | succ d ih =>
      intro i k s hi hI hk
      obtain ⟨k, rfl⟩ : ∃ m, k = m + 1 := ⟨k - 1, by omega⟩
      rcases hs k i s (by omega) (by omega) hI with ⟨s', hI', h⟩ | h
      · rw [h]
        exact ih (i + 1) k s' (by omega) hI' (by omega)
      · exact h
  intro k s hI hk
  exact go n 0 k s (by omega) hI (by omega)
def atE (l : List En) (i : Nat) (out : List Int) : Int := impl_Log_up.at l (rd_T73 l (i : Int)) out
def upsStep (l : List En) (i : Nat) (out : List Int) : Option (List Int) :=
  if decide (atE l i out < 0) = (rd_T73 l (i : Int)).f2 then none else if (rd_T73 l (i : Int)).f2 = true then some (out.eraseIdx (atE l i out).toNat) else some (out ++ [(i : Int)])
def ups (l : List En) : Nat → Option (List Int)
  | 0 => some []
  | n + 1 => (ups l n).bind (upsStep l n)
def lastT (l : List En) : Nat → Int
  | 0 => 0
  | n + 1 => (rd_T73 l (n : Int)).f0
def gd (l : List En) : Nat → Bool
  | 0 => true
  | n + 1 => gd l n && impl_Log_up.good (lastT l n) (rd_T73 l (n : Int))
theorem to_eq (l : List En) (n : Nat) : impl_Log_up.to l n = if gd l n = true then (ups l n).map (fun o => (lastT l n, o)) else none := by
  induction n with
  | zero => rfl
  | succ n ih =>
    rw [impl_Log_up.to, ih, ups, gd]
    cases hg : gd l n with
    | false => simp
    | true =>
      cases hu : ups l n with
      | none => simp
      | some o =>
        simp only [if_true, Option.map_some, Option.bind_some, Bool.true_and]
        unfold impl_Log_up.step upsStep atE
        cases hgd : impl_Log_up.good (lastT l n) (rd_T73 l (n : Int)) with
        | false => simp [hgd]
        | true =>
          simp only [hgd, Bool.true_eq_false, if_false, if_true]
          split
          · rfl
          · split <;> rfl
theorem gd_false {l : List En} {i n : Nat} (h : gd l i = false) (hi : i ≤ n) : gd l n = false := by
  induction n with
  | zero => obtain rfl : i = 0 := by omega
            exact h
  | succ n ih =>
    rcases Nat.lt_or_ge i (n + 1) with h1 | h1
    · rw [gd, ih (by omega)]
      rfl
    · obtain rfl : i = n + 1 := by omega
      exact h
theorem ups_none {l : List En} {i n : Nat} (h : ups l i = none) (hi : i ≤ n) : ups l n = none := by
  induction n with
  | zero => obtain rfl : i = 0 := by omega
            exact h
  | succ n ih =>
    rcases Nat.lt_or_ge i (n + 1) with h1 | h1
    · rw [ups, ih (by omega)]
      rfl
    · obtain rfl : i = n + 1 := by omega
      exact h
theorem idxP_none {α : Type} {p : α → Bool} {l : List α} (h : idxP p l < 0) : ∀ x ∈ l, p x = false := by
  have := idxP_nonneg p l
  rw [decide_eq_false (by omega)] at this
  intro x hx
  exact List.any_eq_false.1 this.symm x hx |> (by simpa using ·)
theorem ups_ok {l : List En} {n : Nat} {out : List Int} (h : ups l n = some out) : out.length ≤ n ∧ (∀ x ∈ out, 0 ≤ x ∧ x < (n : Int)) ∧ out.Pairwise (fun a b => (rd_T73 l a).f1 ≠ (rd_T73 l b).f1) := by
  induction n generalizing out with
  | zero =>
    cases h
    simp
  | succ n ih =>
    rw [ups] at h
    obtain ⟨s0, h0, h1⟩ := Option.bind_eq_some_iff.1 h
    obtain ⟨i1, i2, i3⟩ := ih h0
    unfold upsStep at h1
    split at h1
    · cases h1
    · rename_i hne
      split at h1
      · cases h1
        refine ⟨?_, fun x hx => ?_, i3.sublist (List.eraseIdx_sublist ..)⟩
        · have := List.length_eraseIdx_le (l := s0) (i := (atE l n s0).toNat)
          omega
        · have := i2 x (List.mem_of_mem_eraseIdx hx)
          omega
      · rename_i hf
        cases h1
        refine ⟨by simp; omega, fun x hx => ?_, ?_⟩
        · simp only [List.mem_append, List.mem_singleton] at hx
          rcases hx with hx | rfl
          · have := i2 x hx
            omega
          · omega
        · rw [List.pairwise_append]
          refine ⟨i3, by simp, fun a ha b hb => ?_⟩
          simp only [List.mem_singleton] at hb
          subst hb
          have hk : atE l n s0 < 0 := by
            apply Classical.byContradiction
            intro hh
            rw [decide_eq_false hh] at hne
            simp only [Bool.not_eq_true] at hf
            exact hne hf.symm
          have := idxP_none hk a ha
          simpa using this
theorem idxP_take {p : Int → Bool} {out : List Int} {j : Nat} (hj : j < out.length) (hu : ∀ a b (ha : a < out.length) (hb : b < out.length), a < b → p out[a] = true → p out[b] = true → False) : idxP p (out.take (j + 1)) = if p out[j] = true then (j : Int) else idxP p (out.take j) := by
  split
  · rename_i h
    refine idxP_hit (k := j) (y := out[j]) (by rw [List.getElem?_take_of_lt (by omega)]; exact List.getElem?_eq_getElem hj) h (fun a x ha hx => ?_)
    rw [List.getElem?_take_of_lt (by omega)] at hx
    obtain ⟨h1, rfl⟩ := List.getElem?_eq_some_iff.1 hx
    cases hp : p out[a] with
    | false => rfl
    | true => exact (hu a j h1 hj ha hp h).elim
  · rename_i h
    simp only [Bool.not_eq_true] at h
    unfold idxP
    rw [List.take_succ_eq_append_getElem hj, List.findIdx?_append]
    cases e : (out.take j).findIdx? p with
    | some i => simp
    | none => simp [h]
set_option maxHeartbeats 400000 in
theorem specUp_inner {l : List En} {n : Int} {out : List Int} {i : Nat} (hi : i < l.length) (hl : l.length ≤ 60) (ho : out.length ≤ i ∧ (∀ x ∈ out, 0 ≤ x ∧ x < (i : Int)) ∧ out.Pairwise (fun a b => (rd_T73 l a).f1 ≠ (rd_T73 l b).f1)) :
    ∀ (d j K : Nat), j + d = out.length → spec_l07Up.l1 (K + d + 1) l n out (i : Int) (idxP (fun m => (rd_T73 l m).f1 == (rd_T73 l (i : Int)).f1) (out.take j)) (j : Int) = spec_l07Up.l1 (K + 1) l n out (i : Int) (atE l i out) (out.length : Int) := by
  intro d
  induction d with
  | zero =>
    intro j K hj
    obtain rfl : j = out.length := by omega
    rw [List.take_length]
    rfl
  | succ d ih =>
    intro j K hj
    have hjo : j < out.length := by omega
    obtain ⟨h1, h2, h3⟩ := ho
    have hm := h2 out[j] (List.getElem_mem hjo)
    rw [← ih (j + 1) K (by omega), show K + (d + 1) + 1 = (K + d + 1) + 1 by omega]
    conv => lhs; unfold spec_l07Up.l1
    rw [if_pos (by omega), if_pos (by omega), rd_nat hjo, if_pos (by omega), if_pos (by omega), if_pos (by omega), if_pos (by omega), w64 (by omega) (by omega), idxP_take hjo (fun a b ha hb hab pa pb => ?_)]
    · by_cases hq : (rd_T73 l out[j]).f1 = (rd_T73 l (i : Int)).f1
      · rw [if_pos hq, if_pos (by simpa using hq)]
        rfl
      · rw [if_neg hq, if_neg (by simpa using hq)]
        rfl
    · have := List.pairwise_iff_getElem.1 h3 a b ha hb hab
      simp only [beq_iff_eq] at pa pb
      exact this (pa.trans pb.symm)
set_option maxHeartbeats 1000000 in
theorem specUp_outer {l : List En} {n : Nat} (hn : n ≤ l.length) (hl : l.length ≤ 60) : ∀ (d i : Nat) (out : List Int) (K : Nat), i + d = n → ups l i = some out → 70 * (d + 1) ≤ K → spec_l07Up.l0 K l (n : Int) out (i : Int) = some (match ups l n with | some o => (o, true) | none => ([], false)) := by
  intro d
  induction d with
  | zero =>
    intro i out K hi hu hK
    obtain ⟨K, rfl⟩ : ∃ m, K = m + 1 := ⟨K - 1, by omega⟩
    obtain rfl : i = n := by omega
    simp only [spec_l07Up.l0]
    rw [if_neg (by omega), hu]
  | succ d ih =>
    intro i out K hi hu hK
    have ho := ups_ok hu
    obtain ⟨h1, h2, h3⟩ := ho
    obtain ⟨K, rfl⟩ : ∃ m, K = m + out.length + 2 := ⟨K - out.length - 2, by omega⟩
    have hK2 : 70 * (d + 1) ≤ K := by omega
    have hi2 : i + 1 + d = n := by omega
    have hsucc : ((i + 1 : Nat) : Int) = (i : Int) + 1 := by omega
    simp only [spec_l07Up.l0]
    rw [if_pos (by omega)]
    have e := specUp_inner (n := (n : Int)) (l := l) (out := out) (i := i) (by omega) hl ⟨h1, h2, h3⟩ out.length 0 K (by omega)
    rw [show idxP (fun m => (rd_T73 l m).f1 == (rd_T73 l (i : Int)).f1) (out.take 0) = -1 from rfl] at e
    rw [show ((0 : Nat) : Int) = 0 from rfl] at e
    rw [e]
    have hlt := impl_Log_up.idx_lt (fun m => (rd_T73 l m).f1 == (rd_T73 l (i : Int)).f1) out
    have hs : ups l (i + 1) = upsStep l i out := by rw [ups, hu]; rfl
    have hat : idxP (fun m => (rd_T73 l m).f1 == (rd_T73 l (i : Int)).f1) out = atE l i out := rfl
    rw [hat] at hlt
    conv => lhs; unfold spec_l07Up.l1
    rw [if_neg (by omega), if_pos (by omega), if_pos (by omega)]
    unfold upsStep at hs
    by_cases hneg : atE l i out < 0
    · rw [decide_eq_true hneg] at hs
      rw [show decide (atE l i out ≥ 0) = false from decide_eq_false (by omega)]
      cases hf : (rd_T73 l (i : Int)).f2 with
      | true =>
        rw [hf, if_pos rfl] at hs
        rw [if_pos (by rfl), ups_none hs (by omega)]
      | false =>
        rw [hf, if_neg (by simp), if_neg (by simp)] at hs
        rw [if_neg (by simp), if_pos hneg, if_pos (by omega), w64 (by omega) (by omega)]
        have e2 := ih (i + 1) _ K hi2 hs hK2
        rw [hsucc] at e2
        rw [e2]
    · rw [decide_eq_false hneg] at hs
      rw [show decide (atE l i out ≥ 0) = true from decide_eq_true (by omega)]
      cases hf : (rd_T73 l (i : Int)).f2 with
      | false =>
        rw [hf, if_pos rfl] at hs
        rw [if_pos (by rfl), ups_none hs (by omega)]
      | true =>
        rw [hf, if_neg (by simp), if_pos rfl] at hs
        rw [if_neg (by simp), if_neg hneg]
        simp only [Option.bind_some, List.nil_append]
        obtain ⟨q, hq⟩ : ∃ q : Nat, atE l i out = (q : Int) := ⟨(atE l i out).toNat, by omega⟩
        rw [hq] at hs hlt ⊢
        rw [if_pos (by omega), if_pos (by omega), if_pos (by simp; omega), if_pos (by rw [w64 (by omega) (by omega)]; omega), w64 (n := (q : Int) + 1) (by omega) (by omega), if_pos (by omega), if_pos (by simp; omega), w64 (n := (i : Int) + 1) (by omega) (by omega)]
        rw [Int.toNat_natCast, show ((q : Int) + 1).toNat = q + 1 by omega, ← List.eraseIdx_eq_take_drop_succ]
        have e2 := ih (i + 1) (out.eraseIdx q) K hi2 (by rw [hs, Int.toNat_natCast]) hK2
        rw [hsucc] at e2
        rw [e2]
theorem specUp_eq {l : List En} {n K : Nat} (hn : n ≤ l.length) (hl : l.length ≤ 60) (hK : 5000 < K) : spec_l07Up.f K l (n : Int) = some (match ups l n with | some o => (o, true) | none => ([], false)) := by
  unfold spec_l07Up.f
  exact specUp_outer hn hl n 0 [] K (by omega) rfl (by omega)
def validG (l : List En) : Bool := decide (l.length ≤ 60) && gd l l.length && (ups l l.length).isSome
theorem implValid_log {l : List En} (hl : l.length ≤ 1048576) : impl_ValidLog.f l = some (validG l) := by
  unfold impl_ValidLog.f impl_Log_up.f validG
  rw [if_pos hl, to_eq]
  cases hg : gd l l.length with
  | false => simp
  | true =>
    cases hu : ups l l.length with
    | none => simp
    | some o => simp; omega
theorem in_log (n lo hi : Int) : spec_l00In.f n lo hi = some (decide (lo ≤ n) && decide (n ≤ hi)) := by
  unfold spec_l00In.f
  by_cases h : lo ≤ n
  · rw [if_pos h, decide_eq_true h]
    rfl
  · rw [if_neg h, decide_eq_false h]
    rfl
theorem specOk_log {k : Nat} {l : List En} (hk : 6000 < k) : spec_l07Ok.f k l = some (validG l) := by
  unfold spec_l07Ok.f
  by_cases hl : l.length ≤ 60
  · rw [if_neg (by omega)]
    obtain ⟨r, hr, h⟩ := loop_inv2 (fun k (s : Int × Int) => spec_l07Ok.l0 k l s.1 s.2) l.length 5001 (fun i s => s.2 = (i : Int) ∧ s.1 = lastT l i ∧ gd l i = true) (fun r => r = validG l)
      (fun k i s hi hk ⟨h1, h2, h3⟩ => by
        obtain ⟨a, x⟩ := s
        simp only at h1 h2 h3
        subst h1 h2
        simp only [spec_l07Ok.l0]
        rw [if_pos (by omega), if_pos (by omega), in_log]
        simp only [Option.bind_some]
        have hg : gd l (i + 1) = impl_Log_up.good (lastT l i) (rd_T73 l (i : Int)) := by rw [gd, h3]; rfl
        unfold impl_Log_up.good at hg
        have hbad : gd l (i + 1) = false → false = validG l := fun h => by
          unfold validG
          rw [gd_false h (by omega)]
          simp
        cases hb1 : (decide (lastT l i ≤ (rd_T73 l (i : Int)).f0) && decide ((rd_T73 l (i : Int)).f0 ≤ 100000)) with
        | false =>
          rw [hb1] at hg
          exact .inr ⟨false, hbad hg, by simp⟩
        | true =>
          rw [hb1] at hg
          rw [if_pos rfl, in_log]
          simp only [Option.bind_some]
          cases hb2 : (decide (0 ≤ (rd_T73 l (i : Int)).f1) && decide ((rd_T73 l (i : Int)).f1 ≤ 9999)) with
          | false =>
            rw [hb2] at hg
            exact .inr ⟨false, hbad hg, by simp⟩
          | true =>
            rw [hb2] at hg
            refine .inl ⟨((rd_T73 l (i : Int)).f0, ((i + 1 : Nat) : Int)), ⟨rfl, rfl, hg⟩, ?_⟩
            rw [if_pos rfl, w64 (by omega) (by omega)]
            rfl)
      (fun k s hk ⟨h1, h2, h3⟩ => by
        obtain ⟨a, x⟩ := s
        simp only at h1 h2 h3
        subst h1 h2
        refine ⟨validG l, rfl, ?_⟩
        simp only [spec_l07Ok.l0]
        rw [if_neg (by omega), specUp_eq (Nat.le_refl _) hl (by omega)]
        unfold validG
        rw [h3]
        cases ups l l.length <;> simp [hl]) k (0, 0) ⟨rfl, rfl, rfl⟩ (by omega)
    subst hr
    exact h
  · rw [if_pos (by omega)]
    unfold validG
    simp [hl]
end Go.Proofs.Ytidkniacmcbgiaa.G.Pure
end

section
namespace Go.Proofs.Ytidkniacmcbgiaa.G.Pure
open Go.RowKit Go.Proofs.Ytidkniacmcbgiaa.G Go.Proofs.YtidkniacmcbgiaaW.PrintWords Go.Proofs.YtidkniacmcbgiaaW.PrintLast Go.Proofs.YtidkniacmcbgiaaW.PrintMore
set_option linter.unusedVariables false
set_option linter.unusedSimpArgs false
theorem szLog_big {l : List (S75)} (h : l.length ≤ 9223372036854775807) (hL : ¬ l.length ≤ 1048576) : laws_szLog.f l 1048576 = some (-1) := by
  rw [szLog_eq _ _ (by omega) (by omega) h, if_pos (by omega)]
end Go.Proofs.Ytidkniacmcbgiaa.G.Pure
end

section
namespace Go.Proofs.Ytidkniacmcbgiaa.G.Pure
open Go.RowKit Go.Proofs.Ytidkniacmcbgiaa.G Go.Proofs.YtidkniacmcbgiaaW.PrintWords Go.Proofs.YtidkniacmcbgiaaW.PrintLast Go.Proofs.YtidkniacmcbgiaaW.PrintMore
set_option linter.unusedVariables false
set_option linter.unusedSimpArgs false
theorem markLog_from (k : Nat) (a : List En) (m0 : Int) (hl : a.length ≤ 1048576) (hk : a.length < k) (h0 : 0 ≤ m0) (h1 : m0 ≤ 100000000000) : ∃ l m, laws_markLog.f k a m0 = some (m, l) ∧ 0 ≤ m ∧ m ≤ m0 + 4000000 := by
  obtain ⟨r, ⟨h1, h2⟩, h⟩ := loop_inv (fun k (s : List En × Int × Int) => laws_markLog.l0 k s.1 s.2.1 s.2.2) a.length
    (fun i s => s.2.2 = (i : Int) ∧ s.2.1 = m0 + 3 * (i : Int) ∧ s.1.length = a.length)
    (fun r => r.1 = m0 + 3 * (a.length : Int) ∧ True)
    (fun k i s hi ⟨h1, h2, h3⟩ => by
      obtain ⟨acc, m, x⟩ := s
      simp only at h1 h2 h3
      subst h1 h2
      have hia : i < acc.length := by omega
      refine .inl ⟨(acc.set i ⟨m0 + 3 * (i : Int), m0 + 3 * (i : Int) + 1, Int.tmod (m0 + 3 * (i : Int) + 1 + 1) 3 == 0⟩, m0 + 3 * ((i + 1 : Nat) : Int), ((i + 1 : Nat) : Int)), ⟨rfl, rfl, by simpa using h3⟩, ?_⟩
      simp only [laws_markLog.l0]
      rw [if_pos (by omega), if_pos (by omega)]
      simp only [Option.bind_some, Int.toNat_natCast]
      rw [w64 (n := m0 + 3 * (i : Int) + 1) (by omega) (by omega), w64 (n := m0 + 3 * (i : Int) + 1 + 1) (by omega) (by omega), w64 (n := m0 + 3 * (i : Int) + 1 + 1 + 1) (by omega) (by omega), w64 (n := (i : Int) + 1) (by omega) (by omega)]
      simp only [rd_set_Entry, hia, List.set_set, List.length_set]
      rw [show m0 + 3 * (i : Int) + 1 + 1 + 1 = m0 + 3 * ((i + 1 : Nat) : Int) by omega]
      rfl)
    (fun k s ⟨h1, h2, h3⟩ => by
      obtain ⟨acc, m, x⟩ := s
      simp only at h1 h2 h3
      subst h1 h2
      refine ⟨(m0 + 3 * (a.length : Int), acc), ⟨rfl, trivial⟩, ?_⟩
      simp only [laws_markLog.l0]
      rw [if_neg (by omega)]) k (a, m0, 0) ⟨rfl, by simp, rfl⟩ hk
  obtain ⟨m, l⟩ := r
  simp only at h1
  exact ⟨l, m, h, by omega, by omega⟩
end Go.Proofs.Ytidkniacmcbgiaa.G.Pure
end

section
namespace Go.Proofs.Ytidkniacmcbgiaa.G.Pure
open Go.RowKit Go.Proofs.Ytidkniacmcbgiaa.G Go.Proofs.YtidkniacmcbgiaaW.PrintWords Go.Proofs.YtidkniacmcbgiaaW.PrintLast Go.Proofs.YtidkniacmcbgiaaW.PrintMore
set_option linter.unusedVariables false
set_option linter.unusedSimpArgs false
theorem loop_acc {β γ : Type} (L : Nat → List β → Int → Option γ) (n : Nat) (g : Nat → List β) (R : List β → γ) (hb : ∀ i, i < n → (g i).length ≤ 1)
    (hs : ∀ k i acc, i < n → acc.length ≤ i → L (k + 1) acc (i : Int) = L k (acc ++ g i) ((i + 1 : Nat) : Int))
    (he : ∀ k acc, acc.length ≤ n → L (k + 1) acc (n : Int) = some (R acc)) : ∀ k, n < k → L k [] 0 = some (R ((List.range n).flatMap g)) := by
  intro k hk
  obtain ⟨r, hr, h⟩ := loop_inv (fun k (s : List β × Int) => L k s.1 s.2) n (fun i s => s.2 = (i : Int) ∧ s.1 = (List.range i).flatMap g ∧ s.1.length ≤ i) (fun r => r = R ((List.range n).flatMap g))
    (fun k i s hi ⟨h1, h2, h3⟩ => by
      obtain ⟨acc, x⟩ := s
      simp only at h1 h2 h3
      subst h1
      refine .inl ⟨(acc ++ g i, ((i + 1 : Nat) : Int)), ⟨rfl, ?_, ?_⟩, hs k i acc hi h3⟩
      · rw [h2, List.range_succ, List.flatMap_append]
        simp
      · have := hb i hi
        simp only [List.length_append]
        omega)
    (fun k s ⟨h1, h2, h3⟩ => by
      obtain ⟨acc, x⟩ := s
      simp only at h1 h2 h3
      subst h1
      exact ⟨_, by rw [h2], he k acc h3⟩) k ([], 0) ⟨rfl, rfl, Nat.zero_le _⟩ hk
  subst hr
  exact h
def atL {α β : Type} (l : List α) (h : α → List β) (i : Nat) : List β := match l[i]? with | some x => h x | none => []
theorem atL_some {α β : Type} {l : List α} {h : α → List β} {i : Nat} (hi : i < l.length) : atL l h i = h l[i] := by
  unfold atL
  rw [List.getElem?_eq_getElem hi]
theorem flat_take {α β : Type} (l : List α) (h : α → List β) : ∀ n, n ≤ l.length → (List.range n).flatMap (atL l h) = (l.take n).flatMap h := by
  intro n
  induction n with
  | zero => simp
  | succ n ih =>
    intro hn
    rw [List.range_succ, List.flatMap_append, ih (by omega), List.take_succ_eq_append_getElem (by omega), List.flatMap_append]
    simp [atL_some (by omega : n < l.length)]
theorem flat_list {α β : Type} (l : List α) (h : α → List β) : (List.range l.length).flatMap (atL l h) = l.flatMap h := by
  rw [flat_take l h l.length (Nat.le_refl _), List.take_length]
end Go.Proofs.Ytidkniacmcbgiaa.G.Pure
end

section
namespace Go.Proofs.Ytidkniacmcbgiaa.G.Pure
open Go.RowKit Go.Proofs.Ytidkniacmcbgiaa.G Go.Proofs.YtidkniacmcbgiaaW.PrintWords Go.Proofs.YtidkniacmcbgiaaW.PrintLast Go.Proofs.YtidkniacmcbgiaaW.PrintMore
set_option linter.unusedVariables false
set_option linter.unusedSimpArgs false
abbrev St := S100
theorem rd_impl_Step {l : List St} {i : Nat} (h : i < l.length) : rd_T100 l (i : Int) = l[i] := by
  simp [rd_T100, List.getD_eq_getElem?_getD, List.getElem?_eq_getElem h]
end Go.Proofs.Ytidkniacmcbgiaa.G.Pure
end

section
namespace Go.Proofs.Ytidkniacmcbgiaa.G.Pure
open Go.RowKit Go.Proofs.Ytidkniacmcbgiaa.G Go.Proofs.YtidkniacmcbgiaaW.PrintWords Go.Proofs.YtidkniacmcbgiaaW.PrintLast Go.Proofs.YtidkniacmcbgiaaW.PrintMore
set_option linter.unusedVariables false
set_option linter.unusedSimpArgs false
def fitC (e f : En) : Bool := decide (e.f2 = f.f2)
def costC (e f : En) : Int := if e.f1 = f.f1 then 0 else 1
theorem costC_b (e f : En) : 0 ≤ costC e f ∧ costC e f ≤ 1 := by
  unfold costC
  split <;> omega
theorem stepFaults_eq (e f : En) : impl_stepFaults.f e.f0 e.f1 e.f2 f.f0 f.f1 f.f2 = some (if fitC e f = true then (costC e f, true) else (1, false)) := by
  unfold impl_stepFaults.f impl_Entry_agree.f fitC costC
  by_cases h : e.f1 = f.f1
  · rw [if_pos h, if_pos h]
    cases e.f2 <;> cases f.f2 <;> rfl
  · rw [if_neg h, if_neg h]
    cases e.f2 <;> cases f.f2 <;> rfl
theorem cost_eq (e f : En) : spec_l07Cost.f e.f0 e.f1 e.f2 f.f0 f.f1 f.f2 = some (if fitC e f = true then costC e f else -1) := by
  unfold spec_l07Cost.f fitC costC
  by_cases h : e.f1 = f.f1
  · rw [if_pos h, if_pos h]
    cases e.f2 <;> cases f.f2 <;> rfl
  · rw [if_neg h, if_neg h]
    cases e.f2 <;> cases f.f2 <;> rfl
end Go.Proofs.Ytidkniacmcbgiaa.G.Pure
end

section
namespace Go.Proofs.Ytidkniacmcbgiaa.G.Pure
open Go.RowKit Go.Proofs.Ytidkniacmcbgiaa.G Go.Proofs.YtidkniacmcbgiaaW.PrintWords Go.Proofs.YtidkniacmcbgiaaW.PrintLast Go.Proofs.YtidkniacmcbgiaaW.PrintMore
set_option linter.unusedVariables false
set_option linter.unusedSimpArgs false
def rowOf (n : Nat) (V : Nat → Int) : List Int := (List.range (n + 1)).map V
def tabOf (m n : Nat) (V : Nat → Nat → Int) : List (List Int) := (List.range (m + 1)).map fun i => rowOf n (V i)
def RowSt (n : Nat) (V : Nat → Int) (q : Nat) (r : List Int) : Prop := r.length = n + 1 ∧ ∀ k, q ≤ k → k ≤ n → r[k]? = some (V k)
def TabSt (m n : Nat) (V : Nat → Nat → Int) (P : List Int → Prop) (i q : Nat) (T : List (List Int)) : Prop :=
  T.length = m + 1 ∧ (∀ i', i < i' → i' ≤ m → RowSt n (V i') 0 (T.getD i' [])) ∧ RowSt n (V i) q (T.getD i []) ∧ ∀ i', i' < i → P (T.getD i' [])
theorem rowSt_eq {n : Nat} {V : Nat → Int} {r : List Int} (h : RowSt n V 0 r) : r = rowOf n V := by
  obtain ⟨h1, h2⟩ := h
  apply List.ext_getElem?
  intro k
  unfold rowOf
  rcases Nat.lt_or_ge k (n + 1) with hk | hk
  · rw [h2 k (Nat.zero_le _) (by omega)]
    simp [List.getElem?_range hk]
  · rw [List.getElem?_eq_none (by omega), List.getElem?_eq_none (by simp; omega)]
theorem rowSt_get {n : Nat} {V : Nat → Int} {q : Nat} {r : List Int} (h : RowSt n V q r) {k : Nat} (hq : q ≤ k) (hk : k ≤ n) : rd r (k : Int) = V k := by
  have := h.2 k hq hk
  simp [rd, List.getD_eq_getElem?_getD, this]
theorem rowSt_set {n : Nat} {V : Nat → Int} {q : Nat} {r : List Int} (h : RowSt n V (q + 1) r) (hq : q ≤ n) : RowSt n V q (r.set q (V q)) := by
  refine ⟨by rw [List.length_set]; exact h.1, fun k hk hn => ?_⟩
  by_cases e : q = k
  · subst e
    rw [List.getElem?_set_self (by rw [h.1]; omega)]
  · rw [List.getElem?_set_ne e]
    exact h.2 k (by omega) hn
theorem getD_set_self {T : List (List Int)} {i : Nat} {r : List Int} (h : i < T.length) : (T.set i r).getD i [] = r := by
  rw [List.getD_eq_getElem?_getD, List.getElem?_set_self h]
  rfl
theorem getD_set_ne {T : List (List Int)} {i j : Nat} {r : List Int} (h : i ≠ j) : (T.set i r).getD j [] = T.getD j [] := by
  rw [List.getD_eq_getElem?_getD, List.getElem?_set_ne h, List.getD_eq_getElem?_getD]
theorem tabSt_set {m n : Nat} {V : Nat → Nat → Int} {P : List Int → Prop} {i q : Nat} {T : List (List Int)} (h : TabSt m n V P i (q + 1) T) (hi : i ≤ m) (hq : q ≤ n) : TabSt m n V P i q (T.set i ((T.getD i []).set q (V i q))) := by
  obtain ⟨h1, h2, h3, h4⟩ := h
  refine ⟨by rw [List.length_set]; exact h1, fun i' hi' hm => ?_, ?_, fun i' hi' => ?_⟩
  · rw [getD_set_ne (by omega)]
    exact h2 i' hi' hm
  · rw [getD_set_self (by omega)]
    exact rowSt_set h3 hq
  · rw [getD_set_ne (by omega)]
    exact h4 i' hi'
theorem tab_eq {m n : Nat} {V : Nat → Nat → Int} {T : List (List Int)} (h1 : T.length = m + 1) (h2 : ∀ i', i' ≤ m → RowSt n (V i') 0 (T.getD i' [])) : T = tabOf m n V := by
  apply List.ext_getElem?
  intro i
  unfold tabOf
  rcases Nat.lt_or_ge i (m + 1) with hi | hi
  · have := rowSt_eq (h2 i (by omega))
    rw [List.getElem?_eq_getElem (by omega)]
    rw [List.getD_eq_getElem?_getD, List.getElem?_eq_getElem (by omega)] at this
    simp only [Option.getD_some] at this
    rw [this]
    simp [List.getElem?_range hi]
  · rw [List.getElem?_eq_none (by omega), List.getElem?_eq_none (by simp; omega)]
theorem tab_row {m n : Nat} {V : Nat → Nat → Int} {i : Nat} (hi : i ≤ m) : rd_L6 (tabOf m n V) (i : Int) = rowOf n (V i) := by
  show (tabOf m n V).getD i [] = _
  unfold tabOf
  rw [List.getD_eq_getElem?_getD, List.getElem?_map, List.getElem?_range (by omega)]
  rfl
theorem row_at {n : Nat} {V : Nat → Int} {k : Nat} (hk : k ≤ n) : rd (rowOf n V) (k : Int) = V k := by
  unfold rowOf
  simp [rd, List.getD_eq_getElem?_getD, List.getElem?_range (by omega : k < n + 1)]
theorem row_len {n : Nat} {V : Nat → Int} : (rowOf n V).length = n + 1 := by simp [rowOf]
theorem tab_len {m n : Nat} {V : Nat → Nat → Int} : (tabOf m n V).length = m + 1 := by simp [tabOf]
theorem tab_loop {γ : Type} (m n c : Nat) (V : Nat → Nat → Int) (P : List Int → Prop) (L0 : Nat → List (List Int) → Int → Option γ) (L1 : Nat → List (List Int) → Int → Int → Option γ) (R : List (List Int) → γ) (hm : m ≤ 60) (hn : n ≤ 60) (hc : c ≤ 20)
    (init : ∀ K T i, i ≤ m → T.length = m + 1 → P (T.getD i []) → ∃ r : List Int, r.length = n + 1 ∧ L0 (K + 1) T (i : Int) = L1 K (T.set i r) (i : Int) (n : Int))
    (step : ∀ K T i q, i ≤ m → q ≤ n → TabSt m n V P i (q + 1) T → L1 (K + c) T (i : Int) (q : Int) = L1 K (T.set i ((T.getD i []).set q (V i q))) (i : Int) ((q : Int) - 1))
    (out : ∀ K T i, i ≤ m → L1 (K + 1) T (i : Int) (-1) = L0 K T ((i : Int) - 1))
    (fin : ∀ K T, L0 (K + 1) T (-1) = some (R T)) (T0 : List (List Int)) (h0 : T0.length = m + 1) (hP : ∀ i, i ≤ m → P (T0.getD i [])) :
    ∀ K, 100000 ≤ K → L0 K T0 (m : Int) = some (R (tabOf m n V)) := by
  have inner : ∀ q K T i, i ≤ m → q ≤ n + 1 → TabSt m n V P i q T → ∃ T', TabSt m n V P i 0 T' ∧ L1 (K + q * c) T (i : Int) ((q : Int) - 1) = L1 K T' (i : Int) (-1) := by
    intro q
    induction q with
    | zero => exact fun K T i hi hq h => ⟨T, h, by simp⟩
    | succ q ih =>
      intro K T i hi hq h
      obtain ⟨T', h1, h2⟩ := ih K _ i hi (by omega) (tabSt_set h hi (by omega))
      refine ⟨T', h1, ?_⟩
      rw [← h2, ← step (K + q * c) T i q hi (by omega) h, Nat.succ_mul, Nat.add_assoc]
      congr 1
      omega
  have outer : ∀ j K T, j ≤ m + 1 → T.length = m + 1 → (∀ i', j ≤ i' → i' ≤ m → RowSt n (V i') 0 (T.getD i' [])) → (∀ i', i' < j → P (T.getD i' [])) → L0 (K + 1 + j * ((n + 1) * c + 2)) T ((j : Int) - 1) = some (R (tabOf m n V)) := by
    intro j
    induction j with
    | zero =>
      intro K T hj hl hr hp
      rw [show ((0 : Nat) : Int) - 1 = -1 from rfl, Nat.zero_mul, Nat.add_zero, fin, tab_eq hl (fun i' hi' => hr i' (Nat.zero_le _) hi')]
    | succ j ih =>
      intro K T hj hl hr hp
      obtain ⟨r, hr1, hr2⟩ := init (K + 1 + j * ((n + 1) * c + 2) + 1 + (n + 1) * c) T j (by omega) hl (hp j (by omega))
      have hst : TabSt m n V P j (n + 1) (T.set j r) := by
        refine ⟨by rw [List.length_set]; exact hl, fun i' hi' hm' => ?_, ?_, fun i' hi' => ?_⟩
        · rw [getD_set_ne (by omega)]
          exact hr i' (by omega) hm'
        · rw [getD_set_self (by omega)]
          exact ⟨hr1, fun k hk hn => by omega⟩
        · rw [getD_set_ne (by omega)]
          exact hp i' (by omega)
      obtain ⟨T', h1, h2⟩ := inner (n + 1) (K + 1 + j * ((n + 1) * c + 2) + 1) _ j (by omega) (Nat.le_refl _) hst
      rw [show ((n + 1 : Nat) : Int) - 1 = (n : Int) by omega] at h2
      rw [show K + 1 + (j + 1) * ((n + 1) * c + 2) = K + 1 + j * ((n + 1) * c + 2) + 1 + (n + 1) * c + 1 by rw [Nat.succ_mul]; omega, show ((j + 1 : Nat) : Int) - 1 = (j : Int) by omega, hr2, h2, out _ _ _ (by omega)]
      refine ih K T' (by omega) h1.1 (fun i' hi' hm' => ?_) (fun i' hi' => h1.2.2.2 i' hi')
      rcases Nat.eq_or_lt_of_le hi' with e | e
      · subst e
        exact h1.2.2.1
      · exact h1.2.1 i' e hm'
  intro K hK
  have hb : (m + 1) * ((n + 1) * c + 2) ≤ 61 * (61 * 20 + 2) := Nat.mul_le_mul (by omega) (Nat.add_le_add_right (Nat.mul_le_mul (by omega) hc) _)
  have e := outer (m + 1) (K - 1 - (m + 1) * ((n + 1) * c + 2)) T0 (Nat.le_refl _) h0 (fun i' h1 h2 => by omega) (fun i' hi' => hP i' (by omega))
  rw [show K - 1 - (m + 1) * ((n + 1) * c + 2) + 1 + (m + 1) * ((n + 1) * c + 2) = K by omega, show ((m + 1 : Nat) : Int) - 1 = (m : Int) by omega] at e
  exact e
end Go.Proofs.Ytidkniacmcbgiaa.G.Pure
end

section
namespace Go.Proofs.Ytidkniacmcbgiaa.G.Pure
open Go.RowKit Go.Proofs.Ytidkniacmcbgiaa.G Go.Proofs.YtidkniacmcbgiaaW.PrintWords Go.Proofs.YtidkniacmcbgiaaW.PrintLast Go.Proofs.YtidkniacmcbgiaaW.PrintMore
set_option linter.unusedVariables false
set_option linter.unusedSimpArgs false
theorem valid_parts {l : List En} (h : validG l = true) : l.length ≤ 60 ∧ gd l l.length = true ∧ ∃ o, ups l l.length = some o := by
  unfold validG at h
  simp only [Bool.and_eq_true, decide_eq_true_eq] at h
  exact ⟨h.1.1, h.1.2, Option.isSome_iff_exists.1 h.2⟩
end Go.Proofs.Ytidkniacmcbgiaa.G.Pure
end

section
namespace Go.Proofs.Ytidkniacmcbgiaa.G.Pure
open Go.RowKit Go.Proofs.Ytidkniacmcbgiaa.G Go.Proofs.YtidkniacmcbgiaaW.PrintWords Go.Proofs.YtidkniacmcbgiaaW.PrintLast Go.Proofs.YtidkniacmcbgiaaW.PrintMore
set_option linter.unusedVariables false
set_option linter.unusedSimpArgs false
def costW (a b : List En) : Nat → Nat → Int
  | 0, q => 2 * (q : Int)
  | p + 1, 0 => (p : Int) + 1
  | p + 1, q + 1 =>
    if fitC (rd_T73 a ((a.length - (p + 1) : Nat) : Int)) (rd_T73 b ((b.length - (q + 1) : Nat) : Int)) = true then mn (mn (costW a b p (q + 1) + 1) (costW a b (p + 1) q + 2)) (costW a b p q + costC (rd_T73 a ((a.length - (p + 1) : Nat) : Int)) (rd_T73 b ((b.length - (q + 1) : Nat) : Int)))
    else mn (costW a b p (q + 1) + 1) (costW a b (p + 1) q + 2)
def costV (a b : List En) (i k : Nat) : Int := costW a b (a.length - i) (b.length - k)
theorem mn_le (x y : Int) : mn x y ≤ x ∧ mn x y ≤ y ∧ (mn x y = x ∨ mn x y = y) := by
  unfold mn
  split <;> refine ⟨?_, ?_, ?_⟩ <;> first | omega | exact .inl rfl | exact .inr rfl
theorem costW_b (a b : List En) : ∀ p q, 0 ≤ costW a b p q ∧ costW a b p q ≤ (p : Int) + 2 * (q : Int) := by
  intro p
  induction p with
  | zero =>
    intro q
    rw [costW]
    omega
  | succ p ih =>
    intro q
    induction q with
    | zero =>
      rw [costW]
      omega
    | succ q ihq =>
      have h1 := ih (q + 1)
      have h2 := ih q
      have h3 := costC_b (rd_T73 a ((a.length - (p + 1) : Nat) : Int)) (rd_T73 b ((b.length - (q + 1) : Nat) : Int))
      rw [costW]
      have m1 := mn_le (costW a b p (q + 1) + 1) (costW a b (p + 1) q + 2)
      have m2 := mn_le (mn (costW a b p (q + 1) + 1) (costW a b (p + 1) q + 2)) (costW a b p q + costC (rd_T73 a ((a.length - (p + 1) : Nat) : Int)) (rd_T73 b ((b.length - (q + 1) : Nat) : Int)))
      split <;> omega
theorem costV_b {a b : List En} (ha : a.length ≤ 60) (hb : b.length ≤ 60) (i k : Nat) : 0 ≤ costV a b i k ∧ costV a b i k ≤ 180 := by
  have := costW_b a b (a.length - i) (b.length - k)
  unfold costV
  omega
theorem costV_end1 {a b : List En} {k : Nat} (hk : k ≤ b.length) : costV a b a.length k = 2 * ((b.length : Int) - (k : Int)) := by
  unfold costV
  rw [Nat.sub_self, costW]
  omega
theorem costV_end2 {a b : List En} {i : Nat} (hi : i < a.length) : costV a b i b.length = (a.length : Int) - (i : Int) := by
  unfold costV
  obtain ⟨p, hp⟩ : ∃ p, a.length - i = p + 1 := ⟨a.length - i - 1, by omega⟩
  rw [Nat.sub_self, hp, costW]
  omega
theorem costV_in {a b : List En} {i k : Nat} (hi : i < a.length) (hk : k < b.length) : costV a b i k =
    if fitC (rd_T73 a (i : Int)) (rd_T73 b (k : Int)) = true then mn (mn (costV a b (i + 1) k + 1) (costV a b i (k + 1) + 2)) (costV a b (i + 1) (k + 1) + costC (rd_T73 a (i : Int)) (rd_T73 b (k : Int)))
    else mn (costV a b (i + 1) k + 1) (costV a b i (k + 1) + 2) := by
  unfold costV
  obtain ⟨p, hp⟩ : ∃ p, a.length - i = p + 1 := ⟨a.length - i - 1, by omega⟩
  obtain ⟨q, hq⟩ : ∃ q, b.length - k = q + 1 := ⟨b.length - k - 1, by omega⟩
  rw [hp, hq, costW, show a.length - (i + 1) = p by omega, show b.length - (k + 1) = q by omega, show a.length - (p + 1) = i by omega, show b.length - (q + 1) = k by omega]
set_option maxHeartbeats 1000000 in
theorem numV {a b : List En} (ha : a.length ≤ 60) (hb : b.length ≤ 60) {P : List Int → Prop} {T : List (List Int)} {i q : Nat} (hi : i ≤ a.length) (hq : q ≤ b.length) (h : TabSt a.length b.length (costV a b) P i (q + 1) T) :
    impl_faults_1.f T (i : Int) (q : Int) a b = some (costV a b i q) := by
  obtain ⟨h1, h2, h3, h4⟩ := h
  unfold impl_faults_1.f
  by_cases e1 : i = a.length
  · rw [if_pos (by omega), e1, costV_end1 hq, w64 (n := (b.length : Int) - (q : Int)) (by omega) (by omega), w64 (by omega) (by omega)]
  · rw [if_neg (by omega)]
    by_cases e2 : q = b.length
    · rw [if_pos (by omega), e2, costV_end2 (by omega), w64 (n := (a.length : Int) - (i : Int)) (by omega) (by omega), w64 (by omega) (by omega), Int.one_mul]
    · rw [if_neg (by omega), w64 (n := (i : Int) + 1) (by omega) (by omega), w64 (n := (q : Int) + 1) (by omega) (by omega)]
      have r1 := h2 (i + 1) (by omega) (by omega)
      have d1 : rd_L6 T ((i : Int) + 1) = T.getD (i + 1) [] := by rw [show (i : Int) + 1 = ((i + 1 : Nat) : Int) by omega]; rfl
      have d0 : rd_L6 T (i : Int) = T.getD i [] := rfl
      rw [d1, d0]
      have g1 := rowSt_get r1 (Nat.zero_le q) (by omega)
      have g2 : rd (T.getD (i + 1) []) ((q : Int) + 1) = costV a b (i + 1) (q + 1) := by
        have := rowSt_get r1 (Nat.zero_le (q + 1)) (by omega)
        rwa [show ((q + 1 : Nat) : Int) = (q : Int) + 1 by omega] at this
      have g3 : rd (T.getD i []) ((q : Int) + 1) = costV a b i (q + 1) := by
        have := rowSt_get h3 (Nat.le_refl (q + 1)) (by omega)
        rwa [show ((q + 1 : Nat) : Int) = (q : Int) + 1 by omega] at this
      have l1 := r1.1
      have l0 := h3.1
      have b1 := costV_b ha hb (i + 1) q
      have b2 := costV_b ha hb (i + 1) (q + 1)
      have b3 := costV_b ha hb i (q + 1)
      have c1 := costC_b (rd_T73 a (i : Int)) (rd_T73 b (q : Int))
      rw [if_pos (by omega), if_pos (by omega), if_pos (by omega), if_pos (by omega), if_pos (by omega), if_pos (by omega), if_pos (by omega), if_pos (by omega), if_pos (by omega), if_pos (by omega), stepFaults_eq]
      simp only [Option.bind_some]
      rw [g1, g2, g3, costV_in (i := i) (k := q) (by omega) (by omega)]
      cases hf : fitC (rd_T73 a (i : Int)) (rd_T73 b (q : Int)) with
      | false =>
        simp only [Bool.false_eq_true, if_false]
        rw [w64 (by omega) (by omega), w64 (by omega) (by omega)]
      | true =>
        simp only [if_true]
        rw [if_pos (by omega), w64 (by omega) (by omega), w64 (by omega) (by omega), w64 (by omega) (by omega)]
theorem implFaults_eq {k : Nat} {a b : List En} (ha : a.length ≤ 60) (hb : b.length ≤ 60) (hk : 100000 ≤ k) : impl_faults.f k a b = some (tabOf a.length b.length (costV a b)) := by
  unfold impl_faults.f impl_table__impl_faults_1.f
  rw [w64 (by omega) (by omega), if_pos (by omega), if_pos (by omega)]
  have e := tab_loop a.length b.length 1 (costV a b) (fun _ => True) (fun K T i => impl_table__impl_faults_1.l0 K b T i a b) (fun K T i q => impl_table__impl_faults_1.l1 K b T i q a b) (fun T => T) ha hb (by omega)
    (fun K T i hi hl _ => by
      refine ⟨List.replicate (b.length + 1) 0, by simp, ?_⟩
      simp only [impl_table__impl_faults_1.l0]
      rw [if_pos (by omega), w64 (by omega) (by omega), if_pos (by omega), if_pos (by omega), if_pos (by omega), if_pos (by omega)]
      rw [show ((b.length : Int) + 1).toNat = b.length + 1 by omega, Int.toNat_natCast])
    (fun K T i q hi hq h => by
      have l0 := h.2.2.1.1
      have l1 := h.1
      simp only [impl_table__impl_faults_1.l1]
      rw [if_pos (by omega), if_pos (by omega), if_pos (by omega), numV ha hb hi hq h]
      simp only [Option.bind_some]
      have d0 : rd_L6 T (i : Int) = T.getD i [] := rfl
      rw [d0, if_pos (by omega), if_pos (by omega), w64 (by omega) (by omega), Int.toNat_natCast, Int.toNat_natCast])
    (fun K T i hi => by
      simp only [impl_table__impl_faults_1.l1]
      rw [if_neg (by omega), w64 (by omega) (by omega)])
    (fun K T => by
      simp only [impl_table__impl_faults_1.l0]
      rw [if_neg (by omega)]) (List.replicate (a.length + 1) []) (by simp) (fun _ _ => trivial) k hk
  rw [show ((a.length : Int) + 1).toNat = a.length + 1 by omega]
  try simp only at e
  rw [e]
  rfl
theorem const_flat {α : Type} (x : α) (n : Nat) : (List.range n).flatMap (fun _ => [x]) = List.replicate n x := by
  induction n with
  | zero => rfl
  | succ n ih =>
    rw [List.range_succ, List.flatMap_append, ih, List.replicate_succ']
    rfl
theorem l00Max_eq (x y : Int) : spec_l00Max.f x y = some (mx x y) := by
  unfold spec_l00Max.f mx
  split <;> split <;> first | rfl | (congr 1; omega) | omega
theorem specBegin_eq {k : Nat} {a b : List En} (ha : a.length ≤ 60) (hb : b.length ≤ 60) (hk : 100000 ≤ k) : spec_l07Begin.f k a b = some (List.replicate (a.length + 1) (List.replicate (b.length + 1) 0)) := by
  unfold spec_l07Begin.f
  have e := loop_acc (fun k acc i => spec_l07Begin.l0 k a b acc i) (a.length + 1) (fun _ => [List.replicate (b.length + 1) 0]) (fun T => T) (fun _ _ => by simp)
    (fun k i acc hi ha' => by
      simp only [spec_l07Begin.l0]
      rw [if_pos (by omega), w64 (by omega) (by omega), if_pos (by omega), if_pos (by omega), if_pos (by omega), w64 (by omega) (by omega), show ((b.length : Int) + 1).toNat = b.length + 1 by omega]
      rfl)
    (fun k acc h => by
      simp only [spec_l07Begin.l0]
      rw [if_neg (by omega)]) k (by omega)
  rw [e, const_flat]
theorem specStep {a b : List En} (ha : a.length ≤ 60) (hb : b.length ≤ 60) {K : Nat} {T : List (List Int)} {i q : Nat} (hi : i ≤ a.length) (hq : q ≤ b.length) (h : TabSt a.length b.length (costV a b) (fun r => r.length = b.length + 1) i (q + 1) T) :
    spec_l07Costs.l1 (K + 5) a b T (i : Int) (q : Int) = spec_l07Costs.l1 K a b (T.set i ((T.getD i []).set q (costV a b i q))) (i : Int) ((q : Int) - 1) := by
  obtain ⟨h1, h2, h3, h4⟩ := h
  have d0 : rd_L6 T (i : Int) = T.getD i [] := rfl
  have d1 : rd_L6 T ((i : Int) + 1) = T.getD (i + 1) [] := by rw [show (i : Int) + 1 = ((i + 1 : Nat) : Int) by omega]; rfl
  have l0 := h3.1
  have hb3 := costV_b ha hb i (q + 1)
  have hb1 := costV_b ha hb (i + 1) q
  have hb2 := costV_b ha hb (i + 1) (q + 1)
  have hst : ∀ (K : Nat) (x : Int), mx x 0 = costV a b i q → (if 0 ≤ (i : Int) then (if (i : Int) < (T.length : Int) then ((spec_l00Max.f x 0).bind fun t133 => (if 0 ≤ (q : Int) then (if (q : Int) < ((T.getD i []).length : Int) then (spec_l07Costs.l1 K a b (T.set ((i : Int)).toNat ((T.getD i []).set ((q : Int)).toNat t133)) (i : Int) (wrap64 ((q : Int) - 1))) else none) else none)) else none) else none) = spec_l07Costs.l1 K a b (T.set i ((T.getD i []).set q (costV a b i q))) (i : Int) ((q : Int) - 1) := fun K x hx => by
    rw [if_pos (by omega), if_pos (by omega), l00Max_eq, hx]
    simp only [Option.bind_some]
    rw [if_pos (by omega), if_pos (by omega), w64 (by omega) (by omega), Int.toNat_natCast, Int.toNat_natCast]
  have g3 : q < b.length → rd (T.getD i []) ((q : Int) + 1) = costV a b i (q + 1) := fun hqb => by
    have := rowSt_get h3 (Nat.le_refl (q + 1)) (by omega)
    rwa [show ((q + 1 : Nat) : Int) = (q : Int) + 1 by omega] at this
  rcases Nat.eq_or_lt_of_le hi with e1 | e1
  · subst e1
    rw [show K + 5 = (K + 4) + 1 from rfl]
    simp only [spec_l07Costs.l1]
    rw [if_pos (by omega), if_neg (by omega), show K + 4 = (K + 3) + 1 from rfl]
    simp only [spec_l07Costs.j2]
    rcases Nat.eq_or_lt_of_le hq with e2 | e2
    · subst e2
      rw [if_neg (by omega), show K + 3 = (K + 2) + 1 from rfl]
      simp only [spec_l07Costs.j3]
      rw [if_neg (by simp), show K + 2 = (K + 1) + 1 from rfl]
      simp only [spec_l07Costs.j4]
      rw [if_neg (by omega)]
      simp only [spec_l07Costs.j5]
      rw [if_neg (by simp), d0]
      exact hst K (-1) (by rw [costV_end1 (Nat.le_refl _)]; unfold mx; omega)
    · rw [if_pos (by omega), if_pos (by omega), show K + 3 = (K + 2) + 1 from rfl]
      simp only [spec_l07Costs.j3]
      rw [if_pos trivial, if_pos (by omega), if_pos (by omega), w64 (n := (q : Int) + 1) (by omega) (by omega), if_pos (by omega), d0, if_pos (by omega), g3 e2, w64 (by omega) (by omega), show K + 2 = (K + 1) + 1 from rfl]
      simp only [spec_l07Costs.j4]
      rw [if_neg (by omega)]
      simp only [spec_l07Costs.j5]
      rw [if_neg (by simp), d0]
      exact hst K _ (by rw [costV_end1 (by omega), costV_end1 (by omega)]; unfold mx; rw [if_neg (by omega)]; omega)
  · have r1 := h2 (i + 1) (by omega) (by omega)
    have l1 := r1.1
    have g1 := rowSt_get r1 (Nat.zero_le q) hq
    rw [show K + 5 = (K + 4) + 1 from rfl]
    simp only [spec_l07Costs.l1]
    rw [if_pos (by omega), if_pos (by omega), w64 (n := (i : Int) + 1) (by omega) (by omega), if_pos (by omega), if_pos (by omega), if_pos (by omega), d1, if_pos (by omega), g1, w64 (by omega) (by omega), show K + 4 = (K + 3) + 1 from rfl]
    simp only [spec_l07Costs.j2]
    rcases Nat.eq_or_lt_of_le hq with e2 | e2
    · subst e2
      rw [if_neg (by omega), show K + 3 = (K + 2) + 1 from rfl]
      simp only [spec_l07Costs.j3]
      rw [if_neg (by simp), show K + 2 = (K + 1) + 1 from rfl]
      simp only [spec_l07Costs.j4]
      rw [if_pos (by omega), decide_eq_false (by omega)]
      simp only [spec_l07Costs.j5]
      rw [if_neg (by simp), d0]
      refine hst K _ ?_
      rw [costV_end2 e1]
      by_cases e3 : i + 1 = a.length
      · rw [e3, costV_end1 (Nat.le_refl _)]
        unfold mx
        rw [if_neg (by omega)]
        omega
      · rw [costV_end2 (by omega)]
        unfold mx
        rw [if_neg (by omega)]
        omega
    · have g2 : rd (T.getD (i + 1) []) ((q : Int) + 1) = costV a b (i + 1) (q + 1) := by
        have := rowSt_get r1 (Nat.zero_le (q + 1)) (by omega)
        rwa [show ((q + 1 : Nat) : Int) = (q : Int) + 1 by omega] at this
      have c1 := costC_b (rd_T73 a (i : Int)) (rd_T73 b (q : Int))
      rw [if_pos (by omega), if_neg (by omega), if_pos (by omega), if_pos (by omega), w64 (n := (q : Int) + 1) (by omega) (by omega), if_pos (by omega), d0, if_pos (by omega), g3 e2, w64 (n := 2 + costV a b i (q + 1)) (by omega) (by omega)]
      have hj : spec_l07Costs.j3 (K + 3) a b T (i : Int) (q : Int) (1 + costV a b (i + 1) q) (decide (2 + costV a b i (q + 1) < 1 + costV a b (i + 1) q)) = spec_l07Costs.j4 (K + 2) a b T (i : Int) (q : Int) (mn (costV a b (i + 1) q + 1) (costV a b i (q + 1) + 2)) := by
        simp only [spec_l07Costs.j3]
        by_cases hlt : 2 + costV a b i (q + 1) < 1 + costV a b (i + 1) q
        · rw [decide_eq_true hlt, if_pos rfl, if_pos (by omega), if_pos (by omega), w64 (n := (q : Int) + 1) (by omega) (by omega), if_pos (by omega), d0, if_pos (by omega), g3 e2, w64 (by omega) (by omega)]
          congr 1
          unfold mn
          rw [if_pos (by omega)]
          omega
        · rw [decide_eq_false hlt, if_neg (by simp)]
          congr 1
          unfold mn
          split <;> omega
      rw [hj]
      have hm := mn_le (costV a b (i + 1) q + 1) (costV a b i (q + 1) + 2)
      have hv := costV_in (a := a) (b := b) e1 e2
      generalize mn (costV a b (i + 1) q + 1) (costV a b i (q + 1) + 2) = x at *
      rw [show K + 2 = (K + 1) + 1 from rfl]
      simp only [spec_l07Costs.j4]
      rw [if_pos (by omega), decide_eq_true (by omega)]
      simp only [spec_l07Costs.j5]
      rw [if_pos trivial, if_pos (by omega), if_pos (by omega), if_pos (by omega), if_pos (by omega), cost_eq]
      simp only [Option.bind_some]
      rw [d0, w64 (n := (i : Int) + 1) (by omega) (by omega), w64 (n := (q : Int) + 1) (by omega) (by omega), d1, g2]
      have hx0 : 0 ≤ x := by omega
      cases hf : fitC (rd_T73 a (i : Int)) (rd_T73 b (q : Int)) with
      | false =>
        rw [hf] at hv
        simp only [Bool.false_eq_true, if_false] at hv ⊢
        rw [if_neg (by omega)]
        have := hst K x (by rw [hv]; unfold mx; split <;> omega)
        rw [if_pos (by omega)] at this
        rw [← this]
        by_cases hh : (i : Int) < (T.length : Int)
        · rw [if_pos hh, if_pos hh]
          congr 1
          first | done | (funext t; rw [if_pos (by omega)])
        · omega
      | true =>
        rw [hf] at hv
        simp only [if_true] at hv ⊢
        rw [if_pos (by omega), if_pos (by omega), if_pos (by omega), if_pos (by omega), if_pos (by omega), w64 (by omega) (by omega)]
        have key : ∀ y : Int, mx y 0 = costV a b i q → (if (i : Int) < (T.length : Int) then ((spec_l00Max.f y 0).bind fun t118 => (if (q : Int) < ((T.getD i []).length : Int) then (spec_l07Costs.l1 K a b (T.set ((i : Int)).toNat ((T.getD i []).set ((q : Int)).toNat t118)) (i : Int) (wrap64 ((q : Int) - 1))) else none)) else none) = spec_l07Costs.l1 K a b (T.set i ((T.getD i []).set q (costV a b i q))) (i : Int) ((q : Int) - 1) := fun y hy => by
          rw [if_pos (by omega), l00Max_eq, hy]
          simp only [Option.bind_some]
          rw [if_pos (by omega), w64 (by omega) (by omega), Int.toNat_natCast, Int.toNat_natCast]
        split
        · rename_i hlt
          exact key _ (by rw [hv]; unfold mx mn; split <;> split <;> omega)
        · rename_i hlt
          exact key _ (by rw [hv]; unfold mx mn; split <;> split <;> omega)
theorem specCosts_eq {k : Nat} {a b : List En} (ha : a.length ≤ 60) (hb : b.length ≤ 60) (hk : 100000 ≤ k) : spec_l07Costs.f k a b = some (tabOf a.length b.length (costV a b)) := by
  unfold spec_l07Costs.f
  rw [specBegin_eq ha hb hk]
  simp only [Option.bind_some]
  exact tab_loop a.length b.length 5 (costV a b) (fun r => r.length = b.length + 1) (fun K T i => spec_l07Costs.l0 K a b T i) (fun K T i q => spec_l07Costs.l1 K a b T i q) (fun T => T) ha hb (by omega)
    (fun K T i hi hl hp => by
      refine ⟨T.getD i [], hp, ?_⟩
      simp only [spec_l07Costs.l0]
      rw [if_pos (by omega)]
      congr 1
      rw [List.getD_eq_getElem?_getD, List.getElem?_eq_getElem (by omega)]
      simp)
    (fun K T i q hi hq h => specStep ha hb hi hq h)
    (fun K T i hi => by
      simp only [spec_l07Costs.l1]
      rw [if_neg (by omega), w64 (by omega) (by omega)])
    (fun K T => by
      simp only [spec_l07Costs.l0]
      rw [if_neg (by omega)]) _ (by simp) (fun i hi => by
        rw [List.getD_eq_getElem?_getD, List.getElem?_replicate, if_pos (by omega)]
        simp) k hk
theorem logsCode_eq {a b : List En} (ha : a.length ≤ 1048576) (hb : b.length ≤ 1048576) : impl_logsCode.f a b = some (if validG a = true ∧ validG b = true then 0 else 1) := by
  unfold impl_logsCode.f
  rw [implValid_log ha, implValid_log hb]
  simp only [Option.bind_some]
  cases validG a <;> cases validG b <;> simp [impl_unless.f]
end Go.Proofs.Ytidkniacmcbgiaa.G.Pure
end

section
namespace Go.Proofs.Ytidkniacmcbgiaa.G.Pure
open Go.RowKit Go.Proofs.Ytidkniacmcbgiaa.G Go.Proofs.YtidkniacmcbgiaaW.PrintWords Go.Proofs.YtidkniacmcbgiaaW.PrintLast Go.Proofs.YtidkniacmcbgiaaW.PrintMore
set_option linter.unusedVariables false
set_option linter.unusedSimpArgs false
def bothS (a b : List En) (i k : Nat) : Bool := decide (i < a.length) && decide (k < b.length) && fitC (rd_T73 a (i : Int)) (rd_T73 b (k : Int)) && (costV a b i k == costV a b (i + 1) (k + 1) + costC (rd_T73 a (i : Int)) (rd_T73 b (k : Int)))
def dropS (a b : List En) (i k : Nat) : Bool := decide (i < a.length) && (costV a b i k == costV a b (i + 1) k + 1)
def nxtS (a b : List En) (i k : Nat) : St × Nat × Nat := if bothS a b i k = true then (⟨(i : Int), (k : Int)⟩, i + 1, k + 1) else if dropS a b i k = true then (⟨(i : Int), -1⟩, i + 1, k) else (⟨-1, (k : Int)⟩, i, k + 1)
def sto (a b : List En) : Nat → Nat → Nat → List St
  | 0, _, _ => []
  | d + 1, i, k => if i < a.length ∨ k < b.length then (nxtS a b i k).1 :: sto a b d (nxtS a b i k).2.1 (nxtS a b i k).2.2 else []
theorem tab_dims {a b : List En} {i k : Nat} (hi : i ≤ a.length) (hk : k ≤ b.length) : ((tabOf a.length b.length (costV a b)).length : Int) = (a.length : Int) + 1 ∧ ((rd_L6 (tabOf a.length b.length (costV a b)) (i : Int)).length : Int) = (b.length : Int) + 1 ∧ rd (rd_L6 (tabOf a.length b.length (costV a b)) (i : Int)) (k : Int) = costV a b i k := by
  refine ⟨?_, ?_, ?_⟩
  · rw [tab_len]; omega
  · rw [tab_row hi, row_len]; omega
  · rw [tab_row hi, row_at hk]
theorem nxt_in {a b : List En} {i k : Nat} (hi : i ≤ a.length) (hk : k ≤ b.length) (h : i < a.length ∨ k < b.length) : (nxtS a b i k).2.1 ≤ a.length ∧ (nxtS a b i k).2.2 ≤ b.length ∧ i + k < (nxtS a b i k).2.1 + (nxtS a b i k).2.2 := by
  unfold nxtS
  split
  · rename_i hb
    simp only [bothS, Bool.and_eq_true, decide_eq_true_eq] at hb
    simp only
    omega
  · split
    · rename_i hd
      simp only [dropS, Bool.and_eq_true, decide_eq_true_eq] at hd
      simp only
      omega
    · rename_i hd
      have : k < b.length := by
        rcases Nat.lt_or_ge k b.length with h1 | h1
        · exact h1
        · obtain rfl : k = b.length := by omega
          have hia : i < a.length := by omega
          exfalso
          apply hd
          simp only [dropS, Bool.and_eq_true, decide_eq_true_eq, beq_iff_eq]
          refine ⟨hia, ?_⟩
          rw [costV_end2 hia]
          rcases Nat.lt_or_ge (i + 1) a.length with h2 | h2
          · rw [costV_end2 h2]; omega
          · rw [show i + 1 = a.length by omega, costV_end1 (Nat.le_refl _)]; omega
      simp only
      omega
set_option maxHeartbeats 1000000 in
theorem implStory_step {a b : List En} (ha : a.length ≤ 60) (hb : b.length ≤ 60) (K : Nat) (acc : List St) {i k : Nat} (hi : i ≤ a.length) (hk : k ≤ b.length) (h : i < a.length ∨ k < b.length) (hacc : acc.length ≤ 1000) :
    impl_story.l0 (K + 4) a b (tabOf a.length b.length (costV a b)) acc (i : Int) (k : Int) = impl_story.l0 K a b (tabOf a.length b.length (costV a b)) (acc ++ [(nxtS a b i k).1]) ((nxtS a b i k).2.1 : Int) ((nxtS a b i k).2.2 : Int) := by
  obtain ⟨t1, t2, t3⟩ := tab_dims (a := a) (b := b) hi hk
  have bv := costV_b ha hb i k
  have c1 := costC_b (rd_T73 a (i : Int)) (rd_T73 b (k : Int))
  have e1 : impl_story.l0 (K + 4) a b (tabOf a.length b.length (costV a b)) acc (i : Int) (k : Int) = impl_story.j1 (K + 3) a b (tabOf a.length b.length (costV a b)) acc (i : Int) (k : Int) true := by
    simp only [impl_story.l0]
    by_cases h1 : i < a.length
    · rw [if_pos (by omega)]
    · rw [if_neg (by omega), decide_eq_true (by omega)]
  have e2 : impl_story.j1 (K + 3) a b (tabOf a.length b.length (costV a b)) acc (i : Int) (k : Int) true = impl_story.j2 (K + 2) a b (tabOf a.length b.length (costV a b)) acc (i : Int) (k : Int) false (decide (i < a.length) && decide (k < b.length)) := by
    simp only [impl_story.j1]
    rw [if_pos trivial]
    by_cases h1 : i < a.length
    · rw [if_pos (by omega), decide_eq_true h1, Bool.true_and]
      congr 1
      simp
    · rw [if_neg (by omega), decide_eq_false h1, Bool.false_and]
  have e3 : impl_story.j2 (K + 2) a b (tabOf a.length b.length (costV a b)) acc (i : Int) (k : Int) false (decide (i < a.length) && decide (k < b.length)) = impl_story.j3 (K + 1) a b (tabOf a.length b.length (costV a b)) acc (i : Int) (k : Int) (bothS a b i k) := by
    simp only [impl_story.j2]
    by_cases h2 : i < a.length ∧ k < b.length
    · obtain ⟨h2, h3⟩ := h2
      obtain ⟨_, s2, s3⟩ := tab_dims (a := a) (b := b) (i := i + 1) (k := k + 1) (by omega) (by omega)
      rw [show ((i + 1 : Nat) : Int) = (i : Int) + 1 by omega] at s2 s3
      rw [show ((k + 1 : Nat) : Int) = (k : Int) + 1 by omega] at s3
      have bv2 := costV_b ha hb (i + 1) (k + 1)
      unfold bothS
      rw [decide_eq_true h2, decide_eq_true h3]
      simp only [Bool.and_true, Bool.true_and]
      rw [if_pos trivial, if_pos (by omega), if_pos (by omega), if_pos (by omega), if_pos (by omega), stepFaults_eq]
      simp only [Option.bind_some]
      cases hf : fitC (rd_T73 a (i : Int)) (rd_T73 b (k : Int)) with
      | false => simp
      | true =>
        simp only [if_true, Bool.true_and]
        rw [if_pos (by omega), if_pos (by omega), w64 (n := (i : Int) + 1) (by omega) (by omega), w64 (n := (k : Int) + 1) (by omega) (by omega), if_pos (by omega), if_pos (by omega), if_pos (by omega), if_pos (by omega), t3, s3, w64 (by omega) (by omega)]
    · have : (decide (i < a.length) && decide (k < b.length)) = false := by
        rw [Bool.and_eq_false_iff]
        simp only [decide_eq_false_iff_not]
        omega
      unfold bothS
      rw [this]
      simp
  rw [e1, e2, e3]
  simp only [impl_story.j3]
  unfold nxtS
  cases hbo : bothS a b i k with
  | true =>
    simp only [if_true]
    rw [if_pos (by omega), w64 (by omega) (by omega), w64 (by omega) (by omega)]
    rfl
  | false =>
    simp only [Bool.false_eq_true, if_false]
    by_cases h1 : i < a.length
    · obtain ⟨_, s2, s3⟩ := tab_dims (a := a) (b := b) (i := i + 1) (k := k) (by omega) hk
      rw [show ((i + 1 : Nat) : Int) = (i : Int) + 1 by omega] at s2 s3
      have bv2 := costV_b ha hb (i + 1) k
      rw [if_pos (by omega), if_pos (by omega), if_pos (by omega), if_pos (by omega), if_pos (by omega), w64 (n := (i : Int) + 1) (by omega) (by omega), if_pos (by omega), if_pos (by omega), if_pos (by omega), t3, s3, w64 (n := costV a b (i + 1) k + 1) (by omega) (by omega)]
      by_cases hd : costV a b i k = costV a b (i + 1) k + 1
      · rw [if_pos hd, if_pos (by omega), if_pos (by unfold dropS; simp [h1, hd])]
        rfl
      · rw [if_neg hd, if_pos (by omega), if_neg (by unfold dropS; simp [h1, hd]), w64 (by omega) (by omega)]
        rfl
    · rw [if_neg (by omega), if_pos (by omega), if_neg (by unfold dropS; simp [h1]), w64 (by omega) (by omega)]
      rfl
theorem implStory_all {a b : List En} (ha : a.length ≤ 60) (hb : b.length ≤ 60) : ∀ d i k acc K, a.length + b.length ≤ d + (i + k) → i ≤ a.length → k ≤ b.length → acc.length ≤ i + k → 4 * d + 2 ≤ K →
    impl_story.l0 K a b (tabOf a.length b.length (costV a b)) acc (i : Int) (k : Int) = some (acc ++ sto a b d i k) := by
  intro d
  induction d with
  | zero =>
    intro i k acc K hd hi hk hacc hK
    obtain ⟨K, rfl⟩ : ∃ m, K = m + 2 := ⟨K - 2, by omega⟩
    simp only [impl_story.l0, impl_story.j1, sto]
    rw [if_neg (by omega), decide_eq_false (by omega), if_neg (by simp), List.append_nil]
  | succ d ih =>
    intro i k acc K hd hi hk hacc hK
    by_cases h : i < a.length ∨ k < b.length
    · obtain ⟨n1, n2, n3⟩ := nxt_in hi hk h
      obtain ⟨K, rfl⟩ : ∃ m, K = m + 4 := ⟨K - 4, by omega⟩
      rw [implStory_step ha hb K acc hi hk h (by omega), ih _ _ _ K (by omega) n1 n2 (by rw [List.length_append, List.length_singleton]; omega) (by omega), sto, if_pos h, List.append_assoc]
      rfl
    · obtain ⟨K, rfl⟩ : ∃ m, K = m + 2 := ⟨K - 2, by omega⟩
      simp only [impl_story.l0, impl_story.j1, sto]
      rw [if_neg (by omega), decide_eq_false (by omega), if_neg (by simp), if_neg h, List.append_nil]
def storyL (a b : List En) : List St := sto a b (a.length + b.length) 0 0
theorem implStoryL {K : Nat} {a b : List En} (ha : a.length ≤ 60) (hb : b.length ≤ 60) (hK : 100000 ≤ K) : impl_story.f K a b = some (storyL a b) := by
  unfold impl_story.f
  rw [implFaults_eq ha hb hK]
  simp only [Option.bind_some]
  have e := implStory_all ha hb (a.length + b.length) 0 0 [] K (by omega) (by omega) (by omega) (by simp) (by omega)
  rw [show ((0 : Nat) : Int) = 0 from rfl] at e
  rw [e]
  rfl
set_option maxHeartbeats 1000000 in
theorem specStory_step {a b : List En} (ha : a.length ≤ 60) (hb : b.length ≤ 60) (K : Nat) (acc : List St) {i k : Nat} (hi : i ≤ a.length) (hk : k ≤ b.length) (h : i < a.length ∨ k < b.length) (hacc : acc.length ≤ 1000) :
    spec_l07Story.l0 (K + 5) a b (tabOf a.length b.length (costV a b)) acc (i : Int) (k : Int) = spec_l07Story.l0 K a b (tabOf a.length b.length (costV a b)) (acc ++ [(nxtS a b i k).1]) ((nxtS a b i k).2.1 : Int) ((nxtS a b i k).2.2 : Int) := by
  obtain ⟨t1, t2, t3⟩ := tab_dims (a := a) (b := b) hi hk
  have bv := costV_b ha hb i k
  have c1 := costC_b (rd_T73 a (i : Int)) (rd_T73 b (k : Int))
  have e1 : spec_l07Story.l0 (K + 5) a b (tabOf a.length b.length (costV a b)) acc (i : Int) (k : Int) = spec_l07Story.j1 (K + 4) a b (tabOf a.length b.length (costV a b)) acc (i : Int) (k : Int) true := by
    simp only [spec_l07Story.l0]
    by_cases h1 : i < a.length
    · rw [if_pos (by omega)]
    · rw [if_neg (by omega), decide_eq_true (by omega)]
  have e2 : spec_l07Story.j1 (K + 4) a b (tabOf a.length b.length (costV a b)) acc (i : Int) (k : Int) true = spec_l07Story.j2 (K + 3) a b (tabOf a.length b.length (costV a b)) acc (i : Int) (k : Int) (-1) (decide (i < a.length) && decide (k < b.length)) := by
    simp only [spec_l07Story.j1]
    rw [if_pos trivial]
    by_cases h1 : i < a.length
    · rw [if_pos (by omega), decide_eq_true h1, Bool.true_and]
      congr 1
      simp
    · rw [if_neg (by omega), decide_eq_false h1, Bool.false_and]
  have e3 : spec_l07Story.j2 (K + 3) a b (tabOf a.length b.length (costV a b)) acc (i : Int) (k : Int) (-1) (decide (i < a.length) && decide (k < b.length)) = spec_l07Story.j4 (K + 1) a b (tabOf a.length b.length (costV a b)) acc (i : Int) (k : Int) (bothS a b i k) := by
    simp only [spec_l07Story.j2]
    by_cases h2 : i < a.length ∧ k < b.length
    · obtain ⟨h2, h3⟩ := h2
      obtain ⟨_, s2, s3⟩ := tab_dims (a := a) (b := b) (i := i + 1) (k := k + 1) (by omega) (by omega)
      rw [show ((i + 1 : Nat) : Int) = (i : Int) + 1 by omega] at s2 s3
      rw [show ((k + 1 : Nat) : Int) = (k : Int) + 1 by omega] at s3
      have bv2 := costV_b ha hb (i + 1) (k + 1)
      unfold bothS
      rw [decide_eq_true h2, decide_eq_true h3]
      simp only [Bool.and_true, Bool.true_and]
      rw [if_pos trivial, if_pos (by omega), if_pos (by omega), if_pos (by omega), if_pos (by omega), cost_eq]
      simp only [Option.bind_some, spec_l07Story.j3]
      cases hf : fitC (rd_T73 a (i : Int)) (rd_T73 b (k : Int)) with
      | false =>
        simp only [Bool.false_eq_true, if_false, Bool.false_and]
        rw [if_neg (by omega)]
      | true =>
        simp only [if_true, Bool.true_and]
        rw [if_pos (by omega), w64 (n := (i : Int) + 1) (by omega) (by omega), w64 (n := (k : Int) + 1) (by omega) (by omega), if_pos (by omega), if_pos (by omega), if_pos (by omega), if_pos (by omega), if_pos (by omega), if_pos (by omega), if_pos (by omega), if_pos (by omega), t3, s3, w64 (by omega) (by omega)]
        congr 1
        rw [Bool.eq_iff_iff]
        simp only [beq_iff_eq]
        omega
    · have : (decide (i < a.length) && decide (k < b.length)) = false := by
        rw [Bool.and_eq_false_iff]
        simp only [decide_eq_false_iff_not]
        omega
      unfold bothS
      rw [this]
      simp only [Bool.false_eq_true, if_false, Bool.false_and, spec_l07Story.j3]
      rw [if_neg (by omega)]
  rw [e1, e2, e3]
  simp only [spec_l07Story.j4]
  unfold nxtS
  cases hbo : bothS a b i k with
  | true =>
    simp only [if_true]
    rw [if_pos (by omega), w64 (by omega) (by omega), w64 (by omega) (by omega)]
    rfl
  | false =>
    simp only [Bool.false_eq_true, if_false]
    by_cases h1 : i < a.length
    · obtain ⟨_, s2, s3⟩ := tab_dims (a := a) (b := b) (i := i + 1) (k := k) (by omega) hk
      rw [show ((i + 1 : Nat) : Int) = (i : Int) + 1 by omega] at s2 s3
      have bv2 := costV_b ha hb (i + 1) k
      rw [if_pos (by omega), w64 (n := (i : Int) + 1) (by omega) (by omega), if_pos (by omega), if_pos (by omega), if_pos (by omega), if_pos (by omega), if_pos (by omega), if_pos (by omega), if_pos (by omega), t3, s3, w64 (n := 1 + costV a b (i + 1) k) (by omega) (by omega)]
      by_cases hd : costV a b i k = costV a b (i + 1) k + 1
      · rw [if_pos (by omega), if_pos (by omega), if_pos (by unfold dropS; simp [h1, hd])]
        rfl
      · rw [if_neg (by omega), if_pos (by omega), if_neg (by unfold dropS; simp [h1, hd]), w64 (by omega) (by omega)]
        rfl
    · rw [if_neg (by omega), if_pos (by omega), if_neg (by unfold dropS; simp [h1]), w64 (by omega) (by omega)]
      rfl
theorem specStory_all {a b : List En} (ha : a.length ≤ 60) (hb : b.length ≤ 60) : ∀ d i k acc K, a.length + b.length ≤ d + (i + k) → i ≤ a.length → k ≤ b.length → acc.length ≤ i + k → 5 * d + 2 ≤ K →
    spec_l07Story.l0 K a b (tabOf a.length b.length (costV a b)) acc (i : Int) (k : Int) = some (acc ++ sto a b d i k) := by
  intro d
  induction d with
  | zero =>
    intro i k acc K hd hi hk hacc hK
    obtain ⟨K, rfl⟩ : ∃ m, K = m + 2 := ⟨K - 2, by omega⟩
    simp only [spec_l07Story.l0, spec_l07Story.j1, sto]
    rw [if_neg (by omega), decide_eq_false (by omega), if_neg (by simp), List.append_nil]
  | succ d ih =>
    intro i k acc K hd hi hk hacc hK
    by_cases h : i < a.length ∨ k < b.length
    · obtain ⟨n1, n2, n3⟩ := nxt_in hi hk h
      obtain ⟨K, rfl⟩ : ∃ m, K = m + 5 := ⟨K - 5, by omega⟩
      rw [specStory_step ha hb K acc hi hk h (by omega), ih _ _ _ K (by omega) n1 n2 (by rw [List.length_append, List.length_singleton]; omega) (by omega), sto, if_pos h, List.append_assoc]
      rfl
    · obtain ⟨K, rfl⟩ : ∃ m, K = m + 2 := ⟨K - 2, by omega⟩
      simp only [spec_l07Story.l0, spec_l07Story.j1, sto]
      rw [if_neg (by omega), decide_eq_false (by omega), if_neg (by simp), if_neg h, List.append_nil]
theorem specStoryL {K : Nat} {a b : List En} (ha : a.length ≤ 60) (hb : b.length ≤ 60) (hK : 100000 ≤ K) : spec_l07Story.f K a b = some (storyL a b) := by
  unfold spec_l07Story.f
  rw [specCosts_eq ha hb hK]
  simp only [Option.bind_some]
  have e := specStory_all ha hb (a.length + b.length) 0 0 [] K (by omega) (by omega) (by omega) (by simp) (by omega)
  rw [show ((0 : Nat) : Int) = 0 from rfl] at e
  rw [e]
  rfl
def stepOk (a b : List En) (s : St) : Prop := (∃ i k : Nat, i < a.length ∧ k < b.length ∧ s = ⟨(i : Int), (k : Int)⟩ ∧ fitC (rd_T73 a (i : Int)) (rd_T73 b (k : Int)) = true) ∨ (∃ i : Nat, i < a.length ∧ s = ⟨(i : Int), -1⟩) ∨ ∃ k : Nat, k < b.length ∧ s = ⟨-1, (k : Int)⟩
theorem sto_ok {a b : List En} : ∀ d i k, i ≤ a.length → k ≤ b.length → (∀ s ∈ sto a b d i k, stepOk a b s) ∧ (sto a b d i k).length ≤ d := by
  intro d
  induction d with
  | zero => intro i k _ _; simp [sto]
  | succ d ih =>
    intro i k hi hk
    rw [sto]
    split
    · rename_i h
      obtain ⟨n1, n2, n3⟩ := nxt_in hi hk h
      obtain ⟨i1, i2⟩ := ih _ _ n1 n2
      refine ⟨fun s hs => ?_, by simp only [List.length_cons]; omega⟩
      rcases List.mem_cons.1 hs with rfl | hs
      · unfold nxtS
        unfold nxtS at n1 n2
        split
        · rename_i hb
          simp only [bothS, Bool.and_eq_true, decide_eq_true_eq] at hb
          exact .inl ⟨i, k, hb.1.1.1, hb.1.1.2, rfl, hb.1.2⟩
        · rename_i hb
          rw [if_neg hb] at n1 n2
          split
          · rename_i hd
            simp only [dropS, Bool.and_eq_true, decide_eq_true_eq] at hd
            exact .inr (.inl ⟨i, hd.1, rfl⟩)
          · rename_i hd
            rw [if_neg hd] at n1 n2
            exact .inr (.inr ⟨k, by simp only at n2; omega, rfl⟩)
      · exact i1 s hs
    · simp
theorem storyL_ok {a b : List En} : (∀ s ∈ storyL a b, stepOk a b s) ∧ (storyL a b).length ≤ a.length + b.length := sto_ok _ 0 0 (Nat.zero_le _) (Nat.zero_le _)
def resStoryOf (a b : List En) : List St × Int := if validG a = true ∧ validG b = true then (storyL a b, 0) else ([], 1)
theorem implStoryOf_eq {K : Nat} {a b : List En} (ha : a.length ≤ 1048576) (hb : b.length ≤ 1048576) (hK : 100000 ≤ K) : impl_StoryOf.f K a b = some (resStoryOf a b) := by
  unfold impl_StoryOf.f resStoryOf
  rw [logsCode_eq ha hb]
  simp only [Option.bind_some]
  by_cases hv : validG a = true ∧ validG b = true
  · rw [if_pos hv, if_pos rfl, if_pos hv, implStoryL (valid_parts hv.1).1 (valid_parts hv.2).1 hK]
    rfl
  · rw [if_neg hv, if_neg (by omega), if_neg hv]
end Go.Proofs.Ytidkniacmcbgiaa.G.Pure
end

section
namespace Go.Proofs.Ytidkniacmcbgiaa.G.Pure
open Go.RowKit Go.Proofs.Ytidkniacmcbgiaa.G Go.Proofs.YtidkniacmcbgiaaW.PrintWords Go.Proofs.YtidkniacmcbgiaaW.PrintLast Go.Proofs.YtidkniacmcbgiaaW.PrintMore
set_option linter.unusedVariables false
set_option linter.unusedSimpArgs false
def pickM (s : St) : List Int := if s.f1 < 0 then [s.f0] else []
def pickR (a b : List En) (s : St) : List Int := if 0 ≤ s.f0 ∧ 0 ≤ s.f1 ∧ (rd_T73 a s.f0).f1 ≠ (rd_T73 b s.f1).f1 then [s.f0] else []
theorem pickM_len (s : St) : (pickM s).length ≤ 1 := by unfold pickM; split <;> simp
theorem pickR_len (a b : List En) (s : St) : (pickR a b s).length ≤ 1 := by unfold pickR; split <;> simp
def resMissed (a b : List En) : List Int × Int := if validG a = true ∧ validG b = true then ((storyL a b).flatMap pickM, 0) else ([], 1)
def resMisread (a b : List En) : List Int × Int := if validG a = true ∧ validG b = true then ((storyL a b).flatMap (pickR a b), 0) else ([], 1)
theorem implMissed_l0 {k : Nat} {a b : List En} {st : List St} (hs : ∀ s ∈ st, stepOk a b s) (hl : st.length ≤ 1000) (hk : st.length < k) : impl_flownIn__impl_MissedIn_1.l0 k [] st (st.length : Int) 0 = some (st.flatMap pickM, 0) := by
  rw [← flat_list]
  refine loop_acc (fun k acc i => impl_flownIn__impl_MissedIn_1.l0 k acc st (st.length : Int) i) st.length (atL st pickM) (fun acc => (acc, 0)) (fun i hi => by rw [atL_some hi]; exact pickM_len _) (fun k i acc hi ha => ?_) (fun k acc ha => ?_) k hk
  · have h := hs _ (List.getElem_mem hi)
    simp only [impl_flownIn__impl_MissedIn_1.l0]
    rw [if_pos (by omega), if_pos (by omega), if_pos (by omega), rd_impl_Step hi, atL_some hi, w64 (by omega) (by omega)]
    unfold pickM
    rcases h with ⟨x, y, h1, h2, h3, h4⟩ | ⟨x, h1, h2⟩ | ⟨y, h1, h2⟩
    · rw [h3]
      rw [if_pos (show (x : Int) ≥ 0 by omega)]
      simp only [impl_MissedIn_1.f, Option.bind_some]
      rw [decide_eq_false (show ¬ (y : Int) < 0 by omega), if_neg (by simp), if_neg (by omega), List.append_nil]
      rfl
    · rw [h2]
      rw [if_pos (show (x : Int) ≥ 0 by omega)]
      simp only [impl_MissedIn_1.f, Option.bind_some]
      rw [decide_eq_true (show (-1 : Int) < 0 by omega), if_pos rfl, if_pos (by omega), if_pos (by omega)]
      rfl
    · rw [h2]
      rw [if_neg (show ¬ (-1 : Int) ≥ 0 by omega), if_neg (by simp only; omega), List.append_nil]
      rfl
  · simp only [impl_flownIn__impl_MissedIn_1.l0]
    rw [if_neg (by omega)]
theorem specPicked_l0 {k : Nat} {a b : List En} {m : Bool} {st : List St} (hs : ∀ s ∈ st, stepOk a b s) (hl : st.length ≤ 1000) (hk : st.length < k) : spec_l07Picked.l0 k a b m st [] 0 = some (st.flatMap (if m = true then pickM else pickR a b), 0) := by
  rw [← flat_list]
  refine loop_acc (fun k acc i => spec_l07Picked.l0 k a b m st acc i) st.length (atL st (if m = true then pickM else pickR a b)) (fun acc => (acc, 0)) (fun i hi => by rw [atL_some hi]; split; exact pickM_len _; exact pickR_len a b _) (fun k i acc hi ha => ?_) (fun k acc ha => ?_) k hk
  · have h := hs _ (List.getElem_mem hi)
    simp only [spec_l07Picked.l0]
    rw [if_pos (by omega), if_pos (by omega), rd_impl_Step hi, atL_some hi, w64 (by omega) (by omega)]
    rcases h with ⟨x, y, h1, h2, h3, h4⟩ | ⟨x, h1, h2⟩ | ⟨y, h1, h2⟩
    · rw [h3]
      simp only
      rw [if_pos (show (x : Int) ≥ 0 by omega), if_pos (show (y : Int) ≥ 0 by omega), if_pos (by omega), if_pos (by omega), if_pos (by omega), if_pos (by omega)]
      cases m with
      | true =>
        simp only [if_true, pickM]
        rw [if_neg (by omega), if_neg (by omega), List.append_nil]
        rfl
      | false =>
        simp only [Bool.false_eq_true, if_false, pickR]
        by_cases hq : (rd_T73 a (x : Int)).f1 = (rd_T73 b (y : Int)).f1
        · rw [if_pos hq, if_neg (fun h => h.2.2 hq), List.append_nil]
          rfl
        · rw [if_neg hq, if_pos (by omega), if_pos ⟨by omega, by omega, hq⟩]
          rfl
    · rw [h2]
      simp only
      rw [if_pos (show (x : Int) ≥ 0 by omega), if_neg (show ¬ (-1 : Int) ≥ 0 by omega)]
      cases m with
      | true =>
        simp only [if_true, pickM]
        rw [if_pos (by omega), if_pos (by omega), if_pos (by omega)]
        rfl
      | false =>
        simp only [Bool.false_eq_true, if_false, pickR]
        rw [if_neg (by omega), List.append_nil]
        rfl
    · rw [h2]
      simp only
      rw [if_neg (show ¬ (-1 : Int) ≥ 0 by omega)]
      cases m with
      | true =>
        simp only [if_true, pickM]
        rw [if_neg (by omega), if_neg (by omega), List.append_nil]
        rfl
      | false =>
        simp only [Bool.false_eq_true, if_false, pickR]
        rw [if_neg (by omega), List.append_nil]
        rfl
  · simp only [spec_l07Picked.l0]
    rw [if_neg (by omega)]
theorem specPicked_eq {k : Nat} {a b : List En} {m : Bool} (hk : 110000 ≤ k) : spec_l07Picked.f k a b m = some (if m = true then resMissed a b else resMisread a b) := by
  unfold spec_l07Picked.f resMissed resMisread
  rw [specOk_log (by omega), specOk_log (by omega)]
  simp only [Option.bind_some]
  obtain ⟨k, rfl⟩ : ∃ j, k = j + 1 := ⟨k - 1, by omega⟩
  cases h1 : validG a with
  | false => simp [spec_l07Picked.j0]
  | true =>
    cases h2 : validG b with
    | false => simp [spec_l07Picked.j0]
    | true =>
      have l1 := (valid_parts h1).1
      have l2 := (valid_parts h2).1
      obtain ⟨s1, s2⟩ := storyL_ok (a := a) (b := b)
      simp only [if_true, and_self, spec_l07Picked.j0, Bool.not_true, Bool.false_eq_true, if_false]
      rw [specStoryL l1 l2 (by omega)]
      simp only [Option.bind_some]
      rw [specPicked_l0 s1 (by omega) (by omega)]
      cases m <;> rfl
theorem implMissed_eq {k : Nat} {a b : List En} (ha : a.length ≤ 1048576) (hb : b.length ≤ 1048576) (hk : 110000 ≤ k) : impl_MissedIn.f k a b = some (resMissed a b) := by
  unfold impl_MissedIn.f impl_flownIn__impl_MissedIn_1.f resMissed
  rw [implStoryOf_eq ha hb (by omega)]
  simp only [Option.bind_some]
  unfold resStoryOf
  by_cases hv : validG a = true ∧ validG b = true
  · obtain ⟨s1, s2⟩ := storyL_ok (a := a) (b := b)
    have l1 := (valid_parts hv.1).1
    have l2 := (valid_parts hv.2).1
    rw [if_pos hv, if_pos hv]
    simp only [if_true]
    rw [implMissed_l0 s1 (by omega) (by omega)]
    rfl
  · rw [if_neg hv, if_neg hv]
    simp only
    rw [if_neg (by omega)]
    rfl
theorem flatMap_len {α β : Type} {l : List α} {h : α → List β} (hb : ∀ x, (h x).length ≤ 1) : (l.flatMap h).length ≤ l.length := by
  induction l with
  | nil => simp
  | cons a l ih =>
    rw [List.flatMap_cons, List.length_append, List.length_cons]
    have := hb a
    omega
theorem resMissed_len {a b : List En} : (resMissed a b).1.length ≤ 120 := by
  unfold resMissed
  split
  · rename_i h
    have := (storyL_ok (a := a) (b := b)).2
    have := (valid_parts h.1).1
    have := (valid_parts h.2).1
    have := flatMap_len (l := storyL a b) pickM_len
    simp only
    omega
  · simp
end Go.Proofs.Ytidkniacmcbgiaa.G.Pure
end

section
namespace Go.Proofs.Ytidkniacmcbgiaa.G.Pure
open Go.RowKit Go.Proofs.Ytidkniacmcbgiaa.G Go.Proofs.YtidkniacmcbgiaaW.PrintWords Go.Proofs.YtidkniacmcbgiaaW.PrintLast Go.Proofs.YtidkniacmcbgiaaW.PrintMore
set_option linter.unusedVariables false
set_option linter.unusedSimpArgs false
theorem FnExactMissedIn (l0 : List (S75)) (l1 : List (S75)) (h00 : l0.length ≤ 9223372036854775807) (h01 : (∀ x ∈ l0, (Lit.int .i64 x.f0).wf = true ∧ (Lit.int .i64 x.f1).wf = true ∧ True)) (h10 : l1.length ≤ 9223372036854775807) (h11 : (∀ x ∈ l1, (Lit.int .i64 x.f0).wf = true ∧ (Lit.int .i64 x.f1).wf = true ∧ True)) : ∃ k, laws_FnExactMissedIn.f k l0 l1 = some true := by
  by_cases hL : l0.length ≤ 1048576
  · by_cases hM : (1048576 : Int) - l0.length - l1.length < 0
    · refine ⟨0, ?_⟩
      unfold laws_FnExactMissedIn.f
      rw [szLog_eq _ _ (by omega) (by omega) h00, if_neg (by omega)]
      simp only [Option.bind_some]
      rw [if_neg (by omega), szLog_eq _ _ (by omega) (by omega) h10, if_pos (by omega)]
      rfl
    · obtain ⟨k, hk⟩ : ∃ k, 1100000 < k := ⟨_, Nat.lt_succ_self _⟩
      refine ⟨k + 4, ?_⟩
      have hL' : (l0.map entryOf).length ≤ 1048576 := by simpa using hL
      have hM' : (l1.map entryOf).length ≤ 1048576 := by rw [List.length_map]; omega
      have hr := resMissed_len (a := l0.map entryOf) (b := l1.map entryOf)
      have e1 := fun j => toLog_eq (k + j) l0 hL (by omega)
      have e2 := fun j => toLog_eq (k + j) l1 (by omega) (by omega)
      have q1 := fun j => eqLog_self (k + j) (l0.map entryOf) hL' (by omega)
      have q2 := fun j => eqLog_self (k + j) (l1.map entryOf) hM' (by omega)
      have s1 := fun j => specPicked_eq (k := k + j) (a := l0.map entryOf) (b := l1.map entryOf) (m := true) (by omega)
      have i1 := fun j => implMissed_eq (k := k + j) hL' hM' (by omega)
      have t1 := fun j => eqInt64S_self (k + j) (resMissed (l0.map entryOf) (l1.map entryOf)).1 (by omega) (by omega)
      obtain ⟨x1, m1, hm1, hm10, hm11⟩ := markLog_from (k + 3) (l0.map entryOf) 1 hL' (by omega) (by omega) (by omega)
      obtain ⟨x2, m2, hm2, hm20, _⟩ := markLog_from (k + 3) (l1.map entryOf) m1 hM' (by omega) hm10 (by omega)
      obtain ⟨l, m', ha, hb, hm3⟩ := markInt64S_held (k + 2) (resMissed (l0.map entryOf) (l1.map entryOf)).1 (by omega) (by omega)
      have hb0 := hb (k + 1) (by omega)
      have hb1 := hb (k + 2) (by omega)
      simp only [if_true, Bool.false_eq_true, if_false] at s1
      generalize resMissed (l0.map entryOf) (l1.map entryOf) = res at *
      unfold laws_FnExactMissedIn.f
      rw [szLog_eq _ _ (by omega) (by omega) h00, if_neg (by omega)]
      simp only [Option.bind_some]
      rw [if_neg (by omega), szLog_eq _ _ (by omega) (by omega) h10, if_neg (by omega)]
      simp only [Option.bind_some]
      rw [if_neg (by omega)]
      simp [laws_FnExactMissedIn.j0, laws_FnExactMissedIn.j1, laws_FnExactMissedIn.j2, spec_MissedIn.f, e1, e2, q1, q2, s1, i1, t1, hm1, hm2, ha, hb0, hb1, Int.not_lt.2 hm20, Int.not_lt.2 hm3]
  · refine ⟨0, ?_⟩
    unfold laws_FnExactMissedIn.f
    rw [szLog_big h00 hL]
    rfl
end Go.Proofs.Ytidkniacmcbgiaa.G.Pure
end
