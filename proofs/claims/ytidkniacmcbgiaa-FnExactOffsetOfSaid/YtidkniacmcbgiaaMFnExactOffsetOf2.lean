/- The law's functions, their contracts, and the plain lemmas: texts of this claim, laid together. -/
import Derived.Test.YtidkniacmcbgiaaMFnExactOffsetOf0
import Derived.Test.YtidkniacmcbgiaaMFnExactOffsetOf1
section
namespace Go.Proofs.Ytidkniacmcbgiaa.G.Pure
open Go.RowKit Go.Proofs.Ytidkniacmcbgiaa.G Go.Proofs.YtidkniacmcbgiaaW.PrintWords Go.Proofs.YtidkniacmcbgiaaW.PrintLast Go.Proofs.YtidkniacmcbgiaaW.PrintMore
set_option linter.unusedVariables false
set_option linter.unusedSimpArgs false
def resOff (a b : List En) : Int × Int × Int := if validG a = true ∧ validG b = true then impl_OffsetOf.res (impl_OffsetOf.dou a b a.length) else (0, 0, 1)
theorem valid_allO {l : List En} (hv : validG l = true) : l.all impl_OffsetOf.inb = true := by
  rw [List.all_eq_true]
  intro x hx
  obtain ⟨i, hi, rfl⟩ := List.mem_iff_getElem.1 hx
  have t := valid_times hv hi
  rw [rd_impl_Entry hi] at t
  unfold impl_OffsetOf.inb
  simp only [Bool.and_eq_true, decide_eq_true_eq]
  exact t
theorem implOff_eq {a b : List En} (ha : a.length ≤ 1048576) (hb : b.length ≤ 1048576) : impl_OffsetOf.f a b = some (resOff a b) := by
  unfold impl_OffsetOf.f resOff
  rw [logsCode_eq ha hb]
  simp only [Option.bind_some]
  by_cases hv : validG a = true ∧ validG b = true
  · rw [if_pos hv, if_pos hv, if_neg (by simp), if_pos ⟨(valid_parts hv.1).1, (valid_parts hv.2).1, valid_allO hv.1, valid_allO hv.2⟩]
  · rw [if_neg hv, if_neg hv, if_pos (by decide)]
theorem agree_off (e f : En) : spec_l07Agree.f e.f0 e.f1 e.f2 f.f0 f.f1 f.f2 = some (decide (e.f1 = f.f1 ∧ e.f2 = f.f2)) := by
  unfold spec_l07Agree.f
  by_cases h1 : e.f1 = f.f1
  · rw [if_pos h1]; simp only [h1, true_and]; cases e.f2 <;> cases f.f2 <;> rfl
  · rw [if_neg h1]; simp only [h1, false_and, decide_false]
theorem dif_yes {x y : En} (h : x.f1 = y.f1 ∧ x.f2 = y.f2) : impl_OffsetOf.dif x y = [x.f0 - y.f0] := if_pos h
theorem dif_no {x y : En} (h : ¬ (x.f1 = y.f1 ∧ x.f2 = y.f2)) : impl_OffsetOf.dif x y = [] := if_neg h
theorem pairs_in {a b : List En} (ha : validG a = true) (hb : validG b = true) {by_ : Int} (hby : -100000 ≤ by_ ∧ by_ ≤ 100000) {i : Nat} (hi : i < a.length) (K : Nat) : ∀ d j, j + d = b.length →
    spec_l07Pairs.l1 (K + d + 1) a b by_ (impl_OffsetOf.cnt (impl_OffsetOf.dou a b i ++ impl_OffsetOf.din (rd_T73 a (i : Int)) b j) by_) (i : Int) (j : Int) = spec_l07Pairs.l0 K a b by_ (impl_OffsetOf.cnt (impl_OffsetOf.dou a b (i + 1)) by_) ((i : Int) + 1) := by
  intro d
  have hl0 := (valid_parts ha).1
  have hl1 := (valid_parts hb).1
  induction d with
  | zero =>
    intro j hj
    obtain rfl : j = b.length := by omega
    simp only [spec_l07Pairs.l1, Nat.add_zero]
    rw [if_neg (by omega), w64 (by omega) (by omega), impl_OffsetOf.dou]
  | succ d ih =>
    intro j hj
    have hjl : j < b.length := by omega
    have hx := valid_times ha hi
    have hy := valid_times hb hjl
    have e := ih (j + 1) (by omega)
    rw [impl_OffsetOf.din, ← List.append_assoc, show ((j + 1 : Nat) : Int) = (j : Int) + 1 by omega] at e
    have hcl := impl_OffsetOf.cnt_le (impl_OffsetOf.dou a b i ++ impl_OffsetOf.din (rd_T73 a (i : Int)) b j) by_
    have hll : (impl_OffsetOf.dou a b i ++ impl_OffsetOf.din (rd_T73 a (i : Int)) b j).length ≤ 10000 := by
      have q1 := impl_OffsetOf.dou_len a b hl1 i
      have q2 := impl_OffsetOf.din_len (rd_T73 a (i : Int)) b j
      rw [List.length_append]
      omega
    generalize impl_OffsetOf.dou a b i ++ impl_OffsetOf.din (rd_T73 a (i : Int)) b j = L at *
    rw [show K + (d + 1) + 1 = (K + d + 1) + 1 by omega]
    rw [spec_l07Pairs.l1]
    rw [if_pos (by omega), if_pos (by omega), if_pos (by omega), if_pos (by omega), agree_off]
    simp only [Option.bind_some, decide_eq_true_eq]
    rw [w64 (n := (j : Int) + 1) (by omega) (by omega), w64 (n := (rd_T73 b (j : Int)).f0 + by_) (by omega) (by omega), w64 (n := impl_OffsetOf.cnt L by_ + 1) (by omega) (by omega)]
    generalize rd_T73 a (i : Int) = x at *
    generalize rd_T73 b (j : Int) = y at *
    by_cases hag : x.f1 = y.f1 ∧ x.f2 = y.f2
    · rw [dif_yes hag, impl_OffsetOf.cnt_snoc] at e
      rw [if_pos hag]
      by_cases ht : x.f0 = y.f0 + by_
      · rw [if_pos ht]
        rw [if_pos (by omega)] at e
        exact e
      · rw [if_neg ht]
        rw [if_neg (by omega), Int.add_zero] at e
        exact e
    · rw [dif_no hag, List.append_nil] at e
      rw [if_neg hag]
      exact e
theorem pairs_all {a b : List En} (ha : validG a = true) (hb : validG b = true) {by_ : Int} (hby : -100000 ≤ by_ ∧ by_ ≤ 100000) : ∀ d i K, i + d = a.length → 100 + 100 * d ≤ K →
    spec_l07Pairs.l0 K a b by_ (impl_OffsetOf.cnt (impl_OffsetOf.dou a b i) by_) (i : Int) = some (impl_OffsetOf.cnt (impl_OffsetOf.dou a b a.length) by_) := by
  intro d
  have hl1 := (valid_parts hb).1
  induction d with
  | zero =>
    intro i K hi hK
    obtain ⟨K, rfl⟩ : ∃ m, K = m + 1 := ⟨K - 1, by omega⟩
    obtain rfl : i = a.length := by omega
    rw [spec_l07Pairs.l0, if_neg (by omega)]
  | succ d ih =>
    intro i K hi hK
    obtain ⟨K, rfl⟩ : ∃ m, K = m + b.length + 1 + 1 := ⟨K - b.length - 2, by omega⟩
    have e := ih (i + 1) K (by omega) (by omega)
    rw [show ((i + 1 : Nat) : Int) = (i : Int) + 1 by omega] at e
    have e2 := pairs_in ha hb hby (i := i) (by omega) K b.length 0 (by omega)
    rw [impl_OffsetOf.din, List.append_nil] at e2
    rw [spec_l07Pairs.l0, if_pos (by omega)]
    exact e2.trans e
theorem pairs_eq {a b : List En} (ha : validG a = true) (hb : validG b = true) {by_ : Int} (hby : -100000 ≤ by_ ∧ by_ ≤ 100000) {k : Nat} (hk : 10000 ≤ k) : spec_l07Pairs.f k a b by_ = some (impl_OffsetOf.cnt (impl_OffsetOf.dou a b a.length) by_) := by
  have hl0 := (valid_parts ha).1
  exact pairs_all ha hb hby a.length 0 k (by omega) (by omega)
theorem size_off {n : Int} (h : -1000000 ≤ n ∧ n ≤ 1000000) : spec_l07Size.f n = some (impl_OffsetOf.ab n) := by
  unfold spec_l07Size.f impl_OffsetOf.ab
  split
  · rw [w64 (by omega) (by omega)]
  · rfl
theorem has_off {s : Int} {t : List Int} (ht : t.length ≤ 4000) : ∀ d i K, i + d = t.length → d + 1 ≤ K → spec_l00Has.l0 K t s (i : Int) = some (decide (s ∈ t.drop i)) := by
  intro d
  induction d with
  | zero =>
    intro i K hi hK
    obtain ⟨K, rfl⟩ : ∃ m, K = m + 1 := ⟨K - 1, by omega⟩
    rw [spec_l00Has.l0, if_neg (by omega), List.drop_of_length_le (by omega)]
    simp
  | succ d ih =>
    intro i K hi hK
    obtain ⟨K, rfl⟩ : ∃ m, K = m + 1 := ⟨K - 1, by omega⟩
    have e := ih (i + 1) K (by omega) (by omega)
    have hil : i < t.length := by omega
    rw [spec_l00Has.l0, if_pos (by omega), if_pos (by omega), w64 (by omega) (by omega), show (i : Int) + 1 = ((i + 1 : Nat) : Int) by omega, e]
    have hr : rd t (i : Int) = t[i] := by simp [rd, List.getD_eq_getElem?_getD, List.getElem?_eq_getElem hil]
    have hd : (s ∈ t.drop i) ↔ (s = t[i] ∨ s ∈ t.drop (i + 1)) := by rw [List.drop_eq_getElem_cons hil]; exact List.mem_cons
    rw [hr]
    by_cases h : t[i] = s
    · rw [if_pos h, decide_eq_true (hd.2 (.inl h.symm))]
    · rw [if_neg h]
      exact congrArg some (decide_eq_decide.2 ⟨fun q => hd.2 (.inr q), fun q => (hd.1 q).resolve_left (fun h_ => h h_.symm)⟩)
theorem has_eqO {s : Int} {t : List Int} (ht : t.length ≤ 4000) {k : Nat} (hk : 10000 ≤ k) : spec_l00Has.f k t s = some (decide (s ∈ t)) := by
  have := has_off (s := s) ht t.length 0 k (by omega) (by omega)
  rw [List.drop_zero] at this
  exact this
theorem off_j3 {a b : List En} (ha : validG a = true) (hb : validG b = true) {best most s : Int} {t : List Int} {i j : Int} {K : Nat} (hs : -100000 ≤ s ∧ s ≤ 100000) (hbs : -100000 ≤ best ∧ best ≤ 100000) (ht : t.length ≤ 4000) (hK : 10000 ≤ K) (hj : 0 ≤ j ∧ j ≤ 60) :
    spec_OffsetOf.j3 (K + 1) a b best most t i j s false = spec_OffsetOf.l1 K a b (if impl_OffsetOf.bet most best (impl_OffsetOf.cnt (impl_OffsetOf.dou a b a.length) s) s = true then s else best) (if impl_OffsetOf.bet most best (impl_OffsetOf.cnt (impl_OffsetOf.dou a b a.length) s) s = true then impl_OffsetOf.cnt (impl_OffsetOf.dou a b a.length) s else most) (t ++ [s]) i (j + 1) := by
  rw [spec_OffsetOf.j3, if_neg (by decide), if_pos (by omega), w64 (n := j + 1) (by omega) (by omega), pairs_eq ha hb hs hK, size_off (n := s) (by omega), size_off (n := best) (by omega)]
  simp only [Option.bind_some]
  generalize impl_OffsetOf.cnt (impl_OffsetOf.dou a b a.length) s = n
  by_cases hq : impl_OffsetOf.bet most best n s = true
  · rw [if_pos hq, if_pos hq]
    rw [impl_OffsetOf.bet_iff] at hq
    generalize impl_OffsetOf.ab s = p at *
    generalize impl_OffsetOf.ab best = q at *
    repeat' split
    all_goals first | rfl | (exfalso; omega)
  · rw [if_neg hq, if_neg hq]
    rw [impl_OffsetOf.bet_iff] at hq
    generalize impl_OffsetOf.ab s = p at *
    generalize impl_OffsetOf.ab best = q at *
    repeat' split
    all_goals first | rfl | (exfalso; omega)
structure OffInv (a b : List En) (P t : List Int) (best most : Int) : Prop where
  best_ : impl_OffsetOf.IsBest (impl_OffsetOf.cnt (impl_OffsetOf.dou a b a.length)) (fun s => s ∈ t) best most
  mem : ∀ s, s ∈ t ↔ s ∈ P
  len : t.length ≤ P.length
theorem din_mem {a b : List En} {i : Nat} (hi : i < a.length) {j : Nat} (hj : j ≤ b.length) : ∀ s ∈ impl_OffsetOf.din (rd_T73 a (i : Int)) b j, s ∈ impl_OffsetOf.dou a b a.length := by
  have h1 : ∀ d j, j + d = b.length → ∀ s ∈ impl_OffsetOf.din (rd_T73 a (i : Int)) b j, s ∈ impl_OffsetOf.din (rd_T73 a (i : Int)) b b.length := by
    intro d
    induction d with
    | zero => intro j hj s hs; obtain rfl : j = b.length := (by omega); exact hs
    | succ d ih => intro j hj s hs; exact ih (j + 1) (by omega) s (by rw [impl_OffsetOf.din]; exact List.mem_append_left _ hs)
  have h2 : ∀ d n, n + d = a.length → ∀ s ∈ impl_OffsetOf.dou a b n, s ∈ impl_OffsetOf.dou a b a.length := by
    intro d
    induction d with
    | zero => intro j hj s hs; obtain rfl : j = a.length := (by omega); exact hs
    | succ d ih => intro j hj s hs; exact ih (j + 1) (by omega) s (by rw [impl_OffsetOf.dou]; exact List.mem_append_left _ hs)
  intro s hs
  exact h2 (a.length - (i + 1)) (i + 1) (by omega) s (by rw [impl_OffsetOf.dou]; exact List.mem_append_right _ (h1 (b.length - j) j (by omega) s hs))
theorem off_in {a b : List En} (ha : validG a = true) (hb : validG b = true) {i : Nat} (hi : i < a.length) (K : Nat) (hK : 10000 ≤ K) : ∀ d j best most t, j + d = b.length → OffInv a b (impl_OffsetOf.dou a b i ++ impl_OffsetOf.din (rd_T73 a (i : Int)) b j) t best most →
    ∃ best' most' t', OffInv a b (impl_OffsetOf.dou a b (i + 1)) t' best' most' ∧ spec_OffsetOf.l1 (K + 2 * d + 1) a b best most t (i : Int) (j : Int) = spec_OffsetOf.l0 K a b best' most' t' ((i : Int) + 1) := by
  intro d
  have hl0 := (valid_parts ha).1
  have hl1 := (valid_parts hb).1
  induction d with
  | zero =>
    intro j best most t hj hI
    obtain rfl : j = b.length := by omega
    refine ⟨best, most, t, by rw [impl_OffsetOf.dou]; exact hI, ?_⟩
    simp only [spec_OffsetOf.l1, Nat.mul_zero, Nat.add_zero]
    rw [if_neg (by omega), w64 (by omega) (by omega)]
  | succ d ih =>
    intro j best most t hj hI
    have hjl : j < b.length := by omega
    have hx := valid_times ha hi
    have hy := valid_times hb hjl
    have hin := din_mem (a := a) (b := b) hi (j := j + 1) (by omega)
    have hall := impl_OffsetOf.dou_in (valid_allO ha) (valid_allO hb) (Nat.le_refl a.length)
    have hll : (impl_OffsetOf.dou a b i ++ impl_OffsetOf.din (rd_T73 a (i : Int)) b j).length ≤ 3660 := by
      have q1 := impl_OffsetOf.dou_len a b hl1 i
      have q2 := impl_OffsetOf.din_len (rd_T73 a (i : Int)) b j
      rw [List.length_append]
      omega
    have hbs : -100000 ≤ best ∧ best ≤ 100000 := by
      rcases hI.best_ with ⟨rfl, _⟩ | ⟨hk, hc, hp, _⟩
      · omega
      · exact hall best (impl_OffsetOf.cnt_pos.1 (by rw [hc]; exact hp))
    have e := ih (j + 1)
    rw [show ((j + 1 : Nat) : Int) = (j : Int) + 1 by omega] at e
    rw [show K + 2 * (d + 1) + 1 = (K + 2 * d + 1) + 1 + 1 by omega]
    rw [spec_OffsetOf.l1]
    rw [if_pos (by omega), if_pos (by omega), if_pos (by omega), if_pos (by omega), agree_off]
    simp only [Option.bind_some, decide_eq_true_eq]
    rw [w64 (n := (rd_T73 a (i : Int)).f0 - (rd_T73 b (j : Int)).f0) (by omega) (by omega)]
    rw [impl_OffsetOf.din] at e hin
    generalize hL : impl_OffsetOf.din (rd_T73 a (i : Int)) b j = L at *
    generalize rd_T73 a (i : Int) = x at *
    generalize rd_T73 b (j : Int) = y at *
    by_cases hag : x.f1 = y.f1 ∧ x.f2 = y.f2
    · rw [dif_yes hag] at e hin
      rw [if_pos hag, has_eqO (by have := hI.len; omega) (by omega)]
      simp only [Option.bind_some]
      have hd : x.f0 - y.f0 ∈ impl_OffsetOf.dou a b a.length := hin _ (List.mem_append_right _ (List.mem_singleton.2 rfl))
      by_cases hm : x.f0 - y.f0 ∈ t
      · rw [decide_eq_true hm, spec_OffsetOf.j3, if_pos rfl, w64 (by omega) (by omega)]
        refine e best most t (by omega) ⟨hI.best_, fun s => ?_, by have := hI.len; simp only [List.length_append] at this ⊢; omega⟩
        rw [hI.mem, ← List.append_assoc, List.mem_append (t := [x.f0 - y.f0]), List.mem_singleton]
        refine ⟨.inl, fun h_ => h_.elim id (fun h_ => ?_)⟩
        rw [h_]
        exact (hI.mem _).1 hm
      · rw [decide_eq_false hm, off_j3 ha hb (by omega) hbs (by have := hI.len; omega) (by omega) (by omega)]
        refine e _ _ _ (by omega) ⟨?_, fun s => ?_, by have := hI.len; simp only [List.length_append, List.length_singleton] at this ⊢; omega⟩
        · exact hI.best_.step (fun s => by rw [List.mem_append, List.mem_singleton]) (impl_OffsetOf.cnt_pos.2 hd)
        · rw [List.mem_append, hI.mem, ← List.append_assoc, List.mem_append (t := [x.f0 - y.f0])]
    · rw [dif_no hag, List.append_nil] at e
      rw [if_neg hag, spec_OffsetOf.j3, if_pos rfl, w64 (by omega) (by omega)]
      exact e best most t (by omega) hI
theorem off_all {a b : List En} (ha : validG a = true) (hb : validG b = true) : ∀ d i K best most t, i + d = a.length → 20000 + 200 * d ≤ K → OffInv a b (impl_OffsetOf.dou a b i) t best most →
    spec_OffsetOf.l0 K a b best most t (i : Int) = some (impl_OffsetOf.res (impl_OffsetOf.dou a b a.length)) := by
  intro d
  have hl1 := (valid_parts hb).1
  induction d with
  | zero =>
    intro i K best most t hi hK hI
    obtain ⟨K, rfl⟩ : ∃ m, K = m + 1 := ⟨K - 1, by omega⟩
    obtain rfl : i = a.length := by omega
    have := impl_OffsetOf.res_of (hI.best_.same (K' := fun s => s ∈ impl_OffsetOf.dou a b a.length) (fun s => (hI.mem s).symm))
    rw [spec_OffsetOf.l0, if_neg (by omega), this]
    split <;> rfl
  | succ d ih =>
    intro i K best most t hi hK hI
    obtain ⟨K, rfl⟩ : ∃ m, K = m + 2 * b.length + 1 + 1 := ⟨K - 2 * b.length - 2, by omega⟩
    obtain ⟨best', most', t', hI', e⟩ := off_in ha hb (i := i) (by omega) K (by omega) b.length 0 best most t (by omega) (by rw [impl_OffsetOf.din, List.append_nil]; exact hI)
    have e2 := ih (i + 1) K best' most' t' (by omega) (by omega) hI'
    rw [show ((i + 1 : Nat) : Int) = (i : Int) + 1 by omega] at e2
    rw [spec_OffsetOf.l0, if_pos (by omega)]
    exact e.trans e2
theorem specOff_eq {k : Nat} {a b : List En} (hk : 100000 < k) : spec_OffsetOf.f k a b = some (resOff a b) := by
  unfold spec_OffsetOf.f resOff
  rw [specOk_log (by omega), specOk_log (by omega)]
  simp only [Option.bind_some]
  obtain ⟨k, rfl⟩ : ∃ m, k = m + 1 := ⟨k - 1, by omega⟩
  cases ha : validG a with
  | false => simp [spec_OffsetOf.j0]
  | true =>
    cases hb : validG b with
    | false => simp [spec_OffsetOf.j0]
    | true =>
      have hl0 := (valid_parts ha).1
      have e := off_all ha hb a.length 0 k 0 0 [] (by omega) (by omega) ⟨impl_OffsetOf.IsBest.zero _ (fun s h_ => by cases h_), fun s => Iff.rfl, Nat.zero_le _⟩
      simp only [if_true, and_self, spec_OffsetOf.j0, Bool.not_true, Bool.false_eq_true, if_false]
      exact e
end Go.Proofs.Ytidkniacmcbgiaa.G.Pure
end

section
namespace Go.Proofs.Ytidkniacmcbgiaa.G.Pure
open Go.RowKit Go.Proofs.Ytidkniacmcbgiaa.G Go.Proofs.YtidkniacmcbgiaaW.PrintWords Go.Proofs.YtidkniacmcbgiaaW.PrintLast Go.Proofs.YtidkniacmcbgiaaW.PrintMore
set_option linter.unusedVariables false
set_option linter.unusedSimpArgs false
theorem FnExactOffsetOf (l0 : List (S75)) (l1 : List (S75)) (h00 : l0.length ≤ 9223372036854775807) (h01 : (∀ x ∈ l0, (Lit.int .i64 x.f0).wf = true ∧ (Lit.int .i64 x.f1).wf = true ∧ True)) (h10 : l1.length ≤ 9223372036854775807) (h11 : (∀ x ∈ l1, (Lit.int .i64 x.f0).wf = true ∧ (Lit.int .i64 x.f1).wf = true ∧ True)) : ∃ k, laws_FnExactOffsetOf.f k l0 l1 = some true := by
  by_cases hL : l0.length ≤ 1048576
  · by_cases hM : (1048576 : Int) - l0.length - l1.length < 0
    · refine ⟨0, ?_⟩
      unfold laws_FnExactOffsetOf.f
      rw [szLog_eq _ _ (by omega) (by omega) h00, if_neg (by omega)]
      simp only [Option.bind_some]
      rw [if_neg (by omega), szLog_eq _ _ (by omega) (by omega) h10, if_pos (by omega)]
      rfl
    · obtain ⟨k, hk⟩ : ∃ k, 1100000 < k := ⟨_, Nat.lt_succ_self _⟩
      refine ⟨k + 2, ?_⟩
      have hL' : (l0.map entryOf).length ≤ 1048576 := by simpa using hL
      have hM' : (l1.map entryOf).length ≤ 1048576 := by rw [List.length_map]; omega
      have e1 := fun j => toLog_eq (k + j) l0 hL (by omega)
      have e2 := fun j => toLog_eq (k + j) l1 (by omega) (by omega)
      have q1 := fun j => eqLog_self (k + j) (l0.map entryOf) hL' (by omega)
      have q2 := fun j => eqLog_self (k + j) (l1.map entryOf) hM' (by omega)
      have s1 := fun j => specOff_eq (k := k + j) (a := l0.map entryOf) (b := l1.map entryOf) (by omega)
      have i1 := implOff_eq hL' hM'
      generalize resOff (l0.map entryOf) (l1.map entryOf) = res at *
      unfold laws_FnExactOffsetOf.f
      rw [szLog_eq _ _ (by omega) (by omega) h00, if_neg (by omega)]
      simp only [Option.bind_some]
      rw [if_neg (by omega), szLog_eq _ _ (by omega) (by omega) h10, if_neg (by omega)]
      simp only [Option.bind_some]
      rw [if_neg (by omega)]
      simp [laws_FnExactOffsetOf.j0, e1, e2, q1, q2, s1, i1]
  · refine ⟨0, ?_⟩
    unfold laws_FnExactOffsetOf.f
    rw [szLog_big h00 hL]
    rfl
end Go.Proofs.Ytidkniacmcbgiaa.G.Pure
end
