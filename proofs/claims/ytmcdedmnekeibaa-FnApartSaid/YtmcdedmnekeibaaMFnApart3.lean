/- The law's functions, their contracts, and the plain lemmas: texts of this claim, laid together. -/
import Derived.Deep.Slices
import Derived.Deep.Fields
import Derived.ChangeSame
import Derived.OpenShut
import Derived.Test.YtmcdedmnekeibaaMFnApart0
import Derived.Test.YtmcdedmnekeibaaMFnApart1
import Derived.Test.YtmcdedmnekeibaaMFnApart2
section
namespace Go.Proofs.Ytmcdedmnekeibaa.G
open Go.RowKit Go.Proofs.YtmcdedmnekeibaaW.PrintWords Go.Proofs.YtmcdedmnekeibaaW.PrintLast Go.Proofs.YtmcdedmnekeibaaW.PrintMore
attribute [local go_sem] max2_int min2_int max_two min_two max_three min_three max_four min_four
set_option linter.unusedVariables false
set_option linter.unusedSimpArgs false
open Go.ChangeShapes Go.WideShapes Go.Deep in
structure Opens {α : Type} (P : Program) (t : TypeId) (d : Kd α) (Wf : α → Prop) : Prop where
  sz : P.cellsOf t = d.sz
  op : ∀ {H : Type} {enc : TypeId × Value → H} {w : World} {base : Nat} {spare : Nat → Bool} {held : Bool} {fuel : Nat} {cs : List Value} {x : DataW H × List MemPlace}, DataW.trod enc P w base spare held fuel t cs = some x → ∃ a : α, d.K w a cs ∧ Wf a
theorem opens_int {P : Program} {t : TypeId} {k : IntKind} (ht : P.underlying t = some (.int k)) (hC : P.cellsOf t = 1) : Opens P t (Kd.int k) (fun n => (Lit.int k n).wf = true) where
  sz := hC
  op := fun h => by
    obtain ⟨n, rfl, _, hw⟩ := DataW.trod_int ht h
    exact ⟨n, rfl, hw⟩
theorem list_of {α : Type} {Q : Nat → α → Prop} : ∀ n, (∀ i, i < n → ∃ y, Q i y) → ∃ l : List α, l.length = n ∧ ∀ i y, l[i]? = some y → Q i y
  | 0, _ => ⟨[], rfl, fun i y h => by simp at h⟩
  | n + 1, h => by
    obtain ⟨l, hl, hq⟩ := list_of n (fun i hi => h i (by omega))
    obtain ⟨y, hy⟩ := h n (by omega)
    refine ⟨l ++ [y], by simp [hl], fun i z hz => ?_⟩
    rcases Nat.lt_or_ge i l.length with hi | hi
    · rw [List.getElem?_append_left hi] at hz
      exact hq i z hz
    · rw [List.getElem?_append_right hi] at hz
      have : i - l.length = 0 := by
        rcases Nat.eq_zero_or_pos (i - l.length) with h0 | h0
        · exact h0
        · rw [List.getElem?_eq_none (by simp; omega)] at hz
          cases hz
      rw [this] at hz
      have e : y = z := by simpa using hz
      subst e
      have : i = n := by omega
      subst this
      exact hy
theorem opens_slice {α : Type} {P : Program} {t e : TypeId} {d : Kd α} {Wf : α → Prop} (ht : P.underlying t = some (.slice e)) (hC : P.cellsOf t = 1) (he : Opens P e d Wf) : Opens P t (Kd.slice e d) (fun l => l.length ≤ 9223372036854775807 ∧ ∀ x ∈ l, Wf x) where
  sz := hC
  op := fun {H enc w base spare held fuel cs x} h => by
    rcases Go.Deep.open_slice ht h with ⟨rfl, _⟩ | ⟨a, len, cap, m, n, D, Pl, rfl, hb, hl, hm, hmm, _, hi⟩
    · exact ⟨[], ⟨none, 0, rfl, Nat.le_refl _, rfl, by simp, fun h => absurd h (by simp)⟩, by simp, by simp⟩
    · have hlen : len ≤ m := by rw [hmm]; split <;> omega
      obtain ⟨l, hll, hq⟩ := list_of (Q := fun i y => (∃ c, c.length = d.sz ∧ d.K w y c ∧ ∀ j u, c[j]? = some u → w.cell? (a.add (i * d.sz + j)) = some u) ∧ Wf y) len (fun i him => by
        obtain ⟨cs', hc, ht'⟩ := hi i (by omega)
        obtain ⟨y, hK, hW⟩ := he.op ht'
        obtain ⟨_, hcl, hat⟩ := World.cells?_some hc
        refine ⟨y, ⟨cs', d.K_len hK, hK, fun j u hu => ?_⟩, hW⟩
        have hj : j < cs'.length := (List.getElem?_eq_some_iff.1 hu).1
        have h1 := hat j (by rw [he.sz, ← d.K_len hK]; exact hj)
        rw [← he.sz, ← Go.Deep.add_add, h1, hu])
      refine ⟨l, ⟨some a, cap, by rw [hll], by rw [hll]; exact hl, rfl, by rw [hll]; have := hm; unfold maxLen at this; omega, fun _ => ⟨a, rfl, fun j p hj => (hq j p hj).1⟩⟩, by rw [hll]; have := hm; unfold maxLen at this; omega, fun y hy => ?_⟩
      obtain ⟨j, hj, rfl⟩ := List.mem_iff_getElem.1 hy
      exact (hq j _ (List.getElem?_eq_getElem hj)).2
theorem op5 : Opens Try.prog 5 (Kd.int .u8) (fun x : Int => (Lit.int .u8 x).wf = true) := opens_int (k := .u8) Try.underlying5 (by kernel_rfl)
theorem op22 : Opens Try.prog 22 (Kd.slice 5 (Kd.int .u8)) (fun x : List Int => (x.length ≤ 9223372036854775807 ∧ ∀ x_ ∈ x, (Lit.int .u8 x_).wf = true)) := opens_slice Try.underlying22 (by kernel_rfl) op5
end Go.Proofs.Ytmcdedmnekeibaa.G
end

section
namespace Go.Proofs.Ytmcdedmnekeibaa.G.Pure
open Go.RowKit Go.Proofs.Ytmcdedmnekeibaa.G Go.Proofs.YtmcdedmnekeibaaW.PrintWords Go.Proofs.YtmcdedmnekeibaaW.PrintLast Go.Proofs.YtmcdedmnekeibaaW.PrintMore
set_option linter.unusedVariables false
set_option linter.unusedSimpArgs false
def unlN : List Int → List Int → Nat
  | x :: a, y :: b => (if x = y then 0 else 1) + unlN a b
  | _, _ => 0
theorem unlN_self : ∀ a : List Int, unlN a a = 0
  | [] => rfl
  | x :: a => by
    unfold unlN
    rw [if_pos rfl, unlN_self a]
theorem unlN_comm : ∀ a b : List Int, unlN a b = unlN b a
  | [], [] => rfl
  | [], _ :: _ => rfl
  | _ :: _, [] => rfl
  | x :: a, y :: b => by
    unfold unlN
    rw [unlN_comm a b]
    by_cases h : x = y
    · rw [if_pos h, if_pos h.symm]
    · rw [if_neg h, if_neg (fun e => h e.symm)]
theorem unlN_tri : ∀ a b c : List Int, a.length = b.length → b.length = c.length → unlN a c ≤ unlN a b + unlN b c
  | [], _, _, _, _ => by simp [unlN]
  | x :: a, [], _, h, _ => by simp at h
  | x :: a, y :: b, [], _, h => by simp at h
  | x :: a, y :: b, z :: c, h1, h2 => by
    have ih := unlN_tri a b c (by simpa using h1) (by simpa using h2)
    unfold unlN
    by_cases h : x = y
    · subst h
      rw [if_pos rfl]
      omega
    · rw [if_neg h]
      split <;> split <;> omega
def greedyW (far most : Nat) : List (List Int) → List (List Int) → List (List Int)
  | [], out => out
  | w :: ws, out => greedyW far most ws (if out.length < most ∧ ∀ x ∈ out, far ≤ unlN x w then out ++ [w] else out)
theorem greedyW_keeps (far most : Nat) : ∀ ws out, ∀ x ∈ out, x ∈ greedyW far most ws out
  | [], out, x, h => h
  | w :: ws, out, x, h => by
    unfold greedyW
    refine greedyW_keeps far most ws _ x ?_
    split
    · exact List.mem_append_left _ h
    · exact h
theorem greedyW_len (far most : Nat) : ∀ ws out, out.length ≤ (greedyW far most ws out).length
  | [], out => Nat.le_refl _
  | w :: ws, out => by
    unfold greedyW
    refine Nat.le_trans ?_ (greedyW_len far most ws _)
    split
    · rw [List.length_append]; omega
    · exact Nat.le_refl _
theorem greedyW_most (far most : Nat) : ∀ ws out, out.length ≤ most → (greedyW far most ws out).length ≤ most
  | [], out, h => h
  | w :: ws, out, h => by
    unfold greedyW
    refine greedyW_most far most ws _ ?_
    split
    · rename_i hc
      rw [List.length_append, List.length_singleton]
      omega
    · exact h
theorem greedyW_far (far most : Nat) : ∀ ws out, out.Pairwise (fun a b => far ≤ unlN a b) → (greedyW far most ws out).Pairwise (fun a b => far ≤ unlN a b)
  | [], out, h => h
  | w :: ws, out, h => by
    unfold greedyW
    refine greedyW_far far most ws _ ?_
    split
    · rename_i hc
      rw [List.pairwise_append]
      exact ⟨h, by simp, fun a ha b hb => by rw [List.mem_singleton.1 hb]; exact hc.2 a ha⟩
    · exact h
theorem greedyW_full (far most : Nat) (hf : 1 ≤ far) : ∀ ws out, ∀ w ∈ ws, (greedyW far most ws out).length = most ∨ most ≤ out.length ∨ ∃ x ∈ greedyW far most ws out, unlN x w < far
  | [], out, w, h => by simp at h
  | v :: ws, out, w, h => by
    unfold greedyW
    by_cases hc : out.length < most ∧ ∀ x ∈ out, far ≤ unlN x v
    · rw [if_pos hc]
      rcases List.mem_cons.1 h with e | e
      · refine .inr (.inr ⟨v, greedyW_keeps far most ws _ v (by simp), ?_⟩)
        rw [e, unlN_self]
        omega
      · rcases greedyW_full far most hf ws (out ++ [v]) w e with z | z | z
        · exact .inl z
        · rw [List.length_append, List.length_singleton] at z
          have h1 := greedyW_len far most ws (out ++ [v])
          have h2 := greedyW_most far most ws (out ++ [v]) (by rw [List.length_append, List.length_singleton]; omega)
          rw [List.length_append, List.length_singleton] at h1
          exact .inl (by omega)
        · exact .inr (.inr z)
    · rw [if_neg hc]
      rcases List.mem_cons.1 h with e | e
      · by_cases hm : out.length < most
        · have : ∃ x ∈ out, unlN x v < far := by
            apply Classical.byContradiction
            intro hn
            refine hc ⟨hm, fun x hx => ?_⟩
            apply Classical.byContradiction
            intro hlt
            exact hn ⟨x, hx, by omega⟩
          obtain ⟨x, hx, hlt⟩ := this
          exact .inr (.inr ⟨x, greedyW_keeps far most ws _ x hx, by rw [e]; exact hlt⟩)
        · exact .inr (.inl (by omega))
      · exact greedyW_full far most hf ws out w e
end Go.Proofs.Ytmcdedmnekeibaa.G.Pure
end

section
namespace Go.Proofs.Ytmcdedmnekeibaa.G.Pure
open Go.RowKit Go.Proofs.Ytmcdedmnekeibaa.G Go.Proofs.YtmcdedmnekeibaaW.PrintWords Go.Proofs.YtmcdedmnekeibaaW.PrintLast Go.Proofs.YtmcdedmnekeibaaW.PrintMore
set_option linter.unusedVariables false
set_option linter.unusedSimpArgs false
def wdA (L : Nat) : Nat → Nat → List Int
  | 0, _ => []
  | n + 1, r => wdA L n (r / L) ++ [((r % L : Nat) : Int)]
def wsA (L n : Nat) : List (List Int) := (List.range (L ^ n)).map (wdA L n)
def IsA (L n : Nat) (x : List Int) : Prop := x.length = n ∧ ∀ c ∈ x, 0 ≤ c ∧ c < (L : Int)
theorem wdA_is {L : Nat} (hL : 0 < L) : ∀ n r, IsA L n (wdA L n r)
  | 0, r => ⟨rfl, by simp [wdA]⟩
  | n + 1, r => by
    obtain ⟨h1, h2⟩ := wdA_is hL n (r / L)
    refine ⟨by rw [wdA, List.length_append, h1, List.length_singleton], fun c hc => ?_⟩
    rw [wdA] at hc
    rcases List.mem_append.1 hc with h | h
    · exact h2 c h
    · rw [List.mem_singleton.1 h]
      have := Nat.mod_lt r hL
      omega
theorem wdA_onto {L : Nat} (hL : 0 < L) : ∀ n (x : List Int), IsA L n x → ∃ r, r < L ^ n ∧ wdA L n r = x
  | 0, x, h => ⟨0, by simp, (List.length_eq_zero_iff.1 h.1).symm⟩
  | n + 1, x, h => by
    obtain ⟨h1, h2⟩ := h
    have hne : x ≠ [] := fun e => by rw [e] at h1; cases h1
    obtain ⟨y, c, rfl⟩ : ∃ y c, x = y ++ [c] := ⟨x.dropLast, x.getLast hne, (List.dropLast_concat_getLast hne).symm⟩
    rw [List.length_append, List.length_singleton] at h1
    obtain ⟨q, hq, e⟩ := wdA_onto hL n y ⟨by omega, fun z hz => h2 z (List.mem_append.2 (.inl hz))⟩
    have hc := h2 c (by simp)
    have hcl : c.toNat < L := by omega
    refine ⟨q * L + c.toNat, ?_, ?_⟩
    · rw [Nat.pow_succ]
      have : (q + 1) * L ≤ L ^ n * L := Nat.mul_le_mul_right _ hq
      rw [Nat.add_mul] at this
      omega
    · rw [wdA, show (q * L + c.toNat) / L = q by rw [Nat.add_comm, Nat.add_mul_div_right _ _ hL, Nat.div_eq_of_lt hcl, Nat.zero_add], show (q * L + c.toNat) % L = c.toNat by rw [Nat.add_comm, Nat.add_mul_mod_self_right, Nat.mod_eq_of_lt hcl], e]
      congr 2
      omega
theorem wsA_mem {L n : Nat} (hL : 0 < L) {x : List Int} (h : IsA L n x) : x ∈ wsA L n := by
  obtain ⟨r, hq9, e⟩ := wdA_onto hL n x h
  exact List.mem_map.2 ⟨r, List.mem_range.2 hq9, e⟩
theorem wsA_is {L n : Nat} (hL : 0 < L) {x : List Int} (h : x ∈ wsA L n) : IsA L n x := by
  obtain ⟨r, _, rfl⟩ := List.mem_map.1 h
  exact wdA_is hL n r
theorem greedyW_mem (far most : Nat) : ∀ ws out, ∀ x ∈ greedyW far most ws out, x ∈ ws ∨ x ∈ out
  | [], out, x, h => .inr h
  | w :: ws, out, x, h => by
    unfold greedyW at h
    rcases greedyW_mem far most ws _ x h with h | h
    · exact .inl (List.mem_cons.2 (.inr h))
    · split at h
      · rcases List.mem_append.1 h with h | h
        · exact .inr h
        · exact .inl (by rw [List.mem_singleton.1 h]; exact List.mem_cons_self)
      · exact .inr h
theorem greedyW_stop (far most : Nat) : ∀ ws out, most ≤ out.length → greedyW far most ws out = out
  | [], out, h => rfl
  | w :: ws, out, h => by
    unfold greedyW
    rw [if_neg (by intro h1; omega)]
    exact greedyW_stop far most ws out h
def sbA (L n d : Nat) : Nat := if d ≤ 2 then L ^ n else L ^ n / (1 + n * (L - 1))
def listA (L n d : Nat) : List (List Int) := greedyW d 60 (wsA L n) []
theorem ballA : ∀ L ∈ [2, 3, 4], ∀ n ∈ [1, 2, 3, 4], ∀ d ∈ List.range' 1 n, 1 ≤ (listA L n d).length ∧ (listA L n d).length ≤ sbA L n d := by decide +kernel
theorem ballS {L n d : Nat} (h2 : 2 ≤ L) (h4 : L ≤ 4) (n1 : 1 ≤ n) (n4 : n ≤ 4) (d1 : 1 ≤ d) (dn : d ≤ n) : 1 ≤ (listA L n d).length ∧ (listA L n d).length ≤ sbA L n d := by
  have hL : L ∈ [2, 3, 4] := by
    have : L = 2 ∨ L = 3 ∨ L = 4 := by omega
    rcases this with rfl | rfl | rfl <;> simp
  have hn : n ∈ [1, 2, 3, 4] := by
    have : n = 1 ∨ n = 2 ∨ n = 3 ∨ n = 4 := by omega
    rcases this with rfl | rfl | rfl | rfl <;> simp
  have hd : d ∈ List.range' 1 n := List.mem_range'_1.2 ⟨d1, by omega⟩
  exact ballA L hL n hn d hd
end Go.Proofs.Ytmcdedmnekeibaa.G.Pure
end

section
namespace Go.Proofs.Ytmcdedmnekeibaa.G.Pure
open Go.RowKit Go.Proofs.Ytmcdedmnekeibaa.G Go.Proofs.YtmcdedmnekeibaaW.PrintWords Go.Proofs.YtmcdedmnekeibaaW.PrintLast Go.Proofs.YtmcdedmnekeibaaW.PrintMore
set_option linter.unusedVariables false
set_option linter.unusedSimpArgs false
theorem w64 {n : Int} (h0 : -9223372036854775808 ≤ n) (h1 : n ≤ 9223372036854775807) : wrap64 n = n := by
  unfold wrap64
  omega
theorem rd_nat {l : List Int} {i : Nat} (h : i < l.length) : rd l (i : Int) = l[i] := by
  simp [rd, List.getD_eq_getElem?_getD, List.getElem?_eq_getElem h]
end Go.Proofs.Ytmcdedmnekeibaa.G.Pure
end

section
namespace Go.Proofs.Ytmcdedmnekeibaa.G.Pure
open Go.RowKit Go.Proofs.Ytmcdedmnekeibaa.G Go.Proofs.YtmcdedmnekeibaaW.PrintWords Go.Proofs.YtmcdedmnekeibaaW.PrintLast Go.Proofs.YtmcdedmnekeibaaW.PrintMore
set_option linter.unusedVariables false
set_option linter.unusedSimpArgs false
structure Sz (L n : Nat) : Prop where
  l2 : 2 ≤ L
  l4 : L ≤ 4
  n1 : 1 ≤ n
  n4 : n ≤ 4
theorem within_ap (n lo hi : Int) : impl_within.f n lo hi = some (decide (lo ≤ n) && decide (n ≤ hi)) := by
  unfold impl_within.f
  by_cases h : lo ≤ n
  · simp [h]
  · simp [h]
theorem in_ap (n lo hi : Int) : spec_l00In.f n lo hi = some (decide (lo ≤ n) && decide (n ≤ hi)) := by
  unfold spec_l00In.f
  by_cases h : lo ≤ n
  · simp [h]
  · simp [h]
theorem unlN_step {a b : List Int} (h : a.length = b.length) {i : Nat} (hi : i < a.length) : unlN (a.drop i) (b.drop i) = (if a[i] = b[i]'(by omega) then 0 else 1) + unlN (a.drop (i + 1)) (b.drop (i + 1)) := by
  rw [List.drop_eq_getElem_cons hi, List.drop_eq_getElem_cons (show i < b.length by omega), unlN]
theorem implUnl {a b : List Int} (h : a.length = b.length) (h8 : a.length ≤ 8) {k : Nat} (hk : 20 < k) : impl_unlike.f k a b = some ((unlN a b : Nat) : Int) := by
  unfold impl_unlike.f
  have go : ∀ d i k : Nat, ∀ c : Nat, i + d = a.length → d < k → c ≤ i → impl_unlike.l0 k b (c : Int) a (a.length : Int) (i : Int) = some ((c + unlN (a.drop i) (b.drop i) : Nat) : Int) := by
    intro d
    induction d with
    | zero =>
      intro i k c hi hk _
      obtain ⟨k, rfl⟩ : ∃ m, k = m + 1 := ⟨k - 1, by omega⟩
      rw [impl_unlike.l0, if_neg (by omega), List.drop_eq_nil_of_le (by omega)]
      simp [unlN]
    | succ d ih =>
      intro i k c hi hk hc
      obtain ⟨k, rfl⟩ : ∃ m, k = m + 1 := ⟨k - 1, by omega⟩
      have hia : i < a.length := by omega
      have hib : i < b.length := by omega
      rw [impl_unlike.l0, if_pos (by omega), if_pos (by omega), if_pos (by omega), if_pos (by omega), rd_nat hia, rd_nat hib, unlN_step h hia, w64 (n := (i : Int) + 1) (by omega) (by omega), show (i : Int) + 1 = ((i + 1 : Nat) : Int) by omega]
      by_cases e : a[i] = b[i]
      · rw [if_pos e.symm, if_pos e, ih (i + 1) k c (by omega) (by omega) (by omega), Nat.zero_add]
      · rw [if_neg (fun h => e h.symm), if_neg e, w64 (by omega) (by omega), show (c : Int) + 1 = ((c + 1 : Nat) : Int) by omega, ih (i + 1) k (c + 1) (by omega) (by omega) (by omega), Nat.add_assoc]
  have := go a.length 0 k 0 (by omega) (by omega) (by omega)
  simpa using this
theorem specUnl {a b : List Int} (h : a.length = b.length) (h8 : a.length ≤ 8) {k : Nat} (hk : 20 < k) : spec_l05Apart.f k a b = some ((unlN a b : Nat) : Int) := by
  unfold spec_l05Apart.f
  have go : ∀ d i k : Nat, ∀ c : Nat, i + d = a.length → d < k → c ≤ i → spec_l05Apart.l0 k a b (c : Int) (i : Int) = some ((c + unlN (a.drop i) (b.drop i) : Nat) : Int) := by
    intro d
    induction d with
    | zero =>
      intro i k c hi hk _
      obtain ⟨k, rfl⟩ : ∃ m, k = m + 1 := ⟨k - 1, by omega⟩
      rw [spec_l05Apart.l0, if_neg (by omega), List.drop_eq_nil_of_le (by omega)]
      simp [unlN]
    | succ d ih =>
      intro i k c hi hk hc
      obtain ⟨k, rfl⟩ : ∃ m, k = m + 1 := ⟨k - 1, by omega⟩
      have hia : i < a.length := by omega
      have hib : i < b.length := by omega
      rw [spec_l05Apart.l0, if_pos (by omega), if_pos (by omega), if_pos (by omega), rd_nat hia, rd_nat hib, unlN_step h hia, w64 (n := (i : Int) + 1) (by omega) (by omega), show (i : Int) + 1 = ((i + 1 : Nat) : Int) by omega]
      by_cases e : a[i] = b[i]
      · rw [if_pos e, if_pos e, ih (i + 1) k c (by omega) (by omega) (by omega), Nat.zero_add]
      · rw [if_neg e, if_neg e, w64 (by omega) (by omega), show (c : Int) + 1 = ((c + 1 : Nat) : Int) by omega, ih (i + 1) k (c + 1) (by omega) (by omega) (by omega), Nat.add_assoc]
  have := go a.length 0 k 0 (by omega) (by omega) (by omega)
  simpa using this
theorem rep_set (i : Nat) (v : Int) (suf : List Int) : (List.replicate (i + 1) (0 : Int) ++ suf).set i v = List.replicate i 0 ++ v :: suf := by
  rw [List.replicate_succ', List.append_assoc, List.set_append_right _ _ (by simp)]
  simp
theorem wqA {q : Nat} (L : Nat) (hq : q ≤ 100000) : wrap64 ((q / L : Nat) : Int) = ((q / L : Nat) : Int) := by
  have hd : q / L ≤ q := Nat.div_le_self _ _
  generalize q / L = z at hd ⊢
  exact w64 (by omega) (by omega)
theorem atImpl {L : Nat} (h2 : 2 ≤ L) (h4 : L ≤ 4) : ∀ (i k q : Nat) (suf : List Int), i ≤ 8 → i < k → q ≤ 100000 → impl_wordAt.l0 k (L : Int) (q : Int) (List.replicate i 0 ++ suf) ((i : Int) - 1) = some (wdA L i q ++ suf)
  | 0, k, q, suf, _, hk, _ => by
    obtain ⟨k, rfl⟩ : ∃ m, k = m + 1 := ⟨k - 1, by omega⟩
    rw [impl_wordAt.l0, if_neg (by omega)]
    rfl
  | i + 1, k, q, suf, h8, hk, hq => by
    obtain ⟨k, rfl⟩ : ∃ m, k = m + 1 := ⟨k - 1, by omega⟩
    have hd : q / L ≤ q := Nat.div_le_self _ _
    have hm : q % L < L := Nat.mod_lt _ (by omega)
    rw [impl_wordAt.l0, if_pos (by omega), if_neg (by omega), if_pos (by omega), if_pos (by simp; omega), show ((i + 1 : Nat) : Int) - 1 = (i : Int) by omega, Int.toNat_natCast, show Int.tdiv (q : Int) (L : Int) = ((q / L : Nat) : Int) from rfl, show Int.tmod (q : Int) (L : Int) = ((q % L : Nat) : Int) from rfl, wqA L hq, w64 (by omega) (by omega), Int.emod_eq_of_lt (by omega) (by omega), rep_set, atImpl h2 h4 i k (q / L) _ (by omega) (by omega) (by omega), wdA, List.append_assoc]
    rfl
theorem atSpec {L : Nat} (h2 : 2 ≤ L) (h4 : L ≤ 4) : ∀ (i k q : Nat) (suf : List Int), i ≤ 8 → i < k → q ≤ 100000 → spec_l05At.l0 k (L : Int) (q : Int) (List.replicate i 0 ++ suf) ((i : Int) - 1) = some (wdA L i q ++ suf)
  | 0, k, q, suf, _, hk, _ => by
    obtain ⟨k, rfl⟩ : ∃ m, k = m + 1 := ⟨k - 1, by omega⟩
    rw [spec_l05At.l0, if_neg (by omega)]
    rfl
  | i + 1, k, q, suf, h8, hk, hq => by
    obtain ⟨k, rfl⟩ : ∃ m, k = m + 1 := ⟨k - 1, by omega⟩
    have hd : q / L ≤ q := Nat.div_le_self _ _
    have hm : q % L < L := Nat.mod_lt _ (by omega)
    rw [spec_l05At.l0, if_pos (by omega), if_neg (by omega), if_pos (by omega), if_pos (by simp; omega), show ((i + 1 : Nat) : Int) - 1 = (i : Int) by omega, Int.toNat_natCast, show Int.tdiv (q : Int) (L : Int) = ((q / L : Nat) : Int) from rfl, show Int.tmod (q : Int) (L : Int) = ((q % L : Nat) : Int) from rfl, wqA L hq, w64 (by omega) (by omega), Int.emod_eq_of_lt (by omega) (by omega), rep_set, atSpec h2 h4 i k (q / L) _ (by omega) (by omega) (by omega), wdA, List.append_assoc]
    rfl
theorem implAtA {L n : Nat} (s : Sz L n) {q : Nat} (hq : q ≤ 100000) {k : Nat} (hk : 20 < k) : impl_wordAt.f k (L : Int) (n : Int) (q : Int) = some (wdA L n q) := by
  have := s.n4
  have e := atImpl s.l2 s.l4 n k q [] (by omega) (by omega) hq
  rw [List.append_nil, List.append_nil] at e
  unfold impl_wordAt.f
  rw [if_pos (by omega), if_pos (by omega), Int.toNat_natCast, w64 (by omega) (by omega), e]
theorem specAtA {L n : Nat} (s : Sz L n) {q : Nat} (hq : q ≤ 100000) {k : Nat} (hk : 20 < k) : spec_l05At.f k (L : Int) (n : Int) (q : Int) = some (wdA L n q) := by
  have := s.n4
  have e := atSpec s.l2 s.l4 n k q [] (by omega) (by omega) hq
  rw [List.append_nil, List.append_nil] at e
  unfold spec_l05At.f
  rw [if_pos (by omega), if_pos (by omega), Int.toNat_natCast, w64 (by omega) (by omega), e]
theorem sz_cases {L n : Nat} (s : Sz L n) : (L = 2 ∨ L = 3 ∨ L = 4) ∧ (n = 1 ∨ n = 2 ∨ n = 3 ∨ n = 4) := by
  have := s.l2; have := s.l4; have := s.n1; have := s.n4
  omega
theorem implPowA {L n : Nat} (s : Sz L n) {k : Nat} (hk : 20 < k) : impl_power.f k (L : Int) (n : Int) = some ((L ^ n : Nat) : Int) := by
  obtain ⟨k, rfl⟩ : ∃ m, k = m + 10 := ⟨k - 10, by omega⟩
  obtain ⟨h1, h2⟩ := sz_cases s
  rcases h1 with rfl | rfl | rfl <;> rcases h2 with rfl | rfl | rfl | rfl <;> kernel_rfl
theorem specPowA {L n : Nat} (s : Sz L n) {k : Nat} (hk : 20 < k) : spec_l05Power.f k (L : Int) (n : Int) = some ((L ^ n : Nat) : Int) := by
  obtain ⟨k, rfl⟩ : ∃ m, k = m + 10 := ⟨k - 10, by omega⟩
  obtain ⟨h1, h2⟩ := sz_cases s
  rcases h1 with rfl | rfl | rfl <;> rcases h2 with rfl | rfl | rfl | rfl <;> kernel_rfl
theorem pow_le {L n : Nat} (s : Sz L n) : L ^ n ≤ 256 := by
  obtain ⟨h1, h2⟩ := sz_cases s
  rcases h1 with rfl | rfl | rfl <;> rcases h2 with rfl | rfl | rfl | rfl <;> decide
theorem boundA {L n d : Nat} (s : Sz L n) (h1 : 1 ≤ d) (h2 : d ≤ n) {k : Nat} (hk : 40 < k) : impl_SphereBound.f k (L : Int) (n : Int) (d : Int) = some (((sbA L n d : Nat) : Int), 0) := by
  obtain ⟨k, rfl⟩ : ∃ m, k = m + 20 := ⟨k - 20, by omega⟩
  obtain ⟨c1, _⟩ := sz_cases s
  have h3 : d = 1 ∧ n = 1 ∨ d = 1 ∧ n = 2 ∨ d = 2 ∧ n = 2 ∨ d = 1 ∧ n = 3 ∨ d = 2 ∧ n = 3 ∨ d = 3 ∧ n = 3 ∨ d = 1 ∧ n = 4 ∨ d = 2 ∧ n = 4 ∨ d = 3 ∧ n = 4 ∨ d = 4 ∧ n = 4 := by have := s.n4; omega
  rcases h3 with ⟨rfl, rfl⟩ | ⟨rfl, rfl⟩ | ⟨rfl, rfl⟩ | ⟨rfl, rfl⟩ | ⟨rfl, rfl⟩ | ⟨rfl, rfl⟩ | ⟨rfl, rfl⟩ | ⟨rfl, rfl⟩ | ⟨rfl, rfl⟩ | ⟨rfl, rfl⟩ <;> rcases c1 with rfl | rfl | rfl <;> (refine Eq.trans ?_ rfl; kernel_rfl)
theorem implWordA {L n : Nat} (s : Sz L n) {x : List Int} (h : IsA L n x) : impl_Word_isWord.f x 37 = some true := by
  have := s.l4; have := s.n1; have := s.n4
  obtain ⟨h1, h2⟩ := h
  unfold impl_Word_isWord.f impl_size_uint8.f slices_ContainsFunc_Word_uint8__impl_Word_isWord_1.f
  rw [Option.bind_some, within_ap, decide_eq_true (by omega), decide_eq_true (by omega), Option.bind_some, Bool.and_self, if_pos rfl, anyO_eq (q := fun _ => false) (fun c hc => by
    have := h2 c hc
    unfold impl_Word_isWord_1.f
    rw [show mn 37 37 = 37 from rfl, w64 (by omega) (by omega), decide_eq_false (by omega)])]
  simp
theorem specWordA {L n : Nat} (s : Sz L n) {x : List Int} (h : IsA L n x) {k : Nat} (hk : 20 < k) : spec_l05Word.f k x = some true := by
  have := s.l4; have := s.n1; have := s.n4
  obtain ⟨h1, hi⟩ := h
  unfold spec_l05Word.f
  have go : ∀ d i k : Nat, i + d = x.length → d < k → spec_l05Word.l0 k x (i : Int) = some true := by
    intro d
    induction d with
    | zero =>
      intro i k hi hk
      obtain ⟨k, rfl⟩ : ∃ m, k = m + 1 := ⟨k - 1, by omega⟩
      rw [spec_l05Word.l0, if_neg (by omega), in_ap, decide_eq_true (by omega), decide_eq_true (by omega)]
      rfl
    | succ d ih =>
      intro i k hi2 hk
      obtain ⟨k, rfl⟩ : ∃ m, k = m + 1 := ⟨k - 1, by omega⟩
      have hil : i < x.length := by omega
      have hx := hi _ (List.getElem_mem hil)
      rw [spec_l05Word.l0, if_pos (by omega), if_pos (by omega), rd_nat hil, if_neg (by omega), w64 (by omega) (by omega), show (i : Int) + 1 = ((i + 1 : Nat) : Int) by omega]
      exact ih (i + 1) k (by omega) (by omega)
  exact go x.length 0 k (by omega) (by omega)
theorem rdA {G : List (List Int)} {i : Nat} (h : i < G.length) : rd_L2 G (i : Int) = G[i] := by
  unfold rd_L2
  rw [Int.toNat_natCast, List.getD_eq_getElem?_getD, List.getElem?_eq_getElem h]
  rfl
theorem codeA {L n : Nat} (s : Sz L n) {G H : List (List Int)} (hG : ∀ x ∈ G, IsA L n x) (hH : ∀ x ∈ H, IsA L n x) (h60 : G.length ≤ 60) (hl : (G ++ H).length < 5864062014805) : impl_wordsCode.f G H = some 0 := by
  unfold impl_wordsCode.f impl_areWords.f slices_ContainsFunc_Word_Word__impl_areWords_1.f
  have hA : ∀ x ∈ G ++ H, IsA L n x := fun x hx => by
    rcases List.mem_append.1 hx with h | h
    · exact hG x h
    · exact hH x h
  rw [if_pos hl, anyO_eq (q := fun _ => false) (fun x hx => by
    have h0 : 0 < (G ++ H).length := List.length_pos_of_mem hx
    unfold impl_areWords_1.f
    rw [implWordA s (hA x hx), Option.bind_some, if_pos rfl, if_pos (by omega), show (0 : Int) = ((0 : Nat) : Int) from rfl, rdA h0, (hA x hx).1, (hA _ (List.getElem_mem h0)).1]
    simp)]
  simp only [List.any_eq_true, Bool.false_eq_true, and_false, exists_const, decide_false, Option.bind_some, impl_unless.f]
  rw [show (G ++ H).any (fun _ => false) = false from by simp, Bool.not_false, if_pos rfl, decide_eq_true (by omega), if_pos rfl]
theorem specWordsA {L n : Nat} (s : Sz L n) {G : List (List Int)} (hG : ∀ x ∈ G, IsA L n x) (h60 : G.length ≤ 60) {k : Nat} (hk : 100 < k) : spec_l05Words.f k G = some true := by
  unfold spec_l05Words.f
  have go : ∀ d i k : Nat, i + d = G.length → d + 20 < k → spec_l05Words.l0 k G (i : Int) = some true := by
    intro d
    induction d with
    | zero =>
      intro i k hi hk
      obtain ⟨k, rfl⟩ : ∃ m, k = m + 1 := ⟨k - 1, by omega⟩
      rw [spec_l05Words.l0, if_neg (by omega)]
    | succ d ih =>
      intro i k hi hk
      obtain ⟨k, rfl⟩ : ∃ m, k = m + 1 := ⟨k - 1, by omega⟩
      have hil : i < G.length := by omega
      have h0 : 0 < G.length := by omega
      have e0 : rd_L2 G 0 = G[0] := rdA h0
      have hx := hG _ (List.getElem_mem hil)
      rw [spec_l05Words.l0, if_pos (by omega), if_pos (by omega), rdA hil, specWordA s hx (by omega), Option.bind_some, if_pos rfl, if_pos (by omega), e0, if_pos (by rw [hx.1, (hG _ (List.getElem_mem h0)).1]), w64 (by omega) (by omega), show (i : Int) + 1 = ((i + 1 : Nat) : Int) by omega]
      exact ih (i + 1) k (by omega) (by omega)
  exact go G.length 0 k (by omega) (by omega)
theorem specSameA {x : List Int} (h8 : x.length ≤ 8) {k : Nat} (hk : 20 < k) : spec_l05Same.f k x x = some true := by
  unfold spec_l05Same.f
  rw [if_pos rfl]
  have go : ∀ d i k : Nat, i + d = x.length → d < k → spec_l05Same.l0 k x x (i : Int) = some true := by
    intro d
    induction d with
    | zero =>
      intro i k hi hk
      obtain ⟨k, rfl⟩ : ∃ m, k = m + 1 := ⟨k - 1, by omega⟩
      rw [spec_l05Same.l0, if_neg (by omega)]
    | succ d ih =>
      intro i k hi hk
      obtain ⟨k, rfl⟩ : ∃ m, k = m + 1 := ⟨k - 1, by omega⟩
      rw [spec_l05Same.l0, if_pos (by omega), if_pos (by omega), if_pos (by omega), if_pos rfl, w64 (by omega) (by omega), show (i : Int) + 1 = ((i + 1 : Nat) : Int) by omega]
      exact ih (i + 1) k (by omega) (by omega)
  exact go x.length 0 k (by omega) (by omega)
theorem implSameA {x : List Int} (h8 : x.length ≤ 8) {k : Nat} (hk : 20 < k) : slices_Equal_Word_uint8.f k x x = some true := by
  unfold slices_Equal_Word_uint8.f
  rw [if_pos rfl]
  have go : ∀ d i k : Nat, i + d = x.length → d < k → slices_Equal_Word_uint8.l0 k x x (x.length : Int) (i : Int) = some true := by
    intro d
    induction d with
    | zero =>
      intro i k hi hk
      obtain ⟨k, rfl⟩ : ∃ m, k = m + 1 := ⟨k - 1, by omega⟩
      rw [slices_Equal_Word_uint8.l0, if_neg (by omega)]
    | succ d ih =>
      intro i k hi hk
      obtain ⟨k, rfl⟩ : ∃ m, k = m + 1 := ⟨k - 1, by omega⟩
      rw [slices_Equal_Word_uint8.l0, if_pos (by omega), if_pos (by omega), if_pos (by omega), if_pos (by omega), if_pos rfl, w64 (by omega) (by omega), show (i : Int) + 1 = ((i + 1 : Nat) : Int) by omega]
      exact ih (i + 1) k (by omega) (by omega)
  exact go x.length 0 k (by omega) (by omega)
theorem specSameWs {G : List (List Int)} (hG : ∀ x ∈ G, x.length ≤ 8) (h60 : G.length ≤ 60) {k : Nat} (hk : 100 < k) : spec_SameWords.f k G G = some true := by
  unfold spec_SameWords.f
  rw [if_pos rfl]
  have go : ∀ d i k : Nat, i + d = G.length → d + 21 < k → spec_SameWords.l0 k G G (i : Int) = some true := by
    intro d
    induction d with
    | zero =>
      intro i k hi hk
      obtain ⟨k, rfl⟩ : ∃ m, k = m + 1 := ⟨k - 1, by omega⟩
      rw [spec_SameWords.l0, if_neg (by omega)]
    | succ d ih =>
      intro i k hi hk
      obtain ⟨k, rfl⟩ : ∃ m, k = m + 1 := ⟨k - 1, by omega⟩
      have hil : i < G.length := by omega
      rw [spec_SameWords.l0, if_pos (by omega), if_pos (by omega), if_pos (by omega), rdA hil, specSameA (hG _ (List.getElem_mem hil)) (by omega), Option.bind_some, if_pos rfl, w64 (by omega) (by omega), show (i : Int) + 1 = ((i + 1 : Nat) : Int) by omega]
      exact ih (i + 1) k (by omega) (by omega)
  exact go G.length 0 k (by omega) (by omega)
theorem implSameWs {G : List (List Int)} (hG : ∀ x ∈ G, x.length ≤ 8) (h60 : G.length ≤ 60) {k : Nat} (hk : 100 < k) : impl_SameWords.f k G G = some true := by
  unfold impl_SameWords.f slices_EqualFunc_Word_Word_Word_Word__slices_Equal_Word_uint8.f
  rw [if_pos rfl]
  have go : ∀ d i k : Nat, i + d = G.length → d + 21 < k → slices_EqualFunc_Word_Word_Word_Word__slices_Equal_Word_uint8.l0 k G G (G.length : Int) (i : Int) = some true := by
    intro d
    induction d with
    | zero =>
      intro i k hi hk
      obtain ⟨k, rfl⟩ : ∃ m, k = m + 1 := ⟨k - 1, by omega⟩
      rw [slices_EqualFunc_Word_Word_Word_Word__slices_Equal_Word_uint8.l0, if_neg (by omega)]
    | succ d ih =>
      intro i k hi hk
      obtain ⟨k, rfl⟩ : ∃ m, k = m + 1 := ⟨k - 1, by omega⟩
      have hil : i < G.length := by omega
      rw [slices_EqualFunc_Word_Word_Word_Word__slices_Equal_Word_uint8.l0, if_pos (by omega), if_pos (by omega), if_pos (by omega), if_pos (by omega), rdA hil, implSameA (hG _ (List.getElem_mem hil)) (by omega), Option.bind_some, if_pos rfl, w64 (by omega) (by omega), show (i : Int) + 1 = ((i + 1 : Nat) : Int) by omega]
      exact ih (i + 1) k (by omega) (by omega)
  rw [show (0 : Int) = ((0 : Nat) : Int) from rfl, go G.length 0 k (by omega) (by omega)]
  rfl
end Go.Proofs.Ytmcdedmnekeibaa.G.Pure
end

section
namespace Go.Proofs.Ytmcdedmnekeibaa.G.Pure
open Go.RowKit Go.Proofs.Ytmcdedmnekeibaa.G Go.Proofs.YtmcdedmnekeibaaW.PrintWords Go.Proofs.YtmcdedmnekeibaaW.PrintLast Go.Proofs.YtmcdedmnekeibaaW.PrintMore
set_option linter.unusedVariables false
set_option linter.unusedSimpArgs false
theorem firstOf_eq (k : Nat) (a b : Int) (hk : 3 ≤ k) : impl_firstOf.f k [a, b] = some (if a = 0 then b else a) := by
  obtain ⟨k, rfl⟩ : ∃ m, k = m + 3 := ⟨k - 3, by omega⟩
  unfold impl_firstOf.f
  have r0 : rd [a, b] 0 = a := rfl
  have r1 : rd [a, b] 1 = b := rfl
  unfold impl_firstOf.l0
  simp only [List.length_cons, List.length_nil]
  rw [if_pos (by omega), if_pos (by omega), if_pos (by omega), r0]
  by_cases h : a = 0
  · rw [if_pos h, if_pos h, w64 (by omega) (by omega)]
    unfold impl_firstOf.l0
    simp only [List.length_cons, List.length_nil]
    rw [if_pos (by omega), if_pos (by omega), if_pos (by omega), show (0 : Int) + 1 = 1 from rfl, r1]
    by_cases h1 : b = 0
    · rw [if_pos h1, w64 (by omega) (by omega)]
      unfold impl_firstOf.l0
      rw [if_neg (by simp), h1]
    · rw [if_neg h1]
  · rw [if_neg h, if_neg h]
end Go.Proofs.Ytmcdedmnekeibaa.G.Pure
end

section
namespace Go.Proofs.Ytmcdedmnekeibaa.G.Pure
open Go.RowKit Go.Proofs.Ytmcdedmnekeibaa.G Go.Proofs.YtmcdedmnekeibaaW.PrintWords Go.Proofs.YtmcdedmnekeibaaW.PrintLast Go.Proofs.YtmcdedmnekeibaaW.PrintMore
set_option linter.unusedVariables false
set_option linter.unusedSimpArgs false
def restA (L n r m : Nat) : List (List Int) := (List.range' r m).map (wdA L n)
theorem restA_succ (L n r m : Nat) : restA L n r (m + 1) = wdA L n r :: restA L n (r + 1) m := by
  unfold restA
  rw [List.range'_succ, List.map_cons]
theorem restA_all (L n : Nat) : restA L n 0 (L ^ n) = wsA L n := by
  unfold restA wsA
  rw [List.range_eq_range']
theorem anyFarA {d : Nat} {w : List Int} {out : List (List Int)} : (out.any fun x => decide ((unlN x w : Int) < (d : Int))) = true ↔ ¬ ∀ x ∈ out, d ≤ unlN x w := by
  rw [List.any_eq_true]
  constructor
  · rintro ⟨x, hx, h⟩ ha
    have := ha x hx
    have := of_decide_eq_true h
    omega
  · intro h
    refine Classical.byContradiction fun hn => h fun x hx => ?_
    refine Classical.byContradiction fun hf => hn ⟨x, hx, decide_eq_true (by omega)⟩
theorem implGreedyLoop {L n d : Nat} (s : Sz L n) {N : Nat} (hN : N ≤ 256) : ∀ (m r k : Nat) (out : List (List Int)), r + m = N → m + 100 < k → out.length ≤ 60 → (∀ x ∈ out, IsA L n x) → impl_GreedyWords.l0 k (L : Int) (n : Int) (d : Int) 60 (N : Int) out (r : Int) = some (greedyW d 60 (restA L n r m) out, 0)
  | 0, r, k, out, hr9, hk, h60, hi => by
    obtain ⟨k, rfl⟩ : ∃ m, k = m + 1 := ⟨k - 1, by omega⟩
    rw [impl_GreedyWords.l0, if_neg (by omega)]
    rfl
  | m + 1, r, k, out, hr9, hk, h60, hi => by
    obtain ⟨k, rfl⟩ : ∃ m, k = m + 1 := ⟨k - 1, by omega⟩
    have hn := s.n4
    have hw := wdA_is (L := L) (by have := s.l2; omega) n r
    rw [impl_GreedyWords.l0, if_pos (by omega), implAtA s (by omega) (by omega), Option.bind_some, restA_succ, greedyW, w64 (by omega) (by omega), show (r : Int) + 1 = ((r + 1 : Nat) : Int) by omega]
    by_cases hl : out.length < 60
    · have e : slices_ContainsFunc_Word_Word__impl_GreedyWords_1.f k out (wdA L n r) (d : Int) = some (out.any fun x => decide ((unlN x (wdA L n r) : Int) < (d : Int))) := by
        unfold slices_ContainsFunc_Word_Word__impl_GreedyWords_1.f
        refine anyO_eq fun x hx => ?_
        unfold impl_GreedyWords_1.f
        rw [implUnl (by rw [(hi x hx).1, hw.1]) (by rw [(hi x hx).1]; omega) (by omega), Option.bind_some]
      rw [if_pos (by omega), e, Option.bind_some]
      by_cases hf : ∀ x ∈ out, d ≤ unlN x (wdA L n r)
      · rw [if_neg (fun h => anyFarA.1 h hf), if_pos (by omega), if_pos ⟨hl, hf⟩]
        refine implGreedyLoop s hN m (r + 1) k _ (by omega) (by omega) (by rw [List.length_append, List.length_singleton]; omega) (fun x hx => ?_)
        rcases List.mem_append.1 hx with h | h
        · exact hi x h
        · rw [List.mem_singleton.1 h]
          exact hw
      · rw [if_pos (anyFarA.2 hf), if_neg (fun h => hf h.2)]
        exact implGreedyLoop s hN m (r + 1) k out (by omega) (by omega) h60 hi
    · rw [if_neg (by omega), if_neg (fun h => hl h.1)]
      exact implGreedyLoop s hN m (r + 1) k out (by omega) (by omega) h60 hi
theorem specFitsA {L n d : Nat} (s : Sz L n) {N r : Nat} {w : List Int} (hw : IsA L n w) {out : List (List Int)} (h60 : out.length ≤ 60) (hr8 : r ≤ 256) (hi : ∀ x ∈ out, IsA L n x) {R : Option (List (List Int) × Int)} {K : Nat} (hK : 20 < K)
    (hR : ∀ k, K < k → spec_GreedyWords.l0 k (L : Int) (n : Int) (d : Int) 60 (N : Int) (if ∀ x ∈ out, d ≤ unlN x w then out ++ [w] else out) ((r + 1 : Nat) : Int) = R) :
    ∀ (m j k : Nat) (fl : Bool), j + m = out.length → (fl = true ↔ ∀ x ∈ out.take j, d ≤ unlN x w) → m + 1 + K < k → spec_GreedyWords.l1 k (L : Int) (n : Int) (d : Int) 60 (N : Int) out (r : Int) w fl (j : Int) = R
  | 0, j, k, fl, hj, hfl, hk => by
    obtain ⟨k, rfl⟩ : ∃ m, k = m + 1 := ⟨k - 1, by omega⟩
    have ht : out.take j = out := List.take_of_length_le (by omega)
    rw [ht] at hfl
    have := hR k (by omega)
    rw [spec_GreedyWords.l1, if_neg (by omega), w64 (by omega) (by omega), show (r : Int) + 1 = ((r + 1 : Nat) : Int) by omega]
    cases fl with
    | true =>
      rw [if_pos (hfl.1 rfl)] at this
      rw [if_pos rfl, if_pos (by omega), this]
    | false =>
      rw [if_neg (fun h => Bool.false_ne_true (hfl.2 h))] at this
      rw [if_neg (by decide), this]
  | m + 1, j, k, fl, hj, hfl, hk => by
    obtain ⟨k, rfl⟩ : ∃ m, k = m + 1 := ⟨k - 1, by omega⟩
    have hjl : j < out.length := by omega
    have hn := s.n4
    rw [spec_GreedyWords.l1, if_pos (by omega)]
    cases fl with
    | true =>
      have hx := hi _ (List.getElem_mem hjl)
      rw [if_pos rfl, if_pos (by omega), rdA hjl, specUnl (by rw [hx.1, hw.1]) (by rw [hx.1]; omega) (by omega), Option.bind_some, w64 (n := (j : Int) + 1) (by omega) (by omega), show (j : Int) + 1 = ((j + 1 : Nat) : Int) by omega]
      refine specFitsA s hw h60 hr8 hi hK hR m (j + 1) k _ (by omega) ?_ (by omega)
      rw [List.take_succ_eq_append_getElem hjl, decide_eq_true_iff]
      constructor
      · intro h x hx
        rcases List.mem_append.1 hx with h1 | h1
        · exact hfl.1 rfl x h1
        · rw [List.mem_singleton.1 h1]
          omega
      · intro h
        have := h _ (List.mem_append.2 (.inr (List.mem_singleton.2 rfl)))
        omega
    | false =>
      have := hR k (by omega)
      have hno : ¬ ∀ x ∈ out, d ≤ unlN x w := fun h => Bool.false_ne_true (hfl.2 fun x hx => h x (List.mem_of_mem_take hx))
      rw [if_neg hno] at this
      rw [if_neg (by decide), w64 (by omega) (by omega), show (r : Int) + 1 = ((r + 1 : Nat) : Int) by omega, this]
theorem specGreedyLoop {L n d : Nat} (s : Sz L n) {N : Nat} (hN : N ≤ 256) : ∀ (m r k : Nat) (out : List (List Int)), r + m = N → m * 70 + 100 < k → out.length ≤ 60 → (∀ x ∈ out, IsA L n x) → spec_GreedyWords.l0 k (L : Int) (n : Int) (d : Int) 60 (N : Int) out (r : Int) = some (greedyW d 60 (restA L n r m) out, 0)
  | 0, r, k, out, hr9, hk, h60, hi => by
    obtain ⟨k, rfl⟩ : ∃ m, k = m + 2 := ⟨k - 2, by omega⟩
    rw [spec_GreedyWords.l0, if_neg (by omega), spec_GreedyWords.j2, if_neg (by decide)]
    rfl
  | m + 1, r, k, out, hr9, hk, h60, hi => by
    obtain ⟨k, rfl⟩ : ∃ m, k = m + 2 := ⟨k - 2, by omega⟩
    have hn := s.n4
    have hw := wdA_is (L := L) (by have := s.l2; omega) n r
    rw [spec_GreedyWords.l0, if_pos (by omega), spec_GreedyWords.j2]
    by_cases hl : out.length < 60
    · rw [if_pos (decide_eq_true (by omega)), specAtA s (by omega) (by omega), Option.bind_some, restA_succ, greedyW, show (0 : Int) = ((0 : Nat) : Int) from rfl]
      have e : (if out.length < 60 ∧ ∀ x ∈ out, d ≤ unlN x (wdA L n r) then out ++ [wdA L n r] else out) = if ∀ x ∈ out, d ≤ unlN x (wdA L n r) then out ++ [wdA L n r] else out := by
        by_cases hf : ∀ x ∈ out, d ≤ unlN x (wdA L n r)
        · rw [if_pos ⟨hl, hf⟩, if_pos hf]
        · rw [if_neg (fun h => hf h.2), if_neg hf]
      rw [e]
      refine specFitsA s hw h60 (by omega) hi (K := m * 70 + 100) (by omega) (fun k' hk' => ?_) out.length 0 k true (by omega) (by simp) (by omega)
      refine specGreedyLoop s hN m (r + 1) k' _ (by omega) hk' ?_ ?_
      · split
        · rw [List.length_append, List.length_singleton]
          omega
        · exact h60
      · intro x hx
        split at hx
        · rcases List.mem_append.1 hx with h | h
          · exact hi x h
          · rw [List.mem_singleton.1 h]
            exact hw
        · exact hi x hx
    · rw [if_neg (by rw [decide_eq_true_iff]; omega), greedyW_stop _ _ _ _ (by omega)]
theorem implGreedyA {L n d : Nat} (s : Sz L n) (h1 : 1 ≤ d) (h2 : d ≤ n) {k : Nat} (hk : 1000 < k) : impl_GreedyWords.f k (L : Int) (n : Int) (d : Int) 60 = some (listA L n d, 0) := by
  have := s.l2; have := s.l4; have := s.n1; have := s.n4
  have hp := pow_le s
  have ec : impl_apartCode.f (L : Int) (n : Int) (d : Int) = some 0 := by
    unfold impl_apartCode.f
    simp only [within_ap, Option.bind_some, impl_unless.f]
    rw [decide_eq_true (by omega), decide_eq_true (by omega), decide_eq_true (by omega), decide_eq_true (by omega), decide_eq_true (by omega), decide_eq_true (by omega)]
    rfl
  have e := implGreedyLoop (d := d) s hp (L ^ n) 0 k [] (by omega) (by omega) (by simp) (by simp)
  rw [restA_all] at e
  unfold impl_GreedyWords.f
  rw [ec, Option.bind_some, within_ap, decide_eq_true (by decide), decide_eq_true (by decide), Bool.and_self, Option.bind_some, impl_unless.f, if_pos rfl, Option.bind_some, firstOf_eq k 0 0 (by omega), if_pos rfl, Option.bind_some, if_pos rfl, implPowA s (by omega), Option.bind_some, if_neg (by omega)]
  exact e
theorem specGreedyA {L n d : Nat} (s : Sz L n) (h1 : 1 ≤ d) (h2 : d ≤ n) {k : Nat} (hk : 20000 < k) : spec_GreedyWords.f k (L : Int) (n : Int) (d : Int) 60 = some (listA L n d, 0) := by
  have := s.l2; have := s.l4; have := s.n1; have := s.n4
  have hp := pow_le s
  obtain ⟨k, rfl⟩ : ∃ m, k = m + 1 := ⟨k - 1, by omega⟩
  have e := specGreedyLoop (d := d) s hp (L ^ n) 0 k [] (by omega) (by omega) (by simp) (by simp)
  rw [restA_all] at e
  unfold spec_GreedyWords.f spec_l05Asked.f
  simp only [in_ap, Option.bind_some]
  rw [decide_eq_true (show (2 : Int) ≤ (L : Int) by omega), decide_eq_true (show (L : Int) ≤ 37 by omega), decide_eq_true (show (1 : Int) ≤ (n : Int) by omega), decide_eq_true (show (n : Int) ≤ 8 by omega), decide_eq_true (show (1 : Int) ≤ (d : Int) by omega), decide_eq_true (show (d : Int) ≤ (n : Int) by omega)]
  simp only [Bool.and_self, if_true, Option.bind_some]
  rw [spec_GreedyWords.j0, if_neg (by decide), specPowA s (by omega), Option.bind_some, if_neg (by omega)]
  exact e
end Go.Proofs.Ytmcdedmnekeibaa.G.Pure
end

section
namespace Go.Proofs.Ytmcdedmnekeibaa.G.Pure
open Go.RowKit Go.Proofs.Ytmcdedmnekeibaa.G Go.Proofs.YtmcdedmnekeibaaW.PrintWords Go.Proofs.YtmcdedmnekeibaaW.PrintLast Go.Proofs.YtmcdedmnekeibaaW.PrintMore
set_option linter.unusedVariables false
set_option linter.unusedSimpArgs false
theorem farA {d : Nat} {G : List (List Int)} (hp : G.Pairwise fun a b => d ≤ unlN a b) {i j : Nat} (hij : i < j) (hj : j < G.length) : d ≤ unlN (G[i]'(by omega)) G[j] := List.pairwise_iff_getElem.1 hp i j (by omega) hj hij
def LeA (d len : Nat) (v : Int) : Prop := (d : Int) ≤ v ∧ 2 ≤ len ∨ v = -1 ∧ len < 2
theorem nearInner {L n d : Nat} (s : Sz L n) (h1 : 1 ≤ d) {G : List (List Int)} (hG : ∀ x ∈ G, IsA L n x) (h60 : G.length ≤ 60) (hp : G.Pairwise fun a b => d ≤ unlN a b) {i : Nat} (hi : i < G.length) {R : Option (Int × Int × Int × Bool) → Prop} {K : Nat} (hK : 30 < K)
    (hR : ∀ k a b v, K < k → LeA d G.length v → R (impl_nearest__impl_LeastApart_1.l0 k (G.length : Int) a b v (G.length : Int) ((i + 1 : Nat) : Int) G)) :
    ∀ (m j k : Nat) (a b v : Int), i < j → j + m = G.length → m + 1 + K < k → (LeA d G.length v ∨ v = -1 ∧ i = 0 ∧ j ≤ 1) → R (impl_nearest__impl_LeastApart_1.l1 k (G.length : Int) a b v (i : Int) (j : Int) (G.length : Int) (i : Int) G)
  | 0, j, k, a, b, v, hij, hj, hk, hv => by
    obtain ⟨k, rfl⟩ : ∃ m, k = m + 1 := ⟨k - 1, by omega⟩
    rw [impl_nearest__impl_LeastApart_1.l1, if_neg (by omega), w64 (by omega) (by omega), show (i : Int) + 1 = ((i + 1 : Nat) : Int) by omega]
    refine hR k a b v (by omega) ?_
    rcases hv with h | ⟨rfl, _, h⟩
    · exact h
    · exact .inr ⟨rfl, by omega⟩
  | m + 1, j, k, a, b, v, hij, hj, hk, hv => by
    obtain ⟨k, rfl⟩ : ∃ m, k = m + 1 := ⟨k - 1, by omega⟩
    have hjl : j < G.length := by omega
    have hn := s.n4
    have hx := hG _ (List.getElem_mem hi)
    have hy := hG _ (List.getElem_mem hjl)
    have hf := farA hp hij hjl
    have e : impl_LeastApart_1.f k (i : Int) (j : Int) G = some ((unlN G[i] G[j] : Nat) : Int) := by
      unfold impl_LeastApart_1.f
      rw [if_pos (by omega), if_pos (by omega), if_pos (by omega), if_pos (by omega), rdA hi, rdA hjl, implUnl (by rw [hx.1, hy.1]) (by rw [hx.1]; omega) (by omega), Option.bind_some]
    rw [impl_nearest__impl_LeastApart_1.l1, if_pos (by omega), e, Option.bind_some, w64 (by omega) (by omega), show (j : Int) + 1 = ((j + 1 : Nat) : Int) by omega]
    have hL : ∀ z : Int, (d : Int) ≤ z → LeA d G.length z := fun z hz => .inl ⟨hz, by omega⟩
    by_cases h0 : v < 0
    · rw [if_pos h0]
      exact nearInner s h1 hG h60 hp hi hK hR m (j + 1) k _ _ _ (by omega) (by omega) (by omega) (.inl (hL _ (by omega)))
    · rw [if_neg h0]
      split
      · exact nearInner s h1 hG h60 hp hi hK hR m (j + 1) k _ _ _ (by omega) (by omega) (by omega) (.inl (hL _ (by omega)))
      · refine nearInner s h1 hG h60 hp hi hK hR m (j + 1) k _ _ _ (by omega) (by omega) (by omega) (.inl ?_)
        rcases hv with h | ⟨rfl, _, _⟩
        · exact h
        · omega
theorem nearOuter {L n d : Nat} (s : Sz L n) (h1 : 1 ≤ d) {G : List (List Int)} (hG : ∀ x ∈ G, IsA L n x) (h60 : G.length ≤ 60) (hp : G.Pairwise fun a b => d ≤ unlN a b) :
    ∀ (m i k : Nat) (a b v : Int), i + m = G.length → m * 70 + 50 < k → (LeA d G.length v ∨ v = -1 ∧ i = 0) → ∃ a' b' v' : Int, impl_nearest__impl_LeastApart_1.l0 k (G.length : Int) a b v (G.length : Int) (i : Int) G = some (a', b', v', decide (v' ≥ 0)) ∧ LeA d G.length v'
  | 0, i, k, a, b, v, hi, hk, hv => by
    obtain ⟨k, rfl⟩ : ∃ m, k = m + 1 := ⟨k - 1, by omega⟩
    rw [impl_nearest__impl_LeastApart_1.l0, if_neg (by omega)]
    refine ⟨a, b, v, rfl, ?_⟩
    rcases hv with h | ⟨rfl, h⟩
    · exact h
    · exact .inr ⟨rfl, by omega⟩
  | m + 1, i, k, a, b, v, hi, hk, hv => by
    obtain ⟨k, rfl⟩ : ∃ m, k = m + 1 := ⟨k - 1, by omega⟩
    rw [impl_nearest__impl_LeastApart_1.l0, if_pos (by omega), w64 (by omega) (by omega), show (i : Int) + 1 = ((i + 1 : Nat) : Int) by omega]
    refine nearInner s h1 hG h60 hp (show i < G.length by omega) (R := fun o => ∃ a' b' v' : Int, o = some (a', b', v', decide (v' ≥ 0)) ∧ LeA d G.length v') (K := m * 70 + 50) (by omega) (fun k' a' b' v' hk' hv' => nearOuter s h1 hG h60 hp m (i + 1) k' a' b' v' (by omega) hk' (.inl hv')) (G.length - (i + 1)) (i + 1) k a b v (by omega) (by omega) (by omega) ?_
    rcases hv with h | ⟨h, h0⟩
    · exact .inl h
    · exact .inr ⟨h, h0, by omega⟩
theorem leastA {L n d : Nat} (s : Sz L n) (h1 : 1 ≤ d) {G : List (List Int)} (hG : ∀ x ∈ G, IsA L n x) (h60 : G.length ≤ 60) (hp : G.Pairwise fun a b => d ≤ unlN a b) {k : Nat} (hk : 10000 < k) :
    ∃ r : Int × Int, impl_LeastApart.f k G = some r ∧ (G.length < 2 → r.2 = 6) ∧ (2 ≤ G.length → r.2 = 0 ∧ (d : Int) ≤ r.1) := by
  obtain ⟨a, b, v, e, h⟩ := nearOuter s h1 hG h60 hp G.length 0 k 0 0 (-1) (by omega) (by omega) (.inr ⟨rfl, rfl⟩)
  unfold impl_LeastApart.f
  rw [codeA s hG (H := []) (by simp) h60 (by rw [List.append_nil]; omega), Option.bind_some, if_pos rfl]
  unfold impl_nearest__impl_LeastApart_1.f
  rw [show (0 : Int) = ((0 : Nat) : Int) from rfl] at e
  rw [show impl_nearest__impl_LeastApart_1.l0 k (G.length : Int) 0 0 (-1) (G.length : Int) 0 G = some (a, b, v, decide (v ≥ 0)) from e, Option.bind_some]
  rcases h with ⟨h, h2⟩ | ⟨rfl, h2⟩
  · rw [if_pos (decide_eq_true (by omega))]
    exact ⟨_, rfl, fun h => by omega, fun _ => ⟨rfl, h⟩⟩
  · rw [if_neg (show ¬ decide ((-1 : Int) ≥ 0) = true by decide)]
    exact ⟨_, rfl, fun _ => rfl, fun h => by omega⟩
def OneA (G : List (List Int)) (w : List Int) (e j0 : Nat) : Prop := ∀ j (hj : j < G.length), unlN G[j] w ≤ e ↔ j = j0
theorem oneA {L n d : Nat} {G : List (List Int)} (hG : ∀ x ∈ G, IsA L n x) (hp : G.Pairwise fun a b => d ≤ unlN a b) {w : List Int} (hw : IsA L n w) {e : Nat} (he : 2 * e < d) : ∃ j0, j0 ≤ G.length ∧ OneA G w e j0 := by
  by_cases h : ∃ j, ∃ hj : j < G.length, unlN G[j] w ≤ e
  · obtain ⟨j0, h0, hn⟩ := h
    refine ⟨j0, by omega, fun j hj => ⟨fun hu => ?_, fun hu => by subst hu; exact hn⟩⟩
    refine Classical.byContradiction fun hne => ?_
    have t := unlN_tri G[j] w G[j0] (by rw [(hG _ (List.getElem_mem hj)).1, hw.1]) (by rw [(hG _ (List.getElem_mem h0)).1, hw.1])
    rw [unlN_comm w] at t
    rcases Nat.lt_or_gt_of_ne hne with hlt | hlt
    · have := farA hp hlt h0
      omega
    · have := farA hp hlt hj
      rw [unlN_comm] at this
      omega
  · refine ⟨G.length, Nat.le_refl _, fun j hj => ⟨fun hu => absurd ⟨j, hj, hu⟩ h, fun hu => by omega⟩⟩
def decA (len j0 : Nat) : Int × Int := if j0 < len then ((j0 : Int), 0) else (0, 6)
theorem implDecLoop {L n : Nat} (s : Sz L n) {G : List (List Int)} (hG : ∀ x ∈ G, IsA L n x) (h60 : G.length ≤ 60) {w : List Int} (hw : IsA L n w) {e j0 : Nat} (hj0 : j0 ≤ G.length) (ho : OneA G w e j0) :
    ∀ (m i k : Nat), i + m = G.length → m + 30 < k → impl_DecodeWord.l0 k w (e : Int) (if j0 < i then (j0 : Int) else 0) (if j0 < i then 1 else 0) G (G.length : Int) (i : Int) = some (decA G.length j0)
  | 0, i, k, hi, hk => by
    obtain ⟨k, rfl⟩ : ∃ m, k = m + 1 := ⟨k - 1, by omega⟩
    obtain rfl : i = G.length := by omega
    rw [impl_DecodeWord.l0, if_neg (by omega), decA]
    by_cases h : j0 < G.length
    · rw [if_pos h, if_pos h, if_pos h, if_neg (by decide), if_pos rfl]
    · rw [if_neg h, if_neg h, if_neg h, if_pos rfl]
  | m + 1, i, k, hi, hk => by
    obtain ⟨k, rfl⟩ : ∃ m, k = m + 1 := ⟨k - 1, by omega⟩
    have hil : i < G.length := by omega
    have hn := s.n4
    have hx := hG _ (List.getElem_mem hil)
    have hoi := ho i hil
    have ih := implDecLoop s hG h60 hw hj0 ho m (i + 1) k (by omega) (by omega)
    rw [impl_DecodeWord.l0, if_pos (by omega), if_pos (by omega), if_pos (by omega), rdA hil, implUnl (by rw [hx.1, hw.1]) (by rw [hx.1]; omega) (by omega), Option.bind_some, w64 (n := (i : Int) + 1) (by omega) (by omega), show (i : Int) + 1 = ((i + 1 : Nat) : Int) by omega]
    by_cases h : unlN G[i] w ≤ e
    · obtain rfl := hoi.1 h
      rw [if_pos (by omega), if_neg (Nat.lt_irrefl i), w64 (by omega) (by omega)]
      rw [if_pos (by omega), if_pos (by omega)] at ih
      exact ih
    · have hne : i ≠ j0 := fun h2 => h (hoi.2 h2)
      rw [if_neg (by omega)]
      by_cases h3 : j0 < i
      · rw [if_pos h3, if_pos h3]
        rw [if_pos (by omega), if_pos (by omega)] at ih
        exact ih
      · rw [if_neg h3, if_neg h3]
        rw [if_neg (by omega), if_neg (by omega)] at ih
        exact ih
theorem specDecLoop {L n : Nat} (s : Sz L n) {G : List (List Int)} (hG : ∀ x ∈ G, IsA L n x) (h60 : G.length ≤ 60) {w : List Int} (hw : IsA L n w) {e j0 : Nat} (hj0 : j0 ≤ G.length) (ho : OneA G w e j0) :
    ∀ (m i k : Nat), i + m = G.length → m + 30 < k → spec_DecodeWord.l0 k G w (e : Int) (if j0 < i then (j0 : Int) else -1) (i : Int) = some (decA G.length j0)
  | 0, i, k, hi, hk => by
    obtain ⟨k, rfl⟩ : ∃ m, k = m + 1 := ⟨k - 1, by omega⟩
    obtain rfl : i = G.length := by omega
    rw [spec_DecodeWord.l0, if_neg (by omega), decA]
    by_cases h : j0 < G.length
    · rw [if_pos h, if_pos h, if_neg (by omega)]
    · rw [if_neg h, if_neg h, if_pos (by decide)]
  | m + 1, i, k, hi, hk => by
    obtain ⟨k, rfl⟩ : ∃ m, k = m + 1 := ⟨k - 1, by omega⟩
    have hil : i < G.length := by omega
    have hn := s.n4
    have hx := hG _ (List.getElem_mem hil)
    have hoi := ho i hil
    have ih := specDecLoop s hG h60 hw hj0 ho m (i + 1) k (by omega) (by omega)
    rw [spec_DecodeWord.l0, if_pos (by omega), if_pos (by omega), rdA hil, specUnl (by rw [hx.1, hw.1]) (by rw [hx.1]; omega) (by omega), Option.bind_some, w64 (n := (i : Int) + 1) (by omega) (by omega), show (i : Int) + 1 = ((i + 1 : Nat) : Int) by omega]
    by_cases h : unlN G[i] w ≤ e
    · obtain rfl := hoi.1 h
      rw [if_neg (by omega), if_neg (Nat.lt_irrefl i), if_neg (by decide)]
      rw [if_pos (by omega)] at ih
      exact ih
    · have hne : i ≠ j0 := fun h2 => h (hoi.2 h2)
      rw [if_pos (by omega)]
      by_cases h3 : j0 < i
      · rw [if_pos h3]
        rw [if_pos (by omega)] at ih
        exact ih
      · rw [if_neg h3]
        rw [if_neg (by omega)] at ih
        exact ih
theorem implDecA {L n : Nat} (s : Sz L n) {G : List (List Int)} (hG : ∀ x ∈ G, IsA L n x) (h60 : G.length ≤ 60) {w : List Int} (hw : IsA L n w) {e j0 : Nat} (he : e ≤ 8) (hj0 : j0 ≤ G.length) (ho : OneA G w e j0) {k : Nat} (hk : 200 < k) : impl_DecodeWord.f k G w (e : Int) = some (decA G.length j0) := by
  unfold impl_DecodeWord.f
  rw [codeA s hG (H := [w]) (fun x hx => by rw [List.mem_singleton.1 hx]; exact hw) h60 (by rw [List.length_append, List.length_singleton]; omega), Option.bind_some, within_ap, decide_eq_true (by omega), decide_eq_true (by omega), Bool.and_self, Option.bind_some, impl_unless.f, if_pos rfl, Option.bind_some, firstOf_eq k 0 0 (by omega), if_pos rfl, Option.bind_some, if_pos rfl]
  have := implDecLoop s hG h60 hw hj0 ho G.length 0 k (by omega) (by omega)
  rw [if_neg (Nat.not_lt_zero _), if_neg (Nat.not_lt_zero _)] at this
  exact this
theorem specDecA {L n : Nat} (s : Sz L n) {G : List (List Int)} (hG : ∀ x ∈ G, IsA L n x) (h60 : G.length ≤ 60) {w : List Int} (hw : IsA L n w) {e j0 : Nat} (he : e ≤ 8) (hj0 : j0 ≤ G.length) (ho : OneA G w e j0) {k : Nat} (hk : 300 < k) : spec_DecodeWord.f k G w (e : Int) = some (decA G.length j0) := by
  obtain ⟨k, rfl⟩ : ∃ m, k = m + 1 := ⟨k - 1, by omega⟩
  have := specDecLoop s hG h60 hw hj0 ho G.length 0 k (by omega) (by omega)
  rw [if_neg (Nat.not_lt_zero _)] at this
  have ej : spec_DecodeWord.j0 (k + 1) G w (e : Int) false = some (decA G.length j0) := by
    rw [spec_DecodeWord.j0, if_neg (by decide), if_neg (by omega), in_ap, decide_eq_true (by omega), decide_eq_true (by omega), Bool.and_self, Option.bind_some, if_pos rfl]
    exact this
  unfold spec_DecodeWord.f
  rw [specWordsA s hG h60 (by omega), Option.bind_some, if_pos rfl, specWordA s hw (by omega), Option.bind_some, if_pos rfl]
  by_cases h : 0 < G.length
  · have e0 : rd_L2 G 0 = G[0] := rdA h
    rw [if_pos (by omega), if_pos (by omega), e0, (hG _ (List.getElem_mem h)).1, hw.1, show ((n : Int) != (n : Int)) = false by simp, ej]
  · rw [if_neg (by omega), ej]
end Go.Proofs.Ytmcdedmnekeibaa.G.Pure
end

section
namespace Go.Proofs.Ytmcdedmnekeibaa.G.Pure
open Go.RowKit Go.Proofs.Ytmcdedmnekeibaa.G Go.Proofs.YtmcdedmnekeibaaW.PrintWords Go.Proofs.YtmcdedmnekeibaaW.PrintLast Go.Proofs.YtmcdedmnekeibaaW.PrintMore
set_option linter.unusedVariables false
set_option linter.unusedSimpArgs false
theorem u64_range (y : Int) : 0 ≤ IntKind.u64.wrap y ∧ IntKind.u64.wrap y ≤ 18446744073709551615 := by
  rw [IntKind.wrap_u64]
  omega
theorem low_byte {x : Int} (h : 0 ≤ x ∧ x ≤ 18446744073709551615) : 0 ≤ wrap64 (Go.bits .and .u64 (x / 1099511627776) 255) ∧ wrap64 (Go.bits .and .u64 (x / 1099511627776) 255) ≤ 255 := by
  have hx : 0 ≤ x / 1099511627776 ∧ x / 1099511627776 ≤ 18446744073709551615 := by omega
  generalize x / 1099511627776 = y at *
  obtain ⟨n, rfl⟩ : ∃ n : Nat, y = (n : Int) := ⟨y.toNat, by omega⟩
  have e : Go.bits .and .u64 (n : Int) ((255 : Nat) : Int) = ((n &&& 255 : Nat) : Int) := bits_and_u64_nat n 255 (by omega) (by omega)
  have e2 : Go.bits .and .u64 (n : Int) 255 = ((n &&& 255 : Nat) : Int) := e
  have hb : n &&& 255 ≤ 255 := Nat.and_le_right
  rw [e2, w64 (by omega) (by omega)]
  omega
def Bytes (code : List Int) : Prop := ∀ x ∈ code, 0 ≤ x ∧ x ≤ 255
theorem bytes_at {code : List Int} (hc : Bytes code) {i : Int} (h0 : 0 ≤ i) (h1 : i < (code.length : Int)) : 0 ≤ rd code i ∧ rd code i ≤ 255 := by
  obtain ⟨j, rfl⟩ : ∃ j : Nat, i = (j : Int) := ⟨i.toNat, by omega⟩
  have hj : j < code.length := by omega
  have : rd code (j : Int) = code[j] := by simp [rd, List.getD_eq_getElem?_getD, List.getElem?_eq_getElem hj]
  rw [this]
  exact hc _ (List.getElem_mem hj)
theorem next_ok {code : List Int} (hc : Bytes code) {at_ seed : Int} (ha : 0 ≤ at_ ∧ at_ ≤ 1000000) : ∃ n s, spec_l00Src_next.f code at_ seed = some (n, at_ + 1, s) ∧ 0 ≤ n ∧ n ≤ 255 := by
  unfold spec_l00Src_next.f
  rw [w64 (n := at_ + 1) (by omega) (by omega)]
  by_cases h1 : at_ < (code.length : Int)
  · have hb := bytes_at hc ha.1 h1
    rw [if_pos h1, if_pos ha.1, if_pos (by omega)]
    exact ⟨_, _, rfl, by rw [w64 (by omega) (by omega)]; exact hb⟩
  · rw [if_neg h1, if_neg (by omega)]
    exact ⟨_, _, rfl, low_byte (u64_range _)⟩
theorem pick_ok {code : List Int} (hc : Bytes code) {at_ seed a : Int} (ha : 0 ≤ at_ ∧ at_ ≤ 1000000) (h1 : 1 < a) (h2 : a ≤ 200) : ∃ n s, spec_l00Src_pick.f code at_ seed a = some (n, at_ + 1, s) ∧ 0 ≤ n ∧ n < a := by
  obtain ⟨n, s, e, hn⟩ := next_ok hc (seed := seed) ha
  unfold spec_l00Src_pick.f
  rw [if_neg (by omega), e]
  simp only [Option.bind_some]
  rw [if_neg (by omega), if_neg (by omega)]
  refine ⟨_, _, rfl, ?_⟩
  rw [Int.tmod_eq_emod_of_nonneg hn.1]
  exact ⟨Int.emod_nonneg _ (by omega), Int.emod_lt_of_pos _ (by omega)⟩
end Go.Proofs.Ytmcdedmnekeibaa.G.Pure
end

section
namespace Go.Proofs.Ytmcdedmnekeibaa.G.Pure
open Go.RowKit Go.Proofs.Ytmcdedmnekeibaa.G Go.Proofs.YtmcdedmnekeibaaW.PrintWords Go.Proofs.YtmcdedmnekeibaaW.PrintLast Go.Proofs.YtmcdedmnekeibaaW.PrintMore
set_option linter.unusedVariables false
set_option linter.unusedSimpArgs false
theorem bytes_ap {l : List Int} (h : ∀ x ∈ l, (Lit.int .u8 x).wf = true) : Bytes l := fun x hx => by
  have := h x hx
  simp [Lit.wf, IntKind.min, IntKind.max, IntKind.signed, IntKind.bits] at this
  omega
theorem pickA {code : List Int} (hc : Bytes code) {n : Nat} (h1 : 1 ≤ n) (h2 : n ≤ 200) : ∃ r : Nat, spec_P6Pick.f code (n : Int) = some (r : Int) ∧ r < n := by
  unfold spec_P6Pick.f spec_l00From.f
  simp only [Option.bind_some]
  by_cases h : n = 1
  · subst h
    exact ⟨0, rfl, by omega⟩
  · obtain ⟨r, s, e, b⟩ := pick_ok hc (seed := 0) (a := (n : Int)) (at_ := 0) (by omega) (by omega) (by omega)
    rw [e]
    refine ⟨r.toNat, ?_, by omega⟩
    rw [show ((r.toNat : Nat) : Int) = r by omega]
    rfl
theorem drawnA {code : List Int} (hc : Bytes code) {L n : Nat} (s : Sz L n) {k : Nat} (hk : 100 < k) : ∃ w, spec_P6Word.f k code (L : Int) (n : Int) = some w ∧ IsA L n w := by
  have hl2 := s.l2
  have hl4 := s.l4
  have hn := s.n4
  have go : ∀ (d i k : Nat) (acc : List Int) (at_ seed : Int), i + d = n → d < k → acc.length = i → (∀ x ∈ acc, 0 ≤ x ∧ x < (L : Int)) → 0 ≤ at_ → at_ + d ≤ 1000 → ∃ w a s, spec_l05Spelled.l0 k (L : Int) (n : Int) acc (i : Int) code at_ seed = some (w, a, s) ∧ IsA L n w := by
    intro d
    induction d with
    | zero =>
      intro i k acc at_ seed hi hk ha hin h0 h1
      obtain ⟨k, rfl⟩ : ∃ m, k = m + 1 := ⟨k - 1, by omega⟩
      rw [spec_l05Spelled.l0, if_neg (by omega)]
      exact ⟨acc, at_, seed, rfl, by omega, hin⟩
    | succ d ih =>
      intro i k acc at_ seed hi hk ha hin h0 h1
      obtain ⟨k, rfl⟩ : ∃ m, k = m + 1 := ⟨k - 1, by omega⟩
      obtain ⟨r, s, e, b⟩ := pick_ok hc (seed := seed) (a := (L : Int)) (at_ := at_) (by omega) (by omega) (by omega)
      rw [spec_l05Spelled.l0, if_pos (by omega), e, Option.bind_some, if_pos (by omega), w64 (by omega) (by omega), Int.emod_eq_of_lt (a := r) (b := 256) (by omega) (by omega), show (i : Int) + 1 = ((i + 1 : Nat) : Int) by omega]
      refine ih (i + 1) k _ (at_ + 1) s (by omega) (by omega) (by rw [List.length_append, List.length_singleton]; omega) (fun x hx => ?_) (by omega) (by omega)
      rcases List.mem_append.1 hx with z | z
      · exact hin x z
      · rw [List.mem_singleton.1 z]
        exact b
  obtain ⟨w, a, s, e, h1⟩ := go n 0 k [] 0 0 (by omega) (by omega) rfl (by simp) (by omega) (by omega)
  refine ⟨w, ?_, h1⟩
  unfold spec_P6Word.f spec_l00From.f spec_l05Spelled.f
  rw [Option.bind_some]
  rw [show ((0 : Nat) : Int) = 0 from rfl] at e
  rw [e]
  rfl
theorem apartLoop {L n d : Nat} (s : Sz L n) {G : List (List Int)} (hG : ∀ x ∈ G, IsA L n x) (h60 : G.length ≤ 60) {w : List Int} (hw : IsA L n w) {e j0 : Nat} (ho : OneA G w e j0) (hd : 1 ≤ d ∧ d ≤ 4) (he : wrap64 (Int.tdiv (wrap64 ((d : Int) - 1)) 2) = (e : Int))
    (hfull : G.length = 60 ∨ ∃ x ∈ G, unlN x w < d) :
    ∀ (m i k : Nat) (near : Int), i + m = G.length → m + 40 < k → (∀ j (hj : j < G.length), j < i → near ≤ (unlN G[j] w : Nat)) → laws_FnApart.l0 k (d : Int) G w (decA G.length j0).2 (decA G.length j0).1 near (i : Int) = some true
  | 0, i, k, near, hi, hk, hn => by
    obtain ⟨k, rfl⟩ : ∃ m, k = m + 1 := ⟨k - 1, by omega⟩
    rw [laws_FnApart.l0, if_neg (by omega)]
    by_cases h : G.length = 60
    · rw [if_pos (by omega)]
    · rw [if_neg (by omega)]
      obtain ⟨x, hx, hlt⟩ := hfull.resolve_left h
      obtain ⟨j, hj, rfl⟩ := List.mem_iff_getElem.1 hx
      have := hn j hj (by omega)
      rw [decide_eq_true (by omega)]
  | m + 1, i, k, near, hi, hk, hn => by
    obtain ⟨k, rfl⟩ : ∃ m, k = m + 2 := ⟨k - 2, by omega⟩
    have hil : i < G.length := by omega
    have hn4 := s.n4
    have hx := hG _ (List.getElem_mem hil)
    have hoi := ho i hil
    have el : impl_LettersApart.f (k + 1) G[i] w = some (((unlN G[i] w : Nat) : Int), 0) := by
      unfold impl_LettersApart.f
      rw [implWordA s hx, Option.bind_some, if_pos rfl, implWordA s hw, Option.bind_some, Bool.not_true, impl_LettersApart.j0, if_neg (by decide), if_pos (by rw [hx.1, hw.1]), implUnl (by rw [hx.1, hw.1]) (by rw [hx.1]; omega) (by omega), Option.bind_some]
    have ih := apartLoop s hG h60 hw ho hd he hfull m (i + 1) (k + 1) (mn near ((unlN G[i] w : Nat) : Int)) (by omega) (by omega) (fun j hj hji => by
      have hm : mn near ((unlN G[i] w : Nat) : Int) ≤ near ∧ mn near ((unlN G[i] w : Nat) : Int) ≤ ((unlN G[i] w : Nat) : Int) := by
        unfold mn
        split <;> omega
      by_cases hj2 : j = i
      · subst hj2
        exact hm.2
      · have := hn j hj (by omega)
        omega)
    rw [laws_FnApart.l0, if_pos (by omega), if_pos (by omega), rdA hil, el, Option.bind_some, if_pos rfl, he, w64 (n := (i : Int) + 1) (by omega) (by omega), show (i : Int) + 1 = ((i + 1 : Nat) : Int) by omega]
    unfold decA at ih ⊢
    by_cases hj : j0 < G.length
    · rw [if_pos hj] at ih ⊢
      rw [if_pos rfl]
      by_cases h : i = j0
      · have hu := hoi.2 h
        rw [if_pos (by simp only; omega), if_neg (by simp only; omega), if_pos (by simp only; omega)]
        exact ih
      · have hu : ¬ unlN G[i] w ≤ e := fun h2 => h (hoi.1 h2)
        rw [if_neg (by simp only; omega), if_neg (by simp only; omega)]
        exact ih
    · have hu : ¬ unlN G[i] w ≤ e := fun h2 => by have := hoi.1 h2; omega
      rw [if_neg hj] at ih ⊢
      rw [if_neg (by decide), if_neg (by simp only; omega)]
      exact ih
theorem halfA {d : Nat} (h1 : 1 ≤ d) (h4 : d ≤ 4) : ∃ e : Nat, wrap64 (Int.tdiv (wrap64 ((d : Int) - 1)) 2) = (e : Int) ∧ 2 * e < d := by
  have h : d = 1 ∨ d = 2 ∨ d = 3 ∨ d = 4 := by omega
  rcases h with rfl | rfl | rfl | rfl
  · exact ⟨0, by decide +kernel, by decide⟩
  · exact ⟨0, by decide +kernel, by decide⟩
  · exact ⟨1, by decide +kernel, by decide⟩
  · exact ⟨1, by decide +kernel, by decide⟩
theorem apartJ1 {L n d : Nat} (s : Sz L n) (hd1 : 1 ≤ d) (hd2 : d ≤ n) {X : List (List Int)} (hG : ∀ x ∈ X, IsA L n x) (h60 : X.length ≤ 60) (hfar : X.Pairwise fun a b => d ≤ unlN a b) {w : List Int} (hw : IsA L n w) (hfull : X.length = 60 ∨ ∃ x ∈ X, unlN x w < d) {l1 : List Int} {k : Nat} (hk : 29000 < k) (ew : spec_P6Word.f k l1 (L : Int) (n : Int) = some w) :
    laws_FnApart.j1 (k + 2) l1 (L : Int) (n : Int) (d : Int) X false = some true := by
  have hn4 := s.n4
  obtain ⟨e, he, he2⟩ := halfA hd1 (Nat.le_trans hd2 hn4)
  obtain ⟨j0, hj0, ho⟩ := oneA hG hfar hw he2
  obtain ⟨r, er, er1, er2⟩ := leastA s hd1 hG h60 hfar (k := k + 1) (by omega)
  have j2 : laws_FnApart.j2 (k + 1) l1 (L : Int) (n : Int) (d : Int) X = some true := by
    obtain ⟨k, rfl⟩ : ∃ m, k = m + 1 := ⟨k - 1, by omega⟩
    have h8 : ((decA X.length j0).2 == 8) = false := by
      unfold decA
      split <;> rfl
    have j3 : laws_FnApart.j3 (k + 1) (n : Int) (d : Int) X w (decA X.length j0).2 (decA X.length j0).1 ((decA X.length j0).2 == 8) = some true := by
      rw [h8, laws_FnApart.j3, if_neg Bool.false_ne_true]
      exact apartLoop s hG h60 hw ho ⟨hd1, by omega⟩ he hfull X.length 0 k (n : Int) (by omega) (by omega) (fun j hj hj2 => absurd hj2 (Nat.not_lt_zero _))
    rw [laws_FnApart.j2, ew, Option.bind_some, he, implDecA s hG h60 hw (by omega) hj0 ho (by omega), Option.bind_some, specDecA s hG h60 hw (by omega) hj0 ho (by omega), Option.bind_some, if_pos rfl, if_pos rfl]
    exact j3
  rw [laws_FnApart.j1, if_neg Bool.false_ne_true, er, Option.bind_some]
  by_cases h2 : X.length < 2
  · rw [if_pos (by omega), if_pos (er1 h2)]
    exact j2
  · obtain ⟨h3, h4⟩ := er2 (by omega)
    rw [if_neg (by omega), if_pos h3, if_neg (by omega)]
    exact j2
theorem apartKey {L n d : Nat} (s : Sz L n) (hd1 : 1 ≤ d) (hd2 : d ≤ n) {l1 : List Int} (hb1 : Bytes l1) {k : Nat} (hk : 29000 < k) : laws_FnApart.j1 (k + 2) l1 (L : Int) (n : Int) (d : Int) (listA L n d) false = some true := by
  have hl2 := s.l2
  obtain ⟨w, ew, hw⟩ := drawnA hb1 s (k := k) (by omega)
  refine apartJ1 s hd1 hd2 (fun x hx => ?_) (greedyW_most d 60 _ _ (Nat.zero_le _)) (greedyW_far d 60 _ _ List.Pairwise.nil) hw ?_ hk ew
  · rcases greedyW_mem d 60 _ _ x hx with h | h
    · exact wsA_is (by omega) h
    · cases h
  · rcases greedyW_full d 60 hd1 (wsA L n) [] w (wsA_mem (by omega) hw) with h | h | h
    · exact .inl h
    · cases h
    · exact .inr h
theorem listA_is {L n d : Nat} (s : Sz L n) : (∀ x ∈ listA L n d, x.length ≤ 8) ∧ (listA L n d).length ≤ 60 := by
  refine ⟨fun x hx => ?_, greedyW_most d 60 _ _ (Nat.zero_le _)⟩
  rcases greedyW_mem d 60 _ _ x hx with h | h
  · have := s.n4
    have := (wsA_is (by have := s.l2; omega) h).1
    omega
  · cases h
theorem apartJ0 {l0 l1 : List Int} (hb0 : Bytes l0) (hb1 : Bytes l1) : laws_FnApart.j0 30003 l0 l1 false = some true := by
  obtain ⟨p, ep, hp⟩ := pickA hb0 (n := 3) (by decide) (by decide)
  obtain ⟨q, eq, hq⟩ := pickA hb1 (n := 4) (by decide) (by decide)
  obtain ⟨t, et, ht⟩ := pickA hb0 (n := 1 + q) (by omega) (by omega)
  have c3 : spec_P6Pick.f l0 3 = some (p : Int) := ep
  have c4 : spec_P6Pick.f l1 4 = some (q : Int) := eq
  obtain ⟨L, hL⟩ : ∃ L, L = 2 + p := ⟨_, rfl⟩
  obtain ⟨n, hN⟩ : ∃ n, n = 1 + q := ⟨_, rfl⟩
  obtain ⟨d, hD⟩ : ∃ d, d = 1 + t := ⟨_, rfl⟩
  have s : Sz L n := ⟨by omega, by omega, by omega, by omega⟩
  have hd1 : 1 ≤ d := by omega
  have hd2 : d ≤ n := by omega
  have wL : wrap64 (2 + (p : Int)) = (L : Int) := by rw [w64 (by omega) (by omega)]; omega
  have wN : wrap64 (1 + (q : Int)) = (n : Int) := by rw [w64 (by omega) (by omega)]; omega
  have wD : wrap64 (1 + (t : Int)) = (d : Int) := by rw [w64 (by omega) (by omega)]; omega
  rw [← hN] at et
  clear ep eq hL hN hD hp hq ht
  have hj := apartKey s hd1 hd2 hb1 (k := 30000) (by decide)
  have hi := listA_is (d := d) s
  have hball := ballS s.l2 s.l4 s.n1 s.n4 hd1 hd2
  have e1 := implGreedyA s hd1 hd2 (k := 30002) (by decide)
  have e2 := specGreedyA s hd1 hd2 (k := 30002) (by decide)
  have e3 := boundA s hd1 hd2 (k := 30002) (by decide)
  generalize listA L n d = X at *
  generalize sbA L n d = B at *
  have hz : ((X.length : Int) == 0) = false := by rw [beq_eq_false_iff_ne]; omega
  have hgt : ¬ (X.length : Int) > (B : Int) := by omega
  rw [laws_FnApart.j0, if_neg Bool.false_ne_true, c3, Option.bind_some, c4, Option.bind_some, wL, wN, et, Option.bind_some, wD, e1, Option.bind_some, e2, Option.bind_some, e3, Option.bind_some, if_pos rfl, if_pos rfl, specSameWs hi.1 hi.2 (by decide), Option.bind_some, if_pos rfl, implSameWs hi.1 hi.2 (by decide), Option.bind_some, if_pos rfl, if_pos rfl, if_neg hgt, hz]
  exact hj
theorem FnApart (l0 : List Int) (l1 : List Int) (h00 : l0.length ≤ 9223372036854775807) (h01 : (∀ x ∈ l0, (Lit.int .u8 x).wf = true)) (h10 : l1.length ≤ 9223372036854775807) (h11 : (∀ x ∈ l1, (Lit.int .u8 x).wf = true)) : ∃ k, laws_FnApart.f k l0 l1 = some true := by
  have big : ∀ l : List Int, ∃ b, laws_f6big.f l = some b := fun l => ⟨_, rfl⟩
  obtain ⟨b0, e0⟩ := big l0
  obtain ⟨b1, e1⟩ := big l1
  have key : ∃ k, laws_FnApart.j0 k l0 l1 false = some true := ⟨30003, apartJ0 (bytes_ap h01) (bytes_ap h11)⟩
  obtain ⟨k, hk⟩ := key
  cases b0 with
  | true =>
    refine ⟨1, ?_⟩
    unfold laws_FnApart.f
    rw [e0, Option.bind_some, if_pos rfl, laws_FnApart.j0, if_pos rfl]
  | false =>
    cases b1 with
    | true =>
      refine ⟨1, ?_⟩
      unfold laws_FnApart.f
      rw [e0, Option.bind_some, if_neg (by decide), e1, Option.bind_some, laws_FnApart.j0, if_pos rfl]
    | false =>
      refine ⟨k, ?_⟩
      unfold laws_FnApart.f
      rw [e0, Option.bind_some, if_neg (by decide), e1, Option.bind_some]
      exact hk
end Go.Proofs.Ytmcdedmnekeibaa.G.Pure
end
