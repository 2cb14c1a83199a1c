/- The law's functions, their contracts, and the plain lemmas: texts of this claim, laid together. -/
import Derived.Deep.Slices
import Derived.Deep.Fields
import Derived.ChangeSame
import Derived.OpenShut
import Derived.Test.YtgfknljhogfeaaaMFnExactCandidatesFor0
import Derived.Test.YtgfknljhogfeaaaMFnExactCandidatesFor1
import Derived.Test.YtgfknljhogfeaaaMFnExactCandidatesFor2
section
namespace Go.Proofs.Ytgfknljhogfeaaa.G
open Go.RowKit Go.Proofs.YtgfknljhogfeaaaW.PrintWords Go.Proofs.YtgfknljhogfeaaaW.PrintLast Go.Proofs.YtgfknljhogfeaaaW.PrintMore
attribute [local go_sem] max2_int min2_int max_two min_two max_three min_three max_four min_four
set_option linter.unusedVariables false
set_option linter.unusedSimpArgs false
open Go.ChangeShapes Go.WideShapes Go.Deep in
structure Opens {α : Type} (P : Program) (t : TypeId) (d : Kd α) (Wf : α → Prop) : Prop where
  sz : P.cellsOf t = d.sz
  op : ∀ {H : Type} {enc : TypeId × Value → H} {w : World} {base : Nat} {spare : Nat → Bool} {held : Bool} {fuel : Nat} {cs : List Value} {x : DataW H × List MemPlace}, DataW.trod enc P w base spare held fuel t cs = some x → ∃ a : α, d.K w a cs ∧ Wf a
theorem opens_int {P : Program} {t : TypeId} {k : IntKind} (ht : P.underlying t = some (.int k)) (hC : P.cellsOf t = 1) : Opens P t (Kd.int k) (fun n => (Lit.int k n).wf = true) where
  sz := hC
  op := fun h => by
    obtain ⟨n, rfl, _, hw⟩ := DataW.trod_int ht h
    exact ⟨n, rfl, hw⟩
theorem list_of {α : Type} {Q : Nat → α → Prop} : ∀ n, (∀ i, i < n → ∃ y, Q i y) → ∃ l : List α, l.length = n ∧ ∀ i y, l[i]? = some y → Q i y
  | 0, _ => ⟨[], rfl, fun i y h => by simp at h⟩
  | n + 1, h => by
    obtain ⟨l, hl, hq⟩ := list_of n (fun i hi => h i (by omega))
    obtain ⟨y, hy⟩ := h n (by omega)
    refine ⟨l ++ [y], by simp [hl], fun i z hz => ?_⟩
    rcases Nat.lt_or_ge i l.length with hi | hi
    · rw [List.getElem?_append_left hi] at hz
      exact hq i z hz
    · rw [List.getElem?_append_right hi] at hz
      have : i - l.length = 0 := by
        rcases Nat.eq_zero_or_pos (i - l.length) with h0 | h0
        · exact h0
        · rw [List.getElem?_eq_none (by simp; omega)] at hz
          cases hz
      rw [this] at hz
      have e : y = z := by simpa using hz
      subst e
      have : i = n := by omega
      subst this
      exact hy
theorem opens_slice {α : Type} {P : Program} {t e : TypeId} {d : Kd α} {Wf : α → Prop} (ht : P.underlying t = some (.slice e)) (hC : P.cellsOf t = 1) (he : Opens P e d Wf) : Opens P t (Kd.slice e d) (fun l => l.length ≤ 9223372036854775807 ∧ ∀ x ∈ l, Wf x) where
  sz := hC
  op := fun {H enc w base spare held fuel cs x} h => by
    rcases Go.Deep.open_slice ht h with ⟨rfl, _⟩ | ⟨a, len, cap, m, n, D, Pl, rfl, hb, hl, hm, hmm, _, hi⟩
    · exact ⟨[], ⟨none, 0, rfl, Nat.le_refl _, rfl, by simp, fun h => absurd h (by simp)⟩, by simp, by simp⟩
    · have hlen : len ≤ m := by rw [hmm]; split <;> omega
      obtain ⟨l, hll, hq⟩ := list_of (Q := fun i y => (∃ c, c.length = d.sz ∧ d.K w y c ∧ ∀ j u, c[j]? = some u → w.cell? (a.add (i * d.sz + j)) = some u) ∧ Wf y) len (fun i him => by
        obtain ⟨cs', hc, ht'⟩ := hi i (by omega)
        obtain ⟨y, hK, hW⟩ := he.op ht'
        obtain ⟨_, hcl, hat⟩ := World.cells?_some hc
        refine ⟨y, ⟨cs', d.K_len hK, hK, fun j u hu => ?_⟩, hW⟩
        have hj : j < cs'.length := (List.getElem?_eq_some_iff.1 hu).1
        have h1 := hat j (by rw [he.sz, ← d.K_len hK]; exact hj)
        rw [← he.sz, ← Go.Deep.add_add, h1, hu])
      refine ⟨l, ⟨some a, cap, by rw [hll], by rw [hll]; exact hl, rfl, by rw [hll]; have := hm; unfold maxLen at this; omega, fun _ => ⟨a, rfl, fun j p hj => (hq j p hj).1⟩⟩, by rw [hll]; have := hm; unfold maxLen at this; omega, fun y hy => ?_⟩
      obtain ⟨j, hj, rfl⟩ := List.mem_iff_getElem.1 hy
      exact (hq j _ (List.getElem?_eq_getElem hj)).2
def offs (P : Program) : List TypeId → Nat → Nat
  | [], _ => 0
  | _ :: _, 0 => 0
  | t :: ts, i + 1 => P.cellsOf t + offs P ts i
def OpensF {α : Type} (P : Program) (ts : List TypeId) (d : Kd α) (Wf : α → Prop) : Prop :=
  ∀ {H : Type} {enc : TypeId × Value → H} {w : World} {base : Nat} {spare : Nat → Bool} {held : Bool} {n : Nat} {cs : List Value}, cs.length = d.sz → (∀ i t, ts[i]? = some t → ∃ x, DataW.trod enc P w base spare held n t ((cs.drop (offs P ts i)).take (P.cellsOf t)) = some x) → ∃ a : α, d.K w a cs ∧ Wf a
theorem opensF_one {α : Type} {P : Program} {t : TypeId} {d : Kd α} {Wf : α → Prop} (h : Opens P t d Wf) : OpensF P [t] d Wf := fun {H enc w base spare held n cs} hl hf => by
  obtain ⟨x, hx⟩ := hf 0 t rfl
  simp only [offs, List.drop_zero] at hx
  rw [List.take_of_length_le (by rw [hl, h.sz]; exact Nat.le_refl _)] at hx
  exact h.op hx
theorem opensF_cons {α β : Type} {P : Program} {t : TypeId} {ts : List TypeId} {d : Kd α} {d' : Kd β} {Wf : α → Prop} {Wf' : β → Prop} (h : Opens P t d Wf) (h' : OpensF P ts d' Wf') : OpensF P (t :: ts) (Kd.pair d d') (fun x => Wf x.1 ∧ Wf' x.2) := fun {H enc w base spare held n cs} hl hf => by
  have hl' : cs.length = d.sz + d'.sz := hl
  obtain ⟨x, hx⟩ := hf 0 t rfl
  simp only [offs, List.drop_zero] at hx
  obtain ⟨a, hK, hW⟩ := h.op hx
  obtain ⟨b, hK', hW'⟩ := h' (enc := enc) (w := w) (base := base) (spare := spare) (held := held) (n := n) (cs := cs.drop d.sz) (by rw [List.length_drop, hl']; omega) (fun i t' ht' => by
    obtain ⟨y, hy⟩ := hf (i + 1) t' (by simpa using ht')
    refine ⟨y, ?_⟩
    rw [List.drop_drop]
    simpa only [offs, h.sz] using hy)
  refine ⟨(a, b), ⟨_, _, (List.take_append_drop d.sz cs).symm, ?_, hK'⟩, hW, hW'⟩
  rw [← h.sz]
  exact hK
theorem opens_struct {α β : Type} {P : Program} {t : TypeId} {fs : Array Field} {d : Kd α} {Wf : α → Prop} (f : β → α) (g : α → β) (hfg : ∀ a, f (g a) = a) (ht : P.underlying t = some (.struct fs)) (hC : P.cellsOf t = d.sz)
    (ho : ((List.range fs.size).all fun i => decide ((fs[i]?.map Field.offset) = some (offs P (fs.toList.map Field.type) i))) = true) (h : OpensF P (fs.toList.map Field.type) d Wf) : Opens P t (Kd.iso d f) (fun x => Wf (f x)) where
  sz := hC
  op := fun {H enc w base spare held fuel cs x} hx => by
    obtain ⟨xs, n, _, _, hlen, hxl, hf⟩ := DataW.trod_struct ht hx
    obtain ⟨a, hK, hW⟩ := h (enc := enc) (w := w) (base := base) (spare := spare) (held := held) (n := n) (cs := cs) (by rw [hlen, hC]) (fun i t' ht' => by
      have hi : i < fs.size := by
        have := (List.getElem?_eq_some_iff.1 ht').1
        simpa using this
      have e : fs[i]? = some fs[i] := Array.getElem?_eq_getElem hi
      have et : fs[i].type = t' := by
        rw [List.getElem?_map] at ht'
        have : fs.toList[i]? = some fs[i] := by simp [hi]
        rw [this] at ht'
        simpa using ht'
      have eo := of_decide_eq_true (List.all_eq_true.1 ho i (List.mem_range.2 hi))
      rw [e] at eo
      have eo' : fs[i].offset = offs P (fs.toList.map Field.type) i := by simpa using eo
      have h1 := hf i fs[i] e
      rw [et, eo'] at h1
      exact ⟨_, h1.trans (List.getElem?_eq_getElem (show i < xs.length by omega))⟩)
    exact ⟨g a, by show d.K w (f (g a)) cs; rw [hfg]; exact hK, by show Wf (f (g a)); rw [hfg]; exact hW⟩
theorem offs_rep {P : Program} {e : TypeId} : ∀ (n i : Nat), i ≤ n → offs P (List.replicate n e) i = i * P.cellsOf e
  | 0, i, h => by
    obtain rfl : i = 0 := by omega
    simp [offs]
  | n + 1, 0, _ => by simp [List.replicate_succ, offs]
  | n + 1, i + 1, h => by
    rw [List.replicate_succ]
    show P.cellsOf e + offs P (List.replicate n e) i = _
    rw [offs_rep n i (by omega), Nat.succ_mul, Nat.add_comm]
theorem opens_array {α β : Type} {P : Program} {t e : TypeId} {n : Nat} {d : Kd α} {Wf : α → Prop} (f : β → α) (g : α → β) (hfg : ∀ a, f (g a) = a) (ht : P.underlying t = some (.array n e)) (hC : P.cellsOf t = d.sz)
    (h : OpensF P (List.replicate n e) d Wf) : Opens P t (Kd.iso d f) (fun x => Wf (f x)) where
  sz := hC
  op := fun {H enc w base spare held fuel cs x} hx => by
    obtain ⟨xs, m, _, _, hlen, hxl, hf⟩ := DataW.trod_array ht hx
    obtain ⟨a, hK, hW⟩ := h (enc := enc) (w := w) (base := base) (spare := spare) (held := held) (n := m) (cs := cs) (by rw [hlen, hC]) (fun i t' ht' => by
      have hi : i < n := by
        have := (List.getElem?_eq_some_iff.1 ht').1
        simpa using this
      have et : e = t' := by
        rw [List.getElem?_replicate, if_pos hi] at ht'
        exact Option.some.inj ht'
      subst et
      have h1 := hf i hi
      rw [offs_rep n i (by omega)]
      exact ⟨_, h1.trans (List.getElem?_eq_getElem (show i < xs.length by omega))⟩)
    exact ⟨g a, by show d.K w (f (g a)) cs; rw [hfg]; exact hK, by show Wf (f (g a)); rw [hfg]; exact hW⟩
theorem op5 : Opens Try.prog 5 (Kd.int .u8) (fun x : Int => (Lit.int .u8 x).wf = true) := opens_int (k := .u8) Try.underlying5 (by kernel_rfl)
theorem op67 : Opens Try.prog 67 k67 (fun x : S67 => (Lit.int .u8 x.f0).wf = true ∧ (Lit.int .u8 x.f1).wf = true ∧ (Lit.int .u8 x.f2).wf = true ∧ (Lit.int .u8 x.f3).wf = true ∧ (Lit.int .u8 x.f4).wf = true ∧ (Lit.int .u8 x.f5).wf = true ∧ (Lit.int .u8 x.f6).wf = true ∧ (Lit.int .u8 x.f7).wf = true ∧ (Lit.int .u8 x.f8).wf = true ∧ (Lit.int .u8 x.f9).wf = true ∧ (Lit.int .u8 x.f10).wf = true ∧ (Lit.int .u8 x.f11).wf = true ∧ (Lit.int .u8 x.f12).wf = true ∧ (Lit.int .u8 x.f13).wf = true ∧ (Lit.int .u8 x.f14).wf = true ∧ (Lit.int .u8 x.f15).wf = true ∧ (Lit.int .u8 x.f16).wf = true ∧ (Lit.int .u8 x.f17).wf = true ∧ (Lit.int .u8 x.f18).wf = true ∧ (Lit.int .u8 x.f19).wf = true ∧ (Lit.int .u8 x.f20).wf = true ∧ (Lit.int .u8 x.f21).wf = true ∧ (Lit.int .u8 x.f22).wf = true ∧ (Lit.int .u8 x.f23).wf = true) := opens_array (fun x : S67 => (x.f0, x.f1, x.f2, x.f3, x.f4, x.f5, x.f6, x.f7, x.f8, x.f9, x.f10, x.f11, x.f12, x.f13, x.f14, x.f15, x.f16, x.f17, x.f18, x.f19, x.f20, x.f21, x.f22, x.f23)) (fun a => ⟨a.1, a.2.1, a.2.2.1, a.2.2.2.1, a.2.2.2.2.1, a.2.2.2.2.2.1, a.2.2.2.2.2.2.1, a.2.2.2.2.2.2.2.1, a.2.2.2.2.2.2.2.2.1, a.2.2.2.2.2.2.2.2.2.1, a.2.2.2.2.2.2.2.2.2.2.1, a.2.2.2.2.2.2.2.2.2.2.2.1, a.2.2.2.2.2.2.2.2.2.2.2.2.1, a.2.2.2.2.2.2.2.2.2.2.2.2.2.1, a.2.2.2.2.2.2.2.2.2.2.2.2.2.2.1, a.2.2.2.2.2.2.2.2.2.2.2.2.2.2.2.1, a.2.2.2.2.2.2.2.2.2.2.2.2.2.2.2.2.1, a.2.2.2.2.2.2.2.2.2.2.2.2.2.2.2.2.2.1, a.2.2.2.2.2.2.2.2.2.2.2.2.2.2.2.2.2.2.1, a.2.2.2.2.2.2.2.2.2.2.2.2.2.2.2.2.2.2.2.1, a.2.2.2.2.2.2.2.2.2.2.2.2.2.2.2.2.2.2.2.2.1, a.2.2.2.2.2.2.2.2.2.2.2.2.2.2.2.2.2.2.2.2.2.1, a.2.2.2.2.2.2.2.2.2.2.2.2.2.2.2.2.2.2.2.2.2.2.1, a.2.2.2.2.2.2.2.2.2.2.2.2.2.2.2.2.2.2.2.2.2.2.2⟩) (fun _ => rfl) Try.underlying67 (by kernel_rfl) (opensF_cons op5 (opensF_cons op5 (opensF_cons op5 (opensF_cons op5 (opensF_cons op5 (opensF_cons op5 (opensF_cons op5 (opensF_cons op5 (opensF_cons op5 (opensF_cons op5 (opensF_cons op5 (opensF_cons op5 (opensF_cons op5 (opensF_cons op5 (opensF_cons op5 (opensF_cons op5 (opensF_cons op5 (opensF_cons op5 (opensF_cons op5 (opensF_cons op5 (opensF_cons op5 (opensF_cons op5 (opensF_cons op5 (opensF_one op5))))))))))))))))))))))))
theorem op22 : Opens Try.prog 22 (Kd.slice 67 k67) (fun x : List (S67) => (x.length ≤ 9223372036854775807 ∧ ∀ x_ ∈ x, (Lit.int .u8 x_.f0).wf = true ∧ (Lit.int .u8 x_.f1).wf = true ∧ (Lit.int .u8 x_.f2).wf = true ∧ (Lit.int .u8 x_.f3).wf = true ∧ (Lit.int .u8 x_.f4).wf = true ∧ (Lit.int .u8 x_.f5).wf = true ∧ (Lit.int .u8 x_.f6).wf = true ∧ (Lit.int .u8 x_.f7).wf = true ∧ (Lit.int .u8 x_.f8).wf = true ∧ (Lit.int .u8 x_.f9).wf = true ∧ (Lit.int .u8 x_.f10).wf = true ∧ (Lit.int .u8 x_.f11).wf = true ∧ (Lit.int .u8 x_.f12).wf = true ∧ (Lit.int .u8 x_.f13).wf = true ∧ (Lit.int .u8 x_.f14).wf = true ∧ (Lit.int .u8 x_.f15).wf = true ∧ (Lit.int .u8 x_.f16).wf = true ∧ (Lit.int .u8 x_.f17).wf = true ∧ (Lit.int .u8 x_.f18).wf = true ∧ (Lit.int .u8 x_.f19).wf = true ∧ (Lit.int .u8 x_.f20).wf = true ∧ (Lit.int .u8 x_.f21).wf = true ∧ (Lit.int .u8 x_.f22).wf = true ∧ (Lit.int .u8 x_.f23).wf = true)) := opens_slice Try.underlying22 (by kernel_rfl) op67
theorem op55 : Opens Try.prog 55 (Kd.slice 5 (Kd.int .u8)) (fun x : List Int => (x.length ≤ 9223372036854775807 ∧ ∀ x_ ∈ x, (Lit.int .u8 x_).wf = true)) := opens_slice Try.underlying55 (by kernel_rfl) op5
theorem op23 : Opens Try.prog 23 (Kd.slice 55 (Kd.slice 5 (Kd.int .u8))) (fun x : List (List Int) => (x.length ≤ 9223372036854775807 ∧ ∀ x_ ∈ x, (x_.length ≤ 9223372036854775807 ∧ ∀ x__ ∈ x_, (Lit.int .u8 x__).wf = true))) := opens_slice Try.underlying23 (by kernel_rfl) op55
theorem op25 : Opens Try.prog 25 k25 (fun x : S25 => (x.f0.length ≤ 9223372036854775807 ∧ ∀ x_ ∈ x.f0, (Lit.int .u8 x_.f0).wf = true ∧ (Lit.int .u8 x_.f1).wf = true ∧ (Lit.int .u8 x_.f2).wf = true ∧ (Lit.int .u8 x_.f3).wf = true ∧ (Lit.int .u8 x_.f4).wf = true ∧ (Lit.int .u8 x_.f5).wf = true ∧ (Lit.int .u8 x_.f6).wf = true ∧ (Lit.int .u8 x_.f7).wf = true ∧ (Lit.int .u8 x_.f8).wf = true ∧ (Lit.int .u8 x_.f9).wf = true ∧ (Lit.int .u8 x_.f10).wf = true ∧ (Lit.int .u8 x_.f11).wf = true ∧ (Lit.int .u8 x_.f12).wf = true ∧ (Lit.int .u8 x_.f13).wf = true ∧ (Lit.int .u8 x_.f14).wf = true ∧ (Lit.int .u8 x_.f15).wf = true ∧ (Lit.int .u8 x_.f16).wf = true ∧ (Lit.int .u8 x_.f17).wf = true ∧ (Lit.int .u8 x_.f18).wf = true ∧ (Lit.int .u8 x_.f19).wf = true ∧ (Lit.int .u8 x_.f20).wf = true ∧ (Lit.int .u8 x_.f21).wf = true ∧ (Lit.int .u8 x_.f22).wf = true ∧ (Lit.int .u8 x_.f23).wf = true) ∧ (x.f1.length ≤ 9223372036854775807 ∧ ∀ x_ ∈ x.f1, (x_.length ≤ 9223372036854775807 ∧ ∀ x__ ∈ x_, (Lit.int .u8 x__).wf = true))) := opens_struct (fun x : S25 => (x.f0, x.f1)) (fun a => ⟨a.1, a.2⟩) (fun _ => rfl) Try.underlying25 (by kernel_rfl) (by kernel_rfl) (opensF_cons op22 (opensF_one op23))
theorem op60 : Opens Try.prog 60 k60 (fun x : S60 => (Lit.int .u8 x.f0).wf = true ∧ (Lit.int .u8 x.f1).wf = true ∧ (Lit.int .u8 x.f2).wf = true ∧ (Lit.int .u8 x.f3).wf = true ∧ (Lit.int .u8 x.f4).wf = true ∧ (Lit.int .u8 x.f5).wf = true) := opens_array (fun x : S60 => (x.f0, x.f1, x.f2, x.f3, x.f4, x.f5)) (fun a => ⟨a.1, a.2.1, a.2.2.1, a.2.2.2.1, a.2.2.2.2.1, a.2.2.2.2.2⟩) (fun _ => rfl) Try.underlying60 (by kernel_rfl) (opensF_cons op5 (opensF_cons op5 (opensF_cons op5 (opensF_cons op5 (opensF_cons op5 (opensF_one op5))))))
theorem op43 : Opens Try.prog 43 (Kd.slice 60 k60) (fun x : List (S60) => (x.length ≤ 9223372036854775807 ∧ ∀ x_ ∈ x, (Lit.int .u8 x_.f0).wf = true ∧ (Lit.int .u8 x_.f1).wf = true ∧ (Lit.int .u8 x_.f2).wf = true ∧ (Lit.int .u8 x_.f3).wf = true ∧ (Lit.int .u8 x_.f4).wf = true ∧ (Lit.int .u8 x_.f5).wf = true)) := opens_slice Try.underlying43 (by kernel_rfl) op60
end Go.Proofs.Ytgfknljhogfeaaa.G
end

section
namespace Go.Proofs.Ytgfknljhogfeaaa.G.Pure
open Go.RowKit Go.Proofs.Ytgfknljhogfeaaa.G Go.Proofs.YtgfknljhogfeaaaW.PrintWords Go.Proofs.YtgfknljhogfeaaaW.PrintLast Go.Proofs.YtgfknljhogfeaaaW.PrintMore
set_option linter.unusedVariables false
set_option linter.unusedSimpArgs false
theorem w64 {n : Int} (h0 : -9223372036854775808 ≤ n) (h1 : n ≤ 9223372036854775807) : wrap64 n = n := by
  unfold wrap64
  omega
theorem loop_inv {σ γ : Type} (L : Nat → σ → Option γ) (n : Nat) (I : Nat → σ → Prop) (R : γ → Prop)
    (hs : ∀ k i s, i < n → I i s → (∃ s', I (i + 1) s' ∧ L (k + 1) s = L k s') ∨ (∃ r, R r ∧ L (k + 1) s = some r))
    (he : ∀ k s, I n s → ∃ r, R r ∧ L (k + 1) s = some r) : ∀ k s, I 0 s → n < k → ∃ r, R r ∧ L k s = some r := by
  have go : ∀ d i k s, i + d = n → I i s → d < k → ∃ r, R r ∧ L k s = some r := by
    intro d
    induction d with
    | zero =>
      intro i k s hi hI hk
      obtain ⟨k, rfl⟩ : ∃ m, k = m + 1 := ⟨k - 1, by omega⟩
      obtain rfl : i = n := by omega
      exact he k s hI
    | succ d ih =>
      intro i k s hi hI hk
      obtain ⟨k, rfl⟩ : ∃ m, k = m + 1 := ⟨k - 1, by omega⟩
      rcases hs k i s (by omega) hI with ⟨s', hI', h⟩ | h
      · rw [h]
        exact ih (i + 1) k s' (by omega) hI' (by omega)
      · exact h
  intro k s hI hk
  exact go n 0 k s (by omega) hI hk
theorem take_set_succ {α : Type} {l : List α} {i : Nat} (h : i < l.length) (v : α) : (l.set i v).take (i + 1) = l.take i ++ [v] := by
  rw [List.take_succ_eq_append_getElem (by simpa using h)]
  simp [List.take_set_of_le]
theorem rd_nat {l : List Int} {i : Nat} (h : i < l.length) : rd l (i : Int) = l[i] := by
  simp [rd, List.getD_eq_getElem?_getD, List.getElem?_eq_getElem h]
end Go.Proofs.Ytgfknljhogfeaaa.G.Pure
end

section
namespace Go.Proofs.Ytgfknljhogfeaaa.G.Pure
open Go.RowKit Go.Proofs.Ytgfknljhogfeaaa.G Go.Proofs.YtgfknljhogfeaaaW.PrintWords Go.Proofs.YtgfknljhogfeaaaW.PrintLast Go.Proofs.YtgfknljhogfeaaaW.PrintMore
set_option linter.unusedVariables false
set_option linter.unusedSimpArgs false
theorem loop_inv2 {σ γ : Type} (L : Nat → σ → Option γ) (n K0 : Nat) (I : Nat → σ → Prop) (R : γ → Prop)
    (hs : ∀ k i s, i < n → K0 ≤ k → I i s → (∃ s', I (i + 1) s' ∧ L (k + 1) s = L k s') ∨ (∃ r, R r ∧ L (k + 1) s = some r))
    (he : ∀ k s, K0 ≤ k → I n s → ∃ r, R r ∧ L (k + 1) s = some r) : ∀ k s, I 0 s → n + K0 < k → ∃ r, R r ∧ L k s = some r := by
  have go : ∀ d i k s, i + d = n → I i s → d + K0 < k → ∃ r, R r ∧ L k s = some r := by
    intro d
    induction d with
    | zero =>
      intro i k s hi hI hk
      obtain ⟨k, rfl⟩ : ∃ m, k = m + 1 := ⟨k - 1, by omega⟩
      obtain rfl : i = n := by omega
      exact he k s (by omega) hI
    | succ d ih =>
      intro i k s hi hI hk
      obtain ⟨k, rfl⟩ : ∃ m, k = m + 1 := ⟨k - 1, by omega⟩
      rcases hs k i s (by omega) (by omega) hI with ⟨s', hI', h⟩ | h
      · rw [h]
        exact ih (i + 1) k s' (by omega) hI' (by omega)
      · exact h
  intro k s hI hk
  exact go n 0 k s (by omega) hI (by omega)
end Go.Proofs.Ytgfknljhogfeaaa.G.Pure
end

section
namespace Go.Proofs.Ytgfknljhogfeaaa.G.Pure
open Go.RowKit Go.Proofs.Ytgfknljhogfeaaa.G Go.Proofs.YtgfknljhogfeaaaW.PrintWords Go.Proofs.YtgfknljhogfeaaaW.PrintLast Go.Proofs.YtgfknljhogfeaaaW.PrintMore
set_option linter.unusedVariables false
set_option linter.unusedSimpArgs false
theorem eq_loop (L : Nat → Int → Option Bool) (a b : List Int) (hlen : a.length = b.length)
    (hs : ∀ k i, i < a.length → L (k + 1) (i : Int) = if rd a (i : Int) = rd b (i : Int) then L k ((i + 1 : Nat) : Int) else some false) (he : ∀ k, L (k + 1) (a.length : Int) = some true) : ∀ k, a.length < k → L k 0 = some (decide (a = b)) := by
  intro k hk
  obtain ⟨r, hr, h⟩ := loop_inv L a.length (fun i s => s = (i : Int) ∧ ∀ j (h : j < a.length), j < i → a[j] = b[j]) (fun r => r = decide (a = b))
    (fun k i s hi ⟨h1, h2⟩ => by
      subst h1
      rw [hs k i hi, rd_nat hi, rd_nat (by omega)]
      by_cases h : a[i] = b[i]
      · rw [if_pos h]
        refine .inl ⟨((i + 1 : Nat) : Int), ⟨rfl, fun j hj hji => ?_⟩, rfl⟩
        rcases Nat.lt_succ_iff_lt_or_eq.1 hji with e | e
        · exact h2 j hj e
        · subst e
          exact h
      · rw [if_neg h]
        refine .inr ⟨false, ?_, rfl⟩
        rw [decide_eq_false]
        rintro rfl
        exact h rfl)
    (fun k s ⟨h1, h2⟩ => by
      subst h1
      refine ⟨true, ?_, he k⟩
      rw [decide_eq_true]
      exact List.ext_getElem hlen fun j h1 h3 => h2 j h1 h1) k 0 ⟨rfl, fun j _ h => absurd h (Nat.not_lt_zero _)⟩ hk
  subst hr
  exact h
end Go.Proofs.Ytgfknljhogfeaaa.G.Pure
end

section
namespace Go.Proofs.Ytgfknljhogfeaaa.G.Pure
open Go.RowKit Go.Proofs.Ytgfknljhogfeaaa.G Go.Proofs.YtgfknljhogfeaaaW.PrintWords Go.Proofs.YtgfknljhogfeaaaW.PrintLast Go.Proofs.YtgfknljhogfeaaaW.PrintMore
set_option linter.unusedVariables false
set_option linter.unusedSimpArgs false
theorem eqWord_self (k : Nat) (a : List Int) (hl : a.length ≤ 1048576) (hk : a.length < k) : laws_eqWord.f k a a = some true := by
  unfold laws_eqWord.f
  rw [if_pos rfl]
  have e := eq_loop (fun k i => laws_eqWord.l0 k a a i) a a rfl (fun k i hi => by
    simp only [laws_eqWord.l0]
    rw [if_pos (by omega), if_pos (by omega), if_pos (by omega), w64 (by omega) (by omega)]
    rfl) (fun k => by
    simp only [laws_eqWord.l0]
    rw [if_neg (by omega)]) k hk
  rw [e]
  simp
end Go.Proofs.Ytgfknljhogfeaaa.G.Pure
end

section
namespace Go.Proofs.Ytgfknljhogfeaaa.G.Pure
open Go.RowKit Go.Proofs.Ytgfknljhogfeaaa.G Go.Proofs.YtgfknljhogfeaaaW.PrintWords Go.Proofs.YtgfknljhogfeaaaW.PrintLast Go.Proofs.YtgfknljhogfeaaaW.PrintMore
set_option linter.unusedVariables false
set_option linter.unusedSimpArgs false
theorem toWord_eq (k : Nat) (l : List Int) (hl : l.length ≤ 1048576) (hk : l.length < k) : laws_toWord.f k l = some l := by
  unfold laws_toWord.f
  rw [if_pos (by omega), if_pos (by omega)]
  obtain ⟨r, hr, h⟩ := loop_inv (fun k (s : List Int × Int) => laws_toWord.l0 k l s.1 s.2) l.length (fun i s => s.2 = (i : Int) ∧ s.1.length = l.length ∧ s.1.take i = l.take i) (fun r => r = l)
    (fun k i s hi ⟨h1, h2, h3⟩ => by
      obtain ⟨acc, x⟩ := s
      simp only at h1 h2 h3
      subst h1
      refine .inl ⟨(acc.set i l[i], ((i + 1 : Nat) : Int)), ⟨rfl, by simpa using h2, ?_⟩, ?_⟩
      · rw [take_set_succ (by omega), h3, List.take_succ_eq_append_getElem hi]
      · simp only [laws_toWord.l0]
        rw [if_pos (by omega), if_pos (by omega), if_pos (by omega), rd_nat hi, w64 (by omega) (by omega)]
        rfl)
    (fun k s ⟨h1, h2, h3⟩ => by
      obtain ⟨acc, x⟩ := s
      simp only at h1 h2 h3
      subst h1
      refine ⟨acc, ?_, ?_⟩
      · rw [List.take_of_length_le (by omega), List.take_of_length_le (by omega)] at h3
        exact h3
      · simp only [laws_toWord.l0]
        rw [if_neg (by omega)]) k (List.replicate l.length 0, 0) ⟨rfl, by simp, by simp⟩ hk
  subst hr
  simpa using h
end Go.Proofs.Ytgfknljhogfeaaa.G.Pure
end

section
namespace Go.Proofs.Ytgfknljhogfeaaa.G
open Go.RowKit Go.Proofs.YtgfknljhogfeaaaW.PrintWords Go.Proofs.YtgfknljhogfeaaaW.PrintLast Go.Proofs.YtgfknljhogfeaaaW.PrintMore
attribute [local go_sem] max2_int min2_int max_two min_two max_three min_three max_four min_four
set_option linter.unusedVariables false
set_option linter.unusedSimpArgs false
def laws_heldSightS.ok (a1 : Int) (l0 : List S61) (i j : Nat) : Bool := decide ((arrL61 (rd_T61 l0 (i : Int))).getD j 0 = (a1 + (6 * i + j : Nat)) % 256)
def laws_heldSightS.all (a1 : Int) (l0 : List S61) (i : Nat) : Bool := (List.range 6).all (laws_heldSightS.ok a1 l0 i)
def laws_heldSightS.f (l0 : List S61) (a1 : Int) : Option Int := if 0 ≤ a1 ∧ a1 ≤ 4000000000000 ∧ l0.length ≤ 1000000000000 then some (if (List.range l0.length).all (laws_heldSightS.all a1 l0) = true then a1 + (6 * l0.length : Nat) else -1) else none
end Go.Proofs.Ytgfknljhogfeaaa.G
end

section
namespace Go.Proofs.Ytgfknljhogfeaaa.G.Pure
open Go.RowKit Go.Proofs.Ytgfknljhogfeaaa.G Go.Proofs.YtgfknljhogfeaaaW.PrintWords Go.Proofs.YtgfknljhogfeaaaW.PrintLast Go.Proofs.YtgfknljhogfeaaaW.PrintMore
set_option linter.unusedVariables false
set_option linter.unusedSimpArgs false
abbrev Ws := List (List Int)
theorem rdX {l : Ws} {i : Nat} (h : i < l.length) : rd_L2 l (i : Int) = l[i] := by
  simp [rd_L2, List.getD_eq_getElem?_getD, List.getElem?_eq_getElem h]
theorem szWord_eq (l : List Int) (a : Int) (h0 : 0 ≤ a) (h1 : a ≤ 1048576) (hl : l.length ≤ 9223372036854775807) : laws_szWord.f l a = some (if a - l.length < 0 then -1 else a - l.length) := by
  unfold laws_szWord.f
  rw [w64 (by omega) (by omega)]
  split <;> rfl
theorem szWordS_ok {k : Nat} {l : Ws} {a0 : Int} (ha0 : 0 ≤ a0) (ha1 : a0 ≤ 1048576) (hl : l.length ≤ 9223372036854775807) (hi : ∀ x ∈ l, x.length ≤ 9223372036854775807) (hk : 1100000 < k) : ∃ n, laws_szWordS.f k l a0 = some n ∧ (n < 0 ∨ ¬ n < 0 ∧ n ≤ 1048576 ∧ l.length ≤ 1048576 ∧ ∀ x ∈ l, x.length ≤ 1048576) := by
  unfold laws_szWordS.f
  rw [w64 (by omega) (by omega)]
  by_cases h : a0 - (l.length : Int) < 0
  · rw [if_pos h]
    exact ⟨-1, rfl, .inl (by omega)⟩
  · rw [if_neg h]
    obtain ⟨r, hr, h'⟩ := loop_inv (fun k (s : Int × Int) => laws_szWordS.l0 k l s.1 s.2) l.length (fun i s => s.2 = (i : Int) ∧ 0 ≤ s.1 ∧ s.1 ≤ 1048576 ∧ ∀ j (h : j < l.length), j < i → l[j].length ≤ 1048576) (fun n => n < 0 ∨ ¬ n < 0 ∧ n ≤ 1048576 ∧ l.length ≤ 1048576 ∧ ∀ x ∈ l, x.length ≤ 1048576)
      (fun k i s hil ⟨h1, h2, h3, h4⟩ => by
        obtain ⟨a, x⟩ := s
        simp only at h1 h2 h3 h4
        subst h1
        have hx := hi _ (List.getElem_mem hil)
        simp only [laws_szWordS.l0]
        rw [if_pos (by omega), if_pos (by omega), rdX hil, szWord_eq _ _ h2 h3 hx]
        simp only [Option.bind_some]
        by_cases hneg : a - (l[i].length : Int) < 0
        · rw [if_pos hneg, if_pos (by omega)]
          exact .inr ⟨-1, .inl (by omega), rfl⟩
        · rw [if_neg hneg, if_neg hneg, w64 (by omega) (by omega)]
          refine .inl ⟨(a - (l[i].length : Int), ((i + 1 : Nat) : Int)), ⟨rfl, by simp only; omega, by simp only; omega, fun j hj hji => ?_⟩, rfl⟩
          rcases Nat.lt_succ_iff_lt_or_eq.1 hji with e | e
          · exact h4 j hj e
          · subst e
            omega)
      (fun k s ⟨h1, h2, h3, h4⟩ => by
        obtain ⟨a, x⟩ := s
        simp only at h1 h2 h3 h4
        subst h1
        refine ⟨a, .inr ⟨by omega, by omega, by omega, fun x hx => ?_⟩, ?_⟩
        · obtain ⟨j, hj, rfl⟩ := List.mem_iff_getElem.1 hx
          exact h4 j hj hj
        · simp only [laws_szWordS.l0]
          rw [if_neg (by omega)]) k (a0 - (l.length : Int), 0) ⟨rfl, by simp only; omega, by simp only; omega, fun j _ h => absurd h (Nat.not_lt_zero _)⟩ (by omega)
    exact ⟨r, h', hr⟩
theorem toWordS_eq {k : Nat} {l : Ws} (hl : l.length ≤ 1048576) (hi : ∀ x ∈ l, x.length ≤ 1048576) (hk : 2200000 < k) : laws_toWordS.f k l = some l := by
  unfold laws_toWordS.f
  rw [if_pos (by omega), if_pos (by omega)]
  obtain ⟨r, hr, h⟩ := loop_inv2 (fun k (s : Ws × Int) => laws_toWordS.l0 k l s.1 s.2) l.length 1048577 (fun i s => s.2 = (i : Int) ∧ s.1.length = l.length ∧ s.1.take i = l.take i) (fun r => r = l)
    (fun k i s hil hk ⟨h1, h2, h3⟩ => by
      obtain ⟨acc, x⟩ := s
      simp only at h1 h2 h3
      subst h1
      refine .inl ⟨(acc.set i l[i], ((i + 1 : Nat) : Int)), ⟨rfl, by simpa using h2, ?_⟩, ?_⟩
      · rw [take_set_succ (by omega), h3, List.take_succ_eq_append_getElem hil]
      · simp only [laws_toWordS.l0]
        rw [if_pos (by omega), if_pos (by omega), rdX hil, toWord_eq k _ (hi _ (List.getElem_mem hil)) (by have := hi _ (List.getElem_mem hil); omega)]
        simp only [Option.bind_some]
        rw [if_pos (by omega), w64 (by omega) (by omega)]
        rfl)
    (fun k s hk ⟨h1, h2, h3⟩ => by
      obtain ⟨acc, x⟩ := s
      simp only at h1 h2 h3
      subst h1
      refine ⟨acc, ?_, ?_⟩
      · rw [List.take_of_length_le (by omega), List.take_of_length_le (by omega)] at h3
        exact h3
      · simp only [laws_toWordS.l0]
        rw [if_neg (by omega)]) k (List.replicate l.length [], 0) ⟨rfl, by simp, by simp⟩ (by omega)
  subst hr
  simpa using h
theorem eqWordS_self {k : Nat} {l : Ws} (hl : l.length ≤ 1048576) (hi : ∀ x ∈ l, x.length ≤ 1048576) (hk : 2200000 < k) : laws_eqWordS.f k l l = some true := by
  unfold laws_eqWordS.f
  rw [if_pos rfl]
  obtain ⟨r, hr, h⟩ := loop_inv2 (fun k (s : Int) => laws_eqWordS.l0 k l l s) l.length 1048577 (fun i s => s = (i : Int)) (fun r => r = true)
    (fun k i s hil hk h1 => by
      subst h1
      refine .inl ⟨((i + 1 : Nat) : Int), rfl, ?_⟩
      simp only [laws_eqWordS.l0]
      rw [if_pos (by omega), if_pos (by omega), if_pos (by omega), rdX hil, eqWord_self k _ (hi _ (List.getElem_mem hil)) (by have := hi _ (List.getElem_mem hil); omega)]
      simp only [Option.bind_some, if_true]
      rw [w64 (by omega) (by omega)]
      rfl)
    (fun k s hk h1 => by
      subst h1
      refine ⟨true, rfl, ?_⟩
      simp only [laws_eqWordS.l0]
      rw [if_neg (by omega)]) k 0 rfl (by omega)
  subst hr
  exact h
theorem markWord_from (k : Nat) (a : List Int) (m0 : Int) (hl : a.length ≤ 1048576) (hk : a.length < k) (h0 : 0 ≤ m0) (h1 : m0 ≤ 4000000000000000000) : ∃ l, laws_markWord.f k a m0 = some (m0 + (a.length : Int), l) ∧ l.length = a.length := by
  obtain ⟨r, ⟨g1, g2⟩, h⟩ := loop_inv (fun k (s : List Int × Int × Int) => laws_markWord.l0 k s.1 s.2.1 s.2.2) a.length
    (fun i s => s.2.2 = (i : Int) ∧ s.2.1 = m0 + (i : Int) ∧ s.1.length = a.length)
    (fun r => r.1 = m0 + (a.length : Int) ∧ r.2.length = a.length)
    (fun k i s hi ⟨h1, h2, h3⟩ => by
      obtain ⟨acc, m, x⟩ := s
      simp only at h1 h2 h3
      subst h1 h2
      refine .inl ⟨(acc.set i ((m0 + (i : Int)) % 256), m0 + ((i + 1 : Nat) : Int), ((i + 1 : Nat) : Int)), ⟨rfl, rfl, by simpa using h3⟩, ?_⟩
      simp only [laws_markWord.l0]
      rw [if_pos (by omega), if_pos (by omega), w64 (n := m0 + (i : Int) + 1) (by omega) (by omega), w64 (n := (i : Int) + 1) (by omega) (by omega), Int.toNat_natCast]
      rw [show m0 + (i : Int) + 1 = m0 + ((i + 1 : Nat) : Int) by omega, show ((i + 1 : Nat) : Int) = (i : Int) + 1 by omega])
    (fun k s ⟨h1, h2, h3⟩ => by
      obtain ⟨acc, m, x⟩ := s
      simp only at h1 h2 h3
      subst h1 h2
      refine ⟨(m0 + (a.length : Int), acc), ⟨rfl, h3⟩, ?_⟩
      simp only [laws_markWord.l0]
      rw [if_neg (by omega)]) k (a, m0, 0) ⟨rfl, by simp, rfl⟩ hk
  obtain ⟨m, l⟩ := r
  simp only at g1 g2
  subst g1
  exact ⟨l, h, g2⟩
theorem markWordS_from {k : Nat} {a : Ws} {m0 : Int} (hl : a.length ≤ 1048576) (hi : ∀ x ∈ a, x.length ≤ 1048576) (hk : 2200000 < k) (h0 : 0 ≤ m0) (h1 : m0 ≤ 1000000000000000) : ∃ l m, laws_markWordS.f k a m0 = some (m, l) ∧ 0 ≤ m ∧ m ≤ m0 + 1048576 * (a.length : Int) := by
  obtain ⟨r, g1, h⟩ := loop_inv2 (fun k (s : Ws × Int × Int) => laws_markWordS.l0 k s.1 s.2.1 s.2.2) a.length 1048577
    (fun i s => s.2.2 = (i : Int) ∧ 0 ≤ s.2.1 ∧ s.2.1 ≤ m0 + 1048576 * (i : Int) ∧ s.1.length = a.length ∧ (∀ j, i ≤ j → s.1[j]? = a[j]?))
    (fun r => 0 ≤ r.1 ∧ r.1 ≤ m0 + 1048576 * (a.length : Int))
    (fun k i s hil hk ⟨h1, h2, h3, h4, h5⟩ => by
      obtain ⟨acc, m, x⟩ := s
      simp only at h1 h2 h3 h4 h5
      subst h1
      have hg : acc.getD (i : Int).toNat [] = a[i] := by
        rw [Int.toNat_natCast, List.getD_eq_getElem?_getD, h5 i (Nat.le_refl _), List.getElem?_eq_getElem hil]
        rfl
      have hai := hi _ (List.getElem_mem hil)
      obtain ⟨y, hm, hyl⟩ := markWord_from k a[i] m hai (by omega) h2 (by omega)
      refine .inl ⟨(acc.set i y, m + (a[i].length : Int), ((i + 1 : Nat) : Int)), ⟨rfl, by simp only; omega, by simp only; omega, by simpa using h4, fun j hj => ?_⟩, ?_⟩
      · simp only
        rw [List.getElem?_set_ne (by omega)]
        exact h5 j (by omega)
      · simp only [laws_markWordS.l0]
        rw [if_pos (by omega), if_pos (by omega), hg, hm, w64 (by omega) (by omega)]
        simp only [Option.bind_some, Int.toNat_natCast]
        rw [show ((i + 1 : Nat) : Int) = (i : Int) + 1 by omega])
    (fun k s hk ⟨h1, h2, h3, h4, h5⟩ => by
      obtain ⟨acc, m, x⟩ := s
      simp only at h1 h2 h3 h4 h5
      subst h1
      refine ⟨(m, acc), ⟨h2, h3⟩, ?_⟩
      simp only [laws_markWordS.l0]
      rw [if_neg (by omega)]) k (a, m0, 0) ⟨rfl, h0, by simp, rfl, fun _ _ => rfl⟩ (by omega)
  obtain ⟨m, l⟩ := r
  exact ⟨l, m, h, g1⟩
theorem szCode_cases {k : Nat} (s : List S67) (ws : Ws) (hs : s.length ≤ 9223372036854775807) (hw : ws.length ≤ 9223372036854775807) (hi : ∀ x ∈ ws, x.length ≤ 9223372036854775807) (hk : 1100000 < k) : ∃ r, laws_szCode.f k s ws 1048576 = some r ∧ (r < 0 ∨ (0 ≤ r ∧ r ≤ 1048576 ∧ s.length ≤ 1048576 ∧ ws.length ≤ 1048576 ∧ ∀ x ∈ ws, x.length ≤ 1048576)) := by
  unfold laws_szCode.f laws_szFlagS.f
  rw [w64 (by omega) (by omega)]
  by_cases h : (1048576 : Int) - (s.length : Int) < 0
  · rw [if_pos h]
    exact ⟨-1, rfl, .inl (by omega)⟩
  · rw [if_neg h]
    simp only [Option.bind_some]
    rw [if_neg h]
    obtain ⟨n, hn, hc⟩ := szWordS_ok (k := k) (l := ws) (a0 := 1048576 - (s.length : Int)) (by omega) (by omega) hw hi hk
    rw [hn]
    simp only [Option.bind_some]
    rcases hc with hc | ⟨h1, h2, h3, h4⟩
    · rw [if_pos hc]
      exact ⟨-1, rfl, .inl (by omega)⟩
    · rw [if_neg h1]
      exact ⟨n, rfl, .inr ⟨by omega, h2, by omega, h3, h4⟩⟩
theorem toFlagS_eq (s : List S67) (h : s.length ≤ 1048576) : laws_toFlagS.f s = some (s.map laws_toFlagS.cv) := by
  unfold laws_toFlagS.f
  rw [if_pos (by omega)]
theorem toCode_eq {k : Nat} {s : List S67} {ws : Ws} (hs : s.length ≤ 1048576) (hw : ws.length ≤ 1048576) (hi : ∀ x ∈ ws, x.length ≤ 1048576) (hk : 2200000 < k) : laws_toCode.f k s ws = some (s.map laws_toFlagS.cv, ws) := by
  unfold laws_toCode.f
  rw [toFlagS_eq s hs, toWordS_eq hw hi hk]
  rfl
theorem eqCode_self {k : Nat} {fs : List S68} {ws : Ws} (hw : ws.length ≤ 1048576) (hi : ∀ x ∈ ws, x.length ≤ 1048576) (hk : 2200000 < k) : laws_eqCode.f k fs ws fs ws = some true := by
  unfold laws_eqCode.f laws_eqFlagS.f
  rw [decide_eq_true rfl, eqWordS_self hw hi hk]
  rfl
theorem markCode_pos {k : Nat} {fs : List S68} {ws : Ws} (hf : fs.length ≤ 1048576) (hw : ws.length ≤ 1048576) (hi : ∀ x ∈ ws, x.length ≤ 1048576) (hk : 2200000 < k) : ∃ m a b, laws_markCode.f k fs ws 1 = some (m, a, b) ∧ 0 ≤ m ∧ m ≤ 2000000000000 := by
  unfold laws_markCode.f laws_markFlagS.f
  rw [if_pos (by omega)]
  simp only [Option.bind_some]
  obtain ⟨l, m, h, h0, h9⟩ := markWordS_from (k := k) (a := ws) (m0 := 1 + ((24 * fs.length : Nat) : Int)) hw hi hk (by omega) (by omega)
  rw [h]
  exact ⟨m, _, l, rfl, h0, by omega⟩
theorem eqSightS_self (a : List S61) : laws_eqSightS.f a a = some true := by
  unfold laws_eqSightS.f
  rw [decide_eq_true rfl]
theorem markSightS_held (a : List S61) (m0 : Int) (h0 : 0 ≤ m0) (h1 : m0 ≤ 4000000000000) (hl : a.length ≤ 1048576) : ∃ l m, laws_markSightS.f a m0 = some (m, l) ∧ laws_heldSightS.f l m0 = some m ∧ 0 ≤ m := by
  unfold laws_markSightS.f laws_heldSightS.f
  rw [if_pos (by omega)]
  have hlen := laws_markSightS.to_len m0 (Nat.le_refl a.length)
  refine ⟨_, _, rfl, ?_, by omega⟩
  rw [if_pos (by omega), hlen]
  have hall : (List.range a.length).all (laws_heldSightS.all m0 (laws_markSightS.to m0 a a.length)) = true := by
    rw [List.all_eq_true]
    intro i hi
    have hi := List.mem_range.1 hi
    unfold laws_heldSightS.all
    rw [List.all_eq_true]
    intro j hj
    have hj := List.mem_range.1 hj
    unfold laws_heldSightS.ok
    refine decide_eq_true ?_
    have e : rd_T61 (laws_markSightS.to m0 a a.length) (i : Int) = laws_markSightS.one m0 i := by
      unfold rd_T61
      rw [Int.toNat_natCast, List.getD_eq_getElem?_getD]
      unfold laws_markSightS.to
      rw [List.getElem?_append_left (by rw [List.length_map, List.length_range]; exact hi), List.getElem?_map, List.getElem?_range hi]
      rfl
    rw [e]
    unfold laws_markSightS.one
    rw [arrL61_S _ (by rw [List.length_map, List.length_range]), List.getD_eq_getElem?_getD, List.getElem?_map, List.getElem?_range hj]
    rfl
  rw [if_pos hall]
end Go.Proofs.Ytgfknljhogfeaaa.G.Pure
end

section
namespace Go.Proofs.Ytgfknljhogfeaaa.G.Pure
open Go.RowKit Go.Proofs.Ytgfknljhogfeaaa.G Go.Proofs.YtgfknljhogfeaaaW.PrintWords Go.Proofs.YtgfknljhogfeaaaW.PrintLast Go.Proofs.YtgfknljhogfeaaaW.PrintMore
set_option linter.unusedVariables false
set_option linter.unusedSimpArgs false
def okS (ws : Ws) (x : List Int) : Bool := (x.all (fun c => decide (c < 37)) && (decide (1 ≤ x.length) && decide (x.length ≤ 8))) && decide (x.length = (ws.getD 0 []).length)
def okC (fs : List S68) (ws : Ws) : Bool := decide (1 ≤ fs.length) && decide (fs.length ≤ 40) && decide (ws.length ≤ 60) && ws.all (okS ws) && (fs.all spec_l05Ok.flag && ws.all (spec_l05Ok.word fs.length))
theorem specWord_eq (k : Nat) (x : List Int) (hl : x.length ≤ 1048576) (hk : x.length < k) : spec_l05Word.f k x = some (x.all (fun c => decide (c < 37)) && (decide (1 ≤ x.length) && decide (x.length ≤ 8))) := by
  unfold spec_l05Word.f
  obtain ⟨r, hr, h⟩ := loop_inv (fun k (s : Int) => spec_l05Word.l0 k x s) x.length (fun i s => s = (i : Int) ∧ ∀ j (h : j < x.length), j < i → x[j] < 37) (fun r => r = (x.all (fun c => decide (c < 37)) && (decide (1 ≤ x.length) && decide (x.length ≤ 8))))
    (fun k i s hi ⟨h1, h2⟩ => by
      subst h1
      simp only [spec_l05Word.l0]
      rw [if_pos (by omega), if_pos (by omega), rd_nat hi]
      by_cases hc : x[i] ≥ 37
      · rw [if_pos hc]
        refine .inr ⟨false, ?_, rfl⟩
        have : x.all (fun c => decide (c < 37)) = false := by
          rw [List.all_eq_false]
          exact ⟨x[i], List.getElem_mem hi, by simp; omega⟩
        rw [this]
        rfl
      · rw [if_neg hc, w64 (by omega) (by omega)]
        refine .inl ⟨((i + 1 : Nat) : Int), ⟨rfl, fun j hj hji => ?_⟩, rfl⟩
        rcases Nat.lt_succ_iff_lt_or_eq.1 hji with e | e
        · exact h2 j hj e
        · subst e
          omega)
    (fun k s ⟨h1, h2⟩ => by
      subst h1
      have hall : x.all (fun c => decide (c < 37)) = true := by
        rw [List.all_eq_true]
        intro c hc
        obtain ⟨j, hj, rfl⟩ := List.mem_iff_getElem.1 hc
        exact decide_eq_true (h2 j hj hj)
      refine ⟨_, rfl, ?_⟩
      simp only [spec_l05Word.l0, spec_l00In.f]
      rw [if_neg (by omega), hall, Bool.true_and]
      by_cases h1 : (x.length : Int) ≥ 1
      · rw [if_pos h1, decide_eq_true (show 1 ≤ x.length by omega), Bool.true_and]
        simp only [Option.bind_some, Option.some.injEq]
        exact decide_eq_decide.2 (by omega)
      · rw [if_neg h1, decide_eq_false (show ¬ 1 ≤ x.length by omega), Bool.false_and]
        rfl) k 0 ⟨rfl, fun j _ h => absurd h (Nat.not_lt_zero _)⟩ hk
  subst hr
  exact h
theorem specWords_eq {k : Nat} {ws : Ws} (hl : ws.length ≤ 1048576) (hi : ∀ x ∈ ws, x.length ≤ 1048576) (hk : 2200000 < k) : spec_l05Words.f k ws = some (ws.all (okS ws)) := by
  unfold spec_l05Words.f
  obtain ⟨r, hr, h⟩ := loop_inv2 (fun k (s : Int) => spec_l05Words.l0 k ws s) ws.length 1048577 (fun i s => s = (i : Int) ∧ ∀ j (h : j < ws.length), j < i → okS ws ws[j] = true) (fun r => r = ws.all (okS ws))
    (fun k i s hil hk ⟨h1, h2⟩ => by
      subst h1
      have hx := hi _ (List.getElem_mem hil)
      have hno : okS ws ws[i] = false → ws.all (okS ws) = false := fun h => by
        rw [List.all_eq_false]
        exact ⟨ws[i], List.getElem_mem hil, by rw [h]; decide⟩
      have h0 : rd_L2 ws 0 = ws.getD 0 [] := rfl
      simp only [spec_l05Words.l0]
      rw [if_pos (by omega), if_pos (by omega), rdX hil, specWord_eq k _ hx (by omega)]
      simp only [Option.bind_some]
      by_cases hc : (ws[i].all (fun c => decide (c < 37)) && (decide (1 ≤ ws[i].length) && decide (ws[i].length ≤ 8))) = true
      · rw [if_pos hc, if_pos (by omega)]
        by_cases he : (ws[i].length : Int) = ((rd_L2 ws 0).length : Int)
        · rw [if_pos he, w64 (by omega) (by omega)]
          refine .inl ⟨((i + 1 : Nat) : Int), ⟨rfl, fun j hj hji => ?_⟩, rfl⟩
          rcases Nat.lt_succ_iff_lt_or_eq.1 hji with e | e
          · exact h2 j hj e
          · subst e
            unfold okS
            rw [hc, Bool.true_and]
            rw [h0] at he
            exact decide_eq_true (by omega)
        · rw [if_neg he]
          refine .inr ⟨false, (hno ?_).symm, rfl⟩
          unfold okS
          rw [h0] at he
          rw [decide_eq_false (show ¬ ws[i].length = (ws.getD 0 []).length by omega), Bool.and_false]
      · rw [if_neg hc]
        refine .inr ⟨false, (hno ?_).symm, rfl⟩
        unfold okS
        rw [Bool.eq_false_iff.2 hc, Bool.false_and])
    (fun k s hk ⟨h1, h2⟩ => by
      subst h1
      refine ⟨true, ?_, ?_⟩
      · symm
        rw [List.all_eq_true]
        intro x hx
        obtain ⟨j, hj, rfl⟩ := List.mem_iff_getElem.1 hx
        exact h2 j hj hj
      · simp only [spec_l05Words.l0]
        rw [if_neg (by omega)]) k 0 ⟨rfl, fun j _ h => absurd h (Nat.not_lt_zero _)⟩ (by omega)
  subst hr
  exact h
theorem specOk_eq {k : Nat} {fs : List S68} {ws : Ws} (hl : ws.length ≤ 1048576) (hi : ∀ x ∈ ws, x.length ≤ 1048576) (hk : 2200000 < k) : spec_l05Ok.f k fs ws = some (okC fs ws) := by
  unfold spec_l05Ok.f spec_l00In.f okC
  by_cases h1 : (fs.length : Int) ≥ 1
  · rw [if_pos h1, decide_eq_true (show 1 ≤ fs.length by omega), Bool.true_and]
    simp only [Option.bind_some]
    by_cases h2 : fs.length ≤ 40
    · rw [decide_eq_true h2, Bool.true_and, if_pos (decide_eq_true (by omega))]
      by_cases h3 : (ws.length : Int) > 60
      · rw [if_pos h3, decide_eq_false (show ¬ ws.length ≤ 60 by omega), Bool.false_and, Bool.false_and]
      · rw [if_neg h3, decide_eq_true (show ws.length ≤ 60 by omega), Bool.true_and, specWords_eq hl hi hk]
        simp only [Option.bind_some]
        cases ws.all (okS ws)
        · rfl
        · rw [if_pos rfl, Bool.true_and]
    · rw [decide_eq_false h2, if_neg (by simp; omega)]
      rfl
  · rw [if_neg h1, decide_eq_false (show ¬ 1 ≤ fs.length by omega)]
    rfl
def okI (n : Int) (ws : Ws) (x : List Int) : Bool := ((decide (1 ≤ x.length) && decide (x.length ≤ 8)) && x.all (fun c => !decide (wrap64 c ≥ mn n 37))) && decide (x.length = (ws.getD 0 []).length)
theorem isWord_eq (x : List Int) (n : Int) : impl_Word_isWord.f x n = some ((decide (1 ≤ x.length) && decide (x.length ≤ 8)) && x.all (fun c => !decide (wrap64 c ≥ mn n 37))) := by
  have e : slices_ContainsFunc_Word_uint8__impl_Word_isWord_1.f x n = some (x.any fun c => decide (wrap64 c ≥ mn n 37)) := anyO_eq fun c _ => rfl
  unfold impl_Word_isWord.f impl_size_uint8.f impl_within.f
  simp only [Option.bind_some]
  by_cases h1 : (1 : Int) ≤ (x.length : Int)
  · rw [if_pos h1, decide_eq_true (show 1 ≤ x.length by omega), Bool.true_and]
    simp only [Option.bind_some]
    by_cases h2 : x.length ≤ 8
    · rw [if_pos (decide_eq_true (by omega)), e, decide_eq_true h2, Bool.true_and]
      simp only [Option.bind_some, Option.some.injEq]
      rw [← List.not_any_eq_all_not]
    · rw [if_neg (by simp; omega), decide_eq_false h2, Bool.false_and]
  · rw [if_neg h1, decide_eq_false (show ¬ 1 ≤ x.length by omega)]
    rfl
theorem areWords_eq (ws : Ws) (n : Int) : impl_areWords.f ws n = some (ws.all (okI n ws)) := by
  have e : slices_ContainsFunc_Word_Word__impl_areWords_1.f ws n ws = some (ws.any fun x => !okI n ws x) := anyO_eq fun x hx => by
    have hp : 0 < (ws.length : Int) := by
      have := List.length_pos_of_mem hx
      omega
    unfold impl_areWords_1.f
    rw [isWord_eq]
    simp only [Option.bind_some]
    unfold okI
    cases ((decide (1 ≤ x.length) && decide (x.length ≤ 8)) && x.all (fun c => !decide (wrap64 c ≥ mn n 37)))
    · rfl
    · rw [if_pos rfl, if_pos hp, Bool.true_and]
      have h0 : rd_L2 ws 0 = ws.getD 0 [] := rfl
      rw [h0]
      generalize (ws.getD 0 []).length = m
      congr 1
      by_cases he : x.length = m
      · rw [he]; simp
      · rw [decide_eq_false he, bne_iff_ne.2 (show ¬ (x.length : Int) = (m : Int) by omega)]; rfl
  unfold impl_areWords.f
  rw [e]
  simp only [Option.bind_some, Option.some.injEq]
  rw [List.not_any_eq_all_not]
  simp
theorem implOk_eq {fs : List S68} {ws : Ws} (hw : ∀ x ∈ ws, ∀ c ∈ x, 0 ≤ c ∧ c ≤ 255) : impl_ValidCode.f fs ws = some (okC fs ws) := by
  have e1 : slices_ContainsFunc_Flag_Flag__impl_setCode_1.f fs = some (fs.any fun x => !spec_l05Ok.flag x) := anyO_eq fun x _ => by
    show some ((arrL68 x).any fun c => decide (c ≥ 6)) = _
    unfold spec_l05Ok.flag
    rw [List.not_all_eq_any_not]
    congr 2
    funext c
    by_cases h : c ≤ 5
    · rw [decide_eq_true h, decide_eq_false (by omega)]; rfl
    · rw [decide_eq_false h, decide_eq_true (by omega)]; rfl
  have e2 : ∀ n : Nat, ws.all (okI (n : Int) ws) = (ws.all (okS ws) && ws.all (spec_l05Ok.word n)) := fun n => by
    rw [Bool.eq_iff_iff]
    simp only [Bool.and_eq_true, List.all_eq_true, okI, okS, spec_l05Ok.word, decide_eq_true_eq, Bool.not_eq_true', decide_eq_false_iff_not]
    constructor
    · intro h
      refine ⟨fun x hx => ⟨⟨fun c hc => ?_, (h x hx).1.1⟩, (h x hx).2⟩, fun x hx c hc => ?_⟩
      · have h1 := (h x hx).1.2 c hc
        have h2 := hw x hx c hc
        rw [w64 (by omega) (by omega)] at h1
        unfold mn at h1
        split at h1 <;> omega
      · have h1 := (h x hx).1.2 c hc
        have h2 := hw x hx c hc
        rw [w64 (by omega) (by omega)] at h1 ⊢
        unfold mn at h1
        split at h1 <;> omega
    · rintro ⟨ha, hb⟩ x hx
      refine ⟨⟨(ha x hx).1.2, fun c hc => ?_⟩, (ha x hx).2⟩
      have h1 := (ha x hx).1.1 c hc
      have h2 := hw x hx c hc
      have h3 := hb x hx c hc
      rw [w64 (by omega) (by omega)] at h3 ⊢
      unfold mn
      split <;> omega
  unfold impl_ValidCode.f impl_setCode.f impl_within.f impl_unless.f impl_size_Flag.f okC
  rw [e1]
  simp only [Option.bind_some]
  rw [areWords_eq]
  simp only [Option.bind_some]
  rw [e2]
  have hf : (fs.any fun x => !spec_l05Ok.flag x) = !fs.all spec_l05Ok.flag := by
    rw [List.not_all_eq_any_not]
  rw [hf]
  by_cases h1 : (fs.length : Int) > 0
  · rw [if_pos h1, decide_eq_true (show 1 ≤ fs.length by omega), Bool.true_and]
    cases hfl : fs.all spec_l05Ok.flag
    · simp
    · by_cases h2 : fs.length ≤ 40
      · have h2' : ¬ (fs.length : Int) > 40 := by omega
        rw [decide_eq_true h2, Bool.true_and]
        by_cases h3 : ws.length ≤ 60
        · have h3' : (ws.length : Int) ≤ 60 := by omega
          simp [h2', h3', h3]
        · have h3' : ¬ (ws.length : Int) ≤ 60 := by omega
          simp [h2', h3', h3]
      · have h2' : (fs.length : Int) > 40 := by omega
        rw [decide_eq_false h2]
        simp [h2']
  · rw [if_neg h1, decide_eq_false (show ¬ 1 ≤ fs.length by omega)]
    rfl
end Go.Proofs.Ytgfknljhogfeaaa.G.Pure
end

section
namespace Go.Proofs.Ytgfknljhogfeaaa.G.Pure
open Go.RowKit Go.Proofs.Ytgfknljhogfeaaa.G Go.Proofs.YtgfknljhogfeaaaW.PrintWords Go.Proofs.YtgfknljhogfeaaaW.PrintLast Go.Proofs.YtgfknljhogfeaaaW.PrintMore
set_option linter.unusedVariables false
set_option linter.unusedSimpArgs false
abbrev Fl := S68
abbrev Sg := S61
def seeC (fs : List Fl) (x : List Int) : List Sg := x.map (spec_l05Sights.see fs)
structure ValidC (fs : List Fl) (ws : Ws) : Prop where
  nf : fs.length ≤ 40
  nw : ws.length ≤ 60
  len : ∀ x ∈ ws, 1 ≤ x.length ∧ x.length ≤ 8 ∧ x.length = (ws.getD 0 []).length
  mem : ∀ x ∈ ws, ∀ c ∈ x, 0 ≤ c ∧ c < (fs.length : Int)
  flag : ∀ f ∈ fs, ∀ c ∈ arrL68 f, 0 ≤ c ∧ c < 6
theorem validC {fs : List Fl} {ws : Ws} (h : okC fs ws = true) (hw : ∀ x ∈ ws, ∀ c ∈ x, 0 ≤ c ∧ c ≤ 255) (hf : ∀ f ∈ fs, ∀ c ∈ arrL68 f, 0 ≤ c) : ValidC fs ws := by
  unfold okC at h
  simp only [Bool.and_eq_true, List.all_eq_true, okS, spec_l05Ok.flag, spec_l05Ok.word, decide_eq_true_eq] at h
  obtain ⟨⟨⟨⟨h1, h2⟩, h3⟩, h4⟩, h5, h6⟩ := h
  refine ⟨h2, h3, fun x hx => ⟨(h4 x hx).1.2.1, (h4 x hx).1.2.2, (h4 x hx).2⟩, fun x hx c hc => ?_, fun f hf' c hc => ⟨hf f hf' c hc, ?_⟩⟩
  · have h7 := hw x hx c hc
    have h8 := h6 x hx c hc
    rw [w64 (by omega) (by omega)] at h8
    exact ⟨h7.1, h8⟩
  · have := h5 f hf' c hc
    omega
theorem rdF_mem {fs : List Fl} {c : Int} (h0 : 0 ≤ c) (h1 : c < (fs.length : Int)) : rd_T68 fs c ∈ fs := by
  obtain ⟨j, rfl⟩ : ∃ j : Nat, c = (j : Int) := ⟨c.toNat, by omega⟩
  have hj : j < fs.length := by omega
  unfold rd_T68
  rw [Int.toNat_natCast, List.getD_eq_getElem?_getD, List.getElem?_eq_getElem hj]
  exact List.getElem_mem hj
theorem flag_all {fs : List Fl} {ws : Ws} (hv : ValidC fs ws) {c : Int} (h0 : 0 ≤ c) (h1 : c < (fs.length : Int)) : (arrL68 (rd_T68 fs c)).all (fun d => decide (0 ≤ d) && decide (d < 6)) = true := by
  rw [List.all_eq_true]
  intro d hd
  have := hv.flag _ (rdF_mem h0 h1) d hd
  rw [decide_eq_true this.1, decide_eq_true this.2]
  rfl
theorem blur_at (x : Fl) (h : (arrL68 x).all (fun d => decide (0 ≤ d) && decide (d < 6)) = true) : impl_Flag_blur.f x.f0 x.f1 x.f2 x.f3 x.f4 x.f5 x.f6 x.f7 x.f8 x.f9 x.f10 x.f11 x.f12 x.f13 x.f14 x.f15 x.f16 x.f17 x.f18 x.f19 x.f20 x.f21 x.f22 x.f23 = some (oneB (arrL68 x) 0, oneB (arrL68 x) 1, oneB (arrL68 x) 2, oneB (arrL68 x) 3, oneB (arrL68 x) 4, oneB (arrL68 x) 5) := by
  show (if (arrL68 x).all (fun d => decide (0 ≤ d) && decide (d < 6)) = true then _ else none) = _
  rw [if_pos h]
  rfl
theorem implSights_eq {k : Nat} {fs : List Fl} {ws : Ws} (hv : ValidC fs ws) (ws' : Ws) {x : List Int} (hx : x ∈ ws) (hk : 100 < k) : impl_Code_sights.f k fs ws' x = some (seeC fs x) := by
  have hl := hv.len x hx
  have hm := hv.mem x hx
  unfold impl_Code_sights.f
  obtain ⟨r, hr, h⟩ := loop_inv (fun k (s : List Sg × Int) => impl_Code_sights.l0 k s.1 x (x.length : Int) s.2 fs ws') x.length (fun i s => s.2 = (i : Int) ∧ s.1 = (x.take i).map (spec_l05Sights.see fs)) (fun r => r = seeC fs x)
    (fun k i s hi ⟨h1, h2⟩ => by
      obtain ⟨acc, j⟩ := s
      simp only at h1 h2
      subst h1
      have hc := hm _ (List.getElem_mem hi)
      refine .inl ⟨(acc ++ [spec_l05Sights.see fs x[i]], ((i + 1 : Nat) : Int)), ⟨rfl, ?_⟩, ?_⟩
      · simp only
        rw [List.take_succ_eq_append_getElem hi, List.map_append, h2]
        rfl
      · simp only [impl_Code_sights.l0]
        rw [if_pos (by omega), if_pos (by omega), if_pos (by omega), rd_nat hi, if_pos hc.1, if_pos hc.2, blur_at _ (flag_all hv hc.1 hc.2)]
        simp only [Option.bind_some]
        have hal : acc.length ≤ 8 := by rw [h2, List.length_map, List.length_take]; omega
        rw [if_pos (by omega), w64 (by omega) (by omega)]
        rfl)
    (fun k s ⟨h1, h2⟩ => by
      obtain ⟨acc, j⟩ := s
      simp only at h1 h2
      subst h1
      refine ⟨acc, ?_, ?_⟩
      · rw [h2, List.take_length]
        rfl
      · simp only [impl_Code_sights.l0]
        rw [if_neg (by omega)]) k ([], 0) ⟨rfl, by simp⟩ (by omega)
  subst hr
  exact h
theorem specSights_eq {fs : List Fl} {ws : Ws} (hv : ValidC fs ws) {i : Nat} (hi : i < ws.length) : spec_l05Sights.f fs ws (i : Int) = some (seeC fs ws[i]) := by
  have hx := List.getElem_mem hi
  have hl := hv.len _ hx
  have hm := hv.mem _ hx
  unfold spec_l05Sights.f
  have ha : (ws[i]).all (spec_l05Sights.fits fs) = true := by
    rw [List.all_eq_true]
    intro c hc
    have h := hm c hc
    unfold spec_l05Sights.fits
    rw [decide_eq_true h.1, decide_eq_true h.2, flag_all hv h.1 h.2]
    rfl
  rw [rdX hi, if_pos ⟨by omega, by omega, by omega, ha⟩]
  rfl
theorem u8b {n : Int} (h : (Lit.int .u8 n).wf = true) : 0 ≤ n ∧ n ≤ 255 := by
  simp [Lit.wf, IntKind.min, IntKind.max, IntKind.signed, IntKind.bits] at h
  omega
theorem wordsW {ws : Ws} (h : ∀ x ∈ ws, (x.length ≤ 9223372036854775807 ∧ ∀ x_ ∈ x, (Lit.int .u8 x_).wf = true)) : ∀ x ∈ ws, ∀ c ∈ x, 0 ≤ c ∧ c ≤ 255 := fun x hx c hc => u8b ((h x hx).2 c hc)
theorem flagsW {s : List S67} (h : ∀ x ∈ s, (Lit.int .u8 x.f0).wf = true ∧ (Lit.int .u8 x.f1).wf = true ∧ (Lit.int .u8 x.f2).wf = true ∧ (Lit.int .u8 x.f3).wf = true ∧ (Lit.int .u8 x.f4).wf = true ∧ (Lit.int .u8 x.f5).wf = true ∧ (Lit.int .u8 x.f6).wf = true ∧ (Lit.int .u8 x.f7).wf = true ∧ (Lit.int .u8 x.f8).wf = true ∧ (Lit.int .u8 x.f9).wf = true ∧ (Lit.int .u8 x.f10).wf = true ∧ (Lit.int .u8 x.f11).wf = true ∧ (Lit.int .u8 x.f12).wf = true ∧ (Lit.int .u8 x.f13).wf = true ∧ (Lit.int .u8 x.f14).wf = true ∧ (Lit.int .u8 x.f15).wf = true ∧ (Lit.int .u8 x.f16).wf = true ∧ (Lit.int .u8 x.f17).wf = true ∧ (Lit.int .u8 x.f18).wf = true ∧ (Lit.int .u8 x.f19).wf = true ∧ (Lit.int .u8 x.f20).wf = true ∧ (Lit.int .u8 x.f21).wf = true ∧ (Lit.int .u8 x.f22).wf = true ∧ (Lit.int .u8 x.f23).wf = true) : ∀ f ∈ s.map laws_toFlagS.cv, ∀ c ∈ arrL68 f, 0 ≤ c := by
  intro f hf c hc
  obtain ⟨x, hx, rfl⟩ := List.mem_map.1 hf
  rw [show arrL68 (laws_toFlagS.cv x) = arrL67 x from rfl] at hc
  have hq := h x hx
  obtain ⟨q0, q1, q2, q3, q4, q5, q6, q7, q8, q9, q10, q11, q12, q13, q14, q15, q16, q17, q18, q19, q20, q21, q22, q23⟩ := hq
  simp only [arrL67, List.mem_cons, List.not_mem_nil, or_false] at hc
  rcases hc with rfl | rfl | rfl | rfl | rfl | rfl | rfl | rfl | rfl | rfl | rfl | rfl | rfl | rfl | rfl | rfl | rfl | rfl | rfl | rfl | rfl | rfl | rfl | rfl <;> exact (u8b (by assumption)).1
end Go.Proofs.Ytgfknljhogfeaaa.G.Pure
end

section
namespace Go.Proofs.Ytgfknljhogfeaaa.G.Pure
open Go.RowKit Go.Proofs.Ytgfknljhogfeaaa.G Go.Proofs.YtgfknljhogfeaaaW.PrintWords Go.Proofs.YtgfknljhogfeaaaW.PrintLast Go.Proofs.YtgfknljhogfeaaaW.PrintMore
set_option linter.unusedVariables false
set_option linter.unusedSimpArgs false
theorem farTo_eq (a b : List Sg) : ∀ i, impl_sightsApart.to a b i = spec_l05Far.to a b i
  | 0 => rfl
  | i + 1 => by
    show impl_sightsApart.to a b i + _ = spec_l05Far.to a b i + _
    rw [farTo_eq a b i]
def dstC (fs : List Fl) (seen : List Sg) (x : List Int) : Nat := spec_l05Far.to (seeC fs x) seen (seeC fs x).length
theorem specFar_eq {fs : List Fl} {seen : List Sg} {x : List Int} (h : x.length = seen.length) (h8 : x.length ≤ 8) : spec_l05Far.f (seeC fs x) seen = some ((dstC fs seen x : Nat) : Int) := by
  have hl : (seeC fs x).length = x.length := by unfold seeC; rw [List.length_map]
  unfold spec_l05Far.f
  rw [if_pos ⟨by omega, by omega⟩]
  rfl
theorem implFar_eq {fs : List Fl} {seen : List Sg} {x : List Int} (h : x.length = seen.length) (h8 : x.length ≤ 8) : impl_sightsApart.f (seeC fs x) seen = some ((dstC fs seen x : Nat) : Int) := by
  have hl : (seeC fs x).length = x.length := by unfold seeC; rw [List.length_map]
  unfold impl_sightsApart.f
  rw [if_pos ⟨by omega, by omega⟩, farTo_eq]
  rfl
def distN (fs : List Fl) (ws : Ws) (seen : List Sg) (i : Nat) : Nat := dstC fs seen (ws.getD i [])
def candN (D : Nat → Nat) (w : Int) (n : Nat) : List Int := ((List.range n).filter (fun i => decide ((D i : Int) ≤ w))).map (fun i : Nat => (i : Int))
theorem candN_succ (D : Nat → Nat) (w : Int) (n : Nat) : candN D w (n + 1) = if (D n : Int) ≤ w then candN D w n ++ [(n : Int)] else candN D w n := by
  unfold candN
  rw [List.range_succ, List.filter_append, List.map_append]
  by_cases h : (D n : Int) ≤ w
  · rw [if_pos h]
    simp [h]
  · rw [if_neg h]
    simp [h]
theorem candN_len (D : Nat → Nat) (w : Int) (n : Nat) : (candN D w n).length ≤ n := by
  unfold candN
  rw [List.length_map]
  have := List.length_filter_le (fun i => decide ((D i : Int) ≤ w)) (List.range n)
  rw [List.length_range] at this
  exact this
theorem implCand_eq {k : Nat} {fs : List Fl} {ws : Ws} {seen : List Sg} (hv : ValidC fs ws) (hs : ∀ x ∈ ws, x.length = seen.length) (w : Int) (hk : 200 < k) : impl_Code_candidates.f k fs ws seen w = some (candN (distN fs ws seen) w ws.length) := by
  have hn := hv.nw
  unfold impl_Code_candidates.f
  obtain ⟨r, hr, h⟩ := loop_inv2 (fun k (s : List Int × Int) => impl_Code_candidates.l0 k seen w s.1 ws (ws.length : Int) s.2 fs ws) ws.length 101 (fun i s => s.2 = (i : Int) ∧ s.1 = candN (distN fs ws seen) w i) (fun r => r = candN (distN fs ws seen) w ws.length)
    (fun k i s hi hk ⟨h1, h2⟩ => by
      obtain ⟨acc, j⟩ := s
      simp only at h1 h2
      subst h1
      have hx := List.getElem_mem hi
      have hd : dstC fs seen ws[i] = distN fs ws seen i := by
        unfold distN
        rw [List.getD_eq_getElem?_getD, List.getElem?_eq_getElem hi]
        rfl
      refine .inl ⟨(candN (distN fs ws seen) w (i + 1), ((i + 1 : Nat) : Int)), ⟨rfl, rfl⟩, ?_⟩
      simp only [impl_Code_candidates.l0]
      rw [if_pos (by omega), if_pos (by omega), if_pos (by omega), rdX hi, implSights_eq hv ws hx (by omega)]
      simp only [Option.bind_some]
      rw [implFar_eq (hs _ hx) (hv.len _ hx).2.1, hd, candN_succ]
      simp only [Option.bind_some]
      have hal := candN_len (distN fs ws seen) w i
      rw [w64 (by omega) (by omega)]
      by_cases hc : ((distN fs ws seen i : Nat) : Int) ≤ w
      · rw [if_pos hc, if_pos hc, h2, if_pos (by omega)]
        rfl
      · rw [if_neg hc, if_neg hc, h2]
        rfl)
    (fun k s hk ⟨h1, h2⟩ => by
      obtain ⟨acc, j⟩ := s
      simp only at h1 h2
      subst h1
      refine ⟨acc, h2, ?_⟩
      simp only [impl_Code_candidates.l0]
      rw [if_neg (by omega)]) k ([], 0) ⟨rfl, rfl⟩ (by omega)
  subst hr
  exact h
theorem specCand_eq {k : Nat} {fs : List Fl} {ws : Ws} {seen : List Sg} (hv : ValidC fs ws) (hs : ∀ x ∈ ws, x.length = seen.length) (w : Int) (hk : 200 < k) : spec_CandidatesFor.l0 k seen w [] 0 fs ws = some (candN (distN fs ws seen) w ws.length, 0) := by
  have hn := hv.nw
  obtain ⟨r, hr, h⟩ := loop_inv2 (fun k (s : List Int × Int) => spec_CandidatesFor.l0 k seen w s.1 s.2 fs ws) ws.length 101 (fun i s => s.2 = (i : Int) ∧ s.1 = candN (distN fs ws seen) w i) (fun r => r = (candN (distN fs ws seen) w ws.length, (0 : Int)))
    (fun k i s hi hk ⟨h1, h2⟩ => by
      obtain ⟨acc, j⟩ := s
      simp only at h1 h2
      subst h1
      have hx := List.getElem_mem hi
      have hd : dstC fs seen ws[i] = distN fs ws seen i := by
        unfold distN
        rw [List.getD_eq_getElem?_getD, List.getElem?_eq_getElem hi]
        rfl
      refine .inl ⟨(candN (distN fs ws seen) w (i + 1), ((i + 1 : Nat) : Int)), ⟨rfl, rfl⟩, ?_⟩
      simp only [spec_CandidatesFor.l0]
      rw [if_pos (by omega), specSights_eq hv hi]
      simp only [Option.bind_some]
      rw [specFar_eq (hs _ hx) (hv.len _ hx).2.1, hd, candN_succ]
      simp only [Option.bind_some]
      have hal := candN_len (distN fs ws seen) w i
      rw [w64 (by omega) (by omega)]
      by_cases hc : ((distN fs ws seen i : Nat) : Int) ≤ w
      · rw [if_pos hc, if_pos hc, h2, if_pos (by omega)]
        rfl
      · rw [if_neg hc, if_neg hc, h2]
        rfl)
    (fun k s hk ⟨h1, h2⟩ => by
      obtain ⟨acc, j⟩ := s
      simp only at h1 h2
      subst h1
      refine ⟨(acc, 0), by rw [h2], ?_⟩
      simp only [spec_CandidatesFor.l0]
      rw [if_neg (by omega)]) k ([], 0) ⟨rfl, rfl⟩ (by omega)
  subst hr
  exact h
def seenOk (seen : List Sg) : Bool := seen.all spec_l05Seen.ok
theorem areSights_eq (seen : List Sg) : impl_areSights.f seen = some (seenOk seen) := by
  have e1 : slices_ContainsFunc_Sight_Sight__impl_areSights_1.f seen = some (seen.any fun x => !spec_l05Seen.ok x) := anyO_eq fun x _ => by
    show some ((arrL61 x).any fun c => decide (c ≥ 6)) = _
    unfold spec_l05Seen.ok
    rw [List.not_all_eq_any_not]
    congr 2
    funext c
    by_cases h : c ≤ 5
    · rw [decide_eq_true h, decide_eq_false (by omega)]; rfl
    · rw [decide_eq_false h, decide_eq_true (by omega)]; rfl
  unfold impl_areSights.f
  rw [e1]
  simp only [Option.bind_some, Option.some.injEq]
  rw [List.not_any_eq_all_not]
  unfold seenOk
  simp
def fitC (ws : Ws) (seen : List Sg) : Bool := decide (ws.length = 0) || decide (seen.length = (ws.getD 0 []).length)
theorem fitC_all {fs : List Fl} {ws : Ws} {seen : List Sg} (hv : ValidC fs ws) (h : fitC ws seen = true) : ∀ x ∈ ws, x.length = seen.length := fun x hx => by
  unfold fitC at h
  simp only [Bool.or_eq_true, decide_eq_true_eq] at h
  rcases h with h | h
  · have := List.length_pos_of_mem hx
    omega
  · rw [(hv.len x hx).2.2, h]
def resC (fs : List Fl) (ws : Ws) (seen : List Sg) (w : Int) : List Int × Int := if okC fs ws = true ∧ seenOk seen = true then (if (0 ≤ w ∧ w ≤ 48) ∧ fitC ws seen = true then (candN (distN fs ws seen) w ws.length, 0) else ([], 2)) else ([], 1)
theorem isSeen_eq (fs : List Fl) (ws : Ws) (seen : List Sg) : impl_Code_isSeen.f fs ws seen = some (fitC ws seen) := by
  unfold impl_Code_isSeen.f fitC
  by_cases h : (ws.length : Int) = 0
  · rw [if_pos h, decide_eq_true (show ws.length = 0 by omega)]
    rfl
  · rw [if_neg h, if_pos (by omega), decide_eq_false (show ¬ ws.length = 0 by omega), Bool.false_or]
    have h0 : rd_L2 ws 0 = ws.getD 0 [] := rfl
    rw [h0]
    generalize (ws.getD 0 []).length = m
    congr 1
    by_cases he : seen.length = m
    · rw [he]; simp
    · rw [decide_eq_false he, beq_eq_false_iff_ne.2 (show ¬ (seen.length : Int) = (m : Int) by omega)]
theorem implCandFor_eq {k : Nat} {fs : List Fl} {ws : Ws} {seen : List Sg} (hw : ∀ x ∈ ws, ∀ c ∈ x, 0 ≤ c ∧ c ≤ 255) (hf : ∀ f ∈ fs, ∀ c ∈ arrL68 f, 0 ≤ c) (w : Int) (hk : 1000 < k) : impl_CandidatesFor.f k fs ws seen w = some (resC fs ws seen w) := by
  obtain ⟨k, rfl⟩ : ∃ m, k = m + 1 := ⟨k - 1, by omega⟩
  unfold impl_CandidatesFor.f resC
  rw [implOk_eq hw]
  simp only [Option.bind_some]
  cases hok : okC fs ws
  · simp [impl_CandidatesFor.j0]
  · have hv := validC hok hw hf
    rw [if_pos rfl, areSights_eq]
    simp only [Option.bind_some]
    cases hso : seenOk seen
    · simp [impl_CandidatesFor.j0]
    · simp only [impl_CandidatesFor.j0, Bool.not_true, Bool.false_eq_true, if_false, and_self, if_true]
      unfold impl_within.f
      rw [isSeen_eq]
      by_cases h0 : 0 ≤ w
      · rw [if_pos h0]
        simp only [Option.bind_some]
        by_cases h1 : w ≤ 48
        · rw [if_pos (decide_eq_true h1)]
          cases hfit : fitC ws seen
          · simp
          · rw [if_pos rfl, implCand_eq hv (fitC_all hv hfit) w (by omega), if_pos ⟨⟨h0, h1⟩, rfl⟩]
            rfl
        · rw [if_neg (by simp; omega), if_neg (by omega)]
      · rw [if_neg h0, if_neg (by omega)]
        rfl
theorem specCandFor_eq {k : Nat} {fs : List Fl} {ws : Ws} {seen : List Sg} (hl : ws.length ≤ 1048576) (hi : ∀ x ∈ ws, x.length ≤ 1048576) (hw : ∀ x ∈ ws, ∀ c ∈ x, 0 ≤ c ∧ c ≤ 255) (hf : ∀ f ∈ fs, ∀ c ∈ arrL68 f, 0 ≤ c) (w : Int) (hk : 2200002 < k) : spec_CandidatesFor.f k fs ws seen w = some (resC fs ws seen w) := by
  obtain ⟨k, rfl⟩ : ∃ m, k = m + 2 := ⟨k - 2, by omega⟩
  unfold spec_CandidatesFor.f resC
  rw [specOk_eq hl hi (by omega)]
  simp only [Option.bind_some]
  cases hok : okC fs ws
  · simp [spec_CandidatesFor.j0]
  · have hv := validC hok hw hf
    rw [if_pos rfl]
    unfold spec_l05Seen.f
    rw [show seen.all spec_l05Seen.ok = seenOk seen from rfl]
    simp only [Option.bind_some]
    cases hso : seenOk seen
    · simp [spec_CandidatesFor.j0]
    · simp only [spec_CandidatesFor.j0, Bool.not_true, Bool.false_eq_true, if_false, and_self, if_true]
      unfold spec_l00In.f
      have hj : ∀ b, spec_CandidatesFor.j1 (k + 1) seen w b fs ws = if b = true then some ([], 2) else spec_CandidatesFor.l0 k seen w [] 0 fs ws := fun b => by
        simp only [spec_CandidatesFor.j1]
      have h00 : rd_L2 ws 0 = ws.getD 0 [] := rfl
      by_cases h0 : w ≥ 0
      · rw [if_pos h0]
        simp only [Option.bind_some]
        by_cases h1 : w ≤ 48
        · rw [if_pos (decide_eq_true h1)]
          have hcond : (if (ws.length : Int) > 0 then (if 0 < (ws.length : Int) then spec_CandidatesFor.j1 (k + 1) seen w ((seen.length : Int) != ((rd_L2 ws 0).length : Int)) fs ws else none) else spec_CandidatesFor.j1 (k + 1) seen w false fs ws) = spec_CandidatesFor.j1 (k + 1) seen w (!fitC ws seen) fs ws := by
            unfold fitC
            rw [h00]
            by_cases hp : (ws.length : Int) > 0
            · rw [if_pos hp, if_pos hp, decide_eq_false (show ¬ ws.length = 0 by omega), Bool.false_or]
              congr 1
              generalize (ws.getD 0 []).length = m
              by_cases he : seen.length = m
              · rw [he]; simp
              · rw [decide_eq_false he, bne_iff_ne.2 (show ¬ (seen.length : Int) = (m : Int) by omega)]; rfl
            · rw [if_neg hp, decide_eq_true (show ws.length = 0 by omega)]
              rfl
          rw [hcond, hj]
          cases hfit : fitC ws seen
          · simp
          · rw [if_neg (by decide), specCand_eq hv (fitC_all hv hfit) w (by omega), if_pos ⟨⟨by omega, h1⟩, rfl⟩]
        · rw [if_neg (by simp; omega), if_neg (by omega), hj]
          rfl
      · rw [if_neg h0]
        simp only [Option.bind_some]
        rw [if_neg (by decide), hj, if_pos rfl, if_neg (show ¬ ((0 ≤ w ∧ w ≤ 48) ∧ fitC ws seen = true) from fun h => h0 h.1.1)]
theorem resC_len {fs : List Fl} {ws : Ws} {seen : List Sg} {w : Int} (hl : ws.length ≤ 1048576) : (resC fs ws seen w).1.length ≤ 1048576 := by
  unfold resC
  have := candN_len (distN fs ws seen) w ws.length
  split
  · split
    · simp only; omega
    · simp
  · simp
theorem toSightS_eq (s : List S60) (h : s.length ≤ 1048576) : laws_toSightS.f s = some (s.map laws_toSightS.cv) := by
  unfold laws_toSightS.f
  rw [if_pos (by omega)]
theorem szSightS_eq (s : List S60) (a : Int) (h0 : 0 ≤ a) (h1 : a ≤ 1048576) (hs : s.length ≤ 9223372036854775807) : laws_szSightS.f s a = some (if a - (s.length : Int) < 0 then -1 else a - (s.length : Int)) := by
  unfold laws_szSightS.f
  rw [w64 (by omega) (by omega)]
  split <;> rfl
end Go.Proofs.Ytgfknljhogfeaaa.G.Pure
end

section
namespace Go.Proofs.Ytgfknljhogfeaaa.G.Pure
open Go.RowKit Go.Proofs.Ytgfknljhogfeaaa.G Go.Proofs.YtgfknljhogfeaaaW.PrintWords Go.Proofs.YtgfknljhogfeaaaW.PrintLast Go.Proofs.YtgfknljhogfeaaaW.PrintMore
set_option linter.unusedVariables false
set_option linter.unusedSimpArgs false
theorem eqInt64S_self (k : Nat) (a : List Int) (hl : a.length ≤ 1048576) (hk : a.length < k) : laws_eqInt64S.f k a a = some true := by
  unfold laws_eqInt64S.f
  rw [if_pos rfl]
  obtain ⟨r, hr, h⟩ := loop_inv (fun k (s : Int) => laws_eqInt64S.l0 k a a s) a.length (fun i s => s = (i : Int)) (fun r => r = true)
    (fun k i s hi h1 => by
      subst h1
      refine .inl ⟨((i + 1 : Nat) : Int), rfl, ?_⟩
      simp only [laws_eqInt64S.l0]
      rw [if_pos (by omega), if_pos (by omega), if_pos (by omega), if_pos trivial, w64 (by omega) (by omega)]
      rfl)
    (fun k s h1 => by
      subst h1
      refine ⟨true, rfl, ?_⟩
      simp only [laws_eqInt64S.l0]
      rw [if_neg (by omega)]) k 0 rfl hk
  subst hr
  exact h
theorem markInt64S_held (k : Nat) (a : List Int) (hl : a.length ≤ 1048576) (hk : a.length < k) : ∃ l m, laws_markInt64S.f k a 1 = some (m, l) ∧ (∀ k', a.length < k' → laws_heldInt64S.f k' l 1 = some m) ∧ 0 ≤ m := by
  obtain ⟨r, ⟨h1, h2, h3⟩, h⟩ := loop_inv (fun k (s : List Int × Int × Int) => laws_markInt64S.l0 k s.1 s.2.1 s.2.2) a.length
    (fun i s => s.2.2 = (i : Int) ∧ s.2.1 = 1 + (i : Int) ∧ s.1.length = a.length ∧ ∀ j (h : j < s.1.length), j < i → s.1[j] = 1 + (j : Int))
    (fun r => r.1 = 1 + (a.length : Int) ∧ r.2.length = a.length ∧ ∀ j (h : j < r.2.length), r.2[j] = 1 + (j : Int))
    (fun k i s hi ⟨h1, h2, h3, h4⟩ => by
      obtain ⟨acc, m, x⟩ := s
      simp only at h1 h2 h3 h4
      subst h1 h2
      refine .inl ⟨(acc.set i (1 + (i : Int)), 1 + ((i + 1 : Nat) : Int), ((i + 1 : Nat) : Int)), ⟨rfl, rfl, by simpa using h3, fun j hj hji => ?_⟩, ?_⟩
      · simp only [List.getElem_set]
        split
        · rename_i e; subst e; rfl
        · simp only [List.length_set] at hj
          exact h4 j hj (by omega)
      · simp only [laws_markInt64S.l0]
        rw [if_pos (by omega), if_pos (by omega), w64 (n := 1 + (i : Int) + 1) (by omega) (by omega), w64 (n := (i : Int) + 1) (by omega) (by omega), Int.toNat_natCast]
        rw [show 1 + (i : Int) + 1 = 1 + ((i + 1 : Nat) : Int) by omega]
        rfl)
    (fun k s ⟨h1, h2, h3, h4⟩ => by
      obtain ⟨acc, m, x⟩ := s
      simp only at h1 h2 h3 h4
      subst h1 h2
      refine ⟨(1 + (a.length : Int), acc), ⟨rfl, h3, fun j hj => h4 j hj (by rw [← h3]; exact hj)⟩, ?_⟩
      simp only [laws_markInt64S.l0]
      rw [if_neg (by omega)]) k (a, 1, 0) ⟨rfl, rfl, rfl, fun j _ h => absurd h (Nat.not_lt_zero _)⟩ hk
  obtain ⟨m, l⟩ := r
  simp only at h1 h2 h3
  refine ⟨l, m, h, fun k' hk' => ?_, by omega⟩
  obtain ⟨r, hr, h'⟩ := loop_inv (fun k (s : Int × Int) => laws_heldInt64S.l0 k l s.1 s.2) l.length (fun i s => s.2 = (i : Int) ∧ s.1 = 1 + (i : Int)) (fun r => r = m)
    (fun k i s hi ⟨g1, g2⟩ => by
      obtain ⟨m', x⟩ := s
      simp only at g1 g2
      subst g1 g2
      refine .inl ⟨(1 + ((i + 1 : Nat) : Int), ((i + 1 : Nat) : Int)), ⟨rfl, rfl⟩, ?_⟩
      simp only [laws_heldInt64S.l0]
      rw [if_pos (by omega), if_pos (by omega), rd_nat hi, h3 i hi, if_pos rfl, w64 (n := 1 + (i : Int) + 1) (by omega) (by omega), w64 (n := (i : Int) + 1) (by omega) (by omega)]
      rw [show 1 + (i : Int) + 1 = 1 + ((i + 1 : Nat) : Int) by omega]
      rfl)
    (fun k s ⟨g1, g2⟩ => by
      obtain ⟨m', x⟩ := s
      simp only at g1 g2
      subst g1 g2
      refine ⟨m, rfl, ?_⟩
      simp only [laws_heldInt64S.l0]
      rw [if_neg (by omega), h1, h2]) k' (1, 0) ⟨rfl, rfl⟩ (by omega)
  subst hr
  exact h'
end Go.Proofs.Ytgfknljhogfeaaa.G.Pure
end

section
namespace Go.Proofs.Ytgfknljhogfeaaa.G.Pure
open Go.RowKit Go.Proofs.Ytgfknljhogfeaaa.G Go.Proofs.YtgfknljhogfeaaaW.PrintWords Go.Proofs.YtgfknljhogfeaaaW.PrintLast Go.Proofs.YtgfknljhogfeaaaW.PrintMore
set_option linter.unusedVariables false
set_option linter.unusedSimpArgs false
theorem FnExactCandidatesFor (l0_0 : List S67) (l0_1 : List (List Int)) (l1 : List S60) (a2 : Int) (h00 : l0_0.length ≤ 9223372036854775807) (h01 : (∀ x ∈ l0_0, (Lit.int .u8 x.f0).wf = true ∧ (Lit.int .u8 x.f1).wf = true ∧ (Lit.int .u8 x.f2).wf = true ∧ (Lit.int .u8 x.f3).wf = true ∧ (Lit.int .u8 x.f4).wf = true ∧ (Lit.int .u8 x.f5).wf = true ∧ (Lit.int .u8 x.f6).wf = true ∧ (Lit.int .u8 x.f7).wf = true ∧ (Lit.int .u8 x.f8).wf = true ∧ (Lit.int .u8 x.f9).wf = true ∧ (Lit.int .u8 x.f10).wf = true ∧ (Lit.int .u8 x.f11).wf = true ∧ (Lit.int .u8 x.f12).wf = true ∧ (Lit.int .u8 x.f13).wf = true ∧ (Lit.int .u8 x.f14).wf = true ∧ (Lit.int .u8 x.f15).wf = true ∧ (Lit.int .u8 x.f16).wf = true ∧ (Lit.int .u8 x.f17).wf = true ∧ (Lit.int .u8 x.f18).wf = true ∧ (Lit.int .u8 x.f19).wf = true ∧ (Lit.int .u8 x.f20).wf = true ∧ (Lit.int .u8 x.f21).wf = true ∧ (Lit.int .u8 x.f22).wf = true ∧ (Lit.int .u8 x.f23).wf = true)) (h10 : l0_1.length ≤ 9223372036854775807) (h11 : (∀ x ∈ l0_1, (x.length ≤ 9223372036854775807 ∧ ∀ x_ ∈ x, (Lit.int .u8 x_).wf = true))) (h20 : l1.length ≤ 9223372036854775807) (h21 : (∀ x ∈ l1, (Lit.int .u8 x.f0).wf = true ∧ (Lit.int .u8 x.f1).wf = true ∧ (Lit.int .u8 x.f2).wf = true ∧ (Lit.int .u8 x.f3).wf = true ∧ (Lit.int .u8 x.f4).wf = true ∧ (Lit.int .u8 x.f5).wf = true)) (h30 : (Lit.int .i64 a2).wf = true) : ∃ k, laws_FnExactCandidatesFor.f k l0_0 l0_1 l1 a2 = some true := by
  obtain ⟨k, hk⟩ : ∃ k, 3000000 < k := ⟨_, Nat.lt_succ_self _⟩
  refine ⟨k + 4, ?_⟩
  unfold laws_FnExactCandidatesFor.f
  obtain ⟨n, hn, hc⟩ := szCode_cases (k := k + 4) l0_0 l0_1 h00 h10 (fun x hx => (h11 x hx).1) (by omega)
  rw [hn]
  simp only [Option.bind_some]
  rcases hc with hc | ⟨h1, h2, h3, h4, h5⟩
  · rw [if_pos hc]
  · rw [if_neg (by omega), szSightS_eq l1 n h1 h2 h20]
    simp only [Option.bind_some]
    by_cases hs : n - (l1.length : Int) < 0
    · rw [if_pos hs, if_pos (by omega)]
    · rw [if_neg hs, if_neg hs]
      have hl1 : l1.length ≤ 1048576 := by omega
      have hw := wordsW h11
      have hf := flagsW h01
      have e1 := fun j => toCode_eq (k := k + j) h3 h4 h5 (by omega)
      have e2 := toSightS_eq l1 hl1
      have q1 := fun j => eqCode_self (k := k + j) (fs := l0_0.map laws_toFlagS.cv) h4 h5 (by omega)
      have q2 := eqSightS_self (l1.map laws_toSightS.cv)
      have s1 := fun j => specCandFor_eq (k := k + j) (seen := l1.map laws_toSightS.cv) h4 h5 hw hf a2 (by omega)
      have i1 := fun j => implCandFor_eq (k := k + j) (seen := l1.map laws_toSightS.cv) hw hf a2 (by omega)
      obtain ⟨m, x, y, hm, hm0, hm9⟩ := markCode_pos (k := k + 3) (fs := l0_0.map laws_toFlagS.cv) (by simpa using h3) h4 h5 (by omega)
      obtain ⟨u, m2, hm2, _, hm20⟩ := markSightS_held (l1.map laws_toSightS.cv) m hm0 (by omega) (by simpa using hl1)
      have hlen := resC_len (fs := l0_0.map laws_toFlagS.cv) (ws := l0_1) (seen := l1.map laws_toSightS.cv) (w := a2) h4
      obtain ⟨l, m', ha, hb, hm5⟩ := markInt64S_held (k + 2) (resC (l0_0.map laws_toFlagS.cv) l0_1 (l1.map laws_toSightS.cv) a2).1 hlen (by omega)
      have hb0 := hb (k + 1) (by omega)
      have hb1 := hb (k + 2) (by omega)
      have t1 := fun j => eqInt64S_self (k + j) (resC (l0_0.map laws_toFlagS.cv) l0_1 (l1.map laws_toSightS.cv) a2).1 hlen (by omega)
      generalize resC (l0_0.map laws_toFlagS.cv) l0_1 (l1.map laws_toSightS.cv) a2 = res at *
      generalize l0_0.map laws_toFlagS.cv = fs at *
      generalize l1.map laws_toSightS.cv = sn at *
      simp [laws_FnExactCandidatesFor.j0, laws_FnExactCandidatesFor.j1, laws_FnExactCandidatesFor.j2, e1, e2, q1, q2, s1, i1, t1, hm, hm2, ha, hb0, hb1, Int.not_lt.2 hm0, Int.not_lt.2 hm20, Int.not_lt.2 hm5]
end Go.Proofs.Ytgfknljhogfeaaa.G.Pure
end
