/- FnExactCandidatesFor: for every input the law returns true, and what came in reads as it did. No condition. -/
import Derived.Test.YtgfknljhogfeaaaRows
import Derived.WalkKit
import Derived.ProofKit
import Derived.OpenShut
import Derived.ShutString
import Derived.ChangeOld
import Derived.Below
import Derived.SizedLaws
import Derived.Test.YtgfknljhogfeaaaMFnExactCandidatesFor0
import Derived.Test.YtgfknljhogfeaaaMFnExactCandidatesFor1
import Derived.Test.YtgfknljhogfeaaaMFnExactCandidatesFor2
import Derived.Test.YtgfknljhogfeaaaMFnExactCandidatesFor3
namespace Go.Proofs.Ytgfknljhogfeaaa.fnExactCandidatesFor
open Go.ChangeShapes Go.WideShapes Go.ChangeAt Go.RowKit Go.Proofs.YtgfknljhogfeaaaW.PrintWords
open Go.ChangeMaps (open_string shut_string)
set_option linter.unusedVariables false
theorem own : ownKnob Try.prog.godebug = none := by kernel_rfl
theorem laidOut : laidOutB Try.prog = true := by kernel_rfl
set_option maxRecDepth 100000 in
theorem lifted (os : Os) (started : os.Started) (H : Type) (enc : TypeId × Value → H) :
    ReturnsInHanded {} Try.checked os 6 .any (Rows.fnExactCandidatesForSpec.pre6 enc Try.prog Try.f6 Rows.fnExactCandidatesForRow.domain false) (Rows.fnExactCandidatesForSpec.post enc Try.prog Try.f6 false true false false) := by
  refine returnsInHanded_of_change_sized (C := Try.checked) own started (by kernel_rfl) Try.func6
    (ChangeSpec.witness6 (enc := enc) (C := Try.checked) false ⟨#[], #[.agg #[(.slice none 0 0), (.slice none 0 0)], .slice none 0 0, .int .i64 0], []⟩ 8 (by kernel_rfl) (by kernel_rfl) (by kernel_rfl) (by kernel_rfl)) ?_
  intro W base args ds gs before hval0 hW hcnd hsz0 _
  have hsz : (DataW.weightsEach Try.prog (Try.f6.params.toList ++ Rows.fnExactCandidatesForSpec.plain.varTypes Try.prog) (ds ++ gs)).all (· ≤ reachBytes) = true := hsz0
  have hval : ∀ (j : Nat) t v, Try.f6.params[j]? = some t → args[j]? = some v → Value.okWide Try.prog W .any base t v := hval0
  have hW' := hW
  obtain ⟨p, q, hA0, hV, rfl, hfz, hnd⟩ := hW
  have hA : DataW.TrodAll enc Try.prog W 0 (fun _ => true) true Try.f6.params.toList args.toList ds p := hA0
  rw [Try.params6] at hA hval hsz
  obtain ⟨v0, vs0, d0, ds0, p0, q0, hargs, rfl, rfl, h0, r0⟩ := trodAll_cons hA
  obtain ⟨v1, vs1, d1, ds1, p1, q1, rfl, rfl, rfl, h1, r1⟩ := trodAll_cons r0
  obtain ⟨v2, vs2, d2, ds2, p2, q2, rfl, rfl, rfl, h2, r2⟩ := trodAll_cons r1
  obtain ⟨rfl, rfl, rfl⟩ := trodAll_nil r2
  obtain rfl : args = #[v0, v1, v2] := by cases args; simp_all
  obtain ⟨rfl, rfl⟩ := trodVars_none hV
  obtain ⟨cs0, rfl, _⟩ := okWide_struct Try.underlying25 (hval 0 25 v0 rfl rfl)
  have k0 := h0
  have lt0 : ∀ x ∈ p0, x.block < W.heap.size := by obtain ⟨m, hm⟩ := k0; exact DataW.trod_lt m _ _ _ hm
  obtain ⟨l0_0, l0_1, A0_0, c0_0, A0_1, c0_1, e0, hc0_0, hr0_0, hc0_1, hr0_1, hw0⟩ : ∃ (l0_0 : List (G.S67)) (l0_1 : List (List Int)) (A0_0 : Option Addr) (c0_0 : Nat) ( A0_1 : Option Addr) (c0_1 : Nat), cs0 = #[.slice A0_0 l0_0.length c0_0, .slice A0_1 l0_1.length c0_1] ∧ l0_0.length ≤ c0_0 ∧ Kd.C G.k67 W A0_0 l0_0.length l0_0 ∧ l0_1.length ≤ c0_1 ∧ Kd.C (Kd.slice 5 (Kd.int .u8)) W A0_1 l0_1.length l0_1 ∧ ((l0_0.length ≤ 9223372036854775807 ∧ ∀ x0_0_ ∈ l0_0, (Lit.int .u8 x0_0_.f0).wf = true ∧ (Lit.int .u8 x0_0_.f1).wf = true ∧ (Lit.int .u8 x0_0_.f2).wf = true ∧ (Lit.int .u8 x0_0_.f3).wf = true ∧ (Lit.int .u8 x0_0_.f4).wf = true ∧ (Lit.int .u8 x0_0_.f5).wf = true ∧ (Lit.int .u8 x0_0_.f6).wf = true ∧ (Lit.int .u8 x0_0_.f7).wf = true ∧ (Lit.int .u8 x0_0_.f8).wf = true ∧ (Lit.int .u8 x0_0_.f9).wf = true ∧ (Lit.int .u8 x0_0_.f10).wf = true ∧ (Lit.int .u8 x0_0_.f11).wf = true ∧ (Lit.int .u8 x0_0_.f12).wf = true ∧ (Lit.int .u8 x0_0_.f13).wf = true ∧ (Lit.int .u8 x0_0_.f14).wf = true ∧ (Lit.int .u8 x0_0_.f15).wf = true ∧ (Lit.int .u8 x0_0_.f16).wf = true ∧ (Lit.int .u8 x0_0_.f17).wf = true ∧ (Lit.int .u8 x0_0_.f18).wf = true ∧ (Lit.int .u8 x0_0_.f19).wf = true ∧ (Lit.int .u8 x0_0_.f20).wf = true ∧ (Lit.int .u8 x0_0_.f21).wf = true ∧ (Lit.int .u8 x0_0_.f22).wf = true ∧ (Lit.int .u8 x0_0_.f23).wf = true) ∧ (l0_1.length ≤ 9223372036854775807 ∧ ∀ x0_1_ ∈ l0_1, (x0_1_.length ≤ 9223372036854775807 ∧ ∀ x0_1__ ∈ x0_1_, (Lit.int .u8 x0_1__).wf = true))) := by
    obtain ⟨m, hm⟩ := h0
    obtain ⟨x, hK, hw⟩ := G.op25.op hm
    obtain ⟨A0, c0, A1, c1, e, g0, r0_, g1, r1_⟩ := G.k25_open hK
    exact ⟨x.f0, x.f1, A0, c0, A1, c1, Array.ext' e, g0, r0_, g1, r1_, hw⟩
  subst e0
  obtain ⟨a1, len1, cap1, rfl⟩ := okWide_slice Try.underlying43 (hval 1 43 v1 rfl rfl)
  have k1 := h1
  have lt1 : ∀ x ∈ p1, x.block < W.heap.size := by obtain ⟨m, hm⟩ := k1; exact DataW.trod_lt m _ _ _ hm
  obtain ⟨l1, e1, hc1, hr1, hw1⟩ : ∃ l : List (G.S60), len1 = l.length ∧ l.length ≤ cap1 ∧ Kd.C G.k60 W a1 l.length l ∧ (∀ x ∈ l, (Lit.int .u8 x.f0).wf = true ∧ (Lit.int .u8 x.f1).wf = true ∧ (Lit.int .u8 x.f2).wf = true ∧ (Lit.int .u8 x.f3).wf = true ∧ (Lit.int .u8 x.f4).wf = true ∧ (Lit.int .u8 x.f5).wf = true) := by
    obtain ⟨m, hm⟩ := h1
    obtain ⟨l, ⟨A', c', e, hl, hC⟩, hw⟩ := G.op43.op hm
    simp [Value.cells] at e
    obtain ⟨rfl, rfl, rfl⟩ := e
    exact ⟨l, rfl, hl, hC, hw.2⟩
  subst e1
  obtain ⟨a2, rfl, rfl, rfl, w2⟩ := open_int Try.underlying2 (hval 2 2 v2 rfl rfl) h2
  clear hA0 hval0 hsz0 hsz
  obtain ⟨k, hk⟩ := G.Pure.FnExactCandidatesFor l0_0 l0_1 l1 a2 hw0.1.1 hw0.1.2 hw0.2.1 hw0.2.2 hr1.2.1 hw1 w2
  refine (G.laws_FnExactCandidatesFor.calls k _ _ l0_0 _ _ l0_1 _ _ l1 a2 true W hr0_0 hc0_0 hr0_1 hc0_1 hr1 hc1 hk).mono fun e W' ⟨he, bel0⟩ => ?_
  have bel : Below W.heap.size W W' := bel0
  subst he
  exact ⟨_, rfl, _, _, _, [], _, [], hW', trodAll_mk1 (shut_bool Try.underlying4 _), (trodAll_cons_mk (Below.trod laidOut (by kernel_rfl) (of_decide_eq_true (by kernel_rfl)) k0 bel lt0) (trodAll_cons_mk (Below.trod laidOut (by kernel_rfl) (of_decide_eq_true (by kernel_rfl)) k1 bel lt1) (trodAll_cons_mk (shut_int Try.underlying2 w2) trodAll_mk0))), rfl, bel.frame _, fun h => by cases h⟩
set_option maxHeartbeats 4000000 in
theorem joined : joinedFacts Try.pinned.checked.prog 6 Try.f6 Rows.fnExactCandidatesForSpec Rows.fnExactCandidatesForRow = true := by
  unfold joinedFacts
  simp only [Bool.and_eq_true]
  refine ⟨⟨⟨⟨⟨⟨⟨⟨⟨⟨⟨⟨⟨⟨⟨⟨⟨⟨⟨⟨⟨⟨⟨⟨⟨⟨⟨⟨⟨⟨⟨?_, ?_⟩, ?_⟩, ?_⟩, ?_⟩, ?_⟩, ?_⟩, ?_⟩, ?_⟩, ?_⟩, ?_⟩, ?_⟩, ?_⟩, ?_⟩, ?_⟩, ?_⟩, ?_⟩, ?_⟩, ?_⟩, ?_⟩, ?_⟩, ?_⟩, ?_⟩, ?_⟩, ?_⟩, ?_⟩, ?_⟩, ?_⟩, ?_⟩, ?_⟩, ?_⟩, ?_⟩
  all_goals (as_aux_lemma => kernel_rfl)
theorem over : Rows.fnExactCandidatesForRow.holds Try.pinned (OpenSpec.ofChange Rows.fnExactCandidatesForSpec) :=
  OpenClaim.holds_of_wide 6 Try.f6 rfl rfl rfl rfl rfl rfl rfl ⟨rfl, rfl, rfl, rfl, rfl⟩ rfl rfl rfl rfl rfl (by kernel_rfl) Try.func6 joined
    (of_decide_eq_true (by kernel_rfl)) (by unfold Func.isWrapper; first | (rw [if_pos (by decide +kernel)]; kernel_rfl) | (rw [if_neg (by decide +kernel)]; exact ⟨rfl, rfl⟩))
    (fun os started H enc _ => lifted os started H enc)
theorem proved : Rows.FnExactCandidatesForSaid := over
end Go.Proofs.Ytgfknljhogfeaaa.fnExactCandidatesFor
namespace Go.Proofs.Ytgfknljhogfeaaa
theorem fnExactCandidatesFor_holds : Rows.FnExactCandidatesForSaid := fnExactCandidatesFor.proved
#print axioms fnExactCandidatesFor_holds
end Go.Proofs.Ytgfknljhogfeaaa
