/- FnExactNearestWords: for every input the law returns true, and what came in reads as it did. No condition. -/
import Derived.Test.YtgfknljhogfeaaaRows
import Derived.WalkKit
import Derived.ProofKit
import Derived.OpenShut
import Derived.ShutString
import Derived.ChangeOld
import Derived.Below
import Derived.SizedLaws
import Derived.Test.YtgfknljhogfeaaaMFnExactNearestWords0
import Derived.Test.YtgfknljhogfeaaaMFnExactNearestWords1
import Derived.Test.YtgfknljhogfeaaaMFnExactNearestWords2
namespace Go.Proofs.Ytgfknljhogfeaaa.fnExactNearestWords
open Go.ChangeShapes Go.WideShapes Go.ChangeAt Go.RowKit Go.Proofs.YtgfknljhogfeaaaW.PrintWords
open Go.ChangeMaps (open_string shut_string)
set_option linter.unusedVariables false
theorem own : ownKnob Try.prog.godebug = none := by kernel_rfl
theorem laidOut : laidOutB Try.prog = true := by kernel_rfl
set_option maxRecDepth 100000 in
theorem lifted (os : Os) (started : os.Started) (H : Type) (enc : TypeId × Value → H) :
    ReturnsInHanded {} Try.checked os 4 .any (Rows.fnExactNearestWordsSpec.pre6 enc Try.prog Try.f4 Rows.fnExactNearestWordsRow.domain false) (Rows.fnExactNearestWordsSpec.post enc Try.prog Try.f4 false true false false) := by
  refine returnsInHanded_of_change_sized (C := Try.checked) own started (by kernel_rfl) Try.func4
    (ChangeSpec.witness6 (enc := enc) (C := Try.checked) false ⟨#[], #[.agg #[(.slice none 0 0), (.slice none 0 0)]], []⟩ 8 (by kernel_rfl) (by kernel_rfl) (by kernel_rfl) (by kernel_rfl)) ?_
  intro W base args ds gs before hval0 hW hcnd hsz0 _
  have hsz : (DataW.weightsEach Try.prog (Try.f4.params.toList ++ Rows.fnExactNearestWordsSpec.plain.varTypes Try.prog) (ds ++ gs)).all (· ≤ reachBytes) = true := hsz0
  have hval : ∀ (j : Nat) t v, Try.f4.params[j]? = some t → args[j]? = some v → Value.okWide Try.prog W .any base t v := hval0
  have hW' := hW
  obtain ⟨p, q, hA0, hV, rfl, hfz, hnd⟩ := hW
  have hA : DataW.TrodAll enc Try.prog W 0 (fun _ => true) true Try.f4.params.toList args.toList ds p := hA0
  rw [Try.params4] at hA hval hsz
  obtain ⟨v0, vs0, d0, ds0, p0, q0, hargs, rfl, rfl, h0, r0⟩ := trodAll_cons hA
  obtain ⟨rfl, rfl, rfl⟩ := trodAll_nil r0
  obtain rfl : args = #[v0] := by cases args; simp_all
  obtain ⟨rfl, rfl⟩ := trodVars_none hV
  obtain ⟨cs0, rfl, _⟩ := okWide_struct Try.underlying25 (hval 0 25 v0 rfl rfl)
  have k0 := h0
  have lt0 : ∀ x ∈ p0, x.block < W.heap.size := by obtain ⟨m, hm⟩ := k0; exact DataW.trod_lt m _ _ _ hm
  obtain ⟨l0_0, l0_1, A0_0, c0_0, A0_1, c0_1, e0, hc0_0, hr0_0, hc0_1, hr0_1, hw0⟩ : ∃ (l0_0 : List (G.S67)) (l0_1 : List (List Int)) (A0_0 : Option Addr) (c0_0 : Nat) ( A0_1 : Option Addr) (c0_1 : Nat), cs0 = #[.slice A0_0 l0_0.length c0_0, .slice A0_1 l0_1.length c0_1] ∧ l0_0.length ≤ c0_0 ∧ Kd.C G.k67 W A0_0 l0_0.length l0_0 ∧ l0_1.length ≤ c0_1 ∧ Kd.C (Kd.slice 5 (Kd.int .u8)) W A0_1 l0_1.length l0_1 ∧ ((l0_0.length ≤ 9223372036854775807 ∧ ∀ x0_0_ ∈ l0_0, (Lit.int .u8 x0_0_.f0).wf = true ∧ (Lit.int .u8 x0_0_.f1).wf = true ∧ (Lit.int .u8 x0_0_.f2).wf = true ∧ (Lit.int .u8 x0_0_.f3).wf = true ∧ (Lit.int .u8 x0_0_.f4).wf = true ∧ (Lit.int .u8 x0_0_.f5).wf = true ∧ (Lit.int .u8 x0_0_.f6).wf = true ∧ (Lit.int .u8 x0_0_.f7).wf = true ∧ (Lit.int .u8 x0_0_.f8).wf = true ∧ (Lit.int .u8 x0_0_.f9).wf = true ∧ (Lit.int .u8 x0_0_.f10).wf = true ∧ (Lit.int .u8 x0_0_.f11).wf = true ∧ (Lit.int .u8 x0_0_.f12).wf = true ∧ (Lit.int .u8 x0_0_.f13).wf = true ∧ (Lit.int .u8 x0_0_.f14).wf = true ∧ (Lit.int .u8 x0_0_.f15).wf = true ∧ (Lit.int .u8 x0_0_.f16).wf = true ∧ (Lit.int .u8 x0_0_.f17).wf = true ∧ (Lit.int .u8 x0_0_.f18).wf = true ∧ (Lit.int .u8 x0_0_.f19).wf = true ∧ (Lit.int .u8 x0_0_.f20).wf = true ∧ (Lit.int .u8 x0_0_.f21).wf = true ∧ (Lit.int .u8 x0_0_.f22).wf = true ∧ (Lit.int .u8 x0_0_.f23).wf = true) ∧ (l0_1.length ≤ 9223372036854775807 ∧ ∀ x0_1_ ∈ l0_1, (x0_1_.length ≤ 9223372036854775807 ∧ ∀ x0_1__ ∈ x0_1_, (Lit.int .u8 x0_1__).wf = true))) := by
    obtain ⟨m, hm⟩ := h0
    obtain ⟨x, hK, hw⟩ := G.op25.op hm
    obtain ⟨A0, c0, A1, c1, e, g0, r0_, g1, r1_⟩ := G.k25_open hK
    exact ⟨x.f0, x.f1, A0, c0, A1, c1, Array.ext' e, g0, r0_, g1, r1_, hw⟩
  subst e0
  clear hA0 hval0 hsz0 hsz
  obtain ⟨k, hk⟩ := G.Pure.FnExactNearestWords l0_0 l0_1 hw0.1.1 hw0.1.2 hw0.2.1 hw0.2.2
  refine (G.laws_FnExactNearestWords.calls k _ _ l0_0 _ _ l0_1 true W hr0_0 hc0_0 hr0_1 hc0_1 hk).mono fun e W' ⟨he, bel0⟩ => ?_
  have bel : Below W.heap.size W W' := bel0
  subst he
  exact ⟨_, rfl, _, _, _, [], _, [], hW', trodAll_mk1 (shut_bool Try.underlying4 _), (trodAll_cons_mk (Below.trod laidOut (by kernel_rfl) (of_decide_eq_true (by kernel_rfl)) k0 bel lt0) trodAll_mk0), rfl, bel.frame _, fun h => by cases h⟩
set_option maxHeartbeats 4000000 in
theorem joined : joinedFacts Try.pinned.checked.prog 4 Try.f4 Rows.fnExactNearestWordsSpec Rows.fnExactNearestWordsRow = true := by
  unfold joinedFacts
  simp only [Bool.and_eq_true]
  refine ⟨⟨⟨⟨⟨⟨⟨⟨⟨⟨⟨⟨⟨⟨⟨⟨⟨⟨⟨⟨⟨⟨⟨⟨⟨⟨⟨⟨⟨⟨⟨?_, ?_⟩, ?_⟩, ?_⟩, ?_⟩, ?_⟩, ?_⟩, ?_⟩, ?_⟩, ?_⟩, ?_⟩, ?_⟩, ?_⟩, ?_⟩, ?_⟩, ?_⟩, ?_⟩, ?_⟩, ?_⟩, ?_⟩, ?_⟩, ?_⟩, ?_⟩, ?_⟩, ?_⟩, ?_⟩, ?_⟩, ?_⟩, ?_⟩, ?_⟩, ?_⟩, ?_⟩
  all_goals (as_aux_lemma => kernel_rfl)
theorem over : Rows.fnExactNearestWordsRow.holds Try.pinned (OpenSpec.ofChange Rows.fnExactNearestWordsSpec) :=
  OpenClaim.holds_of_wide 4 Try.f4 rfl rfl rfl rfl rfl rfl rfl ⟨rfl, rfl, rfl, rfl, rfl⟩ rfl rfl rfl rfl rfl (by kernel_rfl) Try.func4 joined
    (of_decide_eq_true (by kernel_rfl)) (by unfold Func.isWrapper; first | (rw [if_pos (by decide +kernel)]; kernel_rfl) | (rw [if_neg (by decide +kernel)]; exact ⟨rfl, rfl⟩))
    (fun os started H enc _ => lifted os started H enc)
theorem proved : Rows.FnExactNearestWordsSaid := over
end Go.Proofs.Ytgfknljhogfeaaa.fnExactNearestWords
namespace Go.Proofs.Ytgfknljhogfeaaa
theorem fnExactNearestWords_holds : Rows.FnExactNearestWordsSaid := fnExactNearestWords.proved
#print axioms fnExactNearestWords_holds
end Go.Proofs.Ytgfknljhogfeaaa
