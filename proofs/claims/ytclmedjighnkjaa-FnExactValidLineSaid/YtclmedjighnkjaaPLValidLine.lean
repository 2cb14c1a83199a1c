/- Plain lemmas over lists and numbers. -/
import Derived.Test.YtclmedjighnkjaaPShipLaw
import Derived.Test.YtclmedjighnkjaaPShipLists
import Derived.Test.YtclmedjighnkjaaPValidLine
import Derived.Test.YtclmedjighnkjaaG0base
import Derived.Test.YtclmedjighnkjaaGlawsFnExactValidLine
import Derived.Test.YtclmedjighnkjaaGspecValidLine
namespace Go.Proofs.Ytclmedjighnkjaa.G.Pure
open Go.RowKit Go.Proofs.Ytclmedjighnkjaa.G Go.Proofs.YtclmedjighnkjaaW.PrintWords Go.Proofs.YtclmedjighnkjaaW.PrintLast Go.Proofs.YtclmedjighnkjaaW.PrintMore
set_option linter.unusedVariables false
set_option linter.unusedSimpArgs false
theorem FnExactValidLine (l0 : List (S62)) (h00 : l0.length ≤ 9223372036854775807) (h01 : (∀ x ∈ l0, (Lit.int .i8 x.f0).wf = true ∧ (Lit.int .i8 x.f1).wf = true ∧ (Lit.int .i8 x.f2).wf = true)) : ∃ k, laws_FnExactValidLine.f k l0 = some true := by
  by_cases hL : l0.length ≤ 1048576
  · obtain ⟨k, hk⟩ : ∃ k, 1100000 < k := ⟨_, Nat.lt_succ_self _⟩
    refine ⟨k, ?_⟩
    obtain ⟨n, hn, hn0, _⟩ := szShipS_small hL
    have e1 := toShipS_eq k l0 hL (by omega)
    have e2 := eqShipS_self k (l0.map shipOf) (by simpa using hL) (by simp; omega)
    have e3 := specOk_eq k (l0.map shipOf) (wf_map h01) (by simpa using hL) (by simp; omega)
    have e4 := implValid_eq (l0.map shipOf)
    unfold laws_FnExactValidLine.f
    simp only [hn, Option.bind_some, e1, e2, spec_ValidLine.f, e3, e4]
    rw [if_neg hn0]
    simp
  · refine ⟨0, ?_⟩
    unfold laws_FnExactValidLine.f
    rw [szShipS_big h00 hL]
    rfl

end Go.Proofs.Ytclmedjighnkjaa.G.Pure
