/- Plain lemmas over lists and numbers. -/
import Derived.Test.YtclmedjighnkjaaPShipLists
import Derived.Test.YtclmedjighnkjaaG0base
import Derived.Test.YtclmedjighnkjaaGlawsszShipS
namespace Go.Proofs.Ytclmedjighnkjaa.G.Pure
open Go.RowKit Go.Proofs.Ytclmedjighnkjaa.G Go.Proofs.YtclmedjighnkjaaW.PrintWords Go.Proofs.YtclmedjighnkjaaW.PrintLast Go.Proofs.YtclmedjighnkjaaW.PrintMore
set_option linter.unusedVariables false
set_option linter.unusedSimpArgs false
/-! What all laws over lines begin with. -/
theorem szShipS_big {l : List (S62)} (hl : l.length ≤ 9223372036854775807) (h : ¬ l.length ≤ 1048576) : laws_szShipS.f l 1048576 = some (-1) := by
  rw [szShipS_eq _ _ (by omega) (by omega) hl, if_pos (by omega)]
theorem szShipS_small {l : List (S62)} (h : l.length ≤ 1048576) : ∃ n, laws_szShipS.f l 1048576 = some n ∧ ¬ n < 0 ∧ n = 1048576 - (l.length : Int) := by
  refine ⟨1048576 - l.length, ?_, by omega, rfl⟩
  rw [szShipS_eq _ _ (by omega) (by omega) (by omega), if_neg (by omega)]

end Go.Proofs.Ytclmedjighnkjaa.G.Pure
