/- The Go functions' Lean forms and their contracts: written by a program of this claim's own over the translation. -/
import Derived.Test.YtclmedjighnkjaaG0base
import Derived.Test.YtclmedjighnkjaaGslicesIndexFuncShipShip
namespace Go.Proofs.Ytclmedjighnkjaa.G
open Go.RowKit Go.Proofs.YtclmedjighnkjaaW.PrintWords Go.Proofs.YtclmedjighnkjaaW.PrintLast Go.Proofs.YtclmedjighnkjaaW.PrintMore
attribute [local go_sem] max2_int min2_int max_two min_two max_three min_three max_four min_four
set_option linter.unusedVariables false
set_option linter.unusedSimpArgs false

/-! ### slices_ContainsFunc_Ship_Ship: function 59 -/
set_option maxHeartbeats 2000000 in
theorem slices_ContainsFunc_Ship_Ship.calls (A0 : Option Addr) (c0 : Nat) (l0 : List (S60)) (g : Nat) (lb : Array Value) (eg : ∀ args w, (callFunc g args).run Try.prog w = .ok (.enter g args) w) (p : S60 → Bool) (w : World)
    (hr0 : Kd.C k60 w A0 l0.length l0) (hc0 : l0.length ≤ c0)
    (hp : ∀ W, Below w.heap.size w W → ∀ x ∈ l0, Calls Try.prog g (#[.agg #[.int .i8 x.f0, .int .i8 x.f1, .int .i8 x.f2]] ++ lb) W fun e w' => e = .returned (.bool (p x)) ∧ Below w.heap.size w w') :
    Calls Try.prog 59 #[.slice A0 l0.length c0, .func (.func g) #[] lb] w fun e w' => e = .returned (.bool (l0.any p)) ∧ Below w.heap.size w w' := by
  have H := Aside0.mk (slices_IndexFunc_Ship_Ship.calls A0 c0 l0 g lb eg p w hr0 hc0 hp)
  rw [← idxP_nonneg]
  clear hp hr0 eg
  go_enter Try.func59, Try.ntmps59
  go_wp2_with (go_at_call 83; refine H.out.mono ?_; rintro e w' ⟨rfl, hb'⟩)
  go_ret
  exact ⟨rfl, hb'⟩

end Go.Proofs.Ytclmedjighnkjaa.G
