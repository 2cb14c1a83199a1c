/-
  No cell of these rows narrows 'for every input' (looked for: loops, veiled, ifaces, maps, wideKeys, modest, calm, conditions, laid).
  DERIVED. THE GIVEN ROWS OF THIS SEAT. 16 by the template 'for every input the law returns true; each argument reads behind the call as it read before'; 0 by the template 'total and deterministic' (their statements: YtidkniacmcbgiaaTotals.lean).
  GIVEN WITH THE SEED: the statements are not yours to turn. If you find one false, say at which input.
  Laid BY PROGRAM, IN A SANDBOX (cutbox-rows.mjs): the forced cells as the released guide's own fill.sh prints them over the translation 370c70617939f152… (all of the seat's roots in one cut). By AI agents, Wed Nov 11 2026. No macro, syntax, notation, axiom, sorry.
-/
import Derived.Test.YtidkniacmcbgiaaChecked
import GoSem.Claim
import GoSem.ClaimJoined
import GoSem.ClaimMapViews
import Derived.JoinedTies
import Derived.KernelRfl
namespace Go.Proofs.Ytidkniacmcbgiaa
/- THE CELL 'sum', in the pinned program and in every row, IS THE sha256 OF THE DUMP (.gsa) THAT YtidkniacmcbgiaaProg.lean LOADS. Nothing in Lean hashes anything: it is a label: what it is worth is what the hold of that sum in a sandbox is worth. -/
noncomputable def Try.pinned : Pinned := { name := "ytidkniacmcbgiaa", sum := "370c70617939f152399ec0bbd6cabdb751e09065f0a927b293dfe540dcaec13b", checked := Try.checked }
namespace Rows
def none {H : Type} : Left H := { results := [], args := [] }

/-- 'laws.FnExactSameLog': WHATEVER THE INPUT: true; the input reads as it did. -/
def fnExactSameLogSpec : ChangeSpec := { name := "fnExactSameLog", fn := fun _ => fun
  | [d1, d2] => { results := [.lit (.bool true)], args := [d1, d2] }
  | _ => none }
def fnExactSameLogRow : OpenClaim := { program := "ytidkniacmcbgiaa", sum := "370c70617939f152399ec0bbd6cabdb751e09065f0a927b293dfe540dcaec13b", func := "loop.example/g01299/laws.FnExactSameLog", spec := "fnExactSameLog", apart := false }
def FnExactSameLogSaid : Prop := fnExactSameLogRow.holds Try.pinned (OpenSpec.ofChange fnExactSameLogSpec)

/-- ITS FALSE NEIGHBOUR: 'it returns false'. Refute it at one input. -/
def fnExactSameLogWrong : ChangeSpec := { name := "fnExactSameLog", fn := fun _ => fun
  | [d1, d2] => { results := [.lit (.bool false)], args := [d1, d2] }
  | _ => none }
def FnExactSameLogWrongFalsely : Prop := fnExactSameLogRow.holds Try.pinned (OpenSpec.ofChange fnExactSameLogWrong)

/-- 'laws.FnExactValidLog': WHATEVER THE INPUT: true; the input reads as it did. -/
def fnExactValidLogSpec : ChangeSpec := { name := "fnExactValidLog", fn := fun _ => fun
  | [d] => { results := [.lit (.bool true)], args := [d] }
  | _ => none }
def fnExactValidLogRow : OpenClaim := { program := "ytidkniacmcbgiaa", sum := "370c70617939f152399ec0bbd6cabdb751e09065f0a927b293dfe540dcaec13b", func := "loop.example/g01299/laws.FnExactValidLog", spec := "fnExactValidLog", unfollowed := true, recurses := true, apart := false }
def FnExactValidLogSaid : Prop := fnExactValidLogRow.holds Try.pinned (OpenSpec.ofChange fnExactValidLogSpec)

/-- ITS FALSE NEIGHBOUR: 'it returns false'. Refute it at one input. -/
def fnExactValidLogWrong : ChangeSpec := { name := "fnExactValidLog", fn := fun _ => fun
  | [d] => { results := [.lit (.bool false)], args := [d] }
  | _ => none }
def FnExactValidLogWrongFalsely : Prop := fnExactValidLogRow.holds Try.pinned (OpenSpec.ofChange fnExactValidLogWrong)

/-- 'laws.FnExactLongestUp': WHATEVER THE INPUT: true; the input reads as it did. -/
def fnExactLongestUpSpec : ChangeSpec := { name := "fnExactLongestUp", fn := fun _ => fun
  | [d] => { results := [.lit (.bool true)], args := [d] }
  | _ => none }
def fnExactLongestUpRow : OpenClaim := { program := "ytidkniacmcbgiaa", sum := "370c70617939f152399ec0bbd6cabdb751e09065f0a927b293dfe540dcaec13b", func := "loop.example/g01299/laws.FnExactLongestUp", spec := "fnExactLongestUp", unfollowed := true, recurses := true, apart := false }
def FnExactLongestUpSaid : Prop := fnExactLongestUpRow.holds Try.pinned (OpenSpec.ofChange fnExactLongestUpSpec)

/-- ITS FALSE NEIGHBOUR: 'it returns false'. Refute it at one input. -/
def fnExactLongestUpWrong : ChangeSpec := { name := "fnExactLongestUp", fn := fun _ => fun
  | [d] => { results := [.lit (.bool false)], args := [d] }
  | _ => none }
def FnExactLongestUpWrongFalsely : Prop := fnExactLongestUpRow.holds Try.pinned (OpenSpec.ofChange fnExactLongestUpWrong)

/-- 'laws.FnExactShiftLog': WHATEVER THE INPUT: true; the input reads as it did. -/
def fnExactShiftLogSpec : ChangeSpec := { name := "fnExactShiftLog", fn := fun _ => fun
  | [d1, d2] => { results := [.lit (.bool true)], args := [d1, d2] }
  | _ => none }
def fnExactShiftLogRow : OpenClaim := { program := "ytidkniacmcbgiaa", sum := "370c70617939f152399ec0bbd6cabdb751e09065f0a927b293dfe540dcaec13b", func := "loop.example/g01299/laws.FnExactShiftLog", spec := "fnExactShiftLog", unfollowed := true, recurses := true, apart := false }
def FnExactShiftLogSaid : Prop := fnExactShiftLogRow.holds Try.pinned (OpenSpec.ofChange fnExactShiftLogSpec)

/-- ITS FALSE NEIGHBOUR: 'it returns false'. Refute it at one input. -/
def fnExactShiftLogWrong : ChangeSpec := { name := "fnExactShiftLog", fn := fun _ => fun
  | [d1, d2] => { results := [.lit (.bool false)], args := [d1, d2] }
  | _ => none }
def FnExactShiftLogWrongFalsely : Prop := fnExactShiftLogRow.holds Try.pinned (OpenSpec.ofChange fnExactShiftLogWrong)

/-- 'laws.FnExactUpAt': WHATEVER THE INPUT: true; the input reads as it did. -/
def fnExactUpAtSpec : ChangeSpec := { name := "fnExactUpAt", fn := fun _ => fun
  | [d1, d2] => { results := [.lit (.bool true)], args := [d1, d2] }
  | _ => none }
def fnExactUpAtRow : OpenClaim := { program := "ytidkniacmcbgiaa", sum := "370c70617939f152399ec0bbd6cabdb751e09065f0a927b293dfe540dcaec13b", func := "loop.example/g01299/laws.FnExactUpAt", spec := "fnExactUpAt", unfollowed := true, recurses := true, apart := false }
def FnExactUpAtSaid : Prop := fnExactUpAtRow.holds Try.pinned (OpenSpec.ofChange fnExactUpAtSpec)

/-- ITS FALSE NEIGHBOUR: 'it returns false'. Refute it at one input. -/
def fnExactUpAtWrong : ChangeSpec := { name := "fnExactUpAt", fn := fun _ => fun
  | [d1, d2] => { results := [.lit (.bool false)], args := [d1, d2] }
  | _ => none }
def FnExactUpAtWrongFalsely : Prop := fnExactUpAtRow.holds Try.pinned (OpenSpec.ofChange fnExactUpAtWrong)

/-- 'laws.FnExactExecutedIn': WHATEVER THE INPUT: true; the input reads as it did. -/
def fnExactExecutedInSpec : ChangeSpec := { name := "fnExactExecutedIn", fn := fun _ => fun
  | [d] => { results := [.lit (.bool true)], args := [d] }
  | _ => none }
def fnExactExecutedInRow : OpenClaim := { program := "ytidkniacmcbgiaa", sum := "370c70617939f152399ec0bbd6cabdb751e09065f0a927b293dfe540dcaec13b", func := "loop.example/g01299/laws.FnExactExecutedIn", spec := "fnExactExecutedIn", unfollowed := true, recurses := true, apart := false }
def FnExactExecutedInSaid : Prop := fnExactExecutedInRow.holds Try.pinned (OpenSpec.ofChange fnExactExecutedInSpec)

/-- ITS FALSE NEIGHBOUR: 'it returns false'. Refute it at one input. -/
def fnExactExecutedInWrong : ChangeSpec := { name := "fnExactExecutedIn", fn := fun _ => fun
  | [d] => { results := [.lit (.bool false)], args := [d] }
  | _ => none }
def FnExactExecutedInWrongFalsely : Prop := fnExactExecutedInRow.holds Try.pinned (OpenSpec.ofChange fnExactExecutedInWrong)

/-- 'laws.FnExactFaultsOf': WHATEVER THE INPUT: true; the input reads as it did. -/
def fnExactFaultsOfSpec : ChangeSpec := { name := "fnExactFaultsOf", fn := fun _ => fun
  | [d1, d2] => { results := [.lit (.bool true)], args := [d1, d2] }
  | _ => none }
def fnExactFaultsOfRow : OpenClaim := { program := "ytidkniacmcbgiaa", sum := "370c70617939f152399ec0bbd6cabdb751e09065f0a927b293dfe540dcaec13b", func := "loop.example/g01299/laws.FnExactFaultsOf", spec := "fnExactFaultsOf", unfollowed := true, recurses := true, apart := false }
def FnExactFaultsOfSaid : Prop := fnExactFaultsOfRow.holds Try.pinned (OpenSpec.ofChange fnExactFaultsOfSpec)

/-- ITS FALSE NEIGHBOUR: 'it returns false'. Refute it at one input. -/
def fnExactFaultsOfWrong : ChangeSpec := { name := "fnExactFaultsOf", fn := fun _ => fun
  | [d1, d2] => { results := [.lit (.bool false)], args := [d1, d2] }
  | _ => none }
def FnExactFaultsOfWrongFalsely : Prop := fnExactFaultsOfRow.holds Try.pinned (OpenSpec.ofChange fnExactFaultsOfWrong)

/-- 'laws.FnExactOffsetOf': WHATEVER THE INPUT: true; the input reads as it did. -/
def fnExactOffsetOfSpec : ChangeSpec := { name := "fnExactOffsetOf", fn := fun _ => fun
  | [d1, d2] => { results := [.lit (.bool true)], args := [d1, d2] }
  | _ => none }
def fnExactOffsetOfRow : OpenClaim := { program := "ytidkniacmcbgiaa", sum := "370c70617939f152399ec0bbd6cabdb751e09065f0a927b293dfe540dcaec13b", func := "loop.example/g01299/laws.FnExactOffsetOf", spec := "fnExactOffsetOf", unfollowed := true, recurses := true, apart := false }
def FnExactOffsetOfSaid : Prop := fnExactOffsetOfRow.holds Try.pinned (OpenSpec.ofChange fnExactOffsetOfSpec)

/-- ITS FALSE NEIGHBOUR: 'it returns false'. Refute it at one input. -/
def fnExactOffsetOfWrong : ChangeSpec := { name := "fnExactOffsetOf", fn := fun _ => fun
  | [d1, d2] => { results := [.lit (.bool false)], args := [d1, d2] }
  | _ => none }
def FnExactOffsetOfWrongFalsely : Prop := fnExactOffsetOfRow.holds Try.pinned (OpenSpec.ofChange fnExactOffsetOfWrong)

/-- 'laws.FnExactCheckStory': WHATEVER THE INPUT: true; the input reads as it did. -/
def fnExactCheckStorySpec : ChangeSpec := { name := "fnExactCheckStory", fn := fun _ => fun
  | [d1, d2, d3] => { results := [.lit (.bool true)], args := [d1, d2, d3] }
  | _ => none }
def fnExactCheckStoryRow : OpenClaim := { program := "ytidkniacmcbgiaa", sum := "370c70617939f152399ec0bbd6cabdb751e09065f0a927b293dfe540dcaec13b", func := "loop.example/g01299/laws.FnExactCheckStory", spec := "fnExactCheckStory", unfollowed := true, recurses := true, apart := false }
def FnExactCheckStorySaid : Prop := fnExactCheckStoryRow.holds Try.pinned (OpenSpec.ofChange fnExactCheckStorySpec)

/-- ITS FALSE NEIGHBOUR: 'it returns false'. Refute it at one input. -/
def fnExactCheckStoryWrong : ChangeSpec := { name := "fnExactCheckStory", fn := fun _ => fun
  | [d1, d2, d3] => { results := [.lit (.bool false)], args := [d1, d2, d3] }
  | _ => none }
def FnExactCheckStoryWrongFalsely : Prop := fnExactCheckStoryRow.holds Try.pinned (OpenSpec.ofChange fnExactCheckStoryWrong)

/-- 'laws.FnExactSpreadOf': WHATEVER THE INPUT: true; the input reads as it did. -/
def fnExactSpreadOfSpec : ChangeSpec := { name := "fnExactSpreadOf", fn := fun _ => fun
  | [d1, d2] => { results := [.lit (.bool true)], args := [d1, d2] }
  | _ => none }
def fnExactSpreadOfRow : OpenClaim := { program := "ytidkniacmcbgiaa", sum := "370c70617939f152399ec0bbd6cabdb751e09065f0a927b293dfe540dcaec13b", func := "loop.example/g01299/laws.FnExactSpreadOf", spec := "fnExactSpreadOf", unfollowed := true, recurses := true, apart := false }
def FnExactSpreadOfSaid : Prop := fnExactSpreadOfRow.holds Try.pinned (OpenSpec.ofChange fnExactSpreadOfSpec)

/-- ITS FALSE NEIGHBOUR: 'it returns false'. Refute it at one input. -/
def fnExactSpreadOfWrong : ChangeSpec := { name := "fnExactSpreadOf", fn := fun _ => fun
  | [d1, d2] => { results := [.lit (.bool false)], args := [d1, d2] }
  | _ => none }
def FnExactSpreadOfWrongFalsely : Prop := fnExactSpreadOfRow.holds Try.pinned (OpenSpec.ofChange fnExactSpreadOfWrong)

/-- 'laws.FnExactCommonOf': WHATEVER THE INPUT: true; the input reads as it did. -/
def fnExactCommonOfSpec : ChangeSpec := { name := "fnExactCommonOf", fn := fun _ => fun
  | [d1, d2] => { results := [.lit (.bool true)], args := [d1, d2] }
  | _ => none }
def fnExactCommonOfRow : OpenClaim := { program := "ytidkniacmcbgiaa", sum := "370c70617939f152399ec0bbd6cabdb751e09065f0a927b293dfe540dcaec13b", func := "loop.example/g01299/laws.FnExactCommonOf", spec := "fnExactCommonOf", unfollowed := true, recurses := true, apart := false }
def FnExactCommonOfSaid : Prop := fnExactCommonOfRow.holds Try.pinned (OpenSpec.ofChange fnExactCommonOfSpec)

/-- ITS FALSE NEIGHBOUR: 'it returns false'. Refute it at one input. -/
def fnExactCommonOfWrong : ChangeSpec := { name := "fnExactCommonOf", fn := fun _ => fun
  | [d1, d2] => { results := [.lit (.bool false)], args := [d1, d2] }
  | _ => none }
def FnExactCommonOfWrongFalsely : Prop := fnExactCommonOfRow.holds Try.pinned (OpenSpec.ofChange fnExactCommonOfWrong)

/-- 'laws.FnExactBestLog': WHATEVER THE INPUT: true; the input reads as it did. -/
def fnExactBestLogSpec : ChangeSpec := { name := "fnExactBestLog", fn := fun _ => fun
  | [d] => { results := [.lit (.bool true)], args := [d] }
  | _ => none }
def fnExactBestLogRow : OpenClaim := { program := "ytidkniacmcbgiaa", sum := "370c70617939f152399ec0bbd6cabdb751e09065f0a927b293dfe540dcaec13b", func := "loop.example/g01299/laws.FnExactBestLog", spec := "fnExactBestLog", unfollowed := true, recurses := true, apart := false }
def FnExactBestLogSaid : Prop := fnExactBestLogRow.holds Try.pinned (OpenSpec.ofChange fnExactBestLogSpec)

/-- ITS FALSE NEIGHBOUR: 'it returns false'. Refute it at one input. -/
def fnExactBestLogWrong : ChangeSpec := { name := "fnExactBestLog", fn := fun _ => fun
  | [d] => { results := [.lit (.bool false)], args := [d] }
  | _ => none }
def FnExactBestLogWrongFalsely : Prop := fnExactBestLogRow.holds Try.pinned (OpenSpec.ofChange fnExactBestLogWrong)

/-- 'laws.FnExactStoryOf': WHATEVER THE INPUT: true; the input reads as it did. -/
def fnExactStoryOfSpec : ChangeSpec := { name := "fnExactStoryOf", fn := fun _ => fun
  | [d1, d2] => { results := [.lit (.bool true)], args := [d1, d2] }
  | _ => none }
def fnExactStoryOfRow : OpenClaim := { program := "ytidkniacmcbgiaa", sum := "370c70617939f152399ec0bbd6cabdb751e09065f0a927b293dfe540dcaec13b", func := "loop.example/g01299/laws.FnExactStoryOf", spec := "fnExactStoryOf", unfollowed := true, recurses := true, apart := false }
def FnExactStoryOfSaid : Prop := fnExactStoryOfRow.holds Try.pinned (OpenSpec.ofChange fnExactStoryOfSpec)

/-- ITS FALSE NEIGHBOUR: 'it returns false'. Refute it at one input. -/
def fnExactStoryOfWrong : ChangeSpec := { name := "fnExactStoryOf", fn := fun _ => fun
  | [d1, d2] => { results := [.lit (.bool false)], args := [d1, d2] }
  | _ => none }
def FnExactStoryOfWrongFalsely : Prop := fnExactStoryOfRow.holds Try.pinned (OpenSpec.ofChange fnExactStoryOfWrong)

/-- 'laws.FnExactMisreadIn': WHATEVER THE INPUT: true; the input reads as it did. -/
def fnExactMisreadInSpec : ChangeSpec := { name := "fnExactMisreadIn", fn := fun _ => fun
  | [d1, d2] => { results := [.lit (.bool true)], args := [d1, d2] }
  | _ => none }
def fnExactMisreadInRow : OpenClaim := { program := "ytidkniacmcbgiaa", sum := "370c70617939f152399ec0bbd6cabdb751e09065f0a927b293dfe540dcaec13b", func := "loop.example/g01299/laws.FnExactMisreadIn", spec := "fnExactMisreadIn", unfollowed := true, recurses := true, apart := false }
def FnExactMisreadInSaid : Prop := fnExactMisreadInRow.holds Try.pinned (OpenSpec.ofChange fnExactMisreadInSpec)

/-- ITS FALSE NEIGHBOUR: 'it returns false'. Refute it at one input. -/
def fnExactMisreadInWrong : ChangeSpec := { name := "fnExactMisreadIn", fn := fun _ => fun
  | [d1, d2] => { results := [.lit (.bool false)], args := [d1, d2] }
  | _ => none }
def FnExactMisreadInWrongFalsely : Prop := fnExactMisreadInRow.holds Try.pinned (OpenSpec.ofChange fnExactMisreadInWrong)

/-- 'laws.FnExactMissedIn': WHATEVER THE INPUT: true; the input reads as it did. -/
def fnExactMissedInSpec : ChangeSpec := { name := "fnExactMissedIn", fn := fun _ => fun
  | [d1, d2] => { results := [.lit (.bool true)], args := [d1, d2] }
  | _ => none }
def fnExactMissedInRow : OpenClaim := { program := "ytidkniacmcbgiaa", sum := "370c70617939f152399ec0bbd6cabdb751e09065f0a927b293dfe540dcaec13b", func := "loop.example/g01299/laws.FnExactMissedIn", spec := "fnExactMissedIn", unfollowed := true, recurses := true, apart := false }
def FnExactMissedInSaid : Prop := fnExactMissedInRow.holds Try.pinned (OpenSpec.ofChange fnExactMissedInSpec)

/-- ITS FALSE NEIGHBOUR: 'it returns false'. Refute it at one input. -/
def fnExactMissedInWrong : ChangeSpec := { name := "fnExactMissedIn", fn := fun _ => fun
  | [d1, d2] => { results := [.lit (.bool false)], args := [d1, d2] }
  | _ => none }
def FnExactMissedInWrongFalsely : Prop := fnExactMissedInRow.holds Try.pinned (OpenSpec.ofChange fnExactMissedInWrong)

/-- 'laws.FnExactLateShips': WHATEVER THE INPUT: true; the input reads as it did. -/
def fnExactLateShipsSpec : ChangeSpec := { name := "fnExactLateShips", fn := fun _ => fun
  | [d1, d2, d3] => { results := [.lit (.bool true)], args := [d1, d2, d3] }
  | _ => none }
def fnExactLateShipsRow : OpenClaim := { program := "ytidkniacmcbgiaa", sum := "370c70617939f152399ec0bbd6cabdb751e09065f0a927b293dfe540dcaec13b", func := "loop.example/g01299/laws.FnExactLateShips", spec := "fnExactLateShips", unfollowed := true, recurses := true, apart := false }
def FnExactLateShipsSaid : Prop := fnExactLateShipsRow.holds Try.pinned (OpenSpec.ofChange fnExactLateShipsSpec)

/-- ITS FALSE NEIGHBOUR: 'it returns false'. Refute it at one input. -/
def fnExactLateShipsWrong : ChangeSpec := { name := "fnExactLateShips", fn := fun _ => fun
  | [d1, d2, d3] => { results := [.lit (.bool false)], args := [d1, d2, d3] }
  | _ => none }
def FnExactLateShipsWrongFalsely : Prop := fnExactLateShipsRow.holds Try.pinned (OpenSpec.ofChange fnExactLateShipsWrong)

/- THE SECOND FORM. 'bulk': how many values and letters a reading holds, each counted each time it is reached (what is shared counts as often as it is met; a slice's spare places count too). A statement '..UptoSaid' is the law's where the arguments, and the package variables that the reading takes, are together of bulk at most 1048576: NARROWER than '..Said'. Prove '..Said' where nothing that the law and all that it calls make is longer than what came in: it says more and counts as full. Else prove '..UptoSaid'. A law counts once. -/
mutual
def uptoBulk {H : Type} : DataW H → Nat
  | .lit (.string bytes) => bytes.length + 1
  | .lit _ => 1
  | .nil => 1
  | .ptr d => uptoBulk d + 1
  | .slice elems spare => uptoBulkAll elems + uptoBulkAll spare + 1
  | .agg parts => uptoBulkAll parts + 1
  | .iface _ d => uptoBulk d + 1
  | .map entries => uptoBulkEntries entries + 1
  | .held _ => 1
def uptoBulkAll {H : Type} : List (DataW H) → Nat
  | [] => 0
  | d :: r => uptoBulk d + uptoBulkAll r
def uptoBulkEntries {H : Type} : List (Lit × DataW H) → Nat
  | [] => 0
  | x :: r => uptoBulkEntry x + uptoBulkEntries r
def uptoBulkEntry {H : Type} : Lit × DataW H → Nat
  | (.string bytes, d) => bytes.length + uptoBulk d + 1
  | (_, d) => uptoBulk d + 1
 end
def uptoSmall : (H : Type) → List (DataW H) → Bool := fun _ ds => decide (uptoBulkAll ds ≤ 1048576)
def OpenSpec.upto (s : _root_.Go.ChangeSpec) : _root_.Go.OpenSpec := { _root_.Go.OpenSpec.ofChange s with cond := some uptoSmall }

/-- 'laws.FnExactSameLog', WHERE WHAT IT READS IS OF BULK AT MOST 1048576: true; the input reads as it did. -/
def fnExactSameLogUptoRow : OpenClaim := { program := "ytidkniacmcbgiaa", sum := "370c70617939f152399ec0bbd6cabdb751e09065f0a927b293dfe540dcaec13b", func := "loop.example/g01299/laws.FnExactSameLog", spec := "fnExactSameLog", apart := false, narrowed := true }
def FnExactSameLogUptoSaid : Prop := fnExactSameLogUptoRow.holds Try.pinned (OpenSpec.upto fnExactSameLogSpec)

/-- 'laws.FnExactValidLog', WHERE WHAT IT READS IS OF BULK AT MOST 1048576: true; the input reads as it did. -/
def fnExactValidLogUptoRow : OpenClaim := { program := "ytidkniacmcbgiaa", sum := "370c70617939f152399ec0bbd6cabdb751e09065f0a927b293dfe540dcaec13b", func := "loop.example/g01299/laws.FnExactValidLog", spec := "fnExactValidLog", unfollowed := true, recurses := true, apart := false, narrowed := true }
def FnExactValidLogUptoSaid : Prop := fnExactValidLogUptoRow.holds Try.pinned (OpenSpec.upto fnExactValidLogSpec)

/-- 'laws.FnExactLongestUp', WHERE WHAT IT READS IS OF BULK AT MOST 1048576: true; the input reads as it did. -/
def fnExactLongestUpUptoRow : OpenClaim := { program := "ytidkniacmcbgiaa", sum := "370c70617939f152399ec0bbd6cabdb751e09065f0a927b293dfe540dcaec13b", func := "loop.example/g01299/laws.FnExactLongestUp", spec := "fnExactLongestUp", unfollowed := true, recurses := true, apart := false, narrowed := true }
def FnExactLongestUpUptoSaid : Prop := fnExactLongestUpUptoRow.holds Try.pinned (OpenSpec.upto fnExactLongestUpSpec)

/-- 'laws.FnExactShiftLog', WHERE WHAT IT READS IS OF BULK AT MOST 1048576: true; the input reads as it did. -/
def fnExactShiftLogUptoRow : OpenClaim := { program := "ytidkniacmcbgiaa", sum := "370c70617939f152399ec0bbd6cabdb751e09065f0a927b293dfe540dcaec13b", func := "loop.example/g01299/laws.FnExactShiftLog", spec := "fnExactShiftLog", unfollowed := true, recurses := true, apart := false, narrowed := true }
def FnExactShiftLogUptoSaid : Prop := fnExactShiftLogUptoRow.holds Try.pinned (OpenSpec.upto fnExactShiftLogSpec)

/-- 'laws.FnExactUpAt', WHERE WHAT IT READS IS OF BULK AT MOST 1048576: true; the input reads as it did. -/
def fnExactUpAtUptoRow : OpenClaim := { program := "ytidkniacmcbgiaa", sum := "370c70617939f152399ec0bbd6cabdb751e09065f0a927b293dfe540dcaec13b", func := "loop.example/g01299/laws.FnExactUpAt", spec := "fnExactUpAt", unfollowed := true, recurses := true, apart := false, narrowed := true }
def FnExactUpAtUptoSaid : Prop := fnExactUpAtUptoRow.holds Try.pinned (OpenSpec.upto fnExactUpAtSpec)

/-- 'laws.FnExactExecutedIn', WHERE WHAT IT READS IS OF BULK AT MOST 1048576: true; the input reads as it did. -/
def fnExactExecutedInUptoRow : OpenClaim := { program := "ytidkniacmcbgiaa", sum := "370c70617939f152399ec0bbd6cabdb751e09065f0a927b293dfe540dcaec13b", func := "loop.example/g01299/laws.FnExactExecutedIn", spec := "fnExactExecutedIn", unfollowed := true, recurses := true, apart := false, narrowed := true }
def FnExactExecutedInUptoSaid : Prop := fnExactExecutedInUptoRow.holds Try.pinned (OpenSpec.upto fnExactExecutedInSpec)

/-- 'laws.FnExactFaultsOf', WHERE WHAT IT READS IS OF BULK AT MOST 1048576: true; the input reads as it did. -/
def fnExactFaultsOfUptoRow : OpenClaim := { program := "ytidkniacmcbgiaa", sum := "370c70617939f152399ec0bbd6cabdb751e09065f0a927b293dfe540dcaec13b", func := "loop.example/g01299/laws.FnExactFaultsOf", spec := "fnExactFaultsOf", unfollowed := true, recurses := true, apart := false, narrowed := true }
def FnExactFaultsOfUptoSaid : Prop := fnExactFaultsOfUptoRow.holds Try.pinned (OpenSpec.upto fnExactFaultsOfSpec)

/-- 'laws.FnExactOffsetOf', WHERE WHAT IT READS IS OF BULK AT MOST 1048576: true; the input reads as it did. -/
def fnExactOffsetOfUptoRow : OpenClaim := { program := "ytidkniacmcbgiaa", sum := "370c70617939f152399ec0bbd6cabdb751e09065f0a927b293dfe540dcaec13b", func := "loop.example/g01299/laws.FnExactOffsetOf", spec := "fnExactOffsetOf", unfollowed := true, recurses := true, apart := false, narrowed := true }
def FnExactOffsetOfUptoSaid : Prop := fnExactOffsetOfUptoRow.holds Try.pinned (OpenSpec.upto fnExactOffsetOfSpec)

/-- 'laws.FnExactCheckStory', WHERE WHAT IT READS IS OF BULK AT MOST 1048576: true; the input reads as it did. -/
def fnExactCheckStoryUptoRow : OpenClaim := { program := "ytidkniacmcbgiaa", sum := "370c70617939f152399ec0bbd6cabdb751e09065f0a927b293dfe540dcaec13b", func := "loop.example/g01299/laws.FnExactCheckStory", spec := "fnExactCheckStory", unfollowed := true, recurses := true, apart := false, narrowed := true }
def FnExactCheckStoryUptoSaid : Prop := fnExactCheckStoryUptoRow.holds Try.pinned (OpenSpec.upto fnExactCheckStorySpec)

/-- 'laws.FnExactSpreadOf', WHERE WHAT IT READS IS OF BULK AT MOST 1048576: true; the input reads as it did. -/
def fnExactSpreadOfUptoRow : OpenClaim := { program := "ytidkniacmcbgiaa", sum := "370c70617939f152399ec0bbd6cabdb751e09065f0a927b293dfe540dcaec13b", func := "loop.example/g01299/laws.FnExactSpreadOf", spec := "fnExactSpreadOf", unfollowed := true, recurses := true, apart := false, narrowed := true }
def FnExactSpreadOfUptoSaid : Prop := fnExactSpreadOfUptoRow.holds Try.pinned (OpenSpec.upto fnExactSpreadOfSpec)

/-- 'laws.FnExactCommonOf', WHERE WHAT IT READS IS OF BULK AT MOST 1048576: true; the input reads as it did. -/
def fnExactCommonOfUptoRow : OpenClaim := { program := "ytidkniacmcbgiaa", sum := "370c70617939f152399ec0bbd6cabdb751e09065f0a927b293dfe540dcaec13b", func := "loop.example/g01299/laws.FnExactCommonOf", spec := "fnExactCommonOf", unfollowed := true, recurses := true, apart := false, narrowed := true }
def FnExactCommonOfUptoSaid : Prop := fnExactCommonOfUptoRow.holds Try.pinned (OpenSpec.upto fnExactCommonOfSpec)

/-- 'laws.FnExactBestLog', WHERE WHAT IT READS IS OF BULK AT MOST 1048576: true; the input reads as it did. -/
def fnExactBestLogUptoRow : OpenClaim := { program := "ytidkniacmcbgiaa", sum := "370c70617939f152399ec0bbd6cabdb751e09065f0a927b293dfe540dcaec13b", func := "loop.example/g01299/laws.FnExactBestLog", spec := "fnExactBestLog", unfollowed := true, recurses := true, apart := false, narrowed := true }
def FnExactBestLogUptoSaid : Prop := fnExactBestLogUptoRow.holds Try.pinned (OpenSpec.upto fnExactBestLogSpec)

/-- 'laws.FnExactStoryOf', WHERE WHAT IT READS IS OF BULK AT MOST 1048576: true; the input reads as it did. -/
def fnExactStoryOfUptoRow : OpenClaim := { program := "ytidkniacmcbgiaa", sum := "370c70617939f152399ec0bbd6cabdb751e09065f0a927b293dfe540dcaec13b", func := "loop.example/g01299/laws.FnExactStoryOf", spec := "fnExactStoryOf", unfollowed := true, recurses := true, apart := false, narrowed := true }
def FnExactStoryOfUptoSaid : Prop := fnExactStoryOfUptoRow.holds Try.pinned (OpenSpec.upto fnExactStoryOfSpec)

/-- 'laws.FnExactMisreadIn', WHERE WHAT IT READS IS OF BULK AT MOST 1048576: true; the input reads as it did. -/
def fnExactMisreadInUptoRow : OpenClaim := { program := "ytidkniacmcbgiaa", sum := "370c70617939f152399ec0bbd6cabdb751e09065f0a927b293dfe540dcaec13b", func := "loop.example/g01299/laws.FnExactMisreadIn", spec := "fnExactMisreadIn", unfollowed := true, recurses := true, apart := false, narrowed := true }
def FnExactMisreadInUptoSaid : Prop := fnExactMisreadInUptoRow.holds Try.pinned (OpenSpec.upto fnExactMisreadInSpec)

/-- 'laws.FnExactMissedIn', WHERE WHAT IT READS IS OF BULK AT MOST 1048576: true; the input reads as it did. -/
def fnExactMissedInUptoRow : OpenClaim := { program := "ytidkniacmcbgiaa", sum := "370c70617939f152399ec0bbd6cabdb751e09065f0a927b293dfe540dcaec13b", func := "loop.example/g01299/laws.FnExactMissedIn", spec := "fnExactMissedIn", unfollowed := true, recurses := true, apart := false, narrowed := true }
def FnExactMissedInUptoSaid : Prop := fnExactMissedInUptoRow.holds Try.pinned (OpenSpec.upto fnExactMissedInSpec)

/-- 'laws.FnExactLateShips', WHERE WHAT IT READS IS OF BULK AT MOST 1048576: true; the input reads as it did. -/
def fnExactLateShipsUptoRow : OpenClaim := { program := "ytidkniacmcbgiaa", sum := "370c70617939f152399ec0bbd6cabdb751e09065f0a927b293dfe540dcaec13b", func := "loop.example/g01299/laws.FnExactLateShips", spec := "fnExactLateShips", unfollowed := true, recurses := true, apart := false, narrowed := true }
def FnExactLateShipsUptoSaid : Prop := fnExactLateShipsUptoRow.holds Try.pinned (OpenSpec.upto fnExactLateShipsSpec)

end Rows
end Go.Proofs.Ytidkniacmcbgiaa
