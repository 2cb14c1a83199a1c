/-
  No cell of these rows narrows 'for every input' (looked for: loops, veiled, ifaces, maps, wideKeys, modest, calm, conditions, laid).
  DERIVED. THE GIVEN ROWS OF THIS SEAT. 13 by the template 'for every input the law returns true; each argument reads behind the call as it read before'; 0 by the template 'total and deterministic' (their statements: YtclmedjighnkjaaTotals.lean).
  GIVEN WITH THE SEED: the statements are not yours to turn. If you find one false, say at which input.
  Laid BY PROGRAM, IN A SANDBOX (cutbox-rows.mjs): the forced cells as the released guide's own fill.sh prints them over the translation d3403c0e12f99dd8… (all of the seat's roots in one cut). By AI agents, Wed Nov 11 2026. No macro, syntax, notation, axiom, sorry.
-/
import Derived.Test.YtclmedjighnkjaaChecked
import GoSem.Claim
import GoSem.ClaimJoined
import GoSem.ClaimMapViews
import Derived.JoinedTies
import Derived.KernelRfl
namespace Go.Proofs.Ytclmedjighnkjaa
/- THE CELL 'sum', in the pinned program and in every row, IS THE sha256 OF THE DUMP (.gsa) THAT YtclmedjighnkjaaProg.lean LOADS. Nothing in Lean hashes anything: it is a label: what it is worth is what the hold of that sum in a sandbox is worth. -/
noncomputable def Try.pinned : Pinned := { name := "ytclmedjighnkjaa", sum := "d3403c0e12f99dd8001636ddb0dcf498d804541759a5eb5041e46fa462690dfc", checked := Try.checked }
namespace Rows
def none {H : Type} : Left H := { results := [], args := [] }

/-- 'laws.FnExactValidLine': WHATEVER THE INPUT: true; the input reads as it did. -/
def fnExactValidLineSpec : ChangeSpec := { name := "fnExactValidLine", fn := fun _ => fun
  | [d] => { results := [.lit (.bool true)], args := [d] }
  | _ => none }
def fnExactValidLineRow : OpenClaim := { program := "ytclmedjighnkjaa", sum := "d3403c0e12f99dd8001636ddb0dcf498d804541759a5eb5041e46fa462690dfc", func := "loop.example/g01299/laws.FnExactValidLine", spec := "fnExactValidLine", unfollowed := true, recurses := true, apart := false }
def FnExactValidLineSaid : Prop := fnExactValidLineRow.holds Try.pinned (OpenSpec.ofChange fnExactValidLineSpec)

/-- ITS FALSE NEIGHBOUR: 'it returns false'. Refute it at one input. -/
def fnExactValidLineWrong : ChangeSpec := { name := "fnExactValidLine", fn := fun _ => fun
  | [d] => { results := [.lit (.bool false)], args := [d] }
  | _ => none }
def FnExactValidLineWrongFalsely : Prop := fnExactValidLineRow.holds Try.pinned (OpenSpec.ofChange fnExactValidLineWrong)

/-- 'laws.FnExactSameTimes': WHATEVER THE INPUT: true; the input reads as it did. -/
def fnExactSameTimesSpec : ChangeSpec := { name := "fnExactSameTimes", fn := fun _ => fun
  | [d1, d2] => { results := [.lit (.bool true)], args := [d1, d2] }
  | _ => none }
def fnExactSameTimesRow : OpenClaim := { program := "ytclmedjighnkjaa", sum := "d3403c0e12f99dd8001636ddb0dcf498d804541759a5eb5041e46fa462690dfc", func := "loop.example/g01299/laws.FnExactSameTimes", spec := "fnExactSameTimes", apart := false }
def FnExactSameTimesSaid : Prop := fnExactSameTimesRow.holds Try.pinned (OpenSpec.ofChange fnExactSameTimesSpec)

/-- ITS FALSE NEIGHBOUR: 'it returns false'. Refute it at one input. -/
def fnExactSameTimesWrong : ChangeSpec := { name := "fnExactSameTimes", fn := fun _ => fun
  | [d1, d2] => { results := [.lit (.bool false)], args := [d1, d2] }
  | _ => none }
def FnExactSameTimesWrongFalsely : Prop := fnExactSameTimesRow.holds Try.pinned (OpenSpec.ofChange fnExactSameTimesWrong)

/-- 'laws.FnExactClosedUntil': WHATEVER THE INPUT: true; the input reads as it did. -/
def fnExactClosedUntilSpec : ChangeSpec := { name := "fnExactClosedUntil", fn := fun _ => fun
  | [d1, d2] => { results := [.lit (.bool true)], args := [d1, d2] }
  | _ => none }
def fnExactClosedUntilRow : OpenClaim := { program := "ytclmedjighnkjaa", sum := "d3403c0e12f99dd8001636ddb0dcf498d804541759a5eb5041e46fa462690dfc", func := "loop.example/g01299/laws.FnExactClosedUntil", spec := "fnExactClosedUntil", unfollowed := true, recurses := true, apart := false }
def FnExactClosedUntilSaid : Prop := fnExactClosedUntilRow.holds Try.pinned (OpenSpec.ofChange fnExactClosedUntilSpec)

/-- ITS FALSE NEIGHBOUR: 'it returns false'. Refute it at one input. -/
def fnExactClosedUntilWrong : ChangeSpec := { name := "fnExactClosedUntil", fn := fun _ => fun
  | [d1, d2] => { results := [.lit (.bool false)], args := [d1, d2] }
  | _ => none }
def FnExactClosedUntilWrongFalsely : Prop := fnExactClosedUntilRow.holds Try.pinned (OpenSpec.ofChange fnExactClosedUntilWrong)

/-- 'laws.FnExactAllClosed': WHATEVER THE INPUT: true; the input reads as it did. -/
def fnExactAllClosedSpec : ChangeSpec := { name := "fnExactAllClosed", fn := fun _ => fun
  | [d] => { results := [.lit (.bool true)], args := [d] }
  | _ => none }
def fnExactAllClosedRow : OpenClaim := { program := "ytclmedjighnkjaa", sum := "d3403c0e12f99dd8001636ddb0dcf498d804541759a5eb5041e46fa462690dfc", func := "loop.example/g01299/laws.FnExactAllClosed", spec := "fnExactAllClosed", unfollowed := true, recurses := true, apart := false }
def FnExactAllClosedSaid : Prop := fnExactAllClosedRow.holds Try.pinned (OpenSpec.ofChange fnExactAllClosedSpec)

/-- ITS FALSE NEIGHBOUR: 'it returns false'. Refute it at one input. -/
def fnExactAllClosedWrong : ChangeSpec := { name := "fnExactAllClosed", fn := fun _ => fun
  | [d] => { results := [.lit (.bool false)], args := [d] }
  | _ => none }
def FnExactAllClosedWrongFalsely : Prop := fnExactAllClosedRow.holds Try.pinned (OpenSpec.ofChange fnExactAllClosedWrong)

/-- 'laws.FnExactWithoutShip': WHATEVER THE INPUT: true; the input reads as it did. -/
def fnExactWithoutShipSpec : ChangeSpec := { name := "fnExactWithoutShip", fn := fun _ => fun
  | [d1, d2] => { results := [.lit (.bool true)], args := [d1, d2] }
  | _ => none }
def fnExactWithoutShipRow : OpenClaim := { program := "ytclmedjighnkjaa", sum := "d3403c0e12f99dd8001636ddb0dcf498d804541759a5eb5041e46fa462690dfc", func := "loop.example/g01299/laws.FnExactWithoutShip", spec := "fnExactWithoutShip", unfollowed := true, recurses := true, apart := false }
def FnExactWithoutShipSaid : Prop := fnExactWithoutShipRow.holds Try.pinned (OpenSpec.ofChange fnExactWithoutShipSpec)

/-- ITS FALSE NEIGHBOUR: 'it returns false'. Refute it at one input. -/
def fnExactWithoutShipWrong : ChangeSpec := { name := "fnExactWithoutShip", fn := fun _ => fun
  | [d1, d2] => { results := [.lit (.bool false)], args := [d1, d2] }
  | _ => none }
def FnExactWithoutShipWrongFalsely : Prop := fnExactWithoutShipRow.holds Try.pinned (OpenSpec.ofChange fnExactWithoutShipWrong)

/-- 'laws.FnExactUnreached': WHATEVER THE INPUT: true; the input reads as it did. -/
def fnExactUnreachedSpec : ChangeSpec := { name := "fnExactUnreached", fn := fun _ => fun
  | [d] => { results := [.lit (.bool true)], args := [d] }
  | _ => none }
def fnExactUnreachedRow : OpenClaim := { program := "ytclmedjighnkjaa", sum := "d3403c0e12f99dd8001636ddb0dcf498d804541759a5eb5041e46fa462690dfc", func := "loop.example/g01299/laws.FnExactUnreached", spec := "fnExactUnreached", unfollowed := true, recurses := true, apart := false }
def FnExactUnreachedSaid : Prop := fnExactUnreachedRow.holds Try.pinned (OpenSpec.ofChange fnExactUnreachedSpec)

/-- ITS FALSE NEIGHBOUR: 'it returns false'. Refute it at one input. -/
def fnExactUnreachedWrong : ChangeSpec := { name := "fnExactUnreached", fn := fun _ => fun
  | [d] => { results := [.lit (.bool false)], args := [d] }
  | _ => none }
def FnExactUnreachedWrongFalsely : Prop := fnExactUnreachedRow.holds Try.pinned (OpenSpec.ofChange fnExactUnreachedWrong)

/-- 'laws.FnExactLastDown': WHATEVER THE INPUT: true; the input reads as it did. -/
def fnExactLastDownSpec : ChangeSpec := { name := "fnExactLastDown", fn := fun _ => fun
  | [d] => { results := [.lit (.bool true)], args := [d] }
  | _ => none }
def fnExactLastDownRow : OpenClaim := { program := "ytclmedjighnkjaa", sum := "d3403c0e12f99dd8001636ddb0dcf498d804541759a5eb5041e46fa462690dfc", func := "loop.example/g01299/laws.FnExactLastDown", spec := "fnExactLastDown", unfollowed := true, recurses := true, apart := false }
def FnExactLastDownSaid : Prop := fnExactLastDownRow.holds Try.pinned (OpenSpec.ofChange fnExactLastDownSpec)

/-- ITS FALSE NEIGHBOUR: 'it returns false'. Refute it at one input. -/
def fnExactLastDownWrong : ChangeSpec := { name := "fnExactLastDown", fn := fun _ => fun
  | [d] => { results := [.lit (.bool false)], args := [d] }
  | _ => none }
def FnExactLastDownWrongFalsely : Prop := fnExactLastDownRow.holds Try.pinned (OpenSpec.ofChange fnExactLastDownWrong)

/-- 'laws.FnExactSlackOf': WHATEVER THE INPUT: true; the input reads as it did. -/
def fnExactSlackOfSpec : ChangeSpec := { name := "fnExactSlackOf", fn := fun _ => fun
  | [d1, d2] => { results := [.lit (.bool true)], args := [d1, d2] }
  | _ => none }
def fnExactSlackOfRow : OpenClaim := { program := "ytclmedjighnkjaa", sum := "d3403c0e12f99dd8001636ddb0dcf498d804541759a5eb5041e46fa462690dfc", func := "loop.example/g01299/laws.FnExactSlackOf", spec := "fnExactSlackOf", unfollowed := true, recurses := true, apart := false }
def FnExactSlackOfSaid : Prop := fnExactSlackOfRow.holds Try.pinned (OpenSpec.ofChange fnExactSlackOfSpec)

/-- ITS FALSE NEIGHBOUR: 'it returns false'. Refute it at one input. -/
def fnExactSlackOfWrong : ChangeSpec := { name := "fnExactSlackOf", fn := fun _ => fun
  | [d1, d2] => { results := [.lit (.bool false)], args := [d1, d2] }
  | _ => none }
def FnExactSlackOfWrongFalsely : Prop := fnExactSlackOfRow.holds Try.pinned (OpenSpec.ofChange fnExactSlackOfWrong)

/-- 'laws.FnExactTimesOf': WHATEVER THE INPUT: true; the input reads as it did. -/
def fnExactTimesOfSpec : ChangeSpec := { name := "fnExactTimesOf", fn := fun _ => fun
  | [d] => { results := [.lit (.bool true)], args := [d] }
  | _ => none }
def fnExactTimesOfRow : OpenClaim := { program := "ytclmedjighnkjaa", sum := "d3403c0e12f99dd8001636ddb0dcf498d804541759a5eb5041e46fa462690dfc", func := "loop.example/g01299/laws.FnExactTimesOf", spec := "fnExactTimesOf", unfollowed := true, recurses := true, apart := false }
def FnExactTimesOfSaid : Prop := fnExactTimesOfRow.holds Try.pinned (OpenSpec.ofChange fnExactTimesOfSpec)

/-- ITS FALSE NEIGHBOUR: 'it returns false'. Refute it at one input. -/
def fnExactTimesOfWrong : ChangeSpec := { name := "fnExactTimesOf", fn := fun _ => fun
  | [d] => { results := [.lit (.bool false)], args := [d] }
  | _ => none }
def FnExactTimesOfWrongFalsely : Prop := fnExactTimesOfRow.holds Try.pinned (OpenSpec.ofChange fnExactTimesOfWrong)

/-- 'laws.FnExactLaterIf': WHATEVER THE INPUT: true; the input reads as it did. -/
def fnExactLaterIfSpec : ChangeSpec := { name := "fnExactLaterIf", fn := fun _ => fun
  | [d1, d2, d3] => { results := [.lit (.bool true)], args := [d1, d2, d3] }
  | _ => none }
def fnExactLaterIfRow : OpenClaim := { program := "ytclmedjighnkjaa", sum := "d3403c0e12f99dd8001636ddb0dcf498d804541759a5eb5041e46fa462690dfc", func := "loop.example/g01299/laws.FnExactLaterIf", spec := "fnExactLaterIf", unfollowed := true, recurses := true, apart := false }
def FnExactLaterIfSaid : Prop := fnExactLaterIfRow.holds Try.pinned (OpenSpec.ofChange fnExactLaterIfSpec)

/-- ITS FALSE NEIGHBOUR: 'it returns false'. Refute it at one input. -/
def fnExactLaterIfWrong : ChangeSpec := { name := "fnExactLaterIf", fn := fun _ => fun
  | [d1, d2, d3] => { results := [.lit (.bool false)], args := [d1, d2, d3] }
  | _ => none }
def FnExactLaterIfWrongFalsely : Prop := fnExactLaterIfRow.holds Try.pinned (OpenSpec.ofChange fnExactLaterIfWrong)

/-- 'laws.FnExactCheckTimes': WHATEVER THE INPUT: true; the input reads as it did. -/
def fnExactCheckTimesSpec : ChangeSpec := { name := "fnExactCheckTimes", fn := fun _ => fun
  | [d1, d2] => { results := [.lit (.bool true)], args := [d1, d2] }
  | _ => none }
def fnExactCheckTimesRow : OpenClaim := { program := "ytclmedjighnkjaa", sum := "d3403c0e12f99dd8001636ddb0dcf498d804541759a5eb5041e46fa462690dfc", func := "loop.example/g01299/laws.FnExactCheckTimes", spec := "fnExactCheckTimes", unfollowed := true, recurses := true, apart := false }
def FnExactCheckTimesSaid : Prop := fnExactCheckTimesRow.holds Try.pinned (OpenSpec.ofChange fnExactCheckTimesSpec)

/-- ITS FALSE NEIGHBOUR: 'it returns false'. Refute it at one input. -/
def fnExactCheckTimesWrong : ChangeSpec := { name := "fnExactCheckTimes", fn := fun _ => fun
  | [d1, d2] => { results := [.lit (.bool false)], args := [d1, d2] }
  | _ => none }
def FnExactCheckTimesWrongFalsely : Prop := fnExactCheckTimesRow.holds Try.pinned (OpenSpec.ofChange fnExactCheckTimesWrong)

/-- 'laws.FnExactHauledDown': WHATEVER THE INPUT: true; the input reads as it did. -/
def fnExactHauledDownSpec : ChangeSpec := { name := "fnExactHauledDown", fn := fun _ => fun
  | [d] => { results := [.lit (.bool true)], args := [d] }
  | _ => none }
def fnExactHauledDownRow : OpenClaim := { program := "ytclmedjighnkjaa", sum := "d3403c0e12f99dd8001636ddb0dcf498d804541759a5eb5041e46fa462690dfc", func := "loop.example/g01299/laws.FnExactHauledDown", spec := "fnExactHauledDown", unfollowed := true, recurses := true, apart := false }
def FnExactHauledDownSaid : Prop := fnExactHauledDownRow.holds Try.pinned (OpenSpec.ofChange fnExactHauledDownSpec)

/-- ITS FALSE NEIGHBOUR: 'it returns false'. Refute it at one input. -/
def fnExactHauledDownWrong : ChangeSpec := { name := "fnExactHauledDown", fn := fun _ => fun
  | [d] => { results := [.lit (.bool false)], args := [d] }
  | _ => none }
def FnExactHauledDownWrongFalsely : Prop := fnExactHauledDownRow.holds Try.pinned (OpenSpec.ofChange fnExactHauledDownWrong)

/-- 'laws.FnExactWayToShip': WHATEVER THE INPUT: true; the input reads as it did. -/
def fnExactWayToShipSpec : ChangeSpec := { name := "fnExactWayToShip", fn := fun _ => fun
  | [d1, d2] => { results := [.lit (.bool true)], args := [d1, d2] }
  | _ => none }
def fnExactWayToShipRow : OpenClaim := { program := "ytclmedjighnkjaa", sum := "d3403c0e12f99dd8001636ddb0dcf498d804541759a5eb5041e46fa462690dfc", func := "loop.example/g01299/laws.FnExactWayToShip", spec := "fnExactWayToShip", unfollowed := true, recurses := true, apart := false }
def FnExactWayToShipSaid : Prop := fnExactWayToShipRow.holds Try.pinned (OpenSpec.ofChange fnExactWayToShipSpec)

/-- ITS FALSE NEIGHBOUR: 'it returns false'. Refute it at one input. -/
def fnExactWayToShipWrong : ChangeSpec := { name := "fnExactWayToShip", fn := fun _ => fun
  | [d1, d2] => { results := [.lit (.bool false)], args := [d1, d2] }
  | _ => none }
def FnExactWayToShipWrongFalsely : Prop := fnExactWayToShipRow.holds Try.pinned (OpenSpec.ofChange fnExactWayToShipWrong)

/- THE SECOND FORM. 'bulk': how many values and letters a reading holds, each counted each time it is reached (what is shared counts as often as it is met; a slice's spare places count too). A statement '..UptoSaid' is the law's where the arguments, and the package variables that the reading takes, are together of bulk at most 1048576: NARROWER than '..Said'. Prove '..Said' where nothing that the law and all that it calls make is longer than what came in: it says more and counts as full. Else prove '..UptoSaid'. A law counts once. -/
mutual
def uptoBulk {H : Type} : DataW H → Nat
  | .lit (.string bytes) => bytes.length + 1
  | .lit _ => 1
  | .nil => 1
  | .ptr d => uptoBulk d + 1
  | .slice elems spare => uptoBulkAll elems + uptoBulkAll spare + 1
  | .agg parts => uptoBulkAll parts + 1
  | .iface _ d => uptoBulk d + 1
  | .map entries => uptoBulkEntries entries + 1
  | .held _ => 1
def uptoBulkAll {H : Type} : List (DataW H) → Nat
  | [] => 0
  | d :: r => uptoBulk d + uptoBulkAll r
def uptoBulkEntries {H : Type} : List (Lit × DataW H) → Nat
  | [] => 0
  | x :: r => uptoBulkEntry x + uptoBulkEntries r
def uptoBulkEntry {H : Type} : Lit × DataW H → Nat
  | (.string bytes, d) => bytes.length + uptoBulk d + 1
  | (_, d) => uptoBulk d + 1
 end
def uptoSmall : (H : Type) → List (DataW H) → Bool := fun _ ds => decide (uptoBulkAll ds ≤ 1048576)
def OpenSpec.upto (s : _root_.Go.ChangeSpec) : _root_.Go.OpenSpec := { _root_.Go.OpenSpec.ofChange s with cond := some uptoSmall }

/-- 'laws.FnExactValidLine', WHERE WHAT IT READS IS OF BULK AT MOST 1048576: true; the input reads as it did. -/
def fnExactValidLineUptoRow : OpenClaim := { program := "ytclmedjighnkjaa", sum := "d3403c0e12f99dd8001636ddb0dcf498d804541759a5eb5041e46fa462690dfc", func := "loop.example/g01299/laws.FnExactValidLine", spec := "fnExactValidLine", unfollowed := true, recurses := true, apart := false, narrowed := true }
def FnExactValidLineUptoSaid : Prop := fnExactValidLineUptoRow.holds Try.pinned (OpenSpec.upto fnExactValidLineSpec)

/-- 'laws.FnExactSameTimes', WHERE WHAT IT READS IS OF BULK AT MOST 1048576: true; the input reads as it did. -/
def fnExactSameTimesUptoRow : OpenClaim := { program := "ytclmedjighnkjaa", sum := "d3403c0e12f99dd8001636ddb0dcf498d804541759a5eb5041e46fa462690dfc", func := "loop.example/g01299/laws.FnExactSameTimes", spec := "fnExactSameTimes", apart := false, narrowed := true }
def FnExactSameTimesUptoSaid : Prop := fnExactSameTimesUptoRow.holds Try.pinned (OpenSpec.upto fnExactSameTimesSpec)

/-- 'laws.FnExactClosedUntil', WHERE WHAT IT READS IS OF BULK AT MOST 1048576: true; the input reads as it did. -/
def fnExactClosedUntilUptoRow : OpenClaim := { program := "ytclmedjighnkjaa", sum := "d3403c0e12f99dd8001636ddb0dcf498d804541759a5eb5041e46fa462690dfc", func := "loop.example/g01299/laws.FnExactClosedUntil", spec := "fnExactClosedUntil", unfollowed := true, recurses := true, apart := false, narrowed := true }
def FnExactClosedUntilUptoSaid : Prop := fnExactClosedUntilUptoRow.holds Try.pinned (OpenSpec.upto fnExactClosedUntilSpec)

/-- 'laws.FnExactAllClosed', WHERE WHAT IT READS IS OF BULK AT MOST 1048576: true; the input reads as it did. -/
def fnExactAllClosedUptoRow : OpenClaim := { program := "ytclmedjighnkjaa", sum := "d3403c0e12f99dd8001636ddb0dcf498d804541759a5eb5041e46fa462690dfc", func := "loop.example/g01299/laws.FnExactAllClosed", spec := "fnExactAllClosed", unfollowed := true, recurses := true, apart := false, narrowed := true }
def FnExactAllClosedUptoSaid : Prop := fnExactAllClosedUptoRow.holds Try.pinned (OpenSpec.upto fnExactAllClosedSpec)

/-- 'laws.FnExactWithoutShip', WHERE WHAT IT READS IS OF BULK AT MOST 1048576: true; the input reads as it did. -/
def fnExactWithoutShipUptoRow : OpenClaim := { program := "ytclmedjighnkjaa", sum := "d3403c0e12f99dd8001636ddb0dcf498d804541759a5eb5041e46fa462690dfc", func := "loop.example/g01299/laws.FnExactWithoutShip", spec := "fnExactWithoutShip", unfollowed := true, recurses := true, apart := false, narrowed := true }
def FnExactWithoutShipUptoSaid : Prop := fnExactWithoutShipUptoRow.holds Try.pinned (OpenSpec.upto fnExactWithoutShipSpec)

/-- 'laws.FnExactUnreached', WHERE WHAT IT READS IS OF BULK AT MOST 1048576: true; the input reads as it did. -/
def fnExactUnreachedUptoRow : OpenClaim := { program := "ytclmedjighnkjaa", sum := "d3403c0e12f99dd8001636ddb0dcf498d804541759a5eb5041e46fa462690dfc", func := "loop.example/g01299/laws.FnExactUnreached", spec := "fnExactUnreached", unfollowed := true, recurses := true, apart := false, narrowed := true }
def FnExactUnreachedUptoSaid : Prop := fnExactUnreachedUptoRow.holds Try.pinned (OpenSpec.upto fnExactUnreachedSpec)

/-- 'laws.FnExactLastDown', WHERE WHAT IT READS IS OF BULK AT MOST 1048576: true; the input reads as it did. -/
def fnExactLastDownUptoRow : OpenClaim := { program := "ytclmedjighnkjaa", sum := "d3403c0e12f99dd8001636ddb0dcf498d804541759a5eb5041e46fa462690dfc", func := "loop.example/g01299/laws.FnExactLastDown", spec := "fnExactLastDown", unfollowed := true, recurses := true, apart := false, narrowed := true }
def FnExactLastDownUptoSaid : Prop := fnExactLastDownUptoRow.holds Try.pinned (OpenSpec.upto fnExactLastDownSpec)

/-- 'laws.FnExactSlackOf', WHERE WHAT IT READS IS OF BULK AT MOST 1048576: true; the input reads as it did. -/
def fnExactSlackOfUptoRow : OpenClaim := { program := "ytclmedjighnkjaa", sum := "d3403c0e12f99dd8001636ddb0dcf498d804541759a5eb5041e46fa462690dfc", func := "loop.example/g01299/laws.FnExactSlackOf", spec := "fnExactSlackOf", unfollowed := true, recurses := true, apart := false, narrowed := true }
def FnExactSlackOfUptoSaid : Prop := fnExactSlackOfUptoRow.holds Try.pinned (OpenSpec.upto fnExactSlackOfSpec)

/-- 'laws.FnExactTimesOf', WHERE WHAT IT READS IS OF BULK AT MOST 1048576: true; the input reads as it did. -/
def fnExactTimesOfUptoRow : OpenClaim := { program := "ytclmedjighnkjaa", sum := "d3403c0e12f99dd8001636ddb0dcf498d804541759a5eb5041e46fa462690dfc", func := "loop.example/g01299/laws.FnExactTimesOf", spec := "fnExactTimesOf", unfollowed := true, recurses := true, apart := false, narrowed := true }
def FnExactTimesOfUptoSaid : Prop := fnExactTimesOfUptoRow.holds Try.pinned (OpenSpec.upto fnExactTimesOfSpec)

/-- 'laws.FnExactLaterIf', WHERE WHAT IT READS IS OF BULK AT MOST 1048576: true; the input reads as it did. -/
def fnExactLaterIfUptoRow : OpenClaim := { program := "ytclmedjighnkjaa", sum := "d3403c0e12f99dd8001636ddb0dcf498d804541759a5eb5041e46fa462690dfc", func := "loop.example/g01299/laws.FnExactLaterIf", spec := "fnExactLaterIf", unfollowed := true, recurses := true, apart := false, narrowed := true }
def FnExactLaterIfUptoSaid : Prop := fnExactLaterIfUptoRow.holds Try.pinned (OpenSpec.upto fnExactLaterIfSpec)

/-- 'laws.FnExactCheckTimes', WHERE WHAT IT READS IS OF BULK AT MOST 1048576: true; the input reads as it did. -/
def fnExactCheckTimesUptoRow : OpenClaim := { program := "ytclmedjighnkjaa", sum := "d3403c0e12f99dd8001636ddb0dcf498d804541759a5eb5041e46fa462690dfc", func := "loop.example/g01299/laws.FnExactCheckTimes", spec := "fnExactCheckTimes", unfollowed := true, recurses := true, apart := false, narrowed := true }
def FnExactCheckTimesUptoSaid : Prop := fnExactCheckTimesUptoRow.holds Try.pinned (OpenSpec.upto fnExactCheckTimesSpec)

/-- 'laws.FnExactHauledDown', WHERE WHAT IT READS IS OF BULK AT MOST 1048576: true; the input reads as it did. -/
def fnExactHauledDownUptoRow : OpenClaim := { program := "ytclmedjighnkjaa", sum := "d3403c0e12f99dd8001636ddb0dcf498d804541759a5eb5041e46fa462690dfc", func := "loop.example/g01299/laws.FnExactHauledDown", spec := "fnExactHauledDown", unfollowed := true, recurses := true, apart := false, narrowed := true }
def FnExactHauledDownUptoSaid : Prop := fnExactHauledDownUptoRow.holds Try.pinned (OpenSpec.upto fnExactHauledDownSpec)

/-- 'laws.FnExactWayToShip', WHERE WHAT IT READS IS OF BULK AT MOST 1048576: true; the input reads as it did. -/
def fnExactWayToShipUptoRow : OpenClaim := { program := "ytclmedjighnkjaa", sum := "d3403c0e12f99dd8001636ddb0dcf498d804541759a5eb5041e46fa462690dfc", func := "loop.example/g01299/laws.FnExactWayToShip", spec := "fnExactWayToShip", unfollowed := true, recurses := true, apart := false, narrowed := true }
def FnExactWayToShipUptoSaid : Prop := fnExactWayToShipUptoRow.holds Try.pinned (OpenSpec.upto fnExactWayToShipSpec)

end Rows
end Go.Proofs.Ytclmedjighnkjaa
