/-
  No cell of these rows narrows 'for every input' (looked for: loops, veiled, ifaces, maps, wideKeys, modest, calm, conditions, laid).
  DERIVED. THE GIVEN ROWS OF THIS SEAT. 9 by the template 'for every input the law returns true; each argument reads behind the call as it read before'; 0 by the template 'total and deterministic' (their statements: YtheenidapjkboaaTotals.lean).
  GIVEN WITH THE SEED: the statements are not yours to turn. If you find one false, say at which input.
  Laid BY PROGRAM, IN A SANDBOX (cutbox-rows.mjs): the forced cells as the released guide's own fill.sh prints them over the translation a789297f27d94fc5… (all of the seat's roots in one cut). By AI agents, Wed Nov 11 2026. No macro, syntax, notation, axiom, sorry.
-/
import Derived.Test.YtheenidapjkboaaChecked
import GoSem.Claim
import GoSem.ClaimJoined
import GoSem.ClaimMapViews
import Derived.JoinedTies
import Derived.KernelRfl
namespace Go.Proofs.Ytheenidapjkboaa
/- THE CELL 'sum', in the pinned program and in every row, IS THE sha256 OF THE DUMP (.gsa) THAT YtheenidapjkboaaProg.lean LOADS. Nothing in Lean hashes anything: it is a label: what it is worth is what the hold of that sum in a sandbox is worth. -/
noncomputable def Try.pinned : Pinned := { name := "ytheenidapjkboaa", sum := "a789297f27d94fc58d9e315f931a840e2556fe824e5c1c6ad0d5a3782aeae4ce", checked := Try.checked }
namespace Rows
def none {H : Type} : Left H := { results := [], args := [] }

/-- 'laws.FnExactFirstBlamed': WHATEVER THE INPUT: true; the input reads as it did. -/
def fnExactFirstBlamedSpec : ChangeSpec := { name := "fnExactFirstBlamed", fn := fun _ => fun
  | [d1, d2, d3] => { results := [.lit (.bool true)], args := [d1, d2, d3] }
  | _ => none }
def fnExactFirstBlamedRow : OpenClaim := { program := "ytheenidapjkboaa", sum := "a789297f27d94fc58d9e315f931a840e2556fe824e5c1c6ad0d5a3782aeae4ce", func := "loop.example/g01299/laws.FnExactFirstBlamed", spec := "fnExactFirstBlamed", unfollowed := true, recurses := true, apart := false }
def FnExactFirstBlamedSaid : Prop := fnExactFirstBlamedRow.holds Try.pinned (OpenSpec.ofChange fnExactFirstBlamedSpec)

/-- ITS FALSE NEIGHBOUR: 'it returns false'. Refute it at one input. -/
def fnExactFirstBlamedWrong : ChangeSpec := { name := "fnExactFirstBlamed", fn := fun _ => fun
  | [d1, d2, d3] => { results := [.lit (.bool false)], args := [d1, d2, d3] }
  | _ => none }
def FnExactFirstBlamedWrongFalsely : Prop := fnExactFirstBlamedRow.holds Try.pinned (OpenSpec.ofChange fnExactFirstBlamedWrong)

/-- 'laws.FnExactNearestWords': WHATEVER THE INPUT: true; the input reads as it did. -/
def fnExactNearestWordsSpec : ChangeSpec := { name := "fnExactNearestWords", fn := fun _ => fun
  | [d] => { results := [.lit (.bool true)], args := [d] }
  | _ => none }
def fnExactNearestWordsRow : OpenClaim := { program := "ytheenidapjkboaa", sum := "a789297f27d94fc58d9e315f931a840e2556fe824e5c1c6ad0d5a3782aeae4ce", func := "loop.example/g01299/laws.FnExactNearestWords", spec := "fnExactNearestWords", unfollowed := true, recurses := true, apart := false }
def FnExactNearestWordsSaid : Prop := fnExactNearestWordsRow.holds Try.pinned (OpenSpec.ofChange fnExactNearestWordsSpec)

/-- ITS FALSE NEIGHBOUR: 'it returns false'. Refute it at one input. -/
def fnExactNearestWordsWrong : ChangeSpec := { name := "fnExactNearestWords", fn := fun _ => fun
  | [d] => { results := [.lit (.bool false)], args := [d] }
  | _ => none }
def FnExactNearestWordsWrongFalsely : Prop := fnExactNearestWordsRow.holds Try.pinned (OpenSpec.ofChange fnExactNearestWordsWrong)

/-- 'laws.FnExactSightsOf': WHATEVER THE INPUT: true; the input reads as it did. -/
def fnExactSightsOfSpec : ChangeSpec := { name := "fnExactSightsOf", fn := fun _ => fun
  | [d1, d2] => { results := [.lit (.bool true)], args := [d1, d2] }
  | _ => none }
def fnExactSightsOfRow : OpenClaim := { program := "ytheenidapjkboaa", sum := "a789297f27d94fc58d9e315f931a840e2556fe824e5c1c6ad0d5a3782aeae4ce", func := "loop.example/g01299/laws.FnExactSightsOf", spec := "fnExactSightsOf", unfollowed := true, recurses := true, apart := false }
def FnExactSightsOfSaid : Prop := fnExactSightsOfRow.holds Try.pinned (OpenSpec.ofChange fnExactSightsOfSpec)

/-- ITS FALSE NEIGHBOUR: 'it returns false'. Refute it at one input. -/
def fnExactSightsOfWrong : ChangeSpec := { name := "fnExactSightsOf", fn := fun _ => fun
  | [d1, d2] => { results := [.lit (.bool false)], args := [d1, d2] }
  | _ => none }
def FnExactSightsOfWrongFalsely : Prop := fnExactSightsOfRow.holds Try.pinned (OpenSpec.ofChange fnExactSightsOfWrong)

/-- 'laws.FnExactNoticedAt': WHATEVER THE INPUT: true; the input reads as it did. -/
def fnExactNoticedAtSpec : ChangeSpec := { name := "fnExactNoticedAt", fn := fun _ => fun
  | [d1, d2, d3] => { results := [.lit (.bool true)], args := [d1, d2, d3] }
  | _ => none }
def fnExactNoticedAtRow : OpenClaim := { program := "ytheenidapjkboaa", sum := "a789297f27d94fc58d9e315f931a840e2556fe824e5c1c6ad0d5a3782aeae4ce", func := "loop.example/g01299/laws.FnExactNoticedAt", spec := "fnExactNoticedAt", unfollowed := true, recurses := true, apart := false }
def FnExactNoticedAtSaid : Prop := fnExactNoticedAtRow.holds Try.pinned (OpenSpec.ofChange fnExactNoticedAtSpec)

/-- ITS FALSE NEIGHBOUR: 'it returns false'. Refute it at one input. -/
def fnExactNoticedAtWrong : ChangeSpec := { name := "fnExactNoticedAt", fn := fun _ => fun
  | [d1, d2, d3] => { results := [.lit (.bool false)], args := [d1, d2, d3] }
  | _ => none }
def FnExactNoticedAtWrongFalsely : Prop := fnExactNoticedAtRow.holds Try.pinned (OpenSpec.ofChange fnExactNoticedAtWrong)

/-- 'laws.FnExactReadSights': WHATEVER THE INPUT: true; the input reads as it did. -/
def fnExactReadSightsSpec : ChangeSpec := { name := "fnExactReadSights", fn := fun _ => fun
  | [d1, d2] => { results := [.lit (.bool true)], args := [d1, d2] }
  | _ => none }
def fnExactReadSightsRow : OpenClaim := { program := "ytheenidapjkboaa", sum := "a789297f27d94fc58d9e315f931a840e2556fe824e5c1c6ad0d5a3782aeae4ce", func := "loop.example/g01299/laws.FnExactReadSights", spec := "fnExactReadSights", unfollowed := true, recurses := true, apart := false }
def FnExactReadSightsSaid : Prop := fnExactReadSightsRow.holds Try.pinned (OpenSpec.ofChange fnExactReadSightsSpec)

/-- ITS FALSE NEIGHBOUR: 'it returns false'. Refute it at one input. -/
def fnExactReadSightsWrong : ChangeSpec := { name := "fnExactReadSights", fn := fun _ => fun
  | [d1, d2] => { results := [.lit (.bool false)], args := [d1, d2] }
  | _ => none }
def FnExactReadSightsWrongFalsely : Prop := fnExactReadSightsRow.holds Try.pinned (OpenSpec.ofChange fnExactReadSightsWrong)

/-- 'laws.FnExactReadByAll': WHATEVER THE INPUT: true; the input reads as it did. -/
def fnExactReadByAllSpec : ChangeSpec := { name := "fnExactReadByAll", fn := fun _ => fun
  | [d1, d2, d3] => { results := [.lit (.bool true)], args := [d1, d2, d3] }
  | _ => none }
def fnExactReadByAllRow : OpenClaim := { program := "ytheenidapjkboaa", sum := "a789297f27d94fc58d9e315f931a840e2556fe824e5c1c6ad0d5a3782aeae4ce", func := "loop.example/g01299/laws.FnExactReadByAll", spec := "fnExactReadByAll", unfollowed := true, recurses := true, apart := false }
def FnExactReadByAllSaid : Prop := fnExactReadByAllRow.holds Try.pinned (OpenSpec.ofChange fnExactReadByAllSpec)

/-- ITS FALSE NEIGHBOUR: 'it returns false'. Refute it at one input. -/
def fnExactReadByAllWrong : ChangeSpec := { name := "fnExactReadByAll", fn := fun _ => fun
  | [d1, d2, d3] => { results := [.lit (.bool false)], args := [d1, d2, d3] }
  | _ => none }
def FnExactReadByAllWrongFalsely : Prop := fnExactReadByAllRow.holds Try.pinned (OpenSpec.ofChange fnExactReadByAllWrong)

/-- 'laws.FnExactWrongShips': WHATEVER THE INPUT: true; the input reads as it did. -/
def fnExactWrongShipsSpec : ChangeSpec := { name := "fnExactWrongShips", fn := fun _ => fun
  | [d1, d2, d3] => { results := [.lit (.bool true)], args := [d1, d2, d3] }
  | _ => none }
def fnExactWrongShipsRow : OpenClaim := { program := "ytheenidapjkboaa", sum := "a789297f27d94fc58d9e315f931a840e2556fe824e5c1c6ad0d5a3782aeae4ce", func := "loop.example/g01299/laws.FnExactWrongShips", spec := "fnExactWrongShips", unfollowed := true, recurses := true, apart := false }
def FnExactWrongShipsSaid : Prop := fnExactWrongShipsRow.holds Try.pinned (OpenSpec.ofChange fnExactWrongShipsSpec)

/-- ITS FALSE NEIGHBOUR: 'it returns false'. Refute it at one input. -/
def fnExactWrongShipsWrong : ChangeSpec := { name := "fnExactWrongShips", fn := fun _ => fun
  | [d1, d2, d3] => { results := [.lit (.bool false)], args := [d1, d2, d3] }
  | _ => none }
def FnExactWrongShipsWrongFalsely : Prop := fnExactWrongShipsRow.holds Try.pinned (OpenSpec.ofChange fnExactWrongShipsWrong)

/-- 'laws.FnExactCandidatesFor': WHATEVER THE INPUT: true; the input reads as it did. -/
def fnExactCandidatesForSpec : ChangeSpec := { name := "fnExactCandidatesFor", fn := fun _ => fun
  | [d1, d2, d3] => { results := [.lit (.bool true)], args := [d1, d2, d3] }
  | _ => none }
def fnExactCandidatesForRow : OpenClaim := { program := "ytheenidapjkboaa", sum := "a789297f27d94fc58d9e315f931a840e2556fe824e5c1c6ad0d5a3782aeae4ce", func := "loop.example/g01299/laws.FnExactCandidatesFor", spec := "fnExactCandidatesFor", unfollowed := true, recurses := true, apart := false }
def FnExactCandidatesForSaid : Prop := fnExactCandidatesForRow.holds Try.pinned (OpenSpec.ofChange fnExactCandidatesForSpec)

/-- ITS FALSE NEIGHBOUR: 'it returns false'. Refute it at one input. -/
def fnExactCandidatesForWrong : ChangeSpec := { name := "fnExactCandidatesFor", fn := fun _ => fun
  | [d1, d2, d3] => { results := [.lit (.bool false)], args := [d1, d2, d3] }
  | _ => none }
def FnExactCandidatesForWrongFalsely : Prop := fnExactCandidatesForRow.holds Try.pinned (OpenSpec.ofChange fnExactCandidatesForWrong)

/-- 'laws.FnExactAgreedLog': WHATEVER THE INPUT: true; the input reads as it did. -/
def fnExactAgreedLogSpec : ChangeSpec := { name := "fnExactAgreedLog", fn := fun _ => fun
  | [d1, d2] => { results := [.lit (.bool true)], args := [d1, d2] }
  | _ => none }
def fnExactAgreedLogRow : OpenClaim := { program := "ytheenidapjkboaa", sum := "a789297f27d94fc58d9e315f931a840e2556fe824e5c1c6ad0d5a3782aeae4ce", func := "loop.example/g01299/laws.FnExactAgreedLog", spec := "fnExactAgreedLog", unfollowed := true, recurses := true, apart := false }
def FnExactAgreedLogSaid : Prop := fnExactAgreedLogRow.holds Try.pinned (OpenSpec.ofChange fnExactAgreedLogSpec)

/-- ITS FALSE NEIGHBOUR: 'it returns false'. Refute it at one input. -/
def fnExactAgreedLogWrong : ChangeSpec := { name := "fnExactAgreedLog", fn := fun _ => fun
  | [d1, d2] => { results := [.lit (.bool false)], args := [d1, d2] }
  | _ => none }
def FnExactAgreedLogWrongFalsely : Prop := fnExactAgreedLogRow.holds Try.pinned (OpenSpec.ofChange fnExactAgreedLogWrong)

/- THE SECOND FORM. 'bulk': how many values and letters a reading holds, each counted each time it is reached (what is shared counts as often as it is met; a slice's spare places count too). A statement '..UptoSaid' is the law's where the arguments, and the package variables that the reading takes, are together of bulk at most 1048576: NARROWER than '..Said'. Prove '..Said' where nothing that the law and all that it calls make is longer than what came in: it says more and counts as full. Else prove '..UptoSaid'. A law counts once. -/
mutual
def uptoBulk {H : Type} : DataW H → Nat
  | .lit (.string bytes) => bytes.length + 1
  | .lit _ => 1
  | .nil => 1
  | .ptr d => uptoBulk d + 1
  | .slice elems spare => uptoBulkAll elems + uptoBulkAll spare + 1
  | .agg parts => uptoBulkAll parts + 1
  | .iface _ d => uptoBulk d + 1
  | .map entries => uptoBulkEntries entries + 1
  | .held _ => 1
def uptoBulkAll {H : Type} : List (DataW H) → Nat
  | [] => 0
  | d :: r => uptoBulk d + uptoBulkAll r
def uptoBulkEntries {H : Type} : List (Lit × DataW H) → Nat
  | [] => 0
  | x :: r => uptoBulkEntry x + uptoBulkEntries r
def uptoBulkEntry {H : Type} : Lit × DataW H → Nat
  | (.string bytes, d) => bytes.length + uptoBulk d + 1
  | (_, d) => uptoBulk d + 1
 end
def uptoSmall : (H : Type) → List (DataW H) → Bool := fun _ ds => decide (uptoBulkAll ds ≤ 1048576)
def OpenSpec.upto (s : _root_.Go.ChangeSpec) : _root_.Go.OpenSpec := { _root_.Go.OpenSpec.ofChange s with cond := some uptoSmall }

/-- 'laws.FnExactFirstBlamed', WHERE WHAT IT READS IS OF BULK AT MOST 1048576: true; the input reads as it did. -/
def fnExactFirstBlamedUptoRow : OpenClaim := { program := "ytheenidapjkboaa", sum := "a789297f27d94fc58d9e315f931a840e2556fe824e5c1c6ad0d5a3782aeae4ce", func := "loop.example/g01299/laws.FnExactFirstBlamed", spec := "fnExactFirstBlamed", unfollowed := true, recurses := true, apart := false, narrowed := true }
def FnExactFirstBlamedUptoSaid : Prop := fnExactFirstBlamedUptoRow.holds Try.pinned (OpenSpec.upto fnExactFirstBlamedSpec)

/-- 'laws.FnExactNearestWords', WHERE WHAT IT READS IS OF BULK AT MOST 1048576: true; the input reads as it did. -/
def fnExactNearestWordsUptoRow : OpenClaim := { program := "ytheenidapjkboaa", sum := "a789297f27d94fc58d9e315f931a840e2556fe824e5c1c6ad0d5a3782aeae4ce", func := "loop.example/g01299/laws.FnExactNearestWords", spec := "fnExactNearestWords", unfollowed := true, recurses := true, apart := false, narrowed := true }
def FnExactNearestWordsUptoSaid : Prop := fnExactNearestWordsUptoRow.holds Try.pinned (OpenSpec.upto fnExactNearestWordsSpec)

/-- 'laws.FnExactSightsOf', WHERE WHAT IT READS IS OF BULK AT MOST 1048576: true; the input reads as it did. -/
def fnExactSightsOfUptoRow : OpenClaim := { program := "ytheenidapjkboaa", sum := "a789297f27d94fc58d9e315f931a840e2556fe824e5c1c6ad0d5a3782aeae4ce", func := "loop.example/g01299/laws.FnExactSightsOf", spec := "fnExactSightsOf", unfollowed := true, recurses := true, apart := false, narrowed := true }
def FnExactSightsOfUptoSaid : Prop := fnExactSightsOfUptoRow.holds Try.pinned (OpenSpec.upto fnExactSightsOfSpec)

/-- 'laws.FnExactNoticedAt', WHERE WHAT IT READS IS OF BULK AT MOST 1048576: true; the input reads as it did. -/
def fnExactNoticedAtUptoRow : OpenClaim := { program := "ytheenidapjkboaa", sum := "a789297f27d94fc58d9e315f931a840e2556fe824e5c1c6ad0d5a3782aeae4ce", func := "loop.example/g01299/laws.FnExactNoticedAt", spec := "fnExactNoticedAt", unfollowed := true, recurses := true, apart := false, narrowed := true }
def FnExactNoticedAtUptoSaid : Prop := fnExactNoticedAtUptoRow.holds Try.pinned (OpenSpec.upto fnExactNoticedAtSpec)

/-- 'laws.FnExactReadSights', WHERE WHAT IT READS IS OF BULK AT MOST 1048576: true; the input reads as it did. -/
def fnExactReadSightsUptoRow : OpenClaim := { program := "ytheenidapjkboaa", sum := "a789297f27d94fc58d9e315f931a840e2556fe824e5c1c6ad0d5a3782aeae4ce", func := "loop.example/g01299/laws.FnExactReadSights", spec := "fnExactReadSights", unfollowed := true, recurses := true, apart := false, narrowed := true }
def FnExactReadSightsUptoSaid : Prop := fnExactReadSightsUptoRow.holds Try.pinned (OpenSpec.upto fnExactReadSightsSpec)

/-- 'laws.FnExactReadByAll', WHERE WHAT IT READS IS OF BULK AT MOST 1048576: true; the input reads as it did. -/
def fnExactReadByAllUptoRow : OpenClaim := { program := "ytheenidapjkboaa", sum := "a789297f27d94fc58d9e315f931a840e2556fe824e5c1c6ad0d5a3782aeae4ce", func := "loop.example/g01299/laws.FnExactReadByAll", spec := "fnExactReadByAll", unfollowed := true, recurses := true, apart := false, narrowed := true }
def FnExactReadByAllUptoSaid : Prop := fnExactReadByAllUptoRow.holds Try.pinned (OpenSpec.upto fnExactReadByAllSpec)

/-- 'laws.FnExactWrongShips', WHERE WHAT IT READS IS OF BULK AT MOST 1048576: true; the input reads as it did. -/
def fnExactWrongShipsUptoRow : OpenClaim := { program := "ytheenidapjkboaa", sum := "a789297f27d94fc58d9e315f931a840e2556fe824e5c1c6ad0d5a3782aeae4ce", func := "loop.example/g01299/laws.FnExactWrongShips", spec := "fnExactWrongShips", unfollowed := true, recurses := true, apart := false, narrowed := true }
def FnExactWrongShipsUptoSaid : Prop := fnExactWrongShipsUptoRow.holds Try.pinned (OpenSpec.upto fnExactWrongShipsSpec)

/-- 'laws.FnExactCandidatesFor', WHERE WHAT IT READS IS OF BULK AT MOST 1048576: true; the input reads as it did. -/
def fnExactCandidatesForUptoRow : OpenClaim := { program := "ytheenidapjkboaa", sum := "a789297f27d94fc58d9e315f931a840e2556fe824e5c1c6ad0d5a3782aeae4ce", func := "loop.example/g01299/laws.FnExactCandidatesFor", spec := "fnExactCandidatesFor", unfollowed := true, recurses := true, apart := false, narrowed := true }
def FnExactCandidatesForUptoSaid : Prop := fnExactCandidatesForUptoRow.holds Try.pinned (OpenSpec.upto fnExactCandidatesForSpec)

/-- 'laws.FnExactAgreedLog', WHERE WHAT IT READS IS OF BULK AT MOST 1048576: true; the input reads as it did. -/
def fnExactAgreedLogUptoRow : OpenClaim := { program := "ytheenidapjkboaa", sum := "a789297f27d94fc58d9e315f931a840e2556fe824e5c1c6ad0d5a3782aeae4ce", func := "loop.example/g01299/laws.FnExactAgreedLog", spec := "fnExactAgreedLog", unfollowed := true, recurses := true, apart := false, narrowed := true }
def FnExactAgreedLogUptoSaid : Prop := fnExactAgreedLogUptoRow.holds Try.pinned (OpenSpec.upto fnExactAgreedLogSpec)

end Rows
end Go.Proofs.Ytheenidapjkboaa
