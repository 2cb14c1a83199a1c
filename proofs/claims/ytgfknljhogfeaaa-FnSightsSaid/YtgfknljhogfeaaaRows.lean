/-
  No cell of these rows narrows 'for every input' (looked for: loops, veiled, ifaces, maps, wideKeys, modest, calm, conditions, laid).
  DERIVED. THE GIVEN ROWS OF THIS SEAT. 5 by the template 'for every input the law returns true; each argument reads behind the call as it read before'; 0 by the template 'total and deterministic' (their statements: YtgfknljhogfeaaaTotals.lean).
  GIVEN WITH THE SEED: the statements are not yours to turn. If you find one false, say at which input.
  Laid BY PROGRAM, IN A SANDBOX (cutbox-rows.mjs): the forced cells as the released guide's own fill.sh prints them over the translation e35085560f630fb3… (all of the seat's roots in one cut). By AI agents, Wed Nov 11 2026. No macro, syntax, notation, axiom, sorry.
-/
import Derived.Test.YtgfknljhogfeaaaChecked
import GoSem.Claim
import GoSem.ClaimJoined
import GoSem.ClaimMapViews
import Derived.JoinedTies
import Derived.KernelRfl
namespace Go.Proofs.Ytgfknljhogfeaaa
/- THE CELL 'sum', in the pinned program and in every row, IS THE sha256 OF THE DUMP (.gsa) THAT YtgfknljhogfeaaaProg.lean LOADS. Nothing in Lean hashes anything: it is a label: what it is worth is what the hold of that sum in a sandbox is worth. -/
noncomputable def Try.pinned : Pinned := { name := "ytgfknljhogfeaaa", sum := "e35085560f630fb3ba52089e6fd8e194c11bd9678436007821ca1120b406a73d", checked := Try.checked }
namespace Rows
def none {H : Type} : Left H := { results := [], args := [] }

/-- 'laws.FnExactSightsOf': WHATEVER THE INPUT: true; the input reads as it did. -/
def fnExactSightsOfSpec : ChangeSpec := { name := "fnExactSightsOf", fn := fun _ => fun
  | [d1, d2] => { results := [.lit (.bool true)], args := [d1, d2] }
  | _ => none }
def fnExactSightsOfRow : OpenClaim := { program := "ytgfknljhogfeaaa", sum := "e35085560f630fb3ba52089e6fd8e194c11bd9678436007821ca1120b406a73d", func := "loop.example/g01299/laws.FnExactSightsOf", spec := "fnExactSightsOf", unfollowed := true, recurses := true, apart := false }
def FnExactSightsOfSaid : Prop := fnExactSightsOfRow.holds Try.pinned (OpenSpec.ofChange fnExactSightsOfSpec)

/-- ITS FALSE NEIGHBOUR: 'it returns false'. Refute it at one input. -/
def fnExactSightsOfWrong : ChangeSpec := { name := "fnExactSightsOf", fn := fun _ => fun
  | [d1, d2] => { results := [.lit (.bool false)], args := [d1, d2] }
  | _ => none }
def FnExactSightsOfWrongFalsely : Prop := fnExactSightsOfRow.holds Try.pinned (OpenSpec.ofChange fnExactSightsOfWrong)

/-- 'laws.FnExactNearestWords': WHATEVER THE INPUT: true; the input reads as it did. -/
def fnExactNearestWordsSpec : ChangeSpec := { name := "fnExactNearestWords", fn := fun _ => fun
  | [d] => { results := [.lit (.bool true)], args := [d] }
  | _ => none }
def fnExactNearestWordsRow : OpenClaim := { program := "ytgfknljhogfeaaa", sum := "e35085560f630fb3ba52089e6fd8e194c11bd9678436007821ca1120b406a73d", func := "loop.example/g01299/laws.FnExactNearestWords", spec := "fnExactNearestWords", unfollowed := true, recurses := true, apart := false }
def FnExactNearestWordsSaid : Prop := fnExactNearestWordsRow.holds Try.pinned (OpenSpec.ofChange fnExactNearestWordsSpec)

/-- ITS FALSE NEIGHBOUR: 'it returns false'. Refute it at one input. -/
def fnExactNearestWordsWrong : ChangeSpec := { name := "fnExactNearestWords", fn := fun _ => fun
  | [d] => { results := [.lit (.bool false)], args := [d] }
  | _ => none }
def FnExactNearestWordsWrongFalsely : Prop := fnExactNearestWordsRow.holds Try.pinned (OpenSpec.ofChange fnExactNearestWordsWrong)

/-- 'laws.FnExactReadSights': WHATEVER THE INPUT: true; the input reads as it did. -/
def fnExactReadSightsSpec : ChangeSpec := { name := "fnExactReadSights", fn := fun _ => fun
  | [d1, d2] => { results := [.lit (.bool true)], args := [d1, d2] }
  | _ => none }
def fnExactReadSightsRow : OpenClaim := { program := "ytgfknljhogfeaaa", sum := "e35085560f630fb3ba52089e6fd8e194c11bd9678436007821ca1120b406a73d", func := "loop.example/g01299/laws.FnExactReadSights", spec := "fnExactReadSights", unfollowed := true, recurses := true, apart := false }
def FnExactReadSightsSaid : Prop := fnExactReadSightsRow.holds Try.pinned (OpenSpec.ofChange fnExactReadSightsSpec)

/-- ITS FALSE NEIGHBOUR: 'it returns false'. Refute it at one input. -/
def fnExactReadSightsWrong : ChangeSpec := { name := "fnExactReadSights", fn := fun _ => fun
  | [d1, d2] => { results := [.lit (.bool false)], args := [d1, d2] }
  | _ => none }
def FnExactReadSightsWrongFalsely : Prop := fnExactReadSightsRow.holds Try.pinned (OpenSpec.ofChange fnExactReadSightsWrong)

/-- 'laws.FnExactCandidatesFor': WHATEVER THE INPUT: true; the input reads as it did. -/
def fnExactCandidatesForSpec : ChangeSpec := { name := "fnExactCandidatesFor", fn := fun _ => fun
  | [d1, d2, d3] => { results := [.lit (.bool true)], args := [d1, d2, d3] }
  | _ => none }
def fnExactCandidatesForRow : OpenClaim := { program := "ytgfknljhogfeaaa", sum := "e35085560f630fb3ba52089e6fd8e194c11bd9678436007821ca1120b406a73d", func := "loop.example/g01299/laws.FnExactCandidatesFor", spec := "fnExactCandidatesFor", unfollowed := true, recurses := true, apart := false }
def FnExactCandidatesForSaid : Prop := fnExactCandidatesForRow.holds Try.pinned (OpenSpec.ofChange fnExactCandidatesForSpec)

/-- ITS FALSE NEIGHBOUR: 'it returns false'. Refute it at one input. -/
def fnExactCandidatesForWrong : ChangeSpec := { name := "fnExactCandidatesFor", fn := fun _ => fun
  | [d1, d2, d3] => { results := [.lit (.bool false)], args := [d1, d2, d3] }
  | _ => none }
def FnExactCandidatesForWrongFalsely : Prop := fnExactCandidatesForRow.holds Try.pinned (OpenSpec.ofChange fnExactCandidatesForWrong)

/-- 'laws.FnSights': WHATEVER THE INPUT: true; the input reads as it did. -/
def fnSightsSpec : ChangeSpec := { name := "fnSights", fn := fun _ => fun
  | [d1, d2] => { results := [.lit (.bool true)], args := [d1, d2] }
  | _ => none }
def fnSightsRow : OpenClaim := { program := "ytgfknljhogfeaaa", sum := "e35085560f630fb3ba52089e6fd8e194c11bd9678436007821ca1120b406a73d", func := "loop.example/g01299/laws.FnSights", spec := "fnSights", unfollowed := true, recurses := true, apart := false }
def FnSightsSaid : Prop := fnSightsRow.holds Try.pinned (OpenSpec.ofChange fnSightsSpec)

/-- ITS FALSE NEIGHBOUR: 'it returns false'. Refute it at one input. -/
def fnSightsWrong : ChangeSpec := { name := "fnSights", fn := fun _ => fun
  | [d1, d2] => { results := [.lit (.bool false)], args := [d1, d2] }
  | _ => none }
def FnSightsWrongFalsely : Prop := fnSightsRow.holds Try.pinned (OpenSpec.ofChange fnSightsWrong)

/- THE SECOND FORM. 'bulk': how many values and letters a reading holds, each counted each time it is reached (what is shared counts as often as it is met; a slice's spare places count too). A statement '..UptoSaid' is the law's where the arguments, and the package variables that the reading takes, are together of bulk at most 1048576: NARROWER than '..Said'. Prove '..Said' where nothing that the law and all that it calls make is longer than what came in: it says more and counts as full. Else prove '..UptoSaid'. A law counts once. -/
mutual
def uptoBulk {H : Type} : DataW H → Nat
  | .lit (.string bytes) => bytes.length + 1
  | .lit _ => 1
  | .nil => 1
  | .ptr d => uptoBulk d + 1
  | .slice elems spare => uptoBulkAll elems + uptoBulkAll spare + 1
  | .agg parts => uptoBulkAll parts + 1
  | .iface _ d => uptoBulk d + 1
  | .map entries => uptoBulkEntries entries + 1
  | .held _ => 1
def uptoBulkAll {H : Type} : List (DataW H) → Nat
  | [] => 0
  | d :: r => uptoBulk d + uptoBulkAll r
def uptoBulkEntries {H : Type} : List (Lit × DataW H) → Nat
  | [] => 0
  | x :: r => uptoBulkEntry x + uptoBulkEntries r
def uptoBulkEntry {H : Type} : Lit × DataW H → Nat
  | (.string bytes, d) => bytes.length + uptoBulk d + 1
  | (_, d) => uptoBulk d + 1
 end
def uptoSmall : (H : Type) → List (DataW H) → Bool := fun _ ds => decide (uptoBulkAll ds ≤ 1048576)
def OpenSpec.upto (s : _root_.Go.ChangeSpec) : _root_.Go.OpenSpec := { _root_.Go.OpenSpec.ofChange s with cond := some uptoSmall }

/-- 'laws.FnExactSightsOf', WHERE WHAT IT READS IS OF BULK AT MOST 1048576: true; the input reads as it did. -/
def fnExactSightsOfUptoRow : OpenClaim := { program := "ytgfknljhogfeaaa", sum := "e35085560f630fb3ba52089e6fd8e194c11bd9678436007821ca1120b406a73d", func := "loop.example/g01299/laws.FnExactSightsOf", spec := "fnExactSightsOf", unfollowed := true, recurses := true, apart := false, narrowed := true }
def FnExactSightsOfUptoSaid : Prop := fnExactSightsOfUptoRow.holds Try.pinned (OpenSpec.upto fnExactSightsOfSpec)

/-- 'laws.FnExactNearestWords', WHERE WHAT IT READS IS OF BULK AT MOST 1048576: true; the input reads as it did. -/
def fnExactNearestWordsUptoRow : OpenClaim := { program := "ytgfknljhogfeaaa", sum := "e35085560f630fb3ba52089e6fd8e194c11bd9678436007821ca1120b406a73d", func := "loop.example/g01299/laws.FnExactNearestWords", spec := "fnExactNearestWords", unfollowed := true, recurses := true, apart := false, narrowed := true }
def FnExactNearestWordsUptoSaid : Prop := fnExactNearestWordsUptoRow.holds Try.pinned (OpenSpec.upto fnExactNearestWordsSpec)

/-- 'laws.FnExactReadSights', WHERE WHAT IT READS IS OF BULK AT MOST 1048576: true; the input reads as it did. -/
def fnExactReadSightsUptoRow : OpenClaim := { program := "ytgfknljhogfeaaa", sum := "e35085560f630fb3ba52089e6fd8e194c11bd9678436007821ca1120b406a73d", func := "loop.example/g01299/laws.FnExactReadSights", spec := "fnExactReadSights", unfollowed := true, recurses := true, apart := false, narrowed := true }
def FnExactReadSightsUptoSaid : Prop := fnExactReadSightsUptoRow.holds Try.pinned (OpenSpec.upto fnExactReadSightsSpec)

/-- 'laws.FnExactCandidatesFor', WHERE WHAT IT READS IS OF BULK AT MOST 1048576: true; the input reads as it did. -/
def fnExactCandidatesForUptoRow : OpenClaim := { program := "ytgfknljhogfeaaa", sum := "e35085560f630fb3ba52089e6fd8e194c11bd9678436007821ca1120b406a73d", func := "loop.example/g01299/laws.FnExactCandidatesFor", spec := "fnExactCandidatesFor", unfollowed := true, recurses := true, apart := false, narrowed := true }
def FnExactCandidatesForUptoSaid : Prop := fnExactCandidatesForUptoRow.holds Try.pinned (OpenSpec.upto fnExactCandidatesForSpec)

/-- 'laws.FnSights', WHERE WHAT IT READS IS OF BULK AT MOST 1048576: true; the input reads as it did. -/
def fnSightsUptoRow : OpenClaim := { program := "ytgfknljhogfeaaa", sum := "e35085560f630fb3ba52089e6fd8e194c11bd9678436007821ca1120b406a73d", func := "loop.example/g01299/laws.FnSights", spec := "fnSights", unfollowed := true, recurses := true, apart := false, narrowed := true }
def FnSightsUptoSaid : Prop := fnSightsUptoRow.holds Try.pinned (OpenSpec.upto fnSightsSpec)

end Rows
end Go.Proofs.Ytgfknljhogfeaaa
