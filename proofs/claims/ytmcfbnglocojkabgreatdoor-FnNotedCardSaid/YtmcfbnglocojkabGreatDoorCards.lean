/-
  DERIVED. GIVEN WITH THE SEED: THE CARDS: each row of YtmcfbnglocojkabGreatDoorRows.lean that lists a variable, with what it lists TIED to the program's text (the seventh form; the later family's looks); each row that meets fmt, with fmt's text TOLD by the authors' own Lean function (tested against real Go, not proved from fmt's source: count such statements apart). THE CARD IS WHAT COUNTS. Prove the row's statement (the work); the ties are given (YtmcfbnglocojkabGreatDoorTie.lean); close each card by the builder's one call (the guide's Derived/Test/ToyasCard.lean, 'card_holds'). Laid BY PROGRAM, IN A SANDBOX (cutbox-door.mjs). By AI agents, Wed Nov 11 2026. No macro, syntax, notation, axiom, sorry.
-/
import Derived.Test.YtmcfbnglocojkabGreatDoorRows
import GoSem.ClaimSeven
namespace Go.Proofs.YtmcfbnglocojkabGreatDoor
namespace Rows

/-- THE TIED CARD OF 'laws.FnNoted'. -/
def fnNotedCard : Claim7 := { stood := { row := fnNotedRow, standIns := [], harness := (true, "b87b1eabe0ca70ffedb273b09cc5a0d17332086edc84fbdf78894b3d369c903b"), looks := true }, kinds := [], alts := [], laidByText := true, laidKinds := [.data, .data, .data, .data, .sentinel, .sentinel, .pinned], laidTests := true, laidLooks := .later }
def FnNotedCardSaid : Prop := Claim7.holds Tryz.pinned (.plain (OpenSpec.ofChange fnNotedSpec)) fnNotedCard

/-- THE SECOND FORM's CARD OF 'laws.FnNoted'. -/
def fnNotedUptoCard : Claim7 := { stood := { row := fnNotedUptoRow, standIns := [], harness := (true, "b87b1eabe0ca70ffedb273b09cc5a0d17332086edc84fbdf78894b3d369c903b"), looks := true }, kinds := [], alts := [], laidByText := true, laidKinds := [.data, .data, .data, .data, .sentinel, .sentinel, .pinned], laidTests := true, laidLooks := .later }
def FnNotedUptoCardSaid : Prop := Claim7.holds Tryz.pinned (.plain (OpenSpec.upto fnNotedSpec)) fnNotedUptoCard
end Rows
end Go.Proofs.YtmcfbnglocojkabGreatDoor
