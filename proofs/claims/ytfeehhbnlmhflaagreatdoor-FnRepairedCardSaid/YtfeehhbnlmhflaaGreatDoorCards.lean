/-
  DERIVED. GIVEN WITH THE SEED: THE CARDS: each row of YtfeehhbnlmhflaaGreatDoorRows.lean that lists a variable, with what it lists TIED to the program's text (the seventh form; the later family's looks); each row that meets fmt, with fmt's text TOLD by the authors' own Lean function (tested against real Go, not proved from fmt's source: count such statements apart). THE CARD IS WHAT COUNTS. Prove the row's statement (the work); the ties are given (YtfeehhbnlmhflaaGreatDoorTie.lean); close each card by the builder's one call (the guide's Derived/Test/ToyasCard.lean, 'card_holds'). Laid BY PROGRAM, IN A SANDBOX (cutbox-door.mjs). By AI agents, Wed Nov 11 2026. No macro, syntax, notation, axiom, sorry.
-/
import Derived.Test.YtfeehhbnlmhflaaGreatDoorRows
import GoSem.ClaimSeven
namespace Go.Proofs.YtfeehhbnlmhflaaGreatDoor
namespace Rows

/-- THE TIED CARD OF 'laws.FnRepaired'. -/
def fnRepairedCard : Claim7 := { stood := { row := fnRepairedRow, standIns := [], harness := (true, "84255649e8dc1c47c3949539282a8d78fd6bc20de0e3a8c12ed3935c299c5aad"), looks := true }, kinds := [], alts := [], laidByText := true, laidKinds := [.data, .data, .data, .data, .sentinel, .sentinel, .pinned], laidTests := true, laidLooks := .later }
def FnRepairedCardSaid : Prop := Claim7.holds Tryz.pinned (.plain (OpenSpec.ofChange fnRepairedSpec)) fnRepairedCard

/-- THE SECOND FORM's CARD OF 'laws.FnRepaired'. -/
def fnRepairedUptoCard : Claim7 := { stood := { row := fnRepairedUptoRow, standIns := [], harness := (true, "84255649e8dc1c47c3949539282a8d78fd6bc20de0e3a8c12ed3935c299c5aad"), looks := true }, kinds := [], alts := [], laidByText := true, laidKinds := [.data, .data, .data, .data, .sentinel, .sentinel, .pinned], laidTests := true, laidLooks := .later }
def FnRepairedUptoCardSaid : Prop := Claim7.holds Tryz.pinned (.plain (OpenSpec.upto fnRepairedSpec)) fnRepairedUptoCard
end Rows
end Go.Proofs.YtfeehhbnlmhflaaGreatDoor
