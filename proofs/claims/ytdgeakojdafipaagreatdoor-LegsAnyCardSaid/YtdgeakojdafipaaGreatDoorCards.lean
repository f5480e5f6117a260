/-
  DERIVED. GIVEN WITH THE SEED: THE CARDS: each row of YtdgeakojdafipaaGreatDoorRows.lean that lists a variable, with what it lists TIED to the program's text (the seventh form; the later family's looks); each row that meets fmt, with fmt's text TOLD by the authors' own Lean function (tested against real Go, not proved from fmt's source: count such statements apart). THE CARD IS WHAT COUNTS. Prove the row's statement (the work); the ties are given (YtdgeakojdafipaaGreatDoorTie.lean); close each card by the builder's one call (the guide's Derived/Test/ToyasCard.lean, 'card_holds'). Laid BY PROGRAM, IN A SANDBOX (cutbox-door.mjs). By AI agents, Wed Nov 11 2026. No macro, syntax, notation, axiom, sorry.
-/
import Derived.Test.YtdgeakojdafipaaGreatDoorRows
import GoSem.ClaimSeven
namespace Go.Proofs.YtdgeakojdafipaaGreatDoor
namespace Rows

/-- THE TIED CARD OF 'straddlelaw17.LegsAny'. -/
def legsAnyCard : Claim7 := { stood := { row := legsAnyRow, standIns := [], harness := (true, "8df4e641061bc81413b61b600e451407d7b6868c4fe838d9b3c5d92778829738"), looks := true }, kinds := [], alts := [], laidByText := true, laidKinds := [.data, .data, .data, .handle], laidTests := true, laidLooks := .later }
def LegsAnyCardSaid : Prop := Claim7.holds Tryz.pinned (.plain (OpenSpec.ofChange legsAnySpec)) legsAnyCard

/-- THE SECOND FORM's CARD OF 'straddlelaw17.LegsAny'. -/
def legsAnyUptoCard : Claim7 := { stood := { row := legsAnyUptoRow, standIns := [], harness := (true, "8df4e641061bc81413b61b600e451407d7b6868c4fe838d9b3c5d92778829738"), looks := true }, kinds := [], alts := [], laidByText := true, laidKinds := [.data, .data, .data, .handle], laidTests := true, laidLooks := .later }
def LegsAnyUptoCardSaid : Prop := Claim7.holds Tryz.pinned (.plain (OpenSpec.upto legsAnySpec)) legsAnyUptoCard
end Rows
end Go.Proofs.YtdgeakojdafipaaGreatDoor
