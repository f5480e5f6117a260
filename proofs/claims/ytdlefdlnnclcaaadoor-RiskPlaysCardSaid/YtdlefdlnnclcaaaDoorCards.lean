/-
  DERIVED. GIVEN WITH THE SEED: THE CARDS: each row of YtdlefdlnnclcaaaDoorRows.lean that lists a variable, with what it lists TIED to the program's text (the seventh form; the later family's looks); each row that meets fmt, with fmt's text TOLD by the authors' own Lean function (tested against real Go, not proved from fmt's source: count such statements apart). THE CARD IS WHAT COUNTS. Prove the row's statement (the work); the ties are given (YtdlefdlnnclcaaaDoorTie.lean); close each card by the builder's one call (the guide's Derived/Test/ToyasCard.lean, 'card_holds'). Laid BY PROGRAM, IN A SANDBOX (cutbox-door.mjs). By AI agents, Wed Nov 11 2026. No macro, syntax, notation, axiom, sorry.
-/
import Derived.Test.YtdlefdlnnclcaaaDoorRows
import GoSem.ClaimSeven
namespace Go.Proofs.YtdlefdlnnclcaaaDoor
namespace Rows

/-- THE TIED CARD OF 'straddlelaw24.RiskPlays'. -/
def riskPlaysCard : Claim7 := { stood := { row := riskPlaysRow, standIns := [], harness := (true, "64285448e22f379dc5e6abdaa124a3e62da05f50481b05549c81d9a95bdedceb"), looks := true }, kinds := [], alts := [], laidByText := true, laidKinds := [.handle], laidTests := true, laidLooks := .later }
def RiskPlaysCardSaid : Prop := Claim7.holds Tryd.pinned (.plain (OpenSpec.ofChange riskPlaysSpec)) riskPlaysCard

/-- THE SECOND FORM's CARD OF 'straddlelaw24.RiskPlays'. -/
def riskPlaysUptoCard : Claim7 := { stood := { row := riskPlaysUptoRow, standIns := [], harness := (true, "64285448e22f379dc5e6abdaa124a3e62da05f50481b05549c81d9a95bdedceb"), looks := true }, kinds := [], alts := [], laidByText := true, laidKinds := [.handle], laidTests := true, laidLooks := .later }
def RiskPlaysUptoCardSaid : Prop := Claim7.holds Tryd.pinned (.plain (OpenSpec.upto riskPlaysSpec)) riskPlaysUptoCard
end Rows
end Go.Proofs.YtdlefdlnnclcaaaDoor
