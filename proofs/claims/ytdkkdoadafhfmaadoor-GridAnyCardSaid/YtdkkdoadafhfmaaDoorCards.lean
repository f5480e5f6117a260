/-
  DERIVED. GIVEN WITH THE SEED: THE CARDS: each row of YtdkkdoadafhfmaaDoorRows.lean that lists a variable, with what it lists TIED to the program's text (the seventh form; the later family's looks); each row that meets fmt, with fmt's text TOLD by the authors' own Lean function (tested against real Go, not proved from fmt's source: count such statements apart). THE CARD IS WHAT COUNTS. Prove the row's statement (the work); the ties are given (YtdkkdoadafhfmaaDoorTie.lean); close each card by the builder's one call (the guide's Derived/Test/ToyasCard.lean, 'card_holds'). Laid BY PROGRAM, IN A SANDBOX (cutbox-door.mjs). By AI agents, Wed Nov 11 2026. No macro, syntax, notation, axiom, sorry.
-/
import Derived.Test.YtdkkdoadafhfmaaDoorRows
import GoSem.ClaimSeven
namespace Go.Proofs.YtdkkdoadafhfmaaDoor
namespace Rows

/-- THE TIED CARD OF 'straddlelaw2.SumsTurned'. -/
def sumsTurnedCard : Claim7 := { stood := { row := sumsTurnedRow, standIns := [], harness := (true, "c5df7fb74c844b94afa752cea7466f67967f3cbd2b7eb627a93dc74355806f1a"), looks := true }, kinds := [], alts := [], laidByText := true, laidKinds := [.handle], laidTests := true, laidLooks := .later }
def SumsTurnedCardSaid : Prop := Claim7.holds Tryd.pinned (.plain (OpenSpec.ofChange sumsTurnedSpec)) sumsTurnedCard

/-- THE TIED CARD OF 'straddlelaw25.SessTurns'. -/
def sessTurnsCard : Claim7 := { stood := { row := sessTurnsRow, standIns := [], harness := (true, "c5df7fb74c844b94afa752cea7466f67967f3cbd2b7eb627a93dc74355806f1a"), looks := true }, kinds := [], alts := [], laidByText := true, laidKinds := [.handle], laidTests := true, laidLooks := .later }
def SessTurnsCardSaid : Prop := Claim7.holds Tryd.pinned (.plain (OpenSpec.ofChange sessTurnsSpec)) sessTurnsCard

/-- THE TIED CARD OF 'straddlelaw25.SessLate'. -/
def sessLateCard : Claim7 := { stood := { row := sessLateRow, standIns := [], harness := (true, "c5df7fb74c844b94afa752cea7466f67967f3cbd2b7eb627a93dc74355806f1a"), looks := true }, kinds := [], alts := [], laidByText := true, laidKinds := [.handle], laidTests := true, laidLooks := .later }
def SessLateCardSaid : Prop := Claim7.holds Tryd.pinned (.plain (OpenSpec.ofChange sessLateSpec)) sessLateCard

/-- THE TIED CARD OF 'straddlelaw25.SessApart'. -/
def sessApartCard : Claim7 := { stood := { row := sessApartRow, standIns := [], harness := (true, "c5df7fb74c844b94afa752cea7466f67967f3cbd2b7eb627a93dc74355806f1a"), looks := true }, kinds := [], alts := [], laidByText := true, laidKinds := [.handle], laidTests := true, laidLooks := .later }
def SessApartCardSaid : Prop := Claim7.holds Tryd.pinned (.plain (OpenSpec.ofChange sessApartSpec)) sessApartCard

/-- THE TIED CARD OF 'straddlelaw24.RiskPlays'. -/
def riskPlaysCard : Claim7 := { stood := { row := riskPlaysRow, standIns := [], harness := (true, "c5df7fb74c844b94afa752cea7466f67967f3cbd2b7eb627a93dc74355806f1a"), looks := true }, kinds := [], alts := [], laidByText := true, laidKinds := [.handle], laidTests := true, laidLooks := .later }
def RiskPlaysCardSaid : Prop := Claim7.holds Tryd.pinned (.plain (OpenSpec.ofChange riskPlaysSpec)) riskPlaysCard

/-- THE TIED CARD OF 'straddlelaw24.RiskReturns'. -/
def riskReturnsCard : Claim7 := { stood := { row := riskReturnsRow, standIns := [], harness := (true, "c5df7fb74c844b94afa752cea7466f67967f3cbd2b7eb627a93dc74355806f1a"), looks := true }, kinds := [], alts := [], laidByText := true, laidKinds := [.handle], laidTests := true, laidLooks := .later }
def RiskReturnsCardSaid : Prop := Claim7.holds Tryd.pinned (.plain (OpenSpec.ofChange riskReturnsSpec)) riskReturnsCard

/-- THE TIED CARD OF 'straddlelaw24.RiskBounds'. -/
def riskBoundsCard : Claim7 := { stood := { row := riskBoundsRow, standIns := [], harness := (true, "c5df7fb74c844b94afa752cea7466f67967f3cbd2b7eb627a93dc74355806f1a"), looks := true }, kinds := [], alts := [], laidByText := true, laidKinds := [.handle], laidTests := true, laidLooks := .later }
def RiskBoundsCardSaid : Prop := Claim7.holds Tryd.pinned (.plain (OpenSpec.ofChange riskBoundsSpec)) riskBoundsCard

/-- THE TIED CARD OF 'straddlelaw6.GridAny'. -/
def gridAnyCard : Claim7 := { stood := { row := gridAnyRow, standIns := [], harness := (true, "c5df7fb74c844b94afa752cea7466f67967f3cbd2b7eb627a93dc74355806f1a"), looks := true }, kinds := [], alts := [], laidByText := true, laidKinds := [.handle], laidTests := true, laidLooks := .later }
def GridAnyCardSaid : Prop := Claim7.holds Tryd.pinned (.plain (OpenSpec.ofChange gridAnySpec)) gridAnyCard

/-- THE SECOND FORM's CARD OF 'straddlelaw2.SumsTurned'. -/
def sumsTurnedUptoCard : Claim7 := { stood := { row := sumsTurnedUptoRow, standIns := [], harness := (true, "c5df7fb74c844b94afa752cea7466f67967f3cbd2b7eb627a93dc74355806f1a"), looks := true }, kinds := [], alts := [], laidByText := true, laidKinds := [.handle], laidTests := true, laidLooks := .later }
def SumsTurnedUptoCardSaid : Prop := Claim7.holds Tryd.pinned (.plain (OpenSpec.upto sumsTurnedSpec)) sumsTurnedUptoCard

/-- THE SECOND FORM's CARD OF 'straddlelaw25.SessTurns'. -/
def sessTurnsUptoCard : Claim7 := { stood := { row := sessTurnsUptoRow, standIns := [], harness := (true, "c5df7fb74c844b94afa752cea7466f67967f3cbd2b7eb627a93dc74355806f1a"), looks := true }, kinds := [], alts := [], laidByText := true, laidKinds := [.handle], laidTests := true, laidLooks := .later }
def SessTurnsUptoCardSaid : Prop := Claim7.holds Tryd.pinned (.plain (OpenSpec.upto sessTurnsSpec)) sessTurnsUptoCard

/-- THE SECOND FORM's CARD OF 'straddlelaw25.SessLate'. -/
def sessLateUptoCard : Claim7 := { stood := { row := sessLateUptoRow, standIns := [], harness := (true, "c5df7fb74c844b94afa752cea7466f67967f3cbd2b7eb627a93dc74355806f1a"), looks := true }, kinds := [], alts := [], laidByText := true, laidKinds := [.handle], laidTests := true, laidLooks := .later }
def SessLateUptoCardSaid : Prop := Claim7.holds Tryd.pinned (.plain (OpenSpec.upto sessLateSpec)) sessLateUptoCard

/-- THE SECOND FORM's CARD OF 'straddlelaw25.SessApart'. -/
def sessApartUptoCard : Claim7 := { stood := { row := sessApartUptoRow, standIns := [], harness := (true, "c5df7fb74c844b94afa752cea7466f67967f3cbd2b7eb627a93dc74355806f1a"), looks := true }, kinds := [], alts := [], laidByText := true, laidKinds := [.handle], laidTests := true, laidLooks := .later }
def SessApartUptoCardSaid : Prop := Claim7.holds Tryd.pinned (.plain (OpenSpec.upto sessApartSpec)) sessApartUptoCard

/-- THE SECOND FORM's CARD OF 'straddlelaw24.RiskPlays'. -/
def riskPlaysUptoCard : Claim7 := { stood := { row := riskPlaysUptoRow, standIns := [], harness := (true, "c5df7fb74c844b94afa752cea7466f67967f3cbd2b7eb627a93dc74355806f1a"), looks := true }, kinds := [], alts := [], laidByText := true, laidKinds := [.handle], laidTests := true, laidLooks := .later }
def RiskPlaysUptoCardSaid : Prop := Claim7.holds Tryd.pinned (.plain (OpenSpec.upto riskPlaysSpec)) riskPlaysUptoCard

/-- THE SECOND FORM's CARD OF 'straddlelaw24.RiskReturns'. -/
def riskReturnsUptoCard : Claim7 := { stood := { row := riskReturnsUptoRow, standIns := [], harness := (true, "c5df7fb74c844b94afa752cea7466f67967f3cbd2b7eb627a93dc74355806f1a"), looks := true }, kinds := [], alts := [], laidByText := true, laidKinds := [.handle], laidTests := true, laidLooks := .later }
def RiskReturnsUptoCardSaid : Prop := Claim7.holds Tryd.pinned (.plain (OpenSpec.upto riskReturnsSpec)) riskReturnsUptoCard

/-- THE SECOND FORM's CARD OF 'straddlelaw24.RiskBounds'. -/
def riskBoundsUptoCard : Claim7 := { stood := { row := riskBoundsUptoRow, standIns := [], harness := (true, "c5df7fb74c844b94afa752cea7466f67967f3cbd2b7eb627a93dc74355806f1a"), looks := true }, kinds := [], alts := [], laidByText := true, laidKinds := [.handle], laidTests := true, laidLooks := .later }
def RiskBoundsUptoCardSaid : Prop := Claim7.holds Tryd.pinned (.plain (OpenSpec.upto riskBoundsSpec)) riskBoundsUptoCard

/-- THE SECOND FORM's CARD OF 'straddlelaw6.GridAny'. -/
def gridAnyUptoCard : Claim7 := { stood := { row := gridAnyUptoRow, standIns := [], harness := (true, "c5df7fb74c844b94afa752cea7466f67967f3cbd2b7eb627a93dc74355806f1a"), looks := true }, kinds := [], alts := [], laidByText := true, laidKinds := [.handle], laidTests := true, laidLooks := .later }
def GridAnyUptoCardSaid : Prop := Claim7.holds Tryd.pinned (.plain (OpenSpec.upto gridAnySpec)) gridAnyUptoCard
end Rows
end Go.Proofs.YtdkkdoadafhfmaaDoor
