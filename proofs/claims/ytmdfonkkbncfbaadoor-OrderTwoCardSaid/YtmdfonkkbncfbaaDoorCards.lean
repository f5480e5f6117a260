/-
  DERIVED. GIVEN WITH THE SEED: THE CARDS: each row of YtmdfonkkbncfbaaDoorRows.lean that lists a variable, with what it lists TIED to the program's text (the seventh form; the later family's looks); each row that meets fmt, with fmt's text TOLD by the authors' own Lean function (tested against real Go, not proved from fmt's source: count such statements apart). THE CARD IS WHAT COUNTS. Prove the row's statement (the work); the ties are given (YtmdfonkkbncfbaaDoorTie.lean); close each card by the builder's one call (the guide's Derived/Test/ToyasCard.lean, 'card_holds'). Laid BY PROGRAM, IN A SANDBOX (cutbox-door.mjs). By AI agents, Wed Nov 11 2026. No macro, syntax, notation, axiom, sorry.
-/
import Derived.Test.YtmdfonkkbncfbaaDoorRows
import GoSem.ClaimSeven
namespace Go.Proofs.YtmdfonkkbncfbaaDoor
namespace Rows

/-- THE TIED CARD OF 'straddlelaw2.SumsTurned'. -/
def sumsTurnedCard : Claim7 := { stood := { row := sumsTurnedRow, standIns := [], harness := (true, "bc8e82ff3d2a940a804f5dea4d19ee87b2172d844b5eb7b9170b74376ade929e"), looks := true }, kinds := [], alts := [], laidByText := true, laidKinds := [.handle], laidTests := true, laidLooks := .later }
def SumsTurnedCardSaid : Prop := Claim7.holds Tryd.pinned (.plain (OpenSpec.ofChange sumsTurnedSpec)) sumsTurnedCard

/-- THE TIED CARD OF 'straddlelaw11.OrderTwo'. -/
def orderTwoCard : Claim7 := { stood := { row := orderTwoRow, standIns := [], harness := (true, "bc8e82ff3d2a940a804f5dea4d19ee87b2172d844b5eb7b9170b74376ade929e"), looks := true }, kinds := [], alts := [], laidByText := true, laidKinds := [.data, .data, .data], laidTests := true, laidLooks := .later }
def OrderTwoCardSaid : Prop := Claim7.holds Tryd.pinned (.plain (OpenSpec.ofChange orderTwoSpec)) orderTwoCard

/-- THE TIED CARD OF 'straddlelaw11.OrderThree'. -/
def orderThreeCard : Claim7 := { stood := { row := orderThreeRow, standIns := [], harness := (true, "bc8e82ff3d2a940a804f5dea4d19ee87b2172d844b5eb7b9170b74376ade929e"), looks := true }, kinds := [], alts := [], laidByText := true, laidKinds := [.data, .data, .data], laidTests := true, laidLooks := .later }
def OrderThreeCardSaid : Prop := Claim7.holds Tryd.pinned (.plain (OpenSpec.ofChange orderThreeSpec)) orderThreeCard

/-- THE TIED CARD OF 'straddlelaw11.OrderTakes'. -/
def orderTakesCard : Claim7 := { stood := { row := orderTakesRow, standIns := [], harness := (true, "bc8e82ff3d2a940a804f5dea4d19ee87b2172d844b5eb7b9170b74376ade929e"), looks := true }, kinds := [], alts := [], laidByText := true, laidKinds := [.data, .data, .data], laidTests := true, laidLooks := .later }
def OrderTakesCardSaid : Prop := Claim7.holds Tryd.pinned (.plain (OpenSpec.ofChange orderTakesSpec)) orderTakesCard

/-- THE TIED CARD OF 'straddlelaw25.SessPlays'. -/
def sessPlaysCard : Claim7 := { stood := { row := sessPlaysRow, standIns := [], harness := (true, "bc8e82ff3d2a940a804f5dea4d19ee87b2172d844b5eb7b9170b74376ade929e"), looks := true }, kinds := [], alts := [], laidByText := true, laidKinds := [.handle], laidTests := true, laidLooks := .later }
def SessPlaysCardSaid : Prop := Claim7.holds Tryd.pinned (.plain (OpenSpec.ofChange sessPlaysSpec)) sessPlaysCard

/-- THE TIED CARD OF 'straddlelaw25.SessTurns'. -/
def sessTurnsCard : Claim7 := { stood := { row := sessTurnsRow, standIns := [], harness := (true, "bc8e82ff3d2a940a804f5dea4d19ee87b2172d844b5eb7b9170b74376ade929e"), looks := true }, kinds := [], alts := [], laidByText := true, laidKinds := [.handle], laidTests := true, laidLooks := .later }
def SessTurnsCardSaid : Prop := Claim7.holds Tryd.pinned (.plain (OpenSpec.ofChange sessTurnsSpec)) sessTurnsCard

/-- THE TIED CARD OF 'straddlelaw25.SessLate'. -/
def sessLateCard : Claim7 := { stood := { row := sessLateRow, standIns := [], harness := (true, "bc8e82ff3d2a940a804f5dea4d19ee87b2172d844b5eb7b9170b74376ade929e"), looks := true }, kinds := [], alts := [], laidByText := true, laidKinds := [.handle], laidTests := true, laidLooks := .later }
def SessLateCardSaid : Prop := Claim7.holds Tryd.pinned (.plain (OpenSpec.ofChange sessLateSpec)) sessLateCard

/-- THE TIED CARD OF 'straddlelaw25.SessApart'. -/
def sessApartCard : Claim7 := { stood := { row := sessApartRow, standIns := [], harness := (true, "bc8e82ff3d2a940a804f5dea4d19ee87b2172d844b5eb7b9170b74376ade929e"), looks := true }, kinds := [], alts := [], laidByText := true, laidKinds := [.handle], laidTests := true, laidLooks := .later }
def SessApartCardSaid : Prop := Claim7.holds Tryd.pinned (.plain (OpenSpec.ofChange sessApartSpec)) sessApartCard

/-- THE TIED CARD OF 'straddlelaw2.SumsAny'. -/
def sumsAnyCard : Claim7 := { stood := { row := sumsAnyRow, standIns := [], harness := (true, "bc8e82ff3d2a940a804f5dea4d19ee87b2172d844b5eb7b9170b74376ade929e"), looks := true }, kinds := [], alts := [], laidByText := true, laidKinds := [.handle], laidTests := true, laidLooks := .later }
def SumsAnyCardSaid : Prop := Claim7.holds Tryd.pinned (.plain (OpenSpec.ofChange sumsAnySpec)) sumsAnyCard

/-- THE TIED CARD OF 'straddlelaw24.RiskPlays'. -/
def riskPlaysCard : Claim7 := { stood := { row := riskPlaysRow, standIns := [], harness := (true, "bc8e82ff3d2a940a804f5dea4d19ee87b2172d844b5eb7b9170b74376ade929e"), looks := true }, kinds := [], alts := [], laidByText := true, laidKinds := [.handle], laidTests := true, laidLooks := .later }
def RiskPlaysCardSaid : Prop := Claim7.holds Tryd.pinned (.plain (OpenSpec.ofChange riskPlaysSpec)) riskPlaysCard

/-- THE TIED CARD OF 'straddlelaw24.RiskReturns'. -/
def riskReturnsCard : Claim7 := { stood := { row := riskReturnsRow, standIns := [], harness := (true, "bc8e82ff3d2a940a804f5dea4d19ee87b2172d844b5eb7b9170b74376ade929e"), looks := true }, kinds := [], alts := [], laidByText := true, laidKinds := [.handle], laidTests := true, laidLooks := .later }
def RiskReturnsCardSaid : Prop := Claim7.holds Tryd.pinned (.plain (OpenSpec.ofChange riskReturnsSpec)) riskReturnsCard

/-- THE TIED CARD OF 'straddlelaw24.RiskBounds'. -/
def riskBoundsCard : Claim7 := { stood := { row := riskBoundsRow, standIns := [], harness := (true, "bc8e82ff3d2a940a804f5dea4d19ee87b2172d844b5eb7b9170b74376ade929e"), looks := true }, kinds := [], alts := [], laidByText := true, laidKinds := [.handle], laidTests := true, laidLooks := .later }
def RiskBoundsCardSaid : Prop := Claim7.holds Tryd.pinned (.plain (OpenSpec.ofChange riskBoundsSpec)) riskBoundsCard

/-- THE SECOND FORM's CARD OF 'straddlelaw2.SumsTurned'. -/
def sumsTurnedUptoCard : Claim7 := { stood := { row := sumsTurnedUptoRow, standIns := [], harness := (true, "bc8e82ff3d2a940a804f5dea4d19ee87b2172d844b5eb7b9170b74376ade929e"), looks := true }, kinds := [], alts := [], laidByText := true, laidKinds := [.handle], laidTests := true, laidLooks := .later }
def SumsTurnedUptoCardSaid : Prop := Claim7.holds Tryd.pinned (.plain (OpenSpec.upto sumsTurnedSpec)) sumsTurnedUptoCard

/-- THE SECOND FORM's CARD OF 'straddlelaw11.OrderTwo'. -/
def orderTwoUptoCard : Claim7 := { stood := { row := orderTwoUptoRow, standIns := [], harness := (true, "bc8e82ff3d2a940a804f5dea4d19ee87b2172d844b5eb7b9170b74376ade929e"), looks := true }, kinds := [], alts := [], laidByText := true, laidKinds := [.data, .data, .data], laidTests := true, laidLooks := .later }
def OrderTwoUptoCardSaid : Prop := Claim7.holds Tryd.pinned (.plain (OpenSpec.upto orderTwoSpec)) orderTwoUptoCard

/-- THE SECOND FORM's CARD OF 'straddlelaw11.OrderThree'. -/
def orderThreeUptoCard : Claim7 := { stood := { row := orderThreeUptoRow, standIns := [], harness := (true, "bc8e82ff3d2a940a804f5dea4d19ee87b2172d844b5eb7b9170b74376ade929e"), looks := true }, kinds := [], alts := [], laidByText := true, laidKinds := [.data, .data, .data], laidTests := true, laidLooks := .later }
def OrderThreeUptoCardSaid : Prop := Claim7.holds Tryd.pinned (.plain (OpenSpec.upto orderThreeSpec)) orderThreeUptoCard

/-- THE SECOND FORM's CARD OF 'straddlelaw11.OrderTakes'. -/
def orderTakesUptoCard : Claim7 := { stood := { row := orderTakesUptoRow, standIns := [], harness := (true, "bc8e82ff3d2a940a804f5dea4d19ee87b2172d844b5eb7b9170b74376ade929e"), looks := true }, kinds := [], alts := [], laidByText := true, laidKinds := [.data, .data, .data], laidTests := true, laidLooks := .later }
def OrderTakesUptoCardSaid : Prop := Claim7.holds Tryd.pinned (.plain (OpenSpec.upto orderTakesSpec)) orderTakesUptoCard

/-- THE SECOND FORM's CARD OF 'straddlelaw25.SessPlays'. -/
def sessPlaysUptoCard : Claim7 := { stood := { row := sessPlaysUptoRow, standIns := [], harness := (true, "bc8e82ff3d2a940a804f5dea4d19ee87b2172d844b5eb7b9170b74376ade929e"), looks := true }, kinds := [], alts := [], laidByText := true, laidKinds := [.handle], laidTests := true, laidLooks := .later }
def SessPlaysUptoCardSaid : Prop := Claim7.holds Tryd.pinned (.plain (OpenSpec.upto sessPlaysSpec)) sessPlaysUptoCard

/-- THE SECOND FORM's CARD OF 'straddlelaw25.SessTurns'. -/
def sessTurnsUptoCard : Claim7 := { stood := { row := sessTurnsUptoRow, standIns := [], harness := (true, "bc8e82ff3d2a940a804f5dea4d19ee87b2172d844b5eb7b9170b74376ade929e"), looks := true }, kinds := [], alts := [], laidByText := true, laidKinds := [.handle], laidTests := true, laidLooks := .later }
def SessTurnsUptoCardSaid : Prop := Claim7.holds Tryd.pinned (.plain (OpenSpec.upto sessTurnsSpec)) sessTurnsUptoCard

/-- THE SECOND FORM's CARD OF 'straddlelaw25.SessLate'. -/
def sessLateUptoCard : Claim7 := { stood := { row := sessLateUptoRow, standIns := [], harness := (true, "bc8e82ff3d2a940a804f5dea4d19ee87b2172d844b5eb7b9170b74376ade929e"), looks := true }, kinds := [], alts := [], laidByText := true, laidKinds := [.handle], laidTests := true, laidLooks := .later }
def SessLateUptoCardSaid : Prop := Claim7.holds Tryd.pinned (.plain (OpenSpec.upto sessLateSpec)) sessLateUptoCard

/-- THE SECOND FORM's CARD OF 'straddlelaw25.SessApart'. -/
def sessApartUptoCard : Claim7 := { stood := { row := sessApartUptoRow, standIns := [], harness := (true, "bc8e82ff3d2a940a804f5dea4d19ee87b2172d844b5eb7b9170b74376ade929e"), looks := true }, kinds := [], alts := [], laidByText := true, laidKinds := [.handle], laidTests := true, laidLooks := .later }
def SessApartUptoCardSaid : Prop := Claim7.holds Tryd.pinned (.plain (OpenSpec.upto sessApartSpec)) sessApartUptoCard

/-- THE SECOND FORM's CARD OF 'straddlelaw2.SumsAny'. -/
def sumsAnyUptoCard : Claim7 := { stood := { row := sumsAnyUptoRow, standIns := [], harness := (true, "bc8e82ff3d2a940a804f5dea4d19ee87b2172d844b5eb7b9170b74376ade929e"), looks := true }, kinds := [], alts := [], laidByText := true, laidKinds := [.handle], laidTests := true, laidLooks := .later }
def SumsAnyUptoCardSaid : Prop := Claim7.holds Tryd.pinned (.plain (OpenSpec.upto sumsAnySpec)) sumsAnyUptoCard

/-- THE SECOND FORM's CARD OF 'straddlelaw24.RiskPlays'. -/
def riskPlaysUptoCard : Claim7 := { stood := { row := riskPlaysUptoRow, standIns := [], harness := (true, "bc8e82ff3d2a940a804f5dea4d19ee87b2172d844b5eb7b9170b74376ade929e"), looks := true }, kinds := [], alts := [], laidByText := true, laidKinds := [.handle], laidTests := true, laidLooks := .later }
def RiskPlaysUptoCardSaid : Prop := Claim7.holds Tryd.pinned (.plain (OpenSpec.upto riskPlaysSpec)) riskPlaysUptoCard

/-- THE SECOND FORM's CARD OF 'straddlelaw24.RiskReturns'. -/
def riskReturnsUptoCard : Claim7 := { stood := { row := riskReturnsUptoRow, standIns := [], harness := (true, "bc8e82ff3d2a940a804f5dea4d19ee87b2172d844b5eb7b9170b74376ade929e"), looks := true }, kinds := [], alts := [], laidByText := true, laidKinds := [.handle], laidTests := true, laidLooks := .later }
def RiskReturnsUptoCardSaid : Prop := Claim7.holds Tryd.pinned (.plain (OpenSpec.upto riskReturnsSpec)) riskReturnsUptoCard

/-- THE SECOND FORM's CARD OF 'straddlelaw24.RiskBounds'. -/
def riskBoundsUptoCard : Claim7 := { stood := { row := riskBoundsUptoRow, standIns := [], harness := (true, "bc8e82ff3d2a940a804f5dea4d19ee87b2172d844b5eb7b9170b74376ade929e"), looks := true }, kinds := [], alts := [], laidByText := true, laidKinds := [.handle], laidTests := true, laidLooks := .later }
def RiskBoundsUptoCardSaid : Prop := Claim7.holds Tryd.pinned (.plain (OpenSpec.upto riskBoundsSpec)) riskBoundsUptoCard
end Rows
end Go.Proofs.YtmdfonkkbncfbaaDoor
