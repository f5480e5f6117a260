/-
  DERIVED. GIVEN WITH THE SEED: THE CARDS: each row of YtcbhddajkleleaaDoorRows.lean that lists a variable, with what it lists TIED to the program's text (the seventh form; the later family's looks); each row that meets fmt, with fmt's text TOLD by the authors' own Lean function (tested against real Go, not proved from fmt's source: count such statements apart). THE CARD IS WHAT COUNTS. Prove the row's statement (the work); the ties are given (YtcbhddajkleleaaDoorTie.lean); close each card by the builder's one call (the guide's Derived/Test/ToyasCard.lean, 'card_holds'). Laid BY PROGRAM, IN A SANDBOX (cutbox-door.mjs). By AI agents, Wed Nov 11 2026. No macro, syntax, notation, axiom, sorry.
-/
import Derived.Test.YtcbhddajkleleaaDoorRows
import GoSem.ClaimSeven
namespace Go.Proofs.YtcbhddajkleleaaDoor
namespace Rows

/-- THE TIED CARD OF 'straddlelaw4.MsgKinds'. -/
def msgKindsCard : Claim7 := { stood := { row := msgKindsRow, standIns := [], harness := (true, "1459350653e56677429ef64ffcac56a76fa0cdff554b17a7b54fe0406d71b41a"), looks := true }, kinds := [], alts := [], laidByText := true, laidKinds := [.data, .data, .data], laidTests := true, laidLooks := .later }
def MsgKindsCardSaid : Prop := Claim7.holds Tryd.pinned (.plain (OpenSpec.ofChange msgKindsSpec)) msgKindsCard

/-- THE TIED CARD OF 'straddlelaw4.MsgTwo'. -/
def msgTwoCard : Claim7 := { stood := { row := msgTwoRow, standIns := [], harness := (true, "1459350653e56677429ef64ffcac56a76fa0cdff554b17a7b54fe0406d71b41a"), looks := true }, kinds := [], alts := [], laidByText := true, laidKinds := [.data, .data, .data], laidTests := true, laidLooks := .later }
def MsgTwoCardSaid : Prop := Claim7.holds Tryd.pinned (.plain (OpenSpec.ofChange msgTwoSpec)) msgTwoCard

/-- THE TIED CARD OF 'straddlelaw4.MsgRows'. -/
def msgRowsCard : Claim7 := { stood := { row := msgRowsRow, standIns := [], harness := (true, "1459350653e56677429ef64ffcac56a76fa0cdff554b17a7b54fe0406d71b41a"), looks := true }, kinds := [], alts := [], laidByText := true, laidKinds := [.data, .data, .data, .handle], laidTests := true, laidLooks := .later }
def MsgRowsCardSaid : Prop := Claim7.holds Tryd.pinned (.plain (OpenSpec.ofChange msgRowsSpec)) msgRowsCard

/-- THE TIED CARD OF 'straddlelaw4.MsgCuts'. -/
def msgCutsCard : Claim7 := { stood := { row := msgCutsRow, standIns := [], harness := (true, "1459350653e56677429ef64ffcac56a76fa0cdff554b17a7b54fe0406d71b41a"), looks := true }, kinds := [], alts := [], laidByText := true, laidKinds := [.data, .data, .data, .handle], laidTests := true, laidLooks := .later }
def MsgCutsCardSaid : Prop := Claim7.holds Tryd.pinned (.plain (OpenSpec.ofChange msgCutsSpec)) msgCutsCard

/-- THE SECOND FORM's CARD OF 'straddlelaw4.MsgKinds'. -/
def msgKindsUptoCard : Claim7 := { stood := { row := msgKindsUptoRow, standIns := [], harness := (true, "1459350653e56677429ef64ffcac56a76fa0cdff554b17a7b54fe0406d71b41a"), looks := true }, kinds := [], alts := [], laidByText := true, laidKinds := [.data, .data, .data], laidTests := true, laidLooks := .later }
def MsgKindsUptoCardSaid : Prop := Claim7.holds Tryd.pinned (.plain (OpenSpec.upto msgKindsSpec)) msgKindsUptoCard

/-- THE SECOND FORM's CARD OF 'straddlelaw4.MsgTwo'. -/
def msgTwoUptoCard : Claim7 := { stood := { row := msgTwoUptoRow, standIns := [], harness := (true, "1459350653e56677429ef64ffcac56a76fa0cdff554b17a7b54fe0406d71b41a"), looks := true }, kinds := [], alts := [], laidByText := true, laidKinds := [.data, .data, .data], laidTests := true, laidLooks := .later }
def MsgTwoUptoCardSaid : Prop := Claim7.holds Tryd.pinned (.plain (OpenSpec.upto msgTwoSpec)) msgTwoUptoCard

/-- THE SECOND FORM's CARD OF 'straddlelaw4.MsgRows'. -/
def msgRowsUptoCard : Claim7 := { stood := { row := msgRowsUptoRow, standIns := [], harness := (true, "1459350653e56677429ef64ffcac56a76fa0cdff554b17a7b54fe0406d71b41a"), looks := true }, kinds := [], alts := [], laidByText := true, laidKinds := [.data, .data, .data, .handle], laidTests := true, laidLooks := .later }
def MsgRowsUptoCardSaid : Prop := Claim7.holds Tryd.pinned (.plain (OpenSpec.upto msgRowsSpec)) msgRowsUptoCard

/-- THE SECOND FORM's CARD OF 'straddlelaw4.MsgCuts'. -/
def msgCutsUptoCard : Claim7 := { stood := { row := msgCutsUptoRow, standIns := [], harness := (true, "1459350653e56677429ef64ffcac56a76fa0cdff554b17a7b54fe0406d71b41a"), looks := true }, kinds := [], alts := [], laidByText := true, laidKinds := [.data, .data, .data, .handle], laidTests := true, laidLooks := .later }
def MsgCutsUptoCardSaid : Prop := Claim7.holds Tryd.pinned (.plain (OpenSpec.upto msgCutsSpec)) msgCutsUptoCard
end Rows
end Go.Proofs.YtcbhddajkleleaaDoor
