/-
  DERIVED. GIVEN WITH THE SEED: THE CARDS: each row of YtinkdgfdnagplaaDoorRows.lean that lists a variable, with what it lists TIED to the program's text (the seventh form; the later family's looks); each row that meets fmt, with fmt's text TOLD by the authors' own Lean function (tested against real Go, not proved from fmt's source: count such statements apart). THE CARD IS WHAT COUNTS. Prove the row's statement (the work); the ties are given (YtinkdgfdnagplaaDoorTie.lean); close each card by the builder's one call (the guide's Derived/Test/ToyasCard.lean, 'card_holds'). Laid BY PROGRAM, IN A SANDBOX (cutbox-door.mjs). By AI agents, Wed Nov 11 2026. No macro, syntax, notation, axiom, sorry.
-/
import Derived.Test.YtinkdgfdnagplaaDoorRows
import GoSem.ClaimSeven
namespace Go.Proofs.YtinkdgfdnagplaaDoor
namespace Rows

/-- THE TIED CARD OF 'straddlelaw5.FrameBack'. -/
def frameBackCard : Claim7 := { stood := { row := frameBackRow, standIns := [], harness := (true, "2afcc2e7ccbd6a75512e0570345b4f087c82ad3d60d55fa0797aff8c349f0003"), looks := true }, kinds := [], alts := [], laidByText := true, laidKinds := [.handle], laidTests := true, laidLooks := .later }
def FrameBackCardSaid : Prop := Claim7.holds Tryd.pinned (.plain (OpenSpec.ofChange frameBackSpec)) frameBackCard

/-- THE TIED CARD OF 'straddlelaw5.FrameDead'. -/
def frameDeadCard : Claim7 := { stood := { row := frameDeadRow, standIns := [], harness := (true, "2afcc2e7ccbd6a75512e0570345b4f087c82ad3d60d55fa0797aff8c349f0003"), looks := true }, kinds := [], alts := [], laidByText := true, laidKinds := [.handle], laidTests := true, laidLooks := .later }
def FrameDeadCardSaid : Prop := Claim7.holds Tryd.pinned (.plain (OpenSpec.ofChange frameDeadSpec)) frameDeadCard

/-- THE TIED CARD OF 'straddlelaw5.FrameLengths'. -/
def frameLengthsCard : Claim7 := { stood := { row := frameLengthsRow, standIns := [], harness := (true, "2afcc2e7ccbd6a75512e0570345b4f087c82ad3d60d55fa0797aff8c349f0003"), looks := true }, kinds := [], alts := [], laidByText := true, laidKinds := [.handle], laidTests := true, laidLooks := .later }
def FrameLengthsCardSaid : Prop := Claim7.holds Tryd.pinned (.plain (OpenSpec.ofChange frameLengthsSpec)) frameLengthsCard

/-- THE SECOND FORM's CARD OF 'straddlelaw5.FrameBack'. -/
def frameBackUptoCard : Claim7 := { stood := { row := frameBackUptoRow, standIns := [], harness := (true, "2afcc2e7ccbd6a75512e0570345b4f087c82ad3d60d55fa0797aff8c349f0003"), looks := true }, kinds := [], alts := [], laidByText := true, laidKinds := [.handle], laidTests := true, laidLooks := .later }
def FrameBackUptoCardSaid : Prop := Claim7.holds Tryd.pinned (.plain (OpenSpec.upto frameBackSpec)) frameBackUptoCard

/-- THE SECOND FORM's CARD OF 'straddlelaw5.FrameDead'. -/
def frameDeadUptoCard : Claim7 := { stood := { row := frameDeadUptoRow, standIns := [], harness := (true, "2afcc2e7ccbd6a75512e0570345b4f087c82ad3d60d55fa0797aff8c349f0003"), looks := true }, kinds := [], alts := [], laidByText := true, laidKinds := [.handle], laidTests := true, laidLooks := .later }
def FrameDeadUptoCardSaid : Prop := Claim7.holds Tryd.pinned (.plain (OpenSpec.upto frameDeadSpec)) frameDeadUptoCard

/-- THE SECOND FORM's CARD OF 'straddlelaw5.FrameLengths'. -/
def frameLengthsUptoCard : Claim7 := { stood := { row := frameLengthsUptoRow, standIns := [], harness := (true, "2afcc2e7ccbd6a75512e0570345b4f087c82ad3d60d55fa0797aff8c349f0003"), looks := true }, kinds := [], alts := [], laidByText := true, laidKinds := [.handle], laidTests := true, laidLooks := .later }
def FrameLengthsUptoCardSaid : Prop := Claim7.holds Tryd.pinned (.plain (OpenSpec.upto frameLengthsSpec)) frameLengthsUptoCard
end Rows
end Go.Proofs.YtinkdgfdnagplaaDoor
