/-
  DERIVED. GIVEN WITH THE SEED: THE CARDS: each row of YtbhofjmmdlkofaaDoorRows.lean that lists a variable, with what it lists TIED to the program's text (the seventh form; the later family's looks); each row that meets fmt, with fmt's text TOLD by the authors' own Lean function (tested against real Go, not proved from fmt's source: count such statements apart). THE CARD IS WHAT COUNTS. Prove the row's statement (the work); the ties are given (YtbhofjmmdlkofaaDoorTie.lean); close each card by the builder's one call (the guide's Derived/Test/ToyasCard.lean, 'card_holds'). Laid BY PROGRAM, IN A SANDBOX (cutbox-door.mjs). By AI agents, Wed Nov 11 2026. No macro, syntax, notation, axiom, sorry.
-/
import Derived.Test.YtbhofjmmdlkofaaDoorRows
import GoSem.ClaimSeven
namespace Go.Proofs.YtbhofjmmdlkofaaDoor
namespace Rows

/-- THE TIED CARD OF 'straddlelaw11.OrderAny'. -/
def orderAnyCard : Claim7 := { stood := { row := orderAnyRow, standIns := [], harness := (true, "59873b1c6caf3d9492302780786316681773277ef1cfbd9e38a807f3f2a79489"), looks := true }, kinds := [], alts := [], laidByText := true, laidKinds := [.data, .data, .data, .handle], laidTests := true, laidLooks := .later }
def OrderAnyCardSaid : Prop := Claim7.holds Tryd.pinned (.plain (OpenSpec.ofChange orderAnySpec)) orderAnyCard

/-- THE SECOND FORM's CARD OF 'straddlelaw11.OrderAny'. -/
def orderAnyUptoCard : Claim7 := { stood := { row := orderAnyUptoRow, standIns := [], harness := (true, "59873b1c6caf3d9492302780786316681773277ef1cfbd9e38a807f3f2a79489"), looks := true }, kinds := [], alts := [], laidByText := true, laidKinds := [.data, .data, .data, .handle], laidTests := true, laidLooks := .later }
def OrderAnyUptoCardSaid : Prop := Claim7.holds Tryd.pinned (.plain (OpenSpec.upto orderAnySpec)) orderAnyUptoCard
end Rows
end Go.Proofs.YtbhofjmmdlkofaaDoor
