import Derived.Test.YtdlefdlnnclcaaaDoorRiskW
/-! RiskPlays as its row has it. -/
set_option linter.unusedVariables false
set_option linter.unusedSimpArgs false
namespace Go.Proofs.YtdlefdlnnclcaaaDoor.Risk
open Go.RowKit Go.Maps Go.Proofs.YtdlefdlnnclcaaaDoorW.PrintWords Go.Proofs.YtdlefdlnnclcaaaDoor.B Go.Proofs.YtdlefdlnnclcaaaDoor.Err

theorem plays_row (w : World) (hL : laidMetH Tryd.prog [("errors.errorType", Rows.laid_errors_errorType)] w) (z : Limits) (A : Option Addr) (cap : Nat) (l : List Act) (o : Int) (_ : wfLimits z) (hC : kAct.C w A l.length l) (_ : l.length ≤ cap) (hw : ∀ x ∈ l, wfAct x) (ho : (Lit.int .i64 o).wf = true) :
    Calls Tryd.prog 3 #[.agg #[.int .i64 z.Qty, .int .i64 z.Notional, .int .i64 z.Orders], .slice A l.length cap, .int .i64 o] w fun e w' => e = .returned (.bool true) ∧ Fr no w w' := by
  have hg := errType_of_laid hL
  by_cases h : 80 < l.length
  · exact plays_big w hg ⟨z.Qty, z.Notional, z.Orders⟩ A cap _ o h
  · cases hl : limB ⟨z.Qty, z.Notional, z.Orders⟩
    · exact plays_bad w hg ⟨z.Qty, z.Notional, z.Orders⟩ A cap _ o (by omega) hl
    · exact plays_c w hg ⟨z.Qty, z.Notional, z.Orders⟩ (limB_ok.1 hl) A cap l o hC (fun x hx => okAct_of (hw x hx)) ho (by omega)
end Go.Proofs.YtdlefdlnnclcaaaDoor.Risk
