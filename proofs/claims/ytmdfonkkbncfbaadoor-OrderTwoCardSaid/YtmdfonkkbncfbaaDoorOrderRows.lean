import Derived.Test.YtmdfonkkbncfbaaDoorOrderLaws
/-! The laws' walks in the rows' form. -/
set_option linter.unusedVariables false
namespace Go.Proofs.YtmdfonkkbncfbaaDoor.Order
open Go.RowKit Go.Proofs.YtmdfonkkbncfbaaDoorW.PrintWords Go.Proofs.YtmdfonkkbncfbaaDoor.B
theorem three_row (w : World) (a b c : Order) (_ : wfOrder a) (_ : wfOrder b) (_ : wfOrder c) : Calls Tryd.prog 5 #[.agg (kOrder_cells a).toArray, .agg (kOrder_cells b).toArray, .agg (kOrder_cells c).toArray] w fun e w' => e = .returned (.bool true) ∧ Fr no w w' := three_c a b c w
theorem takes_row (w : World) (a b : Order) (_ : wfOrder a) (_ : wfOrder b) : Calls Tryd.prog 6 #[.agg (kOrder_cells a).toArray, .agg (kOrder_cells b).toArray] w fun e w' => e = .returned (.bool true) ∧ Fr no w w' := takes_law a b w
theorem two_row (w : World) (a b : Order) (_ : wfOrder a) (_ : wfOrder b) : Calls Tryd.prog 4 #[.agg (kOrder_cells a).toArray, .agg (kOrder_cells b).toArray] w fun e w' => e = .returned (.bool true) ∧ Fr no w w' := two_c a b w
end Go.Proofs.YtmdfonkkbncfbaaDoor.Order
