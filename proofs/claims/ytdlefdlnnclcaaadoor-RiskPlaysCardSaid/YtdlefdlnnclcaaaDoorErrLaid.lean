import Derived.Test.YtdlefdlnnclcaaaDoorErrTells
import Derived.Test.YtdlefdlnnclcaaaDoorRows
import Derived.LaidLaws
import Derived.LaidHandle
/-! What a row's list says of errors.errorType (after the guide's worked text, ToyasProofs). -/
set_option linter.unusedVariables false
set_option linter.unusedSimpArgs false
namespace Go.Proofs.YtdlefdlnnclcaaaDoor.Err
open Go.RowKit Go.Proofs.YtdlefdlnnclcaaaDoor.B

theorem q_et : Tryd.prog.globalNamed "errors.errorType" = some 0 := by kernel_rfl
theorem q_rt : (Tryd.prog.cutTypes.find? (·.1 == "internal/reflectlite.rtype")).map (·.2) = some 99 := by kernel_rfl
theorem q_size : Tryd.prog.types.size + 100 = 259 := by kernel_rfl
theorem q_oneRow : ((List.range (259 - 100)).filter fun t => Tryd.prog.rowNamed t [101, 114, 114, 111, 114]) = [48] := by kernel_rfl
theorem errType_of_handles {W : World} (h' : handlesMet Tryd.prog [("errors.errorType", Rows.laid_errors_errorType)] W) : ErrType W := by
  obtain ⟨name, u, ty, e1, e2, e3, e4, e5⟩ := h' _ (List.mem_singleton.2 rfl)
  have en : name = [101, 114, 114, 111, 114] := (Option.some.inj e1).symm
  subst en
  obtain rfl := Option.some.inj (q_rt.symm.trans e2)
  have hs : Tryd.prog.types.size = 259 - 100 := by have := q_size; omega
  have hm : ty ∈ (List.range (259 - 100)).filter fun t => Tryd.prog.rowNamed t [101, 114, 114, 111, 114] := List.mem_filter.2 ⟨List.mem_range.2 (by rw [← hs]; exact e3), e4⟩
  rw [q_oneRow] at hm
  obtain rfl := List.mem_singleton.1 hm
  have hh : typeHandle Tryd.prog 48 = .pointer (some ⟨4, 48, none⟩) := by kernel_rfl
  rw [hh] at e5
  unfold ErrType
  simpa using World.var?_cell q_et e5 0
theorem errType_of_laid {W : World} (h : laidMetH Tryd.prog [("errors.errorType", Rows.laid_errors_errorType)] W) : ErrType W := by
  have h' : laidMet Tryd.prog [] W ∧ handlesMet Tryd.prog [("errors.errorType", Rows.laid_errors_errorType)] W := h
  exact errType_of_handles h'.2
end Go.Proofs.YtdlefdlnnclcaaaDoor.Err
