import Derived.Test.YtdlefdlnnclcaaaDoorRiskK
/-! RiskBounds, RiskReturns. -/
set_option linter.unusedVariables false
set_option linter.unusedSimpArgs false
namespace Go.Proofs.YtdlefdlnnclcaaaDoor.Risk
open Go.RowKit Go.Maps Go.Proofs.YtdlefdlnnclcaaaDoorW.PrintWords Go.Proofs.YtdlefdlnnclcaaaDoor.B Go.Proofs.YtdlefdlnnclcaaaDoor.Err

theorem askF_arg {L : Lim} {u : Use} {p q : Int} (h : q < 1 ∨ p < 0) : askF L u p q = (0, 1) := by unfold askF; rw [if_pos h]
theorem askF_qty {L : Lim} {u : Use} {p q : Int} (h1 : 1 ≤ q) (h2 : 0 ≤ p) (h : L.qty < q) : askF L u p q = (0, 9) := by unfold askF; rw [if_neg (by omega), if_pos h]
theorem askF_money {L : Lim} {u : Use} {p q : Int} (h1 : 1 ≤ q) (h2 : 0 ≤ p) (h3 : q ≤ L.qty) (h : L.money < u.money + p * q) : askF L u p q = (1, 9) := by unfold askF; rw [if_neg (by omega), if_neg (by omega), if_pos h]
theorem askF_full {L : Lim} {u : Use} {p q : Int} (h1 : 1 ≤ q) (h2 : 0 ≤ p) (h3 : q ≤ L.qty) (h4 : u.money + p * q ≤ L.money) (h : L.orders ≤ u.n) : askF L u p q = (2, 8) := by unfold askF; rw [if_neg (by omega), if_neg (by omega), if_neg (by omega), if_pos h]
theorem askF_ok {L : Lim} {u : Use} {p q : Int} (h1 : 1 ≤ q) (h2 : 0 ≤ p) (h3 : q ≤ L.qty) (h4 : u.money + p * q ≤ L.money) (h : u.n < L.orders) : askF L u p q = (0, 0) := by unfold askF; rw [if_neg (by omega), if_neg (by omega), if_neg (by omega), if_neg (by omega)]
theorem upd_zero (o : Int) : upd (fun _ => zUse) o ⟨0, 0⟩ = fun _ => zUse := by funext x; simp only [upd]; split <;> rfl

end Go.Proofs.YtdlefdlnnclcaaaDoor.Risk
