import Derived.Test.YtdlefdlnnclcaaaDoorPlan
import Derived.IntWalk
/-! Contracts of package num at any numbers: size, In. -/
set_option linter.unusedVariables false
set_option linter.unusedSimpArgs false
namespace Go.Proofs.YtdlefdlnnclcaaaDoor.Num
open Go.RowKit Go.Proofs.YtdlefdlnnclcaaaDoorW.PrintWords Go.Proofs.YtdlefdlnnclcaaaDoor.B

def i64B (x : Int) : Bool := decide (-9223372036854775808 ≤ x) && decide (x ≤ 9223372036854775807)
theorem i64B_t {x : Int} : i64B x = true ↔ -9223372036854775808 ≤ x ∧ x ≤ 9223372036854775807 := by simp [i64B]
theorem i64B_f {x : Int} : i64B x = false ↔ x < -9223372036854775808 ∨ 9223372036854775807 < x := by
  rw [← Bool.not_eq_true, i64B_t]; omega
theorem in_c (n lo hi : Int) (w : World) : Calls Tryd.prog 17 #[.int .i64 n, .int .i64 lo, .int .i64 hi] w fun e w' => e = .returned (.bool (decide (lo ≤ n) && decide (n ≤ hi))) ∧ w = w' := by
  by_cases h1 : lo ≤ n
  · go_enter Tryd.func17, Tryd.ntmps17
    go_wp2
    go_ret
    refine ⟨?_, rfl⟩
    simp [h1]
  · go_enter Tryd.func17, Tryd.ntmps17
    go_wp2
    go_ret
    refine ⟨?_, rfl⟩
    simp; omega
theorem size_pos (n : Int) (h : 0 ≤ n) (h2 : n ≤ 9223372036854775807) (w : World) : Calls Tryd.prog 35 #[.int .i64 n] w fun e w' => e = .returned (.int .u64 n) ∧ w = w' := by
  have hb : decide (n < 0) = false := by simp; omega
  go_enter Tryd.func35, Tryd.ntmps35
  go_wp2
  go_ret
  exact ⟨rfl, rfl⟩
theorem size_neg (n : Int) (h : n < 0) (h2 : -9223372036854775808 ≤ n) (w : World) : Calls Tryd.prog 35 #[.int .i64 n] w fun e w' => e = .returned (.int .u64 (-n)) ∧ w = w' := by
  have hb : decide (n < 0) = true := by simp; omega
  obtain ⟨m, hm⟩ : ∃ m, -n = m := ⟨_, rfl⟩
  have hu : IntKind.u64.wrap (-(IntKind.u64.wrap n)) = m := by simp [IntKind.wrap, IntKind.signed, IntKind.bits]; omega
  rw [hm]
  have HM := Lib.hid hm
  clear hm
  go_enter Tryd.func35, Tryd.ntmps35
  go_wp2
  go_ret
  exact ⟨by first | rfl | simp [hu], rfl⟩
theorem size_g (n : Int) (a : Nat) (h1 : -9223372036854775808 ≤ n) (h2 : n ≤ 9223372036854775807) (ha : n.natAbs = a) (w : World) : Calls Tryd.prog 35 #[.int .i64 n] w fun e w' => e = .returned (.int .u64 (a : Int)) ∧ w = w' := by
  rcases Int.lt_or_le n 0 with h | h
  · have := size_neg n h h1 w
    rwa [show -n = (a : Int) by omega] at this
  · have := size_pos n h h2 w
    rwa [show n = (a : Int) by omega] at this ⊢
end Go.Proofs.YtdlefdlnnclcaaaDoor.Num
