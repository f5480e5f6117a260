import Derived.Test.YtdkkdoadafhfmaaDoorSessB
/-! Contracts of package sess: who is on, who is late. -/
set_option linter.unusedVariables false
set_option linter.unusedSimpArgs false
namespace Go.Proofs.YtdkkdoadafhfmaaDoor.Sess
open Go.RowKit Go.Proofs.YtdkkdoadafhfmaaDoorW.PrintWords Go.Proofs.YtdkkdoadafhfmaaDoor.B

def lateB (t last now : Int) : Bool := decide (last < now) && decide (t ≤ now - last)
theorem late1_c (B : Nat) (t : Int) (S : Nat → Ses) (last now : Int) (w : World) (h : Desk w B t S) (t1 : 1 ≤ t) (t2 : t ≤ 1000000) (l1 : 0 ≤ last) (l2 : last ≤ 1000000) (n1 : 0 ≤ now) (n2 : now ≤ 1000000) :
    Calls Tryd.prog 59 #[.pointer (some ⟨B, 0, none⟩), .int .i64 last, .int .i64 now] w fun e w' => e = .returned (.bool (lateB t last now)) ∧ w = w' := by
  have ht := h.time
  by_cases hl : last < now
  · go_enter Tryd.func59, Tryd.ntmps59
    go_wp2
    go_ret
    exact ⟨by simp [lateB, hl], rfl⟩
  · have hd : decide (last < now) = false := by simp; omega
    go_enter Tryd.func59, Tryd.ntmps59
    go_wp2
    go_ret
    exact ⟨by simp [lateB, hd], rfl⟩
end Go.Proofs.YtdkkdoadafhfmaaDoor.Sess
