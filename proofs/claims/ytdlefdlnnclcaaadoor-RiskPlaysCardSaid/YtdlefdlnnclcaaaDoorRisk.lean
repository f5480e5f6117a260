import Derived.Test.YtdlefdlnnclcaaaDoorErrLaid
import Derived.IntWalk
import Derived.StillTailTactics
import Derived.Maps.OwnSet
/-! Contracts of package risk, and of num's product and sum at numbers that are not negative. -/
set_option linter.unusedVariables false
set_option linter.unusedSimpArgs false
namespace Go.Proofs.YtdlefdlnnclcaaaDoor.Risk
open Go.RowKit Go.Maps Go.Proofs.YtdlefdlnnclcaaaDoorW.PrintWords Go.Proofs.YtdlefdlnnclcaaaDoor.B Go.Proofs.YtdlefdlnnclcaaaDoor.Err

theorem in_c (n lo hi : Int) (w : World) : Calls Tryd.prog 17 #[.int .i64 n, .int .i64 lo, .int .i64 hi] w fun e w' => e = .returned (.bool (decide (lo ≤ n) && decide (n ≤ hi))) ∧ w = w' := by
  by_cases h1 : lo ≤ n
  · go_enter Tryd.func17, Tryd.ntmps17
    go_wp2
    go_ret
    refine ⟨?_, rfl⟩
    simp [h1]
  · go_enter Tryd.func17, Tryd.ntmps17
    go_wp2
    go_ret
    refine ⟨?_, rfl⟩
    simp; omega
theorem size_c (n : Int) (h : 0 ≤ n) (h2 : n ≤ 9223372036854775807) (w : World) : Calls Tryd.prog 35 #[.int .i64 n] w fun e w' => e = .returned (.int .u64 n) ∧ w = w' := by
  have hb : decide (n < 0) = false := by simp; omega
  go_enter Tryd.func35, Tryd.ntmps35
  go_wp2
  go_ret
  exact ⟨rfl, rfl⟩
theorem mul64_lit (x y : Int) (a b : Nat) (hx : x = (a : Int)) (hy : y = (b : Int)) (ha : a < 18446744073709551616) (hb : b < 18446744073709551616) (w : World) :
    Calls Tryd.prog 34 #[.int .u64 x, .int .u64 y] w fun e w' => e = .returned (.tuple #[.int .u64 ((a * b / 18446744073709551616 : Nat) : Int), .int .u64 ((a * b % 18446744073709551616 : Nat) : Int)]) ∧ w = w' := by
  subst hx hy
  exact (Tryd.bits_Mul64 a b ha hb w).mono fun e w' ⟨h1, h2⟩ => ⟨h1, h2.symm⟩
set_option maxRecDepth 100000 in
set_option maxHeartbeats 2000000 in
theorem mul_in (p q : Int) (p0 : 0 ≤ p) (q0 : 0 ≤ q) (p1 : p ≤ 9223372036854775807) (q1 : q ≤ 9223372036854775807) (r : Int) (hr : p * q = r) (r1 : r ≤ 9223372036854775807) (w : World) :
    Calls Tryd.prog 23 #[.int .i64 p, .int .i64 q] w fun e w' => e = .returned (.tuple #[.int .i64 r, .int .i64 0]) ∧ w = w' := by
  obtain ⟨a, rfl⟩ : ∃ a : Nat, p = a := ⟨p.toNat, by omega⟩
  obtain ⟨b, rfl⟩ : ∃ b : Nat, q = b := ⟨q.toNat, by omega⟩
  obtain ⟨P, hP⟩ : ∃ P, a * b = P := ⟨_, rfl⟩
  have hrP : r = (P : Int) := by rw [← hr, ← hP, Int.natCast_mul]
  subst hrP
  have HP := Lib.hid hP
  have hb1 : decide ((a : Int) < 0) = false := by simp
  have hb2 : decide ((b : Int) < 0) = false := by simp
  have hd1 : decide ((9223372036854775808 : Int) < (P : Int)) = false := by simp; omega
  have hd2 : ((P : Int) == 9223372036854775808) = false := by simp; omega
  have P0 : (0 : Int) ≤ (P : Int) := by omega
  clear hr hP
  go_enter Tryd.func23, Tryd.ntmps23
  go_wp2_with fail
  refine (size_c _ p0 p1 _).mono ?_
  rintro e w1 ⟨rfl, rfl⟩
  dsimp only
  go_wp2_with fail
  refine (size_c _ q0 q1 _).mono ?_
  rintro e w1 ⟨rfl, rfl⟩
  dsimp only
  go_wp2_with fail
  refine (mul64_lit _ _ a b rfl rfl (by omega) (by omega) _).mono ?_
  rintro e w1 ⟨rfl, rfl⟩
  rw [HP.out, Nat.div_eq_of_lt (show P < 18446744073709551616 by omega), Nat.mod_eq_of_lt (show P < 18446744073709551616 by omega)]
  dsimp only
  go_wp2
  go_ret2
  exact ⟨rfl, rfl⟩
set_option maxRecDepth 100000 in
set_option maxHeartbeats 2000000 in
theorem mul_out (p q : Int) (p0 : 0 ≤ p) (q0 : 0 ≤ q) (p1 : p ≤ 9223372036854775807) (q1 : q ≤ 9223372036854775807) (r1 : 9223372036854775807 < p * q) (w : World) :
    Calls Tryd.prog 23 #[.int .i64 p, .int .i64 q] w fun e w' => e = .returned (.tuple #[.int .i64 0, .int .i64 9]) ∧ w = w' := by
  obtain ⟨a, rfl⟩ : ∃ a : Nat, p = a := ⟨p.toNat, by omega⟩
  obtain ⟨b, rfl⟩ : ∃ b : Nat, q = b := ⟨q.toNat, by omega⟩
  obtain ⟨P, hP⟩ : ∃ P, a * b = P := ⟨_, rfl⟩
  rw [← Int.natCast_mul, hP] at r1
  have HP := Lib.hid hP
  have hb1 : decide ((a : Int) < 0) = false := by simp
  have hb2 : decide ((b : Int) < 0) = false := by simp
  obtain ⟨H, hH⟩ : ∃ H, P / 18446744073709551616 = H := ⟨_, rfl⟩
  obtain ⟨L, hL⟩ : ∃ L, P % 18446744073709551616 = L := ⟨_, rfl⟩
  have hcase : 0 < H ∨ (H = 0 ∧ 9223372036854775808 < L) ∨ (H = 0 ∧ L = 9223372036854775808) := by omega
  have HH := Lib.hid hH
  have HL := Lib.hid hL
  clear hP r1 hH hL
  rcases hcase with h | ⟨rfl, h⟩ | ⟨rfl, rfl⟩
  · obtain ⟨K, rfl⟩ : ∃ K, H = K + 1 := ⟨H - 1, by omega⟩
    clear h
    go_enter Tryd.func23, Tryd.ntmps23
    go_wp2_with fail
    refine (size_c _ p0 p1 _).mono ?_
    rintro e w1 ⟨rfl, rfl⟩
    dsimp only
    go_wp2_with fail
    refine (size_c _ q0 q1 _).mono ?_
    rintro e w1 ⟨rfl, rfl⟩
    dsimp only
    go_wp2_with fail
    refine (mul64_lit _ _ a b rfl rfl (by omega) (by omega) _).mono ?_
    rintro e w1 ⟨rfl, rfl⟩
    rw [HP.out, HH.out, HL.out]
    dsimp only
    go_wp2
    go_ret2
    exact ⟨rfl, rfl⟩
  · have hd : decide ((9223372036854775808 : Int) < (L : Int)) = true := by simp; omega
    clear h
    go_enter Tryd.func23, Tryd.ntmps23
    go_wp2_with fail
    refine (size_c _ p0 p1 _).mono ?_
    rintro e w1 ⟨rfl, rfl⟩
    dsimp only
    go_wp2_with fail
    refine (size_c _ q0 q1 _).mono ?_
    rintro e w1 ⟨rfl, rfl⟩
    dsimp only
    go_wp2_with fail
    refine (mul64_lit _ _ a b rfl rfl (by omega) (by omega) _).mono ?_
    rintro e w1 ⟨rfl, rfl⟩
    rw [HP.out, HH.out, HL.out]
    dsimp only
    go_wp2
    go_ret2
    exact ⟨rfl, rfl⟩
  · go_enter Tryd.func23, Tryd.ntmps23
    go_wp2_with fail
    refine (size_c _ p0 p1 _).mono ?_
    rintro e w1 ⟨rfl, rfl⟩
    dsimp only
    go_wp2_with fail
    refine (size_c _ q0 q1 _).mono ?_
    rintro e w1 ⟨rfl, rfl⟩
    dsimp only
    go_wp2_with fail
    refine (mul64_lit _ _ a b rfl rfl (by omega) (by omega) _).mono ?_
    rintro e w1 ⟨rfl, rfl⟩
    rw [HP.out, HH.out, HL.out]
    dsimp only
    go_wp2
    go_ret2
    exact ⟨rfl, rfl⟩
set_option maxRecDepth 100000 in
theorem add_in (a b : Int) (a0 : 0 ≤ a) (b0 : 0 ≤ b) (h : a + b ≤ 9223372036854775807) (w : World) : Calls Tryd.prog 33 #[.int .i64 a, .int .i64 b] w fun e w' => e = .returned (.tuple #[.int .i64 (a + b), .int .i64 0]) ∧ w = w' := by
  have hw : IntKind.i64.wrap (a + b) = a + b := IntWalk.i64_in _ (by omega)
  have hw2 : IntKind.i64.wrap (9223372036854775807 - b) = 9223372036854775807 - b := IntWalk.i64_in _ (by omega)
  by_cases hb : 0 < b
  · have h1 : decide (0 < b) = true := by simpa using hb
    have h2 : decide (9223372036854775807 - b < a) = false := by simp; omega
    have h3 : decide (b < 0) = false := by simp; omega
    go_enter Tryd.func33, Tryd.ntmps33
    go_wp2
    go_ret2
    exact ⟨rfl, rfl⟩
  · have h1 : decide (0 < b) = false := by simpa using hb
    have h3 : decide (b < 0) = false := by simp; omega
    go_enter Tryd.func33, Tryd.ntmps33
    go_wp2
    go_ret2
    exact ⟨rfl, rfl⟩
set_option maxRecDepth 100000 in
theorem add_out (a b : Int) (a0 : 0 ≤ a) (b1 : b ≤ 9223372036854775807) (b0 : 0 < b) (h : 9223372036854775807 < a + b) (w : World) : Calls Tryd.prog 33 #[.int .i64 a, .int .i64 b] w fun e w' => e = .returned (.tuple #[.int .i64 0, .int .i64 9]) ∧ w = w' := by
  have hw2 : IntKind.i64.wrap (9223372036854775807 - b) = 9223372036854775807 - b := IntWalk.i64_in _ (by omega)
  have h1 : decide (0 < b) = true := by simpa using b0
  have h2 : decide (9223372036854775807 - b < a) = true := by simp; omega
  go_enter Tryd.func33, Tryd.ntmps33
  go_wp2
  go_ret2
  exact ⟨rfl, rfl⟩
end Go.Proofs.YtdlefdlnnclcaaaDoor.Risk
