import Derived.Test.YtdlefdlnnclcaaaDoorNumA
import Derived.Test.YtdlefdlnnclcaaaDoorShelf
/-! num.Mul at any numbers. -/
set_option linter.unusedVariables false
set_option linter.unusedSimpArgs false
namespace Go.Proofs.YtdlefdlnnclcaaaDoor.Num
open Go.RowKit Go.Proofs.YtdlefdlnnclcaaaDoorW.PrintWords Go.Proofs.YtdlefdlnnclcaaaDoor.B

theorem mul64_lit (x y : Int) (a b : Nat) (hx : x = (a : Int)) (hy : y = (b : Int)) (ha : a < 18446744073709551616) (hb : b < 18446744073709551616) (w : World) :
    Calls Tryd.prog 34 #[.int .u64 x, .int .u64 y] w fun e w' => e = .returned (.tuple #[.int .u64 ((a * b / 18446744073709551616 : Nat) : Int), .int .u64 ((a * b % 18446744073709551616 : Nat) : Int)]) ∧ w = w' := by
  subst hx hy
  exact (Tryd.bits_Mul64 a b ha hb w).mono fun e w' ⟨h1, h2⟩ => ⟨h1, h2.symm⟩
/-- The product's sign. -/
def minus (p q : Int) : Bool := decide (p < 0) != decide (q < 0)
theorem natAbs_prod (p q : Int) : p * q = if minus p q = true then -((p.natAbs * q.natAbs : Nat) : Int) else ((p.natAbs * q.natAbs : Nat) : Int) := by
  have h := Int.natAbs_mul p q
  unfold minus
  rcases Int.lt_or_le p 0 with hp | hp <;> rcases Int.lt_or_le q 0 with hq | hq
  · have h2 : 0 ≤ p * q := Int.mul_nonneg_of_nonpos_of_nonpos (by omega) (by omega)
    simp [hp, hq]; rw [← Int.natCast_mul, ← h]; omega
  · have h2 : p * q ≤ 0 := Int.mul_nonpos_of_nonpos_of_nonneg (by omega) hq
    simp [hp, show ¬ q < 0 by omega]; rw [← Int.natCast_mul, ← h]; omega
  · have h2 : p * q ≤ 0 := Int.mul_nonpos_of_nonneg_of_nonpos hp (by omega)
    simp [hq, show ¬ p < 0 by omega]; rw [← Int.natCast_mul, ← h]; omega
  · have h2 : 0 ≤ p * q := Int.mul_nonneg hp hq
    simp [show ¬ p < 0 by omega, show ¬ q < 0 by omega]; rw [← Int.natCast_mul, ← h]; omega
def mulF (p q : Int) : Int × Int := if i64B (p * q) = true then (p * q, 0) else (0, 9)
set_option maxRecDepth 100000 in
set_option maxHeartbeats 4000000 in
theorem mul_g (p q : Int) (p0 : -9223372036854775808 ≤ p) (p1 : p ≤ 9223372036854775807) (q0 : -9223372036854775808 ≤ q) (q1 : q ≤ 9223372036854775807) (w : World) :
    Calls Tryd.prog 23 #[.int .i64 p, .int .i64 q] w fun e w' => e = .returned (.tuple #[.int .i64 (mulF p q).1, .int .i64 (mulF p q).2]) ∧ w = w' := by
  obtain ⟨a, ha⟩ : ∃ a, p.natAbs = a := ⟨_, rfl⟩
  obtain ⟨b, hb⟩ : ∃ b, q.natAbs = b := ⟨_, rfl⟩
  have hpq := natAbs_prod p q
  rw [ha, hb] at hpq
  obtain ⟨P, hP⟩ : ∃ P, a * b = P := ⟨_, rfl⟩
  rw [hP] at hpq
  have hs : decide (p < 0) = true ∨ decide (p < 0) = false := by cases decide (p < 0) <;> simp
  have ht : decide (q < 0) = true ∨ decide (q < 0) = false := by cases decide (q < 0) <;> simp
  have hab : a < 18446744073709551616 ∧ b < 18446744073709551616 := by omega
  have hsp := fun W => size_g p a p0 p1 ha W
  have hsq := fun W => size_g q b q0 q1 hb W
  have hm := fun W => mul64_lit (a : Int) (b : Int) a b rfl rfl hab.1 hab.2 W
  rw [hP] at hm
  obtain ⟨H, hH⟩ : ∃ H, P / 18446744073709551616 = H := ⟨_, rfl⟩
  obtain ⟨L, hL⟩ : ∃ L, P % 18446744073709551616 = L := ⟨_, rfl⟩
  rw [hH, hL] at hm
  have HSP := Lib.hid hsp
  have HSQ := Lib.hid hsq
  have HM := Lib.hid hm
  obtain ⟨r, hr⟩ : ∃ r, mulF p q = r := ⟨_, rfl⟩
  rw [hr]
  unfold mulF minus at *
  clear hsp hsq hm ha hb hab
  have hcase : 0 < H ∨ (H = 0 ∧ 9223372036854775808 < L) ∨ (H = 0 ∧ L = 9223372036854775808) ∨ (H = 0 ∧ L < 9223372036854775808) := by omega
  have out_ : i64B (p * q) = false → ((∃ K, H = K + 1) ∨ (H = 0 ∧ decide ((9223372036854775808 : Int) < (L : Int)) = true) ∨ ((decide (p < 0) != decide (q < 0)) = false ∧ H = 0 ∧ L = 9223372036854775808)) := by
    intro hf
    rw [i64B_f] at hf
    rcases hcase with h | ⟨h0, h⟩ | ⟨h0, h⟩ | ⟨h0, h⟩
    · exact .inl ⟨H - 1, by omega⟩
    · exact .inr (.inl ⟨h0, by simp; omega⟩)
    · refine .inr (.inr ⟨?_, h0, h⟩)
      rcases hs with hs | hs <;> rcases ht with ht | ht <;> rw [hs, ht] at hpq ⊢ <;> simp only [bne_self_eq_false, Bool.false_eq_true, if_false, Bool.true_bne, Bool.false_bne, Bool.not_true, Bool.not_false, if_true] at hpq ⊢ <;> omega
    · exfalso
      rcases hs with hs | hs <;> rcases ht with ht | ht <;> rw [hs, ht] at hpq <;> simp only [bne_self_eq_false, Bool.false_eq_true, if_false, Bool.true_bne, Bool.false_bne, Bool.not_true, Bool.not_false, if_true] at hpq <;> omega
  have in_ : i64B (p * q) = true → H = 0 ∧ decide ((9223372036854775808 : Int) < (L : Int)) = false ∧ (((decide (p < 0) != decide (q < 0)) = true ∧ p * q = -(L : Int)) ∨ ((decide (p < 0) != decide (q < 0)) = false ∧ ((L : Int) == 9223372036854775808) = false ∧ p * q = (L : Int))) := by
    intro hf
    rw [i64B_t] at hf
    have h1 : H = 0 := by
      rcases hs with hs | hs <;> rcases ht with ht | ht <;> rw [hs, ht] at hpq <;> simp only [bne_self_eq_false, Bool.false_eq_true, if_false, Bool.true_bne, Bool.false_bne, Bool.not_true, Bool.not_false, if_true] at hpq <;> omega
    refine ⟨h1, ?_⟩
    rcases hs with hs | hs <;> rcases ht with ht | ht <;> rw [hs, ht] at hpq ⊢ <;> simp only [bne_self_eq_false, Bool.false_eq_true, if_false, Bool.true_bne, Bool.false_bne, Bool.not_true, Bool.not_false, if_true] at hpq ⊢ <;> simp <;> omega
  clear hcase hpq hH hL hP
  cases hf : i64B (p * q) with
  | false =>
    rw [if_neg (by simp [hf])] at hr
    subst hr
    have hd := out_ hf
    clear out_ in_ hf
    rcases hd with ⟨K, rfl⟩ | ⟨rfl, d1⟩ | ⟨dm, rfl, rfl⟩
    · rcases hs with hs | hs <;> rcases ht with ht | ht
      all_goals
         go_enter Tryd.func23, Tryd.ntmps23
         go_wp2_with fail
         refine (HSP.out _).mono ?_
         rintro e w1 ⟨rfl, rfl⟩
         dsimp only
         go_wp2_with fail
         refine (HSQ.out _).mono ?_
         rintro e w1 ⟨rfl, rfl⟩
         dsimp only
         go_wp2_with fail
         refine (HM.out _).mono ?_
         rintro e w1 ⟨rfl, rfl⟩
         dsimp only
         go_wp2
         go_ret2
         exact ⟨rfl, rfl⟩
    · rcases hs with hs | hs <;> rcases ht with ht | ht
      all_goals
         go_enter Tryd.func23, Tryd.ntmps23
         go_wp2_with fail
         refine (HSP.out _).mono ?_
         rintro e w1 ⟨rfl, rfl⟩
         dsimp only
         go_wp2_with fail
         refine (HSQ.out _).mono ?_
         rintro e w1 ⟨rfl, rfl⟩
         dsimp only
         go_wp2_with fail
         refine (HM.out _).mono ?_
         rintro e w1 ⟨rfl, rfl⟩
         dsimp only
         go_wp2
         go_ret2
         exact ⟨rfl, rfl⟩
    · rcases hs with hs | hs <;> rcases ht with ht | ht <;> rw [hs, ht] at dm
      all_goals
         first
         | (exact absurd dm (by decide))
         | skip
      all_goals
         clear dm
         go_enter Tryd.func23, Tryd.ntmps23
         go_wp2_with fail
         refine (HSP.out _).mono ?_
         rintro e w1 ⟨rfl, rfl⟩
         dsimp only
         go_wp2_with fail
         refine (HSQ.out _).mono ?_
         rintro e w1 ⟨rfl, rfl⟩
         dsimp only
         go_wp2_with fail
         refine (HM.out _).mono ?_
         rintro e w1 ⟨rfl, rfl⟩
         dsimp only
         go_wp2
         go_ret2
         exact ⟨rfl, rfl⟩
  | true =>
    rw [if_pos hf] at hr
    subst hr
    obtain ⟨rfl, d1, hd⟩ := in_ hf
    rw [i64B_t] at hf
    have hL0 : (L : Int) ≤ 9223372036854775808 := by simpa using d1
    rcases hd with ⟨dm, hz⟩ | ⟨dm, d2, hz⟩
    · obtain ⟨Z, hZ⟩ : ∃ Z, p * q = Z := ⟨_, rfl⟩
      rw [hZ] at hz hf ⊢
      have hw : wrap64 (IntKind.u64.wrap (-(L : Int))) = Z := by simp [IntKind.wrap, IntKind.signed, IntKind.bits, wrap64]; omega
      obtain ⟨u, hu⟩ : ∃ u, IntKind.u64.wrap (-(L : Int)) = u := ⟨_, rfl⟩
      rw [hu] at hw
      have d2 : ((L : Int) == 9223372036854775808) = true ∨ ((L : Int) == 9223372036854775808) = false := by cases ((L : Int) == 9223372036854775808) <;> simp
      clear out_ in_ hf hZ hL0 hz
      rcases hs with hs | hs <;> rcases ht with ht | ht <;> rw [hs, ht] at dm
      all_goals
         first
         | (exact absurd dm (by decide))
         | skip
      all_goals
         clear dm
         rcases d2 with d2 | d2
      all_goals
         go_enter Tryd.func23, Tryd.ntmps23
         go_wp2_with fail
         refine (HSP.out _).mono ?_
         rintro e w1 ⟨rfl, rfl⟩
         dsimp only
         go_wp2_with fail
         refine (HSQ.out _).mono ?_
         rintro e w1 ⟨rfl, rfl⟩
         dsimp only
         go_wp2_with fail
         refine (HM.out _).mono ?_
         rintro e w1 ⟨rfl, rfl⟩
         dsimp only
         go_wp2
         go_ret2
         exact ⟨by first | rfl | simp [hu, hw], rfl⟩
    · have h8 : (L : Int) ≤ 9223372036854775807 := by omega
      have hz2 := Lib.hid hz
      rw [hz]
      clear out_ in_ hf hL0 hz
      have h0 : (0 : Int) ≤ (L : Int) := by omega
      rcases hs with hs | hs <;> rcases ht with ht | ht <;> rw [hs, ht] at dm
      all_goals
         first
         | (exact absurd dm (by decide))
         | skip
      all_goals
         clear dm
         go_enter Tryd.func23, Tryd.ntmps23
         go_wp2_with fail
         refine (HSP.out _).mono ?_
         rintro e w1 ⟨rfl, rfl⟩
         dsimp only
         go_wp2_with fail
         refine (HSQ.out _).mono ?_
         rintro e w1 ⟨rfl, rfl⟩
         dsimp only
         go_wp2_with fail
         refine (HM.out _).mono ?_
         rintro e w1 ⟨rfl, rfl⟩
         dsimp only
         go_wp2
         go_ret2
         exact ⟨by first | rfl | simp, rfl⟩
end Go.Proofs.YtdlefdlnnclcaaaDoor.Num
