import Derived.Test.YtdlefdlnnclcaaaDoorNum
import Derived.Test.YtdlefdlnnclcaaaDoorPRkA
import Derived.Test.YtdlefdlnnclcaaaDoorPRkB
/-! The document's product at any numbers. -/
set_option linter.unusedVariables false
set_option linter.unusedSimpArgs false
namespace Go.Proofs.YtdlefdlnnclcaaaDoor.Risk
open Go.RowKit Go.Proofs.YtdlefdlnnclcaaaDoorW.PrintWords Go.Proofs.YtdlefdlnnclcaaaDoor.B
open Go.Proofs.YtdlefdlnnclcaaaDoor.Num (mulF mul_g i64B i64B_t i64B_f minus natAbs_prod)
theorem u64_id {a : Int} (h0 : 0 ≤ a) (h1 : a < 18446744073709551616) : IntKind.u64.wrap a = a := by simp [IntKind.wrap, IntKind.signed, IntKind.bits]; omega

theorem rsize_c (n : Int) (a : Nat) (h1 : -9223372036854775808 ≤ n) (h2 : n ≤ 9223372036854775807) (ha : n.natAbs = a) (w : World) : Calls Tryd.prog 24 #[.int .i64 n] w fun e w' => e = .returned (.int .u64 (a : Int)) ∧ Fr no w w' := by
  refine (PRiskPlays.straddleref1_size.calls n (a : Int) w ?_).mono fun e w' ⟨h, h2⟩ => ⟨h, Fr.of_below h2.below⟩
  unfold PRiskPlays.straddleref1_size.f
  by_cases h : n < 0
  · rw [if_pos h]
    have e1 : wrap64 (n + 1) = n + 1 := by unfold wrap64; omega
    have e2 : wrap64 (-(n + 1)) = -(n + 1) := by unfold wrap64; omega
    rw [e1, e2, u64_id (a := -(n + 1)) (by omega) (by omega)]
    have e3 : IntKind.u64.wrap (-(n + 1) + 1) = (a : Int) := by simp [IntKind.wrap, IntKind.signed, IntKind.bits]; omega
    rw [e3]
  · rw [if_neg h, u64_id (by omega) (by omega)]
    congr 1
    omega
set_option maxRecDepth 100000 in
set_option maxHeartbeats 8000000 in
theorem rmul_nz (a b : Int) (a0 : -9223372036854775808 ≤ a) (a1 : a ≤ 9223372036854775807) (an : a ≠ 0) (b0 : -9223372036854775808 ≤ b) (b1 : b ≤ 9223372036854775807) (w : World) :
    Calls Tryd.prog 15 #[.int .i64 a, .int .i64 b] w fun e w' => e = .returned (.tuple #[.int .i64 (mulF a b).1, .int .i64 (mulF a b).2]) ∧ Fr no w w' := by
  obtain ⟨X, ha⟩ : ∃ X, a.natAbs = X := ⟨_, rfl⟩
  obtain ⟨Y, hb⟩ : ∃ Y, b.natAbs = Y := ⟨_, rfl⟩
  have H1 := Lib.hid (fun W => rsize_c a X (by omega) (by omega) ha W)
  have H2 := Lib.hid (fun W => rsize_c b Y b0 b1 hb W)
  have hpq := natAbs_prod a b
  rw [ha, hb] at hpq
  obtain ⟨r, hr⟩ : ∃ r, mulF a b = r := ⟨_, rfl⟩
  rw [hr]
  unfold mulF at hr
  have hX1 : 1 ≤ X := by omega
  have hX4 : X ≤ 9223372036854775808 := by omega
  have hXI : (1 : Int) ≤ (X : Int) := by omega
  have hXn : ((X : Int) != 0) = true := by simp; omega
  have hXn2 : (X != 0) = true := by simp; omega
  have hXe : ((X : Int) == 0) = false := by simp; omega
  clear a0 a1 an
  rcases Int.lt_or_le a 0 with h0a | h0a <;> rcases Int.lt_or_le b 0 with h0b | h0b
  · have hs : decide (a < 0) = true := by simp; omega
    have ht : decide (b < 0) = true := by simp; omega
    have hpq2 : a * b = ((X * Y : Nat) : Int) := by rw [hpq, show minus a b = false by unfold minus; rw [hs, ht]; rfl]; rfl
    obtain ⟨Q, hQ⟩ : ∃ Q : Nat, 9223372036854775807 / X = Q := ⟨_, rfl⟩
    have hd2 : (9223372036854775807 : Int) / (X : Int) = (Q : Int) := by rw [← hQ]; simp
    have hd1 : Int.tdiv 9223372036854775807 (X : Int) = (Q : Int) := by rw [Int.tdiv_eq_ediv_of_nonneg (by omega)]; exact hd2
    have hQb : Q ≤ 9223372036854775808 := by rw [← hQ]; exact Nat.le_trans (Nat.div_le_self _ _) (by decide)
    have hQw : IntKind.u64.wrap (Q : Int) = (Q : Int) := by simp [IntKind.wrap, IntKind.signed, IntKind.bits]; omega
    have hle : Y ≤ Q ↔ X * Y ≤ 9223372036854775807 := by rw [← hQ, Nat.le_div_iff_mul_le (by omega), Nat.mul_comm]
    cases hf : i64B (a * b) with
    | false =>
      rw [if_neg (by rw [hf]; simp)] at hr
      subst hr
      rw [i64B_f] at hf
      have hlt : Q < Y := by
        rcases Nat.lt_or_ge Q Y with h | h
        · exact h
        · have := hle.1 h; omega
      have d1 : decide (Q < Y) = true := by simp [hlt]
      have d2 : decide ((Q : Int) < (Y : Int)) = true := by simp [hlt]
      clear hQb hle hf hpq2 hpq hQ hlt hX4 ha hb h0a h0b
      go_enter Tryd.func15, Tryd.ntmps15
      go_wp2_with fail
      refine (H1.out _).mono ?_
      rintro e w1 ⟨rfl, hf1⟩
      dsimp only
      go_wp2_with fail
      refine (H2.out _).mono ?_
      rintro e w2 ⟨rfl, hf2⟩
      dsimp only
      go_wp2
      go_ret2
      exact ⟨rfl, hf1.trans' hf2⟩
    | true =>
      rw [if_pos hf] at hr
      subst hr
      have hf2 := i64B_t.1 hf
      have hlt : Y ≤ Q := hle.2 (by omega)
      have d1 : decide (Q < Y) = false := by simp; omega
      have d2 : decide ((Q : Int) < (Y : Int)) = false := by simp; omega
      have hw1 : IntKind.i64.wrap (a * b) = a * b := IntWalk.i64_in _ (by omega)
      have hw2 : wrap64 (a * b) = a * b := by unfold wrap64; omega
      obtain ⟨z, hz⟩ : ∃ z, a * b = z := ⟨_, rfl⟩
      rw [hz] at hw1 hw2 ⊢
      have HZ := Lib.hid hz
      have HW := Lib.hid hw2
      clear hQb hle hf hpq2 hpq hQ hlt hX4 ha hb hf2 hz h0a h0b hw1 hw2
      go_enter Tryd.func15, Tryd.ntmps15
      go_wp2_with fail
      refine (H1.out _).mono ?_
      rintro e w1 ⟨rfl, hf1⟩
      dsimp only
      go_wp2_with fail
      refine (H2.out _).mono ?_
      rintro e w2 ⟨rfl, hf2⟩
      dsimp only
      go_wp2
      go_ret2
      exact ⟨by simp [HZ.out, HW.out], hf1.trans' hf2⟩
  · have hs : decide (a < 0) = true := by simp; omega
    have ht : decide (b < 0) = false := by simp; omega
    have hpq2 : a * b = -((X * Y : Nat) : Int) := by rw [hpq, show minus a b = true by unfold minus; rw [hs, ht]; rfl]; rfl
    obtain ⟨Q, hQ⟩ : ∃ Q : Nat, 9223372036854775808 / X = Q := ⟨_, rfl⟩
    have hd2 : (9223372036854775808 : Int) / (X : Int) = (Q : Int) := by rw [← hQ]; simp
    have hd1 : Int.tdiv 9223372036854775808 (X : Int) = (Q : Int) := by rw [Int.tdiv_eq_ediv_of_nonneg (by omega)]; exact hd2
    have hQb : Q ≤ 9223372036854775808 := by rw [← hQ]; exact Nat.le_trans (Nat.div_le_self _ _) (by decide)
    have hQw : IntKind.u64.wrap (Q : Int) = (Q : Int) := by simp [IntKind.wrap, IntKind.signed, IntKind.bits]; omega
    have hle : Y ≤ Q ↔ X * Y ≤ 9223372036854775808 := by rw [← hQ, Nat.le_div_iff_mul_le (by omega), Nat.mul_comm]
    cases hf : i64B (a * b) with
    | false =>
      rw [if_neg (by rw [hf]; simp)] at hr
      subst hr
      rw [i64B_f] at hf
      have hlt : Q < Y := by
        rcases Nat.lt_or_ge Q Y with h | h
        · exact h
        · have := hle.1 h; omega
      have d1 : decide (Q < Y) = true := by simp [hlt]
      have d2 : decide ((Q : Int) < (Y : Int)) = true := by simp [hlt]
      clear hQb hle hf hpq2 hpq hQ hlt hX4 ha hb h0a h0b
      go_enter Tryd.func15, Tryd.ntmps15
      go_wp2_with fail
      refine (H1.out _).mono ?_
      rintro e w1 ⟨rfl, hf1⟩
      dsimp only
      go_wp2_with fail
      refine (H2.out _).mono ?_
      rintro e w2 ⟨rfl, hf2⟩
      dsimp only
      go_wp2
      go_ret2
      exact ⟨rfl, hf1.trans' hf2⟩
    | true =>
      rw [if_pos hf] at hr
      subst hr
      have hf2 := i64B_t.1 hf
      have hlt : Y ≤ Q := hle.2 (by omega)
      have d1 : decide (Q < Y) = false := by simp; omega
      have d2 : decide ((Q : Int) < (Y : Int)) = false := by simp; omega
      have hw1 : IntKind.i64.wrap (a * b) = a * b := IntWalk.i64_in _ (by omega)
      have hw2 : wrap64 (a * b) = a * b := by unfold wrap64; omega
      obtain ⟨z, hz⟩ : ∃ z, a * b = z := ⟨_, rfl⟩
      rw [hz] at hw1 hw2 ⊢
      have HZ := Lib.hid hz
      have HW := Lib.hid hw2
      clear hQb hle hf hpq2 hpq hQ hlt hX4 ha hb hf2 hz h0a h0b hw1 hw2
      go_enter Tryd.func15, Tryd.ntmps15
      go_wp2_with fail
      refine (H1.out _).mono ?_
      rintro e w1 ⟨rfl, hf1⟩
      dsimp only
      go_wp2_with fail
      refine (H2.out _).mono ?_
      rintro e w2 ⟨rfl, hf2⟩
      dsimp only
      go_wp2
      go_ret2
      exact ⟨by simp [HZ.out, HW.out], hf1.trans' hf2⟩
  · have hs : decide (a < 0) = false := by simp; omega
    have ht : decide (b < 0) = true := by simp; omega
    have hpq2 : a * b = -((X * Y : Nat) : Int) := by rw [hpq, show minus a b = true by unfold minus; rw [hs, ht]; rfl]; rfl
    obtain ⟨Q, hQ⟩ : ∃ Q : Nat, 9223372036854775808 / X = Q := ⟨_, rfl⟩
    have hd2 : (9223372036854775808 : Int) / (X : Int) = (Q : Int) := by rw [← hQ]; simp
    have hd1 : Int.tdiv 9223372036854775808 (X : Int) = (Q : Int) := by rw [Int.tdiv_eq_ediv_of_nonneg (by omega)]; exact hd2
    have hQb : Q ≤ 9223372036854775808 := by rw [← hQ]; exact Nat.le_trans (Nat.div_le_self _ _) (by decide)
    have hQw : IntKind.u64.wrap (Q : Int) = (Q : Int) := by simp [IntKind.wrap, IntKind.signed, IntKind.bits]; omega
    have hle : Y ≤ Q ↔ X * Y ≤ 9223372036854775808 := by rw [← hQ, Nat.le_div_iff_mul_le (by omega), Nat.mul_comm]
    cases hf : i64B (a * b) with
    | false =>
      rw [if_neg (by rw [hf]; simp)] at hr
      subst hr
      rw [i64B_f] at hf
      have hlt : Q < Y := by
        rcases Nat.lt_or_ge Q Y with h | h
        · exact h
        · have := hle.1 h; omega
      have d1 : decide (Q < Y) = true := by simp [hlt]
      have d2 : decide ((Q : Int) < (Y : Int)) = true := by simp [hlt]
      clear hQb hle hf hpq2 hpq hQ hlt hX4 ha hb h0a h0b
      go_enter Tryd.func15, Tryd.ntmps15
      go_wp2_with fail
      refine (H1.out _).mono ?_
      rintro e w1 ⟨rfl, hf1⟩
      dsimp only
      go_wp2_with fail
      refine (H2.out _).mono ?_
      rintro e w2 ⟨rfl, hf2⟩
      dsimp only
      go_wp2
      go_ret2
      exact ⟨rfl, hf1.trans' hf2⟩
    | true =>
      rw [if_pos hf] at hr
      subst hr
      have hf2 := i64B_t.1 hf
      have hlt : Y ≤ Q := hle.2 (by omega)
      have d1 : decide (Q < Y) = false := by simp; omega
      have d2 : decide ((Q : Int) < (Y : Int)) = false := by simp; omega
      have hw1 : IntKind.i64.wrap (a * b) = a * b := IntWalk.i64_in _ (by omega)
      have hw2 : wrap64 (a * b) = a * b := by unfold wrap64; omega
      obtain ⟨z, hz⟩ : ∃ z, a * b = z := ⟨_, rfl⟩
      rw [hz] at hw1 hw2 ⊢
      have HZ := Lib.hid hz
      have HW := Lib.hid hw2
      clear hQb hle hf hpq2 hpq hQ hlt hX4 ha hb hf2 hz h0a h0b hw1 hw2
      go_enter Tryd.func15, Tryd.ntmps15
      go_wp2_with fail
      refine (H1.out _).mono ?_
      rintro e w1 ⟨rfl, hf1⟩
      dsimp only
      go_wp2_with fail
      refine (H2.out _).mono ?_
      rintro e w2 ⟨rfl, hf2⟩
      dsimp only
      go_wp2
      go_ret2
      exact ⟨by simp [HZ.out, HW.out], hf1.trans' hf2⟩
  · have hs : decide (a < 0) = false := by simp; omega
    have ht : decide (b < 0) = false := by simp; omega
    have hpq2 : a * b = ((X * Y : Nat) : Int) := by rw [hpq, show minus a b = false by unfold minus; rw [hs, ht]; rfl]; rfl
    obtain ⟨Q, hQ⟩ : ∃ Q : Nat, 9223372036854775807 / X = Q := ⟨_, rfl⟩
    have hd2 : (9223372036854775807 : Int) / (X : Int) = (Q : Int) := by rw [← hQ]; simp
    have hd1 : Int.tdiv 9223372036854775807 (X : Int) = (Q : Int) := by rw [Int.tdiv_eq_ediv_of_nonneg (by omega)]; exact hd2
    have hQb : Q ≤ 9223372036854775808 := by rw [← hQ]; exact Nat.le_trans (Nat.div_le_self _ _) (by decide)
    have hQw : IntKind.u64.wrap (Q : Int) = (Q : Int) := by simp [IntKind.wrap, IntKind.signed, IntKind.bits]; omega
    have hle : Y ≤ Q ↔ X * Y ≤ 9223372036854775807 := by rw [← hQ, Nat.le_div_iff_mul_le (by omega), Nat.mul_comm]
    cases hf : i64B (a * b) with
    | false =>
      rw [if_neg (by rw [hf]; simp)] at hr
      subst hr
      rw [i64B_f] at hf
      have hlt : Q < Y := by
        rcases Nat.lt_or_ge Q Y with h | h
        · exact h
        · have := hle.1 h; omega
      have d1 : decide (Q < Y) = true := by simp [hlt]
      have d2 : decide ((Q : Int) < (Y : Int)) = true := by simp [hlt]
      clear hQb hle hf hpq2 hpq hQ hlt hX4 ha hb h0a h0b
      go_enter Tryd.func15, Tryd.ntmps15
      go_wp2_with fail
      refine (H1.out _).mono ?_
      rintro e w1 ⟨rfl, hf1⟩
      dsimp only
      go_wp2_with fail
      refine (H2.out _).mono ?_
      rintro e w2 ⟨rfl, hf2⟩
      dsimp only
      go_wp2
      go_ret2
      exact ⟨rfl, hf1.trans' hf2⟩
    | true =>
      rw [if_pos hf] at hr
      subst hr
      have hf2 := i64B_t.1 hf
      have hlt : Y ≤ Q := hle.2 (by omega)
      have d1 : decide (Q < Y) = false := by simp; omega
      have d2 : decide ((Q : Int) < (Y : Int)) = false := by simp; omega
      have hw1 : IntKind.i64.wrap (a * b) = a * b := IntWalk.i64_in _ (by omega)
      have hw2 : wrap64 (a * b) = a * b := by unfold wrap64; omega
      obtain ⟨z, hz⟩ : ∃ z, a * b = z := ⟨_, rfl⟩
      rw [hz] at hw1 hw2 ⊢
      have HZ := Lib.hid hz
      have HW := Lib.hid hw2
      clear hQb hle hf hpq2 hpq hQ hlt hX4 ha hb hf2 hz h0a h0b hw1 hw2
      go_enter Tryd.func15, Tryd.ntmps15
      go_wp2_with fail
      refine (H1.out _).mono ?_
      rintro e w1 ⟨rfl, hf1⟩
      dsimp only
      go_wp2_with fail
      refine (H2.out _).mono ?_
      rintro e w2 ⟨rfl, hf2⟩
      dsimp only
      go_wp2
      go_ret2
      exact ⟨by simp [HZ.out, HW.out], hf1.trans' hf2⟩
set_option maxRecDepth 100000 in
theorem rmul_z (b : Int) (b0 : -9223372036854775808 ≤ b) (b1 : b ≤ 9223372036854775807) (w : World) :
    Calls Tryd.prog 15 #[.int .i64 0, .int .i64 b] w fun e w' => e = .returned (.tuple #[.int .i64 0, .int .i64 0]) ∧ Fr no w w' := by
  obtain ⟨Y, hb⟩ : ∃ Y, b.natAbs = Y := ⟨_, rfl⟩
  have H1 := Lib.hid (fun W => rsize_c 0 0 (by decide) (by decide) rfl W)
  have H2 := Lib.hid (fun W => rsize_c b Y b0 b1 hb W)
  clear hb
  have hs : decide (b < 0) = true ∨ decide (b < 0) = false := by cases decide (b < 0) <;> simp
  rcases hs with hs | hs
  all_goals
    go_enter Tryd.func15, Tryd.ntmps15
    go_wp2_with fail
    refine (H1.out _).mono ?_
    rintro e w1 ⟨rfl, hf1⟩
    dsimp only
    go_wp2_with fail
    refine (H2.out _).mono ?_
    rintro e w2 ⟨rfl, hf2⟩
    dsimp only
    go_wp2
    go_ret2
    exact ⟨by simp, hf1.trans' hf2⟩
theorem rmul_g (a b : Int) (a0 : -9223372036854775808 ≤ a) (a1 : a ≤ 9223372036854775807) (b0 : -9223372036854775808 ≤ b) (b1 : b ≤ 9223372036854775807) (w : World) :
    Calls Tryd.prog 15 #[.int .i64 a, .int .i64 b] w fun e w' => e = .returned (.tuple #[.int .i64 (mulF a b).1, .int .i64 (mulF a b).2]) ∧ Fr no w w' := by
  by_cases h : a = 0
  · subst h
    have e : mulF 0 b = (0, 0) := by simp [mulF, i64B]
    rw [e]
    exact rmul_z b b0 b1 w
  · exact rmul_nz a b a0 a1 h b0 b1 w
end Go.Proofs.YtdlefdlnnclcaaaDoor.Risk
namespace Go.Proofs.YtdlefdlnnclcaaaDoor.PRiskPlays
open Go.RowKit Go.Proofs.YtdlefdlnnclcaaaDoorW.PrintWords Go.Proofs.YtdlefdlnnclcaaaDoor.B
/-- The product as the printed texts want it. -/
def straddleref1_Mul.f (a0 : Int) (a1 : Int) : Option (Int × Int) := if (-9223372036854775808 ≤ a0 ∧ a0 ≤ 9223372036854775807) ∧ -9223372036854775808 ≤ a1 ∧ a1 ≤ 9223372036854775807 then some (Go.Proofs.YtdlefdlnnclcaaaDoor.Num.mulF a0 a1) else none
theorem straddleref1_Mul.calls (a0 : Int) (a1 : Int) (r1 : Int) (r2 : Int) (w : World) (h : straddleref1_Mul.f a0 a1 = some (r1, r2)) :
    Calls Tryd.prog 15 #[.int .i64 a0, .int .i64 a1] w fun e w' => e = .returned (.tuple #[.int .i64 r1, .int .i64 r2]) ∧ Below w.heap.size w w' := by
  unfold straddleref1_Mul.f at h
  split at h
  · rename_i hr
    have hm := Risk.rmul_g a0 a1 hr.1.1 hr.1.2 hr.2.1 hr.2.2 w
    rw [Option.some.inj h] at hm
    exact hm.mono fun e w' ⟨h1, h2⟩ => ⟨h1, h2.below⟩
  · cases h
end Go.Proofs.YtdlefdlnnclcaaaDoor.PRiskPlays
