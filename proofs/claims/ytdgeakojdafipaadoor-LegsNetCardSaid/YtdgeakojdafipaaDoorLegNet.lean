import Derived.Test.YtdgeakojdafipaaDoorLegR
/-! The reference's Mul and Add. -/
set_option linter.unusedVariables false
set_option linter.unusedSimpArgs false
namespace Go.Proofs.YtdgeakojdafipaaDoor.Legs
open Go.RowKit Go.Proofs.YtdgeakojdafipaaDoorW.PrintWords Go.Proofs.YtdgeakojdafipaaDoor.B Go.Proofs.YtdgeakojdafipaaDoor.Num

theorem rsize_c (n : Int) (a : Nat) (h1 : -9223372036854775808 ≤ n) (h2 : n ≤ 9223372036854775807) (ha : n.natAbs = a) (w : World) : Calls Tryd.prog 34 #[.int .i64 n] w fun e w' => e = .returned (.int .u64 (a : Int)) ∧ Fr no w w' := by
  refine (PLegsNet.straddleref1_size.calls n (a : Int) w ?_).mono fun e w' ⟨h, h2⟩ => ⟨h, Fr.of_below h2.below⟩
  unfold PLegsNet.straddleref1_size.f
  by_cases h : n < 0
  · rw [if_pos h]
    have e1 : wrap64 (n + 1) = n + 1 := by unfold wrap64; omega
    have e2 : wrap64 (-(n + 1)) = -(n + 1) := by unfold wrap64; omega
    rw [e1, e2, u64_id (a := -(n + 1)) (by omega) (by omega)]
    have e3 : IntKind.u64.wrap (-(n + 1) + 1) = (a : Int) := by simp [IntKind.wrap, IntKind.signed, IntKind.bits]; omega
    rw [e3]
  · rw [if_neg h, u64_id (by omega) (by omega)]
    congr 1
    omega
theorem radd_c (a b : Int) (a0 : -9223372036854775808 ≤ a) (a1 : a ≤ 9223372036854775807) (b0 : -9223372036854775808 ≤ b) (b1 : b ≤ 9223372036854775807) (w : World) : Calls Tryd.prog 22 #[.int .i64 a, .int .i64 b] w fun e w' => e = .returned (.tuple #[.int .i64 (addF a b).1, .int .i64 (addF a b).2]) ∧ Fr no w w' := by
  refine (PLegsNet.straddleref1_Add.calls a b (addF a b).1 (addF a b).2 w ?_).mono fun e w' ⟨h, h2⟩ => ⟨h, Fr.of_below h2.below⟩
  have h := add_f a b a0 a1 b0 b1
  have e : PLegsNet.straddleref1_Add.f a b = PLegsNet.num_Add.f a b := rfl
  rw [e]
  exact h
set_option maxRecDepth 100000 in
set_option maxHeartbeats 8000000 in
theorem rmul_c (a b : Int) (a0 : -4 ≤ a) (a1 : a ≤ 4) (an : a ≠ 0) (b0 : -9223372036854775808 ≤ b) (b1 : b ≤ 9223372036854775807) (w : World) :
    Calls Tryd.prog 21 #[.int .i64 a, .int .i64 b] w fun e w' => e = .returned (.tuple #[.int .i64 (mulF a b).1, .int .i64 (mulF a b).2]) ∧ Fr no w w' := by
  obtain ⟨X, ha⟩ : ∃ X, a.natAbs = X := ⟨_, rfl⟩
  obtain ⟨Y, hb⟩ : ∃ Y, b.natAbs = Y := ⟨_, rfl⟩
  have H1 := Lib.hid (fun W => rsize_c a X (by omega) (by omega) ha W)
  have H2 := Lib.hid (fun W => rsize_c b Y b0 b1 hb W)
  have hpq := natAbs_prod a b
  rw [ha, hb] at hpq
  obtain ⟨r, hr⟩ : ∃ r, mulF a b = r := ⟨_, rfl⟩
  rw [hr]
  unfold mulF at hr
  have hX1 : 1 ≤ X := by omega
  have hX4 : X ≤ 4 := by omega
  have hXI : (1 : Int) ≤ (X : Int) := by omega
  have hXn : ((X : Int) != 0) = true := by simp; omega
  have hXn2 : (X != 0) = true := by simp; omega
  have hXe : ((X : Int) == 0) = false := by simp; omega
  clear a0 a1 an
  rcases Int.lt_or_le a 0 with h0a | h0a <;> rcases Int.lt_or_le b 0 with h0b | h0b
  · have hs : decide (a < 0) = true := by simp; omega
    have ht : decide (b < 0) = true := by simp; omega
    have hpq2 : a * b = ((X * Y : Nat) : Int) := by rw [hpq, show minus a b = false by unfold minus; rw [hs, ht]; rfl]; rfl
    obtain ⟨Q, hQ⟩ : ∃ Q : Nat, 9223372036854775807 / X = Q := ⟨_, rfl⟩
    have hd2 : (9223372036854775807 : Int) / (X : Int) = (Q : Int) := by rw [← hQ]; simp
    have hd1 : Int.tdiv 9223372036854775807 (X : Int) = (Q : Int) := by rw [Int.tdiv_eq_ediv_of_nonneg (by omega)]; exact hd2
    have hQb : Q ≤ 9223372036854775808 := by rw [← hQ]; exact Nat.le_trans (Nat.div_le_self _ _) (by decide)
    have hQw : IntKind.u64.wrap (Q : Int) = (Q : Int) := by simp [IntKind.wrap, IntKind.signed, IntKind.bits]; omega
    have hle : Y ≤ Q ↔ X * Y ≤ 9223372036854775807 := by rw [← hQ, Nat.le_div_iff_mul_le (by omega), Nat.mul_comm]
    cases hf : i64B (a * b) with
    | false =>
      rw [if_neg (by rw [hf]; simp)] at hr
      subst hr
      rw [i64B_f] at hf
      have hlt : Q < Y := by
        rcases Nat.lt_or_ge Q Y with h | h
        · exact h
        · have := hle.1 h; omega
      have d1 : decide (Q < Y) = true := by simp [hlt]
      have d2 : decide ((Q : Int) < (Y : Int)) = true := by simp [hlt]
      clear hQb hle hf hpq2 hpq hQ hlt hX4 ha hb h0a h0b
      go_enter Tryd.func21, Tryd.ntmps21
      go_wp2_with fail
      refine (H1.out _).mono ?_
      rintro e w1 ⟨rfl, hf1⟩
      dsimp only
      go_wp2_with fail
      refine (H2.out _).mono ?_
      rintro e w2 ⟨rfl, hf2⟩
      dsimp only
      go_wp2
      go_ret2
      exact ⟨rfl, hf1.trans' hf2⟩
    | true =>
      rw [if_pos hf] at hr
      subst hr
      have hf2 := i64B_t.1 hf
      have hlt : Y ≤ Q := hle.2 (by omega)
      have d1 : decide (Q < Y) = false := by simp; omega
      have d2 : decide ((Q : Int) < (Y : Int)) = false := by simp; omega
      have hw1 : IntKind.i64.wrap (a * b) = a * b := IntWalk.i64_in _ (by omega)
      have hw2 : wrap64 (a * b) = a * b := by unfold wrap64; omega
      obtain ⟨z, hz⟩ : ∃ z, a * b = z := ⟨_, rfl⟩
      rw [hz] at hw1 hw2 ⊢
      have HZ := Lib.hid hz
      have HW := Lib.hid hw2
      clear hQb hle hf hpq2 hpq hQ hlt hX4 ha hb hf2 hz h0a h0b hw1 hw2
      go_enter Tryd.func21, Tryd.ntmps21
      go_wp2_with fail
      refine (H1.out _).mono ?_
      rintro e w1 ⟨rfl, hf1⟩
      dsimp only
      go_wp2_with fail
      refine (H2.out _).mono ?_
      rintro e w2 ⟨rfl, hf2⟩
      dsimp only
      go_wp2
      go_ret2
      exact ⟨by simp [HZ.out, HW.out], hf1.trans' hf2⟩
  · have hs : decide (a < 0) = true := by simp; omega
    have ht : decide (b < 0) = false := by simp; omega
    have hpq2 : a * b = -((X * Y : Nat) : Int) := by rw [hpq, show minus a b = true by unfold minus; rw [hs, ht]; rfl]; rfl
    obtain ⟨Q, hQ⟩ : ∃ Q : Nat, 9223372036854775808 / X = Q := ⟨_, rfl⟩
    have hd2 : (9223372036854775808 : Int) / (X : Int) = (Q : Int) := by rw [← hQ]; simp
    have hd1 : Int.tdiv 9223372036854775808 (X : Int) = (Q : Int) := by rw [Int.tdiv_eq_ediv_of_nonneg (by omega)]; exact hd2
    have hQb : Q ≤ 9223372036854775808 := by rw [← hQ]; exact Nat.le_trans (Nat.div_le_self _ _) (by decide)
    have hQw : IntKind.u64.wrap (Q : Int) = (Q : Int) := by simp [IntKind.wrap, IntKind.signed, IntKind.bits]; omega
    have hle : Y ≤ Q ↔ X * Y ≤ 9223372036854775808 := by rw [← hQ, Nat.le_div_iff_mul_le (by omega), Nat.mul_comm]
    cases hf : i64B (a * b) with
    | false =>
      rw [if_neg (by rw [hf]; simp)] at hr
      subst hr
      rw [i64B_f] at hf
      have hlt : Q < Y := by
        rcases Nat.lt_or_ge Q Y with h | h
        · exact h
        · have := hle.1 h; omega
      have d1 : decide (Q < Y) = true := by simp [hlt]
      have d2 : decide ((Q : Int) < (Y : Int)) = true := by simp [hlt]
      clear hQb hle hf hpq2 hpq hQ hlt hX4 ha hb h0a h0b
      go_enter Tryd.func21, Tryd.ntmps21
      go_wp2_with fail
      refine (H1.out _).mono ?_
      rintro e w1 ⟨rfl, hf1⟩
      dsimp only
      go_wp2_with fail
      refine (H2.out _).mono ?_
      rintro e w2 ⟨rfl, hf2⟩
      dsimp only
      go_wp2
      go_ret2
      exact ⟨rfl, hf1.trans' hf2⟩
    | true =>
      rw [if_pos hf] at hr
      subst hr
      have hf2 := i64B_t.1 hf
      have hlt : Y ≤ Q := hle.2 (by omega)
      have d1 : decide (Q < Y) = false := by simp; omega
      have d2 : decide ((Q : Int) < (Y : Int)) = false := by simp; omega
      have hw1 : IntKind.i64.wrap (a * b) = a * b := IntWalk.i64_in _ (by omega)
      have hw2 : wrap64 (a * b) = a * b := by unfold wrap64; omega
      obtain ⟨z, hz⟩ : ∃ z, a * b = z := ⟨_, rfl⟩
      rw [hz] at hw1 hw2 ⊢
      have HZ := Lib.hid hz
      have HW := Lib.hid hw2
      clear hQb hle hf hpq2 hpq hQ hlt hX4 ha hb hf2 hz h0a h0b hw1 hw2
      go_enter Tryd.func21, Tryd.ntmps21
      go_wp2_with fail
      refine (H1.out _).mono ?_
      rintro e w1 ⟨rfl, hf1⟩
      dsimp only
      go_wp2_with fail
      refine (H2.out _).mono ?_
      rintro e w2 ⟨rfl, hf2⟩
      dsimp only
      go_wp2
      go_ret2
      exact ⟨by simp [HZ.out, HW.out], hf1.trans' hf2⟩
  · have hs : decide (a < 0) = false := by simp; omega
    have ht : decide (b < 0) = true := by simp; omega
    have hpq2 : a * b = -((X * Y : Nat) : Int) := by rw [hpq, show minus a b = true by unfold minus; rw [hs, ht]; rfl]; rfl
    obtain ⟨Q, hQ⟩ : ∃ Q : Nat, 9223372036854775808 / X = Q := ⟨_, rfl⟩
    have hd2 : (9223372036854775808 : Int) / (X : Int) = (Q : Int) := by rw [← hQ]; simp
    have hd1 : Int.tdiv 9223372036854775808 (X : Int) = (Q : Int) := by rw [Int.tdiv_eq_ediv_of_nonneg (by omega)]; exact hd2
    have hQb : Q ≤ 9223372036854775808 := by rw [← hQ]; exact Nat.le_trans (Nat.div_le_self _ _) (by decide)
    have hQw : IntKind.u64.wrap (Q : Int) = (Q : Int) := by simp [IntKind.wrap, IntKind.signed, IntKind.bits]; omega
    have hle : Y ≤ Q ↔ X * Y ≤ 9223372036854775808 := by rw [← hQ, Nat.le_div_iff_mul_le (by omega), Nat.mul_comm]
    cases hf : i64B (a * b) with
    | false =>
      rw [if_neg (by rw [hf]; simp)] at hr
      subst hr
      rw [i64B_f] at hf
      have hlt : Q < Y := by
        rcases Nat.lt_or_ge Q Y with h | h
        · exact h
        · have := hle.1 h; omega
      have d1 : decide (Q < Y) = true := by simp [hlt]
      have d2 : decide ((Q : Int) < (Y : Int)) = true := by simp [hlt]
      clear hQb hle hf hpq2 hpq hQ hlt hX4 ha hb h0a h0b
      go_enter Tryd.func21, Tryd.ntmps21
      go_wp2_with fail
      refine (H1.out _).mono ?_
      rintro e w1 ⟨rfl, hf1⟩
      dsimp only
      go_wp2_with fail
      refine (H2.out _).mono ?_
      rintro e w2 ⟨rfl, hf2⟩
      dsimp only
      go_wp2
      go_ret2
      exact ⟨rfl, hf1.trans' hf2⟩
    | true =>
      rw [if_pos hf] at hr
      subst hr
      have hf2 := i64B_t.1 hf
      have hlt : Y ≤ Q := hle.2 (by omega)
      have d1 : decide (Q < Y) = false := by simp; omega
      have d2 : decide ((Q : Int) < (Y : Int)) = false := by simp; omega
      have hw1 : IntKind.i64.wrap (a * b) = a * b := IntWalk.i64_in _ (by omega)
      have hw2 : wrap64 (a * b) = a * b := by unfold wrap64; omega
      obtain ⟨z, hz⟩ : ∃ z, a * b = z := ⟨_, rfl⟩
      rw [hz] at hw1 hw2 ⊢
      have HZ := Lib.hid hz
      have HW := Lib.hid hw2
      clear hQb hle hf hpq2 hpq hQ hlt hX4 ha hb hf2 hz h0a h0b hw1 hw2
      go_enter Tryd.func21, Tryd.ntmps21
      go_wp2_with fail
      refine (H1.out _).mono ?_
      rintro e w1 ⟨rfl, hf1⟩
      dsimp only
      go_wp2_with fail
      refine (H2.out _).mono ?_
      rintro e w2 ⟨rfl, hf2⟩
      dsimp only
      go_wp2
      go_ret2
      exact ⟨by simp [HZ.out, HW.out], hf1.trans' hf2⟩
  · have hs : decide (a < 0) = false := by simp; omega
    have ht : decide (b < 0) = false := by simp; omega
    have hpq2 : a * b = ((X * Y : Nat) : Int) := by rw [hpq, show minus a b = false by unfold minus; rw [hs, ht]; rfl]; rfl
    obtain ⟨Q, hQ⟩ : ∃ Q : Nat, 9223372036854775807 / X = Q := ⟨_, rfl⟩
    have hd2 : (9223372036854775807 : Int) / (X : Int) = (Q : Int) := by rw [← hQ]; simp
    have hd1 : Int.tdiv 9223372036854775807 (X : Int) = (Q : Int) := by rw [Int.tdiv_eq_ediv_of_nonneg (by omega)]; exact hd2
    have hQb : Q ≤ 9223372036854775808 := by rw [← hQ]; exact Nat.le_trans (Nat.div_le_self _ _) (by decide)
    have hQw : IntKind.u64.wrap (Q : Int) = (Q : Int) := by simp [IntKind.wrap, IntKind.signed, IntKind.bits]; omega
    have hle : Y ≤ Q ↔ X * Y ≤ 9223372036854775807 := by rw [← hQ, Nat.le_div_iff_mul_le (by omega), Nat.mul_comm]
    cases hf : i64B (a * b) with
    | false =>
      rw [if_neg (by rw [hf]; simp)] at hr
      subst hr
      rw [i64B_f] at hf
      have hlt : Q < Y := by
        rcases Nat.lt_or_ge Q Y with h | h
        · exact h
        · have := hle.1 h; omega
      have d1 : decide (Q < Y) = true := by simp [hlt]
      have d2 : decide ((Q : Int) < (Y : Int)) = true := by simp [hlt]
      clear hQb hle hf hpq2 hpq hQ hlt hX4 ha hb h0a h0b
      go_enter Tryd.func21, Tryd.ntmps21
      go_wp2_with fail
      refine (H1.out _).mono ?_
      rintro e w1 ⟨rfl, hf1⟩
      dsimp only
      go_wp2_with fail
      refine (H2.out _).mono ?_
      rintro e w2 ⟨rfl, hf2⟩
      dsimp only
      go_wp2
      go_ret2
      exact ⟨rfl, hf1.trans' hf2⟩
    | true =>
      rw [if_pos hf] at hr
      subst hr
      have hf2 := i64B_t.1 hf
      have hlt : Y ≤ Q := hle.2 (by omega)
      have d1 : decide (Q < Y) = false := by simp; omega
      have d2 : decide ((Q : Int) < (Y : Int)) = false := by simp; omega
      have hw1 : IntKind.i64.wrap (a * b) = a * b := IntWalk.i64_in _ (by omega)
      have hw2 : wrap64 (a * b) = a * b := by unfold wrap64; omega
      obtain ⟨z, hz⟩ : ∃ z, a * b = z := ⟨_, rfl⟩
      rw [hz] at hw1 hw2 ⊢
      have HZ := Lib.hid hz
      have HW := Lib.hid hw2
      clear hQb hle hf hpq2 hpq hQ hlt hX4 ha hb hf2 hz h0a h0b hw1 hw2
      go_enter Tryd.func21, Tryd.ntmps21
      go_wp2_with fail
      refine (H1.out _).mono ?_
      rintro e w1 ⟨rfl, hf1⟩
      dsimp only
      go_wp2_with fail
      refine (H2.out _).mono ?_
      rintro e w2 ⟨rfl, hf2⟩
      dsimp only
      go_wp2
      go_ret2
      exact ⟨by simp [HZ.out, HW.out], hf1.trans' hf2⟩
end Go.Proofs.YtdgeakojdafipaaDoor.Legs

/-! The reference's Net. -/
set_option linter.unusedVariables false
set_option linter.unusedSimpArgs false
namespace Go.Proofs.YtdgeakojdafipaaDoor.Legs
open Go.RowKit Go.Proofs.YtdgeakojdafipaaDoorW.PrintWords Go.Proofs.YtdgeakojdafipaaDoor.B Go.Proofs.YtdgeakojdafipaaDoor.Num

theorem rg_at {w : World} {A : Option Addr} {l : List Leg} (h : PLegsNet.k56.C w A (l.map toR).length (l.map toR)) (k : Nat) (hk : k < l.length) :
    ∃ ad, A = some ad ∧ w.cell? (ad.add (k * 3)) = some (.int .i64 (lg l k).Series) ∧ w.cell? ⟨(ad.add (k * 3)).block, (ad.add (k * 3)).off + 1, none⟩ = some (.int .i64 (lg l k).Sign) ∧ w.cell? ⟨(ad.add (k * 3)).block, (ad.add (k * 3)).off + 2, none⟩ = some (.int .i64 (lg l k).Ratio) := by
  obtain ⟨ad, h1, h2, h3, h4⟩ := PLegsNet.at_T56 h (k : Int) (by omega) (by rw [List.length_map]; omega)
  rw [rdR, Int.toNat_natCast] at h2 h3 h4
  exact ⟨ad, h1, h2, h3, h4⟩
set_option maxRecDepth 100000 in
set_option maxHeartbeats 4000000 in
theorem rnet_c (A : Option Addr) (c : Nat) (l : List Leg) (B : Option Addr) (cb : Nat) (ps : List Int) (w : World) (hC : PLegsNet.k56.C w A (l.map toR).length (l.map toR)) (hl : l.length ≤ 1000) (hc : l.length ≤ c)
    (hB : (Kd.int .i64).C w B ps.length ps) (hp : ∀ k, k < ps.length → -9223372036854775808 ≤ pr ps k ∧ pr ps k ≤ 9223372036854775807) :
    Calls Tryd.prog 10 #[.slice A l.length c, .slice B ps.length cb] w fun e w' => NetOf e (netF l ps) ∧ Fr no w w' := by
  obtain ⟨V, hV⟩ : ∃ V, netF l ps = V := ⟨_, rfl⟩
  rw [hV]
  unfold netF at hV
  have HK := Lib.hid (And.intro hC (And.intro hB hp))
  have HL := Lib.hid hl
  clear hC hB hp hl
  cases hw : wrong l with
  | some a =>
    obtain ⟨n, k⟩ := a
    have hk1 := (wrong_bd hw).2
    rw [if_neg (by rw [hw]; simp)] at hV
    subst hV
    have HW := Lib.hid hw
    have e0 : (k != 0) = true := by rcases hk1 with rfl | rfl <;> rfl
    clear hw hk1
    go_enter Tryd.func10, Tryd.ntmps10
    go_wp2_with fail
    refine (rcheck_c A c l HL.out hc w HK.out.1).mono ?_
    rintro e w1 ⟨⟨v, rfl, hA⟩, hf1⟩
    obtain ⟨G, cm, rfl, _, _⟩ := hA.2 n k HW.out
    clear hA
    dsimp only
    go_wp2
    go_ret2
    exact ⟨rfl, hf1.alloc _⟩
  | none =>
    have hg := good_iff.1 hw
    by_cases hlen : ps.length = l.length
    rotate_left
    · rw [if_neg (by simp [hlen])] at hV
      subst hV
      have HW := Lib.hid hw
      have e1 : ((l.length : Int) != (ps.length : Int)) = true := by simp; omega
      clear hw hg hlen
      go_enter Tryd.func10, Tryd.ntmps10
      go_wp2_with fail
      refine (rcheck_c A c l HL.out hc w HK.out.1).mono ?_
      rintro e w1 ⟨⟨v, rfl, hA⟩, hf1⟩
      obtain ⟨Aw, nw, cw, rfl⟩ := hA.1 HW.out
      clear hA
      dsimp only
      go_wp2
      go_ret2
      exact ⟨rfl, hf1.alloc _⟩
    rw [if_pos ⟨hw, hlen⟩] at hV
    have HW := Lib.hid (And.intro hw (And.intro hg hlen))
    have hl4 : l.length ≤ 4 := hg.hi
    have HV := Lib.hid hV
    have e1 : ((l.length : Int) != (ps.length : Int)) = false := by simp; omega
    clear hw hg hlen hV
    go_enter Tryd.func10, Tryd.ntmps10
    go_wp2_with fail
    refine (rcheck_c A c l HL.out hc w HK.out.1).mono ?_
    rintro e w1 ⟨⟨v, rfl, hA⟩, hf1⟩
    obtain ⟨Aw, nw, cw, rfl⟩ := hA.1 HW.out.1
    clear hA
    have hf1' := fun o => hf1.alloc o
    dsimp only
    go_wp2
    clear e1
    go_loopg [7, 8] l.length (fun q o i wr => ∃ (k : Nat) (s : Int), k + q = l.length ∧ i = .int .i64 k ∧ o = .int .i64 s ∧ -9223372036854775808 ≤ s ∧ s ≤ 9223372036854775807 ∧ Hid (netFrom l ps (l.length - k) k s = V) ∧ Fr no w wr)
    case atStart => exact ⟨0, 0, by omega, rfl, rfl, by omega, by omega, HV, hf1' _⟩
    case round =>
      clear HV hf1 hf1'
      obtain ⟨k, s, hk, rfl, rfl, hs0, hs1, hv, hf⟩ := hrel
      by_cases hlt : k < l.length
      · have hv2 := hv.out
        rw [show l.length - k = (l.length - (k + 1)) + 1 by omega, netFrom] at hv2
        have hkp : k < ps.length := by have := HW.out.2.2; omega
        obtain ⟨ad, rfl, c0, c1, c2⟩ := rg_at (C_fr HK.out.1 hf) k hlt
        obtain ⟨bd, rfl, p0⟩ := pr_at (C_fr HK.out.2.1 hf) k hkp
        have hpb := HK.out.2.2 k hkp
        have hok := HW.out.2.1.ok _ (List.getElem_mem hlt)
        rw [← lg_lt hlt] at hok
        generalize lg l k = x at *
        generalize pr ps k = p at *
        obtain ⟨s4, s5⟩ := sr_small hok
        obtain ⟨_, o1, o2, o3⟩ := okB_iff.1 hok
        have hne : x.Sign * x.Ratio ≠ 0 := by rcases o1 with h | h <;> rw [h] <;> omega
        have hpc := fun W => rmul_c (x.Sign * x.Ratio) p s4 s5 hne hpb.1 hpb.2 W
        unfold mulF at hpc
        have hwm1 : IntKind.i64.wrap (x.Sign * x.Ratio) = x.Sign * x.Ratio := IntWalk.i64_in _ (by omega)
        have hwn1 : wrap64 (x.Sign * x.Ratio) = x.Sign * x.Ratio := by unfold wrap64; omega
        obtain ⟨m, hm⟩ : ∃ m, x.Sign * x.Ratio = m := ⟨_, rfl⟩
        rw [hm] at hpc hv2
        have hwm : IntKind.i64.wrap (x.Sign * x.Ratio) = m := hwm1.trans hm
        have hwn : wrap64 (x.Sign * x.Ratio) = m := hwn1.trans hm
        clear hwm1 hwn1
        have HPC := Lib.hid hpc
        have HV2 := Lib.hid hv2
        have hk0 : (0 : Int) ≤ (k : Int) := by omega
        have hk1 : (k : Int) < (ps.length : Int) := by omega
        have hk2 : k < ps.length := hkp
        have hk3 : (k : Int) < (l.length : Int) := by omega
        have hS : (wr.cell? ⟨(ad.add (k * 3)).block, (ad.add (k * 3)).off + 1, none⟩ = some (.int .i64 x.Sign) ∧ wr.cell? ⟨(ad.add (k * 3)).block, (ad.add (k * 3)).off + 2, none⟩ = some (.int .i64 x.Ratio)) ∧ wr.cell? (bd.add k) = some (.int .i64 p) := ⟨⟨c1, c2⟩, p0⟩
        clear hv hv2 hpc hok hpb hkp hm c0 c1 c2 p0 hne o1 o2 o3 s4 s5
        go_wp2
        refine wp_region_plan (fun u => (u.cell? ⟨(ad.add (k * 3)).block, (ad.add (k * 3)).off + 1, none⟩ = some (.int .i64 x.Sign) ∧ u.cell? ⟨(ad.add (k * 3)).block, (ad.add (k * 3)).off + 2, none⟩ = some (.int .i64 x.Ratio)) ∧ u.cell? (bd.add k) = some (.int .i64 p)) [(0, false), (1, false), (2, false), (3, false), (4, false), (5, false), (6, false), (7, false), (8, false), (9, false), (10, false), (11, false), (12, false), (13, false), (14, false), (15, true), (16, false), (17, false), (18, false), (19, false), (20, false)] (by kernel_rfl) (by kernel_rfl) (fun _ _ _ _ _ h => h) (hS) ?_
        simp only [planOps, List.getElem?_toArray, List.getElem?_cons_succ, List.getElem?_cons_zero]
        repeat (first
          | (refine plan_step (by rfl) ?_; apply Exists.intro; refine ⟨fun x hSx => ?_, ?_⟩; ((try dsimp only at hSx); go_simp; (try rw [if_neg (by omega)]); (try with_reducible rfl)); (simp only [Act.put, List.setIfInBounds_toArray, List.set_cons_zero, List.set_cons_succ]))
          | (refine plan_skip (by rfl) ?_; (simp only [Act.put, List.setIfInBounds_toArray, List.set_cons_zero, List.set_cons_succ])))
        refine plan_run (by rfl) (fun K hK => ?_)
        go_simp
        refine (HPC.out _).mono ?_
        rintro e w3 ⟨rfl, hf3⟩
        have h23 := (Fr.refl no wr).drew.trans' hf3
        have hf4 := hf.trans' h23
        have hS3 : (w3.cell? ⟨(ad.add (k * 3)).block, (ad.add (k * 3)).off + 1, none⟩ = some (.int .i64 x.Sign) ∧ w3.cell? ⟨(ad.add (k * 3)).block, (ad.add (k * 3)).off + 2, none⟩ = some (.int .i64 x.Ratio)) ∧ w3.cell? (bd.add k) = some (.int .i64 p) := ⟨⟨h23.cell hS.1.1 (fun h => h), h23.cell hS.1.2 (fun h => h)⟩, h23.cell hS.2 (fun h => h)⟩
        clear h23 hS hf hf3 hwm hwn
        cases hb1 : i64B (m * p) with
        | false =>
          have hv2 := HV2.out
          rw [if_pos hb1] at hv2
          subst hv2
          rw [if_neg (by decide)]
          clear HV2 hb1
          dsimp only
          refine hK.out (fun u => True) _ _ (hS3) (trivial) ?_
          clear hK K
          try simp only [Act.put, List.setIfInBounds_toArray, List.set_cons_zero, List.set_cons_succ]
          repeat (first
            | (refine plan_step (by rfl) ?_; apply Exists.intro; refine ⟨fun x hSx => ?_, ?_⟩; ((try dsimp only at hSx); go_simp; (try rw [if_neg (by omega)]); (try with_reducible rfl)); (simp only [Act.put, List.setIfInBounds_toArray, List.set_cons_zero, List.set_cons_succ]))
            | (refine plan_skip (by rfl) ?_; (simp only [Act.put, List.setIfInBounds_toArray, List.set_cons_zero, List.set_cons_succ])))
          refine plan_done ?_
          clear hS3
          go_wp2
          go_ret2
          exact ⟨rfl, hf4⟩
        | true =>
          have hv2 := HV2.out
          rw [if_neg (by simp [hb1])] at hv2
          rw [if_pos rfl]
          obtain ⟨n, hn⟩ : ∃ n, m * p = n := ⟨_, rfl⟩
          rw [hn] at hv2 hb1 ⊢
          obtain ⟨n0, n1⟩ := i64B_t.1 hb1
          have hac := fun W => radd_c s n hs0 hs1 n0 n1 W
          unfold addF at hac
          have HAC := Lib.hid hac
          have HV3 := Lib.hid hv2
          clear HV2 hb1 hn hv2 hac
          dsimp only
          refine hK.out (fun u => True) _ _ (hS3) (trivial) ?_
          clear hK K
          try simp only [Act.put, List.setIfInBounds_toArray, List.set_cons_zero, List.set_cons_succ]
          repeat (first
            | (refine plan_step (by rfl) ?_; apply Exists.intro; refine ⟨fun x hSx => ?_, ?_⟩; ((try dsimp only at hSx); go_simp; (try rw [if_neg (by omega)]); (try with_reducible rfl)); (simp only [Act.put, List.setIfInBounds_toArray, List.set_cons_zero, List.set_cons_succ]))
            | (refine plan_skip (by rfl) ?_; (simp only [Act.put, List.setIfInBounds_toArray, List.set_cons_zero, List.set_cons_succ])))
          refine plan_done ?_
          clear hS3
          go_wp2_with fail
          refine (HAC.out _).mono ?_
          rintro e w4 ⟨rfl, hf5⟩
          cases hb2 : i64B (s + n) with
          | false =>
            have hv2 := HV3.out
            rw [if_pos hb2] at hv2
            subst hv2
            rw [if_neg (by decide)]
            clear HV3 hb2
            dsimp only
            go_wp2
            go_ret2
            exact ⟨rfl, hf4.trans' hf5⟩
          | true =>
            have hv2 := HV3.out
            rw [if_neg (by simp [hb2])] at hv2
            rw [if_pos rfl]
            obtain ⟨z, hz⟩ : ∃ z, s + n = z := ⟨_, rfl⟩
            rw [hz] at hv2 hb2 ⊢
            obtain ⟨z0, z1⟩ := i64B_t.1 hb2
            have HV4 := Lib.hid hv2
            clear HV3 hb2 hz hv2
            dsimp only
            go_wp2
            go_roundg (l.length - (k + 1))
            case measure => omega
            case rel => exact ⟨k + 1, z, by omega, by go_num, rfl, z0, z1, HV4, hf4.trans' hf5⟩
      · obtain rfl : k = l.length := by omega
        have hv2 := hv.out
        rw [Nat.sub_self, netFrom] at hv2
        subst hv2
        clear hv
        go_wp2
        go_ret2
        exact ⟨rfl, hf⟩
end Go.Proofs.YtdgeakojdafipaaDoor.Legs

/-! Walk of LegsNet. -/
set_option linter.unusedVariables false
set_option linter.unusedSimpArgs false
namespace Go.Proofs.YtdgeakojdafipaaDoor.Legs
open Go.RowKit Go.Proofs.YtdgeakojdafipaaDoorW.PrintWords Go.Proofs.YtdgeakojdafipaaDoor.B Go.Proofs.YtdgeakojdafipaaDoor.Num

theorem pr_mem {ps : List Int} {P : Int → Prop} (h : ∀ y ∈ ps, P y) {k : Nat} (hk : k < ps.length) : P (pr ps k) := by
  have e : pr ps k = ps[k] := by simp [pr, hk]
  rw [e]
  exact h _ (List.getElem_mem hk)
set_option maxRecDepth 100000 in
set_option maxHeartbeats 8000000 in
theorem net_row (w : World) (A : Option Addr) (c : Nat) (l : List Leg) (B : Option Addr) (cb : Nat) (ps : List Int) (hC : kLeg.C w A l.length l) (hc : l.length ≤ c) (hw : ∀ x ∈ l, wfLeg x) (hB : (Kd.int .i64).C w B ps.length ps) (hb : ps.length ≤ cb) (hp : ∀ y ∈ ps, (Lit.int .i64 y).wf = true) :
    Calls Tryd.prog 3 #[.slice A l.length c, .slice B ps.length cb] w fun e w' => e = .returned (.bool true) ∧ Fr no w w' := by
  have hpb : ∀ k, k < ps.length → -9223372036854775808 ≤ pr ps k ∧ pr ps k ≤ 9223372036854775807 := fun k hk => Go.bounds_i64 (pr_mem hp hk)
  have HK := Lib.hid (And.intro hC (And.intro hB (And.intro hw hpb)))
  clear hC hB hw hp hpb
  by_cases h4 : 20 < l.length
  · have d1 : decide ((20 : Int) < (l.length : Int)) = true := by simp; omega
    clear h4
    go_enter Tryd.func3, Tryd.ntmps3
    go_wp2_with fail
    refine (known_c w).mono ?_
    rintro e w1 ⟨rfl, hf1⟩
    dsimp only
    go_wp2
    go_ret
    exact ⟨rfl, hf1⟩
  have d1 : decide ((20 : Int) < (l.length : Int)) = false := by simp; omega
  by_cases h5 : 20 < ps.length
  · have d2 : decide ((20 : Int) < (ps.length : Int)) = true := by simp; omega
    clear h4 h5
    go_enter Tryd.func3, Tryd.ntmps3
    go_wp2_with fail
    refine (known_c w).mono ?_
    rintro e w1 ⟨rfl, hf1⟩
    dsimp only
    go_wp2
    go_ret
    exact ⟨rfl, hf1⟩
  have d2 : decide ((20 : Int) < (ps.length : Int)) = false := by simp; omega
  have hl20 : l.length ≤ 20 := by omega
  have hp20 : ps.length ≤ 20 := by omega
  have hni := i64B_t.1 (netF_i64 l ps)
  have h1 := fun W (h : Fr no w W) => net_c A c l B cb ps W (C_fr HK.out.1 h) hc (C_fr HK.out.2.1 h) hb HK.out.2.2.2
  have h2 := fun W Ar cr (h : Fr no w W) (hr : PLegsNet.k56.C W Ar (l.map toR).length (l.map toR)) (hcr : l.length ≤ cr) => rnet_c Ar cr l B cb ps W hr (by omega) hcr (C_fr HK.out.2.1 h) HK.out.2.2.2
  have h3 : ∀ W At, Fr no w W → kLeg.C W At (turnL l).length (turnL l) → Calls Tryd.prog 9 #[.slice At l.length l.length, .slice B ps.length cb] W fun e w' => NetOf e (netF (turnL l) ps) ∧ Fr no W w' := fun W At h ht => by
    have h := net_c At l.length (turnL l) B cb ps W ht (by rw [turnL_length]; exact Nat.le_refl _) (C_fr HK.out.2.1 h) hb HK.out.2.2.2
    rw [turnL_length] at h
    exact h
  have hnt := fun hps => netF_turn l ps (fun x hx => Go.bounds_i64 (HK.out.2.2.1 x hx).2.1) hps
  have hnj := i64B_t.1 (netF_i64 (turnL l) ps)
  obtain ⟨N, hN⟩ : ∃ N, netF l ps = N := ⟨_, rfl⟩
  obtain ⟨M, hM⟩ : ∃ M, netF (turnL l) ps = M := ⟨_, rfl⟩
  rw [hN] at h1 h2 hnt hni
  rw [hM] at h3 hnt hnj
  obtain ⟨n, z⟩ := N
  obtain ⟨m, y⟩ := M
  unfold NetOf at h1 h2 h3
  dsimp only at h1 h2 h3 hnt hni hnj
  have H1 := Lib.hid h1
  have H2 := Lib.hid h2
  have H3 := Lib.hid h3
  have HNT := Lib.hid hnt
  clear h1 h2 h3 hnt hN hM h4 h5
  go_enter Tryd.func3, Tryd.ntmps3
  go_wp2_with fail
  refine (known_c w).mono ?_
  rintro e w1 ⟨rfl, hf1⟩
  dsimp only
  go_wp2_with fail
  refine (H1.out _ hf1).mono ?_
  rintro e w2 ⟨rfl, hf2⟩
  have hf02 := hf1.trans' hf2
  clear hf1 hf2
  dsimp only
  go_wp2_with fail
  refine (of_c A c l (by omega) hc w2 (C_fr HK.out.1 hf02)).mono ?_
  rintro e w3 ⟨⟨v, rfl, hR⟩, hf3⟩
  obtain ⟨Ar, cr, rfl, hcr, hCr⟩ := Kd.R_reads hR
  rw [List.length_map] at hcr ⊢
  have hf03 := hf02.trans' hf3
  clear hf02 hf3 hR
  dsimp only
  go_wp2_with fail
  refine (H2.out _ Ar cr hf03 hCr hcr).mono ?_
  rintro e w4 ⟨rfl, hf4⟩
  have hf04 := hf03.trans' hf4
  have HF := Lib.hid hf04
  have q1 : (n != n) = false := by simp
  have q2 : (z != z) = false := by simp
  clear hf03 hf4 hCr hf04
  dsimp only
  go_wp2
  clear q1 q2 d1 d2
  go_loopg [9] ps.length (fun q i wr => ∃ k : Nat, k + q = ps.length ∧ i = .int .i64 k ∧ Hid (∀ j, j < k → -1125899906842624 ≤ pr ps j ∧ pr ps j ≤ 1125899906842624) ∧ w4 = wr)
  case atStart => exact ⟨0, by omega, rfl, fun j hj => absurd hj (Nat.not_lt_zero _), rfl⟩
  case round =>
    obtain ⟨k, hk, rfl, hps, rfl⟩ := hrel
    by_cases hlt : k < ps.length
    · obtain ⟨bd, rfl, p0⟩ := pr_at (C_fr HK.out.2.1 HF.out) k hlt
      have hk0 : (0 : Int) ≤ (k : Int) := by omega
      have hk1 : (k : Int) < (ps.length : Int) := by omega
      obtain ⟨p, hpp⟩ : ∃ p, pr ps k = p := ⟨_, rfl⟩
      rw [hpp] at p0
      have HP := Lib.hid hpp
      clear hpp
      by_cases b1 : p < -1125899906842624
      · have e1 : decide (p < -1125899906842624) = true := by simp [b1]
        clear b1
        go_wp2
        go_ret
        exact ⟨rfl, HF.out⟩
      have e1 : decide (p < -1125899906842624) = false := by simp [b1]
      by_cases b2 : 1125899906842624 < p
      · have e2 : decide ((1125899906842624 : Int) < p) = true := by simp [b2]
        clear b1 b2
        go_wp2
        go_ret
        exact ⟨rfl, HF.out⟩
      have e2 : decide ((1125899906842624 : Int) < p) = false := by simp [b2]
      have HPS : Hid (∀ j, j < k + 1 → -1125899906842624 ≤ pr ps j ∧ pr ps j ≤ 1125899906842624) := fun j hj => by
        by_cases hjk : j = k
        · subst hjk; rw [HP.out]; omega
        · exact hps.out j (by omega)
      clear b1 b2 hps
      go_wp2
      go_roundg (ps.length - (k + 1))
      case measure => omega
      case rel => exact ⟨k + 1, by omega, by go_num, HPS, rfl⟩
    · obtain rfl : k = ps.length := by omega
      have hnt := (HNT.out hps.out).1
      injection hnt with hm hy
      subst hm
      obtain rfl : z = y := hy.symm
      have hz : IntKind.i64.wrap (0 - n) = -n := by rw [show (0 - n) = -n by omega]; exact IntWalk.i64_in _ (by omega)
      have hz2 : wrap64 (0 - n) = -n := by unfold wrap64; omega
      have hz3 : IntKind.i64.wrap (-n) = -n := IntWalk.i64_in _ (by omega)
      have hz4 : wrap64 (-n) = -n := by unfold wrap64; omega
      have q1 : ∀ u : Int, (u == u) = true := fun u => by simp
      have q2 : (-n == -n) = true := by simp
      clear hps
      go_wp2_with fail
      refine (turned_c A c l w4 (C_fr HK.out.1 HF.out) hc (by omega)).mono ?_
      rintro e w5 ⟨⟨vt, rfl, hvt⟩, hf5⟩
      obtain ⟨At, rfl, hCt⟩ := hvt.reads
      have hf05 := HF.out.trans' hf5
      rw [turnL_length l]
      clear hvt hf5
      dsimp only
      go_wp2_with fail
      refine (H3.out w5 At hf05 hCt).mono ?_
      rintro e w6 ⟨rfl, hf6⟩
      have hfe := hf05.trans' hf6
      clear hf05 hf6 hCt
      dsimp only
      go_wp2
      go_ret
      exact ⟨by first | rfl | simp, hfe⟩
end Go.Proofs.YtdgeakojdafipaaDoor.Legs
