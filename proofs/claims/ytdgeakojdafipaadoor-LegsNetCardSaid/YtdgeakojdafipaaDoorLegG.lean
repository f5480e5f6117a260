import Derived.Test.YtdgeakojdafipaaDoorLegS
import Derived.Test.YtdgeakojdafipaaDoorPLegA
import Derived.Test.YtdgeakojdafipaaDoorPLegE
/-! num.Gcd, num.Add (and the reference's Gcd) at what legs ask of them; legs.Canon. -/
set_option linter.unusedVariables false
set_option linter.unusedSimpArgs false
namespace Go.Proofs.YtdgeakojdafipaaDoor.Legs
open Go.RowKit Go.Proofs.YtdgeakojdafipaaDoorW.PrintWords Go.Proofs.YtdgeakojdafipaaDoor.B Go.Proofs.YtdgeakojdafipaaDoor.Num

theorem u64_id {a : Int} (h0 : 0 ≤ a) (h1 : a ≤ 9223372036854775807) : IntKind.u64.wrap a = a := by simp [IntKind.wrap, IntKind.signed, IntKind.bits]; omega
theorem gcd_step (x y : Nat) : gcdF (x : Int) (y : Int) = ((Nat.gcd x y : Nat) : Int) := by simp [gcdF, Int.gcd]
theorem gcd_l (k : Nat) : ∀ (x y : Nat), y < k → x ≤ 1000000 → y ≤ 1000000 → PLegsNet.num_Gcd.l0 k (x : Int) (y : Int) = some ((Nat.gcd x y : Nat) : Int) := by
  induction k with
  | zero => intro x y h; omega
  | succ k ih =>
    intro x y hk hx hy
    simp only [PLegsNet.num_Gcd.l0]
    by_cases hy0 : y = 0
    · subst hy0
      rw [if_neg (by simp)]
      simp [mn, wrap64]
      omega
    · rw [if_pos (by omega), if_neg (by omega)]
      have e : Int.tmod (x : Int) (y : Int) = ((x % y : Nat) : Int) := by
        rw [Int.tmod_eq_emod_of_nonneg (by omega)]; simp
      have hlt := Nat.mod_lt x (show 0 < y by omega)
      rw [e, ih y (x % y) (by omega) hy (by omega), Nat.gcd_comm y, ← Nat.gcd_rec, Nat.gcd_comm]
theorem gcd_f (a b : Int) (a0 : 0 ≤ a) (a1 : a ≤ 1000000) (b0 : 0 ≤ b) (b1 : b ≤ 1000000) : PLegsNet.num_Gcd.f (b.toNat + 1) a b = some (gcdF a b) := by
  obtain ⟨x, rfl⟩ : ∃ x : Nat, a = x := ⟨a.toNat, by omega⟩
  obtain ⟨y, rfl⟩ : ∃ y : Nat, b = y := ⟨b.toNat, by omega⟩
  have h := gcd_l (y + 1) x y (by omega) (by omega) (by omega)
  unfold PLegsNet.num_Gcd.f PLegsNet.num_size.f
  rw [if_neg (by omega), if_neg (by omega), Option.bind_some, Option.bind_some, u64_id (by omega) (by omega), u64_id (by omega) (by omega), Int.toNat_natCast, h, gcd_step]
theorem gcd_c (a b : Int) (a0 : 0 ≤ a) (a1 : a ≤ 1000000) (b0 : 0 ≤ b) (b1 : b ≤ 1000000) (w : World) : Calls Tryd.prog 32 #[.int .i64 a, .int .i64 b] w fun e w' => e = .returned (.int .i64 (gcdF a b)) ∧ Fr no w w' :=
  (PLegsNet.num_Gcd.calls _ a b _ w (gcd_f a b a0 a1 b0 b1)).mono fun e w' ⟨h, h2⟩ => ⟨h, Fr.of_below h2⟩
theorem rgcd_l (k : Nat) : ∀ (x y : Nat), y < k → x ≤ 1000000 → y ≤ 1000000 → PLegsGcd.straddleref1_Gcd.l0 k (x : Int) (y : Int) = some ((Nat.gcd x y : Nat) : Int) := by
  induction k with
  | zero => intro x y h; omega
  | succ k ih =>
    intro x y hk hx hy
    simp only [PLegsGcd.straddleref1_Gcd.l0]
    by_cases hy0 : y = 0
    · subst hy0
      rw [if_neg (by simp), if_neg (by omega)]
      simp [wrap64]
      omega
    · rw [if_pos (by omega), if_neg (by omega)]
      have e : Int.tmod (x : Int) (y : Int) = ((x % y : Nat) : Int) := by
        rw [Int.tmod_eq_emod_of_nonneg (by omega)]; simp
      have hlt := Nat.mod_lt x (show 0 < y by omega)
      rw [e, ih y (x % y) (by omega) hy (by omega), Nat.gcd_comm y, ← Nat.gcd_rec, Nat.gcd_comm]
theorem rgcd_f (a b : Int) (a0 : 0 ≤ a) (a1 : a ≤ 1000000) (b0 : 0 ≤ b) (b1 : b ≤ 1000000) : PLegsGcd.straddleref1_Gcd.f (b.toNat + 1) a b = some (gcdF a b) := by
  obtain ⟨x, rfl⟩ : ∃ x : Nat, a = x := ⟨a.toNat, by omega⟩
  obtain ⟨y, rfl⟩ : ∃ y : Nat, b = y := ⟨b.toNat, by omega⟩
  have h := rgcd_l (y + 1) x y (by omega) (by omega) (by omega)
  unfold PLegsGcd.straddleref1_Gcd.f PLegsGcd.straddleref1_size.f
  rw [if_neg (by omega), if_neg (by omega), Option.bind_some, Option.bind_some, u64_id (by omega) (by omega), u64_id (by omega) (by omega), Int.toNat_natCast, h, gcd_step]
theorem rgcd_c (a b : Int) (a0 : 0 ≤ a) (a1 : a ≤ 1000000) (b0 : 0 ≤ b) (b1 : b ≤ 1000000) (w : World) : Calls Tryd.prog 16 #[.int .i64 a, .int .i64 b] w fun e w' => e = .returned (.int .i64 (gcdF a b)) ∧ Fr no w w' :=
  (PLegsGcd.straddleref1_Gcd.calls _ a b _ w (rgcd_f a b a0 a1 b0 b1)).mono fun e w' ⟨h, h2⟩ => ⟨h, Fr.of_below h2.below⟩
def addF (a b : Int) : Int × Int := if i64B (a + b) = true then (a + b, 0) else (0, 9)
theorem add_f (a b : Int) (a0 : -9223372036854775808 ≤ a) (a1 : a ≤ 9223372036854775807) (b0 : -9223372036854775808 ≤ b) (b1 : b ≤ 9223372036854775807) : PLegsNet.num_Add.f a b = some (addF a b) := by
  unfold PLegsNet.num_Add.f addF
  have hw : -9223372036854775808 ≤ a + b → a + b ≤ 9223372036854775807 → wrap64 (a + b) = a + b := fun h1 h2 => by unfold wrap64; omega
  rcases Int.lt_trichotomy b 0 with hb | hb | hb
  · have h1 : wrap64 (-9223372036854775808 - b) = -9223372036854775808 - b := by unfold wrap64; omega
    rw [if_neg (by omega), if_pos (by omega), h1]
    by_cases h : a < -9223372036854775808 - b
    · rw [if_pos h, if_neg (by rw [i64B_t]; omega)]
    · rw [if_neg h, hw (by omega) (by omega), if_pos (by rw [i64B_t]; omega)]
  · subst hb
    rw [if_neg (by omega), if_neg (by omega), hw (by omega) (by omega), if_pos (by rw [i64B_t]; omega)]
  · have h1 : wrap64 (9223372036854775807 - b) = 9223372036854775807 - b := by unfold wrap64; omega
    rw [if_pos (by omega), h1]
    by_cases h : a > 9223372036854775807 - b
    · rw [if_pos h, if_neg (by rw [i64B_t]; omega)]
    · rw [if_neg h, if_neg (by omega), hw (by omega) (by omega), if_pos (by rw [i64B_t]; omega)]
theorem add_c (a b : Int) (a0 : -9223372036854775808 ≤ a) (a1 : a ≤ 9223372036854775807) (b0 : -9223372036854775808 ≤ b) (b1 : b ≤ 9223372036854775807) (w : World) : Calls Tryd.prog 20 #[.int .i64 a, .int .i64 b] w fun e w' => e = .returned (.tuple #[.int .i64 (addF a b).1, .int .i64 (addF a b).2]) ∧ Fr no w w' :=
  (PLegsNet.num_Add.calls a b (addF a b).1 (addF a b).2 w (add_f a b a0 a1 b0 b1)).mono fun e w' ⟨h, h2⟩ => ⟨h, Fr.of_below h2.below⟩
end Go.Proofs.YtdgeakojdafipaaDoor.Legs
