import Derived.Test.YtdkkdoadafhfmaaCodecK
import Derived.Test.YtdkkdoadafhfmaaPRefInt
/-! What the reference's printed functions come to. -/
set_option linter.unusedVariables false
set_option linter.unusedSimpArgs false
namespace Go.Proofs.Ytdkkdoadafhfmaa.Codec
open Go.RowKit Go.Proofs.YtdkkdoadafhfmaaW.PrintWords Go.Proofs.Ytdkkdoadafhfmaa.B Go.Proofs.Ytdkkdoadafhfmaa.PCodeShort

theorem u64_or128 (x : Int) : Go.bits .or .u64 (x % 128) 128 % 256 = x % 128 + 128 := by
  rw [u64_or _ _ (by omega) (by omega) (by omega) (by omega), show (128 : Int).toNat = 128 by rfl, Nat.or_comm, nat_join 7 _ _ (by decide) (by omega)]
  omega
theorem l0_is : ∀ (j : Nat) (x : Int) (xs : List Int), 0 ≤ x → x < 128 ^ (j + 1) → x < 18446744073709551616 → xs.length + j < 140737488355328 → straddleref4_Int.l0 (j + 1) x xs = some (xs ++ enc x)
  | 0, x, xs, h0, h1, h2, hl => by
    rw [straddleref4_Int.l0, if_neg (by omega), if_pos (by omega), enc_lt x (by omega), show x % 256 = x by omega]
  | j + 1, x, xs, h0, h1, h2, hl => by
    by_cases hx : 128 ≤ x
    · rw [straddleref4_Int.l0, if_pos hx, if_pos (by omega), and127 x h0 h2, u64_or128, l0_is j (x / 128) _ (by omega) (by rw [Int.pow_succ] at h1; omega) (by omega) (by simp; omega), enc_ge x hx]
      simp
    · rw [straddleref4_Int.l0, if_neg (by omega), if_pos (by omega), enc_lt x (by omega), show x % 256 = x by omega]
theorem refInt_is (n : Int) (h1 : -9223372036854775808 ≤ n) (h2 : n ≤ 9223372036854775807) : straddleref4_Int.f 11 n = some (encI n) := by
  obtain ⟨z0, z1⟩ := zig_range n h1 h2
  have key : straddleref4_Int.j0 11 (zig n) = some (encI n) := by
    rw [straddleref4_Int.j0, l0_is 9 (zig n) [] z0 (by omega) z1 (by simp)]
    rfl
  unfold straddleref4_Int.f
  by_cases h : n < 0
  · rw [if_pos h, ← key]
    congr 1
    have e1 : wrap64 (-(wrap64 (n + 1))) = -(n + 1) := by simp only [wrap64, IntKind.wrap_i64]; omega
    rw [e1]
    simp only [wrap_u64]
    rw [show -(n + 1) % 18446744073709551616 * 2 % 18446744073709551616 = 2 * (-(n + 1)) by omega]
    rw [u64_or _ _ (by omega) (by omega) (by omega) (by omega), show (1 : Int).toNat = 1 by rfl, nat_join 1 _ _ (by omega) (by decide)]
    simp only [zig]
    rw [if_neg (by omega)]
    omega
  · rw [if_neg h, ← key]
    congr 1
    simp only [wrap_u64, zig]
    rw [if_pos (by omega)]
    omega
theorem refInt_c (n : Int) (w : World) (h1 : -9223372036854775808 ≤ n) (h2 : n ≤ 9223372036854775807) :
    Calls Try.prog 20 #[.int .i64 n] w fun e w' => ∃ A c, e = .returned (.slice A (encI n).length c) ∧ (Kd.int .u8).C w' A (encI n).length (encI n) ∧ Fr no w w' := by
  refine (straddleref4_Int.calls 11 n _ w (refInt_is n h1 h2)).mono ?_
  rintro e w' ⟨v, rfl, hR, hb⟩
  obtain ⟨A, c, rfl⟩ := Kd.R_slice hR
  exact ⟨A, c, rfl, (Kd.R_reads' hR).2.2, Fr.of_below hb⟩
end Go.Proofs.Ytdkkdoadafhfmaa.Codec
