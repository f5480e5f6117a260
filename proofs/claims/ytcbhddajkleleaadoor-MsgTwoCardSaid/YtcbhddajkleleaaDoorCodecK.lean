import Derived.Test.YtcbhddajkleleaaDoorCodecE
import Derived.Deep.DeepCutAuto
/-! Package codec, as a law uses it: all that is written is new since the law began. -/
set_option linter.unusedVariables false
set_option linter.unusedSimpArgs false
namespace Go.Proofs.YtcbhddajkleleaaDoor.Codec
open Go.RowKit Go.Proofs.YtcbhddajkleleaaDoorW.PrintWords Go.Proofs.YtcbhddajkleleaaDoor.B

section
variable {w0 w : World} {B : Nat} {bs : List Int}
theorem enc_new (hf : Fr no w0 w) : Encs (w.alloc (.cells #[.slice none 0 0] 57)) (since w0) w.heap.size [] ∧ Fr no w0 (w.alloc (.cells #[.slice none 0 0] 57)) :=
  ⟨⟨_, blk_new w _, hf.size, Kd.R_nil _ _ _ _ _⟩, hf.alloc _⟩
theorem Encs.keep {w1 : World} (h : Encs w (since w0) B bs) (hf : Fr no w w1) : Encs w1 (since w0) B bs := h.fr hf (fun _ _ h => h)
theorem eInt_s (h : Encs w (since w0) B bs) (hf : Fr no w0 w) (l : List Int) (hn : ∀ x ∈ l, -9223372036854775808 ≤ x ∧ x ≤ 9223372036854775807) (hlen : bs.length + 10 * l.length ≤ 1000000000) {W : World} {g n : Nat} (hW : W = w.alloc (.cells (l.map (Value.int .i64)).toArray 2)) (hg : g = w.heap.size) (hnl : n = l.length) :
    Calls Tryd.prog 22 #[.pointer (some ⟨B, 0, none⟩), .slice (some ⟨g, 0, none⟩) n n] W fun e w' => e = .returned (.tuple #[]) ∧ Encs w' (since w0) B (bs ++ l.flatMap encI) ∧ Fr no w0 w' := by
  subst hW hg hnl
  have h1 := (h.lt).fr ((Fr.refl no w).alloc (.cells (l.map (Value.int .i64)).toArray 2)) (fun _ _ h => h)
  refine (eInt_c B _ l.length l bs _ _ h1 (fun W hF => ?_) hn hlen).mono ?_
  · have hb := hF.heap (blk_new w _) (fun h => absurd h.2 (Nat.lt_irrefl _))
    refine C_blk (d := Kd.int .i64) hb l (show 0 < 1 by decide) (by omega) ?_
    exact Kd.reps_scalar (enc := Value.int .i64) l
  · rintro e w' ⟨rfl, h2, hF⟩
    refine ⟨rfl, h2.mono (fun k hk => hk.elim (fun h => h.1) (fun h => ?_)), (hf.alloc _).new hF (fun k hk => hk.1)⟩
    exact Nat.le_trans (hf.alloc _).size h
theorem bytes_s {ok : Nat → Prop} (h : Encs w ok B bs) (hl : bs.length ≤ 1000000000) :
    Calls Tryd.prog 23 #[.pointer (some ⟨B, 0, none⟩)] w fun e w' => ∃ A, e = .returned (.slice A bs.length bs.length) ∧ (Kd.int .u8).C w' A bs.length bs ∧ Fr no w w' := by
  refine (bytes_c B bs w _ h hl).mono ?_
  rintro e w' ⟨A, c, rfl, hR, hF⟩
  exact ⟨A, rfl, (Kd.R_reads' hR).2.2, hF⟩
end

/-! What is written is read again. -/
theorem un_enc (rest : List Int) : ∀ (m : Nat) (u : Int) (i : Nat) (v : Int), u.toNat = m → 0 ≤ u → (i = 0 ∨ 1 ≤ u) → v + u * 128 ^ i < 18446744073709551616 → 0 ≤ v → i ≤ 9 → un i v (enc u ++ rest) = (v + u * 128 ^ i, 0, i + (enc u).length) := by
  intro m
  induction m using Nat.strongRecOn with
  | _ m ih =>
    intro u i v hm h0 hi hb hv h9
    by_cases hu : u < 128
    · rw [enc_lt u hu]
      show un i v (u :: rest) = _
      rw [un, if_neg (by omega), if_neg, if_pos hu, Int.emod_eq_of_lt h0 hu]
      · simp
      · rintro (⟨h1, h2⟩ | ⟨h1, h2⟩)
        · subst h1
          simp at hb
          omega
        · omega
    · rw [enc_ge u (by omega)]
      have hp : (0 : Int) < 128 ^ i := Int.pow_pos (by decide)
      have h8 : i ≤ 8 := by
        rcases Nat.lt_or_ge i 9 with h | h
        · omega
        · obtain rfl : i = 9 := by omega
          simp at hb
          omega
      have e : v + (u % 128 + 128) % 128 * 128 ^ i + u / 128 * 128 ^ (i + 1) = v + u * 128 ^ i := by
        rw [show (u % 128 + 128) % 128 = u % 128 by omega, Int.pow_succ, Int.mul_comm (128 ^ i) 128, ← Int.mul_assoc, Int.add_assoc, ← Int.add_mul]
        rw [show u % 128 + u / 128 * 128 = u by omega]
      have hn : 0 ≤ (u % 128 + 128) % 128 * 128 ^ i := Int.mul_nonneg (by omega) (Int.le_of_lt hp)
      show un i v ((u % 128 + 128) :: (enc (u / 128) ++ rest)) = _
      rw [un, if_neg (by omega), if_neg (by omega), if_neg (by omega), ih (u / 128).toNat (by omega) (u / 128) (i + 1) _ rfl (by omega) (by omega) (by rw [e]; exact hb) (by omega) (by omega), e]
      simp
      omega
theorem dInt_enc (pre : List Int) (n : Int) (rest : List Int) (h1 : -9223372036854775808 ≤ n) (h2 : n ≤ 9223372036854775807) (a : Int) (ha : a = pre.length) : dInt (pre ++ (encI n ++ rest)) a = (n, a + (encI n).length, none) := by
  subst ha
  obtain ⟨z0, z1⟩ := zig_range n h1 h2
  unfold dInt
  rw [Int.toNat_natCast, List.drop_left, encI, un_enc rest _ (zig n) 0 0 rfl z0 (.inl rfl) (by omega) (by omega) (by omega)]
  simp [unzig_zig]
theorem dRaw_enc (pre : List Int) (p : List Int) (rest : List Int) (hp : p.length ≤ 9223372036854775807) (a : Int) (ha : a = pre.length) : dRaw (pre ++ (encR p ++ rest)) a = (p, a + (encR p).length, none) := by
  unfold dRaw
  rw [encR, List.append_assoc, dInt_enc pre p.length _ (by omega) (by omega) a ha]
  subst ha
  simp only [Option.isSome_none, List.length_append]
  rw [if_neg (by simp), if_neg (by omega), if_neg (by omega)]
  have e : ((pre.length : Int) + (encI p.length).length + p.length).toNat = (pre ++ encI p.length).length + p.length := by simp; omega
  have e2 : ((pre.length : Int) + (encI p.length).length).toNat = (pre ++ encI p.length).length := by simp; omega
  rw [e, e2, ← List.append_assoc, List.take_append, List.take_of_length_le (by omega), Nat.add_sub_cancel_left, List.drop_left, List.take_left]
  simp
  omega
theorem enc_bytes : ∀ (m : Nat) (u : Int), u.toNat = m → 0 ≤ u → ∀ x ∈ enc u, 0 ≤ x ∧ x < 256 := by
  intro m
  induction m using Nat.strongRecOn with
  | _ m ih =>
    intro u hm h0 x hx
    by_cases hu : u < 128
    · rw [enc_lt u hu] at hx
      simp at hx
      omega
    · rw [enc_ge u (by omega)] at hx
      rcases List.mem_cons.1 hx with rfl | hx
      · omega
      · exact ih (u / 128).toNat (by omega) _ rfl (by omega) x hx
theorem encI_bytes (n : Int) (h1 : -9223372036854775808 ≤ n) (h2 : n ≤ 9223372036854775807) : ∀ x ∈ encI n, 0 ≤ x ∧ x < 256 := enc_bytes _ _ rfl (zig_range n h1 h2).1
theorem encR_bytes (p : List Int) (hp : p.length ≤ 9223372036854775807) (hx : ∀ x ∈ p, 0 ≤ x ∧ x < 256) : ∀ x ∈ encR p, 0 ≤ x ∧ x < 256 := by
  intro x hm
  rcases List.mem_append.1 hm with h | h
  · exact encI_bytes _ (by omega) (by omega) x h
  · exact hx x h
end Go.Proofs.YtcbhddajkleleaaDoor.Codec
