import Derived.Test.YtinkdgfdnagplaaDoorFrD
/-! Any piece of frames put one behind the other: whole frames, and a part of the next. -/
set_option linter.unusedVariables false
set_option linter.unusedSimpArgs false
namespace Go.Proofs.YtinkdgfdnagplaaDoor.Frame
open Go.RowKit Go.Proofs.YtinkdgfdnagplaaDoorW.PrintWords Go.Proofs.YtinkdgfdnagplaaDoor.B Go.Proofs.YtinkdgfdnagplaaDoor.Crc Go.Proofs.YtinkdgfdnagplaaDoor.Err

/-- The bytes of bodies' frames. -/
def frs (R : List (List Int)) : List Int := (R.map fr).flatten
theorem frs_cons (b : List Int) (R : List (List Int)) : frs (b :: R) = fr b ++ frs R := by simp [frs]
theorem frs_append (R Q : List (List Int)) : frs (R ++ Q) = frs R ++ frs Q := by simp [frs]
def OkB (R : List (List Int)) : Prop := ∀ b ∈ R, Bytes [b] ∧ b.length ≤ 1024
theorem pz_prefix : ∀ (R : List (List Int)) (y : List Int), OkB R → y <+: frs R → ∃ n r, n ≤ R.length ∧ Pz y (R.take n) r ∧ y = frs (R.take n) ++ r ∧ ∀ b R', R.drop n = b :: R' → r.length < b.length + 6 := by
  intro R
  induction R with
  | nil =>
    intro y _ hy
    have h0 : y = [] := by simpa [frs] using hy
    subst h0
    exact ⟨0, [], Nat.le_refl _, .short [] (by decide), rfl, fun b R' h => by simp at h⟩
  | cons b R ih =>
    intro y hok hy
    obtain ⟨hb, hbl⟩ := hok b (by simp)
    rw [frs_cons] at hy
    by_cases hl : y.length < b.length + 6
    · refine ⟨0, y, Nat.zero_le _, ?_, rfl, fun b' R' h => ?_⟩
      · rw [List.take_zero]
        by_cases h2 : y.length < 2
        · exact .short y h2
        · have hp : y <+: fr b := List.prefix_of_prefix_length_le hy (List.prefix_append _ _) (by rw [fr_len]; omega)
          obtain ⟨z, hz⟩ := hp
          have hy2 : y = hd2 b.length ++ y.drop 2 := by
            have e : (fr b).take 2 = hd2 b.length := rfl
            rw [← hz, List.take_append_of_le_length (by omega)] at e
            rw [← e, List.take_append_drop]
          rw [hy2]
          exact .part b.length (y.drop 2) hbl (by rw [List.length_drop]; omega)
      · rw [List.drop_zero] at h
        injection h with h1 _
        rw [← h1]; exact hl
    · have hp : fr b <+: y := List.prefix_of_prefix_length_le (List.prefix_append _ _) hy (by rw [fr_len]; omega)
      obtain ⟨z, rfl⟩ := hp
      have hz : z <+: frs R := by
        obtain ⟨t, ht⟩ := hy
        rw [List.append_assoc] at ht
        exact ⟨t, List.append_cancel_left ht⟩
      obtain ⟨n, r, h1, h2, h3, h4⟩ := ih z (fun c hc => hok c (by simp [hc])) hz
      refine ⟨n + 1, r, by simp; omega, ?_, ?_, fun b' R' h => h4 b' R' (by simpa using h)⟩
      · rw [List.take_succ_cons]
        exact .one b z _ r hb hbl h2
      · rw [List.take_succ_cons, frs_cons, List.append_assoc, ← h3]
/-- Bodies told so far, and what is held, when p bytes have been fed. -/
def Fed (R : List (List Int)) (p n : Nat) (r : List Int) : Prop := n ≤ R.length ∧ (frs R).take p = frs (R.take n) ++ r ∧ ∀ b R', R.drop n = b :: R' → r.length < b.length + 6
theorem fed_zero (R : List (List Int)) : Fed R 0 0 [] := ⟨Nat.zero_le _, by simp [frs], fun b R' _ => by simp⟩
/-- The next piece. -/
theorem fed_more {R : List (List Int)} {p n q : Nat} {r : List Int} (hok : OkB R) (h : Fed R p n r) (hq : p ≤ q) (hl : q ≤ (frs R).length) : ∃ m r', Pz (r ++ ((frs R).drop p).take (q - p)) ((R.drop n).take m) r' ∧ Fed R q (n + m) r' := by
  obtain ⟨h1, h2, h3⟩ := h
  have hsp : (frs R).take q = (frs R).take p ++ ((frs R).drop p).take (q - p) := by
    rw [← List.take_add, Nat.add_sub_cancel' hq]
  have hR : frs R = frs (R.take n) ++ frs (R.drop n) := by rw [← frs_append, List.take_append_drop]
  have hpre : r ++ ((frs R).drop p).take (q - p) <+: frs (R.drop n) := by
    have h5 : frs (R.take n) ++ (r ++ ((frs R).drop p).take (q - p)) <+: frs (R.take n) ++ frs (R.drop n) := by
      rw [← List.append_assoc, ← h2, ← hsp, ← hR]
      exact List.take_prefix _ _
    exact (List.prefix_append_right_inj _).1 h5
  obtain ⟨m, r', a1, a2, a3, a4⟩ := pz_prefix (R.drop n) _ (fun b hb => hok b (List.mem_of_mem_drop hb)) hpre
  rw [List.length_drop] at a1
  refine ⟨m, r', a2, by omega, ?_, fun b R' hd => a4 b R' (by rw [List.drop_drop]; exact hd)⟩
  rw [hsp, h2, List.append_assoc, a3, ← List.append_assoc, ← frs_append]
  congr 2
  rw [List.take_add]
/-- All has been fed. -/
theorem fed_all {R : List (List Int)} {n : Nat} {r : List Int} (h : Fed R (frs R).length n r) : n = R.length ∧ r = [] := by
  obtain ⟨h1, h2, h3⟩ := h
  have hR : frs R = frs (R.take n) ++ frs (R.drop n) := by rw [← frs_append, List.take_append_drop]
  rw [List.take_length, hR] at h2
  have h4 : frs (R.drop n) = r := List.append_cancel_left h2
  cases hd : R.drop n with
  | nil =>
    have hl := congrArg List.length hd
    rw [List.length_drop, List.length_nil] at hl
    rw [hd] at h4
    exact ⟨by omega, by rw [← h4]; rfl⟩
  | cons b R' =>
    have h5 := h3 b R' hd
    rw [hd, frs_cons] at h4
    rw [← h4, List.length_append, fr_len] at h5
    omega
end Go.Proofs.YtinkdgfdnagplaaDoor.Frame
