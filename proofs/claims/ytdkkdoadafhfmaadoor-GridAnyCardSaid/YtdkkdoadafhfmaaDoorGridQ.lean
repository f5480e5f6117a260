import Derived.Test.YtdkkdoadafhfmaaDoorGridK2
/-! Plain numbers: how the document counts the prices of a step. -/
set_option linter.unusedVariables false
set_option linter.unusedSimpArgs false
namespace Go.Proofs.YtdkkdoadafhfmaaDoor.Grid
open Go.RowKit Go.Proofs.YtdkkdoadafhfmaaDoorW.PrintWords Go.Proofs.YtdkkdoadafhfmaaDoor.B

/-- The first price from m on of the prices F, F + B, ..; how many lie up to E. -/
theorem ref_term {B F m E : Int} (hB : 1 ≤ B) (hm : F ≤ m) (c : Int) (hc : (m - F + B - 1) / B = c) :
    m ≤ F + c * B ∧ F + c * B ≤ m + B - 1 ∧ 0 ≤ c ∧ (if F + c * B ≤ E then (E - (F + c * B)) / B + 1 else 0) = (if E < m then 0 else (E - F) / B - c + 1) := by
  have h1 := Int.emod_add_mul_ediv (m - F + B - 1) B
  have h2 := Int.emod_nonneg (m - F + B - 1) (show B ≠ 0 by omega)
  have h3 := Int.emod_lt_of_pos (m - F + B - 1) (show 0 < B by omega)
  have h4 := Int.ediv_nonneg (show 0 ≤ m - F + B - 1 by omega) (show 0 ≤ B by omega)
  rw [hc] at h1 h4
  rw [Int.mul_comm] at h1
  have a1 : m ≤ F + c * B := by omega
  have a2 : F + c * B ≤ m + B - 1 := by omega
  refine ⟨a1, a2, h4, ?_⟩
  by_cases hE : E < m
  · rw [if_pos hE, if_neg (by omega)]
  · rw [if_neg hE]
    by_cases ha : F + c * B ≤ E
    · rw [if_pos ha]
      have e : E - (F + c * B) = (E - F) + (-c) * B := by rw [Int.neg_mul]; omega
      rw [e, Int.add_mul_ediv_right _ _ (by omega)]
      omega
    · rw [if_neg ha]
      have e : E - F = (E - F - (c - 1) * B) + (c - 1) * B := by omega
      have b : (c - 1) * B = c * B - B := by rw [Int.sub_mul, Int.one_mul]
      rw [e, Int.add_mul_ediv_right _ _ (by omega), Int.ediv_eq_zero_of_lt (by omega) (by omega)]
      omega

/-- What Check tells: the first step that may not be, and why. -/
def chkL (t : List Step) : Nat → Nat → Option (Nat × Int)
  | 0, _ => none
  | d + 1, i => if good1 t i then (if good2 t i then chkL t d (i + 1) else some (i, 2)) else some (i, 1)
def chk (t : List Step) : Option (Nat × Int) := if t.length = 0 ∨ 8 < t.length then some (min t.length 8, 1) else chkL t t.length 0
theorem chkL_spec (t : List Step) : ∀ (d i : Nat), i + d = t.length → Pre t i → (chkL t d i = none → Pre t t.length) ∧ ∀ n c, chkL t d i = some (n, c) → n < t.length ∧ (c = 1 ∨ c = 2)
  | 0, i, hi, hp => by
    obtain rfl : i = t.length := by omega
    exact ⟨fun _ => hp, fun n c h => by simp [chkL] at h⟩
  | d + 1, i, hi, hp => by
    unfold chkL
    by_cases h1 : good1 t i = true
    · rw [if_pos h1]
      by_cases h2 : good2 t i = true
      · rw [if_pos h2]
        exact chkL_spec t d (i + 1) (by omega) (hp.succ h1 h2)
      · rw [if_neg h2]
        exact ⟨(fun h => by cases h), (fun n c h => by injection h with h; injection h with h3 h4; omega)⟩
    · rw [if_neg h1]
      exact ⟨(fun h => by cases h), (fun n c h => by injection h with h; injection h with h3 h4; omega)⟩
theorem chk_wf {t : List Step} (h : chk t = none) : Wf t := by
  unfold chk at h
  by_cases hl : t.length = 0 ∨ 8 < t.length
  · rw [if_pos hl] at h; cases h
  · rw [if_neg hl] at h
    exact ((chkL_spec t _ 0 (by omega) (Pre.zero t)).1 h).wf (by omega) (by omega)
theorem chk_bad {t : List Step} {n : Nat} {c : Int} (h : chk t = some (n, c)) : n ≤ 8 ∧ (c = 1 ∨ c = 2) := by
  unfold chk at h
  by_cases hl : t.length = 0 ∨ 8 < t.length
  · rw [if_pos hl] at h
    injection h with h; injection h with h3 h4; omega
  · rw [if_neg hl] at h
    have := (chkL_spec t _ 0 (by omega) (Pre.zero t)).2 n c h
    omega
end Go.Proofs.YtdkkdoadafhfmaaDoor.Grid
