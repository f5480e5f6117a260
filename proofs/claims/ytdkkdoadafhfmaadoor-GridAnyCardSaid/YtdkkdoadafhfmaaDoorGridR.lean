import Derived.Test.YtdkkdoadafhfmaaDoorGridQ
/-! The reference's functions of a grid, over tables that may be. -/
set_option linter.unusedVariables false
set_option linter.unusedSimpArgs false
namespace Go.Proofs.YtdkkdoadafhfmaaDoor.Grid
open Go.RowKit Go.Proofs.YtdkkdoadafhfmaaDoorW.PrintWords Go.Proofs.YtdkkdoadafhfmaaDoor.B Go.Proofs.YtdkkdoadafhfmaaDoor.PGridAny Go.Proofs.YtdkkdoadafhfmaaDoorW.PrintMore

theorem step6_l (t : List Step) (h8 : t.length ≤ 1000000) (q : Int) : ∀ (d i k : Nat), i + d = t.length → 1 ≤ i → d < k → straddleref6_step.l0 k (t.map toR) q i (stp t (curK t q i)).From (stp t (curK t q i)).By = some ((stp t (curI t q)).From, (stp t (curI t q)).By) := by
  intro d
  induction d with
  | zero =>
    intro i k hi h1 hk
    obtain ⟨k, rfl⟩ : ∃ m, k = m + 1 := ⟨k - 1, by omega⟩
    obtain rfl : i = t.length := by omega
    simp only [straddleref6_step.l0]
    rw [if_neg (by simp)]
    rfl
  | succ d ih =>
    intro i k hi h1 hk
    obtain ⟨k, rfl⟩ : ∃ m, k = m + 1 := ⟨k - 1, by omega⟩
    have nx := ih (i + 1) k (by omega) (by omega) (by omega)
    have e1 : wrap64 ((i : Int) + 1) = ((i + 1 : Nat) : Int) := w64 (by omega) (by omega)
    simp only [straddleref6_step.l0]
    rw [if_pos (by simp; omega), if_pos (by omega), rdR, e1]
    by_cases hc : (stp t i).From ≤ q
    · rw [if_pos (by simpa [toR] using hc)]
      have e2 : curK t q (i + 1) = i := by simp [curK, hc]
      rw [e2] at nx
      exact nx
    · rw [if_neg (by simpa [toR] using hc)]
      have e2 : curK t q (i + 1) = curK t q i := by simp [curK, hc]
      rw [e2] at nx
      exact nx
theorem step6 (t : List Step) (h : Wf t) (q : Int) (k : Nat) (hk : t.length ≤ k) : straddleref6_step.f k (t.map toR) q = some ((stp t (curI t q)).From, (stp t (curI t q)).By) := by
  have hp := h.pos
  have h8 := h.le
  unfold straddleref6_step.f
  rw [if_pos (by simp; omega), show (0 : Int) = ((0 : Nat) : Int) by rfl, rdR]
  have e : curK t q 1 = 0 := by simp [curK]
  have := step6_l t (by omega) q (t.length - 1) 1 k (by omega) (by omega) (by omega)
  rw [e] at this
  exact this
theorem near6 (t : List Step) (h : Wf t) (p : Int) (k : Nat) (hk : t.length ≤ k) (hp : -9223372036854775808 ≤ p) : straddleref6_Near.f k (t.map toR) p = some (nearF t p) := by
  unfold straddleref6_Near.f nearF
  by_cases h1 : p < 1
  · rw [if_pos h1, if_pos h1]
  · rw [if_neg h1, if_neg h1]
    have key : ∀ q : Int, 1 ≤ q → q ≤ 1000000 → ((some ((stp t (curI t q)).From, (stp t (curI t q)).By) : Option (Int × Int)).bind fun bt => (if bt.2 = 0 then (none) else (some (wrap64 (q - (Int.tmod (wrap64 (q - bt.1)) bt.2)))))) = some (q - (q - (stp t (curI t q)).From) % (stp t (curI t q)).By) := by
      intro q q1 q2
      obtain ⟨c1, c2, c3⟩ := h.cur q1
      have b := h.by_ _ c1
      have g := h.ge1 c1
      have m0 := Int.emod_nonneg (q - (stp t (curI t q)).From) (show (stp t (curI t q)).By ≠ 0 by omega)
      have m1 := emod_le_self (a := q - (stp t (curI t q)).From) (b := (stp t (curI t q)).By) (by omega) (by omega)
      simp only [Option.bind_some]
      rw [if_neg (by omega), w64 (n := q - (stp t (curI t q)).From) (by omega) (by omega), Int.tmod_eq_emod_of_nonneg (by omega), w64 (by omega) (by omega)]
    by_cases h2 : p > 1000000
    · rw [if_pos h2, step6 t h _ k hk, show min p 1000000 = 1000000 by omega]
      exact key 1000000 (by omega) (by omega)
    · rw [if_neg h2, step6 t h _ k hk, show min p 1000000 = p by omega]
      exact key p (by omega) (by omega)
theorem on6 (t : List Step) (h : Wf t) (p : Int) (k : Nat) (hk : t.length ≤ k) (hp : -9223372036854775808 ≤ p) : straddleref6_On.f k (t.map toR) p = some (onF t p) := by
  unfold straddleref6_On.f onF
  by_cases h1 : p ≥ 1
  · rw [if_pos h1]
    by_cases h2 : p ≤ 1000000
    · rw [if_pos h2, near6 t h p k hk hp]
      simp [h1]
    · rw [if_neg h2]
      have := h.near_bd (show 1 ≤ p by omega)
      have e : (nearF t p == p) = false := by simp; omega
      rw [e, Bool.and_false]
  · rw [if_neg h1]
    simp; omega
/-- How the document counts the prices of a step from lo to hi. -/
theorem endOf_min (t : List Step) (hi : Int) (hh : hi ≤ 1000000) (i : Nat) : endOf t hi i = min hi (if i + 1 < t.length then (stp t (i + 1)).From - 1 else 1000000) := by
  unfold endOf
  split <;> omega
theorem count6_l (t : List Step) (h : Wf t) (lo hi : Int) (hlo : 1 ≤ lo) (hle : lo ≤ hi) (hhi : hi ≤ 1000000) : ∀ (d i k : Nat), i + d = t.length → 3 * d < k →
    straddleref6_Count.l0 k (t.map toR) lo hi (countK t lo hi i) (i : Int) = some (countK t lo hi t.length) := by
  intro d
  induction d with
  | zero =>
    intro i k hi' hk
    obtain ⟨k, rfl⟩ : ∃ m, k = m + 1 := ⟨k - 1, by omega⟩
    obtain rfl : i = t.length := by omega
    simp only [straddleref6_Count.l0]
    rw [if_neg (by simp)]
  | succ d ih =>
    intro i k hi' hk
    obtain ⟨k, rfl⟩ : ∃ m, k = m + 1 + 1 + 1 := ⟨k - 3, by omega⟩
    have il : i < t.length := by omega
    have h8 := h.le
    have e1 : wrap64 ((i : Int) + 1) = ((i + 1 : Nat) : Int) := w64 (by omega) (by omega)
    have b1 := h.by_ i il
    have g1 := h.ge1 il
    have t1 := h.top i il
    have kb := countK_bd h hlo hhi i (by omega)
    have tb := term_bd h hlo hhi il
    have nx := ih (i + 1) k (by omega) (by omega)
    obtain ⟨L, hL⟩ : ∃ L, (if i + 1 < t.length then (stp t (i + 1)).From - 1 else 1000000) = L := ⟨_, rfl⟩
    have hLb : 0 ≤ L ∧ L ≤ 1000000 := by
      rw [← hL]
      split
      · rename_i hh
        have := h.ge1 hh
        have := h.top _ hh
        omega
      · omega
    have hEnd := endOf_min t hi hhi i
    rw [hL] at hEnd
    -- the last part of a round
    have j4 : ∀ a : Int, a = (stp t i).From + (max lo (stp t i).From - (stp t i).From + (stp t i).By - 1) / (stp t i).By * (stp t i).By →
        straddleref6_Count.j4 (k + 1) (t.map toR) lo hi (countK t lo hi i) i L a = some (countK t lo hi t.length) := by
      intro a ha
      obtain ⟨r1, r2, r3, r4⟩ := ref_term (B := (stp t i).By) (F := (stp t i).From) (m := max lo (stp t i).From) (E := endOf t hi i) b1.1 (by omega) _ rfl
      rw [← ha] at r1 r2 r4
      have hterm : countK t lo hi (i + 1) = countK t lo hi i + (if a ≤ endOf t hi i then (endOf t hi i - a) / (stp t i).By + 1 else 0) := by
        simp only [countK, term]
        rw [r4]
      have add1 : ∀ E : Int, E = endOf t hi i → a ≤ E → wrap64 (wrap64 (countK t lo hi i + wrap64 (Int.tdiv (wrap64 (E - a)) (toR (stp t i)).f1)) + 1) = countK t lo hi (i + 1) := by
        intro E hE haE
        have hE2 : E ≤ 1000000 := by rw [hE, hEnd]; omega
        have q := ediv_bd (a := E - a) (b := (stp t i).By) (by omega) b1.1
        rw [w64 (n := E - a) (by omega) (by omega), Int.tdiv_eq_ediv_of_nonneg (by omega)]
        have hb : (toR (stp t i)).f1 = (stp t i).By := rfl
        rw [hb, w64 (n := (E - a) / (stp t i).By) (by omega) (by omega), w64 (n := countK t lo hi i + (E - a) / (stp t i).By) (by omega) (by omega), w64 (by omega) (by omega)]
        rw [hterm, ← hE, if_pos haE]
        omega
      have none1 : ¬ a ≤ endOf t hi i → countK t lo hi i = countK t lo hi (i + 1) := fun hn => by rw [hterm, if_neg hn]; omega
      have hb0 : ¬ (rd_T138 (t.map toR) (i : Int)).f1 = 0 := by rw [rdR]; simp [toR]; omega
      simp only [straddleref6_Count.j4]
      by_cases hc : hi < L
      · rw [if_pos hc]
        have hE : hi = endOf t hi i := by rw [hEnd]; omega
        by_cases ha2 : a ≤ hi
        · rw [if_pos ha2, if_pos (by omega), if_pos (by simp; omega), if_neg hb0, rdR, add1 hi hE ha2, e1]
          exact nx
        · rw [if_neg ha2, e1, none1 (by rw [← hE]; exact ha2)]
          exact nx
      · rw [if_neg hc]
        have hE : L = endOf t hi i := by rw [hEnd]; omega
        by_cases ha2 : a ≤ L
        · rw [if_pos ha2, if_pos (by omega), if_pos (by simp; omega), if_neg hb0, rdR, add1 L hE ha2, e1]
          exact nx
        · rw [if_neg ha2, e1, none1 (by rw [← hE]; exact ha2)]
          exact nx
    have j3 : straddleref6_Count.j3 (k + 1 + 1) (t.map toR) lo hi (countK t lo hi i) i L = some (countK t lo hi t.length) := by
      simp only [straddleref6_Count.j3]
      rw [if_pos (by omega), if_pos (by simp; omega), rdR]
      have hf0 : (toR (stp t i)).f0 = (stp t i).From := rfl
      have hf1 : (toR (stp t i)).f1 = (stp t i).By := rfl
      rw [hf0, hf1]
      by_cases hgt : lo > (stp t i).From
      · rw [if_pos hgt, if_neg (by omega)]
        obtain ⟨r1, r2, r3, _⟩ := ref_term (B := (stp t i).By) (F := (stp t i).From) (m := lo) (E := 0) b1.1 (by omega) _ rfl
        have q := ediv_bd (a := lo - (stp t i).From + (stp t i).By - 1) (b := (stp t i).By) (by omega) b1.1
        refine j4 _ ?_
        rw [w64 (n := lo - (stp t i).From) (by omega) (by omega), w64 (n := lo - (stp t i).From + (stp t i).By) (by omega) (by omega), w64 (n := lo - (stp t i).From + (stp t i).By - 1) (by omega) (by omega), Int.tdiv_eq_ediv_of_nonneg (by omega)]
        rw [show max lo (stp t i).From = lo by omega]
        generalize (lo - (stp t i).From + (stp t i).By - 1) / (stp t i).By = c at *
        rw [w64 (n := c) (by omega) (by omega), w64 (n := c * (stp t i).By) (by omega) (by omega), w64 (by omega) (by omega)]
      · rw [if_neg hgt]
        refine j4 _ ?_
        rw [show max lo (stp t i).From = (stp t i).From by omega, show (stp t i).From - (stp t i).From + (stp t i).By - 1 = (stp t i).By - 1 by omega, Int.ediv_eq_zero_of_lt (by omega) (by omega)]
        omega
    unfold straddleref6_Count.l0
    rw [if_pos (by simp; omega), e1]
    by_cases hl : i + 1 < t.length
    · rw [if_pos hl] at hL
      have t2 := h.top (i + 1) hl
      have g2 := h.ge1 hl
      rw [if_pos (by simp; omega), if_pos (by omega), rdR]
      have hf0 : (toR (stp t (i + 1))).f0 = (stp t (i + 1)).From := rfl
      rw [hf0, w64 (by omega) (by omega), hL]
      exact j3
    · rw [if_neg hl] at hL
      rw [if_neg (by simp; omega), hL]
      exact j3
theorem countK_none {t : List Step} {lo hi : Int} (hle : hi < lo) : ∀ k, countK t lo hi k = 0
  | 0 => rfl
  | k + 1 => by
    rw [countK, countK_none hle k]
    unfold term
    rw [if_pos]
    · rfl
    · have : endOf t hi k ≤ hi := by unfold endOf; split <;> omega
      omega
theorem count6 (t : List Step) (h : Wf t) (lo hi : Int) (k : Nat) (hk : 3 * t.length + 2 < k) : straddleref6_Count.f k (t.map toR) lo hi = some (countF t lo hi) := by
  obtain ⟨k, rfl⟩ : ∃ m, k = m + 1 + 1 := ⟨k - 2, by omega⟩
  have j1 : ∀ a b : Int, a = max lo 1 → b = min hi 1000000 → straddleref6_Count.j1 (k + 1) (t.map toR) a b = some (countF t lo hi) := by
    intro a b ha hb
    simp only [straddleref6_Count.j1]
    unfold countF
    rw [← ha, ← hb]
    by_cases hab : a > b
    · rw [if_pos hab, countK_none (by omega)]
    · rw [if_neg hab]
      exact count6_l t h a b (by omega) (by omega) (by omega) t.length 0 k (by omega) (by omega)
  have j0 : ∀ a : Int, a = max lo 1 → straddleref6_Count.j0 (k + 1 + 1) (t.map toR) a hi = some (countF t lo hi) := by
    intro a ha
    simp only [straddleref6_Count.j0]
    by_cases hh : hi > 1000000
    · rw [if_pos hh]; exact j1 _ _ ha (by omega)
    · rw [if_neg hh]; exact j1 _ _ ha (by omega)
  unfold straddleref6_Count.f
  by_cases h1 : lo < 1
  · rw [if_pos h1]; exact j0 _ (by omega)
  · rw [if_neg h1]; exact j0 _ (by omega)
end Go.Proofs.YtdkkdoadafhfmaaDoor.Grid
