import Derived.Test.YtdkkdoadafhfmaaDoorGrid
import Derived.Test.YtdkkdoadafhfmaaDoorPGridAnyy
import Derived.Test.YtdkkdoadafhfmaaDoorWMore
/-! What the printed functions of the grid's laws come to. -/
set_option linter.unusedVariables false
set_option linter.unusedSimpArgs false
namespace Go.Proofs.YtdkkdoadafhfmaaDoor.Grid
open Go.RowKit Go.Proofs.YtdkkdoadafhfmaaDoorW.PrintWords Go.Proofs.YtdkkdoadafhfmaaDoor.B Go.Proofs.YtdkkdoadafhfmaaDoor.PGridAny Go.Proofs.YtdkkdoadafhfmaaDoorW.PrintMore

abbrev PStep := S137
abbrev PRef := S138
def toP (x : Step) : PStep := ⟨x.From, x.By⟩
def toR (x : Step) : PRef := ⟨x.From, x.By⟩

theorem C_map {α β : Type} {d : Kd α} {d' : Kd β} (f : α → β) (hs : d.sz = d'.sz) (hk : ∀ w x c, d.K w x c → d'.K w (f x) c) {w : World} {A : Option Addr} {n : Nat} {xs : List α} (h : d.C w A n xs) : d'.C w A n (xs.map f) := by
  obtain ⟨h1, h2, h3⟩ := h
  refine ⟨by simpa using h1, h2, fun hn => ?_⟩
  obtain ⟨ad, e, hc⟩ := h3 hn
  refine ⟨ad, e, fun j p hj => ?_⟩
  obtain ⟨x, hx, rfl⟩ : ∃ x, xs[j]? = some x ∧ f x = p := by simpa using hj
  obtain ⟨c, c1, c2, c3⟩ := hc j x hx
  exact ⟨c, by rw [c1, hs], hk _ _ _ c2, by rw [← hs]; exact c3⟩
theorem toP_C {w : World} {A : Option Addr} {n : Nat} {t : List Step} (h : kStep.C w A n t) : k137.C w A n (t.map toP) := C_map toP rfl (fun _ _ _ h => h) h

theorem rdP (t : List Step) (i : Nat) : rd_T137 (t.map toP) (i : Int) = toP (stp t i) := by
  unfold rd_T137 stp
  rw [Int.toNat_natCast, List.getD_eq_getElem?_getD, List.getElem?_map]
  cases t[i]? <;> rfl
theorem rdR (t : List Step) (i : Nat) : rd_T138 (t.map toR) (i : Int) = toR (stp t i) := by
  unfold rd_T138 stp
  rw [Int.toNat_natCast, List.getD_eq_getElem?_getD, List.getElem?_map]
  cases t[i]? <;> rfl
theorem w64 {n : Int} (h1 : -9223372036854775808 ≤ n) (h2 : n ≤ 9223372036854775807) : wrap64 n = n := by unfold wrap64; omega

/-! ### straddlelaw6.Of -/
theorem of6_l (t : List Step) (ht : t.length ≤ 1000000) : ∀ (d i : Nat) (k : Nat), i + d = t.length → d < k → straddlelaw6_Of.l0 k (t.map toP) ((t.take i).map toR) i = some (t.map toR) := by
  intro d
  induction d with
  | zero =>
    intro i k hi hk
    obtain ⟨k, rfl⟩ : ∃ m, k = m + 1 := ⟨k - 1, by omega⟩
    simp only [straddlelaw6_Of.l0]
    rw [if_neg (by simp; omega), List.take_of_length_le (by omega)]
  | succ d ih =>
    intro i k hi hk
    obtain ⟨k, rfl⟩ : ∃ m, k = m + 1 := ⟨k - 1, by omega⟩
    simp only [straddlelaw6_Of.l0]
    rw [if_pos (by simp; omega), if_pos (by omega), if_pos (by simp; omega), rdP, w64 (by omega) (by omega)]
    have h1 : (t.take i).map toR ++ [(⟨(toP (stp t i)).f0, (toP (stp t i)).f1⟩ : PRef)] = (t.take (i + 1)).map toR := by
      rw [List.take_succ_eq_append_getElem (by omega), List.map_append]
      simp [toP, toR, stp, show i < t.length by omega]
    rw [h1]
    exact ih (i + 1) k (by omega) (by omega)
theorem of6_c (A : Option Addr) (cap : Nat) (t : List Step) (hT : t.length ≤ 1000000) (hcap : t.length ≤ cap) (w : World) (hC : kStep.C w A t.length t) :
    Calls Tryd.prog 36 #[.slice A t.length cap] w fun e w' => ∃ v, e = .returned v ∧ Kd.R k138 138 w' w.heap.size (fun _ => True) v (t.map toR) ∧ Fr no w w' := by
  have h := straddlelaw6_Of.calls (t.length + 1) A cap (t.map toP) (t.map toR) w (by rw [List.length_map]; exact toP_C hC) (by rw [List.length_map]; exact hcap) (of6_l t hT t.length 0 _ (by omega) (by omega))
  rw [List.length_map] at h
  exact h.mono fun e w' ⟨v, h1, h2, h3⟩ => ⟨v, h1, h2, Fr.of_below h3⟩

/-! ### straddleref6.Check -/
/-- The steps ahead of i may be. -/
structure Pre (t : List Step) (i : Nat) : Prop where
  first : 0 < i → (stp t 0).From = 1
  by_ : ∀ j, j < i → 1 ≤ (stp t j).By ∧ (stp t j).By ≤ 10000
  top : ∀ j, j < i → (stp t j).From ≤ 1000000
  inc : ∀ j, j + 1 < i → (stp t j).From < (stp t (j + 1)).From
  div : ∀ j, j + 1 < i → ((stp t (j + 1)).From - (stp t j).From) % (stp t j).By = 0
theorem Pre.ge1 {t : List Step} {i : Nat} (h : Pre t i) : ∀ {j : Nat}, j < i → 1 ≤ (stp t j).From := by
  intro j
  induction j with
  | zero => intro hj; rw [h.first hj]; omega
  | succ j ih => intro hj; have := ih (by omega); have := h.inc j hj; omega
theorem Pre.wf {t : List Step} (h : Pre t t.length) (h0 : 0 < t.length) (h8 : t.length ≤ 8) : Wf t := ⟨h0, h8, h.first h0, h.by_, h.top, h.inc, h.div⟩
theorem Pre.zero (t : List Step) : Pre t 0 := ⟨by omega, by omega, by omega, by omega, by omega⟩
/-- What is asked of step i. -/
def good1 (t : List Step) (i : Nat) : Bool := (if i = 0 then (stp t 0).From == 1 else decide ((stp t (i - 1)).From < (stp t i).From)) && decide ((stp t i).From ≤ 1000000) && decide (1 ≤ (stp t i).By) && decide ((stp t i).By ≤ 10000)
def good2 (t : List Step) (i : Nat) : Bool := i == 0 || ((stp t i).From - (stp t (i - 1)).From) % (stp t (i - 1)).By == 0
theorem Pre.succ {t : List Step} {i : Nat} (h : Pre t i) (h1 : good1 t i = true) (h2 : good2 t i = true) : Pre t (i + 1) := by
  simp [good1, good2] at h1 h2
  obtain ⟨⟨⟨a, b⟩, c⟩, d⟩ := h1
  refine ⟨fun _ => ?_, fun j hj => ?_, fun j hj => ?_, fun j hj => ?_, fun j hj => ?_⟩
  · rcases Nat.eq_zero_or_pos i with rfl | hp
    · simpa using a
    · exact h.first hp
  · rcases Nat.lt_or_ge j i with hl | hl
    · exact h.by_ j hl
    · obtain rfl : j = i := by omega
      exact ⟨c, d⟩
  · rcases Nat.lt_or_ge j i with hl | hl
    · exact h.top j hl
    · obtain rfl : j = i := by omega
      exact b
  · rcases Nat.lt_or_ge (j + 1) i with hl | hl
    · exact h.inc j hl
    · obtain rfl : i = j + 1 := by omega
      simpa using a
  · rcases Nat.lt_or_ge (j + 1) i with hl | hl
    · exact h.div j hl
    · obtain rfl : i = j + 1 := by omega
      rcases h2 with h2 | h2
      · omega
      · simpa using h2

theorem check6_j (t : List Step) (h8 : t.length ≤ 8) (i : Nat) (hi : i < t.length) (hp : Pre t i) (k : Nat)
    (next : good1 t i = true → good2 t i = true → ∃ r1 r2, straddleref6_Check.l0 k (t.map toR) ((i + 1 : Nat) : Int) = some (r1, r2) ∧ (r2 = 0 → Wf t)) :
    (good1 t i = false → ∃ r1 r2, straddleref6_Check.j1 (k + 1) (t.map toR) i true = some (r1, r2) ∧ (r2 = 0 → Wf t)) ∧
    (good1 t i = true → ∃ r1 r2, straddleref6_Check.j1 (k + 1) (t.map toR) i false = some (r1, r2) ∧ (r2 = 0 → Wf t)) := by
  constructor
  · intro hg
    simp only [straddleref6_Check.j1, if_true, straddleref4_At.f, Option.bind_some]
    exact ⟨_, _, rfl, fun h => by omega⟩
  · intro hg
    have e1 : wrap64 ((i : Int) + 1) = ((i + 1 : Nat) : Int) := w64 (by omega) (by omega)
    simp only [straddleref6_Check.j1]
    rw [if_neg (by simp)]
    rcases Nat.eq_zero_or_pos i with rfl | h0
    · rw [if_neg (by omega), e1]
      exact next hg (by simp [good2])
    · obtain ⟨m, rfl⟩ : ∃ m, i = m + 1 := ⟨i - 1, by omega⟩
      have e2 : wrap64 (((m + 1 : Nat) : Int) - 1) = (m : Int) := by rw [w64 (by omega) (by omega)]; omega
      have p1 := hp.by_ m (by omega)
      have p2 := hp.ge1 (j := m) (by omega)
      have p3 : (stp t (m + 1)).From ≤ 1000000 ∧ (stp t m).From < (stp t (m + 1)).From := by
        simp [good1] at hg
        omega
      rw [if_pos (by omega), if_pos (by omega), if_pos (by simp; omega), e2, if_pos (by omega), if_pos (by simp; omega)]
      rw [rdR, rdR]
      have e3 : wrap64 ((toR (stp t (m + 1))).f0 - (toR (stp t m)).f0) = (stp t (m + 1)).From - (stp t m).From := w64 (by simp [toR]; omega) (by simp [toR]; omega)
      rw [e3, Int.tmod_eq_emod_of_nonneg (by omega)]
      rw [if_neg (by simp [toR]; omega)]
      by_cases hd : ((stp t (m + 1)).From - (stp t m).From) % (stp t m).By = 0
      · rw [if_pos (by simpa [toR] using hd), e1]
        exact next hg (by simp [good2, hd])
      · rw [if_neg (by simpa [toR] using hd)]
        simp only [straddleref4_At.f, Option.bind_some]
        exact ⟨_, _, rfl, fun h => by omega⟩
theorem check6_l (t : List Step) (h0 : 0 < t.length) (h8 : t.length ≤ 8) : ∀ (d i : Nat) (k : Nat), i + d = t.length → Pre t i → 2 * d < k → ∃ r1 r2, straddleref6_Check.l0 k (t.map toR) (i : Int) = some (r1, r2) ∧ (r2 = 0 → Wf t) := by
  intro d
  induction d with
  | zero =>
    intro i k hi hp hk
    obtain ⟨k, rfl⟩ : ∃ m, k = m + 1 := ⟨k - 1, by omega⟩
    obtain rfl : i = t.length := by omega
    simp only [straddleref6_Check.l0]
    rw [if_neg (by simp)]
    exact ⟨_, _, rfl, fun _ => hp.wf h0 h8⟩
  | succ d ih =>
    intro i k hi hp hk
    obtain ⟨k, rfl⟩ : ∃ m, k = m + 1 + 1 := ⟨k - 2, by omega⟩
    obtain ⟨jt, jf⟩ := check6_j t h8 i (by omega) hp k (fun a b => ih (i + 1) k (by omega) (hp.succ a b) (by omega))
    unfold straddleref6_Check.l0
    rw [if_pos (by simp; omega)]
    rcases Nat.eq_zero_or_pos i with rfl | hpos
    · rw [if_pos (by omega), if_pos (by omega), rdR]
      by_cases c1 : (toR (stp t 0)).f0 = 1
      · rw [if_pos c1, if_neg (by omega)]
        by_cases c2 : (toR (stp t 0)).f0 > 1000000
        · rw [if_pos c2]; exact jt (by simp [good1]; simp [toR] at c1 c2; omega)
        · rw [if_neg c2]
          by_cases c3 : (toR (stp t 0)).f1 < 1
          · rw [if_pos c3]; exact jt (by simp [good1]; simp [toR] at c1 c2 c3; omega)
          · rw [if_neg c3]
            by_cases c4 : (toR (stp t 0)).f1 > 10000
            · rw [decide_eq_true c4]; exact jt (by simp [good1]; simp [toR] at c1 c2 c3 c4; omega)
            · rw [decide_eq_false c4]; exact jf (by simp [good1]; simp [toR] at c1 c2 c3 c4; omega)
      · rw [if_neg c1]; exact jt (by simp [good1]; simp [toR] at c1; omega)
    · obtain ⟨m, rfl⟩ : ∃ m, i = m + 1 := ⟨i - 1, by omega⟩
      have e2 : wrap64 (((m + 1 : Nat) : Int) - 1) = (m : Int) := by rw [w64 (by omega) (by omega)]; omega
      rw [if_neg (by omega), if_pos (by omega), if_pos (by omega), e2, if_pos (by omega), if_pos (by simp; omega), rdR, rdR]
      by_cases c1 : (toR (stp t (m + 1))).f0 ≤ (toR (stp t m)).f0
      · rw [if_pos c1]; exact jt (by simp [good1]; simp [toR] at c1; omega)
      · rw [if_neg c1]
        by_cases c2 : (toR (stp t (m + 1))).f0 > 1000000
        · rw [if_pos c2]; exact jt (by simp [good1]; simp [toR] at c1 c2; omega)
        · rw [if_neg c2]
          by_cases c3 : (toR (stp t (m + 1))).f1 < 1
          · rw [if_pos c3]; exact jt (by simp [good1]; simp [toR] at c1 c2 c3; omega)
          · rw [if_neg c3]
            by_cases c4 : (toR (stp t (m + 1))).f1 > 10000
            · rw [decide_eq_true c4]; exact jt (by simp [good1]; simp [toR] at c1 c2 c3 c4; omega)
            · rw [decide_eq_false c4]; exact jf (by simp [good1]; simp [toR] at c1 c2 c3 c4; omega)
theorem check6_c (A : Option Addr) (cap : Nat) (t : List Step) (h8 : t.length ≤ 8) (hcap : t.length ≤ cap) (w : World) (hC : Kd.C k138 w A (t.map toR).length (t.map toR)) :
    Calls Tryd.prog 37 #[.slice A t.length cap] w fun e w' => ∃ A' n' c' r, e = .returned (.agg #[.slice A' n' c', .int .i64 r]) ∧ (r = 0 → Wf t) ∧ Fr no w w' := by
  have key : ∃ k r1 r2, straddleref6_Check.f k (t.map toR) = some (r1, r2) ∧ (r2 = 0 → Wf t) := by
    unfold straddleref6_Check.f
    by_cases h0 : t.length = 0
    · refine ⟨0, ?_⟩
      rw [if_pos (by simpa using h0)]
      simp only [straddleref4_At.f, Option.bind_some]
      exact ⟨_, _, rfl, fun h => by omega⟩
    · refine ⟨2 * t.length + 1, ?_⟩
      rw [if_neg (by simpa using h0), if_neg (by simp; omega)]
      exact check6_l t (by omega) h8 t.length 0 _ (by omega) (Pre.zero t) (by omega)
  obtain ⟨k, r1, r2, h1, h2⟩ := key
  have h := straddleref6_Check.calls k A cap (t.map toR) r1 r2 w hC (by rw [List.length_map]; exact hcap) h1
  rw [List.length_map] at h
  exact h.mono fun e w' ⟨v, h3, hR, h4⟩ => by
    obtain ⟨A', c', rfl⟩ := Kd.R_slice hR
    exact ⟨A', _, c', r2, h3, h2, Fr.of_below h4⟩

/-! ### (grid.Table).Count -/
def endOf (t : List Step) (hi : Int) (i : Nat) : Int := if i + 1 < t.length then min hi ((stp t (i + 1)).From - 1) else hi
def term (t : List Step) (lo hi : Int) (i : Nat) : Int :=
  if endOf t hi i < max lo (stp t i).From then 0 else (endOf t hi i - (stp t i).From) / (stp t i).By - (max lo (stp t i).From - (stp t i).From + (stp t i).By - 1) / (stp t i).By + 1
def countK (t : List Step) (lo hi : Int) : Nat → Int
  | 0 => 0
  | k + 1 => countK t lo hi k + term t lo hi k
def countF (t : List Step) (lo hi : Int) : Int := countK t (max lo 1) (min hi 1000000) t.length
theorem ediv_bd {a b : Int} (ha : 0 ≤ a) (hb : 1 ≤ b) : 0 ≤ a / b ∧ a / b ≤ a := by
  refine ⟨Int.ediv_nonneg ha (by omega), ?_⟩
  exact Int.ediv_le_self b ha
theorem term_parts {t : List Step} (h : Wf t) {lo hi : Int} (hlo : 1 ≤ lo) (hhi : hi ≤ 1000000) {i : Nat} (hi' : i < t.length) (hc : ¬ endOf t hi i < max lo (stp t i).From) :
    0 ≤ endOf t hi i - (stp t i).From ∧ endOf t hi i - (stp t i).From ≤ 1000000 ∧ 0 ≤ max lo (stp t i).From - (stp t i).From + (stp t i).By - 1 ∧ max lo (stp t i).From - (stp t i).From + (stp t i).By - 1 ≤ 1010000 := by
  have h1 := h.ge1 hi'
  have h2 := h.by_ i hi'
  have h3 : endOf t hi i ≤ 1000000 := by unfold endOf; split <;> omega
  omega
theorem term_bd {t : List Step} (h : Wf t) {lo hi : Int} (hlo : 1 ≤ lo) (hhi : hi ≤ 1000000) {i : Nat} (hi' : i < t.length) : -2000000 ≤ term t lo hi i ∧ term t lo hi i ≤ 2000000 := by
  unfold term
  split
  · omega
  · rename_i hc
    obtain ⟨a, b, c, d⟩ := term_parts h hlo hhi hi' hc
    have h2 := h.by_ i hi'
    have e1 := ediv_bd a h2.1
    have e2 := ediv_bd c h2.1
    omega
theorem countK_bd {t : List Step} (h : Wf t) {lo hi : Int} (hlo : 1 ≤ lo) (hhi : hi ≤ 1000000) : ∀ k, k ≤ t.length → -2000000 * (k : Int) ≤ countK t lo hi k ∧ countK t lo hi k ≤ 2000000 * k
  | 0, _ => by simp [countK]
  | k + 1, hk => by
    have h1 := countK_bd h hlo hhi k (by omega)
    have h2 := term_bd h hlo hhi (i := k) (by omega)
    simp only [countK]
    omega
theorem mx_eq (a b : Int) : mx a b = max a b := by unfold mx; omega
theorem mn_eq (a b : Int) : mn a b = min a b := by unfold mn; omega
theorem count_l (t : List Step) (h : Wf t) (lo hi : Int) (hlo : 1 ≤ lo) (hhi : hi ≤ 1000000) (hhi2 : -9223372036854775808 ≤ hi) (hlo2 : lo ≤ 9223372036854775807) : ∀ (d i k : Nat), i + d = t.length → d < k →
    grid_Table_Count.l0 k (t.map toP) lo hi (countK t lo hi i) (t.map toP) (t.length : Int) (i : Int) = some (countK t lo hi t.length) := by
  intro d
  induction d with
  | zero =>
    intro i k hi' hk
    obtain ⟨k, rfl⟩ : ∃ m, k = m + 1 := ⟨k - 1, by omega⟩
    obtain rfl : i = t.length := by omega
    simp only [grid_Table_Count.l0]
    rw [if_neg (by omega)]
  | succ d ih =>
    intro i k hi' hk
    obtain ⟨k, rfl⟩ : ∃ m, k = m + 1 := ⟨k - 1, by omega⟩
    have il : i < t.length := by omega
    have h8 := h.le
    have e1 : wrap64 ((i : Int) + 1) = ((i + 1 : Nat) : Int) := w64 (by omega) (by omega)
    have b1 := h.by_ i il
    have g1 := h.ge1 il
    have t1 := h.top i il
    have kb := countK_bd h hlo hhi i (by omega)
    have tb := term_bd h hlo hhi il
    have nx := ih (i + 1) k (by omega) (by omega)
    simp only [grid_Table_Count.l0]
    rw [if_pos (by omega), if_pos (by omega), if_pos (by simpa using il), e1, rdP, rdP, mx_eq, mn_eq]
    have hterm0 : endOf t hi i < max lo (stp t i).From → countK t lo hi (i + 1) = countK t lo hi i := fun hc => by simp [countK, term, hc]
    have fin : ¬ endOf t hi i < max lo (stp t i).From → ∀ E, E = endOf t hi i → wrap64 (countK t lo hi i + wrap64 (wrap64 (wrap64 (Int.tdiv (wrap64 (E - (toP (stp t i)).f0)) (toP (stp t i)).f1) - wrap64 (Int.tdiv (wrap64 (wrap64 (wrap64 (max lo (toP (stp t i)).f0 - (toP (stp t i)).f0) + (toP (stp t i)).f1) - 1)) (toP (stp t i)).f1)) + 1)) = countK t lo hi (i + 1) := by
      intro hc E hE
      subst hE
      obtain ⟨a, b, c, d⟩ := term_parts h hlo hhi il hc
      have e3 := ediv_bd a b1.1
      have e4 := ediv_bd c b1.1
      have he1 : endOf t hi i ≤ 1000000 := by unfold endOf; split <;> omega
      have hmx : max lo (stp t i).From ≤ 1000000 := by omega
      simp only [toP]
      rw [w64 (n := endOf t hi i - (stp t i).From) (by omega) (by omega), w64 (n := max lo (stp t i).From - (stp t i).From) (by omega) (by omega), w64 (n := max lo (stp t i).From - (stp t i).From + (stp t i).By) (by omega) (by omega), w64 (n := max lo (stp t i).From - (stp t i).From + (stp t i).By - 1) (by omega) (by omega)]
      rw [Int.tdiv_eq_ediv_of_nonneg a, Int.tdiv_eq_ediv_of_nonneg c]
      have hk : countK t lo hi (i + 1) = countK t lo hi i + ((endOf t hi i - (stp t i).From) / (stp t i).By - (max lo (stp t i).From - (stp t i).From + (stp t i).By - 1) / (stp t i).By + 1) := by simp [countK, term, hc]
      rw [hk]
      generalize (endOf t hi i - (stp t i).From) / (stp t i).By = q1 at *
      generalize (max lo (stp t i).From - (stp t i).From + (stp t i).By - 1) / (stp t i).By = q2 at *
      rw [w64 (n := q1) (by omega) (by omega), w64 (n := q2) (by omega) (by omega), w64 (n := q1 - q2) (by omega) (by omega), w64 (n := q1 - q2 + 1) (by omega) (by omega), w64 (by omega) (by omega)]
    by_cases hl : i + 1 < t.length
    · have t2 := h.top (i + 1) hl
      have g2 := h.ge1 hl
      rw [if_pos (by simp; omega), if_pos (by omega)]
      have e5 : wrap64 ((toP (stp t (i + 1))).f0 - 1) = (stp t (i + 1)).From - 1 := w64 (by simp [toP]; omega) (by simp [toP]; omega)
      have e6 : endOf t hi i = min hi ((stp t (i + 1)).From - 1) := by simp [endOf, hl]
      rw [e5, if_neg (by simp [toP]; omega)]
      by_cases hc : endOf t hi i < max lo (stp t i).From
      · rw [if_pos (by rw [e6] at hc; simpa [toP] using hc), ← hterm0 hc]
        exact nx
      · rw [if_neg (by rw [e6] at hc; simpa [toP] using hc), if_neg (by simp [toP]; omega), fin hc _ e6.symm]
        exact nx
    · rw [if_neg (by simp; omega)]
      have e6 : endOf t hi i = hi := by simp [endOf, hl]
      rw [if_neg (by simp [toP]; omega)]
      by_cases hc : endOf t hi i < max lo (stp t i).From
      · rw [if_pos (by rw [e6] at hc; simpa [toP] using hc), ← hterm0 hc]
        exact nx
      · rw [if_neg (by rw [e6] at hc; simpa [toP] using hc), if_neg (by simp [toP]; omega), fin hc _ e6.symm]
        exact nx
theorem count_c (A : Option Addr) (cap : Nat) (t : List Step) (lo hi : Int) (hw : Wf t) (hcap : t.length ≤ cap) (hlo : lo ≤ 9223372036854775807) (hhi : -9223372036854775808 ≤ hi) (w : World) (hC : kStep.C w A t.length t) :
    Calls Tryd.prog 47 #[.slice A t.length cap, .int .i64 lo, .int .i64 hi] w fun e w' => e = .returned (.int .i64 (countF t lo hi)) ∧ Fr no w w' := by
  have h := grid_Table_Count.calls (t.length + 1) A cap (t.map toP) lo hi (countF t lo hi) w (by rw [List.length_map]; exact toP_C hC) (by rw [List.length_map]; exact hcap) (by
    unfold grid_Table_Count.f
    rw [mx_eq, mn_eq, List.length_map]
    exact count_l t hw (max lo 1) (min hi 1000000) (by omega) (by omega) (by omega) (by omega) t.length 0 _ (by omega) (by omega))
  rw [List.length_map] at h
  exact h.mono fun e w' ⟨h1, h3⟩ => ⟨h1, Fr.of_below h3⟩
end Go.Proofs.YtdkkdoadafhfmaaDoor.Grid
