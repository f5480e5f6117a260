import Derived.Test.YtbeijddogfmnpaaGridK2
/-! GridCounts: counts add up. -/
set_option linter.unusedVariables false
set_option linter.unusedSimpArgs false
namespace Go.Proofs.Ytbeijddogfmnpaa.Grid
open Go.RowKit Go.Proofs.YtbeijddogfmnpaaW.PrintWords Go.Proofs.Ytbeijddogfmnpaa.B

/-- Where step i ends. -/
def lastOf (t : List Step) (i : Nat) : Int := if i + 1 < t.length then (stp t (i + 1)).From - 1 else 1000000
/-- How many prices of step i are not above x. -/
def cnt (t : List Step) (x : Int) (i : Nat) : Int := if x < (stp t i).From then 0 else (min x (lastOf t i) - (stp t i).From) / (stp t i).By + 1
theorem Wf.last {t : List Step} (h : Wf t) {i : Nat} (hi : i < t.length) : (stp t i).From ≤ lastOf t i ∧ lastOf t i ≤ 1000000 := by
  have h1 := h.top i hi
  unfold lastOf
  split
  · rename_i hl
    have := h.inc i hl
    have := h.top (i + 1) hl
    omega
  · omega
theorem endOf_eq (t : List Step) (hi : Int) (hh : hi ≤ 1000000) (i : Nat) : endOf t hi i = min hi (lastOf t i) := by
  unfold endOf lastOf
  split <;> omega
/-- A ceiling is one more than a floor below. -/
theorem ceil_floor {a b : Int} (hb : 1 ≤ b) : (a + b - 1) / b = (a - 1) / b + 1 := by
  rw [show a + b - 1 = (a - 1) + 1 * b by omega, Int.add_mul_ediv_right _ _ (by omega)]
theorem term_cnt {t : List Step} (h : Wf t) {lo hi : Int} (hlo : 1 ≤ lo) (hhi : hi ≤ 1000000) (hle : lo ≤ hi + 1) {i : Nat} (hi' : i < t.length) : term t lo hi i = cnt t hi i - cnt t (lo - 1) i := by
  have l1 := h.last hi'
  have b1 := h.by_ i hi'
  unfold term
  rw [endOf_eq t hi hhi]
  by_cases hc : min hi (lastOf t i) < max lo (stp t i).From
  · rw [if_pos hc]
    unfold cnt
    by_cases h1 : hi < (stp t i).From
    · rw [if_pos h1, if_pos (by omega)]; rfl
    · by_cases h2 : lo - 1 < (stp t i).From
      · omega
      · rw [if_neg h1, if_neg h2]
        have e : min hi (lastOf t i) = min (lo - 1) (lastOf t i) := by omega
        rw [e]; omega
  · rw [if_neg hc]
    unfold cnt
    rw [if_neg (by omega)]
    by_cases h2 : lo - 1 < (stp t i).From
    · have e0 : ((stp t i).By - 1) / (stp t i).By = 0 := Int.ediv_eq_zero_of_lt (by omega) (by omega)
      rw [if_pos h2, show max lo (stp t i).From - (stp t i).From + (stp t i).By - 1 = (stp t i).By - 1 by omega, e0]
      omega
    · rw [if_neg h2, show max lo (stp t i).From = lo by omega, show min (lo - 1) (lastOf t i) = lo - 1 by omega, ceil_floor b1.1, show lo - 1 - (stp t i).From = lo - (stp t i).From - 1 by omega]
      omega
def cntK (t : List Step) (x : Int) : Nat → Int
  | 0 => 0
  | k + 1 => cntK t x k + cnt t x k
theorem countK_cnt {t : List Step} (h : Wf t) {lo hi : Int} (hlo : 1 ≤ lo) (hhi : hi ≤ 1000000) (hle : lo ≤ hi + 1) : ∀ k, k ≤ t.length → countK t lo hi k = cntK t hi k - cntK t (lo - 1) k
  | 0, _ => rfl
  | k + 1, hk => by
    rw [countK, cntK, cntK, countK_cnt h hlo hhi hle k (by omega), term_cnt h hlo hhi hle (by omega)]
    omega
theorem countK_none {t : List Step} {lo hi : Int} (hle : hi < lo) (hhi : hi ≤ 1000000) : ∀ k, countK t lo hi k = 0
  | 0 => rfl
  | k + 1 => by
    rw [countK, countK_none hle hhi k]
    have : term t lo hi k = 0 := by
      unfold term
      rw [if_pos (by rw [endOf_eq t hi hhi]; omega)]
    omega
/-- How many prices are not above x. -/
def total (t : List Step) (x : Int) : Int := cntK t (min x 1000000) t.length
theorem cnt_neg {t : List Step} (h : Wf t) {x : Int} (hx : x < 1) {i : Nat} (hi : i < t.length) : cnt t x i = 0 := by
  have := h.ge1 hi
  unfold cnt
  rw [if_pos (by omega)]
theorem cntK_neg {t : List Step} (h : Wf t) {x : Int} (hx : x < 1) : ∀ k, k ≤ t.length → cntK t x k = 0
  | 0, _ => rfl
  | k + 1, hk => by rw [cntK, cntK_neg h hx k (by omega), cnt_neg h hx (by omega)]; rfl
theorem total_neg {t : List Step} (h : Wf t) {x : Int} (hx : x < 1) : total t x = 0 := cntK_neg h (by omega) _ (Nat.le_refl _)
theorem count_total {t : List Step} (h : Wf t) {lo hi : Int} (h0 : 0 ≤ lo) (hle : lo ≤ hi + 1) : countF t lo hi = total t hi - total t (lo - 1) := by
  unfold countF
  by_cases hb : lo ≤ 1000001
  · rcases (show hi < 1 ∨ 1 ≤ hi by omega) with h1 | h1
    · rw [total_neg h h1, total_neg h (by omega)]
      by_cases h2 : 1 ≤ lo
      · rw [countK_none (by omega) (by omega)]; rfl
      · rw [countK_none (by omega) (by omega)]; rfl
    · rw [countK_cnt h (by omega) (by omega) (by omega) _ (Nat.le_refl _)]
      show total t hi - cntK t (max lo 1 - 1) t.length = _
      rcases (show lo < 1 ∨ 1 ≤ lo by omega) with h2 | h2
      · rw [total_neg h (x := lo - 1) (by omega), cntK_neg h (by omega) _ (Nat.le_refl _)]
      · unfold total
        rw [show max lo 1 - 1 = min (lo - 1) 1000000 by omega]
  · rw [countK_none (by omega) (by omega)]
    unfold total
    rw [show min hi 1000000 = 1000000 by omega, show min (lo - 1) 1000000 = 1000000 by omega]
    omega
theorem cnt_mono {t : List Step} (h : Wf t) {x y : Int} (hxy : x ≤ y) {i : Nat} (hi : i < t.length) : cnt t x i ≤ cnt t y i := by
  have l1 := h.last hi
  have b1 := h.by_ i hi
  unfold cnt
  by_cases h1 : x < (stp t i).From
  · rw [if_pos h1]
    split
    · omega
    · have := (ediv_bd (a := min y (lastOf t i) - (stp t i).From) (b := (stp t i).By) (by omega) b1.1).1
      omega
  · rw [if_neg h1, if_neg (by omega)]
    have := Int.ediv_le_ediv (c := (stp t i).By) (by omega) (show min x (lastOf t i) - (stp t i).From ≤ min y (lastOf t i) - (stp t i).From by omega)
    omega
theorem cntK_mono {t : List Step} (h : Wf t) {x y : Int} (hxy : x ≤ y) : ∀ k, k ≤ t.length → cntK t x k ≤ cntK t y k
  | 0, _ => Int.le_refl _
  | k + 1, hk => by
    have h1 := cntK_mono h hxy k (by omega)
    have h2 := cnt_mono h hxy (i := k) (by omega)
    simp only [cntK]; omega
theorem total_mono {t : List Step} (h : Wf t) {x y : Int} (hxy : x ≤ y) : total t x ≤ total t y := cntK_mono h (by omega) _ (Nat.le_refl _)
theorem countF_bd {t : List Step} (h : Wf t) (lo hi : Int) : -16000000 ≤ countF t lo hi ∧ countF t lo hi ≤ 16000000 := by
  have := countK_bd h (lo := max lo 1) (hi := min hi 1000000) (by omega) (by omega) t.length (Nat.le_refl _)
  have := h.le
  unfold countF
  omega

/-- The guard of the grid's laws: the table in the reference's form, and whether it may be. -/
theorem guard_c (A : Option Addr) (cap : Nat) (t : List Step) (h8 : t.length ≤ 8) (hcap : t.length ≤ cap) (w w1 : World) (hC : kStep.C w A t.length t) (hf : Fr no w w1) :
    Calls Try.prog 27 #[.slice A t.length cap] w1 fun e w' => ∃ A' c', e = .returned (.slice A' t.length c') ∧ Fr no w w' ∧ Calls Try.prog 26 #[.slice A' t.length c'] w' fun e w2 => ∃ A2 n2 c2 r, e = .returned (.agg #[.slice A2 n2 c2, .int .i64 r]) ∧ (r = 0 → Wf t) ∧ Fr no w w2 := by
  refine (of6_c A cap t (by omega) hcap w1 (C_fr hC hf)).mono ?_
  rintro e w2 ⟨v, rfl, hR, hf2⟩
  obtain ⟨A', c', rfl, hl, hC2⟩ := Kd.R_reads hR
  rw [List.length_map] at hl
  refine ⟨A', c', by rw [List.length_map], hf.trans' hf2, (check6_c A' c' t h8 hl w2 hC2).mono ?_⟩
  rintro e w3 ⟨A2, n2, c2, r, h1, h2, h3⟩
  exact ⟨A2, n2, c2, r, h1, h2, (hf.trans' hf2).trans' h3⟩

theorem field_err (w : World) (A : Option Addr) (n c : Nat) (r : Int) : (Instr.field 49 (.agg #[.slice A n c, .int .i64 r]) 1).run Try.prog w = .ok (.int .i64 r) w := by kernel_rfl
attribute [local go_sem] field_err
set_option maxRecDepth 100000 in
set_option maxHeartbeats 4000000 in
theorem counts_c (w : World) (A : Option Addr) (cap : Nat) (t : List Step) (a b c : Int) (hC : kStep.C w A t.length t) (hcap : t.length ≤ cap) (ha : -9223372036854775808 ≤ a) (ha2 : a ≤ 9223372036854775807) :
    Calls Try.prog 7 #[.slice A t.length cap, .int .i64 a, .int .i64 b, .int .i64 c] w fun e w' => e = .returned (.bool true) ∧ Fr no w w' := by
  have hm := Kd.C_max hC
  by_cases h8 : 8 < t.length
  · go_enter Try.func7, Try.ntmps7
    go_wp2_with fail
    refine (known_c _).mono ?_
    rintro e w1 ⟨rfl, hf⟩
    go_wp2
    go_ret
    exact ⟨rfl, hf⟩
  go_enter Try.func7, Try.ntmps7
  go_wp2_with fail
  refine (known_c _).mono ?_
  rintro e w1 ⟨rfl, hf⟩
  go_wp2_with fail
  refine (guard_c A cap t (by omega) hcap w w1 hC hf).mono ?_
  rintro e w2 ⟨A', c', rfl, hf2, hck⟩
  clear hf
  have HK := Lib.hid hck
  clear hck
  go_wp2_with fail
  refine (HK.out).mono ?_
  rintro e w3 ⟨A2, n2, c2, r, rfl, hwf, hf⟩
  dsimp only
  clear hf2
  by_cases hr : r = 0
  · have hw := hwf hr
    subst hr
    clear hwf
    have hcnt := Lib.hid (fun (lo hi : Int) h1 h2 (W : World) h => count_c A cap t lo hi hw hcap h1 h2 W h)
    by_cases g1 : a < 0
    · go_wp2
      go_ret
      exact ⟨rfl, hf⟩
    by_cases g2 : b < a
    · go_wp2
      go_ret
      exact ⟨rfl, hf⟩
    by_cases g3 : c < b
    · go_wp2
      go_ret
      exact ⟨rfl, hf⟩
    by_cases g4 : 2000000 < c
    · go_wp2
      go_ret
      exact ⟨rfl, hf⟩
    have e1 := count_total hw (lo := a) (hi := c) (by omega) (by omega)
    have e2 := count_total hw (lo := a) (hi := b) (by omega) (by omega)
    have e3 := count_total hw (lo := b + 1) (hi := c) (by omega) (by omega)
    have e4 : countF t (c + 1) a = 0 := countK_none (by omega) (by omega) _
    have e5 := total_mono hw (x := a - 1) (y := c) (by omega)
    rw [show b + 1 - 1 = b by omega] at e3
    have b2 := countF_bd hw a b
    have b3 := countF_bd hw (b + 1) c
    have s1 : (countF t a c == countF t a b + countF t (b + 1) c) = true := by rw [e1, e2, e3]; simp; omega
    have s2 : decide (0 ≤ countF t a c) = true := by rw [e1]; simp; omega
    clear e1 e2 e3 e5
    obtain ⟨n0, hn0⟩ : ∃ n0, countF t a c = n0 := ⟨_, rfl⟩
    obtain ⟨n1, hn1⟩ : ∃ n1, countF t a b = n1 := ⟨_, rfl⟩
    obtain ⟨n2, hn2⟩ : ∃ n2, countF t (b + 1) c = n2 := ⟨_, rfl⟩
    rw [hn0, hn1, hn2] at s1
    rw [hn0] at s2
    rw [hn1] at b2
    rw [hn2] at b3
    replace hn0 := Lib.hid hn0
    replace hn1 := Lib.hid hn1
    replace hn2 := Lib.hid hn2
    replace e4 := Lib.hid e4
    go_wp2_with fail
    refine (hcnt.out a c ha2 (by omega) _ (C_fr hC hf)).mono ?_
    rintro e w4 ⟨rfl, hf1⟩
    rw [hn0.out]
    replace hf := hf.trans' hf1
    clear hf1
    go_wp2_with fail
    refine (hcnt.out a b ha2 (by omega) _ (C_fr hC hf)).mono ?_
    rintro e w5 ⟨rfl, hf1⟩
    rw [hn1.out]
    replace hf := hf.trans' hf1
    clear hf1
    go_wp2_with fail
    refine (hcnt.out (b + 1) c (by omega) (by omega) _ (C_fr hC hf)).mono ?_
    rintro e w6 ⟨rfl, hf1⟩
    rw [hn2.out]
    replace hf := hf.trans' hf1
    clear hf1
    go_wp2_with fail
    refine (hcnt.out (c + 1) a (by omega) (by omega) _ (C_fr hC hf)).mono ?_
    rintro e w7 ⟨rfl, hf1⟩
    rw [e4.out]
    replace hf := hf.trans' hf1
    clear hf1
    go_wp2
    go_ret
    exact ⟨rfl, hf⟩
  · have hr' : (r != 0) = true := by simp [hr]
    clear hwf
    go_wp2
    go_ret
    exact ⟨rfl, hf⟩

theorem counts_row (w : World) (A : Option Addr) (cap : Nat) (t : List Step) (a b c : Int) (hC : kStep.C w A t.length t) (hcap : t.length ≤ cap) (_ : ∀ x ∈ t, wfStep x) (ha : (Lit.int .i64 a).wf = true) (_ : (Lit.int .i64 b).wf = true) (_ : (Lit.int .i64 c).wf = true) :
    Calls Try.prog 7 #[.slice A t.length cap, .int .i64 a, .int .i64 b, .int .i64 c] w fun e w' => e = .returned (.bool true) ∧ Fr no w w' := counts_c w A cap t a b c hC hcap (bounds_i64 ha).1 (bounds_i64 ha).2
end Go.Proofs.Ytbeijddogfmnpaa.Grid
