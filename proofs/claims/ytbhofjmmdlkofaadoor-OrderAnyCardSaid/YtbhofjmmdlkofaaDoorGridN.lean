import Derived.Test.YtbhofjmmdlkofaaDoorGridOf
/-! Contracts of package grid, over tables that may be. -/
set_option linter.unusedVariables false
set_option linter.unusedSimpArgs false
namespace Go.Proofs.YtbhofjmmdlkofaaDoor.Grid
open Go.RowKit Go.Proofs.YtbhofjmmdlkofaaDoorW.PrintWords Go.Proofs.YtbhofjmmdlkofaaDoor.B

/-- A table that may be. -/
structure Wf (t : List Step) : Prop where
  pos : 0 < t.length
  le : t.length ≤ 8
  first : (stp t 0).From = 1
  by_ : ∀ i, i < t.length → 1 ≤ (stp t i).By ∧ (stp t i).By ≤ 10000
  top : ∀ i, i < t.length → (stp t i).From ≤ 1000000
  inc : ∀ i, i + 1 < t.length → (stp t i).From < (stp t (i + 1)).From
  div : ∀ i, i + 1 < t.length → ((stp t (i + 1)).From - (stp t i).From) % (stp t i).By = 0
theorem Wf.mono {t : List Step} (h : Wf t) : ∀ {i j : Nat}, i < j → j < t.length → (stp t i).From < (stp t j).From := by
  intro i j hij
  induction j with
  | zero => omega
  | succ j ih =>
    intro hj
    have h1 := h.inc j hj
    rcases Nat.lt_or_ge i j with h2 | h2
    · have := ih h2 (by omega); omega
    · obtain rfl : i = j := by omega
      exact h1
theorem Wf.ge1 {t : List Step} (h : Wf t) {i : Nat} (hi : i < t.length) : 1 ≤ (stp t i).From := by
  have := h.first
  rcases Nat.eq_zero_or_pos i with rfl | h2
  · omega
  · have := h.mono h2 hi; omega

/-- The last of the first k steps that is not above q. -/
def curK (t : List Step) (q : Int) : Nat → Nat
  | 0 => 0
  | k + 1 => if (stp t k).From ≤ q then k else curK t q k
def curI (t : List Step) (q : Int) : Nat := curK t q t.length
theorem curK_spec {t : List Step} {q : Int} (h0 : (stp t 0).From ≤ q) : ∀ k, 0 < k → curK t q k < k ∧ (stp t (curK t q k)).From ≤ q ∧ ∀ j, curK t q k < j → j < k → q < (stp t j).From := by
  intro k
  induction k with
  | zero => omega
  | succ k ih =>
    intro _
    unfold curK
    by_cases hk : (stp t k).From ≤ q
    · rw [if_pos hk]
      exact ⟨by omega, hk, fun j h1 h2 => by omega⟩
    · rw [if_neg hk]
      rcases Nat.eq_zero_or_pos k with rfl | hp
      · exact absurd h0 hk
      · obtain ⟨h1, h2, h3⟩ := ih hp
        refine ⟨by omega, h2, fun j h4 h5 => ?_⟩
        rcases Nat.lt_or_ge j k with h6 | h6
        · exact h3 j h4 h6
        · obtain rfl : j = k := by omega
          omega
theorem Wf.cur {t : List Step} (h : Wf t) {q : Int} (hq : 1 ≤ q) : curI t q < t.length ∧ (stp t (curI t q)).From ≤ q ∧ ∀ j, curI t q < j → j < t.length → q < (stp t j).From := curK_spec (by rw [h.first]; exact hq) _ h.pos
theorem Wf.cur_eq {t : List Step} (h : Wf t) {q : Int} {k : Nat} (hk : k < t.length) (h1 : (stp t k).From ≤ q) (h2 : ∀ j, k < j → j < t.length → q < (stp t j).From) : curI t q = k := by
  have hq : 1 ≤ q := by have := h.ge1 hk; omega
  obtain ⟨a, b, c⟩ := h.cur hq
  rcases Nat.lt_trichotomy (curI t q) k with h3 | h3 | h3
  · have := c k h3 hk; omega
  · exact h3
  · have := h2 _ h3 a; omega
theorem Wf.of {t : List Step} (h : Wf t) {q r : Int} (hq : 1 ≤ q) (hr : IsOf t q r) : r = curI t q := by
  rcases hr with ⟨_, hn⟩ | ⟨k, hk, rfl, h1, h2⟩
  · have := hn 0 h.pos; rw [h.first] at this; omega
  · rw [h.cur_eq hk h1 h2]
theorem Wf.of0 {t : List Step} (h : Wf t) {q r : Int} (hq : q < 1) (hr : IsOf t q r) : r = -1 := by
  rcases hr with ⟨hr, _⟩ | ⟨k, hk, rfl, h1, h2⟩
  · exact hr
  · have := h.ge1 hk; omega

theorem emod_le_self {a b : Int} (ha : 0 ≤ a) (hb : 0 < b) : a % b ≤ a := by
  have h1 := Int.emod_add_mul_ediv a b
  have h2 := Int.mul_nonneg (Int.le_of_lt hb) (Int.ediv_nonneg ha (Int.le_of_lt hb))
  omega
def nearF (t : List Step) (p : Int) : Int := if p < 1 then 0 else min p 1000000 - (min p 1000000 - (stp t (curI t (min p 1000000))).From) % (stp t (curI t (min p 1000000))).By
def onF (t : List Step) (p : Int) : Bool := decide (1 ≤ p) && (nearF t p == p)
theorem Wf.near_bd {t : List Step} (h : Wf t) {p : Int} (hp : 1 ≤ p) : 1 ≤ nearF t p ∧ nearF t p ≤ p ∧ nearF t p ≤ 1000000 := by
  unfold nearF
  rw [if_neg (by omega)]
  have hq : 1 ≤ min p 1000000 := by omega
  obtain ⟨a, b, c⟩ := h.cur hq
  have h1 := h.ge1 a
  have h2 := h.by_ _ a
  have h3 := Int.emod_nonneg (min p 1000000 - (stp t (curI t (min p 1000000))).From) (show (stp t (curI t (min p 1000000))).By ≠ 0 by omega)
  have h4 := emod_le_self (a := min p 1000000 - (stp t (curI t (min p 1000000))).From) (b := (stp t (curI t (min p 1000000))).By) (by omega) (by omega)
  omega

set_option maxHeartbeats 1000000 in
theorem near_c (A : Option Addr) (cap : Nat) (t : List Step) (p : Int) (hw : Wf t) (w : World) (hC : kStep.C w A t.length t) :
    Calls Tryd.prog 52 #[.slice A t.length cap, .int .i64 p] w fun e W' => e = .returned (.int .i64 (nearF t p)) ∧ Fr no w W' := by
  have hT : t.length ≤ 1000000 := by have := hw.le; omega
  have hof := Lib.hid (fun (q : Int) => of_c A cap t q hT w hC)
  by_cases hp : p < 1
  · have hn : nearF t p = 0 := by unfold nearF; rw [if_pos hp]
    rw [hn]
    have hm : min p 1000000 = p := by omega
    go_enter Tryd.func52, Tryd.ntmps52
    go_wp2_with fail
    refine (hof.out _).mono ?_
    rintro e w1 ⟨r, rfl, hr, hf⟩
    go_wp2
    go_ret
    exact ⟨rfl, hf⟩
  · have hq0 : 1 ≤ min p 1000000 := by omega
    have hq1 : min p 1000000 ≤ 1000000 := by omega
    have hn : nearF t p = min p 1000000 - (min p 1000000 - (stp t (curI t (min p 1000000))).From) % (stp t (curI t (min p 1000000))).By := by unfold nearF; rw [if_neg hp]
    rw [hn]
    clear hn
    by_cases hpm : p ≤ 1000000
    · have hm : min p 1000000 = p := by omega
      rw [hm] at hq0 hq1 ⊢
      clear hm
      obtain ⟨k1, k2, k3⟩ := hw.cur hq0
      have k4 := hw.ge1 k1
      obtain ⟨k5, k6⟩ := hw.by_ _ k1
      have k7 := emod_le_self (a := p - (stp t (curI t p)).From) (b := (stp t (curI t p)).By) (by omega) (by omega)
      have k8 := Int.emod_nonneg (p - (stp t (curI t p)).From) (show (stp t (curI t p)).By ≠ 0 by omega)
      have k9 := hw.le
      clear k3
      go_enter Tryd.func52, Tryd.ntmps52
      go_wp2_with fail
      refine (hof.out _).mono ?_
      rintro e w1 ⟨r, rfl, hr, hf⟩
      obtain rfl := hw.of hq0 hr
      obtain ⟨ad, rfl, hc1, hc2⟩ := cell_of_C (C_fr hC hf) (curI t p) k1
      clear hr
      obtain ⟨s, hs⟩ : ∃ s, stp t (curI t p) = s := ⟨_, rfl⟩
      rw [hs] at k2 k4 k5 k6 k7 k8 hc1 hc2
      have HS := Lib.hid hs
      clear hs
      generalize curI t p = k at k1 k2 k7 k8 hc1 hc2 ⊢
      go_wp2
      go_quiet (fail)
      go_wp2
      go_ret
      exact ⟨by rw [HS.out]; rfl, hf.drewN _⟩
    · have hm : min p 1000000 = 1000000 := by omega
      rw [hm] at hq0 hq1 ⊢
      clear hm
      obtain ⟨k1, k2, k3⟩ := hw.cur hq0
      have k4 := hw.ge1 k1
      obtain ⟨k5, k6⟩ := hw.by_ _ k1
      have k7 := emod_le_self (a := 1000000 - (stp t (curI t 1000000)).From) (b := (stp t (curI t 1000000)).By) (by omega) (by omega)
      have k8 := Int.emod_nonneg (1000000 - (stp t (curI t 1000000)).From) (show (stp t (curI t 1000000)).By ≠ 0 by omega)
      have k9 := hw.le
      clear k3
      go_enter Tryd.func52, Tryd.ntmps52
      go_wp2_with fail
      refine (hof.out _).mono ?_
      rintro e w1 ⟨r, rfl, hr, hf⟩
      obtain rfl := hw.of hq0 hr
      obtain ⟨ad, rfl, hc1, hc2⟩ := cell_of_C (C_fr hC hf) (curI t 1000000) k1
      clear hr
      obtain ⟨s, hs⟩ : ∃ s, stp t (curI t 1000000) = s := ⟨_, rfl⟩
      rw [hs] at k2 k4 k5 k6 k7 k8 hc1 hc2
      have HS := Lib.hid hs
      clear hs
      generalize curI t 1000000 = k at k1 k2 k7 k8 hc1 hc2 ⊢
      go_wp2
      go_quiet (fail)
      go_wp2
      go_ret
      exact ⟨by rw [HS.out]; rfl, hf.drewN _⟩

theorem on_c (A : Option Addr) (cap : Nat) (t : List Step) (p : Int) (hw : Wf t) (w : World) (hC : kStep.C w A t.length t) :
    Calls Tryd.prog 49 #[.slice A t.length cap, .int .i64 p] w fun e W' => e = .returned (.bool (onF t p)) ∧ Fr no w W' := by
  have hnear := Lib.hid (near_c A cap t p hw w hC)
  by_cases hp : 1 ≤ p
  · have ho : onF t p = (nearF t p == p) := by simp [onF, hp]
    rw [ho]
    clear ho
    go_enter Tryd.func49, Tryd.ntmps49
    go_wp2_with (go_at_call 52; refine (hnear.out).mono ?_; rintro e w1 ⟨rfl, hf⟩)
    go_ret
    exact ⟨rfl, hf⟩
  · have ho : onF t p = false := by simp [onF, hp]
    rw [ho]
    have hd : decide (1 ≤ p) = false := by simp [hp]
    clear ho
    go_enter Tryd.func49, Tryd.ntmps49
    go_wp2
    go_ret
    exact ⟨rfl, Fr.refl _ _⟩
theorem onF_true {t : List Step} (hw : Wf t) {p : Int} (h : onF t p = true) : 1 ≤ p ∧ p ≤ 1000000 ∧ nearF t p = p := by
  simp [onF] at h
  have := hw.near_bd h.1
  omega
end Go.Proofs.YtbhofjmmdlkofaaDoor.Grid
