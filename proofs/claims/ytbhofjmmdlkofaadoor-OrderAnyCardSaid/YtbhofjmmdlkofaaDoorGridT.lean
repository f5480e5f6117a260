import Derived.Test.YtbhofjmmdlkofaaDoorGridN
import Derived.Test.YtbhofjmmdlkofaaDoorWMore
import Derived.Test.YtbhofjmmdlkofaaDoorErrTells
import Derived.OpenShut
import Derived.Test.YtbhofjmmdlkofaaDoorPOrdC
import Derived.Test.YtbhofjmmdlkofaaDoorPOrdD
import Derived.Test.YtbhofjmmdlkofaaDoorPOrdE
import Derived.Test.YtbhofjmmdlkofaaDoorPOrderAnyx7
/-! Contracts of package grid, over tables that may be: the next ones, how many. -/
set_option linter.unusedVariables false
set_option linter.unusedSimpArgs false
namespace Go.Proofs.YtbhofjmmdlkofaaDoor.Grid
open Go.RowKit Go.Proofs.YtbhofjmmdlkofaaDoorW.PrintWords Go.Proofs.YtbhofjmmdlkofaaDoor.B

def upF (t : List Step) (p : Int) : Int × Bool := if onF t p then (if 1000000 < p + (stp t (curI t p)).By then (0, false) else (p + (stp t (curI t p)).By, true)) else (0, false)
def downF (t : List Step) (p : Int) : Int × Bool := if onF t p && !(p == 1) then (nearF t (p - 1), true) else (0, false)
end Go.Proofs.YtbhofjmmdlkofaaDoor.Grid

/-! What the printed functions of the grid's laws come to. -/
set_option linter.unusedVariables false
set_option linter.unusedSimpArgs false
namespace Go.Proofs.YtbhofjmmdlkofaaDoor.Grid
open Go.RowKit Go.Proofs.YtbhofjmmdlkofaaDoorW.PrintWords Go.Proofs.YtbhofjmmdlkofaaDoor.B Go.Proofs.YtbhofjmmdlkofaaDoor.POrderAny Go.Proofs.YtbhofjmmdlkofaaDoorW.PrintMore

abbrev PStep := S47
abbrev PRef := S50
def toP (x : Step) : PStep := ⟨x.From, x.By⟩
def toR (x : Step) : PRef := ⟨x.From, x.By⟩

theorem C_map {α β : Type} {d : Kd α} {d' : Kd β} (f : α → β) (hs : d.sz = d'.sz) (hk : ∀ w x c, d.K w x c → d'.K w (f x) c) {w : World} {A : Option Addr} {n : Nat} {xs : List α} (h : d.C w A n xs) : d'.C w A n (xs.map f) := by
  obtain ⟨h1, h2, h3⟩ := h
  refine ⟨by simpa using h1, h2, fun hn => ?_⟩
  obtain ⟨ad, e, hc⟩ := h3 hn
  refine ⟨ad, e, fun j p hj => ?_⟩
  obtain ⟨x, hx, rfl⟩ : ∃ x, xs[j]? = some x ∧ f x = p := by simpa using hj
  obtain ⟨c, c1, c2, c3⟩ := hc j x hx
  exact ⟨c, by rw [c1, hs], hk _ _ _ c2, by rw [← hs]; exact c3⟩
theorem toP_C {w : World} {A : Option Addr} {n : Nat} {t : List Step} (h : kStep.C w A n t) : k47.C w A n (t.map toP) := C_map toP rfl (fun _ _ _ h => h) h

theorem rdP (t : List Step) (i : Nat) : rd_T47 (t.map toP) (i : Int) = toP (stp t i) := by
  unfold rd_T47 stp
  rw [Int.toNat_natCast, List.getD_eq_getElem?_getD, List.getElem?_map]
  cases t[i]? <;> rfl
theorem rdR (t : List Step) (i : Nat) : rd_T50 (t.map toR) (i : Int) = toR (stp t i) := by
  unfold rd_T50 stp
  rw [Int.toNat_natCast, List.getD_eq_getElem?_getD, List.getElem?_map]
  cases t[i]? <;> rfl
theorem w64 {n : Int} (h1 : -9223372036854775808 ≤ n) (h2 : n ≤ 9223372036854775807) : wrap64 n = n := by unfold wrap64; omega

/-! ### straddlelaw6.Of -/
theorem of6_l (t : List Step) (ht : t.length ≤ 1000000) : ∀ (d i : Nat) (k : Nat), i + d = t.length → d < k → straddlelaw6_Of.l0 k (t.map toP) ((t.take i).map toR) i = some (t.map toR) := by
  intro d
  induction d with
  | zero =>
    intro i k hi hk
    obtain ⟨k, rfl⟩ : ∃ m, k = m + 1 := ⟨k - 1, by omega⟩
    simp only [straddlelaw6_Of.l0]
    rw [if_neg (by simp; omega), List.take_of_length_le (by omega)]
  | succ d ih =>
    intro i k hi hk
    obtain ⟨k, rfl⟩ : ∃ m, k = m + 1 := ⟨k - 1, by omega⟩
    simp only [straddlelaw6_Of.l0]
    rw [if_pos (by simp; omega), if_pos (by omega), if_pos (by simp; omega), rdP, w64 (by omega) (by omega)]
    have h1 : (t.take i).map toR ++ [(⟨(toP (stp t i)).f0, (toP (stp t i)).f1⟩ : PRef)] = (t.take (i + 1)).map toR := by
      rw [List.take_succ_eq_append_getElem (by omega), List.map_append]
      simp [toP, toR, stp, show i < t.length by omega]
    rw [h1]
    exact ih (i + 1) k (by omega) (by omega)
theorem of6_c (A : Option Addr) (cap : Nat) (t : List Step) (hT : t.length ≤ 1000000) (hcap : t.length ≤ cap) (w : World) (hC : kStep.C w A t.length t) :
    Calls Tryd.prog 6 #[.slice A t.length cap] w fun e w' => ∃ v, e = .returned v ∧ Kd.R k50 50 w' w.heap.size (fun _ => True) v (t.map toR) ∧ Fr no w w' := by
  have h := straddlelaw6_Of.calls (t.length + 1) A cap (t.map toP) (t.map toR) w (by rw [List.length_map]; exact toP_C hC) (by rw [List.length_map]; exact hcap) (of6_l t hT t.length 0 _ (by omega) (by omega))
  rw [List.length_map] at h
  exact h.mono fun e w' ⟨v, h1, h2, h3⟩ => ⟨v, h1, h2, Fr.of_below h3⟩

/-! ### straddleref6.Check -/
/-- The steps ahead of i may be. -/
structure Pre (t : List Step) (i : Nat) : Prop where
  first : 0 < i → (stp t 0).From = 1
  by_ : ∀ j, j < i → 1 ≤ (stp t j).By ∧ (stp t j).By ≤ 10000
  top : ∀ j, j < i → (stp t j).From ≤ 1000000
  inc : ∀ j, j + 1 < i → (stp t j).From < (stp t (j + 1)).From
  div : ∀ j, j + 1 < i → ((stp t (j + 1)).From - (stp t j).From) % (stp t j).By = 0
theorem Pre.ge1 {t : List Step} {i : Nat} (h : Pre t i) : ∀ {j : Nat}, j < i → 1 ≤ (stp t j).From := by
  intro j
  induction j with
  | zero => intro hj; rw [h.first hj]; omega
  | succ j ih => intro hj; have := ih (by omega); have := h.inc j hj; omega
theorem Pre.wf {t : List Step} (h : Pre t t.length) (h0 : 0 < t.length) (h8 : t.length ≤ 8) : Wf t := ⟨h0, h8, h.first h0, h.by_, h.top, h.inc, h.div⟩
theorem Pre.zero (t : List Step) : Pre t 0 := ⟨by omega, by omega, by omega, by omega, by omega⟩
/-- What is asked of step i. -/
def good1 (t : List Step) (i : Nat) : Bool := (if i = 0 then (stp t 0).From == 1 else decide ((stp t (i - 1)).From < (stp t i).From)) && decide ((stp t i).From ≤ 1000000) && decide (1 ≤ (stp t i).By) && decide ((stp t i).By ≤ 10000)
def good2 (t : List Step) (i : Nat) : Bool := i == 0 || ((stp t i).From - (stp t (i - 1)).From) % (stp t (i - 1)).By == 0
theorem Pre.succ {t : List Step} {i : Nat} (h : Pre t i) (h1 : good1 t i = true) (h2 : good2 t i = true) : Pre t (i + 1) := by
  simp [good1, good2] at h1 h2
  obtain ⟨⟨⟨a, b⟩, c⟩, d⟩ := h1
  refine ⟨fun _ => ?_, fun j hj => ?_, fun j hj => ?_, fun j hj => ?_, fun j hj => ?_⟩
  · rcases Nat.eq_zero_or_pos i with rfl | hp
    · simpa using a
    · exact h.first hp
  · rcases Nat.lt_or_ge j i with hl | hl
    · exact h.by_ j hl
    · obtain rfl : j = i := by omega
      exact ⟨c, d⟩
  · rcases Nat.lt_or_ge j i with hl | hl
    · exact h.top j hl
    · obtain rfl : j = i := by omega
      exact b
  · rcases Nat.lt_or_ge (j + 1) i with hl | hl
    · exact h.inc j hl
    · obtain rfl : i = j + 1 := by omega
      simpa using a
  · rcases Nat.lt_or_ge (j + 1) i with hl | hl
    · exact h.div j hl
    · obtain rfl : i = j + 1 := by omega
      rcases h2 with h2 | h2
      · omega
      · simpa using h2

theorem check6_j (t : List Step) (h8 : t.length ≤ 8) (i : Nat) (hi : i < t.length) (hp : Pre t i) (k : Nat)
    (next : good1 t i = true → good2 t i = true → ∃ r1 r2, straddleref6_Check.l0 k (t.map toR) ((i + 1 : Nat) : Int) = some (r1, r2) ∧ (r2 = 0 → Wf t)) :
    (good1 t i = false → ∃ r1 r2, straddleref6_Check.j1 (k + 1) (t.map toR) i true = some (r1, r2) ∧ (r2 = 0 → Wf t)) ∧
    (good1 t i = true → ∃ r1 r2, straddleref6_Check.j1 (k + 1) (t.map toR) i false = some (r1, r2) ∧ (r2 = 0 → Wf t)) := by
  constructor
  · intro hg
    simp only [straddleref6_Check.j1, if_true, straddleref4_At.f, Option.bind_some]
    exact ⟨_, _, rfl, fun h => by omega⟩
  · intro hg
    have e1 : wrap64 ((i : Int) + 1) = ((i + 1 : Nat) : Int) := w64 (by omega) (by omega)
    simp only [straddleref6_Check.j1]
    rw [if_neg (by simp)]
    rcases Nat.eq_zero_or_pos i with rfl | h0
    · rw [if_neg (by omega), e1]
      exact next hg (by simp [good2])
    · obtain ⟨m, rfl⟩ : ∃ m, i = m + 1 := ⟨i - 1, by omega⟩
      have e2 : wrap64 (((m + 1 : Nat) : Int) - 1) = (m : Int) := by rw [w64 (by omega) (by omega)]; omega
      have p1 := hp.by_ m (by omega)
      have p2 := hp.ge1 (j := m) (by omega)
      have p3 : (stp t (m + 1)).From ≤ 1000000 ∧ (stp t m).From < (stp t (m + 1)).From := by
        simp [good1] at hg
        omega
      rw [if_pos (by omega), if_pos (by omega), if_pos (by simp; omega), e2, if_pos (by omega), if_pos (by simp; omega)]
      rw [rdR, rdR]
      have e3 : wrap64 ((toR (stp t (m + 1))).f0 - (toR (stp t m)).f0) = (stp t (m + 1)).From - (stp t m).From := w64 (by simp [toR]; omega) (by simp [toR]; omega)
      rw [e3, Int.tmod_eq_emod_of_nonneg (by omega)]
      rw [if_neg (by simp [toR]; omega)]
      by_cases hd : ((stp t (m + 1)).From - (stp t m).From) % (stp t m).By = 0
      · rw [if_pos (by simpa [toR] using hd), e1]
        exact next hg (by simp [good2, hd])
      · rw [if_neg (by simpa [toR] using hd)]
        simp only [straddleref4_At.f, Option.bind_some]
        exact ⟨_, _, rfl, fun h => by omega⟩
theorem check6_l (t : List Step) (h0 : 0 < t.length) (h8 : t.length ≤ 8) : ∀ (d i : Nat) (k : Nat), i + d = t.length → Pre t i → 2 * d < k → ∃ r1 r2, straddleref6_Check.l0 k (t.map toR) (i : Int) = some (r1, r2) ∧ (r2 = 0 → Wf t) := by
  intro d
  induction d with
  | zero =>
    intro i k hi hp hk
    obtain ⟨k, rfl⟩ : ∃ m, k = m + 1 := ⟨k - 1, by omega⟩
    obtain rfl : i = t.length := by omega
    simp only [straddleref6_Check.l0]
    rw [if_neg (by simp)]
    exact ⟨_, _, rfl, fun _ => hp.wf h0 h8⟩
  | succ d ih =>
    intro i k hi hp hk
    obtain ⟨k, rfl⟩ : ∃ m, k = m + 1 + 1 := ⟨k - 2, by omega⟩
    obtain ⟨jt, jf⟩ := check6_j t h8 i (by omega) hp k (fun a b => ih (i + 1) k (by omega) (hp.succ a b) (by omega))
    unfold straddleref6_Check.l0
    rw [if_pos (by simp; omega)]
    rcases Nat.eq_zero_or_pos i with rfl | hpos
    · rw [if_pos (by omega), if_pos (by omega), rdR]
      by_cases c1 : (toR (stp t 0)).f0 = 1
      · rw [if_pos c1, if_neg (by omega)]
        by_cases c2 : (toR (stp t 0)).f0 > 1000000
        · rw [if_pos c2]; exact jt (by simp [good1]; simp [toR] at c1 c2; omega)
        · rw [if_neg c2]
          by_cases c3 : (toR (stp t 0)).f1 < 1
          · rw [if_pos c3]; exact jt (by simp [good1]; simp [toR] at c1 c2 c3; omega)
          · rw [if_neg c3]
            by_cases c4 : (toR (stp t 0)).f1 > 10000
            · rw [decide_eq_true c4]; exact jt (by simp [good1]; simp [toR] at c1 c2 c3 c4; omega)
            · rw [decide_eq_false c4]; exact jf (by simp [good1]; simp [toR] at c1 c2 c3 c4; omega)
      · rw [if_neg c1]; exact jt (by simp [good1]; simp [toR] at c1; omega)
    · obtain ⟨m, rfl⟩ : ∃ m, i = m + 1 := ⟨i - 1, by omega⟩
      have e2 : wrap64 (((m + 1 : Nat) : Int) - 1) = (m : Int) := by rw [w64 (by omega) (by omega)]; omega
      rw [if_neg (by omega), if_pos (by omega), if_pos (by omega), e2, if_pos (by omega), if_pos (by simp; omega), rdR, rdR]
      by_cases c1 : (toR (stp t (m + 1))).f0 ≤ (toR (stp t m)).f0
      · rw [if_pos c1]; exact jt (by simp [good1]; simp [toR] at c1; omega)
      · rw [if_neg c1]
        by_cases c2 : (toR (stp t (m + 1))).f0 > 1000000
        · rw [if_pos c2]; exact jt (by simp [good1]; simp [toR] at c1 c2; omega)
        · rw [if_neg c2]
          by_cases c3 : (toR (stp t (m + 1))).f1 < 1
          · rw [if_pos c3]; exact jt (by simp [good1]; simp [toR] at c1 c2 c3; omega)
          · rw [if_neg c3]
            by_cases c4 : (toR (stp t (m + 1))).f1 > 10000
            · rw [decide_eq_true c4]; exact jt (by simp [good1]; simp [toR] at c1 c2 c3 c4; omega)
            · rw [decide_eq_false c4]; exact jf (by simp [good1]; simp [toR] at c1 c2 c3 c4; omega)
theorem check6_c (A : Option Addr) (cap : Nat) (t : List Step) (h8 : t.length ≤ 8) (hcap : t.length ≤ cap) (w : World) (hC : Kd.C k50 w A (t.map toR).length (t.map toR)) :
    Calls Tryd.prog 5 #[.slice A t.length cap] w fun e w' => ∃ A' n' c' r, e = .returned (.agg #[.slice A' n' c', .int .i64 r]) ∧ (r = 0 → Wf t) ∧ Fr no w w' := by
  have key : ∃ k r1 r2, straddleref6_Check.f k (t.map toR) = some (r1, r2) ∧ (r2 = 0 → Wf t) := by
    unfold straddleref6_Check.f
    by_cases h0 : t.length = 0
    · refine ⟨0, ?_⟩
      rw [if_pos (by simpa using h0)]
      simp only [straddleref4_At.f, Option.bind_some]
      exact ⟨_, _, rfl, fun h => by omega⟩
    · refine ⟨2 * t.length + 1, ?_⟩
      rw [if_neg (by simpa using h0), if_neg (by simp; omega)]
      exact check6_l t (by omega) h8 t.length 0 _ (by omega) (Pre.zero t) (by omega)
  obtain ⟨k, r1, r2, h1, h2⟩ := key
  have h := straddleref6_Check.calls k A cap (t.map toR) r1 r2 w hC (by rw [List.length_map]; exact hcap) h1
  rw [List.length_map] at h
  exact h.mono fun e w' ⟨v, h3, hR, h4⟩ => by
    obtain ⟨A', c', rfl⟩ := Kd.R_slice hR
    exact ⟨A', _, c', r2, h3, h2, Fr.of_below h4⟩

/-! ### (grid.Table).Count -/
def endOf (t : List Step) (hi : Int) (i : Nat) : Int := if i + 1 < t.length then min hi ((stp t (i + 1)).From - 1) else hi
def term (t : List Step) (lo hi : Int) (i : Nat) : Int :=
  if endOf t hi i < max lo (stp t i).From then 0 else (endOf t hi i - (stp t i).From) / (stp t i).By - (max lo (stp t i).From - (stp t i).From + (stp t i).By - 1) / (stp t i).By + 1
def countK (t : List Step) (lo hi : Int) : Nat → Int
  | 0 => 0
  | k + 1 => countK t lo hi k + term t lo hi k
def countF (t : List Step) (lo hi : Int) : Int := countK t (max lo 1) (min hi 1000000) t.length
theorem ediv_bd {a b : Int} (ha : 0 ≤ a) (hb : 1 ≤ b) : 0 ≤ a / b ∧ a / b ≤ a := by
  refine ⟨Int.ediv_nonneg ha (by omega), ?_⟩
  exact Int.ediv_le_self b ha
theorem term_parts {t : List Step} (h : Wf t) {lo hi : Int} (hlo : 1 ≤ lo) (hhi : hi ≤ 1000000) {i : Nat} (hi' : i < t.length) (hc : ¬ endOf t hi i < max lo (stp t i).From) :
    0 ≤ endOf t hi i - (stp t i).From ∧ endOf t hi i - (stp t i).From ≤ 1000000 ∧ 0 ≤ max lo (stp t i).From - (stp t i).From + (stp t i).By - 1 ∧ max lo (stp t i).From - (stp t i).From + (stp t i).By - 1 ≤ 1010000 := by
  have h1 := h.ge1 hi'
  have h2 := h.by_ i hi'
  have h3 : endOf t hi i ≤ 1000000 := by unfold endOf; split <;> omega
  omega
theorem term_bd {t : List Step} (h : Wf t) {lo hi : Int} (hlo : 1 ≤ lo) (hhi : hi ≤ 1000000) {i : Nat} (hi' : i < t.length) : -2000000 ≤ term t lo hi i ∧ term t lo hi i ≤ 2000000 := by
  unfold term
  split
  · omega
  · rename_i hc
    obtain ⟨a, b, c, d⟩ := term_parts h hlo hhi hi' hc
    have h2 := h.by_ i hi'
    have e1 := ediv_bd a h2.1
    have e2 := ediv_bd c h2.1
    omega
theorem countK_bd {t : List Step} (h : Wf t) {lo hi : Int} (hlo : 1 ≤ lo) (hhi : hi ≤ 1000000) : ∀ k, k ≤ t.length → -2000000 * (k : Int) ≤ countK t lo hi k ∧ countK t lo hi k ≤ 2000000 * k
  | 0, _ => by simp [countK]
  | k + 1, hk => by
    have h1 := countK_bd h hlo hhi k (by omega)
    have h2 := term_bd h hlo hhi (i := k) (by omega)
    simp only [countK]
    omega
theorem mx_eq (a b : Int) : mx a b = max a b := by unfold mx; omega
theorem mn_eq (a b : Int) : mn a b = min a b := by unfold mn; omega
end Go.Proofs.YtbhofjmmdlkofaaDoor.Grid

/-! (grid.Table).Check, and the law's own check of package grid. -/
set_option linter.unusedVariables false
set_option linter.unusedSimpArgs false
namespace Go.Proofs.YtbhofjmmdlkofaaDoor.Grid
open Go.RowKit Go.Proofs.YtbhofjmmdlkofaaDoorW.PrintWords Go.Proofs.YtbhofjmmdlkofaaDoor.B Go.Proofs.YtbhofjmmdlkofaaDoor.POrderAny Go.Proofs.YtbhofjmmdlkofaaDoorW.PrintMore

def kt : List Step := [⟨1, 1⟩, ⟨101, 5⟩]
theorem kt_wf : Wf kt := by
  refine ⟨by decide, by decide, rfl, by decide, by decide, fun i hi => ?_, fun i hi => ?_⟩
  · obtain rfl : i = 0 := by have : i + 1 < 2 := hi; omega
    decide
  · obtain rfl : i = 0 := by have : i + 1 < 2 := hi; omega
    decide
end Go.Proofs.YtbhofjmmdlkofaaDoor.Grid

/-! Plain numbers: how the document counts the prices of a step. -/
set_option linter.unusedVariables false
set_option linter.unusedSimpArgs false
namespace Go.Proofs.YtbhofjmmdlkofaaDoor.Grid
open Go.RowKit Go.Proofs.YtbhofjmmdlkofaaDoorW.PrintWords Go.Proofs.YtbhofjmmdlkofaaDoor.B

/-- The first price from m on of the prices F, F + B, ..; how many lie up to E. -/
theorem ref_term {B F m E : Int} (hB : 1 ≤ B) (hm : F ≤ m) (c : Int) (hc : (m - F + B - 1) / B = c) :
    m ≤ F + c * B ∧ F + c * B ≤ m + B - 1 ∧ 0 ≤ c ∧ (if F + c * B ≤ E then (E - (F + c * B)) / B + 1 else 0) = (if E < m then 0 else (E - F) / B - c + 1) := by
  have h1 := Int.emod_add_mul_ediv (m - F + B - 1) B
  have h2 := Int.emod_nonneg (m - F + B - 1) (show B ≠ 0 by omega)
  have h3 := Int.emod_lt_of_pos (m - F + B - 1) (show 0 < B by omega)
  have h4 := Int.ediv_nonneg (show 0 ≤ m - F + B - 1 by omega) (show 0 ≤ B by omega)
  rw [hc] at h1 h4
  rw [Int.mul_comm] at h1
  have a1 : m ≤ F + c * B := by omega
  have a2 : F + c * B ≤ m + B - 1 := by omega
  refine ⟨a1, a2, h4, ?_⟩
  by_cases hE : E < m
  · rw [if_pos hE, if_neg (by omega)]
  · rw [if_neg hE]
    by_cases ha : F + c * B ≤ E
    · rw [if_pos ha]
      have e : E - (F + c * B) = (E - F) + (-c) * B := by rw [Int.neg_mul]; omega
      rw [e, Int.add_mul_ediv_right _ _ (by omega)]
      omega
    · rw [if_neg ha]
      have e : E - F = (E - F - (c - 1) * B) + (c - 1) * B := by omega
      have b : (c - 1) * B = c * B - B := by rw [Int.sub_mul, Int.one_mul]
      rw [e, Int.add_mul_ediv_right _ _ (by omega), Int.ediv_eq_zero_of_lt (by omega) (by omega)]
      omega

/-- What Check tells: the first step that may not be, and why. -/
def chkL (t : List Step) : Nat → Nat → Option (Nat × Int)
  | 0, _ => none
  | d + 1, i => if good1 t i then (if good2 t i then chkL t d (i + 1) else some (i, 2)) else some (i, 1)
def chk (t : List Step) : Option (Nat × Int) := if t.length = 0 ∨ 8 < t.length then some (min t.length 8, 1) else chkL t t.length 0
theorem chkL_spec (t : List Step) : ∀ (d i : Nat), i + d = t.length → Pre t i → (chkL t d i = none → Pre t t.length) ∧ ∀ n c, chkL t d i = some (n, c) → n < t.length ∧ (c = 1 ∨ c = 2)
  | 0, i, hi, hp => by
    obtain rfl : i = t.length := by omega
    exact ⟨fun _ => hp, fun n c h => by simp [chkL] at h⟩
  | d + 1, i, hi, hp => by
    unfold chkL
    by_cases h1 : good1 t i = true
    · rw [if_pos h1]
      by_cases h2 : good2 t i = true
      · rw [if_pos h2]
        exact chkL_spec t d (i + 1) (by omega) (hp.succ h1 h2)
      · rw [if_neg h2]
        exact ⟨(fun h => by cases h), (fun n c h => by injection h with h; injection h with h3 h4; omega)⟩
    · rw [if_neg h1]
      exact ⟨(fun h => by cases h), (fun n c h => by injection h with h; injection h with h3 h4; omega)⟩
theorem chk_wf {t : List Step} (h : chk t = none) : Wf t := by
  unfold chk at h
  by_cases hl : t.length = 0 ∨ 8 < t.length
  · rw [if_pos hl] at h; cases h
  · rw [if_neg hl] at h
    exact ((chkL_spec t _ 0 (by omega) (Pre.zero t)).1 h).wf (by omega) (by omega)
theorem chk_bad {t : List Step} {n : Nat} {c : Int} (h : chk t = some (n, c)) : n ≤ 8 ∧ (c = 1 ∨ c = 2) := by
  unfold chk at h
  by_cases hl : t.length = 0 ∨ 8 < t.length
  · rw [if_pos hl] at h
    injection h with h; injection h with h3 h4; omega
  · rw [if_neg hl] at h
    have := (chkL_spec t _ 0 (by omega) (Pre.zero t)).2 n c h
    omega
end Go.Proofs.YtbhofjmmdlkofaaDoor.Grid

/-! The reference's functions of a grid, over tables that may be. -/
set_option linter.unusedVariables false
set_option linter.unusedSimpArgs false
namespace Go.Proofs.YtbhofjmmdlkofaaDoor.Grid
open Go.RowKit Go.Proofs.YtbhofjmmdlkofaaDoorW.PrintWords Go.Proofs.YtbhofjmmdlkofaaDoor.B Go.Proofs.YtbhofjmmdlkofaaDoor.POrderAny Go.Proofs.YtbhofjmmdlkofaaDoorW.PrintMore

theorem step6_l (t : List Step) (h8 : t.length ≤ 1000000) (q : Int) : ∀ (d i k : Nat), i + d = t.length → 1 ≤ i → d < k → straddleref6_step.l0 k (t.map toR) q i (stp t (curK t q i)).From (stp t (curK t q i)).By = some ((stp t (curI t q)).From, (stp t (curI t q)).By) := by
  intro d
  induction d with
  | zero =>
    intro i k hi h1 hk
    obtain ⟨k, rfl⟩ : ∃ m, k = m + 1 := ⟨k - 1, by omega⟩
    obtain rfl : i = t.length := by omega
    simp only [straddleref6_step.l0]
    rw [if_neg (by simp)]
    rfl
  | succ d ih =>
    intro i k hi h1 hk
    obtain ⟨k, rfl⟩ : ∃ m, k = m + 1 := ⟨k - 1, by omega⟩
    have nx := ih (i + 1) k (by omega) (by omega) (by omega)
    have e1 : wrap64 ((i : Int) + 1) = ((i + 1 : Nat) : Int) := w64 (by omega) (by omega)
    simp only [straddleref6_step.l0]
    rw [if_pos (by simp; omega), if_pos (by omega), rdR, e1]
    by_cases hc : (stp t i).From ≤ q
    · rw [if_pos (by simpa [toR] using hc)]
      have e2 : curK t q (i + 1) = i := by simp [curK, hc]
      rw [e2] at nx
      exact nx
    · rw [if_neg (by simpa [toR] using hc)]
      have e2 : curK t q (i + 1) = curK t q i := by simp [curK, hc]
      rw [e2] at nx
      exact nx
theorem step6 (t : List Step) (h : Wf t) (q : Int) (k : Nat) (hk : t.length ≤ k) : straddleref6_step.f k (t.map toR) q = some ((stp t (curI t q)).From, (stp t (curI t q)).By) := by
  have hp := h.pos
  have h8 := h.le
  unfold straddleref6_step.f
  rw [if_pos (by simp; omega), show (0 : Int) = ((0 : Nat) : Int) by rfl, rdR]
  have e : curK t q 1 = 0 := by simp [curK]
  have := step6_l t (by omega) q (t.length - 1) 1 k (by omega) (by omega) (by omega)
  rw [e] at this
  exact this
theorem near6 (t : List Step) (h : Wf t) (p : Int) (k : Nat) (hk : t.length ≤ k) (hp : -9223372036854775808 ≤ p) : straddleref6_Near.f k (t.map toR) p = some (nearF t p) := by
  unfold straddleref6_Near.f nearF
  by_cases h1 : p < 1
  · rw [if_pos h1, if_pos h1]
  · rw [if_neg h1, if_neg h1]
    have key : ∀ q : Int, 1 ≤ q → q ≤ 1000000 → ((some ((stp t (curI t q)).From, (stp t (curI t q)).By) : Option (Int × Int)).bind fun bt => (if bt.2 = 0 then (none) else (some (wrap64 (q - (Int.tmod (wrap64 (q - bt.1)) bt.2)))))) = some (q - (q - (stp t (curI t q)).From) % (stp t (curI t q)).By) := by
      intro q q1 q2
      obtain ⟨c1, c2, c3⟩ := h.cur q1
      have b := h.by_ _ c1
      have g := h.ge1 c1
      have m0 := Int.emod_nonneg (q - (stp t (curI t q)).From) (show (stp t (curI t q)).By ≠ 0 by omega)
      have m1 := emod_le_self (a := q - (stp t (curI t q)).From) (b := (stp t (curI t q)).By) (by omega) (by omega)
      simp only [Option.bind_some]
      rw [if_neg (by omega), w64 (n := q - (stp t (curI t q)).From) (by omega) (by omega), Int.tmod_eq_emod_of_nonneg (by omega), w64 (by omega) (by omega)]
    by_cases h2 : p > 1000000
    · rw [if_pos h2, step6 t h _ k hk, show min p 1000000 = 1000000 by omega]
      exact key 1000000 (by omega) (by omega)
    · rw [if_neg h2, step6 t h _ k hk, show min p 1000000 = p by omega]
      exact key p (by omega) (by omega)
theorem on6 (t : List Step) (h : Wf t) (p : Int) (k : Nat) (hk : t.length ≤ k) (hp : -9223372036854775808 ≤ p) : straddleref6_On.f k (t.map toR) p = some (onF t p) := by
  unfold straddleref6_On.f onF
  by_cases h1 : p ≥ 1
  · rw [if_pos h1]
    by_cases h2 : p ≤ 1000000
    · rw [if_pos h2, near6 t h p k hk hp]
      simp [h1]
    · rw [if_neg h2]
      have := h.near_bd (show 1 ≤ p by omega)
      have e : (nearF t p == p) = false := by simp; omega
      rw [e, Bool.and_false]
  · rw [if_neg h1]
    simp; omega
/-- How the document counts the prices of a step from lo to hi. -/
theorem endOf_min (t : List Step) (hi : Int) (hh : hi ≤ 1000000) (i : Nat) : endOf t hi i = min hi (if i + 1 < t.length then (stp t (i + 1)).From - 1 else 1000000) := by
  unfold endOf
  split <;> omega
theorem countK_none {t : List Step} {lo hi : Int} (hle : hi < lo) : ∀ k, countK t lo hi k = 0
  | 0 => rfl
  | k + 1 => by
    rw [countK, countK_none hle k]
    unfold term
    rw [if_pos]
    · rfl
    · have : endOf t hi k ≤ hi := by unfold endOf; split <;> omega
      omega
end Go.Proofs.YtbhofjmmdlkofaaDoor.Grid

/-! Contracts: the reference's functions of a grid; what is wrong with a table, told by both. -/
set_option linter.unusedVariables false
set_option linter.unusedSimpArgs false
namespace Go.Proofs.YtbhofjmmdlkofaaDoor.Grid
open Go.RowKit Go.Proofs.YtbhofjmmdlkofaaDoorW.PrintWords Go.Proofs.YtbhofjmmdlkofaaDoor.B Go.Proofs.YtbhofjmmdlkofaaDoor.POrderAny Go.Proofs.YtbhofjmmdlkofaaDoorW.PrintMore Go.Proofs.YtbhofjmmdlkofaaDoor.Err

theorem field_by (w : World) (a b : Int) : (Instr.field 50 (.agg #[.int .i64 a, .int .i64 b]) 1).run Tryd.prog w = .ok (.int .i64 b) w := by kernel_rfl
attribute [local go_sem] field_by
abbrev RC (w : World) (A : Option Addr) (t : List Step) : Prop := Kd.C k50 w A (t.map toR).length (t.map toR)
section
variable (A : Option Addr) (cap : Nat) (t : List Step) (hw : Wf t) (hcap : t.length ≤ cap) (w : World) (hC : RC w A t)
include hw hcap hC
theorem rnear_c (p : Int) (hp : -9223372036854775808 ≤ p) :
    Calls Tryd.prog 42 #[.slice A t.length cap, .int .i64 p] w fun e w' => e = .returned (.int .i64 (nearF t p)) ∧ Fr no w w' := by
  have h := straddleref6_Near.calls t.length A cap (t.map toR) p _ w hC (by rw [List.length_map]; exact hcap) (near6 t hw p _ (Nat.le_refl _) hp)
  rw [List.length_map] at h
  exact h.mono fun e w' ⟨h1, h3⟩ => ⟨h1, Fr.of_below h3⟩
theorem ron_c (p : Int) (hp : -9223372036854775808 ≤ p) :
    Calls Tryd.prog 23 #[.slice A t.length cap, .int .i64 p] w fun e w' => e = .returned (.bool (onF t p)) ∧ Fr no w w' := by
  have h := straddleref6_On.calls t.length A cap (t.map toR) p _ w hC (by rw [List.length_map]; exact hcap) (on6 t hw p _ (Nat.le_refl _) hp)
  rw [List.length_map] at h
  exact h.mono fun e w' ⟨h1, h3⟩ => ⟨h1, Fr.of_below h3⟩
theorem rstep_c (p : Int) :
    Calls Tryd.prog 50 #[.slice A t.length cap, .int .i64 p] w fun e w' => e = .returned (.agg #[.int .i64 (stp t (curI t p)).From, .int .i64 (stp t (curI t p)).By]) ∧ Fr no w w' := by
  have h := straddleref6_step.calls t.length A cap (t.map toR) p _ _ w hC (by rw [List.length_map]; exact hcap) (step6 t hw p _ (Nat.le_refl _))
  rw [List.length_map] at h
  exact h.mono fun e w' ⟨h1, h3⟩ => ⟨h1, Fr.of_below h3⟩
end
end Go.Proofs.YtbhofjmmdlkofaaDoor.Grid

/-! What is wrong with a table: the program's answer, the reference's. -/
set_option linter.unusedVariables false
set_option linter.unusedSimpArgs false
namespace Go.Proofs.YtbhofjmmdlkofaaDoor.Grid
open Go.RowKit Go.Proofs.YtbhofjmmdlkofaaDoorW.PrintWords Go.Proofs.YtbhofjmmdlkofaaDoor.B Go.Proofs.YtbhofjmmdlkofaaDoor.POrderAny Go.Proofs.YtbhofjmmdlkofaaDoorW.PrintMore Go.Proofs.YtbhofjmmdlkofaaDoor.Err

def stepB : ByteArray := ⟨#[115, 116, 101, 112]⟩
abbrev PPart := S61
def ansR (o : Option (Nat × Int)) : List PPart × Int := match o with
  | none => ([], 0)
  | some (n, c) => ([⟨stepB, n⟩], c)
theorem chkJ (t : List Step) (h8 : t.length ≤ 8) (i d : Nat) (hi : i + (d + 1) = t.length) (hp : Pre t i) (k : Nat)
    (next : good1 t i = true → good2 t i = true → straddleref6_Check.l0 k (t.map toR) ((i + 1 : Nat) : Int) = some (ansR (chkL t d (i + 1)))) :
    (good1 t i = false → straddleref6_Check.j1 (k + 1) (t.map toR) i true = some (ansR (chkL t (d + 1) i))) ∧
    (good1 t i = true → straddleref6_Check.j1 (k + 1) (t.map toR) i false = some (ansR (chkL t (d + 1) i))) := by
  constructor
  · intro hg
    simp only [straddleref6_Check.j1, if_true, straddleref4_At.f, Option.bind_some, chkL, hg]
    rfl
  · intro hg
    have e1 : wrap64 ((i : Int) + 1) = ((i + 1 : Nat) : Int) := w64 (by omega) (by omega)
    simp only [straddleref6_Check.j1]
    rw [if_neg (by simp)]
    rcases Nat.eq_zero_or_pos i with rfl | h0
    · rw [if_neg (by omega), e1, next hg (by simp [good2])]
      simp [chkL, hg, good2]
    · obtain ⟨m, rfl⟩ : ∃ m, i = m + 1 := ⟨i - 1, by omega⟩
      have e2 : wrap64 (((m + 1 : Nat) : Int) - 1) = (m : Int) := by rw [w64 (by omega) (by omega)]; omega
      have p1 := hp.by_ m (by omega)
      have p2 := hp.ge1 (j := m) (by omega)
      have p3 : (stp t (m + 1)).From ≤ 1000000 ∧ (stp t m).From < (stp t (m + 1)).From := by
        simp [good1] at hg
        omega
      rw [if_pos (by omega), if_pos (by omega), if_pos (by simp; omega), e2, if_pos (by omega), if_pos (by simp; omega)]
      rw [rdR, rdR]
      have e3 : wrap64 ((toR (stp t (m + 1))).f0 - (toR (stp t m)).f0) = (stp t (m + 1)).From - (stp t m).From := w64 (by simp [toR]; omega) (by simp [toR]; omega)
      rw [e3, Int.tmod_eq_emod_of_nonneg (by omega)]
      rw [if_neg (by simp [toR]; omega)]
      by_cases hd : ((stp t (m + 1)).From - (stp t m).From) % (stp t m).By = 0
      · have hg2 : good2 t (m + 1) = true := by simp [good2, hd]
        rw [if_pos (by simpa [toR] using hd), e1, next hg hg2]
        simp [chkL, hg, hg2]
      · have hg2 : good2 t (m + 1) = false := by simp [good2, hd]
        rw [if_neg (by simpa [toR] using hd)]
        simp only [straddleref4_At.f, Option.bind_some, chkL, hg, hg2]
        rfl
theorem chk6_l (t : List Step) (h0 : 0 < t.length) (h8 : t.length ≤ 8) : ∀ (d i : Nat) (k : Nat), i + d = t.length → Pre t i → 2 * d < k → straddleref6_Check.l0 k (t.map toR) (i : Int) = some (ansR (chkL t d i)) := by
  intro d
  induction d with
  | zero =>
    intro i k hi hp hk
    obtain ⟨k, rfl⟩ : ∃ m, k = m + 1 := ⟨k - 1, by omega⟩
    obtain rfl : i = t.length := by omega
    simp only [straddleref6_Check.l0]
    rw [if_neg (by simp)]
    rfl
  | succ d ih =>
    intro i k hi hp hk
    obtain ⟨k, rfl⟩ : ∃ m, k = m + 1 + 1 := ⟨k - 2, by omega⟩
    obtain ⟨jt, jf⟩ := chkJ t h8 i d (by omega) hp k (fun a b => ih (i + 1) k (by omega) (hp.succ a b) (by omega))
    unfold straddleref6_Check.l0
    rw [if_pos (by simp; omega)]
    rcases Nat.eq_zero_or_pos i with rfl | hpos
    · rw [if_pos (by omega), if_pos (by omega), rdR]
      by_cases c1 : (toR (stp t 0)).f0 = 1
      · rw [if_pos c1, if_neg (by omega)]
        by_cases c2 : (toR (stp t 0)).f0 > 1000000
        · rw [if_pos c2]; exact jt (by simp [good1]; simp [toR] at c1 c2; omega)
        · rw [if_neg c2]
          by_cases c3 : (toR (stp t 0)).f1 < 1
          · rw [if_pos c3]; exact jt (by simp [good1]; simp [toR] at c1 c2 c3; omega)
          · rw [if_neg c3]
            by_cases c4 : (toR (stp t 0)).f1 > 10000
            · rw [decide_eq_true c4]; exact jt (by simp [good1]; simp [toR] at c1 c2 c3 c4; omega)
            · rw [decide_eq_false c4]; exact jf (by simp [good1]; simp [toR] at c1 c2 c3 c4; omega)
      · rw [if_neg c1]; exact jt (by simp [good1]; simp [toR] at c1; omega)
    · obtain ⟨m, rfl⟩ : ∃ m, i = m + 1 := ⟨i - 1, by omega⟩
      have e2 : wrap64 (((m + 1 : Nat) : Int) - 1) = (m : Int) := by rw [w64 (by omega) (by omega)]; omega
      rw [if_neg (by omega), if_pos (by omega), if_pos (by omega), e2, if_pos (by omega), if_pos (by simp; omega), rdR, rdR]
      by_cases c1 : (toR (stp t (m + 1))).f0 ≤ (toR (stp t m)).f0
      · rw [if_pos c1]; exact jt (by simp [good1]; simp [toR] at c1; omega)
      · rw [if_neg c1]
        by_cases c2 : (toR (stp t (m + 1))).f0 > 1000000
        · rw [if_pos c2]; exact jt (by simp [good1]; simp [toR] at c1 c2; omega)
        · rw [if_neg c2]
          by_cases c3 : (toR (stp t (m + 1))).f1 < 1
          · rw [if_pos c3]; exact jt (by simp [good1]; simp [toR] at c1 c2 c3; omega)
          · rw [if_neg c3]
            by_cases c4 : (toR (stp t (m + 1))).f1 > 10000
            · rw [decide_eq_true c4]; exact jt (by simp [good1]; simp [toR] at c1 c2 c3 c4; omega)
            · rw [decide_eq_false c4]; exact jf (by simp [good1]; simp [toR] at c1 c2 c3 c4; omega)
/-- What an answer of the reference's is: nothing wrong, or one part. -/
def AnsW (w : World) (v : Value) : Option (Nat × Int) → Prop
  | none => ∃ A n c, v = .agg #[.slice A n c, .int .i64 0]
  | some (n, c) => ∃ G cp, v = wrongC G cp c ∧ PartAt w G stepB n
theorem rcheck_c (A : Option Addr) (cap : Nat) (t : List Step) (hcap : t.length ≤ cap) (w : World) (hC : RC w A t) :
    Calls Tryd.prog 5 #[.slice A t.length cap] w fun e w' => ∃ v, e = .returned v ∧ AnsW w' v (chk t) ∧ Fr no w w' := by
  have key : straddleref6_Check.f (2 * t.length + 1) (t.map toR) = some (ansR (chk t)) := by
    unfold straddleref6_Check.f chk
    by_cases h0 : t.length = 0
    · rw [if_pos (by simpa using h0), if_pos (.inl h0)]
      simp only [straddleref4_At.f, Option.bind_some, h0]
      rfl
    · rw [if_neg (by simpa using h0)]
      by_cases h8 : 8 < t.length
      · rw [if_pos (by simp; omega), if_pos (.inr h8)]
        simp only [straddleref4_At.f, Option.bind_some]
        rw [show min t.length 8 = 8 by omega]
        rfl
      · rw [if_neg (by simp; omega), if_neg (by omega)]
        exact chk6_l t (by omega) (by omega) t.length 0 _ (by omega) (Pre.zero t) (by omega)
  have h := straddleref6_Check.calls _ A cap (t.map toR) _ _ w hC (by rw [List.length_map]; exact hcap) key
  rw [List.length_map] at h
  refine h.mono fun e w' ⟨v, h3, hR, h4⟩ => ⟨_, h3, ?_, Fr.of_below h4⟩
  cases hc : chk t with
  | none =>
    obtain ⟨A', c', rfl⟩ := Kd.R_slice hR
    try rw [hc]
    exact ⟨_, _, _, rfl⟩
  | some x =>
    obtain ⟨n, c⟩ := x
    rw [hc] at hR
    try rw [hc]
    obtain ⟨g, cm, rfl, _, _, _⟩ := Kd.R_form hR (Nat.zero_lt_one)
    obtain ⟨ad, e1, c1, c2⟩ := at_T61 (Kd.R_reads' hR).2.2 0 (by omega) (Int.zero_lt_one)
    obtain rfl := (Option.some.inj e1).symm
    exact ⟨g, cm, rfl, c1, c2⟩

/-- What Check tells. -/
def AnsE (w : World) (v : Value) : Option (Nat × Int) → Prop
  | none => v = .nilIface
  | some (n, c) => ∃ F, v = .iface 55 (.pointer (some ⟨F, 0, none⟩)) ∧ FaultAt w F stepB n c
end Go.Proofs.YtbhofjmmdlkofaaDoor.Grid
