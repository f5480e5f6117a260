import Derived.Test.YtbeijddogfmnpaaGridCounts
import Derived.Deep.DeepCutAuto
import Derived.Deep.CutBlock
/-! GridWalk: up, and down again. -/
set_option linter.unusedVariables false
set_option linter.unusedSimpArgs false
namespace Go.Proofs.Ytbeijddogfmnpaa.Grid
open Go.RowKit Go.Proofs.YtbeijddogfmnpaaW.PrintWords Go.Proofs.Ytbeijddogfmnpaa.B

def nxt (t : List Step) (p : Int) : Int := p + (stp t (curI t p)).By
/-- What is known of a price of the grid: its step, how often it was gone. -/
theorem on_parts {t : List Step} (h : Wf t) {p : Int} (ho : onF t p = true) : ∃ q : Int, 0 ≤ q ∧ curI t p < t.length ∧ p = (stp t (curI t p)).From + (stp t (curI t p)).By * q ∧ 1 ≤ p ∧ p ≤ 1000000 ∧ ∀ j, curI t p < j → j < t.length → p < (stp t j).From := by
  obtain ⟨o1, o2, o3⟩ := onF_true h ho
  obtain ⟨c1, c2, c3⟩ := h.cur o1
  have b := h.by_ _ c1
  unfold nearF at o3
  rw [if_neg (by omega), show min p 1000000 = p by omega] at o3
  have hm : (p - (stp t (curI t p)).From) % (stp t (curI t p)).By = 0 := by omega
  have hd := Int.emod_add_mul_ediv (p - (stp t (curI t p)).From) (stp t (curI t p)).By
  refine ⟨(p - (stp t (curI t p)).From) / (stp t (curI t p)).By, Int.ediv_nonneg (by omega) (by omega), c1, by omega, o1, o2, c3⟩
theorem on_of {t : List Step} (h : Wf t) {p : Int} (h1 : 1 ≤ p) (h2 : p ≤ 1000000) (hm : (p - (stp t (curI t p)).From) % (stp t (curI t p)).By = 0) : onF t p = true := by
  unfold onF nearF
  rw [if_neg (by omega), show min p 1000000 = p by omega, hm]
  simp; omega
theorem near_on {t : List Step} (h : Wf t) {p : Int} (hp : 1 ≤ p) : onF t (nearF t p) = true := by
  obtain ⟨n1, n2, n3⟩ := h.near_bd hp
  obtain ⟨c1, c2, c3⟩ := h.cur (q := min p 1000000) (by omega)
  have b := h.by_ _ c1
  have hn : nearF t p = min p 1000000 - (min p 1000000 - (stp t (curI t (min p 1000000))).From) % (stp t (curI t (min p 1000000))).By := by unfold nearF; rw [if_neg (by omega)]
  have m0 := Int.emod_nonneg (min p 1000000 - (stp t (curI t (min p 1000000))).From) (show (stp t (curI t (min p 1000000))).By ≠ 0 by omega)
  have m1 := emod_le_self (a := min p 1000000 - (stp t (curI t (min p 1000000))).From) (b := (stp t (curI t (min p 1000000))).By) (by omega) (by omega)
  have hd := Int.emod_add_mul_ediv (min p 1000000 - (stp t (curI t (min p 1000000))).From) (stp t (curI t (min p 1000000))).By
  have hc : curI t (nearF t p) = curI t (min p 1000000) := h.cur_eq c1 (by omega) (fun j a b => by have := c3 j a b; omega)
  refine on_of h n1 n3 ?_
  rw [hc, hn]
  rw [show min p 1000000 - (min p 1000000 - (stp t (curI t (min p 1000000))).From) % (stp t (curI t (min p 1000000))).By - (stp t (curI t (min p 1000000))).From = (stp t (curI t (min p 1000000))).By * ((min p 1000000 - (stp t (curI t (min p 1000000))).From) / (stp t (curI t (min p 1000000))).By) by omega]
  exact Int.mul_emod_right _ _
/-- The next price lies no further than the next step's first. -/
theorem nxt_le {t : List Step} (h : Wf t) {p : Int} (ho : onF t p = true) (hl : curI t p + 1 < t.length) : nxt t p ≤ (stp t (curI t p + 1)).From := by
  obtain ⟨q, q0, c1, e, p1, p2, c3⟩ := on_parts h ho
  have b := h.by_ _ c1
  have hd := h.div _ hl
  have hlt := c3 _ (Nat.lt_succ_self _) hl
  have he := Int.emod_add_mul_ediv ((stp t (curI t p + 1)).From - (stp t (curI t p)).From) (stp t (curI t p)).By
  rw [hd] at he
  unfold nxt
  generalize (stp t (curI t p + 1)).From = F' at *
  generalize ((F' - (stp t (curI t p)).From) / (stp t (curI t p)).By) = q' at *
  generalize (stp t (curI t p)).By = B at *
  have h2 : B * q < B * q' := by omega
  have h3 : q < q' := Int.lt_of_mul_lt_mul_left h2 (by omega)
  have h4 : B * (q + 1) ≤ B * q' := Int.mul_le_mul_of_nonneg_left (by omega) (by omega)
  rw [Int.mul_add, Int.mul_one] at h4
  omega
theorem nxt_cur {t : List Step} (h : Wf t) {p x : Int} (ho : onF t p = true) (h1 : p ≤ x) (h2 : x < nxt t p) : curI t x = curI t p := by
  obtain ⟨q, q0, c1, e, p1, p2, c3⟩ := on_parts h ho
  have hc := h.cur p1
  refine h.cur_eq c1 (by omega) (fun j a b => ?_)
  have h3 := nxt_le h ho (by omega)
  rcases Nat.lt_or_ge (curI t p + 1) j with h4 | h4
  · have := h.mono h4 b; omega
  · obtain rfl : j = curI t p + 1 := by omega
    omega
theorem nxt_on {t : List Step} (h : Wf t) {p : Int} (ho : onF t p = true) (hn : nxt t p ≤ 1000000) : onF t (nxt t p) = true := by
  obtain ⟨q, q0, c1, e, p1, p2, c3⟩ := on_parts h ho
  have b := h.by_ _ c1
  have hlt : p < nxt t p := by unfold nxt; omega
  refine on_of h (by omega) hn ?_
  by_cases hl : curI t p + 1 < t.length ∧ nxt t p = (stp t (curI t p + 1)).From
  · have hc : curI t (nxt t p) = curI t p + 1 := h.cur_eq hl.1 (by omega) (fun j a b => by have := h.mono a b; omega)
    rw [hc, hl.2, Int.sub_self]
    exact Int.zero_emod _
  · have hc : curI t (nxt t p) = curI t p := by
      have hcu := h.cur p1
      refine h.cur_eq c1 (by omega) (fun j a b => ?_)
      have h3 := nxt_le h ho (by omega)
      have h5 : nxt t p ≠ (stp t (curI t p + 1)).From := fun e => hl ⟨by omega, e⟩
      rcases Nat.lt_or_ge (curI t p + 1) j with h4 | h4
      · have := h.mono h4 b; omega
      · obtain rfl : j = curI t p + 1 := by omega
        omega
    rw [hc]
    unfold nxt
    generalize (stp t (curI t p)).By = B at *
    generalize (stp t (curI t p)).From = F at *
    rw [show p + B - F = B * (q + 1) by rw [Int.mul_add, Int.mul_one]; omega]
    exact Int.mul_emod_right _ _
theorem nxt_down {t : List Step} (h : Wf t) {p : Int} (ho : onF t p = true) (hn : nxt t p ≤ 1000000) : downF t (nxt t p) = (p, true) := by
  obtain ⟨q, q0, c1, e, p1, p2, c3⟩ := on_parts h ho
  have b := h.by_ _ c1
  have hlt : p < nxt t p := by unfold nxt; omega
  have hc := nxt_cur h ho (x := nxt t p - 1) (by omega) (by omega)
  unfold downF
  rw [nxt_on h ho hn]
  rw [if_pos (by simp; omega)]
  have e1 : nearF t (nxt t p - 1) = p := by
    unfold nearF
    rw [if_neg (by omega), show min (nxt t p - 1) 1000000 = nxt t p - 1 by omega, hc]
    unfold nxt
    generalize (stp t (curI t p)).By = B at *
    generalize (stp t (curI t p)).From = F at *
    rw [show p + B - 1 - F = (B - 1) + B * q by omega, Int.add_mul_emod_self_left, Int.emod_eq_of_lt (by omega) (by omega)]
    omega
  rw [e1]
theorem cntK_eq {t : List Step} {x y : Int} : ∀ k, (∀ i, i < k → cnt t x i = cnt t y i) → cntK t x k = cntK t y k
  | 0, _ => rfl
  | k + 1, h => by rw [cntK, cntK, cntK_eq k (fun i hi => h i (by omega)), h k (by omega)]
theorem cntK_one {t : List Step} {x y : Int} (j : Nat) (hj : cnt t x j = cnt t y j + 1) : ∀ k, j < k → (∀ i, i < k → i ≠ j → cnt t x i = cnt t y i) → cntK t x k = cntK t y k + 1
  | 0, hk, _ => by omega
  | k + 1, hk, h => by
    rw [cntK, cntK]
    rcases Nat.lt_or_ge j k with hl | hl
    · rw [cntK_one j hj k hl (fun i hi hn => h i (by omega) hn), h k (by omega) (by omega)]; omega
    · obtain rfl : j = k := by omega
      rw [cntK_eq j (fun i hi => h i (by omega) (by omega)), hj]; omega
theorem cnt_full {t : List Step} (h : Wf t) {x y : Int} {i k : Nat} (hik : i < k) (hk : k < t.length) (hx : (stp t k).From - 1 ≤ x) (hy : (stp t k).From - 1 ≤ y) : cnt t x i = cnt t y i := by
  have h1 := h.mono hik hk
  have h2 : lastOf t i ≤ (stp t k).From - 1 := by
    unfold lastOf
    rw [if_pos (by omega)]
    rcases Nat.lt_or_ge (i + 1) k with h4 | h4
    · have := h.mono h4 hk; omega
    · obtain rfl : k = i + 1 := by omega
      omega
  unfold cnt
  rw [if_neg (by omega), if_neg (by omega), show min x (lastOf t i) = lastOf t i by omega, show min y (lastOf t i) = lastOf t i by omega]
theorem cnt_none {t : List Step} {x : Int} {i : Nat} (hx : x < (stp t i).From) : cnt t x i = 0 := by unfold cnt; rw [if_pos hx]
theorem total_one {t : List Step} (h : Wf t) {p : Int} (ho : onF t p = true) : total t p = total t (p - 1) + 1 := by
  obtain ⟨q, q0, c1, e, p1, p2, c3⟩ := on_parts h ho
  have b := h.by_ _ c1
  have hcu := h.cur p1
  have hl := h.last c1
  unfold total
  rw [show min p 1000000 = p by omega, show min (p - 1) 1000000 = p - 1 by omega]
  have hlast : p ≤ lastOf t (curI t p) := by
    unfold lastOf
    split
    · rename_i hh; have := c3 (curI t p + 1) (by omega) hh; omega
    · omega
  refine cntK_one (curI t p) ?_ _ c1 (fun i hi hn => ?_)
  · unfold cnt
    rw [if_neg (by omega)]
    by_cases hq : q = 0
    · subst hq
      rw [if_pos (by omega), show min p (lastOf t (curI t p)) - (stp t (curI t p)).From = 0 by omega, Int.zero_ediv]
    · have hB : (stp t (curI t p)).By ≤ (stp t (curI t p)).By * q := by
        have := Int.mul_le_mul_of_nonneg_left (show 1 ≤ q by omega) (show 0 ≤ (stp t (curI t p)).By by omega)
        rwa [Int.mul_one] at this
      rw [if_neg (by omega), show min p (lastOf t (curI t p)) = p by omega, show min (p - 1) (lastOf t (curI t p)) = p - 1 by omega]
      generalize (stp t (curI t p)).By = B at *
      generalize (stp t (curI t p)).From = F at *
      rw [show p - F = B * q by omega, show p - 1 - F = (B - 1) + B * (q - 1) by rw [Int.mul_sub, Int.mul_one]; omega, Int.add_mul_ediv_left _ _ (by omega), Int.mul_ediv_cancel_left _ (by omega), Int.ediv_eq_zero_of_lt (by omega) (by omega)]
      omega
  · rcases Nat.lt_or_ge i (curI t p) with h4 | h4
    · exact cnt_full h h4 c1 (by omega) (by omega)
    · have := c3 i (by omega) hi
      rw [cnt_none this, cnt_none (by omega)]
theorem total_nxt {t : List Step} (h : Wf t) {p : Int} (ho : onF t p = true) (hn : nxt t p ≤ 1000000) : total t (nxt t p) = total t p + 1 := by
  have ho2 := nxt_on h ho hn
  rw [total_one h ho2]
  obtain ⟨q, q0, c1, e, p1, p2, c3⟩ := on_parts h ho
  have b := h.by_ _ c1
  have hcu := h.cur p1
  have hlt : p < nxt t p := by unfold nxt; omega
  have key : total t (nxt t p - 1) = total t p := by
    unfold total
    rw [show min p 1000000 = p by omega, show min (nxt t p - 1) 1000000 = nxt t p - 1 by omega]
    have hlast : nxt t p - 1 ≤ lastOf t (curI t p) := by
      unfold lastOf
      split
      · rename_i hh; have := nxt_le h ho hh; omega
      · omega
    refine cntK_eq _ (fun i hi => ?_)
    rcases Nat.lt_trichotomy i (curI t p) with h4 | h4 | h4
    · exact cnt_full h h4 c1 (by omega) (by omega)
    · subst h4
      unfold cnt
      rw [if_neg (by omega), if_neg (by omega), show min p (lastOf t (curI t p)) = p by omega, show min (nxt t p - 1) (lastOf t (curI t p)) = nxt t p - 1 by omega]
      unfold nxt
      generalize (stp t (curI t p)).By = B at *
      generalize (stp t (curI t p)).From = F at *
      rw [show p + B - 1 - F = (B - 1) + B * q by omega, show p - F = B * q by omega, Int.add_mul_ediv_left _ _ (by omega), Int.mul_ediv_cancel_left _ (by omega), Int.ediv_eq_zero_of_lt (by omega) (by omega)]
      omega
    · have h5 := c3 i h4 hi
      have h6 : nxt t p ≤ (stp t i).From := by
        have h3 := nxt_le h ho (by omega)
        rcases Nat.lt_or_ge (curI t p + 1) i with h7 | h7
        · have := h.mono h7 hi; omega
        · obtain rfl : i = curI t p + 1 := by omega
          exact h3
      rw [cnt_none (by omega), cnt_none h5]
  rw [key]
theorem nxt_up {t : List Step} (h : Wf t) {p : Int} (ho : onF t p = true) : upF t p = if 1000000 < nxt t p then (0, false) else (nxt t p, true) := by
  unfold upF nxt
  rw [if_pos ho]
/-- k steps up. -/
def nth (t : List Step) (p : Int) : Nat → Int
  | 0 => p
  | k + 1 => nxt t (nth t p k)
theorem nth_total {t : List Step} (h : Wf t) {p : Int} : ∀ k, (∀ j, j ≤ k → onF t (nth t p j) = true) → total t (nth t p k) = total t p + k
  | 0, _ => by simp [nth]
  | k + 1, ho => by
    have h1 := ho k (by omega)
    have h2 := onF_true h (ho (k + 1) (Nat.le_refl _))
    show total t (nxt t (nth t p k)) = _
    rw [total_nxt h h1 h2.2.1, nth_total h k (fun j hj => ho j (by omega))]
    omega
theorem nth_ge {t : List Step} (h : Wf t) {p : Int} : ∀ k, (∀ j, j ≤ k → onF t (nth t p j) = true) → p ≤ nth t p k
  | 0, _ => Int.le_refl _
  | k + 1, ho => by
    have h1 := nth_ge h k (fun j hj => ho j (by omega))
    have h2 := onF_true h (ho k (by omega))
    obtain ⟨c1, _, _⟩ := h.cur h2.1
    have := h.by_ _ c1
    show p ≤ nxt t (nth t p k)
    unfold nxt; omega
attribute [local go_sem] field_err
set_option maxRecDepth 100000 in
set_option maxHeartbeats 4000000 in
theorem walk_c (w : World) (A : Option Addr) (cap : Nat) (t : List Step) (p n : Int) (hC : kStep.C w A t.length t) (hcap : t.length ≤ cap) (hn0 : 0 ≤ n) (hn1 : n ≤ 255) :
    Calls Try.prog 6 #[.slice A t.length cap, .int .i64 p, .int .u8 n] w fun e w' => e = .returned (.bool true) ∧ Fr no w w' := by
  have hm := Kd.C_max hC
  by_cases h8 : 8 < t.length
  · go_enter Try.func6, Try.ntmps6
    go_wp2_with fail
    refine (known_c _).mono ?_
    rintro e w1 ⟨rfl, hf⟩
    go_wp2
    go_ret
    exact ⟨rfl, hf⟩
  go_enter Try.func6, Try.ntmps6
  go_wp2_with fail
  refine (known_c _).mono ?_
  rintro e w1 ⟨rfl, hf⟩
  go_wp2_with fail
  refine (guard_c A cap t (by omega) hcap w w1 hC hf).mono ?_
  rintro e w2 ⟨A', c', rfl, hf2, hck⟩
  clear hf
  have HK := Lib.hid hck
  clear hck
  go_wp2_with fail
  refine (HK.out).mono ?_
  rintro e w3 ⟨A2, n2, c2, r, rfl, hwf, hf⟩
  dsimp only
  clear hf2
  by_cases hr : r = 0
  · have hw := hwf hr
    subst hr
    clear hwf
    by_cases g1 : p < 1
    · go_wp2
      go_ret
      exact ⟨rfl, hf⟩
    by_cases g2 : 1000000 < p
    · go_wp2
      go_ret
      exact ⟨rfl, hf⟩
    go_wp2_with fail
    refine (near_c A cap t p hw _ (C_fr hC hf)).mono ?_
    rintro e w4 ⟨rfl, hf1⟩
    replace hf := hf.trans' hf1
    clear hf1
    have ho := near_on hw (show 1 ≤ p by omega)
    generalize nearF t p = fr at ho ⊢
    go_upto_block 0 with (fail)
    go_cut [8, 9] (fun v8 v9 wc => ∃ k : Nat, k ≤ 255 ∧ v8 = .int .i64 (nth t fr k) ∧ v9 = .int .i64 k ∧ Hid (∀ j, j ≤ k → onF t (nth t fr j) = true) ∧ Fr no w wc)
    case first =>
      have HO := Lib.hid ho
      clear ho
      go_wp2
      go_loopg [8, 9, 10] 256 (fun q v8 v9 i wr => ∃ k : Nat, k + q = 256 ∧ (k : Int) ≤ n ∧ i = .int .i64 k ∧ v8 = .int .i64 (nth t fr k) ∧ v9 = .int .i64 k ∧ Hid (∀ j, j ≤ k → onF t (nth t fr j) = true) ∧ Fr no w wr)
      case atStart =>
        refine ⟨0, by omega, by omega, rfl, rfl, rfl, fun j hj => ?_, hf⟩
        obtain rfl : j = 0 := by omega
        exact HO.out
      case round =>
        clear hf
        obtain ⟨k, hk, hkn, rfl, rfl, rfl, hon, hf⟩ := hrel
        by_cases hlt : (k : Int) < n
        · have hx := hon.out k (Nat.le_refl _)
          obtain ⟨x1, x2, x3⟩ := onF_true hw hx
          have hup := nxt_up hw hx
          by_cases hg : 1000000 < nxt t (nth t fr k)
          · rw [if_pos hg] at hup
            have HU := Lib.hid hup
            clear hup hx x3
            go_wp2_with fail
            refine (up_c A cap t _ hw _ (C_fr hC hf)).mono ?_
            rintro e w5 ⟨rfl, hf1⟩
            rw [HU.out]
            replace hf := hf.trans' hf1
            go_wp2
            go_meet
            case rel => exact ⟨k, by omega, rfl, rfl, hon, hf⟩
          · rw [if_neg hg] at hup
            have hx2 := nxt_on hw hx (by omega)
            have hgt : nth t fr k < nxt t (nth t fr k) := by
              obtain ⟨c1, _, _⟩ := hw.cur x1
              have := hw.by_ _ c1
              unfold nxt; omega
            have hon2 : Hid (∀ j, j ≤ k + 1 → onF t (nth t fr j) = true) := fun j hj => by
              rcases Nat.lt_or_ge k j with h3 | h3
              · obtain rfl : j = k + 1 := by omega
                exact hx2
              · exact hon.out j h3
            have HU := Lib.hid hup
            have HX2 := Lib.hid hx2
            clear hup hx x3 hx2
            go_wp2_with fail
            refine (up_c A cap t _ hw _ (C_fr hC hf)).mono ?_
            rintro e w5 ⟨rfl, hf1⟩
            rw [HU.out]
            replace hf := hf.trans' hf1
            clear hf1
            go_wp2_with fail
            refine (on_c A cap t _ hw _ (C_fr hC hf)).mono ?_
            rintro e w6 ⟨rfl, hf1⟩
            rw [HX2.out]
            replace hf := hf.trans' hf1
            clear hf1
            go_wp2
            go_roundg (256 - (k + 1))
            case measure => omega
            case rel => exact ⟨k + 1, by omega, by omega, by go_num, rfl, by go_num, hon2, hf⟩
        · go_wp2
          go_meet
          case rel => exact ⟨k, by omega, rfl, rfl, hon, hf⟩
    case rest =>
      clear ho hf
      obtain ⟨k, hk, rfl, rfl, hon, hf⟩ := hcut
      have o0 := onF_true hw (hon.out 0 (by omega))
      have hge := nth_ge hw k hon.out
      have htot := nth_total hw k hon.out
      have hone := total_one hw (hon.out 0 (by omega))
      have hcount : countF t fr (nth t fr k) = k + 1 := by
        have o1 : 1 ≤ fr := o0.1
        rw [count_total hw (by omega) (by omega), htot]
        have : total t fr = total t (fr - 1) + 1 := hone
        omega
      have HCN := Lib.hid hcount
      have ok1 := onF_true hw (hon.out k (Nat.le_refl _))
      have hfr1 : 1 ≤ fr ∧ fr ≤ 1000000 := ⟨o0.1, o0.2.1⟩
      obtain ⟨hfr2, hfr3⟩ := hfr1
      obtain ⟨ok2, ok3, _⟩ := ok1
      clear htot hone hcount o0
      go_wp2_with fail
      refine (count_c A cap t _ _ hw hcap (by omega) (by omega) _ (C_fr hC hf)).mono ?_
      rintro e w5 ⟨rfl, hf1⟩
      rw [HCN.out]
      replace hf := hf.trans' hf1
      clear hf1
      go_wp2
      go_loopg [8, 13] k (fun q v8 i wr => ∃ j : Nat, j + q = k ∧ i = .int .i64 j ∧ v8 = .int .i64 (nth t fr q) ∧ Fr no w wr)
      case atStart => exact ⟨0, by omega, rfl, rfl, hf⟩
      case round =>
        clear hf
        obtain ⟨j, hj, rfl, rfl, hf⟩ := hrel
        cases gk with
        | zero =>
          obtain rfl : j = k := by omega
          have he : (nth t fr 0 == fr) = true := by simp [nth]
          go_wp2
          go_ret
          exact ⟨rfl, hf⟩
        | succ m =>
          have x1 := hon.out m (by omega)
          have x2 := onF_true hw (hon.out (m + 1) (by omega))
          have hdn := nxt_down hw x1 x2.2.1
          have hgt : nth t fr m < nth t fr (m + 1) := by
            obtain ⟨c1, _, _⟩ := hw.cur (onF_true hw x1).1
            have := hw.by_ _ c1
            show _ < nxt t (nth t fr m)
            unfold nxt; omega
          have HD : Hid (downF t (nth t fr (m + 1)) = (nth t fr m, true)) := hdn
          have hjl : j < k := by omega
          clear hdn x1 x2
          go_wp2_with fail
          refine (down_c A cap t _ hw _ (C_fr hC hf)).mono ?_
          rintro e w6 ⟨rfl, hf1⟩
          rw [HD.out]
          replace hf := hf.trans' hf1
          clear hf1
          go_wp2
          go_roundg m
          case measure => omega
          case rel => exact ⟨j + 1, by omega, by go_num, rfl, hf⟩
  · have hr' : (r != 0) = true := by simp [hr]
    clear hwf
    go_wp2
    go_ret
    exact ⟨rfl, hf⟩

theorem walk_row (w : World) (A : Option Addr) (cap : Nat) (t : List Step) (p n : Int) (hC : kStep.C w A t.length t) (hcap : t.length ≤ cap) (_ : ∀ x ∈ t, wfStep x) (_ : (Lit.int .i64 p).wf = true) (hn : (Lit.int .u8 n).wf = true) :
    Calls Try.prog 6 #[.slice A t.length cap, .int .i64 p, .int .u8 n] w fun e w' => e = .returned (.bool true) ∧ Fr no w w' := walk_c w A cap t p n hC hcap (bounds_u8 hn).1 (bounds_u8 hn).2
end Go.Proofs.Ytbeijddogfmnpaa.Grid
