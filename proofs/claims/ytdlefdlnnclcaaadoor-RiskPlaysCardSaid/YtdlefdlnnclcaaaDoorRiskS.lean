import Derived.Test.YtdlefdlnnclcaaaDoorRiskR
import Derived.Test.YtdlefdlnnclcaaaDoorRiskO
import Derived.Test.YtdlefdlnnclcaaaDoorRiskL
/-! The document's limits, its Ask. -/
set_option linter.unusedVariables false
set_option linter.unusedSimpArgs false
namespace Go.Proofs.YtdlefdlnnclcaaaDoor.Risk
open Go.RowKit Go.Proofs.YtdlefdlnnclcaaaDoorW.PrintWords Go.Proofs.YtdlefdlnnclcaaaDoor.B Go.Proofs.YtdlefdlnnclcaaaDoor.Err
open Go.Proofs.YtdlefdlnnclcaaaDoor.Num (mulF i64B i64B_t i64B_f)

theorem rlim_c (L : Lim) (w : World) : Calls Tryd.prog 6 #[limV L] w fun e w' => e = .returned (.int .i64 (if limB L = true then 0 else 1)) ∧ Fr no w w' := by
  refine (PRiskPlays.straddleref27_CheckLimits.calls L.qty L.money L.orders (if limB L = true then 0 else 1) w ?_).mono fun e w' ⟨h, h2⟩ => ⟨h, Fr.of_below h2⟩
  unfold PRiskPlays.straddleref27_CheckLimits.f
  cases h : limB L with
  | true =>
    obtain ⟨a, b, c, d, e, f⟩ := limB_ok.1 h
    rw [if_neg (by omega), if_neg (by omega), if_neg (by omega), if_neg (by omega), if_neg (by omega), if_neg (by omega)]
    rfl
  | false =>
    have hn : ¬ LimOk L := fun h2 => by rw [limB_ok.2 h2] at h; cases h
    by_cases a : L.qty < 1
    · rw [if_pos a]; rfl
    rw [if_neg a]
    by_cases b : L.qty > 1000000
    · rw [if_pos b]; rfl
    rw [if_neg b]
    by_cases c : L.money < 1
    · rw [if_pos c]; rfl
    rw [if_neg c]
    by_cases d : L.money > 1125899906842624
    · rw [if_pos d]; rfl
    rw [if_neg d]
    by_cases e : L.orders < 1
    · rw [if_pos e]; rfl
    rw [if_neg e]
    by_cases f : L.orders > 4096
    · rw [if_pos f]; rfl
    exact absurd ⟨by omega, by omega, by omega, by omega, by omega, by omega⟩ hn
theorem of_c (L : Lim) (w : World) : Calls Tryd.prog 7 #[limV L] w fun e w' => e = .returned (limV L) ∧ Fr no w w' :=
  (PRiskPlays.straddlelaw24_Of.calls L.qty L.money L.orders L.qty L.money L.orders w rfl).mono fun e w' ⟨h, h2⟩ => ⟨h, Fr.of_below h2⟩
theorem radd_c (x y : Int) (x0 : 0 ≤ x) (x1 : x ≤ 9223372036854775807) (y0 : 0 ≤ y) (y1 : y ≤ 9223372036854775807) (w : World) : Calls Tryd.prog 18 #[.int .i64 x, .int .i64 y] w fun e w' => e = .returned (.tuple #[.int .i64 (if x + y ≤ 9223372036854775807 then x + y else 0), .int .i64 (if x + y ≤ 9223372036854775807 then 0 else 9)]) ∧ Fr no w w' := by
  refine (PRiskPlays.straddleref1_Add.calls x y _ _ w ?_).mono fun e w' ⟨h, h2⟩ => ⟨h, Fr.of_below h2.below⟩
  unfold PRiskPlays.straddleref1_Add.f
  have e1 : wrap64 (9223372036854775807 - y) = 9223372036854775807 - y := by unfold wrap64; omega
  rw [e1]
  by_cases h : x + y ≤ 9223372036854775807
  · have e2 : wrap64 (x + y) = x + y := by unfold wrap64; omega
    rw [if_pos h, if_pos h, e2, if_neg (show ¬ x > 9223372036854775807 - y by omega), if_neg (show ¬ y < 0 by omega)]
    split <;> rfl
  · rw [if_neg h, if_neg h, if_pos (show y > 0 by omega), if_pos (show x > 9223372036854775807 - y by omega)]
set_option maxRecDepth 100000 in
set_option maxHeartbeats 4000000 in
theorem rask_c (L : Lim) (u : Use) (p q : Int) (hu0 : 0 ≤ u.money) (hu1 : u.money ≤ 1125899906842624) (p0 : -9223372036854775808 ≤ p) (p1 : p ≤ 9223372036854775807) (q0 : -9223372036854775808 ≤ q) (q1 : q ≤ 9223372036854775807) (hlm : L.money ≤ 1125899906842624) (w : World) :
    Calls Tryd.prog 9 #[limV L, .int .i64 u.n, .int .i64 u.money, .int .i64 p, .int .i64 q] w fun e w' => e = .returned (.tuple #[.int .i64 (askF L u p q).2, .int .i64 (askF L u p q).1]) ∧ Fr no w w' := by
  obtain ⟨un, um⟩ := u
  obtain ⟨lq, lm, lo⟩ := L
  dsimp only at hu0 hu1 hlm
  have hfa := (Fr.refl no w).alloc (.cells #[.int .i64 lq, .int .i64 lm, .int .i64 lo] 31)
  have HX := Lib.hid (blk_new w (.cells #[.int .i64 lq, .int .i64 lm, .int .i64 lo] 31))
  have HF := Lib.hid hfa
  have hM := fun W => rmul_g p q p0 p1 q0 q1 W
  have hA := fun x W hx0 hx1 => radd_c x um hx0 hx1 hu0 (by omega) W
  clear hfa
  unfold limV
  dsimp only
  by_cases h1 : q < 1
  · have d1 : decide (q < 1) = true := by simpa using h1
    rw [askF_arg (.inl h1)]
    clear h1 p0 p1 q0 q1 hA hM HX
    go_enter Tryd.func9, Tryd.ntmps9
    go_wp2_with fail
    go_ret2
    exact ⟨rfl, HF.out⟩
  have d1 : decide (q < 1) = false := by simpa using h1
  by_cases h2 : p < 0
  · have d2 : decide (p < 0) = true := by simpa using h2
    rw [askF_arg (.inr h2)]
    clear h1 h2 p0 p1 q0 q1 hA hM HX
    go_enter Tryd.func9, Tryd.ntmps9
    go_wp2_with fail
    go_ret2
    exact ⟨rfl, HF.out⟩
  have d2 : decide (p < 0) = false := by simpa using h2
  by_cases h3 : lq < q
  · have d3 : decide (lq < q) = true := by simpa using h3
    rw [askF_qty (by omega) (by omega) h3]
    clear h1 h2 p0 p1 q0 q1 hA hM HX h3
    go_enter Tryd.func9, Tryd.ntmps9
    go_wp2_with fail
    go_ret2
    exact ⟨rfl, HF.out⟩
  have d3 : decide (lq < q) = false := by simpa using h3
  have hpos : 0 ≤ p * q := Int.mul_nonneg (by omega) (by omega)
  have HMM := Lib.hid (show mulF p q = if i64B (p * q) = true then (p * q, 0) else (0, 9) from rfl)
  obtain ⟨r, hr⟩ : ∃ r, p * q = r := ⟨_, rfl⟩
  by_cases h4 : i64B r = true
  · have e4 : mulF p q = (r, 0) := by rw [HMM.out, hr, if_pos h4]
    have h5 := i64B_t.1 h4
    rw [e4] at hM
    have HM := Lib.hid hM
    have hA2 := fun W => hA r W (by omega) (by omega)
    by_cases h6 : r + um ≤ 9223372036854775807
    · simp only [if_pos h6] at hA2
      have HA := Lib.hid hA2
      by_cases h7 : lm < r + um
      · have d7 : decide (lm < r + um) = true := by simpa using h7
        rw [askF_money (by omega) (by omega) (by show q ≤ lq; omega) (by show lm < um + p * q; rw [hr]; omega)]
        clear h1 h2 p0 p1 q0 q1 hA hM h3 HMM hr h4 e4 h5 h7 hA2 hpos
        go_enter Tryd.func9, Tryd.ntmps9
        go_wp2_with fail
        refine (HM.out _).mono ?_
        rintro e w1 ⟨rfl, hf1⟩
        have b0 := blk_cell (hf1.heap HX.out (fun h => h)) 0
        have b1 := blk_cell (hf1.heap HX.out (fun h => h)) 1
        have b2 := blk_cell (hf1.heap HX.out (fun h => h)) 2
        dsimp only
        go_wp2_with fail
        refine (HA.out _).mono ?_
        rintro e w2 ⟨rfl, hf2⟩
        have c0 := hf2.cell b0 (fun h => h)
        have c1 := hf2.cell b1 (fun h => h)
        have c2 := hf2.cell b2 (fun h => h)
        dsimp only
        go_wp2
        go_ret2
        exact ⟨rfl, HF.out.trans' (hf1.trans' hf2)⟩
      have d7 : decide (lm < r + um) = false := by simpa using h7
      by_cases h8 : lo ≤ un
      · have d8 : decide (lo ≤ un) = true := by simpa using h8
        rw [askF_full (by omega) (by omega) (by show q ≤ lq; omega) (by show um + p * q ≤ lm; rw [hr]; omega) h8]
        clear h1 h2 p0 p1 q0 q1 hA hM h3 HMM hr h4 e4 h5 h7 hA2 hpos h8
        go_enter Tryd.func9, Tryd.ntmps9
        go_wp2_with fail
        refine (HM.out _).mono ?_
        rintro e w1 ⟨rfl, hf1⟩
        have b0 := blk_cell (hf1.heap HX.out (fun h => h)) 0
        have b1 := blk_cell (hf1.heap HX.out (fun h => h)) 1
        have b2 := blk_cell (hf1.heap HX.out (fun h => h)) 2
        dsimp only
        go_wp2_with fail
        refine (HA.out _).mono ?_
        rintro e w2 ⟨rfl, hf2⟩
        have c0 := hf2.cell b0 (fun h => h)
        have c1 := hf2.cell b1 (fun h => h)
        have c2 := hf2.cell b2 (fun h => h)
        dsimp only
        go_wp2
        go_ret2
        exact ⟨rfl, HF.out.trans' (hf1.trans' hf2)⟩
      · have d8 : decide (lo ≤ un) = false := by simpa using h8
        rw [askF_ok (by omega) (by omega) (by show q ≤ lq; omega) (by show um + p * q ≤ lm; rw [hr]; omega) (by show un < lo; omega)]
        clear h1 h2 p0 p1 q0 q1 hA hM h3 HMM hr h4 e4 h5 h7 hA2 hpos h8
        go_enter Tryd.func9, Tryd.ntmps9
        go_wp2_with fail
        refine (HM.out _).mono ?_
        rintro e w1 ⟨rfl, hf1⟩
        have b0 := blk_cell (hf1.heap HX.out (fun h => h)) 0
        have b1 := blk_cell (hf1.heap HX.out (fun h => h)) 1
        have b2 := blk_cell (hf1.heap HX.out (fun h => h)) 2
        dsimp only
        go_wp2_with fail
        refine (HA.out _).mono ?_
        rintro e w2 ⟨rfl, hf2⟩
        have c0 := hf2.cell b0 (fun h => h)
        have c1 := hf2.cell b1 (fun h => h)
        have c2 := hf2.cell b2 (fun h => h)
        dsimp only
        go_wp2
        go_ret2
        exact ⟨rfl, HF.out.trans' (hf1.trans' hf2)⟩
    · simp only [if_neg h6] at hA2
      have HA := Lib.hid hA2
      rw [askF_money (by omega) (by omega) (by show q ≤ lq; omega) (by show lm < um + p * q; rw [hr]; omega)]
      clear h1 h2 p0 p1 q0 q1 hA hM h3 HMM hr h4 e4 h5 h6 hA2 hpos
      go_enter Tryd.func9, Tryd.ntmps9
      go_wp2_with fail
      refine (HM.out _).mono ?_
      rintro e w1 ⟨rfl, hf1⟩
      have b0 := blk_cell (hf1.heap HX.out (fun h => h)) 0
      have b1 := blk_cell (hf1.heap HX.out (fun h => h)) 1
      have b2 := blk_cell (hf1.heap HX.out (fun h => h)) 2
      dsimp only
      go_wp2_with fail
      refine (HA.out _).mono ?_
      rintro e w2 ⟨rfl, hf2⟩
      have c0 := hf2.cell b0 (fun h => h)
      have c1 := hf2.cell b1 (fun h => h)
      have c2 := hf2.cell b2 (fun h => h)
      dsimp only
      go_wp2
      go_ret2
      exact ⟨rfl, HF.out.trans' (hf1.trans' hf2)⟩
  · have e4 : mulF p q = (0, 9) := by rw [HMM.out, hr, if_neg h4]
    have h5 := i64B_f.1 (by simpa using h4)
    rw [e4] at hM
    have HM := Lib.hid hM
    rw [askF_money (by omega) (by omega) (by show q ≤ lq; omega) (by show lm < um + p * q; rw [hr]; omega)]
    clear h1 h2 p0 p1 q0 q1 hA hM h3 HMM hr h4 e4 h5 hpos
    go_enter Tryd.func9, Tryd.ntmps9
    go_wp2_with fail
    refine (HM.out _).mono ?_
    rintro e w1 ⟨rfl, hf1⟩
    have b0 := blk_cell (hf1.heap HX.out (fun h => h)) 0
    have b1 := blk_cell (hf1.heap HX.out (fun h => h)) 1
    have b2 := blk_cell (hf1.heap HX.out (fun h => h)) 2
    dsimp only
    go_wp2
    go_ret2
    exact ⟨rfl, HF.out.trans' hf1⟩
end Go.Proofs.YtdlefdlnnclcaaaDoor.Risk
