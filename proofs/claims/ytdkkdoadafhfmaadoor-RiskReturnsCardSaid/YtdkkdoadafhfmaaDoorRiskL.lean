import Derived.Test.YtdkkdoadafhfmaaDoorRiskK
/-! RiskBounds, RiskReturns. -/
set_option linter.unusedVariables false
set_option linter.unusedSimpArgs false
namespace Go.Proofs.YtdkkdoadafhfmaaDoor.Risk
open Go.RowKit Go.Maps Go.Proofs.YtdkkdoadafhfmaaDoorW.PrintWords Go.Proofs.YtdkkdoadafhfmaaDoor.B Go.Proofs.YtdkkdoadafhfmaaDoor.Err

theorem askF_arg {L : Lim} {u : Use} {p q : Int} (h : q < 1 ∨ p < 0) : askF L u p q = (0, 1) := by unfold askF; rw [if_pos h]
theorem askF_qty {L : Lim} {u : Use} {p q : Int} (h1 : 1 ≤ q) (h2 : 0 ≤ p) (h : L.qty < q) : askF L u p q = (0, 9) := by unfold askF; rw [if_neg (by omega), if_pos h]
theorem askF_money {L : Lim} {u : Use} {p q : Int} (h1 : 1 ≤ q) (h2 : 0 ≤ p) (h3 : q ≤ L.qty) (h : L.money < u.money + p * q) : askF L u p q = (1, 9) := by unfold askF; rw [if_neg (by omega), if_neg (by omega), if_pos h]
theorem askF_full {L : Lim} {u : Use} {p q : Int} (h1 : 1 ≤ q) (h2 : 0 ≤ p) (h3 : q ≤ L.qty) (h4 : u.money + p * q ≤ L.money) (h : L.orders ≤ u.n) : askF L u p q = (2, 8) := by unfold askF; rw [if_neg (by omega), if_neg (by omega), if_neg (by omega), if_pos h]
theorem askF_ok {L : Lim} {u : Use} {p q : Int} (h1 : 1 ≤ q) (h2 : 0 ≤ p) (h3 : q ≤ L.qty) (h4 : u.money + p * q ≤ L.money) (h : u.n < L.orders) : askF L u p q = (0, 0) := by unfold askF; rw [if_neg (by omega), if_neg (by omega), if_neg (by omega), if_neg (by omega)]
theorem upd_zero (o : Int) : upd (fun _ => zUse) o ⟨0, 0⟩ = fun _ => zUse := by funext x; simp only [upd]; split <;> rfl

set_option maxRecDepth 100000 in
set_option maxHeartbeats 4000000 in
theorem bounds_c (w : World) (hg : ErrType w) (a b c : Int) (a0 : 0 ≤ a) (a1 : a < 256) (b0 : 0 ≤ b) (b1 : b < 256) (c0 : 0 ≤ c) (c1 : c < 256) : Calls Tryd.prog 9 #[.int .u8 a, .int .u8 b, .int .u8 c] w fun e w' => e = .returned (.bool true) ∧ Fr no w w' := by
  have HG := Lib.hid hg
  clear hg
  have m0 : 0 ≤ c % 20 := by omega
  have m1 : c % 20 < 20 := by omega
  go_enter Tryd.func9, Tryd.ntmps9
  go_wp2_with fail
  refine (known_c w HG.out).mono ?_
  rintro e w1 ⟨rfl, hf⟩
  dsimp only
  go_wp2_with fail
  refine (new_t (w0 := w) ⟨1 + a, 1 + b, 1 + c % 20⟩ ⟨by show (1 : Int) ≤ 1 + a; omega, by show 1 + a ≤ 1000000; omega, by show (1 : Int) ≤ 1 + b; omega, by show 1 + b ≤ 1125899906842624; omega, by show (1 : Int) ≤ 1 + c % 20; omega, by show 1 + c % 20 ≤ 4096; omega⟩ hf).mono ?_
  rintro e w2 ⟨B, M, rfl, h⟩
  clear hf
  dsimp only
  go_wp2_with fail
  refine (ask_good h 1 0 (1 + a) 0 (by decide) rfl zero_ok (by decide) (askF_ok (by omega) (by omega) (by show 1 + a ≤ 1 + a; omega) (by show (0 : Int) + 0 * (1 + a) ≤ 1 + b; omega) (by show (0 : Int) < 1 + c % 20; omega))).mono ?_
  rintro e w3 ⟨rfl, h2⟩
  clear h
  dsimp only
  go_wp2_with fail
  refine (ask_bad h2 1 0 _ 0 9 (by decide) rfl zero_ok (by decide) (askF_qty (by omega) (by omega) (by show 1 + a < 1 + a + 1; omega)) (by decide)).mono ?_
  rintro e w4 ⟨F, rfl, hFM, hF, h3⟩
  clear h2
  dsimp only
  go_wp2_with fail
  refine (at_c riskB 0 9 _).mono ?_
  rintro e w5 ⟨⟨G, rfl, hGl, hG⟩, hf⟩
  replace hF : FaultAt w5 F riskB 0 9 := hf.heap hF (fun h => h)
  replace h3 := h3.go hf
  clear hf
  dsimp only
  go_wp2_with fail
  refine (tells_c F G riskB 0 9 0 rfl (by omega) (by decide) (by decide) (by decide) _ (HG.out.fr h3.fr (fun h => h)) hF hG).mono ?_
  rintro e w6 ⟨rfl, hf⟩
  replace h3 := h3.go hf
  clear hf hF hG hGl hFM
  dsimp only
  go_wp2_with fail
  refine (ask_good h3 1 (1 + b) 1 0 (by decide) rfl zero_ok (by omega) (askF_ok (by omega) (by omega) (by show (1 : Int) ≤ 1 + a; omega) (by show (0 : Int) + (1 + b) * 1 ≤ 1 + b; omega) (by show (0 : Int) < 1 + c % 20; omega))).mono ?_
  rintro e w7 ⟨rfl, h4⟩
  clear h3
  dsimp only
  go_wp2_with fail
  refine (ask_bad h4 1 _ 1 1 9 (by decide) rfl zero_ok (by omega) (askF_money (by omega) (by omega) (by show (1 : Int) ≤ 1 + a; omega) (by show 1 + b < (0 : Int) + (1 + b + 1) * 1; omega)) (by decide)).mono ?_
  rintro e w8 ⟨F2, rfl, hFM, hF, h5⟩
  clear h4
  dsimp only
  go_wp2_with fail
  refine (at_c riskB 1 9 _).mono ?_
  rintro e w9 ⟨⟨G2, rfl, hGl, hG⟩, hf⟩
  replace hF : FaultAt w9 F2 riskB 1 9 := hf.heap hF (fun h => h)
  replace h5 := h5.go hf
  clear hf
  dsimp only
  go_wp2_with fail
  refine (tells_c F2 G2 riskB 1 9 1 rfl (by omega) (by decide) (by decide) (by decide) _ (HG.out.fr h5.fr (fun h => h)) hF hG).mono ?_
  rintro e w10 ⟨rfl, hf⟩
  replace h5 := h5.go hf
  clear hf hF hG hGl hFM
  dsimp only
  go_wp2
  go_loopg [12] (1 + c % 20).toNat (fun q i wr => ∃ j : Nat, j + q = (1 + c % 20).toNat ∧ i = .int .i64 (j : Int) ∧ Rk w wr B M j ⟨1 + a, 1 + b, 1 + c % 20⟩ (upd (fun _ => zUse) 1 ⟨(j : Int), 0⟩))
  case atStart => exact ⟨0, by omega, rfl, by rw [show (((0 : Nat) : Int)) = 0 by rfl, upd_zero]; exact h5⟩
  case round =>
    clear h5
    obtain ⟨j, hj, rfl, h⟩ := hrel
    by_cases hlt : (j : Int) < 1 + c % 20
    · have hdd : decide ((j : Int) < 1 + c % 20) = true := by simpa using hlt
      go_wp2_with fail
      refine (open_good h 1 0 1 0 ⟨((j + 1 : Nat) : Int), 0⟩ (by decide) (upd_same _ _ _) ⟨by show (0 : Int) ≤ (j : Int); omega, by show (j : Int) ≤ 4096; omega, by show (0 : Int) ≤ 0; omega, by show (0 : Int) ≤ 1125899906842624; omega⟩ (by decide) (by omega) (askF_ok (by omega) (by omega) (by show (1 : Int) ≤ 1 + a; omega) (by show (0 : Int) + 0 * 1 ≤ 1 + b; omega) (by show (j : Int) < 1 + c % 20; omega)) rfl).mono ?_
      rintro e w11 ⟨rfl, h6, _⟩
      rw [upd_upd] at h6
      clear h
      dsimp only
      go_wp2
      go_roundg ((1 + c % 20).toNat - (j + 1))
      case measure => omega
      case rel => exact ⟨j + 1, by omega, by go_num, h6⟩
    · have hdd : decide ((j : Int) < 1 + c % 20) = false := by simpa using hlt
      have hjm : (j : Int) = 1 + c % 20 := by omega
      have HJ := Lib.hid hjm
      have hj2 : (j : Int) ≤ 20 := by omega
      clear hlt hj hjm
      have huk : UseOk ⟨(j : Int), 0⟩ := ⟨by show (0 : Int) ≤ (j : Int); omega, by show (j : Int) ≤ 4096; omega, by show (0 : Int) ≤ 0; omega, by show (0 : Int) ≤ 1125899906842624; omega⟩
      go_wp2_with fail
      refine (open_bad h 1 0 1 2 8 (by decide) (upd_same _ _ _) huk (by decide) (askF_full (by omega) (by omega) (by show (1 : Int) ≤ 1 + a; omega) (by show (0 : Int) + 0 * 1 ≤ 1 + b; omega) (by have := HJ.out; show 1 + c % 20 ≤ (j : Int); omega)) (by decide)).mono ?_
      rintro e w11 ⟨F3, rfl, hFM, hF, h6⟩
      clear h
      dsimp only
      go_wp2_with fail
      refine (at_c riskB 2 8 _).mono ?_
      rintro e w12 ⟨⟨G3, rfl, hGl, hG⟩, hf⟩
      replace hF : FaultAt w12 F3 riskB 2 8 := hf.heap hF (fun h => h)
      replace h6 := h6.go hf
      clear hf
      dsimp only
      go_wp2_with fail
      refine (tells_c F3 G3 riskB 2 8 2 rfl (by omega) (by decide) (by decide) (by decide) _ (HG.out.fr h6.fr (fun h => h)) hF hG).mono ?_
      rintro e w13 ⟨rfl, hf⟩
      replace h6 := h6.go hf
      clear hf hF hG hGl hFM
      dsimp only
      go_wp2_with fail
      refine (open_good (u := zUse) h6 2 0 1 0 ⟨1, 0⟩ (by decide) (upd_other _ _ (by decide)) zero_ok (by decide) (by omega) (askF_ok (by omega) (by omega) (by show (1 : Int) ≤ 1 + a; omega) (by show (0 : Int) + 0 * 1 ≤ 1 + b; omega) (by show (0 : Int) < 1 + c % 20; omega)) rfl).mono ?_
      rintro e w14 ⟨rfl, h7, _⟩
      clear h6
      dsimp only
      go_wp2_with fail
      refine (ask_bad (u := zUse) h7 3 0 0 0 1 (by decide) (by rw [upd_other _ _ (by decide), upd_other _ _ (by decide)]) zero_ok (by decide) (askF_arg (by omega)) (by decide)).mono ?_
      rintro e w15 ⟨F4, rfl, hFM, hF, h8⟩
      clear h7
      dsimp only
      go_wp2_with fail
      refine (at_c riskB 0 1 _).mono ?_
      rintro e w16 ⟨⟨G4, rfl, hGl, hG⟩, hf⟩
      replace hF : FaultAt w16 F4 riskB 0 1 := hf.heap hF (fun h => h)
      replace h8 := h8.go hf
      clear hf
      dsimp only
      go_wp2_with fail
      refine (tells_c F4 G4 riskB 0 1 0 rfl (by omega) (by decide) (by decide) (by decide) _ (HG.out.fr h8.fr (fun h => h)) hF hG).mono ?_
      rintro e w17 ⟨rfl, hf⟩
      replace h8 := h8.go hf
      clear hf hF hG hGl hFM
      dsimp only
      go_wp2
      go_ret
      exact ⟨rfl, h8.fr⟩
theorem bounds_row (w : World) (hL : laidMetH Tryd.prog [("errors.errorType", Rows.laid_errors_errorType)] w) (a b c : Int) (h1 : (Lit.int .u8 a).wf = true) (h2 : (Lit.int .u8 b).wf = true) (h3 : (Lit.int .u8 c).wf = true) : Calls Tryd.prog 9 #[.int .u8 a, .int .u8 b, .int .u8 c] w fun e w' => e = .returned (.bool true) ∧ Fr no w w' := by
  have k1 := Go.bounds_u8 h1
  have k2 := Go.bounds_u8 h2
  have k3 := Go.bounds_u8 h3
  exact bounds_c w (errType_of_laid hL) a b c (by omega) (by omega) (by omega) (by omega) (by omega) (by omega)
end Go.Proofs.YtdkkdoadafhfmaaDoor.Risk
