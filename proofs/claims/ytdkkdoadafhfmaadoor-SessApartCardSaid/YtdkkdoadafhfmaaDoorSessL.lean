import Derived.Test.YtdkkdoadafhfmaaDoorSessK
import Derived.OpenShut
/-! SessTurns, SessLate. -/
set_option linter.unusedVariables false
set_option linter.unusedSimpArgs false
namespace Go.Proofs.YtdkkdoadafhfmaaDoor.Sess
open Go.RowKit Go.Proofs.YtdkkdoadafhfmaaDoorW.PrintWords Go.Proofs.YtdkkdoadafhfmaaDoor.B Go.Proofs.YtdkkdoadafhfmaaDoor.Err

def P7 (x : Ses) : Nat → Ses := put (fun _ => zSes) 7 x
theorem p7_at (x : Ses) : P7 x 7 = x := put_same _ _ _
theorem p7_put (x y : Ses) : put (P7 x) 7 y = P7 y := put_put _ _ _ _
set_option maxRecDepth 100000 in
set_option maxHeartbeats 4000000 in
theorem turns_c (w : World) (hg : ErrType w) (n other : Int) (n0 : 0 ≤ n) (n1 : n < 256) : Calls Tryd.prog 4 #[.int .u8 n, .int .i64 other] w fun e w' => e = .returned (.bool true) ∧ Fr no w w' := by
  have HG := Lib.hid hg
  clear hg
  have m0 : 0 ≤ n % 40 := by omega
  have m1 : n % 40 < 40 := by omega
  go_enter Tryd.func4, Tryd.ntmps4
  go_wp2_with fail
  refine (known_c w HG.out).mono ?_
  rintro e w1 ⟨rfl, hf⟩
  dsimp only
  go_wp2_with fail
  refine (new_t (w0 := w) 100 (by omega) (by omega) hf).mono ?_
  rintro e w2 ⟨B, rfl, h⟩
  clear hf
  dsimp only
  go_wp2_with fail
  refine (in_t (S' := P7 ⟨true, 1, 0, 0⟩) h 7 7 zSes rfl (by omega) (by omega) 1 1 0 rfl (by decide) (by decide) rfl rfl rfl rfl).mono ?_
  rintro e w3 ⟨rfl, h2, _⟩
  clear h
  dsimp only
  go_wp2
  go_loopg [7] (n % 40).toNat (fun q i wr => ∃ j : Nat, j + q = (n % 40).toNat ∧ i = .int .i64 ((j : Int) + 2) ∧ St w wr B 100 (P7 ⟨true, (j : Int) + 1, 0, 0⟩))
  case atStart => exact ⟨0, by omega, rfl, h2⟩
  case round =>
    clear h2
    obtain ⟨j, hj, rfl, h⟩ := hrel
    by_cases hlt : (j : Int) < n % 40
    · have hdd : decide ((j : Int) + 2 < 2 + n % 40) = true := by simp; omega
      by_cases ho : other = (j : Int) + 2
      · subst ho
        have hne : ((j : Int) + 2 != (j : Int) + 2) = false := by simp
        go_wp2_with fail
        refine (next_t h 7 7 ((j : Int) + 2) rfl (by omega) (by omega) (by rw [p7_at]; show 0 ≤ (j : Int) + 1; omega) (by rw [p7_at]; show (j : Int) + 1 ≤ 1000000; omega) (by rw [p7_at]; show (j : Int) + 2 = (j : Int) + 1 + 1; omega)).mono ?_
        rintro e w4 ⟨rfl, rfl⟩
        dsimp only
        go_wp2_with fail
        refine (in_t (S' := P7 ⟨true, ((j + 1 : Nat) : Int) + 1, 0, 0⟩) h 7 7 ⟨true, (j : Int) + 1, 0, 0⟩ rfl (by omega) (by omega) 2 _ 0 (p7_at _) (by show 0 ≤ (j : Int) + 1; omega) (by show (j : Int) + 1 ≤ 1000000; omega) rfl (by show (j : Int) + 2 = (j : Int) + 1 + 1; omega) rfl (by rw [p7_put]; rfl)).mono ?_
        rintro e w5 ⟨rfl, h2, _⟩
        clear h
        dsimp only
        go_wp2
        go_roundg ((n % 40).toNat - (j + 1))
        case measure => omega
        case rel => exact ⟨j + 1, by omega, by go_num, h2⟩
      · have hne : (other != (j : Int) + 2) = true := by simp [ho]
        have HO := Lib.hid ho
        clear ho
        go_wp2_with fail
        refine (seq_t h 7 7 ⟨true, (j : Int) + 1, 0, 0⟩ rfl (by omega) (by omega) 2 other 0 (p7_at _) (by show 0 ≤ (j : Int) + 1; omega) (by show (j : Int) + 1 ≤ 1000000; omega) rfl (by have := HO.out; show other ≠ (j : Int) + 1 + 1; omega)).mono ?_
        rintro e w4 ⟨F, rfl, _, _, h0⟩
        replace h := h0
        clear h0
        dsimp only
        go_wp2_with fail
        refine (next_t h 7 7 ((j : Int) + 2) rfl (by omega) (by omega) (by rw [p7_at]; show 0 ≤ (j : Int) + 1; omega) (by rw [p7_at]; show (j : Int) + 1 ≤ 1000000; omega) (by rw [p7_at]; show (j : Int) + 2 = (j : Int) + 1 + 1; omega)).mono ?_
        rintro e w6 ⟨rfl, rfl⟩
        dsimp only
        go_wp2_with fail
        refine (in_t (S' := P7 ⟨true, ((j + 1 : Nat) : Int) + 1, 0, 0⟩) h 7 7 ⟨true, (j : Int) + 1, 0, 0⟩ rfl (by omega) (by omega) 2 _ 0 (p7_at _) (by show 0 ≤ (j : Int) + 1; omega) (by show (j : Int) + 1 ≤ 1000000; omega) rfl (by show (j : Int) + 2 = (j : Int) + 1 + 1; omega) rfl (by rw [p7_put]; rfl)).mono ?_
        rintro e w5 ⟨rfl, h2, _⟩
        clear h
        dsimp only
        go_wp2
        go_roundg ((n % 40).toNat - (j + 1))
        case measure => omega
        case rel => exact ⟨j + 1, by omega, by go_num, h2⟩
    · have hjm : (j : Int) = n % 40 := by omega
      have hdd : decide ((j : Int) + 2 < 2 + n % 40) = false := by simp; omega
      have HJ := Lib.hid hjm
      clear hlt hj hjm
      go_wp2_with fail
      refine (on_t h 7 7 true rfl (by omega) (by omega) (by rw [p7_at])).mono ?_
      rintro e w4 ⟨rfl, rfl⟩
      dsimp only
      go_wp2_with fail
      refine (next_t h 7 7 (2 + n % 40) rfl (by omega) (by omega) (by rw [p7_at]; show 0 ≤ (j : Int) + 1; omega) (by rw [p7_at]; have := HJ.out; show (j : Int) + 1 ≤ 1000000; omega) (by rw [p7_at]; have := HJ.out; show 2 + n % 40 = (j : Int) + 1 + 1; omega)).mono ?_
      rintro e w4 ⟨rfl, rfl⟩
      dsimp only
      go_wp2
      go_ret
      exact ⟨rfl, h.f⟩
theorem turns_row (w : World) (hL : laidMetH Tryd.prog [("errors.errorType", Rows.laid_errors_errorType)] w) (n other : Int) (h1 : (Lit.int .u8 n).wf = true) (h2 : (Lit.int .i64 other).wf = true) : Calls Tryd.prog 4 #[.int .u8 n, .int .i64 other] w fun e w' => e = .returned (.bool true) ∧ Fr no w w' := by
  have hb := Go.bounds_u8 h1
  exact turns_c w (errType_of_laid hL) n other (by omega) (by omega)

/-- Two sessions. -/
def P2 (x y : Ses) : Nat → Ses := put (put (fun _ => zSes) 1 x) 2 y
theorem p2_one (x y : Ses) : P2 x y 1 = x := by unfold P2; rw [put_other _ _ (by omega), put_same]
theorem p2_two (x y : Ses) : P2 x y 2 = y := put_same _ _ _
theorem p2_put2 (x y z : Ses) : put (P2 x y) 2 z = P2 x z := put_put _ _ _ _
theorem put_comm (S : Nat → Ses) {n m : Nat} (x y : Ses) (h : n ≠ m) : put (put S n x) m y = put (put S m y) n x := by
  funext k
  simp only [put]
  split
  · rw [if_neg (by omega)]
  · rfl
theorem p2_put1 (x y z : Ses) : put (P2 x y) 1 z = P2 z y := by unfold P2; rw [put_comm _ _ _ (by omega), put_put]
theorem p2_last (x y : Ses) (h1 : 0 ≤ x.last) (h2 : x.last ≤ 1000000) (h3 : 0 ≤ y.last) (h4 : y.last ≤ 1000000) (n : Nat) : 0 ≤ (P2 x y n).last ∧ (P2 x y n).last ≤ 1000000 := by
  unfold P2 put
  split
  · exact ⟨h3, h4⟩
  · split
    · exact ⟨h1, h2⟩
    · exact ⟨show (0 : Int) ≤ 0 by decide, show (0 : Int) ≤ 1000000 by decide⟩
theorem ids_two (a b c d e f : Int) : ids (P2 ⟨true, a, b, c⟩ ⟨true, d, e, f⟩) 65 = [1, 2] := by kernel_rfl
theorem late_two (t u : Int) (h1 : 1 ≤ t) (hu : 0 ≤ u) : lateF t (50 + u) (ids (P2 ⟨true, 1, 0, 50⟩ ⟨true, 2, 0, 50 + u⟩) 65) (P2 ⟨true, 1, 0, 50⟩ ⟨true, 2, 0, 50 + u⟩) =
    (P2 ⟨!decide (t ≤ u), 1, 0, 50⟩ ⟨true, 2, 0, 50 + u⟩, if t ≤ u then [1] else []) := by
  rw [ids_two]
  have e2 : lateB t (50 + u) (50 + u) = false := by simp [lateB]
  by_cases h : t ≤ u
  · have e1 : lateB t 50 (50 + u) = true := by simp [lateB]; omega
    simp only [lateF, show (1 : Int).toNat = 1 by rfl, show (2 : Int).toNat = 2 by rfl, p2_one, p2_two, p2_put1, e1, e2, h, if_pos, decide_true]
    rfl
  · have e1 : lateB t 50 (50 + u) = false := by simp [lateB]; omega
    simp only [lateF, show (1 : Int).toNat = 1 by rfl, show (2 : Int).toNat = 2 by rfl, p2_one, p2_two, p2_put1, e1, e2, h, if_neg, decide_false]
    rfl
set_option maxRecDepth 100000 in
set_option maxHeartbeats 4000000 in
theorem slate_c (w : World) (hg : ErrType w) (t u : Int) (t0 : 0 ≤ t) (t1 : t < 256) (u0 : 0 ≤ u) (u1 : u < 256) : Calls Tryd.prog 5 #[.int .u8 t, .int .u8 u] w fun e w' => e = .returned (.bool true) ∧ Fr no w w' := by
  have HG := Lib.hid hg
  clear hg
  go_enter Tryd.func5, Tryd.ntmps5
  go_wp2_with fail
  refine (known_c w HG.out).mono ?_
  rintro e w1 ⟨rfl, hf⟩
  dsimp only
  go_wp2_with fail
  refine (new_t (w0 := w) (1 + t) (by omega) (by omega) hf).mono ?_
  rintro e w2 ⟨B, rfl, h⟩
  clear hf
  dsimp only
  go_wp2_with fail
  refine (in_t (S' := put (fun _ => zSes) 1 ⟨true, 1, 0, 50⟩) h 1 1 zSes rfl (by omega) (by omega) 1 1 50 rfl (by decide) (by decide) rfl rfl rfl rfl).mono ?_
  rintro e w3 ⟨rfl, h2, _⟩
  clear h
  dsimp only
  go_wp2_with fail
  refine (in_t (S' := P2 ⟨true, 1, 0, 50⟩ ⟨true, 1, 0, 50⟩) h2 2 2 zSes rfl (by omega) (by omega) 1 1 50 rfl (by decide) (by decide) rfl rfl rfl rfl).mono ?_
  rintro e w4 ⟨rfl, h3, _⟩
  clear h2
  dsimp only
  go_wp2_with fail
  refine (in_t (S' := P2 ⟨true, 1, 0, 50⟩ ⟨true, 2, 0, 50 + u⟩) h3 2 2 ⟨true, 1, 0, 50⟩ rfl (by omega) (by omega) 2 2 (50 + u) (p2_two _ _) (by decide) (by decide) rfl rfl rfl (p2_put2 _ _ _)).mono ?_
  rintro e w5 ⟨rfl, h4, _⟩
  clear h3
  dsimp only
  go_wp2_with fail
  have hlt := late_two (1 + t) u (by omega) u0
  by_cases hle : 1 + t ≤ u
  · rw [if_pos hle] at hlt
    have hd : decide (1 + t ≤ u) = true := by simpa using hle
    rw [hd] at hlt
    have HLT := Lib.hid hlt
    clear hlt
    refine (late_t (S' := P2 ⟨false, 1, 0, 50⟩ ⟨true, 2, 0, 50 + u⟩) h4 (by omega) (by omega) (50 + u) (by omega) (by omega) (p2_last _ _ (by decide) (by decide) (by show 0 ≤ 50 + u; omega) (by show 50 + u ≤ 1000000; omega)) [1] 1 rfl HLT.out).mono ?_
    rintro e w6 ⟨⟨A, rfl, hC⟩, h5, _⟩
    obtain ⟨ad, rfl, hc⟩ := i64_el hC 0 (by decide)
    have hc2 : w6.cell? ad = some (.int .i64 1) := by simpa [Addr.add] using hc
    clear h4 hC HLT
    dsimp only
    go_wp2_with fail
    refine (on_t h5 1 1 false rfl (by omega) (by omega) (by rw [p2_one])).mono ?_
    rintro e w7 ⟨rfl, rfl⟩
    dsimp only
    go_wp2_with fail
    refine (on_t h5 2 2 true rfl (by omega) (by omega) (by rw [p2_two])).mono ?_
    rintro e w7 ⟨rfl, rfl⟩
    dsimp only
    go_wp2
    go_ret
    exact ⟨rfl, h5.f⟩
  · rw [if_neg hle] at hlt
    have hd : decide (1 + t ≤ u) = false := by simpa using hle
    rw [hd] at hlt
    have HLT := Lib.hid hlt
    clear hlt hle
    refine (late_t (S' := P2 ⟨true, 1, 0, 50⟩ ⟨true, 2, 0, 50 + u⟩) h4 (by omega) (by omega) (50 + u) (by omega) (by omega) (p2_last _ _ (by decide) (by decide) (by show 0 ≤ 50 + u; omega) (by show 50 + u ≤ 1000000; omega)) [] 0 rfl HLT.out).mono ?_
    rintro e w6 ⟨⟨A, rfl, hC⟩, h5, _⟩
    clear h4 hC HLT
    dsimp only
    go_wp2_with fail
    refine (on_t h5 1 1 true rfl (by omega) (by omega) (by rw [p2_one])).mono ?_
    rintro e w7 ⟨rfl, rfl⟩
    dsimp only
    go_wp2_with fail
    refine (on_t h5 2 2 true rfl (by omega) (by omega) (by rw [p2_two])).mono ?_
    rintro e w7 ⟨rfl, rfl⟩
    dsimp only
    go_wp2
    go_ret
    exact ⟨rfl, h5.f⟩
theorem slate_row (w : World) (hL : laidMetH Tryd.prog [("errors.errorType", Rows.laid_errors_errorType)] w) (t u : Int) (h1 : (Lit.int .u8 t).wf = true) (h2 : (Lit.int .u8 u).wf = true) : Calls Tryd.prog 5 #[.int .u8 t, .int .u8 u] w fun e w' => e = .returned (.bool true) ∧ Fr no w w' := by
  have hb := Go.bounds_u8 h1
  have hc := Go.bounds_u8 h2
  exact slate_c w (errType_of_laid hL) t u (by omega) (by omega) (by omega) (by omega)
end Go.Proofs.YtdkkdoadafhfmaaDoor.Sess
