import Derived.Test.YtinkdgfdnagplaaDoorFrK
import Derived.Test.YtinkdgfdnagplaaDoorErrLaid
/-! Walk of FrameLengths. -/
set_option linter.unusedVariables false
set_option linter.unusedSimpArgs false
namespace Go.Proofs.YtinkdgfdnagplaaDoor.Frame
open Go.RowKit Go.Proofs.YtinkdgfdnagplaaDoorW.PrintWords Go.Proofs.YtinkdgfdnagplaaDoor.B Go.Proofs.YtinkdgfdnagplaaDoor.Crc Go.Proofs.YtinkdgfdnagplaaDoor.Err

def zs (m : Nat) : List Int := List.replicate m 0
theorem zs_len (m : Nat) : (zs m).length = m := List.length_replicate
theorem zs_bytes (m : Nat) (hm : m ≤ 100000) : Bytes [zs m] := fun p hp => by
  simp only [List.mem_singleton] at hp
  subst hp
  exact ⟨by rw [zs_len]; exact hm, fun x hx => by rw [List.eq_of_mem_replicate hx]; decide⟩
theorem zs_C (W : World) (m : Nat) (hm : m ≤ 100000) : (Kd.int .u8).C (W.alloc (.cells (madeCells #[.int .u8 0] m) 5)) (some ⟨W.heap.size, 0, none⟩) (zs m).length (zs m) := by
  have ho := own_made W 0 5 .u8 m (Nat.zero_le _) (by omega)
  have hR : (Kd.int .u8).R 5 (W.alloc (.cells (madeCells #[.int .u8 0] m) 5)) 0 (fun _ => True) (.slice (some ⟨W.heap.size, 0, none⟩) m m) (zs m) := Kd.R_of_own (by rw [zs_len]; exact ho) (fun _ _ => trivial)
  have := (Kd.R_reads' hR).2.2
  exact this
set_option maxRecDepth 100000 in
set_option maxHeartbeats 8000000 in
theorem len_out (w : World) (n : Int) (hn : n < 1000 ∨ 1050 < n) : Calls Tryd.prog 5 #[.int .i64 n] w fun e w' => e = .returned (.bool true) ∧ Fr no w w' := by
  have hd : decide (n < 1000) = true ∨ decide (n < 1000) = false ∧ decide (1050 < n) = true := by
    by_cases h : n < 1000
    · exact .inl (by simp [h])
    · exact .inr ⟨by simp [h], by simp; omega⟩
  clear hn
  rcases hd with d1 | ⟨d1, d2⟩
  all_goals
    go_enter Tryd.func5, Tryd.ntmps5
    go_wp2_with fail
    refine (known_c w).mono ?_
    rintro e w1 ⟨rfl, hf⟩
    dsimp only
    go_wp2
    go_ret
    exact ⟨rfl, hf⟩
set_option maxRecDepth 100000 in
set_option maxHeartbeats 8000000 in
theorem len_big (w : World) (hg : ErrType w) (m : Nat) (h1 : 1024 < m) (h2 : m ≤ 1050) : Calls Tryd.prog 5 #[.int .i64 (m : Int)] w fun e w' => e = .returned (.bool true) ∧ Fr no w w' := by
  have d1 : decide ((m : Int) < 1000) = false := by simp; omega
  have d2 : decide ((1050 : Int) < (m : Int)) = false := by simp; omega
  have d3 : decide ((1024 : Int) < (m : Int)) = true := by simp; omega
  have HG := Lib.hid hg
  clear hg
  go_enter Tryd.func5, Tryd.ntmps5
  go_wp2_with fail
  refine (known_c w).mono ?_
  rintro e w1 ⟨rfl, hf⟩
  have hmk := mk8 m (by omega) w1
  dsimp only
  go_wp2_with fail
  refine (wrap_no _ m m h1 _).mono ?_
  rintro e w2 ⟨⟨F, rfl, hF⟩, hf2⟩
  have HF := Lib.hid (hf.trans' (((Fr.refl no w1).alloc _).trans' hf2))
  clear hmk hf hf2
  dsimp only
  go_wp2_with fail
  refine (at_c frW 0 4 w2).mono ?_
  rintro e w3 ⟨⟨G, rfl, _, hG⟩, hf3⟩
  have hF3 : FaultAt w3 F frW 0 4 := hf3.heap hF (fun h => h)
  have HF3 := Lib.hid (HF.out.trans' hf3)
  clear hF hf3
  dsimp only
  go_wp2_with fail
  refine (tells_c F G frW 0 4 0 rfl (by decide) (by decide) (by decide) (by decide) w3 (HG.out.fr HF3.out (fun h => h)) hF3 hG).mono ?_
  rintro e w4 ⟨rfl, hf4⟩
  dsimp only
  go_wp2
  go_ret
  exact ⟨rfl, HF3.out.trans' hf4⟩
set_option maxRecDepth 100000 in
set_option maxHeartbeats 8000000 in
theorem len_in (w : World) (m : Nat) (h1 : 1000 ≤ m) (h2 : m ≤ 1024) : Calls Tryd.prog 5 #[.int .i64 (m : Int)] w fun e w' => e = .returned (.bool true) ∧ Fr no w w' := by
  have d1 : decide ((m : Int) < 1000) = false := by simp; omega
  have d2 : decide ((1050 : Int) < (m : Int)) = false := by simp; omega
  have d3 : decide ((1024 : Int) < (m : Int)) = false := by simp; omega
  go_enter Tryd.func5, Tryd.ntmps5
  go_wp2_with fail
  refine (known_c w).mono ?_
  rintro e w1 ⟨rfl, hf⟩
  have hmk := mk8 m (by omega) w1
  dsimp only
  go_wp2_with fail
  have hwr := wrap_yes (some ⟨w1.heap.size, 0, none⟩) m (zs m) (zs_bytes m (by omega)) (by rw [zs_len]; exact h2) (by rw [zs_len]; exact Nat.le_refl _) _ (zs_C w1 m (by omega))
  rw [zs_len] at hwr
  refine hwr.mono ?_
  clear hwr
  rintro e w2 ⟨⟨A2, c2, rfl, hR⟩, hf2⟩
  have HF := Lib.hid (hf.trans' (((Fr.refl no w1).alloc _).trans' hf2))
  obtain ⟨hc1, hc2⟩ := R_cap hR
  have hC := (Kd.R_reads' hR).2.2
  have hal := all_c A2 c2 (fr (zs m)) [zs m] w2 hC (by rw [fr_len, zs_len]; exact hc1) (fun p hp => by
    simp only [List.mem_singleton] at hp
    subst hp
    exact ⟨by rw [fr_len, zs_len]; omega, fr_bytes (zs_bytes m (by omega)) (by rw [zs_len]; exact h2)⟩) (by rw [fr_len]; omega) (by
    have := Pz.one (zs m) [] [] [] (zs_bytes m (by omega)) (by rw [zs_len]; exact h2) (.short [] (by decide))
    rwa [List.append_nil] at this)
  rw [fr_len, zs_len] at hal
  have HAL := Lib.hid hal
  clear hmk hf hf2 hR hC hal
  dsimp only
  go_wp2_with fail
  refine HAL.out.mono ?_
  rintro e w3 ⟨⟨A3, rfl, hr⟩, hf3⟩
  obtain ⟨ad, rfl, hcells⟩ := hr.2.2 (show 0 < 1 by decide)
  obtain ⟨cs, _, ⟨Ae, ce, rfl, _⟩, hce⟩ := hcells 0 (zs m) rfl
  have hc6 : w3.cell? ad = some (.slice Ae m ce) := by
    have := hce 0 _ rfl
    rw [zs_len] at this
    exact this
  have HF3 := Lib.hid (HF.out.trans' hf3)
  have e1 : IntKind.i64.wrap ((m : Int) + 6) = (m : Int) + 6 := IntWalk.i64_in _ (by omega)
  clear hr hcells hce hf3 HAL
  dsimp only
  go_wp2
  go_ret
  exact ⟨by first | rfl | simp, HF3.out⟩
theorem len_row (w : World) (hL : laidMetH Tryd.prog [("errors.errorType", Rows.laid_errors_errorType)] w) (n : Int) (hn : (Lit.int .i64 n).wf = true) :
    Calls Tryd.prog 5 #[.int .i64 n] w fun e w' => e = .returned (.bool true) ∧ Fr no w w' := by
  have h' : laidMet Tryd.prog _ w ∧ handlesMet Tryd.prog [("errors.errorType", Rows.laid_errors_errorType)] w := hL
  by_cases h : n < 1000 ∨ 1050 < n
  · exact len_out w n h
  obtain ⟨m, rfl⟩ : ∃ m : Nat, n = m := ⟨n.toNat, by omega⟩
  by_cases h2 : 1024 < m
  · exact len_big w (errType_of_handles h'.2) m h2 (by omega)
  · exact len_in w m (by omega) (by omega)
end Go.Proofs.YtinkdgfdnagplaaDoor.Frame
