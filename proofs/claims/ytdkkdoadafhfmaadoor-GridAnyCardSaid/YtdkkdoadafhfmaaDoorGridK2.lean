import Derived.Test.YtdkkdoadafhfmaaDoorGridP
/-! (grid.Table).Check, and the law's own check of package grid. -/
set_option linter.unusedVariables false
set_option linter.unusedSimpArgs false
namespace Go.Proofs.YtdkkdoadafhfmaaDoor.Grid
open Go.RowKit Go.Proofs.YtdkkdoadafhfmaaDoorW.PrintWords Go.Proofs.YtdkkdoadafhfmaaDoor.B Go.Proofs.YtdkkdoadafhfmaaDoor.PGridAny Go.Proofs.YtdkkdoadafhfmaaDoorW.PrintMore

theorem step_ok (A : Option Addr) (cap : Nat) (t : List Step) (i : Nat) (hw : Wf t) (hi : i < t.length) (hcap : t.length ≤ cap) (w : World) (hC : kStep.C w A t.length t) :
    Calls Tryd.prog 67 #[.slice A t.length cap, .int .i64 i] w fun e w' => e = .returned (.int .i64 0) ∧ Fr no w w' := by
  have h8 := hw.le
  have b1 := hw.by_ i hi
  have g1 := hw.ge1 hi
  have t1 := hw.top i hi
  have key : grid_Table_step.f 2 (t.map toP) i = some 0 := by
    unfold grid_Table_step.f
    rw [if_pos (by omega), if_pos (by simpa using hi), rdP, if_neg (by simp [toP]; omega), if_neg (by simp [toP]; omega), decide_eq_false (by simp [toP]; omega)]
    simp only [grid_Table_step.j0]
    rw [if_neg (by simp)]
    rcases Nat.eq_zero_or_pos i with rfl | h0
    · rw [if_pos (by omega)]
      have : ((toP (stp t 0)).f0 != 1) = false := by simp [toP, hw.first]
      rw [this]
      simp only [grid_Table_step.j1]
      rw [if_neg (by simp), if_pos (by omega)]
    · obtain ⟨m, rfl⟩ : ∃ m, i = m + 1 := ⟨i - 1, by omega⟩
      have e2 : wrap64 (((m + 1 : Nat) : Int) - 1) = (m : Int) := by rw [w64 (by omega) (by omega)]; omega
      have i1 := hw.inc m hi
      have g2 := hw.ge1 (i := m) (by omega)
      have b2 := hw.by_ m (by omega)
      rw [if_neg (by omega)]
      simp only [grid_Table_step.j1]
      rw [if_neg (by simp), if_neg (by omega), e2, if_pos (by omega), if_pos (by simp; omega), rdP]
      rw [if_neg (by simp [toP]; omega), if_neg (by simp [toP]; omega)]
      have e3 : wrap64 ((toP (stp t (m + 1))).f0 - (toP (stp t m)).f0) = (stp t (m + 1)).From - (stp t m).From := w64 (by simp [toP]; omega) (by simp [toP]; omega)
      rw [e3, Int.tmod_eq_emod_of_nonneg (by omega), if_pos (by simpa [toP] using hw.div m hi)]
  have h := grid_Table_step.calls 2 A cap (t.map toP) i 0 w (by rw [List.length_map]; exact toP_C hC) (by rw [List.length_map]; exact hcap) key
  rw [List.length_map] at h
  exact h.mono fun e w' ⟨h1, h3⟩ => ⟨h1, Fr.of_below h3⟩

theorem check_ok (A : Option Addr) (cap : Nat) (t : List Step) (hw : Wf t) (hcap : t.length ≤ cap) (w : World) (hC : kStep.C w A t.length t) :
    Calls Tryd.prog 38 #[.slice A t.length cap] w fun e w' => e = .returned .nilIface ∧ Fr no w w' := by
  have hp := hw.pos
  have h8 := hw.le
  have h0 : ((t.length : Int) == 0) = false := by simp; intro h; rw [h] at hp; simp at hp
  have hst := Lib.hid (fun (i : Nat) (hi : i < t.length) (W : World) (h : kStep.C W A t.length t) => step_ok A cap t i hw hi hcap W h)
  go_enter Tryd.func38, Tryd.ntmps38
  go_wp2
  go_loopg [22] t.length (fun q i wr => ∃ (k : Nat), k + q = t.length ∧ i = .int .i64 k ∧ Fr no w wr)
  case atStart => exact ⟨0, by omega, rfl, Fr.refl _ _⟩
  case round =>
    obtain ⟨k, hk, rfl, hf⟩ := hrel
    by_cases hlt : k < t.length
    · go_wp2_with fail
      refine (hst.out k hlt _ (C_fr hC hf)).mono ?_
      rintro e w1 ⟨rfl, hf1⟩
      go_wp2
      go_roundg (t.length - (k + 1))
      case measure => omega
      case rel => exact ⟨k + 1, by omega, by go_num, hf.trans' hf1⟩
    · obtain rfl : k = t.length := by omega
      go_wp2
      go_ret
      exact ⟨rfl, hf⟩
theorem check_nil (w : World) :
    Calls Tryd.prog 38 #[.slice none 0 0] w fun e w' => (∃ v, e = .returned (.iface 100 v)) ∧ Fr no w w' := by
  go_enter Tryd.func38, Tryd.ntmps38
  go_wp2
  go_ret
  exact ⟨⟨_, rfl⟩, (Fr.refl _ _).alloc _⟩

def kt : List Step := [⟨1, 1⟩, ⟨101, 5⟩]
theorem kt_wf : Wf kt := by
  refine ⟨by decide, by decide, rfl, by decide, by decide, fun i hi => ?_, fun i hi => ?_⟩
  · obtain rfl : i = 0 := by have : i + 1 < 2 := hi; omega
    decide
  · obtain rfl : i = 0 := by have : i + 1 < 2 := hi; omega
    decide
set_option maxRecDepth 100000 in
set_option maxHeartbeats 2000000 in
theorem known_c (w : World) : Calls Tryd.prog 35 #[] w fun e w' => e = .returned (.bool true) ∧ Fr no w w' := by
  go_enter Tryd.func35, Tryd.ntmps35
  have hC : kStep.C (w.alloc (.cells #[.int .i64 1, .int .i64 1, .int .i64 101, .int .i64 5] 137)) (some ⟨w.heap.size, 0, none⟩) kt.length kt :=
    C_blk (heap_alloc_new w _) kt (by decide) (by decide) (((Reps.none _ _).snoc (p := ⟨1, 1⟩) (kStep_mk _ _) rfl).snoc (p := ⟨101, 5⟩) (kStep_mk _ _) rfl)
  have hf : Fr no w (w.alloc (.cells #[.int .i64 1, .int .i64 1, .int .i64 101, .int .i64 5] 137)) := (Fr.refl _ _).alloc _
  go_wp2_with fail
  refine (up_c _ 2 kt 100 kt_wf _ hC).mono ?_
  rintro e w1 ⟨rfl, hf1⟩
  replace hC := C_fr hC hf1
  replace hf := hf.trans' hf1
  have e1 : upF kt 100 = (101, true) := by decide
  rw [e1]
  clear hf1 e1
  go_wp2_with fail
  refine (down_c _ 2 kt 106 kt_wf _ hC).mono ?_
  rintro e w2 ⟨rfl, hf1⟩
  replace hC := C_fr hC hf1
  replace hf := hf.trans' hf1
  have e1 : downF kt 106 = (101, true) := by decide
  rw [e1]
  clear hf1 e1
  go_wp2_with fail
  refine (check_ok _ 2 kt kt_wf (by decide) _ hC).mono ?_
  rintro e w3 ⟨rfl, hf1⟩
  replace hC := C_fr hC hf1
  replace hf := hf.trans' hf1
  clear hf1
  go_wp2_with fail
  refine (on_c _ 2 kt 106 kt_wf _ hC).mono ?_
  rintro e w4 ⟨rfl, hf1⟩
  replace hC := C_fr hC hf1
  replace hf := hf.trans' hf1
  have e1 : onF kt 106 = true := by decide
  rw [e1]
  clear hf1 e1
  go_wp2_with fail
  refine (on_c _ 2 kt 105 kt_wf _ hC).mono ?_
  rintro e w5 ⟨rfl, hf1⟩
  replace hC := C_fr hC hf1
  replace hf := hf.trans' hf1
  have e1 : onF kt 105 = false := by decide
  rw [e1]
  clear hf1 e1
  go_wp2_with fail
  refine (count_c _ 2 kt 99 111 kt_wf (by decide) (by omega) (by omega) _ hC).mono ?_
  rintro e w6 ⟨rfl, hf1⟩
  replace hC := C_fr hC hf1
  replace hf := hf.trans' hf1
  have e1 : countF kt 99 111 = 5 := by decide
  rw [e1]
  clear hf1 e1
  go_wp2_with fail
  refine (near_c _ 2 kt 110 kt_wf _ hC).mono ?_
  rintro e w7 ⟨rfl, hf1⟩
  replace hf := hf.trans' hf1
  have e1 : nearF kt 110 = 106 := by decide
  rw [e1]
  clear hf1 e1 hC
  go_wp2_with fail
  refine (check_nil _).mono ?_
  rintro e w8 ⟨⟨v, rfl⟩, hf1⟩
  replace hf := hf.trans' hf1
  go_wp2
  go_ret
  exact ⟨rfl, hf⟩
end Go.Proofs.YtdkkdoadafhfmaaDoor.Grid
