import Derived.Test.YtdkkdoadafhfmaaDoorGridN
/-! Contracts of package grid, over tables that may be: the next ones, how many. -/
set_option linter.unusedVariables false
set_option linter.unusedSimpArgs false
namespace Go.Proofs.YtdkkdoadafhfmaaDoor.Grid
open Go.RowKit Go.Proofs.YtdkkdoadafhfmaaDoorW.PrintWords Go.Proofs.YtdkkdoadafhfmaaDoor.B

def upF (t : List Step) (p : Int) : Int × Bool := if onF t p then (if 1000000 < p + (stp t (curI t p)).By then (0, false) else (p + (stp t (curI t p)).By, true)) else (0, false)
set_option maxHeartbeats 1000000 in
theorem up_c (A : Option Addr) (cap : Nat) (t : List Step) (p : Int) (hw : Wf t) (w : World) (hC : kStep.C w A t.length t) :
    Calls Tryd.prog 39 #[.slice A t.length cap, .int .i64 p] w fun e W' => e = .returned (.tuple #[.int .i64 (upF t p).1, .bool (upF t p).2]) ∧ Fr no w W' := by
  have hon := Lib.hid (on_c A cap t p hw w hC)
  have hT : t.length ≤ 1000000 := by have := hw.le; omega
  have hof := Lib.hid (fun (W : World) (h : kStep.C W A t.length t) => of_c A cap t p hT W h)
  by_cases ho : onF t p = true
  · obtain ⟨o1, o2, _⟩ := onF_true hw ho
    obtain ⟨k1, k2, k3⟩ := hw.cur o1
    obtain ⟨k5, k6⟩ := hw.by_ _ k1
    have k9 := hw.le
    clear k3
    have hu : upF t p = if 1000000 < p + (stp t (curI t p)).By then (0, false) else (p + (stp t (curI t p)).By, true) := by simp [upF, ho]
    rw [hu]
    clear hu
    by_cases hg : 1000000 < p + (stp t (curI t p)).By
    all_goals
      first | rw [if_pos hg] | rw [if_neg hg]
      go_enter Tryd.func39, Tryd.ntmps39
      go_wp2_with fail
      refine (hon.out).mono ?_
      rintro e w1 ⟨rfl, hf⟩
      go_wp2_with fail
      refine (hof.out _ (C_fr hC hf)).mono ?_
      rintro e w2 ⟨r, rfl, hr, hf2⟩
      obtain rfl := hw.of o1 hr
      replace hf := hf.trans' hf2
      obtain ⟨ad, rfl, hc1, hc2⟩ := cell_of_C (C_fr hC hf) (curI t p) k1
      clear hr hf2
      obtain ⟨s, hs⟩ : ∃ s, stp t (curI t p) = s := ⟨_, rfl⟩
      rw [hs] at k2 k5 k6 hc1 hc2 hg
      have HS := Lib.hid hs
      clear hs
      generalize curI t p = k at k1 hc1 hc2 ⊢
      go_wp2
      go_ret2
      exact ⟨by first | rfl | (rw [HS.out]; rfl), hf⟩
  · have ho' : onF t p = false := by simpa using ho
    have hu : upF t p = (0, false) := by simp [upF, ho']
    rw [hu]
    clear hu ho
    go_enter Tryd.func39, Tryd.ntmps39
    go_wp2_with fail
    refine (hon.out).mono ?_
    rintro e w1 ⟨rfl, hf⟩
    go_wp2
    go_ret2
    exact ⟨rfl, hf⟩

def downF (t : List Step) (p : Int) : Int × Bool := if onF t p && !(p == 1) then (nearF t (p - 1), true) else (0, false)
set_option maxHeartbeats 1000000 in
theorem down_c (A : Option Addr) (cap : Nat) (t : List Step) (p : Int) (hw : Wf t) (w : World) (hC : kStep.C w A t.length t) :
    Calls Tryd.prog 41 #[.slice A t.length cap, .int .i64 p] w fun e W' => e = .returned (.tuple #[.int .i64 (downF t p).1, .bool (downF t p).2]) ∧ Fr no w W' := by
  have hon := Lib.hid (on_c A cap t p hw w hC)
  have hnear := Lib.hid (fun (W : World) (h : kStep.C W A t.length t) => near_c A cap t (p - 1) hw W h)
  by_cases ho : onF t p = true
  · obtain ⟨o1, o2, _⟩ := onF_true hw ho
    by_cases h1 : p = 1
    · subst h1
      have hu : downF t 1 = (0, false) := by simp [downF]
      rw [hu]
      clear hu
      go_enter Tryd.func41, Tryd.ntmps41
      go_wp2_with fail
      refine (hon.out).mono ?_
      rintro e w1 ⟨rfl, hf⟩
      go_wp2
      go_ret2
      exact ⟨rfl, hf⟩
    · have hu : downF t p = (nearF t (p - 1), true) := by simp [downF, ho, h1]
      have he : (p == 1) = false := by simp [h1]
      have hb := hw.near_bd (show 1 ≤ p - 1 by omega)
      have hbd : decide (0 < nearF t (p - 1)) = true := by simp; omega
      rw [hu]
      clear hu h1
      go_enter Tryd.func41, Tryd.ntmps41
      go_wp2_with fail
      refine (hon.out).mono ?_
      rintro e w1 ⟨rfl, hf⟩
      go_wp2_with fail
      refine (hnear.out _ (C_fr hC hf)).mono ?_
      rintro e w2 ⟨rfl, hf2⟩
      go_wp2
      go_ret2
      exact ⟨rfl, hf.trans' hf2⟩
  · have ho' : onF t p = false := by simpa using ho
    have hu : downF t p = (0, false) := by simp [downF, ho']
    rw [hu]
    clear hu ho
    go_enter Tryd.func41, Tryd.ntmps41
    go_wp2_with fail
    refine (hon.out).mono ?_
    rintro e w1 ⟨rfl, hf⟩
    go_wp2
    go_ret2
    exact ⟨rfl, hf⟩
end Go.Proofs.YtdkkdoadafhfmaaDoor.Grid
