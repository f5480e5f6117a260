import Derived.Test.YtdkkdoadafhfmaaDoorGridR
import Derived.Test.YtdkkdoadafhfmaaDoorErrTells
/-! Contracts: the reference's functions of a grid; what is wrong with a table, told by both. -/
set_option linter.unusedVariables false
set_option linter.unusedSimpArgs false
namespace Go.Proofs.YtdkkdoadafhfmaaDoor.Grid
open Go.RowKit Go.Proofs.YtdkkdoadafhfmaaDoorW.PrintWords Go.Proofs.YtdkkdoadafhfmaaDoor.B Go.Proofs.YtdkkdoadafhfmaaDoor.PGridAny Go.Proofs.YtdkkdoadafhfmaaDoorW.PrintMore Go.Proofs.YtdkkdoadafhfmaaDoor.Err

theorem field_by (w : World) (a b : Int) : (Instr.field 138 (.agg #[.int .i64 a, .int .i64 b]) 1).run Tryd.prog w = .ok (.int .i64 b) w := by kernel_rfl
attribute [local go_sem] field_by
abbrev RC (w : World) (A : Option Addr) (t : List Step) : Prop := Kd.C k138 w A (t.map toR).length (t.map toR)
section
variable (A : Option Addr) (cap : Nat) (t : List Step) (hw : Wf t) (hcap : t.length ≤ cap) (w : World) (hC : RC w A t)
include hw hcap hC
theorem rnear_c (p : Int) (hp : -9223372036854775808 ≤ p) :
    Calls Tryd.prog 46 #[.slice A t.length cap, .int .i64 p] w fun e w' => e = .returned (.int .i64 (nearF t p)) ∧ Fr no w w' := by
  have h := straddleref6_Near.calls t.length A cap (t.map toR) p _ w hC (by rw [List.length_map]; exact hcap) (near6 t hw p _ (Nat.le_refl _) hp)
  rw [List.length_map] at h
  exact h.mono fun e w' ⟨h1, h3⟩ => ⟨h1, Fr.of_below h3⟩
theorem ron_c (p : Int) (hp : -9223372036854775808 ≤ p) :
    Calls Tryd.prog 44 #[.slice A t.length cap, .int .i64 p] w fun e w' => e = .returned (.bool (onF t p)) ∧ Fr no w w' := by
  have h := straddleref6_On.calls t.length A cap (t.map toR) p _ w hC (by rw [List.length_map]; exact hcap) (on6 t hw p _ (Nat.le_refl _) hp)
  rw [List.length_map] at h
  exact h.mono fun e w' ⟨h1, h3⟩ => ⟨h1, Fr.of_below h3⟩
theorem rstep_c (p : Int) :
    Calls Tryd.prog 69 #[.slice A t.length cap, .int .i64 p] w fun e w' => e = .returned (.agg #[.int .i64 (stp t (curI t p)).From, .int .i64 (stp t (curI t p)).By]) ∧ Fr no w w' := by
  have h := straddleref6_step.calls t.length A cap (t.map toR) p _ _ w hC (by rw [List.length_map]; exact hcap) (step6 t hw p _ (Nat.le_refl _))
  rw [List.length_map] at h
  exact h.mono fun e w' ⟨h1, h3⟩ => ⟨h1, Fr.of_below h3⟩
theorem rcount_c (lo hi : Int) :
    Calls Tryd.prog 48 #[.slice A t.length cap, .int .i64 lo, .int .i64 hi] w fun e w' => e = .returned (.int .i64 (countF t lo hi)) ∧ Fr no w w' := by
  have h := straddleref6_Count.calls (3 * t.length + 3) A cap (t.map toR) lo hi _ w hC (by rw [List.length_map]; exact hcap) (count6 t hw lo hi _ (by omega))
  rw [List.length_map] at h
  exact h.mono fun e w' ⟨h1, h3⟩ => ⟨h1, Fr.of_below h3.below⟩
set_option maxHeartbeats 1000000 in
theorem rup_c (p : Int) (hp : -9223372036854775808 ≤ p) :
    Calls Tryd.prog 40 #[.slice A t.length cap, .int .i64 p] w fun e W' => e = .returned (.tuple #[.int .i64 (upF t p).1, .bool (upF t p).2]) ∧ Fr no w W' := by
  have hon := Lib.hid (ron_c A cap t hw hcap w hC p hp)
  clear hp
  have hst := Lib.hid (fun (W : World) (h : RC W A t) => rstep_c A cap t hw hcap W h p)
  by_cases ho : onF t p = true
  · obtain ⟨o1, o2, _⟩ := onF_true hw ho
    obtain ⟨k1, k2, k3⟩ := hw.cur o1
    obtain ⟨k5, k6⟩ := hw.by_ _ k1
    clear k3
    have hu : upF t p = if 1000000 < p + (stp t (curI t p)).By then (0, false) else (p + (stp t (curI t p)).By, true) := by simp [upF, ho]
    rw [hu]
    clear hu
    by_cases hg : 1000000 < p + (stp t (curI t p)).By
    all_goals
      first | rw [if_pos hg] | rw [if_neg hg]
      go_enter Tryd.func40, Tryd.ntmps40
      go_wp2_with fail
      refine (hon.out).mono ?_
      rintro e w1 ⟨rfl, hf⟩
      rw [ho]
      dsimp only
      go_wp2_with fail
      refine (hst.out _ (C_fr hC hf)).mono ?_
      rintro e w2 ⟨rfl, hf2⟩
      replace hf := hf.trans' hf2
      clear hf2
      obtain ⟨b, hb⟩ : ∃ b, (stp t (curI t p)).By = b := ⟨_, rfl⟩
      rw [hb] at k5 k6 hg ⊢
      have HB := Lib.hid hb
      clear hb
      dsimp only
      go_wp2
      go_ret2
      exact ⟨by simp [HB.out], hf⟩
  · have ho' : onF t p = false := by simpa using ho
    have hu : upF t p = (0, false) := by simp [upF, ho']
    rw [hu]
    clear hu ho
    go_enter Tryd.func40, Tryd.ntmps40
    go_wp2_with fail
    refine (hon.out).mono ?_
    rintro e w1 ⟨rfl, hf⟩
    rw [ho']
    dsimp only
    go_wp2
    go_ret2
    exact ⟨rfl, hf⟩
set_option maxHeartbeats 1000000 in
theorem rdown_c (p : Int) (hp : -9223372036854775808 ≤ p) :
    Calls Tryd.prog 42 #[.slice A t.length cap, .int .i64 p] w fun e W' => e = .returned (.tuple #[.int .i64 (downF t p).1, .bool (downF t p).2]) ∧ Fr no w W' := by
  have hon := Lib.hid (ron_c A cap t hw hcap w hC p hp)
  clear hp
  by_cases ho : onF t p = true
  · obtain ⟨o1, o2, _⟩ := onF_true hw ho
    have hnear := Lib.hid (fun (W : World) (h : RC W A t) => rnear_c A cap t hw hcap W h (p - 1) (by omega))
    by_cases h1 : p = 1
    · subst h1
      have hu : downF t 1 = (0, false) := by simp [downF]
      rw [hu]
      clear hu
      go_enter Tryd.func42, Tryd.ntmps42
      go_wp2_with fail
      refine (hon.out).mono ?_
      rintro e w1 ⟨rfl, hf⟩
      rw [ho]
      dsimp only
      go_wp2
      go_ret2
      exact ⟨rfl, hf⟩
    · have hu : downF t p = (nearF t (p - 1), true) := by simp [downF, ho, h1]
      have he : (p == 1) = false := by simp [h1]
      rw [hu]
      clear hu h1
      go_enter Tryd.func42, Tryd.ntmps42
      go_wp2_with fail
      refine (hon.out).mono ?_
      rintro e w1 ⟨rfl, hf⟩
      rw [ho]
      dsimp only
      go_wp2_with fail
      refine (hnear.out _ (C_fr hC hf)).mono ?_
      rintro e w2 ⟨rfl, hf2⟩
      dsimp only
      go_wp2
      go_ret2
      exact ⟨rfl, hf.trans' hf2⟩
  · have ho' : onF t p = false := by simpa using ho
    have hu : downF t p = (0, false) := by simp [downF, ho']
    rw [hu]
    clear hu ho
    go_enter Tryd.func42, Tryd.ntmps42
    go_wp2_with fail
    refine (hon.out).mono ?_
    rintro e w1 ⟨rfl, hf⟩
    rw [ho']
    dsimp only
    go_wp2
    go_ret2
    exact ⟨rfl, hf⟩
end
end Go.Proofs.YtdkkdoadafhfmaaDoor.Grid
