import Derived.Test.YtbeijddogfmnpaaGridK2
/-! GridPlain: on the plainest grid each price is its own. -/
set_option linter.unusedVariables false
set_option linter.unusedSimpArgs false
namespace Go.Proofs.Ytbeijddogfmnpaa.Grid
open Go.RowKit Go.Proofs.YtbeijddogfmnpaaW.PrintWords Go.Proofs.Ytbeijddogfmnpaa.B

def pt : List Step := [⟨1, 1⟩]
theorem pt_wf : Wf pt := by
  refine ⟨by decide, by decide, rfl, by decide, by decide, fun i hi => ?_, fun i hi => ?_⟩
  · have : i + 1 < 1 := hi; omega
  · have : i + 1 < 1 := hi; omega
theorem pt_cur (q : Int) : curI pt q = 0 := by
  show (if (stp pt 0).From ≤ q then 0 else 0) = 0
  split <;> rfl
theorem pt_near (p : Int) : nearF pt p = if p < 1 then 0 else min p 1000000 := by
  unfold nearF
  rw [pt_cur]
  show (if p < 1 then 0 else min p 1000000 - (min p 1000000 - 1) % 1) = _
  rw [Int.emod_one, Int.sub_zero]
theorem pt_on (p : Int) : onF pt p = (decide (1 ≤ p) && decide (p ≤ 1000000)) := by
  unfold onF
  rw [pt_near]
  by_cases h : 1 ≤ p
  · rw [if_neg (by omega)]
    by_cases h2 : p ≤ 1000000
    · rw [show min p 1000000 = p by omega]; simp [h, h2]
    · rw [show min p 1000000 = 1000000 by omega]; simp [h, h2]; omega
  · simp [h]
theorem pt_up (p : Int) : upF pt p = if 1 ≤ p ∧ p < 1000000 then (p + 1, true) else (0, false) := by
  unfold upF
  rw [pt_on, pt_cur]
  show (if (decide (1 ≤ p) && decide (p ≤ 1000000)) = true then (if 1000000 < p + 1 then ((0 : Int), false) else (p + 1, true)) else (0, false)) = _
  by_cases h : 1 ≤ p
  · by_cases h2 : p < 1000000
    · rw [if_pos (by simp; omega), if_neg (by omega), if_pos ⟨h, h2⟩]
    · rw [if_neg (c := 1 ≤ p ∧ p < 1000000) (fun e => h2 e.2)]
      by_cases h3 : p ≤ 1000000
      · rw [if_pos (by simp; omega), if_pos (by omega)]
      · rw [if_neg (by simp; omega)]
  · rw [if_neg (by simp; omega), if_neg (fun e => h e.1)]
theorem pt_down (p : Int) : downF pt p = if 1 < p ∧ p ≤ 1000000 then (p - 1, true) else (0, false) := by
  unfold downF
  rw [pt_on, pt_near]
  by_cases h : 1 < p ∧ p ≤ 1000000
  · rw [if_pos (by simp; omega), if_neg (by omega), if_pos h, show min (p - 1) 1000000 = p - 1 by omega]
  · rw [if_neg (by simp; omega), if_neg h]

set_option maxRecDepth 100000 in
set_option maxHeartbeats 4000000 in
theorem plain_c (p : Int) (w : World) : Calls Try.prog 8 #[.int .i64 p] w fun e w' => e = .returned (.bool true) ∧ Fr no w w' := by
  have hup := pt_up p
  have hdn := pt_down p
  have hon := pt_on p
  have hcs : (p < 1) ∨ (p = 1) ∨ (1 < p ∧ p < 1000000) ∨ (p = 1000000) ∨ (1000000 < p) := by omega
  rcases hcs with hc | hc | hc | hc | hc
  · have h1 : upF pt p = (0, false) := by rw [hup]; rw [if_neg (by omega)]
    have h2 : downF pt p = (0, false) := by rw [hdn]; rw [if_neg (by omega)]
    have h3 : onF pt p = false := by rw [hon]; simp; omega
    clear hup hdn hon
    skip
    go_enter Try.func8, Try.ntmps8
    go_wp2_with fail
    refine (known_c _).mono ?_
    rintro e w1 ⟨rfl, hf⟩
    have hC : kStep.C (w1.alloc (.cells #[.int .i64 1, .int .i64 1] 65)) (some ⟨w1.heap.size, 0, none⟩) pt.length pt :=
      C_blk (heap_alloc_new w1 _) pt (by decide) (by decide) ((Reps.none _ _).snoc (p := ⟨1, 1⟩) (kStep_mk _ _) rfl)
    replace hf := hf.alloc (.cells #[.int .i64 1, .int .i64 1] 65)
    go_wp2_with fail
    refine (up_c _ 1 pt _ pt_wf _ hC).mono ?_
    rintro e w2 ⟨rfl, hf1⟩
    rw [h1]
    replace hC := C_fr hC hf1
    replace hf := hf.trans' hf1
    clear hf1 h1
    go_wp2_with fail
    refine (down_c _ 1 pt _ pt_wf _ hC).mono ?_
    rintro e w3 ⟨rfl, hf1⟩
    rw [h2]
    replace hC := C_fr hC hf1
    replace hf := hf.trans' hf1
    clear hf1 h2
    go_wp2_with fail
    refine (on_c _ 1 pt _ pt_wf _ hC).mono ?_
    rintro e w4 ⟨rfl, hf1⟩
    rw [h3]
    replace hf := hf.trans' hf1
    clear hf1 h3 hC
    go_wp2
    go_ret
    exact ⟨rfl, hf⟩
  · have h1 : upF pt p = (2, true) := by rw [hup, if_pos (by omega)]; subst hc; rfl
    have h2 : downF pt p = (0, false) := by rw [hdn]; rw [if_neg (by omega)]
    have h3 : onF pt p = true := by rw [hon]; simp; omega
    clear hup hdn hon
    subst hc
    go_enter Try.func8, Try.ntmps8
    go_wp2_with fail
    refine (known_c _).mono ?_
    rintro e w1 ⟨rfl, hf⟩
    have hC : kStep.C (w1.alloc (.cells #[.int .i64 1, .int .i64 1] 65)) (some ⟨w1.heap.size, 0, none⟩) pt.length pt :=
      C_blk (heap_alloc_new w1 _) pt (by decide) (by decide) ((Reps.none _ _).snoc (p := ⟨1, 1⟩) (kStep_mk _ _) rfl)
    replace hf := hf.alloc (.cells #[.int .i64 1, .int .i64 1] 65)
    go_wp2_with fail
    refine (up_c _ 1 pt _ pt_wf _ hC).mono ?_
    rintro e w2 ⟨rfl, hf1⟩
    rw [h1]
    replace hC := C_fr hC hf1
    replace hf := hf.trans' hf1
    clear hf1 h1
    go_wp2_with fail
    refine (down_c _ 1 pt _ pt_wf _ hC).mono ?_
    rintro e w3 ⟨rfl, hf1⟩
    rw [h2]
    replace hC := C_fr hC hf1
    replace hf := hf.trans' hf1
    clear hf1 h2
    go_wp2_with fail
    refine (on_c _ 1 pt _ pt_wf _ hC).mono ?_
    rintro e w4 ⟨rfl, hf1⟩
    rw [h3]
    replace hf := hf.trans' hf1
    clear hf1 h3 hC
    go_wp2
    go_ret
    exact ⟨rfl, hf⟩
  · have h1 : upF pt p = (p + 1, true) := by rw [hup]; rw [if_pos (by omega)]
    have h2 : downF pt p = (p - 1, true) := by rw [hdn]; rw [if_pos (by omega)]
    have h3 : onF pt p = true := by rw [hon]; simp; omega
    clear hup hdn hon
    obtain ⟨c1, c2⟩ := hc
    go_enter Try.func8, Try.ntmps8
    go_wp2_with fail
    refine (known_c _).mono ?_
    rintro e w1 ⟨rfl, hf⟩
    have hC : kStep.C (w1.alloc (.cells #[.int .i64 1, .int .i64 1] 65)) (some ⟨w1.heap.size, 0, none⟩) pt.length pt :=
      C_blk (heap_alloc_new w1 _) pt (by decide) (by decide) ((Reps.none _ _).snoc (p := ⟨1, 1⟩) (kStep_mk _ _) rfl)
    replace hf := hf.alloc (.cells #[.int .i64 1, .int .i64 1] 65)
    go_wp2_with fail
    refine (up_c _ 1 pt _ pt_wf _ hC).mono ?_
    rintro e w2 ⟨rfl, hf1⟩
    rw [h1]
    replace hC := C_fr hC hf1
    replace hf := hf.trans' hf1
    clear hf1 h1
    go_wp2_with fail
    refine (down_c _ 1 pt _ pt_wf _ hC).mono ?_
    rintro e w3 ⟨rfl, hf1⟩
    rw [h2]
    replace hC := C_fr hC hf1
    replace hf := hf.trans' hf1
    clear hf1 h2
    go_wp2_with fail
    refine (on_c _ 1 pt _ pt_wf _ hC).mono ?_
    rintro e w4 ⟨rfl, hf1⟩
    rw [h3]
    replace hf := hf.trans' hf1
    clear hf1 h3 hC
    go_wp2
    go_ret
    exact ⟨rfl, hf⟩
  · have h1 : upF pt p = (0, false) := by rw [hup]; rw [if_neg (by omega)]
    have h2 : downF pt p = (999999, true) := by rw [hdn, if_pos (by omega)]; subst hc; rfl
    have h3 : onF pt p = true := by rw [hon]; simp; omega
    clear hup hdn hon
    subst hc
    go_enter Try.func8, Try.ntmps8
    go_wp2_with fail
    refine (known_c _).mono ?_
    rintro e w1 ⟨rfl, hf⟩
    have hC : kStep.C (w1.alloc (.cells #[.int .i64 1, .int .i64 1] 65)) (some ⟨w1.heap.size, 0, none⟩) pt.length pt :=
      C_blk (heap_alloc_new w1 _) pt (by decide) (by decide) ((Reps.none _ _).snoc (p := ⟨1, 1⟩) (kStep_mk _ _) rfl)
    replace hf := hf.alloc (.cells #[.int .i64 1, .int .i64 1] 65)
    go_wp2_with fail
    refine (up_c _ 1 pt _ pt_wf _ hC).mono ?_
    rintro e w2 ⟨rfl, hf1⟩
    rw [h1]
    replace hC := C_fr hC hf1
    replace hf := hf.trans' hf1
    clear hf1 h1
    go_wp2_with fail
    refine (down_c _ 1 pt _ pt_wf _ hC).mono ?_
    rintro e w3 ⟨rfl, hf1⟩
    rw [h2]
    replace hC := C_fr hC hf1
    replace hf := hf.trans' hf1
    clear hf1 h2
    go_wp2_with fail
    refine (on_c _ 1 pt _ pt_wf _ hC).mono ?_
    rintro e w4 ⟨rfl, hf1⟩
    rw [h3]
    replace hf := hf.trans' hf1
    clear hf1 h3 hC
    go_wp2
    go_ret
    exact ⟨rfl, hf⟩
  · have h1 : upF pt p = (0, false) := by rw [hup]; rw [if_neg (by omega)]
    have h2 : downF pt p = (0, false) := by rw [hdn]; rw [if_neg (by omega)]
    have h3 : onF pt p = false := by rw [hon]; simp; omega
    clear hup hdn hon
    skip
    go_enter Try.func8, Try.ntmps8
    go_wp2_with fail
    refine (known_c _).mono ?_
    rintro e w1 ⟨rfl, hf⟩
    have hC : kStep.C (w1.alloc (.cells #[.int .i64 1, .int .i64 1] 65)) (some ⟨w1.heap.size, 0, none⟩) pt.length pt :=
      C_blk (heap_alloc_new w1 _) pt (by decide) (by decide) ((Reps.none _ _).snoc (p := ⟨1, 1⟩) (kStep_mk _ _) rfl)
    replace hf := hf.alloc (.cells #[.int .i64 1, .int .i64 1] 65)
    go_wp2_with fail
    refine (up_c _ 1 pt _ pt_wf _ hC).mono ?_
    rintro e w2 ⟨rfl, hf1⟩
    rw [h1]
    replace hC := C_fr hC hf1
    replace hf := hf.trans' hf1
    clear hf1 h1
    go_wp2_with fail
    refine (down_c _ 1 pt _ pt_wf _ hC).mono ?_
    rintro e w3 ⟨rfl, hf1⟩
    rw [h2]
    replace hC := C_fr hC hf1
    replace hf := hf.trans' hf1
    clear hf1 h2
    go_wp2_with fail
    refine (on_c _ 1 pt _ pt_wf _ hC).mono ?_
    rintro e w4 ⟨rfl, hf1⟩
    rw [h3]
    replace hf := hf.trans' hf1
    clear hf1 h3 hC
    go_wp2
    go_ret
    exact ⟨rfl, hf⟩

theorem plain_row (w : World) (p : Int) (_ : (Lit.int .i64 p).wf = true) : Calls Try.prog 8 #[.int .i64 p] w fun e w' => e = .returned (.bool true) ∧ Fr no w w' := plain_c p w
end Go.Proofs.Ytbeijddogfmnpaa.Grid
