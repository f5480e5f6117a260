import Derived.Test.YtbeijddogfmnpaaLifeB
/-! The law's own check of package life. -/
set_option linter.unusedVariables false
set_option linter.unusedSimpArgs false
namespace Go.Proofs.Ytbeijddogfmnpaa.Life
open Go.RowKit Go.Proofs.YtbeijddogfmnpaaW.PrintWords Go.Proofs.Ytbeijddogfmnpaa.B

set_option maxRecDepth 100000 in
set_option maxHeartbeats 1000000 in
theorem known_c (w : World) : Calls Try.prog 33 #[] w fun e w' => e = .returned (.bool true) ∧ Fr no w w' := by
  go_enter Try.func33, Try.ntmps33
  go_wp2_with fail
  refine (new_c _).mono ?_
  rintro e w1 ⟨rfl, hL, hf⟩
  replace hL := hL.mono (ext_since no_since (Nat.le_refl _))
  go_wp2_with fail
  refine (enter_yes _ 2 3 1 10 _ _ [] hL (by omega) (by omega) (by simp)).mono ?_
  rintro e w2 ⟨rfl, hL2, hf2⟩
  replace hL : Led w2 (since w) w.heap.size [⟨10, 0, 0, 10, 2, 3, 1⟩] := hL2.mono (ext_since' hf.size)
  replace hf := hf.new' hf2
  clear hL2 hf2
  go_wp2_with fail
  refine (fill_yes _ 1 4 _ _ _ hL 0 (by simp) rfl (by simp) ⟨10, 0, 0, 10, 2, 3, 1⟩ rfl (by simp) (by simp) (by simp) (by simp) (by simp)).mono ?_
  rintro e w3 ⟨rfl, hL2, hf2⟩
  replace hL : Led w3 (since w) w.heap.size [⟨10, 4, 0, 6, 2, 3, 1⟩] := hL2
  replace hf := hf.new' hf2
  clear hL2 hf2
  go_wp2_with fail
  refine (cancel_yes _ 1 6 _ _ _ hL 0 (by simp) rfl (by simp) ⟨10, 4, 0, 6, 2, 3, 1⟩ rfl (by simp) (by simp) (by simp) (by simp) (by simp)).mono ?_
  rintro e w4 ⟨rfl, hL2, hf2⟩
  replace hL : Led w4 (since w) w.heap.size [⟨10, 4, 6, 0, 2, 3, 1⟩] := hL2
  replace hf := hf.new' hf2
  clear hL2 hf2
  go_wp2_with fail
  refine (fill_qty _ 1 1 _ _ _ hL 0 (by simp) rfl (by simp) (by simp)).mono ?_
  rintro e w5 ⟨rfl, rfl⟩
  go_wp2_with fail
  refine (get_yes _ 1 _ _ _ hL 0 (by simp) rfl (by simp) ⟨10, 4, 6, 0, 2, 3, 1⟩ rfl).mono ?_
  rintro e w6 ⟨rfl, hf2⟩
  replace hL := hL.fr hf2 (fun _ _ h => h)
  replace hf := hf.trans' hf2
  unfold Entry.val
  clear hf2
  go_wp2_with fail
  replace hL := hL.fr (S := no) ((Fr.refl no w6).alloc (.cells #[.int .i64 10, .int .i64 4, .int .i64 6, .int .i64 0, .int .i64 2, .int .i64 3, .int .i64 1] 76)) (fun _ _ h => h)
  replace hf := hf.alloc (.cells #[.int .i64 10, .int .i64 4, .int .i64 6, .int .i64 0, .int .i64 2, .int .i64 3, .int .i64 1] 76)
  refine (sum_c _ 3 1 _ _ _ hL (by simp) (by simp)).mono ?_
  rintro e w7 ⟨rfl, hf2⟩
  replace hL := hL.fr hf2 (fun _ _ h => h)
  replace hf := hf.trans' hf2
  have e1 : sumF 3 1 [⟨10, 4, 6, 0, 2, 3, 1⟩] = 4 := by simp [sumF]
  rw [e1]
  clear hf2 e1
  go_wp2_with fail
  refine (len_c _ _ _ _ hL).mono ?_
  rintro e w8 ⟨rfl, rfl⟩
  go_wp2_with fail
  refine (fair_c _ _ _ _ hL (by simp) (by simp [Fair])).mono ?_
  rintro e w9 ⟨rfl, hf2⟩
  replace hL := hL.fr hf2 (fun _ _ h => h)
  replace hf := hf.trans' hf2
  clear hf2
  go_wp2_with fail
  refine (opens_c _ 2 _ _ _ hL (by simp)).mono ?_
  rintro e w10 ⟨A, c, rfl, _, hf2⟩
  replace hf := hf.trans' hf2
  have e1 : (openIds 2 [⟨10, 4, 6, 0, 2, 3, 1⟩] 0).length = 0 := by simp [openIds]
  rw [e1]
  clear hf2 e1
  go_wp2
  go_ret
  exact ⟨rfl, hf⟩
end Go.Proofs.Ytbeijddogfmnpaa.Life
