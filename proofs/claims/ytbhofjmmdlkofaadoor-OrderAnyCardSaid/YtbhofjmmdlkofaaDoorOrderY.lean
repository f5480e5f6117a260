import Derived.Test.YtbhofjmmdlkofaaDoorOrderX
/-! Contract of the reference's OrderText at any order of a side. -/
set_option linter.unusedVariables false
set_option linter.unusedSimpArgs false
namespace Go.Proofs.YtbhofjmmdlkofaaDoor.Order
open Go.RowKit Go.Proofs.YtbhofjmmdlkofaaDoorW.PrintWords Go.Proofs.YtbhofjmmdlkofaaDoor.B Go.Proofs.YtbhofjmmdlkofaaDoor.Err

theorem app_two (a : ByteArray) (x y : UInt8) : a ++ ⟨#[x]⟩ ++ ⟨#[y]⟩ = a ++ ⟨#[x, y]⟩ := by
  apply ByteArray.ext
  apply Array.toList_inj.1
  simp
theorem life_pairs (l : Int) : (l = 1 ∧ lifeB l = ⟨#[100, 97, 121]⟩) ∨ (l = 2 ∧ lifeB l = ⟨#[105, 111, 99]⟩) ∨ (l = 3 ∧ lifeB l = ⟨#[102, 111, 107]⟩) ∨ (l = 4 ∧ lifeB l = ⟨#[112, 111, 115, 116]⟩) ∨ (decide (1 ≤ l) = false ∧ lifeB l = ⟨#[45]⟩) ∨ (decide (1 ≤ l) = true ∧ decide (l ≤ 4) = false ∧ lifeB l = ⟨#[45]⟩) := by
  rcases life_cases l with rfl | rfl | rfl | rfl | ⟨h1, h2, h3, h4, h5, h6⟩
  · exact .inl ⟨rfl, rfl⟩
  · exact .inr (.inl ⟨rfl, rfl⟩)
  · exact .inr (.inr (.inl ⟨rfl, rfl⟩))
  · exact .inr (.inr (.inr (.inl ⟨rfl, rfl⟩)))
  · unfold livesB at h5
    by_cases g : 1 ≤ l
    · refine .inr (.inr (.inr (.inr (.inr ⟨by simp [g], ?_, h6⟩))))
      simpa [g] using h5
    · exact .inr (.inr (.inr (.inr (.inl ⟨by simp [g], h6⟩))))
set_option maxRecDepth 100000 in
set_option maxHeartbeats 8000000 in
theorem rtext_any (x : Order) (h1 : Err.i64 x.ID) (h2 : Err.i64 x.Owner) (h3 : Err.i64 x.Price) (h4 : Err.i64 x.Qty) (hs : x.Side = 1 ∨ x.Side = 2) (w : World) :
    Calls Tryd.prog 16 #[x.val] w fun e w' => e = .returned (.string (txtB x)) ∧ Fr no w w' := by
  obtain ⟨id, ow, sd, pr, q, cu, lf⟩ := x
  dsimp only at h1 h2 h3 h4 hs
  have R1 := Lib.hid (fun W => rtext_g id h1 W)
  have R2 := Lib.hid (fun W => rtext_g ow h2 W)
  have R3 := Lib.hid (fun W => rtext_g pr h3 W)
  have R4 := Lib.hid (fun W => rtext_g q h4 W)
  have z1 := itoB_size id h1
  have z2 := itoB_size ow h2
  have z3 := itoB_size pr h3
  have z4 := itoB_size q h4
  have z5 := side_size sd
  have z6 := life_size lf
  obtain ⟨U, hU⟩ : ∃ U, txtB ⟨id, ow, sd, pr, q, cu, lf⟩ = U := ⟨_, rfl⟩
  rw [hU]
  unfold txtB at hU
  dsimp only at hU
  generalize itoB id = b1 at *
  generalize itoB ow = b2 at *
  generalize itoB pr = b3 at *
  generalize itoB q = b4 at *
  have zT := txt0_size b1 b2 (sideB sd) b4 b3 (lifeB lf) z1 z2 z5 z4 z3 z6
  generalize hT : txt0 b1 b2 (sideB sd) b4 b3 (lifeB lf) = T at *
  unfold txt0 at hT
  have HU := Lib.hid hU
  clear h1 h2 h3 h4 hU z5 z6
  have hX := blk_new w (.cells #[.int .i64 id, .int .i64 ow, .int .i64 sd, .int .i64 pr, .int .i64 q, .bool cu, .int .i64 lf] 38)
  have hfa := (Fr.refl no w).alloc (.cells #[.int .i64 id, .int .i64 ow, .int .i64 sd, .int .i64 pr, .int .i64 q, .bool cu, .int .i64 lf] 38)
  have hsd : (sd = 1 ∧ sideB sd = ⟨#[66]⟩) ∨ (sd = 2 ∧ sideB sd = ⟨#[83]⟩) := by
    rcases hs with rfl | rfl
    · exact .inl ⟨rfl, rfl⟩
    · exact .inr ⟨rfl, rfl⟩
  clear hs
  unfold Order.val
  dsimp only
  go_enter Tryd.func16, Tryd.ntmps16
  go_wp2_with fail
  generalize w.alloc _ = w1 at *
  generalize w.heap.size = X at *
  have HK : Hid (∀ u, Fr no w1 u → (u.cell? ⟨X, 0, none⟩ = some (.int .i64 id) ∧ u.cell? ⟨X, 1, none⟩ = some (.int .i64 ow)) ∧ (u.cell? ⟨X, 3, none⟩ = some (.int .i64 pr) ∧ u.cell? ⟨X, 4, none⟩ = some (.int .i64 q)) ∧ u.cell? ⟨X, 2, none⟩ = some (.int .i64 sd) ∧ u.cell? ⟨X, 6, none⟩ = some (.int .i64 lf) ∧ u.cell? ⟨X, 5, none⟩ = some (.bool cu)) := fun u h => ⟨⟨blk_cell (h.heap hX (fun h => h)) 0, blk_cell (h.heap hX (fun h => h)) 1⟩, ⟨blk_cell (h.heap hX (fun h => h)) 3, blk_cell (h.heap hX (fun h => h)) 4⟩, blk_cell (h.heap hX (fun h => h)) 2, blk_cell (h.heap hX (fun h => h)) 6, blk_cell (h.heap hX (fun h => h)) 5⟩
  have HFA := Lib.hid hfa
  clear hX hfa
  have hf0 := (Fr.refl no w1).drew
  have hpl := (HK.out _ hf0).1
  refine wp_region_plan (fun u => u.cell? ⟨X, 0, none⟩ = some (.int .i64 id) ∧ u.cell? ⟨X, 1, none⟩ = some (.int .i64 ow)) [(0, false), (1, false), (4, false), (5, false), (2, true), (3, false), (6, true), (7, false), (8, false), (9, false)] (by kernel_rfl) (by kernel_rfl) (fun _ _ _ _ _ h => h) (hpl) ?_
  simp only [planOps, List.getElem?_toArray, List.getElem?_cons_succ, List.getElem?_cons_zero]
  repeat (first
    | (refine plan_step (by rfl) ?_; apply Exists.intro; refine ⟨fun x hSx => ?_, ?_⟩; ((try dsimp only at hSx); go_simp; (try rw [if_neg (by omega)]); (try with_reducible rfl)); (simp only [Act.put, List.setIfInBounds_toArray, List.set_cons_zero, List.set_cons_succ]))
    | (refine plan_skip (by rfl) ?_; (simp only [Act.put, List.setIfInBounds_toArray, List.set_cons_zero, List.set_cons_succ])))
  refine plan_run (by rfl) (fun K hK => ?_)
  go_simp
  refine (R1.out _).mono ?_
  rintro e w2 ⟨rfl, g⟩
  have hf2 := hf0.trans' g
  have q2 := (HK.out _ hf2).1
  clear g
  dsimp only
  refine hK.out (fun u => True) _ _ (q2) (trivial) ?_
  clear hK K
  try simp only [Act.put, List.setIfInBounds_toArray, List.set_cons_zero, List.set_cons_succ]
  repeat (first
    | (refine plan_step (by rfl) ?_; apply Exists.intro; refine ⟨fun x hSx => ?_, ?_⟩; ((try dsimp only at hSx); go_simp; (try rw [if_neg (by omega)]); (try with_reducible rfl)); (simp only [Act.put, List.setIfInBounds_toArray, List.set_cons_zero, List.set_cons_succ]))
    | (refine plan_skip (by rfl) ?_; (simp only [Act.put, List.setIfInBounds_toArray, List.set_cons_zero, List.set_cons_succ])))
  refine plan_run (by rfl) (fun K hK => ?_)
  go_simp
  refine (R2.out _).mono ?_
  rintro e w3 ⟨rfl, g⟩
  have hf3 := hf2.trans' g
  have q3 := (HK.out _ hf3).1
  clear g
  dsimp only
  refine hK.out (fun u => True) _ _ (⟨q3, trivial⟩) (trivial) ?_
  clear hK K
  try simp only [Act.put, List.setIfInBounds_toArray, List.set_cons_zero, List.set_cons_succ]
  repeat (first
    | (refine plan_step (by rfl) ?_; apply Exists.intro; refine ⟨fun x hSx => ?_, ?_⟩; ((try dsimp only at hSx); go_simp; (try rw [if_neg (by omega)]); (try with_reducible rfl)); (simp only [Act.put, List.setIfInBounds_toArray, List.set_cons_zero, List.set_cons_succ]))
    | (refine plan_skip (by rfl) ?_; (simp only [Act.put, List.setIfInBounds_toArray, List.set_cons_zero, List.set_cons_succ])))
  refine plan_done ?_
  obtain ⟨_, _, k2, k6, k5⟩ := HK.out _ hf3
  clear hpl q2 q3 hf0 hf2
  obtain ⟨s8, hs8⟩ : ∃ s, b1 ++ ⟨#[32]⟩ ++ b2 ++ ⟨#[32]⟩ = s := ⟨_, rfl⟩
  have zs : s8.size ≤ 62 := by
    have s1 : (⟨#[32]⟩ : ByteArray).size = 1 := rfl
    rw [← hs8]
    simp only [ByteArray.size_append, s1]
    omega
  rw [hs8] at hT ⊢
  clear hs8 z1 z2
  have hlf := life_pairs lf
  rcases hsd with ⟨rfl, e5⟩ | ⟨rfl, e5⟩
  all_goals
    rw [e5, app_two] at hT
    rcases hlf with ⟨rfl, e6⟩ | ⟨rfl, e6⟩ | ⟨rfl, e6⟩ | ⟨rfl, e6⟩ | ⟨d1, e6⟩ | ⟨d1, d2, e6⟩
  all_goals
    rw [e6] at hT
    have HT := Lib.hid hT
    clear hT e5 e6
    have k6a := (HK.out _ (hf3.alloc (.cells #[.string ⟨#[]⟩, .string ⟨#[100, 97, 121]⟩, .string ⟨#[105, 111, 99]⟩, .string ⟨#[102, 111, 107]⟩, .string ⟨#[112, 111, 115, 116]⟩] 9))).2.2.2.1
    go_wp2_with fail
    clear k2 k6 k5 k6a
  iterate 4
    have hf4 := (hf3.alloc (.cells #[.string ⟨#[]⟩, .string ⟨#[100, 97, 121]⟩, .string ⟨#[105, 111, 99]⟩, .string ⟨#[102, 111, 107]⟩, .string ⟨#[112, 111, 115, 116]⟩] 9))
    have hf5 := hf4.drew
    have hpl := (HK.out _ hf5).2.1
    refine wp_region_plan (fun u => u.cell? ⟨X, 3, none⟩ = some (.int .i64 pr) ∧ u.cell? ⟨X, 4, none⟩ = some (.int .i64 q)) [(0, false), (1, false), (2, false), (6, false), (7, false), (11, false), (3, true), (4, false), (5, false), (8, true), (9, false), (10, false), (12, false), (13, false)] (by kernel_rfl) (by kernel_rfl) (fun _ _ _ _ _ h => h) (hpl) ?_
    simp only [planOps, List.getElem?_toArray, List.getElem?_cons_succ, List.getElem?_cons_zero]
    repeat (first
      | (refine plan_step (by rfl) ?_; apply Exists.intro; refine ⟨fun x hSx => ?_, ?_⟩; ((try dsimp only at hSx); go_simp; (try rw [if_neg (by omega)]); (try with_reducible rfl)); (simp only [Act.put, List.setIfInBounds_toArray, List.set_cons_zero, List.set_cons_succ]))
      | (refine plan_skip (by rfl) ?_; (simp only [Act.put, List.setIfInBounds_toArray, List.set_cons_zero, List.set_cons_succ])))
    refine plan_run (by rfl) (fun K hK => ?_)
    go_simp
    refine (R4.out _).mono ?_
    rintro e w6 ⟨rfl, g⟩
    have hf6 := hf5.trans' g
    have q6 := (HK.out _ hf6).2.1
    clear g
    dsimp only
    refine hK.out (fun u => True) _ _ (q6) (trivial) ?_
    clear hK K
    try simp only [Act.put, List.setIfInBounds_toArray, List.set_cons_zero, List.set_cons_succ]
    repeat (first
      | (refine plan_step (by rfl) ?_; apply Exists.intro; refine ⟨fun x hSx => ?_, ?_⟩; ((try dsimp only at hSx); go_simp; (try rw [if_neg (by omega)]); (try with_reducible rfl)); (simp only [Act.put, List.setIfInBounds_toArray, List.set_cons_zero, List.set_cons_succ]))
      | (refine plan_skip (by rfl) ?_; (simp only [Act.put, List.setIfInBounds_toArray, List.set_cons_zero, List.set_cons_succ])))
    refine plan_run (by rfl) (fun K hK => ?_)
    go_simp
    refine (R3.out _).mono ?_
    rintro e w7 ⟨rfl, g⟩
    have hf7 := hf6.trans' g
    have q7 := (HK.out _ hf7).2.1
    clear g
    dsimp only
    refine hK.out (fun u => True) _ _ (⟨q7, trivial⟩) (trivial) ?_
    clear hK K
    try simp only [Act.put, List.setIfInBounds_toArray, List.set_cons_zero, List.set_cons_succ]
    repeat (first
      | (refine plan_step (by rfl) ?_; apply Exists.intro; refine ⟨fun x hSx => ?_, ?_⟩; ((try dsimp only at hSx); go_simp; (try rw [if_neg (by omega)]); (try with_reducible rfl)); (simp only [Act.put, List.setIfInBounds_toArray, List.set_cons_zero, List.set_cons_succ]))
      | (refine plan_skip (by rfl) ?_; (simp only [Act.put, List.setIfInBounds_toArray, List.set_cons_zero, List.set_cons_succ])))
    refine plan_done ?_
    rw [HT.out]
    have c5 := (HK.out _ hf7).2.2.2.2
    have hfe := HFA.out.trans' hf7
    clear hpl q6 q7 hf3 hf4 hf5 hf6 hf7 z3 z4 zs
    cases cu
    · have HV : Hid (T = U) := HU.out
      go_wp2
      go_ret
      refine ⟨?_, hfe⟩
      rw [← HV.out]
      first | rfl | (simp; done)
    · have HV : Hid (T ++ ⟨#[32, 99]⟩ = U) := HU.out
      go_wp2
      go_ret
      refine ⟨?_, hfe⟩
      rw [← HV.out]
      first | rfl | (simp; done)
  iterate 2
    have hf4 := hf3
    have hf5 := hf4.drew
    have hpl := (HK.out _ hf5).2.1
    refine wp_region_plan (fun u => u.cell? ⟨X, 3, none⟩ = some (.int .i64 pr) ∧ u.cell? ⟨X, 4, none⟩ = some (.int .i64 q)) [(0, false), (1, false), (2, false), (6, false), (7, false), (11, false), (3, true), (4, false), (5, false), (8, true), (9, false), (10, false), (12, false), (13, false)] (by kernel_rfl) (by kernel_rfl) (fun _ _ _ _ _ h => h) (hpl) ?_
    simp only [planOps, List.getElem?_toArray, List.getElem?_cons_succ, List.getElem?_cons_zero]
    repeat (first
      | (refine plan_step (by rfl) ?_; apply Exists.intro; refine ⟨fun x hSx => ?_, ?_⟩; ((try dsimp only at hSx); go_simp; (try rw [if_neg (by omega)]); (try with_reducible rfl)); (simp only [Act.put, List.setIfInBounds_toArray, List.set_cons_zero, List.set_cons_succ]))
      | (refine plan_skip (by rfl) ?_; (simp only [Act.put, List.setIfInBounds_toArray, List.set_cons_zero, List.set_cons_succ])))
    refine plan_run (by rfl) (fun K hK => ?_)
    go_simp
    refine (R4.out _).mono ?_
    rintro e w6 ⟨rfl, g⟩
    have hf6 := hf5.trans' g
    have q6 := (HK.out _ hf6).2.1
    clear g
    dsimp only
    refine hK.out (fun u => True) _ _ (q6) (trivial) ?_
    clear hK K
    try simp only [Act.put, List.setIfInBounds_toArray, List.set_cons_zero, List.set_cons_succ]
    repeat (first
      | (refine plan_step (by rfl) ?_; apply Exists.intro; refine ⟨fun x hSx => ?_, ?_⟩; ((try dsimp only at hSx); go_simp; (try rw [if_neg (by omega)]); (try with_reducible rfl)); (simp only [Act.put, List.setIfInBounds_toArray, List.set_cons_zero, List.set_cons_succ]))
      | (refine plan_skip (by rfl) ?_; (simp only [Act.put, List.setIfInBounds_toArray, List.set_cons_zero, List.set_cons_succ])))
    refine plan_run (by rfl) (fun K hK => ?_)
    go_simp
    refine (R3.out _).mono ?_
    rintro e w7 ⟨rfl, g⟩
    have hf7 := hf6.trans' g
    have q7 := (HK.out _ hf7).2.1
    clear g
    dsimp only
    refine hK.out (fun u => True) _ _ (⟨q7, trivial⟩) (trivial) ?_
    clear hK K
    try simp only [Act.put, List.setIfInBounds_toArray, List.set_cons_zero, List.set_cons_succ]
    repeat (first
      | (refine plan_step (by rfl) ?_; apply Exists.intro; refine ⟨fun x hSx => ?_, ?_⟩; ((try dsimp only at hSx); go_simp; (try rw [if_neg (by omega)]); (try with_reducible rfl)); (simp only [Act.put, List.setIfInBounds_toArray, List.set_cons_zero, List.set_cons_succ]))
      | (refine plan_skip (by rfl) ?_; (simp only [Act.put, List.setIfInBounds_toArray, List.set_cons_zero, List.set_cons_succ])))
    refine plan_done ?_
    rw [HT.out]
    have c5 := (HK.out _ hf7).2.2.2.2
    have hfe := HFA.out.trans' hf7
    clear hpl q6 q7 hf3 hf4 hf5 hf6 hf7 z3 z4 zs
    cases cu
    · have HV : Hid (T = U) := HU.out
      go_wp2
      go_ret
      refine ⟨?_, hfe⟩
      rw [← HV.out]
      first | rfl | (simp; done)
    · have HV : Hid (T ++ ⟨#[32, 99]⟩ = U) := HU.out
      go_wp2
      go_ret
      refine ⟨?_, hfe⟩
      rw [← HV.out]
      first | rfl | (simp; done)
  iterate 4
    have hf4 := (hf3.alloc (.cells #[.string ⟨#[]⟩, .string ⟨#[100, 97, 121]⟩, .string ⟨#[105, 111, 99]⟩, .string ⟨#[102, 111, 107]⟩, .string ⟨#[112, 111, 115, 116]⟩] 9))
    have hf5 := hf4.drew
    have hpl := (HK.out _ hf5).2.1
    refine wp_region_plan (fun u => u.cell? ⟨X, 3, none⟩ = some (.int .i64 pr) ∧ u.cell? ⟨X, 4, none⟩ = some (.int .i64 q)) [(0, false), (1, false), (2, false), (6, false), (7, false), (11, false), (3, true), (4, false), (5, false), (8, true), (9, false), (10, false), (12, false), (13, false)] (by kernel_rfl) (by kernel_rfl) (fun _ _ _ _ _ h => h) (hpl) ?_
    simp only [planOps, List.getElem?_toArray, List.getElem?_cons_succ, List.getElem?_cons_zero]
    repeat (first
      | (refine plan_step (by rfl) ?_; apply Exists.intro; refine ⟨fun x hSx => ?_, ?_⟩; ((try dsimp only at hSx); go_simp; (try rw [if_neg (by omega)]); (try with_reducible rfl)); (simp only [Act.put, List.setIfInBounds_toArray, List.set_cons_zero, List.set_cons_succ]))
      | (refine plan_skip (by rfl) ?_; (simp only [Act.put, List.setIfInBounds_toArray, List.set_cons_zero, List.set_cons_succ])))
    refine plan_run (by rfl) (fun K hK => ?_)
    go_simp
    refine (R4.out _).mono ?_
    rintro e w6 ⟨rfl, g⟩
    have hf6 := hf5.trans' g
    have q6 := (HK.out _ hf6).2.1
    clear g
    dsimp only
    refine hK.out (fun u => True) _ _ (q6) (trivial) ?_
    clear hK K
    try simp only [Act.put, List.setIfInBounds_toArray, List.set_cons_zero, List.set_cons_succ]
    repeat (first
      | (refine plan_step (by rfl) ?_; apply Exists.intro; refine ⟨fun x hSx => ?_, ?_⟩; ((try dsimp only at hSx); go_simp; (try rw [if_neg (by omega)]); (try with_reducible rfl)); (simp only [Act.put, List.setIfInBounds_toArray, List.set_cons_zero, List.set_cons_succ]))
      | (refine plan_skip (by rfl) ?_; (simp only [Act.put, List.setIfInBounds_toArray, List.set_cons_zero, List.set_cons_succ])))
    refine plan_run (by rfl) (fun K hK => ?_)
    go_simp
    refine (R3.out _).mono ?_
    rintro e w7 ⟨rfl, g⟩
    have hf7 := hf6.trans' g
    have q7 := (HK.out _ hf7).2.1
    clear g
    dsimp only
    refine hK.out (fun u => True) _ _ (⟨q7, trivial⟩) (trivial) ?_
    clear hK K
    try simp only [Act.put, List.setIfInBounds_toArray, List.set_cons_zero, List.set_cons_succ]
    repeat (first
      | (refine plan_step (by rfl) ?_; apply Exists.intro; refine ⟨fun x hSx => ?_, ?_⟩; ((try dsimp only at hSx); go_simp; (try rw [if_neg (by omega)]); (try with_reducible rfl)); (simp only [Act.put, List.setIfInBounds_toArray, List.set_cons_zero, List.set_cons_succ]))
      | (refine plan_skip (by rfl) ?_; (simp only [Act.put, List.setIfInBounds_toArray, List.set_cons_zero, List.set_cons_succ])))
    refine plan_done ?_
    rw [HT.out]
    have c5 := (HK.out _ hf7).2.2.2.2
    have hfe := HFA.out.trans' hf7
    clear hpl q6 q7 hf3 hf4 hf5 hf6 hf7 z3 z4 zs
    cases cu
    · have HV : Hid (T = U) := HU.out
      go_wp2
      go_ret
      refine ⟨?_, hfe⟩
      rw [← HV.out]
      first | rfl | (simp; done)
    · have HV : Hid (T ++ ⟨#[32, 99]⟩ = U) := HU.out
      go_wp2
      go_ret
      refine ⟨?_, hfe⟩
      rw [← HV.out]
      first | rfl | (simp; done)
  iterate 2
    have hf4 := hf3
    have hf5 := hf4.drew
    have hpl := (HK.out _ hf5).2.1
    refine wp_region_plan (fun u => u.cell? ⟨X, 3, none⟩ = some (.int .i64 pr) ∧ u.cell? ⟨X, 4, none⟩ = some (.int .i64 q)) [(0, false), (1, false), (2, false), (6, false), (7, false), (11, false), (3, true), (4, false), (5, false), (8, true), (9, false), (10, false), (12, false), (13, false)] (by kernel_rfl) (by kernel_rfl) (fun _ _ _ _ _ h => h) (hpl) ?_
    simp only [planOps, List.getElem?_toArray, List.getElem?_cons_succ, List.getElem?_cons_zero]
    repeat (first
      | (refine plan_step (by rfl) ?_; apply Exists.intro; refine ⟨fun x hSx => ?_, ?_⟩; ((try dsimp only at hSx); go_simp; (try rw [if_neg (by omega)]); (try with_reducible rfl)); (simp only [Act.put, List.setIfInBounds_toArray, List.set_cons_zero, List.set_cons_succ]))
      | (refine plan_skip (by rfl) ?_; (simp only [Act.put, List.setIfInBounds_toArray, List.set_cons_zero, List.set_cons_succ])))
    refine plan_run (by rfl) (fun K hK => ?_)
    go_simp
    refine (R4.out _).mono ?_
    rintro e w6 ⟨rfl, g⟩
    have hf6 := hf5.trans' g
    have q6 := (HK.out _ hf6).2.1
    clear g
    dsimp only
    refine hK.out (fun u => True) _ _ (q6) (trivial) ?_
    clear hK K
    try simp only [Act.put, List.setIfInBounds_toArray, List.set_cons_zero, List.set_cons_succ]
    repeat (first
      | (refine plan_step (by rfl) ?_; apply Exists.intro; refine ⟨fun x hSx => ?_, ?_⟩; ((try dsimp only at hSx); go_simp; (try rw [if_neg (by omega)]); (try with_reducible rfl)); (simp only [Act.put, List.setIfInBounds_toArray, List.set_cons_zero, List.set_cons_succ]))
      | (refine plan_skip (by rfl) ?_; (simp only [Act.put, List.setIfInBounds_toArray, List.set_cons_zero, List.set_cons_succ])))
    refine plan_run (by rfl) (fun K hK => ?_)
    go_simp
    refine (R3.out _).mono ?_
    rintro e w7 ⟨rfl, g⟩
    have hf7 := hf6.trans' g
    have q7 := (HK.out _ hf7).2.1
    clear g
    dsimp only
    refine hK.out (fun u => True) _ _ (⟨q7, trivial⟩) (trivial) ?_
    clear hK K
    try simp only [Act.put, List.setIfInBounds_toArray, List.set_cons_zero, List.set_cons_succ]
    repeat (first
      | (refine plan_step (by rfl) ?_; apply Exists.intro; refine ⟨fun x hSx => ?_, ?_⟩; ((try dsimp only at hSx); go_simp; (try rw [if_neg (by omega)]); (try with_reducible rfl)); (simp only [Act.put, List.setIfInBounds_toArray, List.set_cons_zero, List.set_cons_succ]))
      | (refine plan_skip (by rfl) ?_; (simp only [Act.put, List.setIfInBounds_toArray, List.set_cons_zero, List.set_cons_succ])))
    refine plan_done ?_
    rw [HT.out]
    have c5 := (HK.out _ hf7).2.2.2.2
    have hfe := HFA.out.trans' hf7
    clear hpl q6 q7 hf3 hf4 hf5 hf6 hf7 z3 z4 zs
    cases cu
    · have HV : Hid (T = U) := HU.out
      go_wp2
      go_ret
      refine ⟨?_, hfe⟩
      rw [← HV.out]
      first | rfl | (simp; done)
    · have HV : Hid (T ++ ⟨#[32, 99]⟩ = U) := HU.out
      go_wp2
      go_ret
      refine ⟨?_, hfe⟩
      rw [← HV.out]
      first | rfl | (simp; done)
end Go.Proofs.YtbhofjmmdlkofaaDoor.Order
