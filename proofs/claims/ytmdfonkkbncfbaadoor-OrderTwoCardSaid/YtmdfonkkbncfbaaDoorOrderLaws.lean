import Derived.Test.YtmdfonkkbncfbaaDoorOrderC
/-! OrderTakes, OrderThree: which prices an order takes; the order of a side is one order. -/
set_option linter.unusedVariables false
set_option linter.unusedSimpArgs false
namespace Go.Proofs.YtmdfonkkbncfbaaDoor.Order
open Go.RowKit Go.Proofs.YtmdfonkkbncfbaaDoorW.PrintWords Go.Proofs.YtmdfonkkbncfbaaDoor.B

theorem ahead_trans (a b c : Order) (h1 : a.Side = b.Side) (h2 : b.Side = c.Side) (hab : aheadB a b = true) (hbc : aheadB b c = true) : aheadB a c = true := by
  unfold aheadB at *
  rw [← h1] at hbc
  split at hab <;> split at hbc <;> split <;> simp_all <;> (try (split at hab <;> split at hbc <;> simp_all)) <;> (try (split <;> simp_all)) <;> (try omega)

/-- Orders that were boxed, in whatever world has come of that one. -/
theorem boxed2 (a b : Order) (w : World) {W : World} (hW : W = (w.alloc (.cells #[.int .i64 a.ID, .int .i64 a.Owner, .int .i64 a.Side, .int .i64 a.Price, .int .i64 a.Qty, .bool a.Cust, .int .i64 a.Life] 34)).alloc (.cells #[.int .i64 b.ID, .int .i64 b.Owner, .int .i64 b.Side, .int .i64 b.Price, .int .i64 b.Qty, .bool b.Cust, .int .i64 b.Life] 34)) :
    (∀ u, Fr no W u → OrdCells u w.heap.size a ∧ OrdCells u (w.heap.size + 1) b) ∧ Fr no w W := by
  subst hW
  refine ⟨fun u hu => ⟨OrdAt.cells (hu.heap (((Fr.refl no _).alloc _).heap (blk_new w _) (fun h => h)) (fun h => h)), OrdAt.cells (hu.heap ?_ (fun h => h))⟩, ((Fr.refl no w).alloc _).alloc _⟩
  have h := blk_new (w.alloc (.cells #[.int .i64 a.ID, .int .i64 a.Owner, .int .i64 a.Side, .int .i64 a.Price, .int .i64 a.Qty, .bool a.Cust, .int .i64 a.Life] 34)) (.cells #[.int .i64 b.ID, .int .i64 b.Owner, .int .i64 b.Side, .int .i64 b.Price, .int .i64 b.Qty, .bool b.Cust, .int .i64 b.Life] 34)
  simpa using h
theorem boxed3 (a b c : Order) (w : World) {W : World} (hW : W = ((w.alloc (.cells #[.int .i64 a.ID, .int .i64 a.Owner, .int .i64 a.Side, .int .i64 a.Price, .int .i64 a.Qty, .bool a.Cust, .int .i64 a.Life] 34)).alloc (.cells #[.int .i64 b.ID, .int .i64 b.Owner, .int .i64 b.Side, .int .i64 b.Price, .int .i64 b.Qty, .bool b.Cust, .int .i64 b.Life] 34)).alloc (.cells #[.int .i64 c.ID, .int .i64 c.Owner, .int .i64 c.Side, .int .i64 c.Price, .int .i64 c.Qty, .bool c.Cust, .int .i64 c.Life] 34)) :
    (∀ u, Fr no W u → OrdCells u w.heap.size a ∧ OrdCells u (w.heap.size + 1) b ∧ OrdCells u (w.heap.size + 1 + 1) c) ∧ Fr no w W := by
  subst hW
  obtain ⟨h1, h2⟩ := boxed2 a b w rfl
  refine ⟨fun u hu => ⟨(h1 u (((Fr.refl no _).alloc _).trans' hu)).1, (h1 u (((Fr.refl no _).alloc _).trans' hu)).2, OrdAt.cells (hu.heap ?_ (fun h => h))⟩, h2.alloc _⟩
  have h := blk_new ((w.alloc (.cells #[.int .i64 a.ID, .int .i64 a.Owner, .int .i64 a.Side, .int .i64 a.Price, .int .i64 a.Qty, .bool a.Cust, .int .i64 a.Life] 34)).alloc (.cells #[.int .i64 b.ID, .int .i64 b.Owner, .int .i64 b.Side, .int .i64 b.Price, .int .i64 b.Qty, .bool b.Cust, .int .i64 b.Life] 34)) (.cells #[.int .i64 c.ID, .int .i64 c.Owner, .int .i64 c.Side, .int .i64 c.Price, .int .i64 c.Qty, .bool c.Cust, .int .i64 c.Life] 34)
  simpa using h

set_option maxRecDepth 100000 in
set_option maxHeartbeats 4000000 in
theorem three_c (a b c : Order) (w : World) : Calls Tryd.prog 5 #[a.val, b.val, c.val] w fun e w' => e = .returned (.bool true) ∧ Fr no w w' := by
  have htr := ahead_trans a b c
  have HTR := Lib.hid htr
  clear htr
  unfold Order.val
  go_enter Tryd.func5, Tryd.ntmps5
  go_wp2_with fail
  obtain ⟨W, hW⟩ : ∃ W, W = ((w.alloc (.cells #[.int .i64 a.ID, .int .i64 a.Owner, .int .i64 a.Side, .int .i64 a.Price, .int .i64 a.Qty, .bool a.Cust, .int .i64 a.Life] 34)).alloc (.cells #[.int .i64 b.ID, .int .i64 b.Owner, .int .i64 b.Side, .int .i64 b.Price, .int .i64 b.Qty, .bool b.Cust, .int .i64 b.Life] 34)).alloc (.cells #[.int .i64 c.ID, .int .i64 c.Owner, .int .i64 c.Side, .int .i64 c.Price, .int .i64 c.Qty, .bool c.Cust, .int .i64 c.Life] 34) := ⟨_, rfl⟩
  obtain ⟨hcells, hf0⟩ := boxed3 a b c w hW
  rw [← hW]
  have HC := Lib.hid hcells
  clear hcells hW
  generalize w.heap.size = X at *
  refine (known_c W).mono ?_
  rintro e w1 ⟨rfl, hf⟩
  obtain ⟨ha, hb, hc⟩ := HC.out _ hf
  have hfe := hf0.trans' hf
  unfold OrdCells at ha hb hc
  dsimp only
  by_cases h1 : a.Side = b.Side
  case neg =>
    have h1' : (a.Side != b.Side) = true := by simp [h1]
    clear h1
    go_wp2
    go_ret
    exact ⟨rfl, hfe⟩
  by_cases h2 : b.Side = c.Side
  case neg =>
    have h1' : (a.Side != b.Side) = false := by simp [h1]
    have h2' : (b.Side != c.Side) = true := by simp [h2]
    clear h1 h2
    go_wp2
    go_ret
    exact ⟨rfl, hfe⟩
  replace HTR := Lib.hid (HTR.out h1 h2)
  have h1' : (a.Side != b.Side) = false := by simp [h1]
  have h2' : (b.Side != c.Side) = false := by simp [h2]
  clear h1 h2
  by_cases h3 : a.Side = 1 ∨ a.Side = 2
  case neg =>
    have h3' : (a.Side != 1) = true := by simp; omega
    have h4' : (a.Side != 2) = true := by simp; omega
    clear h3
    go_wp2
    go_ret
    exact ⟨rfl, hfe⟩
  have h34 : ((a.Side != 1) = false) ∨ ((a.Side != 1) = true ∧ (a.Side != 2) = false) := by
    rcases h3 with h3 | h3
    · exact .inl (by simp [h3])
    · exact .inr ⟨by simp [h3], by simp [h3]⟩
  clear h3
  rcases h34 with h3' | ⟨h3', h4'⟩
  all_goals
    go_wp2_with fail
    refine (ahead_c a b _).mono ?_
    rintro e w2 ⟨rfl, hf2⟩
    obtain ⟨ha2, hb2, hc2⟩ := HC.out _ (hf.trans' hf2)
    have hfe2 := hfe.trans' hf2
    unfold OrdCells at ha2 hb2 hc2
    clear ha hb hc
    obtain ⟨x, hx⟩ : ∃ x, aheadB a b = x := ⟨_, rfl⟩
    rw [hx]
    have HX := Lib.hid hx
    clear hx
    dsimp only
    cases x
    case false =>
      go_wp2
      go_ret
      exact ⟨rfl, hfe2⟩
    go_wp2_with fail
    refine (ahead_c b c _).mono ?_
    rintro e w3 ⟨rfl, hf3⟩
    obtain ⟨ha3, hb3, hc3⟩ := HC.out _ ((hf.trans' hf2).trans' hf3)
    have hfe3 := hfe2.trans' hf3
    unfold OrdCells at ha3 hb3 hc3
    clear ha2 hb2 hc2
    obtain ⟨y, hy⟩ : ∃ x, aheadB b c = x := ⟨_, rfl⟩
    rw [hy]
    have HY := Lib.hid hy
    clear hy
    dsimp only
    cases y
    case false =>
      go_wp2
      go_ret
      exact ⟨rfl, hfe3⟩
    go_wp2_with fail
    refine (ahead_c a c _).mono ?_
    rintro e w4 ⟨rfl, hf4⟩
    rw [HTR.out HX.out HY.out]
    dsimp only
    go_wp2
    go_ret
    exact ⟨rfl, hfe3.trans' hf4⟩

set_option maxRecDepth 100000 in
set_option maxHeartbeats 4000000 in
theorem takes_law (a b : Order) (w : World) : Calls Tryd.prog 6 #[a.val, b.val] w fun e w' => e = .returned (.bool true) ∧ Fr no w w' := by
  unfold Order.val
  go_enter Tryd.func6, Tryd.ntmps6
  go_wp2_with fail
  obtain ⟨W, hW⟩ : ∃ W, W = (w.alloc (.cells #[.int .i64 a.ID, .int .i64 a.Owner, .int .i64 a.Side, .int .i64 a.Price, .int .i64 a.Qty, .bool a.Cust, .int .i64 a.Life] 34)).alloc (.cells #[.int .i64 b.ID, .int .i64 b.Owner, .int .i64 b.Side, .int .i64 b.Price, .int .i64 b.Qty, .bool b.Cust, .int .i64 b.Life] 34) := ⟨_, rfl⟩
  obtain ⟨hcells, hf0⟩ := boxed2 a b w hW
  rw [← hW]
  have HC := Lib.hid hcells
  clear hcells hW
  generalize w.heap.size = X at *
  refine (known_c W).mono ?_
  rintro e w1 ⟨rfl, hf⟩
  obtain ⟨ha, hb⟩ := HC.out _ hf
  have hfe := hf0.trans' hf
  unfold OrdCells at ha hb
  dsimp only
  by_cases h1 : a.Side = 1
  case neg =>
    have h1' : (a.Side != 1) = true := by simp [h1]
    clear h1
    go_wp2
    go_ret
    exact ⟨rfl, hfe⟩
  have h1' : (a.Side != 1) = false := by simp [h1]
  by_cases h2 : b.Side = 2
  case neg =>
    have h2' : (b.Side != 2) = true := by simp [h2]
    clear h1 h2
    go_wp2
    go_ret
    exact ⟨rfl, hfe⟩
  have h2' : (b.Side != 2) = false := by simp [h2]
  have ht1 : takesB a b.Price = decide (b.Price ≤ a.Price) := by simp [takesB, h1]
  have ht2 : takesB b a.Price = decide (b.Price ≤ a.Price) := by simp [takesB, h2]
  have H1 := Lib.hid h1
  have HT1 := Lib.hid ht1
  have HT2 := Lib.hid ht2
  clear h1 h2 ht1 ht2
  go_wp2_with fail
  clear ha hb
  have hS0 := HC.out _ hf.drew
  have hfd := hf.drew
  have hed := hfe.drew
  clear hf hfe
  have e7 : ((1 : Int) == a.Side) = true := by simp [H1.out]
  refine wp_region_plan (fun u => (u.cell? ⟨X, 0, none⟩ = some (.int .i64 a.ID) ∧ u.cell? ⟨X, 1, none⟩ = some (.int .i64 a.Owner) ∧ u.cell? ⟨X, 2, none⟩ = some (.int .i64 a.Side) ∧ u.cell? ⟨X, 3, none⟩ = some (.int .i64 a.Price) ∧ u.cell? ⟨X, 4, none⟩ = some (.int .i64 a.Qty) ∧ u.cell? ⟨X, 5, none⟩ = some (.bool a.Cust) ∧ u.cell? ⟨X, 6, none⟩ = some (.int .i64 a.Life)) ∧ (u.cell? ⟨X + 1, 0, none⟩ = some (.int .i64 b.ID) ∧ u.cell? ⟨X + 1, 1, none⟩ = some (.int .i64 b.Owner) ∧ u.cell? ⟨X + 1, 2, none⟩ = some (.int .i64 b.Side) ∧ u.cell? ⟨X + 1, 3, none⟩ = some (.int .i64 b.Price) ∧ u.cell? ⟨X + 1, 4, none⟩ = some (.int .i64 b.Qty) ∧ u.cell? ⟨X + 1, 5, none⟩ = some (.bool b.Cust) ∧ u.cell? ⟨X + 1, 6, none⟩ = some (.int .i64 b.Life))) [(0, false), (1, false), (2, false), (4, false), (5, false), (6, false), (7, false), (8, false), (3, true), (9, false), (10, false), (11, false), (12, false), (13, false), (15, false), (16, false), (17, false), (14, true), (18, true), (19, false), (20, false), (21, false), (22, false), (23, false), (26, false), (27, false), (24, true), (25, true), (28, false), (29, false), (30, false)] (by kernel_rfl) (by kernel_rfl) (fun _ _ _ _ _ h => h) (hS0) ?_
  simp only [planOps, List.getElem?_toArray, List.getElem?_cons_succ, List.getElem?_cons_zero]
  clear hS0
  repeat (first
    | (refine plan_step (by rfl) ?_; apply Exists.intro; refine ⟨fun x hSx => ?_, ?_⟩; ((try dsimp only at hSx); go_simp; (try with_reducible rfl)); (simp only [Act.put, List.setIfInBounds_toArray, List.set_cons_zero, List.set_cons_succ]))
    | (refine plan_skip (by rfl) ?_; (simp only [Act.put, List.setIfInBounds_toArray, List.set_cons_zero, List.set_cons_succ])))
  refine plan_run (by rfl) (fun K hK => ?_)
  go_simp
  refine (takes_c a b.Price _).mono ?_
  rintro e w2 ⟨rfl, hf2⟩
  rw [HT1.out]
  have hfd2 := hfd.trans' hf2
  have hed2 := hed.trans' hf2
  clear hfd hed hf2
  have hfd := hfd2
  have hed := hed2
  clear hfd2 hed2
  dsimp only
  refine hK.out (fun u => True) _ _ ((by repeat' (first| exact HC.out _ hfd| exact trivial| apply And.intro))) (trivial) ?_
  clear hK K
  try simp only [Act.put, List.setIfInBounds_toArray, List.set_cons_zero, List.set_cons_succ]
  repeat (first
    | (refine plan_step (by rfl) ?_; apply Exists.intro; refine ⟨fun x hSx => ?_, ?_⟩; ((try dsimp only at hSx); go_simp; (try with_reducible rfl)); (simp only [Act.put, List.setIfInBounds_toArray, List.set_cons_zero, List.set_cons_succ]))
    | (refine plan_skip (by rfl) ?_; (simp only [Act.put, List.setIfInBounds_toArray, List.set_cons_zero, List.set_cons_succ])))
  refine plan_run (by rfl) (fun K hK => ?_)
  go_simp
  refine (takes_c b a.Price _).mono ?_
  rintro e w2 ⟨rfl, hf2⟩
  rw [HT2.out]
  have hfd2 := hfd.trans' hf2
  have hed2 := hed.trans' hf2
  clear hfd hed hf2
  have hfd := hfd2
  have hed := hed2
  clear hfd2 hed2
  dsimp only
  refine hK.out (fun u => True) _ _ ((by repeat' (first| exact HC.out _ hfd| exact trivial| apply And.intro))) (trivial) ?_
  clear hK K
  try simp only [Act.put, List.setIfInBounds_toArray, List.set_cons_zero, List.set_cons_succ]
  refine plan_run (by rfl) (fun K hK => ?_)
  go_simp
  refine (takes_c a b.Price _).mono ?_
  rintro e w2 ⟨rfl, hf2⟩
  rw [HT1.out]
  have hfd2 := hfd.trans' hf2
  have hed2 := hed.trans' hf2
  clear hfd hed hf2
  have hfd := hfd2
  have hed := hed2
  clear hfd2 hed2
  dsimp only
  refine hK.out (fun u => True) _ _ ((by repeat' (first| exact HC.out _ hfd| exact trivial| apply And.intro))) (trivial) ?_
  clear hK K
  try simp only [Act.put, List.setIfInBounds_toArray, List.set_cons_zero, List.set_cons_succ]
  repeat (first
    | (refine plan_step (by rfl) ?_; apply Exists.intro; refine ⟨fun x hSx => ?_, ?_⟩; ((try dsimp only at hSx); go_simp; (try with_reducible rfl)); (simp only [Act.put, List.setIfInBounds_toArray, List.set_cons_zero, List.set_cons_succ]))
    | (refine plan_skip (by rfl) ?_; (simp only [Act.put, List.setIfInBounds_toArray, List.set_cons_zero, List.set_cons_succ])))
  refine plan_run (by rfl) (fun K hK => ?_)
  go_simp
  refine (opp_c a.Side _).mono ?_
  rintro e w2 ⟨rfl, rfl⟩
  rw [if_pos H1.out]
  dsimp only
  refine hK.out (fun u => True) _ _ ((by repeat' (first| exact HC.out _ hfd| exact trivial| apply And.intro))) (trivial) ?_
  clear hK K
  try simp only [Act.put, List.setIfInBounds_toArray, List.set_cons_zero, List.set_cons_succ]
  refine plan_run (by rfl) (fun K hK => ?_)
  go_simp
  refine (opp_c 2 _).mono ?_
  rintro e w2 ⟨rfl, rfl⟩
  rw [if_neg (by decide), if_pos rfl]
  dsimp only
  refine hK.out (fun u => True) _ _ ((by repeat' (first| exact HC.out _ hfd| exact trivial| apply And.intro))) (trivial) ?_
  clear hK K
  try simp only [Act.put, List.setIfInBounds_toArray, List.set_cons_zero, List.set_cons_succ]
  repeat (first
    | (refine plan_step (by rfl) ?_; apply Exists.intro; refine ⟨fun x hSx => ?_, ?_⟩; ((try dsimp only at hSx); go_simp; (try with_reducible rfl)); (simp only [Act.put, List.setIfInBounds_toArray, List.set_cons_zero, List.set_cons_succ]))
    | (refine plan_skip (by rfl) ?_; (simp only [Act.put, List.setIfInBounds_toArray, List.set_cons_zero, List.set_cons_succ])))
  refine plan_done ?_
  go_wp2
  go_ret
  exact ⟨rfl, hed⟩

theorem of_c (a : Order) (w : World) : Calls Tryd.prog 22 #[a.val] w fun e w' => e = .returned a.val ∧ Fr no w w' := by
  unfold Order.val
  go_enter Tryd.func22, Tryd.ntmps22
  go_wp2
  exact bodyPost_ret (v := .agg #[.int .i64 a.ID, .int .i64 a.Owner, .int .i64 a.Side, .int .i64 a.Price, .int .i64 a.Qty, .bool a.Cust, .int .i64 a.Life]) (by simp [results, Tryd.results22, go_sem]) rfl ⟨rfl, ((Fr.refl no w).alloc _).alloc _⟩
theorem refAhead_c (a b : Order) (w : World) : Calls Tryd.prog 21 #[a.val, b.val] w fun e w' => e = .returned (.bool (aheadB a b)) ∧ Fr no w w' := by
  have hA := aheadB.eq_1 a b
  obtain ⟨r, hr⟩ : ∃ r, aheadB a b = r := ⟨_, rfl⟩
  rw [hr] at hA ⊢
  have HA := Lib.hid hA
  clear hA hr
  unfold Order.val
  have hfr := (((Fr.refl no w).alloc (.cells #[.int .i64 a.ID, .int .i64 a.Owner, .int .i64 a.Side, .int .i64 a.Price, .int .i64 a.Qty, .bool a.Cust, .int .i64 a.Life] 37)).alloc (.cells #[.int .i64 b.ID, .int .i64 b.Owner, .int .i64 b.Side, .int .i64 b.Price, .int .i64 b.Qty, .bool b.Cust, .int .i64 b.Life] 37))
  by_cases h1 : a.Price = b.Price
  · have h1' : (a.Price != b.Price) = false := by simp [h1]
    have HA2 := HA.out
    rw [if_pos h1] at HA2
    clear HA h1
    by_cases h2 : a.Cust = b.Cust
    · have h2' : (!(a.Cust == b.Cust)) = false := by simp [h2]
      rw [if_pos h2] at HA2
      subst HA2
      clear h2
      go_enter Tryd.func21, Tryd.ntmps21
      go_wp2
      go_ret
      exact ⟨rfl, hfr⟩
    · have h2' : (!(a.Cust == b.Cust)) = true := by simp [h2]
      rw [if_neg h2] at HA2
      subst HA2
      clear h2
      go_enter Tryd.func21, Tryd.ntmps21
      go_wp2
      go_ret
      exact ⟨rfl, hfr⟩
  · have h1' : (a.Price != b.Price) = true := by simp [h1]
    have HA2 := HA.out
    rw [if_neg h1] at HA2
    have e1 : r = (decide (a.Price > b.Price) == (a.Side == 1)) := by
      rw [HA2]
      by_cases hs : a.Side = 1
      · simp [hs]
      · have hs' : (a.Side == 1) = false := by simp [hs]
        rw [if_neg hs, hs']
        rcases Int.lt_trichotomy a.Price b.Price with h | h | h
        · simp [h, show ¬ b.Price < a.Price by omega]
        · exact absurd h h1
        · simp [h, show ¬ a.Price < b.Price by omega]
    subst e1
    clear HA HA2 h1
    go_enter Tryd.func21, Tryd.ntmps21
    go_wp2
    go_ret
    exact ⟨rfl, hfr⟩

theorem ahead_two (a b : Order) (h : a.Side = b.Side) : ¬ (aheadB a b = true ∧ aheadB b a = true) ∧ (aheadB a b = true ∨ aheadB b a = true ∨ a.ID = b.ID) := by
  unfold aheadB
  rw [← h]
  by_cases h1 : a.Price = b.Price
  · rw [if_pos h1, if_pos h1.symm]
    by_cases h2 : a.Cust = b.Cust
    · rw [if_pos h2, if_pos h2.symm]
      simp
      omega
    · rw [if_neg h2, if_neg (Ne.symm h2)]
      cases ha : a.Cust <;> cases hb : b.Cust <;> simp_all
  · rw [if_neg h1, if_neg (Ne.symm h1)]
    by_cases hs : a.Side = 1
    · rw [if_pos hs, if_pos hs]
      simp
      omega
    · rw [if_neg hs, if_neg hs]
      simp
      omega

set_option maxRecDepth 100000 in
set_option maxHeartbeats 4000000 in
theorem two_c (a b : Order) (w : World) : Calls Tryd.prog 4 #[a.val, b.val] w fun e w' => e = .returned (.bool true) ∧ Fr no w w' := by
  have H2 := Lib.hid (ahead_two a b)
  unfold Order.val
  go_enter Tryd.func4, Tryd.ntmps4
  go_wp2_with fail
  obtain ⟨W, hW⟩ : ∃ W, W = (w.alloc (.cells #[.int .i64 a.ID, .int .i64 a.Owner, .int .i64 a.Side, .int .i64 a.Price, .int .i64 a.Qty, .bool a.Cust, .int .i64 a.Life] 34)).alloc (.cells #[.int .i64 b.ID, .int .i64 b.Owner, .int .i64 b.Side, .int .i64 b.Price, .int .i64 b.Qty, .bool b.Cust, .int .i64 b.Life] 34) := ⟨_, rfl⟩
  obtain ⟨hcells, hf0⟩ := boxed2 a b w hW
  rw [← hW]
  have HC := Lib.hid hcells
  clear hcells hW
  generalize w.heap.size = X at *
  refine (known_c W).mono ?_
  rintro e w1 ⟨rfl, hf⟩
  obtain ⟨ha, hb⟩ := HC.out _ hf
  have hfe := hf0.trans' hf
  unfold OrdCells at ha hb
  dsimp only
  by_cases h1 : a.Side = b.Side
  case neg =>
    have h1' : (a.Side != b.Side) = true := by simp [h1]
    clear h1
    go_wp2
    go_ret
    exact ⟨rfl, hfe⟩
  have h1' : (a.Side != b.Side) = false := by simp [h1]
  replace H2 := Lib.hid (H2.out h1)
  clear h1
  by_cases h3 : a.Side = 1 ∨ a.Side = 2
  case neg =>
    have h3' : (a.Side != 1) = true := by simp; omega
    have h4' : (a.Side != 2) = true := by simp; omega
    clear h3
    go_wp2
    go_ret
    exact ⟨rfl, hfe⟩
  have h34 : ((a.Side != 1) = false) ∨ ((a.Side != 1) = true ∧ (a.Side != 2) = false) := by
    rcases h3 with h3 | h3
    · exact .inl (by simp [h3])
    · exact .inr ⟨by simp [h3], by simp [h3]⟩
  clear h3
  have hids : (aheadB a b = false → aheadB b a = false → (a.ID == b.ID) = true) := fun k1 k2 => by
    rcases H2.out.2 with h | h | h
    · rw [k1] at h; cases h
    · rw [k2] at h; cases h
    · simp [h]
  have HID := Lib.hid hids
  clear hids
  rcases h34 with h3' | ⟨h3', h4'⟩
  all_goals
    go_wp2_with fail
    refine (ahead_c a b _).mono ?_
    rintro e w2 ⟨rfl, hf2⟩
    obtain ⟨ha2, hb2⟩ := HC.out _ (hf.trans' hf2)
    unfold OrdCells at ha2 hb2
    clear ha hb
    dsimp only
    go_wp2_with fail
    refine (ahead_c b a _).mono ?_
    rintro e w3 ⟨rfl, hf3⟩
    have hfd := ((hf.trans' hf2).trans' hf3).drew
    have hed := ((hfe.trans' hf2).trans' hf3).drew
    clear ha2 hb2 hf hfe hf2 hf3
    have hra := refAhead_c a b
    have hrb := refAhead_c b a
    have HRA := Lib.hid hra
    have HRB := Lib.hid hrb
    clear hra hrb
    obtain ⟨x, hx⟩ : ∃ x, aheadB a b = x := ⟨_, rfl⟩
    obtain ⟨y, hy⟩ : ∃ x, aheadB b a = x := ⟨_, rfl⟩
    rw [hx] at H2 HID HRA ⊢
    rw [hy] at H2 HID HRB ⊢
    clear hx hy
    have hS0 := HC.out _ hfd
    dsimp only
    cases x <;> cases y
    case true.true => exact absurd ⟨rfl, rfl⟩ H2.out.1
    all_goals
      try (have hid' := HID.out rfl rfl)
      go_wp2_with fail
      refine wp_region_plan (fun u => (u.cell? ⟨X, 0, none⟩ = some (.int .i64 a.ID) ∧ u.cell? ⟨X, 1, none⟩ = some (.int .i64 a.Owner) ∧ u.cell? ⟨X, 2, none⟩ = some (.int .i64 a.Side) ∧ u.cell? ⟨X, 3, none⟩ = some (.int .i64 a.Price) ∧ u.cell? ⟨X, 4, none⟩ = some (.int .i64 a.Qty) ∧ u.cell? ⟨X, 5, none⟩ = some (.bool a.Cust) ∧ u.cell? ⟨X, 6, none⟩ = some (.int .i64 a.Life)) ∧ (u.cell? ⟨X + 1, 0, none⟩ = some (.int .i64 b.ID) ∧ u.cell? ⟨X + 1, 1, none⟩ = some (.int .i64 b.Owner) ∧ u.cell? ⟨X + 1, 2, none⟩ = some (.int .i64 b.Side) ∧ u.cell? ⟨X + 1, 3, none⟩ = some (.int .i64 b.Price) ∧ u.cell? ⟨X + 1, 4, none⟩ = some (.int .i64 b.Qty) ∧ u.cell? ⟨X + 1, 5, none⟩ = some (.bool b.Cust) ∧ u.cell? ⟨X + 1, 6, none⟩ = some (.int .i64 b.Life))) [(0, false), (1, false), (3, false), (2, true), (4, true), (5, true), (6, false), (7, false), (8, false), (9, false), (11, false), (10, true), (12, true), (13, true), (14, false), (15, false), (16, false), (17, false), (18, false), (19, false), (20, false), (21, false), (22, false), (23, false), (24, false), (25, false), (26, false), (27, false), (28, false), (29, false), (30, false), (31, false), (32, false), (33, false), (34, false), (35, false), (36, false)] (by kernel_rfl) (by kernel_rfl) (fun _ _ _ _ _ h => h) (hS0) ?_
      simp only [planOps, List.getElem?_toArray, List.getElem?_cons_succ, List.getElem?_cons_zero]
      repeat (first
        | (refine plan_step (by rfl) ?_; apply Exists.intro; refine ⟨fun x hSx => ?_, ?_⟩; ((try dsimp only at hSx); go_simp; (try with_reducible rfl)); (simp only [Act.put, List.setIfInBounds_toArray, List.set_cons_zero, List.set_cons_succ]))
        | (refine plan_skip (by rfl) ?_; (simp only [Act.put, List.setIfInBounds_toArray, List.set_cons_zero, List.set_cons_succ])))
      refine plan_run (by rfl) (fun K hK => ?_)
      go_simp
      refine (of_c a _).mono ?_
      rintro e w4 ⟨rfl, hf2⟩
      unfold Order.val
      have hfd2 := hfd.trans' hf2
      have hed2 := hed.trans' hf2
      clear hfd hed hf2
      have hfd := hfd2
      have hed := hed2
      clear hfd2 hed2
      dsimp only
      refine hK.out (fun u => True) _ _ ((by repeat' (first| exact HC.out _ hfd| exact trivial| apply And.intro))) (trivial) ?_
      clear hK K
      try simp only [Act.put, List.setIfInBounds_toArray, List.set_cons_zero, List.set_cons_succ]
      refine plan_run (by rfl) (fun K hK => ?_)
      go_simp
      refine (of_c b _).mono ?_
      rintro e w4 ⟨rfl, hf2⟩
      unfold Order.val
      have hfd2 := hfd.trans' hf2
      have hed2 := hed.trans' hf2
      clear hfd hed hf2
      have hfd := hfd2
      have hed := hed2
      clear hfd2 hed2
      dsimp only
      refine hK.out (fun u => True) _ _ ((by repeat' (first| exact HC.out _ hfd| exact trivial| apply And.intro))) (trivial) ?_
      clear hK K
      try simp only [Act.put, List.setIfInBounds_toArray, List.set_cons_zero, List.set_cons_succ]
      refine plan_run (by rfl) (fun K hK => ?_)
      go_simp
      refine (HRA.out _).mono ?_
      rintro e w4 ⟨rfl, hf2⟩
      have hfd2 := hfd.trans' hf2
      have hed2 := hed.trans' hf2
      clear hfd hed hf2
      have hfd := hfd2
      have hed := hed2
      clear hfd2 hed2
      dsimp only
      refine hK.out (fun u => True) _ _ ((by repeat' (first| exact HC.out _ hfd| exact trivial| apply And.intro))) (trivial) ?_
      clear hK K
      try simp only [Act.put, List.setIfInBounds_toArray, List.set_cons_zero, List.set_cons_succ]
      repeat (first
        | (refine plan_step (by rfl) ?_; apply Exists.intro; refine ⟨fun x hSx => ?_, ?_⟩; ((try dsimp only at hSx); go_simp; (try with_reducible rfl)); (simp only [Act.put, List.setIfInBounds_toArray, List.set_cons_zero, List.set_cons_succ]))
        | (refine plan_skip (by rfl) ?_; (simp only [Act.put, List.setIfInBounds_toArray, List.set_cons_zero, List.set_cons_succ])))
      refine plan_run (by rfl) (fun K hK => ?_)
      go_simp
      refine (of_c b _).mono ?_
      rintro e w4 ⟨rfl, hf2⟩
      unfold Order.val
      have hfd2 := hfd.trans' hf2
      have hed2 := hed.trans' hf2
      clear hfd hed hf2
      have hfd := hfd2
      have hed := hed2
      clear hfd2 hed2
      dsimp only
      refine hK.out (fun u => True) _ _ ((by repeat' (first| exact HC.out _ hfd| exact trivial| apply And.intro))) (trivial) ?_
      clear hK K
      try simp only [Act.put, List.setIfInBounds_toArray, List.set_cons_zero, List.set_cons_succ]
      refine plan_run (by rfl) (fun K hK => ?_)
      go_simp
      refine (of_c a _).mono ?_
      rintro e w4 ⟨rfl, hf2⟩
      unfold Order.val
      have hfd2 := hfd.trans' hf2
      have hed2 := hed.trans' hf2
      clear hfd hed hf2
      have hfd := hfd2
      have hed := hed2
      clear hfd2 hed2
      dsimp only
      refine hK.out (fun u => True) _ _ ((by repeat' (first| exact HC.out _ hfd| exact trivial| apply And.intro))) (trivial) ?_
      clear hK K
      try simp only [Act.put, List.setIfInBounds_toArray, List.set_cons_zero, List.set_cons_succ]
      refine plan_run (by rfl) (fun K hK => ?_)
      go_simp
      refine (HRB.out _).mono ?_
      rintro e w4 ⟨rfl, hf2⟩
      have hfd2 := hfd.trans' hf2
      have hed2 := hed.trans' hf2
      clear hfd hed hf2
      have hfd := hfd2
      have hed := hed2
      clear hfd2 hed2
      dsimp only
      refine hK.out (fun u => True) _ _ ((by repeat' (first| exact HC.out _ hfd| exact trivial| apply And.intro))) (trivial) ?_
      clear hK K
      try simp only [Act.put, List.setIfInBounds_toArray, List.set_cons_zero, List.set_cons_succ]
      repeat (first
        | (refine plan_step (by rfl) ?_; apply Exists.intro; refine ⟨fun x hSx => ?_, ?_⟩; ((try dsimp only at hSx); go_simp; (try with_reducible rfl)); (simp only [Act.put, List.setIfInBounds_toArray, List.set_cons_zero, List.set_cons_succ]))
        | (refine plan_skip (by rfl) ?_; (simp only [Act.put, List.setIfInBounds_toArray, List.set_cons_zero, List.set_cons_succ])))
      refine plan_done ?_
      go_wp2
      go_ret
      exact ⟨rfl, hed⟩
end Go.Proofs.YtmdfonkkbncfbaaDoor.Order
