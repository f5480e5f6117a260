import Derived.Test.YtbhofjmmdlkofaaDoorOrder
import Derived.Test.YtbhofjmmdlkofaaDoorPlan
/-! Contracts of package order: which stands ahead; texts; the law's own check. -/
set_option linter.unusedVariables false
set_option linter.unusedSimpArgs false
namespace Go.Proofs.YtbhofjmmdlkofaaDoor.Order
open Go.RowKit Go.Proofs.YtbhofjmmdlkofaaDoorW.PrintWords Go.Proofs.YtbhofjmmdlkofaaDoor.B

/-- Which of two orders stands ahead. -/
def aheadB (a b : Order) : Bool := if a.Price = b.Price then (if a.Cust = b.Cust then decide (a.ID < b.ID) else a.Cust) else (if a.Side = 1 then decide (b.Price < a.Price) else decide (a.Price < b.Price))
theorem cmp64_f (a b : Int) : POrderAny.cmp_Compare_int64.f a b = some (if a < b then -1 else if b < a then 1 else 0) := by
  unfold POrderAny.cmp_Compare_int64.f POrderAny.cmp_isNaN_int64.f
  simp
  by_cases h1 : a < b
  · simp [h1]
  · by_cases h2 : b < a <;> simp [h1, h2]
theorem cmp_f (a b : Int) : POrderAny.cmp_Compare_int.f a b = some (if a < b then -1 else if b < a then 1 else 0) := by
  unfold POrderAny.cmp_Compare_int.f POrderAny.cmp_isNaN_int.f
  simp
  by_cases h1 : a < b
  · simp [h1]
  · by_cases h2 : b < a <;> simp [h1, h2]
theorem or_f (a b c : Int) : POrderAny.cmp_Or_int.f 4 [a, b, c] = some (if a ≠ 0 then a else if b ≠ 0 then b else c) := by
  unfold POrderAny.cmp_Or_int.f
  by_cases ha : a = 0 <;> by_cases hb : b = 0 <;> by_cases hc : c = 0 <;> simp [POrderAny.cmp_Or_int.l0, rd, wrap64, ha, hb, hc]
theorem ahead_f (a b : Order) : POrderAny.order_Ahead.f 5 a.ID a.Owner a.Side a.Price a.Qty a.Cust a.Life b.ID b.Owner b.Side b.Price b.Qty b.Cust b.Life = some (aheadB a b) := by
  unfold POrderAny.order_Ahead.f
  simp only [cmp64_f, Option.bind_some, POrderAny.order_Ahead.j0, POrderAny.order_rank.f, aheadB]
  have hr : ∀ c : Bool, (if c = true then some (0 : Int) else some 1) = some (if c then 0 else 1) := fun c => by cases c <;> rfl
  simp only [hr, Option.bind_some, cmp_f, or_f]
  obtain ⟨i, o, s, p, q, c, l⟩ := a
  obtain ⟨i2, o2, s2, p2, q2, c2, l2⟩ := b
  dsimp only
  rcases Int.lt_trichotomy p p2 with h | h | h
  · by_cases hs : s = 1 <;> simp [h, hs, wrap64, show ¬ p2 < p by omega, show p ≠ p2 by omega]
  · subst h
    rcases Int.lt_trichotomy i i2 with h | h | h
    · cases c <;> cases c2 <;> by_cases hs : s = 1 <;> simp [wrap64, h, hs]
    · subst h
      cases c <;> cases c2 <;> by_cases hs : s = 1 <;> simp [wrap64, hs]
    · cases c <;> cases c2 <;> by_cases hs : s = 1 <;> simp [wrap64, hs, h, show ¬ i < i2 by omega]
  · by_cases hs : s = 1 <;> simp [h, hs, wrap64, show ¬ p < p2 by omega, show p ≠ p2 by omega]
theorem ahead_c (a b : Order) (w : World) : Calls Tryd.prog 17 #[a.val, b.val] w fun e w' => e = .returned (.bool (aheadB a b)) ∧ Fr no w w' := by
  refine (POrderAny.order_Ahead.calls 5 a.ID a.Owner a.Side a.Price a.Qty a.Cust a.Life b.ID b.Owner b.Side b.Price b.Qty b.Cust b.Life _ w (ahead_f a b)).mono ?_
  rintro e w' ⟨rfl, hb⟩
  exact ⟨rfl, Fr.of_below hb⟩
def takesB (a : Order) (p : Int) : Bool := if a.Side = 1 then decide (p ≤ a.Price) else if a.Side = 2 then decide (p ≥ a.Price) else false
theorem takes_c (a : Order) (p : Int) (w : World) : Calls Tryd.prog 13 #[a.val, .int .i64 p] w fun e w' => e = .returned (.bool (takesB a p)) ∧ Fr no w w' := by
  refine (POrderAny.order_Takes.calls a.ID a.Owner a.Side a.Price a.Qty a.Cust a.Life p (takesB a p) w ?_).mono ?_
  · unfold POrderAny.order_Takes.f takesB
    split
    · rfl
    · split <;> rfl
  rintro e w' ⟨rfl, hb⟩
  exact ⟨rfl, Fr.of_below hb⟩

set_option maxRecDepth 100000 in
set_option maxHeartbeats 1000000 in
theorem text_known (w : World) : Calls Tryd.prog 15 #[Order.val ⟨3, 1, 1, 10, 5, true, 2⟩] w fun e w' => e = .returned (.string ⟨#[51, 32, 49, 32, 66, 32, 53, 64, 49, 48, 32, 105, 111, 99, 32, 99]⟩) ∧ Fr no w w' := by
  unfold Order.val
  dsimp only
  have hX := blk_new w (.cells #[.int .i64 3, .int .i64 1, .int .i64 1, .int .i64 10, .int .i64 5, .bool true, .int .i64 2] 23)
  have hfa := (Fr.refl no w).alloc (.cells #[.int .i64 3, .int .i64 1, .int .i64 1, .int .i64 10, .int .i64 5, .bool true, .int .i64 2] 23)
  go_enter Tryd.func15, Tryd.ntmps15
  go_wp2
  generalize w.alloc _ = w1 at *
  generalize w.heap.size = X at *
  have c0 : w1.cell? ⟨X, 0, none⟩ = some (.int .i64 3) := blk_cell hX 0
  have c1 : w1.cell? ⟨X, 1, none⟩ = some (.int .i64 1) := blk_cell hX 1
  have c2 : w1.cell? ⟨X, 2, none⟩ = some (.int .i64 1) := blk_cell hX 2
  have c3 : w1.cell? ⟨X, 3, none⟩ = some (.int .i64 10) := blk_cell hX 3
  have c4 : w1.cell? ⟨X, 4, none⟩ = some (.int .i64 5) := blk_cell hX 4
  have c5 : w1.cell? ⟨X, 5, none⟩ = some (.bool true) := blk_cell hX 5
  have c6 : w1.cell? ⟨X, 6, none⟩ = some (.int .i64 2) := blk_cell hX 6
  clear hX
  refine wp_region_plan (fun u => u.cell? ⟨X, 0, none⟩ = some (.int .i64 3) ∧ u.cell? ⟨X, 1, none⟩ = some (.int .i64 1) ∧ u.cell? ⟨X, 2, none⟩ = some (.int .i64 1) ∧ u.cell? ⟨X, 3, none⟩ = some (.int .i64 10) ∧ u.cell? ⟨X, 4, none⟩ = some (.int .i64 5) ∧ u.cell? ⟨X, 6, none⟩ = some (.int .i64 2)) [(0, false), (1, false), (4, false), (5, false), (9, false), (10, false), (14, false), (15, false), (19, false), (20, false), (24, false), (25, false), (2, true), (3, false), (6, true), (7, false), (8, false), (11, true), (12, false), (13, false), (16, true), (17, false), (18, false), (21, true), (22, false), (23, false), (26, true), (27, false), (28, false)] (by kernel_rfl) (by kernel_rfl) (fun _ _ _ _ _ h => h) (⟨c0, c1, c2, c3, c4, c6⟩) ?_
  simp only [planOps, List.getElem?_toArray, List.getElem?_cons_succ, List.getElem?_cons_zero]
  repeat (first
    | (refine plan_step (by rfl) ?_; apply Exists.intro; refine ⟨fun x hSx => ?_, ?_⟩; ((try dsimp only at hSx); go_simp; (try rw [if_neg (by omega)]); (try with_reducible rfl)); (simp only [Act.put, List.setIfInBounds_toArray, List.set_cons_zero, List.set_cons_succ]))
    | (refine plan_skip (by rfl) ?_; (simp only [Act.put, List.setIfInBounds_toArray, List.set_cons_zero, List.set_cons_succ])))
  refine plan_run (by rfl) (fun K hK => ?_)
  go_simp
  refine (text_lit 3 3 #[51] (by rfl) (by decide) (by decide +kernel) _).mono ?_
  rintro e w2 ⟨rfl, rfl⟩
  dsimp only
  refine hK.out (fun u => True) _ _ ((by repeat' (first| assumption| exact trivial| apply And.intro))) (trivial) ?_
  clear hK K
  try simp only [Act.put, List.setIfInBounds_toArray, List.set_cons_zero, List.set_cons_succ]
  repeat (first
    | (refine plan_step (by rfl) ?_; apply Exists.intro; refine ⟨fun x hSx => ?_, ?_⟩; ((try dsimp only at hSx); go_simp; (try rw [if_neg (by omega)]); (try with_reducible rfl)); (simp only [Act.put, List.setIfInBounds_toArray, List.set_cons_zero, List.set_cons_succ]))
    | (refine plan_skip (by rfl) ?_; (simp only [Act.put, List.setIfInBounds_toArray, List.set_cons_zero, List.set_cons_succ])))
  refine plan_run (by rfl) (fun K hK => ?_)
  go_simp
  refine (text_lit 1 1 #[49] (by rfl) (by decide) (by decide +kernel) _).mono ?_
  rintro e w2 ⟨rfl, rfl⟩
  dsimp only
  refine hK.out (fun u => True) _ _ ((by repeat' (first| assumption| exact trivial| apply And.intro))) (trivial) ?_
  clear hK K
  try simp only [Act.put, List.setIfInBounds_toArray, List.set_cons_zero, List.set_cons_succ]
  repeat (first
    | (refine plan_step (by rfl) ?_; apply Exists.intro; refine ⟨fun x hSx => ?_, ?_⟩; ((try dsimp only at hSx); go_simp; (try rw [if_neg (by omega)]); (try with_reducible rfl)); (simp only [Act.put, List.setIfInBounds_toArray, List.set_cons_zero, List.set_cons_succ]))
    | (refine plan_skip (by rfl) ?_; (simp only [Act.put, List.setIfInBounds_toArray, List.set_cons_zero, List.set_cons_succ])))
  refine plan_run (by rfl) (fun K hK => ?_)
  go_simp
  refine (side_one _).mono ?_
  rintro e w2 ⟨rfl, rfl⟩
  dsimp only
  refine hK.out (fun u => True) _ _ ((by repeat' (first| assumption| exact trivial| apply And.intro))) (trivial) ?_
  clear hK K
  try simp only [Act.put, List.setIfInBounds_toArray, List.set_cons_zero, List.set_cons_succ]
  repeat (first
    | (refine plan_step (by rfl) ?_; apply Exists.intro; refine ⟨fun x hSx => ?_, ?_⟩; ((try dsimp only at hSx); go_simp; (try rw [if_neg (by omega)]); (try with_reducible rfl)); (simp only [Act.put, List.setIfInBounds_toArray, List.set_cons_zero, List.set_cons_succ]))
    | (refine plan_skip (by rfl) ?_; (simp only [Act.put, List.setIfInBounds_toArray, List.set_cons_zero, List.set_cons_succ])))
  refine plan_run (by rfl) (fun K hK => ?_)
  go_simp
  refine (text_lit 5 5 #[53] (by rfl) (by decide) (by decide +kernel) _).mono ?_
  rintro e w2 ⟨rfl, rfl⟩
  dsimp only
  refine hK.out (fun u => True) _ _ ((by repeat' (first| assumption| exact trivial| apply And.intro))) (trivial) ?_
  clear hK K
  try simp only [Act.put, List.setIfInBounds_toArray, List.set_cons_zero, List.set_cons_succ]
  repeat (first
    | (refine plan_step (by rfl) ?_; apply Exists.intro; refine ⟨fun x hSx => ?_, ?_⟩; ((try dsimp only at hSx); go_simp; (try rw [if_neg (by omega)]); (try with_reducible rfl)); (simp only [Act.put, List.setIfInBounds_toArray, List.set_cons_zero, List.set_cons_succ]))
    | (refine plan_skip (by rfl) ?_; (simp only [Act.put, List.setIfInBounds_toArray, List.set_cons_zero, List.set_cons_succ])))
  refine plan_run (by rfl) (fun K hK => ?_)
  go_simp
  refine (text_lit 10 10 #[49, 48] (by rfl) (by decide) (by decide +kernel) _).mono ?_
  rintro e w2 ⟨rfl, rfl⟩
  dsimp only
  refine hK.out (fun u => True) _ _ ((by repeat' (first| assumption| exact trivial| apply And.intro))) (trivial) ?_
  clear hK K
  try simp only [Act.put, List.setIfInBounds_toArray, List.set_cons_zero, List.set_cons_succ]
  repeat (first
    | (refine plan_step (by rfl) ?_; apply Exists.intro; refine ⟨fun x hSx => ?_, ?_⟩; ((try dsimp only at hSx); go_simp; (try rw [if_neg (by omega)]); (try with_reducible rfl)); (simp only [Act.put, List.setIfInBounds_toArray, List.set_cons_zero, List.set_cons_succ]))
    | (refine plan_skip (by rfl) ?_; (simp only [Act.put, List.setIfInBounds_toArray, List.set_cons_zero, List.set_cons_succ])))
  refine plan_run (by rfl) (fun K hK => ?_)
  go_simp
  refine (life_two _).mono ?_
  rintro e w2 ⟨rfl, rfl⟩
  dsimp only
  refine hK.out (fun u => True) _ _ ((by repeat' (first| assumption| exact trivial| apply And.intro))) (trivial) ?_
  clear hK K
  try simp only [Act.put, List.setIfInBounds_toArray, List.set_cons_zero, List.set_cons_succ]
  repeat (first
    | (refine plan_step (by rfl) ?_; apply Exists.intro; refine ⟨fun x hSx => ?_, ?_⟩; ((try dsimp only at hSx); go_simp; (try rw [if_neg (by omega)]); (try with_reducible rfl)); (simp only [Act.put, List.setIfInBounds_toArray, List.set_cons_zero, List.set_cons_succ]))
    | (refine plan_skip (by rfl) ?_; (simp only [Act.put, List.setIfInBounds_toArray, List.set_cons_zero, List.set_cons_succ])))
  refine plan_done ?_
  go_wp2
  go_ret
  exact ⟨rfl, hfa.drew⟩
end Go.Proofs.YtbhofjmmdlkofaaDoor.Order
