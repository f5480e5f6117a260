import Derived.Test.YtbhofjmmdlkofaaDoorOrderT
import Derived.Test.YtbhofjmmdlkofaaDoorPlan
/-! Contract of order.Text at any order of a side. -/
set_option linter.unusedVariables false
set_option linter.unusedSimpArgs false
namespace Go.Proofs.YtbhofjmmdlkofaaDoor.Order
open Go.RowKit Go.Proofs.YtbhofjmmdlkofaaDoorW.PrintWords Go.Proofs.YtbhofjmmdlkofaaDoor.B Go.Proofs.YtbhofjmmdlkofaaDoor.Err

def txt0 (b1 b2 b3 b4 b5 b6 : ByteArray) : ByteArray := b1 ++ ⟨#[32]⟩ ++ b2 ++ ⟨#[32]⟩ ++ b3 ++ ⟨#[32]⟩ ++ b4 ++ ⟨#[64]⟩ ++ b5 ++ ⟨#[32]⟩ ++ b6
/-- An order in words. -/
def txtB (x : Order) : ByteArray := if x.Cust = true then txt0 (itoB x.ID) (itoB x.Owner) (sideB x.Side) (itoB x.Qty) (itoB x.Price) (lifeB x.Life) ++ ⟨#[32, 99]⟩ else txt0 (itoB x.ID) (itoB x.Owner) (sideB x.Side) (itoB x.Qty) (itoB x.Price) (lifeB x.Life)
theorem side_size (s : Int) : (sideB s).size = 1 := by unfold sideB; split <;> rfl
theorem life_size (l : Int) : (lifeB l).size ≤ 4 := by
  unfold lifeB
  repeat' split
  all_goals decide
theorem txt0_size (b1 b2 b3 b4 b5 b6 : ByteArray) (h1 : b1.size ≤ 30) (h2 : b2.size ≤ 30) (h3 : b3.size = 1) (h4 : b4.size ≤ 30) (h5 : b5.size ≤ 30) (h6 : b6.size ≤ 4) : (txt0 b1 b2 b3 b4 b5 b6).size ≤ 200 := by
  have s1 : (⟨#[32]⟩ : ByteArray).size = 1 := rfl
  have s2 : (⟨#[64]⟩ : ByteArray).size = 1 := rfl
  unfold txt0
  simp only [ByteArray.size_append, s1, s2]
  omega
set_option maxRecDepth 100000 in
set_option maxHeartbeats 4000000 in
theorem text_any (x : Order) (h1 : Err.i64 x.ID) (h2 : Err.i64 x.Owner) (h3 : Err.i64 x.Price) (h4 : Err.i64 x.Qty) (hs : x.Side = 1 ∨ x.Side = 2) (w : World) (ht : Tab w) :
    Calls Tryd.prog 15 #[x.val] w fun e w' => e = .returned (.string (txtB x)) ∧ Fr no w w' := by
  obtain ⟨id, ow, sd, pr, q, cu, lf⟩ := x
  dsimp only at h1 h2 h3 h4 hs
  have Q1 := fun W (h : Fr no w W) => ptext_g id h1 W (ht.fr h)
  have Q2 := fun W (h : Fr no w W) => ptext_g ow h2 W (ht.fr h)
  have Q3 := fun W (h : Fr no w W) => ptext_g pr h3 W (ht.fr h)
  have Q4 := fun W (h : Fr no w W) => ptext_g q h4 W (ht.fr h)
  have Q5 := fun W => side_g sd hs W
  have Q6 := fun W => life_g lf W
  have z1 := itoB_size id h1
  have z2 := itoB_size ow h2
  have z3 := itoB_size pr h3
  have z4 := itoB_size q h4
  have z5 := side_size sd
  have z6 := life_size lf
  unfold txtB
  dsimp only
  generalize itoB id = b1 at *
  generalize itoB ow = b2 at *
  generalize itoB pr = b3 at *
  generalize itoB q = b4 at *
  generalize sideB sd = b5 at *
  generalize lifeB lf = b6 at *
  have zT := txt0_size b1 b2 b5 b4 b3 b6 z1 z2 z5 z4 z3 z6
  generalize hT : txt0 b1 b2 b5 b4 b3 b6 = T at *
  unfold txt0 at hT
  have R1 := Lib.hid Q1
  have R2 := Lib.hid Q2
  have R3 := Lib.hid Q3
  have R4 := Lib.hid Q4
  have R5 := Lib.hid Q5
  have R6 := Lib.hid Q6
  have HT := Lib.hid hT
  clear Q1 Q2 Q3 Q4 Q5 Q6 h1 h2 h3 h4 hs ht hT
  have hX := blk_new w (.cells #[.int .i64 id, .int .i64 ow, .int .i64 sd, .int .i64 pr, .int .i64 q, .bool cu, .int .i64 lf] 23)
  have hfa := (Fr.refl no w).alloc (.cells #[.int .i64 id, .int .i64 ow, .int .i64 sd, .int .i64 pr, .int .i64 q, .bool cu, .int .i64 lf] 23)
  unfold Order.val
  dsimp only
  cases cu
  case' true => rw [if_pos rfl]
  case' false => rw [if_neg (by decide)]
  all_goals
    go_enter Tryd.func15, Tryd.ntmps15
    go_wp2_with fail
    generalize w.alloc _ = w1 at *
    generalize w.heap.size = X at *
    have HK : Hid (∀ u, Fr no w1 u → (u.cell? ⟨X, 0, none⟩ = some (.int .i64 id) ∧ u.cell? ⟨X, 1, none⟩ = some (.int .i64 ow) ∧ u.cell? ⟨X, 2, none⟩ = some (.int .i64 sd) ∧ u.cell? ⟨X, 3, none⟩ = some (.int .i64 pr) ∧ u.cell? ⟨X, 4, none⟩ = some (.int .i64 q) ∧ u.cell? ⟨X, 6, none⟩ = some (.int .i64 lf)) ∧ u.cell? ⟨X, 5, none⟩ = some (.bool _)) := fun u h => ⟨⟨blk_cell (h.heap hX (fun h => h)) 0, blk_cell (h.heap hX (fun h => h)) 1, blk_cell (h.heap hX (fun h => h)) 2, blk_cell (h.heap hX (fun h => h)) 3, blk_cell (h.heap hX (fun h => h)) 4, blk_cell (h.heap hX (fun h => h)) 6⟩, blk_cell (h.heap hX (fun h => h)) 5⟩
    have HFA := Lib.hid hfa
    clear hX hfa
    have hf0 := (Fr.refl no w1).drew
    have hpl := (HK.out _ hf0).1
    refine wp_region_plan (fun u => u.cell? ⟨X, 0, none⟩ = some (.int .i64 id) ∧ u.cell? ⟨X, 1, none⟩ = some (.int .i64 ow) ∧ u.cell? ⟨X, 2, none⟩ = some (.int .i64 sd) ∧ u.cell? ⟨X, 3, none⟩ = some (.int .i64 pr) ∧ u.cell? ⟨X, 4, none⟩ = some (.int .i64 q) ∧ u.cell? ⟨X, 6, none⟩ = some (.int .i64 lf)) [(0, false), (1, false), (4, false), (5, false), (9, false), (10, false), (14, false), (15, false), (19, false), (20, false), (24, false), (25, false), (2, true), (3, false), (6, true), (7, false), (8, false), (11, true), (12, false), (13, false), (16, true), (17, false), (18, false), (21, true), (22, false), (23, false), (26, true), (27, false), (28, false)] (by kernel_rfl) (by kernel_rfl) (fun _ _ _ _ _ h => h) (hpl) ?_
    simp only [planOps, List.getElem?_toArray, List.getElem?_cons_succ, List.getElem?_cons_zero]
    repeat (first
      | (refine plan_step (by rfl) ?_; apply Exists.intro; refine ⟨fun x hSx => ?_, ?_⟩; ((try dsimp only at hSx); go_simp; (try rw [if_neg (by omega)]); (try with_reducible rfl)); (simp only [Act.put, List.setIfInBounds_toArray, List.set_cons_zero, List.set_cons_succ]))
      | (refine plan_skip (by rfl) ?_; (simp only [Act.put, List.setIfInBounds_toArray, List.set_cons_zero, List.set_cons_succ])))
    refine plan_run (by rfl) (fun K hK => ?_)
    go_simp
    refine (R1.out _ (HFA.out.trans' hf0)).mono ?_
    rintro e w2 ⟨rfl, g⟩
    have hf2 := hf0.trans' g
    have q2 := (HK.out _ hf2).1
    clear g
    dsimp only
    refine hK.out (fun u => True) _ _ (q2) (trivial) ?_
    clear hK K
    try simp only [Act.put, List.setIfInBounds_toArray, List.set_cons_zero, List.set_cons_succ]
    repeat (first
      | (refine plan_step (by rfl) ?_; apply Exists.intro; refine ⟨fun x hSx => ?_, ?_⟩; ((try dsimp only at hSx); go_simp; (try rw [if_neg (by omega)]); (try with_reducible rfl)); (simp only [Act.put, List.setIfInBounds_toArray, List.set_cons_zero, List.set_cons_succ]))
      | (refine plan_skip (by rfl) ?_; (simp only [Act.put, List.setIfInBounds_toArray, List.set_cons_zero, List.set_cons_succ])))
    refine plan_run (by rfl) (fun K hK => ?_)
    go_simp
    refine (R2.out _ (HFA.out.trans' hf2)).mono ?_
    rintro e w3 ⟨rfl, g⟩
    have hf3 := hf2.trans' g
    have q3 := (HK.out _ hf3).1
    clear g
    dsimp only
    refine hK.out (fun u => True) _ _ (⟨q3, trivial⟩) (trivial) ?_
    clear hK K
    try simp only [Act.put, List.setIfInBounds_toArray, List.set_cons_zero, List.set_cons_succ]
    repeat (first
      | (refine plan_step (by rfl) ?_; apply Exists.intro; refine ⟨fun x hSx => ?_, ?_⟩; ((try dsimp only at hSx); go_simp; (try rw [if_neg (by omega)]); (try with_reducible rfl)); (simp only [Act.put, List.setIfInBounds_toArray, List.set_cons_zero, List.set_cons_succ]))
      | (refine plan_skip (by rfl) ?_; (simp only [Act.put, List.setIfInBounds_toArray, List.set_cons_zero, List.set_cons_succ])))
    refine plan_run (by rfl) (fun K hK => ?_)
    go_simp
    refine (R5.out _).mono ?_
    rintro e w4 ⟨rfl, rfl⟩
    dsimp only
    refine hK.out (fun u => True) _ _ (⟨⟨q3, trivial⟩, trivial⟩) (trivial) ?_
    clear hK K
    try simp only [Act.put, List.setIfInBounds_toArray, List.set_cons_zero, List.set_cons_succ]
    repeat (first
      | (refine plan_step (by rfl) ?_; apply Exists.intro; refine ⟨fun x hSx => ?_, ?_⟩; ((try dsimp only at hSx); go_simp; (try rw [if_neg (by omega)]); (try with_reducible rfl)); (simp only [Act.put, List.setIfInBounds_toArray, List.set_cons_zero, List.set_cons_succ]))
      | (refine plan_skip (by rfl) ?_; (simp only [Act.put, List.setIfInBounds_toArray, List.set_cons_zero, List.set_cons_succ])))
    refine plan_run (by rfl) (fun K hK => ?_)
    go_simp
    refine (R4.out _ (HFA.out.trans' hf3)).mono ?_
    rintro e w4 ⟨rfl, g⟩
    have hf4 := hf3.trans' g
    have q4 := (HK.out _ hf4).1
    clear g
    dsimp only
    refine hK.out (fun u => True) _ _ (⟨⟨⟨q4, trivial⟩, trivial⟩, trivial⟩) (trivial) ?_
    clear hK K
    try simp only [Act.put, List.setIfInBounds_toArray, List.set_cons_zero, List.set_cons_succ]
    repeat (first
      | (refine plan_step (by rfl) ?_; apply Exists.intro; refine ⟨fun x hSx => ?_, ?_⟩; ((try dsimp only at hSx); go_simp; (try rw [if_neg (by omega)]); (try with_reducible rfl)); (simp only [Act.put, List.setIfInBounds_toArray, List.set_cons_zero, List.set_cons_succ]))
      | (refine plan_skip (by rfl) ?_; (simp only [Act.put, List.setIfInBounds_toArray, List.set_cons_zero, List.set_cons_succ])))
    refine plan_run (by rfl) (fun K hK => ?_)
    go_simp
    refine (R3.out _ (HFA.out.trans' hf4)).mono ?_
    rintro e w5 ⟨rfl, g⟩
    have hf5 := hf4.trans' g
    have q5 := (HK.out _ hf5).1
    clear g
    dsimp only
    refine hK.out (fun u => True) _ _ (⟨⟨⟨⟨q5, trivial⟩, trivial⟩, trivial⟩, trivial⟩) (trivial) ?_
    clear hK K
    try simp only [Act.put, List.setIfInBounds_toArray, List.set_cons_zero, List.set_cons_succ]
    repeat (first
      | (refine plan_step (by rfl) ?_; apply Exists.intro; refine ⟨fun x hSx => ?_, ?_⟩; ((try dsimp only at hSx); go_simp; (try rw [if_neg (by omega)]); (try with_reducible rfl)); (simp only [Act.put, List.setIfInBounds_toArray, List.set_cons_zero, List.set_cons_succ]))
      | (refine plan_skip (by rfl) ?_; (simp only [Act.put, List.setIfInBounds_toArray, List.set_cons_zero, List.set_cons_succ])))
    refine plan_run (by rfl) (fun K hK => ?_)
    go_simp
    refine (R6.out _).mono ?_
    rintro e w6 ⟨rfl, rfl⟩
    dsimp only
    refine hK.out (fun u => True) _ _ (⟨⟨⟨⟨⟨q5, trivial⟩, trivial⟩, trivial⟩, trivial⟩, trivial⟩) (trivial) ?_
    clear hK K
    try simp only [Act.put, List.setIfInBounds_toArray, List.set_cons_zero, List.set_cons_succ]
    repeat (first
      | (refine plan_step (by rfl) ?_; apply Exists.intro; refine ⟨fun x hSx => ?_, ?_⟩; ((try dsimp only at hSx); go_simp; (try rw [if_neg (by omega)]); (try with_reducible rfl)); (simp only [Act.put, List.setIfInBounds_toArray, List.set_cons_zero, List.set_cons_succ]))
      | (refine plan_skip (by rfl) ?_; (simp only [Act.put, List.setIfInBounds_toArray, List.set_cons_zero, List.set_cons_succ])))
    refine plan_done ?_
    rw [HT.out]
    have c5 := (HK.out _ hf5).2
    have hfe := HFA.out.trans' hf5
    clear hpl q2 q3 q4 q5 hf0 hf2 hf3 hf4 hf5 z1 z2 z3 z4 z5 z6
    go_wp2
    go_ret
    exact ⟨rfl, hfe⟩
end Go.Proofs.YtbhofjmmdlkofaaDoor.Order
