import Derived.Test.YtbhofjmmdlkofaaDoorOrderB
/-! The law's own check of package order. -/
set_option linter.unusedVariables false
set_option linter.unusedSimpArgs false
namespace Go.Proofs.YtbhofjmmdlkofaaDoor.Order
open Go.RowKit Go.Proofs.YtbhofjmmdlkofaaDoorW.PrintWords Go.Proofs.YtbhofjmmdlkofaaDoor.B

/-- An order in a block of its own. -/
def OrdAt (w : World) (Y : Nat) (e : Order) : Prop := w.heap[Y]? = some (.cells #[.int .i64 e.ID, .int .i64 e.Owner, .int .i64 e.Side, .int .i64 e.Price, .int .i64 e.Qty, .bool e.Cust, .int .i64 e.Life] 23 (0, 0))
def OrdCells (w : World) (Y : Nat) (e : Order) : Prop := w.cell? ⟨Y, 0, none⟩ = some (.int .i64 e.ID) ∧ w.cell? ⟨Y, 1, none⟩ = some (.int .i64 e.Owner) ∧ w.cell? ⟨Y, 2, none⟩ = some (.int .i64 e.Side) ∧ w.cell? ⟨Y, 3, none⟩ = some (.int .i64 e.Price) ∧
    w.cell? ⟨Y, 4, none⟩ = some (.int .i64 e.Qty) ∧ w.cell? ⟨Y, 5, none⟩ = some (.bool e.Cust) ∧ w.cell? ⟨Y, 6, none⟩ = some (.int .i64 e.Life)
theorem OrdAt.cells {w : World} {Y : Nat} {e : Order} (h : OrdAt w Y e) : OrdCells w Y e := ⟨blk_cell h 0, blk_cell h 1, blk_cell h 2, blk_cell h 3, blk_cell h 4, blk_cell h 5, blk_cell h 6⟩
theorem OrdAt.fr {w w1 : World} {Y : Nat} {e : Order} (h : OrdAt w Y e) (hf : Fr no w w1) : OrdAt w1 Y e := hf.heap h (fun h => h)

def kt : List Grid.Step := [⟨1, 1⟩]
theorem kt_wf : Grid.Wf kt := by
  refine ⟨by decide, by decide, rfl, ?_, ?_, ?_, ?_⟩
  · intro i hi
    obtain rfl : i = 0 := by simp [kt] at hi; omega
    decide
  · intro i hi
    obtain rfl : i = 0 := by simp [kt] at hi; omega
    decide
  · intro i hi; simp [kt] at hi
  · intro i hi; simp [kt] at hi
theorem kt_on : Grid.onF kt 10 = true := by decide +kernel

set_option maxRecDepth 100000 in
set_option maxHeartbeats 2000000 in
theorem known_c (w : World) : Calls Tryd.prog 4 #[] w fun e w' => e = .returned (.bool true) ∧ Fr no w w' := by
  go_enter Tryd.func4, Tryd.ntmps4
  go_wp2_with fail
  have hb0 : OrdAt ((((w.alloc (.cells #[.int .i64 3, .int .i64 1, .int .i64 1, .int .i64 10, .int .i64 5, .bool true, .int .i64 2] 23)).alloc (.cells #[.int .i64 1, .int .i64 1] 47)).alloc (.cells #[.int .i64 1, .int .i64 1, .int .i64 1, .int .i64 10, .int .i64 5, .bool false, .int .i64 2] 23)).alloc (.cells #[.int .i64 3, .int .i64 1, .int .i64 1, .int .i64 10, .int .i64 0, .bool true, .int .i64 2] 23)) w.heap.size ⟨3, 1, 1, 10, 5, true, 2⟩ := ((((Fr.refl no _).alloc _).alloc _).alloc _).heap (blk_new w (.cells #[.int .i64 3, .int .i64 1, .int .i64 1, .int .i64 10, .int .i64 5, .bool true, .int .i64 2] 23)) (fun h => h)
  have hb1 : ((((w.alloc (.cells #[.int .i64 3, .int .i64 1, .int .i64 1, .int .i64 10, .int .i64 5, .bool true, .int .i64 2] 23)).alloc (.cells #[.int .i64 1, .int .i64 1] 47)).alloc (.cells #[.int .i64 1, .int .i64 1, .int .i64 1, .int .i64 10, .int .i64 5, .bool false, .int .i64 2] 23)).alloc (.cells #[.int .i64 3, .int .i64 1, .int .i64 1, .int .i64 10, .int .i64 0, .bool true, .int .i64 2] 23)).heap[w.heap.size + 1]? = some (.cells #[.int .i64 1, .int .i64 1] 47 (0, 0)) := by
    have h := (((Fr.refl no _).alloc (.cells #[.int .i64 1, .int .i64 1, .int .i64 1, .int .i64 10, .int .i64 5, .bool false, .int .i64 2] 23)).alloc (.cells #[.int .i64 3, .int .i64 1, .int .i64 1, .int .i64 10, .int .i64 0, .bool true, .int .i64 2] 23)).heap (blk_new (w.alloc (.cells #[.int .i64 3, .int .i64 1, .int .i64 1, .int .i64 10, .int .i64 5, .bool true, .int .i64 2] 23)) (.cells #[.int .i64 1, .int .i64 1] 47)) (fun h => h)
    simpa using h
  have hb2 : OrdAt ((((w.alloc (.cells #[.int .i64 3, .int .i64 1, .int .i64 1, .int .i64 10, .int .i64 5, .bool true, .int .i64 2] 23)).alloc (.cells #[.int .i64 1, .int .i64 1] 47)).alloc (.cells #[.int .i64 1, .int .i64 1, .int .i64 1, .int .i64 10, .int .i64 5, .bool false, .int .i64 2] 23)).alloc (.cells #[.int .i64 3, .int .i64 1, .int .i64 1, .int .i64 10, .int .i64 0, .bool true, .int .i64 2] 23)) (w.heap.size + 1 + 1) ⟨1, 1, 1, 10, 5, false, 2⟩ := by
    have h := ((Fr.refl no _).alloc (.cells #[.int .i64 3, .int .i64 1, .int .i64 1, .int .i64 10, .int .i64 0, .bool true, .int .i64 2] 23)).heap (blk_new ((w.alloc (.cells #[.int .i64 3, .int .i64 1, .int .i64 1, .int .i64 10, .int .i64 5, .bool true, .int .i64 2] 23)).alloc (.cells #[.int .i64 1, .int .i64 1] 47)) (.cells #[.int .i64 1, .int .i64 1, .int .i64 1, .int .i64 10, .int .i64 5, .bool false, .int .i64 2] 23)) (fun h => h)
    unfold OrdAt
    simpa using h
  have hb3 : OrdAt ((((w.alloc (.cells #[.int .i64 3, .int .i64 1, .int .i64 1, .int .i64 10, .int .i64 5, .bool true, .int .i64 2] 23)).alloc (.cells #[.int .i64 1, .int .i64 1] 47)).alloc (.cells #[.int .i64 1, .int .i64 1, .int .i64 1, .int .i64 10, .int .i64 5, .bool false, .int .i64 2] 23)).alloc (.cells #[.int .i64 3, .int .i64 1, .int .i64 1, .int .i64 10, .int .i64 0, .bool true, .int .i64 2] 23)) (w.heap.size + 1 + 1 + 1) ⟨3, 1, 1, 10, 0, true, 2⟩ := by
    have h := blk_new (((w.alloc (.cells #[.int .i64 3, .int .i64 1, .int .i64 1, .int .i64 10, .int .i64 5, .bool true, .int .i64 2] 23)).alloc (.cells #[.int .i64 1, .int .i64 1] 47)).alloc (.cells #[.int .i64 1, .int .i64 1, .int .i64 1, .int .i64 10, .int .i64 5, .bool false, .int .i64 2] 23)) (.cells #[.int .i64 3, .int .i64 1, .int .i64 1, .int .i64 10, .int .i64 0, .bool true, .int .i64 2] 23)
    unfold OrdAt
    simpa using h
  have hf : Fr no w ((((w.alloc (.cells #[.int .i64 3, .int .i64 1, .int .i64 1, .int .i64 10, .int .i64 5, .bool true, .int .i64 2] 23)).alloc (.cells #[.int .i64 1, .int .i64 1] 47)).alloc (.cells #[.int .i64 1, .int .i64 1, .int .i64 1, .int .i64 10, .int .i64 5, .bool false, .int .i64 2] 23)).alloc (.cells #[.int .i64 3, .int .i64 1, .int .i64 1, .int .i64 10, .int .i64 0, .bool true, .int .i64 2] 23)) := ((((Fr.refl no w).alloc _).alloc _).alloc _).alloc _
  generalize (((w.alloc _).alloc _).alloc _).alloc _ = W at *
  generalize w.heap.size = X at *
  have hC : Grid.kStep.C W (some ⟨X + 1, 0, none⟩) 1 kt := C_blk (d := Grid.kStep) hb1 kt (show 0 < 2 by decide) (show 1 ≤ 9223372036854775807 by decide) ((Reps.none _ _).snoc (p := (⟨1, 1⟩ : Grid.Step)) (Grid.kStep_mk _ _) rfl)
  have HO : Hid (∀ u, Fr no W u → OrdCells u X ⟨3, 1, 1, 10, 5, true, 2⟩ ∧ OrdCells u (X + 1 + 1) ⟨1, 1, 1, 10, 5, false, 2⟩ ∧ OrdCells u (X + 1 + 1 + 1) ⟨3, 1, 1, 10, 0, true, 2⟩) := fun u h => ⟨(hb0.fr h).cells, (hb2.fr h).cells, (hb3.fr h).cells⟩
  clear hb0 hb1 hb2 hb3
  have hFW := Fr.refl no W
  refine (check_ok (some ⟨X + 1, 0, none⟩) 1 kt ⟨3, 1, 1, 10, 5, true, 2⟩ kt_wf ⟨by decide, by decide, by decide, rfl, kt_on, rfl⟩ (by decide) (by decide) _ hC).mono ?_
  rintro e w1 ⟨rfl, hf1⟩
  have hFW2 := hFW.trans' hf1
  clear hFW hf1
  have hFW := hFW2
  clear hFW2
  obtain ⟨ho, hp, hq⟩ := HO.out _ hFW
  unfold OrdCells at ho hp hq
  dsimp only at ho hp hq
  dsimp only
  go_wp2_with fail
  clear ho hp hq
  refine (check_qty (some ⟨X + 1, 0, none⟩) 1 kt ⟨3, 1, 1, 10, 0, true, 2⟩ kt_wf ⟨by decide, by decide, by decide, rfl, kt_on, rfl⟩ (by decide) _ (C_fr hC hFW)).mono ?_
  rintro e w1 ⟨⟨gq, rfl⟩, hf1⟩
  have hFW2 := hFW.trans' hf1
  clear hFW hf1
  have hFW := hFW2
  clear hFW2
  obtain ⟨ho, hp, hq⟩ := HO.out _ hFW
  unfold OrdCells at ho hp hq
  dsimp only at ho hp hq
  dsimp only
  go_wp2_with fail
  clear ho hp hq
  refine (takes_c ⟨3, 1, 1, 10, 5, true, 2⟩ 10 _).mono ?_
  rintro e w1 ⟨rfl, hf1⟩
  have e1 : takesB ⟨3, 1, 1, 10, 5, true, 2⟩ 10 = true := by decide
  rw [e1]
  clear e1
  have hFW2 := hFW.trans' hf1
  clear hFW hf1
  have hFW := hFW2
  clear hFW2
  obtain ⟨ho, hp, hq⟩ := HO.out _ hFW
  unfold OrdCells at ho hp hq
  dsimp only at ho hp hq
  dsimp only
  go_wp2_with fail
  clear ho hp hq
  refine (takes_c ⟨3, 1, 1, 10, 5, true, 2⟩ 11 _).mono ?_
  rintro e w1 ⟨rfl, hf1⟩
  have e1 : takesB ⟨3, 1, 1, 10, 5, true, 2⟩ 11 = false := by decide
  rw [e1]
  clear e1
  have hFW2 := hFW.trans' hf1
  clear hFW hf1
  have hFW := hFW2
  clear hFW2
  obtain ⟨ho, hp, hq⟩ := HO.out _ hFW
  unfold OrdCells at ho hp hq
  dsimp only at ho hp hq
  dsimp only
  go_wp2_with fail
  clear ho hp hq
  refine (ahead_c ⟨3, 1, 1, 10, 5, true, 2⟩ ⟨1, 1, 1, 10, 5, false, 2⟩ _).mono ?_
  rintro e w1 ⟨rfl, hf1⟩
  have e1 : aheadB ⟨3, 1, 1, 10, 5, true, 2⟩ ⟨1, 1, 1, 10, 5, false, 2⟩ = true := by decide
  rw [e1]
  clear e1
  have hFW2 := hFW.trans' hf1
  clear hFW hf1
  have hFW := hFW2
  clear hFW2
  obtain ⟨ho, hp, hq⟩ := HO.out _ hFW
  unfold OrdCells at ho hp hq
  dsimp only at ho hp hq
  dsimp only
  go_wp2_with fail
  clear ho hp hq
  refine (opp_c 1 _).mono ?_
  rintro e w1 ⟨rfl, rfl⟩
  rw [if_pos rfl]
  dsimp only
  go_wp2_with fail
  refine (opp_c 5 _).mono ?_
  rintro e w1 ⟨rfl, rfl⟩
  rw [if_neg (by decide), if_neg (by decide)]
  obtain ⟨ho, hp, hq⟩ := HO.out _ hFW
  unfold OrdCells at ho hp hq
  dsimp only at ho hp hq
  dsimp only
  go_wp2_with fail
  clear ho hp hq
  refine (text_known _).mono ?_
  rintro e w1 ⟨rfl, hf1⟩
  have hfe := (hf.trans' hFW).trans' hf1
  dsimp only
  go_wp2
  go_ret
  exact ⟨rfl, hfe⟩
end Go.Proofs.YtbhofjmmdlkofaaDoor.Order
