import Derived.Test.YtbhofjmmdlkofaaDoorGridN
import Derived.Test.YtbhofjmmdlkofaaDoorOrderK
import Derived.Test.YtbhofjmmdlkofaaDoorShelf
import Derived.Test.YtbhofjmmdlkofaaDoorPOrdB
import Derived.Lib.ItoaNum
/-! Contracts of package order. -/
set_option linter.unusedVariables false
set_option linter.unusedSimpArgs false
namespace Go.Proofs.YtbhofjmmdlkofaaDoor.Order
open Go.RowKit Go.Proofs.YtbhofjmmdlkofaaDoorW.PrintWords Go.Proofs.YtbhofjmmdlkofaaDoor.B

def Order.val (x : Order) : Value := .agg #[.int .i64 x.ID, .int .i64 x.Owner, .int .i64 x.Side, .int .i64 x.Price, .int .i64 x.Qty, .bool x.Cust, .int .i64 x.Life]

theorem in_c (n lo hi : Int) (w : World) : Calls Tryd.prog 40 #[.int .i64 n, .int .i64 lo, .int .i64 hi] w fun e w' => e = .returned (.bool (decide (lo ≤ n) && decide (n ≤ hi))) ∧ w = w' := by
  by_cases h1 : lo ≤ n
  · go_enter Tryd.func40, Tryd.ntmps40
    go_wp2
    go_ret
    refine ⟨?_, rfl⟩
    simp [h1]
  · go_enter Tryd.func40, Tryd.ntmps40
    go_wp2
    go_ret
    refine ⟨?_, rfl⟩
    simp; omega

theorem opp_c (s : Int) (w : World) : Calls Tryd.prog 11 #[.int .i64 s] w fun e w' => e = .returned (.int .i64 (if s = 1 then 2 else if s = 2 then 1 else 0)) ∧ w = w' := by
  by_cases h1 : s = 1
  · have h1' : (s == 1) = true := by simp [h1]
    rw [if_pos h1]
    clear h1
    go_enter Tryd.func11, Tryd.ntmps11
    go_wp2
    go_ret
    exact ⟨rfl, rfl⟩
  have h1' : (s == 1) = false := by simp [h1]
  rw [if_neg h1]
  clear h1
  by_cases h2 : s = 2
  · have h2' : (s == 2) = true := by simp [h2]
    rw [if_pos h2]
    clear h2
    go_enter Tryd.func11, Tryd.ntmps11
    go_wp2
    go_ret
    exact ⟨rfl, rfl⟩
  have h2' : (s == 2) = false := by simp [h2]
  rw [if_neg h2]
  clear h2
  go_enter Tryd.func11, Tryd.ntmps11
  go_wp2
  go_ret
  exact ⟨rfl, rfl⟩

theorem lives_two (w : World) : Calls Tryd.prog 41 #[.int .i64 2] w fun e w' => e = .returned (.bool true) ∧ w = w' := by
  go_enter Tryd.func41, Tryd.ntmps41
  go_wp2
  go_ret
  exact ⟨rfl, rfl⟩
theorem side_one (w : World) : Calls Tryd.prog 25 #[.int .i64 1] w fun e w' => e = .returned (.string ⟨#[66]⟩) ∧ w = w' := by
  go_enter Tryd.func25, Tryd.ntmps25
  go_wp2
  go_ret
  exact ⟨rfl, rfl⟩
theorem life_two (w : World) : Calls Tryd.prog 26 #[.int .i64 2] w fun e w' => e = .returned (.string ⟨#[105, 111, 99]⟩) ∧ w = w' := by
  go_enter Tryd.func26, Tryd.ntmps26
  go_wp2
  go_ret
  exact ⟨rfl, rfl⟩
theorem price_ok (A : Option Addr) (cap : Nat) (t : List Grid.Step) (p : Int) (hw : Grid.Wf t) (hp : Grid.onF t p = true) (w : World) (hC : Grid.kStep.C w A t.length t) :
    Calls Tryd.prog 39 #[.int .i64 p, .slice A t.length cap] w fun e w' => e = .returned (.int .i64 0) ∧ Fr no w w' := by
  obtain ⟨h1, h2, _⟩ := Grid.onF_true hw hp
  have hd : (decide (1 ≤ p) && decide (p ≤ 1000000)) = true := by simp; omega
  have HP := Lib.hid hp
  clear hp h1 h2
  go_enter Tryd.func39, Tryd.ntmps39
  go_wp2_with fail
  refine (in_c _ _ _ _).mono ?_
  rintro e w1 ⟨rfl, rfl⟩
  dsimp only
  go_wp2_with fail
  refine (Grid.on_c A cap t p hw _ hC).mono ?_
  rintro e w1 ⟨rfl, hf⟩
  rw [HP.out]
  dsimp only
  go_wp2
  go_ret
  exact ⟨rfl, hf⟩

theorem text_small (i : Nat) (hi : i < 100) (w : World) : Calls Tryd.prog 24 #[.int .i64 i] w fun e w' => e = .returned (.string ⟨(Lib.decDigits i).toArray⟩) ∧ w = w' := by
  go_enter Tryd.func24, Tryd.ntmps24
  go_wp2_with fail
  refine (Tryd.strconv_FormatInt_10_small i hi _).mono ?_
  rintro e w1 ⟨rfl, rfl⟩
  dsimp only
  go_wp2
  go_ret
  exact ⟨rfl, rfl⟩

theorem text_lit (n : Int) (i : Nat) (l : Array UInt8) (h : n = (i : Int)) (hi : i < 100) (hl : (Lib.decDigits i).toArray = l) (w : World) : Calls Tryd.prog 24 #[.int .i64 n] w fun e w' => e = .returned (.string ⟨l⟩) ∧ w = w' := by
  subst h hl
  exact text_small i hi w

/-- What is right of an order but for its quantity. -/
def Right (x : Order) (t : List Grid.Step) : Prop := 1 ≤ x.ID ∧ 0 ≤ x.Owner ∧ x.Owner ≤ 64 ∧ x.Side = 1 ∧ Grid.onF t x.Price = true ∧ x.Life = 2
theorem wrong_ok (A : Option Addr) (cap : Nat) (t : List Grid.Step) (x : Order) (hw : Grid.Wf t) (hr : Right x t) (hq1 : 1 ≤ x.Qty) (hq2 : x.Qty ≤ 1000000) (w : World) (hC : Grid.kStep.C w A t.length t) :
    Calls Tryd.prog 22 #[x.val, .slice A t.length cap] w fun e w' => e = .returned (.tuple #[.int .i64 0, .int .i64 0]) ∧ Fr no w w' := by
  obtain ⟨id, ow, sd, pr, q, cu, lf⟩ := x
  obtain ⟨h1, h2, h3, h4, h5, h6⟩ := hr
  dsimp only at *
  subst h4 h6
  have H5 := Lib.hid h5
  have hd : (decide (1 ≤ q) && decide (q ≤ 1000000)) = true := by simp; omega
  have hb1 : decide (id < 1) = false := by simp; omega
  have hb2 : decide (ow < 0) = false := by simp; omega
  have hb3 : decide (64 < ow) = false := by simp; omega
  clear h5 h1 h2 h3 hq1 hq2
  unfold Order.val
  have hfa := (Fr.refl no w).alloc (.cells #[.int .i64 id, .int .i64 ow, .int .i64 1, .int .i64 pr, .int .i64 q, .bool cu, .int .i64 2] 23)
  have hX := blk_new w (.cells #[.int .i64 id, .int .i64 ow, .int .i64 1, .int .i64 pr, .int .i64 q, .bool cu, .int .i64 2] 23)
  have hC1 := C_fr hC hfa
  go_enter Tryd.func22, Tryd.ntmps22
  go_wp2_with fail
  refine (opp_c 1 _).mono ?_
  rintro e w1 ⟨rfl, rfl⟩
  dsimp only
  rw [if_pos rfl]
  go_wp2_with fail
  refine (price_ok A cap t pr hw H5.out _ hC1).mono ?_
  rintro e w1 ⟨rfl, hf⟩
  have hc4 : w1.cell? ⟨w.heap.size, 4, none⟩ = some (.int .i64 q) := hf.cell (blk_cell hX 4) (fun h => h)
  have hc6 : w1.cell? ⟨w.heap.size, 6, none⟩ = some (.int .i64 2) := hf.cell (blk_cell hX 6) (fun h => h)
  dsimp only
  go_wp2_with fail
  refine (in_c _ _ _ _).mono ?_
  rintro e w2 ⟨rfl, rfl⟩
  dsimp only
  go_wp2_with fail
  refine (lives_two _).mono ?_
  rintro e w2 ⟨rfl, rfl⟩
  dsimp only
  go_wp2
  go_ret2
  exact ⟨rfl, hfa.trans' hf⟩
theorem wrong_qty (A : Option Addr) (cap : Nat) (t : List Grid.Step) (x : Order) (hw : Grid.Wf t) (hr : Right x t) (hq : x.Qty < 1) (w : World) (hC : Grid.kStep.C w A t.length t) :
    Calls Tryd.prog 22 #[x.val, .slice A t.length cap] w fun e w' => e = .returned (.tuple #[.int .i64 4, .int .i64 1]) ∧ Fr no w w' := by
  obtain ⟨id, ow, sd, pr, q, cu, lf⟩ := x
  obtain ⟨h1, h2, h3, h4, h5, h6⟩ := hr
  dsimp only at *
  subst h4 h6
  have H5 := Lib.hid h5
  have hd : (decide (1 ≤ q) && decide (q ≤ 1000000)) = false := by simp; omega
  have hb1 : decide (id < 1) = false := by simp; omega
  have hb2 : decide (ow < 0) = false := by simp; omega
  have hb3 : decide (64 < ow) = false := by simp; omega
  clear h5 h1 h2 h3 hq
  unfold Order.val
  have hfa := (Fr.refl no w).alloc (.cells #[.int .i64 id, .int .i64 ow, .int .i64 1, .int .i64 pr, .int .i64 q, .bool cu, .int .i64 2] 23)
  have hX := blk_new w (.cells #[.int .i64 id, .int .i64 ow, .int .i64 1, .int .i64 pr, .int .i64 q, .bool cu, .int .i64 2] 23)
  have hC1 := C_fr hC hfa
  go_enter Tryd.func22, Tryd.ntmps22
  go_wp2_with fail
  refine (opp_c 1 _).mono ?_
  rintro e w1 ⟨rfl, rfl⟩
  dsimp only
  rw [if_pos rfl]
  go_wp2_with fail
  refine (price_ok A cap t pr hw H5.out _ hC1).mono ?_
  rintro e w1 ⟨rfl, hf⟩
  have hc4 : w1.cell? ⟨w.heap.size, 4, none⟩ = some (.int .i64 q) := hf.cell (blk_cell hX 4) (fun h => h)
  dsimp only
  go_wp2_with fail
  refine (in_c _ _ _ _).mono ?_
  rintro e w2 ⟨rfl, rfl⟩
  dsimp only
  go_wp2
  go_ret2
  exact ⟨rfl, hfa.trans' hf⟩
theorem check_ok (A : Option Addr) (cap : Nat) (t : List Grid.Step) (x : Order) (hw : Grid.Wf t) (hr : Right x t) (hq1 : 1 ≤ x.Qty) (hq2 : x.Qty ≤ 1000000) (w : World) (hC : Grid.kStep.C w A t.length t) :
    Calls Tryd.prog 8 #[x.val, .slice A t.length cap] w fun e w' => e = .returned .nilIface ∧ Fr no w w' := by
  have hfa := (Fr.refl no w).alloc (.cells #[.int .i64 x.ID, .int .i64 x.Owner, .int .i64 x.Side, .int .i64 x.Price, .int .i64 x.Qty, .bool x.Cust, .int .i64 x.Life] 23)
  have hC1 := C_fr hC hfa
  unfold Order.val
  go_enter Tryd.func8, Tryd.ntmps8
  go_wp2_with fail
  refine (wrong_ok A cap t x hw hr hq1 hq2 _ hC1).mono ?_
  rintro e w1 ⟨rfl, hf⟩
  dsimp only
  go_wp2
  go_ret
  exact ⟨rfl, hfa.trans' hf⟩
theorem check_qty (A : Option Addr) (cap : Nat) (t : List Grid.Step) (x : Order) (hw : Grid.Wf t) (hr : Right x t) (hq : x.Qty < 1) (w : World) (hC : Grid.kStep.C w A t.length t) :
    Calls Tryd.prog 8 #[x.val, .slice A t.length cap] w fun e w' => (∃ g, e = .returned (.iface 55 (.pointer (some ⟨g, 0, none⟩)))) ∧ Fr no w w' := by
  have hfa := (Fr.refl no w).alloc (.cells #[.int .i64 x.ID, .int .i64 x.Owner, .int .i64 x.Side, .int .i64 x.Price, .int .i64 x.Qty, .bool x.Cust, .int .i64 x.Life] 23)
  have hC1 := C_fr hC hfa
  unfold Order.val
  go_enter Tryd.func8, Tryd.ntmps8
  go_wp2_with fail
  refine (wrong_qty A cap t x hw hr hq _ hC1).mono ?_
  rintro e w1 ⟨rfl, hf⟩
  dsimp only
  go_wp2
  go_ret
  exact ⟨⟨_, rfl⟩, (hfa.trans' hf).alloc _⟩
end Go.Proofs.YtbhofjmmdlkofaaDoor.Order
