import Derived.Test.YtbhofjmmdlkofaaDoorOrderC
import Derived.Test.YtbhofjmmdlkofaaDoorErrLaid
/-! Contracts of package order at any order: what is wrong with it. -/
set_option linter.unusedVariables false
set_option linter.unusedSimpArgs false
namespace Go.Proofs.YtbhofjmmdlkofaaDoor.Order
open Go.RowKit Go.Proofs.YtbhofjmmdlkofaaDoorW.PrintWords Go.Proofs.YtbhofjmmdlkofaaDoor.B Go.Proofs.YtbhofjmmdlkofaaDoor.Err

def livesB (l : Int) : Bool := decide (1 ≤ l) && decide (l ≤ 4)
def lifeB (l : Int) : ByteArray := if l = 1 then ⟨#[100, 97, 121]⟩ else if l = 2 then ⟨#[105, 111, 99]⟩ else if l = 3 then ⟨#[102, 111, 107]⟩ else if l = 4 then ⟨#[112, 111, 115, 116]⟩ else ⟨#[45]⟩
def sideB (s : Int) : ByteArray := if s = 1 then ⟨#[66]⟩ else ⟨#[83]⟩
theorem side_two (w : World) : Calls Tryd.prog 25 #[.int .i64 2] w fun e w' => e = .returned (.string ⟨#[83]⟩) ∧ w = w' := by
  go_enter Tryd.func25, Tryd.ntmps25
  go_wp2
  go_ret
  exact ⟨rfl, rfl⟩
theorem side_g (s : Int) (hs : s = 1 ∨ s = 2) (w : World) : Calls Tryd.prog 25 #[.int .i64 s] w fun e w' => e = .returned (.string (sideB s)) ∧ w = w' := by
  rcases hs with rfl | rfl
  · exact side_one w
  · exact side_two w
theorem life_cases (l : Int) : l = 1 ∨ l = 2 ∨ l = 3 ∨ l = 4 ∨ ((l == 1) = false ∧ (l == 2) = false ∧ (l == 3) = false ∧ (l == 4) = false ∧ livesB l = false ∧ lifeB l = ⟨#[45]⟩) := by
  by_cases h1 : l = 1
  · exact .inl h1
  by_cases h2 : l = 2
  · exact .inr (.inl h2)
  by_cases h3 : l = 3
  · exact .inr (.inr (.inl h3))
  by_cases h4 : l = 4
  · exact .inr (.inr (.inr (.inl h4)))
  refine .inr (.inr (.inr (.inr ⟨by simp [h1], by simp [h2], by simp [h3], by simp [h4], ?_, ?_⟩)))
  · unfold livesB; simp; omega
  · unfold lifeB; simp [h1, h2, h3, h4]
theorem lives_g (l : Int) (w : World) : Calls Tryd.prog 41 #[.int .i64 l] w fun e w' => e = .returned (.bool (livesB l)) ∧ w = w' := by
  rcases life_cases l with rfl | rfl | rfl | rfl | ⟨h1, h2, h3, h4, h5, _⟩
  · have e1 : livesB 1 = true := rfl
    rw [e1]
    clear e1
    go_enter Tryd.func41, Tryd.ntmps41
    go_wp2
    go_ret
    exact ⟨rfl, rfl⟩
  · have e1 : livesB 2 = true := rfl
    rw [e1]
    clear e1
    go_enter Tryd.func41, Tryd.ntmps41
    go_wp2
    go_ret
    exact ⟨rfl, rfl⟩
  · have e1 : livesB 3 = true := rfl
    rw [e1]
    clear e1
    go_enter Tryd.func41, Tryd.ntmps41
    go_wp2
    go_ret
    exact ⟨rfl, rfl⟩
  · have e1 : livesB 4 = true := rfl
    rw [e1]
    clear e1
    go_enter Tryd.func41, Tryd.ntmps41
    go_wp2
    go_ret
    exact ⟨rfl, rfl⟩
  rw [h5]
  clear h5
  go_enter Tryd.func41, Tryd.ntmps41
  go_wp2
  go_ret
  exact ⟨rfl, rfl⟩
theorem life_g (l : Int) (w : World) : Calls Tryd.prog 26 #[.int .i64 l] w fun e w' => e = .returned (.string (lifeB l)) ∧ w = w' := by
  rcases life_cases l with rfl | rfl | rfl | rfl | ⟨h1, h2, h3, h4, _, h5⟩
  · have e1 : lifeB 1 = ⟨#[100, 97, 121]⟩ := rfl
    rw [e1]
    clear e1
    go_enter Tryd.func26, Tryd.ntmps26
    go_wp2
    go_ret
    exact ⟨rfl, rfl⟩
  · have e1 : lifeB 2 = ⟨#[105, 111, 99]⟩ := rfl
    rw [e1]
    clear e1
    go_enter Tryd.func26, Tryd.ntmps26
    go_wp2
    go_ret
    exact ⟨rfl, rfl⟩
  · have e1 : lifeB 3 = ⟨#[102, 111, 107]⟩ := rfl
    rw [e1]
    clear e1
    go_enter Tryd.func26, Tryd.ntmps26
    go_wp2
    go_ret
    exact ⟨rfl, rfl⟩
  · have e1 : lifeB 4 = ⟨#[112, 111, 115, 116]⟩ := rfl
    rw [e1]
    clear e1
    go_enter Tryd.func26, Tryd.ntmps26
    go_wp2
    go_ret
    exact ⟨rfl, rfl⟩
  rw [h5]
  clear h5
  go_enter Tryd.func26, Tryd.ntmps26
  go_wp2
  go_ret
  exact ⟨rfl, rfl⟩
/-- What is wrong with a price. -/
def priceE (t : List Grid.Step) (p : Int) : Int := if 1 ≤ p ∧ p ≤ 1000000 then (if Grid.onF t p = true then 0 else 10) else 1
theorem price_g (A : Option Addr) (cap : Nat) (t : List Grid.Step) (p : Int) (hw : Grid.Wf t) (w : World) (hC : Grid.kStep.C w A t.length t) :
    Calls Tryd.prog 39 #[.int .i64 p, .slice A t.length cap] w fun e w' => e = .returned (.int .i64 (priceE t p)) ∧ Fr no w w' := by
  by_cases hd : 1 ≤ p ∧ p ≤ 1000000
  · have hb : (decide (1 ≤ p) && decide (p ≤ 1000000)) = true := by simp; omega
    have he : priceE t p = if Grid.onF t p = true then 0 else 10 := by unfold priceE; rw [if_pos hd]
    rw [he]
    clear he hd
    cases ho : Grid.onF t p
    case' true => rw [if_pos rfl]
    case' false => rw [if_neg (by decide)]
    all_goals
      have HO := Lib.hid ho
      clear ho
      go_enter Tryd.func39, Tryd.ntmps39
      go_wp2_with fail
      refine (in_c _ _ _ _).mono ?_
      rintro e w1 ⟨rfl, rfl⟩
      dsimp only
      go_wp2_with fail
      refine (Grid.on_c A cap t p hw _ hC).mono ?_
      rintro e w1 ⟨rfl, hf⟩
      rw [HO.out]
      dsimp only
      go_wp2
      go_ret
      exact ⟨rfl, hf⟩
  · have hb : (decide (1 ≤ p) && decide (p ≤ 1000000)) = false := by simp; omega
    have he : priceE t p = 1 := by unfold priceE; rw [if_neg hd]
    rw [he]
    clear he hd
    go_enter Tryd.func39, Tryd.ntmps39
    go_wp2_with fail
    refine (in_c _ _ _ _).mono ?_
    rintro e w1 ⟨rfl, rfl⟩
    dsimp only
    go_wp2
    go_ret
    exact ⟨rfl, Fr.refl _ _⟩
/-- What is wrong with an order, and where. -/
def wrongF (t : List Grid.Step) (x : Order) : Nat × Int :=
  if x.ID < 1 then (0, 1) else if x.Owner < 0 ∨ 64 < x.Owner then (1, 1) else if ¬ (x.Side = 1 ∨ x.Side = 2) then (2, 1) else if priceE t x.Price ≠ 0 then (3, priceE t x.Price)
  else if x.Qty < 1 ∨ 1000000 < x.Qty then (4, 1) else if livesB x.Life = false then (6, 1) else (0, 0)
theorem wrongF_bd (t : List Grid.Step) (x : Order) : (wrongF t x).1 ≤ 6 ∧ (0 ≤ (wrongF t x).2 ∧ (wrongF t x).2 ≤ 10) := by
  unfold wrongF priceE
  repeat' split
  all_goals simp
set_option maxRecDepth 100000 in
set_option maxHeartbeats 2000000 in
theorem wrong_g (A : Option Addr) (cap : Nat) (t : List Grid.Step) (x : Order) (hw : Grid.Wf t) (w : World) (hC : Grid.kStep.C w A t.length t) :
    Calls Tryd.prog 22 #[x.val, .slice A t.length cap] w fun e w' => e = .returned (.tuple #[.int .i64 ((wrongF t x).1 : Int), .int .i64 (wrongF t x).2]) ∧ Fr no w w' := by
  obtain ⟨id, ow, sd, pr, q, cu, lf⟩ := x
  have HCe := Lib.hid hC
  have hfa := (Fr.refl no w).alloc (.cells #[.int .i64 id, .int .i64 ow, .int .i64 sd, .int .i64 pr, .int .i64 q, .bool cu, .int .i64 lf] 23)
  have hX := blk_new w (.cells #[.int .i64 id, .int .i64 ow, .int .i64 sd, .int .i64 pr, .int .i64 q, .bool cu, .int .i64 lf] 23)
  have hC1 := C_fr hC hfa
  have HV : Hid (wrongF t ⟨id, ow, sd, pr, q, cu, lf⟩ = wrongF t ⟨id, ow, sd, pr, q, cu, lf⟩) := rfl
  generalize hW : wrongF t ⟨id, ow, sd, pr, q, cu, lf⟩ = V
  unfold wrongF at hW
  dsimp only at hW
  clear HV
  unfold Order.val
  dsimp only
  by_cases h1 : id < 1
  · have b1 : decide (id < 1) = true := by simp [h1]
    rw [if_pos h1] at hW
    subst hW
    clear h1
    go_enter Tryd.func22, Tryd.ntmps22
    go_wp2
    go_ret2
    exact ⟨rfl, hfa⟩
  have b1 : decide (id < 1) = false := by simp [h1]
  rw [if_neg h1] at hW
  clear h1
  by_cases h2 : ow < 0
  · have b2 : decide (ow < 0) = true := by simp [h2]
    rw [if_pos (.inl h2)] at hW
    subst hW
    clear h2
    go_enter Tryd.func22, Tryd.ntmps22
    go_wp2
    go_ret2
    exact ⟨rfl, hfa⟩
  have b2 : decide (ow < 0) = false := by simp [h2]
  by_cases h3 : 64 < ow
  · have b3 : decide (64 < ow) = true := by simp [h3]
    rw [if_pos (.inr h3)] at hW
    subst hW
    clear h2 h3
    go_enter Tryd.func22, Tryd.ntmps22
    go_wp2
    go_ret2
    exact ⟨rfl, hfa⟩
  have b3 : decide (64 < ow) = false := by simp [h3]
  rw [if_neg (by omega)] at hW
  clear h2 h3
  go_enter Tryd.func22, Tryd.ntmps22
  go_wp2_with fail
  generalize w.alloc _ = w1 at *
  generalize w.heap.size = X at *
  have HK : Hid (∀ u, Fr no w1 u → u.cell? ⟨X, 3, none⟩ = some (.int .i64 pr) ∧ u.cell? ⟨X, 4, none⟩ = some (.int .i64 q) ∧ u.cell? ⟨X, 6, none⟩ = some (.int .i64 lf)) := fun u h => ⟨blk_cell (h.heap hX (fun h => h)) 3, blk_cell (h.heap hX (fun h => h)) 4, blk_cell (h.heap hX (fun h => h)) 6⟩
  obtain ⟨k3, k4, k6⟩ := HK.out w1 (Fr.refl _ _)
  clear hX b1 b2 b3
  refine (opp_c sd _).mono ?_
  rintro e w2 ⟨rfl, rfl⟩
  by_cases hs : sd = 1 ∨ sd = 2
  rotate_left
  · rw [if_pos hs] at hW
    subst hW
    rw [if_neg (by omega), if_neg (by omega)]
    clear hs
    dsimp only
    go_wp2
    go_ret2
    exact ⟨rfl, hfa⟩
  rw [if_neg (not_not_intro hs)] at hW
  obtain ⟨s2, hs2, hs3⟩ : ∃ s2, (if sd = 1 then (2 : Int) else if sd = 2 then 1 else 0) = s2 ∧ (s2 == 0) = false := by
    rcases hs with rfl | rfl
    · exact ⟨2, rfl, rfl⟩
    · exact ⟨1, rfl, rfl⟩
  rw [hs2]
  clear hs hs2
  dsimp only
  go_wp2_with fail
  refine (price_g A cap t pr hw _ hC1).mono ?_
  rintro e w2 ⟨rfl, hf⟩
  clear k3 k4 k6
  obtain ⟨k3, k4, k6⟩ := HK.out w2 hf
  by_cases hp : priceE t pr = 0
  rotate_left
  · rw [if_pos hp] at hW
    subst hW
    have hp2 : (priceE t pr != 0) = true := by simp [hp]
    obtain ⟨c, hc⟩ : ∃ c, priceE t pr = c := ⟨_, rfl⟩
    have HCc := Lib.hid hc
    rw [hc] at hp2
    rw [hc]
    clear hc hp
    dsimp only
    go_wp2_with fail
    refine (price_g A cap t pr hw _ (C_fr hC1 hf)).mono ?_
    rintro e w3 ⟨rfl, hf3⟩
    rw [HCc.out]
    dsimp only
    go_wp2
    go_ret2
    exact ⟨by simp [HCc.out], hfa.trans' (hf.trans' hf3)⟩
  rw [if_neg (not_not_intro hp)] at hW
  rw [hp]
  clear hp
  by_cases hq : q < 1 ∨ 1000000 < q
  · have hd : (decide (1 ≤ q) && decide (q ≤ 1000000)) = false := by simp; omega
    rw [if_pos hq] at hW
    subst hW
    clear hq
    dsimp only
    go_wp2_with fail
    refine (in_c _ _ _ _).mono ?_
    rintro e w3 ⟨rfl, rfl⟩
    dsimp only
    go_wp2
    go_ret2
    exact ⟨rfl, hfa.trans' hf⟩
  have hd : (decide (1 ≤ q) && decide (q ≤ 1000000)) = true := by simp; omega
  rw [if_neg hq] at hW
  clear hq
  dsimp only
  go_wp2_with fail
  refine (in_c _ _ _ _).mono ?_
  rintro e w3 ⟨rfl, rfl⟩
  dsimp only
  go_wp2_with fail
  refine (lives_g lf _).mono ?_
  rintro e w3 ⟨rfl, rfl⟩
  cases hl : livesB lf with
  | false =>
    rw [if_pos hl] at hW
    subst hW
    clear hl
    dsimp only
    go_wp2
    go_ret2
    exact ⟨rfl, hfa.trans' hf⟩
  | true =>
    rw [if_neg (by simp [hl])] at hW
    subst hW
    clear hl
    dsimp only
    go_wp2
    go_ret2
    exact ⟨rfl, hfa.trans' hf⟩
def orderW : ByteArray := ⟨#[111, 114, 100, 101, 114]⟩
/-- What Check tells. -/
def AnsC (w : World) (v : Value) (a : Nat × Int) : Prop := (a.2 = 0 → v = .nilIface) ∧ (a.2 ≠ 0 → ∃ F, v = .iface 55 (.pointer (some ⟨F, 0, none⟩)) ∧ FaultAt w F orderW a.1 a.2)
set_option maxRecDepth 100000 in
theorem check_g (A : Option Addr) (cap : Nat) (t : List Grid.Step) (x : Order) (hw : Grid.Wf t) (w : World) (hC : Grid.kStep.C w A t.length t) :
    Calls Tryd.prog 8 #[x.val, .slice A t.length cap] w fun e w' => (∃ v, e = .returned v ∧ AnsC w' v (wrongF t x)) ∧ Fr no w w' := by
  have hfa := (Fr.refl no w).alloc (.cells #[.int .i64 x.ID, .int .i64 x.Owner, .int .i64 x.Side, .int .i64 x.Price, .int .i64 x.Qty, .bool x.Cust, .int .i64 x.Life] 23)
  have hC1 := C_fr hC hfa
  have hwr := fun W h => wrong_g A cap t x hw W h
  obtain ⟨V, hV⟩ : ∃ V, wrongF t x = V := ⟨_, rfl⟩
  rw [hV] at hwr ⊢
  clear hV hC
  obtain ⟨n, c⟩ := V
  unfold Order.val at hwr ⊢
  by_cases hc : c = 0
  · have h0 : (c != 0) = false := by simp [hc]
    go_enter Tryd.func8, Tryd.ntmps8
    go_wp2_with fail
    refine (hwr _ hC1).mono ?_
    rintro e w1 ⟨rfl, hf⟩
    dsimp only
    go_wp2
    go_ret
    exact ⟨⟨_, rfl, fun _ => rfl, fun h => absurd hc h⟩, hfa.trans' hf⟩
  · have h0 : (c != 0) = true := by simp [hc]
    go_enter Tryd.func8, Tryd.ntmps8
    go_wp2_with fail
    refine (hwr _ hC1).mono ?_
    rintro e w1 ⟨rfl, hf⟩
    dsimp only
    go_wp2
    go_ret
    exact ⟨⟨_, rfl, fun h => absurd h hc, fun _ => ⟨_, rfl, blk_new _ _⟩⟩, (hfa.trans' hf).alloc _⟩
end Go.Proofs.YtbhofjmmdlkofaaDoor.Order
