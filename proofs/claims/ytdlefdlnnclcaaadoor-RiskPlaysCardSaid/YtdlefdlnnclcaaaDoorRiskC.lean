import Derived.Test.YtdlefdlnnclcaaaDoorRiskB
/-! Contracts of package risk: asked, opened, closed. -/
set_option linter.unusedVariables false
set_option linter.unusedSimpArgs false
namespace Go.Proofs.YtdlefdlnnclcaaaDoor.Risk
open Go.RowKit Go.Maps Go.Proofs.YtdlefdlnnclcaaaDoorW.PrintWords Go.Proofs.YtdlefdlnnclcaaaDoor.B Go.Proofs.YtdlefdlnnclcaaaDoor.Err

/-- A desk, and an owner's share of it. -/
structure At (w : World) (B M n : Nat) (L : Lim) (f : Int → Use) (o : Int) : Prop where
  d : RDesk w B M L
  l : LimOk L
  u : Uses w M n f
  wf : (Lit.int .i64 o).wf = true
  n0 : 0 ≤ (f o).n
  n1 : (f o).n ≤ 4096
  m0 : 0 ≤ (f o).money
  m1 : (f o).money ≤ 1125899906842624
section
variable {w : World} {B M n : Nat} {L : Lim} {f : Int → Use} {o : Int}
set_option maxRecDepth 100000 in
set_option maxHeartbeats 2000000 in
theorem ask_arg (h : At w B M n L f o) (p q : Int) (hq : q < 1 ∨ p < 0) :
    Calls Tryd.prog 22 #[.pointer (some ⟨B, 0, none⟩), .int .i64 o, .int .i64 p, .int .i64 q] w fun e w' => e = .returned (.tuple #[useV (f o), .int .i64 0, .int .i64 1]) ∧ Fr no w w' := by
  obtain ⟨hd, hl, hu, ho, u0, u1, v0, v1⟩ := h
  obtain ⟨lq, lm, lo⟩ := L
  obtain ⟨q1, q2, m1, m2, o1, o2⟩ := hl
  have hlk := fun x => (hu.fr ((Fr.refl no w).alloc x) (fun h => h)).look o ho
  have hlt := blk_lt hd
  obtain ⟨c0, c1, c2, c3⟩ := hd.cells
  have c0' := fun x => (World.cell?_alloc_lt w x ⟨B, 0, none⟩ hlt).trans c0
  have c1' := fun x => (World.cell?_alloc_lt w x ⟨B, 1, none⟩ hlt).trans c1
  have c2' := fun x => (World.cell?_alloc_lt w x ⟨B, 2, none⟩ hlt).trans c2
  have c3' := fun x => (World.cell?_alloc_lt w x ⟨B, 3, none⟩ hlt).trans c3
  have c0'' := fun x y => (World.cell?_alloc_lt (w.alloc x) y ⟨B, 0, none⟩ (by simp; omega)).trans (c0' x)
  have c1'' := fun x y => (World.cell?_alloc_lt (w.alloc x) y ⟨B, 1, none⟩ (by simp; omega)).trans (c1' x)
  have c2'' := fun x y => (World.cell?_alloc_lt (w.alloc x) y ⟨B, 2, none⟩ (by simp; omega)).trans (c2' x)
  generalize f o = u at *
  obtain ⟨un, um⟩ := u
  unfold useV at *
  dsimp only at *
  clear hu hd
  by_cases h1 : q < 1
  · have d1 : decide (q < 1) = true := by simpa using h1
    clear hq h1
    go_enter Tryd.func22, Tryd.ntmps22
    go_wp2_with fail
    refine bodyPost_ret (v := .tuple #[useV ⟨un, um⟩, .int .i64 0, .int .i64 1]) (by simp [results, Tryd.results22, go_sem, useV]) rfl ⟨rfl, ((Fr.refl no w).alloc _).alloc _⟩
  · have d1 : decide (q < 1) = false := by simp; omega
    have d2 : decide (p < 0) = true := by simp; omega
    clear hq h1
    go_enter Tryd.func22, Tryd.ntmps22
    go_wp2_with fail
    refine bodyPost_ret (v := .tuple #[useV ⟨un, um⟩, .int .i64 0, .int .i64 1]) (by simp [results, Tryd.results22, go_sem, useV]) rfl ⟨rfl, ((Fr.refl no w).alloc _).alloc _⟩
set_option maxRecDepth 100000 in
set_option maxHeartbeats 2000000 in
theorem ask_qty (h : At w B M n L f o) (p q : Int) (hq0 : 1 ≤ q) (hp0 : 0 ≤ p) (hq : L.qty < q) :
    Calls Tryd.prog 22 #[.pointer (some ⟨B, 0, none⟩), .int .i64 o, .int .i64 p, .int .i64 q] w fun e w' => e = .returned (.tuple #[useV (f o), .int .i64 0, .int .i64 9]) ∧ Fr no w w' := by
  obtain ⟨hd, hl, hu, ho, u0, u1, v0, v1⟩ := h
  obtain ⟨lq, lm, lo⟩ := L
  obtain ⟨q1, q2, m1, m2, o1, o2⟩ := hl
  have hlk := fun x => (hu.fr ((Fr.refl no w).alloc x) (fun h => h)).look o ho
  have hlt := blk_lt hd
  obtain ⟨c0, c1, c2, c3⟩ := hd.cells
  have c0' := fun x => (World.cell?_alloc_lt w x ⟨B, 0, none⟩ hlt).trans c0
  have c1' := fun x => (World.cell?_alloc_lt w x ⟨B, 1, none⟩ hlt).trans c1
  have c2' := fun x => (World.cell?_alloc_lt w x ⟨B, 2, none⟩ hlt).trans c2
  have c3' := fun x => (World.cell?_alloc_lt w x ⟨B, 3, none⟩ hlt).trans c3
  have c0'' := fun x y => (World.cell?_alloc_lt (w.alloc x) y ⟨B, 0, none⟩ (by simp; omega)).trans (c0' x)
  have c1'' := fun x y => (World.cell?_alloc_lt (w.alloc x) y ⟨B, 1, none⟩ (by simp; omega)).trans (c1' x)
  have c2'' := fun x y => (World.cell?_alloc_lt (w.alloc x) y ⟨B, 2, none⟩ (by simp; omega)).trans (c2' x)
  generalize f o = u at *
  obtain ⟨un, um⟩ := u
  unfold useV at *
  dsimp only at *
  clear hu hd
  have d1 : decide (q < 1) = false := by simp; omega
  have d2 : decide (p < 0) = false := by simp; omega
  have d3 : decide (lq < q) = true := by simpa using hq
  clear hq hq0 hp0
  go_enter Tryd.func22, Tryd.ntmps22
  go_wp2_with fail
  refine bodyPost_ret (v := .tuple #[useV ⟨un, um⟩, .int .i64 0, .int .i64 9]) (by simp [results, Tryd.results22, go_sem, useV]) rfl ⟨rfl, ((Fr.refl no w).alloc _).alloc _⟩
set_option maxRecDepth 100000 in
set_option maxHeartbeats 2000000 in
theorem ask_money (h : At w B M n L f o) (p q : Int) (hq0 : 1 ≤ q) (hp0 : 0 ≤ p) (hp1 : p ≤ 9223372036854775807) (hq : q ≤ L.qty) (r : Int) (hr : p * q = r) (hm : L.money < (f o).money + r) :
    Calls Tryd.prog 22 #[.pointer (some ⟨B, 0, none⟩), .int .i64 o, .int .i64 p, .int .i64 q] w fun e w' => e = .returned (.tuple #[useV (f o), .int .i64 1, .int .i64 9]) ∧ Fr no w w' := by
  obtain ⟨hd, hl, hu, ho, u0, u1, v0, v1⟩ := h
  obtain ⟨lq, lm, lo⟩ := L
  obtain ⟨q1, q2, m1, m2, o1, o2⟩ := hl
  have hlk := fun x => (hu.fr ((Fr.refl no w).alloc x) (fun h => h)).look o ho
  have hlt := blk_lt hd
  obtain ⟨c0, c1, c2, c3⟩ := hd.cells
  have c0' := fun x => (World.cell?_alloc_lt w x ⟨B, 0, none⟩ hlt).trans c0
  have c1' := fun x => (World.cell?_alloc_lt w x ⟨B, 1, none⟩ hlt).trans c1
  have c2' := fun x => (World.cell?_alloc_lt w x ⟨B, 2, none⟩ hlt).trans c2
  have c3' := fun x => (World.cell?_alloc_lt w x ⟨B, 3, none⟩ hlt).trans c3
  have c0'' := fun x y => (World.cell?_alloc_lt (w.alloc x) y ⟨B, 0, none⟩ (by simp; omega)).trans (c0' x)
  have c1'' := fun x y => (World.cell?_alloc_lt (w.alloc x) y ⟨B, 1, none⟩ (by simp; omega)).trans (c1' x)
  have c2'' := fun x y => (World.cell?_alloc_lt (w.alloc x) y ⟨B, 2, none⟩ (by simp; omega)).trans (c2' x)
  generalize f o = u at *
  obtain ⟨un, um⟩ := u
  unfold useV at *
  dsimp only at *
  clear hu hd
  have d1 : decide (q < 1) = false := by simp; omega
  have d2 : decide (p < 0) = false := by simp; omega
  have d3 : decide (lq < q) = false := by simp; omega
  have HR := Lib.hid hr
  have r0 : 0 ≤ r := by rw [← hr]; exact Int.mul_nonneg hp0 (by omega)
  clear hr
  by_cases hov : 9223372036854775807 < r
  · go_enter Tryd.func22, Tryd.ntmps22
    go_wp2_with fail
    refine (mul_out p q hp0 (by omega) hp1 (by omega) (by rw [HR.out]; exact hov) _).mono ?_
    rintro e w1 ⟨rfl, rfl⟩
    dsimp only
    go_wp2
    refine bodyPost_ret (v := .tuple #[useV ⟨un, um⟩, .int .i64 1, .int .i64 9]) (by simp [results, Tryd.results22, go_sem, useV]) rfl ⟨rfl, ((Fr.refl no w).alloc _).alloc _⟩
  · by_cases hov2 : 9223372036854775807 < um + r
    · go_enter Tryd.func22, Tryd.ntmps22
      go_wp2_with fail
      refine (mul_in p q hp0 (by omega) hp1 (by omega) r HR.out (by omega) _).mono ?_
      rintro e w1 ⟨rfl, rfl⟩
      dsimp only
      go_wp2_with fail
      refine (add_out um r v0 (by omega) (by omega) hov2 _).mono ?_
      rintro e w1 ⟨rfl, rfl⟩
      dsimp only
      go_wp2
      refine bodyPost_ret (v := .tuple #[useV ⟨un, um⟩, .int .i64 1, .int .i64 9]) (by simp [results, Tryd.results22, go_sem, useV]) rfl ⟨rfl, ((Fr.refl no w).alloc _).alloc _⟩
    · have d4 : decide (lm < um + r) = true := by simpa using hm
      go_enter Tryd.func22, Tryd.ntmps22
      go_wp2_with fail
      refine (mul_in p q hp0 (by omega) hp1 (by omega) r HR.out (by omega) _).mono ?_
      rintro e w1 ⟨rfl, rfl⟩
      dsimp only
      go_wp2_with fail
      refine (add_in um r v0 r0 (by omega) _).mono ?_
      rintro e w1 ⟨rfl, rfl⟩
      dsimp only
      go_wp2
      refine bodyPost_ret (v := .tuple #[useV ⟨un, um⟩, .int .i64 1, .int .i64 9]) (by simp [results, Tryd.results22, go_sem, useV]) rfl ⟨rfl, ((Fr.refl no w).alloc _).alloc _⟩
set_option maxRecDepth 100000 in
set_option maxHeartbeats 2000000 in
theorem ask_full (h : At w B M n L f o) (p q : Int) (hq0 : 1 ≤ q) (hp0 : 0 ≤ p) (hp1 : p ≤ 9223372036854775807) (hq : q ≤ L.qty) (r : Int) (hr : p * q = r) (hm : (f o).money + r ≤ L.money) (hn : L.orders ≤ (f o).n) :
    Calls Tryd.prog 22 #[.pointer (some ⟨B, 0, none⟩), .int .i64 o, .int .i64 p, .int .i64 q] w fun e w' => e = .returned (.tuple #[useV (f o), .int .i64 2, .int .i64 8]) ∧ Fr no w w' := by
  obtain ⟨hd, hl, hu, ho, u0, u1, v0, v1⟩ := h
  obtain ⟨lq, lm, lo⟩ := L
  obtain ⟨q1, q2, m1, m2, o1, o2⟩ := hl
  have hlk := fun x => (hu.fr ((Fr.refl no w).alloc x) (fun h => h)).look o ho
  have hlt := blk_lt hd
  obtain ⟨c0, c1, c2, c3⟩ := hd.cells
  have c0' := fun x => (World.cell?_alloc_lt w x ⟨B, 0, none⟩ hlt).trans c0
  have c1' := fun x => (World.cell?_alloc_lt w x ⟨B, 1, none⟩ hlt).trans c1
  have c2' := fun x => (World.cell?_alloc_lt w x ⟨B, 2, none⟩ hlt).trans c2
  have c3' := fun x => (World.cell?_alloc_lt w x ⟨B, 3, none⟩ hlt).trans c3
  have c0'' := fun x y => (World.cell?_alloc_lt (w.alloc x) y ⟨B, 0, none⟩ (by simp; omega)).trans (c0' x)
  have c1'' := fun x y => (World.cell?_alloc_lt (w.alloc x) y ⟨B, 1, none⟩ (by simp; omega)).trans (c1' x)
  have c2'' := fun x y => (World.cell?_alloc_lt (w.alloc x) y ⟨B, 2, none⟩ (by simp; omega)).trans (c2' x)
  generalize f o = u at *
  obtain ⟨un, um⟩ := u
  unfold useV at *
  dsimp only at *
  clear hu hd
  have d1 : decide (q < 1) = false := by simp; omega
  have d2 : decide (p < 0) = false := by simp; omega
  have d3 : decide (lq < q) = false := by simp; omega
  have HR := Lib.hid hr
  have r0 : 0 ≤ r := by rw [← hr]; exact Int.mul_nonneg hp0 (by omega)
  have d4 : decide (lm < um + r) = false := by simp; omega
  have d5 : decide (lo ≤ un) = true := by simpa using hn
  clear hr
  have hfb := ((Fr.refl no w).alloc (.cells #[.int .i64 0, .int .i64 0] 71)).alloc (.cells #[.int .i64 un, .int .i64 um] 71)
  have hY := blk_new (w.alloc (.cells #[.int .i64 0, .int .i64 0] 71)) (.cells #[.int .i64 un, .int .i64 um] 71)
  rw [show (w.alloc (.cells #[.int .i64 0, .int .i64 0] 71)).heap.size = w.heap.size + 1 by simp] at hY
  have hX := ((Fr.refl no (w.alloc (.cells #[.int .i64 0, .int .i64 0] 71))).alloc (.cells #[.int .i64 un, .int .i64 um] 71)).heap (blk_new w (.cells #[.int .i64 0, .int .i64 0] 71)) (fun h => h)
  go_enter Tryd.func22, Tryd.ntmps22
  go_wp2_with fail
  refine (mul_in p q hp0 (by omega) hp1 (by omega) r HR.out (by omega) _).mono ?_
  rintro e w1 ⟨rfl, rfl⟩
  dsimp only
  go_wp2_with fail
  refine (add_in um r v0 r0 (by omega) _).mono ?_
  rintro e w1 ⟨rfl, rfl⟩
  dsimp only
  go_wp2
  have z0 := c0'' (.cells #[.int .i64 0, .int .i64 0] 71) (.cells #[.int .i64 un, .int .i64 um] 71)
  have z2 := c2'' (.cells #[.int .i64 0, .int .i64 0] 71) (.cells #[.int .i64 un, .int .i64 um] 71)
  clear c0 c1 c2 c3 c0' c1' c2' c3' c0'' c1'' c2'' hlk
  generalize (w.alloc _).alloc _ = w2 at *
  generalize hXs : w.heap.size = X at *
  have y0 : w2.drew.cell? ⟨X + 1, 0, none⟩ = some (.int .i64 un) := blk_cell hY 0
  refine wp_region_plan (fun u => u.cell? ⟨X + 1, 0, none⟩ = some (.int .i64 un) ∧ u.cell? ⟨B, 2, none⟩ = some (.int .i64 lo)) [(0, false), (1, false), (2, false), (3, false), (4, false), (5, false), (6, false), (7, false), (8, false)] (by kernel_rfl) (by kernel_rfl) (fun _ _ _ _ _ h => h) (⟨y0, z2⟩) ?_
  simp only [planOps, List.getElem?_toArray, List.getElem?_cons_succ, List.getElem?_cons_zero]
  repeat (first
    | (refine plan_step (by rfl) ?_; apply Exists.intro; refine ⟨fun x hSx => ?_, ?_⟩; ((try dsimp only at hSx); go_simp; (try rw [if_neg (by omega)]); (try with_reducible rfl)); (simp only [Act.put, List.setIfInBounds_toArray, List.set_cons_zero, List.set_cons_succ]))
    | (refine plan_skip (by rfl) ?_; (simp only [Act.put, List.setIfInBounds_toArray, List.set_cons_zero, List.set_cons_succ])))
  refine plan_done ?_
  clear y0 z2
  replace hfb := hfb.drew
  have hY2 := (Fr.refl no w2).drew.heap hY (fun h => h)
  have hX2 := (Fr.refl no w2).drew.heap hX (fun h => h)
  generalize w2.drew = w3 at *
  have y0 : w3.cell? ⟨X + 1, 0, none⟩ = some (.int .i64 un) := blk_cell hY2 0
  have y1 : w3.cell? ⟨X + 1, 1, none⟩ = some (.int .i64 um) := blk_cell hY2 1
  have x0 : w3.cell? ⟨X, 0, none⟩ = some (.int .i64 0) := blk_cell hX2 0
  have x1 : w3.cell? ⟨X, 1, none⟩ = some (.int .i64 0) := blk_cell hX2 1
  have g0 : w3.frozen? ⟨X, 0, none⟩ = false := blk_frozen hX2 0
  have g1 : w3.frozen? ⟨X, 1, none⟩ = false := blk_frozen hX2 1
  clear hY hX hY2
  go_wp2
  have b1 := blk_put hX2 0 (.int .i64 un) (cs' := #[.int .i64 un, .int .i64 0]) rfl
  have b2 := blk_put b1 1 (.int .i64 um) (cs' := #[.int .i64 un, .int .i64 um]) rfl
  have r0 := blk_cell b2 0
  have r1 := blk_cell b2 1
  refine bodyPost_ret (v := .tuple #[.agg #[.int .i64 un, .int .i64 um], .int .i64 2, .int .i64 8]) (by simp [results, Tryd.results22, go_sem, r0, r1]) rfl ⟨rfl, (hfb.set (p := ⟨X, 0, none⟩) (fun hh => absurd hh (by subst hXs; exact Nat.lt_irrefl _)) _).set (p := ⟨X, 1, none⟩) (fun hh => absurd hh (by subst hXs; exact Nat.lt_irrefl _)) _⟩
set_option maxRecDepth 100000 in
set_option maxHeartbeats 2000000 in
theorem ask_ok (h : At w B M n L f o) (p q : Int) (hq0 : 1 ≤ q) (hp0 : 0 ≤ p) (hp1 : p ≤ 9223372036854775807) (hq : q ≤ L.qty) (r : Int) (hr : p * q = r) (hm : (f o).money + r ≤ L.money) (hn : (f o).n < L.orders) :
    Calls Tryd.prog 22 #[.pointer (some ⟨B, 0, none⟩), .int .i64 o, .int .i64 p, .int .i64 q] w fun e w' => e = .returned (.tuple #[useV ⟨(f o).n + 1, (f o).money + r⟩, .int .i64 0, .int .i64 0]) ∧ Fr no w w' := by
  obtain ⟨hd, hl, hu, ho, u0, u1, v0, v1⟩ := h
  obtain ⟨lq, lm, lo⟩ := L
  obtain ⟨q1, q2, m1, m2, o1, o2⟩ := hl
  have hlk := fun x => (hu.fr ((Fr.refl no w).alloc x) (fun h => h)).look o ho
  have hlt := blk_lt hd
  obtain ⟨c0, c1, c2, c3⟩ := hd.cells
  have c0' := fun x => (World.cell?_alloc_lt w x ⟨B, 0, none⟩ hlt).trans c0
  have c1' := fun x => (World.cell?_alloc_lt w x ⟨B, 1, none⟩ hlt).trans c1
  have c2' := fun x => (World.cell?_alloc_lt w x ⟨B, 2, none⟩ hlt).trans c2
  have c3' := fun x => (World.cell?_alloc_lt w x ⟨B, 3, none⟩ hlt).trans c3
  have c0'' := fun x y => (World.cell?_alloc_lt (w.alloc x) y ⟨B, 0, none⟩ (by simp; omega)).trans (c0' x)
  have c1'' := fun x y => (World.cell?_alloc_lt (w.alloc x) y ⟨B, 1, none⟩ (by simp; omega)).trans (c1' x)
  have c2'' := fun x y => (World.cell?_alloc_lt (w.alloc x) y ⟨B, 2, none⟩ (by simp; omega)).trans (c2' x)
  generalize f o = u at *
  obtain ⟨un, um⟩ := u
  unfold useV at *
  dsimp only at *
  clear hu hd
  have d1 : decide (q < 1) = false := by simp; omega
  have d2 : decide (p < 0) = false := by simp; omega
  have d3 : decide (lq < q) = false := by simp; omega
  have HR := Lib.hid hr
  have r0 : 0 ≤ r := by rw [← hr]; exact Int.mul_nonneg hp0 (by omega)
  have d4 : decide (lm < um + r) = false := by simp; omega
  have d5 : decide (lo ≤ un) = false := by simp; omega
  clear hr
  have hfb := ((Fr.refl no w).alloc (.cells #[.int .i64 0, .int .i64 0] 71)).alloc (.cells #[.int .i64 un, .int .i64 um] 71)
  have hY := blk_new (w.alloc (.cells #[.int .i64 0, .int .i64 0] 71)) (.cells #[.int .i64 un, .int .i64 um] 71)
  rw [show (w.alloc (.cells #[.int .i64 0, .int .i64 0] 71)).heap.size = w.heap.size + 1 by simp] at hY
  have hX := ((Fr.refl no (w.alloc (.cells #[.int .i64 0, .int .i64 0] 71))).alloc (.cells #[.int .i64 un, .int .i64 um] 71)).heap (blk_new w (.cells #[.int .i64 0, .int .i64 0] 71)) (fun h => h)
  go_enter Tryd.func22, Tryd.ntmps22
  go_wp2_with fail
  refine (mul_in p q hp0 (by omega) hp1 (by omega) r HR.out (by omega) _).mono ?_
  rintro e w1 ⟨rfl, rfl⟩
  dsimp only
  go_wp2_with fail
  refine (add_in um r v0 r0 (by omega) _).mono ?_
  rintro e w1 ⟨rfl, rfl⟩
  dsimp only
  go_wp2
  have z0 := c0'' (.cells #[.int .i64 0, .int .i64 0] 71) (.cells #[.int .i64 un, .int .i64 um] 71)
  have z2 := c2'' (.cells #[.int .i64 0, .int .i64 0] 71) (.cells #[.int .i64 un, .int .i64 um] 71)
  clear c0 c1 c2 c3 c0' c1' c2' c3' c0'' c1'' c2'' hlk
  generalize (w.alloc _).alloc _ = w2 at *
  generalize hXs : w.heap.size = X at *
  have y0 : w2.drew.cell? ⟨X + 1, 0, none⟩ = some (.int .i64 un) := blk_cell hY 0
  refine wp_region_plan (fun u => u.cell? ⟨X + 1, 0, none⟩ = some (.int .i64 un) ∧ u.cell? ⟨B, 2, none⟩ = some (.int .i64 lo)) [(0, false), (1, false), (2, false), (3, false), (4, false), (5, false), (6, false), (7, false), (8, false)] (by kernel_rfl) (by kernel_rfl) (fun _ _ _ _ _ h => h) (⟨y0, z2⟩) ?_
  simp only [planOps, List.getElem?_toArray, List.getElem?_cons_succ, List.getElem?_cons_zero]
  repeat (first
    | (refine plan_step (by rfl) ?_; apply Exists.intro; refine ⟨fun x hSx => ?_, ?_⟩; ((try dsimp only at hSx); go_simp; (try rw [if_neg (by omega)]); (try with_reducible rfl)); (simp only [Act.put, List.setIfInBounds_toArray, List.set_cons_zero, List.set_cons_succ]))
    | (refine plan_skip (by rfl) ?_; (simp only [Act.put, List.setIfInBounds_toArray, List.set_cons_zero, List.set_cons_succ])))
  refine plan_done ?_
  clear y0 z2
  replace hfb := hfb.drew
  have hY2 := (Fr.refl no w2).drew.heap hY (fun h => h)
  have hX2 := (Fr.refl no w2).drew.heap hX (fun h => h)
  generalize w2.drew = w3 at *
  have y0 : w3.cell? ⟨X + 1, 0, none⟩ = some (.int .i64 un) := blk_cell hY2 0
  have y1 : w3.cell? ⟨X + 1, 1, none⟩ = some (.int .i64 um) := blk_cell hY2 1
  have x0 : w3.cell? ⟨X, 0, none⟩ = some (.int .i64 0) := blk_cell hX2 0
  have x1 : w3.cell? ⟨X, 1, none⟩ = some (.int .i64 0) := blk_cell hX2 1
  have g0 : w3.frozen? ⟨X, 0, none⟩ = false := blk_frozen hX2 0
  have g1 : w3.frozen? ⟨X, 1, none⟩ = false := blk_frozen hX2 1
  clear hY hX hY2
  go_wp2
  have b1 := blk_put hX2 0 (.int .i64 (un + 1)) (cs' := #[.int .i64 (un + 1), .int .i64 0]) rfl
  have b2 := blk_put b1 1 (.int .i64 (um + r)) (cs' := #[.int .i64 (un + 1), .int .i64 (um + r)]) rfl
  have r0 := blk_cell b2 0
  have r1 := blk_cell b2 1
  refine bodyPost_ret (v := .tuple #[.agg #[.int .i64 (un + 1), .int .i64 (um + r)], .int .i64 0, .int .i64 0]) (by simp [results, Tryd.results22, go_sem, r0, r1]) rfl ⟨rfl, (hfb.set (p := ⟨X, 0, none⟩) (fun hh => absurd hh (by subst hXs; exact Nat.lt_irrefl _)) _).set (p := ⟨X, 1, none⟩) (fun hh => absurd hh (by subst hXs; exact Nat.lt_irrefl _)) _⟩
end
/-- What is wrong, told. -/
def riskB : ByteArray := ⟨#[114, 105, 115, 107]⟩
set_option maxRecDepth 100000 in
theorem Ask_no {w : World} {B : Nat} {o p q at' err : Int} {u : Use} (he : 1 ≤ err) (h : Calls Tryd.prog 22 #[.pointer (some ⟨B, 0, none⟩), .int .i64 o, .int .i64 p, .int .i64 q] w fun e w' => e = .returned (.tuple #[useV u, .int .i64 at', .int .i64 err]) ∧ Fr no w w') :
    Calls Tryd.prog 12 #[.pointer (some ⟨B, 0, none⟩), .int .i64 o, .int .i64 p, .int .i64 q] w fun e w' => ∃ F, e = .returned (.iface 65 (.pointer (some ⟨F, 0, none⟩))) ∧ w.heap.size ≤ F ∧ FaultAt w' F riskB at' err ∧ Fr no w w' := by
  have H := Lib.hid h
  have hne : (err != 0) = true := by simp; omega
  clear h he
  go_enter Tryd.func12, Tryd.ntmps12
  go_wp2_with fail
  refine H.out.mono ?_
  rintro e w1 ⟨rfl, hf⟩
  unfold useV
  dsimp only
  go_wp2
  go_ret
  have h1 := hf.size
  have h2 := blk_new (w1.alloc (.cells #[.int .i64 u.n, .int .i64 u.money] 71)) (.cells #[.string riskB, .int .i64 at', .iface 27 (.int .i64 err)] 69)
  unfold riskB at h2
  exact ⟨w1.heap.size + 1, rfl, by omega, by unfold FaultAt riskB; simpa using h2, (hf.alloc _).alloc _⟩
set_option maxRecDepth 100000 in
theorem Ask_yes {w : World} {B : Nat} {o p q at' : Int} {u : Use} (h : Calls Tryd.prog 22 #[.pointer (some ⟨B, 0, none⟩), .int .i64 o, .int .i64 p, .int .i64 q] w fun e w' => e = .returned (.tuple #[useV u, .int .i64 at', .int .i64 0]) ∧ Fr no w w') :
    Calls Tryd.prog 12 #[.pointer (some ⟨B, 0, none⟩), .int .i64 o, .int .i64 p, .int .i64 q] w fun e w' => e = .returned .nilIface ∧ Fr no w w' := by
  have H := Lib.hid h
  clear h
  go_enter Tryd.func12, Tryd.ntmps12
  go_wp2_with fail
  refine H.out.mono ?_
  rintro e w1 ⟨rfl, hf⟩
  unfold useV
  dsimp only
  go_wp2
  go_ret
  exact ⟨rfl, hf.alloc _⟩
set_option maxRecDepth 100000 in
theorem Open_no {w : World} {B : Nat} {o p q at' err : Int} {u : Use} (he : 1 ≤ err) (h : Calls Tryd.prog 22 #[.pointer (some ⟨B, 0, none⟩), .int .i64 o, .int .i64 p, .int .i64 q] w fun e w' => e = .returned (.tuple #[useV u, .int .i64 at', .int .i64 err]) ∧ Fr no w w') :
    Calls Tryd.prog 13 #[.pointer (some ⟨B, 0, none⟩), .int .i64 o, .int .i64 p, .int .i64 q] w fun e w' => ∃ F, e = .returned (.iface 65 (.pointer (some ⟨F, 0, none⟩))) ∧ w.heap.size ≤ F ∧ FaultAt w' F riskB at' err ∧ Fr no w w' := by
  have H := Lib.hid h
  have hne : (err != 0) = true := by simp; omega
  clear h he
  go_enter Tryd.func13, Tryd.ntmps13
  go_wp2_with fail
  refine H.out.mono ?_
  rintro e w1 ⟨rfl, hf⟩
  unfold useV
  dsimp only
  go_wp2
  go_ret
  have h1 := hf.size
  have h2 := blk_new (w1.alloc (.cells #[.int .i64 u.n, .int .i64 u.money] 71)) (.cells #[.string riskB, .int .i64 at', .iface 27 (.int .i64 err)] 69)
  unfold riskB at h2
  exact ⟨w1.heap.size + 1, rfl, by omega, by unfold FaultAt riskB; simpa using h2, (hf.alloc _).alloc _⟩
set_option maxRecDepth 100000 in
set_option maxHeartbeats 2000000 in
theorem Open_yes {w : World} {B M n : Nat} {L : Lim} {f : Int → Use} {o p q at' : Int} {u : Use} (hd : RDesk w B M L) (hu : Uses w M n f) (ho : (Lit.int .i64 o).wf = true) (hn : n < 1000000000) (h : Calls Tryd.prog 22 #[.pointer (some ⟨B, 0, none⟩), .int .i64 o, .int .i64 p, .int .i64 q] w fun e w' => e = .returned (.tuple #[useV u, .int .i64 at', .int .i64 0]) ∧ Fr no w w') :
    Calls Tryd.prog 13 #[.pointer (some ⟨B, 0, none⟩), .int .i64 o, .int .i64 p, .int .i64 q] w fun e w' => e = .returned .nilIface ∧ Uses w' M (n + 1) (upd f o u) ∧ Fr (one M) w w' := by
  have H := Lib.hid h
  clear h
  obtain ⟨un, um⟩ := u
  have hMl := hu.lt
  go_enter Tryd.func13, Tryd.ntmps13
  go_wp2_with fail
  refine H.out.mono ?_
  rintro e w1 ⟨rfl, hf⟩
  unfold useV
  dsimp only
  have hf1 := hf.alloc (.cells #[.int .i64 un, .int .i64 um] 71)
  have hY := blk_new w1 (.cells #[.int .i64 un, .int .i64 um] 71)
  replace hd := hf1.heap hd (fun h => h)
  replace hu := hu.fr hf1 (fun h => h)
  clear hf
  go_wp2
  generalize w1.alloc _ = w2 at *
  generalize w1.heap.size = Y at *
  have c3 : w2.drew.cell? ⟨B, 3, none⟩ = some (.map (some M)) := blk_cell hd 3
  have y0 : w2.drew.cell? ⟨Y, 0, none⟩ = some (.int .i64 un) := blk_cell hY 0
  have y1 : w2.drew.cell? ⟨Y, 1, none⟩ = some (.int .i64 um) := blk_cell hY 1
  go_still_tail 6, (by kernel_rfl)
  change wpList _ _ _ _ _ w2.drew
  replace hu := hu.fr (Fr.refl no w2).drew (fun h => h)
  replace hf1 := hf1.drew
  clear hd hY
  generalize w2.drew = w3 at *
  obtain ⟨D, hown, hat⟩ := hu
  have HAT := Lib.hid hat
  have hm : IsMap D := hown.isMap
  clear hat
  go_wp2_with (at_mapUpdate
               refine wpList_mapUpdate_own _ rfl _ _ _ 56 rfl 3 71 law_int Tryd.underlying56 useR M n D rfl hown (by unfold maxLen; omega) _ _ _ rfl rfl (keyOf_int_mk Tryd.underlying3 ho) (useD ⟨un, um⟩) [] rfl ?_
               intro w4 hown4 hg4)
  go_ret
  refine ⟨rfl, Uses.stored hown4 hm ho HAT.out, ?_⟩
  exact (hf1.mono (fun _ h _ => h.elim)).trans' (Fr.of_grown hg4 (fun k hk _ => by injection hk with hk; exact hk.symm))
end Go.Proofs.YtdlefdlnnclcaaaDoor.Risk
