import Derived.Test.YtdlefdlnnclcaaaDoorRiskC
/-! Contracts of package risk: closed, told. -/
set_option linter.unusedVariables false
set_option linter.unusedSimpArgs false
namespace Go.Proofs.YtdlefdlnnclcaaaDoor.Risk
open Go.RowKit Go.Maps Go.Proofs.YtdlefdlnnclcaaaDoorW.PrintWords Go.Proofs.YtdlefdlnnclcaaaDoor.B Go.Proofs.YtdlefdlnnclcaaaDoor.Err
section
variable {w : World} {B M n : Nat} {L : Lim} {f : Int → Use} {o : Int}
set_option maxRecDepth 100000 in
theorem used_c (h : At w B M n L f o) :
    Calls Tryd.prog 16 #[.pointer (some ⟨B, 0, none⟩), .int .i64 o] w fun e w' => e = .returned (.tuple #[.int .i64 (f o).n, .int .i64 (f o).money]) ∧ Fr no w w' := by
  obtain ⟨hd, hl, hu, ho, u0, u1, v0, v1⟩ := h
  have HU := Lib.hid hu
  have hlk := hu.look o ho
  have hlt := blk_lt hd
  obtain ⟨c0, c1, c2, c3⟩ := hd.cells
  have HD := Lib.hid hd
  generalize hfo : f o = u at *
  have HF := Lib.hid hfo
  obtain ⟨un, um⟩ := u
  unfold useV at *
  dsimp only at *
  clear hu hd hl hfo
  have hY := blk_new w (.cells #[.int .i64 un, .int .i64 um] 71)
  have hfa := (Fr.refl no w).alloc (.cells #[.int .i64 un, .int .i64 um] 71)
  go_enter Tryd.func16, Tryd.ntmps16
  go_wp2
  generalize w.alloc _ = w2 at *
  generalize w.heap.size = Y at *
  have y0 : w2.drew.cell? ⟨Y, 0, none⟩ = some (.int .i64 un) := blk_cell hY 0
  have y1 : w2.drew.cell? ⟨Y, 1, none⟩ = some (.int .i64 um) := blk_cell hY 1
  refine wp_region_plan (fun u => u.cell? ⟨Y, 0, none⟩ = some (.int .i64 un) ∧ u.cell? ⟨Y, 1, none⟩ = some (.int .i64 um)) [(0, false), (1, false), (2, false), (3, false), (4, false), (5, false)] (by kernel_rfl) (by kernel_rfl) (fun _ _ _ _ _ h => h) (⟨y0, y1⟩) ?_
  simp only [planOps, List.getElem?_toArray, List.getElem?_cons_succ, List.getElem?_cons_zero]
  repeat (first
    | (refine plan_step (by rfl) ?_; apply Exists.intro; refine ⟨fun x hSx => ?_, ?_⟩; ((try dsimp only at hSx); go_simp; (try rw [if_neg (by omega)]); (try with_reducible rfl)); (simp only [Act.put, List.setIfInBounds_toArray, List.set_cons_zero, List.set_cons_succ]))
    | (refine plan_skip (by rfl) ?_; (simp only [Act.put, List.setIfInBounds_toArray, List.set_cons_zero, List.set_cons_succ])))
  refine plan_done ?_
  go_wp2
  go_ret2
  exact ⟨rfl, hfa.drew⟩
set_option maxRecDepth 100000 in
set_option maxHeartbeats 2000000 in
theorem close_no (h : At w B M n L f o) (p q : Int) (b : Bool) (hp0 : 0 ≤ p) (hq0 : 0 ≤ q) (hp1 : p ≤ 1000000) (hq1 : q ≤ 1000000) (r : Int) (hr : p * q = r) (r1 : r ≤ 9223372036854775807) (hm : (f o).money < r) :
    Calls Tryd.prog 14 #[.pointer (some ⟨B, 0, none⟩), .int .i64 o, .int .i64 p, .int .i64 q, .bool b] w fun e w' => e = .returned (.int .i64 1) ∧ Fr no w w' := by
  obtain ⟨hd, hl, hu, ho, u0, u1, v0, v1⟩ := h
  have HU := Lib.hid hu
  have hlk := hu.look o ho
  have hlt := blk_lt hd
  obtain ⟨c0, c1, c2, c3⟩ := hd.cells
  have HD := Lib.hid hd
  generalize hfo : f o = u at *
  have HF := Lib.hid hfo
  obtain ⟨un, um⟩ := u
  unfold useV at *
  dsimp only at *
  clear hu hd hl hfo
  have d1 : decide (p < 0) = false := by simp; omega
  have d2 : decide (q < 0) = false := by simp; omega
  have d3 : decide (um < r) = true := by simpa using hm
  have HR := Lib.hid hr
  clear hr hm
  go_enter Tryd.func14, Tryd.ntmps14
  go_wp2_with fail
  refine (mul_in p q hp0 hq0 (by omega) (by omega) r HR.out r1 _).mono ?_
  rintro e w1 ⟨rfl, rfl⟩
  dsimp only
  go_wp2
  go_ret
  exact ⟨rfl, (Fr.refl _ _).alloc _⟩
set_option maxRecDepth 100000 in
set_option maxHeartbeats 2000000 in
theorem close_whole (h : At w B M n L f o) (p q : Int) (hp0 : 0 ≤ p) (hq0 : 0 ≤ q) (hp1 : p ≤ 1000000) (hq1 : q ≤ 1000000) (r : Int) (hr : p * q = r) (r0 : 0 ≤ r) (hm : r ≤ (f o).money) (hn1 : 1 ≤ (f o).n) (hn : n < 1000000000) :
    Calls Tryd.prog 14 #[.pointer (some ⟨B, 0, none⟩), .int .i64 o, .int .i64 p, .int .i64 q, .bool true] w fun e w' => e = .returned (.int .i64 0) ∧ Uses w' M (n + 1) (upd f o ⟨(f o).n - 1, (f o).money - r⟩) ∧ Fr (one M) w w' := by
  obtain ⟨hd, hl, hu, ho, u0, u1, v0, v1⟩ := h
  have HU := Lib.hid hu
  have hlk := hu.look o ho
  have hlt := blk_lt hd
  obtain ⟨c0, c1, c2, c3⟩ := hd.cells
  have HD := Lib.hid hd
  generalize hfo : f o = u at *
  have HF := Lib.hid hfo
  obtain ⟨un, um⟩ := u
  unfold useV at *
  dsimp only at *
  clear hu hd hl hfo
  have d1 : decide (p < 0) = false := by simp; omega
  have d2 : decide (q < 0) = false := by simp; omega
  have d3 : decide (um < r) = false := by simp; omega
  have d4 : decide (un < 1) = false := by simp; omega
  have HR := Lib.hid hr
  have hMl := HU.out.lt
  have hY := blk_new w (.cells #[.int .i64 (un - 1), .int .i64 (um - r)] 71)
  have hfa := (Fr.refl no w).alloc (.cells #[.int .i64 (un - 1), .int .i64 (um - r)] 71)
  have hD2 := hfa.heap HD.out (fun h => h)
  have hU2 := HU.out.fr hfa (fun h => h)
  clear hr HU HD
  go_enter Tryd.func14, Tryd.ntmps14
  go_wp2_with fail
  refine (mul_in p q hp0 hq0 (by omega) (by omega) r HR.out (by omega) _).mono ?_
  rintro e w1 ⟨rfl, rfl⟩
  dsimp only
  go_wp2
  generalize w.alloc _ = w2 at *
  generalize w.heap.size = Y at *
  have e3 : w2.drew.cell? ⟨B, 3, none⟩ = some (.map (some M)) := blk_cell hD2 3
  have y0 : w2.drew.cell? ⟨Y, 0, none⟩ = some (.int .i64 (un - 1)) := blk_cell hY 0
  have y1 : w2.drew.cell? ⟨Y, 1, none⟩ = some (.int .i64 (um - r)) := blk_cell hY 1
  go_still_tail 6, (by kernel_rfl)
  change wpList _ _ _ _ _ w2.drew
  replace hU2 := hU2.fr (Fr.refl no w2).drew (fun h => h)
  replace hfa := hfa.drew
  clear hD2 hY
  generalize w2.drew = w3 at *
  obtain ⟨D, hown, hat⟩ := hU2
  have HAT := Lib.hid hat
  have hmm : IsMap D := hown.isMap
  clear hat
  go_wp2_with (at_mapUpdate
               refine wpList_mapUpdate_own _ rfl _ _ _ 56 rfl 3 71 law_int Tryd.underlying56 useR M n D rfl hown (by unfold maxLen; omega) _ _ _ rfl rfl (keyOf_int_mk Tryd.underlying3 ho) (useD ⟨un - 1, um - r⟩) [] rfl ?_
               intro w4 hown4 hg4)
  go_ret
  refine ⟨rfl, Uses.stored hown4 hmm ho HAT.out, ?_⟩
  exact (hfa.mono (fun _ h _ => h.elim)).trans' (Fr.of_grown hg4 (fun k hk _ => by injection hk with hk; exact hk.symm))
end
end Go.Proofs.YtdlefdlnnclcaaaDoor.Risk
