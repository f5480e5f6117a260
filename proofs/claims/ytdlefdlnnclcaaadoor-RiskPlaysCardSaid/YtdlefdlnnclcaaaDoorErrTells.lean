import Derived.Test.YtdlefdlnnclcaaaDoorErrF
/-! Tells: an error says just what the document's does. -/
set_option linter.unusedVariables false
set_option linter.unusedSimpArgs false
namespace Go.Proofs.YtdlefdlnnclcaaaDoor.Err
open Go.RowKit Go.Proofs.YtdlefdlnnclcaaaDoorW.PrintWords Go.Proofs.YtdlefdlnnclcaaaDoor.B

/-- What the program's variable errors.errorType holds. -/
def ErrType (w : World) : Prop := w.cell? ⟨0, 0, none⟩ = some (.iface 99 (.agg #[.pointer (some ⟨4, 48, none⟩)]))
theorem ErrType.fr {w w1 : World} (h : ErrType w) {S : Nat → Prop} (hf : Fr S w w1) (hn : ¬ S 0) : ErrType w1 := hf.cell h hn
theorem as_c (F Y : Nat) (w : World) (hg : ErrType w) (hY : w.heap[Y]? = some (.cells #[.pointer none] 65 (0, 0))) :
    Calls Tryd.prog 21 #[.iface 65 (.pointer (some ⟨F, 0, none⟩)), .iface 67 (.pointer (some ⟨Y, 0, none⟩))] w fun e w' => e = .returned (.bool true) ∧ w'.heap[Y]? = some (.cells #[.pointer (some ⟨F, 0, none⟩)] 65 (0, 0)) ∧ Fr (one Y) w w' := by
  refine (as_hit ⟨F, 0, none⟩ ⟨Y, 0, none⟩ (.pointer none) w hg (blk_cell hY 0) (blk_frozen hY 0)).mono ?_
  rintro e w' ⟨rfl, rfl⟩
  refine ⟨rfl, ?_, Fr.set (w := w) (S := one Y) ?_ (p := ⟨Y, 0, none⟩) (fun _ => rfl) _⟩
  · refine blk_put (Fr.heap (S := no) (w := w) ?_ hY (fun h => h)) 0 _ rfl
    exact ((((Fr.refl no w).alloc _).alloc _).alloc _).alloc _
  · exact ((((Fr.refl (one Y) w).alloc _).alloc _).alloc _).alloc _
set_option maxRecDepth 100000 in
set_option maxHeartbeats 4000000 in
theorem tellsC_c (F G c : Nat) (part : ByteArray) (a code : Int) (i : Nat) (ha : a = (i : Int)) (hi : i < 100) (h1 : 1 ≤ code) (h2 : code ≤ 14) (hp : part.size ≤ 1000) (w : World) (hg : ErrType w) (hF : FaultAt w F part a code) (hG : PartAt w G part a) :
    Calls Tryd.prog 11 #[.iface 65 (.pointer (some ⟨F, 0, none⟩)), wrongC G c code] w fun e w' => e = .returned (.bool true) ∧ Fr no w w' := by
  have hfa := (Fr.refl no w).alloc (.cells #[.slice (some ⟨G, 0, none⟩) 1 c, .int .i64 code] 44)
  have hX := blk_new w (.cells #[.slice (some ⟨G, 0, none⟩) 1 c, .int .i64 code] 44)
  have hF1 : FaultAt _ F part a code := hfa.heap hF (fun h => h)
  have hG1 : PartAt _ G part a := hG.fr hfa
  have hg1 := hg.fr hfa (fun h => h)
  have hc0 : (code == 0) = false := by simp; omega
  have HA := Lib.hid ha
  have hm := q_methodErrF
  clear hF hG hg ha
  unfold wrongC
  go_enter Tryd.func11, Tryd.ntmps11
  go_wp2_with fail
  generalize w.alloc _ = w1 at *
  generalize w.heap.size = X at *
  have hall : Hid (∀ u, Fr no w1 u → (u.cell? ⟨X, 0, none⟩ = some (.slice (some ⟨G, 0, none⟩) 1 c) ∧ u.cell? ⟨X, 1, none⟩ = some (.int .i64 code)) ∧ FaultAt u F part a code ∧ PartAt u G part a ∧ ErrType u) := fun u h => ⟨⟨h.cell (show w1.cell? ⟨X, 0, none⟩ = _ from blk_cell hX 0) (fun h => h), h.cell (show w1.cell? ⟨X, 1, none⟩ = _ from blk_cell hX 1) (fun h => h)⟩, h.heap hF1 (fun h => h), hG1.fr h, hg1.fr h (fun h => h)⟩
  clear hX hF1 hG1 hg1
  have hfd := (Fr.refl no w1).drew
  refine wp_region_plan (fun u => u.cell? ⟨X, 0, none⟩ = some (.slice (some ⟨G, 0, none⟩) 1 c) ∧ u.cell? ⟨X, 1, none⟩ = some (.int .i64 code)) [(0, false), (1, false), (2, false), (3, false), (5, false), (4, true), (6, true), (7, false), (8, false), (9, false), (10, false), (11, false), (12, false), (13, false), (14, true), (15, false), (16, false)] (by kernel_rfl) (by kernel_rfl) (fun _ _ _ _ _ h => h) ((hall.out _ hfd).1) ?_
  simp only [planOps, List.getElem?_toArray, List.getElem?_cons_succ, List.getElem?_cons_zero]
  repeat (first
    | (refine plan_step (by rfl) ?_; apply Exists.intro; refine ⟨fun x hSx => ?_, ?_⟩; ((try dsimp only at hSx); go_simp; (try rw [if_neg (by omega)]); (try with_reducible rfl)); (simp only [Act.put, List.setIfInBounds_toArray, List.set_cons_zero, List.set_cons_succ]))
    | (refine plan_skip (by rfl) ?_; (simp only [Act.put, List.setIfInBounds_toArray, List.set_cons_zero, List.set_cons_succ])))
  refine plan_run (by rfl) (fun K hK => ?_)
  go_simp
  refine (fault_c F part a code i HA.out hi h1 h2 hp _ (hall.out _ hfd).2.1).mono ?_
  rintro e w2 ⟨⟨s1, rfl, hs1⟩, hf2⟩
  have hfd2 := hfd.trans' hf2
  dsimp only
  refine hK.out (fun u => True) _ _ ((hall.out _ hfd2).1) (trivial) ?_
  clear hK K
  try simp only [Act.put, List.setIfInBounds_toArray, List.set_cons_zero, List.set_cons_succ]
  repeat (first
    | (refine plan_step (by rfl) ?_; apply Exists.intro; refine ⟨fun x hSx => ?_, ?_⟩; ((try dsimp only at hSx); go_simp; (try rw [if_neg (by omega)]); (try with_reducible rfl)); (simp only [Act.put, List.setIfInBounds_toArray, List.set_cons_zero, List.set_cons_succ]))
    | (refine plan_skip (by rfl) ?_; (simp only [Act.put, List.setIfInBounds_toArray, List.set_cons_zero, List.set_cons_succ])))
  refine plan_run (by rfl) (fun K hK => ?_)
  go_simp
  refine (wordsC_c G c part a code i HA.out hi h1 h2 hp _ (hall.out _ hfd2).2.2.1).mono ?_
  rintro e w3 ⟨⟨s2, rfl, hs2⟩, hf3⟩
  have hfd3 := hfd2.trans' hf3
  obtain rfl : s1 = s2 := by
    have := hs1.trans hs2.symm
    cases s1; cases s2
    congr 1
    exact Array.toList_inj.1 this
  clear hs1 hs2
  dsimp only
  refine hK.out (fun u => True) _ _ (⟨(hall.out _ hfd3).1, trivial⟩) (trivial) ?_
  clear hK K
  try simp only [Act.put, List.setIfInBounds_toArray, List.set_cons_zero, List.set_cons_succ]
  repeat (first
    | (refine plan_step (by rfl) ?_; apply Exists.intro; refine ⟨fun x hSx => ?_, ?_⟩; ((try dsimp only at hSx); go_simp; (try rw [if_neg (by omega)]); (try with_reducible rfl)); (simp only [Act.put, List.setIfInBounds_toArray, List.set_cons_zero, List.set_cons_succ]))
    | (refine plan_skip (by rfl) ?_; (simp only [Act.put, List.setIfInBounds_toArray, List.set_cons_zero, List.set_cons_succ])))
  refine plan_run (by rfl) (fun K hK => ?_)
  go_simp
  refine (is_c F code code _ (blk_cell (hall.out _ hfd3).2.1 2)).mono ?_
  rintro e w4 ⟨rfl, rfl⟩
  have hcc : (code == code) = true := by simp
  rw [hcc]
  dsimp only
  refine hK.out (fun u => True) _ _ (⟨⟨(hall.out _ hfd3).1, trivial⟩, trivial⟩) (trivial) ?_
  clear hK K
  try simp only [Act.put, List.setIfInBounds_toArray, List.set_cons_zero, List.set_cons_succ]
  repeat (first
    | (refine plan_step (by rfl) ?_; apply Exists.intro; refine ⟨fun x hSx => ?_, ?_⟩; ((try dsimp only at hSx); go_simp; (try rw [if_neg (by omega)]); (try with_reducible rfl)); (simp only [Act.put, List.setIfInBounds_toArray, List.set_cons_zero, List.set_cons_succ]))
    | (refine plan_skip (by rfl) ?_; (simp only [Act.put, List.setIfInBounds_toArray, List.set_cons_zero, List.set_cons_succ])))
  refine plan_done ?_
  obtain ⟨⟨x0, x1⟩, hF4, hG4, hg4⟩ := hall.out _ hfd3
  have hYb := blk_new w3 (.cells #[.pointer none] 65)
  have hfy := (Fr.refl no w3).alloc (.cells #[.pointer none] 65)
  have hgy := hg4.fr hfy (fun h => h)
  have x0' := fun o => (World.cell?_alloc_lt w3 o ⟨X, 0, none⟩ (World.block_lt_of_cell? w3 _ x0)).trans x0
  go_wp2_with fail
  refine (as_c F w3.heap.size _ hgy hYb).mono ?_
  rintro e w5 ⟨rfl, hY5, hf5⟩
  have hf35 : Fr no w3 w5 := hfy.new hf5 (fun k hk => by have : k = w3.heap.size := hk; subst this; exact Nat.le_refl _)
  have hend := (hfd3.trans' hf35).drew
  have y0 : w5.cell? ⟨w3.heap.size, 0, none⟩ = some (.pointer (some ⟨F, 0, none⟩)) := blk_cell hY5 0
  have y1 : w5.cell? ⟨F, 0, none⟩ = some (.string part) := hf35.cell (show w3.cell? ⟨F, 0, none⟩ = _ from blk_cell hF4 0) (fun h => h)
  have y2 : w5.cell? ⟨F, 1, none⟩ = some (.int .i64 a) := hf35.cell (show w3.cell? ⟨F, 1, none⟩ = _ from blk_cell hF4 1) (fun h => h)
  have y3 : w5.cell? ⟨X, 0, none⟩ = some (.slice (some ⟨G, 0, none⟩) 1 c) := hf35.cell x0 (fun h => h)
  have y4 : w5.cell? ⟨G, 0, none⟩ = some (.string part) := hf35.cell hG4.1 (fun h => h)
  have y5 : w5.cell? ⟨G, 1, none⟩ = some (.int .i64 a) := hf35.cell hG4.2 (fun h => h)
  clear x0 x1 hF4 hG4 hg4 hYb hfy hgy x0' hY5 hf5
  generalize w3.heap.size = Y at *
  dsimp only
  go_wp2_with fail
  refine wp_region_plan (fun u => u.cell? ⟨Y, 0, none⟩ = some (.pointer (some ⟨F, 0, none⟩)) ∧ u.cell? ⟨F, 0, none⟩ = some (.string part) ∧ u.cell? ⟨F, 1, none⟩ = some (.int .i64 a) ∧ u.cell? ⟨X, 0, none⟩ = some (.slice (some ⟨G, 0, none⟩) 1 c) ∧ u.cell? ⟨G, 0, none⟩ = some (.string part) ∧ u.cell? ⟨G, 1, none⟩ = some (.int .i64 a)) [(0, false), (1, false), (2, false), (3, false), (4, false), (5, false), (6, false), (7, false), (8, false), (9, false), (10, false), (11, false), (12, false), (13, false), (14, false), (15, false), (16, false), (17, false), (18, false), (19, false), (20, false), (21, false), (22, false)] (by kernel_rfl) (by kernel_rfl) (fun _ _ _ _ _ h => h) (⟨y0, y1, y2, y3, y4, y5⟩) ?_
  simp only [planOps, List.getElem?_toArray, List.getElem?_cons_succ, List.getElem?_cons_zero]
  repeat (first
    | (refine plan_step (by rfl) ?_; apply Exists.intro; refine ⟨fun x hSx => ?_, ?_⟩; ((try dsimp only at hSx); go_simp; (try rw [if_neg (by omega)]); (try with_reducible rfl)); (simp only [Act.put, List.setIfInBounds_toArray, List.set_cons_zero, List.set_cons_succ]))
    | (refine plan_skip (by rfl) ?_; (simp only [Act.put, List.setIfInBounds_toArray, List.set_cons_zero, List.set_cons_succ])))
  refine plan_done ?_
  go_wp2
  go_ret
  exact ⟨rfl, hfa.trans' hend⟩
theorem tells_c (F G : Nat) (part : ByteArray) (a code : Int) (i : Nat) (ha : a = (i : Int)) (hi : i < 100) (h1 : 1 ≤ code) (h2 : code ≤ 14) (hp : part.size ≤ 1000) (w : World) (hg : ErrType w) (hF : FaultAt w F part a code) (hG : PartAt w G part a) :
    Calls Tryd.prog 11 #[.iface 65 (.pointer (some ⟨F, 0, none⟩)), wrongV G code] w fun e w' => e = .returned (.bool true) ∧ Fr no w w' := tellsC_c F G 1 part a code i ha hi h1 h2 hp w hg hF hG
theorem at_c (part : ByteArray) (a code : Int) (w : World) : Calls Tryd.prog 10 #[.string part, .int .i64 a, .int .i64 code] w fun e w' => (∃ G, e = .returned (wrongV G code) ∧ w.heap.size ≤ G ∧ PartAt w' G part a) ∧ Fr no w w' := by
  have hfr := fun o1 => ((Fr.refl no w).alloc o1).alloc (.cells #[.string part, .int .i64 a] 61)
  go_enter Tryd.func10, Tryd.ntmps10
  go_wp2
  refine bodyPost_ret (v := wrongV (w.heap.size + 1) code) (by simp [results, Tryd.results10, go_sem, wrongV]) rfl ⟨⟨w.heap.size + 1, rfl, by omega, ?_⟩, hfr _⟩
  have h := blk_new (w.alloc (.cells #[.slice (some ⟨w.heap.size + 1, 0, none⟩) 1 1, .int .i64 code] 44)) (.cells #[.string part, .int .i64 a] 61)
  rw [World.size_alloc] at h
  exact ⟨blk_cell h 0, blk_cell h 1⟩
theorem tells_nil (v : Value) (w : World) : Calls Tryd.prog 11 #[.nilIface, .agg #[.slice none 0 0, .int .i64 0]] w fun e w' => e = .returned (.bool true) ∧ Fr no w w' := by
  go_enter Tryd.func11, Tryd.ntmps11
  go_wp2
  go_ret
  exact ⟨rfl, (Fr.refl no w).alloc _⟩
end Go.Proofs.YtdlefdlnnclcaaaDoor.Err
