import Derived.Test.YtdlefdlnnclcaaaDoorErrT
import Derived.Test.YtdlefdlnnclcaaaDoorErrIs
import Derived.Test.YtdlefdlnnclcaaaDoorErrAs
/-! A Fault in words; the document's words of an error. -/
set_option linter.unusedVariables false
set_option linter.unusedSimpArgs false
namespace Go.Proofs.YtdlefdlnnclcaaaDoor.Err
open Go.RowKit Go.Proofs.YtdlefdlnnclcaaaDoorW.PrintWords Go.Proofs.YtdlefdlnnclcaaaDoor.B

def FaultAt (w : World) (F : Nat) (part : ByteArray) (a code : Int) : Prop := w.heap[F]? = some (.cells #[.string part, .int .i64 a, .iface 27 (.int .i64 code)] 69 (0, 0))
/-- The words of an error of one part. -/
def errBytes (part : ByteArray) (i : Nat) (code : Int) : List UInt8 := part.data.toList ++ [32] ++ Lib.decDigits i ++ [58, 32] ++ (wordOf code).data.toList
theorem word_size (c : Int) (h1 : 1 ≤ c) (h2 : c ≤ 14) : (wordOf c).size ≤ 10 := by
  have hc : c = 1 ∨ c = 2 ∨ c = 3 ∨ c = 4 ∨ c = 5 ∨ c = 6 ∨ c = 7 ∨ c = 8 ∨ c = 9 ∨ c = 10 ∨ c = 11 ∨ c = 12 ∨ c = 13 ∨ c = 14 := by omega
  rcases hc with rfl | rfl | rfl | rfl | rfl | rfl | rfl | rfl | rfl | rfl | rfl | rfl | rfl | rfl
  all_goals decide
theorem q_methodErr (v : Value) (w : World) : (Go.method 259 27 v "Error").run Tryd.prog w = .ok (55, v) w := by kernel_rfl
theorem q_methodErrF (v : Value) (w : World) : (Go.method 259 65 v "Error").run Tryd.prog w = .ok (56, v) w := by kernel_rfl
theorem text_lit (n : Int) (i : Nat) (h : n = (i : Int)) (hi : i ≤ 9223372036854775807) (w : World) : Calls Tryd.prog 25 #[.int .i64 n] w fun e w' => e = .returned (.string ⟨(Lib.decDigits i).toArray⟩) ∧ Fr no w w' := by
  subst h
  exact text_pos i hi w
theorem itoa_lit (n : Int) (i : Nat) (h : n = (i : Int)) (hi : i < 100) (w : World) : Calls Tryd.prog 58 #[.int .i64 n] w fun e w' => e = .returned (.string ⟨(Lib.decDigits i).toArray⟩) ∧ w = w' := by
  subst h
  exact (Tryd.strconv_Itoa_small i hi w).mono fun e w' ⟨h1, h2⟩ => ⟨h1, h2.symm⟩

set_option maxRecDepth 100000 in
set_option maxHeartbeats 2000000 in
theorem fault_c (F : Nat) (part : ByteArray) (a code : Int) (i : Nat) (ha : a = (i : Int)) (hi : i < 100) (h1 : 1 ≤ code) (h2 : code ≤ 14) (hp : part.size ≤ 1000) (w : World) (h : FaultAt w F part a code) :
    Calls Tryd.prog 56 #[.pointer (some ⟨F, 0, none⟩)] w fun e w' => (∃ s : ByteArray, e = .returned (.string s) ∧ s.data.toList = errBytes part i code) ∧ Fr no w w' := by
  have c0 : w.cell? ⟨F, 0, none⟩ = some (.string part) := blk_cell h 0
  have c1 : w.cell? ⟨F, 1, none⟩ = some (.int .i64 a) := blk_cell h 1
  have c2 : w.cell? ⟨F, 2, none⟩ = some (.iface 27 (.int .i64 code)) := blk_cell h 2
  have hdl := dec_len i (by omega)
  have hwl := word_size code h1 h2
  have hm := q_methodErr
  have HA := Lib.hid ha
  clear h ha
  go_enter Tryd.func56, Tryd.ntmps56
  go_wp2_with fail
  refine wp_region_plan (fun u => u.cell? ⟨F, 0, none⟩ = some (.string part) ∧ u.cell? ⟨F, 1, none⟩ = some (.int .i64 a) ∧ u.cell? ⟨F, 2, none⟩ = some (.iface 27 (.int .i64 code))) [(0, false), (1, false), (2, false), (3, false), (4, false), (5, false), (6, false), (7, false), (8, false), (12, false), (13, false), (14, false), (15, false), (9, true), (10, false), (11, false), (16, true), (17, false), (18, false)] (by kernel_rfl) (by kernel_rfl) (fun _ _ _ _ _ h => h) (⟨c0, c1, c2⟩) ?_
  simp only [planOps, List.getElem?_toArray, List.getElem?_cons_succ, List.getElem?_cons_zero]
  repeat (first
    | (refine plan_step (by rfl) ?_; apply Exists.intro; refine ⟨fun x hSx => ?_, ?_⟩; ((try dsimp only at hSx); go_simp; (try rw [if_neg (by omega)]); (try with_reducible rfl)); (simp only [Act.put, List.setIfInBounds_toArray, List.set_cons_zero, List.set_cons_succ]))
    | (refine plan_skip (by rfl) ?_; (simp only [Act.put, List.setIfInBounds_toArray, List.set_cons_zero, List.set_cons_succ])))
  refine plan_run (by rfl) (fun K hK => ?_)
  go_simp
  refine (itoa_lit a i HA.out hi _).mono ?_
  rintro e w1 ⟨rfl, rfl⟩
  dsimp only
  refine hK.out (fun u => True) _ _ (⟨c0, c1, c2⟩) (trivial) ?_
  clear hK K
  try simp only [Act.put, List.setIfInBounds_toArray, List.set_cons_zero, List.set_cons_succ]
  repeat (first
    | (refine plan_step (by rfl) ?_; apply Exists.intro; refine ⟨fun x hSx => ?_, ?_⟩; ((try dsimp only at hSx); go_simp; (try rw [if_neg (by omega)]); (try with_reducible rfl)); (simp only [Act.put, List.setIfInBounds_toArray, List.set_cons_zero, List.set_cons_succ]))
    | (refine plan_skip (by rfl) ?_; (simp only [Act.put, List.setIfInBounds_toArray, List.set_cons_zero, List.set_cons_succ])))
  refine plan_run (by rfl) (fun K hK => ?_)
  go_simp
  refine (errno_c code h1 h2 _).mono ?_
  rintro e w1 ⟨rfl, rfl⟩
  dsimp only
  refine hK.out (fun u => True) _ _ (⟨⟨c0, c1, c2⟩, trivial⟩) (trivial) ?_
  clear hK K
  try simp only [Act.put, List.setIfInBounds_toArray, List.set_cons_zero, List.set_cons_succ]
  repeat (first
    | (refine plan_step (by rfl) ?_; apply Exists.intro; refine ⟨fun x hSx => ?_, ?_⟩; ((try dsimp only at hSx); go_simp; (try rw [if_neg (by omega)]); (try with_reducible rfl)); (simp only [Act.put, List.setIfInBounds_toArray, List.set_cons_zero, List.set_cons_succ]))
    | (refine plan_skip (by rfl) ?_; (simp only [Act.put, List.setIfInBounds_toArray, List.set_cons_zero, List.set_cons_succ])))
  refine plan_done ?_
  go_wp2
  go_ret
  exact ⟨⟨_, rfl, by simp [errBytes]⟩, (Fr.refl _ _).drew⟩
def PartAt (w : World) (G : Nat) (part : ByteArray) (a : Int) : Prop := w.cell? ⟨G, 0, none⟩ = some (.string part) ∧ w.cell? ⟨G, 1, none⟩ = some (.int .i64 a)
theorem PartAt.fr {w w1 : World} {G : Nat} {part : ByteArray} {a : Int} (h : PartAt w G part a) (hf : Fr no w w1) : PartAt w1 G part a := ⟨hf.cell h.1 (fun h => h), hf.cell h.2 (fun h => h)⟩
def wrongC (G c : Nat) (code : Int) : Value := .agg #[.slice (some ⟨G, 0, none⟩) 1 c, .int .i64 code]
def wrongV (G : Nat) (code : Int) : Value := .agg #[.slice (some ⟨G, 0, none⟩) 1 1, .int .i64 code]
set_option maxRecDepth 100000 in
set_option maxHeartbeats 2000000 in
theorem wordsC_c (G c : Nat) (part : ByteArray) (a code : Int) (i : Nat) (ha : a = (i : Int)) (hi : i < 100) (h1 : 1 ≤ code) (h2 : code ≤ 14) (hp : part.size ≤ 1000) (w : World) (h : PartAt w G part a) :
    Calls Tryd.prog 19 #[wrongC G c code] w fun e w' => (∃ s : ByteArray, e = .returned (.string s) ∧ s.data.toList = errBytes part i code) ∧ Fr no w w' := by
  have hfa := (Fr.refl no w).alloc (.cells #[.slice (some ⟨G, 0, none⟩) 1 c, .int .i64 code] 44)
  have hX := blk_new w (.cells #[.slice (some ⟨G, 0, none⟩) 1 c, .int .i64 code] 44)
  have hg := h.fr hfa
  have hdl := dec_len i (by omega)
  have hwl := word_size code h1 h2
  have HA := Lib.hid ha
  clear h ha
  unfold wrongC
  go_enter Tryd.func19, Tryd.ntmps19
  go_wp2
  generalize w.alloc _ = w1 at *
  generalize w.heap.size = X at *
  have x0 : w1.cell? ⟨X, 0, none⟩ = some (.slice (some ⟨G, 0, none⟩) 1 c) := blk_cell hX 0
  have x1 : w1.cell? ⟨X, 1, none⟩ = some (.int .i64 code) := blk_cell hX 1
  have g0 : w1.cell? ⟨G, 0, none⟩ = some (.string part) := hg.1
  have g1 : w1.cell? ⟨G, 1, none⟩ = some (.int .i64 a) := hg.2
  clear hX hg
  refine wp_loop_rounds 2 ?_
  rw [rounds_succ]
  go_wp2_with fail
  refine wp_region_plan (fun u => u.cell? ⟨X, 0, none⟩ = some (.slice (some ⟨G, 0, none⟩) 1 c) ∧ u.cell? ⟨X, 1, none⟩ = some (.int .i64 code) ∧ u.cell? ⟨G, 0, none⟩ = some (.string part) ∧ u.cell? ⟨G, 1, none⟩ = some (.int .i64 a)) [(0, false), (1, false), (2, false), (3, false), (4, false), (5, false), (6, false), (7, false), (8, false), (9, false), (10, false), (11, false), (12, false), (13, false), (14, false), (15, true), (16, false), (17, false), (18, false)] (by kernel_rfl) (by kernel_rfl) (fun _ _ _ _ _ h => h) (⟨x0, x1, g0, g1⟩) ?_
  simp only [planOps, List.getElem?_toArray, List.getElem?_cons_succ, List.getElem?_cons_zero]
  repeat (first
    | (refine plan_step (by rfl) ?_; apply Exists.intro; refine ⟨fun x hSx => ?_, ?_⟩; ((try dsimp only at hSx); go_simp; (try rw [if_neg (by omega)]); (try with_reducible rfl)); (simp only [Act.put, List.setIfInBounds_toArray, List.set_cons_zero, List.set_cons_succ]))
    | (refine plan_skip (by rfl) ?_; (simp only [Act.put, List.setIfInBounds_toArray, List.set_cons_zero, List.set_cons_succ])))
  refine plan_run (by rfl) (fun K hK => ?_)
  go_simp
  refine (text_lit a i HA.out (by omega) _).mono ?_
  rintro e w2 ⟨rfl, hf2⟩
  have hfd := (Fr.refl no w1).drew.trans' hf2
  have y0 := hfd.cell x0 (fun h => h)
  have y1 := hfd.cell x1 (fun h => h)
  have y2 := hfd.cell g0 (fun h => h)
  have y3 := hfd.cell g1 (fun h => h)
  dsimp only
  refine hK.out (fun u => True) _ _ (⟨y0, y1, y2, y3⟩) (trivial) ?_
  clear hK K
  try simp only [Act.put, List.setIfInBounds_toArray, List.set_cons_zero, List.set_cons_succ]
  repeat (first
    | (refine plan_step (by rfl) ?_; apply Exists.intro; refine ⟨fun x hSx => ?_, ?_⟩; ((try dsimp only at hSx); go_simp; (try rw [if_neg (by omega)]); (try with_reducible rfl)); (simp only [Act.put, List.setIfInBounds_toArray, List.set_cons_zero, List.set_cons_succ]))
    | (refine plan_skip (by rfl) ?_; (simp only [Act.put, List.setIfInBounds_toArray, List.set_cons_zero, List.set_cons_succ])))
  refine plan_done ?_
  go_wp2
  rw [rounds_succ]
  go_wp2_with fail
  refine (word_c code h1 h2 _).mono ?_
  rintro e w3 ⟨rfl, hf3⟩
  have hfe := (hfa.trans' hfd).trans' hf3
  dsimp only
  go_wp2
  go_ret
  exact ⟨⟨_, rfl, by simp [errBytes]⟩, hfe⟩
theorem words_c (G : Nat) (part : ByteArray) (a code : Int) (i : Nat) (ha : a = (i : Int)) (hi : i < 100) (h1 : 1 ≤ code) (h2 : code ≤ 14) (hp : part.size ≤ 1000) (w : World) (h : PartAt w G part a) :
    Calls Tryd.prog 19 #[wrongV G code] w fun e w' => (∃ s : ByteArray, e = .returned (.string s) ∧ s.data.toList = errBytes part i code) ∧ Fr no w w' := wordsC_c G 1 part a code i ha hi h1 h2 hp w h
end Go.Proofs.YtdlefdlnnclcaaaDoor.Err
