import Derived.Test.YtcbhddajkleleaaDoorMsgX
import Derived.Lib.Builder
import Derived.Lib.AppendStr
import Derived.Laws.Externs
/-! A Builder that is written once (after the shelf's own walk); msg.Text of the message that the laws' own check asks for. -/
set_option linter.unusedVariables false
set_option linter.unusedSimpArgs false
namespace Go.Proofs.YtcbhddajkleleaaDoor.Msg
open Go.RowKit Go.Proofs.YtcbhddajkleleaaDoorW.PrintWords Go.Proofs.YtcbhddajkleleaaDoor.B Go.Proofs.YtcbhddajkleleaaDoor.Codec

theorem sizeBuilder : (Tryd.prog.info? 81).map (·.size) = some 2 := by kernel_rfl
theorem liesBuilder : liesAt Tryd.prog Tryd.prog.depth 81 (2 / Tryd.prog.cellsOf 81) 0 81 1 = true := by kernel_rfl
theorem infoByte : (Tryd.prog.info? 5).map (fun i => (i.zero, i.size, i.bytes)) = some (some (.int .u8 0), 1, 1) := by kernel_rfl
set_option maxHeartbeats 1000000 in
set_option maxRecDepth 100000 in
theorem copy_fresh (b : Nat) (w : World) (h0 : w.cell? ⟨b, 0, none⟩ = some (.pointer none)) (hsh : w.shape? b = some (81, 2)) (hfz : w.frozen? ⟨b, 0, none⟩ = false) :
    Calls Tryd.prog 49 #[.pointer (some ⟨b, 0, none⟩)] w fun e w' => e = .returned (.tuple #[]) ∧ w' = w.setCell ⟨b, 0, none⟩ (.pointer (some ⟨b, 0, none⟩)) := by
  obtain ⟨j, hj, hjs⟩ := Option.map_eq_some_iff.1 sizeBuilder
  go_enter Tryd.func49, Tryd.ntmps49
  go_wp2
  rw [Lib.run_to_unsafe w ⟨b, 0, none⟩ Tryd.underlying79 Tryd.underlying96 hj (by rw [hjs]; decide) hsh (Nat.zero_lt_succ 1)]
  simp only [Result.andThen]
  rw [Oper.upon_value]
  go_wp2
  rw [run_callFunc_extern Tryd.func55 (by kernel_rfl) (by kernel_rfl) (by kernel_rfl) (e := Extern.AbiNoEscape.same) (by kernel_rfl)]
  rw [Lib.run_noEscape]
  simp only [Result.andThen]
  rw [Oper.upon_value]
  go_wp2
  rw [Lib.run_from_unsafe w ⟨b, 0, none⟩ Tryd.underlying96 Tryd.underlying79 hj hsh liesBuilder]
  simp only [Result.andThen]
  rw [Oper.upon_value]
  go_wp2
  go_end0
  exact ⟨rfl, rfl⟩
set_option maxHeartbeats 2000000 in
set_option maxRecDepth 100000 in
theorem write_fresh (B b : Nat) (s : ByteArray) (w : World) (h : Lib.BuilderAt 81 5 B b (.pointer none) [] w) (hlen : s.size ≤ 1000000) (hBw : B ≤ w.heap.size) :
    Calls Tryd.prog 33 #[.pointer (some ⟨b, 0, none⟩), .string s] w fun e w' => e = .returned (.tuple #[.int .i64 s.size, .nilIface]) ∧ (Lib.BuilderAt 81 5 B b (.pointer (some ⟨b, 0, none⟩)) ([] ++ Lib.strCells s) w' ∧ Below B w w') := by
  obtain ⟨i0, hi, hz0, hz1, hz2⟩ := info_parts infoByte
  have H := Lib.hid h
  clear h
  go_enter Tryd.func33, Tryd.ntmps33
  go_wp2_with fail
  refine (copy_fresh b w H.out.cell0 H.out.shape H.out.frozen0).mono ?_
  rintro e w1 ⟨rfl, hw1⟩
  have hb1 : Below B w w1 := by rw [hw1]; exact (Below.refl B w).setCell (p := ⟨b, 0, none⟩) H.out.1 _
  have h1 := H.out.used (.pointer (some ⟨b, 0, none⟩))
  rw [← hw1] at h1
  clear hw1
  obtain ⟨hB, v, hbk, hown, hne⟩ := h1
  have c0 : w1.cell? ⟨b, 0, none⟩ = some (.pointer (some ⟨b, 0, none⟩)) := by rw [Lib.cell_of_heap hbk]; rfl
  have c1 : w1.cell? ⟨b, 1, none⟩ = some v := by rw [Lib.cell_of_heap hbk]; rfl
  dsimp only
  go_wp2_with (at_builtin; refine Lib.wpList_append_own_string _ rfl _ _ 36 9 rfl B 5 i0 Tryd.underlying36 Tryd.underlying9 hi hz0 hz1 hz2 _ _ _ rfl hown s rfl ?c3 ?c4 ?c5 ?_)
  case c3 => unfold maxLen; simp; omega
  case c4 => simp; omega
  case c5 => have := hb1.size; omega
  intro v' w2 hown' hgrow _
  have hlt := blk_lt hbk
  have hb2 : w2.heap[b]? = some (.cells #[.pointer (some ⟨b, 0, none⟩), v] 81 (0, 0)) := by
    rw [hgrow.block b hlt (fun e => hne e.symm)]
    exact hbk
  have d0 : w2.cell? ⟨b, 0, none⟩ = some (.pointer (some ⟨b, 0, none⟩)) := by rw [Lib.cell_of_heap hb2]; rfl
  have d1 : w2.cell? ⟨b, 1, none⟩ = some v := by rw [Lib.cell_of_heap hb2]; rfl
  have f1 : w2.frozen? ⟨b, 1, none⟩ = false := Lib.frozen_of_heap hb2 1
  obtain ⟨ao, n', cap, rfl⟩ : ∃ ao n' cap, v' = .slice ao n' cap := by
    rcases hown'.2 with ⟨hv, _⟩ | ⟨g, cap, cur, hv, _⟩
    · exact ⟨_, _, _, hv⟩
    · exact ⟨_, _, _, hv⟩
  go_wp2
  go_ret2
  refine ⟨rfl, ?_, ?_⟩
  · exact Lib.BuilderAt.put (T := 81) (e := 5) hB hb2 (bs' := [] ++ Lib.strCells s) (by simpa [Lib.strCells_length] using hown') (by decide)
  · exact (hb1.grown hgrow (by have := hb1.size; omega) (fun k hk => (hown.lt k hk).1)).setCell (p := ⟨b, 1, none⟩) hB _
theorem dg (i : Nat) (h : i < 10) : Lib.decDigits i = [UInt8.ofNat (48 + i)] := by rw [Lib.decDigits, dif_pos h]
theorem j12 : joinS [1, 2] = [49, 32, 50] := by simp [joinS, digS, dg, Lib.join, List.intercalate]
theorem j6 : joinS [0, 0, 0, 0, 0, 0] = [48, 32, 48, 32, 48, 32, 48, 32, 48, 32, 48] := by simp [joinS, digS, dg, Lib.join, List.intercalate]
def zA : Arr6 := ⟨0, 0, 0, 0, 0, 0⟩
def knownText : ByteArray := ⟨#[49, 32, 50, 32, 48, 32, 48, 32, 48, 32, 48, 32, 48, 32, 48]⟩
set_option maxRecDepth 100000 in
set_option maxHeartbeats 1000000 in
theorem text_x (w : World) : Calls Tryd.prog 19 #[msgV ⟨1, 2, zA, []⟩ none 0] w fun e w' => e = .returned (.string knownText) ∧ Fr no w w' := by
  have hfx := (Fr.refl no w).alloc (.cells #[.int .i64 1, .int .i64 2, .int .i64 0, .int .i64 0, .int .i64 0, .int .i64 0, .int .i64 0, .int .i64 0, .slice none 0 0] 29)
  have hX := blk_new w (.cells #[.int .i64 1, .int .i64 2, .int .i64 0, .int .i64 0, .int .i64 0, .int .i64 0, .int .i64 0, .int .i64 0, .slice none 0 0] 29)
  have hs1 : (w.alloc (.cells #[.int .i64 1, .int .i64 2, .int .i64 0, .int .i64 0, .int .i64 0, .int .i64 0, .int .i64 0, .int .i64 0, .slice none 0 0] 29)).heap.size = w.heap.size + 1 := by simp
  have HS1 := Lib.hid hs1
  clear hs1
  unfold msgV zA
  dsimp only [List.length_nil]
  go_enter Tryd.func19, Tryd.ntmps19
  go_wp2_with fail
  generalize w.alloc _ = w1 at *
  generalize w.heap.size = X at *
  have hfb := (Fr.refl no w1).alloc (.cells #[.pointer none, .slice none 0 0] 81)
  have hBu : Lib.BuilderAt 81 5 w1.heap.size w1.heap.size (.pointer none) [] (w1.alloc (.cells #[.pointer none, .slice none 0 0] 81)) := by
    refine ⟨Nat.le_refl _, .slice none 0 0, blk_new w1 _, World.ownsRow_nil _ _ _ _, ?_⟩
    simp [Value.ownBlock]
  have hX1 := hfb.heap hX (fun h => h)
  have hXb : X < w1.heap.size := blk_lt hX
  have hxw : w1.heap.size ≤ (w1.alloc (.cells #[.pointer none, .slice none 0 0] 81)).heap.size := by simp
  have hBb := blk_new w1 (.cells #[.pointer none, .slice none 0 0] 81)
  generalize w1.alloc _ = w2 at *
  generalize hbe : w1.heap.size = b at *
  obtain rfl : b = X + 1 := by have := HS1.out; omega
  have HBE := Lib.hid hbe
  clear hbe
  have hall : Hid (∀ u, Fr no w2 u → (u.cell? ⟨X, 0, none⟩ = some (.int .i64 1) ∧ u.cell? ⟨X, 1, none⟩ = some (.int .i64 2)) ∧ u.cell? ⟨X, 8, none⟩ = some (.slice none 0 0) ∧ (Kd.int .i64).C u (some ⟨X, 2, none⟩) ([0, 0, 0, 0, 0, 0].map Int.ofNat).length ([0, 0, 0, 0, 0, 0].map Int.ofNat) ∧ Lib.BuilderAt 81 5 (X + 1) (X + 1) (.pointer none) [] u) := fun u h => by
    have hh := h.heap hX1 (fun h => h)
    refine ⟨⟨blk_cell hh 0, blk_cell hh 1⟩, blk_cell hh 8, C_ints _ (by simp) (fun j x hj => ?_), ?_⟩
    · have h6 : j < 6 := (List.getElem?_eq_some_iff.1 hj).1
      obtain rfl | rfl | rfl | rfl | rfl | rfl : j = 0 ∨ j = 1 ∨ j = 2 ∨ j = 3 ∨ j = 4 ∨ j = 5 := by omega
      all_goals
        simp at hj
        subst hj
        first | exact blk_cell hh 2 | exact blk_cell hh 3 | exact blk_cell hh 4 | exact blk_cell hh 5 | exact blk_cell hh 6 | exact blk_cell hh 7
    · exact ⟨Nat.le_refl _, .slice none 0 0, h.heap hBb (fun h => h), World.ownsRow_nil _ _ _ _, by simp [Value.ownBlock]⟩
  clear hX hX1 hBu hBb
  have hfd := (Fr.refl no w2).drew
  have hS := (hall.out _ hfd).1
  refine wp_region_plan (fun u => u.cell? ⟨X, 0, none⟩ = some (.int .i64 1) ∧ u.cell? ⟨X, 1, none⟩ = some (.int .i64 2)) [(0, false), (1, false), (2, false), (3, false), (7, false), (8, false), (4, true), (5, true), (6, false), (9, true), (10, false), (11, true)] (by kernel_rfl) (by kernel_rfl) (fun _ _ _ _ _ h => h) (hS) ?_
  simp only [planOps, List.getElem?_toArray, List.getElem?_cons_succ, List.getElem?_cons_zero]
  repeat (first
    | (refine plan_step (by rfl) ?_; apply Exists.intro; refine ⟨fun x hSx => ?_, ?_⟩; ((try dsimp only at hSx); go_simp; (try rw [if_neg (by omega)]); (try with_reducible rfl)); (simp only [Act.put, List.setIfInBounds_toArray, List.set_cons_zero, List.set_cons_succ]))
    | (refine plan_skip (by rfl) ?_; (simp only [Act.put, List.setIfInBounds_toArray, List.set_cons_zero, List.set_cons_succ])))
  refine plan_run (by rfl) (fun K hK => ?_)
  go_simp
  have hf1 := hfd.alloc (.cells #[.int .i64 1, .int .i64 2] 2)
  have hb1 := blk_new w2.drew (.cells #[.int .i64 1, .int .i64 2] 2)
  have hC12 : (Kd.int .i64).C (w2.drew.alloc (.cells #[.int .i64 1, .int .i64 2] 2)) (some ⟨w2.drew.heap.size, 0, none⟩) ([1, 2].map Int.ofNat).length ([1, 2].map Int.ofNat) := C_ints _ (by simp) (fun j x hj => by
    have h2 : j < 2 := (List.getElem?_eq_some_iff.1 hj).1
    obtain rfl | rfl : j = 0 ∨ j = 1 := by omega
    all_goals
      simp at hj
      subst hj
      first | exact blk_cell hb1 0 | exact blk_cell hb1 1)
  refine hK.out (fun u => True) _ _ ((hall.out _ hf1).1) (trivial) ?_
  clear hK K
  try simp only [Act.put, List.setIfInBounds_toArray, List.set_cons_zero, List.set_cons_succ]
  repeat (first
    | (refine plan_step (by rfl) ?_; apply Exists.intro; refine ⟨fun x hSx => ?_, ?_⟩; ((try dsimp only at hSx); go_simp; (try rw [if_neg (by omega)]); (try with_reducible rfl)); (simp only [Act.put, List.setIfInBounds_toArray, List.set_cons_zero, List.set_cons_succ]))
    | (refine plan_skip (by rfl) ?_; (simp only [Act.put, List.setIfInBounds_toArray, List.set_cons_zero, List.set_cons_succ])))
  refine plan_run (by rfl) (fun K hK => ?_)
  go_simp
  refine (words_x _ 2 2 [1, 2] (by decide) rfl (by decide) (by decide) (by rw [j12]; decide) _ hC12).mono ?_
  rintro e w3 ⟨rfl, hf3⟩
  have hf13 := hf1.trans' hf3
  rw [j12]
  dsimp only
  refine hK.out (fun u => True) _ _ (⟨(hall.out _ hf13).1, trivial⟩) (trivial) ?_
  clear hK K
  try simp only [Act.put, List.setIfInBounds_toArray, List.set_cons_zero, List.set_cons_succ]
  repeat (first
    | (refine plan_step (by rfl) ?_; apply Exists.intro; refine ⟨fun x hSx => ?_, ?_⟩; ((try dsimp only at hSx); go_simp; (try rw [if_neg (by omega)]); (try with_reducible rfl)); (simp only [Act.put, List.setIfInBounds_toArray, List.set_cons_zero, List.set_cons_succ]))
    | (refine plan_skip (by rfl) ?_; (simp only [Act.put, List.setIfInBounds_toArray, List.set_cons_zero, List.set_cons_succ])))
  refine plan_run (by rfl) (fun K hK => ?_)
  go_simp
  refine (words_x _ 6 6 [0, 0, 0, 0, 0, 0] (by decide) rfl (by decide) (by decide) (by rw [j6]; decide) _ (hall.out _ hf13).2.2.1).mono ?_
  rintro e w4 ⟨rfl, hf4⟩
  have hf14 := hf13.trans' hf4
  rw [j6]
  dsimp only
  refine hK.out (fun u => True) _ _ (⟨⟨(hall.out _ hf14).1, trivial⟩, trivial⟩) (trivial) ?_
  clear hK K
  try simp only [Act.put, List.setIfInBounds_toArray, List.set_cons_zero, List.set_cons_succ]
  repeat (first
    | (refine plan_step (by rfl) ?_; apply Exists.intro; refine ⟨fun x hSx => ?_, ?_⟩; ((try dsimp only at hSx); go_simp; (try rw [if_neg (by omega)]); (try with_reducible rfl)); (simp only [Act.put, List.setIfInBounds_toArray, List.set_cons_zero, List.set_cons_succ]))
    | (refine plan_skip (by rfl) ?_; (simp only [Act.put, List.setIfInBounds_toArray, List.set_cons_zero, List.set_cons_succ])))
  refine plan_run (by rfl) (fun K hK => ?_)
  go_simp
  (with_reducible refine (write_fresh (X + 1) (X + 1) _ _ (hall.out _ hf14).2.2.2 (by decide) (Nat.le_trans hxw hf14.size)).mono ?_)
  rintro e w5 ⟨rfl, hBu, hbl⟩
  have h8 : w5.cell? ⟨X, 8, none⟩ = some (.slice none 0 0) := (hbl.cell (p := ⟨X, 8, none⟩) hXb).trans (hall.out _ hf14).2.1
  have hf15 : Fr (fun k => X + 1 ≤ k) w4 w5 := ⟨hbl.os, hbl.tape, hbl.output, hbl.size, fun k hk hn => hbl.block k (by omega)⟩
  have hS5 : w5.cell? ⟨X, 0, none⟩ = some (.int .i64 1) ∧ w5.cell? ⟨X, 1, none⟩ = some (.int .i64 2) := ⟨(hbl.cell (p := ⟨X, 0, none⟩) hXb).trans (hall.out _ hf14).1.1, (hbl.cell (p := ⟨X, 1, none⟩) hXb).trans (hall.out _ hf14).1.2⟩
  have hsz := hbl.size
  dsimp only
  refine hK.out (fun u => True) _ _ (⟨⟨⟨hS5, trivial⟩, trivial⟩, trivial⟩) (trivial) ?_
  clear hK K
  try simp only [Act.put, List.setIfInBounds_toArray, List.set_cons_zero, List.set_cons_succ]
  repeat (first
    | (refine plan_step (by rfl) ?_; apply Exists.intro; refine ⟨fun x hSx => ?_, ?_⟩; ((try dsimp only at hSx); go_simp; (try rw [if_neg (by omega)]); (try with_reducible rfl)); (simp only [Act.put, List.setIfInBounds_toArray, List.set_cons_zero, List.set_cons_succ]))
    | (refine plan_skip (by rfl) ?_; (simp only [Act.put, List.setIfInBounds_toArray, List.set_cons_zero, List.set_cons_succ])))
  refine plan_done ?_
  go_wp2
  refine wp_loop_rounds 1 ?_
  rw [rounds_succ]
  go_wp2_with fail
  have hStr := Lib.hid (Tryd.Builder_String_any (X + 1) (X + 1) [49, 32, 50, 32, 48, 32, 48, 32, 48, 32, 48, 32, 48, 32, 48] w5 (.inr hBu) (Nat.le_trans (Nat.le_trans hxw hf14.size) hsz))
  (with_reducible refine (hStr.out).mono ?_)
  rintro e w6 ⟨rfl, hb6⟩
  have hf16 : Fr (fun k => X + 1 ≤ k) w5 w6 := ⟨hb6.os, hb6.tape, hb6.output, hb6.size, fun k hk hn => hb6.block k (by omega)⟩
  dsimp only
  go_wp2
  go_ret
  have hsn : ∀ k, X + 1 ≤ k → since w k := fun k hk => Nat.le_trans hfx.size (by have := HBE.out; omega)
  exact ⟨rfl, (((hfx.trans' hfb).trans' hf14).new hf15 hsn).new hf16 hsn⟩
end Go.Proofs.YtcbhddajkleleaaDoor.Msg
