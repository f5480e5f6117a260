import Derived.Test.YtdgeakojdafipaaDoorLegV
import Derived.Test.YtdgeakojdafipaaDoorSortLay
import Derived.Test.YtdgeakojdafipaaDoorShelf
import Derived.Sort.OwnSorted
/-! slices.SortFunc at legs. -/
set_option linter.unusedVariables false
set_option linter.unusedSimpArgs false
namespace Go.Proofs.YtdgeakojdafipaaDoor.Legs
open Go.RowKit Go.Sort Go.Proofs.YtdgeakojdafipaaDoorW.PrintWords Go.Proofs.YtdgeakojdafipaaDoor.B Go.Proofs.YtdgeakojdafipaaDoor.Num

theorem cells3 (x : Leg) : (kLeg_cells x).length = 3 := rfl
theorem cellsL_at : ∀ (l : List Leg) (t : Nat), t < l.length * 3 → (cellsL l)[t]? = some ((kLeg_cells (lg l (t / 3)))[t % 3]!)
  | [], t, h => by simp at h
  | x :: r, t, h => by
    have e : cellsL (x :: r) = kLeg_cells x ++ cellsL r := by simp [cellsL]
    rw [e]
    by_cases hj : t < 3
    · rw [List.getElem?_append_left (by rw [cells3]; exact hj)]
      have h0 : t / 3 = 0 := by omega
      have h1 : t % 3 = t := by omega
      rw [h0, h1]
      have : lg (x :: r) 0 = x := rfl
      rw [this, List.getElem?_eq_getElem (by rw [cells3]; exact hj), getElem!_pos _ t (by rw [cells3]; exact hj)]
    · rw [List.getElem?_append_right (by rw [cells3]; omega), cells3]
      have h2 : t / 3 = (t - 3) / 3 + 1 := by omega
      have h3 : t % 3 = (t - 3) % 3 := by omega
      rw [cellsL_at r (t - 3) (by simp at h; omega), h2, h3]
      rfl
theorem get_lg (l : List Leg) (i : Nat) (h : i < l.length) : l.toArray[i]! = lg l i := by
  rw [lg_lt h, getElem!_pos l.toArray i (by simpa using h)]
  rfl
theorem flat_cells (l : List Leg) : (flatK kLeg_cells 3 l.toArray).toList = cellsL l := by
  apply List.ext_getElem?
  intro t
  by_cases ht : t < l.length * 3
  · have hs : t < (flatK kLeg_cells 3 l.toArray).size := by rw [size_flatK]; simpa using ht
    rw [Array.getElem?_toList, Array.getElem?_eq_getElem hs, cellsL_at l t ht]
    have := get_flatK kLeg_cells 3 l.toArray t (by simpa using ht)
    rw [getElem!_pos _ t hs] at this
    rw [this, get_lg l _ (by omega)]
  · rw [List.getElem?_eq_none (by rw [Array.length_toList, size_flatK]; simpa using Nat.not_lt.1 ht), List.getElem?_eq_none (by rw [cellsL_len]; omega)]
theorem holds_R {w : World} {base g n cap : Nat} {ok : Nat → Prop} {l : List Leg} (h : kLeg.R 43 w base ok (.slice (some ⟨g, 0, none⟩) n cap) l) : HoldsK kLeg_cells 3 w g 0 l.toArray := by
  intro t ht
  have ht' : t < l.length * 3 := by simpa using ht
  rw [get_flatK kLeg_cells 3 l.toArray t (by simpa using ht'), get_lg l _ (by omega)]
  obtain ⟨c0, c1, c2, fz⟩ := lg_cells h (t / 3) (by omega)
  have hf := fz (t % 3)
  have e : (t / 3) * 3 + t % 3 = t := by omega
  rw [e] at hf
  refine ⟨?_, by rw [Nat.zero_add]; exact hf⟩
  rw [Nat.zero_add]
  have h3 : t % 3 = 0 ∨ t % 3 = 1 ∨ t % 3 = 2 := by omega
  rcases h3 with h3 | h3 | h3
  · rw [h3]; rw [show t = t / 3 * 3 by omega]
    rw [show t / 3 * 3 / 3 = t / 3 by omega]
    exact c0
  · rw [h3]; rw [show t = t / 3 * 3 + 1 by omega]
    rw [show (t / 3 * 3 + 1) / 3 = t / 3 by omega]
    exact c1
  · rw [h3]; rw [show t = t / 3 * 3 + 2 by omega]
    rw [show (t / 3 * 3 + 2) / 3 = t / 3 by omega]
    exact c2
theorem take_put (cur F : Array Value) (h : F.size ≤ cur.size) : (putCells id 0 F cur).toList.take F.size = F.toList := by
  apply List.ext_getElem?
  intro j
  by_cases hj : j < F.size
  · rw [List.getElem?_take_of_lt hj, Array.getElem?_toList, Array.getElem?_toList]
    simp [putCells, hj, show j < cur.size by omega]
  · rw [List.getElem?_take_eq_none (by omega), List.getElem?_eq_none (by simp; omega)]
/-- Behind the sort the same slice owns the sorted legs. -/
theorem R_sorted {w : World} {base g n c k : Nat} {ok : Nat → Prop} {l m : List Leg} {os : Array Obj} (h : kLeg.R 43 w base ok (.slice (some ⟨g, 0, none⟩) n c) l) (hm : m.length = l.length) :
    kLeg.R 43 (sortWorldK kLeg_cells 3 w g 0 k m.toArray os) base ok (.slice (some ⟨g, 0, none⟩) n c) m ∧ Fr (one g) w (sortWorldK kLeg_cells 3 w g 0 k m.toArray os) := by
  obtain ⟨h0, inner, ho, hr⟩ := h
  obtain ⟨hil, ho2⟩ := ho
  rcases ho2 with ⟨hv, _⟩ | ⟨g', cap, cur, hv, hbase, hb, h1, h2, h3, h4⟩
  · cases hv
  · injection hv with e1 e2 e3
    injection e1 with e1
    injection e1 with e1
    subst e1 e2 e3
    have hg : g < w.heap.size := (Array.getElem?_eq_some_iff.1 hb).1
    have hblk : (sortWorldK kLeg_cells 3 w g 0 k m.toArray os).heap[g]? = some (.cells (putCells id 0 (flatK kLeg_cells 3 m.toArray) cur) 43 (0, 0)) := by
      unfold sortWorldK
      rw [heap_grow_old _ _ (by simpa [putRowK] using hg)]
      simp [putRowK, putRow, mapBlock, Sort.ahead, Array.getElem?_modify, hb, onCells]
    have hfs : (flatK kLeg_cells 3 m.toArray).size = l.length * 3 := by rw [size_flatK]; simp [hm]
    have hsz : cur.size = c * 3 := h3
    refine ⟨⟨h0, cellsL m, ⟨by rw [cellsL_len]; rfl, .inr ⟨g, c, _, by rw [hm], hbase, hblk, by rw [hm]; exact h1, h2, by simp [putCells]; exact hsz, ?_⟩⟩, reps_cells _ (fun x => kLeg_mkM _ _ _ x) m⟩, ⟨rfl, rfl, rfl, by simp [sortWorldK, putRowK], fun j hj hn => ?_⟩⟩
    · show (putCells id 0 (flatK kLeg_cells 3 m.toArray) cur).toList.take (m.length * 3) = cellsL m
      rw [hm, ← hfs, take_put cur _ (by rw [hfs, hsz]; omega), flat_cells]
    · unfold sortWorldK
      rw [heap_grow_old _ _ (by simpa [putRowK] using hj)]
      have : g ≠ j := fun e => hn (by rw [← e]; rfl)
      simp [putRowK, putRow, mapBlock, Sort.ahead, Array.getElem?_modify, this]
theorem compare_c (x y : Int) (w : World) : Calls Tryd.prog 31 #[.int .i64 x, .int .i64 y] w fun e w' => e = .returned (.int .i64 (Lib.compareInt x y)) ∧ w' = w := Tryd.cmp_Compare_int x y w
set_option maxHeartbeats 1000000 in
theorem cmp1_c (x y : Leg) (W : World) : Calls Tryd.prog 30 #[.agg (kLeg_cells x).toArray, .agg (kLeg_cells y).toArray] W fun e w' => e = .returned (.int .i64 (cf x y)) ∧ ∃ q os', w' = grow (W.drewN q) os' := by
  have hcon := fun W' => compare_c x.Series y.Series W'
  unfold cf
  generalize Lib.compareInt x.Series y.Series = r at hcon ⊢
  show Calls Tryd.prog 30 #[.agg #[.int .i64 x.Series, .int .i64 x.Sign, .int .i64 x.Ratio], .agg #[.int .i64 y.Series, .int .i64 y.Sign, .int .i64 y.Ratio]] W _
  go_enter Tryd.func30, Tryd.ntmps30
  go_wp2_with (go_at_call 31; refine (hcon _).mono ?_; rintro e w' ⟨rfl, rfl⟩)
  go_ret
  exact ⟨rfl, 0, _, by rw [alloc_eq_grow, alloc_eq_grow, grow_grow]; rfl⟩
theorem srt_length (l : List Leg) : (srt l).length = l.length := by
  obtain ⟨⟨h1, _, _⟩, _⟩ := insertionSort_holds swo_cf l.toArray 0 l.toArray.size (Nat.zero_le _) (Nat.le_refl _)
  show (insertionSort (ltOf cf) l.toArray 0 l.toArray.size).size = _
  rw [h1]; simp
theorem sort_c (g c cap : Nat) (base : Nat) (ok : Nat → Prop) (l : List Leg) (w : World) (hR : kLeg.R 43 w base ok (.slice (some ⟨g, 0, none⟩) l.length c) l) (hl : l.length ≤ 12) :
    Calls Tryd.prog 29 #[.slice (some ⟨g, 0, none⟩) l.length cap, .func (.func 30) #[] #[]] w fun e w' =>
      e = .returned (.tuple #[]) ∧ kLeg.R 43 w' base ok (.slice (some ⟨g, 0, none⟩) l.length c) (srt l) ∧ Fr (one g) w w' := by
  have eg : ∀ args w, (callFunc 30 args).run Tryd.prog w = .ok (.enter 30 args) w := enters_of Tryd.func30 (by kernel_rfl) rfl
  have hg : g < w.heap.size := by
    obtain ⟨_, inner, ho, _⟩ := hR
    exact own_lt ho g rfl
  have h := AnyQ.slices_SortFunc_small Tryd.sortLeg 3 Tryd.isAgg43 Tryd.sizeOf43 kLeg_cells cells3
    (fun x v hv => by simp [kLeg_cells] at hv; rcases hv with rfl | rfl | rfl <;> rfl) cf 30 #[] g 0 cap l.toArray w eg
    (fun _ _ _ _ x y => cmp1_c x y _) (holds_R hR) hg (by simpa using hl)
    (fun n W h => (Tryd.bits_Len n W (by omega) (by omega)).mono fun _ _ ⟨he, hw⟩ => ⟨⟨_, he⟩, hw⟩)
  have e1 : l.toArray.size = l.length := by simp
  change Calls Tryd.prog 29 _ _ _ at h
  refine h.mono ?_
  rintro e w' ⟨rfl, n, os, rfl⟩
  have h2 := R_sorted (k := n) (os := os) hR (srt_length l)
  have e2 : (srt l).toArray = insertionSort (ltOf cf) l.toArray 0 l.toArray.size := by simp [srt]
  rw [e2] at h2
  exact ⟨rfl, h2⟩
end Go.Proofs.YtdgeakojdafipaaDoor.Legs
