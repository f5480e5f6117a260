import Derived.Test.YtdkkdoadafhfmaaDoorCrcD
import Derived.Lib.SlBytesConst
/-! The law's own check of package crc. -/
set_option linter.unusedVariables false
set_option linter.unusedSimpArgs false
namespace Go.Proofs.YtdkkdoadafhfmaaDoor.Crc
open Go.RowKit Go.Proofs.YtdkkdoadafhfmaaDoorW.PrintWords Go.Proofs.YtdkkdoadafhfmaaDoor.B Go.Proofs.YtdkkdoadafhfmaaDoor.Err

theorem sum_k : sumF 0 [[49, 50, 51, 52], [53, 54, 55, 56, 57]] = 3421780262 := by kernel_rfl
theorem sum_k2 : addF (sumF 0 [[49, 50, 51, 52]]) [53, 54, 55, 56, 57] = 3421780262 := by kernel_rfl
theorem by1 : Bytes [[120]] := fun p hp => by
  simp only [List.mem_singleton] at hp
  subst hp
  exact ⟨by simp, fun x hx => by simp only [List.mem_singleton] at hx; omega⟩
theorem by2 : Bytes [[49, 50, 51, 52], [53, 54, 55, 56, 57]] := fun p hp => by
  simp only [List.mem_cons, List.not_mem_nil, or_false] at hp
  rcases hp with rfl | rfl
  · exact ⟨by simp, fun x hx => by simp only [List.mem_cons, List.not_mem_nil, or_false] at hx; omega⟩
  · exact ⟨by simp, fun x hx => by simp only [List.mem_cons, List.not_mem_nil, or_false] at hx; omega⟩
theorem cU8 (w : World) (g : Nat) (xs : List Int) (fr : Nat × Nat) (h : w.heap[g]? = some (.cells (xs.map fun x => Value.int .u8 x).toArray 5 fr)) (hm : xs.length ≤ 9223372036854775807) : (Kd.int .u8).C w (some ⟨g, 0, none⟩) xs.length xs := by
  refine C_blk (d := Kd.int .u8) h xs (show 0 < 1 by decide) hm ⟨by simp [show (Kd.int .u8).sz = 1 from rfl], fun j p hj => ?_⟩
  show _ = _
  rw [show (Kd.int .u8).sz = 1 from rfl]
  simp only [Nat.mul_one]
  rw [List.drop_eq_getElem_cons (by simpa using (List.getElem?_eq_some_iff.1 hj).1)]
  obtain ⟨h1, h2⟩ := List.getElem?_eq_some_iff.1 hj
  subst h2
  simp
theorem cv_at (W : World) (C : Array Value) (n c k m : Nat) (hk : W.heap.size = k) (hm : C.size = m) : (convert 22 22 (.slice (some ⟨k, 0, none⟩) n c)).run Tryd.prog (W.alloc (.cells C 5)) = .ok (.slice (some ⟨k, 0, none⟩) n c) (W.alloc (.cells C 5 (m, m + 1))) := by
  subst hk hm
  exact Lib.run_convert_bytes_const (P := Tryd.prog) W 22 5 C n c Tryd.underlying22 Tryd.underlying5
theorem sz_alloc (w : World) (o : Obj) : (w.alloc o).heap.size = w.heap.size + 1 := by simp
set_option maxRecDepth 100000 in
set_option maxHeartbeats 4000000 in
theorem known_c (w : World) (hg : ErrType w) : Calls Tryd.prog 11 #[] w fun e w' => e = .returned (.bool true) ∧ Fr no w w' := by
  have HG := Lib.hid hg
  clear hg
  have cv := fun (W : World) (C : Array Value) (n c : Nat) => Lib.run_convert_bytes_const (P := Tryd.prog) W 22 5 C n c Tryd.underlying22 Tryd.underlying5
  go_enter Tryd.func11, Tryd.ntmps11
  go_wp2_with fail
  have hC := cU8 (w.alloc (.cells #[.int .u8 120] 5 (1, 2))) w.heap.size [120] (1, 2) (heap_alloc_new w _) (by decide)
  have hf := (Fr.refl no w).alloc (.cells #[.int .u8 120] 5 (1, 2))
  refine (seal_c _ 1 [120] by1 (by simp) _ hC).mono ?_
  rintro e w1 ⟨⟨A1, c1, rfl, hR⟩, hf1⟩
  replace hf := hf.trans' hf1
  have hC1 := (Kd.R_reads' hR).2.2
  have hcap := R_cap hR
  clear hC hf1 hR
  dsimp only
  go_wp2_with fail
  refine (open_yes A1 c1 [120] (le4 (addF 0 [120])) rfl by1 (le4_bytes (addF_lt _ _)) hcap.1 hcap.2 w1 hC1 rfl).mono ?_
  rintro e w2 ⟨⟨A2, rfl, hC2⟩, hf1⟩
  replace hf := hf.trans' hf1
  clear hC1 hcap hf1
  dsimp only
  go_wp2_with fail
  replace hf := hf.alloc (.cells #[.int .u8 97, .int .u8 98, .int .u8 99] 5 (3, 4))
  replace hC2 := C_fr hC2 ((Fr.refl no w2).alloc (.cells #[.int .u8 97, .int .u8 98, .int .u8 99] 5 (3, 4)))
  refine (open_short _ 3 3 (by decide) _).mono ?_
  rintro e w3 ⟨⟨F, rfl, hFl, hF⟩, hf1⟩
  replace hf := hf.trans' hf1
  replace hC2 := C_fr hC2 hf1
  have hw3 := hf.size
  clear hf1 hFl
  dsimp only
  have k1 := cv_at (w3.alloc (.cells #[.pointer none] 100)) #[.int .u8 49, .int .u8 50, .int .u8 51, .int .u8 52] 4 4 (w3.heap.size + 1) 4 (by simp) rfl
  have k2 := cv_at ((w3.alloc (.cells #[.pointer none] 100)).alloc (.cells #[.int .u8 49, .int .u8 50, .int .u8 51, .int .u8 52] 5 (4, 5))) #[.int .u8 53, .int .u8 54, .int .u8 55, .int .u8 56, .int .u8 57] 5 5 (w3.heap.size + 1 + 1) 5 (by simp) rfl
  have hY := blk_new w3 (.cells #[.pointer none] 100)
  have hfa := (Fr.refl no w3).alloc (.cells #[.pointer none] 100)
  have hX4 := blk_new (w3.alloc (.cells #[.pointer none] 100)) (.cells #[.int .u8 49, .int .u8 50, .int .u8 51, .int .u8 52] 5 (4, 5))
  rw [sz_alloc] at hX4
  have hfb := (Fr.refl no (w3.alloc (.cells #[.pointer none] 100))).alloc (.cells #[.int .u8 49, .int .u8 50, .int .u8 51, .int .u8 52] 5 (4, 5))
  have hX5 := blk_new ((w3.alloc (.cells #[.pointer none] 100)).alloc (.cells #[.int .u8 49, .int .u8 50, .int .u8 51, .int .u8 52] 5 (4, 5))) (.cells #[.int .u8 53, .int .u8 54, .int .u8 55, .int .u8 56, .int .u8 57] 5 (5, 6))
  rw [sz_alloc, sz_alloc] at hX5
  have hfc := (Fr.refl no ((w3.alloc (.cells #[.pointer none] 100)).alloc (.cells #[.int .u8 49, .int .u8 50, .int .u8 51, .int .u8 52] 5 (4, 5)))).alloc (.cells #[.int .u8 53, .int .u8 54, .int .u8 55, .int .u8 56, .int .u8 57] 5 (5, 6))
  have hsz : (((w3.alloc (.cells #[.pointer none] 100)).alloc (.cells #[.int .u8 49, .int .u8 50, .int .u8 51, .int .u8 52] 5 (4, 5))).alloc (.cells #[.int .u8 53, .int .u8 54, .int .u8 55, .int .u8 56, .int .u8 57] 5 (5, 6))).heap.size = w3.heap.size + 1 + 1 + 1 := by rw [sz_alloc, sz_alloc, sz_alloc]
  have hgap := hfb.trans' hfc
  replace hY := hgap.heap hY (fun h => h)
  replace hX4 := hfc.heap hX4 (fun h => h)
  have hall := hfa.trans' hgap
  replace hF := hall.heap hF (fun h => h)
  replace hC2 := C_fr hC2 hall
  replace hf := hf.trans' hall
  clear hfa hfb hfc hgap hall cv
  go_wp2_with fail
  clear k1 k2
  generalize ((w3.alloc _).alloc _).alloc _ = w5 at *
  have hNF : w3.heap.size < w5.heap.size := by omega
  have hC4 := cU8 w5 _ [49, 50, 51, 52] (4, 5) hX4 (by decide)
  have hC5 := cU8 w5 _ [53, 54, 55, 56, 57] (5, 6) hX5 (by decide)
  have hS := blk_new w5 (.cells #[.slice (some ⟨w3.heap.size + 1, 0, none⟩) 4 4, .slice (some ⟨w3.heap.size + 1 + 1, 0, none⟩) 5 5] 22)
  rw [hsz] at hS
  have hfs := (Fr.refl no w5).alloc (.cells #[.slice (some ⟨w3.heap.size + 1, 0, none⟩) 4 4, .slice (some ⟨w3.heap.size + 1 + 1, 0, none⟩) 5 5] 22)
  have hCS : kB.C (w5.alloc (.cells #[.slice (some ⟨w3.heap.size + 1, 0, none⟩) 4 4, .slice (some ⟨w3.heap.size + 1 + 1, 0, none⟩) 5 5] 22)) (some ⟨w3.heap.size + 1 + 1 + 1, 0, none⟩) [[49, 50, 51, 52], [53, 54, 55, 56, 57]].length [[49, 50, 51, 52], [53, 54, 55, 56, 57]] :=
    C_blk (d := kB) hS _ (show 0 < 1 by decide) (show 2 ≤ 9223372036854775807 by decide) (((Reps.none _ _).snoc (p := [49, 50, 51, 52]) (show kB.K _ _ [.slice (some ⟨w3.heap.size + 1, 0, none⟩) 4 4] from ⟨_, 4, rfl, by simp, C_fr hC4 hfs⟩) rfl).snoc (p := [53, 54, 55, 56, 57]) (show kB.K _ _ [.slice (some ⟨w3.heap.size + 1 + 1, 0, none⟩) 5 5] from ⟨_, 5, rfl, by simp, C_fr hC5 hfs⟩) rfl)
  refine (sum_c _ 2 _ (by simp) by2 _ hCS).mono ?_
  rintro e w6 ⟨rfl, rfl⟩
  rw [sum_k]
  replace hF := hfs.heap hF (fun h => h)
  replace hY := hfs.heap hY (fun h => h)
  replace hC2 := C_fr hC2 hfs
  replace hf := hf.trans' hfs
  clear hCS hS hfs hC4 hC5 hX4 hX5 hsz
  generalize w5.alloc _ = w6 at *
  have k3 := cv_at w6 #[.int .u8 49, .int .u8 50, .int .u8 51, .int .u8 52] 4 4 w6.heap.size 4 rfl rfl
  dsimp only
  go_wp2_with fail
  clear k3
  have hX4 := blk_new w6 (.cells #[.int .u8 49, .int .u8 50, .int .u8 51, .int .u8 52] 5 (4, 5))
  have hf7 := (Fr.refl no w6).alloc (.cells #[.int .u8 49, .int .u8 50, .int .u8 51, .int .u8 52] 5 (4, 5))
  have hsz := sz_alloc w6 (.cells #[.int .u8 49, .int .u8 50, .int .u8 51, .int .u8 52] 5 (4, 5))
  replace hF := hf7.heap hF (fun h => h)
  replace hY := hf7.heap hY (fun h => h)
  replace hC2 := C_fr hC2 hf7
  replace hf := hf.trans' hf7
  clear hf7
  generalize w6.alloc _ = w7 at *
  have hC4 := cU8 w7 _ [49, 50, 51, 52] (4, 5) hX4 (by decide)
  have hS := blk_new w7 (.cells #[.slice (some ⟨w6.heap.size, 0, none⟩) 4 4] 22)
  rw [hsz] at hS
  have hfs := (Fr.refl no w7).alloc (.cells #[.slice (some ⟨w6.heap.size, 0, none⟩) 4 4] 22)
  have hCS : kB.C (w7.alloc (.cells #[.slice (some ⟨w6.heap.size, 0, none⟩) 4 4] 22)) (some ⟨w6.heap.size + 1, 0, none⟩) [[49, 50, 51, 52]].length [[49, 50, 51, 52]] :=
    C_blk (d := kB) hS _ (show 0 < 1 by decide) (show 1 ≤ 9223372036854775807 by decide) ((Reps.none _ _).snoc (p := [49, 50, 51, 52]) (show kB.K _ _ [.slice (some ⟨w6.heap.size, 0, none⟩) 4 4] from ⟨_, 4, rfl, by simp, C_fr hC4 hfs⟩) rfl)
  refine (sum_c _ 1 _ (by simp) (fun p hp => by2 p (by simp only [List.mem_singleton] at hp; subst hp; simp)) _ hCS).mono ?_
  rintro e w8 ⟨rfl, rfl⟩
  replace hF := hfs.heap hF (fun h => h)
  replace hY := hfs.heap hY (fun h => h)
  replace hC2 := C_fr hC2 hfs
  replace hf := hf.trans' hfs
  clear hCS hS hfs hC4 hX4 hsz
  generalize w7.alloc _ = w8 at *
  have hsk := sum_k2
  have hsl : sumF 0 [[49, 50, 51, 52]] < 4294967296 := addF_lt _ _
  generalize sumF 0 [[49, 50, 51, 52]] = s at *
  have k4 := cv_at w8 #[.int .u8 53, .int .u8 54, .int .u8 55, .int .u8 56, .int .u8 57] 5 5 w8.heap.size 5 rfl rfl
  have HSK := Lib.hid hsk
  clear hsk
  dsimp only
  go_wp2_with fail
  clear k4
  have hC5 := cU8 (w8.alloc (.cells #[.int .u8 53, .int .u8 54, .int .u8 55, .int .u8 56, .int .u8 57] 5 (5, 6))) _ [53, 54, 55, 56, 57] (5, 6) (blk_new w8 _) (by decide)
  have hf9 := (Fr.refl no w8).alloc (.cells #[.int .u8 53, .int .u8 54, .int .u8 55, .int .u8 56, .int .u8 57] 5 (5, 6))
  refine (add_c s hsl _ 5 [53, 54, 55, 56, 57] (by decide) (fun x hx => (by2 [53, 54, 55, 56, 57] (by simp)).2 x hx) _ hC5).mono ?_
  rintro e w9 ⟨rfl, rfl⟩
  rw [HSK.out]
  replace hF := hf9.heap hF (fun h => h)
  replace hY := hf9.heap hY (fun h => h)
  replace hC2 := C_fr hC2 hf9
  replace hf := hf.trans' hf9
  clear hC5 hf9
  generalize w8.alloc _ = w9 at *
  have c2 := Kd.C_string (P := Tryd.prog) (src := 22) (dst := 9) (c := 1) Tryd.underlying22 Tryd.underlying5 Tryd.underlying9 hC2
  rw [show strOfNums [120] = ⟨#[120]⟩ by rfl] at c2
  have c2' : (convert 22 9 (.slice A2 1 1)).run Tryd.prog w9 = .ok (.string ⟨#[120]⟩) w9 := c2
  clear c2
  dsimp only
  go_wp2_with fail
  clear c2'
  refine (is_c F 3 3 _ (blk_cell hF 2)).mono ?_
  rintro e w10 ⟨rfl, rfl⟩
  rw [show ((3 : Int) == 3) = true by decide]
  dsimp only
  go_wp2_with fail
  refine (as_c F _ _ (HG.out.fr hf (fun h => h)) hY).mono ?_
  rintro e w11 ⟨rfl, hY2, hf11⟩
  have hF2 := hf11.heap hF (fun h : F = w3.heap.size => blk_ne hF hY (by decide) h)
  have hfin : Fr no w w11 := hf.new hf11 (fun k hk => by have h1 : k = w3.heap.size := hk; subst h1; exact hw3)
  have y0 : w11.cell? ⟨w3.heap.size, 0, none⟩ = some (.pointer (some ⟨F, 0, none⟩)) := blk_cell hY2 0
  have f0 : w11.cell? ⟨F, 0, none⟩ = some (.string ⟨#[115, 117, 109]⟩) := blk_cell hF2 0
  have f1 : w11.cell? ⟨F, 1, none⟩ = some (.int .i64 3) := blk_cell hF2 1
  clear hF hY hC2 hf hY2 hf11 hF2
  dsimp only
  go_wp2
  go_ret
  exact ⟨rfl, hfin⟩
end Go.Proofs.YtdkkdoadafhfmaaDoor.Crc
