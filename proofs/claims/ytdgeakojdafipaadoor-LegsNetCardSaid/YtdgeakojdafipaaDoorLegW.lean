import Derived.Test.YtdgeakojdafipaaDoorLegY
/-! The law's own check of legs. -/
set_option linter.unusedVariables false
set_option linter.unusedSimpArgs false
namespace Go.Proofs.YtdgeakojdafipaaDoor.Legs
open Go.RowKit Go.Proofs.YtdgeakojdafipaaDoorW.PrintWords Go.Proofs.YtdgeakojdafipaaDoor.B Go.Proofs.YtdgeakojdafipaaDoor.Num

def kn0 : List Leg := [⟨5, 1, 2⟩, ⟨3, -1, 4⟩]
def kn1 : List Leg := [⟨3, 1, 2⟩, ⟨5, -1, 1⟩]
theorem kn0_good : Good kn0 where
  lo := by decide
  hi := by decide
  ok := by intro x hx; simp [kn0] at hx; rcases hx with rfl | rfl <;> rfl
  nd := by simp [kn0]
theorem kn0_srt : srt kn0 = [⟨3, -1, 4⟩, ⟨5, 1, 2⟩] := srt_eq kn0_good.nd (List.Perm.swap _ _ _) (by simp)
theorem kn0_g : allG [⟨3, -1, 4⟩, ⟨5, 1, 2⟩] = 2 := by kernel_rfl
theorem kn0_canon : canonF kn0 = (kn1, true) := by
  rw [canon_base]
  unfold base
  rw [kn0_srt, kn0_g]
  kernel_rfl
theorem kn1_good : Good kn1 := by have := good_canon kn0_good; rwa [kn0_canon] at this
theorem kn1_net : netF kn1 [10, 3] = (17, 0) := by
  unfold netF
  rw [if_pos ⟨good_iff.2 kn1_good, rfl⟩]
  rfl
theorem kn1_txt : txt kn1 = [43, 50, 42, 51, 32, 45, 49, 42, 53] := by
  have h1 : Lib.itoa 1 = [49] := by rw [show (1 : Int) = ((1 : Nat) : Int) from rfl, itoa_nat, Lib.decDigits]; rfl
  have h2 : Lib.itoa 2 = [50] := by rw [show (2 : Int) = ((2 : Nat) : Int) from rfl, itoa_nat, Lib.decDigits]; rfl
  have h3 : Lib.itoa 3 = [51] := by rw [show (3 : Int) = ((3 : Nat) : Int) from rfl, itoa_nat, Lib.decDigits]; rfl
  have h5 : Lib.itoa 5 = [53] := by rw [show (5 : Int) = ((5 : Nat) : Int) from rfl, itoa_nat, Lib.decDigits]; rfl
  simp only [txt, kn1, List.map_cons, List.map_nil, legT, numB, h1, h2, h3, h5]
  rfl
theorem numB_small (i : Nat) (hi : i < 100) : (numB (i : Int)).size ≤ 30 := by
  show ((Lib.itoa (i : Int)).toArray).size ≤ 30
  rw [itoa_nat]
  by_cases h : i < 10
  · rw [Lib.decDigits, dif_pos h]; simp
  · rw [Lib.decDigits, dif_neg h, Lib.decDigits, dif_pos (by omega)]; simp
theorem kn_pr (k : Nat) (hk : k < ([10, 3] : List Int).length) : -9223372036854775808 ≤ pr [10, 3] k ∧ pr [10, 3] k ≤ 9223372036854775807 := by
  have : k = 0 ∨ k = 1 := by simp at hk; omega
  rcases this with rfl | rfl <;> decide
theorem kn0_take : wrong (kn0.take 1) = some (1, 1) := rfl
set_option maxRecDepth 100000 in
set_option maxHeartbeats 4000000 in
theorem known_c (w : World) : Calls Tryd.prog 8 #[] w fun e w' => e = .returned (.bool true) ∧ Fr no w w' := by
  have hX := blk_new w (.cells #[.int .i64 5, .int .i64 1, .int .i64 2, .int .i64 3, .int .i64 (-1), .int .i64 4] 43)
  have hfa := (Fr.refl no w).alloc (.cells #[.int .i64 5, .int .i64 1, .int .i64 2, .int .i64 3, .int .i64 (-1), .int .i64 4] 43)
  go_enter Tryd.func8, Tryd.ntmps8
  go_wp2_with fail
  generalize w.alloc _ = w1 at *
  generalize w.heap.size = X at *
  have hC0 : kLeg.C w1 (some ⟨X, 0, none⟩) kn0.length kn0 := C_blk hX kn0 (by decide) (by decide) (reps_cells _ (fun x => kLeg_mk _ x) kn0)
  have HC0 := Lib.hid hC0
  clear hX hC0
  have h1 := canon_yes (some ⟨X, 0, none⟩) 2 kn0 w1 HC0.out (by decide) kn0_good
  rw [kn0_canon] at h1
  refine h1.mono ?_
  clear h1
  rintro e w2 ⟨⟨v, rfl, hv⟩, hf2⟩
  have hfb := hfa.trans' hf2
  obtain ⟨A, c, rfl, hcc, hRv⟩ := hv
  have HRV := Lib.hid hRv
  have HFB := Lib.hid hfb
  clear hfa hfb hRv
  dsimp only
  go_wp2_with fail
  have hY := blk_new w2 (.cells #[.int .i64 10, .int .i64 3] 2)
  have hfy := HFB.out.alloc (.cells #[.int .i64 10, .int .i64 3] 2)
  have hR3 := R_fr HRV.out ((Fr.refl no w2).alloc (.cells #[.int .i64 10, .int .i64 3] 2)) (fun _ _ h => h)
  have hCy : (Kd.int .i64).C (w2.alloc (.cells #[.int .i64 10, .int .i64 3] 2)) (some ⟨w2.heap.size, 0, none⟩) 2 [10, 3] := C_blk hY [10, 3] (by decide) (by decide) (Kd.reps_scalar (enc := Value.int .i64) [10, 3])
  have h1 := net_c A kn1.length kn1 (some ⟨w2.heap.size, 0, none⟩) 2 [10, 3] _ (Kd.R_reads' hR3).2.2 (Nat.le_refl _) hCy (by decide) kn_pr
  rw [kn1_net] at h1
  refine h1.mono ?_
  clear h1
  rintro e w3 ⟨he, hf3⟩
  unfold NetOf at he
  subst he
  have hf3' := hfy.trans' hf3
  have hR4 := R_fr hR3 hf3 (fun _ _ h => h)
  have hf13 : Fr no w1 w3 := hf2.trans' (((Fr.refl no w2).alloc _).trans' hf3)
  have HR4 := Lib.hid hR4
  have HF4 := Lib.hid hf3'
  have HF13 := Lib.hid hf13
  clear hY hfy hR3 hCy hf3 hR4 hf3' hf13 HFB HRV hf2
  dsimp only
  go_wp2_with fail
  have h1 := canon_no (some ⟨X, 0, none⟩) 2 (kn0.take 1) w3 (C_take (C_fr HC0.out HF13.out) 1 (by decide)) (by decide) 1 1 kn0_take
  refine h1.mono ?_
  clear h1
  rintro e w4 ⟨⟨F, rfl, hF⟩, hf4⟩
  clear hF
  have hR5 := R_fr HR4.out hf4 (fun _ _ h => h)
  have HR5 := Lib.hid hR5
  have HF5 := Lib.hid (HF4.out.trans' hf4)
  have HF14 := Lib.hid (HF13.out.trans' hf4)
  clear hR5 HR4 HF4 HF13 hf4
  obtain ⟨g, cm, hgv, _, _, _⟩ := Kd.R_form HR5.out (by decide)
  injection hgv with hA _ _
  subst hA
  obtain ⟨c0, c1, c2, _⟩ := lg_cells HR5.out 0 (by decide)
  have k0 : w4.cell? ⟨g, 0, none⟩ = some (.int .i64 3) := c0
  have k1 : w4.cell? ⟨g, 1, none⟩ = some (.int .i64 1) := c1
  have k2 : w4.cell? ⟨g, 2, none⟩ = some (.int .i64 2) := c2
  clear c0 c1 c2
  dsimp only
  have hlen : kn1.length = 2 := rfl
  rw [hlen]
  clear hlen
  go_wp2_with fail
  have hRC := (Kd.R_reads' HR5.out).2.2
  have h1 := text_c (some ⟨g, 0, none⟩) 2 kn1 w4 hRC (by decide) (by decide) (fun x hx => by
    simp [kn1] at hx
    rcases hx with rfl | rfl
    · exact ⟨⟨tx_small _ _ 2 rfl (by decide), tx_small _ _ 3 rfl (by decide)⟩, numB_small 2 (by decide), numB_small 3 (by decide)⟩
    · exact ⟨⟨tx_small _ _ 1 rfl (by decide), tx_small _ _ 5 rfl (by decide)⟩, numB_small 1 (by decide), numB_small 5 (by decide)⟩) (by rw [kn1_txt]; decide)
  rw [kn1_txt] at h1
  refine h1.mono ?_
  clear h1 hRC
  rintro e w5 ⟨rfl, hf5⟩
  dsimp only
  go_wp2_with fail
  have HR6 := Lib.hid (R_fr HR5.out hf5 (fun _ _ h => h))
  have HF6 := Lib.hid (HF5.out.trans' hf5)
  have HF16 := Lib.hid (HF14.out.trans' hf5)
  clear HR5 HF5 HF14 hf5 k0 k1 k2
  have h1 := turned_c (some ⟨g, 0, none⟩) 2 kn1 w5 (Kd.R_reads' HR6.out).2.2 (by decide) (by decide)
  refine h1.mono ?_
  clear h1
  rintro e w6 ⟨⟨v, rfl, hv⟩, hf6⟩
  obtain ⟨A1, rfl, hC1⟩ := hv.reads
  have htl : (turnL kn1).length = 2 := rfl
  rw [htl] at hC1 ⊢
  clear hv
  dsimp only
  go_wp2_with fail
  have h1 := turned_c A1 2 (turnL kn1) w6 hC1 (by decide) (by decide)
  rw [htl] at h1
  refine h1.mono ?_
  clear h1
  rintro e w7 ⟨⟨v, rfl, hv⟩, hf7⟩
  rw [turnL_turnL kn1_good.ok] at hv
  obtain ⟨A2, rfl, hC2⟩ := hv.reads
  have hkl : kn1.length = 2 := rfl
  clear hv hC1
  dsimp only
  rw [hkl]
  go_wp2_with fail
  have HR8 := R_fr HR6.out (hf6.trans' hf7) (fun _ _ h => h)
  have h1 := same_c A2 (some ⟨g, 0, none⟩) 2 2 kn1 kn1 rfl (by decide) w7 hC2 (Kd.R_reads' HR8).2.2 (by decide) (by decide)
  refine h1.mono ?_
  clear h1
  rintro e w8 ⟨rfl, hf8⟩
  dsimp only
  go_wp2_with fail
  have HF8 := Lib.hid (HF6.out.trans' ((hf6.trans' hf7).trans' hf8))
  have h1 := check_c (some ⟨X, 0, none⟩) 2 kn0 w8 (C_fr HC0.out (HF16.out.trans' ((hf6.trans' hf7).trans' hf8))) (by decide)
  refine h1.mono ?_
  clear h1 HR8 hC2 hf8 hf7 hf6
  rintro e w9 ⟨⟨v, rfl, hA⟩, hf9⟩
  obtain rfl := hA.1 (good_iff.2 kn0_good)
  clear hA
  dsimp only
  go_wp2
  go_ret
  exact ⟨rfl, HF8.out.trans' hf9⟩
end Go.Proofs.YtdgeakojdafipaaDoor.Legs
