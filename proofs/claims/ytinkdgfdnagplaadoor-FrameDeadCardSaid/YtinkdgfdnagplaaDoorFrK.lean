import Derived.Test.YtinkdgfdnagplaaDoorFrT
import Derived.Lib.SlBytesConst
/-! The law's own check of frames. -/
set_option linter.unusedVariables false
set_option linter.unusedSimpArgs false
namespace Go.Proofs.YtinkdgfdnagplaaDoor.Frame
open Go.RowKit Go.Proofs.YtinkdgfdnagplaaDoorW.PrintWords Go.Proofs.YtinkdgfdnagplaaDoor.B Go.Proofs.YtinkdgfdnagplaaDoor.Crc Go.Proofs.YtinkdgfdnagplaaDoor.Err

theorem cU8 (w : World) (g : Nat) (xs : List Int) (fr : Nat × Nat) (h : w.heap[g]? = some (.cells (xs.map fun x => Value.int .u8 x).toArray 5 fr)) (hm : xs.length ≤ 9223372036854775807) : (Kd.int .u8).C w (some ⟨g, 0, none⟩) xs.length xs := by
  refine C_blk (d := Kd.int .u8) h xs (show 0 < 1 by decide) hm ⟨by simp [show (Kd.int .u8).sz = 1 from rfl], fun j p hj => ?_⟩
  show _ = _
  rw [show (Kd.int .u8).sz = 1 from rfl]
  simp only [Nat.mul_one]
  rw [List.drop_eq_getElem_cons (by simpa using (List.getElem?_eq_some_iff.1 hj).1)]
  obtain ⟨h1, h2⟩ := List.getElem?_eq_some_iff.1 hj
  subst h2
  simp
def ab : List Int := [97, 98]
theorem ab1 : Bytes [ab] := fun p hp => by
  simp only [List.mem_singleton] at hp
  subst hp
  exact ⟨by decide, fun x hx => by simp only [ab, List.mem_cons, List.not_mem_nil, or_false] at hx; omega⟩
theorem fr_bytes {b : List Int} (hb : Bytes [b]) (hn : b.length ≤ 1024) : ∀ x ∈ fr b, 0 ≤ x ∧ x < 256 := fun x hx => by
  unfold fr at hx
  rcases List.mem_append.1 hx with h | h
  · simp only [hd2, List.mem_cons, List.not_mem_nil, or_false] at h
    rcases h with rfl | rfl <;> omega
  · rcases List.mem_append.1 h with h | h
    · exact (hb b (by simp)).2 x h
    · exact le4_bytes (addF_lt 0 b) x h
theorem by_of (p q : List Int) (hp : p.length ≤ 100000 ∧ ∀ x ∈ p, 0 ≤ x ∧ x < 256) (hq : q.length ≤ 100000 ∧ ∀ x ∈ q, 0 ≤ x ∧ x < 256) : Bytes [p, q] := fun y hy => by
  simp only [List.mem_cons, List.not_mem_nil, or_false] at hy
  rcases hy with rfl | rfl
  · exact hp
  · exact hq
theorem fr_bd {b : List Int} (hb : Bytes [b]) (hn : b.length ≤ 1024) : ∀ p, p <+: fr b ∨ p <:+ fr b → p.length ≤ 100000 ∧ ∀ x ∈ p, 0 ≤ x ∧ x < 256 := fun p hp => by
  have hs : p.Sublist (fr b) := by
    rcases hp with h | h
    · exact h.sublist
    · exact h.sublist
  have := hs.length_le
  rw [fr_len] at this
  exact ⟨by omega, fun x hx => fr_bytes hb hn x (hs.subset hx)⟩
theorem mk8 (m : Nat) (hm : m ≤ 1000000) : ∀ W : World, (Instr.makeSlice 24 (.int .i64 (m : Int)) (.int .i64 (m : Int))).run Tryd.prog W = .ok (.slice (some ⟨W.heap.size, 0, none⟩) m m) (W.alloc (.cells (madeCells #[.int .u8 0] m) 5)) :=
  print_make 24 5 .u8 1 Tryd.underlying24 info8 (by decide) m (by omega)
set_option maxRecDepth 100000 in
set_option maxHeartbeats 8000000 in
theorem known_c (w : World) : Calls Tryd.prog 6 #[] w fun e w' => e = .returned (.bool true) ∧ Fr no w w' := by
  have cv := fun (W : World) (C : Array Value) (n c : Nat) => Lib.run_convert_bytes_const (P := Tryd.prog) W 24 5 C n c Tryd.underlying24 Tryd.underlying5
  go_enter Tryd.func6, Tryd.ntmps6
  go_wp2_with fail
  have hC := cU8 (w.alloc (.cells #[.int .u8 97, .int .u8 98] 5 (2, 3))) w.heap.size ab (2, 3) (heap_alloc_new w _) (by decide)
  have hf := (Fr.refl no w).alloc (.cells #[.int .u8 97, .int .u8 98] 5 (2, 3))
  clear cv
  refine (wrap_yes _ 2 ab ab1 (by decide) (by decide) _ hC).mono ?_
  rintro e w1 ⟨⟨A1, c1, rfl, hR⟩, hf1⟩
  replace hf := hf.trans' hf1
  obtain ⟨g1, c1, h1, _⟩ := Kd.R_form hR (by rw [fr_len]; omega)
  injection h1 with h1 _ h2
  subst h1 h2
  obtain ⟨hc1, hc2⟩ := R_cap hR
  have hCf := (Kd.R_reads' hR).2.2
  have hal : ab.length = 2 := rfl
  rw [hal] at hc1 ⊢
  have HF1 := Lib.hid hf
  have HCF := Lib.hid hCf
  clear hC hf hf1 hR hCf hal
  dsimp only
  go_wp2_with fail
  refine (new_c w1).mono ?_
  rintro e w2 ⟨rfl, hst, hf2⟩
  obtain ⟨S, hS⟩ : ∃ S, w1.heap.size = S := ⟨_, rfl⟩
  rw [hS] at hst
  have HST := Lib.hid hst
  have HF2 := Lib.hid (HF1.out.trans' hf2)
  have HF12 := Lib.hid hf2
  have HS := Lib.hid hS
  rw [hS]
  clear hst hf2 hS
  dsimp only
  go_wp2_with fail
  have hfd := HF2.out.drew
  have h83 : (3 : Int) ≤ (c1 : Int) := by omega
  have HT3 : Hid (∀ u, Fr no w1 u → (Kd.int .u8).C u (some ⟨g1, 0, none⟩) 3 ((fr ab).take 3)) := fun u h => Kd.C_take (C_fr HCF.out h) (m := 3) (by rw [fr_len]; decide)
  refine wp_region_plan (fun u => True) [(0, false), (2, false), (4, false), (5, false), (1, true), (3, true), (6, true), (7, true), (8, false), (9, false), (10, false), (11, false), (12, false)] (by kernel_rfl) (by kernel_rfl) (fun _ _ _ _ _ h => h) (trivial) ?_
  simp only [planOps, List.getElem?_toArray, List.getElem?_cons_succ, List.getElem?_cons_zero]
  repeat (first
    | (refine plan_step (by rfl) ?_; apply Exists.intro; refine ⟨fun x hSx => ?_, ?_⟩; ((try dsimp only at hSx); go_simp; (try rw [if_neg (by omega)]); (try with_reducible rfl)); (simp only [Act.put, List.setIfInBounds_toArray, List.set_cons_zero, List.set_cons_succ]))
    | (refine plan_skip (by rfl) ?_; (simp only [Act.put, List.setIfInBounds_toArray, List.set_cons_zero, List.set_cons_succ])))
  refine plan_run (by rfl) (fun K hK => ?_)
  go_simp
  have hE : (Kd.int .u8).R 5 (w2.drew.alloc (.cells #[] 5)) 0 (since w2) (.slice (some ⟨w2.heap.size, 0, none⟩) 0 0) [] := Kd.R_of_own (World.ownsRow_lit w2.drew #[] 0 (Nat.zero_le _) (by decide) rfl) (fun k hk => by simp [Value.ownBlock] at hk; subst hk; exact Nat.le_refl _)
  have hf3 : Fr no w2 (w2.drew.alloc (.cells #[] 5)) := ((Fr.refl no w2).drew).alloc _
  refine hK.out (fun u => True) _ _ (trivial) (trivial) ?_
  clear hK K
  try simp only [Act.put, List.setIfInBounds_toArray, List.set_cons_zero, List.set_cons_succ]
  refine plan_if (fun K hK => ?_)
  refine Kd.R_append_rows_step (Kd.int .u8) (Rr := (Kd.int .u8).K w1) (w0 := w2.drew.alloc (.cells #[] 5)) 0 (by rfl) (.tmp 31) (.tmp 32) 24 5 (.int .u8 0) 1 rfl Tryd.underlying24 info8 rfl (by decide) (by decide) _ [] (fr ab) (some ⟨g1, 0, none⟩) 8 c1 (since w2) (fun _ => False) rfl rfl hE (C_fr HCF.out (HF12.out.trans' hf3)) (fun _ _ h => h) (fun _ hk => hk.elim) (fun b hb => Nat.le_trans hf3.size hb) (Below.refl 0 _) (Nat.zero_le _) (by decide) ?_
  intro v1 w4 ho hb1 hg hat
  clear hat hb1
  replace ho : (Kd.int .u8).R 5 w4 0 (since w2) v1 (fr ab) := ho
  obtain ⟨A4, c4, rfl⟩ := Kd.R_slice ho
  have hf4 : Fr no w2 w4 := hf3.new' (Fr.of_grown hg (fun b hb _ => hE.1 b hb))
  clear hg hE hf3
  refine hK.out (fun u => True) _ _ (⟨trivial, trivial⟩) (trivial) ?_
  clear hK K
  try simp only [Act.put, List.setIfInBounds_toArray, List.set_cons_zero, List.set_cons_succ]
  repeat (first
    | (refine plan_step (by rfl) ?_; apply Exists.intro; refine ⟨fun x hSx => ?_, ?_⟩; ((try dsimp only at hSx); go_simp; (try rw [if_neg (by omega)]); (try with_reducible rfl)); (simp only [Act.put, List.setIfInBounds_toArray, List.set_cons_zero, List.set_cons_succ]))
    | (refine plan_skip (by rfl) ?_; (simp only [Act.put, List.setIfInBounds_toArray, List.set_cons_zero, List.set_cons_succ])))
  refine plan_if (fun K hK => ?_)
  refine Kd.R_append_rows_step (Kd.int .u8) (Rr := (Kd.int .u8).K w1) (w0 := w4) 0 (by rfl) (.tmp 33) (.tmp 35) 24 5 (.int .u8 0) 1 rfl Tryd.underlying24 info8 rfl (by decide) (by decide) _ (fr ab) ((fr ab).take 3) (some ⟨g1, 0, none⟩) 3 c1 (since w2) (fun _ => False) rfl rfl ho (HT3.out _ (HF12.out.trans' hf4)) (fun _ _ h => h) (fun _ hk => hk.elim) (fun b hb => Nat.le_trans hf4.size hb) (Below.refl 0 _) (Nat.zero_le _) (by rw [fr_len]; decide) ?_
  intro v2 w5 ho2 hb1 hg hat
  clear hat hb1
  obtain ⟨A5, c5, rfl⟩ := Kd.R_slice ho2
  have hf5 : Fr no w2 w5 := hf4.new' (Fr.of_grown hg (fun b hb _ => ho.1 b hb))
  clear hg ho
  refine hK.out (fun u => True) _ _ (⟨⟨trivial, trivial⟩, trivial⟩) (trivial) ?_
  clear hK K
  try simp only [Act.put, List.setIfInBounds_toArray, List.set_cons_zero, List.set_cons_succ]
  repeat (first
    | (refine plan_step (by rfl) ?_; apply Exists.intro; refine ⟨fun x hSx => ?_, ?_⟩; ((try dsimp only at hSx); go_simp; (try rw [if_neg (by omega)]); (try with_reducible rfl)); (simp only [Act.put, List.setIfInBounds_toArray, List.set_cons_zero, List.set_cons_succ]))
    | (refine plan_skip (by rfl) ?_; (simp only [Act.put, List.setIfInBounds_toArray, List.set_cons_zero, List.set_cons_succ])))
  refine plan_run (by rfl) (fun K hK => ?_)
  go_simp
  have hcap5 := R_cap ho2
  have hby : ∀ x ∈ fr ab ++ (fr ab).take 3, 0 ≤ x ∧ x < 256 := fun x hx => by
    rcases List.mem_append.1 hx with h | h
    · exact fr_bytes ab1 (by decide) x h
    · exact fr_bytes ab1 (by decide) x (List.mem_of_mem_take h)
  have hl11 : (fr ab ++ (fr ab).take 3).length = 11 := rfl
  refine (feed_yes S [] (fr ab ++ (fr ab).take 3) [ab] ((fr ab).take 3) 0 A5 c5 w5 (HST.out.fr hf5) (Kd.R_reads' ho2).2.2 hcap5.1 (by_of _ _ ⟨by decide, fun x hx => by simp at hx⟩ ⟨by rw [hl11]; decide, hby⟩) (by rw [List.nil_append, hl11]; decide) (.one ab _ [] _ ab1 (by decide) (.part 2 [97] (by decide) (by decide))) (by decide) (by decide)).mono ?_
  rintro e w6 ⟨⟨A6, rfl, hr6, hn6⟩, hst6, hf6⟩
  dsimp only
  refine hK.out (fun u => True) _ _ (⟨⟨⟨trivial, trivial⟩, trivial⟩, trivial⟩) (trivial) ?_
  clear hK K
  try simp only [Act.put, List.setIfInBounds_toArray, List.set_cons_zero, List.set_cons_succ]
  repeat (first
    | (refine plan_step (by rfl) ?_; apply Exists.intro; refine ⟨fun x hSx => ?_, ?_⟩; ((try dsimp only at hSx); go_simp; (try rw [if_neg (by omega)]); (try with_reducible rfl)); (simp only [Act.put, List.setIfInBounds_toArray, List.set_cons_zero, List.set_cons_succ]))
    | (refine plan_skip (by rfl) ?_; (simp only [Act.put, List.setIfInBounds_toArray, List.set_cons_zero, List.set_cons_succ])))
  refine plan_done ?_
  have hS2 : S < w2.heap.size := by obtain ⟨v, q, _⟩ := HST.out; exact blk_lt q
  have hS5 : S < w5.heap.size := Nat.lt_of_lt_of_le hS2 hf5.size
  have h16 : Fr no w1 w6 := (HF12.out.trans' hf5).new hf6 (fun k hk => by subst hk; unfold since; rw [HS.out]; exact Nat.le_refl _)
  have h06 : Fr no w w6 := HF1.out.trans' h16
  obtain ⟨ad, rfl, hcells⟩ := hr6.2.2 (by decide)
  obtain ⟨cs, _, ⟨Ae, ce, rfl, hle, hCe, hfe⟩, hce⟩ := hcells 0 ab rfl
  have hc6 : w6.cell? ad = some (.slice Ae 2 ce) := hce 0 _ rfl
  have HQ : Hid (∀ u, Fr (fun k => k = S) w6 u → u.cell? ad = some (.slice Ae 2 ce) ∧ (convert 24 9 (.slice Ae 2 ce)).run Tryd.prog u = .ok (.string ⟨#[97, 98]⟩) u) := fun u h =>
    ⟨h.cell hc6 (fun e => by have := hn6 ad rfl; unfold since at this; omega),
     Kd.C_string (P := Tryd.prog) (c := ce) (xs := ab) Tryd.underlying24 Tryd.underlying5 Tryd.underlying9 (C_cells hCe (fun a e => h.block a.block (hfe a e).2.2.1 (fun q => by have := (hfe a e).1; unfold since at this; omega)))⟩
  have HST6 := Lib.hid hst6
  have H06 := Lib.hid h06
  have hd3 : (Kd.int .u8).C w6 (some ⟨g1, 3, none⟩) ((fr ab).drop 3).length ((fr ab).drop 3) := by
    have q := Kd.C_drop (c := c1) (C_fr HCF.out h16) (m := 3) (by decide) (by rw [fr_len]; exact hc1)
    rw [if_neg (by omega)] at q
    exact q
  have HD3 := Lib.hid hd3
  clear hr6 hn6 hst6 hf6 hf5 hf4 hcap5 hby ho2 hl11 hfd hcells hce hc6 hCe hfe hle hS5 h16 h06 hd3 HT3
  go_wp2_with fail
  refine (held_c S _ _ w6 HST6.out).mono ?_
  rintro e w7 ⟨rfl, rfl⟩
  rw [show (((fr ab).take 3).length : Int) = 3 from rfl]
  have h33 : (3 : Int) < (c1 : Int) := by omega
  have h34 : 3 < c1 := by omega
  dsimp only
  go_wp2_with fail
  have hB2 : Bytes [(fr ab).take 3, (fr ab).drop 3] := by_of _ _ ⟨by decide, fun x hx => fr_bytes ab1 (by decide) x (List.mem_of_mem_take hx)⟩ ⟨by decide, fun x hx => fr_bytes ab1 (by decide) x (List.mem_of_mem_drop hx)⟩
  have hz2 : Pz ((fr ab).take 3 ++ (fr ab).drop 3) [ab] [] := by
    rw [List.take_append_drop]
    have := Pz.one ab [] [] [] ab1 (by decide) (.short [] (by decide))
    rwa [List.append_nil] at this
  refine (feed_yes S ((fr ab).take 3) ((fr ab).drop 3) [ab] [] (0 + (([ab].length : Nat) : Int)) (some ⟨g1, 3, none⟩) (c1 - 3) w6 HST6.out HD3.out (show 5 ≤ c1 - 3 by omega) hB2 (by decide) hz2 (by decide) (by decide)).mono ?_
  rintro e w8 ⟨⟨A8, rfl, _, _⟩, hst8, hf8⟩
  have HST8 := Lib.hid hst8
  have HF8 := Lib.hid hf8
  have H08 : Hid (Fr no w w8) := H06.out.new hf8 (fun k hk => by subst hk; unfold since; rw [← HS.out]; exact HF1.out.size)
  clear hst8 hf8 hB2 hz2 HD3 HST6 HCF
  have hmk := mk8 1025 (by decide) w8
  rw [show ((1025 : Nat) : Int) = 1025 from rfl] at hmk
  dsimp only
  go_wp2_with fail
  refine (wrap_no _ 1025 1025 (by decide) _).mono ?_
  rintro e w9 ⟨⟨F, rfl, hF⟩, hf9⟩
  have h89 : Fr no w8 w9 := ((Fr.refl no w8).alloc _).trans' hf9
  have hst9 := HST8.out.fr h89
  obtain ⟨q1, q2⟩ := HQ.out w9 (HF8.out.trans' (h89.mono (fun _ h _ => h.elim)))
  have HST9 := Lib.hid hst9
  have H09 := Lib.hid (H08.out.trans' h89)
  clear hF hf9 h89 hst9 hmk
  dsimp only
  go_wp2_with fail
  refine (held_c S _ _ w9 HST9.out).mono ?_
  rintro e w10 ⟨rfl, rfl⟩
  rw [show ((([] : List Int).length : Nat) : Int) = 0 from rfl]
  dsimp only
  go_wp2_with fail
  refine (err_c S _ _ w9 HST9.out).mono ?_
  rintro e w11 ⟨rfl, hf11⟩
  dsimp only
  go_wp2
  go_ret
  exact ⟨rfl, H09.out.trans' hf11⟩
end Go.Proofs.YtinkdgfdnagplaaDoor.Frame
