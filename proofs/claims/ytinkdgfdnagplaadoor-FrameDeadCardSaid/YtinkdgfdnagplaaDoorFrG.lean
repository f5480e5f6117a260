import Derived.Test.YtinkdgfdnagplaaDoorFrF
import Derived.Test.YtinkdgfdnagplaaDoorFrQ
/-! Walk of FrameDead. -/
set_option linter.unusedVariables false
set_option linter.unusedSimpArgs false
namespace Go.Proofs.YtinkdgfdnagplaaDoor.Frame
open Go.RowKit Go.Proofs.YtinkdgfdnagplaaDoorW.PrintWords Go.Proofs.YtinkdgfdnagplaaDoor.B Go.Proofs.YtinkdgfdnagplaaDoor.Crc Go.Proofs.YtinkdgfdnagplaaDoor.Err

theorem pd_frs : ∀ (l : List (List Int)), OkB l → Pd (frs l ++ [255, 255]) l
  | [], _ => Pd.dead 65535 [] (by decide) (by decide)
  | b :: r, h => by
    rw [frs_cons, List.append_assoc]
    exact .one b _ r (h b (by simp)).1 (h b (by simp)).2 (pd_frs r (fun c hc => h c (by simp [hc])))
theorem frs_one (b : List Int) : frs [b] = fr b := by simp [frs]
theorem frs_bts {R : List (List Int)} (h : OkB R) : ∀ x ∈ frs R, 0 ≤ x ∧ x < 256 := fun x hx => by
  unfold frs at hx
  obtain ⟨q, hq, hxq⟩ := List.mem_flatten.1 hx
  obtain ⟨b, hb, rfl⟩ := List.mem_map.1 hq
  exact fr_bytes (h b hb).1 (h b hb).2 x hxq
theorem frs_take (l : List (List Int)) (k : Nat) (h : k < l.length) : frs (l.take (k + 1)) = frs (l.take k) ++ fr l[k] := by
  rw [List.take_succ_eq_append_getElem h, frs_append, frs_one]
theorem new_b (w : World) : Calls Tryd.prog 10 #[] w fun e w' => e = .returned (.pointer (some ⟨w.heap.size, 0, none⟩)) ∧ w'.heap[w.heap.size]? = some (.cells #[.slice none 0 0, .int .i64 0, .nilIface] 62 (0, 0)) ∧ Fr no w w' := by
  go_enter Tryd.func10, Tryd.ntmps10
  go_wp2
  go_ret
  exact ⟨rfl, blk_new _ _, (Fr.refl no w).alloc _⟩
theorem ff_C (W : World) : (Kd.int .u8).C (W.alloc (.cells #[.int .u8 255, .int .u8 255] 5)) (some ⟨W.heap.size, 0, none⟩) ([255, 255] : List Int).length [255, 255] :=
  C_blk (d := Kd.int .u8) (blk_new W (.cells #[.int .u8 255, .int .u8 255] 5)) [255, 255] (show 0 < 1 by decide) (show 2 ≤ 9223372036854775807 by decide) (((Reps.none _ _).snoc (p := (255 : Int)) (show (Kd.int .u8).K _ (255 : Int) [.int .u8 255] from rfl) rfl).snoc (p := (255 : Int)) (show (Kd.int .u8).K _ (255 : Int) [.int .u8 255] from rfl) rfl)
set_option maxRecDepth 100000 in
set_option maxHeartbeats 8000000 in
theorem dead_c (w : World) (hg : ErrType w) (A Ax : Option Addr) (c cx nx : Nat) (l : List (List Int)) (hC : kB.C w A l.length l) (hby : ∀ p ∈ l, ∀ x ∈ p, 0 ≤ x ∧ x < 256) (hl : l.length ≤ 10) (hnx : nx ≤ 300) :
    Calls Tryd.prog 4 #[.slice A l.length c, .slice Ax nx cx] w fun e w' => e = .returned (.bool true) ∧ Fr no w w' := by
  have HK := Lib.hid (And.intro hC (And.intro hby hg))
  have d1 : decide ((10 : Int) < (l.length : Int)) = false := by simp; omega
  have d2 : decide ((300 : Int) < (nx : Int)) = false := by simp; omega
  clear hC hby hg
  go_enter Tryd.func4, Tryd.ntmps4
  go_wp2_with fail
  refine (known_c w).mono ?_
  rintro e w1 ⟨rfl, hf1⟩
  have HF1 := Lib.hid hf1
  clear hf1
  dsimp only
  go_wp2
  go_loopg [5, 6] l.length (fun q v5 v6 wr => ∃ k : Nat, k + q = l.length ∧ v6 = .int .i64 k ∧ (Kd.int .u8).R 5 wr 0 (since w) v5 (frs (l.take k)) ∧ OkB (l.take k) ∧ (frs (l.take k)).length ≤ 306 * k ∧ Fr no w wr)
  case atStart => exact ⟨0, by omega, rfl, Kd.R_nil _ _ _ _ _, fun b hb => by simp at hb, by simp [frs], HF1.out⟩
  case round =>
    obtain ⟨k, hk, rfl, hRb, hok, hfl, hf⟩ := hrel
    obtain ⟨Ab, cb, rfl⟩ := Kd.R_slice hRb
    have HB := Lib.hid hRb
    have HOK := Lib.hid hok
    have HF := Lib.hid hf
    clear hRb hok hf
    by_cases hlt : k < l.length
    · obtain ⟨ad, A1, c1, rfl, p0, q1, r0⟩ := sl_at HK.out.1 k hlt
      have p1 := HF.out.cell p0 (fun h => h)
      have r1 := C_fr r0 HF.out
      have hpb : ∀ x ∈ l[k], 0 ≤ x ∧ x < 256 := HK.out.2.1 _ (List.getElem_mem hlt)
      have hgs := frs_take l k hlt
      have htk := List.take_succ_eq_append_getElem hlt
      obtain ⟨p, hp⟩ : ∃ p, l[k] = p := ⟨_, rfl⟩
      rw [hp] at p0 p1 q1 r0 r1 hpb hgs htk
      have hk0 : (0 : Int) ≤ (k : Int) := by omega
      have hk1 : (k : Int) < (l.length : Int) := by omega
      have HGS := Lib.hid hgs
      have HTK := Lib.hid htk
      have HR1 := Lib.hid r1
      have HP0 := Lib.hid p0
      have HPB := Lib.hid hpb
      clear hgs r1 r0 p0 hpb hp htk
      by_cases h3 : 300 < p.length
      · have d3 : decide ((300 : Int) < (p.length : Int)) = true := by simp; omega
        clear h3
        go_wp2
        go_ret
        exact ⟨rfl, HF.out⟩
      have d3 : decide ((300 : Int) < (p.length : Int)) = false := by simp; omega
      have hB1 : Bytes [p] := fun y hy => by
        simp only [List.mem_singleton] at hy
        subst hy
        exact ⟨by omega, HPB.out⟩
      have HB1 := Lib.hid hB1
      clear hB1
      go_wp2_with fail
      refine (wrap_yes A1 c1 p HB1.out (by omega) q1 wr HR1.out).mono ?_
      rintro e w2 ⟨⟨A2, c2, rfl, hR2⟩, hf2⟩
      have h02 : Fr no w w2 := HF.out.trans' hf2
      have HO2 := Lib.hid (R_fr HB.out hf2 (fun _ _ h => h))
      have HC2 := Lib.hid (Kd.R_reads' hR2).2.2
      clear hR2 hf2 p1
      dsimp only
      go_wp2_with (at_builtin
                   refine Kd.R_append_row (fun n : Int => Value.int .u8 n) (0 : Int) (w0 := w2) 0 rfl (.tmp 47) (.tmp 48) 24 5 (.int .u8 0) 1 rfl Tryd.underlying24 info8 rfl (by decide) (.slice Ab (frs (l.take k)).length cb) (frs (l.take k)) (fr p) A2 (p.length + 6) c2 (since w) rfl rfl (fun b hb => Nat.le_trans h02.size hb) HO2.out (by have h := HC2.out; rw [fr_len] at h; exact h) (Below.refl 0 _) (Nat.zero_le _) (by omega) ?_
                   intro v1 w6 ho hb1 hg hat
                   replace ho : (Kd.int .u8).R 5 w6 0 (since w) v1 (frs (l.take k) ++ fr p) := ho
                   have h06 : Fr no w w6 := h02.new' (Fr.of_grown hg (fun b hb _ => HO2.out.1 b hb))
                   have HO6 := Lib.hid ho
                   have H06 := Lib.hid h06
                   clear hat hb1 hg ho h06)
      go_roundg (l.length - (k + 1))
      case measure => omega
      case rel => exact ⟨k + 1, by omega, by go_num, by rw [HGS.out]; exact HO6.out, fun b hb => by
        rw [HTK.out] at hb
        rcases List.mem_append.1 hb with hb | hb
        · exact HOK.out b hb
        · rw [List.mem_singleton] at hb
          subst hb
          exact ⟨HB1.out, by omega⟩, by rw [HGS.out, List.length_append, fr_len]; omega, H06.out⟩
    · obtain rfl : k = l.length := by omega
      rename World => wa
      rw [List.take_length] at HB HOK hfl ⊢
      have HL := Lib.hid (frs_bts HOK.out)
      obtain ⟨L, hL⟩ : ∃ L, (frs l).length = L := ⟨_, rfl⟩
      have HLL := Lib.hid hL
      rw [hL] at hfl HB ⊢
      clear hL
      go_wp2_with fail
      refine (new_b wa).mono ?_
      rintro e w1 ⟨rfl, hst, hf1⟩
      obtain ⟨S, hS⟩ : ∃ S, wa.heap.size = S := ⟨_, rfl⟩
      rw [hS] at hst ⊢
      have HST := Lib.hid hst
      have HS := Lib.hid hS
      have h01 : Fr no w w1 := HF.out.trans' hf1
      have HO1 := Lib.hid (R_fr HB.out hf1 (fun _ _ h => h))
      have hne : some S ≠ (Value.slice Ab L cb).ownBlock := fun e => by
        obtain ⟨inner, ho⟩ := Kd.R_own HB.out
        have := own_lt ho S e.symm
        omega
      have HNE := Lib.hid hne
      clear hst hf1 hS hne
      dsimp only
      go_wp2_with (at_builtin
                   refine Kd.R_append_row (fun n : Int => Value.int .u8 n) (0 : Int) (w0 := w1.alloc (.cells #[.int .u8 255, .int .u8 255] 5)) 0 rfl (.tmp 53) (.tmp 54) 24 5 (.int .u8 0) 1 rfl Tryd.underlying24 info8 rfl (by decide) (.slice Ab L cb) (frs l) [255, 255] (some ⟨w1.heap.size, 0, none⟩) 2 2 (since w) rfl rfl (fun b hb => Nat.le_trans (h01.alloc _).size hb) (R_fr HO1.out ((Fr.refl no w1).alloc _) (fun _ _ h => h)) (ff_C w1) (Below.refl 0 _) (Nat.zero_le _) (by rw [HLL.out]; omega) ?_
                   intro v1 w3 ho hb1 hg hat
                   replace ho : (Kd.int .u8).R 5 w3 0 (since w) v1 (frs l ++ [255, 255]) := ho
                   have h03 : Fr no w w3 := (h01.alloc _).new' (Fr.of_grown hg (fun b hb _ => HO1.out.1 b hb))
                   have hb3 := blk_grown (((Fr.refl no w1).alloc _).heap HST.out (fun h => h)) hg HNE.out
                   obtain ⟨A3, c3, rfl⟩ := Kd.R_slice ho
                   have HO3 := Lib.hid ho
                   have H03 := Lib.hid h03
                   have HB3 := Lib.hid hb3
                   clear hat hb1 hg ho h03 hb3)
      have hle : (frs l).length ≤ 3060 := by rw [HLL.out]; omega
      have hfd := feed_dead S [] (frs l ++ [255, 255]) l 0 A3 c3 w3 ⟨.slice none 0 0, HB3.out, Kd.R_nil _ _ _ _ _⟩ (Kd.R_reads' HO3.out).2.2 (Kd.R_reads' HO3.out).2.1 (fun q hq => by
        simp only [List.mem_cons, List.not_mem_nil, or_false] at hq
        rcases hq with rfl | rfl
        · exact ⟨by simp, fun x hx => by simp at hx⟩
        · refine ⟨by rw [List.length_append]; simp; omega, fun x hx => ?_⟩
          rcases List.mem_append.1 hx with h | h
          · exact HL.out x h
          · simp only [List.mem_cons, List.not_mem_nil, or_false] at h
            omega) (by simp) (by rw [List.nil_append]; exact pd_frs l HOK.out) (by decide) (by decide) (HK.out.2.2.fr H03.out (fun h => h))
      have hln : List.length (frs l ++ [255, 255]) = (frs l).length + 2 := by simp
      rw [hln, Int.zero_add] at hfd
      have HFD := Lib.hid hfd
      clear hfd hle HO3 HO1 h01 HST HNE
      refine HFD.out.mono ?_
      rintro e w4 ⟨⟨A4, G, rfl, hrow, hG⟩, ⟨F, hSd⟩, hf4⟩
      have H04 : Hid (Fr no w w4) := H03.out.new hf4 (fun k hk => by subst hk; unfold since; have := HF.out.size; have := HS.out; omega)
      have HROW : Hid (kB.C w4 A4 l.length l) := hrow.imp_ (Below.refl _ _) (fun _ _ hp => kD.K_of_M hp)
      have HG4 := Lib.hid hG
      have HSD := Lib.hid hSd
      clear hrow hG hSd hf4 HFD HB3 H03
      dsimp only
      go_wp2_with fail
      refine (at_c frW l.length 4 w4).mono ?_
      rintro e w5 ⟨⟨G2, rfl, _, hG2⟩, hf5⟩
      have hX := blk_new w5 (.cells #[.slice (some ⟨G2, 0, none⟩) 1 1, .int .i64 4] 31)
      have hfx := (Fr.refl no w5).alloc (.cells #[.slice (some ⟨G2, 0, none⟩) 1 1, .int .i64 4] 31)
      have h46 := hf5.trans' hfx
      have HROW6 := Lib.hid (C_fr HROW.out h46)
      have HG6 : Hid (FaultAt _ G frW l.length 4) := h46.heap HG4.out (fun h => h)
      have HSD6 := Lib.hid (HSD.out.fr h46)
      have HP6 : Hid (PartAt _ G2 frW l.length) := hG2.fr hfx
      have H06 := Lib.hid (H04.out.trans' h46)
      unfold wrongV
      clear hG2 hf5 h46 hfx HROW HG4 HSD H04
      dsimp only
      go_wp2_with fail
      generalize w5.alloc _ = w6 at *
      generalize w5.heap.size = X at *
      refine (texts_c A4 A l.length c l l rfl (by omega) w6 HROW6.out (C_fr HK.out.1 H06.out)).mono ?_
      rintro e w7 ⟨rfl, hf7⟩
      have hX7 := hf7.heap hX (fun h => h)
      have k0 := blk_cell hX7 0
      have k1 := blk_cell hX7 1
      have HG7 : Hid (FaultAt w7 G frW l.length 4) := hf7.heap HG6.out (fun h => h)
      have HSD7 := Lib.hid (HSD6.out.fr hf7)
      have HP7 := Lib.hid (HP6.out.fr hf7)
      have H07 := Lib.hid (H06.out.trans' hf7)
      clear hX hf7 HG6 HSD6 HP6 H06 HROW6
      dsimp only
      go_wp2_with fail
      refine (tells_c G G2 frW l.length 4 l.length rfl (by omega) (by decide) (by decide) (by decide) w7 (HK.out.2.2.fr H07.out (fun h => h)) HG7.out HP7.out).mono ?_
      rintro e w8 ⟨rfl, hf8⟩
      have hX8 := hf8.heap hX7 (fun h => h)
      have HSD8 := Lib.hid (HSD7.out.fr hf8)
      have HP8 := Lib.hid (HP7.out.fr hf8)
      have H08 := Lib.hid (H07.out.trans' hf8)
      clear hf8 HG7 HSD7 HP7 H07 k0 k1 hX7
      dsimp only
      go_wp2_with fail
      refine (held_dead S F _ w8 HSD8.out).mono ?_
      rintro e w9 ⟨rfl, rfl⟩
      dsimp only
      go_wp2_with fail
      refine (feed_after S F _ (.slice Ax nx cx) w8 (HK.out.2.2.fr H08.out (fun h => h)) HSD8.out).mono ?_
      rintro e w9 ⟨⟨G3, rfl, _, hG3⟩, hf9⟩
      have hfd := hf9.drew
      have hX9 := hfd.heap hX8 (fun h => h)
      have k0 := blk_cell hX9 0
      have k1 := blk_cell hX9 1
      have HG9 : Hid (FaultAt w9.drew G3 frW l.length 4) := hG3
      have HSD9 := Lib.hid (HSD8.out.fr hfd)
      have HP9 := Lib.hid (HP8.out.fr hfd)
      have H09 := Lib.hid (H08.out.trans' hfd)
      clear hfd hf9 hG3 HSD8 HP8 H08 hX8
      dsimp only
      go_wp2_with fail
      refine wp_region_plan (fun u => u.cell? ⟨X, 0, none⟩ = some (.slice (some ⟨G2, 0, none⟩) 1 1) ∧ u.cell? ⟨X, 1, none⟩ = some (.int .i64 4)) [(0, false), (1, false), (2, false), (3, false), (4, false), (5, false), (6, true), (7, false), (8, false), (9, false), (11, false), (10, true), (12, true), (13, false), (14, false), (15, false), (16, true), (17, false), (18, false), (19, false)] (by kernel_rfl) (by kernel_rfl) (fun _ _ _ _ _ h => h) (⟨k0, k1⟩) ?_
      simp only [planOps, List.getElem?_toArray, List.getElem?_cons_succ, List.getElem?_cons_zero]
      repeat (first
        | (refine plan_step (by rfl) ?_; apply Exists.intro; refine ⟨fun x hSx => ?_, ?_⟩; ((try dsimp only at hSx); go_simp; (try rw [if_neg (by omega)]); (try with_reducible rfl)); (simp only [Act.put, List.setIfInBounds_toArray, List.set_cons_zero, List.set_cons_succ]))
        | (refine plan_skip (by rfl) ?_; (simp only [Act.put, List.setIfInBounds_toArray, List.set_cons_zero, List.set_cons_succ])))
      refine plan_run (by rfl) (fun K hK => ?_)
      go_simp
      refine (tells_c G3 G2 frW l.length 4 l.length rfl (by omega) (by decide) (by decide) (by decide) _ (HK.out.2.2.fr H09.out (fun h => h)) HG9.out HP9.out).mono ?_
      rintro e w10 ⟨rfl, hf10⟩
      have m0 := hf10.cell k0 (fun h => h)
      have m1 := hf10.cell k1 (fun h => h)
      dsimp only
      refine hK.out (fun u => True) _ _ (⟨m0, m1⟩) (trivial) ?_
      clear hK K
      try simp only [Act.put, List.setIfInBounds_toArray, List.set_cons_zero, List.set_cons_succ]
      repeat (first
        | (refine plan_step (by rfl) ?_; apply Exists.intro; refine ⟨fun x hSx => ?_, ?_⟩; ((try dsimp only at hSx); go_simp; (try rw [if_neg (by omega)]); (try with_reducible rfl)); (simp only [Act.put, List.setIfInBounds_toArray, List.set_cons_zero, List.set_cons_succ]))
        | (refine plan_skip (by rfl) ?_; (simp only [Act.put, List.setIfInBounds_toArray, List.set_cons_zero, List.set_cons_succ])))
      refine plan_run (by rfl) (fun K hK => ?_)
      go_simp
      refine (err_dead S F _ w10 (HK.out.2.2.fr (H09.out.trans' hf10) (fun h => h)) (HSD9.out.fr hf10)).mono ?_
      rintro e w11 ⟨⟨G4, rfl, _, hG4⟩, hf11⟩
      have n0 := hf11.cell m0 (fun h => h)
      have n1 := hf11.cell m1 (fun h => h)
      dsimp only
      refine hK.out (fun u => True) _ _ (⟨⟨n0, n1⟩, trivial⟩) (trivial) ?_
      clear hK K
      try simp only [Act.put, List.setIfInBounds_toArray, List.set_cons_zero, List.set_cons_succ]
      repeat (first
        | (refine plan_step (by rfl) ?_; apply Exists.intro; refine ⟨fun x hSx => ?_, ?_⟩; ((try dsimp only at hSx); go_simp; (try rw [if_neg (by omega)]); (try with_reducible rfl)); (simp only [Act.put, List.setIfInBounds_toArray, List.set_cons_zero, List.set_cons_succ]))
        | (refine plan_skip (by rfl) ?_; (simp only [Act.put, List.setIfInBounds_toArray, List.set_cons_zero, List.set_cons_succ])))
      refine plan_run (by rfl) (fun K hK => ?_)
      go_simp
      have hall := hf10.trans' hf11
      refine (tells_c G4 G2 frW l.length 4 l.length rfl (by omega) (by decide) (by decide) (by decide) w11 (HK.out.2.2.fr (H09.out.trans' hall) (fun h => h)) hG4 (HP9.out.fr hall)).mono ?_
      rintro e w12 ⟨rfl, hf12⟩
      have o0 := hf12.cell n0 (fun h => h)
      have o1 := hf12.cell n1 (fun h => h)
      have HSD12 := Lib.hid (HSD9.out.fr (hall.trans' hf12))
      have H12 := Lib.hid (H09.out.trans' (hall.trans' hf12))
      clear hall hf10 hf11 hf12 k0 k1 m0 m1 n0 n1 hG4
      dsimp only
      refine hK.out (fun u => True) _ _ (⟨⟨⟨o0, o1⟩, trivial⟩, trivial⟩) (trivial) ?_
      clear hK K
      try simp only [Act.put, List.setIfInBounds_toArray, List.set_cons_zero, List.set_cons_succ]
      repeat (first
        | (refine plan_step (by rfl) ?_; apply Exists.intro; refine ⟨fun x hSx => ?_, ?_⟩; ((try dsimp only at hSx); go_simp; (try rw [if_neg (by omega)]); (try with_reducible rfl)); (simp only [Act.put, List.setIfInBounds_toArray, List.set_cons_zero, List.set_cons_succ]))
        | (refine plan_skip (by rfl) ?_; (simp only [Act.put, List.setIfInBounds_toArray, List.set_cons_zero, List.set_cons_succ])))
      refine plan_run (by rfl) (fun K hK => ?_)
      go_simp
      refine (held_dead S F _ w12 HSD12.out).mono ?_
      rintro e w13 ⟨rfl, rfl⟩
      dsimp only
      refine hK.out (fun u => True) _ _ (⟨⟨⟨⟨o0, o1⟩, trivial⟩, trivial⟩, trivial⟩) (trivial) ?_
      clear hK K
      try simp only [Act.put, List.setIfInBounds_toArray, List.set_cons_zero, List.set_cons_succ]
      repeat (first
        | (refine plan_step (by rfl) ?_; apply Exists.intro; refine ⟨fun x hSx => ?_, ?_⟩; ((try dsimp only at hSx); go_simp; (try rw [if_neg (by omega)]); (try with_reducible rfl)); (simp only [Act.put, List.setIfInBounds_toArray, List.set_cons_zero, List.set_cons_succ]))
        | (refine plan_skip (by rfl) ?_; (simp only [Act.put, List.setIfInBounds_toArray, List.set_cons_zero, List.set_cons_succ])))
      refine plan_done ?_
      go_wp2
      go_ret
      exact ⟨rfl, H12.out⟩
set_option maxRecDepth 100000 in
set_option maxHeartbeats 8000000 in
theorem dead_big (w : World) (A Ax : Option Addr) (c cx n nx : Nat) (hn : 10 < n ∨ 300 < nx) : Calls Tryd.prog 4 #[.slice A n c, .slice Ax nx cx] w fun e w' => e = .returned (.bool true) ∧ Fr no w w' := by
  have hd : decide ((10 : Int) < (n : Int)) = true ∨ decide ((10 : Int) < (n : Int)) = false ∧ decide ((300 : Int) < (nx : Int)) = true := by
    by_cases h : 10 < n
    · exact .inl (by simp; omega)
    · exact .inr ⟨by simp; omega, by simp; omega⟩
  clear hn
  rcases hd with d1 | ⟨d1, d2⟩
  all_goals
    go_enter Tryd.func4, Tryd.ntmps4
    go_wp2_with fail
    refine (known_c w).mono ?_
    rintro e w1 ⟨rfl, hf⟩
    dsimp only
    go_wp2
    go_ret
    exact ⟨rfl, hf⟩
theorem dead_row (w : World) (hL : laidMetH Tryd.prog [("errors.errorType", Rows.laid_errors_errorType)] w) (A : Option Addr) (c : Nat) (l : List (List Int)) (Ax : Option Addr) (cx : Nat) (x : List Int) (hC : kB.C w A l.length l) (hc : l.length ≤ c) (hw : ∀ x ∈ l, ∀ y ∈ x, (Lit.int .u8 y).wf = true) (hCx : (Kd.int .u8).C w Ax x.length x) (hcx : x.length ≤ cx) (hwx : ∀ y ∈ x, (Lit.int .u8 y).wf = true) : Calls Tryd.prog 4 #[.slice A l.length c, .slice Ax x.length cx] w fun e w' => e = .returned (.bool true) ∧ Fr no w w' := by
  have h' : laidMet Tryd.prog _ w ∧ handlesMet Tryd.prog [("errors.errorType", Rows.laid_errors_errorType)] w := hL
  by_cases h : 10 < l.length ∨ 300 < x.length
  · exact dead_big w A Ax c cx _ _ h
  exact dead_c w (errType_of_handles h'.2) A Ax c cx x.length l hC (fun p hp x hx => by have := Go.bounds_u8 (hw p hp x hx); omega) (by omega) (by omega)
end Go.Proofs.YtinkdgfdnagplaaDoor.Frame
