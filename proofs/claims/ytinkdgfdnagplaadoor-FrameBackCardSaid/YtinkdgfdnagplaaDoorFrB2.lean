import Derived.OpenShut
import Derived.Test.YtinkdgfdnagplaaDoorFrB
/-! Walk of FrameBack (begun). -/
set_option linter.unusedVariables false
set_option linter.unusedSimpArgs false
namespace Go.Proofs.YtinkdgfdnagplaaDoor.Frame
open Go.RowKit Go.Proofs.YtinkdgfdnagplaaDoorW.PrintWords Go.Proofs.YtinkdgfdnagplaaDoor.B Go.Proofs.YtinkdgfdnagplaaDoor.Crc Go.Proofs.YtinkdgfdnagplaaDoor.Err

theorem kD_C' {w : World} {ok : Nat → Prop} {A : Option Addr} {n c : Nat} {xs : List (List Int)} (h : kD.R 24 w 0 ok (.slice A n c) xs) : kB.C w A xs.length xs :=
  ReadsRow.imp_ (Kd.R_reads' h).2.2 (Below.refl _ _) (fun _ _ hk => hk)
theorem gd_len (l : List (List Int)) (k : Nat) (h : k ≤ l.length) : (frs (gd l k)).length ≤ 1030 * k := by
  induction k with
  | zero => simp [gd, frs]
  | succ k ih =>
    rw [gd_succ l k h, frs_append, List.length_append]
    have := ih (by omega)
    have h0 : frs [] = [] := rfl
    split
    · rw [frs_cons, h0, List.append_nil, fr_len]
      omega
    · rw [h0, List.length_nil]
      omega
theorem gd_le (l : List (List Int)) (k : Nat) : (gd l k).length ≤ k := Nat.le_trans (List.length_filter_le _ _) (by rw [List.length_take]; omega)
theorem grown_other {α β : Type} {d : Kd α} {d' : Kd β} {e e' : Nat} {W w1 : World} {ok ok' : Nat → Prop} {v v' : Value} {xs : List α} {ys : List β} (h : d.R e W 0 ok v xs) (h' : d'.R e' W 0 ok' v' ys) (hE : d.E = []) (hne : e ≠ e') (hg : W.grownBy w1 v'.ownBlock) : d.R e w1 0 ok v xs := by
  cases hv : v'.ownBlock with
  | none => rw [hv] at hg; exact Kd.R_grown h hg (fun k _ => by simp)
  | some g =>
    obtain ⟨inner, ho⟩ := Kd.R_own h'
    obtain ⟨cells, hc⟩ := own_typed ho g hv
    have h3 := Kd.R_types h hc (fun q hq => by rw [hE, List.mem_singleton] at hq; subst hq; exact hne)
    rw [hv] at hg
    exact Kd.R_mono (Kd.R_grown h3 hg (fun k hk e => by injection e with e; exact hk.2 e)) (fun k hk => hk.1)
theorem frs_bytes {R : List (List Int)} (h : OkB R) : ∀ x ∈ frs R, 0 ≤ x ∧ x < 256 := fun x hx => by
  unfold frs at hx
  obtain ⟨q, hq, hxq⟩ := List.mem_flatten.1 hx
  obtain ⟨b, hb, rfl⟩ := List.mem_map.1 hq
  exact fr_bytes (h b hb).1 (h b hb).2 x hxq
set_option maxRecDepth 100000 in
set_option maxHeartbeats 4000000 in
/-- The next piece is fed. -/
theorem feed_more (S L K p n cb : Nat) (R : List (List Int)) (r : List Int) (Ab : Option Addr) (wr : World) (hok : OkB R) (hL : (frs R).length = L) (hlen : L ≤ 20600) (hb : (Kd.int .u8).C wr Ab L (frs R)) (hcb : L ≤ cb) (hp : p < L) (hK : 0 < K) (hKL : p + K ≤ L) (hst : St wr S r n) (hf : Fed R p n r) (hRl : R.length ≤ 20) :
    ∃ (m : Nat) (r' : List Int), n + m ≤ R.length ∧ Fed R (p + K) (n + m) r' ∧ Calls Tryd.prog 11 #[.pointer (some ⟨S, 0, none⟩), .slice (Ab.map (fun x => x.add p)) K (cb - p)] wr fun e w' => (∃ A, e = .returned (.tuple #[.slice A m m, .nilIface]) ∧ ReadsRow (kD.M w' 0 (since wr)) 1 w' A m ((R.drop n).take m)) ∧ St w' S r' ((n + m : Nat) : Int) ∧ Fr (fun k => k = S) wr w' := by
  obtain ⟨m, r', hz, hfd⟩ := fed_more hok hf (Nat.le_add_right p K) (by omega)
  have hm : n + m ≤ R.length := hfd.1
  refine ⟨m, r', hm, hfd, ?_⟩
  have hr : r.length ≤ 20600 ∧ ∀ x ∈ r, 0 ≤ x ∧ x < 256 := by
    obtain ⟨_, h2, _⟩ := hf
    constructor
    · have := congrArg List.length h2
      rw [List.length_take, List.length_append] at this
      omega
    · intro x hx
      have h3 : x ∈ (frs R).take p := by rw [h2]; exact List.mem_append_right _ hx
      exact frs_bytes hok x (List.mem_of_mem_take h3)
  rw [Nat.add_sub_cancel_left] at hz
  obtain ⟨x, hx⟩ : ∃ x, ((frs R).drop p).take K = x := ⟨_, rfl⟩
  have hxl : x.length = K := by rw [← hx, List.length_take, List.length_drop]; omega
  have hxb : ∀ y ∈ x, 0 ≤ y ∧ y < 256 := fun y hy => by
    rw [← hx] at hy
    exact frs_bytes hok y (List.mem_of_mem_drop (List.mem_of_mem_take hy))
  have hxC : (Kd.int .u8).C wr (Ab.map (fun x => x.add p)) x.length x := by
    subst hL
    have q := Kd.C_drop (c := cb) hb (m := p) (by omega) hcb
    rw [if_neg (by omega)] at q
    have q2 := Kd.C_take q (m := K) (by rw [List.length_drop]; omega)
    rw [hx] at q2
    have e2 : (fun x : Addr => x.add (p * (Kd.int .u8).sz)) = fun x => x.add p := by
      funext x
      rw [show p * (Kd.int .u8).sz = p from Nat.mul_one p]
    rw [e2] at q2
    exact q2
  rw [hx] at hz
  have hml : ((R.drop n).take m).length = m := by rw [List.length_take, List.length_drop]; omega
  have h := feed_yes S r x ((R.drop n).take m) r' n (Ab.map (fun x => x.add p)) (cb - p) wr hst hxC (by omega) (fun q hq => by
    simp only [List.mem_cons, List.not_mem_nil, or_false] at hq
    rcases hq with rfl | rfl
    · exact ⟨by omega, hr.2⟩
    · exact ⟨by omega, hxb⟩) (by rw [List.length_append]; omega) hz (by omega) (by omega)
  rw [hxl, hml] at h
  refine h.mono ?_
  rintro e w' ⟨⟨A, he, hrow, _⟩, hs, hfr⟩
  exact ⟨⟨A, he, hrow⟩, by rw [Int.natCast_add]; exact hs, hfr⟩
set_option maxRecDepth 100000 in
set_option maxHeartbeats 8000000 in
theorem back_c (w : World) (hg : ErrType w) (A : Option Addr) (c : Nat) (l : List (List Int)) (z : Nat) (hz : z < 256) (hC : kB.C w A l.length l) (hby : ∀ p ∈ l, ∀ x ∈ p, 0 ≤ x ∧ x < 256) (hl : l.length ≤ 20) :
    Calls Tryd.prog 3 #[.slice A l.length c, .int .u8 (z : Int)] w fun e w' => e = .returned (.bool true) ∧ Fr no w w' := by
  have HK := Lib.hid (And.intro hC (And.intro hby hg))
  have d1 : decide ((20 : Int) < (l.length : Int)) = false := by simp; omega
  clear hC hby hg
  go_enter Tryd.func3, Tryd.ntmps3
  go_wp2_with fail
  refine (known_c w).mono ?_
  rintro e w1 ⟨rfl, hf1⟩
  have HF1 := Lib.hid hf1
  clear hf1
  dsimp only
  go_wp2
  go_loopg [5, 6, 7] l.length (fun q v5 v6 v7 wr => ∃ k : Nat, k + q = l.length ∧ v7 = .int .i64 k ∧ (Kd.int .u8).R 5 wr 0 (since w) v5 (frs (gd l k)) ∧ (kW w).R 24 wr 0 (since w) v6 (gd l k) ∧ OkB (gd l k) ∧ Fr no w wr)
  case atStart => exact ⟨0, by omega, rfl, Kd.R_nil _ _ _ _ _, Kd.R_nil _ _ _ _ _, fun b hb => by simp [gd] at hb, HF1.out⟩
  case round =>
    obtain ⟨k, hk, rfl, hRb, hRw, hok, hf⟩ := hrel
    obtain ⟨Ab, cb, rfl⟩ := Kd.R_slice hRb
    obtain ⟨Aw, cw, rfl⟩ := Kd.R_slice hRw
    have HB := Lib.hid hRb
    have HW := Lib.hid hRw
    have HOK := Lib.hid hok
    have HF := Lib.hid hf
    clear hRb hRw hok hf
    by_cases hlt : k < l.length
    · obtain ⟨ad, A1, c1, rfl, p0, q1, r0⟩ := sl_at HK.out.1 k hlt
      have p1 := HF.out.cell p0 (fun h => h)
      have r1 := C_fr r0 HF.out
      have hpb : ∀ x ∈ l[k], 0 ≤ x ∧ x < 256 := HK.out.2.1 _ (List.getElem_mem hlt)
      have hgs := gd_succ l k hlt
      obtain ⟨p, hp⟩ : ∃ p, l[k] = p := ⟨_, rfl⟩
      rw [hp] at p0 p1 q1 r0 r1 hpb hgs
      have hk0 : (0 : Int) ≤ (k : Int) := by omega
      have hk1 : (k : Int) < (l.length : Int) := by omega
      have HGS := Lib.hid hgs
      have HR1 := Lib.hid r1
      have HR0 := Lib.hid r0
      have HP0 := Lib.hid p0
      have HPB := Lib.hid hpb
      have hgl : (frs (gd l k)).length ≤ 100000 := by have := gd_len l k (by omega); omega
      have hgl2 : (gd l k).length ≤ 100000 := by have := gd_le l k; omega
      clear hgs r1 r0 p0 hpb hp
      by_cases h11 : 1100 < p.length
      · have d2 : decide ((1100 : Int) < (p.length : Int)) = true := by simp; omega
        clear h11
        go_wp2
        go_ret
        exact ⟨rfl, HF.out⟩
      have d2 : decide ((1100 : Int) < (p.length : Int)) = false := by simp; omega
      by_cases h10 : 1024 < p.length
      · go_wp2_with fail
        refine (wrap_no A1 p.length c1 h10 wr).mono ?_
        rintro e w2 ⟨⟨F, rfl, hF⟩, hf2⟩
        have p2 : w2.cell? (ad.add k) = some (.slice A1 p.length c1) := hf2.cell p1 (fun h => h)
        dsimp only
        go_wp2_with fail
        refine (rwrap_no A1 p.length c1 h10 w2).mono ?_
        rintro e w3 ⟨⟨G, rfl, hG⟩, hf3⟩
        have hF3 : FaultAt w3 F frW 0 4 := hf3.heap hF (fun h => h)
        have hX := blk_new w3 (.cells #[.slice (some ⟨G, 0, none⟩) 1 1, .int .i64 4] 31)
        have hfx := (Fr.refl no w3).alloc (.cells #[.slice (some ⟨G, 0, none⟩) 1 1, .int .i64 4] 31)
        unfold wrongV
        dsimp only
        go_wp2_with fail
        generalize w3.alloc _ = w4 at *
        generalize w3.heap.size = X at *
        have h04 : Fr no w w4 := HF.out.trans' ((hf2.trans' hf3).trans' hfx)
        refine (tells_c F G frW 0 4 0 rfl (by decide) (by decide) (by decide) (by decide) w4 (HK.out.2.2.fr h04 (fun h => h)) (hfx.heap hF3 (fun h => h)) ⟨hfx.cell hG.1 (fun h => h), hfx.cell hG.2 (fun h => h)⟩).mono ?_
        rintro e w5 ⟨rfl, hf5⟩
        have k1 := blk_cell (hf5.heap hX (fun h => h)) 1
        have h4r : Fr no wr w5 := ((hf2.trans' hf3).trans' hfx).trans' hf5
        have hG1 : gd l (k + 1) = gd l k := by rw [HGS.out, if_neg (by omega), List.append_nil]
        have HG1 := Lib.hid hG1
        have H5 := Lib.hid h4r
        have cv : (convert 24 9 (.slice none 0 0)).run Tryd.prog w5 = .ok (.string ⟨#[]⟩) w5 := Kd.C_string (P := Tryd.prog) (c := 0) (xs := []) Tryd.underlying24 Tryd.underlying5 Tryd.underlying9 ⟨rfl, by decide, fun h => absurd h (Nat.lt_irrefl 0)⟩
        clear hF hF3 hG hX hfx hf2 hf3 hf5 h04 h4r hG1 p1 p2 q1
        dsimp only
        go_wp2
        go_roundg (l.length - (k + 1))
        case measure => omega
        case rel => exact ⟨k + 1, by omega, by go_num, by rw [HG1.out]; exact R_fr HB.out H5.out (fun _ _ h => h), by rw [HG1.out]; exact R_fr HW.out H5.out (fun _ _ h => h), by rw [HG1.out]; exact HOK.out, HF.out.trans' H5.out⟩
      · have hB1 : Bytes [p] := fun y hy => by
          simp only [List.mem_singleton] at hy
          subst hy
          exact ⟨by omega, HPB.out⟩
        have HB1 := Lib.hid hB1
        clear hB1
        go_wp2_with fail
        refine (wrap_yes A1 c1 p HB1.out (by omega) q1 wr HR1.out).mono ?_
        rintro e w2 ⟨⟨A2, c2, rfl, hR2⟩, hf2⟩
        have p2 : w2.cell? (ad.add k) = some (.slice A1 p.length c1) := hf2.cell p1 (fun h => h)
        have HR2 := Lib.hid hR2
        clear hR2
        dsimp only
        go_wp2_with fail
        refine (rwrap_yes A1 c1 p HB1.out (by omega) w2 (C_fr HR1.out hf2)).mono ?_
        rintro e w3 ⟨⟨A3, c3, rfl, hR3⟩, hf3⟩
        have HR3 := Lib.hid hR3
        have hX := blk_new w3 (.cells #[.slice none 0 0, .int .i64 0] 31)
        have hfx := (Fr.refl no w3).alloc (.cells #[.slice none 0 0, .int .i64 0] 31)
        clear hR3
        dsimp only
        go_wp2_with fail
        generalize w3.alloc _ = w4 at *
        generalize w3.heap.size = X at *
        refine (tells_nil .nilIface w4).mono ?_
        rintro e w5 ⟨rfl, hf5⟩
        have k1 := blk_cell (hf5.heap hX (fun h => h)) 1
        have h25 := (hf3.trans' hfx).trans' hf5
        have H5 := Lib.hid (hf2.trans' h25)
        have p5 : w5.cell? (ad.add k) = some (.slice A1 p.length c1) := h25.cell p2 (fun h => h)
        have HC2 := Lib.hid (C_fr (Kd.R_reads' HR2.out).2.2 h25)
        have HC3 := Lib.hid (C_fr (Kd.R_reads' HR3.out).2.2 (hfx.trans' hf5))
        have cv2 := Kd.C_string (P := Tryd.prog) (c := c2) Tryd.underlying24 Tryd.underlying5 Tryd.underlying9 HC2.out
        have cv3 := Kd.C_string (P := Tryd.prog) (c := c3) Tryd.underlying24 Tryd.underlying5 Tryd.underlying9 HC3.out
        rw [fr_len] at cv2 cv3
        obtain ⟨tx, htx⟩ : ∃ t, strOfNums (fr p) = t := ⟨_, rfl⟩
        rw [htx] at cv2 cv3
        clear htx hX hfx hf2 hf3 hf5 h25 p1 p2
        dsimp only
        have h05 : Fr no w w5 := HF.out.trans' H5.out
        have HO1 := Lib.hid (R_fr HB.out H5.out (fun _ _ h => h))
        go_wp2_with (first
          | (at_builtin
             refine Kd.R_append_row (fun n : Int => Value.int .u8 n) (0 : Int) (w0 := w5) 0 rfl (.tmp 66) (.tmp 67) 24 5 (.int .u8 0) 1 rfl Tryd.underlying24 info8 rfl (by decide) _ (frs (gd l k)) (fr p) A2 (p.length + 6) c2 (since w) rfl rfl (fun b hb => Nat.le_trans h05.size hb) HO1.out (by have h := HC2.out; rw [fr_len] at h; exact h) (Below.refl 0 _) (Nat.zero_le _) (by omega) ?_
             intro v1 w6 ho hb1 hg hat
             replace ho : (Kd.int .u8).R 5 w6 0 (since w) v1 (frs (gd l k) ++ fr p) := ho
             have h06 : Fr no w w6 := h05.new' (Fr.of_grown hg (fun b hb _ => HO1.out.1 b hb))
             have HO2 := Lib.hid ho
             have H06 := Lib.hid h06
             have HW6 := Lib.hid (grown_other (R_fr HW.out H5.out (fun _ _ h => h)) HO1.out rfl (by decide) hg)
             have p6 := h06.cell HP0.out (fun h => h)
             clear hat hb1 hg ho h06)
          | (at_builtin
             refine Kd.R_append (kW w) (w0 := w6) 0 rfl (.tmp 69) (.tmp 74) 22 24 (.slice none 0 0) 24 rfl Tryd.underlying22 info24 rfl Nat.one_pos (by decide) (.slice Aw (gd l k).length cw) (gd l k) p [.slice A1 p.length c1] (since w) (fun _ => False) rfl (by simp [go_sem]) ⟨A1, c1, rfl, q1, HR0.out⟩ (fun _ h => h.elim) (fun k hk => Nat.le_trans H06.out.size hk) HW6.out (Below.refl 0 _) (Nat.zero_le _) (by omega) ?_
             intro v8 w8 ho8 hb8 hg8 hat8
             have HO8 := Lib.hid ho8
             have HB8 := Lib.hid (grown_other HO2.out HW6.out rfl (by decide) hg8)
             have H08 : Hid (Fr no w w8) := H06.out.new' (Fr.of_grown hg8 (fun b hb _ => HW6.out.1 b hb))
             clear hat8 hb8 hg8 ho8))
        have hG1 : gd l (k + 1) = gd l k ++ [p] := by rw [HGS.out, if_pos (by omega)]
        have HG1 := Lib.hid hG1
        clear hG1
        go_roundg (l.length - (k + 1))
        case measure => omega
        case rel => exact ⟨k + 1, by omega, by go_num, by rw [HG1.out, frs_append]; simpa [frs] using HB8.out, by rw [HG1.out]; exact HO8.out, fun b hb => by
          rw [HG1.out] at hb
          rcases List.mem_append.1 hb with hb | hb
          · exact HOK.out b hb
          · rw [List.mem_singleton] at hb
            subst hb
            exact ⟨HB1.out, by omega⟩, H08.out⟩
    · obtain rfl : k = l.length := by omega
      rename World => wa
      have hlen := gd_len l l.length (Nat.le_refl _)
      have hle := gd_le l l.length
      obtain ⟨R, hR⟩ : ∃ R, gd l l.length = R := ⟨_, rfl⟩
      rw [hR] at HB HW HOK hlen hle ⊢
      obtain ⟨L, hL⟩ : ∃ L, (frs R).length = L := ⟨_, rfl⟩
      rw [hL] at hlen ⊢
      obtain ⟨K, hK⟩ : ∃ K : Nat, 1 + z = K := ⟨_, rfl⟩
      have hK1 : (1 : Int) + (z : Int) = (K : Int) := by omega
      have hK2 : K ≤ 256 := by omega
      have hK3 : 0 < K := by omega
      have HL := Lib.hid hL
      clear hR hL hK hlt HK
      go_wp2_with fail
      refine (new_c wa).mono ?_
      rintro e w1 ⟨rfl, hst, hf1⟩
      have hS0 : wa.heap.size < w1.heap.size := by obtain ⟨v, h1, _⟩ := hst; exact blk_lt h1
      obtain ⟨S, hS⟩ : ∃ S, wa.heap.size = S := ⟨_, rfl⟩
      rw [hS] at hst
      have HST := Lib.hid hst
      have HF1 := Lib.hid hf1
      have HS := Lib.hid hS
      have HS0 := Lib.hid hS0
      have HBC := Lib.hid (Kd.R_reads' HB.out)
      have HWC := Lib.hid (Kd.R_reads' HW.out)
      rw [hS]
      clear hst hf1 hS hS0
      dsimp only
      go_wp2
      go_loopg [13, 15, 16] (L + 256) (fun q v13 v15 v16 wz => ∃ (p n : Nat) (r : List Int), p + q = L + 256 ∧ v15 = .int .i64 p ∧ kD.R 24 wz 0 (since w1) v13 (R.take n) ∧ Hid (St wz S r n) ∧ Hid (Fed R (min p L) n r) ∧ Fr no wa wz ∧ w1.heap.size ≤ wz.heap.size)
      case atStart => exact ⟨0, 0, [], by omega, rfl, Kd.R_nil _ _ _ _ _, HST, by rw [Nat.zero_min]; exact fed_zero R, HF1.out, Nat.le_refl _⟩
      case round =>
        obtain ⟨p, n, r, hp, rfl, hRg, hSt, hFed, hfz, hz1⟩ := hrel
        obtain ⟨Ag, cg, rfl⟩ := Kd.R_slice hRg
        have HG := Lib.hid hRg
        have HFZ := Lib.hid hfz
        clear hRg hfz
        have hn := hFed.out.1
        have hnl : (R.take n).length = n := by rw [List.length_take]; omega
        rw [hnl] at HG ⊢
        obtain ⟨hcg1, hcg2⟩ := R_cap HG.out
        by_cases hpl : p < L
        · have hm0 : min p L = p := by omega
          have HB3 : (Kd.int .u8).C wr Ab L (frs R) := by
            have := HBC.out.2.2
            rw [HL.out] at this
            exact C_fr this HFZ.out
          have hcb : L ≤ cb := by rw [← HL.out]; exact HBC.out.2.1
          rw [hm0] at hFed
          have hfm := fun K' h1 h2 => feed_more S L K' p n cb R r Ab wr HOK.out HL.out (by omega) HB3 hcb hpl h1 h2 hSt.out hFed.out (by omega)
          have HFM := Lib.hid hfm
          have z1 : p ≤ L := by omega
          have z2 : p < cb := by omega
          clear hfm HB3 hm0 hFed hSt hnl
          have d0 : decide ((p : Int) < (L : Int)) = true := by simp; omega
          by_cases hover : L < p + K
          · have d4 : decide ((L : Int) < (p : Int) + (K : Int)) = true := by simp; omega
            obtain ⟨m, r', hm, hfd, hcall⟩ := HFM.out (L - p) (by omega) (by omega)
            have HC := Lib.hid hcall
            have HFD := Lib.hid hfd
            clear hcall hfd
            go_wp2_with fail
            refine HC.out.mono ?_
            rintro e w3 ⟨⟨A3, rfl, hrow⟩, hst3, hf3⟩
            have hSw : ∀ k, since w1 k → ¬ k = S := fun k hk e => by subst e; have := HS0.out; have := HS.out; unfold since at hk; omega
            have hG3 := R_fr HG.out hf3 hSw
            have hF3 : Fr no wa w3 := HFZ.out.new hf3 (fun k hk => by subst hk; unfold since; rw [HS.out]; exact Nat.le_refl _)
            have hne : some S ≠ (Value.slice Ag n cg).ownBlock := fun e => hSw S (hG3.1 S e.symm) rfl
            have HROW := Lib.hid (hrow.imp_ (Below.refl _ _) (fun _ _ hp => kD.M_mono (fun k hk => (⟨hk, fun e => by
              obtain ⟨inner, ho⟩ := Kd.R_own HG.out
              have := own_lt ho k e.symm
              unfold since at hk
              omega⟩ : since wr k ∧ some k ≠ (Value.slice Ag n cg).ownBlock)) hp))
            have h13 : w1.heap.size ≤ w3.heap.size := Nat.le_trans hz1 hf3.size
            have hs0 := HS0.out
            have HG3 := Lib.hid hG3
            have HF3 := Lib.hid hF3
            have HNE := Lib.hid hne
            have HST3 := Lib.hid hst3
            clear hSw hG3 hF3 hne hrow hst3 hf3 HC
            dsimp only
            go_wp2_with (at_builtin
                         refine Kd.R_append_rows kD (w0 := w3) 0 rfl (.tmp 107) (.tmp 108) 22 24 (.slice none 0 0) 24 rfl Tryd.underlying22 info24 rfl Nat.one_pos (by decide) (.slice Ag n cg) (R.take n) ((R.drop n).take m) A3 m m (since w1) (fun k => since wr k ∧ some k ≠ (Value.slice Ag n cg).ownBlock) rfl rfl HG3.out HROW.out (fun _ _ h => h) (fun k hk => ⟨Nat.le_trans hz1 hk.1, hk.2⟩) (fun k hk => Nat.le_trans h13 hk) (Below.refl 0 _) (Nat.zero_le _) (by rw [List.length_take]; omega) ?_
                         intro v4 w4 ho4 hb4 hg4 hat4
                         have HST4 := Lib.hid (HST3.out.grown HG3.out hg4 HNE.out)
                         have H14 : w1.heap.size ≤ w4.heap.size := Nat.le_trans h13 hg4.size
                         have HF4 : Hid (Fr no wa w4) := HF3.out.new' (Fr.of_grown hg4 (fun b hb _ => Nat.le_trans (Nat.le_of_lt hs0) (HG3.out.1 b hb)))
                         rw [← List.take_add] at ho4
                         have HO4 := Lib.hid ho4
                         clear hat4 hb4 hg4 ho4)
            go_roundg (L + 256 - (p + K))
            case measure => omega
            case rel => exact ⟨p + K, n + m, r', by omega, by go_num, HO4.out, HST4, by rw [show min (p + K) L = p + (L - p) by omega]; exact HFD.out, HF4.out, H14⟩
          · have d4 : decide ((L : Int) < (p : Int) + (K : Int)) = false := by simp; omega
            have z3 : p + K ≤ L := by omega
            obtain ⟨m, r', hm, hfd, hcall⟩ := HFM.out K (by omega) (by omega)
            have HC := Lib.hid hcall
            have HFD := Lib.hid hfd
            clear hcall hfd
            go_wp2_with fail
            refine HC.out.mono ?_
            rintro e w3 ⟨⟨A3, rfl, hrow⟩, hst3, hf3⟩
            have hSw : ∀ k, since w1 k → ¬ k = S := fun k hk e => by subst e; have := HS0.out; have := HS.out; unfold since at hk; omega
            have hG3 := R_fr HG.out hf3 hSw
            have hF3 : Fr no wa w3 := HFZ.out.new hf3 (fun k hk => by subst hk; unfold since; rw [HS.out]; exact Nat.le_refl _)
            have hne : some S ≠ (Value.slice Ag n cg).ownBlock := fun e => hSw S (hG3.1 S e.symm) rfl
            have HROW := Lib.hid (hrow.imp_ (Below.refl _ _) (fun _ _ hp => kD.M_mono (fun k hk => (⟨hk, fun e => by
              obtain ⟨inner, ho⟩ := Kd.R_own HG.out
              have := own_lt ho k e.symm
              unfold since at hk
              omega⟩ : since wr k ∧ some k ≠ (Value.slice Ag n cg).ownBlock)) hp))
            have h13 : w1.heap.size ≤ w3.heap.size := Nat.le_trans hz1 hf3.size
            have hs0 := HS0.out
            have HG3 := Lib.hid hG3
            have HF3 := Lib.hid hF3
            have HNE := Lib.hid hne
            have HST3 := Lib.hid hst3
            clear hSw hG3 hF3 hne hrow hst3 hf3 HC
            dsimp only
            go_wp2_with (at_builtin
                         refine Kd.R_append_rows kD (w0 := w3) 0 rfl (.tmp 107) (.tmp 108) 22 24 (.slice none 0 0) 24 rfl Tryd.underlying22 info24 rfl Nat.one_pos (by decide) (.slice Ag n cg) (R.take n) ((R.drop n).take m) A3 m m (since w1) (fun k => since wr k ∧ some k ≠ (Value.slice Ag n cg).ownBlock) rfl rfl HG3.out HROW.out (fun _ _ h => h) (fun k hk => ⟨Nat.le_trans hz1 hk.1, hk.2⟩) (fun k hk => Nat.le_trans h13 hk) (Below.refl 0 _) (Nat.zero_le _) (by rw [List.length_take]; omega) ?_
                         intro v4 w4 ho4 hb4 hg4 hat4
                         have HST4 := Lib.hid (HST3.out.grown HG3.out hg4 HNE.out)
                         have H14 : w1.heap.size ≤ w4.heap.size := Nat.le_trans h13 hg4.size
                         have HF4 : Hid (Fr no wa w4) := HF3.out.new' (Fr.of_grown hg4 (fun b hb _ => Nat.le_trans (Nat.le_of_lt hs0) (HG3.out.1 b hb)))
                         rw [← List.take_add] at ho4
                         have HO4 := Lib.hid ho4
                         clear hat4 hb4 hg4 ho4)
            go_roundg (L + 256 - (p + K))
            case measure => omega
            case rel => exact ⟨p + K, n + m, r', by omega, by go_num, HO4.out, HST4, by rw [show min (p + K) L = p + (K) by omega]; exact HFD.out, HF4.out, H14⟩
        · have d0 : decide ((p : Int) < (L : Int)) = false := by simp; omega
          have hF := hFed.out
          rw [show min p L = (frs R).length by rw [HL.out]; omega] at hF
          obtain ⟨rfl, rfl⟩ := fed_all hF
          rw [List.take_length] at HG
          have HGC := Lib.hid (kD_C' HG.out)
          have HWC2 := Lib.hid (C_fr (kW_C HWC.out.2.2 HF.out) HFZ.out)
          clear hF hnl hFed
          go_wp2_with fail
          refine (texts_c Ag Aw cg cw R R rfl (by omega) wr HGC.out HWC2.out).mono ?_
          rintro e w3 ⟨rfl, hf3⟩
          have HF3 := Lib.hid (HF.out.trans' (HFZ.out.trans' hf3))
          have HST3 := Lib.hid (hSt.out.fr hf3)
          clear hf3
          dsimp only
          go_wp2_with fail
          refine (held_c S [] _ w3 HST3.out).mono ?_
          rintro e w4 ⟨rfl, rfl⟩
          dsimp only
          go_wp2
          go_ret
          exact ⟨rfl, HF3.out⟩
set_option maxRecDepth 100000 in
set_option maxHeartbeats 8000000 in
theorem back_big (w : World) (A : Option Addr) (c n : Nat) (z : Int) (hn : 20 < n) : Calls Tryd.prog 3 #[.slice A n c, .int .u8 z] w fun e w' => e = .returned (.bool true) ∧ Fr no w w' := by
  have d1 : decide ((20 : Int) < (n : Int)) = true := by simp; omega
  clear hn
  go_enter Tryd.func3, Tryd.ntmps3
  go_wp2_with fail
  refine (known_c w).mono ?_
  rintro e w1 ⟨rfl, hf⟩
  dsimp only
  go_wp2
  go_ret
  exact ⟨rfl, hf⟩
theorem back_row (w : World) (hL : laidMetH Tryd.prog [("errors.errorType", Rows.laid_errors_errorType)] w) (A : Option Addr) (c : Nat) (l : List (List Int)) (z : Int) (hC : kB.C w A l.length l) (hc : l.length ≤ c) (hw : ∀ x ∈ l, ∀ y ∈ x, (Lit.int .u8 y).wf = true) (hz : (Lit.int .u8 z).wf = true) : Calls Tryd.prog 3 #[.slice A l.length c, .int .u8 z] w fun e w' => e = .returned (.bool true) ∧ Fr no w w' := by
  have h' : laidMet Tryd.prog _ w ∧ handlesMet Tryd.prog [("errors.errorType", Rows.laid_errors_errorType)] w := hL
  by_cases h : 20 < l.length
  · exact back_big w A c _ z h
  have hz1 := Go.bounds_u8 hz
  obtain ⟨k, rfl⟩ : ∃ k : Nat, z = k := ⟨z.toNat, by omega⟩
  exact back_c w (errType_of_handles h'.2) A c l k (by omega) hC (fun p hp x hx => by have := Go.bounds_u8 (hw p hp x hx); omega) (by omega)
end Go.Proofs.YtinkdgfdnagplaaDoor.Frame
