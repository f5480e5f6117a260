import Derived.Test.YtkmdnbficoknlaaCodeTwo
import Derived.Test.YtkmdnbficoknlaaPlan
import Derived.Deep.DeepCutAuto
import Derived.Deep.CutBlock
/-! P301: any items go there and back. -/
set_option linter.unusedVariables false
set_option linter.unusedSimpArgs false
namespace Go.Proofs.Ytkmdnbficoknlaa.Codec
open Go.RowKit Go.Proofs.YtkmdnbficoknlaaW.PrintWords Go.Proofs.Ytkmdnbficoknlaa.B

set_option maxHeartbeats 8000000 in
set_option maxRecDepth 4000 in
theorem back_c (w : World) (A : Option Addr) (cap : Nat) (l : List Item) (hC : kItem.C w A l.length l) (hb : ∀ x ∈ l, okIt x) :
    Calls Try.prog 3 #[.slice A l.length cap] w fun e w' => e = .returned (.bool true) ∧ Fr no w w' := by
  have HBy := Lib.hid hb
  clear hb
  go_enter Try.func3, Try.ntmps3
  go_wp2_with fail
  refine (known_c w).mono ?_
  rintro e w1 ⟨rfl, hf⟩
  dsimp only
  by_cases h60 : 60 < l.length
  · go_wp2
    go_ret
    exact ⟨rfl, hf⟩
  have hT := two_new hf
  have hf := (enc_new hf).2
  go_wp2
  generalize w1.heap.size = B at *
  generalize w1.alloc _ = w2 at *
  go_loopg [4, 5] l.length (fun q v i wr => ∃ k : Nat, k + q = l.length ∧ i = .int .i64 k ∧ Hid (∀ x ∈ l.take k, okIt x ∧ x.B.length ≤ 300) ∧ Two w wr B v ((l.take k).flatMap itE) ((l.take k).flatMap itE) ∧ Fr no w wr)
  case atStart => exact ⟨0, by omega, rfl, by simp [Hid], by simpa using hT, hf⟩
  case round =>
    clear hT hf
    obtain ⟨k, hk, rfl, h300, hT, hf⟩ := hrel
    by_cases hlt : k < l.length
    · obtain ⟨ad, A', c, rfl, hc0, hc1, hc2, hcap, hCk⟩ := at_Item hC (k : Int) (by omega) (by omega)
      have hrd : rd_Item l (k : Int) = l[k] := by simp [rd_Item, hlt]
      rw [Int.toNat_natCast] at hc0 hc1 hc2
      rw [hrd] at hc0 hc1 hc2 hcap hCk
      have hcell := fun (W : World) (hW : Fr no w W) => And.intro (hW.cell hc0 (fun h => h)) (And.intro (hW.cell hc1 (fun h => h)) (hW.cell hc2 (fun h => h)))
      have HCELL := Lib.hid hcell
      clear hcell
      obtain ⟨hd0, hd1, hd2⟩ := HCELL.out _ hf
      by_cases hbig : 300 < l[k].B.length
      · go_wp2
        go_ret
        exact ⟨rfl, hf⟩
      · have hok := HBy.out l[k] (List.getElem_mem hlt)
        have hlen : ((l.take k).flatMap itE).length ≤ 20000 := by
          have h1 := its_len (l.take k) h300.out
          have h2 : (l.take k).length ≤ l.length := by rw [List.length_take]; omega
          omega
        have hnx := it_take l k hlt
        have h301 : Hid (∀ x ∈ l.take (k + 1), okIt x ∧ x.B.length ≤ 300) := by
          intro x hx
          rw [List.take_succ_eq_append_getElem hlt] at hx
          rcases List.mem_append.1 hx with h | h
          · exact h300.out x h
          · simp at h; subst h; exact ⟨hok, by omega⟩
        have HOK := Lib.hid hok
        clear h300 hrd hc0 hc1 hc2 hok
        have HNX := Lib.hid hnx
        have HLEN := Lib.hid hlen
        clear hnx hlen
        generalize l[k] = x at *
        obtain ⟨pre, hpre⟩ : ∃ p, (l.take k).flatMap itE = p := ⟨_, rfl⟩
        rw [hpre] at hT HNX HLEN
        clear hpre
        by_cases ht : x.Text = true
        · have HT := Lib.hid ht
          have hcell := fun W hW => (HCELL.out W hW)
          rw [ht] at hd0 hcell
          clear HCELL
          have HCELL := Lib.hid hcell
          clear hcell
          have hie : itE x = encR x.B := by simp [itE, ht]
          rw [hie] at HNX
          clear hie
          go_wp2_with fail
          refine (eRaw_t hT hf c hCk (by have := HLEN.out; omega)).mono ?_
          rintro e w3 ⟨rfl, hT, hf3⟩
          clear hd0 hd1 hd2 hf
          obtain ⟨hd0, hd1, hd2⟩ := HCELL.out _ hf3
          dsimp only
          go_wp2_with fail
          refine (refRaw_c A' c x.B w3 (C_fr hCk hf3) hcap (by omega)).mono ?_
          rintro e w4 ⟨Ar, cr, rfl, hCr, hF⟩
          replace hT := hT.fr hF
          have hf := hf3.trans' hF
          clear hF hf3 hd0 hd1 hd2
          obtain ⟨okE, okW, s1, s2, s3, hE, hR⟩ := hT
          have hpl := HLEN.out
          have hel := (show (encR x.B).length ≤ 310 by have h2 := encI_len x.B.length (by omega) (by omega); simp only [encR, List.length_append]; omega)
          dsimp only
          go_wp2_with (at_builtin
                       refine Kd.R_append_row (fun n : Int => Value.int .u8 n) (0 : Int) (w0 := w4) 0 rfl (.tmp 40) (.tmp 46) 25 5 (.int .u8 0) 1 rfl Try.underlying25 info8 rfl (by decide) _ _ (encR x.B) Ar _ cr (ext okW w4) rfl rfl (fun b hb => .inr hb) (Kd.R_mono hR (fun _ => .inl)) hCr (Below.refl 0 _) (Nat.zero_le _) (by omega) ?_
                       intro v1 w5 ho hb1 hg hat
                       clear hat hb1
                       obtain ⟨hT, hf5⟩ := Two.app hf s1 s2 s3 hE hR ho hg
                       clear ho hg s1 s2 s3 hE hR)
          rw [← HNX.out] at hT
          go_roundg (l.length - (k + 1))
          case rel => exact ⟨k + 1, by omega, by go_num, h301, hT, hf5⟩
          case measure => omega
        · have ht' : x.Text = false := by simpa using ht
          have hcell := fun W hW => (HCELL.out W hW)
          rw [ht'] at hd0 hcell
          clear HCELL
          have HCELL := Lib.hid hcell
          clear hcell
          have hie : itE x = encI x.I := by simp [itE, ht']
          rw [hie] at HNX
          clear hie
          have hi0 := HOK.out.1
          have hi1 := HOK.out.2.1
          go_wp2_with fail
          refine (eInt_t hT hf x.I hi0 hi1 (by have := HLEN.out; omega) (by rfl) (by simp [go_sem])).mono ?_
          rintro e w3 ⟨rfl, hT, hf3⟩
          clear hd0 hd1 hd2 hf
          obtain ⟨hd0, hd1, hd2⟩ := HCELL.out _ hf3
          dsimp only
          go_wp2_with fail
          refine (refInt_c x.I w3 hi0 hi1).mono ?_
          rintro e w4 ⟨Ar, cr, rfl, hCr, hF⟩
          replace hT := hT.fr hF
          have hf := hf3.trans' hF
          clear hF hf3 hd0 hd1 hd2
          obtain ⟨okE, okW, s1, s2, s3, hE, hR⟩ := hT
          have hpl := HLEN.out
          have hel := encI_len x.I hi0 hi1
          dsimp only
          go_wp2_with (at_builtin
                       refine Kd.R_append_row (fun n : Int => Value.int .u8 n) (0 : Int) (w0 := w4) 0 rfl (.tmp 56) (.tmp 62) 25 5 (.int .u8 0) 1 rfl Try.underlying25 info8 rfl (by decide) _ _ (encI x.I) Ar _ cr (ext okW w4) rfl rfl (fun b hb => .inr hb) (Kd.R_mono hR (fun _ => .inl)) hCr (Below.refl 0 _) (Nat.zero_le _) (by omega) ?_
                       intro v1 w5 ho hb1 hg hat
                       clear hat hb1
                       obtain ⟨hT, hf5⟩ := Two.app hf s1 s2 s3 hE hR ho hg
                       clear ho hg s1 s2 s3 hE hR)
          rw [← HNX.out] at hT
          go_roundg (l.length - (k + 1))
          case rel => exact ⟨k + 1, by omega, by go_num, h301, hT, hf5⟩
          case measure => omega
    · obtain rfl : k = l.length := by omega
      rw [List.take_length] at hT h300
      have hlen := its_len l h300.out
      have hbb : ∀ y ∈ l.flatMap itE, 0 ≤ y ∧ y < 256 := by
        intro y hy
        obtain ⟨x, h1, h2⟩ := List.mem_flatMap.1 hy
        exact itE_bytes x (h300.out x h1).1 (h300.out x h1).2 y h2
      obtain ⟨bs, hbs⟩ : ∃ b, l.flatMap itE = b := ⟨_, rfl⟩
      rw [hbs] at hlen hbb hT
      have HL := Lib.hid (show bs.length ≤ 20000 by omega)
      have HBB := Lib.hid hbb
      have HEQ := Lib.hid hbs
      clear hlen hbb hbs
      obtain ⟨okE, okW, s1, s2, s3, hE, hR⟩ := hT
      obtain ⟨Aw, cw, rfl⟩ := Kd.R_slice hR
      obtain ⟨hcw, _⟩ := R_cap hR
      have hCw := (Kd.R_reads' hR).2.2
      have hconv : ∀ (W : World) (A : Option Addr) (c : Nat), (Kd.int .u8).C W A bs.length bs → (convert 25 9 (.slice A bs.length c)).run Try.prog W = .ok (.string (strOfNums bs)) W := fun W A c h => Kd.C_string (P := Try.prog) (c := c) Try.underlying25 Try.underlying5 Try.underlying9 h
      have q3 := C_fr hCw ((Fr.refl no wr).drew)
      have hE3 := hE.fr ((Fr.refl no wr).drew) (fun _ _ h => h)
      have hf3 := Fr.drew hf
      clear s1 s2 s3 hE hR hCw
      go_upto_region 17 with (fail)
      go_cut [69] (fun v wc => v = .bool false ∧ (Kd.int .u8).C wc Aw bs.length bs ∧ Fr no w wc)
      case first =>
        have hcv := hconv _ Aw cw q3
        refine wp_region_plan (fun x => (convert 25 9 (.slice Aw bs.length cw)).run Try.prog x = .ok (.string (strOfNums bs)) x) [(0, false), (3, false), (4, false), (1, true), (2, false), (5, false)] (by kernel_rfl) (by kernel_rfl) (fun _ _ _ _ _ h => h) (hcv) ?_
        simp only [planOps, List.getElem?_toArray, List.getElem?_cons_succ, List.getElem?_cons_zero]
        repeat (first
          | (refine plan_step (by rfl) ?_; apply Exists.intro; refine ⟨fun x hSx => ?_, ?_⟩; ((try dsimp only at hSx); go_simp; (try with_reducible rfl)); (simp only [Act.put, List.setIfInBounds_toArray, List.set_cons_zero, List.set_cons_succ]))
          | (refine plan_skip (by rfl) ?_; (simp only [Act.put, List.setIfInBounds_toArray, List.set_cons_zero, List.set_cons_succ])))
        refine plan_run (by rfl) (fun K hK => ?_)
        go_simp
        refine (bytes_s hE3 (by have := HL.out; omega)).mono ?_
        rintro e w6 ⟨A4, rfl, hC4, hF4⟩
        have q1 := C_fr q3 hF4
        have hf4 := hf3.trans' hF4
        have hcv2 := hconv _ A4 bs.length hC4
        dsimp only
        refine hK.out (fun x => (convert 25 9 (.slice A4 bs.length bs.length)).run Try.prog x = .ok (.string (strOfNums bs)) x) _ _ (hconv _ Aw cw q1) (hcv2) ?_
        clear hK K
        try simp only [Act.put, List.setIfInBounds_toArray, List.set_cons_zero, List.set_cons_succ]
        repeat (first
          | (refine plan_step (by rfl) ?_; apply Exists.intro; refine ⟨fun x hSx => ?_, ?_⟩; ((try dsimp only at hSx); go_simp; (try with_reducible rfl)); (simp only [Act.put, List.setIfInBounds_toArray, List.set_cons_zero, List.set_cons_succ]))
          | (refine plan_skip (by rfl) ?_; (simp only [Act.put, List.setIfInBounds_toArray, List.set_cons_zero, List.set_cons_succ])))
        refine plan_done ?_
        go_wp2_with fail
        go_meet
        case rel => exact ⟨rfl, q1, hf4⟩
      case rest =>
        clear hE3 hconv q3 hf3 hf
        obtain ⟨rfl, q1, hf4⟩ := hcut
        go_wp2_with fail
        refine (of_c Aw cw bs _ q1 hcw (by have := HL.out; omega)).mono ?_
        rintro e w7 ⟨D, rfl, hD, hF⟩
        replace hD := hD.mono (ok' := since w) (fun k hk => Nat.le_trans hf4.size hk)
        replace hf4 := hf4.trans' hF
        clear hF q1
        dsimp only
        go_wp2
        go_loopg [7] l.length (fun q i wr => ∃ k : Nat, k + q = l.length ∧ i = .int .i64 k ∧ Decs wr (since w) D bs ((l.take k).flatMap itE).length none ∧ Fr no w wr)
        case atStart => exact ⟨0, by omega, rfl, by simpa using hD, hf4⟩
        case round =>
          clear hD hf4
          obtain ⟨k, hk, rfl, hD, hf⟩ := hrel
          by_cases hlt : k < l.length
          · obtain ⟨ad, A', c, rfl, hc0, hc1, hc2, hcap, hCk⟩ := at_Item hC (k : Int) (by omega) (by omega)
            have hrd : rd_Item l (k : Int) = l[k] := by simp [rd_Item, hlt]
            rw [Int.toNat_natCast] at hc0 hc1 hc2
            rw [hrd] at hc0 hc1 hc2 hcap hCk
            have hcell := fun (W : World) (hW : Fr no w W) => And.intro (hW.cell hc0 (fun h => h)) (And.intro (hW.cell hc1 (fun h => h)) (hW.cell hc2 (fun h => h)))
            have HCELL := Lib.hid hcell
            have hok := h300.out l[k] (List.getElem_mem hlt)
            have hsp := it_split l k hlt []
            rw [List.append_nil, List.append_nil, HEQ.out] at hsp
            have hnx : (((l.take (k + 1)).flatMap itE).length : Int) = ((l.take k).flatMap itE).length + (itE l[k]).length := by rw [it_take l k hlt]; simp
            have hle : (((l.take k).flatMap itE).length : Int) ≤ bs.length := by have := congrArg List.length hsp; simp only [List.length_append] at this; omega
            clear hcell hc0 hc1 hc2 hrd
            generalize l[k] = x at *
            obtain ⟨pre, hpre⟩ : ∃ p, (l.take k).flatMap itE = p := ⟨_, rfl⟩
            rw [hpre] at hD hnx hle hsp
            obtain ⟨⟨i0, i1, _⟩, x300⟩ := hok
            have HNX := Lib.hid hnx
            have HLE := Lib.hid hle
            have hf3 := Fr.drew hf
            have hD3 := hD.fr ((Fr.refl no wr).drew) (fun _ _ h => h)
            clear hnx hle hpre
            by_cases ht : x.Text = true
            · have hie : itE x = encR x.B := by simp [itE, ht]
              rw [hie] at hsp HNX
              have hdr : dRaw bs (pre.length : Int) = (x.B, (pre.length : Int) + ((encR x.B).length : Int), (none : Option (Int × Int))) :=
                (congrArg (fun b => dRaw b (pre.length : Int)) hsp).trans (dRaw_enc _ _ _ (by omega) _ rfl)
              have HDR := Lib.hid hdr
              clear hdr hsp hie
              have hcell := fun W hW => (HCELL.out W hW)
              rw [ht] at hcell
              have HCELL2 := Lib.hid hcell
              clear HCELL hcell ht
              obtain ⟨hd0, hd1, hd2⟩ := HCELL2.out _ hf
              have hconv : ∀ (W : World) (A : Option Addr) (c : Nat), (Kd.int .u8).C W A x.B.length x.B → (convert 25 9 (.slice A x.B.length c)).run Try.prog W = .ok (.string (strOfNums x.B)) W := fun W A c h => Kd.C_string (P := Try.prog) (c := c) Try.underlying25 Try.underlying5 Try.underlying9 h
              have q3 := C_fr hCk hf3
              go_upto_region 23 with (fail)
              go_cut [112] (fun v wc => v = .bool false ∧ Decs wc (since w) D bs ((l.take (k + 1)).flatMap itE).length none ∧ Fr no w wc)
              case first =>
                clear hd0 hd1 hd2
                obtain ⟨hd0, hd1, hd2⟩ := HCELL2.out _ hf3
                have hcv := hconv _ A' c q3
                have HCONV := Lib.hid hconv
                clear hconv hcap
                refine wp_region_plan (fun u => u.cell? (ad.add (k * 3)) = some (.bool true) ∧ u.cell? ⟨(ad.add (k * 3)).block, (ad.add (k * 3)).off + 2, none⟩ = some (.slice A' x.B.length c) ∧ (convert 25 9 (.slice A' x.B.length c)).run Try.prog u = .ok (.string (strOfNums x.B)) u) [(0, false), (1, false), (2, false), (3, false), (4, false), (5, false), (6, false), (9, false), (10, false), (11, false), (12, false), (13, false), (14, false), (7, true), (8, false), (15, false), (16, false), (17, false), (18, false), (19, false), (20, false), (21, false), (22, false), (23, false), (24, false), (25, false), (27, false), (28, false), (29, false), (30, false), (31, false), (26, true), (32, false), (33, false), (34, false)] (by kernel_rfl) (by kernel_rfl) (fun _ _ _ _ _ h => h) (⟨hd0, hd2, hcv⟩) ?_
                simp only [planOps, List.getElem?_toArray, List.getElem?_cons_succ, List.getElem?_cons_zero]
                repeat (first
                  | (refine plan_step (by rfl) ?_; apply Exists.intro; refine ⟨fun x hSx => ?_, ?_⟩; ((try dsimp only at hSx); go_simp; (try with_reducible rfl)); (simp only [Act.put, List.setIfInBounds_toArray, List.set_cons_zero, List.set_cons_succ]))
                  | (refine plan_skip (by rfl) ?_; (simp only [Act.put, List.setIfInBounds_toArray, List.set_cons_zero, List.set_cons_succ])))
                refine plan_run (by rfl) (fun K hK => ?_)
                go_simp
                refine (dRaw_s hD3 hf3 (by omega) HLE.out (by have := HL.out; omega) HBB.out _ HDR.out).mono ?_
                rintro e w6 ⟨A4, rfl, hC4, hD4, hF4, hf4⟩
                obtain ⟨he0, he1, he2⟩ := HCELL2.out _ hf4
                have q1 := C_fr hCk hf4
                dsimp only at hC4 hD4
                have hcv2 := HCONV.out _ A4 x.B.length hC4
                dsimp only
                refine hK.out (fun u => (convert 25 9 (.slice A4 x.B.length x.B.length)).run Try.prog u = .ok (.string (strOfNums x.B)) u) _ _ (⟨he0, he2, HCONV.out _ A' c q1⟩) (hcv2) ?_
                clear hK K
                try simp only [Act.put, List.setIfInBounds_toArray, List.set_cons_zero, List.set_cons_succ]
                repeat (first
                  | (refine plan_step (by rfl) ?_; apply Exists.intro; refine ⟨fun x hSx => ?_, ?_⟩; ((try dsimp only at hSx); go_simp; (try with_reducible rfl)); (simp only [Act.put, List.setIfInBounds_toArray, List.set_cons_zero, List.set_cons_succ]))
                  | (refine plan_skip (by rfl) ?_; (simp only [Act.put, List.setIfInBounds_toArray, List.set_cons_zero, List.set_cons_succ])))
                refine plan_void (by rfl) (⟨⟨he0, he2, HCONV.out _ A' c q1⟩, hcv2⟩) ?_
                try simp only [Act.put, List.setIfInBounds_toArray, List.set_cons_zero, List.set_cons_succ]
                repeat (first
                  | (refine plan_step (by rfl) ?_; apply Exists.intro; refine ⟨fun x hSx => ?_, ?_⟩; ((try dsimp only at hSx); go_simp; (try with_reducible rfl)); (simp only [Act.put, List.setIfInBounds_toArray, List.set_cons_zero, List.set_cons_succ]))
                  | (refine plan_skip (by rfl) ?_; (simp only [Act.put, List.setIfInBounds_toArray, List.set_cons_zero, List.set_cons_succ])))
                refine plan_done ?_
                go_wp2_with fail
                go_meet
                case rel => exact ⟨rfl, by rw [HNX.out]; exact hD4, hf4⟩
              case rest =>
                obtain ⟨rfl, hD4, hf4⟩ := hcut
                go_wp2
                go_roundg (l.length - (k + 1))
                case rel => exact ⟨k + 1, by omega, by go_num, hD4, hf4⟩
                case measure => omega
            · have ht' : x.Text = false := by simpa using ht
              have hie : itE x = encI x.I := by simp [itE, ht']
              rw [hie] at hsp HNX
              have hdr : dInt bs (pre.length : Int) = (x.I, (pre.length : Int) + ((encI x.I).length : Int), (none : Option (Int × Int))) :=
                (congrArg (fun b => dInt b (pre.length : Int)) hsp).trans (dInt_enc _ _ _ i0 i1 _ rfl)
              have HDR := Lib.hid hdr
              clear hdr hsp hie
              have hcell := fun W hW => (HCELL.out W hW)
              rw [ht'] at hcell
              have HCELL2 := Lib.hid hcell
              clear HCELL hcell ht ht'
              obtain ⟨hd0, hd1, hd2⟩ := HCELL2.out _ hf
              go_upto_region 23 with (fail)
              go_cut [112] (fun v wc => v = .bool false ∧ Decs wc (since w) D bs ((l.take (k + 1)).flatMap itE).length none ∧ Fr no w wc)
              case first =>
                clear hd0 hd1 hd2
                obtain ⟨hd0, hd1, hd2⟩ := HCELL2.out _ hf3
                refine wp_region_plan (fun u => u.cell? (ad.add (k * 3)) = some (.bool false) ∧ u.cell? ⟨(ad.add (k * 3)).block, (ad.add (k * 3)).off + 1, none⟩ = some (.int .i64 x.I)) [(0, false), (1, false), (2, false), (3, false), (4, false), (5, false), (6, false), (9, false), (10, false), (11, false), (12, false), (13, false), (14, false), (7, true), (8, false), (15, false), (16, false), (17, false), (18, false), (19, false), (20, false), (21, false), (22, false), (23, false), (24, false), (25, false), (27, false), (28, false), (29, false), (30, false), (31, false), (26, true), (32, false), (33, false), (34, false)] (by kernel_rfl) (by kernel_rfl) (fun _ _ _ _ _ h => h) (⟨hd0, hd1⟩) ?_
                simp only [planOps, List.getElem?_toArray, List.getElem?_cons_succ, List.getElem?_cons_zero]
                repeat (first
                  | (refine plan_step (by rfl) ?_; apply Exists.intro; refine ⟨fun x hSx => ?_, ?_⟩; ((try dsimp only at hSx); go_simp; (try with_reducible rfl)); (simp only [Act.put, List.setIfInBounds_toArray, List.set_cons_zero, List.set_cons_succ]))
                  | (refine plan_skip (by rfl) ?_; (simp only [Act.put, List.setIfInBounds_toArray, List.set_cons_zero, List.set_cons_succ])))
                refine plan_void (by rfl) (⟨hd0, hd1⟩) ?_
                try simp only [Act.put, List.setIfInBounds_toArray, List.set_cons_zero, List.set_cons_succ]
                repeat (first
                  | (refine plan_step (by rfl) ?_; apply Exists.intro; refine ⟨fun x hSx => ?_, ?_⟩; ((try dsimp only at hSx); go_simp; (try with_reducible rfl)); (simp only [Act.put, List.setIfInBounds_toArray, List.set_cons_zero, List.set_cons_succ]))
                  | (refine plan_skip (by rfl) ?_; (simp only [Act.put, List.setIfInBounds_toArray, List.set_cons_zero, List.set_cons_succ])))
                refine plan_run (by rfl) (fun K hK => ?_)
                go_simp
                refine (dInt_s hD3 hf3 (by omega) HLE.out (by have := HL.out; omega) HBB.out _ HDR.out).mono ?_
                rintro e w6 ⟨rfl, hD4, hF4, hf4⟩
                obtain ⟨he0, he1, he2⟩ := HCELL2.out _ hf4
                dsimp only at hD4
                dsimp only
                refine hK.out (fun u => True) _ _ (⟨⟨he0, he1⟩, trivial⟩) (trivial) ?_
                clear hK K
                try simp only [Act.put, List.setIfInBounds_toArray, List.set_cons_zero, List.set_cons_succ]
                repeat (first
                  | (refine plan_step (by rfl) ?_; apply Exists.intro; refine ⟨fun x hSx => ?_, ?_⟩; ((try dsimp only at hSx); go_simp; (try with_reducible rfl)); (simp only [Act.put, List.setIfInBounds_toArray, List.set_cons_zero, List.set_cons_succ]))
                  | (refine plan_skip (by rfl) ?_; (simp only [Act.put, List.setIfInBounds_toArray, List.set_cons_zero, List.set_cons_succ])))
                refine plan_done ?_
                go_wp2_with fail
                go_meet
                case rel => exact ⟨rfl, by rw [HNX.out]; exact hD4, hf4⟩
              case rest =>
                obtain ⟨rfl, hD4, hf4⟩ := hcut
                go_wp2
                go_roundg (l.length - (k + 1))
                case rel => exact ⟨k + 1, by omega, by go_num, hD4, hf4⟩
                case measure => omega
          · obtain rfl : k = l.length := by omega
            rw [List.take_length, HEQ.out] at hD
            go_wp2_with fail
            refine (left_n hD (by omega) (Int.le_refl _) 0 (by omega)).mono ?_
            rintro e w8 ⟨rfl, hF⟩
            replace hD := hD.fr hF (fun _ _ h => h)
            dsimp only
            go_wp2_with fail
            refine (err_n hD).mono ?_
            rintro e w9 ⟨rfl, rfl⟩
            dsimp only
            go_wp2
            go_ret
            exact ⟨rfl, hf.trans' hF⟩
theorem back_row (w : World) (A : Option Addr) (cap : Nat) (xs : List Item) (hC : kItem.C w A xs.length xs) (_ : xs.length ≤ cap) (hw : ∀ x ∈ xs, wfItem x) :
    Calls Try.prog 3 #[.slice A xs.length cap] w fun e w' => e = .returned (.bool true) ∧ Fr no w w' := back_c w A cap xs hC (fun x hx => by
  obtain ⟨_, h1, h2⟩ := hw x hx
  have h3 := Go.bounds_i64 h1
  exact ⟨h3.1, by omega, fun y hy => by have := Go.bounds_u8 (h2 y hy); omega⟩)
end Go.Proofs.Ytkmdnbficoknlaa.Codec
