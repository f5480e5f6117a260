import Derived.Test.YtdlefdlnnclcaaaDoorRiskV
import Derived.Deep.DeepCutAuto
import Derived.Deep.CutBlock
/-! Walk of RiskPlays. -/
set_option linter.unusedVariables false
set_option linter.unusedSimpArgs false
namespace Go.Proofs.YtdlefdlnnclcaaaDoor.Risk
open Go.RowKit Go.Maps Go.Proofs.YtdlefdlnnclcaaaDoorW.PrintWords Go.Proofs.YtdlefdlnnclcaaaDoor.B Go.Proofs.YtdlefdlnnclcaaaDoor.Err
open Go.Proofs.YtdlefdlnnclcaaaDoor.Num (mulF)

theorem join4 {α β γ δ : Type} {R : Prop} {H G : α → β → γ → δ → Prop} (h1 : (∀ x y z t, H x y z t → G x y z t) → R) (h2 : ∀ x y z t, H x y z t → G x y z t) : R := h1 h2
set_option maxRecDepth 100000 in
set_option maxHeartbeats 40000000 in
theorem plays_c (w : World) (hg : ErrType w) (L : Lim) (hl : LimOk L) (A : Option Addr) (cap : Nat) (l : List Act) (o : Int) (hC : kAct.C w A l.length l) (hb : ∀ x ∈ l, okAct x) (ho : (Lit.int .i64 o).wf = true) (hn : l.length ≤ 80) :
    Calls Tryd.prog 3 #[limV L, .slice A l.length cap, .int .i64 o] w fun e w' => e = .returned (.bool true) ∧ Fr no w w' := by
  have d1 : decide ((80 : Int) < (l.length : Int)) = false := by simp; omega
  have hfa := (Fr.refl no w).alloc (.cells #[.int .i64 L.qty, .int .i64 L.money, .int .i64 L.orders] 23)
  have hX := blk_new w (.cells #[.int .i64 L.qty, .int .i64 L.money, .int .i64 L.orders] 23)
  have HG := Lib.hid hg
  have HA := Lib.hid hfa
  have HC := Lib.hid hC
  have HBy := Lib.hid hb
  have HWF := Lib.hid ho
  have HN := Lib.hid (fun (w0 W : World) (h : Fr no w0 W) => new_t (w0 := w0) (w := W) L hl h)
  have HO := Lib.hid (fun W => of_c L W)
  have HK := Lib.hid (fun W => check_ok L hl W)
  have hr := fun W => rlim_c L W
  rw [limB_ok.2 hl, if_pos rfl] at hr
  have HR := Lib.hid hr
  have HRA := Lib.hid (fun (u : Use) (p q : Int) h1 h2 h3 h4 h5 h6 W => rask_c L u p q h1 h2 h3 h4 h5 h6 hl.m2 W)
  have HL := Lib.hid hl
  unfold limV at HN HO HK HR HRA ⊢
  clear hg hfa hr hl hC hb ho
  go_enter Tryd.func3, Tryd.ntmps3
  go_wp2_with fail
  generalize w.alloc _ = wa at *
  generalize w.heap.size = X at *
  refine (known_c _ (HG.out.fr HA.out (fun h => h))).mono ?_
  rintro e wb ⟨rfl, hf1⟩
  have hXb := Lib.hid (hf1.heap hX (fun h => h))
  have b0 := blk_cell hXb.out 0
  have b1 := blk_cell hXb.out 1
  have b2 := blk_cell hXb.out 2
  have HFB := Lib.hid (HA.out.trans' hf1)
  clear hf1 hX HA
  dsimp only
  go_wp2_with fail
  refine (HN.out wb wb (Fr.refl no wb)).mono ?_
  rintro e w2 ⟨B, M, rfl, hRk⟩
  have hX2 := hRk.fr.heap hXb.out (fun h => h)
  have c0 := blk_cell hX2 0
  have c1 := blk_cell hX2 1
  have c2 := blk_cell hX2 2
  have HRK := Lib.hid hRk
  clear b0 b1 b2 hRk
  dsimp only
  go_wp2_with fail
  refine (HO.out _).mono ?_
  rintro e w3 ⟨rfl, hf3⟩
  dsimp only
  go_wp2_with fail
  refine (HR.out _).mono ?_
  rintro e w4 ⟨rfl, hf4⟩
  have hX4 := hf4.heap (hf3.heap hX2 (fun h => h)) (fun h => h)
  have e0 := blk_cell hX4 0
  have e1 := blk_cell hX4 1
  have e2 := blk_cell hX4 2
  have HRK4 := Lib.hid ((HRK.out.go hf3).go hf4)
  clear c0 c1 c2 hf3 hf4 hX2 HRK
  dsimp only
  go_wp2_with fail
  refine (HK.out _).mono ?_
  rintro e w5 ⟨rfl, hf5⟩
  have HRK5 := Lib.hid (HRK4.out.go hf5)
  clear hf5 HRK4 hX4 e0 e1 e2 HN HR HK
  dsimp only
  go_wp2
  go_loopg [10, 11] l.length (fun q v10 v11 wr => ∃ (k n : Nat) (m : List LUsed) (f : Int → Use), k + q = l.length ∧ v11 = .int .i64 k ∧ Hid (n ≤ k) ∧ Hid (m.length ≤ k) ∧ Hid (Okm m f) ∧ Hid (Rk wb wr B M n L f) ∧ Hid (kLUsed.R 38 wr 0 (fun k => since wb k ∧ k ≠ M) v10 m))
  case atStart => exact ⟨0, 0, [], _, by omega, rfl, Nat.le_refl _, Nat.le_refl _, Okm.nil, HRK5, Kd.R_nil _ _ _ _ _⟩
  case round =>
    clear HRK5
    obtain ⟨k, n, m, f, hk, rfl, Hn, Hm, HOk, HRk, HR⟩ := hrel
    obtain ⟨Am, cm, rfl⟩ := Kd.R_slice HR.out
    by_cases hlt : k < l.length
    · have hfw : Fr no w wr := HFB.out.trans' HRk.out.fr
      obtain ⟨ad, rfl, hc0, hc1, hc2, hc3, hc4⟩ := at_Act HC.out (k : Int) (by omega) (by omega)
      have hrd : rd_Act l (k : Int) = l[k] := by simp [rd_Act, hlt]
      rw [Int.toNat_natCast, hrd] at hc0 hc1 hc2 hc3 hc4
      replace hc0 := hfw.cell hc0 (fun h => h)
      replace hc1 := hfw.cell hc1 (fun h => h)
      replace hc2 := hfw.cell hc2 (fun h => h)
      replace hc3 := hfw.cell hc3 (fun h => h)
      replace hc4 := hfw.cell hc4 (fun h => h)
      obtain ⟨ow, ⟨p0, p1⟩, q0, q1⟩ := HBy.out l[k] (List.getElem_mem hlt)
      have HOW := Lib.hid ow
      clear hrd hfw ow
      generalize l[k] = x at *
      have hfa := (Fr.refl no wr).alloc (.cells #[.int .i64 x.Op, .int .i64 x.Owner, .int .i64 x.Price, .int .i64 x.Qty, .bool x.Whole] 36)
      have hX12 := blk_new wr (.cells #[.int .i64 x.Op, .int .i64 x.Owner, .int .i64 x.Price, .int .i64 x.Qty, .bool x.Whole] 36)
      have HRka := Lib.hid (HRk.out.go hfa)
      have HRa := Lib.hid (R_fr HR.out hfa (fun _ _ h => h))
      have HX12 := Lib.hid hX12
      have hk0 : (0 : Int) ≤ (k : Int) := by omega
      have hk1 : (k : Int) < (l.length : Int) := by omega
      have dk : decide ((k : Int) < (l.length : Int)) = true := by simp; omega
      clear hfa hX12 HRk HR
      go_wp2
      generalize wr.alloc _ = wk at *
      generalize wr.heap.size = Y at *
      clear hc0 hc1 hc2 hc3 hc4
      go_loopg [13, 14] m.length (fun q v13 v14 wz => ∃ (j : Nat) (a : Int), j + q = m.length ∧ v14 = .int .i64 j ∧ v13 = .int .i64 a ∧ Hid (Fnd m x.Owner j a) ∧ Hid (Fr no wk wz))
      case atStart => exact ⟨0, -1, by omega, rfl, rfl, .inl ⟨rfl, fun i _ h => absurd h (Nat.not_lt_zero i)⟩, Fr.refl _ _⟩
      case round =>
        obtain ⟨j, a, hj, rfl, rfl, hfn, hfz⟩ := hrel
        have hmb : m.length ≤ 80 := by have := Hm.out; omega
        by_cases hjl : j < m.length
        · obtain ⟨gm, cx, he, _, _, _⟩ := Kd.R_form HRa.out (by omega)
          injection he with he1 he2 he3
          subst he1
          obtain ⟨g0, _, _, _⟩ := lu_cells (R_fr HRa.out hfz.out.drew (fun _ _ h => h)) j hjl
          have y1 : wr.drew.cell? ⟨Y, 1, none⟩ = some (.int .i64 x.Owner) := blk_cell ((hfz.out.drew).heap HX12.out (fun h => h)) 1
          have j0 : (0 : Int) ≤ (j : Int) := by omega
          have j1 : (j : Int) < (m.length : Int) := by omega
          have dj : decide ((j : Int) < (m.length : Int)) = true := by simp; omega
          have HFZ := Lib.hid hfz.out.drew
          have HFN := hfn
          obtain ⟨oj, hoj⟩ : ∃ oj, m[j].owner = oj := ⟨_, rfl⟩
          rw [hoj] at g0
          have HOJ := Lib.hid hoj
          have HJL := Lib.hid hjl
          clear he2 he3 hoj hfn
          by_cases heq : oj = x.Owner
          · have dq : (oj == x.Owner) = true := by simp [heq]
            have HEQ := Lib.hid heq
            clear heq
            go_wp2_with fail
            refine wp_region_plan (fun u' => u'.cell? ⟨gm, j * 3, none⟩ = some (.int .i64 oj) ∧ u'.cell? ⟨Y, 1, none⟩ = some (.int .i64 x.Owner)) [(0, false), (1, false), (2, false), (3, false), (4, false), (5, false), (6, false), (7, false)] (by kernel_rfl) (by kernel_rfl) (fun _ _ _ _ _ h => h) (⟨g0, y1⟩) ?_
            simp only [planOps, List.getElem?_toArray, List.getElem?_cons_succ, List.getElem?_cons_zero]
            repeat (first
              | (refine plan_step (by rfl) ?_; apply Exists.intro; refine ⟨fun x hSx => ?_, ?_⟩; ((try dsimp only at hSx); go_simp; (try rw [if_neg (by omega)]); (try with_reducible rfl)); (simp only [Act.put, List.setIfInBounds_toArray, List.set_cons_zero, List.set_cons_succ]))
              | (refine plan_skip (by rfl) ?_; (simp only [Act.put, List.setIfInBounds_toArray, List.set_cons_zero, List.set_cons_succ])))
            refine plan_done ?_
            go_wp2
            go_roundg (m.length - (j + 1))
            case measure => omega
            case rel => exact ⟨j + 1, j, by have := HJL.out; omega, by go_num, rfl, .inr ⟨j, HJL.out, rfl, Nat.lt_succ_self j, HOJ.out.trans HEQ.out⟩, HFZ⟩
          · have dq : (oj == x.Owner) = false := by simp [heq]
            have HEQ := Lib.hid heq
            clear heq
            go_wp2_with fail
            refine wp_region_plan (fun u' => u'.cell? ⟨gm, j * 3, none⟩ = some (.int .i64 oj) ∧ u'.cell? ⟨Y, 1, none⟩ = some (.int .i64 x.Owner)) [(0, false), (1, false), (2, false), (3, false), (4, false), (5, false), (6, false), (7, false)] (by kernel_rfl) (by kernel_rfl) (fun _ _ _ _ _ h => h) (⟨g0, y1⟩) ?_
            simp only [planOps, List.getElem?_toArray, List.getElem?_cons_succ, List.getElem?_cons_zero]
            repeat (first
              | (refine plan_step (by rfl) ?_; apply Exists.intro; refine ⟨fun x hSx => ?_, ?_⟩; ((try dsimp only at hSx); go_simp; (try rw [if_neg (by omega)]); (try with_reducible rfl)); (simp only [Act.put, List.setIfInBounds_toArray, List.set_cons_zero, List.set_cons_succ]))
              | (refine plan_skip (by rfl) ?_; (simp only [Act.put, List.setIfInBounds_toArray, List.set_cons_zero, List.set_cons_succ])))
            refine plan_done ?_
            go_wp2
            go_roundg (m.length - (j + 1))
            case measure => omega
            case rel => exact ⟨j + 1, a, by have := HJL.out; omega, by go_num, rfl, by
              rcases HFN.out with ⟨h1, h2⟩ | ⟨i, h1, h2, h3, h4⟩
              · refine .inl ⟨h1, fun i h hi => ?_⟩
                rcases Nat.lt_succ_iff_lt_or_eq.1 hi with h3 | rfl
                · exact h2 i h h3
                · exact fun e => HEQ.out (HOJ.out.symm.trans e)
              · exact .inr ⟨i, h1, h2, Nat.lt_succ_of_lt h3, h4⟩, HFZ⟩
        · obtain rfl : j = m.length := by omega
          have dj : decide ((m.length : Int) < (m.length : Int)) = false := by simp
          have hml : m.length ≤ 80 := by have := Hm.out; omega
          clear hj hjl
          go_upto_if 86 with (fail)
          go_cut [10, 13] (fun v10 v13 wc => ∃ (m' : List LUsed) (i g c' : Nat), v10 = .slice (some ⟨g, 0, none⟩) m'.length c' ∧ v13 = .int .i64 (i : Int) ∧ (∃ h : i < m'.length, m'[i].owner = x.Owner) ∧ m'.length ≤ k + 1 ∧ Hid (Okm m' f) ∧ Hid (kLUsed.R 38 wc 0 (fun k => since wb k ∧ k ≠ M) v10 m') ∧ Hid (Fr no wk wc))
          case first => as_aux_lemma =>
            rcases hfn.out with ⟨rfl, hno⟩ | ⟨i, hi, rfl, _, hio⟩
            rotate_left
            · have di : decide ((i : Int) < 0) = false := by simp
              obtain ⟨g, c', he, _, _, _⟩ := Kd.R_form HRa.out (by omega)
              injection he with he1 he2 he3
              subst he1
              have HI := Lib.hid hi
              have HIO := Lib.hid hio
              clear hio he2 he3
              go_wp2_with fail
              go_meet
              case rel => exact ⟨m, i, g, cm, rfl, rfl, ⟨HI.out, HIO.out⟩, by have := Hm.out; omega, HOk, R_fr HRa.out hfz.out (fun _ _ h => h), hfz⟩
            · have hno2 : ∀ y ∈ m, y.owner ≠ x.Owner := fun y hy => by
                obtain ⟨j, hj, rfl⟩ := List.getElem_of_mem hy
                exact hno j hj hj
              have HNO := Lib.hid hno2
              clear hno hno2
              have hfd := hfz.out.drew
              have HTk0 := Lib.hid (C_fr (Kd.R_reads' HRa.out).2.2 hfd)
              have hXd : wr.drew.cell? ⟨Y, 1, none⟩ = some (.int .i64 x.Owner) := blk_cell (hfd.heap HX12.out (fun h => h)) 1
              have HFD := Lib.hid hfd
              have hcm := R_cap HRa.out
              obtain ⟨hcm1, hcm2⟩ := hcm
              clear hfd
              go_wp2_with fail
              refine wp_region_part (fun u => u.cell? ⟨Y, 1, none⟩ = some (.int .i64 x.Owner)) [(1, false), (3, false), (4, false), (5, false)] 5 (by kernel_rfl) (by kernel_rfl) (fun _ _ _ _ _ h => h) (hXd) ?_
              simp only [planOps, List.getElem?_toArray, List.getElem?_cons_succ, List.getElem?_cons_zero]
              repeat (first
                | (refine plan_step (by rfl) ?_; apply Exists.intro; refine ⟨fun x hSx => ?_, ?_⟩; ((try dsimp only at hSx); go_simp; (try rw [if_neg (by omega)]); (try with_reducible rfl)); (simp only [Act.put, List.setIfInBounds_toArray, List.set_cons_zero, List.set_cons_succ]))
                | (refine plan_skip (by rfl) ?_; (simp only [Act.put, List.setIfInBounds_toArray, List.set_cons_zero, List.set_cons_succ])))
              generalize wr.drew = wd at *
              have HS : ∀ u, Fr no wd u → u.cell? ⟨Y, 1, none⟩ = some (.int .i64 x.Owner) := fun u h => h.cell hXd (fun h => h)
              replace HS := Lib.hid HS
              have HTk := HTk0
              have hP := pr_nil wd wd
              have hfW := Fr.refl no wd
              have HPW := Lib.hid (And.intro hP hfW)
              clear hP hfW
              apply join4 (H := fun _ u v w => Pr wd w u ([] ++ m) v [⟨x.Owner, 0, 0⟩] ∧ Fr no wd w)
              · intro hjoin
                obtain ⟨hP, hfW⟩ := HPW.out
                refine plan_done ?_
                intro hSw
                refine plan_fork (n := 4) 0 [6] (by kernel_rfl) ⟨?_, ?_, trivial⟩ hSw
                · clear hSw
                  simp only [planOps, List.getElem?_toArray, List.getElem?_cons_succ, List.getElem?_cons_zero]
                  skip
                  obtain ⟨okA, okB, s1, s2, s3, hA, hB⟩ := hP
                  refine plan_if (fun K hK => ?_)
                  refine Kd.R_lit_step kLUsed 0 38 (by rfl) rfl (xs := []) (inner := []) (okp := (fun _ => False)) (ok := ext okA _) (by go_simp) (Reps.none _ _) (fun _ h => h.elim) (.inr (Nat.le_refl _)) (Below.refl 0 _) (Nat.zero_le _) (by simp) ?_
                  intro vleft wleft ho hb1 hg hat
                  clear hat hb1
                  obtain ⟨hP1, hf1⟩ := Pr.left hfW s1 s2 s3 ho hB hg (fun k hk => by cases hk)
                  clear s1 s2 s3 hA hB hg ho hfW
                  have hP := hP1
                  have hfW := hf1
                  clear hP1 hf1
                  skip
                  refine hK.out (fun _ => True) _ _ (by repeat' (first | exact HS.out _ hfW | exact trivial | apply And.intro)) trivial ?_
                  clear hK K
                  try simp only [Act.put, List.setIfInBounds_toArray, List.set_cons_zero, List.set_cons_succ]
                  refine plan_done ?_
                  intro hSw
                  refine plan_fork (n := 3) 2 [6] (by kernel_rfl) ⟨?_, ?_, trivial⟩ hSw
                  · clear hSw
                    simp only [planOps, List.getElem?_toArray, List.getElem?_cons_succ, List.getElem?_cons_zero]
                    obtain ⟨okA, okB, s1, s2, s3, hA, hB⟩ := hP
                    refine plan_if (fun K hK => ?_)
                    refine Kd.R_append_rows_step kLUsed (Rr := kLUsed.K wd) 0 (by rfl) (.tmp 87) (.tmp 88) 34 38 (.agg #[.int .i64 0, .int .i64 0, .int .i64 0]) 24 (by rfl) Tryd.underlying34 infoU rfl (by decide) (by omega) _ [] m Am m.length cm (ext okA _) (fun _ => False) (by rfl) (by rfl) (Kd.R_mono hA (fun _ => .inl)) (ReadsRow.imp_ HTk.out hfW.below (fun _ _ h => h)) luK_M (fun _ h => h.elim) (fun k hk => .inr hk) (Below.refl 0 _) (Nat.zero_le _) (by simp; omega) ?_
                    intro vsix wsix ho hb1 hg hat
                    clear hat hb1
                    obtain ⟨hP1, hf1⟩ := Pr.left hfW s1 s2 s3 ho hB hg (fun k hk => hA.1 k hk)
                    clear s1 s2 s3 hA hB hg ho hfW
                    have hP := hP1
                    have hfW := hf1
                    clear hP1 hf1
                    refine hK.out (fun _ => True) _ _ (by repeat' (first | exact HS.out _ hfW | exact trivial | apply And.intro)) trivial ?_
                    clear hK K
                    try simp only [Act.put, List.setIfInBounds_toArray, List.set_cons_zero, List.set_cons_succ]
                    refine plan_done ?_
                    intro hSw
                    refine plan_on [(6, true), (7, true), (8, false)] 0 (by kernel_rfl) (fun _ _ _ _ _ h => h) ?_ hSw
                    clear hSw
                    simp only [planOps, List.getElem?_toArray, List.getElem?_cons_succ, List.getElem?_cons_zero]
                    replace hP := hP.swap
                    obtain ⟨okA, okB, s1, s2, s3, hA, hB⟩ := hP
                    refine plan_if (fun K hK => ?_)
                    refine Kd.R_lit_step kLUsed 0 38 (by rfl) rfl (xs := [⟨x.Owner, 0, 0⟩]) (inner := [.int .i64 x.Owner, .int .i64 0, .int .i64 0]) (okp := (fun _ => False)) (ok := ext okA _) (by go_simp) ((Reps.none _ _).snoc (p := (⟨x.Owner, 0, 0⟩ : LUsed)) (kLUsed_mkM _ _ (fun _ => False) ⟨x.Owner, 0, 0⟩) rfl) (fun _ h => h.elim) (.inr (Nat.le_refl _)) (Below.refl 0 _) (Nat.zero_le _) (by simp) ?_
                    intro vright wright ho hb1 hg hat
                    clear hat hb1
                    obtain ⟨hP1, hf1⟩ := Pr.left hfW s1 s2 s3 ho hB hg (fun k hk => by cases hk)
                    clear s1 s2 s3 hA hB hg ho hfW
                    have hP := hP1
                    have hfW := hf1
                    clear hP1 hf1
                    replace hP := hP.swap
                    refine hK.out (fun _ => True) _ _ (by repeat' (first | exact HS.out _ hfW | exact trivial | apply And.intro)) trivial ?_
                    clear hK K
                    try simp only [Act.put, List.setIfInBounds_toArray, List.set_cons_zero, List.set_cons_succ]
                    exact hjoin vleft vsix vright wright ⟨hP, hfW⟩
                  · clear hSw
                    simp only [planOps, List.getElem?_toArray, List.getElem?_cons_succ, List.getElem?_cons_zero]
                    replace hP := hP.swap
                    obtain ⟨okA, okB, s1, s2, s3, hA, hB⟩ := hP
                    refine plan_if (fun K hK => ?_)
                    refine Kd.R_lit_step kLUsed 0 38 (by rfl) rfl (xs := [⟨x.Owner, 0, 0⟩]) (inner := [.int .i64 x.Owner, .int .i64 0, .int .i64 0]) (okp := (fun _ => False)) (ok := ext okA _) (by go_simp) ((Reps.none _ _).snoc (p := (⟨x.Owner, 0, 0⟩ : LUsed)) (kLUsed_mkM _ _ (fun _ => False) ⟨x.Owner, 0, 0⟩) rfl) (fun _ h => h.elim) (.inr (Nat.le_refl _)) (Below.refl 0 _) (Nat.zero_le _) (by simp) ?_
                    intro vright wright ho hb1 hg hat
                    clear hat hb1
                    obtain ⟨hP1, hf1⟩ := Pr.left hfW s1 s2 s3 ho hB hg (fun k hk => by cases hk)
                    clear s1 s2 s3 hA hB hg ho hfW
                    have hP := hP1
                    have hfW := hf1
                    clear hP1 hf1
                    replace hP := hP.swap
                    refine hK.out (fun _ => True) _ _ (by repeat' (first | exact HS.out _ hfW | exact trivial | apply And.intro)) trivial ?_
                    clear hK K
                    try simp only [Act.put, List.setIfInBounds_toArray, List.set_cons_zero, List.set_cons_succ]
                    refine plan_done ?_
                    intro hSw
                    refine plan_on [(2, true), (7, true), (8, false)] 0 (by kernel_rfl) (fun _ _ _ _ _ h => h) ?_ hSw
                    clear hSw
                    simp only [planOps, List.getElem?_toArray, List.getElem?_cons_succ, List.getElem?_cons_zero]
                    obtain ⟨okA, okB, s1, s2, s3, hA, hB⟩ := hP
                    refine plan_if (fun K hK => ?_)
                    refine Kd.R_append_rows_step kLUsed (Rr := kLUsed.K wd) 0 (by rfl) (.tmp 87) (.tmp 88) 34 38 (.agg #[.int .i64 0, .int .i64 0, .int .i64 0]) 24 (by rfl) Tryd.underlying34 infoU rfl (by decide) (by omega) _ [] m Am m.length cm (ext okA _) (fun _ => False) (by rfl) (by rfl) (Kd.R_mono hA (fun _ => .inl)) (ReadsRow.imp_ HTk.out hfW.below (fun _ _ h => h)) luK_M (fun _ h => h.elim) (fun k hk => .inr hk) (Below.refl 0 _) (Nat.zero_le _) (by simp; omega) ?_
                    intro vsix wsix ho hb1 hg hat
                    clear hat hb1
                    obtain ⟨hP1, hf1⟩ := Pr.left hfW s1 s2 s3 ho hB hg (fun k hk => hA.1 k hk)
                    clear s1 s2 s3 hA hB hg ho hfW
                    have hP := hP1
                    have hfW := hf1
                    clear hP1 hf1
                    refine hK.out (fun _ => True) _ _ (by repeat' (first | exact HS.out _ hfW | exact trivial | apply And.intro)) trivial ?_
                    clear hK K
                    try simp only [Act.put, List.setIfInBounds_toArray, List.set_cons_zero, List.set_cons_succ]
                    exact hjoin vleft vsix vright wsix ⟨hP, hfW⟩
                · clear hSw
                  simp only [planOps, List.getElem?_toArray, List.getElem?_cons_succ, List.getElem?_cons_zero]
                  replace hP := hP.swap
                  obtain ⟨okA, okB, s1, s2, s3, hA, hB⟩ := hP
                  refine plan_if (fun K hK => ?_)
                  refine Kd.R_lit_step kLUsed 0 38 (by rfl) rfl (xs := [⟨x.Owner, 0, 0⟩]) (inner := [.int .i64 x.Owner, .int .i64 0, .int .i64 0]) (okp := (fun _ => False)) (ok := ext okA _) (by go_simp) ((Reps.none _ _).snoc (p := (⟨x.Owner, 0, 0⟩ : LUsed)) (kLUsed_mkM _ _ (fun _ => False) ⟨x.Owner, 0, 0⟩) rfl) (fun _ h => h.elim) (.inr (Nat.le_refl _)) (Below.refl 0 _) (Nat.zero_le _) (by simp) ?_
                  intro vright wright ho hb1 hg hat
                  clear hat hb1
                  obtain ⟨hP1, hf1⟩ := Pr.left hfW s1 s2 s3 ho hB hg (fun k hk => by cases hk)
                  clear s1 s2 s3 hA hB hg ho hfW
                  have hP := hP1
                  have hfW := hf1
                  clear hP1 hf1
                  replace hP := hP.swap
                  refine hK.out (fun _ => True) _ _ (by repeat' (first | exact HS.out _ hfW | exact trivial | apply And.intro)) trivial ?_
                  clear hK K
                  try simp only [Act.put, List.setIfInBounds_toArray, List.set_cons_zero, List.set_cons_succ]
                  refine plan_done ?_
                  intro hSw
                  refine plan_on [(0, true), (2, true), (7, true), (8, false)] 0 (by kernel_rfl) (fun _ _ _ _ _ h => h) ?_ hSw
                  clear hSw
                  simp only [planOps, List.getElem?_toArray, List.getElem?_cons_succ, List.getElem?_cons_zero]
                  skip
                  obtain ⟨okA, okB, s1, s2, s3, hA, hB⟩ := hP
                  refine plan_if (fun K hK => ?_)
                  refine Kd.R_lit_step kLUsed 0 38 (by rfl) rfl (xs := []) (inner := []) (okp := (fun _ => False)) (ok := ext okA _) (by go_simp) (Reps.none _ _) (fun _ h => h.elim) (.inr (Nat.le_refl _)) (Below.refl 0 _) (Nat.zero_le _) (by simp) ?_
                  intro vleft wleft ho hb1 hg hat
                  clear hat hb1
                  obtain ⟨hP1, hf1⟩ := Pr.left hfW s1 s2 s3 ho hB hg (fun k hk => by cases hk)
                  clear s1 s2 s3 hA hB hg ho hfW
                  have hP := hP1
                  have hfW := hf1
                  clear hP1 hf1
                  skip
                  refine hK.out (fun _ => True) _ _ (by repeat' (first | exact HS.out _ hfW | exact trivial | apply And.intro)) trivial ?_
                  clear hK K
                  try simp only [Act.put, List.setIfInBounds_toArray, List.set_cons_zero, List.set_cons_succ]
                  obtain ⟨okA, okB, s1, s2, s3, hA, hB⟩ := hP
                  refine plan_if (fun K hK => ?_)
                  refine Kd.R_append_rows_step kLUsed (Rr := kLUsed.K wd) 0 (by rfl) (.tmp 87) (.tmp 88) 34 38 (.agg #[.int .i64 0, .int .i64 0, .int .i64 0]) 24 (by rfl) Tryd.underlying34 infoU rfl (by decide) (by omega) _ [] m Am m.length cm (ext okA _) (fun _ => False) (by rfl) (by rfl) (Kd.R_mono hA (fun _ => .inl)) (ReadsRow.imp_ HTk.out hfW.below (fun _ _ h => h)) luK_M (fun _ h => h.elim) (fun k hk => .inr hk) (Below.refl 0 _) (Nat.zero_le _) (by simp; omega) ?_
                  intro vsix wsix ho hb1 hg hat
                  clear hat hb1
                  obtain ⟨hP1, hf1⟩ := Pr.left hfW s1 s2 s3 ho hB hg (fun k hk => hA.1 k hk)
                  clear s1 s2 s3 hA hB hg ho hfW
                  have hP := hP1
                  have hfW := hf1
                  clear hP1 hf1
                  refine hK.out (fun _ => True) _ _ (by repeat' (first | exact HS.out _ hfW | exact trivial | apply And.intro)) trivial ?_
                  clear hK K
                  try simp only [Act.put, List.setIfInBounds_toArray, List.set_cons_zero, List.set_cons_succ]
                  exact hjoin vleft vsix vright wsix ⟨hP, hfW⟩
              · rintro vleft u vright w9 ⟨hP, hfW⟩
                obtain ⟨okA, okB, s1, s2, s3, hA, hB⟩ := hP
                obtain ⟨A2, c2, rfl⟩ := Kd.R_slice hB
                refine plan_if (fun K hK => ?_)
                refine Kd.R_append_rows_step kLUsed (Rr := kLUsed.K _) 0 (by rfl) (.tmp 89) (.tmp 93) 34 38 (.agg #[.int .i64 0, .int .i64 0, .int .i64 0]) 24 (by rfl) Tryd.underlying34 infoU rfl (by decide) (by omega) _ ([] ++ m) [⟨x.Owner, 0, 0⟩] _ _ _ (ext okA _) (fun _ => False) (by rfl) (by rfl) (Kd.R_mono hA (fun _ => .inl)) (Kd.R_reads' hB).2.2 luK_M (fun _ h => h.elim) (fun k hk => .inr hk) (Below.refl 0 _) (Nat.zero_le _) (by simp only [List.length_append, List.length_nil, List.length_singleton]; omega) ?_
                intro v1 w1 ho hb1 hg hat
                clear hat hb1
                obtain ⟨A1, c1, rfl⟩ := Kd.R_slice ho
                obtain ⟨hP1, hf1⟩ := Pr.left hfW s1 s2 s3 ho hB hg (fun k hk => hA.1 k hk)
                have hR1 := Kd.R_mono ho (fun k hk => hk.elim (fun h => s1 k h) (fun h => Nat.le_trans hfW.size h) : ∀ k, _ → since wd k)
                clear s1 s2 s3 hA hB hg ho hfW hP1
                have hfW := hf1
                clear hf1
                refine hK.out (fun _ => True) _ _ (by repeat' (first | exact HS.out _ hfW | exact trivial | apply And.intro)) trivial ?_
                clear hK K
                try simp only [Act.put, List.setIfInBounds_toArray, List.set_cons_zero, List.set_cons_succ]
                repeat (first
                  | (refine plan_step (by rfl) ?_; apply Exists.intro; refine ⟨fun x hSx => ?_, ?_⟩; ((try dsimp only at hSx); go_simp; (try rw [if_neg (by omega)]); (try with_reducible rfl)); (simp only [Act.put, List.setIfInBounds_toArray, List.set_cons_zero, List.set_cons_succ]))
                  | (refine plan_skip (by rfl) ?_; (simp only [Act.put, List.setIfInBounds_toArray, List.set_cons_zero, List.set_cons_succ])))
                refine plan_done ?_
                intro hSw
                refine plan_all (by kernel_rfl) ?_ hSw
                clear hSw
                obtain ⟨g, c', he, _, _, _⟩ := Kd.R_form hR1 (by simp)
                injection he with he1 he2 he3
                subst he1
                have hw1 : wb.heap.size ≤ wd.heap.size := Nat.le_trans HRka.out.fr.size HFD.out.size
                have hMl := HRka.out.u.lt
                have hwd := HFD.out.size
                have HRN := Lib.hid (Kd.R_mono hR1 (fun k hk => (⟨Nat.le_trans hw1 hk, fun e => by subst e; unfold since at hk; omega⟩ : since wb k ∧ k ≠ M)))
                have HFN := Lib.hid (HFD.out.trans' hfW)
                have hlen : ([] ++ m ++ [(⟨x.Owner, 0, 0⟩ : LUsed)]).length = m.length + 1 := by simp
                rw [hlen] at HRN
                have HRN2 : Hid (kLUsed.R 38 w1 0 (fun k => since wb k ∧ k ≠ M) (.slice (some ⟨g, 0, none⟩) (m.length + 1) c1) (m ++ [(⟨x.Owner, 0, 0⟩ : LUsed)])) := HRN
                clear he2 he3 hR1 hfW hw1 hMl hwd HPW HTk HTk0 HS hXd
                go_wp2_with fail
                go_meet
                case rel => exact ⟨m ++ [⟨x.Owner, 0, 0⟩], m.length, g, c1, by simp, by go_num, ⟨by simp, by simp⟩, by have := Hm.out; simp; omega, Lib.hid (HOk.out.app x.Owner HNO.out), HRN2, HFN⟩
          case rest => as_aux_lemma =>
            obtain ⟨m', i, g, c', rfl, rfl, ⟨hi, hio⟩, hml', HOk', HR', hf6⟩ := hcut
            obtain ⟨g0, g1, g2, gf⟩ := lu_cells HR'.out i hi
            have hRkc := HRka.out.go hf6.out
            have hXc := (hRkc.fr.heap hXb.out (fun h => h))
            have hYc := hf6.out.heap HX12.out (fun h => h)
            have i0 : (0 : Int) ≤ (i : Int) := by omega
            have i1 : (i : Int) < (m'.length : Int) := by omega
            have x0 : wc.drew.cell? ⟨X, 0, none⟩ = some (.int .i64 L.qty) := blk_cell hXc 0
            have x1 : wc.drew.cell? ⟨X, 1, none⟩ = some (.int .i64 L.money) := blk_cell hXc 1
            have x2 : wc.drew.cell? ⟨X, 2, none⟩ = some (.int .i64 L.orders) := blk_cell hXc 2
            have y2 : wc.drew.cell? ⟨Y, 2, none⟩ = some (.int .i64 x.Price) := blk_cell hYc 2
            have y3 : wc.drew.cell? ⟨Y, 3, none⟩ = some (.int .i64 x.Qty) := blk_cell hYc 3
            have g1' : wc.drew.cell? ⟨g, i * 3 + 1, none⟩ = some (.int .i64 m'[i].n) := g1
            have g2' : wc.drew.cell? ⟨g, i * 3 + 2, none⟩ = some (.int .i64 m'[i].money) := g2
            obtain ⟨hfo, huk⟩ := HOk'.out.e m'[i] (List.getElem_mem hi)
            rw [hio] at hfo
            obtain ⟨u, hu⟩ : ∃ u : Use, f x.Owner = u := ⟨_, rfl⟩
            rw [hu] at hfo
            rw [← hfo] at huk
            have e1 : m'[i].n = u.n := by rw [hfo]
            have e2 : m'[i].money = u.money := by rw [hfo]
            rw [e1] at g1'
            rw [e2] at g2'
            have HU := Lib.hid hu
            have HIO := Lib.hid hio
            have HE := Lib.hid (And.intro e1 e2)
            have HI := Lib.hid hi
            have HRC := Lib.hid (hRkc.go ((Fr.refl no wc).drew))
            have HRR := Lib.hid (R_fr HR'.out ((Fr.refl no wc).drew) (fun _ _ h => h))
            have HYC := Lib.hid (((Fr.refl no wc).drew).heap hYc (fun h => h))
            have ha := HRA.out u x.Price x.Qty huk.m0 huk.m1 p0 p1 q0 q1
            obtain ⟨hecs, hpts⟩ := askF_cases L u x.Price x.Qty
            obtain ⟨pt, hpt⟩ : ∃ pt, (askF L u x.Price x.Qty).1 = pt := ⟨_, rfl⟩
            obtain ⟨ec, hec⟩ : ∃ ec, (askF L u x.Price x.Qty).2 = ec := ⟨_, rfl⟩
            rw [hpt, hec] at ha
            rw [hec] at hecs
            rw [hpt] at hpts
            have HASK : Hid (askF L u x.Price x.Qty = (pt, ec)) := by show _ = _; rw [← hpt, ← hec]
            have HECS := Lib.hid hecs
            have HPTS := Lib.hid hpts
            clear hpt hec hecs hpts
            have HRAu := Lib.hid ha
            have HUK := Lib.hid huk
            clear g0 g1 g2 gf hRkc hXc hYc hfo huk e1 e2 hio hu ha HR' HRka HRa hf6 HX12
            go_wp2_with fail
            refine wp_region_plan (fun u' => u'.cell? ⟨X, 0, none⟩ = some (.int .i64 L.qty) ∧ u'.cell? ⟨X, 1, none⟩ = some (.int .i64 L.money) ∧ u'.cell? ⟨X, 2, none⟩ = some (.int .i64 L.orders) ∧ u'.cell? ⟨Y, 2, none⟩ = some (.int .i64 x.Price) ∧ u'.cell? ⟨Y, 3, none⟩ = some (.int .i64 x.Qty) ∧ u'.cell? ⟨g, i * 3 + 1, none⟩ = some (.int .i64 u.n) ∧ u'.cell? ⟨g, i * 3 + 2, none⟩ = some (.int .i64 u.money)) [(0, false), (2, false), (3, false), (4, false), (5, false), (6, false), (7, false), (8, false), (9, false), (10, false), (11, false), (12, false), (13, false), (1, true), (14, true), (15, false), (16, false), (17, false), (18, false), (19, false)] (by kernel_rfl) (by kernel_rfl) (fun _ _ _ _ _ h => h) (⟨x0, x1, x2, y2, y3, g1', g2'⟩) ?_
            simp only [planOps, List.getElem?_toArray, List.getElem?_cons_succ, List.getElem?_cons_zero]
            repeat (first
              | (refine plan_step (by rfl) ?_; apply Exists.intro; refine ⟨fun x hSx => ?_, ?_⟩; ((try dsimp only at hSx); go_simp; (try rw [if_neg (by omega)]); (try with_reducible rfl)); (simp only [Act.put, List.setIfInBounds_toArray, List.set_cons_zero, List.set_cons_succ]))
              | (refine plan_skip (by rfl) ?_; (simp only [Act.put, List.setIfInBounds_toArray, List.set_cons_zero, List.set_cons_succ])))
            refine plan_run (by rfl) (fun K hK => ?_)
            go_simp
            refine (HO.out _).mono ?_
            rintro e w7 ⟨rfl, hf7⟩
            have mv := fun {p : Addr} {v : Value} (h : wc.drew.cell? p = some v) => hf7.cell h (fun h => h)
            dsimp only
            refine hK.out (fun u' => True) _ _ (⟨mv x0, mv x1, mv x2, mv y2, mv y3, mv g1', mv g2'⟩) (trivial) ?_
            clear hK K
            try simp only [Act.put, List.setIfInBounds_toArray, List.set_cons_zero, List.set_cons_succ]
            repeat (first
              | (refine plan_step (by rfl) ?_; apply Exists.intro; refine ⟨fun x hSx => ?_, ?_⟩; ((try dsimp only at hSx); go_simp; (try rw [if_neg (by omega)]); (try with_reducible rfl)); (simp only [Act.put, List.setIfInBounds_toArray, List.set_cons_zero, List.set_cons_succ]))
              | (refine plan_skip (by rfl) ?_; (simp only [Act.put, List.setIfInBounds_toArray, List.set_cons_zero, List.set_cons_succ])))
            refine plan_run (by rfl) (fun K hK => ?_)
            go_simp
            refine (HRAu.out _).mono ?_
            rintro e w8 ⟨rfl, hf8⟩
            have mw := fun {p : Addr} {v : Value} (h : wc.drew.cell? p = some v) => hf8.cell (mv h) (fun h => h)
            dsimp only
            refine hK.out (fun u' => True) _ _ (⟨⟨mw x0, mw x1, mw x2, mw y2, mw y3, mw g1', mw g2'⟩, trivial⟩) (trivial) ?_
            clear hK K
            try simp only [Act.put, List.setIfInBounds_toArray, List.set_cons_zero, List.set_cons_succ]
            repeat (first
              | (refine plan_step (by rfl) ?_; apply Exists.intro; refine ⟨fun x hSx => ?_, ?_⟩; ((try dsimp only at hSx); go_simp; (try rw [if_neg (by omega)]); (try with_reducible rfl)); (simp only [Act.put, List.setIfInBounds_toArray, List.set_cons_zero, List.set_cons_succ]))
              | (refine plan_skip (by rfl) ?_; (simp only [Act.put, List.setIfInBounds_toArray, List.set_cons_zero, List.set_cons_succ])))
            refine plan_done ?_
            have hf78 := hf7.trans' hf8
            have HRC8 := Lib.hid (HRC.out.go hf78)
            have HRR8 := Lib.hid (R_fr HRR.out hf78 (fun _ _ h => h))
            have HYC8 := Lib.hid (hf78.heap HYC.out (fun h => h))
            clear mv mw hf7 hf8 hf78 x0 x1 x2 y2 y3 g1' g2' HRC HRR HYC
            clear HRAu HO
            have HW8 := Lib.hid (Fr.refl no w8)
            go_upto_if 121 with (fail)
            go_cut [] (fun wc => Hid (WAt wc w8.heap.size pt ec) ∧ Hid (Fr no w8 wc))
            case first => as_aux_lemma =>
              have hZ := blk_new w8 (.cells #[.slice none 0 0, .int .i64 0] 44)
              have hfz := (Fr.refl no w8).alloc (.cells #[.slice none 0 0, .int .i64 0] 44)
              rcases HECS.out with h0 | ⟨h1, h2⟩
              · have d0 : (ec != 0) = false := by simp [h0]
                have HZ := Lib.hid (And.intro h0 hZ)
                clear h0
                go_wp2_with fail
                go_meet
                case rel => exact ⟨Lib.hid (.inl HZ.out), Lib.hid hfz⟩
              · have d0 : (ec != 0) = true := by simp; omega
                have H1 := Lib.hid h1
                clear h1 h2
                go_wp2_with fail
                refine (at_c riskB pt ec _).mono ?_
                rintro e w9 ⟨⟨G, rfl, _, hG⟩, hf9⟩
                have hZ9 := hf9.heap hZ (fun h => h)
                have z0 := blk_cell hZ9 0
                have z1 := blk_cell hZ9 1
                have z2 := blk_frozen hZ9 0
                have z3 := blk_frozen hZ9 1
                have hzl := blk_lt hZ9
                have HZ9 := Lib.hid hZ9
                have HF9 := Lib.hid (hfz.trans' hf9)
                have HG9 := Lib.hid hG
                unfold wrongV
                clear hZ hfz hf9 hZ9 hG
                dsimp only
                go_wp2_with fail
                go_meet
                case rel =>
                  have hs1 : Fr (one w8.heap.size) w9 (w9.setCell ⟨w8.heap.size, 0, none⟩ (.slice (some ⟨G, 0, none⟩) 1 1)) := Fr.set (p := ⟨w8.heap.size, 0, none⟩) (Fr.refl (one w8.heap.size) w9) (fun _ => rfl) _
                  have hs2 : Fr (one w8.heap.size) w9 ((w9.setCell ⟨w8.heap.size, 0, none⟩ (.slice (some ⟨G, 0, none⟩) 1 1)).setCell ⟨w8.heap.size, 1, none⟩ (.int .i64 ec)) := Fr.set (p := ⟨w8.heap.size, 1, none⟩) hs1 (fun _ => rfl) _
                  have hb1 : (w9.setCell ⟨w8.heap.size, 0, none⟩ (.slice (some ⟨G, 0, none⟩) 1 1)).heap[w8.heap.size]? = some (.cells #[.slice (some ⟨G, 0, none⟩) 1 1, .int .i64 0] 44 (0, 0)) := blk_put HZ9.out 0 _ rfl
                  have hb2 : ((w9.setCell ⟨w8.heap.size, 0, none⟩ (.slice (some ⟨G, 0, none⟩) 1 1)).setCell ⟨w8.heap.size, 1, none⟩ (.int .i64 ec)).heap[w8.heap.size]? = some (.cells #[.slice (some ⟨G, 0, none⟩) 1 1, .int .i64 ec] 44 (0, 0)) := blk_put hb1 1 _ rfl
                  have hGZ : ¬ one w8.heap.size G := fun e => by
                    have e2 : G = w8.heap.size := e
                    have h1 := HG9.out.1
                    rw [e2] at h1
                    rw [z0] at h1
                    cases h1
                  exact ⟨Lib.hid (.inr ⟨H1.out, G, hb2, hs2.cell HG9.out.1 hGZ, hs2.cell HG9.out.2 hGZ⟩), Lib.hid (HF9.out.new hs2 (fun k hk => by have h1 : k = w8.heap.size := hk; subst h1; exact Nat.le_refl _))⟩
            case rest => as_aux_lemma =>
              obtain ⟨HZ, hfz⟩ := hcut
              generalize w8.heap.size = Z at *
              have y0 := blk_cell (hfz.out.heap HYC8.out (fun h => h)) 0
              have HRC9 := Lib.hid (HRC8.out.go hfz.out)
              have HRR9 := Lib.hid (R_fr HRR8.out hfz.out (fun _ _ h => h))
              have HYC9 := Lib.hid (hfz.out.heap HYC8.out (fun h => h))
              clear HRC8 HRR8 HYC8 HW8
              go_upto_block 4 with fail
              go_cut [19, 20, 21, 22, 23, 127, 140, 175] (fun v19 v20 v21 v22 v23 v127 v140 v175 wc => ∃ (m2 : List LUsed) (f2 : Int → Use) (n2 : Nat), m2.length = m'.length ∧ (∃ h : i < m2.length, m2[i].owner = x.Owner) ∧ Hid (n2 ≤ k + 1) ∧ Hid (Okm m2 f2) ∧ Hid (Rk wb wc B M n2 L f2) ∧ Hid (kLUsed.R 38 wc 0 (fun k => since wb k ∧ k ≠ M) (.slice (some ⟨g, 0, none⟩) m'.length c') m2) ∧ Hid (wc.heap[Y]? = some (.cells #[.int .i64 x.Op, .int .i64 x.Owner, .int .i64 x.Price, .int .i64 x.Qty, .bool x.Whole] 36 (0, 0))))
              case first =>
                by_cases hp1 : x.Op = 1
                · have hop1 : (x.Op == 1) = true := by simp [hp1]
                  clear hp1
                  have HZW := HZ
                  rcases HZW.out with ⟨h0, hz⟩ | ⟨h1, G, hz, hpz⟩
                  · as_aux_lemma =>
                    have HASK0 : Hid (askF L u x.Price x.Qty = (pt, 0)) := by rw [← h0]; exact HASK
                    have y1 : wc.drew.cell? ⟨Y, 1, none⟩ = some (.int .i64 x.Owner) := blk_cell HYC9.out 1
                    have y2 : wc.drew.cell? ⟨Y, 2, none⟩ = some (.int .i64 x.Price) := blk_cell HYC9.out 2
                    have y3 : wc.drew.cell? ⟨Y, 3, none⟩ = some (.int .i64 x.Qty) := blk_cell HYC9.out 3
                    have z0 : wc.drew.cell? ⟨Z, 0, none⟩ = some (.slice none 0 0) := blk_cell hz 0
                    have z1 : wc.drew.cell? ⟨Z, 1, none⟩ = some (.int .i64 0) := blk_cell hz 1
                    have d0 : (ec == 0) = true := by simp [h0]
                    clear h0 hz y0
                    go_wp2_with fail
                    refine wp_region_plan (fun u' => u'.cell? ⟨Y, 1, none⟩ = some (.int .i64 x.Owner) ∧ u'.cell? ⟨Y, 2, none⟩ = some (.int .i64 x.Price) ∧ u'.cell? ⟨Y, 3, none⟩ = some (.int .i64 x.Qty) ∧ u'.cell? ⟨Z, 0, none⟩ = some (.slice none 0 0) ∧ u'.cell? ⟨Z, 1, none⟩ = some (.int .i64 0)) [(0, false), (1, false), (2, false), (3, false), (4, false), (5, false), (6, false), (8, false), (7, true), (9, true), (10, false)] (by kernel_rfl) (by kernel_rfl) (fun _ _ _ _ _ h => h) (⟨y1, y2, y3, z0, z1⟩) ?_
                    simp only [planOps, List.getElem?_toArray, List.getElem?_cons_succ, List.getElem?_cons_zero]
                    repeat (first
                      | (refine plan_step (by rfl) ?_; apply Exists.intro; refine ⟨fun x hSx => ?_, ?_⟩; ((try dsimp only at hSx); go_simp; (try rw [if_neg (by omega)]); (try with_reducible rfl)); (simp only [Act.put, List.setIfInBounds_toArray, List.set_cons_zero, List.set_cons_succ]))
                      | (refine plan_skip (by rfl) ?_; (simp only [Act.put, List.setIfInBounds_toArray, List.set_cons_zero, List.set_cons_succ])))
                    refine plan_run (by rfl) (fun K hK => ?_)
                    go_simp
                    refine (ask_good2 (HRC9.out.go (Fr.refl no wc).drew) x.Owner x.Price x.Qty pt HOW.out HU.out HUK.out p1 HASK0.out).mono ?_
                    rintro e w10 ⟨rfl, hf10⟩
                    have mv := fun {p : Addr} {v : Value} (h : wc.drew.cell? p = some v) => hf10.cell h (fun h => h)
                    dsimp only
                    refine hK.out (fun u' => True) _ _ (⟨mv y1, mv y2, mv y3, mv z0, mv z1⟩) (trivial) ?_
                    clear hK K
                    try simp only [Act.put, List.setIfInBounds_toArray, List.set_cons_zero, List.set_cons_succ]
                    repeat (first
                      | (refine plan_step (by rfl) ?_; apply Exists.intro; refine ⟨fun x hSx => ?_, ?_⟩; ((try dsimp only at hSx); go_simp; (try rw [if_neg (by omega)]); (try with_reducible rfl)); (simp only [Act.put, List.setIfInBounds_toArray, List.set_cons_zero, List.set_cons_succ]))
                      | (refine plan_skip (by rfl) ?_; (simp only [Act.put, List.setIfInBounds_toArray, List.set_cons_zero, List.set_cons_succ])))
                    refine plan_run (by rfl) (fun K hK => ?_)
                    go_simp
                    refine (tells_nil .nilIface _).mono ?_
                    rintro e w11 ⟨rfl, hf11⟩
                    have mw := fun {p : Addr} {v : Value} (h : w10.cell? p = some v) => hf11.cell h (fun h => h)
                    dsimp only
                    refine hK.out (fun u' => True) _ _ (⟨⟨mw (mv y1), mw (mv y2), mw (mv y3), mw (mv z0), mw (mv z1)⟩, trivial⟩) (trivial) ?_
                    clear hK K
                    try simp only [Act.put, List.setIfInBounds_toArray, List.set_cons_zero, List.set_cons_succ]
                    repeat (first
                      | (refine plan_step (by rfl) ?_; apply Exists.intro; refine ⟨fun x hSx => ?_, ?_⟩; ((try dsimp only at hSx); go_simp; (try rw [if_neg (by omega)]); (try with_reducible rfl)); (simp only [Act.put, List.setIfInBounds_toArray, List.set_cons_zero, List.set_cons_succ]))
                      | (refine plan_skip (by rfl) ?_; (simp only [Act.put, List.setIfInBounds_toArray, List.set_cons_zero, List.set_cons_succ])))
                    refine plan_done ?_
                    have hfx := ((Fr.refl no wc).drew.trans' hf10).trans' hf11
                    have HRX := Lib.hid (HRC9.out.go hfx)
                    have HRRX := Lib.hid (R_fr HRR9.out hfx (fun _ _ h => h))
                    have HYX := Lib.hid (hfx.heap HYC9.out (fun h => h))
                    clear mv mw hf10 hf11 hfx y1 y2 y3 z0 z1
                    go_wp2_with fail
                    go_meet
                    case rel => exact ⟨m', f, n, rfl, ⟨HI.out, HIO.out⟩, Nat.le_succ_of_le Hn.out, HOk', HRX, HRRX, HYX⟩
                  · as_aux_lemma =>
                    have HASK1 : Hid (askF L u x.Price x.Qty = (pt, ec)) := HASK
                    have y1 : wc.drew.cell? ⟨Y, 1, none⟩ = some (.int .i64 x.Owner) := blk_cell HYC9.out 1
                    have y2 : wc.drew.cell? ⟨Y, 2, none⟩ = some (.int .i64 x.Price) := blk_cell HYC9.out 2
                    have y3 : wc.drew.cell? ⟨Y, 3, none⟩ = some (.int .i64 x.Qty) := blk_cell HYC9.out 3
                    have z0 : wc.drew.cell? ⟨Z, 0, none⟩ = some (.slice (some ⟨G, 0, none⟩) 1 1) := blk_cell hz 0
                    have z1 : wc.drew.cell? ⟨Z, 1, none⟩ = some (.int .i64 ec) := blk_cell hz 1
                    have d0 : (ec == 0) = false := by simp; omega
                    have H1 := Lib.hid h1
                    have HPZ := Lib.hid hpz
                    clear h1 hz hpz y0
                    go_wp2_with fail
                    refine wp_region_plan (fun u' => u'.cell? ⟨Y, 1, none⟩ = some (.int .i64 x.Owner) ∧ u'.cell? ⟨Y, 2, none⟩ = some (.int .i64 x.Price) ∧ u'.cell? ⟨Y, 3, none⟩ = some (.int .i64 x.Qty) ∧ u'.cell? ⟨Z, 0, none⟩ = some (.slice (some ⟨G, 0, none⟩) 1 1) ∧ u'.cell? ⟨Z, 1, none⟩ = some (.int .i64 ec)) [(0, false), (1, false), (2, false), (3, false), (4, false), (5, false), (6, false), (8, false), (7, true), (9, true), (10, false)] (by kernel_rfl) (by kernel_rfl) (fun _ _ _ _ _ h => h) (⟨y1, y2, y3, z0, z1⟩) ?_
                    simp only [planOps, List.getElem?_toArray, List.getElem?_cons_succ, List.getElem?_cons_zero]
                    repeat (first
                      | (refine plan_step (by rfl) ?_; apply Exists.intro; refine ⟨fun x hSx => ?_, ?_⟩; ((try dsimp only at hSx); go_simp; (try rw [if_neg (by omega)]); (try with_reducible rfl)); (simp only [Act.put, List.setIfInBounds_toArray, List.set_cons_zero, List.set_cons_succ]))
                      | (refine plan_skip (by rfl) ?_; (simp only [Act.put, List.setIfInBounds_toArray, List.set_cons_zero, List.set_cons_succ])))
                    refine plan_run (by rfl) (fun K hK => ?_)
                    go_simp
                    refine (ask_bad2 (HRC9.out.go (Fr.refl no wc).drew) x.Owner x.Price x.Qty pt ec HOW.out HU.out HUK.out p1 HASK1.out H1.out).mono ?_
                    rintro e w10 ⟨F, rfl, hF, hf10⟩
                    have mv := fun {p : Addr} {v : Value} (h : wc.drew.cell? p = some v) => hf10.cell h (fun h => h)
                    dsimp only
                    refine hK.out (fun u' => True) _ _ (⟨mv y1, mv y2, mv y3, mv z0, mv z1⟩) (trivial) ?_
                    clear hK K
                    try simp only [Act.put, List.setIfInBounds_toArray, List.set_cons_zero, List.set_cons_succ]
                    repeat (first
                      | (refine plan_step (by rfl) ?_; apply Exists.intro; refine ⟨fun x hSx => ?_, ?_⟩; ((try dsimp only at hSx); go_simp; (try rw [if_neg (by omega)]); (try with_reducible rfl)); (simp only [Act.put, List.setIfInBounds_toArray, List.set_cons_zero, List.set_cons_succ]))
                      | (refine plan_skip (by rfl) ?_; (simp only [Act.put, List.setIfInBounds_toArray, List.set_cons_zero, List.set_cons_succ])))
                    refine plan_run (by rfl) (fun K hK => ?_)
                    go_simp
                    have hpp : PartAt w10 G riskB pt := (HPZ.out.fr (Fr.refl no wc).drew).fr hf10
                    refine (tells_c F G riskB pt ec pt.toNat (by rcases HPTS.out with h | h | h <;> omega) (by rcases HPTS.out with h | h | h <;> omega) H1.out (by rcases HECS.out with h | h <;> omega) (by decide) w10 (HG.out.fr (HFB.out.trans' ((HRC9.out.go (Fr.refl no wc).drew).go hf10).fr) (fun h => h)) hF hpp).mono ?_
                    rintro e w11 ⟨rfl, hf11⟩
                    have mw := fun {p : Addr} {v : Value} (h : w10.cell? p = some v) => hf11.cell h (fun h => h)
                    dsimp only
                    refine hK.out (fun u' => True) _ _ (⟨⟨mw (mv y1), mw (mv y2), mw (mv y3), mw (mv z0), mw (mv z1)⟩, trivial⟩) (trivial) ?_
                    clear hK K
                    try simp only [Act.put, List.setIfInBounds_toArray, List.set_cons_zero, List.set_cons_succ]
                    repeat (first
                      | (refine plan_step (by rfl) ?_; apply Exists.intro; refine ⟨fun x hSx => ?_, ?_⟩; ((try dsimp only at hSx); go_simp; (try rw [if_neg (by omega)]); (try with_reducible rfl)); (simp only [Act.put, List.setIfInBounds_toArray, List.set_cons_zero, List.set_cons_succ]))
                      | (refine plan_skip (by rfl) ?_; (simp only [Act.put, List.setIfInBounds_toArray, List.set_cons_zero, List.set_cons_succ])))
                    refine plan_done ?_
                    have hfx := ((Fr.refl no wc).drew.trans' hf10).trans' hf11
                    have HRX := Lib.hid (HRC9.out.go hfx)
                    have HRRX := Lib.hid (R_fr HRR9.out hfx (fun _ _ h => h))
                    have HYX := Lib.hid (hfx.heap HYC9.out (fun h => h))
                    clear mv mw hpp hf10 hf11 hfx hF y1 y2 y3 z0 z1
                    go_wp2_with fail
                    go_meet
                    case rel => exact ⟨m', f, n, rfl, ⟨HI.out, HIO.out⟩, Nat.le_succ_of_le Hn.out, HOk', HRX, HRRX, HYX⟩
                have hop1 : (x.Op == 1) = false := by simp [hp1]
                by_cases hp2 : x.Op = 2
                · have hop2 : (x.Op == 2) = true := by simp [hp2]
                  clear hp1 hp2
                  have HZW := HZ
                  rcases HZW.out with ⟨h0, hz⟩ | ⟨h1, G, hz, hpz⟩
                  · as_aux_lemma =>
                    have HASK0 : Hid (askF L u x.Price x.Qty = (pt, 0)) := by rw [← h0]; exact HASK
                    have y1 : wc.drew.cell? ⟨Y, 1, none⟩ = some (.int .i64 x.Owner) := blk_cell HYC9.out 1
                    have y2 : wc.drew.cell? ⟨Y, 2, none⟩ = some (.int .i64 x.Price) := blk_cell HYC9.out 2
                    have y3 : wc.drew.cell? ⟨Y, 3, none⟩ = some (.int .i64 x.Qty) := blk_cell HYC9.out 3
                    have z0 : wc.drew.cell? ⟨Z, 0, none⟩ = some (.slice none 0 0) := blk_cell hz 0
                    have z1 : wc.drew.cell? ⟨Z, 1, none⟩ = some (.int .i64 0) := blk_cell hz 1
                    have d0 : (ec == 0) = true := by simp [h0]
                    clear h0 hz y0
                    go_wp2_with fail
                    refine wp_region_plan (fun u' => u'.cell? ⟨Y, 1, none⟩ = some (.int .i64 x.Owner) ∧ u'.cell? ⟨Y, 2, none⟩ = some (.int .i64 x.Price) ∧ u'.cell? ⟨Y, 3, none⟩ = some (.int .i64 x.Qty) ∧ u'.cell? ⟨Z, 0, none⟩ = some (.slice none 0 0) ∧ u'.cell? ⟨Z, 1, none⟩ = some (.int .i64 0)) [(0, false), (1, false), (2, false), (3, false), (4, false), (5, false), (6, false), (8, false), (7, true), (9, true), (10, false)] (by kernel_rfl) (by kernel_rfl) (fun _ _ _ _ _ h => h) (⟨y1, y2, y3, z0, z1⟩) ?_
                    simp only [planOps, List.getElem?_toArray, List.getElem?_cons_succ, List.getElem?_cons_zero]
                    repeat (first
                      | (refine plan_step (by rfl) ?_; apply Exists.intro; refine ⟨fun x hSx => ?_, ?_⟩; ((try dsimp only at hSx); go_simp; (try rw [if_neg (by omega)]); (try with_reducible rfl)); (simp only [Act.put, List.setIfInBounds_toArray, List.set_cons_zero, List.set_cons_succ]))
                      | (refine plan_skip (by rfl) ?_; (simp only [Act.put, List.setIfInBounds_toArray, List.set_cons_zero, List.set_cons_succ])))
                    refine plan_run (by rfl) (fun K hK => ?_)
                    go_simp
                    refine (open_good (HRC9.out.go (Fr.refl no wc).drew) x.Owner x.Price x.Qty pt _ HOW.out HU.out HUK.out p1 (by have := Hn.out; omega) HASK0.out rfl).mono ?_
                    rintro e w10 ⟨rfl, hR10, hf10⟩
                    have hYM : ¬ one M Y := fun e => by
                      have e2 : Y = M := e
                      obtain ⟨D, ⟨es, clock, hb, _⟩, _⟩ := HRC9.out.u
                      have h1 := HYC9.out
                      rw [e2, hb] at h1
                      cases h1
                    have hZM : ¬ one M Z := fun e => by
                      have e2 : Z = M := e
                      obtain ⟨D, ⟨es, clock, hb, _⟩, _⟩ := HRC9.out.u
                      rw [← e2] at hb
                      have h1 := z0
                      have h2 : wc.cell? ⟨Z, 0, none⟩ = some (.slice none 0 0) := h1
                      unfold World.cell? at h2
                      rw [hb] at h2
                      cases h2
                    have mv := fun {p : Addr} {v : Value} (h : wc.drew.cell? p = some v) (hn : ¬ one M p.block) => hf10.cell h hn
                    dsimp only
                    refine hK.out (fun u' => True) _ _ (⟨mv y1 hYM, mv y2 hYM, mv y3 hYM, mv z0 hZM, mv z1 hZM⟩) (trivial) ?_
                    clear hK K
                    try simp only [Act.put, List.setIfInBounds_toArray, List.set_cons_zero, List.set_cons_succ]
                    repeat (first
                      | (refine plan_step (by rfl) ?_; apply Exists.intro; refine ⟨fun x hSx => ?_, ?_⟩; ((try dsimp only at hSx); go_simp; (try rw [if_neg (by omega)]); (try with_reducible rfl)); (simp only [Act.put, List.setIfInBounds_toArray, List.set_cons_zero, List.set_cons_succ]))
                      | (refine plan_skip (by rfl) ?_; (simp only [Act.put, List.setIfInBounds_toArray, List.set_cons_zero, List.set_cons_succ])))
                    refine plan_run (by rfl) (fun K hK => ?_)
                    go_simp
                    refine (tells_nil .nilIface _).mono ?_
                    rintro e w11 ⟨rfl, hf11⟩
                    have mw := fun {p : Addr} {v : Value} (h : w10.cell? p = some v) => hf11.cell h (fun h => h)
                    dsimp only
                    refine hK.out (fun u' => True) _ _ (⟨⟨mw (mv y1 hYM), mw (mv y2 hYM), mw (mv y3 hYM), mw (mv z0 hZM), mw (mv z1 hZM)⟩, trivial⟩) (trivial) ?_
                    clear hK K
                    try simp only [Act.put, List.setIfInBounds_toArray, List.set_cons_zero, List.set_cons_succ]
                    repeat (first
                      | (refine plan_step (by rfl) ?_; apply Exists.intro; refine ⟨fun x hSx => ?_, ?_⟩; ((try dsimp only at hSx); go_simp; (try rw [if_neg (by omega)]); (try with_reducible rfl)); (simp only [Act.put, List.setIfInBounds_toArray, List.set_cons_zero, List.set_cons_succ]))
                      | (refine plan_skip (by rfl) ?_; (simp only [Act.put, List.setIfInBounds_toArray, List.set_cons_zero, List.set_cons_succ])))
                    refine plan_done ?_
                    have hfx := ((Fr.refl no wc).drew).mono (S' := one M) (fun _ h _ => h.elim)
                    have hfy := (hfx.trans' hf10).trans' (hf11.mono (S' := one M) (fun _ h _ => h.elim))
                    have HRX := Lib.hid (hR10.go hf11)
                    have HRRX := Lib.hid (R_fr HRR9.out hfy (fun k hk => hk.2))
                    have HYX := Lib.hid (hfy.heap HYC9.out hYM)
                    obtain ⟨g0, g1, g2, gf⟩ := lu_cells HRRX.out i HI.out
                    have gf1 := gf 1
                    have gf2 := gf 2
                    obtain ⟨hn1, hm1⟩ := HE.out
                    rw [hn1] at g1
                    rw [hm1] at g2
                    obtain ⟨hok, hr0, hr1⟩ := askF_open HL.out HUK.out (by rw [HASK0.out])
                    have hwn : IntKind.i64.wrap (u.n + 1) = u.n + 1 := IntWalk.i64_in _ (by have := HUK.out.n0; have := HUK.out.n1; omega)
                    have hgl : g < w11.heap.size := by
                      obtain ⟨inner, hown⟩ := Kd.R_own HRRX.out
                      exact own_lt hown g rfl
                    have HOKU := Lib.hid hok
                    have HR01 := Lib.hid (And.intro hr0 hr1)
                    clear mv mw hf10 hf11 hfx hfy y1 y2 y3 z0 z1 g0 gf hn1 hm1 hok hr0 hr1 hR10
                    go_wp2_with fail
                    have hs1 : Fr (one g) w11 (w11.setCell ⟨g, i * 3 + 1, none⟩ (.int .i64 (u.n + 1))) := Fr.set (p := ⟨g, i * 3 + 1, none⟩) (Fr.refl (one g) w11) (fun _ => rfl) _
                    have hR12 := lu_put HRRX.out i HI.out 1 (by decide) (u.n + 1) ⟨x.Owner, u.n + 1, u.money⟩ (by rw [HIO.out, HE.out.1, HE.out.2]; rfl)
                    generalize hW : w11.setCell ⟨g, i * 3 + 1, none⟩ (.int .i64 (u.n + 1)) = w12 at *
                    have hgM : g ≠ M := (HRRX.out.1 g rfl).2
                    have hgb : wb.heap.size ≤ g := (HRRX.out.1 g rfl).1
                    have hBg : B ≠ g := fun e => Kd.R_ne HRRX.out HRX.out.d (by decide) (by rw [e]; rfl)
                    have hYg : Y ≠ g := fun e => Kd.R_ne HRRX.out HYX.out (by decide) (by rw [e]; rfl)
                    have HRX2 := Lib.hid ((HRX.out.far hs1 hgb hBg (fun e => hgM e.symm)).go (Fr.refl no w12).drew)
                    have HYX2 := Lib.hid (((Fr.refl no w12).drew).heap (hs1.heap HYX.out (fun e => hYg e)) (fun h => h))
                    have hR12d := R_fr hR12 ((Fr.refl no w12).drew) (fun _ _ h => h)
                    have hil : i < (m'.set i ⟨x.Owner, u.n + 1, u.money⟩).length := by rw [List.length_set]; exact HI.out
                    obtain ⟨_, _, g2', gf'⟩ := lu_cells hR12d i hil
                    rw [List.getElem_set_self] at g2'
                    have gf2' := gf' 2
                    have y2 : w12.drew.cell? ⟨Y, 2, none⟩ = some (.int .i64 x.Price) := blk_cell HYX2.out 2
                    have y3 : w12.drew.cell? ⟨Y, 3, none⟩ = some (.int .i64 x.Qty) := blk_cell HYX2.out 3
                    have hpq := HR01.out
                    obtain ⟨r, hr⟩ : ∃ r, x.Price * x.Qty = r := ⟨_, rfl⟩
                    have hw1 : IntKind.i64.wrap (x.Price * x.Qty) = r := by rw [hr]; exact IntWalk.i64_in _ (by rw [hr] at hpq; omega)
                    have hw2 : IntKind.i64.wrap (u.money + r) = u.money + r := IntWalk.i64_in _ (by rw [hr] at hpq; have := HUK.out.m0; have := HUK.out.m1; omega)
                    have hw3 : wrap64 (x.Price * x.Qty) = r := by rw [hr]; unfold wrap64; rw [hr] at hpq; omega
                    have hw4 : wrap64 (u.money + r) = u.money + r := by unfold wrap64; rw [hr] at hpq; have := HUK.out.m0; have := HUK.out.m1; omega
                    have HREQ := Lib.hid hr
                    have HR12 := Lib.hid hR12d
                    have HILL := Lib.hid hil
                    have HBG := Lib.hid hBg
                    have HYG := Lib.hid hYg
                    have hgl2 : g < w12.heap.size := by rw [← hW]; simpa [World.setCell] using hgl
                    have HGB := Lib.hid (And.intro hgb hgM)
                    clear hr hpq hR12 hR12d hs1 g1 g2 gf1 gf2 hwn hW hBg hYg hgl hgb hgM
                    go_still_tail 13, (by kernel_rfl)
                    change wpList _ _ _ _ _ w12.drew
                    generalize w12.drew = w13 at *
                    go_wp2_with fail
                    go_meet
                    case rel =>
                      have hs2 : Fr (one g) w13 (w13.setCell ⟨g, i * 3 + 2, none⟩ (.int .i64 (u.money + r))) := Fr.set (p := ⟨g, i * 3 + 2, none⟩) (Fr.refl (one g) w13) (fun _ => rfl) _
                      have hR14 := lu_put HR12.out i HILL.out 2 (by decide) (u.money + r) ⟨x.Owner, u.n + 1, u.money + r⟩ (by rw [List.getElem_set_self]; rfl)
                      rw [List.set_set] at hR14
                      have hX3 := HRX2.out.far hs2 HGB.out.1 HBG.out (fun e => HGB.out.2 e.symm)
                      have hOK := HOk'.out.upd i HI.out ⟨u.n + 1, u.money + x.Price * x.Qty⟩ HOKU.out x.Owner HIO.out
                      rw [HREQ.out] at hX3 hOK
                      exact ⟨m'.set i ⟨x.Owner, u.n + 1, u.money + r⟩, _, n + 1, List.length_set, ⟨by rw [List.length_set]; exact HI.out, by rw [List.getElem_set_self]⟩, Nat.succ_le_succ Hn.out, Lib.hid hOK, Lib.hid hX3, Lib.hid hR14, Lib.hid (hs2.heap HYX2.out (fun e => HYG.out e))⟩
                  · as_aux_lemma =>
                    have HASK1 : Hid (askF L u x.Price x.Qty = (pt, ec)) := HASK
                    have y1 : wc.drew.cell? ⟨Y, 1, none⟩ = some (.int .i64 x.Owner) := blk_cell HYC9.out 1
                    have y2 : wc.drew.cell? ⟨Y, 2, none⟩ = some (.int .i64 x.Price) := blk_cell HYC9.out 2
                    have y3 : wc.drew.cell? ⟨Y, 3, none⟩ = some (.int .i64 x.Qty) := blk_cell HYC9.out 3
                    have z0 : wc.drew.cell? ⟨Z, 0, none⟩ = some (.slice (some ⟨G, 0, none⟩) 1 1) := blk_cell hz 0
                    have z1 : wc.drew.cell? ⟨Z, 1, none⟩ = some (.int .i64 ec) := blk_cell hz 1
                    have d0 : (ec == 0) = false := by simp; omega
                    have H1 := Lib.hid h1
                    have HPZ := Lib.hid hpz
                    clear h1 hz hpz y0
                    go_wp2_with fail
                    refine wp_region_plan (fun u' => u'.cell? ⟨Y, 1, none⟩ = some (.int .i64 x.Owner) ∧ u'.cell? ⟨Y, 2, none⟩ = some (.int .i64 x.Price) ∧ u'.cell? ⟨Y, 3, none⟩ = some (.int .i64 x.Qty) ∧ u'.cell? ⟨Z, 0, none⟩ = some (.slice (some ⟨G, 0, none⟩) 1 1) ∧ u'.cell? ⟨Z, 1, none⟩ = some (.int .i64 ec)) [(0, false), (1, false), (2, false), (3, false), (4, false), (5, false), (6, false), (8, false), (7, true), (9, true), (10, false)] (by kernel_rfl) (by kernel_rfl) (fun _ _ _ _ _ h => h) (⟨y1, y2, y3, z0, z1⟩) ?_
                    simp only [planOps, List.getElem?_toArray, List.getElem?_cons_succ, List.getElem?_cons_zero]
                    repeat (first
                      | (refine plan_step (by rfl) ?_; apply Exists.intro; refine ⟨fun x hSx => ?_, ?_⟩; ((try dsimp only at hSx); go_simp; (try rw [if_neg (by omega)]); (try with_reducible rfl)); (simp only [Act.put, List.setIfInBounds_toArray, List.set_cons_zero, List.set_cons_succ]))
                      | (refine plan_skip (by rfl) ?_; (simp only [Act.put, List.setIfInBounds_toArray, List.set_cons_zero, List.set_cons_succ])))
                    refine plan_run (by rfl) (fun K hK => ?_)
                    go_simp
                    refine (open_bad2 (HRC9.out.go (Fr.refl no wc).drew) x.Owner x.Price x.Qty pt ec HOW.out HU.out HUK.out p1 HASK1.out H1.out).mono ?_
                    rintro e w10 ⟨F, rfl, hF, hf10⟩
                    have mv := fun {p : Addr} {v : Value} (h : wc.drew.cell? p = some v) => hf10.cell h (fun h => h)
                    dsimp only
                    refine hK.out (fun u' => True) _ _ (⟨mv y1, mv y2, mv y3, mv z0, mv z1⟩) (trivial) ?_
                    clear hK K
                    try simp only [Act.put, List.setIfInBounds_toArray, List.set_cons_zero, List.set_cons_succ]
                    repeat (first
                      | (refine plan_step (by rfl) ?_; apply Exists.intro; refine ⟨fun x hSx => ?_, ?_⟩; ((try dsimp only at hSx); go_simp; (try rw [if_neg (by omega)]); (try with_reducible rfl)); (simp only [Act.put, List.setIfInBounds_toArray, List.set_cons_zero, List.set_cons_succ]))
                      | (refine plan_skip (by rfl) ?_; (simp only [Act.put, List.setIfInBounds_toArray, List.set_cons_zero, List.set_cons_succ])))
                    refine plan_run (by rfl) (fun K hK => ?_)
                    go_simp
                    have hpp : PartAt w10 G riskB pt := (HPZ.out.fr (Fr.refl no wc).drew).fr hf10
                    refine (tells_c F G riskB pt ec pt.toNat (by rcases HPTS.out with h | h | h <;> omega) (by rcases HPTS.out with h | h | h <;> omega) H1.out (by rcases HECS.out with h | h <;> omega) (by decide) w10 (HG.out.fr (HFB.out.trans' ((HRC9.out.go (Fr.refl no wc).drew).go hf10).fr) (fun h => h)) hF hpp).mono ?_
                    rintro e w11 ⟨rfl, hf11⟩
                    have mw := fun {p : Addr} {v : Value} (h : w10.cell? p = some v) => hf11.cell h (fun h => h)
                    dsimp only
                    refine hK.out (fun u' => True) _ _ (⟨⟨mw (mv y1), mw (mv y2), mw (mv y3), mw (mv z0), mw (mv z1)⟩, trivial⟩) (trivial) ?_
                    clear hK K
                    try simp only [Act.put, List.setIfInBounds_toArray, List.set_cons_zero, List.set_cons_succ]
                    repeat (first
                      | (refine plan_step (by rfl) ?_; apply Exists.intro; refine ⟨fun x hSx => ?_, ?_⟩; ((try dsimp only at hSx); go_simp; (try rw [if_neg (by omega)]); (try with_reducible rfl)); (simp only [Act.put, List.setIfInBounds_toArray, List.set_cons_zero, List.set_cons_succ]))
                      | (refine plan_skip (by rfl) ?_; (simp only [Act.put, List.setIfInBounds_toArray, List.set_cons_zero, List.set_cons_succ])))
                    refine plan_done ?_
                    have hfx := ((Fr.refl no wc).drew.trans' hf10).trans' hf11
                    have HRX := Lib.hid (HRC9.out.go hfx)
                    have HRRX := Lib.hid (R_fr HRR9.out hfx (fun _ _ h => h))
                    have HYX := Lib.hid (hfx.heap HYC9.out (fun h => h))
                    clear mv mw hpp hf10 hf11 hfx hF y1 y2 y3 z0 z1
                    go_wp2_with fail
                    go_meet
                    case rel => exact ⟨m', f, n, rfl, ⟨HI.out, HIO.out⟩, Nat.le_succ_of_le Hn.out, HOk', HRX, HRRX, HYX⟩
                have hop2 : (x.Op == 2) = false := by simp [hp2]
                by_cases hp3 : x.Op = 3
                · have hop3 : (x.Op == 3) = true := by simp [hp3]
                  clear hp1 hp2 hp3
                  obtain ⟨wn, hwn⟩ : ∃ wn : Int, wn = if x.Whole = true then 1 else 0 := ⟨_, rfl⟩
                  have y1 : wc.cell? ⟨Y, 1, none⟩ = some (.int .i64 x.Owner) := blk_cell HYC9.out 1
                  have y2 : wc.cell? ⟨Y, 2, none⟩ = some (.int .i64 x.Price) := blk_cell HYC9.out 2
                  have y3 : wc.cell? ⟨Y, 3, none⟩ = some (.int .i64 x.Qty) := blk_cell HYC9.out 3
                  have y4 : wc.cell? ⟨Y, 4, none⟩ = some (.bool x.Whole) := blk_cell HYC9.out 4
                  have HMU := Lib.hid (fun W => rmul_g x.Price x.Qty p0 p1 q0 q1 W)
                  clear y0
                  cases hcb : closeB u x.Price x.Qty x.Whole with
                  | false =>
                    as_aux_lemma =>
                    have hcase := closeB_no hwn HUK.out.n0 hcb
                    have HWN := Lib.hid hwn
                    have HCB := Lib.hid hcb
                    clear hwn hcb
                    go_wp2_with fail
                    refine (close_bad2 HRC9.out x.Owner x.Price x.Qty x.Whole HOW.out HU.out HUK.out p0 p1 q0 q1 HCB.out).mono ?_
                    rintro e w10 ⟨rfl, hf10⟩
                    have HRX := Lib.hid (HRC9.out.go hf10)
                    have HRRX := Lib.hid (R_fr HRR9.out hf10 (fun _ _ h => h))
                    have HYX := Lib.hid (hf10.heap HYC9.out (fun h => h))
                    have y2' := hf10.cell y2 (fun h => h)
                    have y3' := hf10.cell y3 (fun h => h)
                    have y4' := hf10.cell y4 (fun h => h)
                    clear y1 y2 y3 y4 hf10
                    dsimp only
                    go_upto_if 188 with (fail)
                    go_cut [20] (fun v20 wc => v20 = .int .i64 wn ∧ wc = w10)
                    case first =>
                      cases hbw : x.Whole with
                      | true =>
                        as_aux_lemma =>
                        rw [hbw] at y4'
                        go_wp2_with fail
                        go_meet
                        case rel => exact ⟨by rw [HWN.out, hbw]; rfl, rfl⟩
                      | false =>
                        as_aux_lemma =>
                        rw [hbw] at y4'
                        go_wp2_with fail
                        go_meet
                        case rel => exact ⟨by rw [HWN.out, hbw]; rfl, rfl⟩
                    case rest =>
                      as_aux_lemma =>
                      obtain ⟨rfl, rfl⟩ := hcut
                      obtain ⟨mu, hmu⟩ : ∃ mu, mulF x.Price x.Qty = mu := ⟨_, rfl⟩
                      rw [hmu] at hcase HMU
                      obtain ⟨mv, me⟩ := mu
                      dsimp only at HMU
                      have HC := Lib.hid hcase
                      clear hmu hcase
                      go_wp2_with fail
                      refine (HMU.out _).mono ?_
                      rintro e w11 ⟨rfl, hf11⟩
                      have z2 := hf11.cell y2' (fun h => h)
                      have z3 := hf11.cell y3' (fun h => h)
                      have HRZ := Lib.hid (HRX.out.go hf11)
                      have HRRZ := Lib.hid (R_fr HRRX.out hf11 (fun _ _ h => h))
                      have HYZ := Lib.hid (hf11.heap HYX.out (fun h => h))
                      obtain ⟨g0, g1, g2, gf⟩ := lu_cells HRRZ.out i HI.out
                      obtain ⟨hn1, hm1⟩ := HE.out
                      rw [hn1] at g1
                      rw [hm1] at g2
                      clear y2' y3' y4' hf11 g0 gf hn1 hm1
                      dsimp only
                      rcases HC.out with c1 | ⟨c1, c2⟩ | ⟨c1, c2, c3⟩ | ⟨c1, c2, c3, c4⟩ | ⟨c1, c2, c3, c4, c5⟩
                      · as_aux_lemma =>
                        go_wp2_with fail
                        go_meet
                        case rel => exact ⟨m', f, n, rfl, ⟨HI.out, HIO.out⟩, Nat.le_succ_of_le Hn.out, HOk', HRZ, HRRZ, HYZ⟩
                      · as_aux_lemma =>
                        go_wp2_with fail
                        go_meet
                        case rel => exact ⟨m', f, n, rfl, ⟨HI.out, HIO.out⟩, Nat.le_succ_of_le Hn.out, HOk', HRZ, HRRZ, HYZ⟩
                      all_goals
                        as_aux_lemma =>
                        injection c3 with c3a c3b
                        subst c3a c3b
                        go_wp2_with fail
                        go_meet
                        case rel => exact ⟨m', f, n, rfl, ⟨HI.out, HIO.out⟩, Nat.le_succ_of_le Hn.out, HOk', HRZ, HRRZ, HYZ⟩
                  | true =>
                    as_aux_lemma =>
                    obtain ⟨c1, c2, c3, c4, c5, c6⟩ := closeB_yes hwn HUK.out hcb
                    obtain ⟨hok, hr0, hr1, _⟩ := closeU_ok HUK.out hcb
                    have hwb : 0 ≤ wn ∧ wn ≤ 1 := by rw [hwn]; split <;> omega
                    have HWN := Lib.hid hwn
                    have HCB := Lib.hid hcb
                    have HC6 := Lib.hid c6
                    have HOKU := Lib.hid hok
                    have HWB := Lib.hid hwb
                    have HR01 := Lib.hid (And.intro hr0 hr1)
                    rw [c3] at HMU
                    clear hwn hcb c3 c6 hok hr0 hr1 hwb
                    go_wp2_with fail
                    refine (close_good2 HRC9.out x.Owner x.Price x.Qty x.Whole HOW.out HU.out HUK.out p1 q1 HCB.out (by have := Hn.out; omega)).mono ?_
                    rintro e w10 ⟨rfl, hR10, hf10⟩
                    have hYM : ¬ one M Y := fun e => by
                      have e2 : Y = M := e
                      obtain ⟨D, ⟨es, clock, hb, _⟩, _⟩ := HRC9.out.u
                      have h1 := HYC9.out
                      rw [e2, hb] at h1
                      cases h1
                    have HRX := Lib.hid hR10
                    have HRRX := Lib.hid (R_fr HRR9.out hf10 (fun k hk => hk.2))
                    have HYX := Lib.hid (hf10.heap HYC9.out hYM)
                    have y2' := hf10.cell y2 hYM
                    have y3' := hf10.cell y3 hYM
                    have y4' := hf10.cell y4 hYM
                    clear y1 y2 y3 y4 hf10 hR10 hYM
                    dsimp only
                    go_upto_if 188 with (fail)
                    go_cut [20] (fun v20 wc => v20 = .int .i64 wn ∧ wc = w10)
                    case first =>
                      cases hbw : x.Whole with
                      | true =>
                        as_aux_lemma =>
                        rw [hbw] at y4'
                        go_wp2_with fail
                        go_meet
                        case rel => exact ⟨by rw [HWN.out, hbw]; rfl, rfl⟩
                      | false =>
                        as_aux_lemma =>
                        rw [hbw] at y4'
                        go_wp2_with fail
                        go_meet
                        case rel => exact ⟨by rw [HWN.out, hbw]; rfl, rfl⟩
                    case rest =>
                      as_aux_lemma =>
                      obtain ⟨rfl, rfl⟩ := hcut
                      obtain ⟨r, hr⟩ : ∃ r, x.Price * x.Qty = r := ⟨_, rfl⟩
                      rw [hr] at c4 HMU HR01 HC6
                      clear hr
                      go_wp2_with fail
                      refine (HMU.out _).mono ?_
                      rintro e w11 ⟨rfl, hf11⟩
                      have z2 := hf11.cell y2' (fun h => h)
                      have z3 := hf11.cell y3' (fun h => h)
                      have HRZ := Lib.hid (HRX.out.go hf11)
                      have HRRZ := Lib.hid (R_fr HRRX.out hf11 (fun _ _ h => h))
                      have HYZ := Lib.hid (hf11.heap HYX.out (fun h => h))
                      obtain ⟨g0, g1, g2, gf⟩ := lu_cells HRRZ.out i HI.out
                      have gf1 := gf 1
                      have gf2 := gf 2
                      obtain ⟨hn1, hm1⟩ := HE.out
                      rw [hn1] at g1
                      rw [hm1] at g2
                      have hw1 : IntKind.i64.wrap (u.n - wn) = u.n - wn := IntWalk.i64_in _ (by have := HUK.out.n0; have := HUK.out.n1; have := HWB.out; omega)
                      have hw2 : IntKind.i64.wrap (u.money - r) = u.money - r := IntWalk.i64_in _ (by have := HUK.out.m0; have := HUK.out.m1; have := HR01.out; omega)
                      have hgl : g < w11.heap.size := by
                        obtain ⟨inner, hown⟩ := Kd.R_own HRRZ.out
                        exact own_lt hown g rfl
                      clear y2' y3' y4' hf11 g0 gf hn1 hm1
                      dsimp only
                      go_wp2_with fail
                      go_meet
                      case rel =>
                        have hs1 : Fr (one g) w11 (w11.setCell ⟨g, i * 3 + 1, none⟩ (.int .i64 (u.n - wn))) := Fr.set (p := ⟨g, i * 3 + 1, none⟩) (Fr.refl (one g) w11) (fun _ => rfl) _
                        have hs2 : Fr (one g) w11 ((w11.setCell ⟨g, i * 3 + 1, none⟩ (.int .i64 (u.n - wn))).setCell ⟨g, i * 3 + 2, none⟩ (.int .i64 (u.money - r))) := Fr.set (p := ⟨g, i * 3 + 2, none⟩) hs1 (fun _ => rfl) _
                        have hR12 := lu_put HRRZ.out i HI.out 1 (by decide) (u.n - wn) ⟨x.Owner, u.n - wn, u.money⟩ (by rw [HIO.out, HE.out.1, HE.out.2]; rfl)
                        have hR13 := lu_put hR12 i (by rw [List.length_set]; exact HI.out) 2 (by decide) (u.money - r) ⟨x.Owner, u.n - wn, u.money - r⟩ (by rw [List.getElem_set_self]; rfl)
                        rw [List.set_set] at hR13
                        have hgM : g ≠ M := (HRRZ.out.1 g rfl).2
                        have hgb : wb.heap.size ≤ g := (HRRZ.out.1 g rfl).1
                        have hBg : B ≠ g := fun e => Kd.R_ne HRRZ.out HRZ.out.d (by decide) (by rw [e]; rfl)
                        have hYg : Y ≠ g := fun e => Kd.R_ne HRRZ.out HYZ.out (by decide) (by rw [e]; rfl)
                        have hX3 := HRZ.out.far hs2 hgb hBg (fun e => hgM e.symm)
                        have hOK := HOk'.out.upd i HI.out (closeU u x.Price x.Qty x.Whole) HOKU.out x.Owner HIO.out
                        rw [HC6.out] at hX3 hOK
                        exact ⟨m'.set i ⟨x.Owner, u.n - wn, u.money - r⟩, _, n + 1, List.length_set, ⟨by rw [List.length_set]; exact HI.out, by rw [List.getElem_set_self]⟩, Nat.succ_le_succ Hn.out, Lib.hid hOK, Lib.hid hX3, Lib.hid hR13, Lib.hid (hs2.heap HYZ.out (fun e => hYg e))⟩
                · have hop3 : (x.Op == 3) = false := by simp [hp3]
                  clear hp1 hp2 hp3
                  as_aux_lemma =>
                  go_wp2_with fail
                  go_meet
                  case rel => exact ⟨m', f, n, rfl, ⟨HI.out, HIO.out⟩, Nat.le_succ_of_le Hn.out, HOk', HRC9, HRR9, HYC9⟩
              case rest => as_aux_lemma =>
                obtain ⟨m2, f2, n2, hl2, ⟨hi2, hio2⟩, Hn2, HOk2, HRk2, HR2, HY2⟩ := hcut
                obtain ⟨hfo, huk⟩ := HOk2.out.e m2[i] (List.getElem_mem hi2)
                rw [hio2] at hfo
                obtain ⟨g0, g1, g2, gf⟩ := lu_cells HR2.out i hi2
                obtain ⟨a2, ha2⟩ : ∃ a2, m2[i].n = a2 := ⟨_, rfl⟩
                obtain ⟨b2, hb2⟩ : ∃ b2, m2[i].money = b2 := ⟨_, rfl⟩
                rw [ha2, hb2] at hfo huk
                rw [ha2] at g1
                rw [hb2] at g2
                have HUT := Lib.hid (used_t HRk2.out x.Owner HOW.out hfo huk)
                have y1 := blk_cell HY2.out 1
                have G1 := Lib.hid g1
                have G2 := Lib.hid g2
                have HL2 := Lib.hid hl2
                clear hfo huk g0 g1 g2 gf ha2 hb2 HIO HE HPTS HECS HASK HZ hfz HRC9 HRR9 HYC9 y0 hio2
                go_wp2_with fail
                refine HUT.out.mono ?_
                rintro e w20 ⟨rfl, hRk20, hf20⟩
                have g1 := hf20.cell G1.out (fun h => h)
                have g2 := hf20.cell G2.out (fun h => h)
                have da : (a2 != a2) = false := by simp
                have db : (b2 != b2) = false := by simp
                have HRk20 := Lib.hid hRk20
                have HR20 := Lib.hid (R_fr HR2.out hf20 (fun _ _ h => h))
                clear hRk20 hf20 HUT y1
                dsimp only
                go_wp2
                go_roundg (l.length - (k + 1))
                case measure => omega
                case rel => exact ⟨k + 1, n2, m2, f2, by omega, by go_num, Hn2, by show m2.length ≤ k + 1; rw [HL2.out]; exact hml', HOk2, HRk20, HR20⟩
    · have dk : decide ((k : Int) < (l.length : Int)) = false := by simp; omega
      have HUT := Lib.hid (used_t HRk.out o HWF.out rfl (HOk.out.at o))
      go_wp2_with fail
      refine HUT.out.mono ?_
      rintro e w20 ⟨rfl, hRk20, hf20⟩
      have HFE := Lib.hid (HFB.out.trans' hRk20.fr)
      have HRR := Lib.hid (R_fr HR.out hf20 (fun _ _ h => h))
      have HFO := Lib.hid (And.intro (fun y hy => (HOk.out.e y hy).1) (HOk.out.z o) : (∀ y ∈ m, f y.owner = ⟨y.n, y.money⟩) ∧ ((∀ y ∈ m, y.owner ≠ o) → f o = zUse))
      obtain ⟨fo, hfo⟩ : ∃ fo, f o = fo := ⟨_, rfl⟩
      rw [hfo]
      obtain ⟨fn, fm⟩ := fo
      have HFQ := Lib.hid hfo
      clear hRk20 hf20 HUT hfo
      dsimp only
      go_wp2
      go_loopg [28] m.length (fun q v28 wz => ∃ j : Nat, j + q = m.length ∧ v28 = .int .i64 j ∧ Hid (∀ i (h : i < m.length), i < j → m[i].owner ≠ o) ∧ w20 = wz)
      case atStart => exact ⟨0, by omega, rfl, fun i _ h => absurd h (Nat.not_lt_zero i), rfl⟩
      case round =>
        obtain ⟨j, hj, rfl, hno, rfl⟩ := hrel
        have hmb : m.length ≤ 80 := by have := Hm.out; omega
        by_cases hjl : j < m.length
        · obtain ⟨gm, cx, he, _, _, _⟩ := Kd.R_form HRR.out (by omega)
          injection he with he1 he2 he3
          subst he1
          obtain ⟨g0, g1, g2, _⟩ := lu_cells HRR.out j hjl
          have j0 : (0 : Int) ≤ (j : Int) := by omega
          have j1 : (j : Int) < (m.length : Int) := by omega
          have dj : decide ((j : Int) < (m.length : Int)) = true := by simp; omega
          obtain ⟨oj, hoj⟩ : ∃ oj, m[j].owner = oj := ⟨_, rfl⟩
          by_cases heq : oj = o
          · have hfe := HFO.out.1 m[j] (List.getElem_mem hjl)
            rw [hoj, heq, HFQ.out] at hfe
            injection hfe with hf1 hf2
            rw [← hf1] at g1
            rw [← hf2] at g2
            rw [hoj] at g0
            have dq : (oj == o) = true := by simp [heq]
            have d2 : (fn == fn) = true := by simp
            have d3 : (fm == fm) = true := by simp
            clear heq hoj he2 he3 hf1 hf2
            go_wp2
            go_ret
            exact ⟨rfl, HFE.out⟩
          · have dq : (oj == o) = false := by simp [heq]
            rw [hoj] at g0
            have HEQ := Lib.hid heq
            have HOJ := Lib.hid hoj
            have HJL := Lib.hid hjl
            clear heq hoj he2 he3 g1 g2
            go_wp2
            go_roundg (m.length - (j + 1))
            case measure => omega
            case rel => exact ⟨j + 1, by have := HJL.out; omega, by go_num, fun i h hi => by
              rcases Nat.lt_succ_iff_lt_or_eq.1 hi with h3 | rfl
              · exact hno.out i h h3
              · exact fun e => HEQ.out (HOJ.out.symm.trans e), rfl⟩
        · obtain rfl : j = m.length := by omega
          have dj : decide ((m.length : Int) < (m.length : Int)) = false := by simp
          have hz := HFO.out.2 (fun y hy => by
            obtain ⟨i, hi, rfl⟩ := List.getElem_of_mem hy
            exact hno.out i hi hi)
          rw [HFQ.out] at hz
          injection hz with hz1 hz2
          subst hz1 hz2
          go_wp2
          go_ret
          exact ⟨rfl, HFE.out⟩
end Go.Proofs.YtdlefdlnnclcaaaDoor.Risk
