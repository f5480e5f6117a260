import Derived.Test.YtdgeakojdafipaaDoorLegM
import Derived.Lib.ItoaNum
/-! Contract of legs.Text. -/
set_option linter.unusedVariables false
set_option linter.unusedSimpArgs false
namespace Go.Proofs.YtdgeakojdafipaaDoor.Legs
open Go.RowKit Go.Proofs.YtdgeakojdafipaaDoorW.PrintWords Go.Proofs.YtdgeakojdafipaaDoor.B Go.Proofs.YtdgeakojdafipaaDoor.Num

theorem infoS : (Tryd.prog.info? 9).map (fun i => (i.zero, i.size, i.bytes)) = some (some (.string ⟨#[]⟩), 1, 16) := by kernel_rfl
def numB (n : Int) : ByteArray := ⟨(Lib.itoa n).toArray⟩
/-- num.Text tells n's text, in w and behind it. -/
def TxAt (w : World) (n : Int) : Prop := ∀ W, Fr no w W → Calls Tryd.prog 36 #[.int .i64 n] W fun e w' => e = .returned (.string (numB n)) ∧ Fr no W w'
theorem itoa_nat (i : Nat) : Lib.itoa (i : Int) = Lib.decDigits i := by
  unfold Lib.itoa
  rw [if_neg (by omega)]
  simp
theorem tx_small (w : World) (n : Int) (i : Nat) (h : n = (i : Int)) (hi : i < 100) : TxAt w n := fun W _ => by
  subst h
  have e : numB (i : Int) = ⟨(Lib.decDigits i).toArray⟩ := by unfold numB; rw [itoa_nat]
  rw [e]
  clear e
  go_enter Tryd.func36, Tryd.ntmps36
  go_wp2_with fail
  refine (Tryd.strconv_FormatInt_10_small i hi _).mono ?_
  rintro e w' ⟨rfl, rfl⟩
  dsimp only
  go_wp2
  go_ret
  exact ⟨rfl, Fr.refl _ _⟩
def signB (s : Int) : ByteArray := if s < 0 then ⟨#[45]⟩ else ⟨#[43]⟩
def legT (x : Leg) : ByteArray := signB x.Sign ++ numB x.Ratio ++ ⟨#[42]⟩ ++ numB x.Series
def txt (l : List Leg) : List UInt8 := Lib.join ((l.map legT).map (·.data.toList)) [32]
theorem signB_size (s : Int) : (signB s).size = 1 := by unfold signB; split <;> rfl
set_option maxRecDepth 100000 in
set_option maxHeartbeats 4000000 in
theorem text_c (A : Option Addr) (c : Nat) (l : List Leg) (w : World) (hC : kLeg.C w A l.length l) (h0 : 0 < l.length) (h6 : l.length ≤ 20) (ht : ∀ x ∈ l, (TxAt w x.Ratio ∧ TxAt w x.Series) ∧ ((numB x.Ratio).size ≤ 30 ∧ (numB x.Series).size ≤ 30)) (hj : (txt l).length ≤ 10000) :
    Calls Tryd.prog 18 #[.slice A l.length c] w fun e w' => e = .returned (.string ⟨(txt l).toArray⟩) ∧ Fr no w w' := by
  have HK := Lib.hid (And.intro hC (And.intro ht hj))
  clear hC ht hj
  go_enter Tryd.func18, Tryd.ntmps18
  go_wp2
  go_loopg [3, 9] l.length (fun q v3 v9 wr => ∃ k : Nat, k + q = l.length ∧ v9 = .int .i64 k ∧ Hid (Kd.string.R 9 wr 0 (since w) v3 ((l.take k).map legT)) ∧ Fr no w wr)
  case atStart => exact ⟨0, by omega, rfl, by show Kd.R _ _ _ _ _ _ _; simpa using Kd.R_nil _ _ _ _ _, Fr.refl _ _⟩
  case round =>
    obtain ⟨k, hk, rfl, hR, hf⟩ := hrel
    by_cases hlt : k < l.length
    · obtain ⟨ad, rfl, c0, c1, c2⟩ := lg_at (C_fr HK.out.1 hf) k hlt
      obtain ⟨⟨t1, t2⟩, z1, z2⟩ := HK.out.2.1 _ (List.getElem_mem hlt)
      have hsn : (l.take (k + 1)).map legT = (l.take k).map legT ++ [legT (lg l k)] := by
        rw [List.take_succ_eq_append_getElem hlt, List.map_append, lg_lt hlt]
        rfl
      rw [← lg_lt hlt] at t1 t2 z1 z2
      have HSN := Lib.hid hsn
      have hgl : ((l.take k).map legT).length ≤ 1000 := by rw [List.length_map, List.length_take]; omega
      clear hsn
      generalize lg l k = x at *
      obtain ⟨G, hG⟩ : ∃ x, (l.take k).map legT = x := ⟨_, rfl⟩
      rw [hG] at hR hgl HSN
      clear hG
      obtain ⟨b1, hb1⟩ : ∃ b, numB x.Ratio = b := ⟨_, rfl⟩
      obtain ⟨b2, hb2⟩ : ∃ b, numB x.Series = b := ⟨_, rfl⟩
      unfold legT at HSN
      unfold TxAt at t1 t2
      rw [hb1] at t1 z1 HSN
      rw [hb2] at t2 z2 HSN
      have T1 := Lib.hid t1
      have T2 := Lib.hid t2
      obtain ⟨A1, cc, rfl⟩ := Kd.R_slice hR.out
      have hs : (decide (x.Sign < 0) = true ∧ signB x.Sign = ⟨#[45]⟩) ∨ (decide (x.Sign < 0) = false ∧ signB x.Sign = ⟨#[43]⟩) := by
        unfold signB
        by_cases h : x.Sign < 0
        · exact .inl ⟨by simp [h], if_pos h⟩
        · exact .inr ⟨by simp [h], if_neg h⟩
      clear t1 t2 hb1 hb2
      have hX := blk_new wr (.cells #[.int .i64 x.Series, .int .i64 x.Sign, .int .i64 x.Ratio] 43)
      have hfx := hf.alloc (.cells #[.int .i64 x.Series, .int .i64 x.Sign, .int .i64 x.Ratio] 43)
      have HRx : Hid (Kd.string.R 9 (wr.alloc (.cells #[.int .i64 x.Series, .int .i64 x.Sign, .int .i64 x.Ratio] 43)) 0 (since w) (.slice A1 G.length cc) G) := Kd.R_alloc hR.out _
      have HX := Lib.hid hX
      have HFX := Lib.hid hfx
      have HF := Lib.hid hf
      clear hX hfx hR hf
      rcases hs with ⟨e1, e2⟩ | ⟨e1, e2⟩
      all_goals
        rw [e2] at HSN
        clear e2
        go_wp2_with fail
        have hX := HX.out
        generalize wr.alloc _ = w2 at *
        generalize wr.heap.size = X at *
        have HKK : Hid (∀ u, Fr no w2 u → u.cell? ⟨X, 2, none⟩ = some (.int .i64 x.Ratio) ∧ u.cell? ⟨X, 0, none⟩ = some (.int .i64 x.Series)) := fun u h => ⟨blk_cell (h.heap hX (fun h => h)) 2, blk_cell (h.heap hX (fun h => h)) 0⟩
        clear hX c0 c1 c2
        have hfd := (Fr.refl no w2).drew
        refine wp_region_plan (fun u => u.cell? ⟨X, 2, none⟩ = some (.int .i64 x.Ratio) ∧ u.cell? ⟨X, 0, none⟩ = some (.int .i64 x.Series)) [(0, false), (1, false), (2, false), (3, false), (7, false), (8, false), (4, true), (5, false), (6, false), (9, true), (10, false), (11, true), (12, true), (13, false)] (by kernel_rfl) (by kernel_rfl) (fun _ _ _ _ _ h => h) (HKK.out _ hfd) ?_
        simp only [planOps, List.getElem?_toArray, List.getElem?_cons_succ, List.getElem?_cons_zero]
        repeat (first
          | (refine plan_step (by rfl) ?_; apply Exists.intro; refine ⟨fun x hSx => ?_, ?_⟩; ((try dsimp only at hSx); go_simp; (try rw [if_neg (by omega)]); (try with_reducible rfl)); (simp only [Act.put, List.setIfInBounds_toArray, List.set_cons_zero, List.set_cons_succ]))
          | (refine plan_skip (by rfl) ?_; (simp only [Act.put, List.setIfInBounds_toArray, List.set_cons_zero, List.set_cons_succ])))
        refine plan_run (by rfl) (fun K hK => ?_)
        go_simp
        refine (T1.out _ (HFX.out.trans' hfd)).mono ?_
        rintro e w3 ⟨rfl, g3⟩
        have hf3 := hfd.trans' g3
        have q3 := HKK.out _ hf3
        clear g3
        dsimp only
        refine hK.out (fun u => True) _ _ (q3) (trivial) ?_
        clear hK K
        try simp only [Act.put, List.setIfInBounds_toArray, List.set_cons_zero, List.set_cons_succ]
        repeat (first
          | (refine plan_step (by rfl) ?_; apply Exists.intro; refine ⟨fun x hSx => ?_, ?_⟩; ((try dsimp only at hSx); go_simp; (try rw [if_neg (by omega)]); (try with_reducible rfl)); (simp only [Act.put, List.setIfInBounds_toArray, List.set_cons_zero, List.set_cons_succ]))
          | (refine plan_skip (by rfl) ?_; (simp only [Act.put, List.setIfInBounds_toArray, List.set_cons_zero, List.set_cons_succ])))
        refine plan_run (by rfl) (fun K hK => ?_)
        go_simp
        refine (T2.out _ (HFX.out.trans' hf3)).mono ?_
        rintro e w4 ⟨rfl, g4⟩
        have hf4 := hf3.trans' g4
        have q4 := HKK.out _ hf4
        clear g4
        dsimp only
        refine hK.out (fun u => True) _ _ (⟨q4, trivial⟩) (trivial) ?_
        clear hK K
        try simp only [Act.put, List.setIfInBounds_toArray, List.set_cons_zero, List.set_cons_succ]
        repeat (first
          | (refine plan_step (by rfl) ?_; apply Exists.intro; refine ⟨fun x hSx => ?_, ?_⟩; ((try dsimp only at hSx); go_simp; (try rw [if_neg (by omega)]); (try with_reducible rfl)); (simp only [Act.put, List.setIfInBounds_toArray, List.set_cons_zero, List.set_cons_succ]))
          | (refine plan_skip (by rfl) ?_; (simp only [Act.put, List.setIfInBounds_toArray, List.set_cons_zero, List.set_cons_succ])))
        refine plan_run (by rfl) (fun K hK => ?_)
        go_simp
        have hq5 := fun o => HKK.out _ (hf4.alloc o)
        refine hK.out (fun u => True) _ _ (⟨⟨hq5 _, trivial⟩, trivial⟩) (trivial) ?_
        clear hK K
        try simp only [Act.put, List.setIfInBounds_toArray, List.set_cons_zero, List.set_cons_succ]
        refine plan_if (fun K hK => ?_)
        refine Kd.R_append_step Kd.string (w0 := w4) 0 (by rfl) (.tmp 16) (.tmp 27) 67 9 (.string ⟨#[]⟩) 16 rfl Tryd.underlying67 infoS rfl (by decide) (by omega) _ G _ [.string _] (since w) (fun _ => False) rfl rfl rfl (fun _ hk => hk.elim) (fun b hb => Nat.le_trans (HFX.out.trans' hf4).size hb) (R_fr HRx.out hf4 (fun _ _ h => h)) (Below.refl 0 _) (Nat.zero_le _) (by omega) ?_
        intro v1 w8 ho hb1 hg hat
        clear hat hb1
        have hF8 := (HFX.out.trans' hf4).new' ((Fr.of_grown hg (fun k hk _ => HRx.out.1 k hk)).mono (fun _ h _ => h))
        have hX4 := hf4.heap HX.out (fun h => h)
        have hX8 := (hg.block X (blk_lt hX4) (Kd.R_ne (R_fr HRx.out hf4 (fun _ _ h => h)) hX4 (by decide))).trans hX4
        obtain ⟨A2, c2, rfl⟩ := Kd.R_slice ho
        rw [List.length_append] at ho
        rw [← HSN.out] at ho
        have HO := Lib.hid ho
        have q8 : w8.cell? ⟨X, 2, none⟩ = some (.int .i64 x.Ratio) ∧ w8.cell? ⟨X, 0, none⟩ = some (.int .i64 x.Series) := ⟨blk_cell hX8 2, blk_cell hX8 0⟩
        clear hg ho hX4 hX8
        refine hK.out (fun u => True) _ _ (⟨⟨⟨q8, trivial⟩, trivial⟩, trivial⟩) (trivial) ?_
        clear hK K
        try simp only [Act.put, List.setIfInBounds_toArray, List.set_cons_zero, List.set_cons_succ]
        repeat (first
          | (refine plan_step (by rfl) ?_; apply Exists.intro; refine ⟨fun x hSx => ?_, ?_⟩; ((try dsimp only at hSx); go_simp; (try rw [if_neg (by omega)]); (try with_reducible rfl)); (simp only [Act.put, List.setIfInBounds_toArray, List.set_cons_zero, List.set_cons_succ]))
          | (refine plan_skip (by rfl) ?_; (simp only [Act.put, List.setIfInBounds_toArray, List.set_cons_zero, List.set_cons_succ])))
        refine plan_done ?_
        clear q3 q4 hq5 q8 hf3 hf4 hfd
        go_wp2
        go_roundg (l.length - (k + 1))
        case measure => omega
        case rel => exact ⟨k + 1, by omega, by go_num, HO, hF8⟩
    · obtain rfl : k = l.length := by omega
      have hR2 := hR.out
      rw [List.take_length] at hR2
      obtain ⟨g, cm, rfl, hcm, hgl, _⟩ := Kd.R_form hR2 (by rw [List.length_map]; exact h0)
      have hCS := (Kd.R_reads' hR2).2.2
      have hcap := (Kd.R_reads' hR2).2.1
      have hcell : ∀ (j : Nat) (x : ByteArray), (l.map legT)[j]? = some x → wr.cell? ⟨g, 0 + j, none⟩ = some (.string x) := fun j x hj => by
        obtain ⟨_, _, h3⟩ := hCS
        obtain ⟨ad, e1, h4⟩ := h3 (by rw [List.length_map]; exact h0)
        obtain rfl := (Option.some.inj e1).symm
        obtain ⟨cc, k1, k2, k3⟩ := h4 j x hj
        have k2' : cc = [.string x] := k2
        subst k2'
        have k4 := k3 0 (.string x) rfl
        have e : Addr.add ⟨g, 0, none⟩ (j * Kd.string.sz + 0) = ⟨g, 0 + j, none⟩ := by
          rw [show Kd.string.sz = 1 from rfl, Nat.mul_one, Nat.add_zero]
          unfold Addr.add
          by_cases h0 : j = 0
          · subst h0; simp
          · simp [h0]
        rw [e] at k4
        exact k4
      have hbk : g < wr.heap.size := World.block_lt_of_cell? wr ⟨g, 0 + 0, none⟩ (hcell 0 _ (List.getElem?_eq_getElem (by rw [List.length_map]; exact h0)))
      have hJ0 := (Tryd.strings_Join g 0 cm (l.map legT) ⟨#[32]⟩ wr hcell hbk (by rw [List.length_map]; omega) hcap (by have := HK.out.2.2; unfold txt at this; exact Nat.le_trans this (by omega)))
      rw [List.length_map] at hJ0
      have hJoin := Lib.hid hJ0
      clear hcell hCS hR hR2 hJ0
      rw [List.length_map]
      go_wp2_with fail
      (with_reducible refine (hJoin.out).mono ?_)
      rintro e w1 ⟨rfl, hb⟩
      dsimp only
      go_wp2
      go_ret
      exact ⟨rfl, hf.trans' (Fr.of_below hb)⟩
end Go.Proofs.YtdgeakojdafipaaDoor.Legs
