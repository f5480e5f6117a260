import Derived.Test.YtdkkdoadafhfmaaDoorCrcK
import Derived.OpenShut
/-! SumsTurned: of bytes of which few bits in a row were turned the sum is another one; sealed bytes so turned do not open. -/
set_option linter.unusedVariables false
set_option linter.unusedSimpArgs false
namespace Go.Proofs.YtdkkdoadafhfmaaDoor.Crc
open Go.RowKit Go.Proofs.YtdkkdoadafhfmaaDoorW.PrintWords Go.Proofs.YtdkkdoadafhfmaaDoor.B Go.Proofs.YtdkkdoadafhfmaaDoor.Err

theorem ns_lt {b : List Int} (hb : ∀ x ∈ b, 0 ≤ x ∧ x < 256) : run 4294967295 (ns b) < 4294967296 := run_lt (ns b) (by omega) (fun x hx => by
  obtain ⟨y, hy, rfl⟩ := List.mem_map.1 hx
  have := hb y hy
  omega)
theorem addF_ne {b c : List Int} (hb : ∀ x ∈ b, 0 ≤ x ∧ x < 256) (hc : ∀ x ∈ c, 0 ≤ x ∧ x < 256) (h : run 4294967295 (ns c) ≠ run 4294967295 (ns b)) : addF 0 b ≠ addF 0 c := by
  have h1 := ns_lt hb
  have h2 := ns_lt hc
  unfold addF
  rw [Nat.sub_zero]
  omega
theorem bit_and (P j : Nat) (hP : P < 4294967296) (v : Nat) (h : P / 2 ^ j % 2 = v) : bits .and .u32 ((P : Int) / 2 ^ j) 1 = (v : Int) := by
  have h0 : P / 2 ^ j < 4294967296 := Nat.lt_of_le_of_lt (Nat.div_le_self _ _) hP
  have h1 := u32_and_nat (P / 2 ^ j) 1 h0 (by omega)
  rw [nat_mask1, h] at h1
  have e : ((P / 2 ^ j : Nat) : Int) = (P : Int) / 2 ^ j := by simp
  rw [e] at h1
  exact h1
theorem bit_xor (x : Int) (r : Nat) (x0 : 0 ≤ x) (x1 : x < 256) (hr : r < 8) : bits .xor .u8 x (2 ^ r % 256) = ((x.toNat ^^^ 2 ^ r : Nat) : Int) ∧ 0 ≤ ((x.toNat ^^^ 2 ^ r : Nat) : Int) ∧ ((x.toNat ^^^ 2 ^ r : Nat) : Int) < 256 := by
  have h2 : x.toNat ^^^ 2 ^ r < 2 ^ 8 := Nat.xor_lt_two_pow (by omega) (Nat.pow_lt_pow_right (by decide) hr)
  refine ⟨?_, by omega, by omega⟩
  have h : r = 0 ∨ r = 1 ∨ r = 2 ∨ r = 3 ∨ r = 4 ∨ r = 5 ∨ r = 6 ∨ r = 7 := by omega
  rcases h with rfl | rfl | rfl | rfl | rfl | rfl | rfl | rfl <;> exact u8_xor x _ x0 x1 (by decide) (by decide)
theorem ns_set (c : List Int) (m : Nat) (y : Nat) : ns (c.set m (y : Int)) = (ns c).set m y := by
  unfold ns
  rw [List.map_set, Int.toNat_natCast]
theorem ns_get {c : List Int} {m : Nat} {x : Int} (h : c[m]? = some x) : (ns c)[m]?.getD 0 = x.toNat := by
  unfold ns
  rw [List.getElem?_map, h]
  rfl
theorem ns_len (c : List Int) : (ns c).length = c.length := by simp [ns]
set_option maxRecDepth 100000 in
set_option maxHeartbeats 4000000 in
theorem turned_c (w : World) (hg : ErrType w) (A : Option Addr) (cap : Nat) (b : List Int) (at' p : Int) (hC : (Kd.int .u8).C w A b.length b) (hcap : b.length ≤ cap) (hb : ∀ x ∈ b, 0 ≤ x ∧ x < 256) (a1 : at' ≤ 9223372036854775807) (p0 : 0 ≤ p) (p1 : p < 4294967296) : Calls Tryd.prog 3 #[.slice A b.length cap, .int .i64 at', .int .u32 p] w fun e w' => e = .returned (.bool true) ∧ Fr no w w' := by
  have HG := Lib.hid hg
  have HB := Lib.hid hb
  clear hg hb
  go_enter Tryd.func3, Tryd.ntmps3
  go_wp2_with fail
  refine (known_c w HG.out).mono ?_
  rintro e w1 ⟨rfl, hf⟩
  dsimp only
  by_cases h4 : b.length < 4
  · have hd : decide ((b.length : Int) < 4) = true := by simp; omega
    go_wp2
    go_ret
    exact ⟨rfl, hf⟩
  have hd4 : decide ((b.length : Int) < 4) = false := by simp; omega
  by_cases h300 : 300 < b.length
  · have hd : decide ((300 : Int) < (b.length : Int)) = true := by simp; omega
    go_wp2
    go_ret
    exact ⟨rfl, hf⟩
  have hd3 : decide ((300 : Int) < (b.length : Int)) = false := by simp; omega
  by_cases hat : at' < 0
  · have hd : decide (at' < 0) = true := by simpa using hat
    clear hat
    go_wp2
    go_ret
    exact ⟨rfl, hf⟩
  have hda : decide (at' < 0) = false := by simpa using hat
  by_cases hp : p = 0
  · have hd : (p == 0) = true := by simp [hp]
    clear hp
    go_wp2
    go_ret
    exact ⟨rfl, hf⟩
  have hdp : (p == 0) = false := by simp [hp]
  have at0 : 0 ≤ at' := by omega
  have pp : 0 < p := by omega
  clear hat hp
  obtain ⟨P, rfl⟩ : ∃ P : Nat, p = (P : Int) := ⟨p.toNat, by omega⟩
  obtain ⟨k, hk⟩ : ∃ k : Nat, at' % (8 * (b.length : Int) - 31) = (k : Int) := ⟨(at' % (8 * (b.length : Int) - 31)).toNat, by have := Int.emod_nonneg at' (show 8 * (b.length : Int) - 31 ≠ 0 by omega); omega⟩
  have hk2 : (k : Int) < 8 * (b.length : Int) - 31 := by rw [← hk]; exact Int.emod_lt_of_pos _ (by omega)
  have hz : 0 < 8 * (b.length : Int) - 31 := by omega
  have hC1 := C_fr hC hf
  have hE : (Kd.int .u8).R 5 (w1.alloc (.cells #[] 5)) 0 (since w) (.slice (some ⟨w1.heap.size, 0, none⟩) 0 0) [] := Kd.R_of_own (World.ownsRow_lit w1 #[] 0 (Nat.zero_le _) (by decide) rfl) (fun k hk => by simp [Value.ownBlock] at hk; subst hk; exact hf.size)
  have hfa := hf.alloc (.cells #[] 5)
  have hC2 := C_fr hC1 ((Fr.refl no w1).alloc (.cells #[] 5))
  go_wp2_with (at_builtin
               refine Kd.R_append_row (fun n : Int => Value.int .u8 n) (0 : Int) (w0 := w1.alloc (.cells #[] 5)) 0 rfl (.tmp 37) (.tmp 38) 22 5 (.int .u8 0) 1 rfl Tryd.underlying22 info8 rfl (by decide) _ [] b A b.length cap (since w) rfl rfl (fun x hx => Nat.le_trans hfa.size hx) hE hC2 (Below.refl 0 _) (Nat.zero_le _) (by simp; omega) ?_
               intro v1 w2 ho hb1 hg hat
               clear hat hb1
               have hf2 := hfa.new' (Fr.of_grown hg (fun x hx _ => hE.1 x hx))
               clear hg hE hC1 hC2 hf hfa)
  change (Kd.int .u8).R 5 w2 0 (since w) v1 ([] ++ b) at ho
  rw [List.nil_append] at ho
  obtain ⟨g, cap1, rfl, _, hgl, _⟩ := Kd.R_form ho (by omega)
  clear hk at0 hda hdp hd3 hd4
  go_loopg [9] 32 (fun q i wr => ∃ (j : Nat) (c : List Int), j + q = 32 ∧ i = .int .i64 (j : Int) ∧ c.length = b.length ∧ (Kd.int .u8).R 5 wr 0 (since w) (.slice (some ⟨g, 0, none⟩) b.length cap1) c ∧ Hid (∀ x ∈ c, 0 ≤ x ∧ x < 256) ∧ Hid (Turned (ns b) (ns c) k P j) ∧ Fr no w wr)
  case atStart => exact ⟨0, b, by omega, rfl, rfl, ho, HB.out, turned_zero _ _ _, hf2⟩
  case round =>
    clear ho hf2
    obtain ⟨j, c, hj, rfl, hcl, hR, hcb, hT, hf⟩ := hrel
    by_cases hlt : j < 32
    · have hdd : decide ((j : Int) < 32) = true := by simp; omega
      obtain ⟨m, hm⟩ : ∃ m : Nat, ((k : Int) + (j : Int)) / 8 = (m : Int) := ⟨(k + j) / 8, by omega⟩
      obtain ⟨r, hr⟩ : ∃ r : Nat, ((k : Int) + (j : Int)) % 8 = (r : Int) := ⟨(k + j) % 8, by omega⟩
      have hm1 : m < b.length := by omega
      have hr1 : r < 8 := by omega
      obtain ⟨x0, x1⟩ := hcb.out c[m] (List.getElem_mem (by omega))
      rw [← hcl] at hR
      obtain ⟨y0, y1⟩ := Kd.R_cell 0 hR (m : Int) (by omega) (by omega)
      rw [Int.toNat_natCast] at y0 y1
      rw [show rdOf 0 c (m : Int) = c[m] by simp [rdOf, show m < c.length by omega]] at y0
      have hput := fun x => Kd.R_put hR (m : Int) x
      rw [hcl] at hput hR
      have HPUT := Lib.hid hput
      clear hput
      have hx0 : c[m]? = some c[m] := List.getElem?_eq_getElem (by omega)
      generalize c[m] = x at *
      have HX := Lib.hid hx0
      have HCL := Lib.hid hcl
      clear hx0 hcl
      by_cases hbit : P / 2 ^ j % 2 = 1
      · have hand : bits .and .u32 ((P : Int) / 2 ^ j) 1 = 1 := bit_and P j (by omega) 1 hbit
        obtain ⟨hxr, hy0, hy1⟩ := bit_xor x r x0 x1 hr1
        obtain ⟨y, hy⟩ : ∃ y, x.toNat ^^^ 2 ^ r = y := ⟨_, rfl⟩
        rw [hy] at hxr hy0 hy1
        have HY := Lib.hid hy
        have HBIT := Lib.hid hbit
        have HM := Lib.hid hm
        have HR := Lib.hid hr
        clear hbit hy
        go_wp2
        clear hand hxr hm hr
        have hput := (HPUT.out (y : Int)).1
        rw [Int.toNat_natCast] at hput
        have hgr := (HPUT.out (y : Int)).2
        rw [Int.toNat_natCast] at hgr
        have hcy : Hid (∀ z ∈ c.set m (y : Int), 0 ≤ z ∧ z < 256) := fun z hz => by
          rcases List.mem_or_eq_of_mem_set hz with h | rfl
          · exact hcb.out z h
          · exact ⟨hy0, hy1⟩
        have hTy : Hid (Turned (ns b) (ns (c.set m (y : Int))) k P (j + 1)) := by
          have e1 : (k + j) / 8 = m := by have := HM.out; omega
          have e2 : (k + j) % 8 = r := by have := HR.out; omega
          have h1 := turned_bit hT.out HBIT.out (by rw [e1, ns_len, HCL.out]; exact hm1)
          rw [e1, e2, ns_get HX.out, HY.out] at h1
          show Turned _ _ _ _ _
          rw [ns_set]
          exact h1
        have hCL2 : Hid ((c.set m (y : Int)).length = b.length) := by show _ = _; rw [List.length_set]; exact HCL.out
        have hf9 := hf.new' (Fr.of_grown hgr (fun z hz _ => by injection hz with hz; subst hz; exact hR.1 _ rfl))
        clear hR HPUT hcb hT HX hgr y0 y1 HY
        go_roundg (32 - (j + 1))
        case measure => omega
        case rel => exact ⟨j + 1, _, by omega, by go_num, hCL2.out, hput, hcy.out, hTy.out, hf9⟩
      · have hb0 : P / 2 ^ j % 2 = 0 := by omega
        have hand : bits .and .u32 ((P : Int) / 2 ^ j) 1 = 0 := bit_and P j (by omega) 0 hb0
        have HT2 := Lib.hid (turned_keep hT.out hb0)
        clear hbit hb0 hm hr HPUT hT y0 y1 HX
        go_wp2
        clear hand
        go_roundg (32 - (j + 1))
        case measure => omega
        case rel => exact ⟨j + 1, c, by omega, by go_num, HCL.out, hR, hcb.out, HT2.out, hf⟩
    · obtain rfl : j = 32 := by omega
      have hne := turned_ne hT.out (by omega) (by omega) (by rw [ns_len]; omega) 4294967295
      have HNE := Lib.hid hne
      have HCL := Lib.hid hcl
      have hBb : Bytes [b] := fun q hq => by
        simp only [List.mem_singleton] at hq
        subst hq
        exact ⟨by omega, HB.out⟩
      have hBc : Bytes [c] := fun q hq => by
        simp only [List.mem_singleton] at hq
        subst hq
        exact ⟨by omega, hcb.out⟩
      have HBB := Lib.hid hBb
      have HBC := Lib.hid hBc
      clear hT hlt hj hne hBb hBc hcl
      go_wp2_with fail
      refine (seal_c A cap b HBB.out hcap wr (C_fr hC hf)).mono ?_
      rintro e w3 ⟨⟨A1, c1, rfl, hRs⟩, hf3⟩
      obtain ⟨S, hS⟩ : ∃ S, addF 0 b = S := ⟨_, rfl⟩
      rw [hS] at hRs
      have HS := Lib.hid hS
      have hsl : (b ++ le4 S).length = b.length + 4 := by rw [List.length_append]; rfl
      obtain ⟨g1, c2, hv, _, _, _⟩ := Kd.R_form hRs (by rw [hsl]; omega)
      injection hv with h1 h2 h3
      clear h2
      subst h1 h3
      obtain ⟨hcs, hcs2⟩ := R_cap hRs
      have hCs := (Kd.R_reads' hRs).2.2
      have hRc := R_fr (R_lt' hR) hf3 (fun _ _ h => h)
      have hRs2 := R_lt' hRs
      have hf4 := hf.trans' hf3
      have hwr3 := hf3.size
      have HSL := Lib.hid hsl
      clear hS hR hf hf3 hRs hCs hsl
      have hb300 : b.length ≤ 300 := by omega
      clear hz hk2 p0 p1 pp h300 h4
      dsimp only
      go_wp2
      have hE3 : (Kd.int .u8).R 5 ((w3.alloc (.cells #[] 5)).drew) 0 (since w3) (.slice (some ⟨w3.heap.size, 0, none⟩) 0 0) [] := Kd.R_drew <| Kd.R_of_own (World.ownsRow_lit w3 #[] 0 (Nat.zero_le _) (by decide) rfl) (fun k hk => by simp [Value.ownBlock] at hk; subst hk; exact Nat.le_refl _)
      have hfe := ((Fr.refl no w3).alloc (.cells #[] 5)).drew
      have hw1 : (0 : Int) ≤ (b.length : Int) := by omega
      have hw2 : (b.length : Int) ≤ (c1 : Int) := by omega
      have hw3 : (b.length : Int) ≤ (b.length : Int) + 4 := by omega
      have hw4 : (b.length : Int) + 4 ≤ (c1 : Int) := by omega
      refine wp_region_plan (fun _ => True) [(1, false), (3, false), (4, false), (5, false), (6, false), (0, true), (2, true), (7, true), (8, true), (9, false), (10, false), (11, false), (12, false), (13, false)] (by kernel_rfl) (by kernel_rfl) (fun _ _ _ _ _ h => h) (trivial) ?_
      simp only [planOps, List.getElem?_toArray, List.getElem?_cons_succ, List.getElem?_cons_zero]
      repeat (first
        | (refine plan_step (by rfl) ?_; apply Exists.intro; refine ⟨fun x hSx => ?_, ?_⟩; ((try dsimp only at hSx); go_simp; (try rw [if_neg (by omega)]); (try with_reducible rfl)); (simp only [Act.put, List.setIfInBounds_toArray, List.set_cons_zero, List.set_cons_succ]))
        | (refine plan_skip (by rfl) ?_; (simp only [Act.put, List.setIfInBounds_toArray, List.set_cons_zero, List.set_cons_succ])))
      refine plan_run (by rfl) (fun K hK => ?_)
      go_simp
      refine hK.out (fun u => True) _ _ (trivial) (trivial) ?_
      clear hK K
      try simp only [Act.put, List.setIfInBounds_toArray, List.set_cons_zero, List.set_cons_succ]
      have hRc2 := R_fr hRc hfe (fun _ _ h => h)
      have hRs3 := R_fr hRs2 hfe (fun _ _ h => h)
      have hcc := (Kd.R_reads' hRc2).2.2
      rw [HCL.out] at hcc
      have hf5 := hf4.trans' hfe
      have hsz4 := hfe.size
      have hs30 := hf4.size
      clear hRc hRs2 hf4 hfe
      generalize (w3.alloc _).drew = w4 at *
      repeat (first
        | (refine plan_step (by rfl) ?_; apply Exists.intro; refine ⟨fun x hSx => ?_, ?_⟩; ((try dsimp only at hSx); go_simp; (try rw [if_neg (by omega)]); (try with_reducible rfl)); (simp only [Act.put, List.setIfInBounds_toArray, List.set_cons_zero, List.set_cons_succ]))
        | (refine plan_skip (by rfl) ?_; (simp only [Act.put, List.setIfInBounds_toArray, List.set_cons_zero, List.set_cons_succ])))
      refine plan_if (fun K hK => ?_)
      refine Kd.R_append_rows_step (Kd.int .u8) (Rr := (Kd.int .u8).K w4) (w0 := w4) 0 (by rfl) (.tmp 79) (.tmp 80) 22 5 (.int .u8 0) 1 (by rfl) Tryd.underlying22 info8 rfl (by decide) (by omega) _ [] c (some ⟨g, 0, none⟩) b.length cap1 (since w3) (fun _ => False) (by rfl) (by rfl) hE3 hcc (fun _ _ h => h) (fun _ h => h.elim) (fun k hk => Nat.le_trans hsz4 hk) (Below.refl 0 _) (Nat.zero_le _) (by simp; omega) ?_
      intro v5 w5 ho5 hb5 hg5 hat5
      clear hat5 hb5
      rw [List.nil_append] at ho5
      have F45 : Fr (since w3) w4 w5 := Fr.of_grown hg5 (fun k hk _ => hE3.1 k hk)
      have hf6 := hf5.new F45 (fun k hk => Nat.le_trans hs30 hk)
      have hRc4 := R_fr hRc2 F45 (fun k hk h => absurd hk.2 (by have : w3.heap.size ≤ k := h; omega))
      have hRs4 := R_fr hRs3 F45 (fun k hk h => absurd hk.2 (by have : w3.heap.size ≤ k := h; omega))
      have hsz5 := Nat.le_trans hsz4 F45.size
      have hDr := Kd.C_drop (c := c1) ((Kd.R_reads' hRs4).2.2) (m := b.length) (by rw [HSL.out]; omega) (by rw [HSL.out]; omega)
      rw [List.drop_left, if_neg (show ¬ c1 = b.length by omega)] at hDr
      simp only [Option.map_some, show (Kd.int .u8).sz = 1 from rfl, Nat.mul_one, add_plain] at hDr
      replace hDr : (Kd.int .u8).C w5 (some ⟨g1, b.length, none⟩) 4 (le4 S) := hDr
      clear hRc2 hRs3 hcc F45 hg5 hE3 hf5
      dsimp only
      refine hK.out (fun u => True) _ _ (⟨trivial, trivial⟩) (trivial) ?_
      clear hK K
      try simp only [Act.put, List.setIfInBounds_toArray, List.set_cons_zero, List.set_cons_succ]
      repeat (first
        | (refine plan_step (by rfl) ?_; apply Exists.intro; refine ⟨fun x hSx => ?_, ?_⟩; ((try dsimp only at hSx); go_simp; (try rw [if_neg (by omega)]); (try with_reducible rfl)); (simp only [Act.put, List.setIfInBounds_toArray, List.set_cons_zero, List.set_cons_succ]))
        | (refine plan_skip (by rfl) ?_; (simp only [Act.put, List.setIfInBounds_toArray, List.set_cons_zero, List.set_cons_succ])))
      refine plan_if (fun K hK => ?_)
      refine Kd.R_append_rows_step (Kd.int .u8) (Rr := (Kd.int .u8).K w5) (w0 := w5) 0 (by rfl) (.tmp 81) (.tmp 85) 22 5 (.int .u8 0) 1 (by rfl) Tryd.underlying22 info8 rfl (by decide) (by omega) _ c (le4 S) (some ⟨g1, b.length, none⟩) 4 (c1 - b.length) (since w3) (fun _ => False) (by rfl) (by rfl) ho5 hDr (fun _ _ h => h) (fun _ h => h.elim) (fun k hk => Nat.le_trans hsz5 hk) (Below.refl 0 _) (Nat.zero_le _) (by have := HCL.out; simp [le4]; omega) ?_
      intro v7 w7 ho7 hb7 hg7 hat7
      clear hat7 hb7
      have F57 : Fr (since w3) w5 w7 := Fr.of_grown hg7 (fun k hk _ => ho5.1 k hk)
      have hf7 := hf6.new F57 (fun k hk => Nat.le_trans hs30 hk)
      have hRc5 := R_fr hRc4 F57 (fun k hk h => absurd hk.2 (by have : w3.heap.size ≤ k := h; omega))
      obtain ⟨A7, c7, rfl⟩ := Kd.R_slice ho7
      have hcap7 := R_cap ho7
      have hC7 := (Kd.R_reads' ho7).2.2
      clear hRc4 hRs4 hDr F57 hg7 ho5 ho7 hf6
      dsimp only
      refine hK.out (fun u => True) _ _ (⟨⟨trivial, trivial⟩, trivial⟩) (trivial) ?_
      clear hK K
      try simp only [Act.put, List.setIfInBounds_toArray, List.set_cons_zero, List.set_cons_succ]
      repeat (first
        | (refine plan_step (by rfl) ?_; apply Exists.intro; refine ⟨fun x hSx => ?_, ?_⟩; ((try dsimp only at hSx); go_simp; (try rw [if_neg (by omega)]); (try with_reducible rfl)); (simp only [Act.put, List.setIfInBounds_toArray, List.set_cons_zero, List.set_cons_succ]))
        | (refine plan_skip (by rfl) ?_; (simp only [Act.put, List.setIfInBounds_toArray, List.set_cons_zero, List.set_cons_succ])))
      refine plan_run (by rfl) (fun K hK => ?_)
      go_simp
      have hSne : le4 S ≠ le4 (addF 0 c) := fun h => addF_ne HB.out hcb.out HNE.out (HS.out.trans (le4_inj h))
      have hsS : S < 4294967296 := by rw [← HS.out]; exact addF_lt 0 b
      have hno := open_no A7 c7 c (le4 S) rfl HBC.out (le4_bytes hsS) hcap7.1 hcap7.2 w7 hC7 hSne
      rw [List.length_append] at hno
      refine hno.mono ?_
      clear hno
      rintro e w8 ⟨⟨F, rfl⟩, hf8⟩
      have hRc6 := R_fr hRc5 hf8 (fun _ _ h => h)
      have hf9 := hf7.trans' hf8
      clear hRc5 hf8 hf7 hC7 hcap7 hSne hsS
      dsimp only
      refine hK.out (fun u => True) _ _ (⟨⟨⟨trivial, trivial⟩, trivial⟩, trivial⟩) (trivial) ?_
      clear hK K
      try simp only [Act.put, List.setIfInBounds_toArray, List.set_cons_zero, List.set_cons_succ]
      repeat (first
        | (refine plan_step (by rfl) ?_; apply Exists.intro; refine ⟨fun x hSx => ?_, ?_⟩; ((try dsimp only at hSx); go_simp; (try rw [if_neg (by omega)]); (try with_reducible rfl)); (simp only [Act.put, List.setIfInBounds_toArray, List.set_cons_zero, List.set_cons_succ]))
        | (refine plan_skip (by rfl) ?_; (simp only [Act.put, List.setIfInBounds_toArray, List.set_cons_zero, List.set_cons_succ])))
      refine plan_done ?_
      have hfa8 := (Fr.refl no w8).alloc (.cells #[.slice (some ⟨g, 0, none⟩) b.length cap1] 22)
      have hX8 := blk_new w8 (.cells #[.slice (some ⟨g, 0, none⟩) b.length cap1] 22)
      have hcap1 := R_cap hRc6
      have hcc := (Kd.R_reads' hRc6).2.2
      rw [HCL.out] at hcc
      have hC1c : kB.C (w8.alloc (.cells #[.slice (some ⟨g, 0, none⟩) b.length cap1] 22)) (some ⟨w8.heap.size, 0, none⟩) [c].length [c] :=
        C_blk (d := kB) hX8 [c] (show 0 < 1 by decide) (show 1 ≤ 9223372036854775807 by decide) ((Reps.none _ _).snoc (p := c) (show kB.K _ c [.slice (some ⟨g, 0, none⟩) b.length cap1] from ⟨_, cap1, by rw [HCL.out], by rw [HCL.out]; exact hcap1.1, by rw [HCL.out]; exact C_fr hcc hfa8⟩) rfl)
      clear hRc6 hcc hX8 hcap1
      have hf10 := hf9.trans' hfa8
      clear hf9 hfa8
      go_wp2_with fail
      refine (sum_c _ 1 [c] (by simp) HBC.out _ hC1c).mono ?_
      rintro e wx ⟨rfl, rfl⟩
      clear hC1c
      generalize w8.alloc _ = w9 at *
      have hfa9 := (Fr.refl no w9).alloc (.cells #[.slice A b.length cap] 22)
      have hX9 := blk_new w9 (.cells #[.slice A b.length cap] 22)
      have hC1b : kB.C (w9.alloc (.cells #[.slice A b.length cap] 22)) (some ⟨w9.heap.size, 0, none⟩) [b].length [b] :=
        C_blk (d := kB) hX9 [b] (show 0 < 1 by decide) (show 1 ≤ 9223372036854775807 by decide) ((Reps.none _ _).snoc (p := b) (show kB.K _ b [.slice A b.length cap] from ⟨A, cap, rfl, hcap, C_fr hC (hf10.trans' hfa9)⟩) rfl)
      have hf11 := hf10.trans' hfa9
      clear hX9 hf10 hfa9 hC
      rw [show sumF 0 [c] = addF 0 c from rfl]
      obtain ⟨T, hT⟩ : ∃ T, addF 0 c = T := ⟨_, rfl⟩
      rw [hT]
      dsimp only
      go_wp2_with fail
      refine (sum_c _ 1 [b] (by simp) HBB.out _ hC1b).mono ?_
      rintro e wx ⟨rfl, rfl⟩
      clear hC1b
      generalize w9.alloc _ = w10 at *
      rw [show sumF 0 [b] = addF 0 b from rfl, HS.out]
      have hTS : ((T : Int) != (S : Int)) = true := by
        have h := addF_ne HB.out hcb.out HNE.out
        rw [hT, HS.out] at h
        simp
        omega
      clear hT
      dsimp only
      go_wp2
      go_ret
      exact ⟨rfl, hf11⟩
theorem turned_row (w : World) (hL : laidMetH Tryd.prog [("errors.errorType", Rows.laid_errors_errorType)] w) (A : Option Addr) (cap : Nat) (b : List Int) (at' p : Int) (hC : (Kd.int .u8).C w A b.length b) (hcap : b.length ≤ cap) (hw : ∀ x ∈ b, (Lit.int .u8 x).wf = true) (h1 : (Lit.int .i64 at').wf = true) (h2 : (Lit.int .u32 p).wf = true) : Calls Tryd.prog 3 #[.slice A b.length cap, .int .i64 at', .int .u32 p] w fun e w' => e = .returned (.bool true) ∧ Fr no w w' := by
  have k1 := Go.bounds_i64 h1
  have k2 := Go.bounds_u32 h2
  exact turned_c w (errType_of_laid hL) A cap b at' p hC hcap (fun x hx => by have := Go.bounds_u8 (hw x hx); omega) (by omega) (by omega) (by omega)
end Go.Proofs.YtdkkdoadafhfmaaDoor.Crc
