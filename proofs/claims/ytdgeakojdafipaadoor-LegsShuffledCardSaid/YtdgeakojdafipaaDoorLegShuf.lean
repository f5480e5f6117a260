import Derived.Test.YtdgeakojdafipaaDoorLegR
/-! Walk of LegsShuffled. -/
set_option linter.unusedVariables false
set_option linter.unusedSimpArgs false
namespace Go.Proofs.YtdgeakojdafipaaDoor.Legs
open Go.RowKit Go.Proofs.YtdgeakojdafipaaDoorW.PrintWords Go.Proofs.YtdgeakojdafipaaDoor.B Go.Proofs.YtdgeakojdafipaaDoor.Num

theorem field_err (w : World) (A : Option Addr) (n c : Nat) (r : Int) : (Instr.field 49 (.agg #[.slice A n c, .int .i64 r]) 1).run Tryd.prog w = .ok (.int .i64 r) w := by kernel_rfl
attribute [local go_sem] field_err
/-- The i-th of the legs in another order, multiplied. -/
def shf (l : List Leg) (t : Nat) (k : Int) (i : Nat) : Leg := { lg l ((i + t) % l.length) with Ratio := (lg l ((i + t) % l.length)).Ratio * k }
def shL (l : List Leg) (t : Nat) (k : Int) (n : Nat) : List Leg := (List.range n).map (shf l t k)
theorem shL_len (l : List Leg) (t : Nat) (k : Int) (n : Nat) : (shL l t k n).length = n := by simp [shL]
theorem shL_succ (l : List Leg) (t : Nat) (k : Int) (n : Nat) : shL l t k (n + 1) = shL l t k n ++ [shf l t k n] := by simp [shL, List.range_succ]
theorem shL_perm {l : List Leg} (h : 0 < l.length) (t : Nat) (k : Int) : (shL l t k l.length).Perm (mulL k l) := by
  have h1 : shL l t k l.length = mulL k ((List.range l.length).map fun i => lg l ((i + t) % l.length)) := by
    unfold shL mulL
    rw [List.map_map]
    rfl
  rw [h1]
  unfold mulL
  refine List.Perm.map _ (ring_perm l t h _ (by simp) fun i hi => ?_)
  rw [lg_lt (by simpa using hi)]
  simp
set_option maxRecDepth 100000 in
set_option maxHeartbeats 8000000 in
theorem shuf_row (w : World) (A : Option Addr) (c : Nat) (l : List Leg) (t b : Int) (hC : kLeg.C w A l.length l) (hc : l.length ≤ c) (hw : ∀ x ∈ l, wfLeg x) (ht : (Lit.int .u8 t).wf = true) (hb : (Lit.int .u8 b).wf = true) :
    Calls Tryd.prog 7 #[.slice A l.length c, .int .u8 t, .int .u8 b] w fun e w' => e = .returned (.bool true) ∧ Fr no w w' := by
  obtain ⟨t0, t1⟩ := Go.bounds_u8 ht
  obtain ⟨b0, b1⟩ := Go.bounds_u8 hb
  have HK := Lib.hid (And.intro hC hw)
  clear hC hw ht hb
  by_cases h2 : l.length < 2
  · have d1 : decide ((l.length : Int) < 2) = true := by simp; omega
    clear h2
    go_enter Tryd.func7, Tryd.ntmps7
    go_wp2_with fail
    refine (known_c w).mono ?_
    rintro e w1 ⟨rfl, hf1⟩
    dsimp only
    go_wp2
    go_ret
    exact ⟨rfl, hf1⟩
  have d1 : decide ((l.length : Int) < 2) = false := by simp; omega
  by_cases h4 : 4 < l.length
  · have d2 : decide ((4 : Int) < (l.length : Int)) = true := by simp; omega
    clear h2 h4
    go_enter Tryd.func7, Tryd.ntmps7
    go_wp2_with fail
    refine (known_c w).mono ?_
    rintro e w1 ⟨rfl, hf1⟩
    dsimp only
    go_wp2
    go_ret
    exact ⟨rfl, hf1⟩
  have d2 : decide ((4 : Int) < (l.length : Int)) = false := by simp; omega
  have hl4 : l.length ≤ 4 := by omega
  have hl2 : 2 ≤ l.length := by omega
  clear h2 h4
  go_enter Tryd.func7, Tryd.ntmps7
  go_wp2_with fail
  refine (known_c w).mono ?_
  rintro e w1 ⟨rfl, hf1⟩
  dsimp only
  go_wp2_with fail
  refine (of_c A c l (by omega) hc w1 (C_fr HK.out.1 hf1)).mono ?_
  rintro e w2 ⟨⟨v, rfl, hR⟩, hf2⟩
  obtain ⟨Ar, cr, rfl, hcr, hCr⟩ := Kd.R_reads hR
  rw [List.length_map] at hcr ⊢
  have hf02 := hf1.trans' hf2
  clear hf1 hf2 hR
  dsimp only
  go_wp2_with fail
  refine (rcheck_c Ar cr l (by omega) hcr w2 hCr).mono ?_
  rintro e w3 ⟨⟨v, rfl, hA⟩, hf3⟩
  have hf03 := hf02.trans' hf3
  clear hf02 hf3 hCr
  cases hwr : wrong l with
  | some a =>
    obtain ⟨n, k⟩ := a
    have hk1 := (wrong_bd hwr).2
    have e0 : (k != 0) = true := by rcases hk1 with rfl | rfl <;> rfl
    obtain ⟨G, cm, rfl, _, _⟩ := hA.2 n k hwr
    clear hA hwr hk1
    dsimp only
    go_wp2
    go_ret
    exact ⟨rfl, hf03⟩
  | none =>
    have hg := good_iff.1 hwr
    obtain ⟨Aw, nw, cw, rfl⟩ := hA.1 hwr
    have HG := Lib.hid hg
    have HF := Lib.hid hf03
    obtain ⟨K, hK⟩ : ∃ K : Int, 1 + b % 4 = K := ⟨_, rfl⟩
    have hK1 : 1 ≤ K := by omega
    have hK4 : K ≤ 4 := by omega
    obtain ⟨T, hT⟩ : ∃ T : Nat, t = (T : Int) := ⟨t.toNat, by omega⟩
    subst hT
    have hT2 : T ≤ 255 := by omega
    have hlz : ((l.length : Int) == 0) = false := beq_eq_false_iff_ne.2 (by omega)
    clear hA hwr hg hf03
    dsimp only
    go_wp2
    clear hK b0 b1
    go_loopg [8, 9] l.length (fun q v i wr => ∃ k : Nat, k + q = l.length ∧ i = .int .i64 k ∧ Hid (kLeg.R 43 wr 0 (since w3) v (shL l T K k) ∧ ∀ x ∈ shL l T K k, x.Ratio ≤ 4) ∧ Fr no w3 wr)
    case atStart => exact ⟨0, by omega, rfl, ⟨Kd.R_nil _ _ _ _ _, fun x hx => by simp [shL] at hx⟩, Fr.refl _ _⟩
    case round =>
      obtain ⟨k, hk, rfl, hR, hf⟩ := hrel
      by_cases hlt : k < l.length
      · obtain ⟨J, hJ⟩ : ∃ J, (k + T) % l.length = J := ⟨_, rfl⟩
        have hJl : J < l.length := by rw [← hJ]; exact Nat.mod_lt _ (by omega)
        obtain ⟨ad, rfl, c0, c1, c2⟩ := lg_at (C_fr HK.out.1 (HF.out.trans' hf)) J hJl
        obtain ⟨_, _, r1, r4⟩ := okB_iff.1 (HG.out.ok _ (List.getElem_mem hJl))
        rw [← lg_lt hJl] at r1 r4
        have hsx : shf l T K k = { lg l J with Ratio := (lg l J).Ratio * K } := by unfold shf; rw [hJ]
        have hsn := shL_succ l T K k
        rw [hsx] at hsn
        have hll := shL_len l T K k
        have hgl : (shL l T K k).length ≤ 1000 := by omega
        generalize lg l J = x at *
        have hmd : ((k : Int) + (T : Int)) % (l.length : Int) = (J : Int) := by rw [← hJ]; simp
        have hmt : Int.tmod ((k : Int) + (T : Int)) (l.length : Int) = (J : Int) := by rw [Int.tmod_eq_emod_of_nonneg (by omega)]; exact hmd
        have hkt0 : (0 : Int) ≤ (k : Int) + (T : Int) := by omega
        have hkt1 : (k : Int) + (T : Int) ≤ 1000 := by omega
        have hrk : 1 ≤ x.Ratio * K ∧ x.Ratio * K ≤ 16 := by
          have h : x.Ratio = 1 ∨ x.Ratio = 2 ∨ x.Ratio = 3 ∨ x.Ratio = 4 := by omega
          rcases h with h | h | h | h <;> rw [h] <;> omega
        obtain ⟨G, hG⟩ : ∃ G, shL l T K k = G := ⟨_, rfl⟩
        rw [hG] at hR hgl hsn
        obtain ⟨A1, cc, rfl⟩ := Kd.R_slice hR.out.1
        have HSN := Lib.hid hsn
        have HFF := Lib.hid hf
        have HJ := Lib.hid hJ
        clear hsn hJ hll hG hsx hf
        by_cases hle : 4 < x.Ratio * K
        · have d3 : decide ((4 : Int) < x.Ratio * K) = true := by simp [hle]
          clear hle
          go_wp2
          go_ret
          exact ⟨rfl, HF.out.trans' (HFF.out.alloc _)⟩
        have d3 : decide ((4 : Int) < x.Ratio * K) = false := by simp [hle]
        have HLE : Hid (x.Ratio * K ≤ 4) := Int.not_lt.1 hle
        have hRw := Kd.R_alloc hR.out.1 (.cells #[.int .i64 x.Series, .int .i64 x.Sign, .int .i64 (x.Ratio * K)] 43)
        have HRW := Lib.hid hRw
        clear hle hRw
        go_wp2_with (at_builtin
                     refine Kd.R_append kLeg (w0 := wr) 0 rfl (.tmp 62) (.tmp 64) 22 43 (.agg #[.int .i64 0, .int .i64 0, .int .i64 0]) 24 rfl Tryd.underlying22 infoLeg rfl (by decide) (by omega) _ G ⟨x.Series, x.Sign, x.Ratio * K⟩ [.int .i64 x.Series, .int .i64 x.Sign, .int .i64 (x.Ratio * K)] (since w3) (fun _ => False) rfl (by simp [go_sem]) (kLeg_mkM _ _ _ _) (fun _ hk => hk.elim) (fun b hb => Nat.le_trans (HFF.out.alloc _).size hb) HRW.out (Below.refl 0 _ |>.alloc (Nat.zero_le _) _) (Nat.zero_le _) (by omega) ?_
                     intro v1 w8 ho hb1 hg hat
                     clear hat hb1
                     have hF8 := (HFF.out.alloc _).new' ((Fr.of_grown hg (fun k hk _ => HRW.out.1 k hk)).mono (fun _ h _ => h))
                     obtain ⟨A2, c2, rfl⟩ := Kd.R_slice ho
                     clear hg)
        rw [List.length_append, ← HSN.out] at ho
        have hall : ∀ z ∈ shL l T K (k + 1), z.Ratio ≤ 4 := fun z hz => by
          rw [HSN.out] at hz
          rcases List.mem_append.1 hz with hz | hz
          · exact hR.out.2 z hz
          · rw [List.mem_singleton.1 hz]; exact HLE.out
        have HO := Lib.hid (And.intro ho hall)
        clear hall
        clear ho
        go_roundg (l.length - (k + 1))
        case measure => omega
        case rel => exact ⟨k + 1, by omega, by go_num, HO, hF8⟩
      · obtain rfl : k = l.length := by omega
        obtain ⟨A1, c1, rfl, hc1, hC1⟩ := Kd.R_reads hR.out.1
        have hll := shL_len l T K l.length
        have hpm := shL_perm (show 0 < l.length by omega) T K
        have hgm := good_shuffled HG.out hK1 hpm hR.out.2
        have hcs := canon_shuffled HG.out hK1 hpm
        rw [hll] at hc1 hC1 ⊢
        have h1 := fun W (h : Fr no w W) => canon_yes A c l W (C_fr HK.out.1 h) hc HG.out
        have h2 := fun W (h : Fr no wr W) => canon_yes A1 c1 (shL l T K l.length) W (by rw [hll]; exact C_fr hC1 h) (by rw [hll]; exact hc1) hgm
        rw [hcs, hll] at h2
        have hcl := canon_length HG.out
        obtain ⟨R, hRR⟩ : ∃ R, canonF l = R := ⟨_, rfl⟩
        rw [hRR] at h1 h2 hcl
        obtain ⟨ca, tb⟩ := R
        dsimp only at h1 h2 hcl
        have H1 := Lib.hid h1
        have H2 := Lib.hid h2
        have HCL := Lib.hid hcl
        have hfw := HF.out.trans' hf
        have HFW := Lib.hid hfw
        clear h1 h2 hRR hcs hgm hpm hll hC1 hcl hR hfw hf
        go_wp2_with fail
        refine (H1.out _ HFW.out).mono ?_
        rintro e w4 ⟨⟨va, rfl, hva⟩, hf4⟩
        dsimp only
        go_wp2_with fail
        refine (H2.out _ hf4).mono ?_
        rintro e w5 ⟨⟨vb, rfl, hvb⟩, hf5⟩
        have hva5 := hva.fr hf5
        obtain ⟨Aa, rfl, hCa⟩ := hva5.reads
        obtain ⟨Ab, rfl, hCb⟩ := hvb.reads
        have hfe := HFW.out.trans' (hf4.trans' hf5)
        have hsm := same_c Aa Ab ca.length ca.length ca ca rfl (by have := HCL.out; omega) w5 hCa hCb (Nat.le_refl _) (Nat.le_refl _)
        have HSM := Lib.hid hsm
        clear hva hva5 hvb hCa hCb hf4 hf5 hsm
        have q1 : (tb == tb) = true := by simp
        dsimp only
        go_wp2_with fail
        refine HSM.out.mono ?_
        rintro e w6 ⟨rfl, hf6⟩
        dsimp only
        go_wp2
        go_ret
        exact ⟨by first | rfl | simp, hfe.trans' hf6⟩
end Go.Proofs.YtdgeakojdafipaaDoor.Legs
