import Derived.Test.YtdgeakojdafipaaDoorLegW
import Derived.OpenShut
/-! Walk of LegsLimits. -/
set_option linter.unusedVariables false
set_option linter.unusedSimpArgs false
namespace Go.Proofs.YtdgeakojdafipaaDoor.Legs
open Go.RowKit Go.Proofs.YtdgeakojdafipaaDoorW.PrintWords Go.Proofs.YtdgeakojdafipaaDoor.B Go.Proofs.YtdgeakojdafipaaDoor.Num

def lim (k : Nat) (r : Int) : List Leg := (List.range k).map fun (i : Nat) => ⟨(i : Int) + 1, 1, r⟩
theorem lim_len (k : Nat) (r : Int) : (lim k r).length = k := by simp [lim]
theorem lim_succ (k : Nat) (r : Int) : lim (k + 1) r = lim k r ++ [⟨(k : Int) + 1, 1, r⟩] := by simp [lim, List.range_succ]
theorem lim_lg (k : Nat) (r : Int) (i : Nat) (h : i < k) : lg (lim k r) i = ⟨(i : Int) + 1, 1, r⟩ := by
  rw [lg_lt (by rw [lim_len]; exact h)]
  simp [lim]
theorem lim_asc (k : Nat) (r : Int) : Asc (lim k r) := by
  rw [Asc, List.pairwise_iff_getElem]
  intro i j hi hj hij
  rw [lim_len] at hi hj
  have h1 := lim_lg k r i hi
  have h2 := lim_lg k r j hj
  rw [lg_lt (by rw [lim_len]; exact hi)] at h1
  rw [lg_lt (by rw [lim_len]; exact hj)] at h2
  rw [h1, h2]
  show (i : Int) + 1 < (j : Int) + 1
  omega
theorem asc_nd {l : List Leg} (h : Asc l) : l.Pairwise fun a b => a.Series ≠ b.Series := h.imp (fun h => by omega)
theorem lim_mem {k : Nat} {r : Int} {x : Leg} (h : x ∈ lim k r) : 1 ≤ x.Series ∧ x.Sign = 1 ∧ x.Ratio = r := by
  obtain ⟨i, _, rfl⟩ := List.mem_map.1 h
  exact ⟨by show 1 ≤ (i : Int) + 1; omega, rfl, rfl⟩
theorem lim_good {k : Nat} {r : Int} (h1 : 2 ≤ k) (h2 : k ≤ 4) (h3 : 1 ≤ r) (h4 : r ≤ 4) : Good (lim k r) where
  lo := by rw [lim_len]; exact h1
  hi := by rw [lim_len]; exact h2
  ok := fun x hx => by
    obtain ⟨a, b, c⟩ := lim_mem hx
    exact okB_iff.2 ⟨a, .inl b, by omega, by omega⟩
  nd := asc_nd (lim_asc k r)
theorem lim_bad {k : Nat} {r : Int} (h : ¬ (2 ≤ k ∧ k ≤ 4 ∧ 1 ≤ r ∧ r ≤ 4)) : ∃ n c, wrong (lim k r) = some (n, c) := by
  cases hw : wrong (lim k r) with
  | some a => exact ⟨a.1, a.2, rfl⟩
  | none =>
    have hg := good_iff.1 hw
    have a := hg.lo
    have b := hg.hi
    rw [lim_len] at a b
    have hm : lg (lim k r) 0 ∈ lim k r := by rw [lg_lt (by rw [lim_len]; omega)]; exact List.getElem_mem _
    have c := okB_iff.1 (hg.ok _ hm)
    rw [(lim_mem hm).2.2] at c
    exact absurd ⟨a, b, c.2.2.1, c.2.2.2⟩ h
theorem lim_canon {k : Nat} {r : Int} (h1 : 2 ≤ k) (h2 : k ≤ 4) (h3 : 1 ≤ r) (h4 : r ≤ 4) : canonF (lim k r) = (lim k 1, false) := by
  have hg := lim_good h1 h2 h3 h4
  have hs : srt (lim k r) = lim k r := srt_eq hg.nd (List.Perm.refl _) (lim_asc k r)
  have ha : allG (lim k r) = r := allG_eq (by omega) fun d => ⟨fun hd x hx => by rw [(lim_mem hx).2.2]; exact hd, fun hd => by
    have hm : lg (lim k r) 0 ∈ lim k r := by rw [lg_lt (by rw [lim_len]; omega)]; exact List.getElem_mem _
    have := hd _ hm
    rwa [(lim_mem hm).2.2] at this⟩
  have hb : base (lim k r) = lim k 1 := by
    unfold base
    rw [hs, ha]
    unfold dv lim
    rw [List.map_map]
    refine List.map_congr_left fun i _ => ?_
    show (⟨(i : Int) + 1, 1, r / r⟩ : Leg) = ⟨(i : Int) + 1, 1, 1⟩
    rw [Int.ediv_self (by omega)]
  rw [canon_base, hb, lim_lg k 1 0 (by omega), if_pos rfl]
set_option maxRecDepth 100000 in
set_option maxHeartbeats 8000000 in
theorem limits_row (w : World) (n r : Int) (hn : (Lit.int .u8 n).wf = true) (hr : (Lit.int .i64 r).wf = true) :
    Calls Tryd.prog 5 #[.int .u8 n, .int .i64 r] w fun e w' => e = .returned (.bool true) ∧ Fr no w w' := by
  obtain ⟨n0, n1⟩ := Go.bounds_u8 hn
  obtain ⟨r0, r1⟩ := Go.bounds_i64 hr
  obtain ⟨K, hK⟩ : ∃ K : Nat, n % 8 = (K : Int) := ⟨(n % 8).toNat, by omega⟩
  have hK8 : K ≤ 7 := by omega
  have HN := Lib.hid hK
  clear hn hr
  go_enter Tryd.func5, Tryd.ntmps5
  go_wp2_with fail
  refine (known_c w).mono ?_
  rintro e w1 ⟨rfl, hf1⟩
  dsimp only
  have HF1 := Lib.hid hf1
  clear hf1
  go_wp2
  clear hK n0 n1
  go_loopg [6, 7] K (fun q v i wr => ∃ k : Nat, k + q = K ∧ i = .int .i64 k ∧ Hid (kLeg.R 43 wr 0 (since w1) v (lim k r)) ∧ Fr no w1 wr)
  case atStart => exact ⟨0, by omega, rfl, Kd.R_nil _ _ _ _ _, Fr.refl _ _⟩
  case round =>
    obtain ⟨k, hk, rfl, hR, hf⟩ := hrel
    by_cases hlt : k < K
    · have hll := lim_len k r
      have HLS := Lib.hid (lim_succ k r)
      have hgl : (lim k r).length ≤ 1000 := by omega
      obtain ⟨G, hG⟩ : ∃ x, lim k r = x := ⟨_, rfl⟩
      rw [hG] at hR hgl HLS
      obtain ⟨A1, cc, rfl⟩ := Kd.R_slice hR.out
      have HF := Lib.hid hf
      have hkk : (k : Int) + 1 ≤ 100 := by omega
      clear hG hf hll
      go_wp2_with (at_builtin
                   refine Kd.R_append kLeg (w0 := wr) 0 rfl (.tmp 23) (.tmp 28) 22 43 (.agg #[.int .i64 0, .int .i64 0, .int .i64 0]) 24 rfl Tryd.underlying22 infoLeg rfl (by decide) (by omega) _ G ⟨(k : Int) + 1, 1, r⟩ [.int .i64 ((k : Int) + 1), .int .i64 1, .int .i64 r] (since w1) (fun _ => False) rfl (by simp [go_sem]) (kLeg_mkM _ _ _ _) (fun _ hk => hk.elim) (fun b hb => Nat.le_trans HF.out.size hb) hR.out (Below.refl 0 _) (Nat.zero_le _) (by omega) ?_
                   intro v1 w8 ho hb1 hg hat
                   clear hat hb1
                   have hF8 := HF.out.new' ((Fr.of_grown hg (fun k hk _ => hR.out.1 k hk)).mono (fun _ h _ => h))
                   obtain ⟨A2, c2, rfl⟩ := Kd.R_slice ho
                   clear hg)
      rw [List.length_append, ← HLS.out] at ho
      have HO := Lib.hid ho
      clear ho
      go_roundg (K - (k + 1))
      case measure => omega
      case rel => exact ⟨k + 1, by omega, by go_num, HO, hF8⟩
    · obtain rfl : k = K := by omega
      obtain ⟨A1, c1, rfl, hc1, hC1⟩ := Kd.R_reads hR.out
      have hll := lim_len k r
      rw [hll] at hc1 hC1 ⊢
      have HL := Lib.hid (And.intro hC1 (And.intro hll hf))
      clear hR hC1 hll hf
      by_cases hok : 2 ≤ k ∧ k ≤ 4 ∧ 1 ≤ r ∧ r ≤ 4
      · obtain ⟨o1, o2, o3, o4⟩ := hok
        have hg := lim_good o1 o2 o3 o4
        have hcn := lim_canon o1 o2 o3 o4
        have HG := Lib.hid (And.intro hg hcn)
        have b1 : decide ((2 : Int) ≤ (k : Int)) = true := by simp; omega
        have b2 : decide ((k : Int) ≤ 4) = true := by simp; omega
        have b3 : decide (1 ≤ r) = true := by simp; omega
        have b4 : decide (r ≤ 4) = true := by simp; omega
        have h1 := fun W (h : Fr no wr W) => canon_yes A1 c1 (lim k r) W (by rw [HL.out.2.1]; exact C_fr HL.out.1 h) (by rw [HL.out.2.1]; exact hc1) HG.out.1
        have h2 := fun W (h : Fr no wr W) => check_c A1 c1 (lim k r) W (by rw [HL.out.2.1]; exact C_fr HL.out.1 h) (by rw [HL.out.2.1]; exact hc1)
        rw [HL.out.2.1, hcn] at h1
        rw [HL.out.2.1] at h2
        have H1 := Lib.hid h1
        have H2 := Lib.hid h2
        clear hg hcn h1 h2 o1 o2 o3 o4
        go_wp2_with fail
        refine (H1.out _ (Fr.refl _ _)).mono ?_
        rintro e w2 ⟨⟨va, rfl, hva⟩, hf2⟩
        obtain ⟨Aa, rfl, hCa⟩ := hva.reads
        rw [lim_len] at hCa ⊢
        clear hva
        dsimp only
        go_wp2_with fail
        refine (H2.out _ hf2).mono ?_
        rintro e w3 ⟨⟨v, rfl, hA⟩, hf3⟩
        obtain rfl := hA.1 (good_iff.2 HG.out.1)
        have hCa3 := C_fr hCa hf3
        have hfe := HF1.out.trans' (HL.out.2.2.trans' (hf2.trans' hf3))
        have HCA := Lib.hid (And.intro hCa3 hfe)
        clear hA hCa hCa3 hfe hf2 hf3 b1 b2 b3 b4
        dsimp only
        go_wp2
        go_loopg [12] k (fun q i wq => ∃ j : Nat, j + q = k ∧ i = .int .i64 j ∧ w3 = wq)
        case atStart => exact ⟨0, by omega, rfl, rfl⟩
        case round =>
          obtain ⟨j, hj, rfl, rfl⟩ := hrel
          by_cases hlt2 : j < k
          · obtain ⟨ad, rfl, c0, cs1, c2⟩ := lg_at (by rw [lim_len]; exact HCA.out.1) j (by rw [lim_len]; exact hlt2)
            rw [lim_lg k 1 j hlt2] at c0 cs1 c2
            dsimp only at c0 cs1 c2
            have hj0 : (0 : Int) ≤ (j : Int) := by omega
            have hj1 : (j : Int) < (k : Int) := by omega
            have hj2 : (j : Int) + 1 ≤ 100 := by omega
            go_wp2
            go_roundg (k - (j + 1))
            case measure => omega
            case rel => exact ⟨j + 1, by omega, by go_num, rfl⟩
          · obtain rfl : j = k := by omega
            go_wp2
            go_ret
            exact ⟨by first | rfl | simp, HCA.out.2⟩
      · obtain ⟨bn, bc, hbw⟩ := lim_bad hok
        have HG := Lib.hid hbw
        have h1 := fun W (h : Fr no wr W) => canon_no A1 c1 (lim k r) W (by rw [HL.out.2.1]; exact C_fr HL.out.1 h) (by rw [HL.out.2.1]; exact hc1) bn bc HG.out
        have h2 := fun W (h : Fr no wr W) => check_c A1 c1 (lim k r) W (by rw [HL.out.2.1]; exact C_fr HL.out.1 h) (by rw [HL.out.2.1]; exact hc1)
        rw [HL.out.2.1] at h1 h2
        have H1 := Lib.hid h1
        have H2 := Lib.hid h2
        have hb : decide ((2 : Int) ≤ (k : Int)) = false ∨ (decide ((2 : Int) ≤ (k : Int)) = true ∧ decide ((k : Int) ≤ 4) = false) ∨ (decide ((2 : Int) ≤ (k : Int)) = true ∧ decide ((k : Int) ≤ 4) = true ∧ decide (1 ≤ r) = false) ∨ (decide ((2 : Int) ≤ (k : Int)) = true ∧ decide ((k : Int) ≤ 4) = true ∧ decide (1 ≤ r) = true ∧ decide (r ≤ 4) = false) := by
          simp; omega
        clear hbw h1 h2 hok
        rcases hb with b1 | ⟨b1, b2⟩ | ⟨b1, b2, b3⟩ | ⟨b1, b2, b3, b4⟩
        all_goals
          go_wp2_with fail
          refine (H1.out _ (Fr.refl _ _)).mono ?_
          rintro e w2 ⟨⟨F, rfl, hF⟩, hf2⟩
          dsimp only
          go_wp2_with fail
          refine (H2.out _ hf2).mono ?_
          rintro e w3 ⟨⟨v, rfl, hA⟩, hf3⟩
          obtain ⟨F2, rfl, hF2⟩ := hA.2 bn bc HG.out
          have hfe := HF1.out.trans' (HL.out.2.2.trans' (hf2.trans' hf3))
          have HFE := Lib.hid hfe
          clear hA hF hF2 hfe hf2 hf3
          dsimp only
          go_wp2
          go_loopg [12] 0 (fun q i wq => i = .int .i64 0 ∧ w3 = wq)
          case atStart => exact ⟨rfl, rfl⟩
          case round =>
            obtain ⟨rfl, rfl⟩ := hrel
            go_wp2
            go_ret
            exact ⟨by first | rfl | simp, HFE.out⟩
end Go.Proofs.YtdgeakojdafipaaDoor.Legs
