import Derived.Test.YtdgeakojdafipaaDoorLegW
import Derived.OpenShut
/-! Walk of LegsRound. -/
set_option linter.unusedVariables false
set_option linter.unusedSimpArgs false
namespace Go.Proofs.YtdgeakojdafipaaDoor.Legs
open Go.RowKit Go.Proofs.YtdgeakojdafipaaDoorW.PrintWords Go.Proofs.YtdgeakojdafipaaDoor.B Go.Proofs.YtdgeakojdafipaaDoor.Num

theorem info64 : (Tryd.prog.info? 2).map (fun i => (i.zero, i.size, i.bytes)) = some (some (.int .i64 0), 1, 8) := by kernel_rfl
theorem p32_at {w : World} {B : Option Addr} {ps : List Int} (h : (Kd.int .i32).C w B ps.length ps) (k : Nat) (hk : k < ps.length) : ∃ bd, B = some bd ∧ w.cell? (bd.add k) = some (.int .i32 (pr ps k)) := by
  obtain ⟨ad, e, hc⟩ := h.2.2 (by omega)
  obtain ⟨c, c1, c2, c3⟩ := hc k ps[k] (by simp [hk])
  have c2' : c = [.int .i32 ps[k]] := c2
  subst c2'
  refine ⟨ad, e, ?_⟩
  have h1 : pr ps k = ps[k] := by simp [pr, hk]
  rw [h1]
  simpa [show (Kd.int .i32).sz = 1 from rfl] using c3 0 _ rfl
theorem pr_take (ps : List Int) (n k : Nat) (h : k < n) : pr (ps.take n) k = pr ps k := by simp [pr, h]
theorem take_pr (ps : List Int) (k : Nat) (h : k < ps.length) : ps.take (k + 1) = ps.take k ++ [pr ps k] := by
  rw [List.take_succ_eq_append_getElem h]; simp [pr, h]
theorem bd64 {x : Int} (h : (Lit.int .i64 x).wf = true) : -9223372036854775808 ≤ x ∧ x ≤ 9223372036854775807 := Go.bounds_i64 h
theorem bd32 {x : Int} (h : (Lit.int .i32 x).wf = true) : -2147483648 ≤ x ∧ x ≤ 2147483647 := Go.bounds_i32 h
theorem pr_mem {ps : List Int} {P : Int → Prop} (h : ∀ y ∈ ps, P y) {k : Nat} (hk : k < ps.length) : P (pr ps k) := by
  have e : pr ps k = ps[k] := by simp [pr, hk]
  rw [e]
  exact h _ (List.getElem_mem hk)
set_option maxRecDepth 100000 in
set_option maxHeartbeats 8000000 in
theorem round_row (w : World) (A : Option Addr) (c : Nat) (l : List Leg) (B : Option Addr) (cb : Nat) (ps : List Int) (hC : kLeg.C w A l.length l) (hc : l.length ≤ c) (hw : ∀ x ∈ l, wfLeg x) (hB : (Kd.int .i32).C w B ps.length ps) (hb : ps.length ≤ cb) (hp : ∀ y ∈ ps, (Lit.int .i32 y).wf = true) :
    Calls Tryd.prog 4 #[.slice A l.length c, .slice B ps.length cb] w fun e w' => e = .returned (.bool true) ∧ Fr no w w' := by
  have HK := Lib.hid (And.intro hC (And.intro hB (And.intro hw hp)))
  clear hC hB hw hp
  by_cases h4 : 4 < l.length
  · have d1 : decide ((4 : Int) < (l.length : Int)) = true := by simp; omega
    clear h4
    go_enter Tryd.func4, Tryd.ntmps4
    go_wp2_with fail
    refine (known_c w).mono ?_
    rintro e w1 ⟨rfl, hf1⟩
    dsimp only
    go_wp2
    go_ret
    exact ⟨rfl, hf1⟩
  have d1 : decide ((4 : Int) < (l.length : Int)) = false := by simp; omega
  have hl4 : l.length ≤ 4 := by omega
  clear h4
  go_enter Tryd.func4, Tryd.ntmps4
  go_wp2_with fail
  refine (known_c w).mono ?_
  rintro e w1 ⟨rfl, hf1⟩
  dsimp only
  go_wp2_with fail
  refine (check_c A c l w1 (C_fr HK.out.1 hf1) hc).mono ?_
  rintro e w2 ⟨⟨v, rfl, hA⟩, hf2⟩
  have hf := hf1.trans' hf2
  clear hf1 hf2
  cases hwr : wrong l with
  | some a =>
    obtain ⟨n, k⟩ := a
    obtain ⟨F, rfl, hF⟩ := hA.2 n k hwr
    clear hA hwr hF
    dsimp only
    go_wp2
    go_ret
    exact ⟨rfl, hf⟩
  | none =>
    obtain rfl := hA.1 hwr
    have hg := good_iff.1 hwr
    clear hA hwr
    by_cases hlen : ps.length < l.length
    · have d2 : decide ((ps.length : Int) < (l.length : Int)) = true := by simp; omega
      have d3 : decide (ps.length < l.length) = true := by simp; omega
      clear hlen hg
      dsimp only
      go_wp2
      go_ret
      exact ⟨rfl, hf⟩
    have d2 : decide ((ps.length : Int) < (l.length : Int)) = false := by simp; omega
    have d3 : decide (ps.length < l.length) = false := by simp; omega
    have hpl : l.length ≤ ps.length := by omega
    have HG := Lib.hid hg
    clear hlen hg
    dsimp only
    go_wp2_with fail
    refine (canon_yes A c l w2 (C_fr HK.out.1 hf) hc HG.out).mono ?_
    rintro e w3 ⟨⟨va, rfl, hva⟩, hf3⟩
    have hfa := hf.trans' hf3
    clear hf3
    dsimp only
    go_wp2_with fail
    refine (turned_c A c l w3 (C_fr HK.out.1 hfa) hc (by omega)).mono ?_
    rintro e w4 ⟨⟨vt, rfl, hvt⟩, hf4⟩
    have hva4 := hva.fr hf4
    have hfb := hfa.trans' hf4
    obtain ⟨At, rfl, hCt⟩ := hvt.reads
    clear hvt hva hfa hf hf4
    have htl := turnL_length l
    rw [htl]
    rw [htl] at hCt
    dsimp only
    go_wp2_with fail
    have h1 := canon_yes At l.length (turnL l) w4 (by rw [htl]; exact hCt) (by omega) (turnL_good HG.out)
    rw [canon_turn HG.out, htl] at h1
    refine h1.mono ?_
    clear h1
    rintro e w5 ⟨⟨vb, rfl, hvb⟩, hf5⟩
    have hva5 := hva4.fr hf5
    have hfc := hfb.trans' hf5
    have hcl := canon_length HG.out
    dsimp only at hvb ⊢
    obtain ⟨T, hT⟩ : ∃ T, canonF l = T := ⟨_, rfl⟩
    rw [hT] at hvb hva5 hcl ⊢
    clear hT hva4 hfb hf5 hCt htl
    obtain ⟨ca, tb⟩ := T
    dsimp only at hvb hva5 hcl ⊢
    obtain ⟨Aa, rfl, hCa⟩ := hva5.reads
    obtain ⟨Ab, rfl, hCb⟩ := hvb.reads
    have HCC := Lib.hid (And.intro hCa (And.intro hCb hcl))
    clear hCa hCb hva5 hvb hcl
    have HFC := Lib.hid hfc
    clear hfc
    go_wp2
    clear d1 d2 d3
    go_loopg [11, 12] l.length (fun q v i wr => ∃ k : Nat, k + q = l.length ∧ i = .int .i64 k ∧ Hid ((Kd.int .i64).R 2 wr 0 (since w5) v (ps.take k)) ∧ Fr no w5 wr)
    case atStart => exact ⟨0, by omega, rfl, by show Kd.R _ _ _ _ _ _ _; simpa using Kd.R_nil _ _ _ _ _, Fr.refl _ _⟩
    case round =>
      obtain ⟨k, hk, rfl, hR, hf5⟩ := hrel
      have hf := HFC.out.trans' hf5
      by_cases hlt : k < l.length
      · have hkp : k < ps.length := by omega
        obtain ⟨bd, rfl, p0⟩ := p32_at (C_fr HK.out.2.1 hf) k hkp
        have hpb := bd32 (pr_mem HK.out.2.2.2 hkp)
        have HTK := Lib.hid (take_pr ps k hkp)
        have hgl : (ps.take k).length ≤ 1000 := by rw [List.length_take]; omega
        generalize pr ps k = p at *
        obtain ⟨G, hG⟩ : ∃ x, ps.take k = x := ⟨_, rfl⟩
        rw [hG] at hR hgl HTK
        obtain ⟨A1, cc, rfl⟩ := Kd.R_slice hR.out
        have hk0 : (0 : Int) ≤ (k : Int) := by omega
        have hk1 : (k : Int) < (ps.length : Int) := by omega
        have hk2 : (k : Int) < (l.length : Int) := by omega
        have HF := Lib.hid (And.intro hf5 hf)
        clear hG hf5 hf
        go_wp2_with (at_builtin
                     refine Kd.R_append (Kd.int .i64) (w0 := wr) 0 rfl (.tmp 53) (.tmp 59) 23 2 (.int .i64 0) 8 rfl Tryd.underlying23 info64 rfl (by decide) (by omega) _ G p [.int .i64 p] (since w5) (fun _ => False) rfl (by simp [go_sem]) rfl (fun _ hk => hk.elim) (fun b hb => Nat.le_trans HF.out.1.size hb) hR.out (Below.refl 0 _) (Nat.zero_le _) (by omega) ?_
                     intro v1 w8 ho hb1 hg hat
                     clear hat hb1
                     have hF8 := HF.out.1.new' ((Fr.of_grown hg (fun k hk _ => hR.out.1 k hk)).mono (fun _ h _ => h))
                     obtain ⟨A2, c2, rfl⟩ := Kd.R_slice ho
                     clear hg)
        rw [List.length_append, ← HTK.out] at ho
        have HO := Lib.hid ho
        clear ho
        go_roundg (l.length - (k + 1))
        case measure => omega
        case rel => exact ⟨k + 1, by omega, by go_num, HO, hF8⟩
      · obtain rfl : k = l.length := by omega
        obtain ⟨P, hP⟩ : ∃ P, ps.take l.length = P := ⟨_, rfl⟩
        have hPl : P.length = l.length := by rw [← hP, List.length_take]; omega
        have hPb : ∀ i, i < P.length → -2147483648 ≤ pr P i ∧ pr P i ≤ 2147483647 := by
          intro i hi
          rw [← hP, pr_take ps l.length i (by omega)]
          exact bd32 (pr_mem HK.out.2.2.2 (by omega))
        have hR2 := hR.out
        rw [hP] at hR2
        obtain ⟨Ap, cp, rfl, hcp, hCp⟩ := Kd.R_reads hR2
        have hnt := netF_turn l P (fun x hx => bd64 (HK.out.2.2.1 x hx).2.1) (fun i hi => by have := hPb i hi; omega)
        have hn0 := hnt.2 (good_iff.2 HG.out) hPl
        have hnt1 := hnt.1
        have hni := i64B_t.1 (netF_i64 l P)
        have h1 := net_c A c l Ap cp P wr (C_fr HK.out.1 hf) hc hCp hcp (fun i hi => by have := hPb i hi; omega)
        have h2 := fun W (hf' : Fr no wr W) vt' (ht : kLeg.C W vt' (turnL l).length (turnL l)) => net_c vt' (turnL l).length (turnL l) Ap cp P W ht (Nat.le_refl _) (C_fr hCp hf') hcp (fun i hi => by have := hPb i hi; omega)
        rw [hnt1] at h2
        rw [turnL_length] at h2
        unfold NetOf at h1 h2
        rw [hPl] at h1 h2 ⊢
        obtain ⟨N, hN⟩ : ∃ N, netF l P = N := ⟨_, rfl⟩
        rw [hN] at h1 h2 hn0 hni
        obtain ⟨n, z⟩ := N
        dsimp only at h1 h2 hn0 hni
        subst hn0
        have hnm : -9223372036854775808 ≤ -n ∧ -n ≤ 9223372036854775807 := by
          have := i64B_t.1 (netF_i64 (turnL l) P)
          rw [hnt1, hN] at this
          exact this
        have H1 := Lib.hid h1
        have H2 := Lib.hid h2
        have HF := Lib.hid (And.intro hf5 hf)
        clear h1 h2 hnt hnt1 hN hPb hR hR2 hCp hf5 hf hP hPl
        go_wp2_with fail
        refine H1.out.mono ?_
        rintro e w6 ⟨rfl, hf6⟩
        dsimp only
        go_wp2_with fail
        refine (turned_c A c l w6 (C_fr HK.out.1 (HF.out.2.trans' hf6)) hc (by omega)).mono ?_
        rintro e w7 ⟨⟨vt, rfl, hvt⟩, hf7⟩
        obtain ⟨At, rfl, hCt⟩ := hvt.reads
        rw [turnL_length] at hCt ⊢
        clear hvt
        dsimp only
        go_wp2_with fail
        refine (H2.out w7 (hf6.trans' hf7) At hCt).mono ?_
        rintro e w8 ⟨rfl, hf8⟩
        have hf58 := HF.out.1.trans' ((hf6.trans' hf7).trans' hf8)
        have hf08 := HF.out.2.trans' ((hf6.trans' hf7).trans' hf8)
        have hsm := same_c Aa Ab ca.length ca.length ca ca rfl (by have := HCC.out.2.2; omega) w8 (C_fr HCC.out.1 hf58) (C_fr HCC.out.2.1 hf58) (Nat.le_refl _) (Nat.le_refl _)
        have HSM := Lib.hid hsm
        have HFE := Lib.hid hf08
        have hz : wrap64 (0 - -n) = n := by unfold wrap64; omega
        clear hCt hf6 hf7 hf8 hf58 hf08 hsm
        dsimp only
        cases tb
        all_goals
          go_wp2_with fail
          refine HSM.out.mono ?_
          rintro e w9 ⟨rfl, hf9⟩
          dsimp only
          go_wp2
          go_ret
          exact ⟨by first | rfl | simp [hz], HFE.out.trans' hf9⟩
end Go.Proofs.YtdgeakojdafipaaDoor.Legs
