import Derived.Test.YtdgeakojdafipaaDoorLegW
import Derived.OpenShut
/-! Walk of LegsGcd. -/
set_option linter.unusedVariables false
set_option linter.unusedSimpArgs false
namespace Go.Proofs.YtdgeakojdafipaaDoor.Legs
open Go.RowKit Go.Proofs.YtdgeakojdafipaaDoorW.PrintWords Go.Proofs.YtdgeakojdafipaaDoor.B Go.Proofs.YtdgeakojdafipaaDoor.Num

/-- One of the first k legs is x, multiplied. -/
def hitG (l : List Leg) (x : Leg) (h : Int) (k : Nat) : Bool := (l.take k).any fun y => y.Series == x.Series && y.Ratio == x.Ratio * h
theorem hitG_succ (l : List Leg) (x : Leg) (h : Int) (k : Nat) (hk : k < l.length) : hitG l x h (k + 1) = (hitG l x h k || ((lg l k).Series == x.Series && (lg l k).Ratio == x.Ratio * h)) := by
  unfold hitG
  rw [List.take_succ_eq_append_getElem hk, List.any_append, lg_lt hk]
  simp
theorem hitG_all {l : List Leg} (hg : Good l) {x : Leg} (hx : x ∈ (canonF l).1) : hitG l x (allG l) l.length = true := by
  obtain ⟨y, hy, h1, h2⟩ := canon_from hg hx
  unfold hitG
  rw [List.take_of_length_le (Nat.le_refl _), List.any_eq_true]
  exact ⟨y, hy, by simp [h1, h2]⟩
set_option maxRecDepth 100000 in
set_option maxHeartbeats 8000000 in
theorem gcd_row (w : World) (A : Option Addr) (c : Nat) (l : List Leg) (hC : kLeg.C w A l.length l) (hc : l.length ≤ c) (hw : ∀ x ∈ l, wfLeg x) :
    Calls Tryd.prog 6 #[.slice A l.length c] w fun e w' => e = .returned (.bool true) ∧ Fr no w w' := by
  have HK := Lib.hid (And.intro hC hw)
  clear hC hw
  by_cases h4 : 4 < l.length
  · have d1 : decide ((4 : Int) < (l.length : Int)) = true := by simp; omega
    clear h4
    go_enter Tryd.func6, Tryd.ntmps6
    go_wp2_with fail
    refine (known_c w).mono ?_
    rintro e w1 ⟨rfl, hf1⟩
    dsimp only
    go_wp2
    go_ret
    exact ⟨rfl, hf1⟩
  have d1 : decide ((4 : Int) < (l.length : Int)) = false := by simp; omega
  have hl4 : l.length ≤ 4 := by omega
  clear h4
  go_enter Tryd.func6, Tryd.ntmps6
  go_wp2_with fail
  refine (known_c w).mono ?_
  rintro e w1 ⟨rfl, hf1⟩
  dsimp only
  go_wp2_with fail
  refine (check_c A c l w1 (C_fr HK.out.1 hf1) hc).mono ?_
  rintro e w2 ⟨⟨v, rfl, hA⟩, hf2⟩
  have hf := hf1.trans' hf2
  clear hf1 hf2
  cases hwr : wrong l with
  | some a =>
    obtain ⟨n, k⟩ := a
    obtain ⟨F, rfl, hF⟩ := hA.2 n k hwr
    clear hA hwr hF
    dsimp only
    go_wp2
    go_ret
    exact ⟨rfl, hf⟩
  | none =>
    obtain rfl := hA.1 hwr
    have hg := good_iff.1 hwr
    have HG := Lib.hid hg
    clear hA hwr hg
    dsimp only
    go_wp2_with fail
    refine (canon_yes A c l w2 (C_fr HK.out.1 hf) hc HG.out).mono ?_
    rintro e w3 ⟨⟨va, rfl, hva⟩, hf3⟩
    have hfa := hf.trans' hf3
    have hcl := canon_length HG.out
    have hasc := canon_asc HG.out
    have hgood := good_canon HG.out
    have hgcd := canon_gcd HG.out
    have hlead := canon_lead HG.out
    have hhit := fun x hx => hitG_all HG.out (x := x) hx
    obtain ⟨T, hT⟩ : ∃ T, canonF l = T := ⟨_, rfl⟩
    rw [hT] at hva hcl hasc hgood hgcd hlead hhit ⊢
    clear hT
    obtain ⟨ca, tb⟩ := T
    dsimp only at hva hcl hasc hgood hgcd hlead hhit ⊢
    obtain ⟨Aa, rfl, hCa⟩ := hva.reads
    rw [hcl] at hCa ⊢
    have HCA := Lib.hid (And.intro hCa hfa)
    have HQ := Lib.hid (And.intro hcl (And.intro hasc (And.intro hgood (And.intro hgcd (And.intro hlead hhit)))))
    clear hCa hfa hva hcl hasc hgood hgcd hlead hhit hf hf3
    go_wp2
    clear d1
    go_loopg [6, 7, 8] l.length (fun q a b i wr => ∃ (k : Nat) (s t : Int), k + q = l.length ∧ i = .int .i64 k ∧ a = .int .i64 s ∧ b = .int .i64 t ∧ 0 ≤ s ∧ s ≤ 4 ∧ 0 ≤ t ∧ t ≤ 4 ∧ Hid (foldG (ca.drop k) s = 1 ∧ foldG (l.drop k) t = allG l) ∧ Fr no w3 wr)
    case atStart => exact ⟨0, 0, 0, by omega, rfl, rfl, rfl, by omega, by omega, by omega, by omega, ⟨HQ.out.2.2.2.1, rfl⟩, Fr.refl _ _⟩
    case round =>
      obtain ⟨k, s, t, hk, rfl, rfl, rfl, hs0, hs4, ht0, ht4, hfo, hf⟩ := hrel
      by_cases hlt : k < l.length
      · have hltc : k < ca.length := by have := HQ.out.1; omega
        obtain ⟨ad, rfl, c0, cs1, c2⟩ := lg_at (C_fr HK.out.1 (HCA.out.2.trans' hf)) k hlt
        obtain ⟨bd, rfl, e0, es1, e2⟩ := lg_at (by rw [HQ.out.1]; exact C_fr HCA.out.1 hf) k hltc
        obtain ⟨u1, u2, x1, x4⟩ := okB_iff.1 (HG.out.ok _ (List.getElem_mem hlt))
        obtain ⟨u3, u4, y1, y4⟩ := okB_iff.1 (HQ.out.2.2.1.ok _ (List.getElem_mem hltc))
        rw [← lg_lt hlt] at x1 x4
        rw [← lg_lt hltc] at y1 y4
        have hfo2 := hfo.out
        rw [foldG_drop hltc, foldG_drop hlt] at hfo2
        have g1 := gcdF_le (a := s) y1
        have g2 := gcdF_nonneg s (lg ca k).Ratio
        have g3 := gcdF_le (a := t) x1
        have g4 := gcdF_nonneg t (lg l k).Ratio
        have hq1 := fun W => rgcd_c s (lg ca k).Ratio hs0 (by omega) (by omega) (by omega) W
        have hq2 := fun W => rgcd_c t (lg l k).Ratio ht0 (by omega) (by omega) (by omega) W
        have hX : ∀ u, Fr no wr u → u.cell? ⟨(ad.add (k * 3)).block, (ad.add (k * 3)).off + 2, none⟩ = some (.int .i64 (lg l k).Ratio) := fun u h => h.cell c2 (fun h => h)
        generalize lg ca k = y at *
        generalize lg l k = x at *
        obtain ⟨G1, hG1⟩ : ∃ G, gcdF s y.Ratio = G := ⟨_, rfl⟩
        obtain ⟨G2, hG2⟩ : ∃ G, gcdF t x.Ratio = G := ⟨_, rfl⟩
        rw [hG1] at hfo2 g1 g2 hq1
        rw [hG2] at hfo2 g3 g4 hq2
        have HFO := Lib.hid hfo2
        have H1 := Lib.hid hq1
        have H2 := Lib.hid hq2
        have HX := Lib.hid hX
        have hk0 : (0 : Int) ≤ (k : Int) := by omega
        have hk1 : (k : Int) < (l.length : Int) := by omega
        have HF := Lib.hid hf
        clear hfo hfo2 hq1 hq2 hG1 hG2 hX c0 cs1 c2 e0 es1 u1 u2 u3 u4 hltc hf
        go_wp2_with fail
        refine (H1.out _).mono ?_
        rintro e w5 ⟨rfl, hf5⟩
        have cx := HX.out w5 hf5
        dsimp only
        go_wp2_with fail
        refine (H2.out _).mono ?_
        rintro e w6 ⟨rfl, hf6⟩
        dsimp only
        go_wp2
        go_roundg (l.length - (k + 1))
        case measure => omega
        case rel => exact ⟨k + 1, G1, G2, by omega, by go_num, rfl, rfl, g2, by omega, g4, by omega, HFO, HF.out.trans' (hf5.trans' hf6)⟩
      · obtain rfl : k = l.length := by omega
        have hfo2 := hfo.out
        rw [List.drop_length, show ca.drop l.length = [] from List.drop_of_length_le (by have := HQ.out.1; omega)] at hfo2
        have hs : s = 1 := hfo2.1
        have ht : t = allG l := hfo2.2
        subst hs
        have HT := Lib.hid ht
        clear hfo hfo2 ht hs0 hs4
        go_wp2
        go_loopg [9] l.length (fun q i wq => ∃ k : Nat, k + q = l.length ∧ i = .int .i64 k ∧ Fr no w3 wq)
        case atStart => exact ⟨0, by omega, rfl, hf⟩
        case round =>
          clear hf
          obtain ⟨k, hk, rfl, hf⟩ := hrel
          by_cases hlt : k < l.length
          · have hltc : k < ca.length := by have := HQ.out.1; omega
            obtain ⟨bd, rfl, e0, es1, e2⟩ := lg_at (by rw [HQ.out.1]; exact C_fr HCA.out.1 hf) k hltc
            obtain ⟨u3, u4, y1, y4⟩ := okB_iff.1 (HQ.out.2.2.1.ok _ (List.getElem_mem hltc))
            rw [← lg_lt hltc] at y1 y4
            have hht := HQ.out.2.2.2.2.2 _ (List.getElem_mem hltc)
            rw [← lg_lt hltc] at hht
            obtain ⟨y, hy⟩ : ∃ y, lg ca k = y := ⟨_, rfl⟩
            have HY := Lib.hid hy
            rw [hy] at e0 es1 e2 y1 y4 hht
            rw [← HT.out] at hht
            have HH := Lib.hid hht
            have hm : IntKind.i64.wrap (y.Ratio * t) = y.Ratio * t := IntWalk.i64_in _ (by
              have hy4 : y.Ratio = 1 ∨ y.Ratio = 2 ∨ y.Ratio = 3 ∨ y.Ratio = 4 := by omega
              rcases hy4 with h | h | h | h <;> rw [h] <;> omega)
            have hk0 : (0 : Int) ≤ (k : Int) := by omega
            have hk1 : (k : Int) < (l.length : Int) := by omega
            obtain ⟨wo, rfl⟩ : ∃ wo, wo = wr := ⟨_, rfl⟩
            have HF := Lib.hid hf
            have HE : Hid (∀ u, Fr no wo u → u.cell? (bd.add (k * 3)) = some (.int .i64 y.Series) ∧ u.cell? ⟨(bd.add (k * 3)).block, (bd.add (k * 3)).off + 2, none⟩ = some (.int .i64 y.Ratio)) := fun u h => ⟨h.cell e0 (fun h => h), h.cell e2 (fun h => h)⟩
            clear hy hht u3 u4 e0 es1 e2 hltc hf
            go_wp2
            go_loopg [10, 11] l.length (fun q b j wq => ∃ (m : Nat), m + q = l.length ∧ j = .int .i64 m ∧ b = .bool (hitG l y t m) ∧ Fr no wo wq)
            case atStart => exact ⟨0, by omega, rfl, rfl, Fr.refl _ _⟩
            case round =>
              obtain ⟨m, hm2, rfl, rfl, hf2⟩ := hrel
              by_cases hlt2 : m < l.length
              · obtain ⟨ad, rfl, c0, cs1, c2⟩ := lg_at (C_fr HK.out.1 (HCA.out.2.trans' (HF.out.trans' hf2))) m hlt2
                have hsu := hitG_succ l y t m hlt2
                generalize lg l m = x at *
                obtain ⟨e0, e2⟩ := HE.out wr hf2
                have hm0 : (0 : Int) ≤ (m : Int) := by omega
                have hm1 : (m : Int) < (l.length : Int) := by omega
                have HSU := Lib.hid hsu
                clear hsu cs1
                have hsc : (x.Series == y.Series) = true ∨ (x.Series == y.Series) = false := by cases (x.Series == y.Series) <;> simp
                have hrc : (x.Ratio == y.Ratio * t) = true ∨ (x.Ratio == y.Ratio * t) = false := by cases (x.Ratio == y.Ratio * t) <;> simp
                obtain ⟨fb, hfb⟩ : ∃ fb, hitG l y t m = fb := ⟨_, rfl⟩
                rw [hfb] at HSU ⊢
                clear hfb
                have hSd : (wr.cell? (ad.add (m * 3)) = some (.int .i64 x.Series) ∧ wr.cell? ⟨(ad.add (m * 3)).block, (ad.add (m * 3)).off + 2, none⟩ = some (.int .i64 x.Ratio)) ∧ (wr.cell? (bd.add (k * 3)) = some (.int .i64 y.Series) ∧ wr.cell? ⟨(bd.add (k * 3)).block, (bd.add (k * 3)).off + 2, none⟩ = some (.int .i64 y.Ratio)) := ⟨⟨c0, c2⟩, ⟨e0, e2⟩⟩
                cases fb with
                | true =>
                  go_wp2
                  refine wp_region_plan (fun u => (u.cell? (ad.add (m * 3)) = some (.int .i64 x.Series) ∧ u.cell? ⟨(ad.add (m * 3)).block, (ad.add (m * 3)).off + 2, none⟩ = some (.int .i64 x.Ratio)) ∧ (u.cell? (bd.add (k * 3)) = some (.int .i64 y.Series) ∧ u.cell? ⟨(bd.add (k * 3)).block, (bd.add (k * 3)).off + 2, none⟩ = some (.int .i64 y.Ratio))) [(0, false), (1, false), (2, false), (3, false), (4, false), (5, false), (6, false), (7, false), (8, false), (9, false), (10, false), (11, false), (12, false), (13, false), (14, false), (15, false), (16, false), (17, false), (18, false), (19, false), (20, false), (21, false), (22, false), (23, false), (24, false), (25, false), (26, false), (27, false), (28, false), (29, false)] (by kernel_rfl) (by kernel_rfl) (fun _ _ _ _ _ h => h) (hSd) ?_
                  simp only [planOps, List.getElem?_toArray, List.getElem?_cons_succ, List.getElem?_cons_zero]
                  repeat (first
                    | (refine plan_step (by rfl) ?_; apply Exists.intro; refine ⟨fun x hSx => ?_, ?_⟩; ((try dsimp only at hSx); go_simp; (try rw [if_neg (by omega)]); (try with_reducible rfl)); (simp only [Act.put, List.setIfInBounds_toArray, List.set_cons_zero, List.set_cons_succ]))
                    | (refine plan_skip (by rfl) ?_; (simp only [Act.put, List.setIfInBounds_toArray, List.set_cons_zero, List.set_cons_succ])))
                  refine plan_done ?_
                  have HX : Hid (hitG l y t (m + 1) = true) := by show _ = _; rw [HSU.out]; rfl
                  clear hSd HSU hsc hrc c0 c2 e0 e2
                  go_wp2
                  go_roundg (l.length - (m + 1))
                  case measure => omega
                  case rel => exact ⟨m + 1, by omega, by go_num, by rw [HX.out], hf2.drew⟩
                | false =>
                  rcases hsc with hsc | hsc
                  · rcases hrc with hrc | hrc
                    all_goals
                      go_wp2
                      refine wp_region_plan (fun u => (u.cell? (ad.add (m * 3)) = some (.int .i64 x.Series) ∧ u.cell? ⟨(ad.add (m * 3)).block, (ad.add (m * 3)).off + 2, none⟩ = some (.int .i64 x.Ratio)) ∧ (u.cell? (bd.add (k * 3)) = some (.int .i64 y.Series) ∧ u.cell? ⟨(bd.add (k * 3)).block, (bd.add (k * 3)).off + 2, none⟩ = some (.int .i64 y.Ratio))) [(0, false), (1, false), (2, false), (3, false), (4, false), (5, false), (6, false), (7, false), (8, false), (9, false), (10, false), (11, false), (12, false), (13, false), (14, false), (15, false), (16, false), (17, false), (18, false), (19, false), (20, false), (21, false), (22, false), (23, false), (24, false), (25, false), (26, false), (27, false), (28, false), (29, false)] (by kernel_rfl) (by kernel_rfl) (fun _ _ _ _ _ h => h) (hSd) ?_
                      simp only [planOps, List.getElem?_toArray, List.getElem?_cons_succ, List.getElem?_cons_zero]
                      repeat (first
                        | (refine plan_step (by rfl) ?_; apply Exists.intro; refine ⟨fun x hSx => ?_, ?_⟩; ((try dsimp only at hSx); go_simp; (try rw [if_neg (by omega)]); (try with_reducible rfl)); (simp only [Act.put, List.setIfInBounds_toArray, List.set_cons_zero, List.set_cons_succ]))
                        | (refine plan_skip (by rfl) ?_; (simp only [Act.put, List.setIfInBounds_toArray, List.set_cons_zero, List.set_cons_succ])))
                      refine plan_done ?_
                      have HX : Hid (hitG l y t (m + 1) = _) := HSU.out
                      rw [hsc, hrc] at HX
                      simp only [Bool.false_or, Bool.and_true, Bool.and_false, Bool.true_and] at HX
                      clear hSd HSU hsc hrc c0 c2 e0 e2
                      go_wp2
                      go_roundg (l.length - (m + 1))
                      case measure => omega
                      case rel => exact ⟨m + 1, by omega, by go_num, by rw [HX.out], hf2.drew⟩
                  · go_wp2
                    refine wp_region_plan (fun u => (u.cell? (ad.add (m * 3)) = some (.int .i64 x.Series) ∧ u.cell? ⟨(ad.add (m * 3)).block, (ad.add (m * 3)).off + 2, none⟩ = some (.int .i64 x.Ratio)) ∧ (u.cell? (bd.add (k * 3)) = some (.int .i64 y.Series) ∧ u.cell? ⟨(bd.add (k * 3)).block, (bd.add (k * 3)).off + 2, none⟩ = some (.int .i64 y.Ratio))) [(0, false), (1, false), (2, false), (3, false), (4, false), (5, false), (6, false), (7, false), (8, false), (9, false), (10, false), (11, false), (12, false), (13, false), (14, false), (15, false), (16, false), (17, false), (18, false), (19, false), (20, false), (21, false), (22, false), (23, false), (24, false), (25, false), (26, false), (27, false), (28, false), (29, false)] (by kernel_rfl) (by kernel_rfl) (fun _ _ _ _ _ h => h) (hSd) ?_
                    simp only [planOps, List.getElem?_toArray, List.getElem?_cons_succ, List.getElem?_cons_zero]
                    repeat (first
                      | (refine plan_step (by rfl) ?_; apply Exists.intro; refine ⟨fun x hSx => ?_, ?_⟩; ((try dsimp only at hSx); go_simp; (try rw [if_neg (by omega)]); (try with_reducible rfl)); (simp only [Act.put, List.setIfInBounds_toArray, List.set_cons_zero, List.set_cons_succ]))
                      | (refine plan_skip (by rfl) ?_; (simp only [Act.put, List.setIfInBounds_toArray, List.set_cons_zero, List.set_cons_succ])))
                    refine plan_done ?_
                    have HX : Hid (hitG l y t (m + 1) = _) := HSU.out
                    rw [hsc] at HX
                    simp only [Bool.false_or, Bool.false_and] at HX
                    clear hSd HSU hsc hrc c0 c2 e0 e2
                    go_wp2
                    go_roundg (l.length - (m + 1))
                    case measure => omega
                    case rel => exact ⟨m + 1, by omega, by go_num, by rw [HX.out], hf2.drew⟩
              · obtain rfl : m = l.length := by omega
                rw [HH.out]
                have hf3 := HF.out.trans' hf2
                cases k with
                | zero =>
                  have b0 : decide ((0 : Int) < ((0 : Nat) : Int)) = false := rfl
                  go_wp2
                  refine wp_region_plan (fun _ => True) [(0, false), (1, false), (2, false), (3, false), (4, false), (5, false), (6, false), (7, false), (8, false), (9, false), (10, false), (11, false), (12, false), (13, false), (14, false), (15, false), (16, false), (17, false), (18, false), (19, false)] (by kernel_rfl) (by kernel_rfl) (fun _ _ _ _ _ h => h) (trivial) ?_
                  simp only [planOps, List.getElem?_toArray, List.getElem?_cons_succ, List.getElem?_cons_zero]
                  repeat (first
                    | (refine plan_step (by rfl) ?_; apply Exists.intro; refine ⟨fun x hSx => ?_, ?_⟩; ((try dsimp only at hSx); go_simp; (try rw [if_neg (by omega)]); (try with_reducible rfl)); (simp only [Act.put, List.setIfInBounds_toArray, List.set_cons_zero, List.set_cons_succ]))
                    | (refine plan_skip (by rfl) ?_; (simp only [Act.put, List.setIfInBounds_toArray, List.set_cons_zero, List.set_cons_succ])))
                  refine plan_done ?_
                  clear b0
                  go_wp2
                  go_roundg (l.length - (0 + 1))
                  case measure => omega
                  case rel => exact ⟨0 + 1, by omega, by go_num, hf3.drew⟩
                | succ k =>
                  have hC3 : kLeg.C wr (some bd) ca.length ca := by rw [HQ.out.1]; exact C_fr HCA.out.1 hf3
                  obtain ⟨bd2, hbd, e0, _, _⟩ := lg_at hC3 k (by have := HQ.out.1; omega)
                  obtain rfl := Option.some.inj hbd
                  obtain ⟨g0, _⟩ := HE.out wr hf2
                  have hlt3 : (lg ca k).Series < y.Series := by
                    rw [← HY.out, lg_lt (show k < ca.length by have := HQ.out.1; omega), lg_lt (show k + 1 < ca.length by have := HQ.out.1; omega)]
                    exact List.pairwise_iff_getElem.1 HQ.out.2.1 k (k + 1) _ _ (by omega)
                  generalize lg ca k = z at *
                  have b1 : decide (y.Series ≤ z.Series) = false := by simp; omega
                  have b0 : decide ((0 : Int) < (k : Int) + 1) = true := by simp
                  have b2 : decide (0 < k + 1) = true := by simp
                  have hkk : IntKind.i64.wrap (k : Int) = (k : Int) := IntWalk.i64_in _ (by omega)
                  have hkn : ((k : Int) + 1).toNat = k + 1 := by omega
                  have hk5 : (0 : Int) ≤ (k : Int) + 1 := by omega
                  have hk6 : (k : Int) + 1 < (l.length : Int) := by omega
                  have hk3 : (0 : Int) ≤ (k : Int) := by omega
                  have hk4 : (k : Int) < (l.length : Int) := by omega
                  have hSd : wr.cell? (bd.add (k * 3)) = some (.int .i64 z.Series) ∧ wr.cell? (bd.add ((k + 1) * 3)) = some (.int .i64 y.Series) := ⟨e0, g0⟩
                  clear hlt3 hC3 e0 g0
                  go_wp2
                  refine wp_region_plan (fun u => u.cell? (bd.add (k * 3)) = some (.int .i64 z.Series) ∧ u.cell? (bd.add ((k + 1) * 3)) = some (.int .i64 y.Series)) [(0, false), (1, false), (2, false), (3, false), (4, false), (5, false), (6, false), (7, false), (8, false), (9, false), (10, false), (11, false), (12, false), (13, false), (14, false), (15, false), (16, false), (17, false), (18, false), (19, false)] (by kernel_rfl) (by kernel_rfl) (fun _ _ _ _ _ h => h) (hSd) ?_
                  simp only [planOps, List.getElem?_toArray, List.getElem?_cons_succ, List.getElem?_cons_zero]
                  repeat (first
                    | (refine plan_step (by rfl) ?_; apply Exists.intro; refine ⟨fun x hSx => ?_, ?_⟩; ((try dsimp only at hSx); go_simp; (try rw [if_neg (by omega)]); (try with_reducible rfl)); (simp only [Act.put, List.setIfInBounds_toArray, List.set_cons_zero, List.set_cons_succ]))
                    | (refine plan_skip (by rfl) ?_; (simp only [Act.put, List.setIfInBounds_toArray, List.set_cons_zero, List.set_cons_succ])))
                  refine plan_done ?_
                  clear hSd hkk hkn b0 b1 b2
                  go_wp2
                  go_roundg (l.length - (k + 1 + 1))
                  case measure => omega
                  case rel => exact ⟨k + 1 + 1, by omega, by go_num, hf3.drew⟩
          · obtain rfl : k = l.length := by omega
            have hp0 : 0 < ca.length := by have := HQ.out.2.2.1.lo; omega
            obtain ⟨bd, rfl, e0, es1, e2⟩ := lg_at (by rw [HQ.out.1]; exact C_fr HCA.out.1 hf) 0 hp0
            rw [HQ.out.2.2.2.2.1] at es1
            have hs0 : (0 : Int) < (l.length : Int) := by have := HQ.out.1; omega
            have hpos : 0 < l.length := by have := HQ.out.1; omega
            have ez : bd.add (0 * 3) = bd.add 0 := by simp
            have ez0 : bd.add 0 = bd := by unfold Addr.add; simp
            have es2 : wr.cell? ⟨bd.block, bd.off + 1, none⟩ = some (.int .i64 1) := by rw [ez, ez0] at es1; exact es1
            clear ez ez0 es1
            have hfe := HCA.out.2.trans' hf
            clear e0 e2 hf
            go_wp2
            go_ret
            exact ⟨rfl, hfe⟩
end Go.Proofs.YtdgeakojdafipaaDoor.Legs
