import Derived.Test.YtdgeakojdafipaaDoorLegG
/-! Contract of legs.Canon. -/
set_option linter.unusedVariables false
set_option linter.unusedSimpArgs false
namespace Go.Proofs.YtdgeakojdafipaaDoor.Legs
open Go.RowKit Go.Proofs.YtdgeakojdafipaaDoorW.PrintWords Go.Proofs.YtdgeakojdafipaaDoor.B Go.Proofs.YtdgeakojdafipaaDoor.Num

theorem gcdF_le {a b : Int} (h : 1 ≤ b) : gcdF a b ≤ b := Int.le_of_dvd (by omega) ((gcdF_dvd a b _).1 (Int.dvd_refl _)).2
def foldG (l : List Leg) (s : Int) : Int := l.foldl (fun g x => gcdF g x.Ratio) s
theorem foldG_drop {l : List Leg} {k : Nat} (h : k < l.length) (s : Int) : foldG (l.drop k) s = foldG (l.drop (k + 1)) (gcdF s (lg l k).Ratio) := by
  rw [List.drop_eq_getElem_cons h, lg_lt h]; rfl
def div1 (g : Int) (x : Leg) : Leg := { x with Ratio := x.Ratio / g }
theorem NewRow.older {w w1 w' : World} {v : Value} {l : List Leg} (h : NewRow w1 w' v l) (hs : w.heap.size ≤ w1.heap.size) : NewRow w w' v l := by
  obtain ⟨A, c, h1, h2, h3⟩ := h
  exact ⟨A, c, h1, h2, Kd.R_mono h3 (fun k hk => Nat.le_trans hs hk)⟩
theorem NewRow.fr {w w1 w' : World} {v : Value} {l : List Leg} (h : NewRow w w1 v l) (hf : Fr no w1 w') : NewRow w w' v l := by
  obtain ⟨A, c, h1, h2, h3⟩ := h
  exact ⟨A, c, h1, h2, R_fr h3 hf (fun _ _ h => h)⟩
theorem NewRow.reads {w w' : World} {v : Value} {l : List Leg} (h : NewRow w w' v l) : ∃ A, v = .slice A l.length l.length ∧ kLeg.C w' A l.length l := by
  obtain ⟨A, c, h1, h2, h3⟩ := h
  exact ⟨A, h1, (Kd.R_reads' h3).2.2⟩
set_option maxRecDepth 100000 in
set_option maxHeartbeats 4000000 in
theorem canon_yes (A : Option Addr) (c : Nat) (l : List Leg) (w : World) (hC : kLeg.C w A l.length l) (hc : l.length ≤ c) (hg : Good l) :
    Calls Tryd.prog 14 #[.slice A l.length c] w fun e w' => (∃ v, e = .returned (.tuple #[v, .bool (canonF l).2, .nilIface]) ∧ NewRow w w' v (canonF l).1) ∧ Fr no w w' := by
  have hl : l.length ≤ 1000000 := by have := hg.hi; omega
  have hcan := canon_base l
  obtain ⟨r, hr⟩ : ∃ r, canonF l = r := ⟨_, rfl⟩
  rw [hr] at hcan ⊢
  clear hr
  have HCB := Lib.hid hcan
  clear hcan
  have HK := Lib.hid (And.intro hC hg)
  clear hC hg
  go_enter Tryd.func14, Tryd.ntmps14
  go_wp2_with fail
  refine (check_c A c l w HK.out.1 hc).mono ?_
  rintro e w1 ⟨⟨v, rfl, hA⟩, hf1⟩
  obtain rfl := hA.1 (good_iff.2 HK.out.2)
  clear hA
  dsimp only
  go_wp2_with fail
  refine (clone_c A c l w1 (C_fr HK.out.1 hf1) hc hl).mono ?_
  rintro e w2 ⟨v, rfl, hR, hf2⟩
  obtain ⟨g, c1, rfl, _, hgl, _⟩ := Kd.R_form hR (by have := HK.out.2.lo; omega)
  obtain ⟨hc1, hcc⟩ := R_cap hR
  dsimp only
  go_wp2_with fail
  refine (clip_c _ l.length c1 hc1 hcc _).mono ?_
  rintro e w3 ⟨rfl, rfl⟩
  dsimp only
  go_wp2_with fail
  have hgs : since w g := Nat.le_trans hf1.size (hR.1 g rfl)
  refine (sort_c g c1 l.length 0 (since w1) l w2 hR (by have := HK.out.2.hi; omega)).mono ?_
  rintro e w4 ⟨rfl, hR4, hf4⟩
  have hf : Fr no w w4 := (hf1.trans' hf2).new hf4 (fun k hk => by have : k = g := hk; subst this; exact hgs)
  have hRw := Kd.R_mono hR4 (ok' := since w) (fun k hk => Nat.le_trans hf1.size hk)
  have hGs := good_srt HK.out.2
  obtain ⟨s, hs⟩ : ∃ s, srt l = s := ⟨_, rfl⟩
  have hsl : s.length = l.length := by rw [← hs]; exact srt_length l
  have hcan := HCB.out
  clear HCB
  unfold base at hcan
  rw [hs] at hcan hRw hGs
  rw [← hsl] at hRw hc1 ⊢
  have HS := Lib.hid (And.intro hcan hGs)
  have HR := Lib.hid hRw
  have HF := Lib.hid hf
  have HSL := Lib.hid hsl
  clear hs hcan hR hR4 hRw hf hf1 hf2 hf4 hGs hgl hsl hc
  dsimp only
  go_wp2
  go_loopg [7, 23] s.length (fun q a i wr => ∃ (k : Nat) (t : Int), k + q = s.length ∧ i = .int .i64 k ∧ a = .int .i64 t ∧ 0 ≤ t ∧ t ≤ 4 ∧ Hid (foldG (s.drop k) t = allG s) ∧ Hid (kLeg.R 43 wr 0 (since w) (.slice (some ⟨g, 0, none⟩) s.length c1) s) ∧ Fr no w wr)
  case atStart => exact ⟨0, 0, by omega, rfl, rfl, by omega, by omega, rfl, HR, HF.out⟩
  case round =>
    obtain ⟨k, t, hk, rfl, rfl, ht0, ht4, hfo, hRk, hfk⟩ := hrel
    by_cases hlt : k < s.length
    · obtain ⟨c0, cs1, c2, _⟩ := lg_cells hRk.out k hlt
      have hok := okB_iff.1 (HS.out.2.ok _ (List.getElem_mem hlt))
      rw [← lg_lt hlt] at hok
      obtain ⟨_, _, r1, r4⟩ := hok
      have hnx := hfo.out
      rw [foldG_drop hlt] at hnx
      have hgl := gcdF_le (a := t) r1
      have hgn := gcdF_nonneg t (lg s k).Ratio
      generalize lg s k = x at *
      have HNX := Lib.hid hnx
      obtain ⟨G, hG⟩ : ∃ G, gcdF t x.Ratio = G := ⟨_, rfl⟩
      have hgc := fun W => gcd_c t x.Ratio ht0 (by omega) (by omega) (by omega) W
      rw [hG] at hgl hgn hgc hnx
      have HGC := Lib.hid hgc
      have HNX := Lib.hid hnx
      clear hnx hfo hgc hG
      go_wp2_with fail
      refine (HGC.out _).mono ?_
      rintro e w5 ⟨rfl, hf5⟩
      dsimp only
      go_wp2
      go_roundg (s.length - (k + 1))
      case measure => omega
      case rel => exact ⟨k + 1, G, by omega, by go_num, rfl, hgn, by omega, HNX, R_fr hRk.out (((Fr.refl no _).alloc _).trans' hf5) (fun _ _ h => h), (hfk.alloc _).trans' hf5⟩
    · obtain rfl : k = s.length := by omega
      have hfo2 := hfo.out
      rw [List.drop_length] at hfo2
      have hfo3 : t = allG s := hfo2
      clear hfo hfo2 HR HF
      subst hfo3
      have h1G := allG_pos HS.out.2.ok (by have := HS.out.2.lo; omega)
      obtain ⟨G, hG⟩ : ∃ G, allG s = G := ⟨_, rfl⟩
      have HG := Lib.hid hG
      rw [hG] at h1G ht0 ht4 ⊢
      have hu0 : upd (div1 G) s 0 = s := by simp [upd]
      have HR : Hid (kLeg.R 43 wr 0 (since w) (.slice (some ⟨g, 0, none⟩) s.length c1) (upd (div1 G) s 0)) := by rw [hu0]; exact hRk.out
      clear hG hRk hu0
      go_wp2
      go_loopg [34] s.length (fun q i wr => ∃ (k : Nat), k + q = s.length ∧ i = .int .i64 k ∧ Hid (kLeg.R 43 wr 0 (since w) (.slice (some ⟨g, 0, none⟩) s.length c1) (upd (div1 G) s k)) ∧ Fr no w wr)
      case atStart => exact ⟨0, by omega, rfl, HR, hfk⟩
      case round =>
        clear HR hfk
        obtain ⟨k, hk, rfl, hRk, hfk⟩ := hrel
        by_cases hlt : k < s.length
        · have hul := upd_len (div1 G) s k
          obtain ⟨c0, cs1, c2, fz⟩ := lg_cells hRk.out k (by omega)
          rw [upd_lg _ _ _ hlt] at c0 cs1 c2
          have hnext := lg_put2 hRk.out k (by omega) ((lg s k).Ratio / G)
          rw [upd_lg _ _ _ hlt, show ({ lg s k with Ratio := (lg s k).Ratio / G } : Leg) = div1 G (lg s k) from rfl, upd_set _ _ _ hlt] at hnext
          have hok := okB_iff.1 (HS.out.2.ok _ (List.getElem_mem hlt))
          rw [← lg_lt hlt] at hok
          obtain ⟨_, _, r1, r4⟩ := hok
          have HNX := Lib.hid hnext
          have f2 := fz 2
          clear hnext hRk hul fz c0 cs1
          generalize lg s k = x at *
          go_wp2
          go_roundg (s.length - (k + 1))
          case measure => omega
          case rel => exact ⟨k + 1, by omega, by go_num, HNX.out, hfk.set (p := ⟨g, k * 3 + 2, none⟩) (fun h => absurd h (Nat.not_lt.2 hgs)) _⟩
        · obtain rfl : k = s.length := by omega
          have hR2 := hRk.out
          rw [upd_all] at hR2
          have hcan := HS.out.1
          rw [HG.out] at hcan
          have he : s.map (div1 G) = dv G s := rfl
          rw [he] at hR2
          have hbl : (dv G s).length = s.length := dv_length G s
          have hbg : Good (dv G s) := by have := good_dv HS.out.2; rwa [HG.out] at this
          obtain ⟨b, hb⟩ : ∃ b, dv G s = b := ⟨_, rfl⟩
          rw [hb] at hR2 hcan hbl hbg
          have hp0 : 0 < b.length := by have := hbg.lo; omega
          obtain ⟨c0, cs1, c2, _⟩ := lg_cells hR2 0 hp0
          rw [Nat.zero_mul] at c0 cs1 c2
          rw [Nat.zero_add] at cs1
          have hs0 : (0 : Int) < (s.length : Int) := by omega
          have hpos : 0 < s.length := by omega
          have HR2 := Lib.hid hR2
          have HBL := Lib.hid hbl
          clear hRk hR2 he hb c0 c2
          by_cases h1 : (lg b 0).Sign = 1
          · rw [if_pos h1] at hcan
            subst hcan
            rw [h1] at cs1
            clear h1
            go_wp2
            go_ret3
            refine ⟨⟨_, rfl, some ⟨g, 0, none⟩, c1, ?_, ?_, ?_⟩, hfk⟩
            · rw [HBL.out]; rfl
            · rw [HBL.out]; exact hc1
            · rw [HBL.out]; exact HR2.out
          · rw [if_neg h1] at hcan
            subst hcan
            have e1 : ((lg b 0).Sign == 1) = false := by simp [h1]
            generalize lg b 0 = x at *
            clear h1
            go_wp2_with fail
            have htu := turned_c (some ⟨g, 0, none⟩) s.length b wr (Kd.R_reads' HR2.out).2.2 (by have := HBL.out; omega) (by have := HBL.out; have := HSL.out; omega)
            rw [HBL.out] at htu
            refine htu.mono ?_
            rintro e w6 ⟨⟨v, rfl, hv⟩, hf6⟩
            dsimp only
            go_wp2
            go_ret3
            exact ⟨⟨_, rfl, hv.older hfk.size⟩, hfk.trans' hf6⟩
theorem canon_no (A : Option Addr) (c : Nat) (l : List Leg) (w : World) (hC : kLeg.C w A l.length l) (hc : l.length ≤ c) (n : Nat) (k : Int) (hw : wrong l = some (n, k)) :
    Calls Tryd.prog 14 #[.slice A l.length c] w fun e w' => (∃ F, e = .returned (.tuple #[.slice none 0 0, .bool false, .iface 70 (.pointer (some ⟨F, 0, none⟩))]) ∧ FaultL w' F n k) ∧ Fr no w w' := by
  have HK := Lib.hid (And.intro hC hw)
  clear hC hw
  go_enter Tryd.func14, Tryd.ntmps14
  go_wp2_with fail
  refine (check_c A c l w HK.out.1 hc).mono ?_
  rintro e w1 ⟨⟨v, rfl, hA⟩, hf1⟩
  obtain ⟨F, rfl, hF⟩ := hA.2 n k HK.out.2
  clear hA
  dsimp only
  go_wp2
  go_ret3
  exact ⟨⟨F, rfl, hF⟩, hf1⟩
end Go.Proofs.YtdgeakojdafipaaDoor.Legs
