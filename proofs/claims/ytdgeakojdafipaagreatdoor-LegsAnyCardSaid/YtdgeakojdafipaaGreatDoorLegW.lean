import Derived.Test.YtdgeakojdafipaaGreatDoorLegG
import Derived.Test.YtdgeakojdafipaaGreatDoorPLegA
import Derived.Test.YtdgeakojdafipaaGreatDoorNum
import Derived.Lib.ItoaNum
/-! Contract of legs.Canon. -/
set_option linter.unusedVariables false
set_option linter.unusedSimpArgs false
namespace Go.Proofs.YtdgeakojdafipaaGreatDoor.Legs
open Go.RowKit Go.Proofs.YtdgeakojdafipaaGreatDoorW.PrintWords Go.Proofs.YtdgeakojdafipaaGreatDoor.B Go.Proofs.YtdgeakojdafipaaGreatDoor.Num

theorem gcdF_le {a b : Int} (h : 1 ≤ b) : gcdF a b ≤ b := Int.le_of_dvd (by omega) ((gcdF_dvd a b _).1 (Int.dvd_refl _)).2
def foldG (l : List Leg) (s : Int) : Int := l.foldl (fun g x => gcdF g x.Ratio) s
theorem foldG_drop {l : List Leg} {k : Nat} (h : k < l.length) (s : Int) : foldG (l.drop k) s = foldG (l.drop (k + 1)) (gcdF s (lg l k).Ratio) := by
  rw [List.drop_eq_getElem_cons h, lg_lt h]; rfl
def div1 (g : Int) (x : Leg) : Leg := { x with Ratio := x.Ratio / g }
theorem NewRow.older {w w1 w' : World} {v : Value} {l : List Leg} (h : NewRow w1 w' v l) (hs : w.heap.size ≤ w1.heap.size) : NewRow w w' v l := by
  obtain ⟨A, c, h1, h2, h3⟩ := h
  exact ⟨A, c, h1, h2, Kd.R_mono h3 (fun k hk => Nat.le_trans hs hk)⟩
theorem NewRow.fr {w w1 w' : World} {v : Value} {l : List Leg} (h : NewRow w w1 v l) (hf : Fr no w1 w') : NewRow w w' v l := by
  obtain ⟨A, c, h1, h2, h3⟩ := h
  exact ⟨A, c, h1, h2, R_fr h3 hf (fun _ _ h => h)⟩
theorem NewRow.reads {w w' : World} {v : Value} {l : List Leg} (h : NewRow w w' v l) : ∃ A, v = .slice A l.length l.length ∧ kLeg.C w' A l.length l := by
  obtain ⟨A, c, h1, h2, h3⟩ := h
  exact ⟨A, h1, (Kd.R_reads' h3).2.2⟩
set_option maxRecDepth 100000 in
set_option maxHeartbeats 4000000 in
theorem canon_yes (A : Option Addr) (c : Nat) (l : List Leg) (w : World) (hC : kLeg.C w A l.length l) (hc : l.length ≤ c) (hg : Good l) :
    Calls Tryz.prog 7 #[.slice A l.length c] w fun e w' => (∃ v, e = .returned (.tuple #[v, .bool (canonF l).2, .nilIface]) ∧ NewRow w w' v (canonF l).1) ∧ Fr no w w' := by
  have hl : l.length ≤ 1000000 := by have := hg.hi; omega
  have hcan := canon_base l
  obtain ⟨r, hr⟩ : ∃ r, canonF l = r := ⟨_, rfl⟩
  rw [hr] at hcan ⊢
  clear hr
  have HCB := Lib.hid hcan
  clear hcan
  have HK := Lib.hid (And.intro hC hg)
  clear hC hg
  go_enter Tryz.func7, Tryz.ntmps7
  go_wp2_with fail
  refine (check_c A c l w HK.out.1 hc).mono ?_
  rintro e w1 ⟨⟨v, rfl, hA⟩, hf1⟩
  obtain rfl := hA.1 (good_iff.2 HK.out.2)
  clear hA
  dsimp only
  go_wp2_with fail
  refine (clone_c A c l w1 (C_fr HK.out.1 hf1) hc hl).mono ?_
  rintro e w2 ⟨v, rfl, hR, hf2⟩
  obtain ⟨g, c1, rfl, _, hgl, _⟩ := Kd.R_form hR (by have := HK.out.2.lo; omega)
  obtain ⟨hc1, hcc⟩ := R_cap hR
  dsimp only
  go_wp2_with fail
  refine (clip_c _ l.length c1 hc1 hcc _).mono ?_
  rintro e w3 ⟨rfl, rfl⟩
  dsimp only
  go_wp2_with fail
  have hgs : since w g := Nat.le_trans hf1.size (hR.1 g rfl)
  refine (sort_c g c1 l.length 0 (since w1) l w2 hR (by have := HK.out.2.hi; omega)).mono ?_
  rintro e w4 ⟨rfl, hR4, hf4⟩
  have hf : Fr no w w4 := (hf1.trans' hf2).new hf4 (fun k hk => by have : k = g := hk; subst this; exact hgs)
  have hRw := Kd.R_mono hR4 (ok' := since w) (fun k hk => Nat.le_trans hf1.size hk)
  have hGs := good_srt HK.out.2
  obtain ⟨s, hs⟩ : ∃ s, srt l = s := ⟨_, rfl⟩
  have hsl : s.length = l.length := by rw [← hs]; exact srt_length l
  have hcan := HCB.out
  clear HCB
  unfold base at hcan
  rw [hs] at hcan hRw hGs
  rw [← hsl] at hRw hc1 ⊢
  have HS := Lib.hid (And.intro hcan hGs)
  have HR := Lib.hid hRw
  have HF := Lib.hid hf
  have HSL := Lib.hid hsl
  clear hs hcan hR hR4 hRw hf hf1 hf2 hf4 hGs hgl hsl hc
  dsimp only
  go_wp2
  go_loopg [7, 23] s.length (fun q a i wr => ∃ (k : Nat) (t : Int), k + q = s.length ∧ i = .int .i64 k ∧ a = .int .i64 t ∧ 0 ≤ t ∧ t ≤ 4 ∧ Hid (foldG (s.drop k) t = allG s) ∧ Hid (kLeg.R 46 wr 0 (since w) (.slice (some ⟨g, 0, none⟩) s.length c1) s) ∧ Fr no w wr)
  case atStart => exact ⟨0, 0, by omega, rfl, rfl, by omega, by omega, rfl, HR, HF.out⟩
  case round =>
    obtain ⟨k, t, hk, rfl, rfl, ht0, ht4, hfo, hRk, hfk⟩ := hrel
    by_cases hlt : k < s.length
    · obtain ⟨c0, cs1, c2, _⟩ := lg_cells hRk.out k hlt
      have hok := okB_iff.1 (HS.out.2.ok _ (List.getElem_mem hlt))
      rw [← lg_lt hlt] at hok
      obtain ⟨_, _, r1, r4⟩ := hok
      have hnx := hfo.out
      rw [foldG_drop hlt] at hnx
      have hgl := gcdF_le (a := t) r1
      have hgn := gcdF_nonneg t (lg s k).Ratio
      generalize lg s k = x at *
      have HNX := Lib.hid hnx
      obtain ⟨G, hG⟩ : ∃ G, gcdF t x.Ratio = G := ⟨_, rfl⟩
      have hgc := fun W => gcd_c t x.Ratio ht0 (by omega) (by omega) (by omega) W
      rw [hG] at hgl hgn hgc hnx
      have HGC := Lib.hid hgc
      have HNX := Lib.hid hnx
      clear hnx hfo hgc hG
      go_wp2_with fail
      refine (HGC.out _).mono ?_
      rintro e w5 ⟨rfl, hf5⟩
      dsimp only
      go_wp2
      go_roundg (s.length - (k + 1))
      case measure => omega
      case rel => exact ⟨k + 1, G, by omega, by go_num, rfl, hgn, by omega, HNX, R_fr hRk.out (((Fr.refl no _).alloc _).trans' hf5) (fun _ _ h => h), (hfk.alloc _).trans' hf5⟩
    · obtain rfl : k = s.length := by omega
      have hfo2 := hfo.out
      rw [List.drop_length] at hfo2
      have hfo3 : t = allG s := hfo2
      clear hfo hfo2 HR HF
      subst hfo3
      have h1G := allG_pos HS.out.2.ok (by have := HS.out.2.lo; omega)
      obtain ⟨G, hG⟩ : ∃ G, allG s = G := ⟨_, rfl⟩
      have HG := Lib.hid hG
      rw [hG] at h1G ht0 ht4 ⊢
      have hu0 : upd (div1 G) s 0 = s := by simp [upd]
      have HR : Hid (kLeg.R 46 wr 0 (since w) (.slice (some ⟨g, 0, none⟩) s.length c1) (upd (div1 G) s 0)) := by rw [hu0]; exact hRk.out
      clear hG hRk hu0
      go_wp2
      go_loopg [34] s.length (fun q i wr => ∃ (k : Nat), k + q = s.length ∧ i = .int .i64 k ∧ Hid (kLeg.R 46 wr 0 (since w) (.slice (some ⟨g, 0, none⟩) s.length c1) (upd (div1 G) s k)) ∧ Fr no w wr)
      case atStart => exact ⟨0, by omega, rfl, HR, hfk⟩
      case round =>
        clear HR hfk
        obtain ⟨k, hk, rfl, hRk, hfk⟩ := hrel
        by_cases hlt : k < s.length
        · have hul := upd_len (div1 G) s k
          obtain ⟨c0, cs1, c2, fz⟩ := lg_cells hRk.out k (by omega)
          rw [upd_lg _ _ _ hlt] at c0 cs1 c2
          have hnext := lg_put2 hRk.out k (by omega) ((lg s k).Ratio / G)
          rw [upd_lg _ _ _ hlt, show ({ lg s k with Ratio := (lg s k).Ratio / G } : Leg) = div1 G (lg s k) from rfl, upd_set _ _ _ hlt] at hnext
          have hok := okB_iff.1 (HS.out.2.ok _ (List.getElem_mem hlt))
          rw [← lg_lt hlt] at hok
          obtain ⟨_, _, r1, r4⟩ := hok
          have HNX := Lib.hid hnext
          have f2 := fz 2
          clear hnext hRk hul fz c0 cs1
          generalize lg s k = x at *
          go_wp2
          go_roundg (s.length - (k + 1))
          case measure => omega
          case rel => exact ⟨k + 1, by omega, by go_num, HNX.out, hfk.set (p := ⟨g, k * 3 + 2, none⟩) (fun h => absurd h (Nat.not_lt.2 hgs)) _⟩
        · obtain rfl : k = s.length := by omega
          have hR2 := hRk.out
          rw [upd_all] at hR2
          have hcan := HS.out.1
          rw [HG.out] at hcan
          have he : s.map (div1 G) = dv G s := rfl
          rw [he] at hR2
          have hbl : (dv G s).length = s.length := dv_length G s
          have hbg : Good (dv G s) := by have := good_dv HS.out.2; rwa [HG.out] at this
          obtain ⟨b, hb⟩ : ∃ b, dv G s = b := ⟨_, rfl⟩
          rw [hb] at hR2 hcan hbl hbg
          have hp0 : 0 < b.length := by have := hbg.lo; omega
          obtain ⟨c0, cs1, c2, _⟩ := lg_cells hR2 0 hp0
          rw [Nat.zero_mul] at c0 cs1 c2
          rw [Nat.zero_add] at cs1
          have hs0 : (0 : Int) < (s.length : Int) := by omega
          have hpos : 0 < s.length := by omega
          have HR2 := Lib.hid hR2
          have HBL := Lib.hid hbl
          clear hRk hR2 he hb c0 c2
          by_cases h1 : (lg b 0).Sign = 1
          · rw [if_pos h1] at hcan
            subst hcan
            rw [h1] at cs1
            clear h1
            go_wp2
            go_ret3
            refine ⟨⟨_, rfl, some ⟨g, 0, none⟩, c1, ?_, ?_, ?_⟩, hfk⟩
            · rw [HBL.out]; rfl
            · rw [HBL.out]; exact hc1
            · rw [HBL.out]; exact HR2.out
          · rw [if_neg h1] at hcan
            subst hcan
            have e1 : ((lg b 0).Sign == 1) = false := by simp [h1]
            generalize lg b 0 = x at *
            clear h1
            go_wp2_with fail
            have htu := turned_c (some ⟨g, 0, none⟩) s.length b wr (Kd.R_reads' HR2.out).2.2 (by have := HBL.out; omega) (by have := HBL.out; have := HSL.out; omega)
            rw [HBL.out] at htu
            refine htu.mono ?_
            rintro e w6 ⟨⟨v, rfl, hv⟩, hf6⟩
            dsimp only
            go_wp2
            go_ret3
            exact ⟨⟨_, rfl, hv.older hfk.size⟩, hfk.trans' hf6⟩
theorem canon_no (A : Option Addr) (c : Nat) (l : List Leg) (w : World) (hC : kLeg.C w A l.length l) (hc : l.length ≤ c) (n : Nat) (k : Int) (hw : wrong l = some (n, k)) :
    Calls Tryz.prog 7 #[.slice A l.length c] w fun e w' => (∃ F, e = .returned (.tuple #[.slice none 0 0, .bool false, .iface 60 (.pointer (some ⟨F, 0, none⟩))]) ∧ FaultL w' F n k) ∧ Fr no w w' := by
  have HK := Lib.hid (And.intro hC hw)
  clear hC hw
  go_enter Tryz.func7, Tryz.ntmps7
  go_wp2_with fail
  refine (check_c A c l w HK.out.1 hc).mono ?_
  rintro e w1 ⟨⟨v, rfl, hA⟩, hf1⟩
  obtain ⟨F, rfl, hF⟩ := hA.2 n k HK.out.2
  clear hA
  dsimp only
  go_wp2
  go_ret3
  exact ⟨⟨F, rfl, hF⟩, hf1⟩
end Go.Proofs.YtdgeakojdafipaaGreatDoor.Legs

/-! Contracts of legs.Same (at the same legs) and legs.Text. -/
set_option linter.unusedVariables false
set_option linter.unusedSimpArgs false
namespace Go.Proofs.YtdgeakojdafipaaGreatDoor.Legs
open Go.RowKit Go.Proofs.YtdgeakojdafipaaGreatDoorW.PrintWords Go.Proofs.YtdgeakojdafipaaGreatDoor.B Go.Proofs.YtdgeakojdafipaaGreatDoor.Num

abbrev PLeg := PLegsAny.S46
def toP (x : Leg) : PLeg := ⟨x.Series, x.Sign, x.Ratio⟩
theorem C_map {α β : Type} {d : Kd α} {d' : Kd β} (f : α → β) (hs : d.sz = d'.sz) (hk : ∀ w x c, d.K w x c → d'.K w (f x) c) {w : World} {A : Option Addr} {n : Nat} {xs : List α} (h : d.C w A n xs) : d'.C w A n (xs.map f) := by
  obtain ⟨h1, h2, h3⟩ := h
  refine ⟨by simpa using h1, h2, fun hn => ?_⟩
  obtain ⟨ad, e, hc⟩ := h3 hn
  refine ⟨ad, e, fun j p hj => ?_⟩
  obtain ⟨x, hx, rfl⟩ : ∃ x, xs[j]? = some x ∧ f x = p := by simpa using hj
  obtain ⟨c, c1, c2, c3⟩ := hc j x hx
  exact ⟨c, by rw [c1, hs], hk _ _ _ c2, by rw [← hs]; exact c3⟩
theorem toP_C {w : World} {A : Option Addr} {n : Nat} {t : List Leg} (h : kLeg.C w A n t) : PLegsAny.k46.C w A n (t.map toP) := C_map toP rfl (fun _ _ _ h => h) h
theorem same_l (l : List PLeg) (hl : l.length ≤ 1000000) : ∀ (d i k : Nat), i + d = l.length → d < k → PLegsAny.legs_Leg_33.l0 k l l (l.length : Int) (i : Int) = some true := by
  intro d
  induction d with
  | zero =>
    intro i k hi hk
    obtain ⟨k, rfl⟩ : ∃ m, k = m + 1 := ⟨k - 1, by omega⟩
    simp only [PLegsAny.legs_Leg_33.l0]
    rw [if_neg (by omega)]
  | succ d ih =>
    intro i k hi hk
    obtain ⟨k, rfl⟩ : ∃ m, k = m + 1 := ⟨k - 1, by omega⟩
    simp only [PLegsAny.legs_Leg_33.l0]
    have hw : wrap64 ((i : Int) + 1) = ((i + 1 : Nat) : Int) := by unfold wrap64; omega
    rw [if_pos (by omega), if_pos (by omega), if_pos (by omega), if_pos (by omega), if_neg (by simp), hw]
    exact ih (i + 1) k (by omega) (by omega)
theorem same_c (A B : Option Addr) (ca cb : Nat) (l m : List Leg) (he : l = m) (hl : l.length ≤ 1000000) (w : World) (hA : kLeg.C w A l.length l) (hB : kLeg.C w B m.length m) (ha : l.length ≤ ca) (hb : m.length ≤ cb) :
    Calls Tryz.prog 12 #[.slice A l.length ca, .slice B m.length cb] w fun e w' => e = .returned (.bool true) ∧ Fr no w w' := by
  subst he
  have hf : PLegsAny.legs_Same.f (l.length + 1) (l.map toP) (l.map toP) = some true := by
    unfold PLegsAny.legs_Same.f PLegsAny.legs_Leg_33.f
    rw [if_pos rfl]
    have h := same_l (l.map toP) (by rw [List.length_map]; exact hl) l.length 0 (l.length + 1) (by rw [List.length_map]; omega) (by omega)
    have h0 : ((0 : Nat) : Int) = 0 := rfl
    rw [h0] at h
    rw [h]; rfl
  have h := PLegsAny.legs_Same.calls (l.length + 1) A ca (l.map toP) B cb (l.map toP) true w (by rw [List.length_map]; exact toP_C hA) (by rw [List.length_map]; exact ha) (by rw [List.length_map]; exact toP_C hB) (by rw [List.length_map]; exact hb) hf
  rw [List.length_map] at h
  exact h.mono fun e w' ⟨h1, h2⟩ => ⟨h1, Fr.of_below h2.below⟩
end Go.Proofs.YtdgeakojdafipaaGreatDoor.Legs

/-! Contracts of legs.part and legs.Net. -/
set_option linter.unusedVariables false
set_option linter.unusedSimpArgs false
namespace Go.Proofs.YtdgeakojdafipaaGreatDoor.Legs
open Go.RowKit Go.Proofs.YtdgeakojdafipaaGreatDoorW.PrintWords Go.Proofs.YtdgeakojdafipaaGreatDoor.B Go.Proofs.YtdgeakojdafipaaGreatDoor.Num

theorem pr_at {w : World} {B : Option Addr} {ps : List Int} (h : (Kd.int .i64).C w B ps.length ps) (k : Nat) (hk : k < ps.length) : ∃ bd, B = some bd ∧ w.cell? (bd.add k) = some (.int .i64 (pr ps k)) := by
  obtain ⟨ad, e, hc⟩ := h.2.2 (by omega)
  obtain ⟨c, c1, c2, c3⟩ := hc k ps[k] (by simp [hk])
  have c2' : c = [.int .i64 ps[k]] := c2
  subst c2'
  refine ⟨ad, e, ?_⟩
  have h1 : pr ps k = ps[k] := by simp [pr, hk]
  rw [h1]
  simpa [show (Kd.int .i64).sz = 1 from rfl] using c3 0 _ rfl
theorem sr_small {x : Leg} (h : okB x = true) : -4 ≤ x.Sign * x.Ratio ∧ x.Sign * x.Ratio ≤ 4 := by
  obtain ⟨_, a, b, c⟩ := okB_iff.1 h
  rcases a with a | a <;> rw [a] <;> omega
set_option maxRecDepth 100000 in
theorem part_c (x : Leg) (p : Int) (h : okB x = true) (p0 : -9223372036854775808 ≤ p) (p1 : p ≤ 9223372036854775807) (w : World) :
    Calls Tryz.prog 37 #[x.val, .int .i64 p] w fun e w' => e = .returned (.tuple #[.int .i64 (mulF (x.Sign * x.Ratio) p).1, .int .i64 (mulF (x.Sign * x.Ratio) p).2]) ∧ Fr no w w' := by
  obtain ⟨s1, s2⟩ := sr_small h
  obtain ⟨_, a, b, c⟩ := okB_iff.1 h
  have ha : -1 ≤ x.Sign ∧ x.Sign ≤ 1 := by omega
  have hm1 := fun W => mul_g x.Sign x.Ratio (by omega) (by omega) (by omega) (by omega) W
  have he : mulF x.Sign x.Ratio = (x.Sign * x.Ratio, 0) := by unfold mulF; rw [if_pos (i64B_t.2 (by omega))]
  rw [he] at hm1
  have hm2 := fun W => mul_g (x.Sign * x.Ratio) p (by omega) (by omega) p0 p1 W
  obtain ⟨r, hr⟩ : ∃ r, mulF (x.Sign * x.Ratio) p = r := ⟨_, rfl⟩
  rw [hr] at hm2 ⊢
  obtain ⟨n, hn⟩ : ∃ n, x.Sign * x.Ratio = n := ⟨_, rfl⟩
  rw [hn] at hm1 hm2
  have H1 := Lib.hid hm1
  have H2 := Lib.hid hm2
  obtain ⟨q, z⟩ := r
  clear hm1 hm2 hr he hn s1 s2 a b c ha h
  have hfa := (Fr.refl no w).alloc (.cells #[.int .i64 x.Series, .int .i64 x.Sign, .int .i64 x.Ratio] 46)
  unfold Leg.val
  go_enter Tryz.func37, Tryz.ntmps37
  go_wp2_with fail
  refine (H1.out _).mono ?_
  rintro e w1 ⟨rfl, rfl⟩
  dsimp only
  go_wp2_with fail
  refine (H2.out _).mono ?_
  rintro e w1 ⟨rfl, rfl⟩
  dsimp only
  go_wp2
  go_ret2
  exact ⟨rfl, hfa⟩
def NetOf (e : Ending) (r : Int × Int) : Prop := e = .returned (.tuple #[.int .i64 r.1, .int .i64 r.2])
set_option maxRecDepth 100000 in
set_option maxHeartbeats 4000000 in
theorem net_c (A : Option Addr) (c : Nat) (l : List Leg) (B : Option Addr) (cb : Nat) (ps : List Int) (w : World) (hC : kLeg.C w A l.length l) (hc : l.length ≤ c)
    (hB : (Kd.int .i64).C w B ps.length ps) (hb : ps.length ≤ cb) (hp : ∀ k, k < ps.length → -9223372036854775808 ≤ pr ps k ∧ pr ps k ≤ 9223372036854775807) :
    Calls Tryz.prog 17 #[.slice A l.length c, .slice B ps.length cb] w fun e w' => NetOf e (netF l ps) ∧ Fr no w w' := by
  obtain ⟨V, hV⟩ : ∃ V, netF l ps = V := ⟨_, rfl⟩
  rw [hV]
  unfold netF at hV
  have HK := Lib.hid (And.intro hC (And.intro hB hp))
  clear hC hB hp
  cases hw : wrong l with
  | some a =>
    obtain ⟨n, k⟩ := a
    rw [if_neg (by rw [hw]; simp)] at hV
    subst hV
    have HW := Lib.hid hw
    clear hw
    go_enter Tryz.func17, Tryz.ntmps17
    go_wp2_with fail
    refine (check_c A c l w HK.out.1 hc).mono ?_
    rintro e w1 ⟨⟨v, rfl, hA⟩, hf1⟩
    obtain ⟨F, rfl, hF⟩ := hA.2 n k HW.out
    clear hA
    dsimp only
    go_wp2
    go_ret2
    exact ⟨rfl, hf1⟩
  | none =>
    have hg := good_iff.1 hw
    by_cases hlen : ps.length = l.length
    rotate_left
    · rw [if_neg (by simp [hlen])] at hV
      subst hV
      have HW := Lib.hid hw
      have e1 : ((ps.length : Int) != (l.length : Int)) = true := by simp; omega
      clear hw hg hlen
      go_enter Tryz.func17, Tryz.ntmps17
      go_wp2_with fail
      refine (check_c A c l w HK.out.1 hc).mono ?_
      rintro e w1 ⟨⟨v, rfl, hA⟩, hf1⟩
      obtain rfl := hA.1 HW.out
      clear hA
      dsimp only
      go_wp2
      go_ret2
      exact ⟨rfl, hf1⟩
    rw [if_pos ⟨hw, hlen⟩] at hV
    have HW := Lib.hid (And.intro hw (And.intro hg hlen))
    have hl4 : l.length ≤ 4 := hg.hi
    have HV := Lib.hid hV
    have e1 : ((ps.length : Int) != (l.length : Int)) = false := by simp; omega
    clear hw hg hlen hV
    go_enter Tryz.func17, Tryz.ntmps17
    go_wp2_with fail
    refine (check_c A c l w HK.out.1 hc).mono ?_
    rintro e w1 ⟨⟨v, rfl, hA⟩, hf1⟩
    obtain rfl := hA.1 HW.out.1
    clear hA
    dsimp only
    go_wp2
    clear e1
    go_loopg [6, 23] l.length (fun q o i wr => ∃ (k : Nat) (s : Int), k + q = l.length ∧ i = .int .i64 k ∧ o = .int .i64 s ∧ -9223372036854775808 ≤ s ∧ s ≤ 9223372036854775807 ∧ Hid (netFrom l ps (l.length - k) k s = V) ∧ Fr no w wr)
    case atStart => exact ⟨0, 0, by omega, rfl, rfl, by omega, by omega, HV, hf1⟩
    case round =>
      clear HV hf1
      obtain ⟨k, s, hk, rfl, rfl, hs0, hs1, hv, hf⟩ := hrel
      by_cases hlt : k < l.length
      · have hv2 := hv.out
        rw [show l.length - k = (l.length - (k + 1)) + 1 by omega, netFrom] at hv2
        have hkp : k < ps.length := by have := HW.out.2.2; omega
        obtain ⟨ad, rfl, c0, c1, c2⟩ := lg_at (C_fr HK.out.1 hf) k hlt
        obtain ⟨bd, rfl, p0⟩ := pr_at (C_fr HK.out.2.1 hf) k hkp
        have hpb := HK.out.2.2 k hkp
        have hok := HW.out.2.1.ok _ (List.getElem_mem hlt)
        rw [← lg_lt hlt] at hok
        generalize lg l k = x at *
        generalize pr ps k = p at *
        have hpc := fun W => part_c x p hok hpb.1 hpb.2 W
        unfold Leg.val mulF at hpc
        have HPC := Lib.hid hpc
        have HV2 := Lib.hid hv2
        have hk0 : (0 : Int) ≤ (k : Int) := by omega
        have hk1 : (k : Int) < (ps.length : Int) := by omega
        have hk2 : k < ps.length := hkp
        clear hv hv2 hpc hok hpb hkp
        go_wp2
        have hX := blk_new wr (.cells #[.int .i64 x.Series, .int .i64 x.Sign, .int .i64 x.Ratio] 46)
        have hfx := hf.alloc (.cells #[.int .i64 x.Series, .int .i64 x.Sign, .int .i64 x.Ratio] 46)
        have p0' := (World.cell?_alloc_lt wr (.cells #[.int .i64 x.Series, .int .i64 x.Sign, .int .i64 x.Ratio] 46) (bd.add k) (World.block_lt_of_cell? wr _ p0)).trans p0
        clear c0 c1 c2 p0
        generalize wr.alloc _ = w2 at *
        generalize wr.heap.size = X at *
        have x0 : w2.cell? ⟨X, 0, none⟩ = some (.int .i64 x.Series) := blk_cell hX 0
        have x1 : w2.cell? ⟨X, 1, none⟩ = some (.int .i64 x.Sign) := blk_cell hX 1
        have x2 : w2.cell? ⟨X, 2, none⟩ = some (.int .i64 x.Ratio) := blk_cell hX 2
        clear hX
        refine wp_region_plan (fun u => u.cell? ⟨X, 0, none⟩ = some (.int .i64 x.Series) ∧ u.cell? ⟨X, 1, none⟩ = some (.int .i64 x.Sign) ∧ u.cell? ⟨X, 2, none⟩ = some (.int .i64 x.Ratio) ∧ u.cell? (bd.add k) = some (.int .i64 p)) [(0, false), (1, false), (2, false), (3, false), (4, false), (5, true), (6, false), (7, false), (8, false), (9, false), (10, false)] (by kernel_rfl) (by kernel_rfl) (fun _ _ _ _ _ h => h) (⟨x0, x1, x2, p0'⟩) ?_
        simp only [planOps, List.getElem?_toArray, List.getElem?_cons_succ, List.getElem?_cons_zero]
        repeat (first
          | (refine plan_step (by rfl) ?_; apply Exists.intro; refine ⟨fun x hSx => ?_, ?_⟩; ((try dsimp only at hSx); go_simp; (try rw [if_neg (by omega)]); (try with_reducible rfl)); (simp only [Act.put, List.setIfInBounds_toArray, List.set_cons_zero, List.set_cons_succ]))
          | (refine plan_skip (by rfl) ?_; (simp only [Act.put, List.setIfInBounds_toArray, List.set_cons_zero, List.set_cons_succ])))
        refine plan_run (by rfl) (fun K hK => ?_)
        go_simp
        refine (HPC.out _).mono ?_
        rintro e w3 ⟨rfl, hf3⟩
        have hf4 := hfx.drew.trans' hf3
        have h23 := (Fr.refl no w2).drew.trans' hf3
        have hS3 : w3.cell? ⟨X, 0, none⟩ = some (.int .i64 x.Series) ∧ w3.cell? ⟨X, 1, none⟩ = some (.int .i64 x.Sign) ∧ w3.cell? ⟨X, 2, none⟩ = some (.int .i64 x.Ratio) ∧ w3.cell? (bd.add k) = some (.int .i64 p) := ⟨h23.cell x0 (fun h => h), h23.cell x1 (fun h => h), h23.cell x2 (fun h => h), h23.cell p0' (fun h => h)⟩
        clear h23 x0 x1 x2 p0' hfx hf3
        cases hb1 : i64B (x.Sign * x.Ratio * p) with
        | false =>
          have hv2 := HV2.out
          rw [if_pos hb1] at hv2
          subst hv2
          rw [if_neg (by decide)]
          clear HV2 hb1
          dsimp only
          refine hK.out (fun u => True) _ _ (hS3) (trivial) ?_
          clear hK K
          try simp only [Act.put, List.setIfInBounds_toArray, List.set_cons_zero, List.set_cons_succ]
          repeat (first
            | (refine plan_step (by rfl) ?_; apply Exists.intro; refine ⟨fun x hSx => ?_, ?_⟩; ((try dsimp only at hSx); go_simp; (try rw [if_neg (by omega)]); (try with_reducible rfl)); (simp only [Act.put, List.setIfInBounds_toArray, List.set_cons_zero, List.set_cons_succ]))
            | (refine plan_skip (by rfl) ?_; (simp only [Act.put, List.setIfInBounds_toArray, List.set_cons_zero, List.set_cons_succ])))
          refine plan_done ?_
          clear hS3
          go_wp2
          go_ret2
          exact ⟨rfl, hf4⟩
        | true =>
          have hv2 := HV2.out
          rw [if_neg (by simp [hb1])] at hv2
          rw [if_pos rfl]
          obtain ⟨n, hn⟩ : ∃ n, x.Sign * x.Ratio * p = n := ⟨_, rfl⟩
          rw [hn] at hv2 hb1 ⊢
          obtain ⟨n0, n1⟩ := i64B_t.1 hb1
          have hac := fun W => add_c s n hs0 hs1 n0 n1 W
          unfold addF at hac
          have HAC := Lib.hid hac
          have HV3 := Lib.hid hv2
          clear HV2 hb1 hn hv2 hac
          dsimp only
          refine hK.out (fun u => True) _ _ (hS3) (trivial) ?_
          clear hK K
          try simp only [Act.put, List.setIfInBounds_toArray, List.set_cons_zero, List.set_cons_succ]
          repeat (first
            | (refine plan_step (by rfl) ?_; apply Exists.intro; refine ⟨fun x hSx => ?_, ?_⟩; ((try dsimp only at hSx); go_simp; (try rw [if_neg (by omega)]); (try with_reducible rfl)); (simp only [Act.put, List.setIfInBounds_toArray, List.set_cons_zero, List.set_cons_succ]))
            | (refine plan_skip (by rfl) ?_; (simp only [Act.put, List.setIfInBounds_toArray, List.set_cons_zero, List.set_cons_succ])))
          refine plan_done ?_
          clear hS3
          go_wp2_with fail
          refine (HAC.out _).mono ?_
          rintro e w4 ⟨rfl, hf5⟩
          cases hb2 : i64B (s + n) with
          | false =>
            have hv2 := HV3.out
            rw [if_pos hb2] at hv2
            subst hv2
            rw [if_neg (by decide)]
            clear HV3 hb2
            dsimp only
            go_wp2
            go_ret2
            exact ⟨rfl, hf4.trans' hf5⟩
          | true =>
            have hv2 := HV3.out
            rw [if_neg (by simp [hb2])] at hv2
            rw [if_pos rfl]
            obtain ⟨z, hz⟩ : ∃ z, s + n = z := ⟨_, rfl⟩
            rw [hz] at hv2 hb2 ⊢
            obtain ⟨z0, z1⟩ := i64B_t.1 hb2
            have HV4 := Lib.hid hv2
            clear HV3 hb2 hz hv2
            dsimp only
            go_wp2
            go_roundg (l.length - (k + 1))
            case measure => omega
            case rel => exact ⟨k + 1, z, by omega, by go_num, rfl, z0, z1, HV4, hf4.trans' hf5⟩
      · obtain rfl : k = l.length := by omega
        have hv2 := hv.out
        rw [Nat.sub_self, netFrom] at hv2
        subst hv2
        clear hv
        go_wp2
        go_ret2
        exact ⟨rfl, hf⟩
end Go.Proofs.YtdgeakojdafipaaGreatDoor.Legs

/-! Contract of legs.Text. -/
set_option linter.unusedVariables false
set_option linter.unusedSimpArgs false
namespace Go.Proofs.YtdgeakojdafipaaGreatDoor.Legs
open Go.RowKit Go.Proofs.YtdgeakojdafipaaGreatDoorW.PrintWords Go.Proofs.YtdgeakojdafipaaGreatDoor.B Go.Proofs.YtdgeakojdafipaaGreatDoor.Num

theorem infoS : (Tryz.prog.info? 9).map (fun i => (i.zero, i.size, i.bytes)) = some (some (.string ⟨#[]⟩), 1, 16) := by kernel_rfl
def numB (n : Int) : ByteArray := ⟨(Lib.itoa n).toArray⟩
/-- num.Text tells n's text, in w and behind it. -/
def TxAt (w : World) (n : Int) : Prop := ∀ W, Fr no w W → Calls Tryz.prog 34 #[.int .i64 n] W fun e w' => e = .returned (.string (numB n)) ∧ Fr no W w'
theorem itoa_nat (i : Nat) : Lib.itoa (i : Int) = Lib.decDigits i := by
  unfold Lib.itoa
  rw [if_neg (by omega)]
  simp
theorem tx_small (w : World) (n : Int) (i : Nat) (h : n = (i : Int)) (hi : i < 100) : TxAt w n := fun W _ => by
  subst h
  have e : numB (i : Int) = ⟨(Lib.decDigits i).toArray⟩ := by unfold numB; rw [itoa_nat]
  rw [e]
  clear e
  go_enter Tryz.func34, Tryz.ntmps34
  go_wp2_with fail
  refine (Tryz.strconv_FormatInt_10_small i hi _).mono ?_
  rintro e w' ⟨rfl, rfl⟩
  dsimp only
  go_wp2
  go_ret
  exact ⟨rfl, Fr.refl _ _⟩
def signB (s : Int) : ByteArray := if s < 0 then ⟨#[45]⟩ else ⟨#[43]⟩
def legT (x : Leg) : ByteArray := signB x.Sign ++ numB x.Ratio ++ ⟨#[42]⟩ ++ numB x.Series
def txt (l : List Leg) : List UInt8 := Lib.join ((l.map legT).map (·.data.toList)) [32]
theorem signB_size (s : Int) : (signB s).size = 1 := by unfold signB; split <;> rfl
set_option maxRecDepth 100000 in
set_option maxHeartbeats 4000000 in
theorem text_c (A : Option Addr) (c : Nat) (l : List Leg) (w : World) (hC : kLeg.C w A l.length l) (h0 : 0 < l.length) (h6 : l.length ≤ 20) (ht : ∀ x ∈ l, (TxAt w x.Ratio ∧ TxAt w x.Series) ∧ ((numB x.Ratio).size ≤ 30 ∧ (numB x.Series).size ≤ 30)) (hj : (txt l).length ≤ 10000) :
    Calls Tryz.prog 13 #[.slice A l.length c] w fun e w' => e = .returned (.string ⟨(txt l).toArray⟩) ∧ Fr no w w' := by
  have HK := Lib.hid (And.intro hC (And.intro ht hj))
  clear hC ht hj
  go_enter Tryz.func13, Tryz.ntmps13
  go_wp2
  go_loopg [3, 9] l.length (fun q v3 v9 wr => ∃ k : Nat, k + q = l.length ∧ v9 = .int .i64 k ∧ Hid (Kd.string.R 9 wr 0 (since w) v3 ((l.take k).map legT)) ∧ Fr no w wr)
  case atStart => exact ⟨0, by omega, rfl, by show Kd.R _ _ _ _ _ _ _; simpa using Kd.R_nil _ _ _ _ _, Fr.refl _ _⟩
  case round =>
    obtain ⟨k, hk, rfl, hR, hf⟩ := hrel
    by_cases hlt : k < l.length
    · obtain ⟨ad, rfl, c0, c1, c2⟩ := lg_at (C_fr HK.out.1 hf) k hlt
      obtain ⟨⟨t1, t2⟩, z1, z2⟩ := HK.out.2.1 _ (List.getElem_mem hlt)
      have hsn : (l.take (k + 1)).map legT = (l.take k).map legT ++ [legT (lg l k)] := by
        rw [List.take_succ_eq_append_getElem hlt, List.map_append, lg_lt hlt]
        rfl
      rw [← lg_lt hlt] at t1 t2 z1 z2
      have HSN := Lib.hid hsn
      have hgl : ((l.take k).map legT).length ≤ 1000 := by rw [List.length_map, List.length_take]; omega
      clear hsn
      generalize lg l k = x at *
      obtain ⟨G, hG⟩ : ∃ x, (l.take k).map legT = x := ⟨_, rfl⟩
      rw [hG] at hR hgl HSN
      clear hG
      obtain ⟨b1, hb1⟩ : ∃ b, numB x.Ratio = b := ⟨_, rfl⟩
      obtain ⟨b2, hb2⟩ : ∃ b, numB x.Series = b := ⟨_, rfl⟩
      unfold legT at HSN
      unfold TxAt at t1 t2
      rw [hb1] at t1 z1 HSN
      rw [hb2] at t2 z2 HSN
      have T1 := Lib.hid t1
      have T2 := Lib.hid t2
      obtain ⟨A1, cc, rfl⟩ := Kd.R_slice hR.out
      have hs : (decide (x.Sign < 0) = true ∧ signB x.Sign = ⟨#[45]⟩) ∨ (decide (x.Sign < 0) = false ∧ signB x.Sign = ⟨#[43]⟩) := by
        unfold signB
        by_cases h : x.Sign < 0
        · exact .inl ⟨by simp [h], if_pos h⟩
        · exact .inr ⟨by simp [h], if_neg h⟩
      clear t1 t2 hb1 hb2
      have hX := blk_new wr (.cells #[.int .i64 x.Series, .int .i64 x.Sign, .int .i64 x.Ratio] 46)
      have hfx := hf.alloc (.cells #[.int .i64 x.Series, .int .i64 x.Sign, .int .i64 x.Ratio] 46)
      have HRx : Hid (Kd.string.R 9 (wr.alloc (.cells #[.int .i64 x.Series, .int .i64 x.Sign, .int .i64 x.Ratio] 46)) 0 (since w) (.slice A1 G.length cc) G) := Kd.R_alloc hR.out _
      have HX := Lib.hid hX
      have HFX := Lib.hid hfx
      have HF := Lib.hid hf
      clear hX hfx hR hf
      rcases hs with ⟨e1, e2⟩ | ⟨e1, e2⟩
      all_goals
        rw [e2] at HSN
        clear e2
        go_wp2_with fail
        have hX := HX.out
        generalize wr.alloc _ = w2 at *
        generalize wr.heap.size = X at *
        have HKK : Hid (∀ u, Fr no w2 u → u.cell? ⟨X, 2, none⟩ = some (.int .i64 x.Ratio) ∧ u.cell? ⟨X, 0, none⟩ = some (.int .i64 x.Series)) := fun u h => ⟨blk_cell (h.heap hX (fun h => h)) 2, blk_cell (h.heap hX (fun h => h)) 0⟩
        clear hX c0 c1 c2
        have hfd := (Fr.refl no w2).drew
        refine wp_region_plan (fun u => u.cell? ⟨X, 2, none⟩ = some (.int .i64 x.Ratio) ∧ u.cell? ⟨X, 0, none⟩ = some (.int .i64 x.Series)) [(0, false), (1, false), (2, false), (3, false), (7, false), (8, false), (4, true), (5, false), (6, false), (9, true), (10, false), (11, true), (12, true), (13, false)] (by kernel_rfl) (by kernel_rfl) (fun _ _ _ _ _ h => h) (HKK.out _ hfd) ?_
        simp only [planOps, List.getElem?_toArray, List.getElem?_cons_succ, List.getElem?_cons_zero]
        repeat (first
          | (refine plan_step (by rfl) ?_; apply Exists.intro; refine ⟨fun x hSx => ?_, ?_⟩; ((try dsimp only at hSx); go_simp; (try rw [if_neg (by omega)]); (try with_reducible rfl)); (simp only [Act.put, List.setIfInBounds_toArray, List.set_cons_zero, List.set_cons_succ]))
          | (refine plan_skip (by rfl) ?_; (simp only [Act.put, List.setIfInBounds_toArray, List.set_cons_zero, List.set_cons_succ])))
        refine plan_run (by rfl) (fun K hK => ?_)
        go_simp
        refine (T1.out _ (HFX.out.trans' hfd)).mono ?_
        rintro e w3 ⟨rfl, g3⟩
        have hf3 := hfd.trans' g3
        have q3 := HKK.out _ hf3
        clear g3
        dsimp only
        refine hK.out (fun u => True) _ _ (q3) (trivial) ?_
        clear hK K
        try simp only [Act.put, List.setIfInBounds_toArray, List.set_cons_zero, List.set_cons_succ]
        repeat (first
          | (refine plan_step (by rfl) ?_; apply Exists.intro; refine ⟨fun x hSx => ?_, ?_⟩; ((try dsimp only at hSx); go_simp; (try rw [if_neg (by omega)]); (try with_reducible rfl)); (simp only [Act.put, List.setIfInBounds_toArray, List.set_cons_zero, List.set_cons_succ]))
          | (refine plan_skip (by rfl) ?_; (simp only [Act.put, List.setIfInBounds_toArray, List.set_cons_zero, List.set_cons_succ])))
        refine plan_run (by rfl) (fun K hK => ?_)
        go_simp
        refine (T2.out _ (HFX.out.trans' hf3)).mono ?_
        rintro e w4 ⟨rfl, g4⟩
        have hf4 := hf3.trans' g4
        have q4 := HKK.out _ hf4
        clear g4
        dsimp only
        refine hK.out (fun u => True) _ _ (⟨q4, trivial⟩) (trivial) ?_
        clear hK K
        try simp only [Act.put, List.setIfInBounds_toArray, List.set_cons_zero, List.set_cons_succ]
        repeat (first
          | (refine plan_step (by rfl) ?_; apply Exists.intro; refine ⟨fun x hSx => ?_, ?_⟩; ((try dsimp only at hSx); go_simp; (try rw [if_neg (by omega)]); (try with_reducible rfl)); (simp only [Act.put, List.setIfInBounds_toArray, List.set_cons_zero, List.set_cons_succ]))
          | (refine plan_skip (by rfl) ?_; (simp only [Act.put, List.setIfInBounds_toArray, List.set_cons_zero, List.set_cons_succ])))
        refine plan_run (by rfl) (fun K hK => ?_)
        go_simp
        have hq5 := fun o => HKK.out _ (hf4.alloc o)
        refine hK.out (fun u => True) _ _ (⟨⟨hq5 _, trivial⟩, trivial⟩) (trivial) ?_
        clear hK K
        try simp only [Act.put, List.setIfInBounds_toArray, List.set_cons_zero, List.set_cons_succ]
        refine plan_if (fun K hK => ?_)
        refine Kd.R_append_step Kd.string (w0 := w4) 0 (by rfl) (.tmp 16) (.tmp 27) 71 9 (.string ⟨#[]⟩) 16 rfl Tryz.underlying71 infoS rfl (by decide) (by omega) _ G _ [.string _] (since w) (fun _ => False) rfl rfl rfl (fun _ hk => hk.elim) (fun b hb => Nat.le_trans (HFX.out.trans' hf4).size hb) (R_fr HRx.out hf4 (fun _ _ h => h)) (Below.refl 0 _) (Nat.zero_le _) (by omega) ?_
        intro v1 w8 ho hb1 hg hat
        clear hat hb1
        have hF8 := (HFX.out.trans' hf4).new' ((Fr.of_grown hg (fun k hk _ => HRx.out.1 k hk)).mono (fun _ h _ => h))
        have hX4 := hf4.heap HX.out (fun h => h)
        have hX8 := (hg.block X (blk_lt hX4) (Kd.R_ne (R_fr HRx.out hf4 (fun _ _ h => h)) hX4 (by decide))).trans hX4
        obtain ⟨A2, c2, rfl⟩ := Kd.R_slice ho
        rw [List.length_append] at ho
        rw [← HSN.out] at ho
        have HO := Lib.hid ho
        have q8 : w8.cell? ⟨X, 2, none⟩ = some (.int .i64 x.Ratio) ∧ w8.cell? ⟨X, 0, none⟩ = some (.int .i64 x.Series) := ⟨blk_cell hX8 2, blk_cell hX8 0⟩
        clear hg ho hX4 hX8
        refine hK.out (fun u => True) _ _ (⟨⟨⟨q8, trivial⟩, trivial⟩, trivial⟩) (trivial) ?_
        clear hK K
        try simp only [Act.put, List.setIfInBounds_toArray, List.set_cons_zero, List.set_cons_succ]
        repeat (first
          | (refine plan_step (by rfl) ?_; apply Exists.intro; refine ⟨fun x hSx => ?_, ?_⟩; ((try dsimp only at hSx); go_simp; (try rw [if_neg (by omega)]); (try with_reducible rfl)); (simp only [Act.put, List.setIfInBounds_toArray, List.set_cons_zero, List.set_cons_succ]))
          | (refine plan_skip (by rfl) ?_; (simp only [Act.put, List.setIfInBounds_toArray, List.set_cons_zero, List.set_cons_succ])))
        refine plan_done ?_
        clear q3 q4 hq5 q8 hf3 hf4 hfd
        go_wp2
        go_roundg (l.length - (k + 1))
        case measure => omega
        case rel => exact ⟨k + 1, by omega, by go_num, HO, hF8⟩
    · obtain rfl : k = l.length := by omega
      have hR2 := hR.out
      rw [List.take_length] at hR2
      obtain ⟨g, cm, rfl, hcm, hgl, _⟩ := Kd.R_form hR2 (by rw [List.length_map]; exact h0)
      have hCS := (Kd.R_reads' hR2).2.2
      have hcap := (Kd.R_reads' hR2).2.1
      have hcell : ∀ (j : Nat) (x : ByteArray), (l.map legT)[j]? = some x → wr.cell? ⟨g, 0 + j, none⟩ = some (.string x) := fun j x hj => by
        obtain ⟨_, _, h3⟩ := hCS
        obtain ⟨ad, e1, h4⟩ := h3 (by rw [List.length_map]; exact h0)
        obtain rfl := (Option.some.inj e1).symm
        obtain ⟨cc, k1, k2, k3⟩ := h4 j x hj
        have k2' : cc = [.string x] := k2
        subst k2'
        have k4 := k3 0 (.string x) rfl
        have e : Addr.add ⟨g, 0, none⟩ (j * Kd.string.sz + 0) = ⟨g, 0 + j, none⟩ := by
          rw [show Kd.string.sz = 1 from rfl, Nat.mul_one, Nat.add_zero]
          unfold Addr.add
          by_cases h0 : j = 0
          · subst h0; simp
          · simp [h0]
        rw [e] at k4
        exact k4
      have hbk : g < wr.heap.size := World.block_lt_of_cell? wr ⟨g, 0 + 0, none⟩ (hcell 0 _ (List.getElem?_eq_getElem (by rw [List.length_map]; exact h0)))
      have hJ0 := (Tryz.strings_Join g 0 cm (l.map legT) ⟨#[32]⟩ wr hcell hbk (by rw [List.length_map]; omega) hcap (by have := HK.out.2.2; unfold txt at this; exact Nat.le_trans this (by omega)))
      rw [List.length_map] at hJ0
      have hJoin := Lib.hid hJ0
      clear hcell hCS hR hR2 hJ0
      rw [List.length_map]
      go_wp2_with fail
      (with_reducible refine (hJoin.out).mono ?_)
      rintro e w1 ⟨rfl, hb⟩
      dsimp only
      go_wp2
      go_ret
      exact ⟨rfl, hf.trans' (Fr.of_below hb)⟩
end Go.Proofs.YtdgeakojdafipaaGreatDoor.Legs

/-! The law's own check of legs. -/
set_option linter.unusedVariables false
set_option linter.unusedSimpArgs false
namespace Go.Proofs.YtdgeakojdafipaaGreatDoor.Legs
open Go.RowKit Go.Proofs.YtdgeakojdafipaaGreatDoorW.PrintWords Go.Proofs.YtdgeakojdafipaaGreatDoor.B Go.Proofs.YtdgeakojdafipaaGreatDoor.Num

def kn0 : List Leg := [⟨5, 1, 2⟩, ⟨3, -1, 4⟩]
def kn1 : List Leg := [⟨3, 1, 2⟩, ⟨5, -1, 1⟩]
theorem kn0_good : Good kn0 where
  lo := by decide
  hi := by decide
  ok := by intro x hx; simp [kn0] at hx; rcases hx with rfl | rfl <;> rfl
  nd := by simp [kn0]
theorem kn0_srt : srt kn0 = [⟨3, -1, 4⟩, ⟨5, 1, 2⟩] := srt_eq kn0_good.nd (List.Perm.swap _ _ _) (by simp)
theorem kn0_g : allG [⟨3, -1, 4⟩, ⟨5, 1, 2⟩] = 2 := by kernel_rfl
theorem kn0_canon : canonF kn0 = (kn1, true) := by
  rw [canon_base]
  unfold base
  rw [kn0_srt, kn0_g]
  kernel_rfl
theorem kn1_good : Good kn1 := by have := good_canon kn0_good; rwa [kn0_canon] at this
theorem kn1_net : netF kn1 [10, 3] = (17, 0) := by
  unfold netF
  rw [if_pos ⟨good_iff.2 kn1_good, rfl⟩]
  rfl
theorem kn1_txt : txt kn1 = [43, 50, 42, 51, 32, 45, 49, 42, 53] := by
  have h1 : Lib.itoa 1 = [49] := by rw [show (1 : Int) = ((1 : Nat) : Int) from rfl, itoa_nat, Lib.decDigits]; rfl
  have h2 : Lib.itoa 2 = [50] := by rw [show (2 : Int) = ((2 : Nat) : Int) from rfl, itoa_nat, Lib.decDigits]; rfl
  have h3 : Lib.itoa 3 = [51] := by rw [show (3 : Int) = ((3 : Nat) : Int) from rfl, itoa_nat, Lib.decDigits]; rfl
  have h5 : Lib.itoa 5 = [53] := by rw [show (5 : Int) = ((5 : Nat) : Int) from rfl, itoa_nat, Lib.decDigits]; rfl
  simp only [txt, kn1, List.map_cons, List.map_nil, legT, numB, h1, h2, h3, h5]
  rfl
theorem numB_small (i : Nat) (hi : i < 100) : (numB (i : Int)).size ≤ 30 := by
  show ((Lib.itoa (i : Int)).toArray).size ≤ 30
  rw [itoa_nat]
  by_cases h : i < 10
  · rw [Lib.decDigits, dif_pos h]; simp
  · rw [Lib.decDigits, dif_neg h, Lib.decDigits, dif_pos (by omega)]; simp
theorem kn_pr (k : Nat) (hk : k < ([10, 3] : List Int).length) : -9223372036854775808 ≤ pr [10, 3] k ∧ pr [10, 3] k ≤ 9223372036854775807 := by
  have : k = 0 ∨ k = 1 := by simp at hk; omega
  rcases this with rfl | rfl <;> decide
theorem kn0_take : wrong (kn0.take 1) = some (1, 1) := rfl
set_option maxRecDepth 100000 in
set_option maxHeartbeats 4000000 in
theorem known_c (w : World) : Calls Tryz.prog 4 #[] w fun e w' => e = .returned (.bool true) ∧ Fr no w w' := by
  have hX := blk_new w (.cells #[.int .i64 5, .int .i64 1, .int .i64 2, .int .i64 3, .int .i64 (-1), .int .i64 4] 46)
  have hfa := (Fr.refl no w).alloc (.cells #[.int .i64 5, .int .i64 1, .int .i64 2, .int .i64 3, .int .i64 (-1), .int .i64 4] 46)
  go_enter Tryz.func4, Tryz.ntmps4
  go_wp2_with fail
  generalize w.alloc _ = w1 at *
  generalize w.heap.size = X at *
  have hC0 : kLeg.C w1 (some ⟨X, 0, none⟩) kn0.length kn0 := C_blk hX kn0 (by decide) (by decide) (reps_cells _ (fun x => kLeg_mk _ x) kn0)
  have HC0 := Lib.hid hC0
  clear hX hC0
  have h1 := canon_yes (some ⟨X, 0, none⟩) 2 kn0 w1 HC0.out (by decide) kn0_good
  rw [kn0_canon] at h1
  refine h1.mono ?_
  clear h1
  rintro e w2 ⟨⟨v, rfl, hv⟩, hf2⟩
  have hfb := hfa.trans' hf2
  obtain ⟨A, c, rfl, hcc, hRv⟩ := hv
  have HRV := Lib.hid hRv
  have HFB := Lib.hid hfb
  clear hfa hfb hRv
  dsimp only
  go_wp2_with fail
  have hY := blk_new w2 (.cells #[.int .i64 10, .int .i64 3] 2)
  have hfy := HFB.out.alloc (.cells #[.int .i64 10, .int .i64 3] 2)
  have hR3 := R_fr HRV.out ((Fr.refl no w2).alloc (.cells #[.int .i64 10, .int .i64 3] 2)) (fun _ _ h => h)
  have hCy : (Kd.int .i64).C (w2.alloc (.cells #[.int .i64 10, .int .i64 3] 2)) (some ⟨w2.heap.size, 0, none⟩) 2 [10, 3] := C_blk hY [10, 3] (by decide) (by decide) (Kd.reps_scalar (enc := Value.int .i64) [10, 3])
  have h1 := net_c A kn1.length kn1 (some ⟨w2.heap.size, 0, none⟩) 2 [10, 3] _ (Kd.R_reads' hR3).2.2 (Nat.le_refl _) hCy (by decide) kn_pr
  rw [kn1_net] at h1
  refine h1.mono ?_
  clear h1
  rintro e w3 ⟨he, hf3⟩
  unfold NetOf at he
  subst he
  have hf3' := hfy.trans' hf3
  have hR4 := R_fr hR3 hf3 (fun _ _ h => h)
  have hf13 : Fr no w1 w3 := hf2.trans' (((Fr.refl no w2).alloc _).trans' hf3)
  have HR4 := Lib.hid hR4
  have HF4 := Lib.hid hf3'
  have HF13 := Lib.hid hf13
  clear hY hfy hR3 hCy hf3 hR4 hf3' hf13 HFB HRV hf2
  dsimp only
  go_wp2_with fail
  have h1 := canon_no (some ⟨X, 0, none⟩) 2 (kn0.take 1) w3 (C_take (C_fr HC0.out HF13.out) 1 (by decide)) (by decide) 1 1 kn0_take
  refine h1.mono ?_
  clear h1
  rintro e w4 ⟨⟨F, rfl, hF⟩, hf4⟩
  clear hF
  have hR5 := R_fr HR4.out hf4 (fun _ _ h => h)
  have HR5 := Lib.hid hR5
  have HF5 := Lib.hid (HF4.out.trans' hf4)
  have HF14 := Lib.hid (HF13.out.trans' hf4)
  clear hR5 HR4 HF4 HF13 hf4
  obtain ⟨g, cm, hgv, _, _, _⟩ := Kd.R_form HR5.out (by decide)
  injection hgv with hA _ _
  subst hA
  obtain ⟨c0, c1, c2, _⟩ := lg_cells HR5.out 0 (by decide)
  have k0 : w4.cell? ⟨g, 0, none⟩ = some (.int .i64 3) := c0
  have k1 : w4.cell? ⟨g, 1, none⟩ = some (.int .i64 1) := c1
  have k2 : w4.cell? ⟨g, 2, none⟩ = some (.int .i64 2) := c2
  clear c0 c1 c2
  dsimp only
  have hlen : kn1.length = 2 := rfl
  rw [hlen]
  clear hlen
  go_wp2_with fail
  have hRC := (Kd.R_reads' HR5.out).2.2
  have h1 := text_c (some ⟨g, 0, none⟩) 2 kn1 w4 hRC (by decide) (by decide) (fun x hx => by
    simp [kn1] at hx
    rcases hx with rfl | rfl
    · exact ⟨⟨tx_small _ _ 2 rfl (by decide), tx_small _ _ 3 rfl (by decide)⟩, numB_small 2 (by decide), numB_small 3 (by decide)⟩
    · exact ⟨⟨tx_small _ _ 1 rfl (by decide), tx_small _ _ 5 rfl (by decide)⟩, numB_small 1 (by decide), numB_small 5 (by decide)⟩) (by rw [kn1_txt]; decide)
  rw [kn1_txt] at h1
  refine h1.mono ?_
  clear h1 hRC
  rintro e w5 ⟨rfl, hf5⟩
  dsimp only
  go_wp2_with fail
  have HR6 := Lib.hid (R_fr HR5.out hf5 (fun _ _ h => h))
  have HF6 := Lib.hid (HF5.out.trans' hf5)
  have HF16 := Lib.hid (HF14.out.trans' hf5)
  clear HR5 HF5 HF14 hf5 k0 k1 k2
  have h1 := turned_c (some ⟨g, 0, none⟩) 2 kn1 w5 (Kd.R_reads' HR6.out).2.2 (by decide) (by decide)
  refine h1.mono ?_
  clear h1
  rintro e w6 ⟨⟨v, rfl, hv⟩, hf6⟩
  obtain ⟨A1, rfl, hC1⟩ := hv.reads
  have htl : (turnL kn1).length = 2 := rfl
  rw [htl] at hC1 ⊢
  clear hv
  dsimp only
  go_wp2_with fail
  have h1 := turned_c A1 2 (turnL kn1) w6 hC1 (by decide) (by decide)
  rw [htl] at h1
  refine h1.mono ?_
  clear h1
  rintro e w7 ⟨⟨v, rfl, hv⟩, hf7⟩
  rw [turnL_turnL kn1_good.ok] at hv
  obtain ⟨A2, rfl, hC2⟩ := hv.reads
  have hkl : kn1.length = 2 := rfl
  clear hv hC1
  dsimp only
  rw [hkl]
  go_wp2_with fail
  have HR8 := R_fr HR6.out (hf6.trans' hf7) (fun _ _ h => h)
  have h1 := same_c A2 (some ⟨g, 0, none⟩) 2 2 kn1 kn1 rfl (by decide) w7 hC2 (Kd.R_reads' HR8).2.2 (by decide) (by decide)
  refine h1.mono ?_
  clear h1
  rintro e w8 ⟨rfl, hf8⟩
  dsimp only
  go_wp2_with fail
  have HF8 := Lib.hid (HF6.out.trans' ((hf6.trans' hf7).trans' hf8))
  have h1 := check_c (some ⟨X, 0, none⟩) 2 kn0 w8 (C_fr HC0.out (HF16.out.trans' ((hf6.trans' hf7).trans' hf8))) (by decide)
  refine h1.mono ?_
  clear h1 HR8 hC2 hf8 hf7 hf6
  rintro e w9 ⟨⟨v, rfl, hA⟩, hf9⟩
  obtain rfl := hA.1 (good_iff.2 kn0_good)
  clear hA
  dsimp only
  go_wp2
  go_ret
  exact ⟨rfl, HF8.out.trans' hf9⟩
end Go.Proofs.YtdgeakojdafipaaGreatDoor.Legs
