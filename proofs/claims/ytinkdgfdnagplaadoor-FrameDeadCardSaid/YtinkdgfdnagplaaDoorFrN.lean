import Derived.Test.YtinkdgfdnagplaaDoorFrW
import Derived.Lib.EndianBits
/-! crc.Open with its own row; the state of a stream; next. -/
set_option linter.unusedVariables false
set_option linter.unusedSimpArgs false
namespace Go.Proofs.YtinkdgfdnagplaaDoor.Frame
open Go.RowKit Go.Proofs.YtinkdgfdnagplaaDoorW.PrintWords Go.Proofs.YtinkdgfdnagplaaDoor.B Go.Proofs.YtinkdgfdnagplaaDoor.Crc Go.Proofs.YtinkdgfdnagplaaDoor.Err

set_option maxRecDepth 100000 in
set_option maxHeartbeats 2000000 in
theorem open_r (A : Option Addr) (c : Nat) (b t : List Int) (ht : t.length = 4) (hb : Bytes [b]) (hty : ∀ x ∈ t, 0 ≤ x ∧ x < 256) (hc : (b ++ t).length ≤ c) (hcm : c ≤ 9223372036854775807) (w : World) (hC : (Kd.int .u8).C w A (b ++ t).length (b ++ t)) (h : t = le4 (addF 0 b)) :
    Calls Tryd.prog 38 #[.slice A (b ++ t).length c] w fun e w' => (∃ A' c', e = .returned (.tuple #[.slice A' b.length b.length, .nilIface]) ∧ (Kd.int .u8).R 5 w' 0 (since w) (.slice A' b.length c') b) ∧ Fr no w w' := by
  have HH := Lib.hid h
  clear h
  have hlen : (b ++ t).length = b.length + 4 := by rw [List.length_append, ht]
  have hb1 := (hb b (by simp)).1
  have hbx := (hb b (by simp)).2
  have htk : (Kd.int .u8).C w A b.length b := by
    have h := Kd.C_take hC (m := b.length) (by rw [hlen]; omega)
    rw [List.take_left] at h
    exact h
  have hse := seal_c A c b hb (by omega) w htk
  have HSE := Lib.hid hse
  have hal : Hid (∀ x ∈ b ++ le4 (addF 0 b), 0 ≤ x ∧ x < 256) := fun x hx => by
    rcases List.mem_append.1 hx with h | h
    · exact hbx x h
    · exact le4_bytes (addF_lt 0 b) x h
  have hbt : Hid (∀ x ∈ b ++ t, 0 ≤ x ∧ x < 256) := fun x hx => by
    rcases List.mem_append.1 hx with h | h
    · exact hbx x h
    · exact hty x h
  have hiff : Hid (decide (b ++ le4 (addF 0 b) = b ++ t) = decide (t = le4 (addF 0 b))) := by
    show _ = _
    rw [Bool.eq_iff_iff]
    simp only [decide_eq_true_eq, List.append_cancel_left_eq]
    exact ⟨fun h => h.symm, fun h => h.symm⟩
  have hll : Hid ((b ++ le4 (addF 0 b)).length = b.length + 4) := by show _ = _; rw [List.length_append]; rfl
  obtain ⟨N, hN⟩ : ∃ N, (b ++ t).length = N := ⟨_, rfl⟩
  have HN := Lib.hid hN
  rw [hN] at hlen hc hC ⊢
  subst hlen
  have hd : decide ((((b.length + 4 : Nat)) : Int) < 4) = false := by simp; omega
  have hw : (((b.length + 4 : Nat)) : Int) - 4 = (b.length : Int) := by omega
  have htn : ∀ W, Fr no w W → (Kd.int .u8).C W A b.length b := fun W h => C_fr htk h
  have HTN := Lib.hid htn
  clear hN hse hbx hty htn
  go_enter Tryd.func38, Tryd.ntmps38
  go_wp2_with fail
  refine HSE.out.mono ?_
  rintro e w1 ⟨⟨A1, c1, rfl, hR⟩, hf⟩
  have h1 := (Kd.R_reads' hR).2.2
  have h2 : (Kd.int .u8).C w1 A (b ++ t).length (b ++ t) := by rw [HN.out]; exact C_fr hC hf
  have heq := equal_c A1 A c1 c (b ++ le4 (addF 0 b)) (b ++ t) w1 h1 h2 hal.out hbt.out
  rw [hll.out, HN.out, hiff.out] at heq
  have HEQ := Lib.hid heq
  clear heq h1 h2 hR hal hbt hiff HSE hC htk hll HN
  dsimp only
  go_wp2_with fail
  have hdt : decide (t = le4 (addF 0 b)) = true := by simpa using HH.out
  refine HEQ.out.mono ?_
  rintro e w2 ⟨rfl, rfl⟩
  rw [hdt]
  clear hdt HH HEQ
  dsimp only
  go_wp2_with fail
  refine (clone_c A c b w1 (HTN.out _ hf) (by omega) (by omega)).mono ?_
  rintro e w3 ⟨v, rfl, hR3, hf3⟩
  obtain ⟨A3, c3, rfl⟩ := Kd.R_slice hR3
  obtain ⟨k1, k2⟩ := R_cap hR3
  have HR3 := Lib.hid (Kd.R_mono hR3 (fun k hk => Nat.le_trans hf.size hk : ∀ k, since w1 k → since w k))
  clear hR3
  dsimp only
  go_wp2_with fail
  refine (clipB_c A3 _ c3 k1 k2 _).mono ?_
  rintro e w4 ⟨rfl, rfl⟩
  dsimp only
  go_wp2
  go_ret2
  exact ⟨⟨A3, c3, rfl, HR3.out⟩, hf.trans' hf3⟩
/-- A stream at block S that holds h, told n, and is well. -/
def St (w : World) (S : Nat) (h : List Int) (n : Int) : Prop := ∃ v, w.heap[S]? = some (.cells #[v, .int .i64 n, .nilIface] 62 (0, 0)) ∧ (Kd.int .u8).R 5 w 0 (fun k => k ≠ S) v h
theorem St.fr {w w1 : World} {S : Nat} {h : List Int} {n : Int} (hs : St w S h n) (hf : Fr no w w1) : St w1 S h n := by
  obtain ⟨v, h1, h2⟩ := hs
  exact ⟨v, hf.heap h1 (fun h => h), R_fr h2 hf (fun _ _ h => h)⟩
theorem u8_at {w : World} {A : Option Addr} {h : List Int} (hC : (Kd.int .u8).C w A h.length h) (k : Nat) (hk : k < h.length) : ∃ ad, A = some ad ∧ w.cell? (ad.add k) = some (.int .u8 h[k]) := by
  obtain ⟨ad, hA, hc⟩ := hC.2.2 (by omega)
  obtain ⟨c, h1, h2, h3⟩ := hc k h[k] (by simp [hk])
  have h2' : c = [.int .u8 h[k]] := h2
  subst h2'
  have := h3 0 (.int .u8 h[k]) rfl
  rw [show k * (Kd.int .u8).sz + 0 = k by show k * 1 + 0 = k; omega] at this
  exact ⟨ad, hA, this⟩
set_option maxRecDepth 100000 in
set_option maxHeartbeats 4000000 in
theorem next_short (S : Nat) (h : List Int) (n : Int) (w : World) (hs : St w S h n) (hl : h.length < 2) :
    Calls Tryd.prog 24 #[.pointer (some ⟨S, 0, none⟩)] w fun e w' => e = .returned (.tuple #[.slice none 0 0, .bool false, .nilIface]) ∧ Fr no w w' := by
  obtain ⟨v, h1, h2⟩ := hs
  obtain ⟨A, c, rfl⟩ := Kd.R_slice h2
  have d1 : decide ((h.length : Int) < 2) = true := by simp; omega
  have k0 := blk_cell h1 0
  clear h1 h2
  go_enter Tryd.func24, Tryd.ntmps24
  go_wp2
  go_ret3
  exact ⟨rfl, Fr.refl _ _⟩
theorem or2 (m : Nat) (h : m < 65536) : bits .or .i64 ((m : Int) % 256) ((m : Int) / 256 * 256) = (m : Int) := by
  rw [bits_join_low .i64 63 (by decide) (fun n h0 h1 => IntWalk.i64_in _ (by omega)) 8 _ _ (by omega) (by omega) (by omega) (by omega) (by omega) (by omega)]
  omega
theorem hd_st {w : World} {S : Nat} {m : Nat} {x : List Int} {n : Int} (hs : St w S (hd2 m ++ x) n) : ∃ g c, w.heap[S]? = some (.cells #[.slice (some ⟨g, 0, none⟩) (x.length + 2) c, .int .i64 n, .nilIface] 62 (0, 0)) ∧ (Kd.int .u8).R 5 w 0 (fun k => k ≠ S) (.slice (some ⟨g, 0, none⟩) (x.length + 2) c) (hd2 m ++ x) ∧ w.cell? ⟨g, 0, none⟩ = some (.int .u8 ((m : Int) % 256)) ∧ w.cell? ⟨g, 1, none⟩ = some (.int .u8 ((m : Int) / 256)) ∧ x.length + 2 ≤ c ∧ c ≤ 9223372036854775807 ∧ g ≠ S := by
  obtain ⟨v, h1, h2⟩ := hs
  have hlen : (hd2 m ++ x).length = x.length + 2 := by simp [hd2]
  obtain ⟨g, c, rfl, _⟩ := Kd.R_form h2 (by omega)
  have hC := (Kd.R_reads' h2).2.2
  obtain ⟨_, e, c0⟩ := u8_at hC 0 (by omega)
  obtain rfl := Option.some.inj e
  obtain ⟨_, e, c1⟩ := u8_at hC 1 (by omega)
  obtain rfl := Option.some.inj e
  obtain ⟨h3, h4⟩ := R_cap h2
  rw [hlen] at h1 h2 h3
  exact ⟨g, c, h1, h2, c0, c1, h3, h4, h2.1 g rfl⟩
set_option maxRecDepth 100000 in
set_option maxHeartbeats 4000000 in
theorem next_part (S : Nat) (m : Nat) (x : List Int) (n : Int) (w : World) (hs : St w S (hd2 m ++ x) n) (hm : m ≤ 1024) (hl : x.length < m + 4) :
    Calls Tryd.prog 24 #[.pointer (some ⟨S, 0, none⟩)] w fun e w' => e = .returned (.tuple #[.slice none 0 0, .bool false, .nilIface]) ∧ Fr no w w' := by
  obtain ⟨g, c, h1, h2, c0, c1, h3, h4, _⟩ := hd_st hs
  have k0 := blk_cell h1 0
  obtain ⟨H, hH⟩ : ∃ H, x.length + 2 = H := ⟨_, rfl⟩
  rw [hH] at k0
  have d1 : decide ((H : Int) < 2) = false := by simp; omega
  have y0 : 0 < H := by omega
  have y1 : (1 : Int) < (H : Int) := by omega
  have d2 : decide ((1024 : Int) < (m : Int)) = false := by simp; omega
  have d3 : decide ((H : Int) < 2 + (m : Int) + 4) = true := by simp; omega
  have a0 : (0 : Int) ≤ (m : Int) := by omega
  have a1 : (m : Int) ≤ 1024 := by omega
  have u0 : IntKind.i64.wrap ((m : Int) % 256) = (m : Int) % 256 := IntWalk.i64_in _ (by omega)
  have u1 : IntKind.i64.wrap ((m : Int) / 256) = (m : Int) / 256 := IntWalk.i64_in _ (by omega)
  have u2 : IntKind.i64.wrap ((m : Int) / 256 * 256) = (m : Int) / 256 * 256 := IntWalk.i64_in _ (by omega)
  have u3 := or2 m (by omega)
  clear h1 h2 hs hH hl
  go_enter Tryd.func24, Tryd.ntmps24
  go_wp2_with fail
  refine wp_region_plan (fun u => u.cell? ⟨S, 0, none⟩ = some (.slice (some ⟨g, 0, none⟩) H c) ∧ u.cell? ⟨g, 0, none⟩ = some (.int .u8 ((m : Int) % 256)) ∧ u.cell? ⟨g, 1, none⟩ = some (.int .u8 ((m : Int) / 256))) [(0, false), (1, false), (2, false), (3, false), (4, false), (5, false), (6, false), (7, false), (8, false), (9, false), (10, false), (11, false), (12, false), (13, false), (14, false), (15, false), (16, false)] (by kernel_rfl) (by kernel_rfl) (fun _ _ _ _ _ h => h) (⟨k0, c0, c1⟩) ?_
  simp only [planOps, List.getElem?_toArray, List.getElem?_cons_succ, List.getElem?_cons_zero]
  repeat (first
    | (refine plan_step (by rfl) ?_; apply Exists.intro; refine ⟨fun x hSx => ?_, ?_⟩; ((try dsimp only at hSx); go_simp; (try rw [if_neg (by omega)]); (try with_reducible rfl)); (simp only [Act.put, List.setIfInBounds_toArray, List.set_cons_zero, List.set_cons_succ]))
    | (refine plan_skip (by rfl) ?_; (simp only [Act.put, List.setIfInBounds_toArray, List.set_cons_zero, List.set_cons_succ])))
  refine plan_done ?_
  go_wp2
  go_ret3
  exact ⟨rfl, (Fr.refl no w).drew⟩
set_option maxRecDepth 100000 in
set_option maxHeartbeats 4000000 in
theorem next_dead (S : Nat) (m : Nat) (x : List Int) (n : Int) (w : World) (hs : St w S (hd2 m ++ x) n) (hm : 1024 < m) (hm2 : m < 65536) :
    Calls Tryd.prog 24 #[.pointer (some ⟨S, 0, none⟩)] w fun e w' => (∃ F, e = .returned (.tuple #[.slice none 0 0, .bool false, .iface 54 (.pointer (some ⟨F, 0, none⟩))]) ∧ w.heap.size ≤ F ∧ FaultAt w' F frW n 4) ∧ Fr no w w' := by
  obtain ⟨g, c, h1, h2, c0, c1, h3, h4, _⟩ := hd_st hs
  have k0 := blk_cell h1 0
  have k1 : w.drew.cell? ⟨S, 1, none⟩ = some (.int .i64 n) := blk_cell h1 1
  obtain ⟨H, hH⟩ : ∃ H, x.length + 2 = H := ⟨_, rfl⟩
  rw [hH] at k0
  have d1 : decide ((H : Int) < 2) = false := by simp; omega
  have y0 : 0 < H := by omega
  have y1 : (1 : Int) < (H : Int) := by omega
  have d2 : decide ((1024 : Int) < (m : Int)) = true := by simp; omega
  have a0 : (0 : Int) ≤ (m : Int) := by omega
  have a1 : (m : Int) < 65536 := by omega
  have u0 : IntKind.i64.wrap ((m : Int) % 256) = (m : Int) % 256 := IntWalk.i64_in _ (by omega)
  have u1 : IntKind.i64.wrap ((m : Int) / 256) = (m : Int) / 256 := IntWalk.i64_in _ (by omega)
  have u2 : IntKind.i64.wrap ((m : Int) / 256 * 256) = (m : Int) / 256 * 256 := IntWalk.i64_in _ (by omega)
  have u3 := or2 m (by omega)
  clear h1 h2 hs hH
  go_enter Tryd.func24, Tryd.ntmps24
  go_wp2_with fail
  refine wp_region_plan (fun u => u.cell? ⟨S, 0, none⟩ = some (.slice (some ⟨g, 0, none⟩) H c) ∧ u.cell? ⟨g, 0, none⟩ = some (.int .u8 ((m : Int) % 256)) ∧ u.cell? ⟨g, 1, none⟩ = some (.int .u8 ((m : Int) / 256))) [(0, false), (1, false), (2, false), (3, false), (4, false), (5, false), (6, false), (7, false), (8, false), (9, false), (10, false), (11, false), (12, false), (13, false), (14, false), (15, false), (16, false)] (by kernel_rfl) (by kernel_rfl) (fun _ _ _ _ _ h => h) (⟨k0, c0, c1⟩) ?_
  simp only [planOps, List.getElem?_toArray, List.getElem?_cons_succ, List.getElem?_cons_zero]
  repeat (first
    | (refine plan_step (by rfl) ?_; apply Exists.intro; refine ⟨fun x hSx => ?_, ?_⟩; ((try dsimp only at hSx); go_simp; (try rw [if_neg (by omega)]); (try with_reducible rfl)); (simp only [Act.put, List.setIfInBounds_toArray, List.set_cons_zero, List.set_cons_succ]))
    | (refine plan_skip (by rfl) ?_; (simp only [Act.put, List.setIfInBounds_toArray, List.set_cons_zero, List.set_cons_succ])))
  refine plan_done ?_
  go_wp2_with fail
  refine (fault_c n 4 w.drew).mono ?_
  rintro e w1 ⟨⟨F, rfl, hF1, hF⟩, hf⟩
  dsimp only
  go_wp2
  go_ret3
  exact ⟨⟨F, rfl, hF1, hF⟩, ((Fr.refl no w).drew).trans' hf⟩
theorem fin_next {w w1 w2 : World} {S m c1 : Nat} {n : Int} {b r : List Int} {A1 : Option Addr} {v vh : Value} (hS0 : S < w.heap.size) (hf1 : Fr no w w1) (hb : w1.heap[S]? = some (.cells #[vh, .int .i64 n, .nilIface] 62 (0, 0))) (hf2 : Fr no w1 w2) (hR1 : (Kd.int .u8).R 5 w1 0 (since w) (.slice A1 m c1) b) (hRv : (Kd.int .u8).R 5 w2 0 (since w1) v r) :
    ((∃ A' c', (Ending.returned (.tuple #[.slice A1 m m, .bool true, .nilIface])) = .returned (.tuple #[.slice A' m m, .bool true, .nilIface]) ∧ (Kd.int .u8).R 5 (w2.setCell ⟨S, 0, none⟩ v) 0 (since w) (.slice A' m c') b) ∧ St (w2.setCell ⟨S, 0, none⟩ v) S r n ∧ Fr (fun k => k = S) w (w2.setCell ⟨S, 0, none⟩ v)) := by
  have hb2 := hf2.heap hb (fun h => h)
  have h12 : Fr no w w2 := hf1.trans' hf2
  have hS1 : S < w1.heap.size := blk_lt hb
  have h0 : Fr (fun k => k = S) w w2 := h12.mono (fun _ h _ => h.elim)
  have hsf : Fr (fun k => k = S) w (w2.setCell ⟨S, 0, none⟩ v) := Fr.set (p := ⟨S, 0, none⟩) h0 (fun _ => rfl) v
  have hss : Fr (fun k => k = S) w2 (w2.setCell ⟨S, 0, none⟩ v) := Fr.set (p := ⟨S, 0, none⟩) (Fr.refl (fun k => k = S) w2) (fun _ => rfl) v
  refine ⟨⟨A1, c1, rfl, R_fr (R_fr hR1 hf2 (fun _ _ h => h)) hss (fun k hk e => ?_)⟩, ⟨v, blk_put hb2 0 v rfl, Kd.R_mono (R_fr hRv hss (fun k hk e => ?_)) (fun k hk e => ?_)⟩, hsf⟩
  all_goals
    subst e
    unfold since at hk
    omega
set_option maxRecDepth 100000 in
set_option maxHeartbeats 4000000 in
theorem next_yes (S : Nat) (b r : List Int) (n : Int) (w : World) (hs : St w S (fr b ++ r) n) (hb : Bytes [b]) (hm : b.length ≤ 1024) (hr : r.length ≤ 1000000) :
    Calls Tryd.prog 24 #[.pointer (some ⟨S, 0, none⟩)] w fun e w' => (∃ A' c', e = .returned (.tuple #[.slice A' b.length b.length, .bool true, .nilIface]) ∧ (Kd.int .u8).R 5 w' 0 (since w) (.slice A' b.length c') b) ∧ St w' S r n ∧ Fr (fun k => k = S) w w' := by
  have hfr : fr b ++ r = hd2 b.length ++ (b ++ le4 (addF 0 b) ++ r) := by unfold fr; rw [List.append_assoc]
  rw [hfr] at hs
  obtain ⟨g, c, h1, h2, c0, c1, h3, h4, hgS⟩ := hd_st hs
  have hl2 : (b ++ le4 (addF 0 b) ++ r).length = b.length + 4 + r.length := by simp [le4]; omega
  rw [hl2] at h1 h2 h3
  have hlen : (hd2 b.length ++ (b ++ le4 (addF 0 b) ++ r)).length = b.length + 4 + r.length + 2 := by rw [List.length_append, hl2]; simp [hd2]; omega
  have hC := (Kd.R_reads' h2).2.2
  have hin : (Kd.int .u8).C w (some ⟨g, 2, none⟩) (b ++ le4 (addF 0 b)).length (b ++ le4 (addF 0 b)) := by
    have q := Kd.C_take hC (m := b.length + 6) (by rw [hlen]; omega)
    have q2 := Kd.C_drop (c := c) q (m := 2) (by rw [List.length_take, hlen]; omega) (by rw [List.length_take, hlen]; omega)
    have e1 : List.drop 2 (List.take (b.length + 6) (hd2 b.length ++ (b ++ le4 (addF 0 b) ++ r))) = b ++ le4 (addF 0 b) := by
      rw [← hfr, ← fr_len, List.take_left]
      rfl
    rw [e1, if_neg (by omega)] at q2
    exact q2
  have hrest : (Kd.int .u8).C w (if c = b.length + 6 then some ⟨g, 0, none⟩ else some ⟨g, b.length + 6, none⟩) r.length r := by
    have q2 := Kd.C_drop (c := c) hC (m := b.length + 6) (by rw [hlen]; omega) (by rw [hlen]; omega)
    have e1 : List.drop (b.length + 6) (hd2 b.length ++ (b ++ le4 (addF 0 b) ++ r)) = r := by
      rw [← hfr, ← fr_len, List.drop_left]
    rw [e1] at q2
    have e2 : (some (⟨g, 0, none⟩ : Addr)).map (·.add ((b.length + 6) * (Kd.int .u8).sz)) = some ⟨g, b.length + 6, none⟩ := by
      show some (Addr.mk g (0 + (b.length + 6) * 1) none) = _
      rw [Nat.zero_add, Nat.mul_one]
    rw [e2] at q2
    exact q2
  have k0 := blk_cell h1 0
  have k1 : w.drew.cell? ⟨S, 0, none⟩ = some (.slice (some ⟨g, 0, none⟩) (b.length + 4 + r.length + 2) c) := k0
  have hlo := open_r (some ⟨g, 2, none⟩) (c - 2) b (le4 (addF 0 b)) rfl hb (fun x hx => le4_bytes (addF_lt 0 b) x hx) (by simp [le4]; omega) (by omega) w.drew (C_fr hin (Fr.refl no w).drew) rfl
  rw [List.length_append, show (le4 (addF 0 b)).length = 4 from rfl] at hlo
  obtain ⟨H, hH⟩ : ∃ H, b.length + 4 + r.length + 2 = H := ⟨_, rfl⟩
  rw [hH] at k0 k1 h3
  obtain ⟨m, hmm⟩ : ∃ m, b.length = m := ⟨_, rfl⟩
  rw [hmm] at hm c0 c1 hlo hrest hH ⊢
  have HRE := Lib.hid hrest
  have H1 := Lib.hid h1
  have HS0 := Lib.hid (blk_lt h1)
  rw [show m + 4 = 2 + m + 2 by omega] at hlo
  have HO := Lib.hid hlo
  have d1 : decide ((H : Int) < 2) = false := by simp; omega
  have y0 : 0 < H := by omega
  have y1 : (1 : Int) < (H : Int) := by omega
  have d2 : decide ((1024 : Int) < (m : Int)) = false := by simp; omega
  have d3 : decide ((H : Int) < 2 + (m : Int) + 4) = false := by simp; omega
  have a0 : (0 : Int) ≤ (m : Int) := by omega
  have a1 : (m : Int) < 65536 := by omega
  have u0 : IntKind.i64.wrap ((m : Int) % 256) = (m : Int) % 256 := IntWalk.i64_in _ (by omega)
  have u1 : IntKind.i64.wrap ((m : Int) / 256) = (m : Int) / 256 := IntWalk.i64_in _ (by omega)
  have u2 : IntKind.i64.wrap ((m : Int) / 256 * 256) = (m : Int) / 256 * 256 := IntWalk.i64_in _ (by omega)
  have u3 := or2 m (by omega)
  clear h1 h2 hs hC hin hrest hb hfr hlo hl2 hlen
  go_enter Tryd.func24, Tryd.ntmps24
  go_wp2_with fail
  refine wp_region_plan (fun u => u.cell? ⟨S, 0, none⟩ = some (.slice (some ⟨g, 0, none⟩) H c) ∧ u.cell? ⟨g, 0, none⟩ = some (.int .u8 ((m : Int) % 256)) ∧ u.cell? ⟨g, 1, none⟩ = some (.int .u8 ((m : Int) / 256))) [(0, false), (1, false), (2, false), (3, false), (4, false), (5, false), (6, false), (7, false), (8, false), (9, false), (10, false), (11, false), (12, false), (13, false), (14, false), (15, false), (16, false)] (by kernel_rfl) (by kernel_rfl) (fun _ _ _ _ _ h => h) (⟨k0, c0, c1⟩) ?_
  simp only [planOps, List.getElem?_toArray, List.getElem?_cons_succ, List.getElem?_cons_zero]
  repeat (first
    | (refine plan_step (by rfl) ?_; apply Exists.intro; refine ⟨fun x hSx => ?_, ?_⟩; ((try dsimp only at hSx); go_simp; (try rw [if_neg (by omega)]); (try with_reducible rfl)); (simp only [Act.put, List.setIfInBounds_toArray, List.set_cons_zero, List.set_cons_succ]))
    | (refine plan_skip (by rfl) ?_; (simp only [Act.put, List.setIfInBounds_toArray, List.set_cons_zero, List.set_cons_succ])))
  refine plan_done ?_
  go_wp2_with fail
  refine HO.out.mono ?_
  rintro e w1 ⟨⟨A1, c1', rfl, hR1⟩, hf1⟩
  have hfd := ((Fr.refl no w).drew).trans' hf1
  have hb1 := hfd.heap H1.out (fun h => h)
  rw [hmm, hH] at hb1
  have k2 : w1.cell? ⟨S, 0, none⟩ = some (.slice (some ⟨g, 0, none⟩) H c) := blk_cell hb1 0
  have hrr := C_fr HRE.out hfd
  have HRR := Lib.hid hrr
  have HFD := Lib.hid hfd
  have HB1 := Lib.hid hb1
  have HMM := Lib.hid hmm
  have HR1 := Lib.hid (Kd.R_mono hR1 (fun k hk => hk : ∀ k, since w.drew k → since w k))
  clear HO H1 HRE k0 k1 c0 c1 hR1 hf1 hrr hfd hb1 hmm u0 u1 u2 u3 d1 d2 d3 y0 y1
  have z1 : 2 + (m : Int) + 4 ≤ (H : Int) := by omega
  have z2 : (0 : Int) ≤ 2 + (m : Int) + 4 := by omega
  have z3 : (H : Int) ≤ (c : Int) := by omega
  have HRL := Lib.hid hr
  clear hr h4 hgS
  have HHH := Lib.hid hH
  clear hH
  dsimp only
  by_cases hcm : c = m + 6
  rotate_left
  · have z4 : 2 + m + 4 < c := by omega
    go_wp2_with fail
    have hcl := clone_c (some ⟨g, m + 6, none⟩) (c - (2 + m + 4)) r w1 (by have h := HRR.out; rw [if_neg hcm] at h; exact h) (by have := HHH.out; omega) (by have := HRL.out; omega)
    rw [show r.length = H - (2 + m + 4) by have := HHH.out; omega, show m + 6 = 2 + m + 4 by omega] at hcl
    refine hcl.mono ?_
    clear hcl HRR
    rintro e w2 ⟨v, rfl, hRv, hf2⟩
    obtain ⟨A2, c2, rfl⟩ := Kd.R_slice hRv
    have k3 := blk_cell (hf2.heap HB1.out (fun h => h)) 0
    have k4 := blk_frozen (hf2.heap HB1.out (fun h => h)) 0
    have HB2 := Lib.hid (hf2.heap HB1.out (fun h => h))
    have HRv := Lib.hid hRv
    have HF2 := Lib.hid hf2
    have hgp : S < w2.heap.size := blk_lt HB2.out
    clear k2 hRv hf2
    dsimp only
    go_wp2
    go_ret3
    exact fin_next HS0.out HFD.out HB1.out HF2.out HR1.out HRv.out
  · obtain rfl : H = 2 + m + 4 := by omega
    obtain rfl : c = 2 + m + 4 := by omega
    have hr0 : r = [] := List.length_eq_zero_iff.1 (by have := HHH.out; omega)
    subst hr0
    go_wp2_with fail
    have hcl := clone_c (some ⟨g, 0, none⟩) 0 [] w1 (by have h := HRR.out; rw [if_pos hcm] at h; exact h) (by decide) (by decide)
    refine hcl.mono ?_
    clear hcl HRR
    rintro e w2 ⟨v, rfl, hRv, hf2⟩
    obtain ⟨A2, c2, rfl⟩ := Kd.R_slice hRv
    have k3 := blk_cell (hf2.heap HB1.out (fun h => h)) 0
    have k4 := blk_frozen (hf2.heap HB1.out (fun h => h)) 0
    have HB2 := Lib.hid (hf2.heap HB1.out (fun h => h))
    have HRv := Lib.hid hRv
    have HF2 := Lib.hid hf2
    have hgp : S < w2.heap.size := blk_lt HB2.out
    clear k2 hRv hf2
    dsimp only
    go_wp2
    go_ret3
    exact fin_next HS0.out HFD.out HB1.out HF2.out HR1.out HRv.out
end Go.Proofs.YtinkdgfdnagplaaDoor.Frame
