import Derived.Test.YtinkdgfdnagplaaDoorCrcC
import Derived.Test.YtinkdgfdnagplaaDoorErrLaid
/-! Contracts of package crc: opened. -/
set_option linter.unusedVariables false
set_option linter.unusedSimpArgs false
namespace Go.Proofs.YtinkdgfdnagplaaDoor.Crc
open Go.RowKit Go.Proofs.YtinkdgfdnagplaaDoorW.PrintWords Go.Proofs.YtinkdgfdnagplaaDoor.B Go.Proofs.YtinkdgfdnagplaaDoor.Err

theorem clipB_c (A : Option Addr) (n c : Nat) (hc : n ≤ c) (hm : c ≤ 9223372036854775807) (w : World) :
    Calls Tryd.prog 45 #[.slice A n c] w fun e w' => e = .returned (.slice A n n) ∧ w = w' := by
  go_enter Tryd.func45, Tryd.ntmps45
  go_wp2
  go_ret
  exact ⟨rfl, rfl⟩
theorem clone_c (A : Option Addr) (c : Nat) (p : List Int) (w : World) (hC : (Kd.int .u8).C w A p.length p) (hc : p.length ≤ c) (hl : p.length ≤ 1000000000) :
    Calls Tryd.prog 39 #[.slice A p.length c] w fun e w' => ∃ v, e = .returned v ∧ (Kd.int .u8).R 5 w' 0 (since w) v p ∧ Fr no w w' := by
  have qT : ∀ (w : World) (a : Option Addr) (n c n' c' : Nat), (binOp .eql 24 (.slice a n c) (.slice none n' c')).run Tryd.prog w = .ok (.bool a.isNone) w := fun w a n c n' c' => Lib.run_eql_slice_nil w _ _ a n c n' c' Tryd.underlying24
  cases A with
  | none =>
    have h0 : p = [] := by
      have h2 := hC.2
      rcases Nat.eq_zero_or_pos p.length with h | h
      · exact List.length_eq_zero_iff.1 h
      · obtain ⟨ad, he, _⟩ := h2.2 h
        exact absurd he (by simp)
    subst h0
    simp only [List.length_nil] at *
    go_enter Tryd.func39, Tryd.ntmps39
    go_wp2
    go_ret
    exact ⟨_, rfl, Kd.R_nil _ _ _ _ _, Fr.refl _ _⟩
  | some ad =>
    go_enter Tryd.func39, Tryd.ntmps39
    have hE : (Kd.int .u8).R 5 (w.alloc (.cells #[] 5)) 0 (since w) (.slice (some ⟨w.heap.size, 0, none⟩) 0 0) [] := Kd.R_of_own (World.ownsRow_lit w #[] 0 (Nat.zero_le _) (by decide) rfl) (fun k hk => by simp [Value.ownBlock] at hk; subst hk; exact Nat.le_refl _)
    go_wp2_with (at_builtin
                 refine Kd.R_append_row (fun n : Int => Value.int .u8 n) (0 : Int) (w0 := w.alloc (.cells #[] 5)) 0 rfl (.tmp 5) (.tmp 6) 24 5 (.int .u8 0) 1 rfl Tryd.underlying24 info8 rfl (by decide) _ [] p (some ad) p.length c (since w) rfl rfl (fun b hb => Nat.le_trans ((Fr.refl no w).alloc _).size hb) hE (C_fr hC ((Fr.refl no w).alloc _)) (Below.refl 0 _) (Nat.zero_le _) (by simp; omega) ?_
                 intro v1 w2 ho hb1 hg hat
                 clear hat hb1
                 obtain ⟨A2, c2, rfl⟩ := Kd.R_slice ho)
    go_ret
    exact ⟨_, rfl, ho, ((Fr.refl no w).alloc _).new' (Fr.of_grown hg (fun b hb _ => hE.1 b hb))⟩
theorem bytesOf_inj : ∀ (xs ys : List Int), (∀ x ∈ xs, 0 ≤ x ∧ x < 256) → (∀ x ∈ ys, 0 ≤ x ∧ x < 256) → Lib.bytesOf xs = Lib.bytesOf ys → xs = ys
  | [], [], _, _, _ => rfl
  | [], y :: r, _, _, h => by simp [Lib.bytesOf] at h
  | x :: r, [], _, _, h => by simp [Lib.bytesOf] at h
  | x :: r, y :: s, hx, hy, h => by
    simp only [Lib.bytesOf, List.map_cons, List.cons.injEq] at h
    obtain ⟨h1, h2⟩ := h
    obtain ⟨x0, x1⟩ := hx x (by simp)
    obtain ⟨y0, y1⟩ := hy y (by simp)
    have h3 := congrArg UInt8.toNat h1
    simp only [UInt8.toNat_ofNat'] at h3
    have h4 := bytesOf_inj r s (fun z hz => hx z (by simp [hz])) (fun z hz => hy z (by simp [hz])) h2
    rw [h4, show x = y by omega]
theorem equal_c (A A' : Option Addr) (c c' : Nat) (xs ys : List Int) (w : World) (h1 : (Kd.int .u8).C w A xs.length xs) (h2 : (Kd.int .u8).C w A' ys.length ys) (hx : ∀ x ∈ xs, 0 ≤ x ∧ x < 256) (hy : ∀ x ∈ ys, 0 ≤ x ∧ x < 256) :
    Calls Tryd.prog 44 #[.slice A xs.length c, .slice A' ys.length c'] w fun e w' => e = .returned (.bool (decide (xs = ys))) ∧ w = w' := by
  refine (Tryd.bytes_Equal _ _ xs ys w (Kd.C_string (P := Tryd.prog) (c := c) Tryd.underlying24 Tryd.underlying5 Tryd.underlying9 h1) (Kd.C_string (P := Tryd.prog) (c := c') Tryd.underlying24 Tryd.underlying5 Tryd.underlying9 h2)).mono ?_
  rintro e w' ⟨rfl, rfl⟩
  refine ⟨?_, rfl⟩
  have he : (Lib.bytesOf xs == Lib.bytesOf ys) = decide (xs = ys) := by
    rw [Bool.eq_iff_iff]
    simp only [beq_iff_eq, decide_eq_true_eq]
    exact ⟨bytesOf_inj xs ys hx hy, fun h => by rw [h]⟩
  rw [he]
def sumB : ByteArray := ⟨#[115, 117, 109]⟩
set_option maxRecDepth 100000 in
theorem open_short (A : Option Addr) (n c : Nat) (hn : n < 4) (w : World) :
    Calls Tryd.prog 38 #[.slice A n c] w fun e w' => (∃ F, e = .returned (.tuple #[.slice none 0 0, .iface 54 (.pointer (some ⟨F, 0, none⟩))]) ∧ w.heap.size ≤ F ∧ FaultAt w' F sumB n 3) ∧ Fr no w w' := by
  have hd : decide ((n : Int) < 4) = true := by simp; omega
  go_enter Tryd.func38, Tryd.ntmps38
  go_wp2
  go_ret2
  exact ⟨⟨_, rfl, Nat.le_refl _, blk_new w _⟩, (Fr.refl _ _).alloc _⟩
set_option maxRecDepth 100000 in
set_option maxHeartbeats 2000000 in
theorem open_yes (A : Option Addr) (c : Nat) (b t : List Int) (ht : t.length = 4) (hb : Bytes [b]) (hty : ∀ x ∈ t, 0 ≤ x ∧ x < 256) (hc : (b ++ t).length ≤ c) (hcm : c ≤ 9223372036854775807) (w : World) (hC : (Kd.int .u8).C w A (b ++ t).length (b ++ t)) (h : t = le4 (addF 0 b)) :
    Calls Tryd.prog 38 #[.slice A (b ++ t).length c] w fun e w' => (∃ A', e = .returned (.tuple #[.slice A' b.length b.length, .nilIface]) ∧ (Kd.int .u8).C w' A' b.length b) ∧ Fr no w w' := by
  have HH := Lib.hid h
  clear h
  have hlen : (b ++ t).length = b.length + 4 := by rw [List.length_append, ht]
  have hb1 := (hb b (by simp)).1
  have hbx := (hb b (by simp)).2
  have htk : (Kd.int .u8).C w A b.length b := by
    have h := Kd.C_take hC (m := b.length) (by rw [hlen]; omega)
    rw [List.take_left] at h
    exact h
  have hse := seal_c A c b hb (by omega) w htk
  have HSE := Lib.hid hse
  have hal : Hid (∀ x ∈ b ++ le4 (addF 0 b), 0 ≤ x ∧ x < 256) := fun x hx => by
    rcases List.mem_append.1 hx with h | h
    · exact hbx x h
    · exact le4_bytes (addF_lt 0 b) x h
  have hbt : Hid (∀ x ∈ b ++ t, 0 ≤ x ∧ x < 256) := fun x hx => by
    rcases List.mem_append.1 hx with h | h
    · exact hbx x h
    · exact hty x h
  have hiff : Hid (decide (b ++ le4 (addF 0 b) = b ++ t) = decide (t = le4 (addF 0 b))) := by
    show _ = _
    rw [Bool.eq_iff_iff]
    simp only [decide_eq_true_eq, List.append_cancel_left_eq]
    exact ⟨fun h => h.symm, fun h => h.symm⟩
  have hll : Hid ((b ++ le4 (addF 0 b)).length = b.length + 4) := by show _ = _; rw [List.length_append]; rfl
  obtain ⟨N, hN⟩ : ∃ N, (b ++ t).length = N := ⟨_, rfl⟩
  have HN := Lib.hid hN
  rw [hN] at hlen hc hC ⊢
  subst hlen
  have hd : decide ((((b.length + 4 : Nat)) : Int) < 4) = false := by simp; omega
  have hw : (((b.length + 4 : Nat)) : Int) - 4 = (b.length : Int) := by omega
  have htn : ∀ W, Fr no w W → (Kd.int .u8).C W A b.length b := fun W h => C_fr htk h
  have HTN := Lib.hid htn
  clear hN hse hbx hty htn
  go_enter Tryd.func38, Tryd.ntmps38
  go_wp2_with fail
  refine HSE.out.mono ?_
  rintro e w1 ⟨⟨A1, c1, rfl, hR⟩, hf⟩
  have h1 := (Kd.R_reads' hR).2.2
  have h2 : (Kd.int .u8).C w1 A (b ++ t).length (b ++ t) := by rw [HN.out]; exact C_fr hC hf
  have heq := equal_c A1 A c1 c (b ++ le4 (addF 0 b)) (b ++ t) w1 h1 h2 hal.out hbt.out
  rw [hll.out, HN.out, hiff.out] at heq
  have HEQ := Lib.hid heq
  clear heq h1 h2 hR hal hbt hiff HSE hC htk hll HN
  dsimp only
  go_wp2_with fail
  have hdt : decide (t = le4 (addF 0 b)) = true := by simpa using HH.out
  refine HEQ.out.mono ?_
  rintro e w2 ⟨rfl, rfl⟩
  rw [hdt]
  clear hdt HH HEQ
  dsimp only
  go_wp2_with fail
  refine (clone_c A c b w1 (HTN.out _ hf) (by omega) (by omega)).mono ?_
  rintro e w3 ⟨v, rfl, hR3, hf3⟩
  obtain ⟨A3, c3, rfl⟩ := Kd.R_slice hR3
  obtain ⟨k1, k2⟩ := R_cap hR3
  have hC3 := (Kd.R_reads' hR3).2.2
  clear hR3
  dsimp only
  go_wp2_with fail
  refine (clipB_c A3 _ c3 k1 k2 _).mono ?_
  rintro e w4 ⟨rfl, rfl⟩
  dsimp only
  go_wp2
  go_ret2
  exact ⟨⟨A3, rfl, hC3⟩, hf.trans' hf3⟩
set_option maxRecDepth 100000 in
set_option maxHeartbeats 2000000 in
theorem open_no (A : Option Addr) (c : Nat) (b t : List Int) (ht : t.length = 4) (hb : Bytes [b]) (hty : ∀ x ∈ t, 0 ≤ x ∧ x < 256) (hc : (b ++ t).length ≤ c) (hcm : c ≤ 9223372036854775807) (w : World) (hC : (Kd.int .u8).C w A (b ++ t).length (b ++ t)) (h : t ≠ le4 (addF 0 b)) :
    Calls Tryd.prog 38 #[.slice A (b ++ t).length c] w fun e w' => (∃ F, e = .returned (.tuple #[.slice none 0 0, .iface 54 (.pointer (some ⟨F, 0, none⟩))])) ∧ Fr no w w' := by
  have HH := Lib.hid h
  clear h
  have hlen : (b ++ t).length = b.length + 4 := by rw [List.length_append, ht]
  have hb1 := (hb b (by simp)).1
  have hbx := (hb b (by simp)).2
  have htk : (Kd.int .u8).C w A b.length b := by
    have h := Kd.C_take hC (m := b.length) (by rw [hlen]; omega)
    rw [List.take_left] at h
    exact h
  have hse := seal_c A c b hb (by omega) w htk
  have HSE := Lib.hid hse
  have hal : Hid (∀ x ∈ b ++ le4 (addF 0 b), 0 ≤ x ∧ x < 256) := fun x hx => by
    rcases List.mem_append.1 hx with h | h
    · exact hbx x h
    · exact le4_bytes (addF_lt 0 b) x h
  have hbt : Hid (∀ x ∈ b ++ t, 0 ≤ x ∧ x < 256) := fun x hx => by
    rcases List.mem_append.1 hx with h | h
    · exact hbx x h
    · exact hty x h
  have hiff : Hid (decide (b ++ le4 (addF 0 b) = b ++ t) = decide (t = le4 (addF 0 b))) := by
    show _ = _
    rw [Bool.eq_iff_iff]
    simp only [decide_eq_true_eq, List.append_cancel_left_eq]
    exact ⟨fun h => h.symm, fun h => h.symm⟩
  have hll : Hid ((b ++ le4 (addF 0 b)).length = b.length + 4) := by show _ = _; rw [List.length_append]; rfl
  obtain ⟨N, hN⟩ : ∃ N, (b ++ t).length = N := ⟨_, rfl⟩
  have HN := Lib.hid hN
  rw [hN] at hlen hc hC ⊢
  subst hlen
  have hd : decide ((((b.length + 4 : Nat)) : Int) < 4) = false := by simp; omega
  have hw : (((b.length + 4 : Nat)) : Int) - 4 = (b.length : Int) := by omega
  have htn : ∀ W, Fr no w W → (Kd.int .u8).C W A b.length b := fun W h => C_fr htk h
  have HTN := Lib.hid htn
  clear hN hse hbx hty htn
  go_enter Tryd.func38, Tryd.ntmps38
  go_wp2_with fail
  refine HSE.out.mono ?_
  rintro e w1 ⟨⟨A1, c1, rfl, hR⟩, hf⟩
  have h1 := (Kd.R_reads' hR).2.2
  have h2 : (Kd.int .u8).C w1 A (b ++ t).length (b ++ t) := by rw [HN.out]; exact C_fr hC hf
  have heq := equal_c A1 A c1 c (b ++ le4 (addF 0 b)) (b ++ t) w1 h1 h2 hal.out hbt.out
  rw [hll.out, HN.out, hiff.out] at heq
  have HEQ := Lib.hid heq
  clear heq h1 h2 hR hal hbt hiff HSE hC htk hll HN
  dsimp only
  go_wp2_with fail
  have hdt : decide (t = le4 (addF 0 b)) = false := by simpa using HH.out
  refine HEQ.out.mono ?_
  rintro e w2 ⟨rfl, rfl⟩
  rw [hdt]
  clear hdt HH HEQ
  dsimp only
  go_wp2
  go_ret2
  exact ⟨⟨_, rfl⟩, hf.alloc _⟩
end Go.Proofs.YtinkdgfdnagplaaDoor.Crc
