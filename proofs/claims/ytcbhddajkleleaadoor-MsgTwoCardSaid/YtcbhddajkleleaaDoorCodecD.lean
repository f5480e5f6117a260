import Derived.Test.YtcbhddajkleleaaDoorCodecB
import Derived.Deep.RegionHeld3
import Derived.IntWalk
/-! Contracts of package codec: reading. -/
set_option linter.unusedVariables false
set_option linter.unusedSimpArgs false
namespace Go.Proofs.YtcbhddajkleleaaDoor.Codec
open Go.RowKit Go.Proofs.YtcbhddajkleleaaDoorW.PrintWords Go.Proofs.YtcbhddajkleleaaDoor.B

/-- A number without a sign, read: its value, what is wrong, its bytes. -/
def un (i : Nat) (v : Int) : List Int → Int × Int × Nat
  | [] => if i < 10 then (0, 3, 0) else (0, 2, 0)
  | c :: r => if 10 ≤ i then (0, 2, 0) else if (i = 9 ∧ 1 < c) ∨ (0 < i ∧ c = 0) then (0, 2, 0) else if c < 128 then (v + c % 128 * 128 ^ i, 0, i + 1) else un (i + 1) (v + c % 128 * 128 ^ i) r

theorem fail_c (B : Nat) (bs : List Int) (a0 a code : Int) (er : Option (Int × Int)) (w : World) (ok : Nat → Prop) (h : Decs w ok B bs a0 er) :
    Calls Tryd.prog 48 #[.pointer (some ⟨B, 0, none⟩), .int .i64 a, .int .i64 code] w fun e w' => e = .returned (.tuple #[]) ∧ Decs w' (ext ok w) B bs a0 (some (a, code)) ∧ Fr (one B) w w' := by
  obtain ⟨v, ev, hB, hokB, hR, hE⟩ := h
  have hB2 := fun o => ((Fr.refl no w).alloc o).heap hB (fun h => h)
  have hcB := fun o => blk_cell (hB2 o) 2
  have hfB := fun o => blk_frozen (hB2 o) 2
  simp at hcB
  go_enter Tryd.func48, Tryd.ntmps48
  go_wp2
  refine bodyPost_end (v := .tuple #[]) (by simp [results, Tryd.results48, go_sem]) rfl ⟨rfl, ?_, ((Fr.refl (one B) w).alloc _).set (p := ⟨B, 2, none⟩) (fun _ => rfl) _⟩
  have hBl := blk_lt hB
  refine ⟨v, _, blk_put (hB2 _) 2 _ rfl, .inl hokB, ?_, w.heap.size, rfl, ⟨.inr (Nat.le_refl _), fun he => by omega⟩, ?_⟩
  · exact Kd.R_mono (R_fr (R_lt' hR) (((Fr.refl (one B) w).alloc _).set (p := ⟨B, 2, none⟩) (fun _ => rfl) _) (fun k hk => hk.1.2)) (fun k hk => ⟨.inl hk.1.1, hk.1.2⟩)
  · exact (((Fr.refl (one B) (w.alloc _)).set (p := ⟨B, 2, none⟩) (fun _ => rfl) _).heap (blk_new w _) (fun h : w.heap.size = B => by omega))
theorem err_c (B : Nat) (bs : List Int) (a0 : Int) (er : Option (Int × Int)) (w : World) (ok : Nat → Prop) (h : Decs w ok B bs a0 er) :
    Calls Tryd.prog 29 #[.pointer (some ⟨B, 0, none⟩)] w fun e w' => ∃ ev, e = .returned ev ∧ ErrV w ok ev er ∧ w = w' := by
  obtain ⟨v, ev, hB, hokB, hR, hE⟩ := h
  have hcB := blk_cell hB 2
  simp at hcB
  go_enter Tryd.func29, Tryd.ntmps29
  go_wp2
  go_ret
  exact ⟨_, rfl, hE.mono (fun _ h => h.1), rfl⟩
theorem left_c (B : Nat) (bs : List Int) (a0 : Int) (er : Option (Int × Int)) (w : World) (ok : Nat → Prop) (h : Decs w ok B bs a0 er) (h1 : 0 ≤ a0) (h2 : a0 ≤ bs.length) :
    Calls Tryd.prog 32 #[.pointer (some ⟨B, 0, none⟩)] w fun e w' => e = .returned (.int .i64 (if er.isSome then 0 else bs.length - a0)) ∧ Fr no w w' := by
  obtain ⟨v, ev, hB, hokB, hR, hE⟩ := h
  obtain ⟨A1, c1, rfl⟩ := Kd.R_slice hR
  have hc0 := blk_cell hB 0
  have hc1 := blk_cell hB 1
  have hc2 := blk_cell hB 2
  simp at hc0 hc1 hc2
  obtain ⟨hcap1, hcap2⟩ := R_cap hR
  match er, hE with
  | none, hE =>
    obtain rfl : ev = .nilIface := hE
    go_enter Tryd.func32, Tryd.ntmps32
    go_wp2
    go_quiet (fail)
    go_wp2
    go_ret
    exact ⟨rfl, (Fr.refl _ _).drewN _⟩
  | some (_, _), ⟨F, hev, _, _⟩ =>
    subst hev
    go_enter Tryd.func32, Tryd.ntmps32
    go_wp2
    go_ret
    exact ⟨rfl, Fr.refl _ _⟩

theorem u64_join (k : Nat) (v c : Int) (h0 : 0 ≤ v) (h1 : v < 128 ^ k) (hc0 : 0 ≤ c) (hb : v + c * 128 ^ k < 18446744073709551616) : bits .or .u64 v (c * 128 ^ k) = v + c * 128 ^ k := by
  have hp : (0 : Int) < 128 ^ k := Int.pow_pos (by decide)
  have hm : 0 ≤ c * 128 ^ k := Int.mul_nonneg hc0 (Int.le_of_lt hp)
  have e1 : (c * 128 ^ k).toNat = c.toNat * 2 ^ (7 * k) := by
    rw [Nat.pow_mul]
    have : (c * 128 ^ k) = ((c.toNat * (2 ^ 7) ^ k : Nat) : Int) := by
      rw [Int.natCast_mul, Int.natCast_pow, Int.toNat_of_nonneg hc0]
      rfl
    rw [this, Int.toNat_natCast]
  have e2 : v.toNat < 2 ^ (7 * k) := by
    rw [Nat.pow_mul]
    have : ((v.toNat : Nat) : Int) < (((2 ^ 7) ^ k : Nat) : Int) := by
      rw [Int.toNat_of_nonneg h0, Int.natCast_pow]
      exact h1
    exact Int.ofNat_lt.1 this
  rw [u64_or _ _ h0 (by omega) hm (by omega), Nat.or_comm, e1, nat_join (7 * k) _ _ (by rw [Nat.mul_mod_left]) e2, ← e1]
  omega

theorem join_key (k : Nat) (v c : Int) (hk : k < 10) (h0 : 0 ≤ v) (h1 : v < 128 ^ k) (c0 : 0 ≤ c) (c1 : c < 256) (hb : ¬ (k = 9 ∧ 1 < c)) :
    bits .or .u64 v (IntKind.u64.wrap (c % 128 * 2 ^ (7 * k))) = v + c % 128 * 128 ^ k ∧ 0 ≤ v + c % 128 * 128 ^ k ∧ v + c % 128 * 128 ^ k < 128 ^ (k + 1) ∧ v + c % 128 * 128 ^ k < 18446744073709551616 := by
  have e : (2 : Int) ^ (7 * k) = 128 ^ k := by rw [Int.pow_mul]; rfl
  rw [e]
  have hm0 : 0 ≤ c % 128 := Int.emod_nonneg _ (by decide)
  have hm1 : c % 128 < 128 := Int.emod_lt_of_pos _ (by decide)
  have hm2 : k = 9 → c % 128 ≤ 1 := fun h => by omega
  generalize c % 128 = m at *
  have hb2 : 0 ≤ m * 128 ^ k ∧ v + m * 128 ^ k < 128 ^ (k + 1) ∧ v + m * 128 ^ k < 18446744073709551616 := by
    have : k = 0 ∨ k = 1 ∨ k = 2 ∨ k = 3 ∨ k = 4 ∨ k = 5 ∨ k = 6 ∨ k = 7 ∨ k = 8 ∨ k = 9 := by omega
    rcases this with rfl | rfl | rfl | rfl | rfl | rfl | rfl | rfl | rfl | rfl <;> simp at * <;> omega
  obtain ⟨b0, b1, b2⟩ := hb2
  rw [wrap_u64, Int.emod_eq_of_lt b0 (by omega)]
  exact ⟨u64_join k v m h0 h1 hm0 b2, by omega, b1, b2⟩
theorem Decs.step {w W : World} {ok : Nat → Prop} {B : Nat} {L : List Int} {a : Int} {er : Option (Int × Int)} (h : Decs w ok B L a er) (hf : Fr no w W) (a2 : Int) :
    Decs (W.setCell ⟨B, 1, none⟩ (.int .i64 a2)) ok B L a2 er ∧ Fr (one B) w (W.setCell ⟨B, 1, none⟩ (.int .i64 a2)) := by
  have hfo : Fr (one B) w W := hf.mono (fun _ h _ => h.elim)
  have hfs : Fr (one B) w (W.setCell ⟨B, 1, none⟩ (.int .i64 a2)) := hfo.set (p := ⟨B, 1, none⟩) (fun _ => rfl) _
  obtain ⟨v, ev, hB, hokB, hR, hE⟩ := h
  exact ⟨⟨v, ev, blk_put (hf.heap hB (fun h => h)) 1 _ rfl, hokB, R_fr hR hfs (fun k hk => hk.2), hE.fr hfs (fun k hk => hk.2)⟩, hfs⟩
theorem u8_127 (c : Int) (h0 : 0 ≤ c) (h1 : c < 256) : bits .and .u8 c 127 = c % 128 := by
  rw [u8_and _ _ h0 h1 (by omega) (by omega), show (127 : Int).toNat = 127 by rfl, nat_mask7]
  omega
theorem u8_at {w : World} {A : Option Addr} {xs : List Int} (hC : (Kd.int .u8).C w A xs.length xs) (k : Nat) (h : k < xs.length) : ∃ ad, A = some ad ∧ w.cell? (ad.add k) = some (.int .u8 xs[k]) := by
  obtain ⟨ad, h1, h2⟩ := Kd.at_int hC (k : Int) (by omega) (by omega)
  refine ⟨ad, h1, ?_⟩
  rw [Int.toNat_natCast] at h2
  rw [h2]
  simp [rd, h]

set_option maxHeartbeats 4000000 in
theorem uint_c (B : Nat) (bs : List Int) (a0 : Int) (er : Option (Int × Int)) (w : World) (ok : Nat → Prop) (h : Decs w ok B bs a0 er) (h1 : 0 ≤ a0) (h2 : a0 ≤ bs.length) (hl : bs.length ≤ 1000000000) (hbs : ∀ x ∈ bs, 0 ≤ x ∧ x < 256) :
    Calls Tryd.prog 47 #[.pointer (some ⟨B, 0, none⟩)] w fun e w' =>
      e = .returned (.tuple #[.int .u64 (un 0 0 (bs.drop a0.toNat)).1, .int .i64 (un 0 0 (bs.drop a0.toNat)).2.1]) ∧ Decs w' ok B bs (a0 + (un 0 0 (bs.drop a0.toNat)).2.2) er ∧ Fr (one B) w w' := by
  have h0 := h
  obtain ⟨v, ev, hB, hokB, hR, hE⟩ := h
  obtain ⟨A1, c1, rfl⟩ := Kd.R_slice hR
  obtain ⟨_, _, hC⟩ := Kd.R_reads' hR
  have HB := Lib.hid hbs
  have HD := Lib.hid h0
  have hbl := blk_lt hB
  obtain ⟨a, rfl⟩ : ∃ a : Nat, a0 = a := ⟨a0.toNat, by omega⟩
  simp only [Int.toNat_natCast]
  obtain ⟨U, hU⟩ : ∃ U, un 0 0 (bs.drop a) = U := ⟨_, rfl⟩
  rw [hU]
  replace hU := Lib.hid hU
  clear hbs h0 hE hR h1
  go_enter Tryd.func47, Tryd.ntmps47
  go_wp2
  go_loopg [4, 7] 10 (fun q v i wr => ∃ (k : Nat) (v' : Int), k + q = 10 ∧ i = .int .i64 k ∧ v = .int .u64 v' ∧ 0 ≤ v' ∧ v' < 128 ^ k ∧ v' < 18446744073709551616 ∧ a + k ≤ bs.length ∧ Hid (un k v' (bs.drop (a + k)) = U) ∧ Fr no w wr)
  case atStart => exact ⟨0, 0, by omega, rfl, rfl, by omega, by decide, by omega, by omega, hU, Fr.refl _ _⟩
  case round =>
    clear hU
    obtain ⟨k, v', hk, rfl, rfl, v0, v1, v2, hak, hs, hf⟩ := hrel
    have hB2 := hf.heap hB (fun h => h)
    have hc0 := blk_cell hB2 0
    have hc1 := blk_cell hB2 1
    have hf1 := blk_frozen hB2 1
    simp at hc0 hc1
    by_cases hk9 : k < 10
    · by_cases hin : a + k < bs.length
      · have hcc := C_fr hC hf
        obtain ⟨ad, rfl, hcx⟩ := u8_at hcc (a + k) hin
        have hs2 := hs.out
        rw [List.drop_eq_getElem_cons hin, un, if_neg (by omega)] at hs2
        obtain ⟨x0, x1⟩ := HB.out bs[a + k] (List.getElem_mem hin)
        clear hs hcc
        generalize bs[a + k] = c at *
        have hg := HD.out
        by_cases hbad : (k = 9 ∧ 1 < c) ∨ (0 < k ∧ c = 0)
        · rw [if_pos hbad] at hs2
          subst hs2
          by_cases h9 : k = 9 ∧ 1 < c
          · obtain ⟨h9, h10⟩ := h9
            have H9 := Lib.hid h9
            clear h9 hbad
            go_wp2
            go_quiet (fail)
            go_wp2
            go_quiet (fail)
            have e9 : (((k : Nat) : Int) == 9) = true := by have := H9.out; simp; omega
            go_wp2
            exact bodyPost_ret (v := .tuple #[.int .u64 0, .int .i64 2]) (by simp [results, Tryd.results47, go_sem]) rfl ⟨rfl, by simpa using hg.fr (hf.drewN _) (fun _ _ h => h), (hf.drewN _).mono (fun _ h _ => h.elim)⟩
          · obtain ⟨h10, rfl⟩ := hbad.resolve_left h9
            have e0 : (decide ((0 : Int) < (k : Int))) = true := by simp; omega
            by_cases hk2 : k = 9
            · have H9 := Lib.hid hk2
              clear hk2 h9
              go_wp2
              go_quiet (fail)
              go_wp2
              go_quiet (fail)
              have e9 : (((k : Nat) : Int) == 9) = true := by have := H9.out; simp; omega
              go_wp2
              exact bodyPost_ret (v := .tuple #[.int .u64 0, .int .i64 2]) (by simp [results, Tryd.results47, go_sem]) rfl ⟨rfl, by simpa using hg.fr (hf.drewN _) (fun _ _ h => h), (hf.drewN _).mono (fun _ h _ => h.elim)⟩
            · have e9 : (((k : Nat) : Int) == 9) = false := by simp; omega
              go_wp2
              go_quiet (fail)
              go_wp2
              go_quiet (fail)
              go_wp2
              exact bodyPost_ret (v := .tuple #[.int .u64 0, .int .i64 2]) (by simp [results, Tryd.results47, go_sem]) rfl ⟨rfl, by simpa using hg.fr (hf.drewN _) (fun _ _ h => h), (hf.drewN _).mono (fun _ h _ => h.elim)⟩
        · rw [if_neg hbad] at hs2
          by_cases h128 : c < 128
          · rw [if_pos h128] at hs2
            subst hs2
            have e1 := u8_127 c x0 x1
            obtain ⟨j1, j2, j3, j4⟩ := join_key k v' c hk9 v0 v1 x0 x1 (fun h => hbad (.inl h))
            have HBAD := Lib.hid hbad
            have hstp := fun n => hg.step (hf.drewN n) (a + (k + 1))
            clear hbad
            by_cases hk2 : k = 9
            · have H9 := Lib.hid hk2
              clear hk2
              go_wp2
              go_quiet (fail)
              go_wp2
              go_quiet (fail)
              have e9 : (((k : Nat) : Int) == 9) = true := by have := H9.out; simp; omega
              have e10 : decide ((1 : Int) < c) = false := by have := H9.out; simp; have := HBAD.out; omega
              have e11 : (c == 0) = false := by have := H9.out; simp; have := HBAD.out; omega
              have e12 : 0 < k := by have := H9.out; omega
              go_wp2
              exact bodyPost_ret (v := .tuple #[.int .u64 (v' + c % 128 * 128 ^ k), .int .i64 0]) (by simp [results, Tryd.results47, go_sem]) rfl ⟨rfl, by simpa using (hstp _).1, (hstp _).2⟩
            · have e9 : (((k : Nat) : Int) == 9) = false := by simp; omega
              by_cases hk0 : k = 0
              · have H0 := Lib.hid hk0
                clear hk0
                go_wp2
                go_quiet (fail)
                go_wp2
                go_quiet (fail)
                have e12 : ¬ 0 < k := by have := H0.out; omega
                go_wp2
                exact bodyPost_ret (v := .tuple #[.int .u64 (v' + c % 128 * 128 ^ k), .int .i64 0]) (by simp [results, Tryd.results47, go_sem]) rfl ⟨rfl, by simpa using (hstp _).1, (hstp _).2⟩
              · have e11 : 0 < k := by omega
                have e12 : (c == 0) = false := by simp; have := HBAD.out; omega
                go_wp2
                go_quiet (fail)
                go_wp2
                go_quiet (fail)
                go_wp2
                exact bodyPost_ret (v := .tuple #[.int .u64 (v' + c % 128 * 128 ^ k), .int .i64 0]) (by simp [results, Tryd.results47, go_sem]) rfl ⟨rfl, by simpa using (hstp _).1, (hstp _).2⟩
          · rw [if_neg h128] at hs2
            have e1 := u8_127 c x0 x1
            obtain ⟨j1, j2, j3, j4⟩ := join_key k v' c hk9 v0 v1 x0 x1 (fun h => hbad (.inl h))
            have e12 : (c == 0) = false := by simp; omega
            have h8 : k ≤ 8 := by omega
            have e9 : (((k : Nat) : Int) == 9) = false := by simp; omega
            replace hs2 := Lib.hid (show un (k + 1) (v' + c % 128 * 128 ^ k) (bs.drop (a + (k + 1))) = U from hs2)
            clear hbad
            by_cases hk0 : k = 0
            · have H0 := Lib.hid hk0
              clear hk0
              go_wp2
              go_quiet (fail)
              go_wp2
              go_quiet (fail)
              have e13 : ¬ 0 < k := by have := H0.out; omega
              go_wp2
              go_roundg (10 - (k + 1))
              case rel => exact ⟨k + 1, v' + c % 128 * 128 ^ k, by omega, by go_num, rfl, j2, j3, j4, by omega, hs2, hf.drewN _⟩
              case measure => omega
            · have e11 : 0 < k := by omega
              go_wp2
              go_quiet (fail)
              go_wp2
              go_quiet (fail)
              go_wp2
              go_roundg (10 - (k + 1))
              case rel => exact ⟨k + 1, v' + c % 128 * 128 ^ k, by omega, by go_num, rfl, j2, j3, j4, by omega, hs2, hf.drewN _⟩
              case measure => omega
      · have hab : a + k = bs.length := by omega
        have hs2 := hs.out
        rw [hab, List.drop_length, un, if_pos hk9] at hs2
        subst hs2
        have hg := HD.out
        have hge : (bs.length : Int) ≤ (a : Int) + (k : Int) := by omega
        clear hs
        go_wp2
        go_quiet (fail)
        go_wp2
        exact bodyPost_ret (v := .tuple #[.int .u64 0, .int .i64 3]) (by simp [results, Tryd.results47, go_sem]) rfl ⟨rfl, by simpa using hg.fr (hf.drewN _) (fun _ _ h => h), (hf.drewN _).mono (fun _ h _ => h.elim)⟩
    · obtain rfl : k = 10 := by omega
      have hs2 := hs.out
      have hg := HD.out
      obtain rfl : (0, 2, 0) = U := by
        rw [← hs2]
        generalize bs.drop (a + 10) = t
        cases t <;> simp [un]
      clear hs hs2
      go_wp2
      exact bodyPost_ret (v := .tuple #[.int .u64 0, .int .i64 2]) (by simp [results, Tryd.results47, go_sem]) rfl ⟨rfl, by simpa using hg.fr hf (fun _ _ h => h), hf.mono (fun _ h _ => h.elim)⟩

end Go.Proofs.YtcbhddajkleleaaDoor.Codec
