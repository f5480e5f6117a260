import Derived.Test.YtdkkdoadafhfmaaCodecD
/-! Contracts of package codec: reading numbers and texts. -/
set_option linter.unusedVariables false
set_option linter.unusedSimpArgs false
namespace Go.Proofs.Ytdkkdoadafhfmaa.Codec
open Go.RowKit Go.Proofs.YtdkkdoadafhfmaaW.PrintWords Go.Proofs.Ytdkkdoadafhfmaa.B

/-- A number, read: its value, what is wrong, its bytes. -/
def unzig (u : Int) : Int := if u % 2 = 0 then u / 2 else -(u / 2) - 1
theorem unzig_zig (n : Int) : unzig (zig n) = n := by
  unfold unzig zig
  split <;> split <;> omega
theorem i64_xor0 (x : Int) (h0 : 0 ≤ x) (h1 : x < 9223372036854775808) : bits .xor .i64 x 0 = x := by
  have key : (BitVec.ofInt 64 x ^^^ BitVec.ofInt 64 0).toNat = (x % ((2 ^ 64 : Nat) : Int)).toNat := by
    rw [show BitVec.ofInt 64 0 = 0#64 by decide, BitVec.xor_zero, BitVec.toNat_ofInt]
  show IntKind.i64.wrap ((BitVec.ofInt 64 x ^^^ BitVec.ofInt 64 0).toNat : Nat) = x
  rw [key, IntKind.wrap_i64]
  omega
theorem i64_xor1 (x : Int) (h0 : 0 ≤ x) (h1 : x < 9223372036854775808) : bits .xor .i64 x (-1) = -x - 1 := by
  have key : (BitVec.ofInt 64 x ^^^ BitVec.ofInt 64 (-1)).toNat = 2 ^ 64 - 1 - (x % ((2 ^ 64 : Nat) : Int)).toNat := by
    rw [show BitVec.ofInt 64 (-1) = BitVec.allOnes 64 by decide, BitVec.xor_allOnes, BitVec.toNat_not, BitVec.toNat_ofInt]
  show IntKind.i64.wrap ((BitVec.ofInt 64 x ^^^ BitVec.ofInt 64 (-1)).toNat : Nat) = -x - 1
  rw [key, IntKind.wrap_i64]
  omega
theorem u64_and1 (u : Int) (h0 : 0 ≤ u) (h1 : u < 18446744073709551616) : bits .and .u64 u 1 = u % 2 := by
  rw [u64_and _ _ h0 h1 (by omega) (by omega), show (1 : Int).toNat = 1 by rfl, nat_mask1]
  omega
theorem unzig_bits (u : Int) (h0 : 0 ≤ u) (h1 : u < 18446744073709551616) : bits .xor .i64 (u / 2) (-(u % 2)) = unzig u := by
  unfold unzig
  by_cases h : u % 2 = 0
  · rw [if_pos h, h, show -(0 : Int) = 0 by rfl, i64_xor0 _ (by omega) (by omega)]
  · rw [if_neg h, show u % 2 = 1 by omega, i64_xor1 _ (by omega) (by omega)]
theorem un_range : ∀ (l : List Int) (i : Nat) (v : Int), 0 ≤ v → v < 128 ^ i → v < 18446744073709551616 → (∀ x ∈ l, 0 ≤ x ∧ x < 256) → 0 ≤ (un i v l).1 ∧ (un i v l).1 < 18446744073709551616 ∧ ((un i v l).2.1 = 0 ∨ (un i v l).2.1 = 2 ∨ (un i v l).2.1 = 3) ∧ (un i v l).2.2 ≤ i + l.length
  | [], i, v, _, _, _, _ => by unfold un; split <;> simp
  | c :: r, i, v, h0, h1, h2, hx => by
    obtain ⟨c0, c1⟩ := hx c (by simp)
    unfold un
    split
    · simp
    · split
      · simp
      · rename_i h3 h4
        obtain ⟨_, j2, j3, j4⟩ := join_key i v c (by omega) h0 h1 c0 c1 (fun h => h4 (.inl h))
        split
        · simp [j2, j4]
        · have := un_range r (i + 1) _ j2 j3 j4 (fun x hm => hx x (by simp [hm]))
          simp only [List.length_cons]
          omega
theorem un_err : ∀ (l : List Int) (i : Nat) (v : Int), (un i v l).2.1 ≠ 0 → (un i v l).2.2 = 0
  | [], i, v, h => by unfold un; split <;> rfl
  | c :: r, i, v, h => by
    unfold un at h ⊢
    split
    · rfl
    · split
      · rfl
      · split
        · rename_i h1 h2 h3
          rw [if_neg h1, if_neg h2, if_pos h3] at h
          exact absurd rfl h
        · rename_i h1 h2 h3
          rw [if_neg h1, if_neg h2, if_neg h3] at h
          exact un_err r _ _ h
/-- What is read at a place, if nothing was wrong before: the number, the place behind, what is wrong. -/
def dInt (bs : List Int) (a : Int) : Int × Int × Option (Int × Int) :=
  let r := un 0 0 (bs.drop a.toNat)
  if r.2.1 = 0 then (unzig r.1, a + r.2.2, none) else (0, a, some (a, r.2.1))
theorem dInt_yes (B : Nat) (bs : List Int) (a0 : Int) (w : World) (ok : Nat → Prop) (h : Decs w ok B bs a0 none) (h1 : 0 ≤ a0) (h2 : a0 ≤ bs.length) (hl : bs.length ≤ 1000000000) (hbs : ∀ x ∈ bs, 0 ≤ x ∧ x < 256) :
    Calls Try.prog 19 #[.pointer (some ⟨B, 0, none⟩)] w fun e w' => e = .returned (.int .i64 (dInt bs a0).1) ∧ Decs w' (ext ok w) B bs (dInt bs a0).2.1 (dInt bs a0).2.2 ∧ Fr (one B) w w' := by
  have hd := h
  obtain ⟨v, ev, hB, hokB, hR, rfl⟩ := h
  have hc1 := blk_cell hB 1
  have hc2 := blk_cell hB 2
  simp at hc1 hc2
  have HD := Lib.hid hd
  obtain ⟨r1, r2, r3, r4⟩ := un_range (bs.drop a0.toNat) 0 0 (by omega) (by decide) (by omega) (fun x hx => hbs x (List.mem_of_mem_drop hx))
  have hu := uint_c B bs a0 none w ok hd h1 h2 hl hbs
  have hue := un_err (bs.drop a0.toNat) 0 0
  obtain ⟨T, hT⟩ : ∃ T, un 0 0 (bs.drop a0.toNat) = T := ⟨_, rfl⟩
  unfold dInt
  rw [hT] at hu r1 r2 r3 r4 hue ⊢
  obtain ⟨u, code, n⟩ := T
  simp only [List.length_drop] at r1 r2 r3 r4 hu hue ⊢
  have HU := Lib.hid hu
  clear hu hd hT
  have e1 := u64_and1 u r1 r2
  have e2 := unzig_bits u r1 r2
  by_cases hc : code = 0
  · subst hc
    rw [if_pos rfl]
    go_enter Try.func19, Try.ntmps19
    go_wp2_with (go_at_call 35; refine HU.out.mono ?_; rintro e w1 ⟨rfl, hD, hf⟩; dsimp only)
    go_ret
    exact ⟨by simp [e2], hD.mono (fun _ => ext_ok), hf⟩
  · rw [if_neg hc]
    obtain rfl : n = 0 := hue hc
    have ec : (code == 0) = false := by simp [hc]
    go_enter Try.func19, Try.ntmps19
    go_wp2_with (first
      | (go_at_call 35; refine HU.out.mono ?_; rintro e w1 ⟨rfl, hD, hf⟩; dsimp only)
      | (go_at_call 36; refine (fail_c B bs _ a0 code none w1 ok hD).mono ?_; rintro e w2 ⟨rfl, hD2, hf2⟩; dsimp only))
    go_ret
    exact ⟨rfl, by simpa using hD2.mono (ok' := ext ok w) (fun k hk => hk.elim .inl (fun h => .inr (Nat.le_trans hf.size h))), hf.trans' hf2⟩
theorem dInt_no (B : Nat) (bs : List Int) (a0 : Int) (x : Int × Int) (w : World) (ok : Nat → Prop) (h : Decs w ok B bs a0 (some x)) :
    Calls Try.prog 19 #[.pointer (some ⟨B, 0, none⟩)] w fun e w' => e = .returned (.int .i64 0) ∧ w = w' := by
  obtain ⟨x1, x2⟩ := x
  obtain ⟨v, ev, hB, hokB, hR, F, rfl, hF⟩ := h
  have hc2 := blk_cell hB 2
  simp at hc2
  go_enter Try.func19, Try.ntmps19
  go_wp2
  go_ret
  exact ⟨rfl, rfl⟩

/-- A text, read. -/
def dRaw (bs : List Int) (a : Int) : List Int × Int × Option (Int × Int) :=
  let r := dInt bs a
  if r.2.2.isSome then ([], r.2.1, r.2.2) else if r.1 < 0 then ([], r.2.1, some (a, 2)) else if bs.length - r.2.1 < r.1 then ([], r.2.1, some (a, 3)) else ((bs.take (r.2.1 + r.1).toNat).drop r.2.1.toNat, r.2.1 + r.1, none)
theorem dInt_range (bs : List Int) (a0 : Int) (h1 : 0 ≤ a0) (h2 : a0 ≤ bs.length) (hbs : ∀ x ∈ bs, 0 ≤ x ∧ x < 256) : a0 ≤ (dInt bs a0).2.1 ∧ (dInt bs a0).2.1 ≤ bs.length ∧ -9223372036854775808 ≤ (dInt bs a0).1 ∧ (dInt bs a0).1 ≤ 9223372036854775807 := by
  obtain ⟨r1, r2, r3, r4⟩ := un_range (bs.drop a0.toNat) 0 0 (by omega) (by decide) (by omega) (fun x hx => hbs x (List.mem_of_mem_drop hx))
  simp only [List.length_drop] at r4
  unfold dInt
  dsimp only
  split
  · simp only
    unfold unzig
    split <;> omega
  · simp only
    omega
theorem clone_n (A : Option Addr) (n c : Nat) (p : List Int) (w : World) (hC : (Kd.int .u8).C w A p.length p) (hn : n = p.length) (hc : p.length ≤ c) (hl : p.length ≤ 1000000000) :
    Calls Try.prog 34 #[.slice A n c] w fun e w' => ∃ v, e = .returned v ∧ (Kd.int .u8).R 5 w' 0 (since w) v p ∧ Fr no w w' := by
  subst hn
  exact clone_c A c p w hC hc hl
def RawOut (w : World) (ok : Nat → Prop) (B : Nat) (bs : List Int) (r : List Int × Int × Option (Int × Int)) (e : Ending) (w' : World) : Prop :=
  ∃ A c, e = .returned (.slice A r.1.length r.1.length) ∧ (Kd.int .u8).R 5 w' 0 (since w) (.slice A r.1.length c) r.1 ∧ Decs w' (ext ok w) B bs r.2.1 r.2.2 ∧ Fr (one B) w w'
theorem dRaw_yes (B : Nat) (bs : List Int) (a0 : Int) (w : World) (ok : Nat → Prop) (h : Decs w ok B bs a0 none) (h1 : 0 ≤ a0) (h2 : a0 ≤ bs.length) (hl : bs.length ≤ 1000000000) (hbs : ∀ x ∈ bs, 0 ≤ x ∧ x < 256) :
    Calls Try.prog 32 #[.pointer (some ⟨B, 0, none⟩)] w (RawOut w ok B bs (dRaw bs a0)) := by
  have hi := dInt_yes B bs a0 w ok h h1 h2 hl hbs
  obtain ⟨r1, r2, r3, r4⟩ := dInt_range bs a0 h1 h2 hbs
  obtain ⟨v, ev, hB, hokB, hR, rfl⟩ := h
  have hc1 := blk_cell hB 1
  simp at hc1
  have HI := Lib.hid hi
  clear hi
  unfold dRaw
  obtain ⟨T, hT⟩ : ∃ T, dInt bs a0 = T := ⟨_, rfl⟩
  rw [hT] at HI r1 r2 r3 r4 ⊢
  obtain ⟨n, a1, er⟩ := T
  dsimp only at HI r1 r2 r3 r4 ⊢
  clear hT
  match er with
  | some (x1, x2) =>
    rw [if_pos (show (some (x1, x2)).isSome = true from rfl)]
    go_enter Try.func32, Try.ntmps32
    go_wp2_with (go_at_call 19; refine HI.out.mono ?_; rintro e w1 ⟨rfl, hD, hf⟩; (obtain ⟨v2, ev2, hB2, hokB2, hR2, F, rfl, hF, hF2⟩ := id hD); (have hk2 := blk_cell hB2 2); (simp at hk2); dsimp only)
    go_ret
    exact ⟨_, _, rfl, Kd.R_nil _ _ _ _ _, hD, hf⟩
  | none =>
    rw [if_neg (by simp)]
    by_cases hn : n < 0
    · rw [if_pos hn]
      go_enter Try.func32, Try.ntmps32
      go_wp2_with (first
        | (go_at_call 19
           refine HI.out.mono ?_
           rintro e w1 ⟨rfl, hD, hf⟩
           obtain ⟨v2, ev2, hB2, hokB2, hR2, hE2⟩ := id hD
           obtain rfl : ev2 = .nilIface := hE2
           obtain ⟨A2, c2, rfl⟩ := Kd.R_slice hR2
           have hk0 := blk_cell hB2 0
           have hk1 := blk_cell hB2 1
           have hk2 := blk_cell hB2 2
           simp at hk0 hk1 hk2
           dsimp only)
        | (go_at_call 36; refine (fail_c B bs a1 a0 _ none _ _ hD).mono ?_; rintro e w2 ⟨rfl, hD2, hf2⟩; dsimp only))
      go_ret
      exact ⟨_, _, rfl, Kd.R_nil _ _ _ _ _, hD2.mono (ok' := ext ok w) (fun k hk => hk.elim id (fun h => .inr (Nat.le_trans hf.size h))), hf.trans' hf2⟩
    · rw [if_neg hn]
      have ed : decide (n < 0) = false := by simpa using hn
      by_cases hm : bs.length - a1 < n
      · rw [if_pos hm]
        go_enter Try.func32, Try.ntmps32
        go_wp2_with
          (first
           | (go_at_call 19
              refine HI.out.mono ?_
              rintro e w1 ⟨rfl, hD, hf⟩
              obtain ⟨v2, ev2, hB2, hokB2, hR2, hE2⟩ := id hD
              obtain rfl : ev2 = .nilIface := hE2
              obtain ⟨A2, c2, rfl⟩ := Kd.R_slice hR2
              have hk0 := blk_cell hB2 0
              have hk1 := blk_cell hB2 1
              have hk2 := blk_cell hB2 2
              simp at hk0 hk1 hk2
              dsimp only)
           | (fail))
        go_quiet (fail)
        go_wp2_with (go_at_call 36; refine (fail_c B bs a1 a0 _ none _ _ (hD.fr ((Fr.refl no w1).drewN nq) (fun _ _ h => h))).mono ?_; rintro e w2 ⟨rfl, hD2, hf2⟩; dsimp only)
        go_ret
        exact ⟨_, _, rfl, Kd.R_nil _ _ _ _ _, hD2.mono (ok' := ext ok w) (fun k hk => hk.elim id (fun h => .inr (Nat.le_trans hf.size h))), hf.trans' (((Fr.refl (one B) w1).drewN nq).trans' hf2)⟩
      · rw [if_neg hm]
        go_enter Try.func32, Try.ntmps32
        go_wp2_with
          (first
           | (go_at_call 19
              refine HI.out.mono ?_
              rintro e w1 ⟨rfl, hD, hf⟩
              obtain ⟨v2, ev2, hB2, hokB2, hR2, hE2⟩ := id hD
              obtain rfl : ev2 = .nilIface := hE2
              obtain ⟨A2, c2, rfl⟩ := Kd.R_slice hR2
              have hk0 := blk_cell hB2 0
              have hk1 := blk_cell hB2 1
              have hk2 := blk_cell hB2 2
              simp at hk0 hk1 hk2
              dsimp only)
           | (fail))
        go_quiet (fail)
        go_wp2
        obtain ⟨cap1, cap2⟩ := R_cap hR2
        have e1 : IntKind.i64.wrap (a1 + n) = a1 + n := IntWalk.i64_in _ (by omega)
        have e2 : 0 ≤ a1 + n := by omega
        have e3 : a1 + n ≤ (c2 : Int) := by omega
        have e4 : 0 ≤ a1 := by omega
        have e5 : a1 ≤ a1 + n := by omega
        obtain ⟨_, _, hCb⟩ := Kd.R_reads' hR2
        have hA := Kd.C_mid (c := c2) (lo := a1.toNat) (hi := (a1 + n).toNat) hCb (by omega) (by omega) cap1
        obtain ⟨p, hp⟩ : ∃ p, (bs.take (a1 + n).toNat).drop a1.toNat = p := ⟨_, rfl⟩
        have hpl : (a1 + n).toNat - a1.toNat = p.length := by rw [← hp, List.length_drop, List.length_take]; omega
        have hpl2 : p.length ≤ 1000000000 := by omega
        have hpl3 : p.length ≤ c2 - a1.toNat := by omega
        rw [hp] at hA ⊢
        rw [show a1.toNat * (Kd.int .u8).sz = a1.toNat from Nat.mul_one _] at hA
        have HP := Lib.hid hp
        clear hp
        go_region_held3 (fun W => W.cell? ⟨B, 0, none⟩ = some (.slice A2 bs.length c2) ∧ W.cell? ⟨B, 1, none⟩ = some (.int .i64 a1) ∧ Fr no w1 W)
          (refine ⟨?_, ?_, ?_⟩ <;> first | assumption | (simp [*]; done) | exact Fr.drew (by assumption) | exact Fr.drew (Fr.drewN (Fr.refl _ _) _))
          (first
           | (go_at_call 34
              refine (clone_n _ _ _ p _ (Kd.C_drewN hA _) rfl hpl3 hpl2).mono ?_
              rintro e w2 ⟨v, rfl, h1, hf1⟩
              obtain ⟨A4, c4, rfl⟩ := Kd.R_slice h1
              have q0 : w2.cell? ⟨B, 0, none⟩ = some (.slice A2 bs.length c2) := hf1.cell (p := ⟨B, 0, none⟩) (by simpa using hk0) (fun h => h)
              have q1 : w2.cell? ⟨B, 1, none⟩ = some (.int .i64 a1) := hf1.cell (p := ⟨B, 1, none⟩) (by simpa using hk1) (fun h => h)
              have q2 : Fr no w1 w2 := ((Fr.refl no w1).drewN _).trans' hf1
              dsimp only)
           | (go_at_call 33; refine (clipB_c A4 p.length c4 (R_cap h1).1 (R_cap h1).2 _).mono ?_; rintro e w3 ⟨rfl, rfl⟩; dsimp only))
        have hb2 := q2.heap hB2 (fun h => h)
        have hz1 := blk_frozen hb2 1
        obtain ⟨d1, d2⟩ := hD.step q2 (a1 + n)
        have hbl := blk_lt hB2
        go_wp2
        all_goals
          go_ret
          have hp2 := HP.out
          subst hp2
          refine ⟨A4, c4, rfl, ?_, d1, hf.trans' d2⟩
          exact Kd.R_mono (R_fr h1 ((Fr.refl (one B) w2).set (p := ⟨B, 1, none⟩) (fun _ => rfl) _) (fun k hk he => by have hk' : w1.heap.size ≤ k := hk; have he' : k = B := he; omega)) (fun k hk => Nat.le_trans hf.size hk)
theorem dRaw_no (B : Nat) (bs : List Int) (a0 : Int) (x : Int × Int) (w : World) (ok : Nat → Prop) (h : Decs w ok B bs a0 (some x)) :
    Calls Try.prog 32 #[.pointer (some ⟨B, 0, none⟩)] w fun e w' => e = .returned (.slice none 0 0) ∧ w = w' := by
  have hi := dInt_no B bs a0 x w ok h
  obtain ⟨x1, x2⟩ := x
  obtain ⟨v, ev, hB, hokB, hR, F, rfl, hF⟩ := h
  have hc1 := blk_cell hB 1
  have hc2 := blk_cell hB 2
  simp at hc1 hc2
  go_enter Try.func32, Try.ntmps32
  go_wp2_with (go_at_call 19; refine hi.mono ?_; rintro e w' ⟨rfl, rfl⟩; dsimp only)
  go_ret
  exact ⟨rfl, rfl⟩
end Go.Proofs.Ytdkkdoadafhfmaa.Codec
