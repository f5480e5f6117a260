import Derived.Test.YtcbhddajkleleaaDoorCodecD
/-! Contracts of package codec: reading numbers and texts. -/
set_option linter.unusedVariables false
set_option linter.unusedSimpArgs false
namespace Go.Proofs.YtcbhddajkleleaaDoor.Codec
open Go.RowKit Go.Proofs.YtcbhddajkleleaaDoorW.PrintWords Go.Proofs.YtcbhddajkleleaaDoor.B

/-- A number, read: its value, what is wrong, its bytes. -/
def unzig (u : Int) : Int := if u % 2 = 0 then u / 2 else -(u / 2) - 1
theorem unzig_zig (n : Int) : unzig (zig n) = n := by
  unfold unzig zig
  split <;> split <;> omega
theorem i64_xor0 (x : Int) (h0 : 0 ≤ x) (h1 : x < 9223372036854775808) : bits .xor .i64 x 0 = x := by
  have key : (BitVec.ofInt 64 x ^^^ BitVec.ofInt 64 0).toNat = (x % ((2 ^ 64 : Nat) : Int)).toNat := by
    rw [show BitVec.ofInt 64 0 = 0#64 by decide, BitVec.xor_zero, BitVec.toNat_ofInt]
  show IntKind.i64.wrap ((BitVec.ofInt 64 x ^^^ BitVec.ofInt 64 0).toNat : Nat) = x
  rw [key, IntKind.wrap_i64]
  omega
theorem i64_xor1 (x : Int) (h0 : 0 ≤ x) (h1 : x < 9223372036854775808) : bits .xor .i64 x (-1) = -x - 1 := by
  have key : (BitVec.ofInt 64 x ^^^ BitVec.ofInt 64 (-1)).toNat = 2 ^ 64 - 1 - (x % ((2 ^ 64 : Nat) : Int)).toNat := by
    rw [show BitVec.ofInt 64 (-1) = BitVec.allOnes 64 by decide, BitVec.xor_allOnes, BitVec.toNat_not, BitVec.toNat_ofInt]
  show IntKind.i64.wrap ((BitVec.ofInt 64 x ^^^ BitVec.ofInt 64 (-1)).toNat : Nat) = -x - 1
  rw [key, IntKind.wrap_i64]
  omega
theorem u64_and1 (u : Int) (h0 : 0 ≤ u) (h1 : u < 18446744073709551616) : bits .and .u64 u 1 = u % 2 := by
  rw [u64_and _ _ h0 h1 (by omega) (by omega), show (1 : Int).toNat = 1 by rfl, nat_mask1]
  omega
theorem unzig_bits (u : Int) (h0 : 0 ≤ u) (h1 : u < 18446744073709551616) : bits .xor .i64 (u / 2) (-(u % 2)) = unzig u := by
  unfold unzig
  by_cases h : u % 2 = 0
  · rw [if_pos h, h, show -(0 : Int) = 0 by rfl, i64_xor0 _ (by omega) (by omega)]
  · rw [if_neg h, show u % 2 = 1 by omega, i64_xor1 _ (by omega) (by omega)]
theorem un_range : ∀ (l : List Int) (i : Nat) (v : Int), 0 ≤ v → v < 128 ^ i → v < 18446744073709551616 → (∀ x ∈ l, 0 ≤ x ∧ x < 256) → 0 ≤ (un i v l).1 ∧ (un i v l).1 < 18446744073709551616 ∧ ((un i v l).2.1 = 0 ∨ (un i v l).2.1 = 2 ∨ (un i v l).2.1 = 3) ∧ (un i v l).2.2 ≤ i + l.length
  | [], i, v, _, _, _, _ => by unfold un; split <;> simp
  | c :: r, i, v, h0, h1, h2, hx => by
    obtain ⟨c0, c1⟩ := hx c (by simp)
    unfold un
    split
    · simp
    · split
      · simp
      · rename_i h3 h4
        obtain ⟨_, j2, j3, j4⟩ := join_key i v c (by omega) h0 h1 c0 c1 (fun h => h4 (.inl h))
        split
        · simp [j2, j4]
        · have := un_range r (i + 1) _ j2 j3 j4 (fun x hm => hx x (by simp [hm]))
          simp only [List.length_cons]
          omega
theorem un_err : ∀ (l : List Int) (i : Nat) (v : Int), (un i v l).2.1 ≠ 0 → (un i v l).2.2 = 0
  | [], i, v, h => by unfold un; split <;> rfl
  | c :: r, i, v, h => by
    unfold un at h ⊢
    split
    · rfl
    · split
      · rfl
      · split
        · rename_i h1 h2 h3
          rw [if_neg h1, if_neg h2, if_pos h3] at h
          exact absurd rfl h
        · rename_i h1 h2 h3
          rw [if_neg h1, if_neg h2, if_neg h3] at h
          exact un_err r _ _ h
/-- What is read at a place, if nothing was wrong before: the number, the place behind, what is wrong. -/
def dInt (bs : List Int) (a : Int) : Int × Int × Option (Int × Int) :=
  let r := un 0 0 (bs.drop a.toNat)
  if r.2.1 = 0 then (unzig r.1, a + r.2.2, none) else (0, a, some (a, r.2.1))
theorem dInt_yes (B : Nat) (bs : List Int) (a0 : Int) (w : World) (ok : Nat → Prop) (h : Decs w ok B bs a0 none) (h1 : 0 ≤ a0) (h2 : a0 ≤ bs.length) (hl : bs.length ≤ 1000000000) (hbs : ∀ x ∈ bs, 0 ≤ x ∧ x < 256) :
    Calls Tryd.prog 28 #[.pointer (some ⟨B, 0, none⟩)] w fun e w' => e = .returned (.int .i64 (dInt bs a0).1) ∧ Decs w' (ext ok w) B bs (dInt bs a0).2.1 (dInt bs a0).2.2 ∧ Fr (one B) w w' := by
  have hd := h
  obtain ⟨v, ev, hB, hokB, hR, rfl⟩ := h
  have hc1 := blk_cell hB 1
  have hc2 := blk_cell hB 2
  simp at hc1 hc2
  have HD := Lib.hid hd
  obtain ⟨r1, r2, r3, r4⟩ := un_range (bs.drop a0.toNat) 0 0 (by omega) (by decide) (by omega) (fun x hx => hbs x (List.mem_of_mem_drop hx))
  have hu := uint_c B bs a0 none w ok hd h1 h2 hl hbs
  have hue := un_err (bs.drop a0.toNat) 0 0
  obtain ⟨T, hT⟩ : ∃ T, un 0 0 (bs.drop a0.toNat) = T := ⟨_, rfl⟩
  unfold dInt
  rw [hT] at hu r1 r2 r3 r4 hue ⊢
  obtain ⟨u, code, n⟩ := T
  simp only [List.length_drop] at r1 r2 r3 r4 hu hue ⊢
  have HU := Lib.hid hu
  clear hu hd hT
  have e1 := u64_and1 u r1 r2
  have e2 := unzig_bits u r1 r2
  by_cases hc : code = 0
  · subst hc
    rw [if_pos rfl]
    go_enter Tryd.func28, Tryd.ntmps28
    go_wp2_with (go_at_call 47; refine HU.out.mono ?_; rintro e w1 ⟨rfl, hD, hf⟩; dsimp only)
    go_ret
    exact ⟨by simp [e2], hD.mono (fun _ => ext_ok), hf⟩
  · rw [if_neg hc]
    obtain rfl : n = 0 := hue hc
    have ec : (code == 0) = false := by simp [hc]
    go_enter Tryd.func28, Tryd.ntmps28
    go_wp2_with (first
      | (go_at_call 47; refine HU.out.mono ?_; rintro e w1 ⟨rfl, hD, hf⟩; dsimp only)
      | (go_at_call 48; refine (fail_c B bs _ a0 code none w1 ok hD).mono ?_; rintro e w2 ⟨rfl, hD2, hf2⟩; dsimp only))
    go_ret
    exact ⟨rfl, by simpa using hD2.mono (ok' := ext ok w) (fun k hk => hk.elim .inl (fun h => .inr (Nat.le_trans hf.size h))), hf.trans' hf2⟩
theorem dInt_no (B : Nat) (bs : List Int) (a0 : Int) (x : Int × Int) (w : World) (ok : Nat → Prop) (h : Decs w ok B bs a0 (some x)) :
    Calls Tryd.prog 28 #[.pointer (some ⟨B, 0, none⟩)] w fun e w' => e = .returned (.int .i64 0) ∧ w = w' := by
  obtain ⟨x1, x2⟩ := x
  obtain ⟨v, ev, hB, hokB, hR, F, rfl, hF⟩ := h
  have hc2 := blk_cell hB 2
  simp at hc2
  go_enter Tryd.func28, Tryd.ntmps28
  go_wp2
  go_ret
  exact ⟨rfl, rfl⟩

/-- A text, read. -/
def dRaw (bs : List Int) (a : Int) : List Int × Int × Option (Int × Int) :=
  let r := dInt bs a
  if r.2.2.isSome then ([], r.2.1, r.2.2) else if r.1 < 0 then ([], r.2.1, some (a, 2)) else if bs.length - r.2.1 < r.1 then ([], r.2.1, some (a, 3)) else ((bs.take (r.2.1 + r.1).toNat).drop r.2.1.toNat, r.2.1 + r.1, none)
theorem dInt_range (bs : List Int) (a0 : Int) (h1 : 0 ≤ a0) (h2 : a0 ≤ bs.length) (hbs : ∀ x ∈ bs, 0 ≤ x ∧ x < 256) : a0 ≤ (dInt bs a0).2.1 ∧ (dInt bs a0).2.1 ≤ bs.length ∧ -9223372036854775808 ≤ (dInt bs a0).1 ∧ (dInt bs a0).1 ≤ 9223372036854775807 := by
  obtain ⟨r1, r2, r3, r4⟩ := un_range (bs.drop a0.toNat) 0 0 (by omega) (by decide) (by omega) (fun x hx => hbs x (List.mem_of_mem_drop hx))
  simp only [List.length_drop] at r4
  unfold dInt
  dsimp only
  split
  · simp only
    unfold unzig
    split <;> omega
  · simp only
    omega
theorem clone_n (A : Option Addr) (n c : Nat) (p : List Int) (w : World) (hC : (Kd.int .u8).C w A p.length p) (hn : n = p.length) (hc : p.length ≤ c) (hl : p.length ≤ 1000000000) :
    Calls Tryd.prog 38 #[.slice A n c] w fun e w' => ∃ v, e = .returned v ∧ (Kd.int .u8).R 5 w' 0 (since w) v p ∧ Fr no w w' := by
  subst hn
  exact clone_c A c p w hC hc hl
def RawOut (w : World) (ok : Nat → Prop) (B : Nat) (bs : List Int) (r : List Int × Int × Option (Int × Int)) (e : Ending) (w' : World) : Prop :=
  ∃ A c, e = .returned (.slice A r.1.length r.1.length) ∧ (Kd.int .u8).R 5 w' 0 (since w) (.slice A r.1.length c) r.1 ∧ Decs w' (ext ok w) B bs r.2.1 r.2.2 ∧ Fr (one B) w w'
end Go.Proofs.YtcbhddajkleleaaDoor.Codec
