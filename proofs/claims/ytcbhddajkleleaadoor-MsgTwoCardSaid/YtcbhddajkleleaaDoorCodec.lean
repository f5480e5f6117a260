import Derived.Test.YtcbhddajkleleaaDoorOpen
import Derived.Laws.BitsLemmas
import Derived.Laws.BitsAllLaws
/-! Contracts of package codec: writing. -/
set_option linter.unusedVariables false
set_option linter.unusedSimpArgs false
namespace Go.Proofs.YtcbhddajkleleaaDoor.Codec
open Go.RowKit Go.Proofs.YtcbhddajkleleaaDoorW.PrintWords Go.Proofs.YtcbhddajkleleaaDoor.B

theorem info8 : (Tryd.prog.info? 5).map (fun i => (i.zero, i.size, i.bytes)) = some (some (.int .u8 0), 1, 1) := by kernel_rfl

/-- A number without a sign, seven bits a byte. -/
def enc (u : Int) : List Int := if h : u < 128 then [u] else (u % 128 + 128) :: enc (u / 128)
termination_by u.toNat
decreasing_by omega
/-- A number's bytes: the sign last. -/
def zig (n : Int) : Int := if 0 ≤ n then 2 * n else -2 * n - 1
def encI (n : Int) : List Int := enc (zig n)

/-- What is written: bytes in a row of its own. -/
def Encs (w : World) (ok : Nat → Prop) (B : Nat) (bs : List Int) : Prop :=
  ∃ v, w.heap[B]? = some (.cells #[v] 57 (0, 0)) ∧ ok B ∧ (Kd.int .u8).R 5 w 0 (fun k => ok k ∧ k ≠ B) v bs
theorem Encs.fr {w w1 : World} {ok S : Nat → Prop} {B : Nat} {L : List Int} (h : Encs w ok B L) (hf : Fr S w w1) (hn : ∀ k, ok k → ¬ S k) : Encs w1 ok B L := by
  obtain ⟨v, h1, h2, h3⟩ := h
  exact ⟨v, hf.heap h1 (hn B h2), h2, R_fr h3 hf (fun k hk => hn k hk.1)⟩
theorem Encs.mono {w : World} {ok ok' : Nat → Prop} {B : Nat} {L : List Int} (h : Encs w ok B L) (hn : ∀ k, ok k → ok' k) : Encs w ok' B L := by
  obtain ⟨v, h1, h2, h3⟩ := h
  exact ⟨v, h1, hn B h2, Kd.R_mono h3 (fun k hk => ⟨hn k hk.1, hk.2⟩)⟩
theorem Encs.lt {w : World} {ok : Nat → Prop} {B : Nat} {L : List Int} (h : Encs w ok B L) : Encs w (fun k => ok k ∧ k < w.heap.size) B L := by
  obtain ⟨v, h1, h2, h3⟩ := h
  exact ⟨v, h1, ⟨h2, blk_lt h1⟩, Kd.R_mono (R_lt' h3) (fun k hk => ⟨⟨hk.1.1, hk.2⟩, hk.1.2⟩)⟩

/-- An append, behind which the new row is stored. -/
theorem Encs.stored {w wr w1 : World} {ok : Nat → Prop} {B n c : Nat} {A : Option Addr} {v : Value} {L : List Int} (hb2 : w1.heap[B]? = some (.cells #[v] 57 (0, 0))) (hB : ext ok w B) (hf : Fr ok w wr) (hf1 : Fr (fun b => ext ok w b ∧ b ≠ B) wr w1)
    (ho : (Kd.int .u8).R 5 w1 0 (fun b => ext ok w b ∧ b ≠ B) (.slice A n c) L) : Encs (w1.setCell ⟨B, 0, none⟩ (.slice A n c)) (ext ok w) B L ∧ Fr ok w (w1.setCell ⟨B, 0, none⟩ (.slice A n c)) :=
  ⟨⟨_, blk_put hb2 0 _ rfl, hB, Kd.R_far (p := ⟨B, 0, none⟩) ho (fun k hk => hk.2) _⟩, (hf.transE (hf1.mono (fun _ h _ => h.1))).set (fun hl => hB.elim id (fun h => absurd hl (Nat.not_lt.2 h))) _⟩

theorem i64_at {w : World} {A : Option Addr} {xs : List Int} (hC : (Kd.int .i64).C w A xs.length xs) (k : Nat) (h : k < xs.length) : ∃ ad, A = some ad ∧ w.cell? (ad.add k) = some (.int .i64 xs[k]) := by
  obtain ⟨ad, h1, h2⟩ := Kd.at_int hC (k : Int) (by omega) (by omega)
  refine ⟨ad, h1, ?_⟩
  rw [Int.toNat_natCast] at h2
  rw [h2]
  simp [rd, h]

theorem nat_xor_ones (a : Nat) (h : a < 18446744073709551616) : a ^^^ 18446744073709551615 = 18446744073709551615 - a := by
  have h1 : (BitVec.ofNat 64 a ^^^ BitVec.allOnes 64).toNat = 2 ^ 64 - 1 - (BitVec.ofNat 64 a).toNat := by rw [BitVec.xor_allOnes, BitVec.toNat_not]
  rw [BitVec.toNat_xor, BitVec.toNat_allOnes, BitVec.toNat_ofNat, Nat.mod_eq_of_lt (by simpa using h)] at h1
  simpa using h1
theorem wrap_u64 (n : Int) : IntKind.u64.wrap n = n % 18446744073709551616 := by simp [IntKind.wrap, IntKind.bits, IntKind.signed]
theorem zig_bits (n : Int) (h1 : -9223372036854775808 ≤ n) (h2 : n ≤ 9223372036854775807) : bits .xor .u64 (IntKind.u64.wrap (IntKind.u64.wrap n * 2)) (IntKind.u64.wrap (n / 9223372036854775808)) = zig n := by
  simp only [wrap_u64]
  by_cases h : 0 ≤ n
  · rw [show n / 9223372036854775808 = 0 by omega, show n % 18446744073709551616 * 2 % 18446744073709551616 = 2 * n by omega]
    rw [show (0 : Int) % 18446744073709551616 = 0 by rfl, u64_xor _ _ (by omega) (by omega) (by omega) (by omega)]
    simp [zig, h]
    omega
  · rw [show n / 9223372036854775808 = -1 by omega, show (-1 : Int) % 18446744073709551616 = 18446744073709551615 by rfl]
    rw [u64_xor _ _ (by omega) (by omega) (by omega) (by omega), show (18446744073709551615 : Int).toNat = 18446744073709551615 by rfl, nat_xor_ones _ (by omega)]
    simp only [zig, h, if_false]
    omega
theorem zig_range (n : Int) (h1 : -9223372036854775808 ≤ n) (h2 : n ≤ 9223372036854775807) : 0 ≤ zig n ∧ zig n < 18446744073709551616 := by
  unfold zig
  split <;> omega
theorem and127 (u : Int) (h1 : 0 ≤ u) (h2 : u < 18446744073709551616) : bits .and .u64 u 127 = u % 128 := by
  rw [u64_and _ _ h1 h2 (by omega) (by omega), show (127 : Int).toNat = 127 by rfl, nat_mask7]
  omega
theorem or128 (u : Int) : bits .or .u8 (u % 128) 128 = u % 128 + 128 := by
  rw [u8_or _ _ (by omega) (by omega) (by omega) (by omega), show (128 : Int).toNat = 128 by rfl, Nat.or_comm, nat_join 7 _ _ (by decide) (by omega)]
  omega
theorem enc_ge (u : Int) (h : 128 ≤ u) : enc u = (u % 128 + 128) :: enc (u / 128) := by rw [enc, dif_neg (by omega)]
theorem enc_lt (u : Int) (h : u < 128) : enc u = [u] := by rw [enc, dif_pos h]
/-- A number below 2^(7 j) has at most j bytes. -/
theorem enc_len : ∀ (j : Nat) (u : Int), u < 128 ^ (j + 1) → (enc u).length ≤ j + 1
  | 0, u, h => by rw [enc_lt u (by omega)]; simp
  | j + 1, u, h => by
    by_cases hu : u < 128
    · rw [enc_lt u hu]; simp
    · rw [enc_ge u (by omega)]
      have := enc_len j (u / 128) (by rw [Int.pow_succ] at h; omega)
      simp
      omega

theorem encI_len (n : Int) (h1 : -9223372036854775808 ≤ n) (h2 : n ≤ 9223372036854775807) : (encI n).length ≤ 10 := by
  obtain ⟨z0, z1⟩ := zig_range n h1 h2
  exact enc_len 9 _ (by omega)
theorem flat_len : ∀ (l : List Int), (∀ x ∈ l, -9223372036854775808 ≤ x ∧ x ≤ 9223372036854775807) → (l.flatMap encI).length ≤ 10 * l.length
  | [], _ => by simp
  | x :: r, h => by
    have h1 := flat_len r (fun y hy => h y (by simp [hy]))
    have h2 := encI_len x (h x (by simp)).1 (h x (by simp)).2
    simp only [List.flatMap_cons, List.length_append, List.length_cons]
    omega

set_option maxHeartbeats 1000000 in
theorem eInt_c (B : Nat) (A : Option Addr) (cap : Nat) (l bs : List Int) (w : World) (ok : Nat → Prop) (h : Encs w ok B bs) (hl : ∀ W, Fr ok w W → (Kd.int .i64).C W A l.length l) (hn : ∀ x ∈ l, -9223372036854775808 ≤ x ∧ x ≤ 9223372036854775807) (hlen : bs.length + 10 * l.length ≤ 1000000000) :
    Calls Tryd.prog 22 #[.pointer (some ⟨B, 0, none⟩), .slice A l.length cap] w fun e w' => e = .returned (.tuple #[]) ∧ Encs w' (ext ok w) B (bs ++ l.flatMap encI) ∧ Fr ok w w' := by
  have HL := Lib.hid hl
  have HN := Lib.hid hn
  have hfl : (bs ++ l.flatMap encI).length ≤ 1000000000 := by have := flat_len l hn; simp only [List.length_append]; omega
  have HF := Lib.hid hfl
  have hll : l.length ≤ 100000000 := by omega
  clear hl hn hlen hfl
  go_enter Tryd.func22, Tryd.ntmps22
  go_wp2
  go_loopg [9] l.length (fun q i wr => ∃ (k : Nat) (xs : List Int), k + q = l.length ∧ i = .int .i64 k ∧ Encs wr (ext ok w) B xs ∧ Hid (xs ++ (l.drop k).flatMap encI = bs ++ l.flatMap encI) ∧ Fr ok w wr)
  case atStart => exact ⟨0, bs, by omega, rfl, h.mono (fun _ => ext_ok), by simp [Hid], Fr.refl _ _⟩
  case round =>
    clear h
    obtain ⟨k, xs, hk, rfl, hE, hs, hf⟩ := hrel
    by_cases hlt : k < l.length
    · obtain ⟨ad, rfl, hc⟩ := i64_at (HL.out _ hf) k hlt
      obtain ⟨n0, n1⟩ := HN.out l[k] (List.getElem_mem hlt)
      have hs2 := hs.out
      rw [List.drop_eq_getElem_cons hlt, List.flatMap_cons] at hs2
      clear hs
      generalize l[k] = n at *
      replace hs2 := Lib.hid hs2
      have ez := zig_bits n n0 n1
      obtain ⟨z0, z1⟩ := zig_range n n0 n1
      go_wp2
      clear ez
      unfold encI at hs2
      generalize zig n = u at *
      go_loopg [6] u.toNat (fun q v wr => ∃ (u' : Int) (xs' : List Int), u'.toNat = q ∧ 0 ≤ u' ∧ u' < 18446744073709551616 ∧ v = .int .u64 u' ∧ Encs wr (ext ok w) B xs' ∧ Hid (xs' ++ (enc u' ++ (l.drop (k + 1)).flatMap encI) = bs ++ l.flatMap encI) ∧ Fr ok w wr)
      case atStart => exact ⟨u, xs, rfl, z0, z1, rfl, hE, hs2, hf⟩
      case round =>
        clear hE hs2 hf hc
        obtain ⟨u', xs', rfl, u0, u1, rfl, hE, hs, hf⟩ := hrel
        obtain ⟨v, hB, hokB, hR⟩ := hE
        obtain ⟨A1, c1, rfl⟩ := Kd.R_slice hR
        have hcB := blk_cell hB 0
        simp at hcB
        have hxl : xs'.length ≤ 1000000000 := by have h1 := congrArg List.length hs.out; have h2 := HF.out; simp only [List.length_append] at h1 h2; omega
        by_cases hu : 128 ≤ u'
        · have e1 := and127 u' u0 u1
          have e2 : IntKind.u8.wrap (u' % 128) = u' % 128 := by rw [IntKind.wrap_u8]; omega
          have e3 := or128 u'
          go_wp2_with (at_builtin; refine Kd.R_append (Kd.int .u8) (w0 := wr) 0 rfl (.tmp 26) (.tmp 31) 36 5 (.int .u8 0) 1 rfl Tryd.underlying36 info8 rfl (by decide) (by omega) _ xs' (u' % 128 + 128) [.int .u8 (u' % 128 + 128)] (fun b => ext ok w b ∧ b ≠ B) (fun _ => False) rfl rfl rfl (fun _ hk => hk.elim) (fun b hb => ⟨.inr (Nat.le_trans hf.size hb), fun he => by have := blk_lt hB; omega⟩) hR (Below.refl 0 _) (Nat.zero_le _) (by omega) ?_
                       intro v1 w1 ho hb1 hg hat
                       clear hat hb1
                       obtain ⟨A2, c2, rfl⟩ := Kd.R_slice ho
                       have hf1 : Fr (fun b => ext ok w b ∧ b ≠ B) wr w1 := Fr.of_grown hg (fun b hb _ => hR.1 b hb)
                       have hb2 := hf1.heap hB (fun h => h.2 rfl)
                       have hcB1 := blk_cell hb2 0
                       have hfB1 := blk_frozen hb2 0
                       simp at hcB1
                       rw [List.length_append] at ho)
          go_roundg (u' / 128).toNat
          case rel =>
            obtain ⟨h1, h2⟩ := Encs.stored hb2 hokB hf hf1 ho
            exact ⟨u' / 128, _, rfl, by omega, by omega, rfl, h1, by have := hs.out; rw [enc_ge u' hu] at this; show _ = _; simpa using this, h2⟩
          case measure => omega
        · have e2 : IntKind.u8.wrap u' = u' := by rw [IntKind.wrap_u8]; omega
          go_wp2_with (at_builtin; refine Kd.R_append (Kd.int .u8) (w0 := wr) 0 rfl (.tmp 41) (.tmp 44) 36 5 (.int .u8 0) 1 rfl Tryd.underlying36 info8 rfl (by decide) (by omega) _ xs' (u') [.int .u8 (u')] (fun b => ext ok w b ∧ b ≠ B) (fun _ => False) rfl rfl rfl (fun _ hk => hk.elim) (fun b hb => ⟨.inr (Nat.le_trans hf.size hb), fun he => by have := blk_lt hB; omega⟩) hR (Below.refl 0 _) (Nat.zero_le _) (by omega) ?_
                       intro v1 w1 ho hb1 hg hat
                       clear hat hb1
                       obtain ⟨A2, c2, rfl⟩ := Kd.R_slice ho
                       have hf1 : Fr (fun b => ext ok w b ∧ b ≠ B) wr w1 := Fr.of_grown hg (fun b hb _ => hR.1 b hb)
                       have hb2 := hf1.heap hB (fun h => h.2 rfl)
                       have hcB1 := blk_cell hb2 0
                       have hfB1 := blk_frozen hb2 0
                       simp at hcB1
                       rw [List.length_append] at ho)
          go_roundg (l.length - (k + 1))
          case rel =>
            obtain ⟨h1, h2⟩ := Encs.stored hb2 hokB hf hf1 ho
            exact ⟨k + 1, _, by omega, by go_num, h1, by have := hs.out; rw [enc_lt u' (by omega)] at this; show _ = _; simpa using this, h2⟩
          case measure => omega
    · obtain rfl : k = l.length := by omega
      have hs2 := hs.out
      simp at hs2
      subst hs2
      go_wp2
      refine bodyPost_end (v := .tuple #[]) (by simp [results, Tryd.results22, go_sem]) rfl ⟨rfl, hE, hf⟩
end Go.Proofs.YtcbhddajkleleaaDoor.Codec
