import Derived.Test.YtinkdgfdnagplaaDoorCrcP
import Derived.Test.YtinkdgfdnagplaaDoorPlan
import Derived.IntWalk
import Derived.Laws.BitsLemmas
import Derived.Laws.BitsAllLaws
/-! Contracts of package crc. -/
set_option linter.unusedVariables false
set_option linter.unusedSimpArgs false
namespace Go.Proofs.YtinkdgfdnagplaaDoor.Crc
open Go.RowKit Go.Proofs.YtinkdgfdnagplaaDoorW.PrintWords Go.Proofs.YtinkdgfdnagplaaDoor.B

def ns (l : List Int) : List Nat := l.map Int.toNat
/-- The sum of what a sum is of, and more. -/
def addF (s : Nat) (l : List Int) : Nat := 4294967295 - run (4294967295 - s) (ns l)
theorem u8_el {w : World} {A : Option Addr} {xs : List Int} (hC : (Kd.int .u8).C w A xs.length xs) (k : Nat) (h : k < xs.length) : ∃ ad, A = some ad ∧ w.cell? (ad.add k) = some (.int .u8 xs[k]) := by
  obtain ⟨ad, h1, h2⟩ := Kd.at_int hC (k : Int) (by omega) (by omega)
  refine ⟨ad, h1, ?_⟩
  rw [Int.toNat_natCast] at h2
  rw [h2]
  simp [rd, h]
theorem nat_not32 (a : Nat) (h : a < 4294967296) : 4294967295 ^^^ a = 4294967295 - a := by
  have h1 : (BitVec.ofNat 32 a ^^^ BitVec.allOnes 32).toNat = 2 ^ 32 - 1 - (BitVec.ofNat 32 a).toNat := by rw [BitVec.xor_allOnes, BitVec.toNat_not]
  rw [BitVec.toNat_xor, BitVec.toNat_allOnes, BitVec.toNat_ofNat, Nat.mod_eq_of_lt (by simpa using h)] at h1
  rw [Nat.xor_comm]
  simpa using h1
theorem u32_not (a : Nat) (h : a < 4294967296) : bits .xor .u32 IntKind.u32.max (a : Int) = ((4294967295 - a : Nat) : Int) := by
  have h1 := u32_xor_nat 4294967295 a (by omega) h
  rw [nat_not32 a h] at h1
  exact h1
theorem u32_low (a : Nat) (h : a < 4294967296) : bits .and .u32 (a : Int) 1 = (a : Int) % 2 := by
  have h1 := u32_and_nat a 1 h (by omega)
  rw [nat_mask1] at h1
  simpa using h1
theorem u32_poly (a : Nat) (h : a < 4294967296) : bits .xor .u32 ((a : Int) / 2) 3988292384 = ((a / 2 ^^^ poly : Nat) : Int) := by
  have h1 := u32_xor_nat (a / 2) 3988292384 (by omega) (by omega)
  unfold poly
  simpa using h1
theorem st8_lt {s : Nat} (h : s < 4294967296) : st8 s < 4294967296 := it_lt 8 h
theorem xor_byte_lt {s c : Nat} (h : s < 4294967296) (hc : c < 256) : s ^^^ c < 4294967296 := Nat.xor_lt_two_pow (n := 32) h (by omega)
set_option maxRecDepth 100000 in
set_option maxHeartbeats 2000000 in
theorem add_c (s : Nat) (hs : s < 4294967296) (A : Option Addr) (cap : Nat) (l : List Int) (hl : l.length ≤ 1000000000) (hb : ∀ x ∈ l, 0 ≤ x ∧ x < 256) (w : World) (hC : (Kd.int .u8).C w A l.length l) :
    Calls Tryd.prog 40 #[.int .u32 (s : Int), .slice A l.length cap] w fun e w' => e = .returned (.int .u32 (addF s l : Nat)) ∧ w = w' := by
  have HB := Lib.hid hb
  have hsg : IntKind.u32.signed = false := rfl
  have hnot := u32_not s hs
  obtain ⟨T, hT⟩ : ∃ T, run (4294967295 - s) (ns l) = T := ⟨_, rfl⟩
  have hadd : addF s l = 4294967295 - T := by unfold addF; rw [hT]
  rw [hadd]
  have HT := Lib.hid hT
  clear hb hT hadd
  go_enter Tryd.func40, Tryd.ntmps40
  go_wp2
  clear hnot
  go_loopg [0, 12] l.length (fun q v i wr => ∃ (k s1 : Nat), k + q = l.length ∧ i = .int .i64 (k : Int) ∧ v = .int .u32 (s1 : Int) ∧ s1 < 4294967296 ∧ Hid (run s1 (ns (l.drop k)) = T) ∧ w = wr)
  case atStart => exact ⟨0, 4294967295 - s, by omega, rfl, rfl, by omega, HT, rfl⟩
  case round =>
    clear HT
    obtain ⟨k, s1, hk, rfl, rfl, hs1, hr, rfl⟩ := hrel
    by_cases hlt : k < l.length
    · obtain ⟨ad, rfl, hc⟩ := u8_el hC k hlt
      obtain ⟨x0, x1⟩ := HB.out l[k] (List.getElem_mem hlt)
      have hr2 := hr.out
      rw [List.drop_eq_getElem_cons hlt] at hr2
      simp only [ns, List.map_cons, run_cons] at hr2
      generalize l[k] = x at *
      obtain ⟨c, rfl⟩ : ∃ c : Nat, x = (c : Int) := ⟨x.toNat, by omega⟩
      rw [Int.toNat_natCast] at hr2
      have hc1 : c < 256 := by omega
      have hx := u32_xor_nat s1 c hs1 (by omega)
      have hlt2 := xor_byte_lt hs1 hc1
      obtain ⟨U, hU⟩ : ∃ U, st8 (s1 ^^^ c) = U := ⟨_, rfl⟩
      have hUl : U < 4294967296 := by rw [← hU]; exact st8_lt hlt2
      rw [hU] at hr2
      have HR2 := Lib.hid hr2
      have HU := Lib.hid hU
      have hdd : decide (k < l.length) = true := by simpa using hlt
      clear hr hr2 hU
      go_wp2
      clear hx
      obtain ⟨s2, hs2⟩ : ∃ s2, s1 ^^^ c = s2 := ⟨_, rfl⟩
      rw [hs2] at hlt2 HU ⊢
      clear hs2
      go_loopg [0, 20] 8 (fun q v i wr => ∃ (j s3 : Nat), j + q = 8 ∧ i = .int .i64 (j : Int) ∧ v = .int .u32 (s3 : Int) ∧ s3 < 4294967296 ∧ Hid (it (8 - j) s3 = U) ∧ w = wr)
      case atStart => exact ⟨0, s2, by omega, rfl, rfl, hlt2, HU, rfl⟩
      case round =>
        clear HU hlt2
        obtain ⟨j, s3, hj, rfl, rfl, hs3, hi, rfl⟩ := hrel
        have HI := hi.out
        by_cases hj8 : j < 8
        · rw [show 8 - j = (8 - (j + 1)) + 1 by omega, it] at HI
          have hd2 : decide ((j : Int) < 8) = true := by simp; omega
          have hlow := u32_low s3 hs3
          have hpoly := u32_poly s3 hs3
          have hs1p := st1_lt hs3
          unfold st1 at HI hs1p
          by_cases ho : s3 % 2 = 1
          · rw [if_pos ho] at HI hs1p
            have ht : ((s3 : Int) % 2 == 1) = true := by simp; omega
            have HI2 := Lib.hid HI
            clear HI hi ho
            go_wp2
            go_roundg (8 - (j + 1))
            case measure => omega
            case rel => exact ⟨j + 1, s3 / 2 ^^^ poly, by omega, by go_num, rfl, hs1p, HI2.out, rfl⟩
          · rw [if_neg ho] at HI hs1p
            have ht : ((s3 : Int) % 2 == 1) = false := by simp; omega
            have HI2 := Lib.hid HI
            clear HI hi ho
            go_wp2
            go_roundg (8 - (j + 1))
            case measure => omega
            case rel => exact ⟨j + 1, s3 / 2, by omega, by go_num, by simp, hs1p, HI2.out, rfl⟩
        · obtain rfl : j = 8 := by omega
          have he : s3 = U := HI
          subst he
          clear HI hi hj8
          go_wp2
          go_roundg (l.length - (k + 1))
          case measure => omega
          case rel => exact ⟨k + 1, s3, by omega, by go_num, rfl, hUl, HR2.out, rfl⟩
    · obtain rfl : k = l.length := by omega
      have hr2 := hr.out
      rw [List.drop_length] at hr2
      have he : s1 = T := hr2
      subst he
      have hnot := u32_not s1 hs1
      clear hr hr2
      go_wp2
      go_ret
      exact ⟨rfl, rfl⟩
end Go.Proofs.YtinkdgfdnagplaaDoor.Crc
