import Derived.Test.YtdgeakojdafipaaGreatDoorErrTells
import Derived.Test.YtdgeakojdafipaaGreatDoorShelf
import Derived.IntWalk
import Derived.Lib.AppendIntMem
/-! Numbers in words, at any number: the program's, the reference's. -/
set_option linter.unusedVariables false
set_option linter.unusedSimpArgs false
namespace Go.Proofs.YtdgeakojdafipaaGreatDoor.Err
open Go.RowKit Go.Proofs.YtdgeakojdafipaaGreatDoorW.PrintWords Go.Proofs.YtdgeakojdafipaaGreatDoor.B
theorem dec_len2 (u : Nat) (h : u ≤ 9223372036854775808) : (Lib.decDigits u).length ≤ 20 := dec_lt 19 u (by omega)
theorem size_neg (m : Int) (hm : m < 0) (n : Nat) (hn : m.natAbs = n) (h2 : n ≤ 9223372036854775808) (w : World) : Calls Tryz.prog 43 #[.int .i64 m] w fun e w' => e = .returned (.int .u64 n) ∧ w = w' := by
  have hb : decide (m < 0) = true := by simp [hm]
  have f0 : wrap64 (m + 1) = m + 1 := by unfold wrap64; omega
  have f1 : wrap64 (-(m + 1)) = -(m + 1) := by unfold wrap64; omega
  have f2 : IntKind.u64.wrap (-(m + 1)) = -(m + 1) := IntWalk.u64_in _ (by omega)
  have f3 : IntKind.u64.wrap (-(m + 1) + 1) = (n : Int) := by rw [IntWalk.u64_in _ (by omega)]; omega
  clear hm hn
  go_enter Tryz.func43, Tryz.ntmps43
  go_wp2
  go_ret
  exact ⟨by first | (simp; done) | (simp; rw [f0, f1, f2, f3]), rfl⟩
set_option maxRecDepth 100000 in
set_option maxHeartbeats 1000000 in
theorem text_neg (m : Int) (hm : m < 0) (n : Nat) (hn : m.natAbs = n) (h2 : n ≤ 9223372036854775808) (w : World) : Calls Tryz.prog 36 #[.int .i64 m] w fun e w' => e = .returned (.string ⟨(45 :: Lib.decDigits n).toArray⟩) ∧ Fr no w w' := by
  have hb : decide (m < 0) = true := by simp [hm]
  have hcv := conv_lit
  have hsz : ∀ x : Int, (strOfNums [x]).size = 1 := fun x => rfl
  go_enter Tryz.func36, Tryz.ntmps36
  go_wp2_with fail
  refine (size_neg m hm n hn h2 _).mono ?_
  rintro e w1 ⟨rfl, rfl⟩
  dsimp only
  go_wp2
  go_loopg [3, 4] n (fun q v3 v4 wr => ∃ (u : Nat) (t : ByteArray), u = q ∧ Hid (u ≤ n) ∧ v3 = .int .u64 u ∧ v4 = .string t ∧ Hid ((if u < 10 then [] else Lib.decDigits (u / 10)) ++ t.data.toList = Lib.decDigits n) ∧ Fr no w wr)
  case atStart => exact ⟨n, _, rfl, Nat.le_refl _, rfl, rfl, by rw [dig_one]; exact dec_step n, (Fr.refl _ _).alloc _⟩
  case round =>
    obtain ⟨u, t, rfl, hun, rfl, rfl, hs, hf⟩ := hrel
    by_cases hu : 10 ≤ u
    · have hs2 := hs.out
      rw [if_neg (by omega)] at hs2
      have hs3 : Hid ((if u / 10 < 10 then [] else Lib.decDigits (u / 10 / 10)) ++ ([UInt8.ofNat (48 + u / 10 % 10)] ++ t.data.toList) = Lib.decDigits n) := by
        rw [← List.append_assoc, dec_step (u / 10)]
        exact hs2
      have hle : u ≤ 9223372036854775808 := by have := hun.out; omega
      have hts : t.size ≤ 20 := by
        have h1 := congrArg List.length hs2
        have h3 := dec_len2 n (by omega)
        have h4 : t.size = t.data.toList.length := rfl
        simp only [List.length_append] at h1
        omega
      clear hs hs2
      have hun2 : Hid (u / 10 ≤ n) := by have := hun.out; show _ ≤ _; omega
      clear hun
      go_wp2
      have hu3 : ((u : Int) / 10) = ((u / 10 : Nat) : Int) := by omega
      rw [hu3]
      go_roundg (u / 10)
      case rel => exact ⟨u / 10, _, rfl, hun2, rfl, rfl, by rw [show (strOfNums [48 + ((u / 10 : Nat) : Int) % 10] ++ t).data.toList = (strOfNums [48 + ((u / 10 : Nat) : Int) % 10]).data.toList ++ t.data.toList by simp, dig_one]; exact hs3.out, hf.alloc _⟩
      case measure => omega
    · have hs2 := hs.out
      rw [if_pos (by omega), List.nil_append] at hs2
      clear hs
      have hts : t.size ≤ 20 := by
        have h1 := congrArg List.length hs2
        have h3 := dec_len2 n h2
        have h4 : t.size = t.data.toList.length := rfl
        omega
      have HS2 := Lib.hid hs2
      clear hs2
      go_wp2
      go_ret
      refine ⟨?_, hf⟩
      rw [← HS2.out]
      have key : (⟨#[45]⟩ ++ t : ByteArray) = ⟨(45 :: t.data.toList).toArray⟩ := by
        apply ByteArray.ext
        apply Array.toList_inj.1
        simp
      rw [← key]
      rfl
def Tab (w : World) : Prop := Lib.TabIs Tryz.prog w "internal/strconv.uint64pow10" .u64 Lib.pow10Tab
theorem Tab.fr {w w1 : World} (h : Tab w) (hf : Fr no w w1) : Tab w1 := Lib.tabBelow_of_tabIs h _ hf.below
/-- A number's text. -/
def itoB (n : Int) : ByteArray := ⟨(Lib.itoa n).toArray⟩
def i64 (n : Int) : Prop := -9223372036854775808 ≤ n ∧ n ≤ 9223372036854775807
theorem itoB_size (n : Int) (h : i64 n) : (itoB n).size ≤ 30 := by
  unfold itoB Lib.itoa i64 at *
  split
  · have := dec_len2 n.natAbs (by omega)
    show (List.toArray _).size ≤ 30
    simp
    omega
  · have := dec_len2 n.toNat (by omega)
    show (List.toArray _).size ≤ 30
    simp
    omega
theorem rtext_g (n : Int) (h : i64 n) (w : World) : Calls Tryz.prog 36 #[.int .i64 n] w fun e w' => e = .returned (.string (itoB n)) ∧ Fr no w w' := by
  unfold itoB Lib.itoa
  obtain ⟨h0, h1⟩ := h
  by_cases hn : n < 0
  · rw [if_pos hn]
    exact text_neg n hn _ rfl (by omega) w
  · rw [if_neg hn]
    obtain ⟨k, rfl⟩ : ∃ k : Nat, n = (k : Int) := ⟨n.toNat, by omega⟩
    rw [Int.toNat_natCast]
    exact text_pos k (by omega) w
theorem ptext_g (n : Int) (h : i64 n) (w : World) (ht : Tab w) : Calls Tryz.prog 34 #[.int .i64 n] w fun e w' => e = .returned (.string (itoB n)) ∧ Fr no w w' := by
  go_enter Tryz.func34, Tryz.ntmps34
  go_wp2_with fail
  refine (Tryz.strconv_FormatInt_10 n h.1 h.2 _ ht).mono ?_
  rintro e w1 ⟨rfl, k, os, rfl⟩
  have hf : Fr no w (Go.Sort.grow (w.drewN k) os) := Fr.of_below (Lib.below_grow _ w (Nat.le_refl _) k os)
  generalize Go.Sort.grow (w.drewN k) os = w1 at *
  dsimp only
  go_wp2
  go_ret
  exact ⟨rfl, hf⟩
end Go.Proofs.YtdgeakojdafipaaGreatDoor.Err
