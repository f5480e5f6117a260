import Derived.Test.YtdlefdlnnclcaaaDoorShelf
import Derived.Test.YtdlefdlnnclcaaaDoorPlan
import Derived.Lib.ItoaNum
import Derived.IntWalk
import Derived.WalkKit
/-! Errors in words: the program's, the document's. -/
set_option linter.unusedVariables false
set_option linter.unusedSimpArgs false
namespace Go.Proofs.YtdlefdlnnclcaaaDoor.Err
open Go.RowKit Go.Proofs.YtdlefdlnnclcaaaDoorW.PrintWords Go.Proofs.YtdlefdlnnclcaaaDoor.B
theorem size_pos (n : Int) (h : 0 ≤ n) (h2 : n ≤ 9223372036854775807) (w : World) : Calls Tryd.prog 24 #[.int .i64 n] w fun e w' => e = .returned (.int .u64 n) ∧ w = w' := by
  have hb : decide (n < 0) = false := by simp; omega
  go_enter Tryd.func24, Tryd.ntmps24
  go_wp2
  go_ret
  exact ⟨rfl, rfl⟩
theorem conv_lit (W : World) (x : Int) : (convert 96 9 (.slice (some ⟨W.heap.size, 0, none⟩) 1 1)).run Tryd.prog (W.alloc (.cells #[.int .u8 x] 5)) = .ok (.string (strOfNums [x])) (W.alloc (.cells #[.int .u8 x] 5)) := by
  have hC : (Kd.int .u8).C (W.alloc (.cells #[.int .u8 x] 5)) (some ⟨W.heap.size, 0, none⟩) 1 [x] := C_blk (d := Kd.int .u8) (blk_new W _) [x] (show 0 < 1 by decide) (show 1 ≤ 9223372036854775807 by decide) ((Reps.none _ _).snoc (p := x) (show (Kd.int .u8).K _ x [.int .u8 x] from rfl) rfl)
  exact Kd.C_string (P := Tryd.prog) (c := 1) Tryd.underlying96 Tryd.underlying5 Tryd.underlying9 hC
theorem dig_one (u : Nat) : (strOfNums [48 + (u : Int) % 10]).data.toList = [UInt8.ofNat (48 + u % 10)] := by
  have e : ((48 : Int) + (u : Int) % 10).toNat = 48 + u % 10 := by omega
  simp [strOfNums, e]
theorem dec_step (u : Nat) : (if u < 10 then [] else Lib.decDigits (u / 10)) ++ [UInt8.ofNat (48 + u % 10)] = Lib.decDigits u := by
  conv => rhs; rw [Lib.decDigits]
  by_cases h : u < 10
  · rw [if_pos h, dif_pos h, Nat.mod_eq_of_lt h]
    rfl
  · rw [if_neg h, dif_neg h]
theorem dec_lt : ∀ (k u : Nat), u < 10 ^ (k + 1) → (Lib.decDigits u).length ≤ k + 1
  | 0, u, h => by rw [Lib.decDigits, dif_pos (by omega)]; simp
  | k + 1, u, h => by
    rw [Lib.decDigits]
    split
    · simp
    · have := dec_lt k (u / 10) (by rw [Nat.pow_succ] at h; omega)
      simp
      omega
theorem dec_len (u : Nat) (h : u ≤ 9223372036854775807) : (Lib.decDigits u).length ≤ 20 := dec_lt 19 u (by omega)
set_option maxRecDepth 100000 in
set_option maxHeartbeats 1000000 in
theorem text_pos (n : Nat) (h2 : n ≤ 9223372036854775807) (w : World) : Calls Tryd.prog 25 #[.int .i64 n] w fun e w' => e = .returned (.string ⟨(Lib.decDigits n).toArray⟩) ∧ Fr no w w' := by
  have hb : decide ((n : Int) < 0) = false := by simp
  have hcv := conv_lit
  have hsz : ∀ x : Int, (strOfNums [x]).size = 1 := fun x => rfl
  go_enter Tryd.func25, Tryd.ntmps25
  go_wp2_with fail
  refine (size_pos n (by omega) (by omega) _).mono ?_
  rintro e w1 ⟨rfl, rfl⟩
  dsimp only
  go_wp2
  go_loopg [3, 4] n (fun q v3 v4 wr => ∃ (u : Nat) (t : ByteArray), u = q ∧ Hid (u ≤ n) ∧ v3 = .int .u64 u ∧ v4 = .string t ∧ Hid ((if u < 10 then [] else Lib.decDigits (u / 10)) ++ t.data.toList = Lib.decDigits n) ∧ Fr no w wr)
  case atStart => exact ⟨n, _, rfl, Nat.le_refl _, rfl, rfl, by rw [dig_one]; exact dec_step n, (Fr.refl _ _).alloc _⟩
  case round =>
    obtain ⟨u, t, rfl, hun, rfl, rfl, hs, hf⟩ := hrel
    by_cases hu : 10 ≤ u
    · have hs2 := hs.out
      rw [if_neg (by omega)] at hs2
      have hs3 : Hid ((if u / 10 < 10 then [] else Lib.decDigits (u / 10 / 10)) ++ ([UInt8.ofNat (48 + u / 10 % 10)] ++ t.data.toList) = Lib.decDigits n) := by
        rw [← List.append_assoc, dec_step (u / 10)]
        exact hs2
      have hle : u ≤ 9223372036854775807 := by have := hun.out; omega
      have hts : t.size ≤ 20 := by
        have h1 := congrArg List.length hs2
        have h3 := dec_len n (by omega)
        have h4 : t.size = t.data.toList.length := rfl
        simp only [List.length_append] at h1
        omega
      clear hs hs2
      have hun2 : Hid (u / 10 ≤ n) := by have := hun.out; show _ ≤ _; omega
      clear hun
      go_wp2
      have hu3 : ((u : Int) / 10) = ((u / 10 : Nat) : Int) := by omega
      rw [hu3]
      go_roundg (u / 10)
      case rel => exact ⟨u / 10, _, rfl, hun2, rfl, rfl, by rw [show (strOfNums [48 + ((u / 10 : Nat) : Int) % 10] ++ t).data.toList = (strOfNums [48 + ((u / 10 : Nat) : Int) % 10]).data.toList ++ t.data.toList by simp, dig_one]; exact hs3.out, hf.alloc _⟩
      case measure => omega
    · have hs2 := hs.out
      rw [if_pos (by omega), List.nil_append] at hs2
      clear hs
      go_wp2
      go_ret
      exact ⟨by rw [← hs2]; rfl, hf⟩
/-- An Errno's word. -/
def wordOf (c : Int) : ByteArray :=
  if c = 1 then ⟨#[97, 114, 103]⟩ else if c = 2 then ⟨#[102, 111, 114, 109]⟩ else if c = 3 then ⟨#[115, 104, 111, 114, 116]⟩ else if c = 4 then ⟨#[108, 111, 110, 103]⟩ else if c = 5 then ⟨#[110, 97, 109, 101]⟩ else
  if c = 6 then ⟨#[116, 119, 105, 99, 101]⟩ else if c = 7 then ⟨#[115, 116, 97, 116, 101]⟩ else if c = 8 then ⟨#[102, 117, 108, 108]⟩ else if c = 9 then ⟨#[114, 97, 110, 103, 101]⟩ else if c = 10 then ⟨#[103, 114, 105, 100]⟩ else
  if c = 11 then ⟨#[99, 114, 111, 115, 115]⟩ else if c = 12 then ⟨#[107, 105, 108, 108]⟩ else if c = 13 then ⟨#[115, 101, 113]⟩ else ⟨#[115, 117, 109]⟩
set_option maxRecDepth 100000 in
set_option maxHeartbeats 2000000 in
theorem errno_c (c : Int) (h1 : 1 ≤ c) (h2 : c ≤ 14) (w : World) : Calls Tryd.prog 55 #[.int .i64 c] w fun e w' => e = .returned (.string (wordOf c)) ∧ w = w' := by
  have hc : c = 1 ∨ c = 2 ∨ c = 3 ∨ c = 4 ∨ c = 5 ∨ c = 6 ∨ c = 7 ∨ c = 8 ∨ c = 9 ∨ c = 10 ∨ c = 11 ∨ c = 12 ∨ c = 13 ∨ c = 14 := by omega
  clear h1 h2
  rcases hc with rfl | rfl | rfl | rfl | rfl | rfl | rfl | rfl | rfl | rfl | rfl | rfl | rfl | rfl
  all_goals
    go_enter Tryd.func55, Tryd.ntmps55
    go_wp2
    go_ret
    exact ⟨rfl, rfl⟩
set_option maxRecDepth 100000 in
set_option maxHeartbeats 2000000 in
theorem word_c (c : Int) (h1 : 1 ≤ c) (h2 : c ≤ 14) (w : World) : Calls Tryd.prog 26 #[.int .i64 c] w fun e w' => e = .returned (.string (wordOf c)) ∧ Fr no w w' := by
  have hc : c = 1 ∨ c = 2 ∨ c = 3 ∨ c = 4 ∨ c = 5 ∨ c = 6 ∨ c = 7 ∨ c = 8 ∨ c = 9 ∨ c = 10 ∨ c = 11 ∨ c = 12 ∨ c = 13 ∨ c = 14 := by omega
  clear h1 h2
  rcases hc with rfl | rfl | rfl | rfl | rfl | rfl | rfl | rfl | rfl | rfl | rfl | rfl | rfl | rfl
  all_goals
    go_enter Tryd.func26, Tryd.ntmps26
    go_wp2
    go_ret
    exact ⟨rfl, (Fr.refl no w).alloc _⟩
end Go.Proofs.YtdlefdlnnclcaaaDoor.Err
