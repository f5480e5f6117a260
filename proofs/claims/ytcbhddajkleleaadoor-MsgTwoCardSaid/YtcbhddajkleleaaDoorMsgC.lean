import Derived.Test.YtcbhddajkleleaaDoorMsgP
import Derived.Test.YtcbhddajkleleaaDoorPlan
import Derived.IntWalk
/-! Contracts of package msg: kinds, rows, what is wrong. -/
set_option linter.unusedVariables false
set_option linter.unusedSimpArgs false
namespace Go.Proofs.YtcbhddajkleleaaDoor.Msg
open Go.RowKit Go.Proofs.YtcbhddajkleleaaDoorW.PrintWords Go.Proofs.YtcbhddajkleleaaDoor.B Go.Proofs.YtcbhddajkleleaaDoor.Codec

theorem in_c (n lo hi : Int) (w : World) : Calls Tryd.prog 36 #[.int .i64 n, .int .i64 lo, .int .i64 hi] w fun e w' => e = .returned (.bool (decide (lo ≤ n) && decide (n ≤ hi))) ∧ w = w' := by
  by_cases h1 : lo ≤ n
  · go_enter Tryd.func36, Tryd.ntmps36
    go_wp2
    go_ret
    refine ⟨?_, rfl⟩
    simp [h1]
  · go_enter Tryd.func36, Tryd.ntmps36
    go_wp2
    go_ret
    refine ⟨?_, rfl⟩
    simp; omega
theorem in_b (n lo hi : Int) (b : Bool) (hb : (decide (lo ≤ n) && decide (n ≤ hi)) = b) (w : World) : Calls Tryd.prog 36 #[.int .i64 n, .int .i64 lo, .int .i64 hi] w fun e w' => e = .returned (.bool b) ∧ w = w' := by
  subst hb
  exact in_c n lo hi w
set_option maxHeartbeats 1000000 in
theorem known_k (k : Int) (w : World) : Calls Tryd.prog 10 #[.int .i64 k] w fun e w' => e = .returned (.bool (knownK k)) ∧ w = w' := by
  have hc : k < 1 ∨ (1 ≤ k ∧ k ≤ 15) ∨ (15 < k ∧ k < 33) ∨ (33 ≤ k ∧ k ≤ 38) ∨ (38 < k ∧ k < 65) ∨ (65 ≤ k ∧ k ≤ 68) ∨ 68 < k := by omega
  rcases hc with h | ⟨h, h2⟩ | ⟨h, h2⟩ | ⟨h, h2⟩ | ⟨h, h2⟩ | ⟨h, h2⟩ | h
  all_goals
    first
    | (have HK : Hid (knownK k = true) := by
         show knownK k = true
         unfold knownK; simp; omega)
    | (have HK : Hid (knownK k = false) := by
         show knownK k = false
         unfold knownK; simp; omega)
    rw [HK.out]
    go_enter Tryd.func10, Tryd.ntmps10
    go_wp2
    go_ret
    first | exact ⟨rfl, rfl⟩ | (refine ⟨?_, rfl⟩; simp; done) | (refine ⟨?_, rfl⟩; simp; omega)
set_option maxHeartbeats 1000000 in
theorem rows_k (k : Int) (w : World) : Calls Tryd.prog 8 #[.int .i64 k] w fun e w' => e = .returned (.tuple #[.int .i64 (loF k), .int .i64 (hiF k)]) ∧ w = w' := by
  by_cases h1 : k = 8
  · subst h1
    have e1 : loF 8 = 1 := by decide
    have e2 : hiF 8 = 50 := by decide
    rw [e1, e2]
    clear e1 e2
    go_enter Tryd.func8, Tryd.ntmps8
    go_wp2
    go_ret2
    exact ⟨rfl, rfl⟩
  · by_cases h2 : k = 37
    · subst h2
      have e1 : loF 37 = 0 := by decide
      have e2 : hiF 37 = 50 := by decide
      rw [e1, e2]
      clear e1 e2
      go_enter Tryd.func8, Tryd.ntmps8
      go_wp2
      go_ret2
      exact ⟨rfl, rfl⟩
    · by_cases h3 : k = 11
      · subst h3
        have e1 : loF 11 = 2 := by decide
        have e2 : hiF 11 = 4 := by decide
        rw [e1, e2]
        clear e1 e2
        go_enter Tryd.func8, Tryd.ntmps8
        go_wp2
        go_ret2
        exact ⟨rfl, rfl⟩
      · by_cases h4 : k = 67
        · subst h4
          have e1 : loF 67 = 0 := by decide
          have e2 : hiF 67 = 64 := by decide
          rw [e1, e2]
          clear e1 e2
          go_enter Tryd.func8, Tryd.ntmps8
          go_wp2
          go_ret2
          exact ⟨rfl, rfl⟩
        · have e1 : loF k = 0 := by unfold loF; rw [if_neg h1, if_neg h3]
          have e2 : hiF k = 0 := by unfold hiF; rw [if_neg h1, if_neg h2, if_neg h3, if_neg h4]
          have b1 : (k == 8) = false := by simp [h1]
          have b2 : (k == 37) = false := by simp [h2]
          have b3 : (k == 11) = false := by simp [h3]
          have b4 : (k == 67) = false := by simp [h4]
          rw [e1, e2]
          clear e1 e2 h1 h2 h3 h4
          go_enter Tryd.func8, Tryd.ntmps8
          go_wp2
          go_ret2
          exact ⟨rfl, rfl⟩
def msgB : ByteArray := ⟨#[109, 115, 103]⟩
/-- A fault of a message. -/
def MF (w : World) (F : Nat) (k : Int) (ev : Value) : Prop := w.heap[F]? = some (.cells #[.string msgB, .int .i64 k, ev] 69 (0, 0))
def errV (c : Int) : Value := .iface 64 (.int .i64 c)
def faultV (F : Nat) : Value := .iface 65 (.pointer (some ⟨F, 0, none⟩))
theorem fault_k (k c : Int) (n : Nat) (hn : cutK k = n) (T : TypeId) (v : Value) (w : World) :
    Calls Tryd.prog 30 #[.int .i64 k, .iface T v] w fun e w' => (∃ F, e = .returned (faultV F) ∧ w.heap.size ≤ F ∧ MF w' F (n : Int) (.iface T v)) ∧ Fr no w w' := by
  rcases (show k < 0 ∨ 255 < k ∨ (0 ≤ k ∧ k ≤ 255) by omega) with h | h | ⟨h, h2⟩
  · have HM : Hid ((n : Int) = 0) := by show (n : Int) = 0; subst hn; unfold cutK; omega
    clear hn
    go_enter Tryd.func30, Tryd.ntmps30
    go_wp2
    go_ret
    refine ⟨⟨w.heap.size, rfl, Nat.le_refl _, ?_⟩, (Fr.refl _ _).alloc _⟩
    rw [HM.out]
    exact blk_new w _
  · have HM : Hid ((n : Int) = 255) := by show (n : Int) = 255; subst hn; unfold cutK; omega
    clear hn
    go_enter Tryd.func30, Tryd.ntmps30
    go_wp2
    go_ret
    refine ⟨⟨w.heap.size, rfl, Nat.le_refl _, ?_⟩, (Fr.refl _ _).alloc _⟩
    rw [HM.out]
    exact blk_new w _
  · have HM : Hid ((n : Int) = k) := by show (n : Int) = k; subst hn; unfold cutK; omega
    clear hn
    go_enter Tryd.func30, Tryd.ntmps30
    go_wp2
    go_ret
    refine ⟨⟨w.heap.size, rfl, Nat.le_refl _, ?_⟩, (Fr.refl _ _).alloc _⟩
    rw [HM.out]
    exact blk_new w _
/-- What 'may' tells. -/
def MayV (w w' : World) (k : Int) (v : Value) (c : Int) : Prop := (c = 0 → v = .nilIface) ∧ (c ≠ 0 → ∃ F, v = faultV F ∧ w.heap.size ≤ F ∧ MF w' F (cutK k : Int) (errV c))
set_option maxHeartbeats 2000000 in
theorem may_k (k s n : Int) (w : World) : Calls Tryd.prog 21 #[.int .i64 k, .int .i64 s, .int .i64 n] w fun e w' => ∃ v, e = .returned v ∧ MayV w w' k v (mayF k s n) ∧ Fr no w w' := by
  have HFa := Lib.hid (fun (c : Int) (W : World) => fault_k k c _ rfl 64 (.int .i64 c) W)
  by_cases h1 : k < 0 ∨ 255 < k ∨ knownK k = false
  · have hm : mayF k s n = 5 := by unfold mayF; rw [if_pos h1]
    rw [hm]
    clear hm
    by_cases h2 : k < 0 ∨ 255 < k
    · have HI := Lib.hid (fun W => in_b k 0 255 false (by simp; omega) W)
      clear h1 h2
      go_enter Tryd.func21, Tryd.ntmps21
      go_wp2_with fail
      refine (HI.out _).mono ?_
      rintro e w1 ⟨rfl, rfl⟩
      dsimp only
      go_wp2_with fail
      refine (HFa.out 5 _).mono ?_
      rintro e w2 ⟨⟨F, rfl, hF, hM⟩, hf⟩
      dsimp only
      unfold faultV
      go_wp2
      go_ret
      exact ⟨_, rfl, ⟨(fun h => by cases h), (fun _ => ⟨F, rfl, hF, hM⟩)⟩, hf⟩
    · have HI := Lib.hid (fun W => in_b k 0 255 true (by simp; omega) W)
      have hk : knownK k = false := by
        rcases h1 with h | h | h
        · exact absurd (.inl h) h2
        · exact absurd (.inr h) h2
        · exact h
      have HK := Lib.hid (fun W => known_k k W)
      have HKF := Lib.hid hk
      clear h1 h2 hk
      go_enter Tryd.func21, Tryd.ntmps21
      go_wp2_with fail
      refine (HI.out _).mono ?_
      rintro e w1 ⟨rfl, rfl⟩
      dsimp only
      go_wp2_with fail
      refine (HK.out _).mono ?_
      rintro e w1 ⟨rfl, rfl⟩
      rw [HKF.out]
      dsimp only
      go_wp2_with fail
      refine (HFa.out 5 _).mono ?_
      rintro e w2 ⟨⟨F, rfl, hF, hM⟩, hf⟩
      dsimp only
      unfold faultV
      go_wp2
      go_ret
      exact ⟨_, rfl, ⟨(fun h => by cases h), (fun _ => ⟨F, rfl, hF, hM⟩)⟩, hf⟩
  · have h2 : 0 ≤ k ∧ k ≤ 255 ∧ knownK k = true := by
      refine ⟨by omega, by omega, ?_⟩
      cases hk : knownK k with
      | true => rfl
      | false => exact absurd (.inr (.inr hk)) h1
    obtain ⟨k0, k1, hk⟩ := h2
    have HI := Lib.hid (fun W => in_b k 0 255 true (by simp; omega) W)
    have HK := Lib.hid (fun W => known_k k W)
    have HR := Lib.hid (fun W => rows_k k W)
    have HKF := Lib.hid hk
    have hm0 : mayF k s n = if s < 0 then 1 else if n < loF k ∨ hiF k < n then 4 else 0 := by unfold mayF; rw [if_neg h1]
    rw [hm0]
    clear hm0 h1 hk
    by_cases hs : s < 0
    · rw [if_pos hs]
      go_enter Tryd.func21, Tryd.ntmps21
      go_wp2_with fail
      refine (HI.out _).mono ?_
      rintro e w1 ⟨rfl, rfl⟩
      dsimp only
      go_wp2_with fail
      refine (HK.out _).mono ?_
      rintro e w1 ⟨rfl, rfl⟩
      rw [HKF.out]
      dsimp only
      go_wp2_with fail
      refine (HFa.out 1 _).mono ?_
      rintro e w2 ⟨⟨F, rfl, hF, hM⟩, hf⟩
      dsimp only
      unfold faultV
      go_wp2
      go_ret
      exact ⟨_, rfl, ⟨(fun h => by cases h), (fun _ => ⟨F, rfl, hF, hM⟩)⟩, hf⟩
    · rw [if_neg hs]
      obtain ⟨l0, l1⟩ := lo_bd k
      obtain ⟨h0, hh1⟩ := hi_bd k
      by_cases hn : n < loF k ∨ hiF k < n
      · rw [if_pos hn]
        rcases hn with hn | hn
        · have hd : decide (n < loF k) = true := by simp [hn]
          clear hn
          go_enter Tryd.func21, Tryd.ntmps21
          go_wp2_with fail
          refine (HI.out _).mono ?_
          rintro e w1 ⟨rfl, rfl⟩
          dsimp only
          go_wp2_with fail
          refine (HK.out _).mono ?_
          rintro e w1 ⟨rfl, rfl⟩
          rw [HKF.out]
          dsimp only
          go_wp2_with fail
          refine (HR.out _).mono ?_
          rintro e w1 ⟨rfl, rfl⟩
          dsimp only
          go_wp2_with fail
          refine (HFa.out 4 _).mono ?_
          rintro e w2 ⟨⟨F, rfl, hF, hM⟩, hf⟩
          dsimp only
          unfold faultV
          go_wp2
          go_ret
          exact ⟨_, rfl, ⟨(fun h => by cases h), (fun _ => ⟨F, rfl, hF, hM⟩)⟩, hf⟩
        · have hd2 : decide (hiF k < n) = true := by simp [hn]
          by_cases hn2 : n < loF k
          all_goals
            first | (have hd : decide (n < loF k) = true := by simp [hn2]) | (have hd : decide (n < loF k) = false := by simp; omega)
            clear hn hn2
            go_enter Tryd.func21, Tryd.ntmps21
            go_wp2_with fail
            refine (HI.out _).mono ?_
            rintro e w1 ⟨rfl, rfl⟩
            dsimp only
            go_wp2_with fail
            refine (HK.out _).mono ?_
            rintro e w1 ⟨rfl, rfl⟩
            rw [HKF.out]
            dsimp only
            go_wp2_with fail
            refine (HR.out _).mono ?_
            rintro e w1 ⟨rfl, rfl⟩
            dsimp only
            go_wp2_with fail
            refine (HFa.out 4 _).mono ?_
            rintro e w2 ⟨⟨F, rfl, hF, hM⟩, hf⟩
            dsimp only
            unfold faultV
            go_wp2
            go_ret
            exact ⟨_, rfl, ⟨(fun h => by cases h), (fun _ => ⟨F, rfl, hF, hM⟩)⟩, hf⟩
      · rw [if_neg hn]
        have hd : decide (n < loF k) = false := by simp; omega
        have hd2 : decide (hiF k < n) = false := by simp; omega
        clear hn
        go_enter Tryd.func21, Tryd.ntmps21
        go_wp2_with fail
        refine (HI.out _).mono ?_
        rintro e w1 ⟨rfl, rfl⟩
        dsimp only
        go_wp2_with fail
        refine (HK.out _).mono ?_
        rintro e w1 ⟨rfl, rfl⟩
        rw [HKF.out]
        dsimp only
        go_wp2_with fail
        refine (HR.out _).mono ?_
        rintro e w1 ⟨rfl, rfl⟩
        dsimp only
        go_wp2
        go_ret
        exact ⟨_, rfl, ⟨fun _ => rfl, fun h => absurd rfl h⟩, Fr.refl _ _⟩
end Go.Proofs.YtcbhddajkleleaaDoor.Msg
