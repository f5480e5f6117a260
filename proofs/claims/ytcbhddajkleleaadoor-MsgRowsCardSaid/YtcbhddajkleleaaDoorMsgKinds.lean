import Derived.Test.YtcbhddajkleleaaDoorMsgZ
/-! MsgKinds. -/
set_option linter.unusedVariables false
set_option linter.unusedSimpArgs false
namespace Go.Proofs.YtcbhddajkleleaaDoor.Msg
open Go.RowKit Go.Proofs.YtcbhddajkleleaaDoorW.PrintWords Go.Proofs.YtcbhddajkleleaaDoor.B Go.Proofs.YtcbhddajkleleaaDoor.Codec

set_option maxHeartbeats 1000000 in
theorem rknown_k (k : Int) (w : World) : Calls Tryd.prog 11 #[.int .i64 k] w fun e w' => e = .returned (.bool (knownK k)) ∧ w = w' := by
  have hc : k < 1 ∨ (1 ≤ k ∧ k ≤ 15) ∨ (15 < k ∧ k < 33) ∨ (33 ≤ k ∧ k ≤ 38) ∨ (38 < k ∧ k < 65) ∨ (65 ≤ k ∧ k ≤ 68) ∨ 68 < k := by omega
  rcases hc with h | ⟨h, h2⟩ | ⟨h, h2⟩ | ⟨h, h2⟩ | ⟨h, h2⟩ | ⟨h, h2⟩ | h
  all_goals
    first
    | (have HK : Hid (knownK k = true) := by
         show knownK k = true
         unfold knownK; simp; omega)
    | (have HK : Hid (knownK k = false) := by
         show knownK k = false
         unfold knownK; simp; omega)
    rw [HK.out]
    go_enter Tryd.func11, Tryd.ntmps11
    go_wp2
    go_ret
    first | exact ⟨rfl, rfl⟩ | (refine ⟨?_, rfl⟩; simp; done) | (refine ⟨?_, rfl⟩; simp; omega)
set_option maxHeartbeats 1000000 in
theorem rrows_k (k : Int) (w : World) : Calls Tryd.prog 9 #[.int .i64 k] w fun e w' => e = .returned (.tuple #[.int .i64 (loF k), .int .i64 (hiF k)]) ∧ w = w' := by
  by_cases h1 : k = 8
  · subst h1
    have e1 : loF 8 = 1 := by decide
    have e2 : hiF 8 = 50 := by decide
    rw [e1, e2]
    clear e1 e2
    go_enter Tryd.func9, Tryd.ntmps9
    go_wp2
    go_ret2
    exact ⟨rfl, rfl⟩
  · by_cases h2 : k = 37
    · subst h2
      have e1 : loF 37 = 0 := by decide
      have e2 : hiF 37 = 50 := by decide
      rw [e1, e2]
      clear e1 e2
      go_enter Tryd.func9, Tryd.ntmps9
      go_wp2
      go_ret2
      exact ⟨rfl, rfl⟩
    · by_cases h3 : k = 11
      · subst h3
        have e1 : loF 11 = 2 := by decide
        have e2 : hiF 11 = 4 := by decide
        rw [e1, e2]
        clear e1 e2
        go_enter Tryd.func9, Tryd.ntmps9
        go_wp2
        go_ret2
        exact ⟨rfl, rfl⟩
      · by_cases h4 : k = 67
        · subst h4
          have e1 : loF 67 = 0 := by decide
          have e2 : hiF 67 = 64 := by decide
          rw [e1, e2]
          clear e1 e2
          go_enter Tryd.func9, Tryd.ntmps9
          go_wp2
          go_ret2
          exact ⟨rfl, rfl⟩
        · have e1 : loF k = 0 := by unfold loF; rw [if_neg h1, if_neg h3]
          have e2 : hiF k = 0 := by unfold hiF; rw [if_neg h1, if_neg h2, if_neg h3, if_neg h4]
          have b1 : (k == 8) = false := by simp [h1]
          have b2 : (k == 37) = false := by simp [h2]
          have b3 : (k == 11) = false := by simp [h3]
          have b4 : (k == 67) = false := by simp [h4]
          rw [e1, e2]
          clear e1 e2 h1 h2 h3 h4
          go_enter Tryd.func9, Tryd.ntmps9
          go_wp2
          go_ret2
          exact ⟨rfl, rfl⟩
set_option maxRecDepth 100000 in
set_option maxHeartbeats 1000000 in
theorem kinds_c (w : World) (k : Int) : Calls Tryd.prog 3 #[.int .i64 k] w fun e w' => e = .returned (.bool true) ∧ Fr no w w' := by
  go_enter Tryd.func3, Tryd.ntmps3
  go_wp2_with fail
  refine (known_m w).mono ?_
  rintro e w1 ⟨rfl, hf⟩
  dsimp only
  go_wp2_with fail
  refine (rows_k k _).mono ?_
  rintro e w2 ⟨rfl, rfl⟩
  dsimp only
  go_wp2_with fail
  refine (rrows_k k _).mono ?_
  rintro e w2 ⟨rfl, rfl⟩
  dsimp only
  go_wp2_with fail
  refine (known_k k _).mono ?_
  rintro e w2 ⟨rfl, rfl⟩
  dsimp only
  go_wp2_with fail
  refine (rknown_k k _).mono ?_
  rintro e w2 ⟨rfl, rfl⟩
  obtain ⟨a, ha⟩ : ∃ x, knownK k = x := ⟨_, rfl⟩
  obtain ⟨b, hb⟩ : ∃ x, loF k = x := ⟨_, rfl⟩
  obtain ⟨c, hc⟩ : ∃ x, hiF k = x := ⟨_, rfl⟩
  rw [ha, hb, hc]
  clear ha hb hc
  have q1 : (a == a) = true := by cases a <;> rfl
  have q2 : (b == b) = true := by simp
  have q3 : (c == c) = true := by simp
  dsimp only
  go_wp2
  go_ret
  exact ⟨rfl, hf⟩
theorem kinds_row (w : World) (k : Int) (_ : (Lit.int .i64 k).wf = true) : Calls Tryd.prog 3 #[.int .i64 k] w fun e w' => e = .returned (.bool true) ∧ Fr no w w' := kinds_c w k
end Go.Proofs.YtcbhddajkleleaaDoor.Msg
