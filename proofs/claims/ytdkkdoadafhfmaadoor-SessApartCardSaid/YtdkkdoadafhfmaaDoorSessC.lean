import Derived.Test.YtdkkdoadafhfmaaDoorSessB
/-! Contracts of package sess: who is on, who is late. -/
set_option linter.unusedVariables false
set_option linter.unusedSimpArgs false
namespace Go.Proofs.YtdkkdoadafhfmaaDoor.Sess
open Go.RowKit Go.Proofs.YtdkkdoadafhfmaaDoorW.PrintWords Go.Proofs.YtdkkdoadafhfmaaDoor.B

theorem infoI : (Tryd.prog.info? 3).map (fun i => (i.zero, i.size, i.bytes)) = some (some (.int .i64 0), 1, 8) := by kernel_rfl
theorem clipI_c (A : Option Addr) (n c : Nat) (hc : n ≤ c) (hm : c ≤ 9223372036854775807) (w : World) :
    Calls Tryd.prog 60 #[.slice A n c] w fun e w' => e = .returned (.slice A n n) ∧ w = w' := by
  go_enter Tryd.func60, Tryd.ntmps60
  go_wp2
  go_ret
  exact ⟨rfl, rfl⟩
def ids (S : Nat → Ses) : Nat → List Int
  | 0 => []
  | k + 1 => ids S k ++ (if 1 ≤ k ∧ (S k).on = true then [(k : Int)] else [])
theorem ids_len (S : Nat → Ses) : ∀ k, (ids S k).length ≤ k
  | 0 => Nat.le_refl _
  | k + 1 => by
    have := ids_len S k
    simp only [ids, List.length_append]
    split <;> simp <;> omega
theorem ids_mem (S : Nat → Ses) : ∀ k x, x ∈ ids S k → ∃ n : Nat, x = (n : Int) ∧ 1 ≤ n ∧ n < k
  | 0, x, h => by simp [ids] at h
  | k + 1, x, h => by
    simp only [ids, List.mem_append] at h
    rcases h with h | h
    · obtain ⟨n, h1, h2, h3⟩ := ids_mem S k x h
      exact ⟨n, h1, h2, by omega⟩
    · split at h
      · rename_i hc
        simp at h
        exact ⟨k, h, hc.1, by omega⟩
      · simp at h
set_option maxRecDepth 100000 in
set_option maxHeartbeats 2000000 in
theorem live_c (B : Nat) (t : Int) (S : Nat → Ses) (w : World) (h : Desk w B t S) :
    Calls Tryd.prog 56 #[.pointer (some ⟨B, 0, none⟩)] w fun e w' => (∃ A c, e = .returned (.slice A (ids S 65).length (ids S 65).length) ∧ (Kd.int .i64).R 3 w' 0 (since w) (.slice A (ids S 65).length c) (ids S 65)) ∧ Fr no w w' := by
  have HD := Lib.hid h
  obtain ⟨L, hL⟩ : ∃ L, ids S 65 = L := ⟨_, rfl⟩
  rw [hL]
  have HL := Lib.hid hL
  clear hL h
  go_enter Tryd.func56, Tryd.ntmps56
  go_wp2
  go_loopg [3, 5] 65 (fun q v i wr => ∃ k : Nat, k + q = 65 ∧ i = .int .i64 k ∧ (Kd.int .i64).R 3 wr 0 (since w) v (ids S k) ∧ Fr no w wr)
  case atStart => exact ⟨0, by omega, rfl, by simpa [ids] using Kd.R_nil _ _ _ _ _, Fr.refl _ _⟩
  case round =>
    obtain ⟨k, hk, rfl, hR, hf⟩ := hrel
    obtain ⟨A, c, rfl⟩ := Kd.R_slice hR
    have hil := ids_len S k
    have hD := HD.out.fr hf (fun h => h)
    by_cases hlt : k < 65
    · by_cases h0 : k = 0
      · subst h0
        go_wp2_with fail
        refine (on_zero B _).mono ?_
        rintro e w1 ⟨rfl, rfl⟩
        dsimp only
        go_wp2
        go_roundg (65 - (0 + 1))
        case measure => omega
        case rel => exact ⟨1, by omega, rfl, hR, hf⟩
      · have hk1 : 1 ≤ k := by omega
        have hdd : decide ((k : Int) < 65) = true := by simp; omega
        have hk2 : k ≤ 64 := by omega
        clear h0
        obtain ⟨on, hon⟩ : ∃ b, (S k).on = b := ⟨_, rfl⟩
        cases on with
        | true =>
          have HI : Hid (ids S k ++ [(k : Int)] = ids S (k + 1)) := by
            show _ = _
            rw [ids, if_pos ⟨hk1, hon⟩]
          go_wp2_with fail
          refine (on_c B t S _ k rfl hk1 hk2 _ hD).mono ?_
          rintro e w1 ⟨rfl, rfl⟩
          rw [hon]
          clear hon
          dsimp only
          go_wp2_with (at_builtin
                       refine Kd.R_append (Kd.int .i64) (w0 := wr) 0 rfl (.tmp 11) (.tmp 13) 45 3 (.int .i64 0) 8 rfl Tryd.underlying45 infoI rfl (by decide) (by omega) _ (ids S k) (k : Int) [.int .i64 (k : Int)] (since w) (fun _ => False) rfl (by simp [go_sem]) rfl (fun _ hk => hk.elim) (fun b hb => Nat.le_trans hf.size hb) hR (Below.refl 0 _) (Nat.zero_le _) (by omega) ?_
                       intro v1 w8 ho hb1 hg hat
                       clear hat hb1
                       rw [HI.out] at ho
                       have hF8 := hf.new' ((Fr.of_grown hg (fun k hk _ => hR.1 k hk)).mono (fun _ h _ => h))
                       clear hg)
          go_roundg (65 - (k + 1))
          case measure => omega
          case rel => exact ⟨k + 1, by omega, by go_num, ho, hF8⟩
        | false =>
          have HI : Hid (ids S k = ids S (k + 1)) := by
            show _ = _
            rw [ids, if_neg (by simp [hon]), List.append_nil]
          go_wp2_with fail
          refine (on_c B t S _ k rfl hk1 hk2 _ hD).mono ?_
          rintro e w1 ⟨rfl, rfl⟩
          rw [hon]
          clear hon
          dsimp only
          have HR := Lib.hid hR
          clear hR
          go_wp2
          go_roundg (65 - (k + 1))
          case measure => omega
          case rel => exact ⟨k + 1, by omega, by go_num, by rw [← HI.out]; exact HR.out, hf⟩
    · have hkk : ids S k = L := by
        have : k = 65 := by omega
        rw [this]
        exact HL.out
      rw [hkk] at hR hil ⊢
      have hge : ¬ ((k : Int) < 65) := by omega
      have hdd : decide ((k : Int) < 65) = false := by simpa using hge
      clear hge
      clear hkk hlt hk
      obtain ⟨hc1, hc2⟩ := R_cap hR
      go_wp2_with fail
      refine (clipI_c A _ c hc1 hc2 _).mono ?_
      rintro e w1 ⟨rfl, rfl⟩
      dsimp only
      go_wp2
      go_ret
      exact ⟨⟨A, c, rfl, hR⟩, hf⟩

end Go.Proofs.YtdkkdoadafhfmaaDoor.Sess
