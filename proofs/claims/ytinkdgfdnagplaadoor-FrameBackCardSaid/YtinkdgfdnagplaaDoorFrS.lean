import Derived.Test.YtinkdgfdnagplaaDoorCrcD
/-! The reference's Sum, Seal, Wrap. -/
set_option linter.unusedVariables false
set_option linter.unusedSimpArgs false
namespace Go.Proofs.YtinkdgfdnagplaaDoor.Crc
open Go.RowKit Go.Proofs.YtinkdgfdnagplaaDoorW.PrintWords Go.Proofs.YtinkdgfdnagplaaDoor.B

set_option maxRecDepth 100000 in
set_option maxHeartbeats 2000000 in
theorem rsum_c (A : Option Addr) (cap : Nat) (l : List Int) (hl : l.length ≤ 1000000000) (hb : ∀ x ∈ l, 0 ≤ x ∧ x < 256) (w : World) (hC : (Kd.int .u8).C w A l.length l) :
    Calls Tryd.prog 29 #[.slice A l.length cap] w fun e w' => e = .returned (.int .u32 (addF 0 l : Nat)) ∧ w = w' := by
  have HB := Lib.hid hb
  have hsg : IntKind.u32.signed = false := rfl
  obtain ⟨T, hT⟩ : ∃ T, run 4294967295 (ns l) = T := ⟨_, rfl⟩
  have hadd : addF 0 l = 4294967295 - T := by unfold addF; rw [Nat.sub_zero, hT]
  rw [hadd]
  have HT := Lib.hid hT
  clear hb hT hadd
  go_enter Tryd.func29, Tryd.ntmps29
  go_wp2
  go_loopg [3, 4] l.length (fun q v i wr => ∃ (k s1 : Nat), k + q = l.length ∧ i = .int .i64 (k : Int) ∧ v = .int .u32 (s1 : Int) ∧ s1 < 4294967296 ∧ Hid (run s1 (ns (l.drop k)) = T) ∧ w = wr)
  case atStart => exact ⟨0, 4294967295, by omega, rfl, rfl, by omega, HT, rfl⟩
  case round =>
    clear HT
    obtain ⟨k, s1, hk, rfl, rfl, hs1, hr, rfl⟩ := hrel
    by_cases hlt : k < l.length
    · obtain ⟨ad, rfl, hc⟩ := u8_el hC k hlt
      obtain ⟨x0, x1⟩ := HB.out l[k] (List.getElem_mem hlt)
      have hr2 := hr.out
      rw [List.drop_eq_getElem_cons hlt] at hr2
      simp only [ns, List.map_cons, run_cons] at hr2
      generalize l[k] = x at *
      obtain ⟨c, rfl⟩ : ∃ c : Nat, x = (c : Int) := ⟨x.toNat, by omega⟩
      rw [Int.toNat_natCast] at hr2
      have hc1 : c < 256 := by omega
      have hx := u32_xor_nat s1 c hs1 (by omega)
      have hlt2 := xor_byte_lt hs1 hc1
      obtain ⟨U, hU⟩ : ∃ U, st8 (s1 ^^^ c) = U := ⟨_, rfl⟩
      have hUl : U < 4294967296 := by rw [← hU]; exact st8_lt hlt2
      rw [hU] at hr2
      have HR2 := Lib.hid hr2
      have HU := Lib.hid hU
      have hdd : decide (k < l.length) = true := by simpa using hlt
      clear hr hr2 hU
      go_wp2
      clear hx
      obtain ⟨s2, hs2⟩ : ∃ s2, s1 ^^^ c = s2 := ⟨_, rfl⟩
      rw [hs2] at hlt2 HU ⊢
      clear hs2
      go_loopg [3, 5] 8 (fun q v i wr => ∃ (j s3 : Nat), j + q = 8 ∧ i = .int .i64 (j : Int) ∧ v = .int .u32 (s3 : Int) ∧ s3 < 4294967296 ∧ Hid (it (8 - j) s3 = U) ∧ w = wr)
      case atStart => exact ⟨0, s2, by omega, rfl, rfl, hlt2, HU, rfl⟩
      case round =>
        clear HU hlt2
        obtain ⟨j, s3, hj, rfl, rfl, hs3, hi, rfl⟩ := hrel
        have HI := hi.out
        by_cases hj8 : j < 8
        · rw [show 8 - j = (8 - (j + 1)) + 1 by omega, it] at HI
          have hd2 : decide ((j : Int) < 8) = true := by simp; omega
          have hlow := u32_low s3 hs3
          have hpoly := u32_poly s3 hs3
          have hs1p := st1_lt hs3
          unfold st1 at HI hs1p
          by_cases ho : s3 % 2 = 1
          · rw [if_pos ho] at HI hs1p
            have ht : ((s3 : Int) % 2 == 1) = true := by simp; omega
            have HI2 := Lib.hid HI
            clear HI hi ho
            go_wp2
            go_roundg (8 - (j + 1))
            case measure => omega
            case rel => exact ⟨j + 1, s3 / 2 ^^^ poly, by omega, by go_num, rfl, hs1p, HI2.out, rfl⟩
          · rw [if_neg ho] at HI hs1p
            have ht : ((s3 : Int) % 2 == 1) = false := by simp; omega
            have HI2 := Lib.hid HI
            clear HI hi ho
            go_wp2
            go_roundg (8 - (j + 1))
            case measure => omega
            case rel => exact ⟨j + 1, s3 / 2, by omega, by go_num, by simp, hs1p, HI2.out, rfl⟩
        · obtain rfl : j = 8 := by omega
          have he : s3 = U := HI
          subst he
          clear HI hi hj8
          go_wp2
          go_roundg (l.length - (k + 1))
          case measure => omega
          case rel => exact ⟨k + 1, s3, by omega, by go_num, rfl, hUl, HR2.out, rfl⟩
    · obtain rfl : k = l.length := by omega
      have hr2 := hr.out
      rw [List.drop_length] at hr2
      have he : s1 = T := hr2
      subst he
      have hnot := u32_not s1 hs1
      clear hr hr2
      go_wp2
      go_ret
      exact ⟨rfl, rfl⟩
set_option maxRecDepth 100000 in
set_option maxHeartbeats 4000000 in
theorem rseal_c (A : Option Addr) (cap : Nat) (b : List Int) (hb : Bytes [b]) (w : World) (hC : (Kd.int .u8).C w A b.length b) :
    Calls Tryd.prog 20 #[.slice A b.length cap] w fun e w' => (∃ A' c, e = .returned (.slice A' (b.length + 4) c) ∧ (Kd.int .u8).R 5 w' 0 (since w) (.slice A' (b.length + 4) c) (b ++ le4 (addF 0 b))) ∧ Fr no w w' := by
  have hb1 := (hb b (by simp)).1
  have HS0 := Lib.hid (rsum_c A cap b (by omega) (hb b (by simp)).2 w hC)
  have hs0 := addF_lt 0 b
  obtain ⟨s, hs⟩ : ∃ s, addF 0 b = s := ⟨_, rfl⟩
  rw [hs] at HS0 hs0 ⊢
  have hE : (Kd.int .u8).R 5 (w.alloc (.cells #[] 5)) 0 (since w) (.slice (some ⟨w.heap.size, 0, none⟩) 0 0) [] := Kd.R_of_own (World.ownsRow_lit w #[] 0 (Nat.zero_le _) (by decide) rfl) (fun k hk => by simp [Value.ownBlock] at hk; subst hk; exact Nat.le_refl _)
  have HE := Lib.hid hE
  have HC := Lib.hid hC
  clear hE hs hb hC
  go_enter Tryd.func20, Tryd.ntmps20
  go_wp2_with fail
  refine HS0.out.mono ?_
  rintro e w1 ⟨rfl, rfl⟩
  clear HS0
  dsimp only
  go_wp2_with (first
    | (at_builtin
       refine Kd.R_append_row (fun n : Int => Value.int .u8 n) (0 : Int) (w0 := w.alloc (.cells #[] 5)) 0 rfl (.tmp 6) (.tmp 7) 24 5 (.int .u8 0) 1 rfl Tryd.underlying24 info8 rfl (by decide) _ [] b A b.length cap (since w) rfl rfl (fun b hb => Nat.le_trans ((Fr.refl no w).alloc _).size hb) HE.out (C_fr HC.out ((Fr.refl no w).alloc _)) (Below.refl 0 _) (Nat.zero_le _) (by simp; omega) ?_
       intro v1 w2 ho hb2 hg hat
       replace ho : (Kd.int .u8).R 5 w2 0 (since w) v1 b := ho
       have hf2 : Fr no w w2 := ((Fr.refl no w).alloc _).new' (Fr.of_grown hg (fun b hb _ => HE.out.1 b hb))
       obtain ⟨A2, c2, rfl⟩ := Kd.R_slice ho
       clear hat hb2 hg)
    | (at_builtin
       have hX2 := blk_new w2 (.cells #[.int .u8 ((s : Int) % 256), .int .u8 ((s : Int) / 256 % 256), .int .u8 ((s : Int) / 65536 % 256), .int .u8 ((s : Int) / 16777216)] 5)
       have hf3 := (Fr.refl no w2).alloc (.cells #[.int .u8 ((s : Int) % 256), .int .u8 ((s : Int) / 256 % 256), .int .u8 ((s : Int) / 65536 % 256), .int .u8 ((s : Int) / 16777216)] 5)
       have hCb : (Kd.int .u8).C (w2.alloc (.cells #[.int .u8 ((s : Int) % 256), .int .u8 ((s : Int) / 256 % 256), .int .u8 ((s : Int) / 65536 % 256), .int .u8 ((s : Int) / 16777216)] 5)) (some ⟨w2.heap.size, 0, none⟩) (le4 s).length (le4 s) :=
         C_blk (d := Kd.int .u8) hX2 (le4 s) (show 0 < 1 by decide) (show 4 ≤ 9223372036854775807 by decide) (((((Reps.none _ _).snoc (p := (s : Int) % 256) (show (Kd.int .u8).K _ ((s : Int) % 256) [.int .u8 ((s : Int) % 256)] from rfl) rfl).snoc (p := (s : Int) / 256 % 256) (show (Kd.int .u8).K _ ((s : Int) / 256 % 256) [.int .u8 ((s : Int) / 256 % 256)] from rfl) rfl).snoc (p := (s : Int) / 65536 % 256) (show (Kd.int .u8).K _ ((s : Int) / 65536 % 256) [.int .u8 ((s : Int) / 65536 % 256)] from rfl) rfl).snoc (p := (s : Int) / 16777216) (show (Kd.int .u8).K _ ((s : Int) / 16777216) [.int .u8 ((s : Int) / 16777216)] from rfl) rfl)
       refine Kd.R_append_row (fun n : Int => Value.int .u8 n) (0 : Int) (w0 := w2.alloc (.cells #[.int .u8 ((s : Int) % 256), .int .u8 ((s : Int) / 256 % 256), .int .u8 ((s : Int) / 65536 % 256), .int .u8 ((s : Int) / 16777216)] 5)) 0 rfl (.tmp 8) (.tmp 20) 24 5 (.int .u8 0) 1 rfl Tryd.underlying24 info8 rfl (by decide) _ b (le4 s) (some ⟨w2.heap.size, 0, none⟩) 4 4 (since w) rfl rfl (fun b hb => Nat.le_trans (hf2.trans' hf3).size hb) (R_fr ho hf3 (fun _ _ h => h)) hCb (Below.refl 0 _) (Nat.zero_le _) (by simp; omega) ?_
       intro v3 w4 ho4 hb4 hg4 hat4
       have hf4 : Fr no w w4 := (hf2.trans' hf3).new' (Fr.of_grown hg4 (fun b hb _ => ho.1 b hb))
       obtain ⟨A4, c4, rfl⟩ := Kd.R_slice ho4
       clear hat4 hb4 hg4))
  go_ret
  rw [List.length_append, show (le4 s).length = 4 from rfl] at ho4
  exact ⟨⟨A4, c4, rfl, ho4⟩, hf4⟩
end Go.Proofs.YtinkdgfdnagplaaDoor.Crc
