import Derived.Test.YtdkkdoadafhfmaaCodecN
import Derived.Test.YtdkkdoadafhfmaaCodeRefS
import Derived.Test.YtdkkdoadafhfmaaErrFS
/-! CodeShort: what is cut in the second number reads the first, then says that it is short at its place. -/
set_option linter.unusedVariables false
set_option linter.unusedSimpArgs false
namespace Go.Proofs.Ytdkkdoadafhfmaa.Codec
open Go.RowKit Go.Proofs.YtdkkdoadafhfmaaW.PrintWords Go.Proofs.Ytdkkdoadafhfmaa.B Go.Proofs.Ytdkkdoadafhfmaa.Err

theorem at_c (part : ByteArray) (a code : Int) (w : World) : Calls Try.prog 23 #[.string part, .int .i64 a, .int .i64 code] w fun e w' => (∃ G, e = .returned (wrongV G code) ∧ w.heap.size ≤ G ∧ PartAt w' G part a) ∧ Fr no w w' := by
  have hfr := fun o1 => ((Fr.refl no w).alloc o1).alloc (.cells #[.string part, .int .i64 a] 82)
  go_enter Try.func23, Try.ntmps23
  go_wp2
  refine bodyPost_ret (v := wrongV (w.heap.size + 1) code) (by simp [results, Try.results23, go_sem, wrongV]) rfl ⟨⟨w.heap.size + 1, rfl, by omega, ?_⟩, hfr _⟩
  have h := blk_new (w.alloc (.cells #[.slice (some ⟨w.heap.size + 1, 0, none⟩) 1 1, .int .i64 code] 59)) (.cells #[.string part, .int .i64 a] 82)
  unfold PartAt
  simpa using h
theorem enc_pos (u : Int) : 1 ≤ (enc u).length := by
  by_cases h : u < 128
  · rw [enc_lt u h]; simp
  · rw [enc_ge u (by omega)]; simp
theorem un_short : ∀ (m : Nat) (u : Int) (i : Nat) (v : Int), i + (enc u).length ≤ 10 → m < (enc u).length → un i v ((enc u).take m) = (0, 3, 0)
  | 0, u, i, v, h1, h2 => by
    rw [List.take_zero, un, if_pos (by omega)]
  | m + 1, u, i, v, h1, h2 => by
    by_cases h : u < 128
    · rw [enc_lt u h] at h2; simp at h2
    · have h3 := enc_pos (u / 128)
      rw [enc_ge u (by omega)] at h1 h2 ⊢
      simp only [List.length_cons] at h1 h2
      rw [List.take_succ_cons, un, if_neg (by omega), if_neg (by omega), if_neg (by omega)]
      exact un_short m (u / 128) (i + 1) _ (by omega) (by omega)
theorem dInt_short (pre : List Int) (n : Int) (h1 : -9223372036854775808 ≤ n) (h2 : n ≤ 9223372036854775807) (m : Nat) (hm : m < (encI n).length) (a : Int) (ha : a = pre.length) : dInt (pre ++ (encI n).take m) a = (0, a, some (a, 3)) := by
  subst ha
  have h := encI_len n h1 h2
  unfold dInt
  rw [Int.toNat_natCast, List.drop_left]
  unfold encI at h hm ⊢
  rw [un_short m _ 0 0 (by omega) hm]
  rfl
set_option maxRecDepth 100000 in
set_option maxHeartbeats 4000000 in
theorem short_c (w : World) (a v cut : Int) (a0 : -9223372036854775808 ≤ a) (a1 : a ≤ 9223372036854775807) (v0 : -9223372036854775808 ≤ v) (v1 : v ≤ 9223372036854775807) (c1 : cut ≤ 9223372036854775807) :
    Calls Try.prog 4 #[.int .i64 a, .int .i64 v, .int .i64 cut] w fun e w' => e = .returned (.bool true) ∧ Fr no w w' := by
  have hla := encI_len a a0 a1
  have hlv := encI_len v v0 v1
  have hpv : 1 ≤ (encI v).length := enc_pos _
  obtain ⟨La, hLa⟩ : ∃ l, encI a = l := ⟨_, rfl⟩
  obtain ⟨Lv, hLv⟩ : ∃ l, encI v = l := ⟨_, rfl⟩
  have HLa := Lib.hid hLa
  have HLv := Lib.hid hLv
  rw [hLa] at hla
  rw [hLv] at hlv hpv
  clear hLa hLv
  go_enter Try.func4, Try.ntmps4
  go_wp2_with fail
  refine (known_c w).mono ?_
  rintro e w1 ⟨rfl, hf⟩
  dsimp only
  obtain ⟨hE, hf⟩ := enc_new hf
  go_wp2_with fail
  refine (eInt_s hE hf [a] (by simp; omega) (by simp) (by rfl) (by simp [go_sem]) (by rfl)).mono ?_
  clear hE hf
  rintro e w3 ⟨rfl, hE, hf⟩
  simp only [List.flatMap_cons, List.flatMap_nil, List.append_nil, List.nil_append, HLa.out] at hE
  dsimp only
  go_wp2_with fail
  refine (bytes_s hE (by omega)).mono ?_
  rintro e w4 ⟨A4, rfl, hC4, hF⟩
  replace hE := hE.fr hF (fun _ _ h => h)
  replace hf := hf.trans' hF
  clear hF hC4
  dsimp only
  go_wp2_with fail
  refine (eInt_s hE hf [v] (by simp; omega) (by simp; omega) (by rfl) (by simp [go_sem]) (by rfl)).mono ?_
  clear hE hf
  rintro e w5 ⟨rfl, hE, hf⟩
  simp only [List.flatMap_cons, List.flatMap_nil, List.append_nil, HLv.out] at hE
  have hbl : (La ++ Lv).length = La.length + Lv.length := List.length_append
  dsimp only
  have hbs := bytes_s hE (by rw [hbl]; omega)
  rw [hbl] at hbs
  clear hbl
  go_wp2_with fail
  refine hbs.mono ?_
  clear hbs
  rintro e w6 ⟨A6, rfl, hC6, hF⟩
  replace hf := hf.trans' hF
  clear hF hE
  generalize w1.heap.size = B at *
  dsimp only
  by_cases hcut : cut < 0
  · have hd : decide (cut < 0) = true := by simpa using hcut
    clear hcut
    go_wp2
    go_ret
    exact ⟨rfl, hf⟩
  have hd : decide (cut < 0) = false := by simpa using hcut
  have c0 : 0 ≤ cut := by omega
  have hd2 : decide ((La.length : Int) + (Lv.length : Int) ≤ (La.length : Int)) = false := by simp; omega
  have e3 : (La.length : Int) + (Lv.length : Int) - (La.length : Int) = (Lv.length : Int) := by omega
  have hd3 : decide ((10 : Int) < (Lv.length : Int)) = false := by simp; omega
  obtain ⟨m, hm⟩ : ∃ m : Nat, cut % (Lv.length : Int) = (m : Int) := ⟨(cut % (Lv.length : Int)).toNat, by have := Int.emod_nonneg cut (show (Lv.length : Int) ≠ 0 by omega); omega⟩
  have hm2 : m < Lv.length := by have := Int.emod_lt_of_pos cut (show 0 < (Lv.length : Int) by omega); omega
  have hC6' : (Kd.int .u8).C w6 A6 (La ++ Lv).length (La ++ Lv) := by rw [List.length_append]; exact hC6
  have hCt := Kd.C_take hC6' (m := La.length + m) (by rw [List.length_append]; omega)
  rw [List.take_length_add_append] at hCt
  have hbl : (La ++ Lv.take m).length = La.length + m := by rw [List.length_append, List.length_take]; omega
  have hby : Hid (∀ x ∈ La ++ Lv.take m, 0 ≤ x ∧ x < 256) := fun x hx => by
    rcases List.mem_append.1 hx with h | h
    · exact encI_bytes a a0 a1 x (by rw [HLa.out]; exact h)
    · exact encI_bytes v v0 v1 x (by rw [HLv.out]; exact List.mem_of_mem_take h)
  have hd1 : Hid (dInt (La ++ Lv.take m) 0 = (a, (La.length : Int), none)) := by
    have h := dInt_enc [] a (Lv.take m) a0 a1 0 rfl
    rw [HLa.out, List.nil_append, Int.zero_add] at h
    exact h
  have hd4 : Hid (dInt (La ++ Lv.take m) (La.length : Int) = (0, (La.length : Int), some ((La.length : Int), 3))) := by
    have h := dInt_short La v v0 v1 m (by rw [HLv.out]; exact hm2) (La.length : Int) rfl
    rw [HLv.out] at h
    exact h
  generalize La ++ Lv.take m = bs at *
  have hof := of_c A6 (La.length + Lv.length) bs w6 hCt (by omega) (by omega)
  rw [hbl] at hof
  have HBL := Lib.hid hbl
  have HM := Lib.hid hm2
  clear hcut hC6 hC6' hCt hbl
  go_wp2_with fail
  refine hof.mono ?_
  clear hof
  rintro e w7 ⟨D, rfl, hD, hF⟩
  replace hD := hD.mono (ok' := since w) (fun k hk => Nat.le_trans hf.size hk)
  replace hf := hf.trans' hF
  clear hF
  dsimp only
  go_wp2_with fail
  refine (dInt_s hD hf (by decide) (by omega) (by have := HBL.out; omega) hby.out _ hd1.out).mono ?_
  rintro e w8 ⟨rfl, hD, _, hf⟩
  dsimp only at hD ⊢
  go_wp2_with fail
  refine (dInt_s hD hf (by omega) (by have := HBL.out; omega) (by have := HBL.out; omega) hby.out _ hd4.out).mono ?_
  rintro e w9 ⟨rfl, hD, _, hf⟩
  dsimp only at hD ⊢
  have hri := refInt_c v w9 v0 v1
  rw [HLv.out] at hri
  go_wp2_with fail
  refine hri.mono ?_
  clear hri
  rintro e w10 ⟨A10, c10, rfl, _, hF⟩
  replace hD := hD.fr hF (fun _ _ h => h)
  replace hf := hf.trans' hF
  clear hF
  have hq := q_methodErrF
  dsimp only
  go_wp2_with fail
  refine (err_c D bs _ _ w10 _ hD).mono ?_
  rintro e wx ⟨ev, rfl, hEv, rfl⟩
  obtain ⟨F, rfl, _, hFa⟩ := hEv
  dsimp only
  go_wp2_with fail
  refine (err_c D bs _ _ w10 _ hD).mono ?_
  rintro e wx ⟨ev, rfl, hEv, rfl⟩
  obtain ⟨F2, rfl, _, hFb⟩ := hEv
  clear hFa
  dsimp only
  go_wp2_with fail
  refine (fault_c F2 ⟨#[98, 121, 116, 101]⟩ (La.length : Int) 3 La.length rfl (by omega) (by decide) (by decide) (by decide) w10 hFb).mono ?_
  rintro e w11 ⟨⟨s1, rfl, hs1⟩, hF⟩
  replace hD := hD.fr hF (fun _ _ h => h)
  replace hf := hf.trans' hF
  clear hF hFb
  dsimp only
  go_wp2_with fail
  refine (at_c ⟨#[98, 121, 116, 101]⟩ (La.length : Int) 3 w11).mono ?_
  rintro e w12 ⟨⟨G, rfl, _, hG⟩, hF⟩
  replace hD := hD.fr hF (fun _ _ h => h)
  replace hf := hf.trans' hF
  clear hF
  dsimp only
  go_wp2_with fail
  refine (words_c G ⟨#[98, 121, 116, 101]⟩ (La.length : Int) 3 La.length rfl (by omega) (by decide) (by decide) (by decide) w12 hG).mono ?_
  rintro e w13 ⟨⟨s2, rfl, hs2⟩, hF⟩
  replace hD := hD.fr hF (fun _ _ h => h)
  replace hf := hf.trans' hF
  clear hF hG
  obtain rfl : s1 = s2 := by
    have := hs1.trans hs2.symm
    cases s1; cases s2
    congr 1
    exact Array.toList_inj.1 this
  clear hs1 hs2
  dsimp only
  go_wp2_with fail
  refine (left_e hD (by omega) (by have := HBL.out; omega)).mono ?_
  rintro e w14 ⟨rfl, hF⟩
  replace hf := hf.trans' hF
  dsimp only
  go_wp2
  go_ret
  exact ⟨rfl, hf⟩
theorem short_row (w : World) (a v cut : Int) (h1 : (Lit.int .i64 a).wf = true) (h2 : (Lit.int .i64 v).wf = true) (h3 : (Lit.int .i64 cut).wf = true) :
    Calls Try.prog 4 #[.int .i64 a, .int .i64 v, .int .i64 cut] w fun e w' => e = .returned (.bool true) ∧ Fr no w w' := by
  have k1 := Go.bounds_i64 h1
  have k2 := Go.bounds_i64 h2
  have k3 := Go.bounds_i64 h3
  exact short_c w a v cut (by omega) (by omega) (by omega) (by omega) (by omega)
end Go.Proofs.Ytdkkdoadafhfmaa.Codec
