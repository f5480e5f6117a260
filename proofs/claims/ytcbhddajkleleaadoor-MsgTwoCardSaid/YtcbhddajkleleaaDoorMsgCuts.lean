import Derived.Test.YtcbhddajkleleaaDoorMsgZ
import Derived.Test.YtcbhddajkleleaaDoorErrLaid
/-! MsgCuts. -/
set_option linter.unusedVariables false
set_option linter.unusedSimpArgs false
namespace Go.Proofs.YtcbhddajkleleaaDoor.Msg
open Go.RowKit Go.Proofs.YtcbhddajkleleaaDoorW.PrintWords Go.Proofs.YtcbhddajkleleaaDoor.B Go.Proofs.YtcbhddajkleleaaDoor.Codec Go.Proofs.YtcbhddajkleleaaDoor.Err

theorem may0_kind {m : Msg} (h : mayF m.Kind m.Seq m.L.length = 0) : 1 ≤ m.Kind ∧ m.Kind ≤ 68 := by
  unfold mayF at h
  by_cases h1 : m.Kind < 0 ∨ 255 < m.Kind ∨ knownK m.Kind = false
  · rw [if_pos h1] at h; omega
  · have hk : knownK m.Kind = true := by
      cases hk : knownK m.Kind with
      | true => rfl
      | false => exact absurd (.inr (.inr hk)) h1
    unfold knownK at hk
    simp at hk
    omega
theorem encM_pos (m : Msg) : 0 < (encM m).length := by
  unfold encM numsL headL
  rw [List.flatMap_append, List.length_append, List.flatMap_cons, List.length_append]
  have := List.length_pos_iff.2 (encI_ne m.Kind)
  omega
set_option maxRecDepth 100000 in
set_option maxHeartbeats 4000000 in
theorem cuts_c (w : World) (hg : ErrType w) (m : Msg) (A : Option Addr) (c : Nat) (cut more : Int) (hC : kRow.C w A m.L.length m.L) (hOk : OkM m) (h0 : 0 ≤ more) (h1 : more < 256) (hcu : cut ≤ 9223372036854775807) :
    Calls Tryd.prog 6 #[msgV m A c, .int .i64 cut, .int .u8 more] w fun e w' => e = .returned (.bool true) ∧ Fr no w w' := by
  have HG := Lib.hid hg
  have HO := Lib.hid hOk
  have HC := Lib.hid hC
  have HCU := Lib.hid hcu
  have hX := blk_new w (.cells #[.int .i64 m.Kind, .int .i64 m.Seq, .int .i64 m.A.r0, .int .i64 m.A.r1, .int .i64 m.A.r2, .int .i64 m.A.r3, .int .i64 m.A.r4, .int .i64 m.A.r5, .slice A m.L.length c] 29)
  have hfx := (Fr.refl no w).alloc (.cells #[.int .i64 m.Kind, .int .i64 m.Seq, .int .i64 m.A.r0, .int .i64 m.A.r1, .int .i64 m.A.r2, .int .i64 m.A.r3, .int .i64 m.A.r4, .int .i64 m.A.r5, .slice A m.L.length c] 29)
  clear hg hOk hC hcu
  unfold msgV
  go_enter Tryd.func6, Tryd.ntmps6
  go_wp2_with fail
  generalize w.alloc _ = w1 at *
  generalize w.heap.size = X at *
  have hall : Hid (∀ u, Fr no w1 u → u.heap[X]? = some (.cells #[.int .i64 m.Kind, .int .i64 m.Seq, .int .i64 m.A.r0, .int .i64 m.A.r1, .int .i64 m.A.r2, .int .i64 m.A.r3, .int .i64 m.A.r4, .int .i64 m.A.r5, .slice A m.L.length c] 29 (0, 0))) := fun u h => h.heap hX (fun h => h)
  have HG1 := Lib.hid (HG.out.fr hfx (fun h => h))
  clear hX
  refine (known_m w1).mono ?_
  rintro e w2 ⟨rfl, hf⟩
  obtain ⟨c0, c1, c2, c3, c4, c5, c6, c7, c8⟩ := (nine (hall.out _ hf)).1
  dsimp only
  by_cases hl : 60 < m.L.length
  · go_wp2
    go_ret
    exact ⟨rfl, hfx.trans' hf⟩
  by_cases hcn : cut < 0
  · go_wp2
    go_ret
    exact ⟨rfl, hfx.trans' hf⟩
  have hcut0 : 0 ≤ cut := by omega
  clear hcn
  have hmv : msgV m A c = .agg #[.int .i64 m.Kind, .int .i64 m.Seq, .int .i64 m.A.r0, .int .i64 m.A.r1, .int .i64 m.A.r2, .int .i64 m.A.r3, .int .i64 m.A.r4, .int .i64 m.A.r5, .slice A m.L.length c] := rfl
  by_cases hmay : mayF m.Kind m.Seq m.L.length = 0
  · have he := encode_yes m A c w2 (C_fr HC.out (hfx.trans' hf)) HO.out hmay (by omega)
    rw [hmv] at he
    have HM := Lib.hid hmay
    clear hmay hmv
    go_wp2_with fail
    (with_reducible refine he.mono ?_)
    clear he
    rintro e w3 ⟨⟨A1, rfl, hCb⟩, hf3⟩
    replace hf := hf.trans' hf3
    have hn0 := encM_pos m
    have hnl := upto_len m HO.out m.L.length (Nat.le_refl _)
    rw [upto_all] at hnl
    obtain ⟨ad, rfl, _⟩ := hCb.2.2 hn0
    obtain ⟨bs, hbs⟩ : ∃ x, encM m = x := ⟨_, rfl⟩
    have hby := encM_bytes m HO.out
    rw [hbs] at hCb hn0 hnl hby ⊢
    have HBS := Lib.hid hbs
    have HBY := Lib.hid hby
    clear hf3 hbs hby c0 c1 c2 c3 c4 c5 c6 c7 c8
    have hz : ((bs.length : Int) == 0) = false := by simp; intro h; rw [h] at hn0; simp at hn0
    have hp0 : (0 : Int) < (bs.length : Int) := by omega
    obtain ⟨k, hk⟩ : ∃ k : Nat, cut % (bs.length : Int) = (k : Int) := ⟨(cut % (bs.length : Int)).toNat, by have := Int.emod_nonneg cut (show (bs.length : Int) ≠ 0 by omega); omega⟩
    have hkl : (k : Int) < (bs.length : Int) := by rw [← hk]; exact Int.emod_lt_of_pos _ hp0
    have hk0 : (0 : Int) ≤ (k : Int) := by omega
    have hkl2 : k < bs.length := by omega
    obtain ⟨j, hj, hh⟩ := held_cut HO.out.nums k (by show k < (encM m).length; rw [HBS.out]; exact hkl2)
    have hh' : Held (numsL m) j (bs.take k) := by rw [← HBS.out]; exact hh
    have htl : (bs.take k).length = k := by rw [List.length_take]; omega
    have hCk : (Kd.int .u8).C w3 (some ad) (bs.take k).length (bs.take k) := Kd.C_take hCb (by omega)
    have hdec := Lib.hid (decode_c m HO.out HM.out (by omega) j (bs.take k) hh' (by omega) w3 (some ad) k bs.length htl.symm hCk (by omega))
    clear hh hh' htl hCk
    dsimp only
    go_wp2_with fail
    (with_reducible refine (hdec.out).mono ?_)
    rintro e w4 hD
    obtain ⟨F1, rfl⟩ := hD.cut hj
    replace hf := hf.trans' hD.fr
    replace hCb := C_fr hCb hD.fr
    clear hD hdec hk hkl hk0 hkl2 hj
    have hf5 := (hf.alloc (.cells #[.int .i64 0, .int .i64 0, .int .i64 0, .int .i64 0, .int .i64 0, .int .i64 0, .int .i64 0, .int .i64 0, .slice none 0 0] 29))
    have hC5 := C_fr hCb ((Fr.refl no w4).alloc (.cells #[.int .i64 0, .int .i64 0, .int .i64 0, .int .i64 0, .int .i64 0, .int .i64 0, .int .i64 0, .int .i64 0, .slice none 0 0] 29))
    have hE : (Kd.int .u8).R 5 ((w4.alloc (.cells #[.int .i64 0, .int .i64 0, .int .i64 0, .int .i64 0, .int .i64 0, .int .i64 0, .int .i64 0, .int .i64 0, .slice none 0 0] 29)).alloc (.cells #[] 5)) 0 (since w1) (.slice (some ⟨w4.heap.size + 1, 0, none⟩) 0 0) [] := by
      have h : (Kd.int .u8).R 5 ((w4.alloc (.cells #[.int .i64 0, .int .i64 0, .int .i64 0, .int .i64 0, .int .i64 0, .int .i64 0, .int .i64 0, .int .i64 0, .slice none 0 0] 29)).alloc (.cells #[] 5)) 0 (since w1) (.slice (some ⟨(w4.alloc (.cells #[.int .i64 0, .int .i64 0, .int .i64 0, .int .i64 0, .int .i64 0, .int .i64 0, .int .i64 0, .int .i64 0, .slice none 0 0] 29)).heap.size, 0, none⟩) 0 0) [] := Kd.R_of_own (World.ownsRow_lit (w4.alloc (.cells #[.int .i64 0, .int .i64 0, .int .i64 0, .int .i64 0, .int .i64 0, .int .i64 0, .int .i64 0, .int .i64 0, .slice none 0 0] 29)) #[] 0 (Nat.zero_le _) (by decide) rfl) (fun k hk => by simp [Value.ownBlock] at hk; subst hk; exact Nat.le_trans hf.size (by omega))
      rw [World.size_alloc] at h
      exact h
    have hf6 := hf5.alloc (.cells #[] 5)
    have hC6 := C_fr hC5 ((Fr.refl no _).alloc (.cells #[] 5))
    unfold zeroV faultV
    dsimp only
    go_wp2_with (first
                 | (at_builtin; refine Kd.R_append_row (fun n : Int => Value.int .u8 n) (0 : Int) (w0 := (w4.alloc (.cells #[.int .i64 0, .int .i64 0, .int .i64 0, .int .i64 0, .int .i64 0, .int .i64 0, .int .i64 0, .int .i64 0, .slice none 0 0] 29)).alloc (.cells #[] 5)) 0 rfl (.tmp 48) (.tmp 49) 36 5 (.int .u8 0) 1 rfl Tryd.underlying36 info8 rfl (by decide) (.slice (some ⟨w4.heap.size + 1, 0, none⟩) 0 0) [] bs (some ad) bs.length bs.length (since w1) rfl rfl (fun x hx => Nat.le_trans hf6.size hx) hE hC6 (Below.refl 0 _) (Nat.zero_le _) (by simp; omega) ?_
                    intro v1 w5 ho hb1 hg hat
                    clear hat hb1
                    replace hf := hf6.new' (Fr.of_grown hg (fun x hx _ => hE.1 x hx))
                    clear hg hE hC5 hC6 hf5 hf6 hCb
                    change (Kd.int .u8).R 5 w5 0 (since w1) v1 ([] ++ bs) at ho
                    rw [List.nil_append] at ho
                    obtain ⟨g, cap1, rfl, _, hgl, _⟩ := Kd.R_form ho (by omega))
                 | (at_builtin; refine Kd.R_append (Kd.int .u8) (w0 := w5) 0 rfl (.tmp 50) (.tmp 52) 36 5 (.int .u8 0) 1 rfl Tryd.underlying36 info8 rfl (by decide) (by omega) _ bs more [.int .u8 more] (since w1) (fun _ => False) rfl rfl rfl (fun _ hk => hk.elim) (fun x hx => Nat.le_trans hf.size hx) ho (Below.refl 0 _) (Nat.zero_le _) (by omega) ?_
                    intro v2 w6 ho2 hb1 hg hat
                    clear hat hb1
                    have hf6 := hf.new' ((Fr.of_grown hg (fun x hx _ => ho.1 x hx)).mono (fun _ h _ => h))
                    clear hg ho hf))
    obtain ⟨A2, c2, rfl⟩ := Kd.R_slice ho2
    have hCm := (Kd.R_reads' ho2).2.2
    have hcm := (Kd.R_reads' ho2).2.1
    have hh2 : Held (numsL m) (numsL m).length (bs ++ [more]) := by
      have h := held_all HO.out.nums [more] (fun x hx => by simp at hx; omega)
      have e : encM m = (numsL m).flatMap encI := rfl
      rw [← e, HBS.out] at h
      exact h
    have hml : (bs ++ [more]).length = bs.length + 1 := by simp
    have hdec := Lib.hid (decode_c m HO.out HM.out (by omega) (numsL m).length (bs ++ [more]) hh2 (by rw [hml]; omega) w6 A2 (bs ++ [more]).length c2 rfl hCm hcm)
    clear hh2 hCm ho2
    (with_reducible refine (hdec.out).mono ?_)
    rintro e w7 hD
    obtain ⟨F2, rfl, hMF⟩ := hD.more rfl (by rw [HBS.out, hml]; omega)
    replace hf6 := hf6.trans' hD.fr
    have hkd := may0_kind HM.out
    have hcK : ((cutK m.Kind : Nat) : Int) = m.Kind := by unfold cutK; omega
    rw [hcK] at hMF
    have hfz := (Fr.refl no w7).alloc (.cells #[.int .i64 0, .int .i64 0, .int .i64 0, .int .i64 0, .int .i64 0, .int .i64 0, .int .i64 0, .int .i64 0, .slice none 0 0] 29)
    have hF : FaultAt (w7.alloc (.cells #[.int .i64 0, .int .i64 0, .int .i64 0, .int .i64 0, .int .i64 0, .int .i64 0, .int .i64 0, .int .i64 0, .slice none 0 0] 29)) F2 msgB m.Kind 2 := hfz.heap (show FaultAt w7 F2 msgB m.Kind 2 from hMF) (fun h => h)
    replace hf6 := hf6.trans' hfz
    have c0 : (w7.alloc (.cells #[.int .i64 0, .int .i64 0, .int .i64 0, .int .i64 0, .int .i64 0, .int .i64 0, .int .i64 0, .int .i64 0, .slice none 0 0] 29)).cell? ⟨X, 0, none⟩ = some (.int .i64 m.Kind) := (nine (hall.out _ hf6)).1.1
    clear hD hdec hMF hfz hcK hml hcm
    unfold zeroV faultV
    dsimp only
    go_wp2_with fail
    generalize w7.alloc _ = w8 at *
    refine (at_c msgB m.Kind 2 _).mono ?_
    rintro e w9 ⟨⟨G, rfl, _, hPt⟩, hf9⟩
    replace hF : FaultAt w9 F2 msgB m.Kind 2 := hf9.heap hF (fun h => h)
    replace hf6 := hf6.trans' hf9
    clear hf9 c0
    dsimp only
    go_wp2_with fail
    refine (tells_c F2 G msgB m.Kind 2 m.Kind.toNat (by omega) (by omega) (by omega) (by omega) (by decide) _ (HG1.out.fr hf6 (fun h => h)) hF hPt).mono ?_
    rintro e w10 ⟨rfl, hf10⟩
    dsimp only
    go_wp2
    go_ret
    exact ⟨rfl, hfx.trans' (hf6.trans' hf10)⟩
  · have he := encode_no m A c w2 hmay
    rw [hmv] at he
    clear hmay hmv
    go_wp2_with fail
    (with_reducible refine he.mono ?_)
    clear he
    rintro e w3 ⟨⟨F, rfl, _, _⟩, hf3⟩
    unfold faultV
    dsimp only
    go_wp2
    go_ret
    exact ⟨rfl, hfx.trans' (hf.trans' hf3)⟩
theorem ok_of_wf {m : Msg} (h : wfMsg m) (hl : m.L.length ≤ 9223372036854775807) : OkM m := by
  obtain ⟨h1, h2, ⟨a0, a1, a2, a3, a4, a5⟩, hr⟩ := h
  refine ⟨fun x hx => ?_, fun r hr' x hx => ?_⟩
  · have g1 := Go.bounds_i64 h1
    have g2 := Go.bounds_i64 h2
    have b0 := Go.bounds_i64 a0
    have b1 := Go.bounds_i64 a1
    have b2 := Go.bounds_i64 a2
    have b3 := Go.bounds_i64 a3
    have b4 := Go.bounds_i64 a4
    have b5 := Go.bounds_i64 a5
    simp [headL] at hx
    unfold i64
    omega
  · obtain ⟨r0, r1, r2, r3, r4⟩ := hr r hr'
    have b0 := Go.bounds_i64 r0
    have b1 := Go.bounds_i64 r1
    have b2 := Go.bounds_i64 r2
    have b3 := Go.bounds_i64 r3
    have b4 := Go.bounds_i64 r4
    simp [rowL] at hx
    unfold i64
    omega
theorem cuts_row (w : World) (hL : laidMetH Tryd.prog [("math/bits.deBruijn32tab", Rows.laid_math_bits_deBruijn32tab), ("math/bits.deBruijn64tab", Rows.laid_math_bits_deBruijn64tab), ("internal/strconv.uint64pow10", Rows.laid_internal_strconv_uint64pow10), ("errors.errorType", Rows.laid_errors_errorType)] w)
    (m : Msg) (A : Option Addr) (c : Nat) (cut more : Int) (hC : kRow.C w A m.L.length m.L) (_ : m.L.length ≤ c) (hw : wfMsg m) (h1 : (Lit.int .i64 cut).wf = true) (h2 : (Lit.int .u8 more).wf = true) :
    Calls Tryd.prog 6 #[.agg #[.int .i64 m.Kind, .int .i64 m.Seq, .int .i64 m.A.r0, .int .i64 m.A.r1, .int .i64 m.A.r2, .int .i64 m.A.r3, .int .i64 m.A.r4, .int .i64 m.A.r5, .slice A m.L.length c], .int .i64 cut, .int .u8 more] w fun e w' => e = .returned (.bool true) ∧ Fr no w w' := by
  have h' : laidMet Tryd.prog _ w ∧ handlesMet Tryd.prog [("errors.errorType", Rows.laid_errors_errorType)] w := hL
  have b1 := Go.bounds_i64 h1
  have b2 := Go.bounds_u8 h2
  exact cuts_c w (errType_of_handles h'.2) m A c cut more hC (ok_of_wf hw hC.2.1) (by omega) (by omega) b1.2
end Go.Proofs.YtcbhddajkleleaaDoor.Msg
