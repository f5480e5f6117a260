import Derived.Test.YtcbhddajkleleaaDoorMsgKinds
import Derived.Test.YtcbhddajkleleaaDoorErrLaid
/-! MsgRows. -/
set_option linter.unusedVariables false
set_option linter.unusedSimpArgs false
namespace Go.Proofs.YtcbhddajkleleaaDoor.Msg
open Go.RowKit Go.Proofs.YtcbhddajkleleaaDoorW.PrintWords Go.Proofs.YtcbhddajkleleaaDoor.B Go.Proofs.YtcbhddajkleleaaDoor.Codec Go.Proofs.YtcbhddajkleleaaDoor.Err

def rowsI (k : Nat) : List Row := (List.range k).map fun i : Nat => ⟨(i : Int), 0, 0, 0, 0⟩
theorem rowsI_len (k : Nat) : (rowsI k).length = k := by simp [rowsI]
theorem rowsI_succ (k : Nat) : rowsI (k + 1) = rowsI k ++ [⟨k, 0, 0, 0, 0⟩] := by simp [rowsI, List.range_succ]
def mI (K : Int) (k : Nat) : Msg := ⟨K, 1, zA, rowsI k⟩
theorem mI_ok (K : Int) (k : Nat) (h0 : 0 ≤ K) (h1 : K < 256) (hk : k < 256) : OkM (mI K k) := ⟨fun x hx => by
  simp [mI, headL, zA, rowsI_len] at hx
  unfold i64
  omega, fun r hr x hx => by
  simp [mI, rowsI] at hr
  obtain ⟨i, hi, rfl⟩ := hr
  simp [rowL] at hx
  unfold i64
  omega⟩
/-- The message that the law builds. -/
structure RS (w0 w : World) (M : Nat) (K : Int) (v : Value) (L : List Row) (ok : Nat → Prop) : Prop where
  own : ∀ k, ok k → since w0 k ∧ k ≠ M
  m1 : w0.heap.size ≤ M
  blk : w.heap[M]? = some (.cells #[.int .i64 K, .int .i64 1, .int .i64 0, .int .i64 0, .int .i64 0, .int .i64 0, .int .i64 0, .int .i64 0, v] 29 (0, 0))
  row : kRow.R 42 w 0 ok v L
  fr : Fr no w0 w
theorem RS.go {w0 w w1 : World} {M : Nat} {K : Int} {v : Value} {L : List Row} {ok : Nat → Prop} (h : RS w0 w M K v L ok) (hf : Fr no w w1) : RS w0 w1 M K v L ok :=
  ⟨h.own, h.m1, hf.heap h.blk (fun h => h), R_fr h.row hf (fun _ _ h => h), h.fr.trans' hf⟩
theorem RS.rows {w0 w w1 : World} {M : Nat} {K : Int} {v v' : Value} {L L' : List Row} {ok : Nat → Prop} (h : RS w0 w M K v L ok) (hF : Fr ok w w1) (hR : kRow.R 42 w1 0 (ext ok w) v' L') :
    RS w0 (w1.setCell ⟨M, 8, none⟩ v') M K v' L' (ext ok w) := by
  have hMl := blk_lt h.blk
  have hb := hF.heap h.blk (fun he => (h.own M he).2 rfl)
  have hF2 : Fr (one M) w1 (w1.setCell ⟨M, 8, none⟩ v') := (Fr.refl (one M) w1).set (p := ⟨M, 8, none⟩) (fun _ => rfl) _
  have hf1 := h.fr.new hF (fun k hk => (h.own k hk).1)
  refine ⟨fun k hk => ?_, h.m1, blk_put hb 8 v' rfl, R_fr hR hF2 (fun k hk he => ?_), hf1.new hF2 (fun k hk => by have : k = M := hk; rw [this]; exact h.m1)⟩
  · rcases hk with hk | hk
    · exact h.own k hk
    · exact ⟨Nat.le_trans h.fr.size hk, by omega⟩
  · have he' : k = M := he
    subst he'
    rcases hk with hk | hk
    · exact (h.own k hk).2 rfl
    · omega
set_option maxRecDepth 100000 in
set_option maxHeartbeats 4000000 in
theorem rows_c (w : World) (hg : ErrType w) (a b : Int) (a0 : 0 ≤ a) (a1 : a < 256) (b0 : 0 ≤ b) (b1 : b < 256) : Calls Tryd.prog 5 #[.int .u8 a, .int .u8 b] w fun e w' => e = .returned (.bool true) ∧ Fr no w w' := by
  have HG := Lib.hid hg
  clear hg
  have m0 : 0 ≤ a % 80 := by omega
  have m1 : a % 80 < 80 := by omega
  have n0 : 0 ≤ b % 70 := by omega
  have n1 : b % 70 < 70 := by omega
  go_enter Tryd.func5, Tryd.ntmps5
  go_wp2_with fail
  refine (known_m w).mono ?_
  rintro e w1 ⟨rfl, hf⟩
  have hRS : RS w (w1.alloc (.cells #[.int .i64 (a % 80), .int .i64 1, .int .i64 0, .int .i64 0, .int .i64 0, .int .i64 0, .int .i64 0, .int .i64 0, .slice none 0 0] 29)) w1.heap.size (a % 80) (.slice none 0 0) (rowsI 0) (fun _ => False) :=
    ⟨fun _ h => h.elim, hf.size, blk_new w1 _, Kd.R_nil _ _ _ _ _, hf.alloc _⟩
  clear hf
  dsimp only
  go_wp2
  generalize w1.alloc _ = w2 at *
  generalize w1.heap.size = M at *
  go_loopg [7] (b % 70).toNat (fun q v7 wr => ∃ (k : Nat) (v : Value) (ok : Nat → Prop), k + q = (b % 70).toNat ∧ v7 = .int .i64 k ∧ RS w wr M (a % 80) v (rowsI k) ok)
  case atStart => exact ⟨0, _, _, by omega, rfl, hRS⟩
  case round =>
    clear hRS
    obtain ⟨k, v, ok, hk, rfl, hRS⟩ := hrel
    by_cases hlt : (k : Int) < b % 70
    · obtain ⟨A1, c1, rfl⟩ := Kd.R_slice hRS.row
      have hrl := rowsI_len k
      have hm8 := (nine hRS.blk).1.2.2.2.2.2.2.2.2
      have HRS := Lib.hid (rowsI_succ k)
      have HRL := Lib.hid hrl
      clear hrl
      obtain ⟨G, hG⟩ : ∃ x, rowsI k = x := ⟨_, rfl⟩
      rw [hG] at hRS hm8 HRS HRL
      clear hG
      have hgl : G.length ≤ 1000 := by have := HRL.out; omega
      go_wp2_with (at_builtin
                   refine Kd.R_append kRow (w0 := wr) 0 rfl (.tmp 29) (.tmp 32) 27 42 (.agg #[.int .i64 0, .int .i64 0, .int .i64 0, .int .i64 0, .int .i64 0]) 40 rfl Tryd.underlying27 infoR rfl (by decide) (by omega) _ G ⟨(k : Int), 0, 0, 0, 0⟩ _ (ext ok wr) (fun _ => False) rfl rfl (kRow_mkM _ _ _ _) (fun _ hk => hk.elim) (fun k hk => .inr hk) (Kd.R_mono hRS.row (fun _ => .inl)) (Below.refl 0 _) (Nat.zero_le _) (by omega) ?_
                   intro v1 w9 ho hb1 hg hat
                   clear hat hb1
                   obtain ⟨A2, c2, rfl⟩ := Kd.R_slice ho
                   have hF := Fr.of_grown (S := ok) hg (fun k hk _ => hRS.row.1 k hk)
                   have hbk := hF.heap hRS.blk (fun he => (hRS.own M he).2 rfl)
                   have m8 := (nine hbk).1.2.2.2.2.2.2.2.2
                   have mf8 := blk_frozen hbk 8
                   have hRS2 := hRS.rows hF ho
                   clear hbk hF ho hg hRS hm8)
      rw [List.length_append, ← HRS.out] at hRS2
      clear m8 mf8
      go_roundg ((b % 70).toNat - (k + 1))
      case measure => omega
      case rel => exact ⟨k + 1, _, _, by omega, by go_num, hRS2⟩
    · have hkn : k = (b % 70).toNat := by omega
      obtain ⟨A1, c1, rfl⟩ := Kd.R_slice hRS.row
      have hrl := rowsI_len k
      rw [hrl] at hRS
      have hrc := (Kd.R_reads' hRS.row).2.2
      have hokm := mI_ok (a % 80) k m0 (by omega) (by omega)
      have HOK := Lib.hid hokm
      have HKN := Lib.hid hkn
      have hd : decide ((k : Int) < b % 70) = false := by simp; omega
      have hk70 : k < 70 := by omega
      obtain ⟨c0, c1', c2, c3, c4, c5, c6, c7, c8⟩ := (nine hRS.blk).1
      obtain ⟨KK, hKK⟩ : ∃ x, a % 80 = x := ⟨_, rfl⟩
      rw [hKK] at m0 m1 hRS HOK c0 ⊢
      clear hKK hkn hlt hokm hk hrl
      go_wp2_with fail
      refine (rrows_k KK _).mono ?_
      rintro e w3 ⟨rfl, rfl⟩
      dsimp only
      go_wp2_with fail
      obtain ⟨may, hmay⟩ : ∃ x, mayF KK 1 k = x := ⟨_, rfl⟩
      have hmc := hmay
      unfold mayF at hmc
      obtain ⟨l0, l1⟩ := lo_bd KK
      obtain ⟨h0, h1⟩ := hi_bd KK
      have hmv : msgV (mI KK k) A1 c1 = .agg #[.int .i64 KK, .int .i64 1, .int .i64 0, .int .i64 0, .int .i64 0, .int .i64 0, .int .i64 0, .int .i64 0, .slice A1 k c1] := by simp [msgV, mI, zA, rowsI_len]
      have hcK : ((cutK KK : Nat) : Int) = KK := by unfold cutK; omega
      by_cases hkn : knownK KK = false
      · rw [if_pos (.inr (.inr hkn))] at hmc
        subst hmc
        have hmn : mayF (mI KK k).Kind (mI KK k).Seq (mI KK k).L.length = 5 := by
          rw [← hmay]
          simp [mI, rowsI_len]
        have hen := encode_no (mI KK k) A1 c1 wr (by rw [hmn]; decide)
        rw [hmv, hmn] at hen
        have hck2 : ((cutK (mI KK k).Kind : Nat) : Int) = KK := hcK
        rw [hck2] at hen
        clear hck2 hmn hmv
        (with_reducible refine hen.mono ?_)
        clear hen
        rintro e w4 ⟨⟨F, rfl, _, hMF⟩, hf4⟩
        have hF : FaultAt w4 F msgB KK 5 := hMF
        have hfr := hRS.fr.trans' hf4
        have hm8 : w4.cell? ⟨M, 8, none⟩ = some (.slice A1 k c1) := hf4.cell c8 (fun h => h)
        clear hMF hf4 c0 c1' c2 c3 c4 c5 c6 c7 c8 hRS hrc
        unfold faultV
        dsimp only
        go_wp2_with fail
        refine (rknown_k KK _).mono ?_
        rintro e w5 ⟨rfl, rfl⟩
        rw [hkn]
        dsimp only
        go_wp2_with fail
        refine (at_c msgB KK 5 _).mono ?_
        rintro e w6 ⟨⟨G, rfl, _, hPt⟩, hf6⟩
        replace hF : FaultAt w6 F msgB KK 5 := hf6.heap hF (fun h => h)
        replace hfr := hfr.trans' hf6
        clear hf6
        dsimp only
        go_wp2_with fail
        refine (tells_c F G msgB KK 5 KK.toNat (by omega) (by omega) (by omega) (by omega) (by decide) _ (HG.out.fr hfr (fun h => h)) hF hPt).mono ?_
        rintro e w7 ⟨rfl, hf7⟩
        dsimp only
        go_wp2
        go_ret
        exact ⟨rfl, hfr.trans' hf7⟩
      · have hkn : knownK KK = true := by simpa using hkn
        rw [if_neg (by rintro (h | h | h); omega; omega; rw [hkn] at h; cases h), if_neg (by omega)] at hmc
        by_cases hr : (k : Int) < loF KK ∨ hiF KK < k
        · rw [if_pos hr] at hmc
          subst hmc
          have hdl : decide ((k : Int) < loF KK) = true ∨ (decide ((k : Int) < loF KK) = false ∧ decide (hiF KK < (k : Int)) = true) := by
            by_cases h : (k : Int) < loF KK
            · exact .inl (by simpa using h)
            · exact .inr ⟨by simpa using h, by simp; omega⟩
          clear hr
          rcases hdl with hdl | ⟨hdl, hdh⟩
          all_goals
            have hmn : mayF (mI KK k).Kind (mI KK k).Seq (mI KK k).L.length = 4 := by
              rw [← hmay]
              simp [mI, rowsI_len]
            have hen := encode_no (mI KK k) A1 c1 wr (by rw [hmn]; decide)
            rw [hmv, hmn] at hen
            have hck2 : ((cutK (mI KK k).Kind : Nat) : Int) = KK := hcK
            rw [hck2] at hen
            clear hck2 hmn hmv
            (with_reducible refine hen.mono ?_)
            clear hen
            rintro e w4 ⟨⟨F, rfl, _, hMF⟩, hf4⟩
            have hF : FaultAt w4 F msgB KK 4 := hMF
            have hfr := hRS.fr.trans' hf4
            have hm8 : w4.cell? ⟨M, 8, none⟩ = some (.slice A1 k c1) := hf4.cell c8 (fun h => h)
            clear hMF hf4 c0 c1' c2 c3 c4 c5 c6 c7 c8 hRS hrc
            unfold faultV
            dsimp only
            go_wp2_with fail
            refine (rknown_k KK _).mono ?_
            rintro e w5 ⟨rfl, rfl⟩
            rw [hkn]
            dsimp only
            go_wp2_with fail
            refine (at_c msgB KK 4 _).mono ?_
            rintro e w6 ⟨⟨G, rfl, _, hPt⟩, hf6⟩
            replace hF : FaultAt w6 F msgB KK 4 := hf6.heap hF (fun h => h)
            replace hfr := hfr.trans' hf6
            clear hf6
            dsimp only
            go_wp2_with fail
            refine (tells_c F G msgB KK 4 KK.toNat (by omega) (by omega) (by omega) (by omega) (by decide) _ (HG.out.fr hfr (fun h => h)) hF hPt).mono ?_
            rintro e w7 ⟨rfl, hf7⟩
            dsimp only
            go_wp2
            go_ret
            exact ⟨rfl, hfr.trans' hf7⟩
        · rw [if_neg hr] at hmc
          subst hmc
          have hdl : decide ((k : Int) < loF KK) = false := by simp; omega
          have hdh : decide (hiF KK < (k : Int)) = false := by simp; omega
          have hmn : mayF (mI KK k).Kind (mI KK k).Seq (mI KK k).L.length = 0 := by
            rw [← hmay]
            simp [mI, rowsI_len]
          clear hr hmay
          have hrc' : kRow.C wr A1 (mI KK k).L.length (mI KK k).L := hrc
          have hen := encode_yes (mI KK k) A1 c1 wr hrc' HOK.out hmn (by rw [show (mI KK k).L.length = k from rowsI_len k]; omega)
          rw [hmv] at hen
          have HMV := Lib.hid hmv
          have HMN := Lib.hid hmn
          clear hmv hmn
          (with_reducible refine hen.mono ?_)
          clear hen
          rintro e w4 ⟨⟨Ab, rfl, hCb⟩, hf4⟩
          have hdec := decode_m (mI KK k) HOK.out HMN.out (by rw [show (mI KK k).L.length = k from rowsI_len k]; omega) w4 Ab hCb
          replace hRS := hRS.go hf4
          replace hrc' := C_fr hrc' hf4
          have hm8 : w4.cell? ⟨M, 8, none⟩ = some (.slice A1 k c1) := hf4.cell c8 (fun h => h)
          clear hCb hf4 hrc c0 c1' c2 c3 c4 c5 c6 c7 c8
          obtain ⟨nb, hnb⟩ : ∃ x, (encM (mI KK k)).length = x := ⟨_, rfl⟩
          rw [hnb] at hdec ⊢
          have HD := Lib.hid hdec
          clear hnb hdec
          dsimp only
          go_wp2_with fail
          refine (rknown_k KK _).mono ?_
          rintro e w5 ⟨rfl, rfl⟩
          rw [hkn]
          dsimp only
          go_wp2_with fail
          (with_reducible refine (HD.out).mono ?_)
          rintro e w5 ⟨⟨A2, c2, rfl, hc2, hC2⟩, hf5⟩
          replace hRS := hRS.go hf5
          replace hrc' := C_fr hrc' hf5
          have hml : (mI KK k).L.length = k := rowsI_len k
          have hmv2 : msgV (mI KK k) A2 c2 = .agg #[.int .i64 KK, .int .i64 1, .int .i64 0, .int .i64 0, .int .i64 0, .int .i64 0, .int .i64 0, .int .i64 0, .slice A2 k c2] := by simp [msgV, mI, zA, rowsI_len]
          rw [hmv2]
          have HMV2 := Lib.hid hmv2
          have hD := blk_new w5 (.cells #[.int .i64 KK, .int .i64 1, .int .i64 0, .int .i64 0, .int .i64 0, .int .i64 0, .int .i64 0, .int .i64 0, .slice A2 k c2] 29)
          have hfz := (Fr.refl no w5).alloc (.cells #[.int .i64 KK, .int .i64 1, .int .i64 0, .int .i64 0, .int .i64 0, .int .i64 0, .int .i64 0, .int .i64 0, .slice A2 k c2] 29)
          replace hRS := hRS.go hfz
          replace hrc' := C_fr hrc' hfz
          replace hC2 := C_fr hC2 hfz
          clear hfz hm8 hmv2 HD
          dsimp only
          obtain ⟨⟨d0, d1, d2, d3, d4, d5, d6, d7, d8⟩, _⟩ := nine hD
          obtain ⟨⟨c0, c1', c2', c3, c4, c5, c6, c7, c8⟩, _⟩ := nine hRS.blk
          have hfin := hRS.fr
          clear hD hRS
          have hsm := same_c (mI KK k) (mI KK k) A2 A1 c2 c1 _ hC2 hrc' (by rw [hml]; omega) (by rw [hml]; omega)
          rw [HMV2.out, HMV.out, sameB_true.2 rfl] at hsm
          have HSM := Lib.hid hsm
          clear hsm hC2 hrc' hml
          go_wp2_with fail
          (with_reducible refine (HSM.out).mono ?_)
          rintro e w7 ⟨rfl, hf7⟩
          dsimp only
          go_wp2
          go_ret
          exact ⟨rfl, hfin.trans' hf7⟩
theorem rows_row (w : World) (hL : laidMetH Tryd.prog [("math/bits.deBruijn32tab", Rows.laid_math_bits_deBruijn32tab), ("math/bits.deBruijn64tab", Rows.laid_math_bits_deBruijn64tab), ("internal/strconv.uint64pow10", Rows.laid_internal_strconv_uint64pow10), ("errors.errorType", Rows.laid_errors_errorType)] w) (a b : Int) (h1 : (Lit.int .u8 a).wf = true) (h2 : (Lit.int .u8 b).wf = true) : Calls Tryd.prog 5 #[.int .u8 a, .int .u8 b] w fun e w' => e = .returned (.bool true) ∧ Fr no w w' := by
  have b1 := Go.bounds_u8 h1
  have b2 := Go.bounds_u8 h2
  have h' : laidMet Tryd.prog _ w ∧ handlesMet Tryd.prog [("errors.errorType", Rows.laid_errors_errorType)] w := hL
  exact rows_c w (errType_of_handles h'.2) a b (by omega) (by omega) (by omega) (by omega)
end Go.Proofs.YtcbhddajkleleaaDoor.Msg
