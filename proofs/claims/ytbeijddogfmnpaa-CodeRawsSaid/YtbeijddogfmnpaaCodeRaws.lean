import Derived.Test.YtbeijddogfmnpaaCodecN
import Derived.Deep.RegionWith
/-! P301: texts of any length go there and back. -/
set_option linter.unusedVariables false
set_option linter.unusedSimpArgs false
namespace Go.Proofs.Ytbeijddogfmnpaa.Codec
open Go.RowKit Go.Proofs.YtbeijddogfmnpaaW.PrintWords Go.Proofs.Ytbeijddogfmnpaa.B

theorem sl_at {T : Nat} {w : World} {A : Option Addr} {l : List (List Int)} (hC : (Kd.slice T (Kd.int .u8)).C w A l.length l) (k : Nat) (h : k < l.length) :
    ∃ ad A' c, A = some ad ∧ w.cell? (ad.add k) = some (.slice A' l[k].length c) ∧ l[k].length ≤ c ∧ (Kd.int .u8).C w A' l[k].length l[k] := by
  obtain ⟨ad, hA, hc⟩ := hC.2.2 (by omega)
  obtain ⟨c, h1, ⟨A', c', h2, h3, h4⟩, h5⟩ := hc k l[k] (by simp [h])
  subst h2
  exact ⟨ad, A', c', hA, by simpa [show (Kd.slice T (Kd.int .u8)).sz = 1 from rfl] using h5 0 _ rfl, h3, h4⟩
theorem flatR_len : ∀ (l : List (List Int)), (∀ x ∈ l, x.length ≤ 300) → (l.flatMap encR).length ≤ 310 * l.length
  | [], _ => by simp
  | x :: r, h => by
    have h1 := flatR_len r (fun y hy => h y (by simp [hy]))
    have h0 := h x (by simp)
    have h2 := encI_len x.length (by omega) (by omega)
    simp only [List.flatMap_cons, List.length_append, List.length_cons, encR]
    omega

theorem flat_split (l : List (List Int)) (k : Nat) (h : k < l.length) (t : List Int) : l.flatMap encR ++ t = (l.take k).flatMap encR ++ (encR l[k] ++ ((l.drop (k + 1)).flatMap encR ++ t)) := by
  have e : l = l.take k ++ l[k] :: l.drop (k + 1) := by rw [← List.drop_eq_getElem_cons h, List.take_append_drop]
  have h2 := congrArg (fun m => m.flatMap encR ++ t) e
  simp only [List.flatMap_append, List.flatMap_cons, List.append_assoc] at h2
  exact h2

theorem dRaw_bad (pre : List Int) (n : Int) (h1 : -9223372036854775808 ≤ n) (h2 : n ≤ 9223372036854775807) (hn : n ≠ 0) (a : Int) (ha : a = pre.length) : ∃ c, dRaw (pre ++ encI n) a = ([], ((pre ++ encI n).length : Int), some (a, c)) := by
  have h := dInt_enc pre n [] h1 h2 a ha
  rw [List.append_nil] at h
  subst ha
  unfold dRaw
  rw [h]
  simp only [Option.isSome_none, List.length_append]
  rw [if_neg (by simp)]
  by_cases h0 : n < 0
  · exact ⟨2, by rw [if_pos h0]; simp⟩
  · exact ⟨3, by rw [if_neg h0, if_pos (by omega)]; simp⟩

set_option maxHeartbeats 4000000 in
set_option maxRecDepth 4000 in
theorem raws_c (w : World) (A : Option Addr) (cap : Nat) (l : List (List Int)) (n : Int) (hC : (Kd.slice 25 (Kd.int .u8)).C w A l.length l) (hb : ∀ x ∈ l, ∀ y ∈ x, 0 ≤ y ∧ y < 256) (hn0 : -9223372036854775808 ≤ n) (hn1 : n ≤ 9223372036854775807) :
    Calls Try.prog 4 #[.slice A l.length cap, .int .i64 n] w fun e w' => e = .returned (.bool true) ∧ Fr no w w' := by
  have HBy := Lib.hid hb
  clear hb
  go_enter Try.func4, Try.ntmps4
  go_wp2_with fail
  refine (known_c w).mono ?_
  rintro e w1 ⟨rfl, hf⟩
  dsimp only
  by_cases h20 : 20 < l.length
  · go_wp2
    go_ret
    exact ⟨rfl, hf⟩
  obtain ⟨hE, hf⟩ := enc_new hf
  go_wp2
  generalize w1.heap.size = B at *
  generalize w1.alloc _ = w2 at *
  go_loopg [6] l.length (fun q i wr => ∃ k : Nat, k + q = l.length ∧ i = .int .i64 k ∧ Hid (∀ x ∈ l.take k, x.length ≤ 300) ∧ Encs wr (since w) B ((l.take k).flatMap encR) ∧ Fr no w wr)
  case atStart => exact ⟨0, by omega, rfl, by simp [Hid], by simpa using hE, hf⟩
  case round =>
    clear hE hf
    obtain ⟨k, hk, rfl, h300, hE, hf⟩ := hrel
    by_cases hlt : k < l.length
    · obtain ⟨ad, A', c, rfl, hcell0, hcap, hCk⟩ := sl_at hC k hlt
      have hcell := hf.cell hcell0 (fun h => h)
      by_cases hbig : 300 < l[k].length
      · go_wp2
        go_ret
        exact ⟨rfl, hf⟩
      · have hlen : ((l.take k).flatMap encR).length + 20 + l[k].length ≤ 1000000000 := by
          have h1 := flatR_len (l.take k) h300.out
          have h2 : (l.take k).length ≤ l.length := by rw [List.length_take]; omega
          omega
        have hnx : (l.take (k + 1)).flatMap encR = (l.take k).flatMap encR ++ encR l[k] := by rw [List.take_succ_eq_append_getElem hlt, List.flatMap_append]; simp
        have h301 : Hid (∀ x ∈ l.take (k + 1), x.length ≤ 300) := by
          intro x hx
          rw [List.take_succ_eq_append_getElem hlt] at hx
          rcases List.mem_append.1 hx with h | h
          · exact h300.out x h
          · simp at h; subst h; omega
        clear h300
        have HNX := Lib.hid hnx
        have HLEN := Lib.hid hlen
        clear hnx hlen
        generalize l[k] = p at *
        go_wp2_with fail
        refine (eRaw_s (W0 := w) hE hf c hCk HLEN.out).mono ?_
        rintro e w3 ⟨rfl, hE, hf⟩
        rw [← HNX.out] at hE
        dsimp only
        go_wp2
        go_roundg (l.length - (k + 1))
        case rel => exact ⟨k + 1, by omega, by go_num, h301, hE, hf⟩
        case measure => omega
    · obtain rfl : k = l.length := by omega
      rw [List.take_length] at hE h300
      have hlen1 := flatR_len l h300.out
      have HLEN := Lib.hid hlen1
      clear hlen1
      obtain ⟨b1, hb1⟩ : ∃ b, l.flatMap encR = b := ⟨_, rfl⟩
      have HB1 := Lib.hid hb1
      rw [hb1] at hE HLEN
      clear hb1
      go_wp2_with fail
      refine (eInt_s hE hf [n] (by simp; omega) (by have := HLEN.out; simp; omega) (by rfl) (by simp [go_sem]) (by rfl)).mono ?_
      rintro e w3 ⟨rfl, hE, hf⟩
      simp only [List.flatMap_cons, List.flatMap_nil, List.append_nil] at hE
      dsimp only
      have hbsl : (b1 ++ encI n).length ≤ 10000 := by
        have h1 := HLEN.out
        have h2 := encI_len n hn0 hn1
        simp only [List.length_append]
        omega
      have hbsb : ∀ x ∈ b1 ++ encI n, 0 ≤ x ∧ x < 256 := by
        intro x hx
        rcases List.mem_append.1 hx with h | h
        · rw [← HB1.out] at h
          obtain ⟨p, h1, h2⟩ := List.mem_flatMap.1 h
          exact encR_bytes p (by have := h300.out p h1; omega) (HBy.out p h1) x h2
        · exact encI_bytes n hn0 hn1 x h
      have hbse : l.flatMap encR ++ encI n = b1 ++ encI n := by rw [HB1.out]
      generalize b1 ++ encI n = bs at *
      have HL := Lib.hid hbsl
      have HBB := Lib.hid hbsb
      have HEQ := Lib.hid hbse
      clear hbsl hbsb hbse HB1 HLEN
      go_wp2_with fail
      refine (bytes_s hE (by have := HL.out; omega)).mono ?_
      rintro e w4 ⟨A2, rfl, hC2, hF⟩
      replace hf := hf.trans' hF
      clear hE hF
      dsimp only
      go_wp2_with fail
      refine (of_c A2 _ bs _ hC2 (Nat.le_refl _) (by have := HL.out; omega)).mono ?_
      rintro e w5 ⟨D, rfl, hD, hF⟩
      replace hD := hD.mono (ok' := since w) (fun k hk => Nat.le_trans hf.size hk)
      replace hf := hf.trans' hF
      clear hF hC2
      dsimp only
      go_wp2
      go_loopg [8] l.length (fun q i wr => ∃ k : Nat, k + q = l.length ∧ i = .int .i64 k ∧ Decs wr (since w) D bs ((l.take k).flatMap encR).length none ∧ Fr no w wr)
      case atStart => exact ⟨0, by omega, rfl, by simpa using hD, hf⟩
      case round =>
        clear hD hf
        obtain ⟨k, hk, rfl, hD, hf⟩ := hrel
        by_cases hlt : k < l.length
        · obtain ⟨ad, A', c, rfl, hcell0, hcap, hCk⟩ := sl_at hC k hlt
          have hcell := hf.cell hcell0 (fun h => h)
          have hsplit := HEQ.out.symm.trans (flat_split l k hlt (encI n))
          have hp300 := h300.out l[k] (List.getElem_mem hlt)
          have hdr : dRaw bs (((l.take k).flatMap encR).length : Int) = (l[k], (((l.take k).flatMap encR).length : Int) + ((encR l[k]).length : Int), (none : Option (Int × Int))) :=
            (congrArg (fun b => dRaw b (((l.take k).flatMap encR).length : Int)) hsplit).trans (dRaw_enc _ _ _ (by omega) _ rfl)
          have hnx : (((l.take (k + 1)).flatMap encR).length : Int) = ((l.take k).flatMap encR).length + (encR l[k]).length := by rw [List.take_succ_eq_append_getElem hlt, List.flatMap_append]; simp
          have hle : (((l.take k).flatMap encR).length : Int) ≤ bs.length := by have := congrArg List.length hsplit; simp only [List.length_append] at this; omega
          clear hsplit
          have HDR := Lib.hid hdr
          have HNX := Lib.hid hnx
          have HLE := Lib.hid hle
          clear hdr hnx hle
          generalize l[k] = p at *
          generalize ((l.take k).flatMap encR).length = pos at *
          go_wp2
          have hconv : ∀ (W : World) (A : Option Addr) (c : Nat), (Kd.int .u8).C W A p.length p → (convert 25 9 (.slice A p.length c)).run Try.prog W = .ok (.string (strOfNums p)) W := fun W A c h => Kd.C_string (P := Try.prog) (c := c) Try.underlying25 Try.underlying5 Try.underlying9 h
          have q3 := C_fr hCk (Fr.drew hf)
          go_region_with
            (first
             | (go_at_call 19
                refine (dRaw_s (hD.fr ((Fr.refl no wr).drew) (fun _ _ h => h)) (Fr.drew hf) (by omega) HLE.out (by have := HL.out; omega) HBB.out _ HDR.out).mono ?_
                rintro e w6 ⟨A4, rfl, hC4, hD4, hF4, hf4⟩
                have q0 : w6.cell? (ad.add k) = some (.slice A' p.length c) := hf4.cell hcell0 (fun h => h)
                have q1 := C_fr hCk hf4
                dsimp only at hC4
                dsimp only))
          all_goals
            go_wp2
            go_roundg (l.length - (k + 1))
            case rel => exact ⟨k + 1, by omega, by go_num, by rw [HNX.out]; exact hD4, hf4⟩
            case measure => omega
        · obtain rfl : k = l.length := by omega
          rw [List.take_length] at hD
          have heq := HEQ.out
          subst heq
          have hl := HL.out
          by_cases hn : n = 0
          · subst hn
            have hr : dRaw (l.flatMap encR ++ encI 0) ((l.flatMap encR).length : Int) = ([], ((l.flatMap encR ++ encI 0).length : Int), none) := by
              have := dRaw_enc (l.flatMap encR) [] [] (by simp) _ rfl
              simp only [encR, List.length_nil, List.append_nil] at this
              simpa using this
            have hle : ((l.flatMap encR).length : Int) ≤ (l.flatMap encR ++ encI 0).length := by rw [List.length_append]; omega
            have HBB2 := HBB
            generalize l.flatMap encR ++ encI 0 = bs at *
            generalize (l.flatMap encR).length = pos at *
            have HR := Lib.hid hr
            have HLE := Lib.hid hle
            clear hr hle h300
            go_wp2_with fail
            refine (dRaw_s hD hf (by omega) HLE.out (by omega) HBB.out _ HR.out).mono ?_
            rintro e w6 ⟨A4, rfl, hC4, hD, hF4, hf⟩
            dsimp only at hD
            dsimp only
            go_wp2_with fail
            refine (err_n hD).mono ?_
            rintro e w7 ⟨rfl, rfl⟩
            dsimp only
            go_wp2_with fail
            refine (left_n hD (by omega) (Int.le_refl _) 0 (by omega)).mono ?_
            rintro e w8 ⟨rfl, hF⟩
            dsimp only
            go_wp2
            go_ret
            exact ⟨rfl, hf.trans' hF⟩
          · obtain ⟨c, hr⟩ := dRaw_bad (l.flatMap encR) n hn0 hn1 hn _ rfl
            have hle : ((l.flatMap encR).length : Int) ≤ (l.flatMap encR ++ encI n).length := by rw [List.length_append]; omega
            generalize l.flatMap encR ++ encI n = bs at *
            generalize (l.flatMap encR).length = pos at *
            have HR := Lib.hid hr
            have HLE := Lib.hid hle
            have en : (n == 0) = false := by simp [hn]
            clear hr hle h300
            go_wp2_with fail
            refine (dRaw_s hD hf (by omega) HLE.out (by omega) HBB.out _ HR.out).mono ?_
            rintro e w6 ⟨A4, rfl, hC4, hD, hF4, hf⟩
            dsimp only at hD
            dsimp only
            go_wp2_with fail
            refine (err_c D bs _ _ _ _ hD).mono ?_
            rintro e w7 ⟨ev, rfl, ⟨F, rfl, _, _⟩, rfl⟩
            dsimp only
            go_wp2_with fail
            refine (left_e hD (by omega) (Int.le_refl _)).mono ?_
            rintro e w8 ⟨rfl, hF⟩
            replace hD := hD.fr hF (fun _ _ h => h)
            replace hf := hf.trans' hF
            clear hF
            dsimp only
            go_wp2_with fail
            refine (dInt_no D bs _ _ _ _ hD).mono ?_
            rintro e w9 ⟨rfl, rfl⟩
            dsimp only
            go_wp2
            go_ret
            exact ⟨rfl, hf⟩

theorem raws_row (w : World) (A : Option Addr) (cap : Nat) (l : List (List Int)) (n : Int) (hC : (Kd.slice 25 (Kd.int .u8)).C w A l.length l) (_ : l.length ≤ cap) (hw : ∀ x ∈ l, ∀ y ∈ x, (Lit.int .u8 y).wf = true) (hn : (Lit.int .i64 n).wf = true) :
    Calls Try.prog 4 #[.slice A l.length cap, .int .i64 n] w fun e w' => e = .returned (.bool true) ∧ Fr no w w' :=
  raws_c w A cap l n hC (fun x hx y hy => by have := Go.bounds_u8 (hw x hx y hy); omega) (Go.bounds_i64 hn).1 (Go.bounds_i64 hn).2
end Go.Proofs.Ytbeijddogfmnpaa.Codec
