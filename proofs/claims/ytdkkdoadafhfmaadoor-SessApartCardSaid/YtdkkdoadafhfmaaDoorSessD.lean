import Derived.Test.YtdkkdoadafhfmaaDoorSessC
import Derived.Test.YtdkkdoadafhfmaaDoorSessC2
/-! Contracts of package sess: who is on, who is late. -/
set_option linter.unusedVariables false
set_option linter.unusedSimpArgs false
namespace Go.Proofs.YtdkkdoadafhfmaaDoor.Sess
open Go.RowKit Go.Proofs.YtdkkdoadafhfmaaDoorW.PrintWords Go.Proofs.YtdkkdoadafhfmaaDoor.B

theorem i64_el {w : World} {A : Option Addr} {xs : List Int} (hC : (Kd.int .i64).C w A xs.length xs) (k : Nat) (h : k < xs.length) : ∃ ad, A = some ad ∧ w.cell? (ad.add k) = some (.int .i64 xs[k]) := by
  obtain ⟨ad, h1, h2⟩ := Kd.at_int hC (k : Int) (by omega) (by omega)
  refine ⟨ad, h1, ?_⟩
  rw [Int.toNat_natCast] at h2
  rw [h2]
  simp [rd, h]
def lateF (t now : Int) : List Int → (Nat → Ses) → (Nat → Ses) × List Int
  | [], S => (S, [])
  | n :: r, S => if lateB t (S n.toNat).last now then ((lateF t now r (put S n.toNat { S n.toNat with on := false })).1, n :: (lateF t now r (put S n.toNat { S n.toNat with on := false })).2) else lateF t now r S
set_option maxRecDepth 100000 in
set_option maxHeartbeats 4000000 in
theorem late_c (B : Nat) (t now : Int) (S : Nat → Ses) (w : World) (h : Desk w B t S) (t1 : 1 ≤ t) (t2 : t ≤ 1000000) (n1 : 0 ≤ now) (n2 : now ≤ 1000000) (hl : ∀ n, 0 ≤ (S n).last ∧ (S n).last ≤ 1000000) :
    Calls Tryd.prog 20 #[.pointer (some ⟨B, 0, none⟩), .int .i64 now] w fun e w' => (∃ A c, e = .returned (.slice A (lateF t now (ids S 65) S).2.length (lateF t now (ids S 65) S).2.length) ∧ (Kd.int .i64).R 3 w' 0 (since w) (.slice A (lateF t now (ids S 65) S).2.length c) (lateF t now (ids S 65) S).2) ∧
      Desk w' B t (lateF t now (ids S 65) S).1 ∧ Fr (one B) w w' := by
  have HL := Lib.hid hl
  clear hl
  have hBl := h.lt
  obtain ⟨U, hU⟩ : ∃ U, lateF t now (ids S 65) S = U := ⟨_, rfl⟩
  rw [hU]
  have HU0 := Lib.hid hU
  clear hU
  go_enter Tryd.func20, Tryd.ntmps20
  go_wp2_with fail
  refine (live_c B t S w h).mono ?_
  rintro e w1 ⟨⟨A, c, rfl, hR⟩, hf⟩
  replace h := h.fr hf (fun h => h)
  have hil := ids_len S 65
  have HM := Lib.hid (ids_mem S 65)
  obtain ⟨L, hLq⟩ : ∃ L, ids S 65 = L := ⟨_, rfl⟩
  have hU := HU0.out
  rw [hLq] at hR hil HM hU ⊢
  have HU := Lib.hid hU
  clear hLq HU0
  have hfS : Fr (one B) w w1 := hf.mono (fun _ h _ => h.elim)
  have hRL := R_lt' hR
  have hw1 := hf.size
  clear hU hf hR
  dsimp only
  go_wp2
  go_loopg [5, 11] L.length (fun q v i wr => ∃ (k : Nat) (Sk : Nat → Ses) (o : List Int), k + q = L.length ∧ i = .int .i64 k ∧ Hid (o.length ≤ k) ∧ (Kd.int .i64).R 3 wr 0 (since w1) v o ∧ Desk wr B t Sk ∧ Hid (∀ n, (Sk n).last = (S n).last) ∧ Hid ((lateF t now (L.drop k) Sk).1 = U.1 ∧ o ++ (lateF t now (L.drop k) Sk).2 = U.2) ∧ Fr (one B) w1 wr)
  case atStart => exact ⟨0, S, [], by omega, rfl, Nat.zero_le _, Kd.R_nil _ _ _ _ _, h, fun _ => rfl, ⟨congrArg Prod.fst HU.out, congrArg Prod.snd HU.out⟩, Fr.refl _ _⟩
  case round =>
    clear h HU
    obtain ⟨k, Sk, o, hk, rfl, hok, hO, hD, hlast, hlf, hF⟩ := hrel
    obtain ⟨Ao, co, rfl⟩ := Kd.R_slice hO
    by_cases hlt : k < L.length
    · have hok2 := hok.out
      obtain ⟨ad, rfl, hc⟩ := i64_el (Kd.R_reads' (R_fr hRL hF (fun x hx hb => by have h1 : x = B := hb; have h2 : w.heap.size ≤ x := hx.1; omega))).2.2 k hlt
      obtain ⟨n, hn, hn1, hn2⟩ := HM.out L[k] (List.getElem_mem hlt)
      have hlf2 := hlf.out
      rw [List.drop_eq_getElem_cons hlt, lateF, hn, Int.toNat_natCast] at hlf2
      rw [hn] at hc
      obtain ⟨c0, c1, c2, c3⟩ := hD.cells n hn2
      have f0 := hD.free (1 + n * 4)
      obtain ⟨b1, b2⟩ := HL.out n
      have hll := hlast.out n
      rw [← hll] at b1 b2
      have hn3 : (0 : Int) ≤ (n : Int) := by omega
      have hn4 : (n : Int) < 65 := by omega
      have HLS := Lib.hid hlast.out
      clear hlf hn hll hlast hok
      cases hb : lateB t (Sk n).last now with
      | true =>
        rw [hb, if_pos rfl] at hlf2
        have HF2 := Lib.hid hlf2
        have hp := hD.put n 0 (by omega) (by omega) (.bool false) { Sk n with on := false } rfl
        have HB := Lib.hid hb
        clear hlf2 hb
        have hLs : Hid (∀ m, (put Sk n { Sk n with on := false } m).last = (S m).last) := fun m => by
          by_cases hm : m = n
          · subst hm; rw [put_same]; exact HLS.out m
          · rw [put_other _ _ hm]; exact HLS.out m
        clear HLS
        go_wp2_with fail
        refine (late1_c B t Sk _ now _ hD t1 t2 b1 b2 n1 n2).mono ?_
        rintro e w2 ⟨rfl, rfl⟩
        rw [HB.out]
        dsimp only
        have hO2 := R_fr hO ((Fr.refl (one B) wr).set (p := ⟨B, 1 + n * 4, none⟩) (fun _ => rfl) (.bool false)) (fun x hx hb => by have h1 : x = B := hb; have h2 : w1.heap.size ≤ x := hx; omega)
        have hF2 := hF.set (p := ⟨B, 1 + n * 4, none⟩) (fun _ => rfl) (.bool false)
        clear hO hD c1 c2 c3 hF
        have f1 : (wr.setCell ⟨B, 1 + n * 4, none⟩ (.bool false)).heap.size = wr.heap.size := by simp [World.setCell]
        have hFs := hF2.size
        go_wp2_with (at_builtin
                     refine Kd.R_append (Kd.int .i64) (w0 := wr.setCell ⟨B, 1 + n * 4, none⟩ (.bool false)) 0 rfl (.tmp 31) (.tmp 33) 45 3 (.int .i64 0) 8 rfl Tryd.underlying45 infoI rfl (by decide) (by omega) _ o (n : Int) [.int .i64 (n : Int)] (since w1) (fun _ => False) rfl (by simp [go_sem]) rfl (fun _ hk => hk.elim) (fun b hb => Nat.le_trans hFs hb) hO2 (Below.refl 0 _) (Nat.zero_le _) (by omega) ?_
                     intro v1 w8 ho hb1 hg hat
                     clear hat hb1
                     have hF9 : Fr (since w1) (wr.setCell ⟨B, 1 + n * 4, none⟩ (.bool false)) w8 := Fr.of_grown hg (fun k hk _ => hO2.1 k hk)
                     have hF8 : Fr (one B) w1 w8 := hF2.trans hF9 (fun x hx hl => absurd hx (Nat.not_le.2 hl))
                     have hD8 : Desk w8 B t (put Sk n { Sk n with on := false }) := Desk.fr (w := wr.setCell ⟨B, 1 + n * 4, none⟩ (.bool false)) hp hF9 (fun hx => by have h1 : w1.heap.size ≤ B := hx; omega)
                     clear hg hp hO2 hF2 hF9 hFs)
        go_roundg (L.length - (k + 1))
        case measure => omega
        case rel => exact ⟨k + 1, _, _, by omega, by go_num, by show _ ≤ _; rw [List.length_append]; simp; omega, ho, hD8, hLs, ⟨HF2.out.1, by rw [List.append_assoc]; exact HF2.out.2⟩, hF8⟩
      | false =>
        rw [hb, if_neg (by simp)] at hlf2
        have HF2 := Lib.hid hlf2
        have HB := Lib.hid hb
        clear hlf2 hb
        go_wp2_with fail
        refine (late1_c B t Sk _ now _ hD t1 t2 b1 b2 n1 n2).mono ?_
        rintro e w2 ⟨rfl, rfl⟩
        rw [HB.out]
        dsimp only
        have HO := Lib.hid hO
        clear hO
        go_wp2
        go_roundg (L.length - (k + 1))
        case measure => omega
        case rel => exact ⟨k + 1, _, _, by omega, by go_num, by show _ ≤ _; omega, HO.out, hD, HLS, HF2.out, hF⟩
    · have hkl : k = L.length := by omega
      have hlf2 := hlf.out
      rw [hkl, List.drop_length] at hlf2
      obtain ⟨e1, e2⟩ := hlf2
      have e3 : Sk = U.1 := e1
      have e4 : o = U.2 := by rw [← e2]; simp [lateF]
      have HE3 := Lib.hid e3
      have HE4 := Lib.hid e4
      have hdd : decide (k < L.length) = false := by simp; omega
      obtain ⟨hc1, hc2⟩ := R_cap hO
      clear e1 e2 e3 e4 hlf hkl hlt hk
      go_wp2_with fail
      refine (clipI_c Ao _ co hc1 hc2 _).mono ?_
      rintro e w2 ⟨rfl, rfl⟩
      dsimp only
      go_wp2
      go_ret
      have h3 := HE3.out
      have h4 := HE4.out
      subst h3 h4
      exact ⟨⟨Ao, co, rfl, Kd.R_mono hO (fun x hx => Nat.le_trans hw1 hx)⟩, hD, hfS.trans' hF⟩
end Go.Proofs.YtdkkdoadafhfmaaDoor.Sess
