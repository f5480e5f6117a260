import Derived.Test.YtcbhddajkleleaaDoorMsgY
import Derived.Test.YtcbhddajkleleaaDoorMsgT
import Derived.Test.YtcbhddajkleleaaDoorMsgF
/-! The laws' own check of package msg. -/
set_option linter.unusedVariables false
set_option linter.unusedSimpArgs false
namespace Go.Proofs.YtcbhddajkleleaaDoor.Msg
open Go.RowKit Go.Proofs.YtcbhddajkleleaaDoorW.PrintWords Go.Proofs.YtcbhddajkleleaaDoor.B Go.Proofs.YtcbhddajkleleaaDoor.Codec

def km : Msg := ⟨11, 3, ⟨1, 0, 0, 0, 0, 0⟩, [⟨1, 1, 2, 0, 0⟩, ⟨2, -1, 1, 0, 0⟩]⟩
theorem km_ok : OkM km := ⟨fun x hx => by
  simp [km, headL] at hx
  unfold i64
  omega, fun r hr x hx => by
  simp [km] at hr
  unfold i64
  rcases hr with rfl | rfl
  all_goals
    simp [rowL] at hx
    omega⟩
theorem km_may : mayF km.Kind km.Seq km.L.length = 0 := by decide
theorem km_len : (encM km).length ≤ 1000 := by
  have h := flat_len (numsL km) (fun x hx => km_ok.nums x hx)
  have h2 : (numsL km).length = 19 := rfl
  unfold encM
  omega
theorem encM_bytes (m : Msg) (h : OkM m) : ∀ x ∈ encM m, 0 ≤ x ∧ x < 256 := fun x hx => by
  obtain ⟨n, hn, hx⟩ := List.mem_flatMap.1 hx
  have := h.nums n hn
  exact encI_bytes n this.1 this.2 x hx
theorem held_m (m : Msg) (h : OkM m) : Held (numsL m) (numsL m).length (encM m) := by
  have := held_all h.nums [] (by simp)
  rwa [List.append_nil] at this
/-- A message that may be, read again. -/
theorem decode_m (m : Msg) (hOk : OkM m) (hmay : mayF m.Kind m.Seq m.L.length = 0) (hl : m.L.length ≤ 1000) (w : World) (A : Option Addr) (hC : (Kd.int .u8).C w A (encM m).length (encM m)) :
    Calls Tryd.prog 18 #[.slice A (encM m).length (encM m).length] w fun e w' => (∃ A c, e = .returned (.tuple #[msgV m A c, .nilIface]) ∧ m.L.length ≤ c ∧ kRow.C w' A m.L.length m.L) ∧ Fr no w w' := by
  have hlen := upto_len m hOk m.L.length (Nat.le_refl _)
  rw [upto_all] at hlen
  refine (decode_c m hOk hmay hl _ _ (held_m m hOk) (by omega) w A _ _ rfl hC (Nat.le_refl _)).mono ?_
  rintro e w' h
  exact ⟨h.all rfl rfl, h.fr⟩
theorem zero_no (w : World) : Calls Tryd.prog 15 #[.agg #[.int .i64 0, .int .i64 0, .int .i64 0, .int .i64 0, .int .i64 0, .int .i64 0, .int .i64 0, .int .i64 0, .slice none 0 0]] w fun e w' => (∃ F, e = .returned (.tuple #[.slice none 0 0, faultV F])) ∧ Fr no w w' :=
  (encode_no ⟨0, 0, zA, []⟩ none 0 w (by decide)).mono fun e w' ⟨⟨F, h, _⟩, hf⟩ => ⟨⟨F, h⟩, hf⟩
theorem km_same : sameB km km = true := sameB_true.2 rfl
set_option maxRecDepth 100000 in
set_option maxHeartbeats 2000000 in
theorem known_m (w : World) : Calls Tryd.prog 7 #[] w fun e w' => e = .returned (.bool true) ∧ Fr no w w' := by
  have hfa := (Fr.refl no w).alloc (.cells #[.int .i64 1, .int .i64 1, .int .i64 2, .int .i64 0, .int .i64 0, .int .i64 2, .int .i64 (-1), .int .i64 1, .int .i64 0, .int .i64 0] 42)
  have hQ := blk_new w (.cells #[.int .i64 1, .int .i64 1, .int .i64 2, .int .i64 0, .int .i64 0, .int .i64 2, .int .i64 (-1), .int .i64 1, .int .i64 0, .int .i64 0] 42)
  have hfb := hfa.alloc (.cells #[.int .i64 11, .int .i64 3, .int .i64 1, .int .i64 0, .int .i64 0, .int .i64 0, .int .i64 0, .int .i64 0, .slice (some ⟨w.heap.size, 0, none⟩) 2 2] 29)
  have hfc := (Fr.refl no (w.alloc (.cells #[.int .i64 1, .int .i64 1, .int .i64 2, .int .i64 0, .int .i64 0, .int .i64 2, .int .i64 (-1), .int .i64 1, .int .i64 0, .int .i64 0] 42))).alloc (.cells #[.int .i64 11, .int .i64 3, .int .i64 1, .int .i64 0, .int .i64 0, .int .i64 0, .int .i64 0, .int .i64 0, .slice (some ⟨w.heap.size, 0, none⟩) 2 2] 29)
  have hM := blk_new (w.alloc (.cells #[.int .i64 1, .int .i64 1, .int .i64 2, .int .i64 0, .int .i64 0, .int .i64 2, .int .i64 (-1), .int .i64 1, .int .i64 0, .int .i64 0] 42)) (.cells #[.int .i64 11, .int .i64 3, .int .i64 1, .int .i64 0, .int .i64 0, .int .i64 0, .int .i64 0, .int .i64 0, .slice (some ⟨w.heap.size, 0, none⟩) 2 2] 29)
  have hQ2 := hfc.heap hQ (fun h => h)
  rw [World.size_alloc] at hM
  clear hQ hfa hfc
  go_enter Tryd.func7, Tryd.ntmps7
  go_wp2_with fail
  generalize (w.alloc _).alloc _ = w1 at *
  generalize w.heap.size = Q at *
  have hMk : Hid (∀ u, Fr no w1 u → u.heap[Q + 1]? = some (.cells #[.int .i64 11, .int .i64 3, .int .i64 1, .int .i64 0, .int .i64 0, .int .i64 0, .int .i64 0, .int .i64 0, .slice (some ⟨Q, 0, none⟩) 2 2] 29 (0, 0))) := fun u h => h.heap hM (fun h => h)
  have hRk : Hid (∀ u, Fr no w1 u → kRow.C u (some ⟨Q, 0, none⟩) km.L.length km.L) := fun u h => C_blk (d := kRow) (h.heap hQ2 (fun h => h)) km.L (show 0 < 5 by decide) (show 2 ≤ 9223372036854775807 by decide) (((Reps.none _ _).snoc (p := ⟨1, 1, 2, 0, 0⟩) (kRow_mk _ _) rfl).snoc (p := ⟨2, -1, 1, 0, 0⟩) (kRow_mk _ _) rfl)
  clear hM hQ2
  have he : Calls Tryd.prog 15 #[.agg #[.int .i64 11, .int .i64 3, .int .i64 1, .int .i64 0, .int .i64 0, .int .i64 0, .int .i64 0, .int .i64 0, .slice (some ⟨Q, 0, none⟩) 2 2]] w1 _ := encode_yes km (some ⟨Q, 0, none⟩) 2 w1 (hRk.out _ (Fr.refl _ _)) km_ok km_may (by decide)
  (with_reducible refine he.mono ?_)
  clear he
  rintro e w2 ⟨⟨A1, rfl, hC⟩, hf2⟩
  have hdec := decode_m km km_ok km_may (by decide) w2 A1 hC
  obtain ⟨n1, hn1⟩ : ∃ x, (encM km).length = x := ⟨_, rfl⟩
  rw [hn1] at hdec ⊢
  have HD := Lib.hid hdec
  clear hC hn1 hdec
  dsimp only
  go_wp2_with fail
  (with_reducible refine (HD.out).mono ?_)
  rintro e w3 ⟨⟨A2, c2, rfl, hc2, hC2⟩, hf3⟩
  replace hf2 := hf2.trans' hf3
  have hD := blk_new w3 (.cells #[.int .i64 11, .int .i64 3, .int .i64 1, .int .i64 0, .int .i64 0, .int .i64 0, .int .i64 0, .int .i64 0, .slice A2 2 c2] 29)
  have hfd := (Fr.refl no w3).alloc (.cells #[.int .i64 11, .int .i64 3, .int .i64 1, .int .i64 0, .int .i64 0, .int .i64 0, .int .i64 0, .int .i64 0, .slice A2 2 c2] 29)
  replace hf2 := hf2.trans' hfd
  replace hC2 := C_fr hC2 hfd
  clear hf3 HD hfd
  have hmv : msgV km A2 c2 = .agg #[.int .i64 11, .int .i64 3, .int .i64 1, .int .i64 0, .int .i64 0, .int .i64 0, .int .i64 0, .int .i64 0, .slice A2 2 c2] := rfl
  rw [hmv]
  clear hmv
  dsimp only
  go_wp2_with fail
  generalize w3.alloc _ = w4 at *
  generalize w3.heap.size = D at *
  (with_reducible refine (zero_no _).mono ?_)
  rintro e w5 ⟨⟨F, rfl⟩, hf5⟩
  replace hf2 := hf2.trans' hf5
  replace hC2 := C_fr hC2 hf5
  replace hD := hf5.heap hD (fun h => h)
  clear hf5
  unfold faultV
  dsimp only
  go_wp2_with fail
  (with_reducible refine (rows_k 8 _).mono ?_)
  rintro e w6 ⟨rfl, rfl⟩
  have e1 : loF 8 = 1 := by decide
  have e2 : hiF 8 = 50 := by decide
  rw [e1, e2]
  clear e1 e2
  obtain ⟨⟨c0, c1, c2', c3, c4, c5, c6, c7, c8⟩, _⟩ := nine hD
  obtain ⟨⟨d0, d1, d2, d3, d4, d5, d6, d7, d8⟩, _⟩ := nine (hMk.out _ hf2)
  dsimp only
  go_wp2_with fail
  have hsm : Calls Tryd.prog 12 #[.agg #[.int .i64 11, .int .i64 3, .int .i64 1, .int .i64 0, .int .i64 0, .int .i64 0, .int .i64 0, .int .i64 0, .slice A2 2 c2], .agg #[.int .i64 11, .int .i64 3, .int .i64 1, .int .i64 0, .int .i64 0, .int .i64 0, .int .i64 0, .int .i64 0, .slice (some ⟨Q, 0, none⟩) 2 2]] w5 _ := same_c km km A2 (some ⟨Q, 0, none⟩) c2 2 w5 hC2 (hRk.out _ hf2) (by decide) (by decide)
  (with_reducible refine hsm.mono ?_)
  rintro e w7 ⟨rfl, hf7⟩
  rw [km_same]
  replace hf2 := hf2.trans' hf7
  clear hsm hf7 c0 c1 c2' c3 c4 c5 c6 c7 c8 d0 d1 d2 d3 d4 d5 d6 d7 d8 hD hC2
  dsimp only
  go_wp2_with fail
  (with_reducible refine (known_k 68 _).mono ?_)
  rintro e w8 ⟨rfl, rfl⟩
  rw [show knownK 68 = true by decide]
  dsimp only
  go_wp2_with fail
  (with_reducible refine (known_k 16 _).mono ?_)
  rintro e w8 ⟨rfl, rfl⟩
  rw [show knownK 16 = false by decide]
  dsimp only
  go_wp2_with fail
  have htx : Calls Tryd.prog 19 #[.agg #[.int .i64 1, .int .i64 2, .int .i64 0, .int .i64 0, .int .i64 0, .int .i64 0, .int .i64 0, .int .i64 0, .slice none 0 0]] w7 _ := text_x w7
  (with_reducible refine htx.mono ?_)
  rintro e w9 ⟨rfl, hf9⟩
  clear htx
  unfold knownText
  dsimp only
  go_wp2
  go_ret
  exact ⟨rfl, hfb.trans' (hf2.trans' hf9)⟩
end Go.Proofs.YtcbhddajkleleaaDoor.Msg
