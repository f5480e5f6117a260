import Derived.Test.YtcbhddajkleleaaDoorMsgD
import Derived.Deep.DeepCutAuto
import Derived.Deep.CutBlock
/-! Contract of msg.Decode, over bytes that hold a message's numbers, cut or not. -/
set_option linter.unusedVariables false
set_option linter.unusedSimpArgs false
namespace Go.Proofs.YtcbhddajkleleaaDoor.Msg
open Go.RowKit Go.Proofs.YtcbhddajkleleaaDoorW.PrintWords Go.Proofs.YtcbhddajkleleaaDoor.B Go.Proofs.YtcbhddajkleleaaDoor.Codec

def zeroV : Value := .agg #[.int .i64 0, .int .i64 0, .int .i64 0, .int .i64 0, .int .i64 0, .int .i64 0, .int .i64 0, .int .i64 0, .slice none 0 0]
/-- What Decode answers. -/
structure DecOut (m : Msg) (j : Nat) (bs : List Int) (w : World) (e : Ending) (w' : World) : Prop where
  fr : Fr no w w'
  all : j = (numsL m).length → bs.length = (encM m).length → ∃ A c, e = .returned (.tuple #[msgV m A c, .nilIface]) ∧ m.L.length ≤ c ∧ kRow.C w' A m.L.length m.L
  more : j = (numsL m).length → (encM m).length < bs.length → ∃ F, e = .returned (.tuple #[zeroV, faultV F]) ∧ MF w' F (cutK m.Kind : Int) (errV 2)
  cut : j < (numsL m).length → ∃ F, e = .returned (.tuple #[zeroV, faultV F])
theorem RdD.mono {w : World} {ok ok' : Nat → Prop} {B : Nat} {ns : List Int} {j : Nat} {bs : List Int} {i : Nat} (h : RdD w ok B ns j bs i) (hn : ∀ k, ok k → ok' k) : RdD w ok' B ns j bs i :=
  ⟨fun hi => (h.1 hi).mono hn, fun hi => by
    obtain ⟨a, x, a0, a1, hd⟩ := h.2 hi
    exact ⟨a, x, a0, a1, hd.mono hn⟩⟩
theorem int_w {w0 w : World} {B : Nat} {ns : List Int} {j : Nat} {bs : List Int} {i : Nat} (h : RdD w (since w0) B ns j bs i) (hf : Fr no w0 w) (hh : Held ns j bs) (hi : i < ns.length) (hl : bs.length ≤ 1000000000) :
    Calls Tryd.prog 28 #[.pointer (some ⟨B, 0, none⟩)] w fun e w' => e = .returned (.int .i64 (gv ns j i)) ∧ RdD w' (since w0) B ns j bs (i + 1) ∧ Fr no w0 w' := by
  refine (int_d h hh hi hl).mono ?_
  rintro e w' ⟨rfl, hd, hF⟩
  exact ⟨rfl, hd.mono (fun k hk => ext_since' hf.size k hk), hf.new hF (fun k hk => by have : k = B := hk; rw [this]; exact h.own.1)⟩
theorem err_d {w : World} {ok : Nat → Prop} {B : Nat} {ns : List Int} {j : Nat} {bs : List Int} {i : Nat} (h : RdD w ok B ns j bs i) :
    Calls Tryd.prog 29 #[.pointer (some ⟨B, 0, none⟩)] w fun e w' => ∃ ev, e = .returned ev ∧ (i ≤ j → ev = .nilIface) ∧ (j < i → ∃ F, ev = faultV F) ∧ w = w' := by
  rcases Nat.lt_or_ge j i with hi | hi
  · obtain ⟨a, x, _, _, hd⟩ := h.2 hi
    refine (err_c B bs a (some x) w ok hd).mono ?_
    rintro e w' ⟨ev, rfl, hE, rfl⟩
    obtain ⟨x1, x2⟩ := x
    obtain ⟨F, rfl, _⟩ := hE
    exact ⟨_, rfl, fun h => by omega, fun _ => ⟨F, rfl⟩, rfl⟩
  · refine (err_c B bs _ none w ok (h.1 hi)).mono ?_
    rintro e w' ⟨ev, rfl, hE, rfl⟩
    exact ⟨_, rfl, fun _ => hE, fun h => by omega, rfl⟩
def avec (ns : List Int) (j k : Nat) : List Value := (List.range 6).map fun i => .int .i64 (if i < k then gv ns j (2 + i) else 0)
def csA (ns : List Int) (j : Nat) (g0 g1 : Int) (k : Nat) : List Value := .int .i64 g0 :: .int .i64 g1 :: avec ns j k
theorem csA_len (ns : List Int) (j : Nat) (g0 g1 : Int) (k : Nat) : (csA ns j g0 g1 k).length = 8 := by simp [csA, avec]
theorem csA_set (ns : List Int) (j : Nat) (g0 g1 : Int) (k : Nat) (hk : k < 6) : (csA ns j g0 g1 k).set (2 + k) (.int .i64 (gv ns j (2 + k))) = csA ns j g0 g1 (k + 1) := by
  obtain rfl | rfl | rfl | rfl | rfl | rfl : k = 0 ∨ k = 1 ∨ k = 2 ∨ k = 3 ∨ k = 4 ∨ k = 5 := by omega
  all_goals simp [csA, avec, List.range_succ]
def rvec (ns : List Int) (j s p : Nat) : Array Value := ((List.range 5).map fun i => .int .i64 (if i < p then gv ns j (s + i) else 0)).toArray
theorem rvec_set (ns : List Int) (j s p : Nat) (hp : p < 5) : (rvec ns j s p).setIfInBounds p (.int .i64 (gv ns j (s + p))) = rvec ns j s (p + 1) := by
  obtain rfl | rfl | rfl | rfl | rfl : p = 0 ∨ p = 1 ∨ p = 2 ∨ p = 3 ∨ p = 4 := by omega
  all_goals simp [rvec, List.range_succ]
theorem rvec_all (ns : List Int) (j s : Nat) : rvec ns j s 5 = #[.int .i64 (gv ns j s), .int .i64 (gv ns j (s + 1)), .int .i64 (gv ns j (s + 2)), .int .i64 (gv ns j (s + 3)), .int .i64 (gv ns j (s + 4))] := by
  simp [rvec, List.range_succ]
theorem blk_at {w : World} {g t : Nat} {cs : Array Value} (h : w.heap[g]? = some (.cells cs t (0, 0))) (i : Nat) (v : Value) (hv : cs[i]? = some v) : w.cell? ⟨g, i, none⟩ = some v := (blk_cell h i).trans hv
/-- A block of a message's cells: each of them, none frozen. -/
theorem nine {w : World} {g : Nat} {a0 a1 a2 a3 a4 a5 a6 a7 a8 : Value} (h : w.heap[g]? = some (.cells #[a0, a1, a2, a3, a4, a5, a6, a7, a8] 29 (0, 0))) :
    (w.cell? ⟨g, 0, none⟩ = some a0 ∧ w.cell? ⟨g, 1, none⟩ = some a1 ∧ w.cell? ⟨g, 2, none⟩ = some a2 ∧ w.cell? ⟨g, 3, none⟩ = some a3 ∧ w.cell? ⟨g, 4, none⟩ = some a4 ∧ w.cell? ⟨g, 5, none⟩ = some a5 ∧ w.cell? ⟨g, 6, none⟩ = some a6 ∧ w.cell? ⟨g, 7, none⟩ = some a7 ∧ w.cell? ⟨g, 8, none⟩ = some a8) ∧
    (w.frozen? ⟨g, 0, none⟩ = false ∧ w.frozen? ⟨g, 1, none⟩ = false ∧ w.frozen? ⟨g, 2, none⟩ = false ∧ w.frozen? ⟨g, 3, none⟩ = false ∧ w.frozen? ⟨g, 4, none⟩ = false ∧ w.frozen? ⟨g, 5, none⟩ = false ∧ w.frozen? ⟨g, 6, none⟩ = false ∧ w.frozen? ⟨g, 7, none⟩ = false ∧ w.frozen? ⟨g, 8, none⟩ = false) :=
  ⟨⟨blk_cell h 0, blk_cell h 1, blk_cell h 2, blk_cell h 3, blk_cell h 4, blk_cell h 5, blk_cell h 6, blk_cell h 7, blk_cell h 8⟩, blk_frozen h 0, blk_frozen h 1, blk_frozen h 2, blk_frozen h 3, blk_frozen h 4, blk_frozen h 5, blk_frozen h 6, blk_frozen h 7, blk_frozen h 8⟩
theorem fr_one {w w1 : World} {R : Nat} (h : Fr (one R) w w1) (p : Nat) (u : Value) : Fr (one R) w (w1.setCell ⟨R, p, none⟩ u) := h.set (p := ⟨R, p, none⟩) (fun _ => rfl) u
theorem csA_at (ns : List Int) (j : Nat) (g0 g1 : Int) (v : Value) (k i : Nat) (hi : i < 6) : ((csA ns j g0 g1 k) ++ [v]).toArray[2 + i]? = some (.int .i64 (if i < k then gv ns j (2 + i) else 0)) := by
  obtain rfl | rfl | rfl | rfl | rfl | rfl : i = 0 ∨ i = 1 ∨ i = 2 ∨ i = 3 ∨ i = 4 ∨ i = 5 := by omega
  all_goals simp [csA, avec, List.range_succ]

set_option maxRecDepth 100000 in
set_option maxHeartbeats 8000000 in
theorem decode_c (m : Msg) (hOk : OkM m) (hmay : mayF m.Kind m.Seq m.L.length = 0) (hl : m.L.length ≤ 1000) (j : Nat) (bs : List Int) (hh : Held (numsL m) j bs) (hbl : bs.length ≤ 100000000) (w : World) (A : Option Addr) (n cap : Nat) (hn : n = bs.length) (hC : (Kd.int .u8).C w A bs.length bs) (hcap : bs.length ≤ cap) :
    Calls Tryd.prog 18 #[.slice A n cap] w (DecOut m j bs w) := by
  subst hn
  have HO := Lib.hid hOk
  have HM := Lib.hid hmay
  have HH := Lib.hid hh
  have hnl := nums_len m
  have HN := Lib.hid hnl
  have hR := blk_new w (.cells #[.int .i64 0, .int .i64 0, .int .i64 0, .int .i64 0, .int .i64 0, .int .i64 0, .int .i64 0, .int .i64 0, .slice none 0 0] 29)
  have hfx := (Fr.refl no w).alloc (.cells #[.int .i64 0, .int .i64 0, .int .i64 0, .int .i64 0, .int .i64 0, .int .i64 0, .int .i64 0, .int .i64 0, .slice none 0 0] 29)
  have hC1 := C_fr hC hfx
  have hRs : w.heap.size < (w.alloc (.cells #[.int .i64 0, .int .i64 0, .int .i64 0, .int .i64 0, .int .i64 0, .int .i64 0, .int .i64 0, .int .i64 0, .slice none 0 0] 29)).heap.size := by simp
  clear hOk hmay hh hC hnl
  go_enter Tryd.func18, Tryd.ntmps18
  go_wp2_with fail
  generalize w.alloc _ = w1 at *
  have hRe : Hid (w.heap.size ≤ w.heap.size) := Nat.le_refl _
  generalize hRv : w.heap.size = R at *
  have HRv := Lib.hid hRv
  clear hRv
  refine (of_c A cap bs w1 hC1 hcap (by omega)).mono ?_
  rintro e w2 ⟨B, rfl, hd, hf⟩
  have hd0 : RdD w2 (since w1) B (numsL m) j bs 0 := ⟨fun _ => hd, fun h => by omega⟩
  clear hd hC1
  dsimp only
  go_wp2_with fail
  refine (int_w hd0 hf HH.out (by have := HN.out; omega) (by omega)).mono ?_
  rintro e w3 ⟨rfl, hd, hf2⟩
  clear hd0 hf
  dsimp only
  go_wp2_with fail
  refine (int_w hd hf2 HH.out (by have := HN.out; omega) (by omega)).mono ?_
  rintro e w4 ⟨rfl, hd2, hf⟩
  clear hd hf2
  obtain ⟨g0, hg0⟩ : ∃ x, gv (numsL m) j 0 = x := ⟨_, rfl⟩
  obtain ⟨g1, hg1⟩ : ∃ x, gv (numsL m) j (0 + 1) = x := ⟨_, rfl⟩
  rw [hg0, hg1]
  have HG0 := Lib.hid hg0
  have HG1 := Lib.hid hg1
  clear hg0 hg1
  have hDS : DS w1 (w4.alloc (.cells #[.int .i64 0, .int .i64 g1, .int .i64 0, .int .i64 0, .int .i64 0, .int .i64 0, .int .i64 0, .int .i64 0, .slice none 0 0] 29)) B w4.heap.size (numsL m) j bs 2 no (csA (numsL m) j 0 g1 0) (.slice none 0 0) [] (fun k => since w1 k ∧ k < w4.heap.size) (fun _ => False) := by
    refine ⟨fun k hk => ⟨hk.1, by have := hk.2; omega, fun h => h⟩, fun k hk => hk.elim, ⟨hf.size, fun h => h⟩, hd2.lt.fr ((Fr.refl no w4).alloc _) (fun _ _ h => h), blk_new w4 _, Kd.R_nil _ _ _ _ _, hf.alloc _, fun k hk => hk.elim⟩
  clear hd2 hf
  dsimp only
  go_wp2
  generalize w4.alloc _ = w5 at *
  generalize w4.heap.size = M at *
  go_loopg [23] 6 (fun q v23 wr => ∃ (k : Nat) (okD okL : Nat → Prop), k + q = 6 ∧ v23 = .int .i64 k ∧ DS w1 wr B M (numsL m) j bs (2 + k) no (csA (numsL m) j 0 g1 k) (.slice none 0 0) [] okD okL)
  case atStart => exact ⟨0, _, _, by omega, rfl, hDS⟩
  case round =>
    clear hDS
    obtain ⟨k, okD, okL, hk, rfl, hDS⟩ := hrel
    by_cases hlt : k < 6
    · go_wp2_with fail
      refine (hDS.int HH.out (by have := HN.out; omega) (by omega)).mono ?_
      rintro e w6 ⟨rfl, hDS2, _⟩
      have c1 := blk_at hDS2.blk (2 + k) _ (csA_at _ _ _ _ _ _ _ hlt)
      have c2 := blk_frozen hDS2.blk (2 + k)
      have hDS3 := hDS2.set (2 + k) (by rw [csA_len]; omega) (.int .i64 (gv (numsL m) j (2 + k)))
      rw [csA_set _ _ _ _ _ hlt] at hDS3
      clear hDS hDS2
      have hk0 : (0 : Int) ≤ (k : Int) := by omega
      have hk6 : (k : Int) < 6 := by omega
      dsimp only
      go_wp2
      go_roundg (6 - (k + 1))
      case measure => omega
      case rel => exact ⟨k + 1, _, _, by omega, by go_num, hDS3⟩
    · obtain rfl : k = 6 := by omega
      go_wp2_with fail
      refine (hDS.int HH.out (by have := HN.out; omega) (by omega)).mono ?_
      rintro e w6 ⟨rfl, hDS2, _⟩
      clear hDS
      obtain ⟨g8, hg8⟩ : ∃ x, gv (numsL m) j (2 + 6) = x := ⟨_, rfl⟩
      rw [hg8]
      have HG8 := Lib.hid hg8
      clear hg8
      dsimp only
      go_wp2_with fail
      refine (err_d hDS2.rd).mono ?_
      rintro e w7 ⟨ev, rfl, he1, he2, rfl⟩
      by_cases hj9 : j < 9
      · obtain ⟨F, rfl⟩ := he2 (by omega)
        have hRb := (hDS2.fr.heap hR (fun h => h))
        have hfr := hfx.trans' hDS2.fr
        clear he1 he2 hDS2
        unfold faultV
        dsimp only
        go_wp2_with fail
        refine (fault_k 0 0 _ rfl _ _ _).mono ?_
        rintro e w8 ⟨⟨F2, rfl, hF2, hMF⟩, hf8⟩
        obtain ⟨⟨c0, c1, c2, c3, c4, c5, c6, c7, c8⟩, f0, f1, f2, f3, f4, f5, f6, f7, f8⟩ := nine (hf8.heap hRb (fun h => h))
        have hfw := hfr.trans' hf8
        clear hRb hfr hf8 hMF hF2
        dsimp only
        unfold faultV
        go_wp2
        refine bodyPost_ret (v := .tuple #[zeroV, faultV F2]) (by simp [results, Tryd.results18, go_sem, zeroV, faultV, c0, c1, c2, c3, c4, c5, c6, c7, c8]) rfl ?_
        have hN9 := HN.out
        refine ⟨?_, fun h => by omega, fun h => by omega, fun _ => ⟨F2, rfl⟩⟩
        iterate 9 refine Fr.set ?_ (fun h => absurd h (by have := HRv.out; dsimp only; omega)) _
        exact hfw
      · obtain rfl := he1 (by omega)
        clear he2
        have e0 : g0 = m.Kind := by rw [← HG0.out]; exact gv_head m j (by omega) 0 (by omega)
        have e1 : g1 = m.Seq := by rw [← HG1.out]; exact gv_head m j (by omega) 1 (by omega)
        have e8 : g8 = (m.L.length : Int) := by rw [← HG8.out]; exact gv_head m j (by omega) 8 (by omega)
        subst e0 e1 e8
        clear HG0 HG1 HG8
        dsimp only
        go_wp2_with fail
        refine (may_k m.Kind m.Seq m.L.length _).mono ?_
        rintro e w7 ⟨v, rfl, hv, hf7⟩
        rw [HM.out] at hv
        obtain rfl := hv.1 rfl
        replace hDS2 := hDS2.go hf7
        clear hv hf7
        have c1 := blk_at hDS2.blk 0 (.int .i64 0) (by simp [csA])
        have c2 := blk_frozen hDS2.blk 0
        have hDS3 := hDS2.set 0 (by rw [csA_len]; omega) (.int .i64 m.Kind)
        have hset : (csA (numsL m) j 0 m.Seq 6).set 0 (.int .i64 m.Kind) = [.int .i64 m.Kind, .int .i64 m.Seq, .int .i64 m.A.r0, .int .i64 m.A.r1, .int .i64 m.A.r2, .int .i64 m.A.r3, .int .i64 m.A.r4, .int .i64 m.A.r5] := by
          have h2 := gv_head m j (by omega) 2 (by omega)
          have h3 := gv_head m j (by omega) 3 (by omega)
          have h4 := gv_head m j (by omega) 4 (by omega)
          have h5 := gv_head m j (by omega) 5 (by omega)
          have h6 := gv_head m j (by omega) 6 (by omega)
          have h7 := gv_head m j (by omega) 7 (by omega)
          simp [csA, avec, List.range_succ, h2, h3, h4, h5, h6, h7, headL]
        rw [hset] at hDS3
        clear hset hDS2
        dsimp only
        go_wp2
        clear c1 c2
        generalize w7.setCell _ _ = w8 at *
        obtain ⟨CS, hCS⟩ : ∃ x, [Value.int .i64 m.Kind, .int .i64 m.Seq, .int .i64 m.A.r0, .int .i64 m.A.r1, .int .i64 m.A.r2, .int .i64 m.A.r3, .int .i64 m.A.r4, .int .i64 m.A.r5] = x := ⟨_, rfl⟩
        rw [hCS] at hDS3
        have HCS := Lib.hid hCS
        have hC8 : Hid (CS.length = 8) := by show CS.length = 8; rw [← hCS]; rfl
        clear hCS
        go_loopg [52] m.L.length (fun q v52 wr => ∃ (k : Nat) (v : Value) (okD okL : Nat → Prop), k + q = m.L.length ∧ v52 = .int .i64 k ∧ DS w1 wr B M (numsL m) j bs (9 + 5 * k) no CS v (rowsG (numsL m) j k) okD okL)
        case atStart => exact ⟨0, _, _, _, by omega, rfl, hDS3⟩
        case round =>
          clear hDS3
          obtain ⟨k, v, okD, okL, hk, rfl, hDS⟩ := hrel
          by_cases hkl : k < m.L.length
          · have hDN := hDS.new (.cells #[.int .i64 0, .int .i64 0, .int .i64 0, .int .i64 0, .int .i64 0] 42)
            have hRb := blk_new wr (.cells #[.int .i64 0, .int .i64 0, .int .i64 0, .int .i64 0, .int .i64 0] 42)
            have hsz := hDS.fr.size
            clear hDS
            go_wp2
            generalize wr.alloc _ = wa at *
            generalize wr.heap.size = Q at *
            go_loopg [54] 5 (fun q v54 wx => ∃ (p : Nat) (okD okL : Nat → Prop), p + q = 5 ∧ v54 = .int .i64 p ∧ DS w1 wx B M (numsL m) j bs (9 + 5 * k + p) (fun x => x = Q) CS v (rowsG (numsL m) j k) okD okL ∧ wx.heap[Q]? = some (.cells (rvec (numsL m) j (9 + 5 * k) p) 42 (0, 0)))
            case atStart => exact ⟨0, _, _, by omega, rfl, hDN, hRb⟩
            case round =>
              clear hDN hRb
              obtain ⟨p, okD, okL, hp, rfl, hDS, hRb⟩ := hrel
              by_cases hp5 : p < 5
              · have hQB : Q ≠ B := fun he => (hDS.d1 B hDS.rd.own.1).2.2 he.symm
                go_wp2_with fail
                refine (hDS.int HH.out (by have := HN.out; omega) (by omega)).mono ?_
                rintro e w6 ⟨rfl, hDS2, hF6⟩
                have hRb2 := hF6.heap hRb (fun he => hQB he)
                have hat : (rvec (numsL m) j (9 + 5 * k) p)[p]? = some (.int .i64 0) := by
                  obtain rfl | rfl | rfl | rfl | rfl : p = 0 ∨ p = 1 ∨ p = 2 ∨ p = 3 ∨ p = 4 := by omega
                  all_goals simp [rvec, List.range_succ]
                have c1 := blk_at hRb2 p _ hat
                have c2 := blk_frozen hRb2 p
                have hDS3 := hDS2.far hsz p (.int .i64 (gv (numsL m) j (9 + 5 * k + p)))
                have hRb3 := blk_put hRb2 p (.int .i64 (gv (numsL m) j (9 + 5 * k + p))) rfl
                rw [rvec_set _ _ _ _ hp5] at hRb3
                clear hDS hDS2 hRb hRb2 hF6 hat hQB
                obtain ⟨gp, hgp⟩ : ∃ x, gv (numsL m) j (9 + 5 * k + p) = x := ⟨_, rfl⟩
                rw [hgp] at hDS3 hRb3 ⊢
                clear hgp
                have hp0 : (0 : Int) ≤ (p : Int) := by omega
                have hp6 : (p : Int) < 5 := by omega
                dsimp only
                go_wp2
                go_roundg (5 - (p + 1))
                case measure => omega
                case rel => exact ⟨p + 1, _, _, by omega, by go_num, hDS3, hRb3⟩
              · obtain rfl : p = 5 := by omega
                rw [rvec_all] at hRb
                have q0 := blk_cell hRb 0
                have q1 := blk_cell hRb 1
                have q2 := blk_cell hRb 2
                have q3 := blk_cell hRb 3
                have q4 := blk_cell hRb 4
                simp only [List.getElem?_toArray, List.getElem?_cons_zero, List.getElem?_cons_succ] at q0 q1 q2 q3 q4
                have hDS2 := hDS.drop
                obtain ⟨A1, c1, rfl⟩ := Kd.R_slice hDS2.row
                have hm8 := blk_at hDS2.blk 8 (.slice A1 (rowsG (numsL m) j k).length c1) (by have := hC8.out; simp [← this])
                have hrl := rowsG_len (numsL m) j k
                have HRL := Lib.hid hrl
                have HRS := Lib.hid (rowsG_succ (numsL m) j k)
                clear hDS hRb hrl
                obtain ⟨b0, hb0⟩ : ∃ x, gv (numsL m) j (9 + 5 * k) = x := ⟨_, rfl⟩
                obtain ⟨b1, hb1⟩ : ∃ x, gv (numsL m) j (9 + 5 * k + 1) = x := ⟨_, rfl⟩
                obtain ⟨b2, hb2⟩ : ∃ x, gv (numsL m) j (9 + 5 * k + 2) = x := ⟨_, rfl⟩
                obtain ⟨b3, hb3⟩ : ∃ x, gv (numsL m) j (9 + 5 * k + 3) = x := ⟨_, rfl⟩
                obtain ⟨b4, hb4⟩ : ∃ x, gv (numsL m) j (9 + 5 * k + 4) = x := ⟨_, rfl⟩
                rw [hb0] at q0 HRS
                rw [hb1] at q1 HRS
                rw [hb2] at q2 HRS
                rw [hb3] at q3 HRS
                rw [hb4] at q4 HRS
                clear hb0 hb1 hb2 hb3 hb4
                obtain ⟨G, hG⟩ : ∃ x, rowsG (numsL m) j k = x := ⟨_, rfl⟩
                rw [hG] at hDS2 hm8 HRL HRS
                clear hG
                have hgl : G.length ≤ 1000 := by have := HRL.out; omega
                go_wp2_with (at_builtin
                             refine Kd.R_append kRow (w0 := wr) 0 rfl (.tmp 63) (.tmp 65) 27 42 (.agg #[.int .i64 0, .int .i64 0, .int .i64 0, .int .i64 0, .int .i64 0]) 40 rfl Tryd.underlying27 infoR rfl (by decide) (by omega) _ G ⟨b0, b1, b2, b3, b4⟩ _ (ext okL wr) (fun _ => False) rfl rfl (kRow_mkM _ _ _ _) (fun _ hk => hk.elim) (fun k hk => .inr hk) (Kd.R_mono hDS2.row (fun _ => .inl)) (Below.refl 0 _) (Nat.zero_le _) (by omega) ?_
                             intro v1 w9 ho hb1 hg hat
                             clear hat hb1
                             obtain ⟨A2, c2, rfl⟩ := Kd.R_slice ho
                             have hF := Fr.of_grown (S := okL) hg (fun k hk _ => hDS2.row.1 k hk)
                             have hbk := hF.heap hDS2.blk (fun he => (hDS2.d2 M he).2.1 rfl)
                             have m8 := blk_at hbk 8 (.slice A1 G.length c1) (by have := hC8.out; simp [← this])
                             have mf8 := blk_frozen hbk 8
                             have hDS3 := hDS2.rows hF ho
                             rw [hC8.out] at hDS3
                             clear hbk hF ho hg hDS2 q0 q1 q2 q3 q4 hm8)
                rw [List.length_append, ← HRS.out] at hDS3
                clear m8 mf8
                go_wp2
                go_roundg (m.L.length - (k + 1))
                case measure => omega
                case rel => exact ⟨k + 1, _, _, _, by omega, by go_num, by have h := hDS3; rw [show 9 + 5 * k + 5 = 9 + 5 * (k + 1) by omega] at h; exact h⟩
          · obtain rfl : k = m.L.length := by omega
            obtain ⟨A1, c1, rfl⟩ := Kd.R_slice hDS.row
            obtain ⟨hcap1, hcap2⟩ := R_cap hDS.row
            have hrc := (Kd.R_reads' hDS.row).2.2
            have hrl := rowsG_len (numsL m) j m.L.length
            rw [hrl] at hcap1 hrc hDS
            have m8 := blk_at hDS.blk 8 (.slice A1 m.L.length c1) (by have := hC8.out; simp [← this])
            have mf8 := blk_frozen hDS.blk 8
            have hb9 := blk_put hDS.blk 8 (.slice A1 m.L.length m.L.length) rfl
            have hFM : Fr (one M) wr (wr.setCell ⟨M, 8, none⟩ (.slice A1 m.L.length m.L.length)) := (Fr.refl (one M) wr).set (p := ⟨M, 8, none⟩) (fun _ => rfl) _
            have hrd9 := hDS.rd.fr hFM (fun k hk he => (hDS.d1 k hk).2.1 he)
            have hf9 := hDS.fr.new hFM (fun k hk => by have : k = M := hk; rw [this]; exact hDS.m1.1)
            have hrc9 := R_fr hDS.row hFM (fun k hk he => (hDS.d2 k hk).2.1 he)
            have hokL : ∀ k, okL k → k ≠ R := fun k hk he => by
              have h1 : w1.heap.size ≤ k := (hDS.d2 k hk).1
              omega
            clear hDS hrc hFM hrl
            go_wp2_with fail
            refine (clip_r A1 _ c1 hcap1 hcap2 _).mono ?_
            rintro e w6 ⟨rfl, rfl⟩
            dsimp only
            go_wp2_with fail
            clear m8 mf8
            generalize wr.setCell _ _ = w9 at *
            refine (err_d hrd9).mono ?_
            rintro e w10 ⟨ev, rfl, he1, he2, rfl⟩
            have hRb := hf9.heap hR (fun h => h)
            have hfr := hfx.trans' hf9
            have hb10 : w9.heap[M]? = some (.cells #[.int .i64 m.Kind, .int .i64 m.Seq, .int .i64 m.A.r0, .int .i64 m.A.r1, .int .i64 m.A.r2, .int .i64 m.A.r3, .int .i64 m.A.r4, .int .i64 m.A.r5, .slice A1 m.L.length m.L.length] 29 (0, 0)) := by
              rw [← HCS.out] at hb9
              simpa using hb9
            have hjN := HH.out.le
            have hN9 := HN.out
            clear hb9 hf9
            by_cases hjn : j < (numsL m).length
            · obtain ⟨F, rfl⟩ := he2 (by omega)
              clear he1 he2 hrd9 hrc9 hb10
              unfold faultV
              dsimp only
              go_wp2_with fail
              refine (fault_k 0 0 _ rfl _ _ _).mono ?_
              rintro e w8 ⟨⟨F2, rfl, hF2, hMF⟩, hf8⟩
              obtain ⟨⟨c0, c1, c2, c3, c4, c5, c6, c7, c8⟩, f0, f1, f2, f3, f4, f5, f6, f7, f8⟩ := nine (hf8.heap hRb (fun h => h))
              have hfw := hfr.trans' hf8
              clear hRb hfr hf8 hMF hF2
              dsimp only
              unfold faultV
              go_wp2
              refine bodyPost_ret (v := .tuple #[zeroV, faultV F2]) (by simp [results, Tryd.results18, go_sem, zeroV, faultV, c0, c1, c2, c3, c4, c5, c6, c7, c8]) rfl ?_
              refine ⟨?_, fun h => by omega, fun h => by omega, fun _ => ⟨F2, rfl⟩⟩
              iterate 9 refine Fr.set ?_ (fun h => absurd h (by have := HRv.out; dsimp only; omega)) _
              exact hfw
            · obtain rfl : j = (numsL m).length := by omega
              obtain rfl := he1 (by omega)
              clear he1 he2
              have hpos : posF (numsL m) (9 + 5 * m.L.length) = ((encM m).length : Int) := by
                unfold posF encM
                rw [← hN9, List.take_length]
              have hdc := hrd9.1 (by omega)
              rw [hpos] at hdc
              rw [rowsG_all] at hrc9
              have hp := HH.out.pos (i := 9 + 5 * m.L.length) (by omega)
              rw [hpos] at hp
              obtain ⟨le, hle⟩ : ∃ x, (encM m).length = x := ⟨_, rfl⟩
              rw [hle] at hdc hp
              have HLE := Lib.hid hle
              clear hrd9 hpos hle
              dsimp only
              go_wp2_with fail
              refine (left_n hdc hp.1 hp.2 _ rfl).mono ?_
              rintro e w7 ⟨rfl, hf7⟩
              replace hRb := hf7.heap hRb (fun h => h)
              replace hb10 := hf7.heap hb10 (fun h => h)
              replace hrc9 := R_fr hrc9 hf7 (fun _ _ h => h)
              replace hfr := hfr.trans' hf7
              clear hdc hf7
              by_cases hlt : le < bs.length
              · have hd : decide (0 < (bs.length : Int) - le) = true := by simp; omega
                clear hb10 hrc9
                dsimp only
                go_wp2_with fail
                refine (fault_k m.Kind 2 _ rfl _ _ _).mono ?_
                rintro e w8 ⟨⟨F2, rfl, hF2, hMF⟩, hf8⟩
                obtain ⟨⟨c0, c1, c2, c3, c4, c5, c6, c7, c8⟩, f0, f1, f2, f3, f4, f5, f6, f7, f8⟩ := nine (hf8.heap hRb (fun h => h))
                have hfw := hfr.trans' hf8
                have hFR : F2 ≠ R := by have := blk_lt hRb; omega
                clear hRb hfr hf8 hF2
                dsimp only
                unfold faultV
                go_wp2
                refine bodyPost_ret (v := .tuple #[zeroV, faultV F2]) (by simp [results, Tryd.results18, go_sem, zeroV, faultV, c0, c1, c2, c3, c4, c5, c6, c7, c8]) rfl ?_
                refine ⟨?_, fun _ h => by have := HLE.out; omega, fun _ _ => ⟨F2, rfl, ?_⟩, fun h => by omega⟩
                · iterate 9 refine Fr.set ?_ (fun h => absurd h (by have := HRv.out; dsimp only; omega)) _
                  exact hfw
                · unfold MF at hMF ⊢
                  iterate 9 refine (Below.heap_setCell _ _ _ _ hFR).trans ?_
                  exact hMF
              · have hd : decide (0 < (bs.length : Int) - le) = false := by simp; omega
                obtain ⟨⟨c0, c1, c2, c3, c4, c5, c6, c7, c8⟩, f0, f1, f2, f3, f4, f5, f6, f7, f8⟩ := nine hRb
                obtain ⟨⟨d0, d1, d2, d3, d4, d5, d6, d7, d8⟩, _⟩ := nine hb10
                clear hb10 hRb
                dsimp only
                go_wp2
                have hFs : ∀ u0 u1 u2 u3 u4 u5 u6 u7 u8 : Value, Fr (one R) w7 (((((((((w7.setCell ⟨R, 0, none⟩ u0).setCell ⟨R, 1, none⟩ u1).setCell ⟨R, 2, none⟩ u2).setCell ⟨R, 3, none⟩ u3).setCell ⟨R, 4, none⟩ u4).setCell ⟨R, 5, none⟩ u5).setCell ⟨R, 6, none⟩ u6).setCell ⟨R, 7, none⟩ u7).setCell ⟨R, 8, none⟩ u8) := fun u0 u1 u2 u3 u4 u5 u6 u7 u8 => by
                  iterate 9 refine fr_one ?_ _ _
                  exact Fr.refl _ _
                refine bodyPost_ret (v := .tuple #[msgV m A1 m.L.length, .nilIface]) (by simp [results, Tryd.results18, go_sem, msgV, c0, c1, c2, c3, c4, c5, c6, c7, c8]) rfl ?_
                refine ⟨?_, fun _ _ => ⟨A1, m.L.length, rfl, Nat.le_refl _, ?_⟩, fun _ h => by have := HLE.out; omega, fun h => by omega⟩
                · iterate 9 refine Fr.set ?_ (fun h => absurd h (by have := HRv.out; dsimp only; omega)) _
                  exact hfr
                · exact (Kd.R_reads' (R_fr hrc9 (hFs _ _ _ _ _ _ _ _ _) (fun k hk he => hokL k hk he))).2.2
end Go.Proofs.YtcbhddajkleleaaDoor.Msg
