import Derived.Test.YtcbhddajkleleaaDoorMsgC
/-! Contract of msg.Encode. -/
set_option linter.unusedVariables false
set_option linter.unusedSimpArgs false
namespace Go.Proofs.YtcbhddajkleleaaDoor.Msg
open Go.RowKit Go.Proofs.YtcbhddajkleleaaDoorW.PrintWords Go.Proofs.YtcbhddajkleleaaDoor.B Go.Proofs.YtcbhddajkleleaaDoor.Codec

/-- A message as a value; its rows are read elsewhere. -/
def msgV (m : Msg) (A : Option Addr) (c : Nat) : Value := .agg #[.int .i64 m.Kind, .int .i64 m.Seq, .int .i64 m.A.r0, .int .i64 m.A.r1, .int .i64 m.A.r2, .int .i64 m.A.r3, .int .i64 m.A.r4, .int .i64 m.A.r5, .slice A m.L.length c]
theorem C_ints {w : World} {b off : Nat} {k : IntKind} (xs : List Int) (hm : xs.length ≤ 9223372036854775807) (h : ∀ j x, xs[j]? = some x → w.cell? ⟨b, off + j, none⟩ = some (.int k x)) : (Kd.int k).C w (some ⟨b, off, none⟩) xs.length xs := by
  refine ⟨rfl, hm, fun _ => ⟨_, rfl, fun j p hj => ⟨[.int k p], rfl, rfl, fun i u hu => ?_⟩⟩⟩
  have hi : i = 0 := by
    have := (List.getElem?_eq_some_iff.1 hu).1
    simp at this
    omega
  subst hi
  obtain rfl : Value.int k p = u := by simpa using hu
  have h1 := h j p hj
  have e : Addr.add ⟨b, off, none⟩ (j * (Kd.int k).sz + 0) = ⟨b, off + j, none⟩ := by
    rw [show (Kd.int k).sz = 1 from rfl, Nat.mul_one, Nat.add_zero]
    unfold Addr.add
    by_cases h0 : j = 0
    · subst h0; simp
    · simp [h0]
  rw [e]
  exact h1
section
variable {w0 w : World} {B : Nat} {bs : List Int}
/-- Numbers that lie in the world as it was. -/
theorem eInt_r (h : Encs w (since w0) B bs) (hf : Fr no w0 w) {A : Option Addr} {l : List Int} (n cap : Nat) (hnl : n = l.length) (hC : (Kd.int .i64).C w0 A l.length l) (hn : ∀ x ∈ l, i64 x) (hlen : bs.length + 10 * l.length ≤ 1000000000) :
    Calls Tryd.prog 22 #[.pointer (some ⟨B, 0, none⟩), .slice A n cap] w fun e w' => e = .returned (.tuple #[]) ∧ Encs w' (since w0) B (bs ++ l.flatMap encI) ∧ Fr no w0 w' := by
  subst hnl
  refine (eInt_c B A cap l bs w _ h (fun W hF => C_fr hC (hf.new hF (fun _ h => h))) hn hlen).mono ?_
  rintro e w' ⟨rfl, h2, hF⟩
  exact ⟨rfl, h2.mono (fun k hk => ext_since' hf.size k hk), hf.new hF (fun _ h => h)⟩
/-- Numbers in a block of their own, of whatever type. -/
theorem eInt_t (h : Encs w (since w0) B bs) (hf : Fr no w0 w) (l : List Int) (hn : ∀ x ∈ l, i64 x) (hlen : bs.length + 10 * l.length ≤ 1000000000) {T : TypeId} {W : World} {g n : Nat} (hW : W = w.alloc (.cells (l.map (Value.int .i64)).toArray T)) (hg : g = w.heap.size) (hnl : n = l.length) :
    Calls Tryd.prog 22 #[.pointer (some ⟨B, 0, none⟩), .slice (some ⟨g, 0, none⟩) n n] W fun e w' => e = .returned (.tuple #[]) ∧ Encs w' (since w0) B (bs ++ l.flatMap encI) ∧ Fr no w0 w' := by
  subst hW hg hnl
  have h1 := (h.lt).fr ((Fr.refl no w).alloc (.cells (l.map (Value.int .i64)).toArray T)) (fun _ _ h => h)
  refine (eInt_c B _ l.length l bs _ _ h1 (fun W hF => ?_) hn hlen).mono ?_
  · have hb := hF.heap (blk_new w _) (fun h => absurd h.2 (Nat.lt_irrefl _))
    refine C_blk (d := Kd.int .i64) hb l (show 0 < 1 by decide) (by omega) ?_
    exact Kd.reps_scalar (enc := Value.int .i64) l
  · rintro e w' ⟨rfl, h2, hF⟩
    refine ⟨rfl, h2.mono (fun k hk => hk.elim (fun h => h.1) (fun h => ?_)), (hf.alloc _).new hF (fun k hk => hk.1)⟩
    exact Nat.le_trans (hf.alloc _).size h
end
theorem rows_bytes : ∀ (l : List Row) (k : Nat), (((l.take k).flatMap rowL).flatMap encI) = ((l.flatMap rowL).take (5 * k)).flatMap encI
  | [], k => by simp
  | r :: l, 0 => by simp
  | r :: l, k + 1 => by
    rw [List.take_succ_cons, List.flatMap_cons, List.flatMap_cons, List.flatMap_append, rows_bytes l k, show 5 * (k + 1) = (rowL r).length + 5 * k by simp [rowL]; omega, List.take_length_add_append, List.flatMap_append]
theorem row_len (r : Row) : (rowL r).length = 5 := rfl
/-- What is written when k rows are. -/
def upto (m : Msg) (k : Nat) : List Int := (headL m).flatMap encI ++ ((m.L.take k).flatMap rowL).flatMap encI
theorem upto_all (m : Msg) : upto m m.L.length = encM m := by
  unfold upto encM numsL
  rw [List.take_length, List.flatMap_append]
theorem upto_succ (m : Msg) (k : Nat) (h : k < m.L.length) : upto m (k + 1) = upto m k ++ (rowL m.L[k]).flatMap encI := by
  unfold upto
  rw [List.take_succ_eq_append_getElem h, List.flatMap_append, List.flatMap_append]
  simp [List.append_assoc]
theorem upto_len (m : Msg) (h : OkM m) (k : Nat) (hk : k ≤ m.L.length) : (upto m k).length ≤ 90 + 50 * k := by
  unfold upto
  rw [List.length_append]
  have h1 := flat_len (headL m) (fun x hx => h.head x hx)
  have h2 := flat_len ((m.L.take k).flatMap rowL) (fun x hx => by
    obtain ⟨r, hr, hx⟩ := List.mem_flatMap.1 hx
    exact h.rows r (List.mem_of_mem_take hr) x hx)
  rw [rows_len, List.length_take, Nat.min_eq_left hk] at h2
  have h3 : (headL m).length = 9 := rfl
  omega

set_option maxRecDepth 100000 in
set_option maxHeartbeats 4000000 in
theorem encode_yes (m : Msg) (A : Option Addr) (c : Nat) (w : World) (hC : kRow.C w A m.L.length m.L) (hOk : OkM m) (hmay : mayF m.Kind m.Seq m.L.length = 0) (hl : m.L.length ≤ 1000) :
    Calls Tryd.prog 15 #[msgV m A c] w fun e w' => (∃ A', e = .returned (.tuple #[.slice A' (encM m).length (encM m).length, .nilIface]) ∧ (Kd.int .u8).C w' A' (encM m).length (encM m)) ∧ Fr no w w' := by
  have HO := Lib.hid hOk
  have HM := Lib.hid hmay
  have HC := Lib.hid hC
  have hX := blk_new w (.cells #[.int .i64 m.Kind, .int .i64 m.Seq, .int .i64 m.A.r0, .int .i64 m.A.r1, .int .i64 m.A.r2, .int .i64 m.A.r3, .int .i64 m.A.r4, .int .i64 m.A.r5, .slice A m.L.length c] 29)
  have hfx := (Fr.refl no w).alloc (.cells #[.int .i64 m.Kind, .int .i64 m.Seq, .int .i64 m.A.r0, .int .i64 m.A.r1, .int .i64 m.A.r2, .int .i64 m.A.r3, .int .i64 m.A.r4, .int .i64 m.A.r5, .slice A m.L.length c] 29)
  have hRead := Lib.hid (C_fr hC hfx)
  clear hC hOk hmay
  unfold msgV
  go_enter Tryd.func15, Tryd.ntmps15
  go_wp2_with fail
  generalize w.alloc _ = w1 at *
  generalize w.heap.size = X at *
  have hcell : Hid (∀ u, Fr no w1 u → u.cell? ⟨X, 0, none⟩ = some (.int .i64 m.Kind) ∧ u.cell? ⟨X, 1, none⟩ = some (.int .i64 m.Seq) ∧ u.cell? ⟨X, 8, none⟩ = some (.slice A m.L.length c)) := fun u h => ⟨blk_cell (h.heap hX (fun h => h)) 0, blk_cell (h.heap hX (fun h => h)) 1, blk_cell (h.heap hX (fun h => h)) 8⟩
  have hA6 : Hid ((Kd.int .i64).C w1 (some ⟨X, 2, none⟩) [m.A.r0, m.A.r1, m.A.r2, m.A.r3, m.A.r4, m.A.r5].length [m.A.r0, m.A.r1, m.A.r2, m.A.r3, m.A.r4, m.A.r5]) := C_ints _ (by simp) (fun j x hj => by
    have h6 : j < 6 := (List.getElem?_eq_some_iff.1 hj).1
    obtain rfl | rfl | rfl | rfl | rfl | rfl : j = 0 ∨ j = 1 ∨ j = 2 ∨ j = 3 ∨ j = 4 ∨ j = 5 := by omega
    all_goals
      simp only [List.getElem?_cons_zero, List.getElem?_cons_succ, Option.some.injEq] at hj
      subst hj
      first | exact blk_cell hX 2 | exact blk_cell hX 3 | exact blk_cell hX 4 | exact blk_cell hX 5 | exact blk_cell hX 6 | exact blk_cell hX 7)
  obtain ⟨x0, x1, x8⟩ := hcell.out w1 (Fr.refl _ _)
  clear hX
  go_wp2_with fail
  refine (may_k m.Kind m.Seq m.L.length _).mono ?_
  rintro e w2 ⟨v, rfl, hv, hf⟩
  rw [HM.out] at hv
  obtain rfl := hv.1 rfl
  obtain ⟨y0, y1, y8⟩ := hcell.out w2 hf
  clear hv x0 x1 x8
  dsimp only
  obtain ⟨hE, hf2⟩ := enc_new hf
  obtain ⟨x0, x1, x8⟩ := hcell.out _ hf2
  have hhd := HO.out.head
  go_wp2_with fail
  refine (eInt_s hE hf2 [m.Kind, m.Seq] (fun x hx => hhd x (by simp at hx; rcases hx with rfl | rfl <;> simp [headL])) (by simp) rfl (by simp) rfl).mono ?_
  rintro e w3 ⟨rfl, hE3, hf3⟩
  generalize w2.heap.size = B at *
  clear hE hf2 hf y0 y1 y8 x0 x1 x8
  obtain ⟨x0, x1, x8⟩ := hcell.out _ hf3
  dsimp only
  go_wp2_with fail
  refine (eInt_r hE3 hf3 6 6 rfl hA6.out (fun x hx => hhd x (by simp at hx; rcases hx with rfl | rfl | rfl | rfl | rfl | rfl <;> simp [headL])) (by have h1 := flat_len [m.Kind, m.Seq] (fun x hx => hhd x (by simp at hx; rcases hx with rfl | rfl <;> simp [headL])); simp at h1 ⊢; omega)).mono ?_
  rintro e w4 ⟨rfl, hE4, hf4⟩
  clear hE3 hf3 x0 x1 x8
  obtain ⟨x0, x1, x8⟩ := hcell.out _ hf4
  dsimp only
  go_wp2_with fail
  refine (eInt_s hE4 hf4 [(m.L.length : Int)] (fun x hx => hhd x (by simp at hx; subst hx; simp [headL])) (by
    have h1 := flat_len [m.Kind, m.Seq] (fun x hx => hhd x (by simp at hx; rcases hx with rfl | rfl <;> simp [headL]))
    have h2 := flat_len [m.A.r0, m.A.r1, m.A.r2, m.A.r3, m.A.r4, m.A.r5] (fun x hx => hhd x (by simp at hx; rcases hx with rfl | rfl | rfl | rfl | rfl | rfl <;> simp [headL]))
    simp at h1 h2 ⊢; omega) rfl (by simp) rfl).mono ?_
  rintro e w5 ⟨rfl, hE5, hf5⟩
  clear hE4 hf4 x0 x1 x8
  obtain ⟨x0, x1, x8⟩ := hcell.out _ hf5
  have hU : Encs w5 (since w1) B (upto m 0) := by
    have e : ([] ++ [m.Kind, m.Seq].flatMap encI ++ [m.A.r0, m.A.r1, m.A.r2, m.A.r3, m.A.r4, m.A.r5].flatMap encI ++ [(m.L.length : Int)].flatMap encI) = upto m 0 := by
      simp [upto, headL]
    rw [← e]
    exact hE5
  clear hE5
  dsimp only
  go_wp2
  go_loopg [7, 36, 38, 39, 40, 41] m.L.length (fun q v7 v36 v38 v39 v40 v41 wr => ∃ k : Nat, k + q = m.L.length ∧ v36 = .int .i64 k ∧ Encs wr (since w1) B (upto m k) ∧ Fr no w1 wr)
  case atStart => exact ⟨0, by omega, rfl, hU, hf5⟩
  case round =>
    clear hU hf5 x0 x1 x8
    obtain ⟨k, hk, rfl, hU, hf⟩ := hrel
    by_cases hlt : k < m.L.length
    · obtain ⟨ad, rfl, c0, c1, c2, c3, c4⟩ := at_Row (C_fr hRead.out hf) (k : Int) (by omega) (by omega)
      have hrd : rd_Row m.L (k : Int) = m.L[k] := by simp [rd_Row, hlt]
      rw [Int.toNat_natCast, hrd] at c0 c1 c2 c3 c4
      have hrow := HO.out.rows m.L[k] (List.getElem_mem hlt)
      have hus := Lib.hid (upto_succ m k hlt)
      have hul := upto_len m HO.out k (by omega)
      clear hrd
      obtain ⟨r, hr⟩ : ∃ r, m.L[k] = r := ⟨_, rfl⟩
      rw [hr] at c0 c1 c2 c3 c4 hrow hus
      have HR := Lib.hid hr
      clear hr
      go_wp2_with fail
      refine (eInt_t hU hf (rowL r) hrow (by rw [row_len]; omega) rfl rfl rfl).mono ?_
      rintro e w6 ⟨rfl, hE6, hf6⟩
      rw [← hus.out] at hE6
      dsimp only
      go_wp2
      go_roundg (m.L.length - (k + 1))
      case measure => omega
      case rel => exact ⟨k + 1, by omega, by go_num, hE6, hf6⟩
    · obtain rfl : k = m.L.length := by omega
      have hlen := upto_len m HO.out m.L.length (Nat.le_refl _)
      rw [upto_all] at hU hlen
      go_wp2_with fail
      refine (bytes_s hU (by omega)).mono ?_
      rintro e w6 ⟨A', rfl, hC6, hf6⟩
      dsimp only
      go_wp2
      go_ret2
      exact ⟨⟨A', rfl, hC6⟩, hfx.trans' (hf.trans' hf6)⟩
set_option maxRecDepth 100000 in
set_option maxHeartbeats 4000000 in
theorem encode_no (m : Msg) (A : Option Addr) (c : Nat) (w : World) (hmay : mayF m.Kind m.Seq m.L.length ≠ 0) :
    Calls Tryd.prog 15 #[msgV m A c] w fun e w' => (∃ F, e = .returned (.tuple #[.slice none 0 0, faultV F]) ∧ w.heap.size ≤ F ∧ MF w' F (cutK m.Kind : Int) (errV (mayF m.Kind m.Seq m.L.length))) ∧ Fr no w w' := by
  have HM := Lib.hid hmay
  have hX := blk_new w (.cells #[.int .i64 m.Kind, .int .i64 m.Seq, .int .i64 m.A.r0, .int .i64 m.A.r1, .int .i64 m.A.r2, .int .i64 m.A.r3, .int .i64 m.A.r4, .int .i64 m.A.r5, .slice A m.L.length c] 29)
  have hfx := (Fr.refl no w).alloc (.cells #[.int .i64 m.Kind, .int .i64 m.Seq, .int .i64 m.A.r0, .int .i64 m.A.r1, .int .i64 m.A.r2, .int .i64 m.A.r3, .int .i64 m.A.r4, .int .i64 m.A.r5, .slice A m.L.length c] 29)
  clear hmay
  have hsz := Nat.le_refl w.heap.size
  unfold msgV
  go_enter Tryd.func15, Tryd.ntmps15
  go_wp2_with fail
  generalize w.alloc _ = w1 at *
  have hXl := blk_lt hX
  have hle := hfx.size
  generalize hXe : w.heap.size = X at *
  have HXe := Lib.hid hXe
  have x0 := blk_cell hX 0
  have x1 := blk_cell hX 1
  have x8 := blk_cell hX 8
  simp at x0 x1 x8
  clear hX hXe
  go_wp2_with fail
  refine (may_k m.Kind m.Seq m.L.length _).mono ?_
  rintro e w2 ⟨v, rfl, hv, hf⟩
  obtain ⟨F, rfl, hF, hMF⟩ := hv.2 HM.out
  dsimp only
  unfold faultV
  go_wp2
  go_ret2
  exact ⟨⟨F, rfl, by have := HXe.out; omega, hMF⟩, hfx.trans' hf⟩
end Go.Proofs.YtcbhddajkleleaaDoor.Msg
