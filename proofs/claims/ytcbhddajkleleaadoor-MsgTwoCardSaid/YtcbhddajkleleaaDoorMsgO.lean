import Derived.Test.YtcbhddajkleleaaDoorMsgF
import Derived.Test.YtcbhddajkleleaaDoorWLast
/-! Contract of the law's Of. -/
set_option linter.unusedVariables false
set_option linter.unusedSimpArgs false
namespace Go.Proofs.YtcbhddajkleleaaDoor.Msg
open Go.RowKit Go.Proofs.YtcbhddajkleleaaDoorW.PrintLast Go.Proofs.YtcbhddajkleleaaDoorW.PrintWords Go.Proofs.YtcbhddajkleleaaDoor.B Go.Proofs.YtcbhddajkleleaaDoor.Codec

def rr (x : Row) : RRow := ⟨x.r0, x.r1, x.r2, x.r3, x.r4⟩
def rmV (m : Msg) (A : Option Addr) (c : Nat) : Value := .agg #[.int .i64 m.Kind, .int .i64 m.Seq, .int .i64 m.A.r0, .int .i64 m.A.r1, .int .i64 m.A.r2, .int .i64 m.A.r3, .int .i64 m.A.r4, .int .i64 m.A.r5, .slice A m.L.length c]
theorem nineT {t : Nat} {w : World} {g : Nat} {a0 a1 a2 a3 a4 a5 a6 a7 a8 : Value} (h : w.heap[g]? = some (.cells #[a0, a1, a2, a3, a4, a5, a6, a7, a8] t (0, 0))) :
    (w.cell? ⟨g, 0, none⟩ = some a0 ∧ w.cell? ⟨g, 1, none⟩ = some a1 ∧ w.cell? ⟨g, 2, none⟩ = some a2 ∧ w.cell? ⟨g, 3, none⟩ = some a3 ∧ w.cell? ⟨g, 4, none⟩ = some a4 ∧ w.cell? ⟨g, 5, none⟩ = some a5 ∧ w.cell? ⟨g, 6, none⟩ = some a6 ∧ w.cell? ⟨g, 7, none⟩ = some a7 ∧ w.cell? ⟨g, 8, none⟩ = some a8) ∧
    (w.frozen? ⟨g, 0, none⟩ = false ∧ w.frozen? ⟨g, 1, none⟩ = false ∧ w.frozen? ⟨g, 2, none⟩ = false ∧ w.frozen? ⟨g, 3, none⟩ = false ∧ w.frozen? ⟨g, 4, none⟩ = false ∧ w.frozen? ⟨g, 5, none⟩ = false ∧ w.frozen? ⟨g, 6, none⟩ = false ∧ w.frozen? ⟨g, 7, none⟩ = false ∧ w.frozen? ⟨g, 8, none⟩ = false) :=
  ⟨⟨blk_cell h 0, blk_cell h 1, blk_cell h 2, blk_cell h 3, blk_cell h 4, blk_cell h 5, blk_cell h 6, blk_cell h 7, blk_cell h 8⟩, blk_frozen h 0, blk_frozen h 1, blk_frozen h 2, blk_frozen h 3, blk_frozen h 4, blk_frozen h 5, blk_frozen h 6, blk_frozen h 7, blk_frozen h 8⟩
theorem infoRR : (Tryd.prog.info? 54).map (fun i => (i.zero, i.size, i.bytes)) = some (some (.agg #[.int .i64 0, .int .i64 0, .int .i64 0, .int .i64 0, .int .i64 0]), 5, 40) := by kernel_rfl
set_option maxRecDepth 100000 in
set_option maxHeartbeats 2000000 in
theorem of_c (m : Msg) (A : Option Addr) (c : Nat) (w : World) (hC : kRow.C w A m.L.length m.L) (hl : m.L.length ≤ 1000) :
    Calls Tryd.prog 14 #[msgV m A c] w fun e w' => (∃ A' c', e = .returned (rmV m A' c') ∧ kRRow.C w' A' m.L.length (m.L.map rr)) ∧ Fr no w w' := by
  have hfr : Hid (∀ o1 o2 o3, Fr no w (((w.alloc o1).alloc o2).alloc o3)) := fun o1 o2 o3 => (((Fr.refl no w).alloc o1).alloc o2).alloc o3
  have hT : Hid (∀ o2 o3, (((w.alloc (.cells #[.int .i64 m.Kind, .int .i64 m.Seq, .int .i64 m.A.r0, .int .i64 m.A.r1, .int .i64 m.A.r2, .int .i64 m.A.r3, .int .i64 m.A.r4, .int .i64 m.A.r5, .slice A m.L.length c] 29)).alloc o2).alloc o3).heap[w.heap.size]? = some (.cells #[.int .i64 m.Kind, .int .i64 m.Seq, .int .i64 m.A.r0, .int .i64 m.A.r1, .int .i64 m.A.r2, .int .i64 m.A.r3, .int .i64 m.A.r4, .int .i64 m.A.r5, .slice A m.L.length c] 29 (0, 0))) := fun o2 o3 => (((Fr.refl no _).alloc o2).alloc o3).heap (blk_new w _) (fun h => h)
  have hRz : Hid (∀ (o1 : Obj) (o3 : Obj), (((w.alloc o1).alloc (.cells #[.int .i64 0, .int .i64 0, .int .i64 0, .int .i64 0, .int .i64 0, .int .i64 0, .int .i64 0, .int .i64 0, .slice none 0 0] 34)).alloc o3).heap[w.heap.size + 1]? = some (.cells #[.int .i64 0, .int .i64 0, .int .i64 0, .int .i64 0, .int .i64 0, .int .i64 0, .int .i64 0, .int .i64 0, .slice none 0 0] 34 (0, 0))) := fun o1 o3 => by
    have h := ((Fr.refl no _).alloc o3).heap (blk_new (w.alloc o1) (.cells #[.int .i64 0, .int .i64 0, .int .i64 0, .int .i64 0, .int .i64 0, .int .i64 0, .int .i64 0, .int .i64 0, .slice none 0 0] 34)) (fun h => h)
    rwa [World.size_alloc] at h
  have hX : Hid (∀ (o1 o2 : Obj), (((w.alloc o1).alloc o2).alloc (.cells #[.int .i64 m.Kind, .int .i64 m.Seq, .int .i64 m.A.r0, .int .i64 m.A.r1, .int .i64 m.A.r2, .int .i64 m.A.r3, .int .i64 m.A.r4, .int .i64 m.A.r5, .slice none 0 0] 34)).heap[w.heap.size + 1 + 1]? = some (.cells #[.int .i64 m.Kind, .int .i64 m.Seq, .int .i64 m.A.r0, .int .i64 m.A.r1, .int .i64 m.A.r2, .int .i64 m.A.r3, .int .i64 m.A.r4, .int .i64 m.A.r5, .slice none 0 0] 34 (0, 0))) := fun o1 o2 => by
    have h := blk_new ((w.alloc o1).alloc o2) (.cells #[.int .i64 m.Kind, .int .i64 m.Seq, .int .i64 m.A.r0, .int .i64 m.A.r1, .int .i64 m.A.r2, .int .i64 m.A.r3, .int .i64 m.A.r4, .int .i64 m.A.r5, .slice none 0 0] 34)
    rwa [World.size_alloc, World.size_alloc] at h
  have hC0 := Lib.hid hC
  have hsz : Hid (∀ (o1 o2 o3 : Obj), (((w.alloc o1).alloc o2).alloc o3).heap.size = w.heap.size + 3) := fun o1 o2 o3 => by simp
  clear hC
  unfold msgV
  go_enter Tryd.func14, Tryd.ntmps14
  go_wp2_with fail
  have hfw := hfr.out (.cells #[.int .i64 m.Kind, .int .i64 m.Seq, .int .i64 m.A.r0, .int .i64 m.A.r1, .int .i64 m.A.r2, .int .i64 m.A.r3, .int .i64 m.A.r4, .int .i64 m.A.r5, .slice A m.L.length c] 29) (.cells #[.int .i64 0, .int .i64 0, .int .i64 0, .int .i64 0, .int .i64 0, .int .i64 0, .int .i64 0, .int .i64 0, .slice none 0 0] 34) (.cells #[.int .i64 m.Kind, .int .i64 m.Seq, .int .i64 m.A.r0, .int .i64 m.A.r1, .int .i64 m.A.r2, .int .i64 m.A.r3, .int .i64 m.A.r4, .int .i64 m.A.r5, .slice none 0 0] 34)
  have hT1 := hT.out (.cells #[.int .i64 0, .int .i64 0, .int .i64 0, .int .i64 0, .int .i64 0, .int .i64 0, .int .i64 0, .int .i64 0, .slice none 0 0] 34) (.cells #[.int .i64 m.Kind, .int .i64 m.Seq, .int .i64 m.A.r0, .int .i64 m.A.r1, .int .i64 m.A.r2, .int .i64 m.A.r3, .int .i64 m.A.r4, .int .i64 m.A.r5, .slice none 0 0] 34)
  have hR1 := hRz.out (.cells #[.int .i64 m.Kind, .int .i64 m.Seq, .int .i64 m.A.r0, .int .i64 m.A.r1, .int .i64 m.A.r2, .int .i64 m.A.r3, .int .i64 m.A.r4, .int .i64 m.A.r5, .slice A m.L.length c] 29) (.cells #[.int .i64 m.Kind, .int .i64 m.Seq, .int .i64 m.A.r0, .int .i64 m.A.r1, .int .i64 m.A.r2, .int .i64 m.A.r3, .int .i64 m.A.r4, .int .i64 m.A.r5, .slice none 0 0] 34)
  have hX1 := hX.out (.cells #[.int .i64 m.Kind, .int .i64 m.Seq, .int .i64 m.A.r0, .int .i64 m.A.r1, .int .i64 m.A.r2, .int .i64 m.A.r3, .int .i64 m.A.r4, .int .i64 m.A.r5, .slice A m.L.length c] 29) (.cells #[.int .i64 0, .int .i64 0, .int .i64 0, .int .i64 0, .int .i64 0, .int .i64 0, .int .i64 0, .int .i64 0, .slice none 0 0] 34)
  have hs1 := hsz.out (.cells #[.int .i64 m.Kind, .int .i64 m.Seq, .int .i64 m.A.r0, .int .i64 m.A.r1, .int .i64 m.A.r2, .int .i64 m.A.r3, .int .i64 m.A.r4, .int .i64 m.A.r5, .slice A m.L.length c] 29) (.cells #[.int .i64 0, .int .i64 0, .int .i64 0, .int .i64 0, .int .i64 0, .int .i64 0, .int .i64 0, .int .i64 0, .slice none 0 0] 34) (.cells #[.int .i64 m.Kind, .int .i64 m.Seq, .int .i64 m.A.r0, .int .i64 m.A.r1, .int .i64 m.A.r2, .int .i64 m.A.r3, .int .i64 m.A.r4, .int .i64 m.A.r5, .slice none 0 0] 34)
  generalize ((w.alloc _).alloc _).alloc _ = w1 at *
  generalize hXe : w.heap.size + 1 + 1 = X at *
  generalize hRe : w.heap.size + 1 = R at *
  generalize hTe : w.heap.size = T at *
  have HN : Hid (X = T + 2 ∧ R = T + 1 ∧ w.heap.size = T ∧ w1.heap.size = T + 3) := by show _ ∧ _ ∧ _ ∧ _; omega
  clear hXe hRe hTe hfr hT hRz hX hsz hs1
  go_loopg [4] m.L.length (fun q v4 wr => ∃ (k : Nat) (okL : Nat → Prop) (v : Value), k + q = m.L.length ∧ v4 = .int .i64 k ∧ Fr (one X) w1 wr ∧ Hid (∀ k, okL k → since w1 k ∧ k ≠ X) ∧ wr.heap[X]? = some (.cells #[.int .i64 m.Kind, .int .i64 m.Seq, .int .i64 m.A.r0, .int .i64 m.A.r1, .int .i64 m.A.r2, .int .i64 m.A.r3, .int .i64 m.A.r4, .int .i64 m.A.r5, v] 34 (0, 0)) ∧ kRRow.R 54 wr 0 okL v ((m.L.take k).map rr))
  case atStart => exact ⟨0, fun _ => False, _, by omega, rfl, Fr.refl _ _, fun _ h => h.elim, hX1, Kd.R_nil _ _ _ _ _⟩
  case round =>
    clear hX1
    obtain ⟨k, okL, v, hk, rfl, hf, HOK, hX, hRow⟩ := hrel
    have hTr := hf.heap hT1 (fun he => by have : T = X := he; have := HN.out; omega)
    have t8 := (nineT hTr).1.2.2.2.2.2.2.2.2
    by_cases hlt : k < m.L.length
    · obtain ⟨A1, c1, rfl⟩ := Kd.R_slice hRow
      have x8 := (nineT hX).1.2.2.2.2.2.2.2.2
      have hfw2 := hfw.new hf (fun k hk => by have hk' : k = X := hk; have := HN.out; show w.heap.size ≤ k; omega)
      obtain ⟨ad, rfl, c0, c1', c2, c3, c4⟩ := at_Row (C_fr hC0.out hfw2) (k : Int) (by omega) (by omega)
      have hra : rd_Row m.L (k : Int) = m.L[k] := by simp [rd_Row, hlt]
      rw [Int.toNat_natCast, hra] at c0 c1' c2 c3 c4
      obtain ⟨a, ha⟩ : ∃ x, m.L[k] = x := ⟨_, rfl⟩
      rw [ha] at c0 c1' c2 c3 c4
      have hk0 : (0 : Int) ≤ (k : Int) := by omega
      have hk1 : (k : Int) < (m.L.length : Int) := by omega
      have HG : Hid ((m.L.take (k + 1)).map rr = (m.L.take k).map rr ++ [⟨a.r0, a.r1, a.r2, a.r3, a.r4⟩]) := by
        show _ = _
        rw [List.take_succ_eq_append_getElem hlt, List.map_append, ha]
        rfl
      have hgl : ((m.L.take k).map rr).length = k := by simp; omega
      obtain ⟨G, hG⟩ : ∃ x, (m.L.take k).map rr = x := ⟨_, rfl⟩
      rw [hG] at HG hgl hRow x8 hX
      have hgl' : G.length ≤ 1000 := by omega
      have HS : Hid (∀ u, Fr no wr u → u.cell? ⟨X, 8, none⟩ = some (.slice A1 G.length c1) ∧ u.cell? ⟨T, 8, none⟩ = some (.slice (some ad) m.L.length c) ∧ u.cell? (ad.add (k * 5)) = some (.int .i64 a.r0) ∧ u.cell? ⟨(ad.add (k * 5)).block, (ad.add (k * 5)).off + 1, none⟩ = some (.int .i64 a.r1) ∧ u.cell? ⟨(ad.add (k * 5)).block, (ad.add (k * 5)).off + 2, none⟩ = some (.int .i64 a.r2) ∧ u.cell? ⟨(ad.add (k * 5)).block, (ad.add (k * 5)).off + 3, none⟩ = some (.int .i64 a.r3) ∧ u.cell? ⟨(ad.add (k * 5)).block, (ad.add (k * 5)).off + 4, none⟩ = some (.int .i64 a.r4)) := fun u h => ⟨h.cell x8 (fun h => h), h.cell t8 (fun h => h), h.cell c0 (fun h => h), h.cell c1' (fun h => h), h.cell c2 (fun h => h), h.cell c3 (fun h => h), h.cell c4 (fun h => h)⟩
      have hd5 : Fr no wr wr.drew := (Fr.refl no wr).drew
      have hR5 := R_fr hRow hd5 (fun _ _ h => h)
      have hX5 := hd5.heap hX (fun h => h)
      have HF := Lib.hid hf
      have HGL := Lib.hid hgl
      clear hra ha hG hgl hRow x8 hX hf hfw2 c0 c1' c2 c3 c4 hTr
      go_wp2_with fail
      clear t8
      refine start_ (n := 11) (S := fun w' => Fr no wr w') (ds := [8, 10]) #[false, false, false, false, false, false, false, false, false, false, false] (by kernel_rfl) rfl rfl ((Fr.refl no wr).drewN _) (fun hHeld => ?_)
      generalize wr.drew = w5 at *
      refine pure_ (i := 0) (N := some 19) (v := ?_) (a' := ?_) #[true, false, false, false, false, false, false, false, false, false, false] rfl rfl (by kernel_rfl) (fun _ _ _ h => h) (Or.inl ⟨by rfl, ?_⟩) ?_ ?_
      rotate_left
      · intro w'
        go_simp
        with_reducible rfl
      rotate_left
      · simp only [Act.put, List.setIfInBounds_toArray, List.set_cons_zero, List.set_cons_succ, i64_w, i32_w]
        rfl
      refine take_ (i := 1) (N := some 20) (v := ?_) (a' := ?_) #[true, true, false, false, false, false, false, false, false, false, false] rfl rfl (by kernel_rfl) (fun _ _ _ h => h) (Or.inl ⟨by rfl, ?_⟩) hHeld ?_ ?_
      rotate_left
      · intro w' s0
        obtain ⟨s1, s2, s3, s4, s5, s6, s7⟩ := HS.out w' s0
        go_simp
        with_reducible rfl
      rotate_left
      · simp only [Act.put, List.setIfInBounds_toArray, List.set_cons_zero, List.set_cons_succ, i64_w, i32_w]
        rfl
      refine pure_ (i := 2) (N := some 21) (v := ?_) (a' := ?_) #[true, true, true, false, false, false, false, false, false, false, false] rfl rfl (by kernel_rfl) (fun _ _ _ h => h) (Or.inl ⟨by rfl, ?_⟩) ?_ ?_
      rotate_left
      · intro w'
        go_simp
        with_reducible rfl
      rotate_left
      · simp only [Act.put, List.setIfInBounds_toArray, List.set_cons_zero, List.set_cons_succ, i64_w, i32_w]
        rfl
      refine take_ (i := 3) (N := some 22) (v := ?_) (a' := ?_) #[true, true, true, true, false, false, false, false, false, false, false] rfl rfl (by kernel_rfl) (fun _ _ _ h => h) (Or.inl ⟨by rfl, ?_⟩) hHeld ?_ ?_
      rotate_left
      · intro w' s0
        obtain ⟨s1, s2, s3, s4, s5, s6, s7⟩ := HS.out w' s0
        go_simp
        with_reducible rfl
      rotate_left
      · simp only [Act.put, List.setIfInBounds_toArray, List.set_cons_zero, List.set_cons_succ, i64_w, i32_w]
        rfl
      refine pure_ (i := 4) (N := some 23) (v := ?_) (a' := ?_) #[true, true, true, true, true, false, false, false, false, false, false] rfl rfl (by kernel_rfl) (fun _ _ _ h => h) (Or.inl ⟨by rfl, ?_⟩) ?_ ?_
      rotate_left
      · intro w'
        go_simp
        with_reducible rfl
      rotate_left
      · simp only [Act.put, List.setIfInBounds_toArray, List.set_cons_zero, List.set_cons_succ, i64_w, i32_w]
        rfl
      refine pure_ (i := 5) (N := some 24) (v := ?_) (a' := ?_) #[true, true, true, true, true, true, false, false, false, false, false] rfl rfl (by kernel_rfl) (fun _ _ _ h => h) (Or.inl ⟨by rfl, ?_⟩) ?_ ?_
      rotate_left
      · intro w'
        go_simp
        with_reducible rfl
      rotate_left
      · simp only [Act.put, List.setIfInBounds_toArray, List.set_cons_zero, List.set_cons_succ, i64_w, i32_w]
        rfl
      refine take_ (i := 6) (N := some 25) (v := ?_) (a' := ?_) #[true, true, true, true, true, true, true, false, false, false, false] rfl rfl (by kernel_rfl) (fun _ _ _ h => h) (Or.inl ⟨by rfl, ?_⟩) hHeld ?_ ?_
      rotate_left
      · intro w' s0
        obtain ⟨s1, s2, s3, s4, s5, s6, s7⟩ := HS.out w' s0
        go_simp
        with_reducible rfl
      rotate_left
      · simp only [Act.put, List.setIfInBounds_toArray, List.set_cons_zero, List.set_cons_succ, i64_w, i32_w]
        rfl
      refine one_ (i := 7) (N := some 26) #[true, true, true, true, true, true, true, true, false, false, false] rfl rfl (by kernel_rfl) (by decide) (fun K hK => ?_)
      refine value_ (w1 := ?_) (v := ?_) (by rfl) rfl ?_ ?_
      rotate_left 2
      · go_simp
        constructor
        · rfl
        · rfl
      refine hK.out _ _ (Fr.alloc hHeld _) (fun hHeld => ?_)
      clear hK K
      refine norm_ (a' := ?_) ?_ ?_
      rotate_left
      · show Act.put _ (some 26) _ = _
        simp only [Act.put, List.setIfInBounds_toArray, List.set_cons_zero, List.set_cons_succ, i64_w, i32_w]
        rfl
      refine last_ (i := 8) (N := some 27) #[true, true, true, true, true, true, true, true, true, false, false] rfl rfl (by kernel_rfl) (by decide) (fun K hK => ?_)
      refine Kd.R_append_step kRRow (w0 := w5) 0 (by rfl) (.tmp 20) (.tmp 26) 32 54 (.agg #[.int .i64 0, .int .i64 0, .int .i64 0, .int .i64 0, .int .i64 0]) 40 rfl Tryd.underlying32 infoRR rfl (by decide) (by omega) _ G ⟨a.r0, a.r1, a.r2, a.r3, a.r4⟩ _ (ext okL w5) (fun _ => False) rfl rfl (kRRow_mkM _ _ _ _) (fun _ hk => hk.elim) (fun k hk => .inr hk) (Kd.R_mono hR5 (fun _ => .inl)) (Below.refl 0 _) (Nat.zero_le _) (by omega) ?_
      intro v1 w9 ho hb1 hg hat
      clear hat hb1
      obtain ⟨A2, c2, rfl⟩ := Kd.R_slice ho
      have hF := Fr.of_grown (S := okL) hg (fun k hk _ => hR5.1 k hk)
      have hX9 := hF.heap hX5 (fun he => (HOK.out X he).2 rfl)
      have f8 := (nineT hX9).2.2.2.2.2.2.2.2.2
      have x8 := (nineT hX9).1.2.2.2.2.2.2.2.2
      refine hK.out _ _ ?_
      clear hK K
      refine norm_ (a' := ?_) ?_ ?_
      rotate_left
      · show Act.put _ (some 27) _ = _
        simp only [Act.put, List.setIfInBounds_toArray, List.set_cons_zero, List.set_cons_succ, i64_w, i32_w]
        rfl
      refine pure_ (i := 9) (N := some 28) (v := ?_) (a' := ?_) #[true, true, true, true, true, true, true, true, true, true, false] rfl rfl (by kernel_rfl) (fun _ _ _ h => h) (Or.inl ⟨by rfl, ?_⟩) ?_ ?_
      rotate_left
      · intro w'
        go_simp
        with_reducible rfl
      rotate_left
      · simp only [Act.put, List.setIfInBounds_toArray, List.set_cons_zero, List.set_cons_succ, i64_w, i32_w]
        rfl
      refine last_ (i := 10) (N := none) #[true, true, true, true, true, true, true, true, true, true, true] rfl rfl (by kernel_rfl) (by decide) (fun K hK => ?_)
      refine skip_ (w1 := ?_) (by rfl) rfl ?_ ?_
      rotate_left
      · go_simp
        rfl
      refine hK.out _ _ ?_
      clear hK K
      refine done_ (by kernel_rfl) ?_
      have hF5 : Fr (one X) w1 w5 := HF.out.trans hd5 (fun _ h _ => h.elim)
      have hF9 : Fr (one X) w1 w9 := hF5.trans hF (fun k hk hl => absurd (HOK.out k hk).1 (Nat.not_le.2 hl))
      have hFX : Fr (one X) w9 (w9.setCell ⟨X, 8, none⟩ (.slice A2 (G.length + 1) c2)) := (Fr.refl (one X) w9).set (p := ⟨X, 8, none⟩) (fun _ => rfl) _
      have hFw := hF9.trans' hFX
      have hXl := blk_lt hX5
      have hOK2 : Hid (∀ k, ext okL w5 k → since w1 k ∧ k ≠ X) := fun k hk => by
        rcases hk with hk | hk
        · exact HOK.out k hk
        · exact ⟨Nat.le_trans hF5.size hk, by omega⟩
      have hXw := blk_put hX9 8 (.slice A2 (G.length + 1) c2) rfl
      rw [show (G ++ [(⟨a.r0, a.r1, a.r2, a.r3, a.r4⟩ : RRow)]).length = G.length + 1 by simp] at ho
      have hRw := R_fr ho hFX (fun k hk he => (hOK2.out k hk).2 he)
      simp only [List.setIfInBounds_toArray, List.set_cons_succ, List.set_cons_zero] at hXw
      rw [← HG.out] at hRw
      clear hF5 hF9 hFX hX9 ho hF hg hR5 hX5 hHeld hd5 x8 f8 hXl
      generalize w9.setCell _ _ = w10 at *
      go_wp2
      go_roundg (m.L.length - (k + 1))
      case measure => omega
      case rel => exact ⟨k + 1, _, _, by omega, by go_num, hFw, hOK2, hXw, hRw⟩
    · obtain rfl : k = m.L.length := by omega
      obtain ⟨A1, c1, rfl⟩ := Kd.R_slice hRow
      rw [List.take_length] at hRow hX
      have hrl : (m.L.map rr).length = m.L.length := by simp
      rw [hrl] at hRow hX
      have hRr := hf.heap hR1 (fun he => by have : R = X := he; have := HN.out; omega)
      obtain ⟨⟨c0, c1', c2, c3, c4, c5, c6, c7, c8⟩, f0, f1, f2, f3, f4, f5, f6, f7, f8⟩ := nineT hRr
      obtain ⟨⟨d0, d1, d2, d3, d4, d5, d6, d7, d8⟩, _⟩ := nineT hX
      have hfw2 := hfw.new hf (fun k hk => by have hk' : k = X := hk; have := HN.out; show w.heap.size ≤ k; omega)
      have hrd := (Kd.R_reads' hRow).2.2
      have HRow := Lib.hid hRow
      clear hRow hX hRr hf hTr hR1 hT1
      go_wp2
      have hFs : ∀ u0 u1 u2 u3 u4 u5 u6 u7 u8 : Value, Fr (one R) wr (((((((((wr.setCell ⟨R, 0, none⟩ u0).setCell ⟨R, 1, none⟩ u1).setCell ⟨R, 2, none⟩ u2).setCell ⟨R, 3, none⟩ u3).setCell ⟨R, 4, none⟩ u4).setCell ⟨R, 5, none⟩ u5).setCell ⟨R, 6, none⟩ u6).setCell ⟨R, 7, none⟩ u7).setCell ⟨R, 8, none⟩ u8) := fun u0 u1 u2 u3 u4 u5 u6 u7 u8 => by
        iterate 9 refine fr_one ?_ _ _
        exact Fr.refl _ _
      refine bodyPost_ret (v := rmV m A1 c1) (by simp [results, Tryd.results14, go_sem, rmV, c0, c1', c2, c3, c4, c5, c6, c7, c8]) rfl ?_
      refine ⟨⟨A1, c1, rfl, ?_⟩, ?_⟩
      · have h := R_fr HRow.out (hFs (.int .i64 m.Kind) (.int .i64 m.Seq) (.int .i64 m.A.r0) (.int .i64 m.A.r1) (.int .i64 m.A.r2) (.int .i64 m.A.r3) (.int .i64 m.A.r4) (.int .i64 m.A.r5) (.slice A1 m.L.length c1)) (fun k hk he => by
          have he' : k = R := he
          have h1 : w1.heap.size ≤ k := (HOK.out k hk).1
          have := HN.out
          omega)
        have h2 := (Kd.R_reads' h).2.2
        rw [hrl] at h2
        exact h2
      · exact hfw2.new (hFs _ _ _ _ _ _ _ _ _) (fun k hk => by have hk' : k = R := hk; have := HN.out; show w.heap.size ≤ k; omega)
end Go.Proofs.YtcbhddajkleleaaDoor.Msg
