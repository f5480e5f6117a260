import Derived.Test.YtcbhddajkleleaaDoorMsgU
import Derived.Test.YtcbhddajkleleaaDoorMsgCuts
import Derived.Lib.Bytes
/-! MsgTwo. -/
set_option linter.unusedVariables false
set_option linter.unusedSimpArgs false
namespace Go.Proofs.YtcbhddajkleleaaDoor.Msg
open Go.RowKit Go.Proofs.YtcbhddajkleleaaDoorW.PrintWords Go.Proofs.YtcbhddajkleleaaDoor.B Go.Proofs.YtcbhddajkleleaaDoor.Codec Go.Proofs.YtcbhddajkleleaaDoor.Err

theorem str_inj : ∀ (xs ys : List Int), (∀ x ∈ xs, 0 ≤ x ∧ x < 256) → (∀ x ∈ ys, 0 ≤ x ∧ x < 256) → xs.map (fun n => UInt8.ofNat n.toNat) = ys.map (fun n => UInt8.ofNat n.toNat) → xs = ys
  | [], [], _, _, _ => rfl
  | [], _ :: _, _, _, h => by simp at h
  | _ :: _, [], _, _, h => by simp at h
  | x :: xs, y :: ys, hx, hy, h => by
    simp only [List.map_cons, List.cons.injEq] at h
    have h1 := congrArg UInt8.toNat h.1
    have hx1 := hx x (by simp)
    have hy1 := hy y (by simp)
    simp only [UInt8.toNat_ofNat'] at h1
    rw [Nat.mod_eq_of_lt (by omega), Nat.mod_eq_of_lt (by omega)] at h1
    rw [str_inj xs ys (fun z hz => hx z (by simp [hz])) (fun z hz => hy z (by simp [hz])) h.2, show x = y by omega]
theorem encB_ok {m : Msg} (h : OkM m) : ∀ x ∈ encM m, 0 ≤ x ∧ x < 256 := fun x hx => by
  obtain ⟨n, hn, hx⟩ := List.mem_flatMap.1 hx
  have := h.nums n hn
  exact encI_bytes n this.1 this.2 x hx
theorem str_same {a b : Msg} (ha : OkM a) (hb : OkM b) {s : Bool} (hs : sameB a b = s) : ((strOfNums (encM a)).toList == (strOfNums (encM b)).toList) = s := by
  cases s with
  | true =>
    have h := sameB_true.1 hs
    subst h
    simp
  | false =>
    have h := sameB_false.1 hs
    rw [beq_eq_false_iff_ne]
    intro he
    rw [Lib.strOfNums_toList, Lib.strOfNums_toList] at he
    exact h (encM_inj ha hb (str_inj _ _ (encB_ok ha) (encB_ok hb) he))
set_option maxRecDepth 100000 in
set_option maxHeartbeats 4000000 in
theorem two_c (a b : Msg) (A B : Option Addr) (ca cb : Nat) (w : World) (hA : kRow.C w A a.L.length a.L) (hB : kRow.C w B b.L.length b.L) (hoa : OkM a) (hob : OkM b) :
    Calls Tryd.prog 4 #[msgV a A ca, msgV b B cb] w fun e w' => e = .returned (.bool true) ∧ Fr no w w' := by
  have HC := Lib.hid (And.intro hA hB)
  have HO := Lib.hid (And.intro hoa hob)
  have hla := hA.2.1
  have hlb := hB.2.1
  obtain ⟨s, hs⟩ : ∃ s, sameB a b = s := ⟨_, rfl⟩
  have HS := Lib.hid hs
  have hb1 := blk_new w (.cells #[.int .i64 a.Kind, .int .i64 a.Seq, .int .i64 a.A.r0, .int .i64 a.A.r1, .int .i64 a.A.r2, .int .i64 a.A.r3, .int .i64 a.A.r4, .int .i64 a.A.r5, .slice A a.L.length ca] 29)
  have hb2 := blk_new (w.alloc (.cells #[.int .i64 a.Kind, .int .i64 a.Seq, .int .i64 a.A.r0, .int .i64 a.A.r1, .int .i64 a.A.r2, .int .i64 a.A.r3, .int .i64 a.A.r4, .int .i64 a.A.r5, .slice A a.L.length ca] 29)) (.cells #[.int .i64 b.Kind, .int .i64 b.Seq, .int .i64 b.A.r0, .int .i64 b.A.r1, .int .i64 b.A.r2, .int .i64 b.A.r3, .int .i64 b.A.r4, .int .i64 b.A.r5, .slice B b.L.length cb] 29)
  have hb3 := ((Fr.refl no (w.alloc (.cells #[.int .i64 a.Kind, .int .i64 a.Seq, .int .i64 a.A.r0, .int .i64 a.A.r1, .int .i64 a.A.r2, .int .i64 a.A.r3, .int .i64 a.A.r4, .int .i64 a.A.r5, .slice A a.L.length ca] 29))).alloc (.cells #[.int .i64 b.Kind, .int .i64 b.Seq, .int .i64 b.A.r0, .int .i64 b.A.r1, .int .i64 b.A.r2, .int .i64 b.A.r3, .int .i64 b.A.r4, .int .i64 b.A.r5, .slice B b.L.length cb] 29)).heap hb1 (fun h => h)
  have hfw := ((Fr.refl no w).alloc (.cells #[.int .i64 a.Kind, .int .i64 a.Seq, .int .i64 a.A.r0, .int .i64 a.A.r1, .int .i64 a.A.r2, .int .i64 a.A.r3, .int .i64 a.A.r4, .int .i64 a.A.r5, .slice A a.L.length ca] 29)).alloc (.cells #[.int .i64 b.Kind, .int .i64 b.Seq, .int .i64 b.A.r0, .int .i64 b.A.r1, .int .i64 b.A.r2, .int .i64 b.A.r3, .int .i64 b.A.r4, .int .i64 b.A.r5, .slice B b.L.length cb] 29)
  rw [World.size_alloc] at hb2
  clear hA hB hoa hob hs hb1
  unfold msgV
  go_enter Tryd.func4, Tryd.ntmps4
  go_wp2_with fail
  generalize (w.alloc _).alloc _ = w1 at *
  generalize w.heap.size = Z at *
  have HK : Hid (∀ u, Fr no w1 u → (u.cell? ⟨Z, 0, none⟩ = some (.int .i64 a.Kind) ∧ u.cell? ⟨Z, 1, none⟩ = some (.int .i64 a.Seq) ∧ u.cell? ⟨Z, 2, none⟩ = some (.int .i64 a.A.r0) ∧ u.cell? ⟨Z, 3, none⟩ = some (.int .i64 a.A.r1) ∧ u.cell? ⟨Z, 4, none⟩ = some (.int .i64 a.A.r2) ∧ u.cell? ⟨Z, 5, none⟩ = some (.int .i64 a.A.r3) ∧ u.cell? ⟨Z, 6, none⟩ = some (.int .i64 a.A.r4) ∧ u.cell? ⟨Z, 7, none⟩ = some (.int .i64 a.A.r5) ∧ u.cell? ⟨Z, 8, none⟩ = some (.slice A a.L.length ca)) ∧ (u.cell? ⟨Z + 1, 0, none⟩ = some (.int .i64 b.Kind) ∧ u.cell? ⟨Z + 1, 1, none⟩ = some (.int .i64 b.Seq) ∧ u.cell? ⟨Z + 1, 2, none⟩ = some (.int .i64 b.A.r0) ∧ u.cell? ⟨Z + 1, 3, none⟩ = some (.int .i64 b.A.r1) ∧ u.cell? ⟨Z + 1, 4, none⟩ = some (.int .i64 b.A.r2) ∧ u.cell? ⟨Z + 1, 5, none⟩ = some (.int .i64 b.A.r3) ∧ u.cell? ⟨Z + 1, 6, none⟩ = some (.int .i64 b.A.r4) ∧ u.cell? ⟨Z + 1, 7, none⟩ = some (.int .i64 b.A.r5) ∧ u.cell? ⟨Z + 1, 8, none⟩ = some (.slice B b.L.length cb))) := fun u h => ⟨(nineT (h.heap hb3 (fun h => h))).1, (nineT (h.heap hb2 (fun h => h))).1⟩
  have HD : Hid (∀ u, Fr no w1 u → kRow.C u A a.L.length a.L ∧ kRow.C u B b.L.length b.L) := fun u h => ⟨C_fr HC.out.1 (hfw.trans' h), C_fr HC.out.2 (hfw.trans' h)⟩
  have HFw := Lib.hid hfw
  clear hb2 hb3 hfw HC
  refine (known_m w1).mono ?_
  rintro e w2 ⟨rfl, hf⟩
  obtain ⟨⟨x0, x1, x2, x3, x4, x5, x6, x7, x8⟩, y0, y1, y2, y3, y4, y5, y6, y7, y8⟩ := HK.out w2 hf
  by_cases g1 : a.L.length > 100
  · have d1 : decide ((a.L.length : Int) > 100) = true := by simp; omega
    dsimp only
    go_wp2
    go_ret
    exact ⟨rfl, HFw.out.trans' hf⟩
  · have d1 : decide ((a.L.length : Int) > 100) = false := by simp; omega
    by_cases g2 : b.L.length > 100
    · have d2 : decide ((b.L.length : Int) > 100) = true := by simp; omega
      dsimp only
      go_wp2
      go_ret
      exact ⟨rfl, HFw.out.trans' hf⟩
    · have d2 : decide ((b.L.length : Int) > 100) = false := by simp; omega
      dsimp only
      go_wp2_with fail
      obtain ⟨k1, k2⟩ := HD.out w2 hf
      refine (same_c a b A B ca cb w2 k1 k2 (by omega) (by omega)).mono ?_
      rintro e w3 ⟨rfl, hf3⟩
      replace hf := hf.trans' hf3
      rw [HS.out]
      clear k1 k2 hf3 x0 x1 x2 x3 x4 x5 x6 x7 x8 y0 y1 y2 y3 y4 y5 y6 y7 y8
      obtain ⟨⟨x0, x1, x2, x3, x4, x5, x6, x7, x8⟩, y0, y1, y2, y3, y4, y5, y6, y7, y8⟩ := HK.out w3 hf
      cases s
      all_goals
        dsimp only
        go_wp2_with fail
        have hfd := hf.drew
        have hpl := HK.out _ hfd
        clear x0 x1 x2 x3 x4 x5 x6 x7 x8 y0 y1 y2 y3 y4 y5 y6 y7 y8
        refine wp_region_plan (fun u => (u.cell? ⟨Z, 0, none⟩ = some (.int .i64 a.Kind) ∧ u.cell? ⟨Z, 1, none⟩ = some (.int .i64 a.Seq) ∧ u.cell? ⟨Z, 2, none⟩ = some (.int .i64 a.A.r0) ∧ u.cell? ⟨Z, 3, none⟩ = some (.int .i64 a.A.r1) ∧ u.cell? ⟨Z, 4, none⟩ = some (.int .i64 a.A.r2) ∧ u.cell? ⟨Z, 5, none⟩ = some (.int .i64 a.A.r3) ∧ u.cell? ⟨Z, 6, none⟩ = some (.int .i64 a.A.r4) ∧ u.cell? ⟨Z, 7, none⟩ = some (.int .i64 a.A.r5) ∧ u.cell? ⟨Z, 8, none⟩ = some (.slice A a.L.length ca)) ∧ (u.cell? ⟨Z + 1, 0, none⟩ = some (.int .i64 b.Kind) ∧ u.cell? ⟨Z + 1, 1, none⟩ = some (.int .i64 b.Seq) ∧ u.cell? ⟨Z + 1, 2, none⟩ = some (.int .i64 b.A.r0) ∧ u.cell? ⟨Z + 1, 3, none⟩ = some (.int .i64 b.A.r1) ∧ u.cell? ⟨Z + 1, 4, none⟩ = some (.int .i64 b.A.r2) ∧ u.cell? ⟨Z + 1, 5, none⟩ = some (.int .i64 b.A.r3) ∧ u.cell? ⟨Z + 1, 6, none⟩ = some (.int .i64 b.A.r4) ∧ u.cell? ⟨Z + 1, 7, none⟩ = some (.int .i64 b.A.r5) ∧ u.cell? ⟨Z + 1, 8, none⟩ = some (.slice B b.L.length cb))) [(0, false), (1, false), (3, false), (2, true), (4, true), (5, true), (6, false), (7, false), (8, false), (9, false), (10, false), (11, true), (12, false), (13, false)] (by kernel_rfl) (by kernel_rfl) (fun _ _ _ _ _ h => h) (hpl) ?_
        simp only [planOps, List.getElem?_toArray, List.getElem?_cons_succ, List.getElem?_cons_zero]
        repeat (first
          | (refine plan_step (by rfl) ?_; apply Exists.intro; refine ⟨fun x hSx => ?_, ?_⟩; ((try dsimp only at hSx); go_simp; (try rw [if_neg (by omega)]); (try with_reducible rfl)); (simp only [Act.put, List.setIfInBounds_toArray, List.set_cons_zero, List.set_cons_succ]))
          | (refine plan_skip (by rfl) ?_; (simp only [Act.put, List.setIfInBounds_toArray, List.set_cons_zero, List.set_cons_succ])))
        refine plan_run (by rfl) (fun K hK => ?_)
        go_simp
        refine (of_c a A ca _ (HD.out _ hfd).1 (by omega)).mono ?_
        rintro e w4 ⟨⟨A4, c4, rfl, hC4⟩, hf4⟩
        have hg4 := hfd.trans' hf4
        have q4 := HK.out _ hg4
        dsimp only
        refine hK.out (fun u => True) _ _ (q4) (trivial) ?_
        clear hK K
        try simp only [Act.put, List.setIfInBounds_toArray, List.set_cons_zero, List.set_cons_succ]
        repeat (first
          | (refine plan_step (by rfl) ?_; apply Exists.intro; refine ⟨fun x hSx => ?_, ?_⟩; ((try dsimp only at hSx); go_simp; (try rw [if_neg (by omega)]); (try with_reducible rfl)); (simp only [Act.put, List.setIfInBounds_toArray, List.set_cons_zero, List.set_cons_succ]))
          | (refine plan_skip (by rfl) ?_; (simp only [Act.put, List.setIfInBounds_toArray, List.set_cons_zero, List.set_cons_succ])))
        refine plan_run (by rfl) (fun K hK => ?_)
        go_simp
        refine (of_c b B cb _ (HD.out _ hg4).2 (by omega)).mono ?_
        rintro e w5 ⟨⟨A5, c5, rfl, hC5⟩, hf5⟩
        have hg5 := hg4.trans' hf5
        have q5 := HK.out _ hg5
        dsimp only
        refine hK.out (fun u => True) _ _ (⟨q5, trivial⟩) (trivial) ?_
        clear hK K
        try simp only [Act.put, List.setIfInBounds_toArray, List.set_cons_zero, List.set_cons_succ]
        repeat (first
          | (refine plan_step (by rfl) ?_; apply Exists.intro; refine ⟨fun x hSx => ?_, ?_⟩; ((try dsimp only at hSx); go_simp; (try rw [if_neg (by omega)]); (try with_reducible rfl)); (simp only [Act.put, List.setIfInBounds_toArray, List.set_cons_zero, List.set_cons_succ]))
          | (refine plan_skip (by rfl) ?_; (simp only [Act.put, List.setIfInBounds_toArray, List.set_cons_zero, List.set_cons_succ])))
        refine plan_run (by rfl) (fun K hK => ?_)
        go_simp
        refine (rsame_c a b A4 A5 c4 c5 _ (C_fr hC4 hf5) hC5 (by omega) (by omega)).mono ?_
        rintro e w6 ⟨rfl, hf6⟩
        have hg6 := hg5.trans' hf6
        have q6 := HK.out _ hg6
        rw [HS.out]
        dsimp only
        refine hK.out (fun u => True) _ _ (⟨⟨q6, trivial⟩, trivial⟩) (trivial) ?_
        clear hK K
        try simp only [Act.put, List.setIfInBounds_toArray, List.set_cons_zero, List.set_cons_succ]
        repeat (first
          | (refine plan_step (by rfl) ?_; apply Exists.intro; refine ⟨fun x hSx => ?_, ?_⟩; ((try dsimp only at hSx); go_simp; (try rw [if_neg (by omega)]); (try with_reducible rfl)); (simp only [Act.put, List.setIfInBounds_toArray, List.set_cons_zero, List.set_cons_succ]))
          | (refine plan_skip (by rfl) ?_; (simp only [Act.put, List.setIfInBounds_toArray, List.set_cons_zero, List.set_cons_succ])))
        refine plan_run (by rfl) (fun K hK => ?_)
        go_simp
        refine (same_c b a B A cb ca _ (HD.out _ hg6).2 (HD.out _ hg6).1 (by omega) (by omega)).mono ?_
        rintro e w7 ⟨rfl, hf7⟩
        have hg7 := hg6.trans' hf7
        have q7 := HK.out _ hg7
        rw [sameB_comm b a, HS.out]
        dsimp only
        refine hK.out (fun u => True) _ _ (⟨⟨⟨q7, trivial⟩, trivial⟩, trivial⟩) (trivial) ?_
        clear hK K
        try simp only [Act.put, List.setIfInBounds_toArray, List.set_cons_zero, List.set_cons_succ]
        repeat (first
          | (refine plan_step (by rfl) ?_; apply Exists.intro; refine ⟨fun x hSx => ?_, ?_⟩; ((try dsimp only at hSx); go_simp; (try rw [if_neg (by omega)]); (try with_reducible rfl)); (simp only [Act.put, List.setIfInBounds_toArray, List.set_cons_zero, List.set_cons_succ]))
          | (refine plan_skip (by rfl) ?_; (simp only [Act.put, List.setIfInBounds_toArray, List.set_cons_zero, List.set_cons_succ])))
        refine plan_done ?_
        clear hpl q4 q5 q6 hf4 hf5 hf6 hf7 hg4 hg5 hg6 hC4 hC5 hfd hf
        obtain ⟨⟨x0, x1, x2, x3, x4, x5, x6, x7, x8⟩, y0, y1, y2, y3, y4, y5, y6, y7, y8⟩ := q7
        go_wp2_with fail
        by_cases hma : mayF a.Kind a.Seq a.L.length = 0
        · refine (encode_yes a A ca _ (HD.out _ hg7).1 HO.out.1 hma (by omega)).mono ?_
          rintro e w8 ⟨⟨A8, rfl, hC8⟩, hf8⟩
          have hg8 := hg7.trans' hf8
          clear x0 x1 x2 x3 x4 x5 x6 x7 x8 y0 y1 y2 y3 y4 y5 y6 y7 y8
          obtain ⟨⟨x0, x1, x2, x3, x4, x5, x6, x7, x8⟩, y0, y1, y2, y3, y4, y5, y6, y7, y8⟩ := HK.out _ hg8
          dsimp only
          go_wp2_with fail
          by_cases hmb : mayF b.Kind b.Seq b.L.length = 0
          · refine (encode_yes b B cb _ (HD.out _ hg8).2 HO.out.2 hmb (by omega)).mono ?_
            rintro e w9 ⟨⟨A9, rfl, hC9⟩, hf9⟩
            have v1 := Kd.C_string (P := Tryd.prog) (src := 36) (dst := 9) (c := (encM a).length) Tryd.underlying36 Tryd.underlying5 Tryd.underlying9 (C_fr hC8 hf9)
            have v2 := Kd.C_string (P := Tryd.prog) (src := 36) (dst := 9) (c := (encM b).length) Tryd.underlying36 Tryd.underlying5 Tryd.underlying9 hC9
            have v3 := str_same HO.out.1 HO.out.2 HS.out
            have hg9 := HFw.out.trans' (hg8.trans' hf9)
            clear x0 x1 x2 x3 x4 x5 x6 x7 x8 y0 y1 y2 y3 y4 y5 y6 y7 y8 hC8 hC9 hma hmb
            obtain ⟨n1, hn1⟩ : ∃ x, (encM a).length = x := ⟨_, rfl⟩
            obtain ⟨n2, hn2⟩ : ∃ x, (encM b).length = x := ⟨_, rfl⟩
            obtain ⟨s1, hs1⟩ : ∃ x, strOfNums (encM a) = x := ⟨_, rfl⟩
            obtain ⟨s2, hs2⟩ : ∃ x, strOfNums (encM b) = x := ⟨_, rfl⟩
            rw [hn1, hs1] at v1
            rw [hn2, hs2] at v2
            rw [hs1, hs2] at v3
            rw [hn1, hn2]
            clear hn1 hn2 hs1 hs2
            dsimp only
            go_wp2
            go_ret
            exact ⟨rfl, hg9⟩
          · refine (encode_no b B cb _ hmb).mono ?_
            rintro e w9 ⟨⟨F, rfl, _, _⟩, hf9⟩
            have hg9 := HFw.out.trans' (hg8.trans' hf9)
            clear x0 x1 x2 x3 x4 x5 x6 x7 x8 y0 y1 y2 y3 y4 y5 y6 y7 y8 hC8 hma hmb
            unfold faultV
            dsimp only
            go_wp2
            go_ret
            exact ⟨rfl, hg9⟩
        · refine (encode_no a A ca _ hma).mono ?_
          rintro e w8 ⟨⟨F, rfl, _, _⟩, hf8⟩
          have hg8 := hg7.trans' hf8
          clear x0 x1 x2 x3 x4 x5 x6 x7 x8 y0 y1 y2 y3 y4 y5 y6 y7 y8
          obtain ⟨⟨x0, x1, x2, x3, x4, x5, x6, x7, x8⟩, y0, y1, y2, y3, y4, y5, y6, y7, y8⟩ := HK.out _ hg8
          unfold faultV
          dsimp only
          go_wp2_with fail
          by_cases hmb : mayF b.Kind b.Seq b.L.length = 0
          · refine (encode_yes b B cb _ (HD.out _ hg8).2 HO.out.2 hmb (by omega)).mono ?_
            rintro e w9 ⟨⟨A9, rfl, hC9⟩, hf9⟩
            have hg9 := HFw.out.trans' (hg8.trans' hf9)
            clear x0 x1 x2 x3 x4 x5 x6 x7 x8 y0 y1 y2 y3 y4 y5 y6 y7 y8 hC9 hma hmb
            dsimp only
            go_wp2
            go_ret
            exact ⟨rfl, hg9⟩
          · refine (encode_no b B cb _ hmb).mono ?_
            rintro e w9 ⟨⟨F2, rfl, _, _⟩, hf9⟩
            have hg9 := HFw.out.trans' (hg8.trans' hf9)
            clear x0 x1 x2 x3 x4 x5 x6 x7 x8 y0 y1 y2 y3 y4 y5 y6 y7 y8 hma hmb
            unfold faultV
            dsimp only
            go_wp2
            go_ret
            exact ⟨rfl, hg9⟩
theorem two_row (w : World) (a : Msg) (A : Option Addr) (ca : Nat) (b : Msg) (B : Option Addr) (cb : Nat) (hA : kRow.C w A a.L.length a.L) (_ : a.L.length ≤ ca) (hwa : wfMsg a) (hB : kRow.C w B b.L.length b.L) (_ : b.L.length ≤ cb) (hwb : wfMsg b) :
    Calls Tryd.prog 4 #[.agg #[.int .i64 a.Kind, .int .i64 a.Seq, .int .i64 a.A.r0, .int .i64 a.A.r1, .int .i64 a.A.r2, .int .i64 a.A.r3, .int .i64 a.A.r4, .int .i64 a.A.r5, .slice A a.L.length ca], .agg #[.int .i64 b.Kind, .int .i64 b.Seq, .int .i64 b.A.r0, .int .i64 b.A.r1, .int .i64 b.A.r2, .int .i64 b.A.r3, .int .i64 b.A.r4, .int .i64 b.A.r5, .slice B b.L.length cb]] w fun e w' => e = .returned (.bool true) ∧ Fr no w w' :=
  two_c a b A B ca cb w hA hB (ok_of_wf hwa hA.2.1) (ok_of_wf hwb hB.2.1)
end Go.Proofs.YtcbhddajkleleaaDoor.Msg
