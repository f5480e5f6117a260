import Derived.Test.YtcbhddajkleleaaDoorMsgT
import Derived.Test.YtcbhddajkleleaaDoorMsgO
/-! Contract of the reference's Same. -/
set_option linter.unusedVariables false
set_option linter.unusedSimpArgs false
namespace Go.Proofs.YtcbhddajkleleaaDoor.Msg
open Go.RowKit Go.Proofs.YtcbhddajkleleaaDoorW.PrintWords Go.Proofs.YtcbhddajkleleaaDoor.B Go.Proofs.YtcbhddajkleleaaDoor.Codec

set_option maxHeartbeats 1000000 in
theorem eqvR (d : Nat) (w : World) (a0 a1 a2 a3 a4 b0 b1 b2 b3 b4 : Int) :
    (Op.equalIn (d + 1 + 1) 54 (.agg #[.int .i64 a0, .int .i64 a1, .int .i64 a2, .int .i64 a3, .int .i64 a4]) (.agg #[.int .i64 b0, .int .i64 b1, .int .i64 b2, .int .i64 b3, .int .i64 b4])).run Tryd.prog w = .ok (decide ([a0, a1, a2, a3, a4] = [b0, b1, b2, b3, b4])) w := by
  have hp : ∀ (xs : Array Value) (i : Nat) (v : Value) (w : World), xs[i]? = some v → (part 2 xs i).run Tryd.prog w = .ok v w := fun xs i v w h => by
    simp only [part, Sem.run_bind, Tryd.isAgg2, Result.andThen_ok]
    simp [h]
  have hq : ∀ (a b : Int) (w : World), (Op.equalIn (d + 1) 2 (.int .i64 a) (.int .i64 b)).run Tryd.prog w = .ok (a == b) w := fun a b w => run_equalIn_int w d 2 .i64 .i64 a b Tryd.underlying2
  rw [Op.equalIn]
  simp only [Sem.run_bind, run_underlying Tryd.underlying54, Result.andThen_ok, Tryd.sizeOf2, Std.Legacy.Range.forIn_eq_forIn_range', Std.Legacy.Range.size, List.range'_succ, List.range'_zero, List.forIn_cons, List.forIn_nil]
  have pa0 : ∀ w, (part 2 #[.int .i64 a0, .int .i64 a1, .int .i64 a2, .int .i64 a3, .int .i64 a4] 0).run Tryd.prog w = .ok (.int .i64 a0) w := fun w => hp _ _ _ w rfl
  have pb0 : ∀ w, (part 2 #[.int .i64 b0, .int .i64 b1, .int .i64 b2, .int .i64 b3, .int .i64 b4] 0).run Tryd.prog w = .ok (.int .i64 b0) w := fun w => hp _ _ _ w rfl
  have pa1 : ∀ w, (part 2 #[.int .i64 a0, .int .i64 a1, .int .i64 a2, .int .i64 a3, .int .i64 a4] 1).run Tryd.prog w = .ok (.int .i64 a1) w := fun w => hp _ _ _ w rfl
  have pb1 : ∀ w, (part 2 #[.int .i64 b0, .int .i64 b1, .int .i64 b2, .int .i64 b3, .int .i64 b4] 1).run Tryd.prog w = .ok (.int .i64 b1) w := fun w => hp _ _ _ w rfl
  have pa2 : ∀ w, (part 2 #[.int .i64 a0, .int .i64 a1, .int .i64 a2, .int .i64 a3, .int .i64 a4] 2).run Tryd.prog w = .ok (.int .i64 a2) w := fun w => hp _ _ _ w rfl
  have pb2 : ∀ w, (part 2 #[.int .i64 b0, .int .i64 b1, .int .i64 b2, .int .i64 b3, .int .i64 b4] 2).run Tryd.prog w = .ok (.int .i64 b2) w := fun w => hp _ _ _ w rfl
  have pa3 : ∀ w, (part 2 #[.int .i64 a0, .int .i64 a1, .int .i64 a2, .int .i64 a3, .int .i64 a4] 3).run Tryd.prog w = .ok (.int .i64 a3) w := fun w => hp _ _ _ w rfl
  have pb3 : ∀ w, (part 2 #[.int .i64 b0, .int .i64 b1, .int .i64 b2, .int .i64 b3, .int .i64 b4] 3).run Tryd.prog w = .ok (.int .i64 b3) w := fun w => hp _ _ _ w rfl
  have pa4 : ∀ w, (part 2 #[.int .i64 a0, .int .i64 a1, .int .i64 a2, .int .i64 a3, .int .i64 a4] 4).run Tryd.prog w = .ok (.int .i64 a4) w := fun w => hp _ _ _ w rfl
  have pb4 : ∀ w, (part 2 #[.int .i64 b0, .int .i64 b1, .int .i64 b2, .int .i64 b3, .int .i64 b4] 4).run Tryd.prog w = .ok (.int .i64 b4) w := fun w => hp _ _ _ w rfl
  simp only [Nat.zero_add, Nat.zero_mul, Nat.mul_one, Nat.reduceAdd]
  generalize (#[.int .i64 a0, .int .i64 a1, .int .i64 a2, .int .i64 a3, .int .i64 a4] : Array Value) = XA at *
  generalize (#[.int .i64 b0, .int .i64 b1, .int .i64 b2, .int .i64 b3, .int .i64 b4] : Array Value) = XB at *
  clear hp
  by_cases h0 : a0 = b0
  rotate_left
  · simp [pa0, pb0, hq, h0]
  by_cases h1 : a1 = b1
  rotate_left
  · simp [pa0, pb0, pa1, pb1, hq, h0, h1]
  by_cases h2 : a2 = b2
  rotate_left
  · simp [pa0, pb0, pa1, pb1, pa2, pb2, hq, h0, h1, h2]
  by_cases h3 : a3 = b3
  rotate_left
  · simp [pa0, pb0, pa1, pb1, pa2, pb2, pa3, pb3, hq, h0, h1, h2, h3]
  by_cases h4 : a4 = b4
  rotate_left
  · simp [pa0, pb0, pa1, pb1, pa2, pb2, pa3, pb3, pa4, pb4, hq, h0, h1, h2, h3, h4]
  simp [pa0, pb0, pa1, pb1, pa2, pb2, pa3, pb3, pa4, pb4, hq, h0, h1, h2, h3, h4]
theorem neqR (a0 a1 a2 a3 a4 b0 b1 b2 b3 b4 : Int) (w : World) : (binOp .neq 54 (.agg #[.int .i64 a0, .int .i64 a1, .int .i64 a2, .int .i64 a3, .int .i64 a4]) (.agg #[.int .i64 b0, .int .i64 b1, .int .i64 b2, .int .i64 b3, .int .i64 b4])).run Tryd.prog w = .ok (.bool (!decide ([a0, a1, a2, a3, a4] = [b0, b1, b2, b3, b4]))) w := by
  rw [run_neq_struct, show (10000 : Nat) = 9998 + 1 + 1 from rfl, eqvR]
  rfl
set_option maxRecDepth 100000 in
set_option maxHeartbeats 2000000 in
theorem rsame_c (a b : Msg) (A B : Option Addr) (ca cb : Nat) (w : World) (hA : kRRow.C w A a.L.length (a.L.map rr)) (hB : kRRow.C w B b.L.length (b.L.map rr)) (hx : a.L.length ≤ 1000) (hy : b.L.length ≤ 1000) :
    Calls Tryd.prog 13 #[rmV a A ca, rmV b B cb] w fun e w' => e = .returned (.bool (sameB a b)) ∧ Fr no w w' := by
  have HF : Hid (∀ o1 o2, Fr no w ((w.alloc o1).alloc o2)) := fun o1 o2 => ((Fr.refl no w).alloc o1).alloc o2
  have HX : Hid (¬ (a.Kind = b.Kind ∧ a.Seq = b.Seq ∧ a.A = b.A ∧ a.L.length = b.L.length) → sameB a b = false) := fun h => sameB_false.2 (fun e => h (by subst e; exact ⟨rfl, rfl, rfl, rfl⟩))
  have HC := Lib.hid (And.intro hA hB)
  have hb1 := blk_new w (.cells #[.int .i64 a.Kind, .int .i64 a.Seq, .int .i64 a.A.r0, .int .i64 a.A.r1, .int .i64 a.A.r2, .int .i64 a.A.r3, .int .i64 a.A.r4, .int .i64 a.A.r5, .slice A a.L.length ca] 34)
  have hb2 := blk_new (w.alloc (.cells #[.int .i64 a.Kind, .int .i64 a.Seq, .int .i64 a.A.r0, .int .i64 a.A.r1, .int .i64 a.A.r2, .int .i64 a.A.r3, .int .i64 a.A.r4, .int .i64 a.A.r5, .slice A a.L.length ca] 34)) (.cells #[.int .i64 b.Kind, .int .i64 b.Seq, .int .i64 b.A.r0, .int .i64 b.A.r1, .int .i64 b.A.r2, .int .i64 b.A.r3, .int .i64 b.A.r4, .int .i64 b.A.r5, .slice B b.L.length cb] 34)
  have hb3 := ((Fr.refl no (w.alloc (.cells #[.int .i64 a.Kind, .int .i64 a.Seq, .int .i64 a.A.r0, .int .i64 a.A.r1, .int .i64 a.A.r2, .int .i64 a.A.r3, .int .i64 a.A.r4, .int .i64 a.A.r5, .slice A a.L.length ca] 34))).alloc (.cells #[.int .i64 b.Kind, .int .i64 b.Seq, .int .i64 b.A.r0, .int .i64 b.A.r1, .int .i64 b.A.r2, .int .i64 b.A.r3, .int .i64 b.A.r4, .int .i64 b.A.r5, .slice B b.L.length cb] 34)).heap hb1 (fun h => h)
  rw [World.size_alloc] at hb2
  clear hA hB hb1
  have q6 := fun W => neq6 a.A.r0 a.A.r1 a.A.r2 a.A.r3 a.A.r4 a.A.r5 b.A.r0 b.A.r1 b.A.r2 b.A.r3 b.A.r4 b.A.r5 W
  unfold rmV
  by_cases h1 : a.Kind = b.Kind
  · have hn1 : (a.Kind != b.Kind) = false := by simp [h1]
    by_cases h2 : a.Seq = b.Seq
    · have hn2 : (a.Seq != b.Seq) = false := by simp [h2]
      by_cases h3 : a.A = b.A
      · rw [decide_eq_true ((arr_eq _ _).2 h3)] at q6
        simp only [Bool.not_true] at q6
        by_cases h4 : a.L.length = b.L.length
        · have hn4 : ((a.L.length : Int) != (b.L.length : Int)) = false := by simp [h4]
          have HT : Hid (a.L = b.L → sameB a b = true) := fun h => sameB_true.2 (msg_ext h1 h2 h3 h)
          have HL := Lib.hid h4
          clear h1 h2 h3 h4
          go_enter Tryd.func13, Tryd.ntmps13
          go_wp2_with fail
          clear q6 hn1 hn2 hn4
          have hfw := HF.out (.cells #[.int .i64 a.Kind, .int .i64 a.Seq, .int .i64 a.A.r0, .int .i64 a.A.r1, .int .i64 a.A.r2, .int .i64 a.A.r3, .int .i64 a.A.r4, .int .i64 a.A.r5, .slice A a.L.length ca] 34) (.cells #[.int .i64 b.Kind, .int .i64 b.Seq, .int .i64 b.A.r0, .int .i64 b.A.r1, .int .i64 b.A.r2, .int .i64 b.A.r3, .int .i64 b.A.r4, .int .i64 b.A.r5, .slice B b.L.length cb] 34)
          generalize (w.alloc _).alloc _ = w1 at *
          have HK : Hid (∀ u, Fr no w1 u → u.cell? ⟨w.heap.size, 8, none⟩ = some (.slice A a.L.length ca) ∧ u.cell? ⟨w.heap.size + 1, 8, none⟩ = some (.slice B b.L.length cb)) := fun u h => ⟨(nineT (h.heap hb3 (fun h => h))).1.2.2.2.2.2.2.2.2, (nineT (h.heap hb2 (fun h => h))).1.2.2.2.2.2.2.2.2⟩
          have HC1 : Hid (∀ u, Fr no w1 u → kRRow.C u A a.L.length (a.L.map rr) ∧ kRRow.C u B b.L.length (b.L.map rr)) := fun u h => ⟨C_fr HC.out.1 (hfw.trans' h), C_fr HC.out.2 (hfw.trans' h)⟩
          have HFw := Lib.hid hfw
          clear hb2 hb3 hfw HF HX HC
          generalize w.heap.size = Z at *
          go_loopg [5] a.L.length (fun q v5 wr => ∃ k : Nat, k + q = a.L.length ∧ v5 = .int .i64 k ∧ Hid (a.L.take k = b.L.take k) ∧ Fr no w1 wr)
          case atStart => exact ⟨0, by omega, rfl, by simp [Hid], Fr.refl _ _⟩
          case round =>
            obtain ⟨k, hk, rfl, HE, hf⟩ := hrel
            obtain ⟨z1, z2⟩ := HK.out wr hf
            by_cases hlt : k < a.L.length
            · have hlt2 : k < b.L.length := by have := HL.out; omega
              obtain ⟨hCA, hCB⟩ := HC1.out wr hf
              obtain ⟨ad, rfl, c0, c1, c2, c3, c4⟩ := at_RRow hCA (k : Int) (by omega) (by omega)
              obtain ⟨bd, rfl, d0, d1, d2, d3, d4⟩ := at_RRow hCB (k : Int) (by omega) (by omega)
              have hra : rd_RRow (a.L.map rr) (k : Int) = rr a.L[k] := by simp [rd_RRow, hlt]
              have hrb : rd_RRow (b.L.map rr) (k : Int) = rr b.L[k] := by simp [rd_RRow, hlt2]
              rw [Int.toNat_natCast, hra] at c0 c1 c2 c3 c4
              rw [Int.toNat_natCast, hrb] at d0 d1 d2 d3 d4
              obtain ⟨x, hx'⟩ : ∃ x, a.L[k] = x := ⟨_, rfl⟩
              obtain ⟨y, hy'⟩ : ∃ x, b.L[k] = x := ⟨_, rfl⟩
              rw [hx'] at c0 c1 c2 c3 c4
              rw [hy'] at d0 d1 d2 d3 d4
              dsimp only [rr] at c0 c1 c2 c3 c4 d0 d1 d2 d3 d4
              have HA := Lib.hid hx'
              have HB := Lib.hid hy'
              have hk0 : (0 : Int) ≤ (k : Int) := by omega
              have hk1 : (k : Int) < (a.L.length : Int) := by omega
              have hk2 : (k : Int) < (b.L.length : Int) := by omega
              clear hra hrb hx' hy' hCA hCB
              by_cases hab : x = y
              · have HD : Hid (decide ([x.r0, x.r1, x.r2, x.r3, x.r4] = [y.r0, y.r1, y.r2, y.r3, y.r4]) = true) := by
                  show _ = _
                  simp [hab]
                have HN : Hid (a.L.take (k + 1) = b.L.take (k + 1)) := by
                  show a.L.take (k + 1) = b.L.take (k + 1)
                  rw [List.take_succ_eq_append_getElem hlt, List.take_succ_eq_append_getElem hlt2, HE.out, HA.out, HB.out, hab]
                clear hab
                have hneq2 := fun W => neqR x.r0 x.r1 x.r2 x.r3 x.r4 y.r0 y.r1 y.r2 y.r3 y.r4 W
                rw [HD.out] at hneq2
                clear HD
                simp only [Bool.not_true] at hneq2
                go_wp2
                go_quiet (fail)
                go_wp2
                go_roundg (a.L.length - (k + 1))
                case measure => omega
                case rel => exact ⟨k + 1, by omega, by go_num, HN, hf.drewN _⟩
              · have hd : decide ([x.r0, x.r1, x.r2, x.r3, x.r4] = [y.r0, y.r1, y.r2, y.r3, y.r4]) = false := by
                  rw [decide_eq_false_iff_not, rowL_eq]
                  exact hab
                have HN : Hid (sameB a b = false) := by
                  show sameB a b = false
                  rw [sameB_false]
                  intro he
                  subst he
                  exact hab (HA.out.symm.trans HB.out)
                have hneq2 := fun W => neqR x.r0 x.r1 x.r2 x.r3 x.r4 y.r0 y.r1 y.r2 y.r3 y.r4 W
                rw [hd] at hneq2
                clear hab hd
                simp only [Bool.not_false] at hneq2
                go_wp2
                go_quiet (fail)
                go_wp2
                go_ret
                exact ⟨by simp [HN.out], HFw.out.trans' (hf.drewN _)⟩
            · have HN : Hid (sameB a b = true) := by
                show sameB a b = true
                refine HT.out ?_
                have h1 := HE.out
                rw [List.take_of_length_le (by omega), List.take_of_length_le (by have := HL.out; omega)] at h1
                exact h1
              go_wp2
              go_ret
              exact ⟨by simp [HN.out], HFw.out.trans' hf⟩
        · have hn4 : ((a.L.length : Int) != (b.L.length : Int)) = true := by simp; omega
          rw [HX.out (fun h => h4 h.2.2.2)]
          clear h1 h2 h3 h4 hb2 hb3
          go_enter Tryd.func13, Tryd.ntmps13
          go_wp2
          go_ret
          exact ⟨rfl, HF.out _ _⟩
      · rw [decide_eq_false (fun h => h3 ((arr_eq _ _).1 h))] at q6
        simp only [Bool.not_false] at q6
        rw [HX.out (fun h => h3 h.2.2.1)]
        clear h1 h2 h3 hb2 hb3
        go_enter Tryd.func13, Tryd.ntmps13
        go_wp2
        go_ret
        exact ⟨rfl, HF.out _ _⟩
    · have hn2 : (a.Seq != b.Seq) = true := by simp [h2]
      rw [HX.out (fun h => h2 h.2.1)]
      clear h1 h2 q6 hb2 hb3
      go_enter Tryd.func13, Tryd.ntmps13
      go_wp2
      go_ret
      exact ⟨rfl, HF.out _ _⟩
  · have hn1 : (a.Kind != b.Kind) = true := by simp [h1]
    rw [HX.out (fun h => h1 h.1)]
    clear h1 q6 hb2 hb3
    go_enter Tryd.func13, Tryd.ntmps13
    go_wp2
    go_ret
    exact ⟨rfl, HF.out _ _⟩
end Go.Proofs.YtcbhddajkleleaaDoor.Msg
