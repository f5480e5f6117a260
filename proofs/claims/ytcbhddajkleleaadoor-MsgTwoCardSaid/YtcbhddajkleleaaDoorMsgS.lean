import Derived.Test.YtcbhddajkleleaaDoorMsgQ
import Derived.Test.YtcbhddajkleleaaDoorMsgE
/-! Contracts of msg.Same and slices.Equal at rows. -/
set_option linter.unusedVariables false
set_option linter.unusedSimpArgs false
namespace Go.Proofs.YtcbhddajkleleaaDoor.Msg
open Go.RowKit Go.Proofs.YtcbhddajkleleaaDoorW.PrintWords Go.Proofs.YtcbhddajkleleaaDoor.B Go.Proofs.YtcbhddajkleleaaDoor.Codec

theorem rowL_eq (a b : Row) : ([a.r0, a.r1, a.r2, a.r3, a.r4] = [b.r0, b.r1, b.r2, b.r3, b.r4]) ↔ a = b := by
  constructor
  · intro h
    obtain ⟨a0, a1, a2, a3, a4⟩ := a
    obtain ⟨b0, b1, b2, b3, b4⟩ := b
    simp at h
    simp [h]
  · intro h; subst h; rfl
noncomputable def eqRows (xs ys : List Row) : Bool := @decide (xs = ys) (Classical.propDecidable _)
theorem eqRows_true {xs ys : List Row} : eqRows xs ys = true ↔ xs = ys := by unfold eqRows; simp
theorem eqRows_false {xs ys : List Row} : eqRows xs ys = false ↔ xs ≠ ys := by unfold eqRows; simp
set_option maxRecDepth 100000 in
set_option maxHeartbeats 2000000 in
theorem equal_r (A B : Option Addr) (ca cb : Nat) (xs ys : List Row) (w : World) (hA : kRow.C w A xs.length xs) (hB : kRow.C w B ys.length ys) (hx : xs.length ≤ 1000000) (hy : ys.length ≤ 1000000) :
    Calls Tryd.prog 20 #[.slice A xs.length ca, .slice B ys.length cb] w fun e w' => e = .returned (.bool (eqRows xs ys)) ∧ Fr no w w' := by
  by_cases hl : xs.length = ys.length
  · have hne : ((xs.length : Int) != (ys.length : Int)) = false := by simp [hl]
    have HL := Lib.hid hl
    have hneq := neq5
    clear hl
    go_enter Tryd.func20, Tryd.ntmps20
    go_wp2
    go_loopg [13] xs.length (fun q v13 wr => ∃ k : Nat, k + q = xs.length ∧ v13 = .int .i64 k ∧ Hid (xs.take k = ys.take k) ∧ Fr no w wr)
    case atStart => exact ⟨0, by omega, rfl, by simp [Hid], Fr.refl _ _⟩
    case round =>
      obtain ⟨k, hk, rfl, HE, hf⟩ := hrel
      by_cases hlt : k < xs.length
      · have hlt2 : k < ys.length := by have := HL.out; omega
        obtain ⟨ad, rfl, c0, c1, c2, c3, c4⟩ := at_Row (C_fr hA hf) (k : Int) (by omega) (by omega)
        obtain ⟨bd, rfl, d0, d1, d2, d3, d4⟩ := at_Row (C_fr hB hf) (k : Int) (by omega) (by omega)
        have hra : rd_Row xs (k : Int) = xs[k] := by simp [rd_Row, hlt]
        have hrb : rd_Row ys (k : Int) = ys[k] := by simp [rd_Row, hlt2]
        rw [Int.toNat_natCast, hra] at c0 c1 c2 c3 c4
        rw [Int.toNat_natCast, hrb] at d0 d1 d2 d3 d4
        obtain ⟨a, ha⟩ : ∃ x, xs[k] = x := ⟨_, rfl⟩
        obtain ⟨b, hb⟩ : ∃ x, ys[k] = x := ⟨_, rfl⟩
        rw [ha] at c0 c1 c2 c3 c4
        rw [hb] at d0 d1 d2 d3 d4
        have HA := Lib.hid ha
        have HB := Lib.hid hb
        have hk0 : (0 : Int) ≤ (k : Int) := by omega
        have hk1 : (k : Int) < (xs.length : Int) := by omega
        have hk2 : (k : Int) < (ys.length : Int) := by omega
        clear hra hrb ha hb
        by_cases hab : a = b
        · have hd : decide ([a.r0, a.r1, a.r2, a.r3, a.r4] = [b.r0, b.r1, b.r2, b.r3, b.r4]) = true := by simp [hab]
          have HN : Hid (xs.take (k + 1) = ys.take (k + 1)) := by
            show xs.take (k + 1) = ys.take (k + 1)
            rw [List.take_succ_eq_append_getElem hlt, List.take_succ_eq_append_getElem hlt2, HE.out, HA.out, HB.out, hab]
          have HD := Lib.hid hd
          clear hab hd
          obtain ⟨d, hd⟩ : ∃ x, decide ([a.r0, a.r1, a.r2, a.r3, a.r4] = [b.r0, b.r1, b.r2, b.r3, b.r4]) = x := ⟨_, rfl⟩
          have hneq2 := fun W => hneq a.r0 a.r1 a.r2 a.r3 a.r4 b.r0 b.r1 b.r2 b.r3 b.r4 W
          rw [HD.out] at hneq2
          clear hd HD hneq
          simp only [Bool.not_true] at hneq2
          go_wp2
          go_quiet (fail)
          go_wp2
          go_roundg (xs.length - (k + 1))
          case measure => omega
          case rel => exact ⟨k + 1, by omega, by go_num, HN, hf.drewN _⟩
        · have hd : decide ([a.r0, a.r1, a.r2, a.r3, a.r4] = [b.r0, b.r1, b.r2, b.r3, b.r4]) = false := by
            rw [decide_eq_false_iff_not, rowL_eq]
            exact hab
          have HN : Hid (eqRows xs ys = false) := by
            show eqRows xs ys = false
            rw [eqRows_false]
            intro he
            subst he
            exact hab (HA.out.symm.trans HB.out)
          have hneq2 := fun W => hneq a.r0 a.r1 a.r2 a.r3 a.r4 b.r0 b.r1 b.r2 b.r3 b.r4 W
          rw [hd] at hneq2
          clear hab hd hneq
          simp only [Bool.not_false] at hneq2
          go_wp2
          go_quiet (fail)
          go_wp2
          go_ret
          exact ⟨by simp [HN.out], hf.drewN _⟩
      · have HN : Hid (eqRows xs ys = true) := by
          show eqRows xs ys = true
          rw [eqRows_true]
          have h1 := HE.out
          rw [List.take_of_length_le (by omega), List.take_of_length_le (by have := HL.out; omega)] at h1
          exact h1
        go_wp2
        go_ret
        exact ⟨by simp [HN.out], hf⟩
  · have hne : ((xs.length : Int) != (ys.length : Int)) = true := by simp; omega
    have HN : Hid (eqRows xs ys = false) := by
      show eqRows xs ys = false
      rw [eqRows_false]
      exact fun he => hl (by rw [he])
    rw [HN.out]
    clear hl
    go_enter Tryd.func20, Tryd.ntmps20
    go_wp2
    go_ret
    exact ⟨rfl, Fr.refl _ _⟩
end Go.Proofs.YtcbhddajkleleaaDoor.Msg
