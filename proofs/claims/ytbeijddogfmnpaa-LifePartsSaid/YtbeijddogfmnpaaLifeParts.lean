import Derived.Test.YtbeijddogfmnpaaLifeC
import Derived.OpenShut
/-! LifeParts: an order filled and cancelled in parts is just as full as it was entered. -/
set_option linter.unusedVariables false
set_option linter.unusedSimpArgs false
namespace Go.Proofs.Ytbeijddogfmnpaa.Life
open Go.RowKit Go.Proofs.YtbeijddogfmnpaaW.PrintWords Go.Proofs.Ytbeijddogfmnpaa.B

def psum : List Int → Int
  | [] => 0
  | x :: r => 1 + x + psum r
theorem psum_bd : ∀ (l : List Int), (∀ x ∈ l, 0 ≤ x ∧ x ≤ 255) → (l.length : Int) ≤ psum l ∧ psum l ≤ 256 * l.length
  | [], _ => by simp [psum]
  | x :: r, h => by
    have h1 := psum_bd r (fun y hy => h y (List.mem_cons_of_mem _ hy))
    have h2 := h x List.mem_cons_self
    simp only [psum, List.length_cons]
    omega
theorem psum_step (l : List Int) (k : Nat) (h : k < l.length) : psum (l.drop k) = 1 + l[k] + psum (l.drop (k + 1)) := by
  rw [List.drop_eq_getElem_cons h]; rfl
theorem psum_drop (l : List Int) (hl : ∀ x ∈ l, 0 ≤ x ∧ x ≤ 255) (k : Nat) : 0 ≤ psum (l.drop k) ∧ psum (l.drop k) ≤ 256 * l.length := by
  have h := psum_bd (l.drop k) (fun x hx => hl x (List.mem_of_mem_drop hx))
  have h2 : (l.drop k).length = l.length - k := List.length_drop
  omega

/-- Byte k of what came in. -/
theorem u8_at {w w1 : World} {A : Option Addr} {xs : List Int} (hC : (Kd.int .u8).C w A xs.length xs) (hf : Fr no w w1) (k : Nat) (h : k < xs.length) : ∃ ad, A = some ad ∧ w1.cell? (ad.add k) = some (.int .u8 xs[k]) := by
  obtain ⟨ad, h1, h2⟩ := Kd.at_int (C_fr hC hf) (k : Int) (by omega) (by omega)
  refine ⟨ad, h1, ?_⟩
  rw [Int.toNat_natCast] at h2
  rw [h2]
  simp [rd, h]

set_option maxRecDepth 100000 in
set_option maxHeartbeats 2000000 in
theorem parts_c (w : World) (A : Option Addr) (cap : Nat) (xs : List Int) (hC : (Kd.int .u8).C w A xs.length xs) (hx : ∀ x ∈ xs, 0 ≤ x ∧ x ≤ 255) :
    Calls Try.prog 10 #[.slice A xs.length cap] w fun e w' => e = .returned (.bool true) ∧ Fr no w w' := by
  have hm := Kd.C_max hC
  have HX := Lib.hid hx
  clear hx
  by_cases h0 : xs.length = 0
  · have h0' : ((xs.length : Int) == 0) = true := by simp [h0]
    have H0 := Lib.hid h0
    clear h0
    go_enter Try.func10, Try.ntmps10
    go_wp2_with (go_at_call 33; refine (known_c _).mono ?_; rintro e w1 ⟨rfl, hf⟩)
    go_ret
    exact ⟨rfl, hf⟩
  have h0' : ((xs.length : Int) == 0) = false := by simpa using h0
  by_cases h1 : 60 < xs.length
  · go_enter Try.func10, Try.ntmps10
    go_wp2_with (go_at_call 33; refine (known_c _).mono ?_; rintro e w1 ⟨rfl, hf⟩)
    go_ret
    exact ⟨rfl, hf⟩
  have hbd := psum_bd xs HX.out
  go_enter Try.func10, Try.ntmps10
  go_wp2_with (go_at_call 33; refine (known_c _).mono ?_; rintro e w1 ⟨rfl, hf⟩)
  go_loopg [3, 4] xs.length (fun q s i wr => ∃ (k : Nat) (a : Int), k + q = xs.length ∧ i = .int .i64 k ∧ s = .int .i64 a ∧ 0 ≤ a ∧ a ≤ 256 * k ∧ Hid (a + psum (xs.drop k) = psum xs) ∧ w1 = wr)
  case atStart => exact ⟨0, 0, by omega, rfl, rfl, by omega, by omega, by simp [Hid], rfl⟩
  case round =>
    obtain ⟨k, a, hk, rfl, rfl, ha0, ha1, hs, rfl⟩ := hrel
    by_cases hlt : k < xs.length
    · obtain ⟨ad, rfl, hc⟩ := u8_at hC hf k hlt
      obtain ⟨b0, b1⟩ := HX.out xs[k] (List.getElem_mem hlt)
      have hs2 := hs.out
      rw [psum_step xs k hlt] at hs2
      clear hs
      generalize xs[k] = b at *
      replace hs2 : Hid (a + 1 + b + psum (xs.drop (k + 1)) = psum xs) := by show _ = _; omega
      go_wp2
      go_roundg (xs.length - (k + 1))
      case measure => omega
      case rel => exact ⟨k + 1, a + 1 + b, by omega, by go_num, rfl, by omega, by omega, hs2, rfl⟩
    · obtain rfl : k = xs.length := by omega
      have ha : a = psum xs := by have := hs.out; simpa [psum] using this
      subst ha
      clear hs ha0 ha1
      go_wp2_with fail
      refine (new_c _).mono ?_
      rintro e w2 ⟨rfl, hL, hf2⟩
      replace hL := hL.mono (ext_since (w := w) no_since hf.size)
      replace hf2 := hf.trans' hf2
      have hBs : since w w1.heap.size := hf.size
      generalize w1.heap.size = B at *
      clear hf
      go_wp2_with fail
      refine (enter_yes _ 1 1 1 (psum xs) _ _ [] hL (by omega) (by omega) (by simp)).mono ?_
      rintro e w3 ⟨rfl, hL3, hf3⟩
      replace hL : Led w3 (since w) B [⟨psum xs, 0, 0, psum xs, 1, 1, 1⟩] := hL3.mono (ext_since' hf2.size)
      replace hf := hf2.new' hf3
      clear hL3 hf3 hf2
      go_wp2
      go_loopg [8, 9] xs.length (fun q s i wr => ∃ (k : Nat) (f c : Int), k + q = xs.length ∧ i = .int .i64 k ∧ s = .int .i64 f ∧ 0 ≤ f ∧ 0 ≤ c ∧ Hid (f + c + psum (xs.drop k) = psum xs) ∧ Led wr (since w) B [⟨psum xs, f, c, psum (xs.drop k), 1, 1, 1⟩] ∧ Fr no w wr)
      case atStart => exact ⟨0, 0, 0, by omega, rfl, rfl, by omega, by omega, by simp [Hid], by simpa using hL, hf⟩
      case round =>
        clear hL hf
        obtain ⟨k, f, c, hk, rfl, rfl, hf0, hc0, hs, hL, hf⟩ := hrel
        have hbd2 := psum_drop xs HX.out k
        by_cases hlt : k < xs.length
        · obtain ⟨ad, rfl, hc⟩ := u8_at hC hf k hlt
          obtain ⟨b0, b1⟩ := HX.out xs[k] (List.getElem_mem hlt)
          have hbd3 := psum_drop xs HX.out (k + 1)
          have hs2 := hs.out
          have hp := psum_step xs k hlt
          generalize xs[k] = b at *
          generalize hq : psum (xs.drop (k + 1)) = p at *
          rw [hp] at hs2 hL hbd2
          clear hs hp
          have hsum : f + c + 1 + b + p ≤ 15360 := by omega
          replace hs2 := Lib.hid hs2
          have HQ := Lib.hid hq
          clear hq
          by_cases h3 : (k : Int) % 3 = 2
          · have h3' : ((k : Int) % 3 == 2) = true := by simp [h3]
            clear h3
            go_wp2_with fail
            refine (cancel_yes _ 1 (1 + b) _ _ _ hL 0 (by simp) rfl (by simp) _ rfl (by omega) (by simp; omega) (by simp; omega) (by simp; omega) (by simp; omega)).mono ?_
            rintro e w4 ⟨rfl, hL4, hf4⟩
            replace hf4 := hf.new' hf4
            go_wp2
            go_roundg (xs.length - (k + 1))
            case measure => omega
            case rel => exact ⟨k + 1, f, c + (1 + b), by omega, by go_num, rfl, by omega, by omega, by have := hs2.out; have := HQ.out; show _ = _; omega, by rw [HQ.out]; simpa [show 1 + b + p - (1 + b) = p by omega] using hL4, hf4⟩
          · have h3' : ((k : Int) % 3 == 2) = false := by simp [h3]
            clear h3
            go_wp2_with fail
            refine (fill_yes _ 1 (1 + b) _ _ _ hL 0 (by simp) rfl (by simp) _ rfl (by omega) (by simp; omega) (by simp; omega) (by simp; omega) (by simp; omega)).mono ?_
            rintro e w4 ⟨rfl, hL4, hf4⟩
            replace hf4 := hf.new' hf4
            go_wp2
            go_roundg (xs.length - (k + 1))
            case measure => omega
            case rel => exact ⟨k + 1, f + (1 + b), c, by omega, by go_num, rfl, by omega, by omega, by have := hs2.out; have := HQ.out; show _ = _; omega, by rw [HQ.out]; simpa [show 1 + b + p - (1 + b) = p by omega] using hL4, hf4⟩
        · obtain rfl : k = xs.length := by omega
          have hs2 : f + c = psum xs := by have := hs.out; simpa [psum] using this
          replace hL : Led wr (since w) B [⟨f + c, f, c, 0, 1, 1, 1⟩] := by rw [hs2]; simpa [psum] using hL
          rw [← hs2]
          rw [← hs2] at hbd
          have hfc : f + c ≤ 15360 := by omega
          clear hs hs2 hbd2 HX
          go_wp2_with fail
          refine (get_yes _ 1 _ _ _ hL 0 (by simp) rfl (by simp) ⟨f + c, f, c, 0, 1, 1, 1⟩ rfl).mono ?_
          rintro e w4 ⟨rfl, hf4⟩
          replace hL := hL.fr hf4 (fun _ _ h => h)
          replace hf := hf.trans' hf4
          clear hf4
          have o1 := (Fr.refl no w4).alloc (.cells #[.int .i64 (f + c), .int .i64 f, .int .i64 c, .int .i64 0, .int .i64 1, .int .i64 1, .int .i64 1] 76)
          replace hL := hL.fr o1 (fun _ _ h => h)
          replace hf := hf.trans' o1
          clear o1
          have q1 : (c == f + c - f) = true := by simp; omega
          unfold Entry.val
          go_wp2_with fail
          refine (fill_qty _ 1 1 _ _ _ hL 0 (by simp) rfl (by simp) (by simp)).mono ?_
          rintro e w5 ⟨rfl, rfl⟩
          go_wp2_with fail
          refine (cancel_qty _ 1 1 _ _ _ hL 0 (by simp) rfl (by simp) (by simp)).mono ?_
          rintro e w5 ⟨rfl, rfl⟩
          go_wp2_with fail
          refine (fair_c _ _ _ _ hL (by simp) (by simp [Fair]; omega)).mono ?_
          rintro e w5 ⟨rfl, hf4⟩
          replace hL := hL.fr hf4 (fun _ _ h => h)
          replace hf := hf.trans' hf4
          clear hf4
          go_wp2_with fail
          refine (sum_c _ 1 1 _ _ _ hL (by simp) (by simp; omega)).mono ?_
          rintro e w6 ⟨rfl, hf4⟩
          replace hf := hf.trans' hf4
          have e1 : sumF 1 1 [⟨f + c, f, c, 0, 1, 1, 1⟩] = f := by simp [sumF]
          rw [e1]
          clear hf4 e1
          go_wp2
          go_ret
          exact ⟨rfl, hf⟩

theorem parts_row (w : World) (A : Option Addr) (cap : Nat) (xs : List Int) (hC : (Kd.int .u8).C w A xs.length xs) (_ : xs.length ≤ cap) (hw : ∀ x ∈ xs, (Lit.int .u8 x).wf = true) :
    Calls Try.prog 10 #[.slice A xs.length cap] w fun e w' => e = .returned (.bool true) ∧ Fr no w w' := parts_c w A cap xs hC (fun x hx => Go.bounds_u8 (hw x hx))
end Go.Proofs.Ytbeijddogfmnpaa.Life
