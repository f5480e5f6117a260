import Derived.Test.YtcbhddajkleleaaDoorMsgS
/-! Contract of msg.Same. -/
set_option linter.unusedVariables false
set_option linter.unusedSimpArgs false
namespace Go.Proofs.YtcbhddajkleleaaDoor.Msg
open Go.RowKit Go.Proofs.YtcbhddajkleleaaDoorW.PrintWords Go.Proofs.YtcbhddajkleleaaDoor.B Go.Proofs.YtcbhddajkleleaaDoor.Codec

theorem arr_eq (a b : Arr6) : ([a.r0, a.r1, a.r2, a.r3, a.r4, a.r5] = [b.r0, b.r1, b.r2, b.r3, b.r4, b.r5]) ↔ a = b := by
  constructor
  · intro h
    obtain ⟨a0, a1, a2, a3, a4, a5⟩ := a
    obtain ⟨b0, b1, b2, b3, b4, b5⟩ := b
    simp at h
    simp [h]
  · intro h; subst h; rfl
noncomputable def sameB (a b : Msg) : Bool := @decide (a = b) (Classical.propDecidable _)
theorem sameB_true {a b : Msg} : sameB a b = true ↔ a = b := by unfold sameB; simp
theorem sameB_false {a b : Msg} : sameB a b = false ↔ a ≠ b := by unfold sameB; simp
theorem msg_ext {a b : Msg} (h1 : a.Kind = b.Kind) (h2 : a.Seq = b.Seq) (h3 : a.A = b.A) (h4 : a.L = b.L) : a = b := by
  obtain ⟨k, s, A, L⟩ := a
  obtain ⟨k', s', A', L'⟩ := b
  simp at h1 h2 h3 h4
  simp [h1, h2, h3, h4]
theorem sameB_comm (a b : Msg) : sameB a b = sameB b a := by
  by_cases h : a = b
  · subst h; rfl
  · rw [sameB_false.2 h, sameB_false.2 (fun e => h e.symm)]
set_option maxRecDepth 100000 in
set_option maxHeartbeats 2000000 in
theorem same_c (a b : Msg) (A B : Option Addr) (ca cb : Nat) (w : World) (hA : kRow.C w A a.L.length a.L) (hB : kRow.C w B b.L.length b.L) (hx : a.L.length ≤ 1000000) (hy : b.L.length ≤ 1000000) :
    Calls Tryd.prog 12 #[msgV a A ca, msgV b B cb] w fun e w' => e = .returned (.bool (sameB a b)) ∧ Fr no w w' := by
  have HEQ := Lib.hid (fun (W : World) (h : Fr no w W) => equal_r A B ca cb a.L b.L W (C_fr hA h) (C_fr hB h) hx hy)
  have hfr := fun o1 o2 => ((Fr.refl no w).alloc o1).alloc o2
  have HF := Lib.hid hfr
  have HT : Hid (a.Kind = b.Kind → a.Seq = b.Seq → a.A = b.A → sameB a b = eqRows a.L b.L) := fun h1 h2 h3 => by
    by_cases h4 : a.L = b.L
    · rw [eqRows_true.2 h4, sameB_true.2 (msg_ext h1 h2 h3 h4)]
    · rw [eqRows_false.2 h4, sameB_false.2 (fun e => h4 (by rw [e]))]
  have HX : Hid (¬ (a.Kind = b.Kind ∧ a.Seq = b.Seq ∧ a.A = b.A) → sameB a b = false) := fun h => sameB_false.2 (fun e => h (by subst e; exact ⟨rfl, rfl, rfl⟩))
  clear hA hB hfr
  have q6 := fun W => eql6 a.A.r0 a.A.r1 a.A.r2 a.A.r3 a.A.r4 a.A.r5 b.A.r0 b.A.r1 b.A.r2 b.A.r3 b.A.r4 b.A.r5 W
  unfold msgV
  by_cases h1 : a.Kind = b.Kind
  · have hb1 : (a.Kind == b.Kind) = true := by simp [h1]
    by_cases h2 : a.Seq = b.Seq
    · have hb2 : (a.Seq == b.Seq) = true := by simp [h2]
      by_cases h3 : a.A = b.A
      · rw [decide_eq_true ((arr_eq _ _).2 h3)] at q6
        have HS := Lib.hid (HT.out h1 h2 h3)
        rw [HS.out]
        have hl1 := blk_cell (blk_new w (.cells #[.int .i64 a.Kind, .int .i64 a.Seq, .int .i64 a.A.r0, .int .i64 a.A.r1, .int .i64 a.A.r2, .int .i64 a.A.r3, .int .i64 a.A.r4, .int .i64 a.A.r5, .slice A a.L.length ca] 29))
        clear h1 h2 h3 HS hl1
        go_enter Tryd.func12, Tryd.ntmps12
        go_wp2_with fail
        refine (HEQ.out _ (HF.out _ _)).mono ?_
        rintro e w1 ⟨rfl, hf1⟩
        dsimp only
        go_wp2
        go_ret
        exact ⟨rfl, (HF.out _ _).trans' hf1⟩
      · rw [decide_eq_false (fun h => h3 ((arr_eq _ _).1 h))] at q6
        rw [HX.out (fun h => h3 h.2.2)]
        clear h1 h2 h3
        go_enter Tryd.func12, Tryd.ntmps12
        go_wp2
        go_ret
        exact ⟨rfl, HF.out _ _⟩
    · have hb2 : (a.Seq == b.Seq) = false := by simp [h2]
      rw [HX.out (fun h => h2 h.2.1)]
      clear h1 h2 q6
      go_enter Tryd.func12, Tryd.ntmps12
      go_wp2
      go_ret
      exact ⟨rfl, HF.out _ _⟩
  · have hb1 : (a.Kind == b.Kind) = false := by simp [h1]
    rw [HX.out (fun h => h1 h.1)]
    clear h1 q6
    go_enter Tryd.func12, Tryd.ntmps12
    go_wp2
    go_ret
    exact ⟨rfl, HF.out _ _⟩
end Go.Proofs.YtcbhddajkleleaaDoor.Msg
