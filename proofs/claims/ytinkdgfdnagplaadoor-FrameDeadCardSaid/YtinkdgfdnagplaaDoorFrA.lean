import Derived.Test.YtinkdgfdnagplaaDoorFrD
/-! New, Held, Err of a stream that is well, All. -/
set_option linter.unusedVariables false
set_option linter.unusedSimpArgs false
namespace Go.Proofs.YtinkdgfdnagplaaDoor.Frame
open Go.RowKit Go.Proofs.YtinkdgfdnagplaaDoorW.PrintWords Go.Proofs.YtinkdgfdnagplaaDoor.B Go.Proofs.YtinkdgfdnagplaaDoor.Crc Go.Proofs.YtinkdgfdnagplaaDoor.Err

theorem new_c (w : World) : Calls Tryd.prog 10 #[] w fun e w' => e = .returned (.pointer (some ⟨w.heap.size, 0, none⟩)) ∧ St w' w.heap.size [] 0 ∧ Fr no w w' := by
  go_enter Tryd.func10, Tryd.ntmps10
  go_wp2
  go_ret
  exact ⟨rfl, ⟨_, blk_new _ _, Kd.R_nil _ _ _ _ _⟩, (Fr.refl no w).alloc _⟩
theorem held_c (S : Nat) (h : List Int) (n : Int) (w : World) (hs : St w S h n) :
    Calls Tryd.prog 13 #[.pointer (some ⟨S, 0, none⟩)] w fun e w' => e = .returned (.int .i64 h.length) ∧ w = w' := by
  obtain ⟨v, h1, h2⟩ := hs
  obtain ⟨A, c, rfl⟩ := Kd.R_slice h2
  have k0 := blk_cell h1 0
  clear h1 h2
  go_enter Tryd.func13, Tryd.ntmps13
  go_wp2
  go_ret
  exact ⟨rfl, rfl⟩
theorem again_nil (w : World) : Calls Tryd.prog 26 #[.nilIface] w fun e w' => e = .returned .nilIface ∧ Fr no w w' := by
  go_enter Tryd.func26, Tryd.ntmps26
  go_wp2_with fail
  refine (as_nil _ _).mono ?_
  rintro e w1 ⟨rfl, rfl⟩
  dsimp only
  go_wp2
  go_ret
  exact ⟨rfl, (Fr.refl no w).alloc _⟩
theorem err_c (S : Nat) (h : List Int) (n : Int) (w : World) (hs : St w S h n) :
    Calls Tryd.prog 15 #[.pointer (some ⟨S, 0, none⟩)] w fun e w' => e = .returned .nilIface ∧ Fr no w w' := by
  obtain ⟨v, h1, h2⟩ := hs
  have k2 := blk_cell h1 2
  clear h1 h2
  go_enter Tryd.func15, Tryd.ntmps15
  go_wp2_with fail
  refine (again_nil w).mono ?_
  rintro e w1 ⟨rfl, hf⟩
  dsimp only
  go_wp2
  go_ret
  exact ⟨rfl, hf⟩
set_option maxRecDepth 100000 in
set_option maxHeartbeats 4000000 in
theorem all_c (A : Option Addr) (c : Nat) (x : List Int) (bs : List (List Int)) (w : World) (hx : (Kd.int .u8).C w A x.length x) (hc : x.length ≤ c) (hB : Bytes [x]) (hpos : 0 < x.length) (hz : Pz x bs []) :
    Calls Tryd.prog 16 #[.slice A x.length c] w fun e w' => (∃ A', e = .returned (.tuple #[.slice A' bs.length bs.length, .nilIface]) ∧ ReadsRow (kD.M w' 0 (since w)) 1 w' A' bs.length bs) ∧ Fr no w w' := by
  have HX := Lib.hid hx
  have HZ := Lib.hid hz
  have HBB : Hid (Bytes [[], x]) := fun p hp => by
    simp only [List.mem_cons, List.not_mem_nil, or_false] at hp
    rcases hp with rfl | rfl
    · exact ⟨by simp, fun y hy => by simp at hy⟩
    · exact hB _ (by simp)
  have hlen := hz.len
  have hxl := (hB x (by simp)).1
  clear hx hz hB
  go_enter Tryd.func16, Tryd.ntmps16
  go_wp2_with fail
  refine (new_c w).mono ?_
  rintro e w1 ⟨rfl, hst, hf1⟩
  have hS0 : w.heap.size < w1.heap.size := by obtain ⟨v, h1, _⟩ := hst; exact blk_lt h1
  obtain ⟨S, hS⟩ : ∃ S, w.heap.size = S := ⟨_, rfl⟩
  rw [hS] at hst
  have HST := Lib.hid hst
  have HF1 := Lib.hid hf1
  have HS := Lib.hid hS
  rw [hS]
  clear hst hf1 hS hS0
  dsimp only
  go_wp2_with fail
  refine (feed_yes S [] x bs [] 0 A c w1 HST.out (C_fr HX.out HF1.out) hc HBB.out (by simpa using hpos) HZ.out (by decide) (by decide)).mono ?_
  rintro e w2 ⟨⟨A', rfl, hr, _⟩, hst2, hf2⟩
  have HF2 : Hid (Fr no w w2) := HF1.out.new hf2 (fun k hk => by subst hk; unfold since; rw [HS.out]; exact Nat.le_refl _)
  have HR := Lib.hid (hr.imp_ (Below.refl _ _) (fun _ _ hp => kD.M_mono (fun k hk => Nat.le_trans HF1.out.size hk : ∀ k, since w1 k → since w k) hp))
  have HST2 := Lib.hid hst2
  clear hr hst2 hf2 HST
  dsimp only
  go_wp2_with fail
  refine (held_c S [] _ w2 HST2.out).mono ?_
  rintro e w3 ⟨rfl, rfl⟩
  dsimp only
  go_wp2
  go_ret2
  exact ⟨⟨A', rfl, HR.out⟩, HF2.out⟩
end Go.Proofs.YtinkdgfdnagplaaDoor.Frame
