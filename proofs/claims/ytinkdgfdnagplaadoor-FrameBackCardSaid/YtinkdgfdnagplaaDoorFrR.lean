import Derived.Test.YtinkdgfdnagplaaDoorFrS
import Derived.Test.YtinkdgfdnagplaaDoorFrK
/-! The reference's Wrap. -/
set_option linter.unusedVariables false
set_option linter.unusedSimpArgs false
namespace Go.Proofs.YtinkdgfdnagplaaDoor.Frame
open Go.RowKit Go.Proofs.YtinkdgfdnagplaaDoorW.PrintWords Go.Proofs.YtinkdgfdnagplaaDoor.B Go.Proofs.YtinkdgfdnagplaaDoor.Crc Go.Proofs.YtinkdgfdnagplaaDoor.Err

set_option maxRecDepth 100000 in
set_option maxHeartbeats 4000000 in
theorem rwrap_no (A : Option Addr) (n cap : Nat) (hn : 1024 < n) (w : World) :
    Calls Tryd.prog 8 #[.slice A n cap] w fun e w' => (∃ G, e = .returned (.tuple #[.slice none 0 0, wrongV G 4]) ∧ PartAt w' G frW 0) ∧ Fr no w w' := by
  have d1 : decide ((1024 : Int) < (n : Int)) = true := by simp; omega
  have hX := blk_new w (.cells #[.slice none 0 0, .int .i64 0] 31)
  have hfa := (Fr.refl no w).alloc (.cells #[.slice none 0 0, .int .i64 0] 31)
  go_enter Tryd.func8, Tryd.ntmps8
  go_wp2_with fail
  generalize w.alloc _ = w0 at *
  generalize hw : w.heap.size = X at *
  refine (at_c frW 0 4 w0).mono ?_
  rintro e w1 ⟨⟨G, rfl, hG1, hG⟩, hf⟩
  have hX1 := hf.heap hX (fun h => h)
  have k0 := blk_cell hX1 0
  have k1 := blk_cell hX1 1
  have k2 := blk_frozen hX1 0
  have k3 := blk_frozen hX1 1
  have hlt : X < w0.heap.size := blk_lt hX
  unfold wrongV
  dsimp only
  go_wp2
  have hX2 := blk_put (blk_put hX1 0 (.slice (some ⟨G, 0, none⟩) 1 1) rfl) 1 (.int .i64 4) rfl
  have hf2 : Fr no w ((w1.setCell ⟨X, 0, none⟩ (.slice (some ⟨G, 0, none⟩) 1 1)).setCell ⟨X, 1, none⟩ (.int .i64 4)) := by
    have h1 : Fr (since w) w1 ((w1.setCell ⟨X, 0, none⟩ (.slice (some ⟨G, 0, none⟩) 1 1)).setCell ⟨X, 1, none⟩ (.int .i64 4)) :=
      Fr.set (p := ⟨X, 1, none⟩) (Fr.set (p := ⟨X, 0, none⟩) (Fr.refl (since w) w1) (fun _ => by unfold since; rw [hw]; exact Nat.le_refl _) _) (fun _ => by unfold since; rw [hw]; exact Nat.le_refl _) _
    exact (hfa.trans' hf).new' h1
  have hGn : G ≠ X := by omega
  have hG2 : PartAt ((w1.setCell ⟨X, 0, none⟩ (.slice (some ⟨G, 0, none⟩) 1 1)).setCell ⟨X, 1, none⟩ (.int .i64 4)) G frW 0 := by
    have h1 : Fr (fun k => k = X) w1 ((w1.setCell ⟨X, 0, none⟩ (.slice (some ⟨G, 0, none⟩) 1 1)).setCell ⟨X, 1, none⟩ (.int .i64 4)) :=
      Fr.set (p := ⟨X, 1, none⟩) (Fr.set (p := ⟨X, 0, none⟩) (Fr.refl (fun k => k = X) w1) (fun _ => rfl) _) (fun _ => rfl) _
    exact ⟨h1.cell hG.1 (fun e => hGn e), h1.cell hG.2 (fun e => hGn e)⟩
  generalize (w1.setCell _ _).setCell _ _ = w2 at *
  have c0 : w2.cell? ⟨X, 0, none⟩ = some (.slice (some ⟨G, 0, none⟩) 1 1) := blk_cell hX2 0
  have c1 : w2.cell? ⟨X, 1, none⟩ = some (.int .i64 4) := blk_cell hX2 1
  clear k0 k1 k2 k3 hX1 hX2
  refine bodyPost_ret (v := .tuple #[.slice none 0 0, wrongV G 4]) (by simp [results, Tryd.results8, go_sem, wrongV, c0, c1]) rfl ⟨⟨G, rfl, hG2⟩, hf2⟩
set_option maxRecDepth 100000 in
set_option maxHeartbeats 4000000 in
theorem rwrap_yes (A : Option Addr) (cap : Nat) (b : List Int) (hb : Bytes [b]) (hn : b.length ≤ 1024) (w : World) (hC : (Kd.int .u8).C w A b.length b) :
    Calls Tryd.prog 8 #[.slice A b.length cap] w fun e w' => (∃ A' c, e = .returned (.tuple #[.slice A' (b.length + 6) c, .agg #[.slice none 0 0, .int .i64 0]]) ∧ (Kd.int .u8).R 5 w' 0 (since w) (.slice A' (b.length + 6) c) (fr b)) ∧ Fr no w w' := by
  have d1 : decide ((1024 : Int) < (b.length : Int)) = false := by simp; omega
  have hX := blk_new w (.cells #[.slice none 0 0, .int .i64 0] 31)
  have hfa := (Fr.refl no w).alloc (.cells #[.slice none 0 0, .int .i64 0] 31)
  have HB := Lib.hid hb
  have HC := Lib.hid hC
  clear hb hC
  go_enter Tryd.func8, Tryd.ntmps8
  go_wp2_with fail
  generalize hw0 : w.alloc _ = w0 at *
  have hsz0 : w0.heap.size = w.heap.size + 1 := by rw [← hw0]; simp
  have hE : (Kd.int .u8).R 5 (w0.alloc (.cells #[.int .u8 ((b.length : Int) % 256), .int .u8 ((b.length : Int) / 256)] 5)) 0 (since w0) (.slice (some ⟨w0.heap.size, 0, none⟩) 2 2) (hd2 b.length) := Kd.R_of_own (World.ownsRow_lit w0 #[.int .u8 ((b.length : Int) % 256), .int .u8 ((b.length : Int) / 256)] 2 (Nat.zero_le _) (by decide) rfl) (fun k hk => by simp [Value.ownBlock] at hk; subst hk; exact Nat.le_refl _)
  have hf1 := (Fr.refl no w0).alloc (.cells #[.int .u8 ((b.length : Int) % 256), .int .u8 ((b.length : Int) / 256)] 5)
  rw [hsz0] at hE
  generalize w0.alloc _ = w1 at *
  generalize hw : w.heap.size = X at *
  refine (rseal_c A cap b HB.out w1 (C_fr HC.out (hfa.trans' hf1))).mono ?_
  rintro e w2 ⟨⟨A2, c2, rfl, hR2⟩, hf2⟩
  have hC2 := (Kd.R_reads' hR2).2.2
  have hl2 : (b ++ le4 (addF 0 b)).length = b.length + 4 := by simp [le4]
  rw [hl2] at hC2
  have HO := Lib.hid (R_fr hE hf2 (fun _ _ h => h))
  have HC2 := Lib.hid hC2
  have H12 := Lib.hid (hf1.trans' hf2)
  have HX := Lib.hid hX
  have HFA := Lib.hid hfa
  clear hR2 hC2 hE hf1 hf2 hX hfa hl2
  dsimp only
  have hX2 := H12.out.heap HX.out (fun h => h)
  have hXl : X < w0.heap.size := by omega
  go_wp2_with (at_builtin
               refine Kd.R_append_row (fun n : Int => Value.int .u8 n) (0 : Int) (w0 := w2) 0 rfl (.tmp 15) (.tmp 17) 24 5 (.int .u8 0) 1 rfl Tryd.underlying24 info8 rfl (by decide) _ (hd2 b.length) (b ++ le4 (addF 0 b)) A2 (b.length + 4) c2 (since w0) rfl rfl (fun k hk => Nat.le_trans H12.out.size hk) HO.out HC2.out (Below.refl 0 _) (Nat.zero_le _) (by simp [hd2]; omega) ?_
               intro v1 w5 ho hb1 hg hat
               replace ho : (Kd.int .u8).R 5 w5 0 (since w0) v1 (fr b) := ho
               have hf5 : Fr no w0 w5 := H12.out.new' (Fr.of_grown hg (fun k hk _ => HO.out.1 k hk))
               obtain ⟨A5, c5, rfl⟩ := Kd.R_slice ho
               have hX5 := hf5.heap HX.out (fun h => h)
               have k0 := blk_cell hX5 0
               have k1 := blk_cell hX5 1
               have k2 := blk_frozen hX5 0
               have k3 := blk_frozen hX5 1
               have hlt : X < w5.heap.size := blk_lt hX5
               clear hat hb1 hg)
  have hX6 := blk_put (blk_put hX5 0 (.slice none 0 0) rfl) 1 (.int .i64 0) rfl
  have hw0X : ∀ k, since w0 k → since w k := fun k hk => by unfold since at *; omega
  have hf6 : Fr no w ((w5.setCell ⟨X, 0, none⟩ (.slice none 0 0)).setCell ⟨X, 1, none⟩ (.int .i64 0)) := by
    have h1 : Fr (since w) w5 ((w5.setCell ⟨X, 0, none⟩ (.slice none 0 0)).setCell ⟨X, 1, none⟩ (.int .i64 0)) :=
      Fr.set (p := ⟨X, 1, none⟩) (Fr.set (p := ⟨X, 0, none⟩) (Fr.refl (since w) w5) (fun _ => by unfold since; rw [hw]; exact Nat.le_refl _) _) (fun _ => by unfold since; rw [hw]; exact Nat.le_refl _) _
    exact (HFA.out.trans' hf5).new' h1
  have hR6 : (Kd.int .u8).R 5 ((w5.setCell ⟨X, 0, none⟩ (.slice none 0 0)).setCell ⟨X, 1, none⟩ (.int .i64 0)) 0 (since w) (.slice A5 (fr b).length c5) (fr b) := by
    have h1 : Fr (fun k => k = X) w5 ((w5.setCell ⟨X, 0, none⟩ (.slice none 0 0)).setCell ⟨X, 1, none⟩ (.int .i64 0)) :=
      Fr.set (p := ⟨X, 1, none⟩) (Fr.set (p := ⟨X, 0, none⟩) (Fr.refl (fun k => k = X) w5) (fun _ => rfl) _) (fun _ => rfl) _
    exact Kd.R_mono (R_fr ho h1 (fun k hk e => by unfold since at hk; omega)) hw0X
  rw [fr_len] at hR6
  have hl6 := fr_len b
  generalize (w5.setCell _ _).setCell _ _ = w6 at *
  have c0 : w6.cell? ⟨X, 0, none⟩ = some (.slice none 0 0) := blk_cell hX6 0
  have c1 : w6.cell? ⟨X, 1, none⟩ = some (.int .i64 0) := blk_cell hX6 1
  clear k0 k1 k2 k3 hX5 hX6 hX2 ho
  refine bodyPost_ret (v := .tuple #[.slice A5 (b.length + 6) c5, .agg #[.slice none 0 0, .int .i64 0]]) (by simp [results, Tryd.results8, go_sem, c0, c1, hl6]) rfl ⟨⟨A5, c5, rfl, hR6⟩, hf6⟩
end Go.Proofs.YtinkdgfdnagplaaDoor.Frame
