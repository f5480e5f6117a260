import Derived.Test.YtinkdgfdnagplaaDoorCrcD
import Derived.Test.YtinkdgfdnagplaaDoorErrTells
/-! frame.fault, frame.Wrap. -/
set_option linter.unusedVariables false
set_option linter.unusedSimpArgs false
namespace Go.Proofs.YtinkdgfdnagplaaDoor.Frame
open Go.RowKit Go.Proofs.YtinkdgfdnagplaaDoorW.PrintWords Go.Proofs.YtinkdgfdnagplaaDoor.B Go.Proofs.YtinkdgfdnagplaaDoor.Crc Go.Proofs.YtinkdgfdnagplaaDoor.Err

def frW : ByteArray := ⟨#[102, 114, 97, 109, 101]⟩
theorem fault_c (a code : Int) (w : World) : Calls Tryd.prog 17 #[.int .i64 a, .iface 47 (.int .i64 code)] w fun e w' => (∃ F, e = .returned (.iface 54 (.pointer (some ⟨F, 0, none⟩))) ∧ w.heap.size ≤ F ∧ FaultAt w' F frW a code) ∧ Fr no w w' := by
  go_enter Tryd.func17, Tryd.ntmps17
  go_wp2
  go_ret
  exact ⟨⟨_, rfl, Nat.le_refl _, blk_new _ _⟩, (Fr.refl no w).alloc _⟩
def hd2 (n : Nat) : List Int := [(n : Int) % 256, (n : Int) / 256]
/-- A body's frame. -/
def fr (b : List Int) : List Int := hd2 b.length ++ (b ++ le4 (addF 0 b))
theorem fr_len (b : List Int) : (fr b).length = b.length + 6 := by simp [fr, hd2, le4]
set_option maxRecDepth 100000 in
set_option maxHeartbeats 4000000 in
theorem wrap_no (A : Option Addr) (n cap : Nat) (hn : 1024 < n) (w : World) :
    Calls Tryd.prog 7 #[.slice A n cap] w fun e w' => (∃ F, e = .returned (.tuple #[.slice none 0 0, .iface 54 (.pointer (some ⟨F, 0, none⟩))]) ∧ FaultAt w' F frW 0 4) ∧ Fr no w w' := by
  have d1 : decide ((1024 : Int) < (n : Int)) = true := by simp; omega
  go_enter Tryd.func7, Tryd.ntmps7
  go_wp2_with fail
  refine (fault_c 0 4 w).mono ?_
  rintro e w1 ⟨⟨F, rfl, _, hF⟩, hf⟩
  dsimp only
  go_wp2
  go_ret2
  exact ⟨⟨F, rfl, hF⟩, hf⟩
set_option maxRecDepth 100000 in
set_option maxHeartbeats 4000000 in
theorem wrap_yes (A : Option Addr) (cap : Nat) (b : List Int) (hb : Bytes [b]) (hn : b.length ≤ 1024) (hcap : b.length ≤ cap) (w : World) (hC : (Kd.int .u8).C w A b.length b) :
    Calls Tryd.prog 7 #[.slice A b.length cap] w fun e w' => (∃ A' c, e = .returned (.tuple #[.slice A' (b.length + 6) c, .nilIface]) ∧ (Kd.int .u8).R 5 w' 0 (since w) (.slice A' (b.length + 6) c) (fr b)) ∧ Fr no w w' := by
  have d1 : decide ((1024 : Int) < (b.length : Int)) = false := by simp; omega
  have hfa := (Fr.refl no w).alloc (.cells #[.int .u8 ((b.length : Int) % 256), .int .u8 ((b.length : Int) / 256)] 5)
  have hX := blk_new w (.cells #[.int .u8 ((b.length : Int) % 256), .int .u8 ((b.length : Int) / 256)] 5)
  have HB := Lib.hid hb
  clear hb
  go_enter Tryd.func7, Tryd.ntmps7
  go_wp2_with fail
  generalize w.alloc _ = w1 at *
  generalize w.heap.size = X at *
  refine (seal_c A cap b HB.out hcap w1 (C_fr hC hfa)).mono ?_
  rintro e w2 ⟨⟨A2, c2, rfl, hR2⟩, hf2⟩
  have hC2 := (Kd.R_reads' hR2).2.2
  have hc2 := (Kd.R_reads' hR2).2.1
  have hl2 : (b ++ le4 (addF 0 b)).length = b.length + 4 := by simp [le4]
  have hX2 := hf2.heap hX (fun h => h)
  have hCh : (Kd.int .u8).C w2 (some ⟨X, 0, none⟩) (hd2 b.length).length (hd2 b.length) :=
    C_blk (d := Kd.int .u8) hX2 (hd2 b.length) (show 0 < 1 by decide) (show 2 ≤ 9223372036854775807 by decide) (((Reps.none _ _).snoc (p := (b.length : Int) % 256) (show (Kd.int .u8).K _ ((b.length : Int) % 256) [.int .u8 ((b.length : Int) % 256)] from rfl) rfl).snoc (p := (b.length : Int) / 256) (show (Kd.int .u8).K _ ((b.length : Int) / 256) [.int .u8 ((b.length : Int) / 256)] from rfl) rfl)
  have hX3 := blk_new w2 (.cells #[.slice (some ⟨X, 0, none⟩) 2 2, .slice A2 (b.length + 4) c2] 24)
  have hf3 := (Fr.refl no w2).alloc (.cells #[.slice (some ⟨X, 0, none⟩) 2 2, .slice A2 (b.length + 4) c2] 24)
  have hC3 : kB.C (w2.alloc (.cells #[.slice (some ⟨X, 0, none⟩) 2 2, .slice A2 (b.length + 4) c2] 24)) (some ⟨w2.heap.size, 0, none⟩) [hd2 b.length, b ++ le4 (addF 0 b)].length [hd2 b.length, b ++ le4 (addF 0 b)] :=
    C_blk (d := kB) hX3 [hd2 b.length, b ++ le4 (addF 0 b)] (show 0 < 1 by decide) (show 2 ≤ 9223372036854775807 by decide) (((Reps.none _ _).snoc (p := hd2 b.length) (show kB.K _ (hd2 b.length) [.slice (some ⟨X, 0, none⟩) 2 2] from ⟨_, 2, rfl, by simp [hd2], C_fr hCh hf3⟩) rfl).snoc (p := b ++ le4 (addF 0 b)) (show kB.K _ (b ++ le4 (addF 0 b)) [.slice A2 (b.length + 4) c2] from ⟨A2, c2, by rw [hl2], by rw [hl2]; exact hc2, C_fr hC2 hf3⟩) rfl)
  have hBy : Bytes [hd2 b.length, b ++ le4 (addF 0 b)] := fun p hp => by
    simp only [List.mem_cons, List.not_mem_nil, or_false] at hp
    rcases hp with rfl | rfl
    · refine ⟨by simp [hd2], fun x hx => ?_⟩
      simp only [hd2, List.mem_cons, List.not_mem_nil, or_false] at hx
      rcases hx with rfl | rfl <;> omega
    · refine ⟨by rw [hl2]; omega, fun x hx => ?_⟩
      rcases List.mem_append.1 hx with h | h
      · exact (HB.out b (by simp)).2 x h
      · exact le4_bytes (addF_lt 0 b) x h
  have hfl : [hd2 b.length, b ++ le4 (addF 0 b)].flatten = fr b := by simp [fr]
  have hcc := concat_c _ 2 [hd2 b.length, b ++ le4 (addF 0 b)] (by simp) hBy (by rw [hfl, fr_len]; omega) _ hC3
  rw [hfl, fr_len] at hcc
  have HCC := Lib.hid hcc
  have HF := Lib.hid (hfa.trans' (hf2.trans' hf3))
  clear hcc hBy hfl hC3 hCh hX2 hX3 hC2 hl2 hR2 hX hC hfa hf2 hf3
  dsimp only
  go_wp2_with fail
  refine HCC.out.mono ?_
  rintro e w4 ⟨⟨A', c, rfl, hR⟩, hf4⟩
  dsimp only
  go_wp2
  go_ret2
  exact ⟨⟨A', c, rfl, Kd.R_mono hR (fun k hk => Nat.le_trans HF.out.size hk)⟩, HF.out.trans' hf4⟩
end Go.Proofs.YtinkdgfdnagplaaDoor.Frame
