import Derived.Test.YtinkdgfdnagplaaDoorCrcB
/-! Contracts of package crc: sealed. -/
set_option linter.unusedVariables false
set_option linter.unusedSimpArgs false
namespace Go.Proofs.YtinkdgfdnagplaaDoor.Crc
open Go.RowKit Go.Proofs.YtinkdgfdnagplaaDoorW.PrintWords Go.Proofs.YtinkdgfdnagplaaDoor.B

theorem flat_take (l : List (List Int)) (k : Nat) (h : k < l.length) : (l.take (k + 1)).flatten = (l.take k).flatten ++ l[k] := by
  rw [List.take_succ_eq_append_getElem h, List.flatten_append]
  simp
theorem flat_len : ∀ (l : List (List Int)), Bytes l → l.flatten.length ≤ 100000 * l.length
  | [], _ => by simp
  | p :: r, h => by
    have h1 := flat_len r (fun q hq => h q (by simp [hq]))
    have h2 := (h p (by simp)).1
    simp only [List.flatten_cons, List.length_append, List.length_cons]
    omega
set_option maxRecDepth 100000 in
set_option maxHeartbeats 2000000 in
theorem concat_c (A : Option Addr) (cap : Nat) (l : List (List Int)) (hl : l.length ≤ 1000) (hb : Bytes l) (hpos : 0 < l.flatten.length) (w : World) (hC : kB.C w A l.length l) :
    Calls Tryd.prog 18 #[.slice A l.length cap] w fun e w' => (∃ A' c, e = .returned (.slice A' l.flatten.length c) ∧ (Kd.int .u8).R 5 w' 0 (since w) (.slice A' l.flatten.length c) l.flatten) ∧ Fr no w w' := by
  have HB := Lib.hid hb
  have hfl := flat_len l hb
  clear hb
  go_enter Tryd.func18, Tryd.ntmps18
  go_wp2
  go_loopg [3, 11] l.length (fun q v i wr => ∃ (k : Nat), k + q = l.length ∧ i = .int .i64 (k : Int) ∧ v = .int .i64 ((l.take k).flatten.length : Int) ∧ w = wr)
  case atStart => exact ⟨0, by omega, rfl, rfl, rfl⟩
  case round =>
    obtain ⟨k, hk, rfl, rfl, rfl⟩ := hrel
    by_cases hlt : k < l.length
    · obtain ⟨ad, A', c, rfl, hc, hcap, hC'⟩ := sl_at hC k hlt
      have hp := (HB.out l[k] (List.getElem_mem hlt)).1
      have hft := congrArg List.length (flat_take l k hlt)
      rw [List.length_append] at hft
      have hfk := flat_len (l.take k) (fun q hq => HB.out q (List.mem_of_mem_take hq))
      rw [List.length_take] at hfk
      generalize l[k] = p at *
      obtain ⟨m, hm⟩ : ∃ m, (l.take k).flatten.length = m := ⟨_, rfl⟩
      rw [hm] at hft hfk ⊢
      have HFT := Lib.hid hft
      have hdd : decide (k < l.length) = true := by simpa using hlt
      have hm2 : m ≤ 100000000 := by omega
      have hd2 : decide ((m : Int) + (p.length : Int) < 0) = false := by simp; omega
      clear hft hm hfk
      go_wp2
      go_roundg (l.length - (k + 1))
      case measure => omega
      case rel => exact ⟨k + 1, by omega, by go_num, by rw [HFT.out]; go_num, rfl⟩
    · obtain rfl : k = l.length := by omega
      rw [List.take_length]
      obtain ⟨n, hn⟩ : ∃ n, l.flatten.length = n := ⟨_, rfl⟩
      rw [hn] at hpos hfl ⊢
      clear hn
      go_wp2_with fail
      refine (grow_c n hpos (by omega) w).mono ?_
      rintro e w1 ⟨⟨v, rfl, hR⟩, hf⟩
      clear hpos hfl
      obtain ⟨Av0, cv0, rfl⟩ := Kd.R_slice hR
      dsimp only
      go_wp2
      go_loopg [6, 27] l.length (fun q v i wr => ∃ (k : Nat), k + q = l.length ∧ i = .int .i64 (k : Int) ∧ (Kd.int .u8).R 5 wr 0 (since w) v (l.take k).flatten ∧ Fr no w wr)
      case atStart => exact ⟨0, by omega, rfl, hR, hf⟩
      case round =>
        clear hR hf
        obtain ⟨k, hk, rfl, hR, hf⟩ := hrel
        obtain ⟨Av, cv, rfl⟩ := Kd.R_slice hR
        by_cases hlt : k < l.length
        · obtain ⟨ad, A', c, rfl, hc, hcap, hC'⟩ := sl_at (C_fr hC hf) k hlt
          have hp := (HB.out l[k] (List.getElem_mem hlt)).1
          have hft := flat_take l k hlt
          have hfk := flat_len (l.take k) (fun q hq => HB.out q (List.mem_of_mem_take hq))
          rw [List.length_take] at hfk
          generalize l[k] = p at *
          obtain ⟨m, hm⟩ : ∃ m, (l.take k).flatten = m := ⟨_, rfl⟩
          rw [hm] at hft hfk hR ⊢
          have HFT := Lib.hid hft
          have hdd : decide (k < l.length) = true := by simpa using hlt
          clear hft hm
          go_wp2_with (at_builtin
                       refine Kd.R_append_row (fun n : Int => Value.int .u8 n) (0 : Int) (w0 := wr) 0 rfl (.tmp 31) (.tmp 32) 24 5 (.int .u8 0) 1 rfl Tryd.underlying24 info8 rfl (by decide) _ m p A' p.length c (since w) rfl rfl (fun b hb => Nat.le_trans hf.size hb) hR hC' (Below.refl 0 _) (Nat.zero_le _) (by omega) ?_
                       intro v1 w2 ho hb1 hg hat
                       clear hat hb1
                       have hF2 := hf.new' (Fr.of_grown hg (fun b hb _ => hR.1 b hb))
                       rw [← HFT.out] at ho
                       clear hg hR)
          go_roundg (l.length - (k + 1))
          case measure => omega
          case rel => exact ⟨k + 1, by omega, by go_num, ho, hF2⟩
        · obtain rfl : k = l.length := by omega
          rw [List.take_length] at hR ⊢
          go_wp2
          go_ret
          exact ⟨⟨_, _, rfl, hR⟩, hf⟩
/-- A number's four bytes, the least first. -/
def le4 (s : Nat) : List Int := [(s : Int) % 256, (s : Int) / 256 % 256, (s : Int) / 65536 % 256, (s : Int) / 16777216]
theorem le4_bytes {s : Nat} (h : s < 4294967296) : ∀ x ∈ le4 s, 0 ≤ x ∧ x < 256 := by
  intro x hx
  simp only [le4, List.mem_cons, List.not_mem_nil, or_false] at hx
  rcases hx with rfl | rfl | rfl | rfl <;> omega
theorem le4_inj {s t : Nat} (h : le4 s = le4 t) : s = t := by
  simp only [le4, List.cons.injEq, and_true] at h
  omega
set_option maxRecDepth 100000 in
set_option maxHeartbeats 2000000 in
theorem seal_c (A : Option Addr) (cap : Nat) (b : List Int) (hb : Bytes [b]) (hcap : b.length ≤ cap) (w : World) (hC : (Kd.int .u8).C w A b.length b) :
    Calls Tryd.prog 19 #[.slice A b.length cap] w fun e w' => (∃ A' c, e = .returned (.slice A' (b.length + 4) c) ∧ (Kd.int .u8).R 5 w' 0 (since w) (.slice A' (b.length + 4) c) (b ++ le4 (addF 0 b))) ∧ Fr no w w' := by
  have HB := Lib.hid hb
  obtain ⟨s, hs⟩ : ∃ s, addF 0 b = s := ⟨_, rfl⟩
  rw [hs]
  have hs0 : s < 4294967296 := by rw [← hs]; exact addF_lt 0 b
  have HS := Lib.hid hs
  clear hs
  have hfa := (Fr.refl no w).alloc (.cells #[.slice A b.length cap] 24)
  have hX := blk_new w (.cells #[.slice A b.length cap] 24)
  have hC1 : kB.C (w.alloc (.cells #[.slice A b.length cap] 24)) (some ⟨w.heap.size, 0, none⟩) [b].length [b] :=
    C_blk (d := kB) hX [b] (show 0 < 1 by decide) (show 1 ≤ 9223372036854775807 by decide) ((Reps.none _ _).snoc (p := b) ⟨A, cap, rfl, hcap, C_fr hC hfa⟩ rfl)
  clear hb hX
  go_enter Tryd.func19, Tryd.ntmps19
  go_wp2_with fail
  refine (sum_c _ 1 [b] (by simp) HB.out _ hC1).mono ?_
  rintro e w1 ⟨rfl, rfl⟩
  have e0 : sumF 0 [b] = s := HS.out
  rw [e0]
  clear e0
  dsimp only
  have hfl : [b, le4 s].flatten = b ++ le4 s := by simp
  have hBy : Bytes [b, le4 s] := fun p hp => by
    simp only [List.mem_cons, List.not_mem_nil, or_false] at hp
    rcases hp with rfl | rfl
    · exact HB.out _ (by simp)
    · exact ⟨by simp [le4], le4_bytes hs0⟩
  have hX2 := blk_new (w.alloc (.cells #[.slice A b.length cap] 24)) (.cells #[.int .u8 ((s : Int) % 256), .int .u8 ((s : Int) / 256 % 256), .int .u8 ((s : Int) / 65536 % 256), .int .u8 ((s : Int) / 16777216)] 5)
  rw [show (w.alloc (.cells #[.slice A b.length cap] 24)).heap.size = w.heap.size + 1 by simp] at hX2
  have hfa2 := hfa.alloc (.cells #[.int .u8 ((s : Int) % 256), .int .u8 ((s : Int) / 256 % 256), .int .u8 ((s : Int) / 65536 % 256), .int .u8 ((s : Int) / 16777216)] 5)
  have hsz2 : ((w.alloc (.cells #[.slice A b.length cap] 24)).alloc (.cells #[.int .u8 ((s : Int) % 256), .int .u8 ((s : Int) / 256 % 256), .int .u8 ((s : Int) / 65536 % 256), .int .u8 ((s : Int) / 16777216)] 5)).heap.size = w.heap.size + 1 + 1 := by simp
  go_wp2_with fail
  generalize (w.alloc (.cells #[.slice A b.length cap] 24)).alloc _ = w2 at *
  have hCb : (Kd.int .u8).C w2 (some ⟨w.heap.size + 1, 0, none⟩) (le4 s).length (le4 s) :=
    C_blk (d := Kd.int .u8) hX2 (le4 s) (show 0 < 1 by decide) (show 4 ≤ 9223372036854775807 by decide) (((((Reps.none _ _).snoc (p := (s : Int) % 256) (show (Kd.int .u8).K _ ((s : Int) % 256) [.int .u8 ((s : Int) % 256)] from rfl) rfl).snoc (p := (s : Int) / 256 % 256) (show (Kd.int .u8).K _ ((s : Int) / 256 % 256) [.int .u8 ((s : Int) / 256 % 256)] from rfl) rfl).snoc (p := (s : Int) / 65536 % 256) (show (Kd.int .u8).K _ ((s : Int) / 65536 % 256) [.int .u8 ((s : Int) / 65536 % 256)] from rfl) rfl).snoc (p := (s : Int) / 16777216) (show (Kd.int .u8).K _ ((s : Int) / 16777216) [.int .u8 ((s : Int) / 16777216)] from rfl) rfl)
  have hX3 := blk_new w2 (.cells #[.slice A b.length cap, .slice (some ⟨w.heap.size + 1, 0, none⟩) 4 4] 24)
  rw [hsz2] at hX3
  have hf3 := (Fr.refl no w2).alloc (.cells #[.slice A b.length cap, .slice (some ⟨w.heap.size + 1, 0, none⟩) 4 4] 24)
  have hC3 : kB.C (w2.alloc (.cells #[.slice A b.length cap, .slice (some ⟨w.heap.size + 1, 0, none⟩) 4 4] 24)) (some ⟨w.heap.size + 1 + 1, 0, none⟩) [b, le4 s].length [b, le4 s] :=
    C_blk (d := kB) hX3 [b, le4 s] (show 0 < 1 by decide) (show 2 ≤ 9223372036854775807 by decide) (((Reps.none _ _).snoc (p := b) (show kB.K _ b [.slice A b.length cap] from ⟨A, cap, rfl, hcap, C_fr hC (hfa2.trans' hf3)⟩) rfl).snoc (p := le4 s) (show kB.K _ (le4 s) [.slice (some ⟨w.heap.size + 1, 0, none⟩) 4 4] from ⟨_, 4, rfl, by simp [le4], C_fr hCb hf3⟩) rfl)
  have hcc := concat_c _ 2 [b, le4 s] (by simp) hBy (by rw [hfl]; simp [le4]) _ hC3
  rw [hfl, List.length_append, show (le4 s).length = 4 from rfl] at hcc
  refine hcc.mono ?_
  rintro e w4 ⟨⟨A', c, rfl, hR⟩, hf4⟩
  have hfin := (hfa2.trans' hf3)
  dsimp only
  go_wp2
  go_ret
  exact ⟨⟨A', c, rfl, Kd.R_mono hR (fun k hk => Nat.le_trans hfin.size hk)⟩, hfin.trans' hf4⟩
end Go.Proofs.YtinkdgfdnagplaaDoor.Crc
