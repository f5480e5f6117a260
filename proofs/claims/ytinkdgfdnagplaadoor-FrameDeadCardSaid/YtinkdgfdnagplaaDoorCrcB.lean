import Derived.Test.YtinkdgfdnagplaaDoorCrc
import Derived.Lib.AppendZerosOnto
import Derived.Lib.SliceRun
/-! Contracts of package crc: of parts; slices put together. -/
set_option linter.unusedVariables false
set_option linter.unusedSimpArgs false
namespace Go.Proofs.YtinkdgfdnagplaaDoor.Crc
open Go.RowKit Go.Proofs.YtinkdgfdnagplaaDoorW.PrintWords Go.Proofs.YtinkdgfdnagplaaDoor.B

theorem info8 : (Tryd.prog.info? 5).map (fun i => (i.zero, i.size, i.bytes)) = some (some (.int .u8 0), 1, 1) := by kernel_rfl
abbrev kB : Kd (List Int) := Kd.slice 5 (Kd.int .u8)
theorem sl_at {w : World} {A : Option Addr} {l : List (List Int)} (hC : kB.C w A l.length l) (k : Nat) (h : k < l.length) :
    ∃ ad A' c, A = some ad ∧ w.cell? (ad.add k) = some (.slice A' l[k].length c) ∧ l[k].length ≤ c ∧ (Kd.int .u8).C w A' l[k].length l[k] := by
  obtain ⟨ad, hA, hc⟩ := hC.2.2 (by omega)
  obtain ⟨c, h1, ⟨A', c', h2, h3, h4⟩, h5⟩ := hc k l[k] (by simp [h])
  subst h2
  exact ⟨ad, A', c', hA, by simpa [show kB.sz = 1 from rfl] using h5 0 _ rfl, h3, h4⟩
def sumF : Nat → List (List Int) → Nat
  | s, [] => s
  | s, p :: r => sumF (addF s p) r
theorem addF_lt (s : Nat) (l : List Int) : addF s l < 4294967296 := by unfold addF; omega
def Bytes (l : List (List Int)) : Prop := ∀ p ∈ l, p.length ≤ 100000 ∧ ∀ x ∈ p, 0 ≤ x ∧ x < 256
set_option maxRecDepth 100000 in
theorem sum_c (A : Option Addr) (cap : Nat) (l : List (List Int)) (hl : l.length ≤ 1000) (hb : Bytes l) (w : World) (hC : kB.C w A l.length l) :
    Calls Tryd.prog 28 #[.slice A l.length cap] w fun e w' => e = .returned (.int .u32 (sumF 0 l : Nat)) ∧ w = w' := by
  have HB := Lib.hid hb
  obtain ⟨T, hT⟩ : ∃ T, sumF 0 l = T := ⟨_, rfl⟩
  rw [hT]
  have HT := Lib.hid hT
  clear hb hT
  go_enter Tryd.func28, Tryd.ntmps28
  go_wp2
  go_loopg [3, 8] l.length (fun q v i wr => ∃ (k s1 : Nat), k + q = l.length ∧ i = .int .i64 (k : Int) ∧ v = .int .u32 (s1 : Int) ∧ s1 < 4294967296 ∧ Hid (sumF s1 (l.drop k) = T) ∧ w = wr)
  case atStart => exact ⟨0, 0, by omega, rfl, rfl, by omega, HT, rfl⟩
  case round =>
    clear HT
    obtain ⟨k, s1, hk, rfl, rfl, hs1, hr, rfl⟩ := hrel
    by_cases hlt : k < l.length
    · obtain ⟨ad, A', c, rfl, hc, hcap, hC'⟩ := sl_at hC k hlt
      obtain ⟨hp, hx⟩ := HB.out l[k] (List.getElem_mem hlt)
      have hr2 := hr.out
      rw [List.drop_eq_getElem_cons hlt, sumF] at hr2
      have HX := Lib.hid hx
      generalize l[k] = p at *
      have HR2 := Lib.hid hr2
      have hal := addF_lt s1 p
      clear hr hr2 hx
      have hdd : decide (k < l.length) = true := by simpa using hlt
      go_wp2_with fail
      refine (add_c s1 hs1 A' c p (by omega) HX.out _ hC').mono ?_
      rintro e w1 ⟨rfl, rfl⟩
      dsimp only
      go_wp2
      go_roundg (l.length - (k + 1))
      case measure => omega
      case rel => exact ⟨k + 1, _, by omega, by go_num, rfl, hal, HR2.out, rfl⟩
    · obtain rfl : k = l.length := by omega
      have hr2 := hr.out
      rw [List.drop_length] at hr2
      have he : s1 = T := hr2
      subst he
      clear hr hr2
      go_wp2
      go_ret
      exact ⟨rfl, rfl⟩
set_option maxRecDepth 100000 in
set_option maxHeartbeats 2000000 in
theorem grow_c (n : Nat) (h1 : 0 < n) (h2 : n ≤ 1000000000) (w : World) :
    Calls Tryd.prog 27 #[.slice none 0 0, .int .i64 (n : Int)] w fun e w' => (∃ v, e = .returned v ∧ (Kd.int .u8).R 5 w' 0 (since w) v []) ∧ Fr no w w' := by
  obtain ⟨i0, hi, hz0, hz1, hz2⟩ := info_parts info8
  have hG1 := grownCap_ge w n 0 5
  have hG2 := grownCap_le_maxLen w n 0 5 (by unfold maxLen; omega)
  have hfit : Builtin.nextslicecap n 0 * i0.bytes ≤ 281474976710656 := by
    rw [hz2]
    have := nextslicecap_le (need := n) (old := 0) h1
    omega
  have hrz : ∀ ty, (Builtin.append_ #[24, 3] ty #[.slice none 0 0, .int .i64 (n : Int)]).run Tryd.prog w = _ := fun ty => by
    have h := Lib.run_append_grow_zeros w 24 3 ty 5 i0 (.int .u8 0) .i64 .i64 Tryd.underlying24 Tryd.underlying3 hi hz0 none 0 0 [] (by rw [hz1]; exact run_firstCells_none w.drew 1 0 0 0) n h1 (by omega) (by omega) (by omega) (by rw [hz2]; omega) (by rw [Nat.zero_add]; exact hfit)
    exact h
  rw [Nat.zero_add] at hrz
  obtain ⟨G, hG⟩ : ∃ G, G = grownCap w n 0 5 := ⟨_, rfl⟩
  rw [← hG] at hrz hG1 hG2
  have hn0 : ((n : Int) < 0) = False := by simp
  have hG63 : G ≤ 9223372036854775807 := by unfold maxLen at hG2; omega
  clear hG hi hz0 hz1 hz2 hfit
  go_enter Tryd.func27, Tryd.ntmps27
  go_wp2_with (at_builtin; refine Lib.wpList_append_run _ rfl _ _ _ _ rfl _ _ rfl rfl _ _ (hrz _) ?_)
  go_ret
  refine ⟨⟨_, rfl, ?_⟩, (Fr.refl no w).drew.alloc _⟩
  exact Kd.R_of_own (World.ownsRow_made w.drew _ G (Nat.zero_le _) hG2 (by simp [Builtin.zeroCells]; omega)) (fun k hk => by simp [Value.ownBlock] at hk; subst hk; exact Nat.le_refl _)
end Go.Proofs.YtinkdgfdnagplaaDoor.Crc
