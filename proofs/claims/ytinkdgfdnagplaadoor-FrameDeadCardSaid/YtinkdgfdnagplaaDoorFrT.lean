import Derived.Test.YtinkdgfdnagplaaDoorFrA
/-! The law's texts at equal rows. -/
set_option linter.unusedVariables false
set_option linter.unusedSimpArgs false
namespace Go.Proofs.YtinkdgfdnagplaaDoor.Frame
open Go.RowKit Go.Proofs.YtinkdgfdnagplaaDoorW.PrintWords Go.Proofs.YtinkdgfdnagplaaDoor.B Go.Proofs.YtinkdgfdnagplaaDoor.Crc Go.Proofs.YtinkdgfdnagplaaDoor.Err

set_option maxRecDepth 100000 in
set_option maxHeartbeats 4000000 in
theorem texts_c (A B : Option Addr) (ca cb : Nat) (ls bs : List (List Int)) (he : ls = bs) (hl : ls.length ≤ 1000000) (w : World) (hA : kB.C w A ls.length ls) (hB : kB.C w B bs.length bs) :
    Calls Tryd.prog 12 #[.slice A ls.length ca, .slice B bs.length cb] w fun e w' => e = .returned (.bool true) ∧ Fr no w w' := by
  subst he
  have HK := Lib.hid (And.intro hA hB)
  clear hA hB
  go_enter Tryd.func12, Tryd.ntmps12
  go_wp2
  go_loopg [5] ls.length (fun q i wr => ∃ k : Nat, k + q = ls.length ∧ i = .int .i64 k ∧ Fr no w wr)
  case atStart => exact ⟨0, by omega, rfl, Fr.refl _ _⟩
  case round =>
    obtain ⟨k, hk, rfl, hf⟩ := hrel
    by_cases hlt : k < ls.length
    · obtain ⟨ad1, A1, c1, rfl, p1, q1, r1⟩ := sl_at (C_fr HK.out.1 hf) k hlt
      obtain ⟨ad2, A2, c2, rfl, p2, q2, r2⟩ := sl_at (C_fr HK.out.2 hf) k hlt
      obtain ⟨b, hb⟩ : ∃ b, ls[k] = b := ⟨_, rfl⟩
      rw [hb] at p1 p2 r1 r2
      have k1 : wr.drew.cell? (ad1.add k) = some (.slice A1 b.length c1) := p1
      have k2 : wr.drew.cell? (ad2.add k) = some (.slice A2 b.length c2) := p2
      have v1 := Kd.C_string (P := Tryd.prog) (c := c1) Tryd.underlying24 Tryd.underlying5 Tryd.underlying9 (C_fr r1 (Fr.refl no wr).drew)
      have v2 := Kd.C_string (P := Tryd.prog) (c := c2) Tryd.underlying24 Tryd.underlying5 Tryd.underlying9 (C_fr r2 (Fr.refl no wr).drew)
      have hk0 : (0 : Int) ≤ (k : Int) := by omega
      have hk1 : (k : Int) < (ls.length : Int) := by omega
      obtain ⟨tx, htx⟩ : ∃ t, strOfNums b = t := ⟨_, rfl⟩
      rw [htx] at v1 v2
      have HF := Lib.hid hf
      clear r1 r2 q1 q2 htx hb p1 p2 hf
      go_wp2_with fail
      refine wp_region_plan (fun u => u.cell? (ad1.add k) = some (.slice A1 b.length c1) ∧ u.cell? (ad2.add k) = some (.slice A2 b.length c2) ∧ (convert 24 9 (.slice A1 b.length c1)).run Tryd.prog u = .ok (.string tx) u ∧ (convert 24 9 (.slice A2 b.length c2)).run Tryd.prog u = .ok (.string tx) u) [(0, false), (1, false), (2, false), (3, false), (4, false), (5, false), (6, false), (7, false), (8, false), (9, false), (10, false)] (by kernel_rfl) (by kernel_rfl) (fun _ _ _ _ _ h => h) (⟨k1, k2, v1, v2⟩) ?_
      simp only [planOps, List.getElem?_toArray, List.getElem?_cons_succ, List.getElem?_cons_zero]
      repeat (first
        | (refine plan_step (by rfl) ?_; apply Exists.intro; refine ⟨fun x hSx => ?_, ?_⟩; ((try dsimp only at hSx); go_simp; (try rw [if_neg (by omega)]); (try with_reducible rfl)); (simp only [Act.put, List.setIfInBounds_toArray, List.set_cons_zero, List.set_cons_succ]))
        | (refine plan_skip (by rfl) ?_; (simp only [Act.put, List.setIfInBounds_toArray, List.set_cons_zero, List.set_cons_succ])))
      refine plan_done ?_
      go_wp2
      go_roundg (ls.length - (k + 1))
      case measure => omega
      case rel => exact ⟨k + 1, by omega, by go_num, HF.out.drew⟩
    · obtain rfl : k = ls.length := by omega
      have HF := Lib.hid hf
      clear hf
      go_wp2
      go_ret
      exact ⟨rfl, HF.out⟩
end Go.Proofs.YtinkdgfdnagplaaDoor.Frame
