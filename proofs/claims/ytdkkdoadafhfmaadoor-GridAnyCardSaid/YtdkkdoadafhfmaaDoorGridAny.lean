import Derived.Test.YtdkkdoadafhfmaaDoorGridT
import Derived.Test.YtdkkdoadafhfmaaDoorErrLaid
/-! GridAny. -/
set_option linter.unusedVariables false
set_option linter.unusedSimpArgs false
namespace Go.Proofs.YtdkkdoadafhfmaaDoor.Grid
open Go.RowKit Go.Proofs.YtdkkdoadafhfmaaDoorW.PrintWords Go.Proofs.YtdkkdoadafhfmaaDoor.B Go.Proofs.YtdkkdoadafhfmaaDoor.PGridAny Go.Proofs.YtdkkdoadafhfmaaDoorW.PrintMore Go.Proofs.YtdkkdoadafhfmaaDoor.Err

theorem tells_none (A : Option Addr) (n c : Nat) (w : World) : Calls Tryd.prog 29 #[.nilIface, .agg #[.slice A n c, .int .i64 0]] w fun e w' => e = .returned (.bool true) ∧ Fr no w w' := by
  go_enter Tryd.func29, Tryd.ntmps29
  go_wp2
  go_ret
  exact ⟨rfl, (Fr.refl no w).alloc _⟩
/-- A value of the reference's error in a block of its own. -/
theorem wrong_load {w : World} {X : Nat} {A : Option Addr} {n c : Nat} {r : Int} (h : w.heap[X]? = some (.cells #[.slice A n c, .int .i64 r] 70 (0, 0))) : w.cell? ⟨X, 0, none⟩ = some (.slice A n c) ∧ w.cell? ⟨X, 1, none⟩ = some (.int .i64 r) := ⟨blk_cell h 0, blk_cell h 1⟩
set_option maxRecDepth 100000 in
set_option maxHeartbeats 4000000 in
theorem any_c (w : World) (hg : ErrType w) (A : Option Addr) (cap : Nat) (t : List Step) (p q : Int) (hC : kStep.C w A t.length t) (hcap : t.length ≤ cap) (hb : ∀ x ∈ t, wfStep x) (hp : -9223372036854775808 ≤ p) (hp2 : p ≤ 9223372036854775807) (hq : -9223372036854775808 ≤ q) :
    Calls Tryd.prog 10 #[.slice A t.length cap, .int .i64 p, .int .i64 q] w fun e w' => e = .returned (.bool true) ∧ Fr no w w' := by
  have HG := Lib.hid hg
  have HB := Lib.hid hb
  have HP := Lib.hid hp
  have HP2 := Lib.hid hp2
  have HQ := Lib.hid hq
  clear hg hb hp hq hp2
  go_enter Tryd.func10, Tryd.ntmps10
  go_wp2_with fail
  refine (known_c w).mono ?_
  rintro e w1 ⟨rfl, hf⟩
  dsimp only
  by_cases h30 : 30 < t.length
  · go_wp2
    go_ret
    exact ⟨rfl, hf⟩
  go_wp2_with fail
  refine (of6_c A cap t (by omega) hcap _ (C_fr hC hf)).mono ?_
  rintro e w2 ⟨v, rfl, hR, hf2⟩
  replace hf := hf.trans' hf2
  obtain ⟨A2, c2, rfl⟩ := Kd.R_slice hR
  obtain ⟨_, hcap2, hRC⟩ := Kd.R_reads' hR
  rw [List.length_map] at hcap2
  clear hf2 hR
  rw [List.length_map]
  dsimp only
  go_wp2_with fail
  refine (rcheck_c A2 c2 t hcap2 _ hRC).mono ?_
  rintro e w3 ⟨v, rfl, hW, hf2⟩
  replace hf := hf.trans' hf2
  replace hRC := C_fr hRC hf2
  clear hf2
  dsimp only
  cases hk : chk t with
  | none =>
    have hwf := chk_wf hk
    rw [hk] at hW
    obtain ⟨A3, n3, c3, rfl⟩ := hW
    have hfa := (Fr.refl no w3).alloc (.cells #[.slice A3 n3 c3, .int .i64 0] 70)
    have hX := blk_new w3 (.cells #[.slice A3 n3 c3, .int .i64 0] 70)
    replace hf := hf.trans' hfa
    replace hRC := C_fr hRC hfa
    clear hfa
    have HW := Lib.hid hwf
    have HK := Lib.hid hk
    clear hk hwf
    go_wp2_with fail
    generalize w3.alloc _ = w4 at *
    generalize w3.heap.size = X at *
    have hall : Hid (∀ u, Fr no w4 u → u.cell? ⟨X, 0, none⟩ = some (.slice A3 n3 c3) ∧ u.cell? ⟨X, 1, none⟩ = some (.int .i64 0)) := fun u h => wrong_load (h.heap hX (fun h => h))
    have hfd := (Fr.refl no w4).drew
    have hpl := hall.out _ hfd
    clear hX
    refine wp_region_plan (fun u => u.cell? ⟨X, 0, none⟩ = some (.slice A3 n3 c3) ∧ u.cell? ⟨X, 1, none⟩ = some (.int .i64 0)) [(0, false), (2, false), (1, true), (3, true), (4, false)] (by kernel_rfl) (by kernel_rfl) (fun _ _ _ _ _ h => h) (hpl) ?_
    simp only [planOps, List.getElem?_toArray, List.getElem?_cons_succ, List.getElem?_cons_zero]
    repeat (first
      | (refine plan_step (by rfl) ?_; apply Exists.intro; refine ⟨fun x hSx => ?_, ?_⟩; ((try dsimp only at hSx); go_simp; (try rw [if_neg (by omega)]); (try with_reducible rfl)); (simp only [Act.put, List.setIfInBounds_toArray, List.set_cons_zero, List.set_cons_succ]))
      | (refine plan_skip (by rfl) ?_; (simp only [Act.put, List.setIfInBounds_toArray, List.set_cons_zero, List.set_cons_succ])))
    refine plan_run (by rfl) (fun K hK => ?_)
    go_simp
    refine (check_any A cap t HB.out (by omega) hcap _ (C_fr hC (hf.trans' hfd))).mono ?_
    rintro e w5 ⟨v, rfl, hE, hf5⟩
    rw [HK.out] at hE
    have hv : v = .nilIface := hE
    subst hv
    have hf45 := hfd.trans' hf5
    dsimp only
    refine hK.out (fun u => True) _ _ (hall.out _ hf45) (trivial) ?_
    clear hK K
    try simp only [Act.put, List.setIfInBounds_toArray, List.set_cons_zero, List.set_cons_succ]
    repeat (first
      | (refine plan_step (by rfl) ?_; apply Exists.intro; refine ⟨fun x hSx => ?_, ?_⟩; ((try dsimp only at hSx); go_simp; (try rw [if_neg (by omega)]); (try with_reducible rfl)); (simp only [Act.put, List.setIfInBounds_toArray, List.set_cons_zero, List.set_cons_succ]))
      | (refine plan_skip (by rfl) ?_; (simp only [Act.put, List.setIfInBounds_toArray, List.set_cons_zero, List.set_cons_succ])))
    refine plan_run (by rfl) (fun K hK => ?_)
    go_simp
    refine (tells_none A3 n3 c3 _).mono ?_
    rintro e w6 ⟨rfl, hf6⟩
    have hf46 := hf45.trans' hf6
    dsimp only
    refine hK.out (fun u => True) _ _ (⟨hall.out _ hf46, trivial⟩) (trivial) ?_
    clear hK K
    try simp only [Act.put, List.setIfInBounds_toArray, List.set_cons_zero, List.set_cons_succ]
    repeat (first
      | (refine plan_step (by rfl) ?_; apply Exists.intro; refine ⟨fun x hSx => ?_, ?_⟩; ((try dsimp only at hSx); go_simp; (try rw [if_neg (by omega)]); (try with_reducible rfl)); (simp only [Act.put, List.setIfInBounds_toArray, List.set_cons_zero, List.set_cons_succ]))
      | (refine plan_skip (by rfl) ?_; (simp only [Act.put, List.setIfInBounds_toArray, List.set_cons_zero, List.set_cons_succ])))
    refine plan_done ?_
    obtain ⟨x0, x1⟩ := hall.out _ hf46
    replace hf := hf.trans' hf46
    replace hRC := C_fr hRC hf46
    clear hf46 hf45 hfd hall hf5 hf6 hE hpl
    go_wp2_with fail
    refine (up_c A cap t p HW.out _ (C_fr hC hf)).mono ?_
    rintro e w7 ⟨rfl, hf2⟩
    replace hf := hf.trans' hf2
    replace hRC := C_fr hRC hf2
    clear hf2 x0 x1
    dsimp only
    go_wp2_with fail
    refine (rup_c A2 c2 t HW.out hcap2 _ hRC p HP.out).mono ?_
    rintro e w8 ⟨rfl, hf2⟩
    replace hf := hf.trans' hf2
    replace hRC := C_fr hRC hf2
    clear hf2
    dsimp only
    go_wp2_with fail
    refine (down_c A cap t p HW.out _ (C_fr hC hf)).mono ?_
    rintro e w9 ⟨rfl, hf2⟩
    replace hf := hf.trans' hf2
    replace hRC := C_fr hRC hf2
    clear hf2
    dsimp only
    go_wp2_with fail
    refine (rdown_c A2 c2 t HW.out hcap2 _ hRC p HP.out).mono ?_
    rintro e w10 ⟨rfl, hf2⟩
    replace hf := hf.trans' hf2
    replace hRC := C_fr hRC hf2
    clear hf2
    obtain ⟨u1, hu1⟩ : ∃ x, (upF t p).1 = x := ⟨_, rfl⟩
    obtain ⟨u2, hu2⟩ : ∃ x, (upF t p).2 = x := ⟨_, rfl⟩
    obtain ⟨d1, hd1⟩ : ∃ x, (downF t p).1 = x := ⟨_, rfl⟩
    obtain ⟨d2, hd2⟩ : ∃ x, (downF t p).2 = x := ⟨_, rfl⟩
    rw [hu1, hu2, hd1, hd2]
    clear hu1 hu2 hd1 hd2
    dsimp only
    go_wp2_with fail
    refine (on_c A cap t p HW.out _ (C_fr hC hf)).mono ?_
    rintro e w11 ⟨rfl, hf2⟩
    replace hf := hf.trans' hf2
    replace hRC := C_fr hRC hf2
    clear hf2
    dsimp only
    go_wp2_with fail
    refine (ron_c A2 c2 t HW.out hcap2 _ hRC p HP.out).mono ?_
    rintro e w12 ⟨rfl, hf2⟩
    replace hf := hf.trans' hf2
    replace hRC := C_fr hRC hf2
    clear hf2
    obtain ⟨o1, ho1⟩ : ∃ x, onF t p = x := ⟨_, rfl⟩
    rw [ho1]
    clear ho1
    have q1 : (o1 == o1) = true := by cases o1 <;> rfl
    have q2 : (u1 == u1) = true := by simp
    have q3 : (u2 == u2) = true := by cases u2 <;> rfl
    have q4 : (d1 == d1) = true := by simp
    have q5 : (d2 == d2) = true := by cases d2 <;> rfl
    dsimp only
    go_wp2_with fail
    refine (near_c A cap t p HW.out _ (C_fr hC hf)).mono ?_
    rintro e w13 ⟨rfl, hf2⟩
    replace hf := hf.trans' hf2
    replace hRC := C_fr hRC hf2
    clear hf2
    dsimp only
    go_wp2_with fail
    refine (rnear_c A2 c2 t HW.out hcap2 _ hRC p HP.out).mono ?_
    rintro e w14 ⟨rfl, hf2⟩
    replace hf := hf.trans' hf2
    replace hRC := C_fr hRC hf2
    clear hf2
    obtain ⟨n1, hn1⟩ : ∃ x, nearF t p = x := ⟨_, rfl⟩
    rw [hn1]
    clear hn1
    have q6 : (n1 == n1) = true := by simp
    dsimp only
    go_wp2_with fail
    refine (count_c A cap t p q HW.out hcap HP2.out HQ.out _ (C_fr hC hf)).mono ?_
    rintro e w15 ⟨rfl, hf2⟩
    replace hf := hf.trans' hf2
    replace hRC := C_fr hRC hf2
    clear hf2
    dsimp only
    go_wp2_with fail
    refine (rcount_c A2 c2 t HW.out hcap2 _ hRC p q).mono ?_
    rintro e w16 ⟨rfl, hf2⟩
    replace hf := hf.trans' hf2
    clear hf2 hRC
    obtain ⟨k1, hk1⟩ : ∃ x, countF t p q = x := ⟨_, rfl⟩
    rw [hk1]
    clear hk1
    have q7 : (k1 == k1) = true := by simp
    dsimp only
    go_wp2
    go_ret
    exact ⟨rfl, hf⟩
  | some x =>
    obtain ⟨n, c⟩ := x
    obtain ⟨hn8, hc12⟩ := chk_bad hk
    rw [hk] at hW
    obtain ⟨G, cp, rfl, hPt⟩ := hW
    have hfa := (Fr.refl no w3).alloc (.cells #[.slice (some ⟨G, 0, none⟩) 1 cp, .int .i64 c] 70)
    have hX := blk_new w3 (.cells #[.slice (some ⟨G, 0, none⟩) 1 cp, .int .i64 c] 70)
    replace hf := hf.trans' hfa
    replace hPt := hPt.fr hfa
    clear hfa hRC
    have HK := Lib.hid hk
    have hc0 : (c != 0) = true := by simp; omega
    clear hk
    unfold wrongC
    go_wp2_with fail
    generalize w3.alloc _ = w4 at *
    generalize w3.heap.size = X at *
    have hall : Hid (∀ u, Fr no w4 u → u.cell? ⟨X, 0, none⟩ = some (.slice (some ⟨G, 0, none⟩) 1 cp) ∧ u.cell? ⟨X, 1, none⟩ = some (.int .i64 c)) := fun u h => wrong_load (h.heap hX (fun h => h))
    have hfd := (Fr.refl no w4).drew
    have hpl := hall.out _ hfd
    have HPt := Lib.hid hPt
    clear hX hPt
    refine wp_region_plan (fun u => u.cell? ⟨X, 0, none⟩ = some (.slice (some ⟨G, 0, none⟩) 1 cp) ∧ u.cell? ⟨X, 1, none⟩ = some (.int .i64 c)) [(0, false), (2, false), (1, true), (3, true), (4, false)] (by kernel_rfl) (by kernel_rfl) (fun _ _ _ _ _ h => h) (hpl) ?_
    simp only [planOps, List.getElem?_toArray, List.getElem?_cons_succ, List.getElem?_cons_zero]
    repeat (first
      | (refine plan_step (by rfl) ?_; apply Exists.intro; refine ⟨fun x hSx => ?_, ?_⟩; ((try dsimp only at hSx); go_simp; (try rw [if_neg (by omega)]); (try with_reducible rfl)); (simp only [Act.put, List.setIfInBounds_toArray, List.set_cons_zero, List.set_cons_succ]))
      | (refine plan_skip (by rfl) ?_; (simp only [Act.put, List.setIfInBounds_toArray, List.set_cons_zero, List.set_cons_succ])))
    refine plan_run (by rfl) (fun K hK => ?_)
    go_simp
    refine (check_any A cap t HB.out (by omega) hcap _ (C_fr hC (hf.trans' hfd))).mono ?_
    rintro e w5 ⟨v, rfl, hE, hf5⟩
    rw [HK.out] at hE
    obtain ⟨F, rfl, hF⟩ := hE
    have hf45 := hfd.trans' hf5
    dsimp only
    refine hK.out (fun u => True) _ _ (hall.out _ hf45) (trivial) ?_
    clear hK K
    try simp only [Act.put, List.setIfInBounds_toArray, List.set_cons_zero, List.set_cons_succ]
    repeat (first
      | (refine plan_step (by rfl) ?_; apply Exists.intro; refine ⟨fun x hSx => ?_, ?_⟩; ((try dsimp only at hSx); go_simp; (try rw [if_neg (by omega)]); (try with_reducible rfl)); (simp only [Act.put, List.setIfInBounds_toArray, List.set_cons_zero, List.set_cons_succ]))
      | (refine plan_skip (by rfl) ?_; (simp only [Act.put, List.setIfInBounds_toArray, List.set_cons_zero, List.set_cons_succ])))
    refine plan_run (by rfl) (fun K hK => ?_)
    go_simp
    refine (tellsC_c F G cp stepB n c n rfl (by omega) (by omega) (by omega) (by decide) _ (HG.out.fr (hf.trans' hf45) (fun h => h)) hF (HPt.out.fr hf45)).mono ?_
    rintro e w6 ⟨rfl, hf6⟩
    have hf46 := hf45.trans' hf6
    dsimp only
    refine hK.out (fun u => True) _ _ (⟨hall.out _ hf46, trivial⟩) (trivial) ?_
    clear hK K
    try simp only [Act.put, List.setIfInBounds_toArray, List.set_cons_zero, List.set_cons_succ]
    repeat (first
      | (refine plan_step (by rfl) ?_; apply Exists.intro; refine ⟨fun x hSx => ?_, ?_⟩; ((try dsimp only at hSx); go_simp; (try rw [if_neg (by omega)]); (try with_reducible rfl)); (simp only [Act.put, List.setIfInBounds_toArray, List.set_cons_zero, List.set_cons_succ]))
      | (refine plan_skip (by rfl) ?_; (simp only [Act.put, List.setIfInBounds_toArray, List.set_cons_zero, List.set_cons_succ])))
    refine plan_done ?_
    obtain ⟨x0, x1⟩ := hall.out _ hf46
    replace hf := hf.trans' hf46
    clear hf46 hf45 hfd hall hf5 hf6 hF hpl
    go_wp2
    go_ret
    exact ⟨rfl, hf⟩
theorem any_row (w : World) (hL : laidMetH Tryd.prog [("errors.errorType", Rows.laid_errors_errorType)] w) (A : Option Addr) (cap : Nat) (t : List Step) (p q : Int) (hC : kStep.C w A t.length t) (hcap : t.length ≤ cap) (hb : ∀ x ∈ t, wfStep x) (hp : (Lit.int .i64 p).wf = true) (hq : (Lit.int .i64 q).wf = true) :
    Calls Tryd.prog 10 #[.slice A t.length cap, .int .i64 p, .int .i64 q] w fun e w' => e = .returned (.bool true) ∧ Fr no w w' := by
  have b1 := Go.bounds_i64 hp
  have b2 := Go.bounds_i64 hq
  exact any_c w (errType_of_laid hL) A cap t p q hC hcap hb b1.1 b1.2 b2.1
end Go.Proofs.YtdkkdoadafhfmaaDoor.Grid
