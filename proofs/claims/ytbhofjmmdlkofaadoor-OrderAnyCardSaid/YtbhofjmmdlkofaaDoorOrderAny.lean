import Derived.Test.YtbhofjmmdlkofaaDoorOrderG
import Derived.Test.YtbhofjmmdlkofaaDoorGridT
import Derived.Test.YtbhofjmmdlkofaaDoorOrderY
import Derived.Lib.LaidTab
import Derived.Lib.LaidU8
/-! The reference's CheckOrder. -/
set_option linter.unusedVariables false
set_option linter.unusedSimpArgs false
namespace Go.Proofs.YtbhofjmmdlkofaaDoor.Order
open Go.RowKit Go.Proofs.YtbhofjmmdlkofaaDoorW.PrintWords Go.Proofs.YtbhofjmmdlkofaaDoor.B Go.Proofs.YtbhofjmmdlkofaaDoor.Err Go.Proofs.YtbhofjmmdlkofaaDoor.POrderAny Go.Proofs.YtbhofjmmdlkofaaDoorW.PrintMore

abbrev PP := S61
/-- What the reference answers. -/
def ansO (a : Nat × Int) : List PP × Int := if a.2 = 0 then ([], 0) else ([⟨orderW, (a.1 : Int)⟩], a.2)
set_option maxHeartbeats 2000000 in
theorem rorder_key (t : List Grid.Step) (hw : Grid.Wf t) (x : Order) (hp : -9223372036854775808 ≤ x.Price) :
    straddleref6_CheckOrder.f (t.length + 4) x.ID x.Owner x.Side x.Price x.Qty x.Cust x.Life (t.map Grid.toR) = some (ansO (wrongF t x)) := by
  obtain ⟨id, ow, sd, pr, q, cu, lf⟩ := x
  dsimp only at hp ⊢
  have ho := Grid.on6 t hw pr (t.length + 1) (by omega) hp
  unfold straddleref6_CheckOrder.f
  by_cases h1 : id < 1
  · have e : wrongF t ⟨id, ow, sd, pr, q, cu, lf⟩ = (0, 1) := by unfold wrongF; simp [h1]
    rw [e, if_pos h1]
    rfl
  rw [if_neg h1]
  have j0a : ∀ b : Bool, b = (decide (ow < 0) || decide (64 < ow)) → straddleref6_CheckOrder.j0 (t.length + 4) (t.map Grid.toR) b id ow sd pr q cu lf = some (ansO (wrongF t ⟨id, ow, sd, pr, q, cu, lf⟩)) := by
    intro b hb
    rw [straddleref6_CheckOrder.j0]
    cases b with
    | true =>
      have h2 : ow < 0 ∨ 64 < ow := by simpa using hb.symm
      have e : wrongF t ⟨id, ow, sd, pr, q, cu, lf⟩ = (1, 1) := by unfold wrongF; simp [h1, h2]
      rw [e, if_pos rfl]
      rfl
    | false =>
      have h2 : ¬ (ow < 0 ∨ 64 < ow) := by simpa using hb.symm
      rw [if_neg (by decide)]
      have j1a : ∀ b : Bool, b = decide (¬ (sd = 1 ∨ sd = 2)) → straddleref6_CheckOrder.j1 (t.length + 3) (t.map Grid.toR) b id ow sd pr q cu lf = some (ansO (wrongF t ⟨id, ow, sd, pr, q, cu, lf⟩)) := by
        intro b hb
        rw [straddleref6_CheckOrder.j1]
        cases b with
        | true =>
          have h3 : ¬ (sd = 1 ∨ sd = 2) := of_decide_eq_true hb.symm
          have e : wrongF t ⟨id, ow, sd, pr, q, cu, lf⟩ = (2, 1) := by unfold wrongF; simp only; rw [if_neg h1, if_neg h2, if_pos h3]
          rw [e, if_pos rfl]
          rfl
        | false =>
          have h3 : ¬ ¬ (sd = 1 ∨ sd = 2) := of_decide_eq_false hb.symm
          rw [if_neg (by decide)]
          have j2a : ∀ b : Bool, b = decide (¬ (1 ≤ pr ∧ pr ≤ 1000000)) → straddleref6_CheckOrder.j2 (t.length + 2) (t.map Grid.toR) b id ow sd pr q cu lf = some (ansO (wrongF t ⟨id, ow, sd, pr, q, cu, lf⟩)) := by
            intro b hb
            rw [straddleref6_CheckOrder.j2]
            cases b with
            | true =>
              have h4 : ¬ (1 ≤ pr ∧ pr ≤ 1000000) := of_decide_eq_true hb.symm
              have e : wrongF t ⟨id, ow, sd, pr, q, cu, lf⟩ = (3, 1) := by unfold wrongF priceE; simp only; rw [if_neg h1, if_neg h2, if_neg h3, if_neg h4, if_pos (by decide)]
              rw [e, if_pos rfl]
              rfl
            | false =>
              have h4 : 1 ≤ pr ∧ pr ≤ 1000000 := Decidable.not_not.1 (of_decide_eq_false hb.symm)
              rw [if_neg (by decide), ho, Option.bind_some]
              cases hon : Grid.onF t pr with
              | false =>
                have e : wrongF t ⟨id, ow, sd, pr, q, cu, lf⟩ = (3, 10) := by unfold wrongF priceE; simp only; rw [if_neg h1, if_neg h2, if_neg h3, if_pos h4, hon]; rfl
                rw [e, if_neg (by decide)]
                rfl
              | true =>
                rw [if_pos rfl]
                have j3a : ∀ b : Bool, b = (decide (q < 1) || decide (1000000 < q)) → straddleref6_CheckOrder.j3 (t.length + 1) b id ow sd pr q cu lf = some (ansO (wrongF t ⟨id, ow, sd, pr, q, cu, lf⟩)) := by
                  intro b hb
                  have hpr : priceE t pr = 0 := by unfold priceE; rw [if_pos h4, hon]; rfl
                  rw [straddleref6_CheckOrder.j3]
                  cases b with
                  | true =>
                    have h5 : q < 1 ∨ 1000000 < q := by simpa using hb.symm
                    have e : wrongF t ⟨id, ow, sd, pr, q, cu, lf⟩ = (4, 1) := by unfold wrongF; simp only; rw [if_neg h1, if_neg h2, if_neg h3, if_neg (not_not_intro hpr), if_pos h5]
                    rw [e, if_pos rfl]
                    rfl
                  | false =>
                    have h5 : ¬ (q < 1 ∨ 1000000 < q) := by simpa using hb.symm
                    rw [if_neg (by decide)]
                    by_cases l1 : lf < 1
                    · have hl : livesB lf = false := by unfold livesB; simp; omega
                      have e : wrongF t ⟨id, ow, sd, pr, q, cu, lf⟩ = (6, 1) := by unfold wrongF; simp only; rw [if_neg h1, if_neg h2, if_neg h3, if_neg (not_not_intro hpr), if_neg h5, if_pos hl]
                      rw [e, if_pos l1]
                      rfl
                    · rw [if_neg l1]
                      by_cases l2 : lf > 4
                      · have hl : livesB lf = false := by unfold livesB; simp; omega
                        have e : wrongF t ⟨id, ow, sd, pr, q, cu, lf⟩ = (6, 1) := by unfold wrongF; simp only; rw [if_neg h1, if_neg h2, if_neg h3, if_neg (not_not_intro hpr), if_neg h5, if_pos hl]
                        rw [e, if_pos l2]
                        rfl
                      · have hl : livesB lf = true := by unfold livesB; simp; omega
                        have e : wrongF t ⟨id, ow, sd, pr, q, cu, lf⟩ = (0, 0) := by unfold wrongF; simp only; rw [if_neg h1, if_neg h2, if_neg h3, if_neg (not_not_intro hpr), if_neg h5, if_neg (by simp [hl])]
                        rw [e, if_neg l2]
                        rfl
                by_cases q1 : q < 1
                · rw [if_pos q1]
                  exact j3a true (by simp [q1])
                · rw [if_neg q1]
                  exact j3a _ (by simp [q1])
          by_cases p1 : pr < 1
          · rw [if_pos p1]
            exact j2a true (by simp; omega)
          · rw [if_neg p1]
            refine j2a _ ?_
            by_cases p2 : pr > 1000000 <;> simp [p2] <;> omega
      by_cases s1 : sd = 1
      · rw [if_pos s1]
        exact j1a false (by simp [s1])
      · rw [if_neg s1]
        refine j1a _ ?_
        by_cases s2 : sd = 2 <;> simp [s1, s2]
  by_cases o1 : ow < 0
  · rw [if_pos o1]
    exact j0a true (by simp [o1])
  · rw [if_neg o1]
    exact j0a _ (by simp [o1])
end Go.Proofs.YtbhofjmmdlkofaaDoor.Order

/-! OrderAny. -/
set_option linter.unusedVariables false
set_option linter.unusedSimpArgs false
namespace Go.Proofs.YtbhofjmmdlkofaaDoor.Order
open Go.RowKit Go.Proofs.YtbhofjmmdlkofaaDoorW.PrintWords Go.Proofs.YtbhofjmmdlkofaaDoor.B Go.Proofs.YtbhofjmmdlkofaaDoor.Err Go.Proofs.YtbhofjmmdlkofaaDoor.POrderAny Go.Proofs.YtbhofjmmdlkofaaDoorW.PrintMore

theorem field_err (w : World) (A : Option Addr) (n c : Nat) (r : Int) : (Instr.field 29 (.agg #[.slice A n c, .int .i64 r]) 1).run Tryd.prog w = .ok (.int .i64 r) w := by kernel_rfl
attribute [local go_sem] field_err
def AnsO (w : World) (v : Value) (a : Nat × Int) : Prop := (a.2 = 0 → ∃ A n c, v = .agg #[.slice A n c, .int .i64 0]) ∧ (a.2 ≠ 0 → ∃ G c, v = wrongC G c a.2 ∧ PartAt w G orderW a.1)
theorem rorder_c (A : Option Addr) (cap : Nat) (t : List Grid.Step) (hw : Grid.Wf t) (x : Order) (hp : -9223372036854775808 ≤ x.Price) (hcap : t.length ≤ cap) (w : World) (hC : Grid.RC w A t) :
    Calls Tryd.prog 9 #[x.val, .slice A t.length cap] w fun e w' => ∃ v, e = .returned v ∧ AnsO w' v (wrongF t x) ∧ Fr no w w' := by
  have h := straddleref6_CheckOrder.calls _ x.ID x.Owner x.Side x.Price x.Qty x.Cust x.Life A cap (t.map Grid.toR) (ansO (wrongF t x)).1 (ansO (wrongF t x)).2 w hC (by rw [List.length_map]; exact hcap) (rorder_key t hw x hp)
  rw [List.length_map] at h
  refine h.mono fun e w' ⟨v, h3, hR, h4⟩ => ⟨_, h3, ?_, Fr.of_below h4⟩
  generalize wrongF t x = a at *
  obtain ⟨n, c⟩ := a
  unfold ansO at hR
  unfold AnsO ansO
  dsimp only at hR ⊢
  by_cases hc : c = 0
  · subst hc
    rw [if_pos rfl] at hR
    obtain ⟨A', c', rfl⟩ := Kd.R_slice hR
    exact ⟨fun _ => ⟨_, _, _, rfl⟩, fun h => absurd rfl h⟩
  · rw [if_neg hc] at hR
    rw [if_neg hc]
    refine ⟨fun h => absurd h hc, fun _ => ?_⟩
    obtain ⟨g, cm, rfl, _, _, _⟩ := Kd.R_form hR (Nat.zero_lt_one)
    obtain ⟨ad, e1, c1, c2⟩ := at_T61 (Kd.R_reads' hR).2.2 0 (by omega) (Int.zero_lt_one)
    obtain rfl := (Option.some.inj e1).symm
    exact ⟨g, cm, rfl, c1, c2⟩
theorem of_o (x : Order) (w : World) : Calls Tryd.prog 10 #[x.val] w fun e w' => e = .returned x.val ∧ Fr no w w' :=
  (straddlelaw11_Of.calls _ _ _ _ _ _ _ _ _ _ _ _ _ _ w rfl).mono fun e w' ⟨h, h2⟩ => ⟨h, Fr.of_below h2⟩
theorem ropp_c (s : Int) (w : World) : Calls Tryd.prog 12 #[.int .i64 s] w fun e w' => e = .returned (.int .i64 (if s = 1 then 2 else if s = 2 then 1 else 0)) ∧ Fr no w w' :=
  (straddleref6_Opposite.calls s (if s = 1 then 2 else if s = 2 then 1 else 0) w (by
    unfold straddleref6_Opposite.f
    by_cases a : s = 1
    · simp [a]
    · by_cases b : s = 2 <;> simp [a, b])).mono fun e w' ⟨h, h2⟩ => ⟨h, Fr.of_below h2.below⟩
theorem rtakes_c (x : Order) (p : Int) (hs : x.Side = 1 ∨ x.Side = 2) (w : World) : Calls Tryd.prog 14 #[x.val, .int .i64 p] w fun e w' => e = .returned (.bool (takesB x p)) ∧ Fr no w w' :=
  (straddleref6_Takes.calls _ _ _ _ _ _ _ p (takesB x p) w (by
    unfold straddleref6_Takes.f takesB
    rcases hs with h | h
    · rw [if_pos h, if_pos h]
    · rw [if_neg (by omega), if_neg (by omega), if_pos h])).mono fun e w' ⟨h, h2⟩ => ⟨h, Fr.of_below h2⟩
theorem tells_o (A : Option Addr) (n c : Nat) (w : World) : Calls Tryd.prog 7 #[.nilIface, .agg #[.slice A n c, .int .i64 0]] w fun e w' => e = .returned (.bool true) ∧ Fr no w w' := by
  go_enter Tryd.func7, Tryd.ntmps7
  go_wp2
  go_ret
  exact ⟨rfl, (Fr.refl no w).alloc _⟩
/-- What the two answer, compared. -/
theorem tells_two (a : Nat × Int) (ha : a.1 ≤ 6 ∧ (0 ≤ a.2 ∧ a.2 ≤ 10)) (w : World) (hg : ErrType w) (v u : Value) (h1 : AnsC w v a) (h2 : AnsO w u a) : Calls Tryd.prog 7 #[v, u] w fun e w' => e = .returned (.bool true) ∧ Fr no w w' := by
  obtain ⟨n, c⟩ := a
  by_cases hc : c = 0
  · subst hc
    obtain rfl := h1.1 rfl
    obtain ⟨A, k, cp, rfl⟩ := h2.1 rfl
    exact tells_o A k cp w
  · obtain ⟨F, rfl, hF⟩ := h1.2 hc
    obtain ⟨G, cp, rfl, hG⟩ := h2.2 hc
    exact tellsC_c F G cp orderW n c n rfl (by dsimp only at ha; omega) (by dsimp only at ha hc; omega) (by dsimp only at ha; omega) (by decide) w hg hF hG
set_option maxRecDepth 100000 in
set_option maxHeartbeats 8000000 in
theorem any_c (w : World) (hg : ErrType w) (ht : Tab w) (x : Order) (A : Option Addr) (cap : Nat) (t : List Grid.Step) (p : Int) (hC : Grid.kStep.C w A t.length t) (hcap : t.length ≤ cap) (h1 : Err.i64 x.ID) (h2 : Err.i64 x.Owner) (h3 : Err.i64 x.Price) (h4 : Err.i64 x.Qty) :
    Calls Tryd.prog 3 #[x.val, .slice A t.length cap, .int .i64 p] w fun e w' => e = .returned (.bool true) ∧ Fr no w w' := by
  have HH := Lib.hid (And.intro hg (And.intro ht (And.intro hC (And.intro h1 (And.intro h2 (And.intro h3 h4))))))
  have hX := blk_new w (.cells #[.int .i64 x.ID, .int .i64 x.Owner, .int .i64 x.Side, .int .i64 x.Price, .int .i64 x.Qty, .bool x.Cust, .int .i64 x.Life] 23)
  have hfa := (Fr.refl no w).alloc (.cells #[.int .i64 x.ID, .int .i64 x.Owner, .int .i64 x.Side, .int .i64 x.Price, .int .i64 x.Qty, .bool x.Cust, .int .i64 x.Life] 23)
  have HV : Hid (x.val = .agg #[.int .i64 x.ID, .int .i64 x.Owner, .int .i64 x.Side, .int .i64 x.Price, .int .i64 x.Qty, .bool x.Cust, .int .i64 x.Life]) := rfl
  clear hg ht hC h1 h2 h3 h4
  unfold Order.val
  go_enter Tryd.func3, Tryd.ntmps3
  go_wp2_with fail
  generalize w.alloc _ = w1 at *
  generalize w.heap.size = X at *
  have HK : Hid (∀ u, Fr no w1 u → u.cell? ⟨X, 0, none⟩ = some (.int .i64 x.ID) ∧ u.cell? ⟨X, 1, none⟩ = some (.int .i64 x.Owner) ∧ u.cell? ⟨X, 2, none⟩ = some (.int .i64 x.Side) ∧ u.cell? ⟨X, 3, none⟩ = some (.int .i64 x.Price) ∧ u.cell? ⟨X, 4, none⟩ = some (.int .i64 x.Qty) ∧ u.cell? ⟨X, 5, none⟩ = some (.bool x.Cust) ∧ u.cell? ⟨X, 6, none⟩ = some (.int .i64 x.Life)) := fun u h => ⟨blk_cell (h.heap hX (fun h => h)) 0, blk_cell (h.heap hX (fun h => h)) 1, blk_cell (h.heap hX (fun h => h)) 2, blk_cell (h.heap hX (fun h => h)) 3, blk_cell (h.heap hX (fun h => h)) 4, blk_cell (h.heap hX (fun h => h)) 5, blk_cell (h.heap hX (fun h => h)) 6⟩
  have HFA := Lib.hid hfa
  clear hX hfa
  refine (known_c w1).mono ?_
  rintro e w2 ⟨rfl, hf⟩
  dsimp only
  by_cases h8 : 8 < t.length
  · go_wp2
    go_ret
    exact ⟨rfl, HFA.out.trans' hf⟩
  go_wp2_with fail
  refine (Grid.of6_c A cap t (by omega) hcap _ (C_fr HH.out.2.2.1 (HFA.out.trans' hf))).mono ?_
  rintro e w3 ⟨v, rfl, hR, hf3⟩
  replace hf := hf.trans' hf3
  obtain ⟨A2, c2, rfl⟩ := Kd.R_slice hR
  obtain ⟨_, hcap2, hRC⟩ := Kd.R_reads' hR
  rw [List.length_map] at hcap2
  clear hf3 hR
  rw [List.length_map]
  dsimp only
  go_wp2_with fail
  refine (Grid.rcheck_c A2 c2 t hcap2 _ hRC).mono ?_
  rintro e w4 ⟨v, rfl, hW, hf4⟩
  replace hf := hf.trans' hf4
  clear hf4 hRC hcap2
  cases hk : Grid.chk t with
  | some a =>
    obtain ⟨n, c⟩ := a
    have hcb := (Grid.chk_bad hk).2
    have hne : (c != 0) = true := by rcases hcb with rfl | rfl <;> rfl
    rw [hk] at hW
    obtain ⟨g, cm, rfl, _⟩ := hW
    clear hcb hk
    unfold wrongC
    dsimp only
    go_wp2
    go_ret
    exact ⟨rfl, HFA.out.trans' hf⟩
  | none =>
    have hwf := Grid.chk_wf hk
    have HWF := Lib.hid hwf
    rw [hk] at hW
    obtain ⟨A3, n3, c3, rfl⟩ := hW
    clear hk hwf
    dsimp only
    go_wp2_with fail
    have hfd := hf.drew
    have hpl := HK.out _ hfd
    have HD : Hid (∀ u, Fr no w1 u → Fr no w u) := fun u h => HFA.out.trans' h
    refine wp_region_plan (fun u => u.cell? ⟨X, 0, none⟩ = some (.int .i64 x.ID) ∧ u.cell? ⟨X, 1, none⟩ = some (.int .i64 x.Owner) ∧ u.cell? ⟨X, 2, none⟩ = some (.int .i64 x.Side) ∧ u.cell? ⟨X, 3, none⟩ = some (.int .i64 x.Price) ∧ u.cell? ⟨X, 4, none⟩ = some (.int .i64 x.Qty) ∧ u.cell? ⟨X, 5, none⟩ = some (.bool x.Cust) ∧ u.cell? ⟨X, 6, none⟩ = some (.int .i64 x.Life)) [(0, false), (1, false), (3, false), (5, false), (2, true), (4, true), (6, true), (7, true), (8, true), (9, false), (10, false), (11, false), (12, false), (14, false), (15, false), (13, true), (16, true), (17, false), (18, false)] (by kernel_rfl) (by kernel_rfl) (fun _ _ _ _ _ h => h) (hpl) ?_
    simp only [planOps, List.getElem?_toArray, List.getElem?_cons_succ, List.getElem?_cons_zero]
    repeat (first
      | (refine plan_step (by rfl) ?_; apply Exists.intro; refine ⟨fun x hSx => ?_, ?_⟩; ((try dsimp only at hSx); go_simp; (try rw [if_neg (by omega)]); (try with_reducible rfl)); (simp only [Act.put, List.setIfInBounds_toArray, List.set_cons_zero, List.set_cons_succ]))
      | (refine plan_skip (by rfl) ?_; (simp only [Act.put, List.setIfInBounds_toArray, List.set_cons_zero, List.set_cons_succ])))
    refine plan_run (by rfl) (fun K hK => ?_)
    go_simp
    refine (check_g A cap t x HWF.out _ (C_fr HH.out.2.2.1 (HD.out _ hfd))).mono ?_
    rintro e w5 ⟨⟨v1, rfl, hA1⟩, g⟩
    have hf5 := hfd.trans' g
    have q5 := HK.out _ hf5
    clear g
    dsimp only
    refine hK.out (fun u => True) _ _ (q5) (trivial) ?_
    clear hK K
    try simp only [Act.put, List.setIfInBounds_toArray, List.set_cons_zero, List.set_cons_succ]
    repeat (first
      | (refine plan_step (by rfl) ?_; apply Exists.intro; refine ⟨fun x hSx => ?_, ?_⟩; ((try dsimp only at hSx); go_simp; (try rw [if_neg (by omega)]); (try with_reducible rfl)); (simp only [Act.put, List.setIfInBounds_toArray, List.set_cons_zero, List.set_cons_succ]))
      | (refine plan_skip (by rfl) ?_; (simp only [Act.put, List.setIfInBounds_toArray, List.set_cons_zero, List.set_cons_succ])))
    refine plan_run (by rfl) (fun K hK => ?_)
    go_simp
    refine (of_o x _).mono ?_
    rintro e w6 ⟨rfl, g6⟩
    have hf6 := hf5.trans' g6
    have q6 := HK.out _ hf6
    unfold Order.val
    dsimp only
    refine hK.out (fun u => True) _ _ (⟨q6, trivial⟩) (trivial) ?_
    clear hK K
    try simp only [Act.put, List.setIfInBounds_toArray, List.set_cons_zero, List.set_cons_succ]
    repeat (first
      | (refine plan_step (by rfl) ?_; apply Exists.intro; refine ⟨fun x hSx => ?_, ?_⟩; ((try dsimp only at hSx); go_simp; (try rw [if_neg (by omega)]); (try with_reducible rfl)); (simp only [Act.put, List.setIfInBounds_toArray, List.set_cons_zero, List.set_cons_succ]))
      | (refine plan_skip (by rfl) ?_; (simp only [Act.put, List.setIfInBounds_toArray, List.set_cons_zero, List.set_cons_succ])))
    refine plan_run (by rfl) (fun K hK => ?_)
    go_simp
    refine (Grid.of6_c A cap t (by omega) hcap _ (C_fr HH.out.2.2.1 (HD.out _ hf6))).mono ?_
    rintro e w7 ⟨v, rfl, hR, g7⟩
    have hf7 := hf6.trans' g7
    have q7 := HK.out _ hf7
    obtain ⟨A4, c4, rfl⟩ := Kd.R_slice hR
    obtain ⟨_, hcap4, hRC⟩ := Kd.R_reads' hR
    rw [List.length_map] at hcap4
    clear hR
    rw [List.length_map]
    dsimp only
    refine hK.out (fun u => True) _ _ (⟨⟨q7, trivial⟩, trivial⟩) (trivial) ?_
    clear hK K
    try simp only [Act.put, List.setIfInBounds_toArray, List.set_cons_zero, List.set_cons_succ]
    repeat (first
      | (refine plan_step (by rfl) ?_; apply Exists.intro; refine ⟨fun x hSx => ?_, ?_⟩; ((try dsimp only at hSx); go_simp; (try rw [if_neg (by omega)]); (try with_reducible rfl)); (simp only [Act.put, List.setIfInBounds_toArray, List.set_cons_zero, List.set_cons_succ]))
      | (refine plan_skip (by rfl) ?_; (simp only [Act.put, List.setIfInBounds_toArray, List.set_cons_zero, List.set_cons_succ])))
    refine plan_run (by rfl) (fun K hK => ?_)
    go_simp
    refine (rorder_c A4 c4 t HWF.out x HH.out.2.2.2.2.2.1.1 hcap4 _ hRC).mono ?_
    rintro e w8 ⟨v2, rfl, hA2, g8⟩
    have hf8 := hf7.trans' g8
    have q8 := HK.out _ hf8
    dsimp only
    refine hK.out (fun u => True) _ _ (⟨⟨⟨q8, trivial⟩, trivial⟩, trivial⟩) (trivial) ?_
    clear hK K
    try simp only [Act.put, List.setIfInBounds_toArray, List.set_cons_zero, List.set_cons_succ]
    repeat (first
      | (refine plan_step (by rfl) ?_; apply Exists.intro; refine ⟨fun x hSx => ?_, ?_⟩; ((try dsimp only at hSx); go_simp; (try rw [if_neg (by omega)]); (try with_reducible rfl)); (simp only [Act.put, List.setIfInBounds_toArray, List.set_cons_zero, List.set_cons_succ]))
      | (refine plan_skip (by rfl) ?_; (simp only [Act.put, List.setIfInBounds_toArray, List.set_cons_zero, List.set_cons_succ])))
    refine plan_run (by rfl) (fun K hK => ?_)
    go_simp
    refine (tells_two (wrongF t x) (wrongF_bd t x) _ (HH.out.1.fr (HD.out _ hf8) (fun h => h)) v1 v2 ⟨hA1.1, fun h => by obtain ⟨F, e1, h1⟩ := hA1.2 h; exact ⟨F, e1, ((g6.trans' g7).trans' g8).heap h1 (fun h => h)⟩⟩ hA2).mono ?_
    rintro e w9 ⟨rfl, g9⟩
    have hf9 := hf8.trans' g9
    have q9 := HK.out _ hf9
    dsimp only
    refine hK.out (fun u => True) _ _ (⟨⟨⟨⟨q9, trivial⟩, trivial⟩, trivial⟩, trivial⟩) (trivial) ?_
    clear hK K
    try simp only [Act.put, List.setIfInBounds_toArray, List.set_cons_zero, List.set_cons_succ]
    repeat (first
      | (refine plan_step (by rfl) ?_; apply Exists.intro; refine ⟨fun x hSx => ?_, ?_⟩; ((try dsimp only at hSx); go_simp; (try rw [if_neg (by omega)]); (try with_reducible rfl)); (simp only [Act.put, List.setIfInBounds_toArray, List.set_cons_zero, List.set_cons_succ]))
      | (refine plan_skip (by rfl) ?_; (simp only [Act.put, List.setIfInBounds_toArray, List.set_cons_zero, List.set_cons_succ])))
    refine plan_run (by rfl) (fun K hK => ?_)
    go_simp
    refine (opp_c x.Side _).mono ?_
    rintro e w10 ⟨rfl, rfl⟩
    obtain ⟨so, hso⟩ : ∃ z, (if x.Side = 1 then (2 : Int) else if x.Side = 2 then 1 else 0) = z := ⟨_, rfl⟩
    have HSO := Lib.hid hso
    rw [hso]
    clear hso
    dsimp only
    refine hK.out (fun u => True) _ _ (⟨⟨⟨⟨⟨q9, trivial⟩, trivial⟩, trivial⟩, trivial⟩, trivial⟩) (trivial) ?_
    clear hK K
    try simp only [Act.put, List.setIfInBounds_toArray, List.set_cons_zero, List.set_cons_succ]
    repeat (first
      | (refine plan_step (by rfl) ?_; apply Exists.intro; refine ⟨fun x hSx => ?_, ?_⟩; ((try dsimp only at hSx); go_simp; (try rw [if_neg (by omega)]); (try with_reducible rfl)); (simp only [Act.put, List.setIfInBounds_toArray, List.set_cons_zero, List.set_cons_succ]))
      | (refine plan_skip (by rfl) ?_; (simp only [Act.put, List.setIfInBounds_toArray, List.set_cons_zero, List.set_cons_succ])))
    refine plan_run (by rfl) (fun K hK => ?_)
    go_simp
    refine (ropp_c x.Side _).mono ?_
    rintro e w10 ⟨rfl, g10⟩
    have hf10 := hf9.trans' g10
    have q10 := HK.out _ hf10
    rw [HSO.out]
    dsimp only
    refine hK.out (fun u => True) _ _ (⟨⟨⟨⟨⟨⟨q10, trivial⟩, trivial⟩, trivial⟩, trivial⟩, trivial⟩, trivial⟩) (trivial) ?_
    clear hK K
    try simp only [Act.put, List.setIfInBounds_toArray, List.set_cons_zero, List.set_cons_succ]
    repeat (first
      | (refine plan_step (by rfl) ?_; apply Exists.intro; refine ⟨fun x hSx => ?_, ?_⟩; ((try dsimp only at hSx); go_simp; (try rw [if_neg (by omega)]); (try with_reducible rfl)); (simp only [Act.put, List.setIfInBounds_toArray, List.set_cons_zero, List.set_cons_succ]))
      | (refine plan_skip (by rfl) ?_; (simp only [Act.put, List.setIfInBounds_toArray, List.set_cons_zero, List.set_cons_succ])))
    refine plan_done ?_
    clear hpl q5 q6 q7 q8 q9 g6 g7 g8 g9 g10 hA1 hA2 hfd hf5 hf6 hf7 hf8 hf9 hRC hcap4 hf
    obtain ⟨k0, k1, k2, k3, k4, k5, k6⟩ := q10
    by_cases hs : x.Side = 1 ∨ x.Side = 2
    rotate_left
    · have s1 : (x.Side != 1) = true := by simp; omega
      have s2 : (x.Side != 2) = true := by simp; omega
      clear hs
      go_wp2
      go_ret
      exact ⟨rfl, HFA.out.trans' hf10⟩
    have HSD := Lib.hid hs
    have hsn : ((x.Side != 1) = false) ∨ ((x.Side != 1) = true ∧ (x.Side != 2) = false) := by
      rcases hs with h | h
      · exact .inl (by simp [h])
      · exact .inr ⟨by simp [h], by simp [h]⟩
    clear hs
    rcases hsn with s1 | ⟨s1, s2⟩
    all_goals
      go_wp2_with fail
      clear k0 k1 k2 k3 k4 k5 k6
      have hfd := hf10.drew
      have hpl := HK.out _ hfd
      refine wp_region_plan (fun u => u.cell? ⟨X, 0, none⟩ = some (.int .i64 x.ID) ∧ u.cell? ⟨X, 1, none⟩ = some (.int .i64 x.Owner) ∧ u.cell? ⟨X, 2, none⟩ = some (.int .i64 x.Side) ∧ u.cell? ⟨X, 3, none⟩ = some (.int .i64 x.Price) ∧ u.cell? ⟨X, 4, none⟩ = some (.int .i64 x.Qty) ∧ u.cell? ⟨X, 5, none⟩ = some (.bool x.Cust) ∧ u.cell? ⟨X, 6, none⟩ = some (.int .i64 x.Life)) [(0, false), (1, false), (3, false), (5, false), (2, true), (4, true), (6, true), (7, false), (8, false), (9, false), (11, false), (10, true), (12, true), (13, true), (14, false), (15, false), (16, false)] (by kernel_rfl) (by kernel_rfl) (fun _ _ _ _ _ h => h) (hpl) ?_
      simp only [planOps, List.getElem?_toArray, List.getElem?_cons_succ, List.getElem?_cons_zero]
      repeat (first
        | (refine plan_step (by rfl) ?_; apply Exists.intro; refine ⟨fun x hSx => ?_, ?_⟩; ((try dsimp only at hSx); go_simp; (try rw [if_neg (by omega)]); (try with_reducible rfl)); (simp only [Act.put, List.setIfInBounds_toArray, List.set_cons_zero, List.set_cons_succ]))
        | (refine plan_skip (by rfl) ?_; (simp only [Act.put, List.setIfInBounds_toArray, List.set_cons_zero, List.set_cons_succ])))
      refine plan_run (by rfl) (fun K hK => ?_)
      go_simp
      refine (takes_c x p _).mono ?_
      rintro e w5 ⟨rfl, g⟩
      have hf5 := hfd.trans' g
      have q5 := HK.out _ hf5
      clear g
      obtain ⟨tb, htb⟩ : ∃ z, takesB x p = z := ⟨_, rfl⟩
      have HTB := Lib.hid htb
      rw [htb]
      clear htb
      dsimp only
      refine hK.out (fun u => True) _ _ (q5) (trivial) ?_
      clear hK K
      try simp only [Act.put, List.setIfInBounds_toArray, List.set_cons_zero, List.set_cons_succ]
      repeat (first
        | (refine plan_step (by rfl) ?_; apply Exists.intro; refine ⟨fun x hSx => ?_, ?_⟩; ((try dsimp only at hSx); go_simp; (try rw [if_neg (by omega)]); (try with_reducible rfl)); (simp only [Act.put, List.setIfInBounds_toArray, List.set_cons_zero, List.set_cons_succ]))
        | (refine plan_skip (by rfl) ?_; (simp only [Act.put, List.setIfInBounds_toArray, List.set_cons_zero, List.set_cons_succ])))
      refine plan_run (by rfl) (fun K hK => ?_)
      go_simp
      refine (of_o x _).mono ?_
      rintro e w6 ⟨rfl, g6⟩
      have hf6 := hf5.trans' g6
      have q6 := HK.out _ hf6
      unfold Order.val
      dsimp only
      refine hK.out (fun u => True) _ _ (⟨q6, trivial⟩) (trivial) ?_
      clear hK K
      try simp only [Act.put, List.setIfInBounds_toArray, List.set_cons_zero, List.set_cons_succ]
      repeat (first
        | (refine plan_step (by rfl) ?_; apply Exists.intro; refine ⟨fun x hSx => ?_, ?_⟩; ((try dsimp only at hSx); go_simp; (try rw [if_neg (by omega)]); (try with_reducible rfl)); (simp only [Act.put, List.setIfInBounds_toArray, List.set_cons_zero, List.set_cons_succ]))
        | (refine plan_skip (by rfl) ?_; (simp only [Act.put, List.setIfInBounds_toArray, List.set_cons_zero, List.set_cons_succ])))
      refine plan_run (by rfl) (fun K hK => ?_)
      go_simp
      refine (rtakes_c x p HSD.out _).mono ?_
      rintro e w7 ⟨rfl, g7⟩
      have hf7 := hf6.trans' g7
      have q7 := HK.out _ hf7
      rw [HTB.out]
      dsimp only
      refine hK.out (fun u => True) _ _ (⟨⟨q7, trivial⟩, trivial⟩) (trivial) ?_
      clear hK K
      try simp only [Act.put, List.setIfInBounds_toArray, List.set_cons_zero, List.set_cons_succ]
      repeat (first
        | (refine plan_step (by rfl) ?_; apply Exists.intro; refine ⟨fun x hSx => ?_, ?_⟩; ((try dsimp only at hSx); go_simp; (try rw [if_neg (by omega)]); (try with_reducible rfl)); (simp only [Act.put, List.setIfInBounds_toArray, List.set_cons_zero, List.set_cons_succ]))
        | (refine plan_skip (by rfl) ?_; (simp only [Act.put, List.setIfInBounds_toArray, List.set_cons_zero, List.set_cons_succ])))
      refine plan_run (by rfl) (fun K hK => ?_)
      go_simp
      refine (text_any x HH.out.2.2.2.1 HH.out.2.2.2.2.1 HH.out.2.2.2.2.2.1 HH.out.2.2.2.2.2.2 HSD.out _ (HH.out.2.1.fr (HD.out _ hf7))).mono ?_
      rintro e w8 ⟨rfl, g8⟩
      have hf8 := hf7.trans' g8
      have q8 := HK.out _ hf8
      obtain ⟨tx, htx⟩ : ∃ z, txtB x = z := ⟨_, rfl⟩
      have HTX := Lib.hid htx
      rw [htx]
      clear htx
      dsimp only
      refine hK.out (fun u => True) _ _ (⟨⟨⟨q8, trivial⟩, trivial⟩, trivial⟩) (trivial) ?_
      clear hK K
      try simp only [Act.put, List.setIfInBounds_toArray, List.set_cons_zero, List.set_cons_succ]
      repeat (first
        | (refine plan_step (by rfl) ?_; apply Exists.intro; refine ⟨fun x hSx => ?_, ?_⟩; ((try dsimp only at hSx); go_simp; (try rw [if_neg (by omega)]); (try with_reducible rfl)); (simp only [Act.put, List.setIfInBounds_toArray, List.set_cons_zero, List.set_cons_succ]))
        | (refine plan_skip (by rfl) ?_; (simp only [Act.put, List.setIfInBounds_toArray, List.set_cons_zero, List.set_cons_succ])))
      refine plan_run (by rfl) (fun K hK => ?_)
      go_simp
      refine (of_o x _).mono ?_
      rintro e w9 ⟨rfl, g9⟩
      have hf9 := hf8.trans' g9
      have q9 := HK.out _ hf9
      unfold Order.val
      dsimp only
      refine hK.out (fun u => True) _ _ (⟨⟨⟨⟨q9, trivial⟩, trivial⟩, trivial⟩, trivial⟩) (trivial) ?_
      clear hK K
      try simp only [Act.put, List.setIfInBounds_toArray, List.set_cons_zero, List.set_cons_succ]
      repeat (first
        | (refine plan_step (by rfl) ?_; apply Exists.intro; refine ⟨fun x hSx => ?_, ?_⟩; ((try dsimp only at hSx); go_simp; (try rw [if_neg (by omega)]); (try with_reducible rfl)); (simp only [Act.put, List.setIfInBounds_toArray, List.set_cons_zero, List.set_cons_succ]))
        | (refine plan_skip (by rfl) ?_; (simp only [Act.put, List.setIfInBounds_toArray, List.set_cons_zero, List.set_cons_succ])))
      refine plan_run (by rfl) (fun K hK => ?_)
      go_simp
      refine (rtext_any x HH.out.2.2.2.1 HH.out.2.2.2.2.1 HH.out.2.2.2.2.2.1 HH.out.2.2.2.2.2.2 HSD.out _).mono ?_
      rintro e w11 ⟨rfl, g11⟩
      have hf11 := hf9.trans' g11
      have q11 := HK.out _ hf11
      rw [HTX.out]
      dsimp only
      refine hK.out (fun u => True) _ _ (⟨⟨⟨⟨⟨q11, trivial⟩, trivial⟩, trivial⟩, trivial⟩, trivial⟩) (trivial) ?_
      clear hK K
      try simp only [Act.put, List.setIfInBounds_toArray, List.set_cons_zero, List.set_cons_succ]
      repeat (first
        | (refine plan_step (by rfl) ?_; apply Exists.intro; refine ⟨fun x hSx => ?_, ?_⟩; ((try dsimp only at hSx); go_simp; (try rw [if_neg (by omega)]); (try with_reducible rfl)); (simp only [Act.put, List.setIfInBounds_toArray, List.set_cons_zero, List.set_cons_succ]))
        | (refine plan_skip (by rfl) ?_; (simp only [Act.put, List.setIfInBounds_toArray, List.set_cons_zero, List.set_cons_succ])))
      refine plan_done ?_
      have hfe := HFA.out.trans' hf11
      clear hpl q5 q6 q7 q8 q9 q11
      go_wp2
      go_ret
      exact ⟨by simp, hfe⟩
theorem tab_of {w : World} (h : Lib.VarReads Tryd.prog w "internal/strconv.uint64pow10" (Lib.tabData .u64 Lib.pow10Tab)) : Tab w := by
  obtain ⟨g', t', cs, fuel, p', hg', ht', hvar, hd⟩ := h
  obtain rfl := Option.some.inj ((show Tryd.prog.globalNamed "internal/strconv.uint64pow10" = some 1 by kernel_rfl).symm.trans hg')
  obtain rfl := Option.some.inj ((show (Tryd.prog.globals[1]?).map (·.type) = some 121 by kernel_rfl).symm.trans ht')
  unfold Tab Lib.TabIs
  rw [hvar, ← Lib.cells_of_tab Tryd.underlying121 Tryd.underlying91 (by kernel_rfl) (by kernel_rfl) hd]
theorem any_row (w : World) (hL : laidMetH Tryd.prog [("math/bits.deBruijn32tab", Rows.laid_math_bits_deBruijn32tab), ("math/bits.deBruijn64tab", Rows.laid_math_bits_deBruijn64tab), ("internal/strconv.uint64pow10", Rows.laid_internal_strconv_uint64pow10), ("errors.errorType", Rows.laid_errors_errorType)] w)
    (x : Order) (A : Option Addr) (cap : Nat) (t : List Grid.Step) (p : Int) (hx : wfOrder x) (hC : Grid.kStep.C w A t.length t) (hcap : t.length ≤ cap) (_ : ∀ y ∈ t, Grid.wfStep y) (_ : (Lit.int .i64 p).wf = true) :
    Calls Tryd.prog 3 #[.agg (kOrder_cells x).toArray, .slice A t.length cap, .int .i64 p] w fun e w' => e = .returned (.bool true) ∧ Fr no w w' := by
  have h' : laidMet Tryd.prog _ w ∧ handlesMet Tryd.prog [("errors.errorType", Rows.laid_errors_errorType)] w := hL
  have b1 := Go.bounds_i64 hx.1
  have b2 := Go.bounds_i64 hx.2.1
  have b4 := Go.bounds_i64 hx.2.2.2.1
  have b5 := Go.bounds_i64 hx.2.2.2.2.1
  have h3 : laidMet Tryd.prog [("math/bits.deBruijn32tab", Rows.laid_math_bits_deBruijn32tab), ("math/bits.deBruijn64tab", Rows.laid_math_bits_deBruijn64tab), ("internal/strconv.uint64pow10", Rows.laid_internal_strconv_uint64pow10)] w := h'.1
  have ht : Tab w := tab_of (Lib.laidMet.reads h3 (.tail _ (.tail _ (.head _))))
  exact any_c w (errType_of_handles h'.2) ht x A cap t p hC hcap b1 b2 b4 b5
end Go.Proofs.YtbhofjmmdlkofaaDoor.Order
