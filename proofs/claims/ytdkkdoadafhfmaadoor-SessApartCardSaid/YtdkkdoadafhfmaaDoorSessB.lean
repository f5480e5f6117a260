import Derived.Test.YtdkkdoadafhfmaaDoorSess
/-! Contracts of package sess: messages. -/
set_option linter.unusedVariables false
set_option linter.unusedSimpArgs false
namespace Go.Proofs.YtdkkdoadafhfmaaDoor.Sess
open Go.RowKit Go.Proofs.YtdkkdoadafhfmaaDoorW.PrintWords Go.Proofs.YtdkkdoadafhfmaaDoor.B

def msgV (k q : Int) : Value := .agg #[.int .i64 k, .int .i64 q, .int .i64 0, .int .i64 0, .int .i64 0, .int .i64 0, .int .i64 0, .int .i64 0, .slice none 0 0]
def msgO (k q : Int) : Obj := .cells #[.int .i64 k, .int .i64 q, .int .i64 0, .int .i64 0, .int .i64 0, .int .i64 0, .int .i64 0, .int .i64 0, .slice none 0 0] 41

set_option maxRecDepth 100000 in
set_option maxHeartbeats 2000000 in
theorem may_ok (B : Nat) (t : Int) (S : Nat → Ses) (s : Int) (n : Nat) (hs : s = (n : Int)) (h1 : 1 ≤ n) (h2 : n ≤ 64) (k q : Int) (w : World) (h : Desk w B t S) (b1 : 0 ≤ (S n).inn) (b2 : (S n).inn ≤ 1000000) (hb : ((S n).on == (k == 1)) = false) (hq : q = (S n).inn + 1) :
    Calls Tryd.prog 57 #[.pointer (some ⟨B, 0, none⟩), .int .i64 s, msgV k q] w fun e w' => e = .returned (.int .i64 0) ∧ Fr no w w' := by
  have HS := Lib.hid hs
  have hfa := (Fr.refl no w).alloc (msgO k q)
  have hX := blk_new w (msgO k q)
  have hd := h.fr hfa (fun h => h)
  have hqq : (q != (S n).inn + 1) = false := by simp [hq]
  unfold msgO at hfa hX hd
  clear hq h
  unfold msgV
  go_enter Tryd.func57, Tryd.ntmps57
  go_wp2_with fail
  refine (is_yes _ (by omega) (by omega) _).mono ?_
  rintro e w2 ⟨rfl, rfl⟩
  dsimp only
  obtain rfl := HS.out
  have hn0 : (0 : Int) ≤ (n : Int) := by omega
  have hn1 : (n : Int) < 65 := by omega
  go_wp2_with fail
  generalize w.alloc _ = w1 at *
  generalize w.heap.size = X at *
  have x0 : w1.drew.cell? ⟨X, 0, none⟩ = some (.int .i64 k) := blk_cell hX 0
  obtain ⟨c0, _, _, _⟩ := (hd.fr (Fr.refl no w1).drew (fun h => h)).cells n (by omega)
  refine wp_region_plan (fun u => u.cell? ⟨B, 1 + n * 4, none⟩ = some (.bool (S n).on) ∧ u.cell? ⟨X, 0, none⟩ = some (.int .i64 k)) [(0, false), (1, false), (2, false), (3, false), (4, false), (5, false), (6, false), (7, false), (8, false), (9, false), (10, false), (11, false)] (by kernel_rfl) (by kernel_rfl) (fun _ _ _ _ _ h => h) (⟨c0, x0⟩) ?_
  simp only [planOps, List.getElem?_toArray, List.getElem?_cons_succ, List.getElem?_cons_zero]
  repeat (first
    | (refine plan_step (by rfl) ?_; apply Exists.intro; refine ⟨fun x hSx => ?_, ?_⟩; ((try dsimp only at hSx); go_simp; (try rw [if_neg (by omega)]); (try with_reducible rfl)); (simp only [Act.put, List.setIfInBounds_toArray, List.set_cons_zero, List.set_cons_succ]))
    | (refine plan_skip (by rfl) ?_; (simp only [Act.put, List.setIfInBounds_toArray, List.set_cons_zero, List.set_cons_succ])))
  refine plan_done ?_
  clear x0 c0
  replace hfa := hfa.drew
  replace hd := hd.fr (Fr.refl no w1).drew (fun h => h)
  replace hX := (Fr.refl no w1).drew.heap hX (fun h => h)
  generalize w1.drew = w2 at *
  go_wp2_with fail
  have x1 : w2.drew.cell? ⟨X, 1, none⟩ = some (.int .i64 q) := blk_cell hX 1
  refine wp_region_plan (fun u => u.cell? ⟨X, 1, none⟩ = some (.int .i64 q)) [(0, false), (1, false), (2, false), (3, false), (4, true), (5, false), (6, false)] (by kernel_rfl) (by kernel_rfl) (fun _ _ _ _ _ h => h) (x1) ?_
  simp only [planOps, List.getElem?_toArray, List.getElem?_cons_succ, List.getElem?_cons_zero]
  repeat (first
    | (refine plan_step (by rfl) ?_; apply Exists.intro; refine ⟨fun x hSx => ?_, ?_⟩; ((try dsimp only at hSx); go_simp; (try rw [if_neg (by omega)]); (try with_reducible rfl)); (simp only [Act.put, List.setIfInBounds_toArray, List.set_cons_zero, List.set_cons_succ]))
    | (refine plan_skip (by rfl) ?_; (simp only [Act.put, List.setIfInBounds_toArray, List.set_cons_zero, List.set_cons_succ])))
  refine plan_run (by rfl) (fun K hK => ?_)
  go_simp
  refine (next_c B t S _ n rfl h1 h2 _ (hd.fr (Fr.refl no w2).drew (fun h => h)) b1 b2).mono ?_
  rintro e w3 ⟨rfl, rfl⟩
  dsimp only
  refine hK.out (fun u => True) _ _ (x1) (trivial) ?_
  clear hK K
  try simp only [Act.put, List.setIfInBounds_toArray, List.set_cons_zero, List.set_cons_succ]
  repeat (first
    | (refine plan_step (by rfl) ?_; apply Exists.intro; refine ⟨fun x hSx => ?_, ?_⟩; ((try dsimp only at hSx); go_simp; (try rw [if_neg (by omega)]); (try with_reducible rfl)); (simp only [Act.put, List.setIfInBounds_toArray, List.set_cons_zero, List.set_cons_succ]))
    | (refine plan_skip (by rfl) ?_; (simp only [Act.put, List.setIfInBounds_toArray, List.set_cons_zero, List.set_cons_succ])))
  refine plan_done ?_
  go_wp2
  go_ret
  exact ⟨rfl, hfa.drew⟩
set_option maxRecDepth 100000 in
set_option maxHeartbeats 2000000 in
theorem may_seq (B : Nat) (t : Int) (S : Nat → Ses) (s : Int) (n : Nat) (hs : s = (n : Int)) (h1 : 1 ≤ n) (h2 : n ≤ 64) (k q : Int) (w : World) (h : Desk w B t S) (b1 : 0 ≤ (S n).inn) (b2 : (S n).inn ≤ 1000000) (hb : ((S n).on == (k == 1)) = false) (hq : q ≠ (S n).inn + 1) :
    Calls Tryd.prog 57 #[.pointer (some ⟨B, 0, none⟩), .int .i64 s, msgV k q] w fun e w' => e = .returned (.int .i64 13) ∧ Fr no w w' := by
  have HS := Lib.hid hs
  have hfa := (Fr.refl no w).alloc (msgO k q)
  have hX := blk_new w (msgO k q)
  have hd := h.fr hfa (fun h => h)
  have hqq : (q != (S n).inn + 1) = true := by simp [hq]
  unfold msgO at hfa hX hd
  clear hq h
  unfold msgV
  go_enter Tryd.func57, Tryd.ntmps57
  go_wp2_with fail
  refine (is_yes _ (by omega) (by omega) _).mono ?_
  rintro e w2 ⟨rfl, rfl⟩
  dsimp only
  obtain rfl := HS.out
  have hn0 : (0 : Int) ≤ (n : Int) := by omega
  have hn1 : (n : Int) < 65 := by omega
  go_wp2_with fail
  generalize w.alloc _ = w1 at *
  generalize w.heap.size = X at *
  have x0 : w1.drew.cell? ⟨X, 0, none⟩ = some (.int .i64 k) := blk_cell hX 0
  obtain ⟨c0, _, _, _⟩ := (hd.fr (Fr.refl no w1).drew (fun h => h)).cells n (by omega)
  refine wp_region_plan (fun u => u.cell? ⟨B, 1 + n * 4, none⟩ = some (.bool (S n).on) ∧ u.cell? ⟨X, 0, none⟩ = some (.int .i64 k)) [(0, false), (1, false), (2, false), (3, false), (4, false), (5, false), (6, false), (7, false), (8, false), (9, false), (10, false), (11, false)] (by kernel_rfl) (by kernel_rfl) (fun _ _ _ _ _ h => h) (⟨c0, x0⟩) ?_
  simp only [planOps, List.getElem?_toArray, List.getElem?_cons_succ, List.getElem?_cons_zero]
  repeat (first
    | (refine plan_step (by rfl) ?_; apply Exists.intro; refine ⟨fun x hSx => ?_, ?_⟩; ((try dsimp only at hSx); go_simp; (try rw [if_neg (by omega)]); (try with_reducible rfl)); (simp only [Act.put, List.setIfInBounds_toArray, List.set_cons_zero, List.set_cons_succ]))
    | (refine plan_skip (by rfl) ?_; (simp only [Act.put, List.setIfInBounds_toArray, List.set_cons_zero, List.set_cons_succ])))
  refine plan_done ?_
  clear x0 c0
  replace hfa := hfa.drew
  replace hd := hd.fr (Fr.refl no w1).drew (fun h => h)
  replace hX := (Fr.refl no w1).drew.heap hX (fun h => h)
  generalize w1.drew = w2 at *
  go_wp2_with fail
  have x1 : w2.drew.cell? ⟨X, 1, none⟩ = some (.int .i64 q) := blk_cell hX 1
  refine wp_region_plan (fun u => u.cell? ⟨X, 1, none⟩ = some (.int .i64 q)) [(0, false), (1, false), (2, false), (3, false), (4, true), (5, false), (6, false)] (by kernel_rfl) (by kernel_rfl) (fun _ _ _ _ _ h => h) (x1) ?_
  simp only [planOps, List.getElem?_toArray, List.getElem?_cons_succ, List.getElem?_cons_zero]
  repeat (first
    | (refine plan_step (by rfl) ?_; apply Exists.intro; refine ⟨fun x hSx => ?_, ?_⟩; ((try dsimp only at hSx); go_simp; (try rw [if_neg (by omega)]); (try with_reducible rfl)); (simp only [Act.put, List.setIfInBounds_toArray, List.set_cons_zero, List.set_cons_succ]))
    | (refine plan_skip (by rfl) ?_; (simp only [Act.put, List.setIfInBounds_toArray, List.set_cons_zero, List.set_cons_succ])))
  refine plan_run (by rfl) (fun K hK => ?_)
  go_simp
  refine (next_c B t S _ n rfl h1 h2 _ (hd.fr (Fr.refl no w2).drew (fun h => h)) b1 b2).mono ?_
  rintro e w3 ⟨rfl, rfl⟩
  dsimp only
  refine hK.out (fun u => True) _ _ (x1) (trivial) ?_
  clear hK K
  try simp only [Act.put, List.setIfInBounds_toArray, List.set_cons_zero, List.set_cons_succ]
  repeat (first
    | (refine plan_step (by rfl) ?_; apply Exists.intro; refine ⟨fun x hSx => ?_, ?_⟩; ((try dsimp only at hSx); go_simp; (try rw [if_neg (by omega)]); (try with_reducible rfl)); (simp only [Act.put, List.setIfInBounds_toArray, List.set_cons_zero, List.set_cons_succ]))
    | (refine plan_skip (by rfl) ?_; (simp only [Act.put, List.setIfInBounds_toArray, List.set_cons_zero, List.set_cons_succ])))
  refine plan_done ?_
  go_wp2
  go_ret
  exact ⟨rfl, hfa.drew⟩

set_option maxRecDepth 100000 in
set_option maxHeartbeats 2000000 in
theorem in_ok (B : Nat) (t : Int) (S : Nat → Ses) (s : Int) (n : Nat) (hs : s = (n : Int)) (h1 : 1 ≤ n) (h2 : n ≤ 64) (k q now : Int) (w : World) (h : Desk w B t S) (b1 : 0 ≤ (S n).inn) (b2 : (S n).inn ≤ 1000000) (hb : ((S n).on == (k == 1)) = false) (hq : q = (S n).inn + 1) (hk : (k == 3) = false) :
    Calls Tryd.prog 17 #[.pointer (some ⟨B, 0, none⟩), .int .i64 s, msgV k q, .int .i64 now] w fun e w' => e = .returned .nilIface ∧ Desk w' B t (put S n ⟨true, (S n).inn + 1, (S n).out, now⟩) ∧ Fr (one B) w w' := by
  have HS := Lib.hid hs
  have hfa := (Fr.refl no w).alloc (msgO k q)
  have hX := blk_new w (msgO k q)
  have hd := h.fr hfa (fun h => h)
  have HM := Lib.hid (may_ok B t S s n hs h1 h2 k q _ hd b1 b2 hb hq)
  have hne : w.heap.size ≠ B := by have := h.lt; omega
  unfold msgO at hfa hX hd HM
  unfold msgV at *
  clear hq h hb hs
  go_enter Tryd.func17, Tryd.ntmps17
  go_wp2_with fail
  refine HM.out.mono ?_
  rintro e w1 ⟨rfl, hf1⟩
  dsimp only
  replace hd := hd.fr hf1 (fun h => h)
  replace hX := hf1.heap hX (fun h => h)
  replace hfa := hfa.trans' hf1
  clear hf1 HM
  generalize w.heap.size = X at *
  obtain rfl := HS.out
  obtain ⟨c0, c1, c2, c3⟩ := hd.cells n (by omega)
  have f0 := hd.free (1 + n * 4)
  have f1 := hd.free (1 + n * 4 + 1)
  have f3 := hd.free (1 + n * 4 + 3)
  have x0 : w1.cell? ⟨X, 0, none⟩ = some (.int .i64 k) := blk_cell hX 0
  go_wp2
  go_ret
  have p1 := hd.put n 1 (by omega) (by omega) (.int .i64 ((S n).inn + 1)) { S n with inn := (S n).inn + 1 } rfl
  have p2 := p1.put n 3 (by omega) (by omega) (.int .i64 now) ⟨(S n).on, (S n).inn + 1, (S n).out, now⟩ (by rw [put_same]; rfl)
  have p3 := p2.put n 0 (by omega) (by omega) (.bool true) ⟨true, (S n).inn + 1, (S n).out, now⟩ (by rw [put_same]; rfl)
  rw [put_put, put_put] at p3
  exact ⟨rfl, p3, ((((hfa.mono (S' := one B) (fun _ h _ => h.elim)).set (p := ⟨B, 1 + n * 4 + 1, none⟩) (fun _ => rfl) _).set (p := ⟨B, 1 + n * 4 + 3, none⟩) (fun _ => rfl) _).set (p := ⟨B, 1 + n * 4, none⟩) (fun _ => rfl) _)⟩
set_option maxRecDepth 100000 in
set_option maxHeartbeats 2000000 in
theorem in_seq (B : Nat) (t : Int) (S : Nat → Ses) (s : Int) (n : Nat) (hs : s = (n : Int)) (h1 : 1 ≤ n) (h2 : n ≤ 64) (k q now : Int) (w : World) (h : Desk w B t S) (b1 : 0 ≤ (S n).inn) (b2 : (S n).inn ≤ 1000000) (hb : ((S n).on == (k == 1)) = false) (hq : q ≠ (S n).inn + 1) :
    Calls Tryd.prog 17 #[.pointer (some ⟨B, 0, none⟩), .int .i64 s, msgV k q, .int .i64 now] w fun e w' => (∃ F, e = .returned (.iface 100 (.pointer (some ⟨F, 0, none⟩))) ∧ w.heap.size ≤ F ∧ w'.heap[F]? = some (.cells #[.string ⟨#[115, 101, 115, 115]⟩, .int .i64 s, .iface 34 (.int .i64 13)] 106 (0, 0))) ∧ Fr no w w' := by
  have hfa := (Fr.refl no w).alloc (msgO k q)
  have hd := h.fr hfa (fun h => h)
  have HM := Lib.hid (may_seq B t S s n hs h1 h2 k q _ hd b1 b2 hb hq)
  unfold msgO at hfa hd HM
  unfold msgV at *
  clear hq h hb hs hd
  go_enter Tryd.func17, Tryd.ntmps17
  go_wp2_with fail
  refine HM.out.mono ?_
  rintro e w1 ⟨rfl, hf1⟩
  dsimp only
  go_wp2
  go_ret
  exact ⟨⟨_, rfl, (hfa.trans' hf1).size, blk_new w1 _⟩, (hfa.trans' hf1).alloc _⟩
end Go.Proofs.YtdkkdoadafhfmaaDoor.Sess
