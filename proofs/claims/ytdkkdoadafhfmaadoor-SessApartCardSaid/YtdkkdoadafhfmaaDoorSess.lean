import Derived.Test.YtdkkdoadafhfmaaDoorPlan
import Derived.IntWalk
import Derived.StillTailTactics
/-! Contracts of package sess. -/
set_option linter.unusedVariables false
set_option linter.unusedSimpArgs false
namespace Go.Proofs.YtdkkdoadafhfmaaDoor.Sess
open Go.RowKit Go.Proofs.YtdkkdoadafhfmaaDoorW.PrintWords Go.Proofs.YtdkkdoadafhfmaaDoor.B

structure Ses where
  on : Bool
  inn : Int
  out : Int
  last : Int
def zSes : Ses := ⟨false, 0, 0, 0⟩
def put (S : Nat → Ses) (n : Nat) (x : Ses) : Nat → Ses := fun m => if m = n then x else S m
theorem put_same (S : Nat → Ses) (n : Nat) (x : Ses) : put S n x n = x := by simp [put]
theorem put_other (S : Nat → Ses) {n m : Nat} (x : Ses) (h : m ≠ n) : put S n x m = S m := by simp [put, h]
theorem put_put (S : Nat → Ses) (n : Nat) (x y : Ses) : put (put S n x) n y = put S n y := by funext m; simp only [put]; split <;> rfl
/-- A desk: its time, its sessions. -/
def Desk (w : World) (B : Nat) (t : Int) (S : Nat → Ses) : Prop :=
  ∃ cs : Array Value, w.heap[B]? = some (.cells cs 115 (0, 0)) ∧ cs.size = 261 ∧ cs[0]? = some (.int .i64 t) ∧
    ∀ n, n < 65 → cs[1 + n * 4]? = some (.bool (S n).on) ∧ cs[1 + n * 4 + 1]? = some (.int .i64 (S n).inn) ∧ cs[1 + n * 4 + 2]? = some (.int .i64 (S n).out) ∧ cs[1 + n * 4 + 3]? = some (.int .i64 (S n).last)
theorem Desk.fr {w w1 : World} {S0 : Nat → Prop} {B : Nat} {t : Int} {S : Nat → Ses} (h : Desk w B t S) (hf : Fr S0 w w1) (hn : ¬ S0 B) : Desk w1 B t S := by
  obtain ⟨cs, h1, h2⟩ := h
  exact ⟨cs, hf.heap h1 hn, h2⟩
theorem Desk.cells {w : World} {B : Nat} {t : Int} {S : Nat → Ses} (h : Desk w B t S) (n : Nat) (hn : n < 65) :
    w.cell? ⟨B, 1 + n * 4, none⟩ = some (.bool (S n).on) ∧ w.cell? ⟨B, 1 + n * 4 + 1, none⟩ = some (.int .i64 (S n).inn) ∧ w.cell? ⟨B, 1 + n * 4 + 2, none⟩ = some (.int .i64 (S n).out) ∧ w.cell? ⟨B, 1 + n * 4 + 3, none⟩ = some (.int .i64 (S n).last) := by
  obtain ⟨cs, h1, h2, h3, h4⟩ := h
  obtain ⟨a, b, c, d⟩ := h4 n hn
  exact ⟨(blk_cell h1 _).trans a, (blk_cell h1 _).trans b, (blk_cell h1 _).trans c, (blk_cell h1 _).trans d⟩
theorem Desk.time {w : World} {B : Nat} {t : Int} {S : Nat → Ses} (h : Desk w B t S) : w.cell? ⟨B, 0, none⟩ = some (.int .i64 t) := by
  obtain ⟨cs, h1, h2, h3, h4⟩ := h
  exact (blk_cell h1 _).trans h3
theorem Desk.free {w : World} {B : Nat} {t : Int} {S : Nat → Ses} (h : Desk w B t S) (j : Nat) : w.frozen? ⟨B, j, none⟩ = false := by
  obtain ⟨cs, h1, _⟩ := h
  exact blk_frozen h1 j
theorem Desk.lt {w : World} {B : Nat} {t : Int} {S : Nat → Ses} (h : Desk w B t S) : B < w.heap.size := by
  obtain ⟨cs, h1, _⟩ := h
  exact blk_lt h1
/-- One cell of a session is written. -/
theorem Desk.put {w : World} {B : Nat} {t : Int} {S : Nat → Ses} (h : Desk w B t S) (n j : Nat) (hn : n < 65) (hj : j < 4) (u : Value) (x : Ses)
    (hx : [Value.bool x.on, .int .i64 x.inn, .int .i64 x.out, .int .i64 x.last] = [Value.bool (S n).on, .int .i64 (S n).inn, .int .i64 (S n).out, .int .i64 (S n).last].set j u) :
    Desk (w.setCell ⟨B, 1 + n * 4 + j, none⟩ u) B t (put S n x) := by
  obtain ⟨cs, h1, h2, h3, h4⟩ := h
  refine ⟨_, blk_put h1 _ _ rfl, by simpa using h2, ?_, fun m hm => ?_⟩
  · rw [Array.getElem?_setIfInBounds_ne (by omega)]
    exact h3
  · obtain ⟨a, b, c, d⟩ := h4 m hm
    by_cases hmn : m = n
    · subst hmn
      rw [put_same]
      simp only [Array.getElem?_setIfInBounds]
      obtain rfl | rfl | rfl | rfl : j = 0 ∨ j = 1 ∨ j = 2 ∨ j = 3 := by omega
      all_goals
        simp only [List.set_cons_zero, List.set_cons_succ, List.cons.injEq, and_true] at hx
        obtain ⟨x0, x1, x2, x3⟩ := hx
        rw [x0, x1, x2, x3]
        refine ⟨?_, ?_, ?_, ?_⟩
        all_goals
          first
          | (rw [if_pos (by omega), if_pos (by omega)])
          | (rw [if_neg (by omega)]; assumption)
    · rw [put_other S x hmn]
      rw [Array.getElem?_setIfInBounds_ne (by omega), Array.getElem?_setIfInBounds_ne (by omega), Array.getElem?_setIfInBounds_ne (by omega), Array.getElem?_setIfInBounds_ne (by omega)]
      exact ⟨a, b, c, d⟩
theorem Desk.eq {w : World} {B : Nat} {t : Int} {S S' : Nat → Ses} (h : Desk w B t S) (he : ∀ n, n < 65 → S n = S' n) : Desk w B t S' := by
  obtain ⟨cs, h1, h2, h3, h4⟩ := h
  exact ⟨cs, h1, h2, h3, fun n hn => by rw [← he n hn]; exact h4 n hn⟩

theorem is_yes (s : Int) (h1 : 1 ≤ s) (h2 : s ≤ 64) (w : World) : Calls Tryd.prog 58 #[.int .i64 s] w fun e w' => e = .returned (.bool true) ∧ w = w' := by
  have hd1 : decide (1 ≤ s) = true := by simp; omega
  have hd2 : decide (s ≤ 64) = true := by simp; omega
  go_enter Tryd.func58, Tryd.ntmps58
  go_wp2
  go_ret
  exact ⟨rfl, rfl⟩
theorem is_zero (w : World) : Calls Tryd.prog 58 #[.int .i64 0] w fun e w' => e = .returned (.bool false) ∧ w = w' := by
  go_enter Tryd.func58, Tryd.ntmps58
  go_wp2
  go_ret
  exact ⟨rfl, rfl⟩

theorem new_no (w : World) : Calls Tryd.prog 16 #[.int .i64 0] w fun e w' => e = .returned (.tuple #[.pointer none, .int .i64 1]) ∧ w = w' := by
  go_enter Tryd.func16, Tryd.ntmps16
  go_wp2
  go_ret2
  exact ⟨rfl, rfl⟩
theorem zeros_at (T : Nat) (zs : Array Value) (hz : zs.size = 261) (t : Int) (hall : ∀ n, n < 65 → zs[1 + n * 4]? = some (.bool false) ∧ zs[1 + n * 4 + 1]? = some (.int .i64 0) ∧ zs[1 + n * 4 + 2]? = some (.int .i64 0) ∧ zs[1 + n * 4 + 3]? = some (.int .i64 0)) (w : World) (hT : T = 115) :
    Desk (w.alloc (.cells (zs.setIfInBounds 0 (.int .i64 t)) T)) w.heap.size t (fun _ => zSes) := by
  subst hT
  refine ⟨_, blk_new w _, by simpa using hz, ?_, fun n hn => ?_⟩
  · rw [Array.getElem?_setIfInBounds, if_pos rfl, if_pos (by omega)]
  · rw [Array.getElem?_setIfInBounds_ne (by omega), Array.getElem?_setIfInBounds_ne (by omega), Array.getElem?_setIfInBounds_ne (by omega), Array.getElem?_setIfInBounds_ne (by omega)]
    exact hall n hn
theorem rep_at (a b c d : Value) : ∀ (m n : Nat), n < m → (List.replicate m [a, b, c, d]).flatten[n * 4]? = some a ∧ (List.replicate m [a, b, c, d]).flatten[n * 4 + 1]? = some b ∧ (List.replicate m [a, b, c, d]).flatten[n * 4 + 2]? = some c ∧ (List.replicate m [a, b, c, d]).flatten[n * 4 + 3]? = some d
  | 0, _, h => by omega
  | m + 1, 0, _ => by simp [List.replicate_succ]
  | m + 1, n + 1, h => by
    have ih := rep_at a b c d m n (by omega)
    rw [show (n + 1) * 4 = n * 4 + 1 + 1 + 1 + 1 by omega]
    simp only [List.replicate_succ, List.flatten_cons, List.cons_append, List.nil_append, List.getElem?_cons_succ, show ∀ x, n * 4 + 1 + 1 + 1 + 1 + x = n * 4 + x + 1 + 1 + 1 + 1 by omega]
    exact ih
theorem zero_cells : Tryd.zeroCells115.toList = .int .i64 0 :: (List.replicate 65 [Value.bool false, .int .i64 0, .int .i64 0, .int .i64 0]).flatten := by kernel_rfl
theorem new_yes (t : Int) (h1 : 1 ≤ t) (h2 : t ≤ 1000000) (w : World) : Calls Tryd.prog 16 #[.int .i64 t] w fun e w' =>
    (∃ B, e = .returned (.tuple #[.pointer (some ⟨B, 0, none⟩), .int .i64 0]) ∧ w.heap.size ≤ B ∧ Desk w' B t (fun _ => zSes)) ∧ Fr no w w' := by
  have hd1 : decide (t < 1) = false := by simp; omega
  have hd2 : decide (1000000 < t) = false := by simp; omega
  go_enter Tryd.func16, Tryd.ntmps16
  go_wp2
  go_ret2
  refine ⟨⟨_, rfl, Nat.le_refl _, ?_⟩, (Fr.refl _ _).alloc _⟩
  exact zeros_at _ Tryd.zeroCells115 (by kernel_rfl) t (fun n hn => by
    have h := rep_at (.bool false) (.int .i64 0) (.int .i64 0) (.int .i64 0) 65 n hn
    simp only [← Array.getElem?_toList, zero_cells, show ∀ x, 1 + n * 4 + x = n * 4 + x + 1 by omega, show 1 + n * 4 = n * 4 + 1 by omega, List.getElem?_cons_succ]
    exact h) w rfl

theorem next_c (B : Nat) (t : Int) (S : Nat → Ses) (s : Int) (n : Nat) (hs : s = (n : Int)) (h1 : 1 ≤ n) (h2 : n ≤ 64) (w : World) (h : Desk w B t S) (b1 : 0 ≤ (S n).inn) (b2 : (S n).inn ≤ 1000000) :
    Calls Tryd.prog 18 #[.pointer (some ⟨B, 0, none⟩), .int .i64 s] w fun e w' => e = .returned (.int .i64 ((S n).inn + 1)) ∧ w = w' := by
  subst hs
  obtain ⟨c0, c1, c2, c3⟩ := h.cells n (by omega)
  go_enter Tryd.func18, Tryd.ntmps18
  go_wp2_with fail
  refine (is_yes _ (by omega) (by omega) _).mono ?_
  rintro e w1 ⟨rfl, rfl⟩
  dsimp only
  go_wp2
  go_ret
  exact ⟨rfl, rfl⟩
theorem on_c (B : Nat) (t : Int) (S : Nat → Ses) (s : Int) (n : Nat) (hs : s = (n : Int)) (h1 : 1 ≤ n) (h2 : n ≤ 64) (w : World) (h : Desk w B t S) :
    Calls Tryd.prog 19 #[.pointer (some ⟨B, 0, none⟩), .int .i64 s] w fun e w' => e = .returned (.bool (S n).on) ∧ w = w' := by
  subst hs
  obtain ⟨c0, c1, c2, c3⟩ := h.cells n (by omega)
  go_enter Tryd.func19, Tryd.ntmps19
  go_wp2_with fail
  refine (is_yes _ (by omega) (by omega) _).mono ?_
  rintro e w1 ⟨rfl, rfl⟩
  dsimp only
  go_wp2
  go_ret
  exact ⟨rfl, rfl⟩
theorem on_zero (B : Nat) (w : World) :
    Calls Tryd.prog 19 #[.pointer (some ⟨B, 0, none⟩), .int .i64 0] w fun e w' => e = .returned (.bool false) ∧ w = w' := by
  go_enter Tryd.func19, Tryd.ntmps19
  go_wp2_with fail
  refine (is_zero _).mono ?_
  rintro e w1 ⟨rfl, rfl⟩
  dsimp only
  go_wp2
  go_ret
  exact ⟨rfl, rfl⟩
set_option maxRecDepth 100000 in
set_option maxHeartbeats 1000000 in
theorem out_c (B : Nat) (t : Int) (S : Nat → Ses) (s : Int) (n : Nat) (hs : s = (n : Int)) (h1 : 1 ≤ n) (h2 : n ≤ 64) (w : World) (h : Desk w B t S) (b1 : 0 ≤ (S n).out) (b2 : (S n).out ≤ 1000000) :
    Calls Tryd.prog 21 #[.pointer (some ⟨B, 0, none⟩), .int .i64 s] w fun e w' => e = .returned (.int .i64 ((S n).out + 1)) ∧ Desk w' B t (put S n { S n with out := (S n).out + 1 }) ∧ Fr (one B) w w' := by
  subst hs
  have hd := h.fr (Fr.refl no w).drew (fun h => h)
  obtain ⟨c0, c1, c2, c3⟩ := hd.cells n (by omega)
  have f2 := hd.free (1 + n * 4 + 2)
  have hp := hd.put n 2 (by omega) (by omega) (.int .i64 ((S n).out + 1)) { S n with out := (S n).out + 1 } rfl
  have hp2 := (hp.cells n (by omega)).2.2.1
  rw [put_same] at hp2
  have HP := Lib.hid hp
  have HF := (Fr.refl (one B) w).drew
  have hn0 : (0 : Int) ≤ (n : Int) := by omega
  have hn1 : (n : Int) < 65 := by omega
  clear hp hd c0 c1 c3
  go_enter Tryd.func21, Tryd.ntmps21
  go_wp2_with fail
  refine (is_yes _ (by omega) (by omega) _).mono ?_
  rintro e w1 ⟨rfl, rfl⟩
  dsimp only
  go_wp2_with fail
  have hw : IntKind.i64.wrap ((S n).out + 1) = (S n).out + 1 := IntWalk.i64_in _ (by omega)
  go_still_tail 12, (by kernel_rfl)
  change wpList _ _ _ _ _ w.drew
  clear hw
  generalize w.drew = w2 at *
  go_wp2
  go_ret
  exact ⟨rfl, HP.out, HF.set (p := ⟨B, 1 + n * 4 + 2, none⟩) (fun _ => rfl) _⟩
end Go.Proofs.YtdkkdoadafhfmaaDoor.Sess
