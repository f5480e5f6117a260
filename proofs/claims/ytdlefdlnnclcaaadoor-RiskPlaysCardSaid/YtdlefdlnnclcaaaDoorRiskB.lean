import Derived.Test.YtdlefdlnnclcaaaDoorRisk
/-! Contracts of package risk: what is open of each. -/
set_option linter.unusedVariables false
set_option linter.unusedSimpArgs false
namespace Go.Proofs.YtdlefdlnnclcaaaDoor.Risk
open Go.RowKit Go.Maps Go.Proofs.YtdlefdlnnclcaaaDoorW.PrintWords Go.Proofs.YtdlefdlnnclcaaaDoor.B Go.Proofs.YtdlefdlnnclcaaaDoor.Err

structure Use where
  n : Int
  money : Int
structure Lim where
  qty : Int
  money : Int
  orders : Int
def zUse : Use := ⟨0, 0⟩
def useV (u : Use) : Value := .agg #[.int .i64 u.n, .int .i64 u.money]
def useD (u : Use) : DataW Unit := .agg [.lit (.int .i64 u.n), .lit (.int .i64 u.money)]
/-- How an element of the map reads. -/
def useR (v : Value) : Option (DataW Unit × List MemPlace) := match v with
  | .agg cs => match cs.toList with
    | [.int .i64 a, .int .i64 b] => some (.agg [.lit (.int .i64 a), .lit (.int .i64 b)], [])
    | _ => none
  | _ => none
theorem useR_mk (u : Use) : useR (useV u) = some (useD u, []) := rfl
theorem useR_inv {v : Value} {u : Use} {ps : List MemPlace} (h : useR v = some (useD u, ps)) : v = useV u := by
  unfold useR at h
  split at h
  · rename_i cs
    split at h
    · rename_i a b hc
      simp only [Option.some.injEq, Prod.mk.injEq, useD, DataW.agg.injEq, List.cons.injEq, DataW.lit.injEq, Lit.int.injEq, true_and, and_true] at h
      obtain ⟨⟨h1, h2⟩, _⟩ := h
      obtain ⟨l⟩ := cs
      simp only at hc
      subst hc h1 h2
      rfl
    · cases h
  · cases h
def upd (f : Int → Use) (o : Int) (u : Use) : Int → Use := fun x => if x = o then u else f x
/-- A map of what each has open, of at most n entries. -/
def Uses (w : World) (M n : Nat) (f : Int → Use) : Prop :=
  ∃ D : DataW Unit, w.ownsMap Tryd.prog 3 useR M n D ∧ ∀ o, (Lit.int .i64 o).wf = true → D.atKey (.int .i64 o) (useD zUse) = useD (f o)
theorem law_int : Keyed Tryd.prog 3 := int_keyed Tryd.underlying3
theorem zero_use (w : World) : (zeroValue 71).run Tryd.prog w = .ok (useV zUse) w := by kernel_rfl
theorem Uses.made (w : World) : Uses (w.alloc (.map #[] 0)) w.heap.size 0 (fun _ => zUse) := ⟨_, World.ownsMap_made _ _ _ _, fun o _ => rfl⟩
theorem Uses.lt {w : World} {M n : Nat} {f : Int → Use} (h : Uses w M n f) : M < w.heap.size := by
  obtain ⟨D, h1, _⟩ := h
  exact h1.lt
theorem Uses.fr {w w1 : World} {S : Nat → Prop} {M n : Nat} {f : Int → Use} (h : Uses w M n f) (hf : Fr S w w1) (hn : ¬ S M) : Uses w1 M n f := by
  obtain ⟨D, ⟨es, clock, hb, F, hs, hD⟩, h2⟩ := h
  exact ⟨D, ⟨es, clock, hf.heap hb hn, F, hs, hD⟩, h2⟩
theorem Uses.look {w : World} {M n : Nat} {f : Int → Use} (h : Uses w M n f) (o : Int) (ho : (Lit.int .i64 o).wf = true) : (Instr.lookup 56 (.map (some M)) (.int .i64 o) false).run Tryd.prog w = .ok (useV (f o)) w := by
  obtain ⟨D, h1, h2⟩ := h
  obtain ⟨v, ps, hr, hv⟩ := h1.lookup law_int Tryd.underlying56 (zero_use w) (useR_mk zUse) (keyOf_int_mk Tryd.underlying3 ho)
  rw [h2 o ho] at hv
  rw [useR_inv hv] at hr
  exact hr
theorem Uses.stored {w : World} {M n : Nat} {f : Int → Use} {D : DataW Unit} {o : Int} {u : Use} (hown : w.ownsMap Tryd.prog 3 useR M (n + 1) (D.put (.int .i64 o) (useD u))) (hm : IsMap D) (ho : (Lit.int .i64 o).wf = true) (h2 : ∀ o, (Lit.int .i64 o).wf = true → D.atKey (.int .i64 o) (useD zUse) = useD (f o)) : Uses w M (n + 1) (upd f o u) := by
  refine ⟨_, hown, fun x hx => ?_⟩
  by_cases he : x = o
  · subst he
    rw [atKey_put_same hm (by trivial)]
    simp [upd]
  · rw [atKey_put_other (by simpa using he), h2 x hx]
    simp [upd, he]

/-- A desk: its limits, what each has open. -/
def RDesk (w : World) (B M : Nat) (L : Lim) : Prop := w.heap[B]? = some (.cells #[.int .i64 L.qty, .int .i64 L.money, .int .i64 L.orders, .map (some M)] 58 (0, 0))
theorem RDesk.cells {w : World} {B M : Nat} {L : Lim} (h : RDesk w B M L) : w.cell? ⟨B, 0, none⟩ = some (.int .i64 L.qty) ∧ w.cell? ⟨B, 1, none⟩ = some (.int .i64 L.money) ∧ w.cell? ⟨B, 2, none⟩ = some (.int .i64 L.orders) ∧ w.cell? ⟨B, 3, none⟩ = some (.map (some M)) :=
  ⟨blk_cell h 0, blk_cell h 1, blk_cell h 2, blk_cell h 3⟩
structure LimOk (L : Lim) : Prop where
  q1 : 1 ≤ L.qty
  q2 : L.qty ≤ 1000000
  m1 : 1 ≤ L.money
  m2 : L.money ≤ 1125899906842624
  o1 : 1 ≤ L.orders
  o2 : L.orders ≤ 4096
def limV (L : Lim) : Value := .agg #[.int .i64 L.qty, .int .i64 L.money, .int .i64 L.orders]
set_option maxRecDepth 100000 in
theorem check_ok (L : Lim) (h : LimOk L) (w : World) : Calls Tryd.prog 8 #[limV L] w fun e w' => e = .returned (.int .i64 0) ∧ Fr no w w' := by
  obtain ⟨q, m, o⟩ := L
  obtain ⟨q1, q2, m1, m2, o1, o2⟩ := h
  dsimp only at *
  have d1 : (decide (1 ≤ q) && decide (q ≤ 1000000)) = true := by simp; omega
  have d2 : (decide (1 ≤ m) && decide (m ≤ 1125899906842624)) = true := by simp; omega
  have d3 : (decide (1 ≤ o) && decide (o ≤ 4096)) = true := by simp; omega
  unfold limV
  clear q1 q2 m1 m2 o1 o2
  have hfa := (Fr.refl no w).alloc (.cells #[.int .i64 q, .int .i64 m, .int .i64 o] 23)
  go_enter Tryd.func8, Tryd.ntmps8
  go_wp2_with fail
  refine (in_c _ _ _ _).mono ?_
  rintro e w1 ⟨rfl, rfl⟩
  rw [d1]
  dsimp only
  go_wp2_with fail
  refine (in_c _ _ _ _).mono ?_
  rintro e w1 ⟨rfl, rfl⟩
  rw [d2]
  dsimp only
  go_wp2_with fail
  refine (in_c _ _ _ _).mono ?_
  rintro e w1 ⟨rfl, rfl⟩
  rw [d3]
  dsimp only
  go_wp2
  go_ret
  exact ⟨rfl, hfa⟩
theorem check_zero (w : World) : Calls Tryd.prog 8 #[limV ⟨0, 0, 0⟩] w fun e w' => e = .returned (.int .i64 1) ∧ Fr no w w' := by
  unfold limV
  have hfa := (Fr.refl no w).alloc (.cells #[.int .i64 0, .int .i64 0, .int .i64 0] 23)
  go_enter Tryd.func8, Tryd.ntmps8
  go_wp2_with fail
  refine (in_c _ _ _ _).mono ?_
  rintro e w1 ⟨rfl, rfl⟩
  rw [show (decide ((1 : Int) ≤ 0) && decide ((0 : Int) ≤ 1000000)) = false by decide]
  dsimp only
  go_wp2
  go_ret
  exact ⟨rfl, hfa⟩
theorem new_c (L : Lim) (h : LimOk L) (w : World) : Calls Tryd.prog 5 #[limV L] w fun e w' => (∃ B M, e = .returned (.tuple #[.pointer (some ⟨B, 0, none⟩), .int .i64 0]) ∧ w.heap.size ≤ B ∧ w.heap.size ≤ M ∧ B ≠ M ∧ RDesk w' B M L ∧ Uses w' M 0 (fun _ => zUse)) ∧ Fr no w w' := by
  have hfa := (Fr.refl no w).alloc (.cells #[.int .i64 L.qty, .int .i64 L.money, .int .i64 L.orders] 23)
  have hc := fun W => check_ok L h W
  have HC := Lib.hid hc
  clear hc
  unfold limV at *
  have hmm := @run_makeMap Tryd.prog
  go_enter Tryd.func5, Tryd.ntmps5
  go_wp2_with fail
  refine (HC.out _).mono ?_
  rintro e w1 ⟨rfl, hf⟩
  dsimp only
  have hX := (blk_new w (.cells #[.int .i64 L.qty, .int .i64 L.money, .int .i64 L.orders] 23))
  replace hX := hf.heap hX (fun h => h)
  have x0 : w1.cell? ⟨w.heap.size, 0, none⟩ = some (.int .i64 L.qty) := blk_cell hX 0
  have x1 : w1.cell? ⟨w.heap.size, 1, none⟩ = some (.int .i64 L.money) := blk_cell hX 1
  have x2 : w1.cell? ⟨w.heap.size, 2, none⟩ = some (.int .i64 L.orders) := blk_cell hX 2
  replace hf := hfa.trans' hf
  clear hX hfa
  go_wp2
  go_ret2
  have hs := hf.size
  refine ⟨⟨w1.heap.size + 1, w1.heap.size, rfl, by omega, hs, by omega, ?_, ?_⟩, (hf.alloc _).alloc _⟩
  · have h := blk_new (w1.alloc (.map #[] 0)) (.cells #[.int .i64 L.qty, .int .i64 L.money, .int .i64 L.orders, .map (some w1.heap.size)] 58)
    unfold RDesk
    simpa using h
  · exact (Uses.made w1).fr ((Fr.refl no _).alloc _) (fun h => h)
end Go.Proofs.YtdlefdlnnclcaaaDoor.Risk
