import Derived.Test.YtdlefdlnnclcaaaDoorOpen
/-! Structures and kinds of Go's struct types (written by wip/kinds.py over the kit's own kinds). -/
set_option linter.unusedVariables false
set_option linter.unusedSimpArgs false
namespace Go.Proofs.YtdlefdlnnclcaaaDoor.Risk
open Go.Proofs.YtdlefdlnnclcaaaDoor.B Go.RowKit Go.Proofs.YtdlefdlnnclcaaaDoorW.PrintWords
/-! #### straddle/straddlelaw24.Act -/
structure Act where
  Op : Int
  Owner : Int
  Price : Int
  Qty : Int
  Whole : Bool
def zAct : Act := ⟨(0 : Int), (0 : Int), (0 : Int), (0 : Int), false⟩
def kAct : Kd Act := Kd.iso (Kd.pair (Kd.int .i64) (Kd.pair (Kd.int .i64) (Kd.pair (Kd.int .i64) (Kd.pair (Kd.int .i64) Kd.bool)))) (fun x : Act => (x.Op, x.Owner, x.Price, x.Qty, x.Whole))
theorem kAct_open {w : World} {x : Act} {cs : List Value} (h : kAct.K w x cs) : cs = [.int .i64 x.Op, .int .i64 x.Owner, .int .i64 x.Price, .int .i64 x.Qty, .bool x.Whole] := by
  obtain ⟨_, _, rfl, rfl, ⟨_, _, rfl, rfl, ⟨_, _, rfl, rfl, ⟨_, _, rfl, rfl, rfl⟩⟩⟩⟩ := h
  exact rfl
theorem kAct_openM {w : World} {base : Nat} {ok : Nat → Prop} {x : Act} {cs : List Value} (h : kAct.M w base ok x cs) : cs = [.int .i64 x.Op, .int .i64 x.Owner, .int .i64 x.Price, .int .i64 x.Qty, .bool x.Whole] := by
  obtain ⟨_, _, rfl, rfl, ⟨_, _, rfl, rfl, ⟨_, _, rfl, rfl, ⟨_, _, rfl, rfl, rfl⟩⟩⟩⟩ := h
  exact rfl
theorem kAct_mk (w : World) (x : Act)  : kAct.K w x [.int .i64 x.Op, .int .i64 x.Owner, .int .i64 x.Price, .int .i64 x.Qty, .bool x.Whole] := ⟨[.int .i64 x.Op], [.int .i64 x.Owner, .int .i64 x.Price, .int .i64 x.Qty, .bool x.Whole], rfl, rfl, ⟨[.int .i64 x.Owner], [.int .i64 x.Price, .int .i64 x.Qty, .bool x.Whole], rfl, rfl, ⟨[.int .i64 x.Price], [.int .i64 x.Qty, .bool x.Whole], rfl, rfl, ⟨[.int .i64 x.Qty], [.bool x.Whole], rfl, rfl, rfl⟩⟩⟩⟩
theorem kAct_mkM (w : World) (base : Nat) (ok : Nat → Prop) (x : Act)  : kAct.M w base ok x [.int .i64 x.Op, .int .i64 x.Owner, .int .i64 x.Price, .int .i64 x.Qty, .bool x.Whole] := ⟨[.int .i64 x.Op], [.int .i64 x.Owner, .int .i64 x.Price, .int .i64 x.Qty, .bool x.Whole], rfl, rfl, ⟨[.int .i64 x.Owner], [.int .i64 x.Price, .int .i64 x.Qty, .bool x.Whole], rfl, rfl, ⟨[.int .i64 x.Price], [.int .i64 x.Qty, .bool x.Whole], rfl, rfl, ⟨[.int .i64 x.Qty], [.bool x.Whole], rfl, rfl, rfl⟩⟩⟩⟩
def rd_Act (xs : List Act) (i : Int) : Act := xs.getD i.toNat zAct
theorem at_Act {w : World} {A : Option Addr} {n : Nat} {xs : List Act} (h : Kd.C kAct w A n xs) (i : Int) (h0 : 0 ≤ i) (h1 : i < n) : ∃ ad , A = some ad ∧ w.cell? (ad.add (i.toNat * 5)) = some (.int .i64 (rd_Act xs i).Op) ∧ w.cell? ⟨(ad.add (i.toNat * 5)).block, (ad.add (i.toNat * 5)).off + 1, none⟩ = some (.int .i64 (rd_Act xs i).Owner) ∧ w.cell? ⟨(ad.add (i.toNat * 5)).block, (ad.add (i.toNat * 5)).off + 2, none⟩ = some (.int .i64 (rd_Act xs i).Price) ∧ w.cell? ⟨(ad.add (i.toNat * 5)).block, (ad.add (i.toNat * 5)).off + 3, none⟩ = some (.int .i64 (rd_Act xs i).Qty) ∧ w.cell? ⟨(ad.add (i.toNat * 5)).block, (ad.add (i.toNat * 5)).off + 4, none⟩ = some (.bool (rd_Act xs i).Whole) := by
  obtain ⟨ad, c, e, _, hK, hc0⟩ := Kd.C_get h zAct i h0 h1
  have hc : ∀ j u, c[j]? = some u → w.cell? (ad.add (i.toNat * 5 + j)) = some u := hc0
  obtain rfl := kAct_open hK
  exact ⟨ad, e, hc 0 _ rfl, by rw [← add_field _ _ 1 (by omega)]; exact hc 1 _ rfl, by rw [← add_field _ _ 2 (by omega)]; exact hc 2 _ rfl, by rw [← add_field _ _ 3 (by omega)]; exact hc 3 _ rfl, by rw [← add_field _ _ 4 (by omega)]; exact hc 4 _ rfl⟩

/-! #### straddle/straddlelaw24.used -/
structure LUsed where
  owner : Int
  n : Int
  money : Int
def zLUsed : LUsed := ⟨(0 : Int), (0 : Int), (0 : Int)⟩
def kLUsed : Kd LUsed := Kd.iso (Kd.pair (Kd.int .i64) (Kd.pair (Kd.int .i64) (Kd.int .i64))) (fun x : LUsed => (x.owner, x.n, x.money))
theorem kLUsed_open {w : World} {x : LUsed} {cs : List Value} (h : kLUsed.K w x cs) : cs = [.int .i64 x.owner, .int .i64 x.n, .int .i64 x.money] := by
  obtain ⟨_, _, rfl, rfl, ⟨_, _, rfl, rfl, rfl⟩⟩ := h
  exact rfl
theorem kLUsed_openM {w : World} {base : Nat} {ok : Nat → Prop} {x : LUsed} {cs : List Value} (h : kLUsed.M w base ok x cs) : cs = [.int .i64 x.owner, .int .i64 x.n, .int .i64 x.money] := by
  obtain ⟨_, _, rfl, rfl, ⟨_, _, rfl, rfl, rfl⟩⟩ := h
  exact rfl
theorem kLUsed_mk (w : World) (x : LUsed)  : kLUsed.K w x [.int .i64 x.owner, .int .i64 x.n, .int .i64 x.money] := ⟨[.int .i64 x.owner], [.int .i64 x.n, .int .i64 x.money], rfl, rfl, ⟨[.int .i64 x.n], [.int .i64 x.money], rfl, rfl, rfl⟩⟩
theorem kLUsed_mkM (w : World) (base : Nat) (ok : Nat → Prop) (x : LUsed)  : kLUsed.M w base ok x [.int .i64 x.owner, .int .i64 x.n, .int .i64 x.money] := ⟨[.int .i64 x.owner], [.int .i64 x.n, .int .i64 x.money], rfl, rfl, ⟨[.int .i64 x.n], [.int .i64 x.money], rfl, rfl, rfl⟩⟩
def rd_LUsed (xs : List LUsed) (i : Int) : LUsed := xs.getD i.toNat zLUsed
theorem at_LUsed {w : World} {A : Option Addr} {n : Nat} {xs : List LUsed} (h : Kd.C kLUsed w A n xs) (i : Int) (h0 : 0 ≤ i) (h1 : i < n) : ∃ ad , A = some ad ∧ w.cell? (ad.add (i.toNat * 3)) = some (.int .i64 (rd_LUsed xs i).owner) ∧ w.cell? ⟨(ad.add (i.toNat * 3)).block, (ad.add (i.toNat * 3)).off + 1, none⟩ = some (.int .i64 (rd_LUsed xs i).n) ∧ w.cell? ⟨(ad.add (i.toNat * 3)).block, (ad.add (i.toNat * 3)).off + 2, none⟩ = some (.int .i64 (rd_LUsed xs i).money) := by
  obtain ⟨ad, c, e, _, hK, hc0⟩ := Kd.C_get h zLUsed i h0 h1
  have hc : ∀ j u, c[j]? = some u → w.cell? (ad.add (i.toNat * 3 + j)) = some u := hc0
  obtain rfl := kLUsed_open hK
  exact ⟨ad, e, hc 0 _ rfl, by rw [← add_field _ _ 1 (by omega)]; exact hc 1 _ rfl, by rw [← add_field _ _ 2 (by omega)]; exact hc 2 _ rfl⟩

/-! #### straddle/risk.Limits -/
structure Limits where
  Qty : Int
  Notional : Int
  Orders : Int
def zLimits : Limits := ⟨(0 : Int), (0 : Int), (0 : Int)⟩
def kLimits : Kd Limits := Kd.iso (Kd.pair (Kd.int .i64) (Kd.pair (Kd.int .i64) (Kd.int .i64))) (fun x : Limits => (x.Qty, x.Notional, x.Orders))
theorem kLimits_open {w : World} {x : Limits} {cs : List Value} (h : kLimits.K w x cs) : cs = [.int .i64 x.Qty, .int .i64 x.Notional, .int .i64 x.Orders] := by
  obtain ⟨_, _, rfl, rfl, ⟨_, _, rfl, rfl, rfl⟩⟩ := h
  exact rfl
theorem kLimits_openM {w : World} {base : Nat} {ok : Nat → Prop} {x : Limits} {cs : List Value} (h : kLimits.M w base ok x cs) : cs = [.int .i64 x.Qty, .int .i64 x.Notional, .int .i64 x.Orders] := by
  obtain ⟨_, _, rfl, rfl, ⟨_, _, rfl, rfl, rfl⟩⟩ := h
  exact rfl
theorem kLimits_mk (w : World) (x : Limits)  : kLimits.K w x [.int .i64 x.Qty, .int .i64 x.Notional, .int .i64 x.Orders] := ⟨[.int .i64 x.Qty], [.int .i64 x.Notional, .int .i64 x.Orders], rfl, rfl, ⟨[.int .i64 x.Notional], [.int .i64 x.Orders], rfl, rfl, rfl⟩⟩
theorem kLimits_mkM (w : World) (base : Nat) (ok : Nat → Prop) (x : Limits)  : kLimits.M w base ok x [.int .i64 x.Qty, .int .i64 x.Notional, .int .i64 x.Orders] := ⟨[.int .i64 x.Qty], [.int .i64 x.Notional, .int .i64 x.Orders], rfl, rfl, ⟨[.int .i64 x.Notional], [.int .i64 x.Orders], rfl, rfl, rfl⟩⟩
def rd_Limits (xs : List Limits) (i : Int) : Limits := xs.getD i.toNat zLimits
theorem at_Limits {w : World} {A : Option Addr} {n : Nat} {xs : List Limits} (h : Kd.C kLimits w A n xs) (i : Int) (h0 : 0 ≤ i) (h1 : i < n) : ∃ ad , A = some ad ∧ w.cell? (ad.add (i.toNat * 3)) = some (.int .i64 (rd_Limits xs i).Qty) ∧ w.cell? ⟨(ad.add (i.toNat * 3)).block, (ad.add (i.toNat * 3)).off + 1, none⟩ = some (.int .i64 (rd_Limits xs i).Notional) ∧ w.cell? ⟨(ad.add (i.toNat * 3)).block, (ad.add (i.toNat * 3)).off + 2, none⟩ = some (.int .i64 (rd_Limits xs i).Orders) := by
  obtain ⟨ad, c, e, _, hK, hc0⟩ := Kd.C_get h zLimits i h0 h1
  have hc : ∀ j u, c[j]? = some u → w.cell? (ad.add (i.toNat * 3 + j)) = some u := hc0
  obtain rfl := kLimits_open hK
  exact ⟨ad, e, hc 0 _ rfl, by rw [← add_field _ _ 1 (by omega)]; exact hc 1 _ rfl, by rw [← add_field _ _ 2 (by omega)]; exact hc 2 _ rfl⟩

def wfAct (x : Act) : Prop := ((Lit.int .i64 x.Op).wf = true) ∧ ((Lit.int .i64 x.Owner).wf = true) ∧ ((Lit.int .i64 x.Price).wf = true) ∧ ((Lit.int .i64 x.Qty).wf = true) ∧ (True)
theorem opens_Act : Opens Tryd.prog kAct wfAct 36 := opens_struct (ts := [3, 3, 2, 2, 4]) _ (fun p => ⟨p.1, p.2.1, p.2.2.1, p.2.2.2.1, p.2.2.2.2⟩) (fun _ => rfl) Tryd.underlying36 (by kernel_rfl) (by kernel_rfl) (by kernel_rfl) (OF.cons (by kernel_rfl) (opens_int Tryd.underlying3) (OF.cons (by kernel_rfl) (opens_int Tryd.underlying3) (OF.cons (by kernel_rfl) (opens_int Tryd.underlying2) (OF.cons (by kernel_rfl) (opens_int Tryd.underlying2) (OF.last (by kernel_rfl) (opens_bool Tryd.underlying4))))))
def wfLUsed (x : LUsed) : Prop := ((Lit.int .i64 x.owner).wf = true) ∧ ((Lit.int .i64 x.n).wf = true) ∧ ((Lit.int .i64 x.money).wf = true)
theorem opens_LUsed : Opens Tryd.prog kLUsed wfLUsed 38 := opens_struct (ts := [3, 2, 2]) _ (fun p => ⟨p.1, p.2.1, p.2.2⟩) (fun _ => rfl) Tryd.underlying38 (by kernel_rfl) (by kernel_rfl) (by kernel_rfl) (OF.cons (by kernel_rfl) (opens_int Tryd.underlying3) (OF.cons (by kernel_rfl) (opens_int Tryd.underlying2) (OF.last (by kernel_rfl) (opens_int Tryd.underlying2))))
def wfLimits (x : Limits) : Prop := ((Lit.int .i64 x.Qty).wf = true) ∧ ((Lit.int .i64 x.Notional).wf = true) ∧ ((Lit.int .i64 x.Orders).wf = true)
theorem opens_Limits : Opens Tryd.prog kLimits wfLimits 23 := opens_struct (ts := [2, 2, 2]) _ (fun p => ⟨p.1, p.2.1, p.2.2⟩) (fun _ => rfl) Tryd.underlying23 (by kernel_rfl) (by kernel_rfl) (by kernel_rfl) (OF.cons (by kernel_rfl) (opens_int Tryd.underlying2) (OF.cons (by kernel_rfl) (opens_int Tryd.underlying2) (OF.last (by kernel_rfl) (opens_int Tryd.underlying2))))
def kAct_cells (x : Act) : List Value := [.int .i64 x.Op, .int .i64 x.Owner, .int .i64 x.Price, .int .i64 x.Qty, .bool x.Whole]
def kLUsed_cells (x : LUsed) : List Value := [.int .i64 x.owner, .int .i64 x.n, .int .i64 x.money]
def kLimits_cells (x : Limits) : List Value := [.int .i64 x.Qty, .int .i64 x.Notional, .int .i64 x.Orders]
end Go.Proofs.YtdlefdlnnclcaaaDoor.Risk
