import Derived.Test.YtbhofjmmdlkofaaDoorOpen
/-! Structures and kinds of Go's struct types (written by wip/kinds.py over the kit's own kinds). -/
set_option linter.unusedVariables false
set_option linter.unusedSimpArgs false
namespace Go.Proofs.YtbhofjmmdlkofaaDoor.Order
open Go.Proofs.YtbhofjmmdlkofaaDoor.B Go.RowKit Go.Proofs.YtbhofjmmdlkofaaDoorW.PrintWords
/-! #### straddle/order.Order -/
structure Order where
  ID : Int
  Owner : Int
  Side : Int
  Price : Int
  Qty : Int
  Cust : Bool
  Life : Int
def zOrder : Order := ⟨(0 : Int), (0 : Int), (0 : Int), (0 : Int), (0 : Int), false, (0 : Int)⟩
def kOrder : Kd Order := Kd.iso (Kd.pair (Kd.int .i64) (Kd.pair (Kd.int .i64) (Kd.pair (Kd.int .i64) (Kd.pair (Kd.int .i64) (Kd.pair (Kd.int .i64) (Kd.pair Kd.bool (Kd.int .i64))))))) (fun x : Order => (x.ID, x.Owner, x.Side, x.Price, x.Qty, x.Cust, x.Life))
theorem kOrder_open {w : World} {x : Order} {cs : List Value} (h : kOrder.K w x cs) : cs = [.int .i64 x.ID, .int .i64 x.Owner, .int .i64 x.Side, .int .i64 x.Price, .int .i64 x.Qty, .bool x.Cust, .int .i64 x.Life] := by
  obtain ⟨_, _, rfl, rfl, ⟨_, _, rfl, rfl, ⟨_, _, rfl, rfl, ⟨_, _, rfl, rfl, ⟨_, _, rfl, rfl, ⟨_, _, rfl, rfl, rfl⟩⟩⟩⟩⟩⟩ := h
  exact rfl
theorem kOrder_openM {w : World} {base : Nat} {ok : Nat → Prop} {x : Order} {cs : List Value} (h : kOrder.M w base ok x cs) : cs = [.int .i64 x.ID, .int .i64 x.Owner, .int .i64 x.Side, .int .i64 x.Price, .int .i64 x.Qty, .bool x.Cust, .int .i64 x.Life] := by
  obtain ⟨_, _, rfl, rfl, ⟨_, _, rfl, rfl, ⟨_, _, rfl, rfl, ⟨_, _, rfl, rfl, ⟨_, _, rfl, rfl, ⟨_, _, rfl, rfl, rfl⟩⟩⟩⟩⟩⟩ := h
  exact rfl
theorem kOrder_mk (w : World) (x : Order)  : kOrder.K w x [.int .i64 x.ID, .int .i64 x.Owner, .int .i64 x.Side, .int .i64 x.Price, .int .i64 x.Qty, .bool x.Cust, .int .i64 x.Life] := ⟨[.int .i64 x.ID], [.int .i64 x.Owner, .int .i64 x.Side, .int .i64 x.Price, .int .i64 x.Qty, .bool x.Cust, .int .i64 x.Life], rfl, rfl, ⟨[.int .i64 x.Owner], [.int .i64 x.Side, .int .i64 x.Price, .int .i64 x.Qty, .bool x.Cust, .int .i64 x.Life], rfl, rfl, ⟨[.int .i64 x.Side], [.int .i64 x.Price, .int .i64 x.Qty, .bool x.Cust, .int .i64 x.Life], rfl, rfl, ⟨[.int .i64 x.Price], [.int .i64 x.Qty, .bool x.Cust, .int .i64 x.Life], rfl, rfl, ⟨[.int .i64 x.Qty], [.bool x.Cust, .int .i64 x.Life], rfl, rfl, ⟨[.bool x.Cust], [.int .i64 x.Life], rfl, rfl, rfl⟩⟩⟩⟩⟩⟩
theorem kOrder_mkM (w : World) (base : Nat) (ok : Nat → Prop) (x : Order)  : kOrder.M w base ok x [.int .i64 x.ID, .int .i64 x.Owner, .int .i64 x.Side, .int .i64 x.Price, .int .i64 x.Qty, .bool x.Cust, .int .i64 x.Life] := ⟨[.int .i64 x.ID], [.int .i64 x.Owner, .int .i64 x.Side, .int .i64 x.Price, .int .i64 x.Qty, .bool x.Cust, .int .i64 x.Life], rfl, rfl, ⟨[.int .i64 x.Owner], [.int .i64 x.Side, .int .i64 x.Price, .int .i64 x.Qty, .bool x.Cust, .int .i64 x.Life], rfl, rfl, ⟨[.int .i64 x.Side], [.int .i64 x.Price, .int .i64 x.Qty, .bool x.Cust, .int .i64 x.Life], rfl, rfl, ⟨[.int .i64 x.Price], [.int .i64 x.Qty, .bool x.Cust, .int .i64 x.Life], rfl, rfl, ⟨[.int .i64 x.Qty], [.bool x.Cust, .int .i64 x.Life], rfl, rfl, ⟨[.bool x.Cust], [.int .i64 x.Life], rfl, rfl, rfl⟩⟩⟩⟩⟩⟩
def rd_Order (xs : List Order) (i : Int) : Order := xs.getD i.toNat zOrder
theorem at_Order {w : World} {A : Option Addr} {n : Nat} {xs : List Order} (h : Kd.C kOrder w A n xs) (i : Int) (h0 : 0 ≤ i) (h1 : i < n) : ∃ ad , A = some ad ∧ w.cell? (ad.add (i.toNat * 7)) = some (.int .i64 (rd_Order xs i).ID) ∧ w.cell? ⟨(ad.add (i.toNat * 7)).block, (ad.add (i.toNat * 7)).off + 1, none⟩ = some (.int .i64 (rd_Order xs i).Owner) ∧ w.cell? ⟨(ad.add (i.toNat * 7)).block, (ad.add (i.toNat * 7)).off + 2, none⟩ = some (.int .i64 (rd_Order xs i).Side) ∧ w.cell? ⟨(ad.add (i.toNat * 7)).block, (ad.add (i.toNat * 7)).off + 3, none⟩ = some (.int .i64 (rd_Order xs i).Price) ∧ w.cell? ⟨(ad.add (i.toNat * 7)).block, (ad.add (i.toNat * 7)).off + 4, none⟩ = some (.int .i64 (rd_Order xs i).Qty) ∧ w.cell? ⟨(ad.add (i.toNat * 7)).block, (ad.add (i.toNat * 7)).off + 5, none⟩ = some (.bool (rd_Order xs i).Cust) ∧ w.cell? ⟨(ad.add (i.toNat * 7)).block, (ad.add (i.toNat * 7)).off + 6, none⟩ = some (.int .i64 (rd_Order xs i).Life) := by
  obtain ⟨ad, c, e, _, hK, hc0⟩ := Kd.C_get h zOrder i h0 h1
  have hc : ∀ j u, c[j]? = some u → w.cell? (ad.add (i.toNat * 7 + j)) = some u := hc0
  obtain rfl := kOrder_open hK
  exact ⟨ad, e, hc 0 _ rfl, by rw [← add_field _ _ 1 (by omega)]; exact hc 1 _ rfl, by rw [← add_field _ _ 2 (by omega)]; exact hc 2 _ rfl, by rw [← add_field _ _ 3 (by omega)]; exact hc 3 _ rfl, by rw [← add_field _ _ 4 (by omega)]; exact hc 4 _ rfl, by rw [← add_field _ _ 5 (by omega)]; exact hc 5 _ rfl, by rw [← add_field _ _ 6 (by omega)]; exact hc 6 _ rfl⟩

/-! #### straddle/straddleref6.Order -/
structure ROrder where
  ID : Int
  Owner : Int
  Side : Int
  Price : Int
  Qty : Int
  Cust : Bool
  Life : Int
def zROrder : ROrder := ⟨(0 : Int), (0 : Int), (0 : Int), (0 : Int), (0 : Int), false, (0 : Int)⟩
def kROrder : Kd ROrder := Kd.iso (Kd.pair (Kd.int .i64) (Kd.pair (Kd.int .i64) (Kd.pair (Kd.int .i64) (Kd.pair (Kd.int .i64) (Kd.pair (Kd.int .i64) (Kd.pair Kd.bool (Kd.int .i64))))))) (fun x : ROrder => (x.ID, x.Owner, x.Side, x.Price, x.Qty, x.Cust, x.Life))
theorem kROrder_open {w : World} {x : ROrder} {cs : List Value} (h : kROrder.K w x cs) : cs = [.int .i64 x.ID, .int .i64 x.Owner, .int .i64 x.Side, .int .i64 x.Price, .int .i64 x.Qty, .bool x.Cust, .int .i64 x.Life] := by
  obtain ⟨_, _, rfl, rfl, ⟨_, _, rfl, rfl, ⟨_, _, rfl, rfl, ⟨_, _, rfl, rfl, ⟨_, _, rfl, rfl, ⟨_, _, rfl, rfl, rfl⟩⟩⟩⟩⟩⟩ := h
  exact rfl
theorem kROrder_openM {w : World} {base : Nat} {ok : Nat → Prop} {x : ROrder} {cs : List Value} (h : kROrder.M w base ok x cs) : cs = [.int .i64 x.ID, .int .i64 x.Owner, .int .i64 x.Side, .int .i64 x.Price, .int .i64 x.Qty, .bool x.Cust, .int .i64 x.Life] := by
  obtain ⟨_, _, rfl, rfl, ⟨_, _, rfl, rfl, ⟨_, _, rfl, rfl, ⟨_, _, rfl, rfl, ⟨_, _, rfl, rfl, ⟨_, _, rfl, rfl, rfl⟩⟩⟩⟩⟩⟩ := h
  exact rfl
theorem kROrder_mk (w : World) (x : ROrder)  : kROrder.K w x [.int .i64 x.ID, .int .i64 x.Owner, .int .i64 x.Side, .int .i64 x.Price, .int .i64 x.Qty, .bool x.Cust, .int .i64 x.Life] := ⟨[.int .i64 x.ID], [.int .i64 x.Owner, .int .i64 x.Side, .int .i64 x.Price, .int .i64 x.Qty, .bool x.Cust, .int .i64 x.Life], rfl, rfl, ⟨[.int .i64 x.Owner], [.int .i64 x.Side, .int .i64 x.Price, .int .i64 x.Qty, .bool x.Cust, .int .i64 x.Life], rfl, rfl, ⟨[.int .i64 x.Side], [.int .i64 x.Price, .int .i64 x.Qty, .bool x.Cust, .int .i64 x.Life], rfl, rfl, ⟨[.int .i64 x.Price], [.int .i64 x.Qty, .bool x.Cust, .int .i64 x.Life], rfl, rfl, ⟨[.int .i64 x.Qty], [.bool x.Cust, .int .i64 x.Life], rfl, rfl, ⟨[.bool x.Cust], [.int .i64 x.Life], rfl, rfl, rfl⟩⟩⟩⟩⟩⟩
theorem kROrder_mkM (w : World) (base : Nat) (ok : Nat → Prop) (x : ROrder)  : kROrder.M w base ok x [.int .i64 x.ID, .int .i64 x.Owner, .int .i64 x.Side, .int .i64 x.Price, .int .i64 x.Qty, .bool x.Cust, .int .i64 x.Life] := ⟨[.int .i64 x.ID], [.int .i64 x.Owner, .int .i64 x.Side, .int .i64 x.Price, .int .i64 x.Qty, .bool x.Cust, .int .i64 x.Life], rfl, rfl, ⟨[.int .i64 x.Owner], [.int .i64 x.Side, .int .i64 x.Price, .int .i64 x.Qty, .bool x.Cust, .int .i64 x.Life], rfl, rfl, ⟨[.int .i64 x.Side], [.int .i64 x.Price, .int .i64 x.Qty, .bool x.Cust, .int .i64 x.Life], rfl, rfl, ⟨[.int .i64 x.Price], [.int .i64 x.Qty, .bool x.Cust, .int .i64 x.Life], rfl, rfl, ⟨[.int .i64 x.Qty], [.bool x.Cust, .int .i64 x.Life], rfl, rfl, ⟨[.bool x.Cust], [.int .i64 x.Life], rfl, rfl, rfl⟩⟩⟩⟩⟩⟩
def rd_ROrder (xs : List ROrder) (i : Int) : ROrder := xs.getD i.toNat zROrder
theorem at_ROrder {w : World} {A : Option Addr} {n : Nat} {xs : List ROrder} (h : Kd.C kROrder w A n xs) (i : Int) (h0 : 0 ≤ i) (h1 : i < n) : ∃ ad , A = some ad ∧ w.cell? (ad.add (i.toNat * 7)) = some (.int .i64 (rd_ROrder xs i).ID) ∧ w.cell? ⟨(ad.add (i.toNat * 7)).block, (ad.add (i.toNat * 7)).off + 1, none⟩ = some (.int .i64 (rd_ROrder xs i).Owner) ∧ w.cell? ⟨(ad.add (i.toNat * 7)).block, (ad.add (i.toNat * 7)).off + 2, none⟩ = some (.int .i64 (rd_ROrder xs i).Side) ∧ w.cell? ⟨(ad.add (i.toNat * 7)).block, (ad.add (i.toNat * 7)).off + 3, none⟩ = some (.int .i64 (rd_ROrder xs i).Price) ∧ w.cell? ⟨(ad.add (i.toNat * 7)).block, (ad.add (i.toNat * 7)).off + 4, none⟩ = some (.int .i64 (rd_ROrder xs i).Qty) ∧ w.cell? ⟨(ad.add (i.toNat * 7)).block, (ad.add (i.toNat * 7)).off + 5, none⟩ = some (.bool (rd_ROrder xs i).Cust) ∧ w.cell? ⟨(ad.add (i.toNat * 7)).block, (ad.add (i.toNat * 7)).off + 6, none⟩ = some (.int .i64 (rd_ROrder xs i).Life) := by
  obtain ⟨ad, c, e, _, hK, hc0⟩ := Kd.C_get h zROrder i h0 h1
  have hc : ∀ j u, c[j]? = some u → w.cell? (ad.add (i.toNat * 7 + j)) = some u := hc0
  obtain rfl := kROrder_open hK
  exact ⟨ad, e, hc 0 _ rfl, by rw [← add_field _ _ 1 (by omega)]; exact hc 1 _ rfl, by rw [← add_field _ _ 2 (by omega)]; exact hc 2 _ rfl, by rw [← add_field _ _ 3 (by omega)]; exact hc 3 _ rfl, by rw [← add_field _ _ 4 (by omega)]; exact hc 4 _ rfl, by rw [← add_field _ _ 5 (by omega)]; exact hc 5 _ rfl, by rw [← add_field _ _ 6 (by omega)]; exact hc 6 _ rfl⟩

def wfOrder (x : Order) : Prop := ((Lit.int .i64 x.ID).wf = true) ∧ ((Lit.int .i64 x.Owner).wf = true) ∧ ((Lit.int .i64 x.Side).wf = true) ∧ ((Lit.int .i64 x.Price).wf = true) ∧ ((Lit.int .i64 x.Qty).wf = true) ∧ (True) ∧ ((Lit.int .i64 x.Life).wf = true)
theorem opens_Order : Opens Tryd.prog kOrder wfOrder 23 := opens_struct (ts := [2, 3, 3, 2, 2, 4, 3]) _ (fun p => ⟨p.1, p.2.1, p.2.2.1, p.2.2.2.1, p.2.2.2.2.1, p.2.2.2.2.2.1, p.2.2.2.2.2.2⟩) (fun _ => rfl) Tryd.underlying23 (by kernel_rfl) (by kernel_rfl) (by kernel_rfl) (OF.cons (by kernel_rfl) (opens_int Tryd.underlying2) (OF.cons (by kernel_rfl) (opens_int Tryd.underlying3) (OF.cons (by kernel_rfl) (opens_int Tryd.underlying3) (OF.cons (by kernel_rfl) (opens_int Tryd.underlying2) (OF.cons (by kernel_rfl) (opens_int Tryd.underlying2) (OF.cons (by kernel_rfl) (opens_bool Tryd.underlying4) (OF.last (by kernel_rfl) (opens_int Tryd.underlying3))))))))
def wfROrder (x : ROrder) : Prop := ((Lit.int .i64 x.ID).wf = true) ∧ ((Lit.int .i64 x.Owner).wf = true) ∧ ((Lit.int .i64 x.Side).wf = true) ∧ ((Lit.int .i64 x.Price).wf = true) ∧ ((Lit.int .i64 x.Qty).wf = true) ∧ (True) ∧ ((Lit.int .i64 x.Life).wf = true)
theorem opens_ROrder : Opens Tryd.prog kROrder wfROrder 38 := opens_struct (ts := [2, 3, 3, 2, 2, 4, 3]) _ (fun p => ⟨p.1, p.2.1, p.2.2.1, p.2.2.2.1, p.2.2.2.2.1, p.2.2.2.2.2.1, p.2.2.2.2.2.2⟩) (fun _ => rfl) Tryd.underlying38 (by kernel_rfl) (by kernel_rfl) (by kernel_rfl) (OF.cons (by kernel_rfl) (opens_int Tryd.underlying2) (OF.cons (by kernel_rfl) (opens_int Tryd.underlying3) (OF.cons (by kernel_rfl) (opens_int Tryd.underlying3) (OF.cons (by kernel_rfl) (opens_int Tryd.underlying2) (OF.cons (by kernel_rfl) (opens_int Tryd.underlying2) (OF.cons (by kernel_rfl) (opens_bool Tryd.underlying4) (OF.last (by kernel_rfl) (opens_int Tryd.underlying3))))))))
def kOrder_cells (x : Order) : List Value := [.int .i64 x.ID, .int .i64 x.Owner, .int .i64 x.Side, .int .i64 x.Price, .int .i64 x.Qty, .bool x.Cust, .int .i64 x.Life]
def kROrder_cells (x : ROrder) : List Value := [.int .i64 x.ID, .int .i64 x.Owner, .int .i64 x.Side, .int .i64 x.Price, .int .i64 x.Qty, .bool x.Cust, .int .i64 x.Life]
end Go.Proofs.YtbhofjmmdlkofaaDoor.Order
