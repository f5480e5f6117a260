import Derived.Test.YtbeijddogfmnpaaBase
/-! Structures and kinds of Go's struct types (written by wip/kinds.py over the kit's own kinds). -/
set_option linter.unusedVariables false
set_option linter.unusedSimpArgs false
namespace Go.Proofs.Ytbeijddogfmnpaa.Life
open Go.RowKit Go.Proofs.YtbeijddogfmnpaaW.PrintWords
/-! #### straddle/life.Entry -/
structure Entry where
  Entered : Int
  Filled : Int
  Cancelled : Int
  Open : Int
  Owner : Int
  Series : Int
  Side : Int
def zEntry : Entry := ⟨(0 : Int), (0 : Int), (0 : Int), (0 : Int), (0 : Int), (0 : Int), (0 : Int)⟩
def kEntry : Kd Entry := Kd.iso (Kd.pair (Kd.int .i64) (Kd.pair (Kd.int .i64) (Kd.pair (Kd.int .i64) (Kd.pair (Kd.int .i64) (Kd.pair (Kd.int .i64) (Kd.pair (Kd.int .i64) (Kd.int .i64))))))) (fun x : Entry => (x.Entered, x.Filled, x.Cancelled, x.Open, x.Owner, x.Series, x.Side))
theorem kEntry_open {w : World} {x : Entry} {cs : List Value} (h : kEntry.K w x cs) : cs = [.int .i64 x.Entered, .int .i64 x.Filled, .int .i64 x.Cancelled, .int .i64 x.Open, .int .i64 x.Owner, .int .i64 x.Series, .int .i64 x.Side] := by
  obtain ⟨_, _, rfl, rfl, ⟨_, _, rfl, rfl, ⟨_, _, rfl, rfl, ⟨_, _, rfl, rfl, ⟨_, _, rfl, rfl, ⟨_, _, rfl, rfl, rfl⟩⟩⟩⟩⟩⟩ := h
  exact rfl
theorem kEntry_openM {w : World} {base : Nat} {ok : Nat → Prop} {x : Entry} {cs : List Value} (h : kEntry.M w base ok x cs) : cs = [.int .i64 x.Entered, .int .i64 x.Filled, .int .i64 x.Cancelled, .int .i64 x.Open, .int .i64 x.Owner, .int .i64 x.Series, .int .i64 x.Side] := by
  obtain ⟨_, _, rfl, rfl, ⟨_, _, rfl, rfl, ⟨_, _, rfl, rfl, ⟨_, _, rfl, rfl, ⟨_, _, rfl, rfl, ⟨_, _, rfl, rfl, rfl⟩⟩⟩⟩⟩⟩ := h
  exact rfl
theorem kEntry_mk (w : World) (x : Entry)  : kEntry.K w x [.int .i64 x.Entered, .int .i64 x.Filled, .int .i64 x.Cancelled, .int .i64 x.Open, .int .i64 x.Owner, .int .i64 x.Series, .int .i64 x.Side] := ⟨[.int .i64 x.Entered], [.int .i64 x.Filled, .int .i64 x.Cancelled, .int .i64 x.Open, .int .i64 x.Owner, .int .i64 x.Series, .int .i64 x.Side], rfl, rfl, ⟨[.int .i64 x.Filled], [.int .i64 x.Cancelled, .int .i64 x.Open, .int .i64 x.Owner, .int .i64 x.Series, .int .i64 x.Side], rfl, rfl, ⟨[.int .i64 x.Cancelled], [.int .i64 x.Open, .int .i64 x.Owner, .int .i64 x.Series, .int .i64 x.Side], rfl, rfl, ⟨[.int .i64 x.Open], [.int .i64 x.Owner, .int .i64 x.Series, .int .i64 x.Side], rfl, rfl, ⟨[.int .i64 x.Owner], [.int .i64 x.Series, .int .i64 x.Side], rfl, rfl, ⟨[.int .i64 x.Series], [.int .i64 x.Side], rfl, rfl, rfl⟩⟩⟩⟩⟩⟩
theorem kEntry_mkM (w : World) (base : Nat) (ok : Nat → Prop) (x : Entry)  : kEntry.M w base ok x [.int .i64 x.Entered, .int .i64 x.Filled, .int .i64 x.Cancelled, .int .i64 x.Open, .int .i64 x.Owner, .int .i64 x.Series, .int .i64 x.Side] := ⟨[.int .i64 x.Entered], [.int .i64 x.Filled, .int .i64 x.Cancelled, .int .i64 x.Open, .int .i64 x.Owner, .int .i64 x.Series, .int .i64 x.Side], rfl, rfl, ⟨[.int .i64 x.Filled], [.int .i64 x.Cancelled, .int .i64 x.Open, .int .i64 x.Owner, .int .i64 x.Series, .int .i64 x.Side], rfl, rfl, ⟨[.int .i64 x.Cancelled], [.int .i64 x.Open, .int .i64 x.Owner, .int .i64 x.Series, .int .i64 x.Side], rfl, rfl, ⟨[.int .i64 x.Open], [.int .i64 x.Owner, .int .i64 x.Series, .int .i64 x.Side], rfl, rfl, ⟨[.int .i64 x.Owner], [.int .i64 x.Series, .int .i64 x.Side], rfl, rfl, ⟨[.int .i64 x.Series], [.int .i64 x.Side], rfl, rfl, rfl⟩⟩⟩⟩⟩⟩
def rd_Entry (xs : List Entry) (i : Int) : Entry := xs.getD i.toNat zEntry
theorem at_Entry {w : World} {A : Option Addr} {n : Nat} {xs : List Entry} (h : Kd.C kEntry w A n xs) (i : Int) (h0 : 0 ≤ i) (h1 : i < n) : ∃ ad , A = some ad ∧ w.cell? (ad.add (i.toNat * 7)) = some (.int .i64 (rd_Entry xs i).Entered) ∧ w.cell? ⟨(ad.add (i.toNat * 7)).block, (ad.add (i.toNat * 7)).off + 1, none⟩ = some (.int .i64 (rd_Entry xs i).Filled) ∧ w.cell? ⟨(ad.add (i.toNat * 7)).block, (ad.add (i.toNat * 7)).off + 2, none⟩ = some (.int .i64 (rd_Entry xs i).Cancelled) ∧ w.cell? ⟨(ad.add (i.toNat * 7)).block, (ad.add (i.toNat * 7)).off + 3, none⟩ = some (.int .i64 (rd_Entry xs i).Open) ∧ w.cell? ⟨(ad.add (i.toNat * 7)).block, (ad.add (i.toNat * 7)).off + 4, none⟩ = some (.int .i64 (rd_Entry xs i).Owner) ∧ w.cell? ⟨(ad.add (i.toNat * 7)).block, (ad.add (i.toNat * 7)).off + 5, none⟩ = some (.int .i64 (rd_Entry xs i).Series) ∧ w.cell? ⟨(ad.add (i.toNat * 7)).block, (ad.add (i.toNat * 7)).off + 6, none⟩ = some (.int .i64 (rd_Entry xs i).Side) := by
  obtain ⟨ad, c, e, _, hK, hc0⟩ := Kd.C_get h zEntry i h0 h1
  have hc : ∀ j u, c[j]? = some u → w.cell? (ad.add (i.toNat * 7 + j)) = some u := hc0
  obtain rfl := kEntry_open hK
  exact ⟨ad, e, hc 0 _ rfl, by rw [← add_field _ _ 1 (by omega)]; exact hc 1 _ rfl, by rw [← add_field _ _ 2 (by omega)]; exact hc 2 _ rfl, by rw [← add_field _ _ 3 (by omega)]; exact hc 3 _ rfl, by rw [← add_field _ _ 4 (by omega)]; exact hc 4 _ rfl, by rw [← add_field _ _ 5 (by omega)]; exact hc 5 _ rfl, by rw [← add_field _ _ 6 (by omega)]; exact hc 6 _ rfl⟩

/-! #### straddle/straddlelaw14.Act -/
structure Act where
  Op : Int
  Owner : Int
  Series : Int
  Side : Int
  ID : Int
  Qty : Int
def zAct : Act := ⟨(0 : Int), (0 : Int), (0 : Int), (0 : Int), (0 : Int), (0 : Int)⟩
def kAct : Kd Act := Kd.iso (Kd.pair (Kd.int .i64) (Kd.pair (Kd.int .i64) (Kd.pair (Kd.int .i64) (Kd.pair (Kd.int .i64) (Kd.pair (Kd.int .i64) (Kd.int .i64)))))) (fun x : Act => (x.Op, x.Owner, x.Series, x.Side, x.ID, x.Qty))
theorem kAct_open {w : World} {x : Act} {cs : List Value} (h : kAct.K w x cs) : cs = [.int .i64 x.Op, .int .i64 x.Owner, .int .i64 x.Series, .int .i64 x.Side, .int .i64 x.ID, .int .i64 x.Qty] := by
  obtain ⟨_, _, rfl, rfl, ⟨_, _, rfl, rfl, ⟨_, _, rfl, rfl, ⟨_, _, rfl, rfl, ⟨_, _, rfl, rfl, rfl⟩⟩⟩⟩⟩ := h
  exact rfl
theorem kAct_openM {w : World} {base : Nat} {ok : Nat → Prop} {x : Act} {cs : List Value} (h : kAct.M w base ok x cs) : cs = [.int .i64 x.Op, .int .i64 x.Owner, .int .i64 x.Series, .int .i64 x.Side, .int .i64 x.ID, .int .i64 x.Qty] := by
  obtain ⟨_, _, rfl, rfl, ⟨_, _, rfl, rfl, ⟨_, _, rfl, rfl, ⟨_, _, rfl, rfl, ⟨_, _, rfl, rfl, rfl⟩⟩⟩⟩⟩ := h
  exact rfl
theorem kAct_mk (w : World) (x : Act)  : kAct.K w x [.int .i64 x.Op, .int .i64 x.Owner, .int .i64 x.Series, .int .i64 x.Side, .int .i64 x.ID, .int .i64 x.Qty] := ⟨[.int .i64 x.Op], [.int .i64 x.Owner, .int .i64 x.Series, .int .i64 x.Side, .int .i64 x.ID, .int .i64 x.Qty], rfl, rfl, ⟨[.int .i64 x.Owner], [.int .i64 x.Series, .int .i64 x.Side, .int .i64 x.ID, .int .i64 x.Qty], rfl, rfl, ⟨[.int .i64 x.Series], [.int .i64 x.Side, .int .i64 x.ID, .int .i64 x.Qty], rfl, rfl, ⟨[.int .i64 x.Side], [.int .i64 x.ID, .int .i64 x.Qty], rfl, rfl, ⟨[.int .i64 x.ID], [.int .i64 x.Qty], rfl, rfl, rfl⟩⟩⟩⟩⟩
theorem kAct_mkM (w : World) (base : Nat) (ok : Nat → Prop) (x : Act)  : kAct.M w base ok x [.int .i64 x.Op, .int .i64 x.Owner, .int .i64 x.Series, .int .i64 x.Side, .int .i64 x.ID, .int .i64 x.Qty] := ⟨[.int .i64 x.Op], [.int .i64 x.Owner, .int .i64 x.Series, .int .i64 x.Side, .int .i64 x.ID, .int .i64 x.Qty], rfl, rfl, ⟨[.int .i64 x.Owner], [.int .i64 x.Series, .int .i64 x.Side, .int .i64 x.ID, .int .i64 x.Qty], rfl, rfl, ⟨[.int .i64 x.Series], [.int .i64 x.Side, .int .i64 x.ID, .int .i64 x.Qty], rfl, rfl, ⟨[.int .i64 x.Side], [.int .i64 x.ID, .int .i64 x.Qty], rfl, rfl, ⟨[.int .i64 x.ID], [.int .i64 x.Qty], rfl, rfl, rfl⟩⟩⟩⟩⟩
def rd_Act (xs : List Act) (i : Int) : Act := xs.getD i.toNat zAct
theorem at_Act {w : World} {A : Option Addr} {n : Nat} {xs : List Act} (h : Kd.C kAct w A n xs) (i : Int) (h0 : 0 ≤ i) (h1 : i < n) : ∃ ad , A = some ad ∧ w.cell? (ad.add (i.toNat * 6)) = some (.int .i64 (rd_Act xs i).Op) ∧ w.cell? ⟨(ad.add (i.toNat * 6)).block, (ad.add (i.toNat * 6)).off + 1, none⟩ = some (.int .i64 (rd_Act xs i).Owner) ∧ w.cell? ⟨(ad.add (i.toNat * 6)).block, (ad.add (i.toNat * 6)).off + 2, none⟩ = some (.int .i64 (rd_Act xs i).Series) ∧ w.cell? ⟨(ad.add (i.toNat * 6)).block, (ad.add (i.toNat * 6)).off + 3, none⟩ = some (.int .i64 (rd_Act xs i).Side) ∧ w.cell? ⟨(ad.add (i.toNat * 6)).block, (ad.add (i.toNat * 6)).off + 4, none⟩ = some (.int .i64 (rd_Act xs i).ID) ∧ w.cell? ⟨(ad.add (i.toNat * 6)).block, (ad.add (i.toNat * 6)).off + 5, none⟩ = some (.int .i64 (rd_Act xs i).Qty) := by
  obtain ⟨ad, c, e, _, hK, hc0⟩ := Kd.C_get h zAct i h0 h1
  have hc : ∀ j u, c[j]? = some u → w.cell? (ad.add (i.toNat * 6 + j)) = some u := hc0
  obtain rfl := kAct_open hK
  exact ⟨ad, e, hc 0 _ rfl, by rw [← add_field _ _ 1 (by omega)]; exact hc 1 _ rfl, by rw [← add_field _ _ 2 (by omega)]; exact hc 2 _ rfl, by rw [← add_field _ _ 3 (by omega)]; exact hc 3 _ rfl, by rw [← add_field _ _ 4 (by omega)]; exact hc 4 _ rfl, by rw [← add_field _ _ 5 (by omega)]; exact hc 5 _ rfl⟩

end Go.Proofs.Ytbeijddogfmnpaa.Life
