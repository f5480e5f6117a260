import Derived.Test.YtkmdnbficoknlaaOpen
/-! Structures and kinds of Go's struct types (written by wip/kinds.py over the kit's own kinds). -/
set_option linter.unusedVariables false
set_option linter.unusedSimpArgs false
namespace Go.Proofs.Ytkmdnbficoknlaa.Codec
open Go.Proofs.Ytkmdnbficoknlaa.B Go.RowKit Go.Proofs.YtkmdnbficoknlaaW.PrintWords
def rd_L3 (xs : List (List Int)) (i : Int) : (List Int) := xs.getD i.toNat ([] : List Int)
theorem at_L3 {w : World} {A : Option Addr} {n : Nat} {xs : List (List Int)} (h : Kd.C (Kd.slice 5 (Kd.int .u8)) w A n xs) (i : Int) (h0 : 0 ≤ i) (h1 : i < n) : ∃ ad A0 c0, A = some ad ∧ w.cell? (ad.add i.toNat) = some (.slice A0 (rd_L3 xs i).length c0) ∧ (rd_L3 xs i).length ≤ c0 ∧ (Kd.int .u8).C w A0 (rd_L3 xs i).length (rd_L3 xs i) := by
  obtain ⟨ad, c, e, _, hK, hc0⟩ := Kd.C_get h ([] : List Int) i h0 h1
  have hc : ∀ j u, c[j]? = some u → w.cell? (ad.add (i.toNat * 1 + j)) = some u := hc0
  obtain ⟨A0, c0, rfl, l0, g0⟩ := hK
  exact ⟨ad, A0, c0, e, by have hq := hc 0 _ rfl; rwa [Nat.mul_one, Nat.add_zero] at hq, l0, g0⟩

/-! #### straddle/straddlelaw3.Item -/
structure Item where
  Text : Bool
  I : Int
  B : (List Int)
def zItem : Item := ⟨false, (0 : Int), ([] : List Int)⟩
def kItem : Kd Item := Kd.iso (Kd.pair Kd.bool (Kd.pair (Kd.int .i64) (Kd.slice 5 (Kd.int .u8)))) (fun x : Item => (x.Text, x.I, x.B))
theorem kItem_open {w : World} {x : Item} {cs : List Value} (h : kItem.K w x cs) : ∃ A2 c2, cs = [.bool x.Text, .int .i64 x.I, .slice A2 x.B.length c2] ∧ x.B.length ≤ c2 ∧ (Kd.int .u8).C w A2 x.B.length x.B := by
  obtain ⟨_, _, rfl, rfl, ⟨_, _, rfl, rfl, ⟨A2, c2, rfl, l2, g2⟩⟩⟩ := h
  exact ⟨A2, c2, rfl, l2, g2⟩
theorem kItem_openM {w : World} {base : Nat} {ok : Nat → Prop} {x : Item} {cs : List Value} (h : kItem.M w base ok x cs) : ∃ v2, cs = [.bool x.Text, .int .i64 x.I, v2] ∧ (Kd.int .u8).R 5 w base ok v2 x.B := by
  obtain ⟨_, _, rfl, rfl, ⟨_, _, rfl, rfl, ⟨v2, rfl, g2⟩⟩⟩ := h
  exact ⟨v2, rfl, g2⟩
theorem kItem_mk (w : World) (x : Item) {A2 : Option Addr} {c2 : Nat} (l2 : x.B.length ≤ c2) (g2 : (Kd.int .u8).C w A2 x.B.length x.B) : kItem.K w x [.bool x.Text, .int .i64 x.I, .slice A2 x.B.length c2] := ⟨[.bool x.Text], [.int .i64 x.I, .slice A2 x.B.length c2], rfl, rfl, ⟨[.int .i64 x.I], [.slice A2 x.B.length c2], rfl, rfl, ⟨A2, c2, rfl, l2, g2⟩⟩⟩
theorem kItem_mkM (w : World) (base : Nat) (ok : Nat → Prop) (x : Item) {v2 : Value} (g2 : (Kd.int .u8).R 5 w base ok v2 x.B) : kItem.M w base ok x [.bool x.Text, .int .i64 x.I, v2] := ⟨[.bool x.Text], [.int .i64 x.I, v2], rfl, rfl, ⟨[.int .i64 x.I], [v2], rfl, rfl, ⟨v2, rfl, g2⟩⟩⟩
def rd_Item (xs : List Item) (i : Int) : Item := xs.getD i.toNat zItem
theorem at_Item {w : World} {A : Option Addr} {n : Nat} {xs : List Item} (h : Kd.C kItem w A n xs) (i : Int) (h0 : 0 ≤ i) (h1 : i < n) : ∃ ad A2 c2, A = some ad ∧ w.cell? (ad.add (i.toNat * 3)) = some (.bool (rd_Item xs i).Text) ∧ w.cell? ⟨(ad.add (i.toNat * 3)).block, (ad.add (i.toNat * 3)).off + 1, none⟩ = some (.int .i64 (rd_Item xs i).I) ∧ w.cell? ⟨(ad.add (i.toNat * 3)).block, (ad.add (i.toNat * 3)).off + 2, none⟩ = some (.slice A2 (rd_Item xs i).B.length c2) ∧ (rd_Item xs i).B.length ≤ c2 ∧ (Kd.int .u8).C w A2 (rd_Item xs i).B.length (rd_Item xs i).B := by
  obtain ⟨ad, c, e, _, hK, hc0⟩ := Kd.C_get h zItem i h0 h1
  have hc : ∀ j u, c[j]? = some u → w.cell? (ad.add (i.toNat * 3 + j)) = some u := hc0
  obtain ⟨A2, c2, rfl, l2, g2⟩ := kItem_open hK
  exact ⟨ad, A2, c2, e, hc 0 _ rfl, by rw [← add_field _ _ 1 (by omega)]; exact hc 1 _ rfl, by rw [← add_field _ _ 2 (by omega)]; exact hc 2 _ rfl, l2, g2⟩

def wfItem (x : Item) : Prop := (True) ∧ ((Lit.int .i64 x.I).wf = true) ∧ (∀ y ∈ x.B, (Lit.int .u8 y).wf = true)
theorem opens_Item : Opens Try.prog kItem wfItem 29 := opens_struct (ts := [4, 2, 25]) _ (fun p => ⟨p.1, p.2.1, p.2.2⟩) (fun _ => rfl) Try.underlying29 (by kernel_rfl) (by kernel_rfl) (by kernel_rfl) (OF.cons (by kernel_rfl) (opens_bool Try.underlying4) (OF.cons (by kernel_rfl) (opens_int Try.underlying2) (OF.last (by kernel_rfl) (opens_slice Try.underlying25 (by kernel_rfl) (opens_int Try.underlying5)))))
end Go.Proofs.Ytkmdnbficoknlaa.Codec
