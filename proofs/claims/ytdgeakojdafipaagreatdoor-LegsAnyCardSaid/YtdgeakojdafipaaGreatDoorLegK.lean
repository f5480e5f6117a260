import Derived.Test.YtdgeakojdafipaaGreatDoorOpen
/-! Structures and kinds of Go's struct types (written by wip/kinds.py over the kit's own kinds). -/
set_option linter.unusedVariables false
set_option linter.unusedSimpArgs false
namespace Go.Proofs.YtdgeakojdafipaaGreatDoor.Legs
open Go.Proofs.YtdgeakojdafipaaGreatDoor.B Go.RowKit Go.Proofs.YtdgeakojdafipaaGreatDoorW.PrintWords
/-! #### straddle/legs.Leg -/
structure Leg where
  Series : Int
  Sign : Int
  Ratio : Int
def zLeg : Leg := ⟨(0 : Int), (0 : Int), (0 : Int)⟩
def kLeg : Kd Leg := Kd.iso (Kd.pair (Kd.int .i64) (Kd.pair (Kd.int .i64) (Kd.int .i64))) (fun x : Leg => (x.Series, x.Sign, x.Ratio))
theorem kLeg_open {w : World} {x : Leg} {cs : List Value} (h : kLeg.K w x cs) : cs = [.int .i64 x.Series, .int .i64 x.Sign, .int .i64 x.Ratio] := by
  obtain ⟨_, _, rfl, rfl, ⟨_, _, rfl, rfl, rfl⟩⟩ := h
  exact rfl
theorem kLeg_openM {w : World} {base : Nat} {ok : Nat → Prop} {x : Leg} {cs : List Value} (h : kLeg.M w base ok x cs) : cs = [.int .i64 x.Series, .int .i64 x.Sign, .int .i64 x.Ratio] := by
  obtain ⟨_, _, rfl, rfl, ⟨_, _, rfl, rfl, rfl⟩⟩ := h
  exact rfl
theorem kLeg_mk (w : World) (x : Leg)  : kLeg.K w x [.int .i64 x.Series, .int .i64 x.Sign, .int .i64 x.Ratio] := ⟨[.int .i64 x.Series], [.int .i64 x.Sign, .int .i64 x.Ratio], rfl, rfl, ⟨[.int .i64 x.Sign], [.int .i64 x.Ratio], rfl, rfl, rfl⟩⟩
theorem kLeg_mkM (w : World) (base : Nat) (ok : Nat → Prop) (x : Leg)  : kLeg.M w base ok x [.int .i64 x.Series, .int .i64 x.Sign, .int .i64 x.Ratio] := ⟨[.int .i64 x.Series], [.int .i64 x.Sign, .int .i64 x.Ratio], rfl, rfl, ⟨[.int .i64 x.Sign], [.int .i64 x.Ratio], rfl, rfl, rfl⟩⟩
def rd_Leg (xs : List Leg) (i : Int) : Leg := xs.getD i.toNat zLeg
theorem at_Leg {w : World} {A : Option Addr} {n : Nat} {xs : List Leg} (h : Kd.C kLeg w A n xs) (i : Int) (h0 : 0 ≤ i) (h1 : i < n) : ∃ ad , A = some ad ∧ w.cell? (ad.add (i.toNat * 3)) = some (.int .i64 (rd_Leg xs i).Series) ∧ w.cell? ⟨(ad.add (i.toNat * 3)).block, (ad.add (i.toNat * 3)).off + 1, none⟩ = some (.int .i64 (rd_Leg xs i).Sign) ∧ w.cell? ⟨(ad.add (i.toNat * 3)).block, (ad.add (i.toNat * 3)).off + 2, none⟩ = some (.int .i64 (rd_Leg xs i).Ratio) := by
  obtain ⟨ad, c, e, _, hK, hc0⟩ := Kd.C_get h zLeg i h0 h1
  have hc : ∀ j u, c[j]? = some u → w.cell? (ad.add (i.toNat * 3 + j)) = some u := hc0
  obtain rfl := kLeg_open hK
  exact ⟨ad, e, hc 0 _ rfl, by rw [← add_field _ _ 1 (by omega)]; exact hc 1 _ rfl, by rw [← add_field _ _ 2 (by omega)]; exact hc 2 _ rfl⟩

/-! #### straddle/straddleref17.Leg -/
structure RLeg where
  Series : Int
  Sign : Int
  Ratio : Int
def zRLeg : RLeg := ⟨(0 : Int), (0 : Int), (0 : Int)⟩
def kRLeg : Kd RLeg := Kd.iso (Kd.pair (Kd.int .i64) (Kd.pair (Kd.int .i64) (Kd.int .i64))) (fun x : RLeg => (x.Series, x.Sign, x.Ratio))
theorem kRLeg_open {w : World} {x : RLeg} {cs : List Value} (h : kRLeg.K w x cs) : cs = [.int .i64 x.Series, .int .i64 x.Sign, .int .i64 x.Ratio] := by
  obtain ⟨_, _, rfl, rfl, ⟨_, _, rfl, rfl, rfl⟩⟩ := h
  exact rfl
theorem kRLeg_openM {w : World} {base : Nat} {ok : Nat → Prop} {x : RLeg} {cs : List Value} (h : kRLeg.M w base ok x cs) : cs = [.int .i64 x.Series, .int .i64 x.Sign, .int .i64 x.Ratio] := by
  obtain ⟨_, _, rfl, rfl, ⟨_, _, rfl, rfl, rfl⟩⟩ := h
  exact rfl
theorem kRLeg_mk (w : World) (x : RLeg)  : kRLeg.K w x [.int .i64 x.Series, .int .i64 x.Sign, .int .i64 x.Ratio] := ⟨[.int .i64 x.Series], [.int .i64 x.Sign, .int .i64 x.Ratio], rfl, rfl, ⟨[.int .i64 x.Sign], [.int .i64 x.Ratio], rfl, rfl, rfl⟩⟩
theorem kRLeg_mkM (w : World) (base : Nat) (ok : Nat → Prop) (x : RLeg)  : kRLeg.M w base ok x [.int .i64 x.Series, .int .i64 x.Sign, .int .i64 x.Ratio] := ⟨[.int .i64 x.Series], [.int .i64 x.Sign, .int .i64 x.Ratio], rfl, rfl, ⟨[.int .i64 x.Sign], [.int .i64 x.Ratio], rfl, rfl, rfl⟩⟩
def rd_RLeg (xs : List RLeg) (i : Int) : RLeg := xs.getD i.toNat zRLeg
theorem at_RLeg {w : World} {A : Option Addr} {n : Nat} {xs : List RLeg} (h : Kd.C kRLeg w A n xs) (i : Int) (h0 : 0 ≤ i) (h1 : i < n) : ∃ ad , A = some ad ∧ w.cell? (ad.add (i.toNat * 3)) = some (.int .i64 (rd_RLeg xs i).Series) ∧ w.cell? ⟨(ad.add (i.toNat * 3)).block, (ad.add (i.toNat * 3)).off + 1, none⟩ = some (.int .i64 (rd_RLeg xs i).Sign) ∧ w.cell? ⟨(ad.add (i.toNat * 3)).block, (ad.add (i.toNat * 3)).off + 2, none⟩ = some (.int .i64 (rd_RLeg xs i).Ratio) := by
  obtain ⟨ad, c, e, _, hK, hc0⟩ := Kd.C_get h zRLeg i h0 h1
  have hc : ∀ j u, c[j]? = some u → w.cell? (ad.add (i.toNat * 3 + j)) = some u := hc0
  obtain rfl := kRLeg_open hK
  exact ⟨ad, e, hc 0 _ rfl, by rw [← add_field _ _ 1 (by omega)]; exact hc 1 _ rfl, by rw [← add_field _ _ 2 (by omega)]; exact hc 2 _ rfl⟩

def wfLeg (x : Leg) : Prop := ((Lit.int .i64 x.Series).wf = true) ∧ ((Lit.int .i64 x.Sign).wf = true) ∧ ((Lit.int .i64 x.Ratio).wf = true)
theorem opens_Leg : Opens Tryz.prog kLeg wfLeg 46 := opens_struct (ts := [3, 3, 2]) _ (fun p => ⟨p.1, p.2.1, p.2.2⟩) (fun _ => rfl) Tryz.underlying46 (by kernel_rfl) (by kernel_rfl) (by kernel_rfl) (OF.cons (by kernel_rfl) (opens_int Tryz.underlying3) (OF.cons (by kernel_rfl) (opens_int Tryz.underlying3) (OF.last (by kernel_rfl) (opens_int Tryz.underlying2))))
def wfRLeg (x : RLeg) : Prop := ((Lit.int .i64 x.Series).wf = true) ∧ ((Lit.int .i64 x.Sign).wf = true) ∧ ((Lit.int .i64 x.Ratio).wf = true)
theorem opens_RLeg : Opens Tryz.prog kRLeg wfRLeg 52 := opens_struct (ts := [3, 3, 2]) _ (fun p => ⟨p.1, p.2.1, p.2.2⟩) (fun _ => rfl) Tryz.underlying52 (by kernel_rfl) (by kernel_rfl) (by kernel_rfl) (OF.cons (by kernel_rfl) (opens_int Tryz.underlying3) (OF.cons (by kernel_rfl) (opens_int Tryz.underlying3) (OF.last (by kernel_rfl) (opens_int Tryz.underlying2))))
def kLeg_cells (x : Leg) : List Value := [.int .i64 x.Series, .int .i64 x.Sign, .int .i64 x.Ratio]
def kRLeg_cells (x : RLeg) : List Value := [.int .i64 x.Series, .int .i64 x.Sign, .int .i64 x.Ratio]
end Go.Proofs.YtdgeakojdafipaaGreatDoor.Legs
