import Derived.Test.YtbhofjmmdlkofaaDoorOpen
/-! Structures and kinds of Go's struct types (written by wip/kinds.py over the kit's own kinds). -/
set_option linter.unusedVariables false
set_option linter.unusedSimpArgs false
namespace Go.Proofs.YtbhofjmmdlkofaaDoor.Grid
open Go.Proofs.YtbhofjmmdlkofaaDoor.B Go.RowKit Go.Proofs.YtbhofjmmdlkofaaDoorW.PrintWords
/-! #### straddle/grid.Step -/
structure Step where
  From : Int
  By : Int
def zStep : Step := ⟨(0 : Int), (0 : Int)⟩
def kStep : Kd Step := Kd.iso (Kd.pair (Kd.int .i64) (Kd.int .i64)) (fun x : Step => (x.From, x.By))
theorem kStep_open {w : World} {x : Step} {cs : List Value} (h : kStep.K w x cs) : cs = [.int .i64 x.From, .int .i64 x.By] := by
  obtain ⟨_, _, rfl, rfl, rfl⟩ := h
  exact rfl
theorem kStep_openM {w : World} {base : Nat} {ok : Nat → Prop} {x : Step} {cs : List Value} (h : kStep.M w base ok x cs) : cs = [.int .i64 x.From, .int .i64 x.By] := by
  obtain ⟨_, _, rfl, rfl, rfl⟩ := h
  exact rfl
theorem kStep_mk (w : World) (x : Step)  : kStep.K w x [.int .i64 x.From, .int .i64 x.By] := ⟨[.int .i64 x.From], [.int .i64 x.By], rfl, rfl, rfl⟩
theorem kStep_mkM (w : World) (base : Nat) (ok : Nat → Prop) (x : Step)  : kStep.M w base ok x [.int .i64 x.From, .int .i64 x.By] := ⟨[.int .i64 x.From], [.int .i64 x.By], rfl, rfl, rfl⟩
def rd_Step (xs : List Step) (i : Int) : Step := xs.getD i.toNat zStep
theorem at_Step {w : World} {A : Option Addr} {n : Nat} {xs : List Step} (h : Kd.C kStep w A n xs) (i : Int) (h0 : 0 ≤ i) (h1 : i < n) : ∃ ad , A = some ad ∧ w.cell? (ad.add (i.toNat * 2)) = some (.int .i64 (rd_Step xs i).From) ∧ w.cell? ⟨(ad.add (i.toNat * 2)).block, (ad.add (i.toNat * 2)).off + 1, none⟩ = some (.int .i64 (rd_Step xs i).By) := by
  obtain ⟨ad, c, e, _, hK, hc0⟩ := Kd.C_get h zStep i h0 h1
  have hc : ∀ j u, c[j]? = some u → w.cell? (ad.add (i.toNat * 2 + j)) = some u := hc0
  obtain rfl := kStep_open hK
  exact ⟨ad, e, hc 0 _ rfl, by rw [← add_field _ _ 1 (by omega)]; exact hc 1 _ rfl⟩

/-! #### straddle/straddleref6.Step -/
structure RStep where
  From : Int
  By : Int
def zRStep : RStep := ⟨(0 : Int), (0 : Int)⟩
def kRStep : Kd RStep := Kd.iso (Kd.pair (Kd.int .i64) (Kd.int .i64)) (fun x : RStep => (x.From, x.By))
theorem kRStep_open {w : World} {x : RStep} {cs : List Value} (h : kRStep.K w x cs) : cs = [.int .i64 x.From, .int .i64 x.By] := by
  obtain ⟨_, _, rfl, rfl, rfl⟩ := h
  exact rfl
theorem kRStep_openM {w : World} {base : Nat} {ok : Nat → Prop} {x : RStep} {cs : List Value} (h : kRStep.M w base ok x cs) : cs = [.int .i64 x.From, .int .i64 x.By] := by
  obtain ⟨_, _, rfl, rfl, rfl⟩ := h
  exact rfl
theorem kRStep_mk (w : World) (x : RStep)  : kRStep.K w x [.int .i64 x.From, .int .i64 x.By] := ⟨[.int .i64 x.From], [.int .i64 x.By], rfl, rfl, rfl⟩
theorem kRStep_mkM (w : World) (base : Nat) (ok : Nat → Prop) (x : RStep)  : kRStep.M w base ok x [.int .i64 x.From, .int .i64 x.By] := ⟨[.int .i64 x.From], [.int .i64 x.By], rfl, rfl, rfl⟩
def rd_RStep (xs : List RStep) (i : Int) : RStep := xs.getD i.toNat zRStep
theorem at_RStep {w : World} {A : Option Addr} {n : Nat} {xs : List RStep} (h : Kd.C kRStep w A n xs) (i : Int) (h0 : 0 ≤ i) (h1 : i < n) : ∃ ad , A = some ad ∧ w.cell? (ad.add (i.toNat * 2)) = some (.int .i64 (rd_RStep xs i).From) ∧ w.cell? ⟨(ad.add (i.toNat * 2)).block, (ad.add (i.toNat * 2)).off + 1, none⟩ = some (.int .i64 (rd_RStep xs i).By) := by
  obtain ⟨ad, c, e, _, hK, hc0⟩ := Kd.C_get h zRStep i h0 h1
  have hc : ∀ j u, c[j]? = some u → w.cell? (ad.add (i.toNat * 2 + j)) = some u := hc0
  obtain rfl := kRStep_open hK
  exact ⟨ad, e, hc 0 _ rfl, by rw [← add_field _ _ 1 (by omega)]; exact hc 1 _ rfl⟩

def wfStep (x : Step) : Prop := ((Lit.int .i64 x.From).wf = true) ∧ ((Lit.int .i64 x.By).wf = true)
theorem opens_Step : Opens Tryd.prog kStep wfStep 47 := opens_struct (ts := [2, 2]) _ (fun p => ⟨p.1, p.2⟩) (fun _ => rfl) Tryd.underlying47 (by kernel_rfl) (by kernel_rfl) (by kernel_rfl) (OF.cons (by kernel_rfl) (opens_int Tryd.underlying2) (OF.last (by kernel_rfl) (opens_int Tryd.underlying2)))
def wfRStep (x : RStep) : Prop := ((Lit.int .i64 x.From).wf = true) ∧ ((Lit.int .i64 x.By).wf = true)
theorem opens_RStep : Opens Tryd.prog kRStep wfRStep 50 := opens_struct (ts := [2, 2]) _ (fun p => ⟨p.1, p.2⟩) (fun _ => rfl) Tryd.underlying50 (by kernel_rfl) (by kernel_rfl) (by kernel_rfl) (OF.cons (by kernel_rfl) (opens_int Tryd.underlying2) (OF.last (by kernel_rfl) (opens_int Tryd.underlying2)))
def kStep_cells (x : Step) : List Value := [.int .i64 x.From, .int .i64 x.By]
def kRStep_cells (x : RStep) : List Value := [.int .i64 x.From, .int .i64 x.By]
end Go.Proofs.YtbhofjmmdlkofaaDoor.Grid
