import Derived.Test.YtdlefdlnnclcaaaDoorProg
import Derived.Below
import Derived.Deep.Draws
import Derived.Deep.AppendLies
import Derived.Maps.AppendAt
import Derived.OwnWalk
import Derived.Laws.MakeOwn
import Derived.Laws.OwnMore
import Derived.Deep.OwnRows
import Derived.Tactics
import Derived.Laws.Slices
import Derived.WalkKit
import Derived.KernelRfl
import Derived.RowKit3
import Derived.Deep.LoopGhost
import Derived.Deep.QuietTactic
import Derived.BigQuiet
import Derived.WideLaws
import Derived.Lib.Hide
import Derived.Test.YtdlefdlnnclcaaaDoorWWords
/-! Frames: what a call may have changed; movers of the kinds' words over a frame. -/
set_option linter.unusedVariables false
set_option linter.unusedSimpArgs false
namespace Go.Proofs.YtdlefdlnnclcaaaDoor.B
open Go.RowKit Go.Proofs.YtdlefdlnnclcaaaDoorW.PrintWords

/-- From w to w' nothing that was there has changed but blocks of S. -/
structure Fr (S : Nat → Prop) (w w' : World) : Prop where
  os : w'.os = w.os
  tape : w'.tape = w.tape
  output : w'.output = w.output
  size : w.heap.size ≤ w'.heap.size
  block : ∀ k, k < w.heap.size → ¬ S k → w'.heap[k]? = w.heap[k]?

/-- What may be touched, and whatever is new. -/
def ext (ok : Nat → Prop) (w : World) : Nat → Prop := fun k => ok k ∨ w.heap.size ≤ k
def no : Nat → Prop := fun _ => False
def one (b : Nat) : Nat → Prop := fun k => k = b

theorem ext_ok {ok : Nat → Prop} {w : World} {k : Nat} (h : ok k) : ext ok w k := .inl h

section
variable {S S' : Nat → Prop} {w w1 w2 : World}
theorem Fr.refl (S : Nat → Prop) (w : World) : Fr S w w := ⟨rfl, rfl, rfl, Nat.le_refl _, fun _ _ _ => rfl⟩
theorem Fr.trans (h : Fr S w w1) (k : Fr S' w1 w2) (hs : ∀ k, S' k → k < w.heap.size → S k) : Fr S w w2 :=
  ⟨k.os.trans h.os, k.tape.trans h.tape, k.output.trans h.output, Nat.le_trans h.size k.size, fun i hi hn =>
    (k.block i (Nat.lt_of_lt_of_le hi h.size) (fun he => hn (hs i he hi))).trans (h.block i hi hn)⟩
theorem Fr.trans' (h : Fr S w w1) (k : Fr S w1 w2) : Fr S w w2 := h.trans k (fun _ h _ => h)
theorem Fr.transE (h : Fr S w w1) (k : Fr (ext S w) w1 w2) : Fr S w w2 := h.trans k (fun _ h hl => by
  rcases h with h | h
  · exact h
  · omega)
theorem Fr.mono (h : Fr S w w1) (hs : ∀ k, S k → k < w.heap.size → S' k) : Fr S' w w1 :=
  ⟨h.os, h.tape, h.output, h.size, fun k hk hn => h.block k hk (fun he => hn (hs k he hk))⟩
theorem Fr.below (h : Fr no w w1) : Below w.heap.size w w1 := ⟨h.os, h.tape, h.output, h.size, fun k hk => h.block k hk (fun h => h)⟩
theorem Fr.of_below (h : Below w.heap.size w w1) : Fr S w w1 := ⟨h.os, h.tape, h.output, h.size, fun k hk _ => h.block k hk⟩
theorem Fr.of_grown {row : Option Nat} (h : w.grownBy w1 row) (hs : ∀ k, row = some k → k < w.heap.size → S k) : Fr S w w1 :=
  ⟨h.os, h.tape, h.output, h.size, fun k hk hn => h.block k hk (fun he => hn (hs k he.symm hk))⟩
theorem Fr.alloc (h : Fr S w w1) (o : Obj) : Fr S w (w1.alloc o) :=
  h.trans (S' := no) (Fr.of_below ((Below.refl _ _).alloc (Nat.le_refl _) o)) (fun _ h _ => h.elim)
theorem Fr.drew (h : Fr S w w1) : Fr S w w1.drew := ⟨h.os, h.tape, h.output, h.size, h.block⟩
theorem Fr.drewN (h : Fr S w w1) (n : Nat) : Fr S w (w1.drewN n) := ⟨h.os, h.tape, h.output, h.size, h.block⟩
theorem Fr.set (h : Fr S w w1) {p : Addr} (hp : p.block < w.heap.size → S p.block) (u : Value) : Fr S w (w1.setCell p u) :=
  ⟨h.os, h.tape, h.output, by simpa [World.setCell] using h.size, fun k hk hn =>
    (Below.heap_setCell w1 p u k (fun he => hn (by subst he; exact hp hk))).trans (h.block k hk hn)⟩
theorem Fr.heap (h : Fr S w w1) {g : Nat} {o : Obj} (hg : w.heap[g]? = some o) (hn : ¬ S g) : w1.heap[g]? = some o := (h.block g (blk_lt hg) hn).trans hg
theorem Fr.cell (h : Fr S w w1) {p : Addr} {v : Value} (hg : w.cell? p = some v) (hn : ¬ S p.block) : w1.cell? p = some v :=
  (World.cell?_of_block (h.block p.block (World.block_lt_of_cell? w p hg) hn)).trans hg
end

section
variable {α : Type} {d : Kd α} {e base : Nat} {ok ok' S : Nat → Prop} {w w1 : World} {v : Value} {xs : List α}
/-- An own row over a frame that does not touch it. -/
theorem R_fr (h : d.R e w base ok v xs) (hf : Fr S w w1) (hn : ∀ k, ok k → ¬ S k) : d.R e w1 base ok v xs := Kd.R_step h (fun k ho hk => hf.block k hk (hn k ho))
theorem R_lt' (h : d.R e w base ok v xs) : d.R e w base (fun k => ok k ∧ k < w.heap.size) v xs := Kd.R_mono (Kd.R_bound h) (fun k hk => ⟨hk.1, hk.2.2.1⟩)
theorem M_fr {x : α} {cs : List Value} (h : d.M w base ok x cs) (hf : Fr S w w1) (hn : ∀ k, ok k → ¬ S k) : d.M w1 base ok x cs := Kd.M_step h (fun k ho hk => hf.block k hk (hn k ho))
/-- What came in at w0 (nothing of which is touched) is read as it was. -/
theorem C_fr {A : Option Addr} {n : Nat} (h : d.C w A n xs) (hf : Fr no w w1) : d.C w1 A n xs := Kd.C_below h hf.below
end

section
variable {α : Type} {d : Kd α} {e base g n cap : Nat} {ok okp : Nat → Prop} {W : World} {xs : List α}
/-- Element i of an own row: its cells, none of them frozen. -/
theorem R_el (h : d.R e W base ok (.slice (some ⟨g, 0, none⟩) n cap) xs) (i : Nat) (hi : i < xs.length) :
    ∃ c, c.length = d.sz ∧ d.M W base (fun k => ok k ∧ k ≠ g) xs[i] c ∧ (∀ j u, c[j]? = some u → W.cell? ⟨g, i * d.sz + j, none⟩ = some u) ∧ ∀ j, W.frozen? ⟨g, i * d.sz + j, none⟩ = false := by
  have hn := (Kd.R_reads' h).1
  obtain ⟨c, h1, h2, h3, h4⟩ := Kd.R_elem h xs[i] (i : Int) (by omega) (by omega)
  rw [Int.toNat_natCast] at h2 h3 h4
  rw [List.getD_eq_getElem?_getD, List.getElem?_eq_getElem hi] at h2
  exact ⟨c, h1, h2, h3, h4⟩
/-- One cell of element i is written. -/
theorem R_put (h : d.R e W base ok (.slice (some ⟨g, 0, none⟩) n cap) xs) (i : Nat) (hi : i < xs.length) {c : List Value} {j : Nat} {u : Value} (hcl : c.length = d.sz) (hcc : ∀ j u, c[j]? = some u → W.cell? ⟨g, i * d.sz + j, none⟩ = some u)
    (hj : j < d.sz) {x' : α} (hM : d.M W base okp x' (c.set j u)) (hokp : ∀ k, okp k → ok k ∧ k ≠ g) :
    d.R e (W.setCell ⟨g, i * d.sz + j, none⟩ u) base ok (.slice (some ⟨g, 0, none⟩) n cap) (xs.set i x') := by
  have hn := (Kd.R_reads' h).1
  have hs : c.set j u = c.take j ++ [u] ++ c.drop (j + [u].length) := by
    rw [List.set_eq_take_append_cons_drop, if_pos (by omega), List.append_assoc]
    rfl
  have := (Kd.R_seg (okp := okp) h (i : Int) (by omega) (by omega) (c := c) (seg := [u]) (j := j) hcl (by rw [Int.toNat_natCast]; exact hcc) (by rw [List.length_singleton]; omega) (x' := x') (by rw [← hs]; exact hM) hokp).1
  rw [Int.toNat_natCast] at this
  exact this
theorem R_len (h : d.R e W base ok (.slice (some ⟨g, 0, none⟩) n cap) xs) : n = xs.length := (Kd.R_reads' h).1
end
theorem R_cap {α : Type} {d : Kd α} {e base n c : Nat} {ok : Nat → Prop} {w : World} {A : Option Addr} {xs : List α} (h : d.R e w base ok (.slice A n c) xs) : n ≤ c ∧ c ≤ 9223372036854775807 := by
  refine ⟨(Kd.R_reads' h).2.1, ?_⟩
  obtain ⟨_, inner, ho, _⟩ := h
  rcases ho.2 with ⟨hv, _⟩ | ⟨g, cap, cur, hv, _, _, _, hm, _⟩
  · injection hv with _ _ hc; omega
  · injection hv with _ _ hc; unfold maxLen at hm; omega
/-- What is new since w. -/
def since (w : World) : Nat → Prop := fun k => w.heap.size ≤ k
theorem no_since {w : World} : ∀ k, no k → since w k := fun _ h => h.elim
theorem ext_since {S : Nat → Prop} {w w1 : World} (h : ∀ k, S k → since w k) (hl : w.heap.size ≤ w1.heap.size) : ∀ k, ext S w1 k → since w k := fun k hk => by
  rcases hk with hk | hk
  · exact h k hk
  · exact Nat.le_trans hl hk
theorem ext_since' {w w1 : World} (hl : w.heap.size ≤ w1.heap.size) : ∀ k, ext (since w) w1 k → since w k := ext_since (fun _ h => h) hl
theorem Fr.new {S : Nat → Prop} {w w1 w2 : World} (h : Fr no w w1) (k : Fr S w1 w2) (hs : ∀ k, S k → since w k) : Fr no w w2 := h.trans k (fun i hi hl => absurd (hs i hi) (Nat.not_le.2 hl))
theorem Fr.new' {w w1 w2 : World} (h : Fr no w w1) (k : Fr (since w) w1 w2) : Fr no w w2 := h.new k (fun _ h => h)
theorem pair_fr {S : Nat → Prop} {ok : Nat → Prop} {w : World} (h : ∀ k, ok k → ¬ S k) : ∀ k, (ok k ∧ k < w.heap.size) → ¬ ext S w k := fun k hk he => by
  rcases he with he | he
  · exact h k hk.1 he
  · have := hk.2; omega

/-- A block that is known whole is read as what its cells say. -/
theorem C_blk {α : Type} {d : Kd α} {W : World} {g t : Nat} {cs : Array Value} {fr : Nat × Nat} (h : W.heap[g]? = some (.cells cs t fr)) (xs : List α) (hs : 0 < d.sz) (hm : xs.length ≤ 9223372036854775807) (hr : Reps (d.K W) d.sz xs cs.toList) : d.C W (some ⟨g, 0, none⟩) xs.length xs := by
  refine ⟨rfl, hm, fun _ => ⟨_, rfl, fun j p hj => ?_⟩⟩
  have h2 := hr.2 j p hj
  refine ⟨_, d.K_len h2, h2, fun i u hu => ?_⟩
  rw [List.getElem?_take] at hu
  split at hu
  · rw [List.getElem?_drop] at hu
    rw [add_plain, cell_of_row W g _ cs t fr h]
    simpa using hu
  · cases hu
end Go.Proofs.YtdlefdlnnclcaaaDoor.B
