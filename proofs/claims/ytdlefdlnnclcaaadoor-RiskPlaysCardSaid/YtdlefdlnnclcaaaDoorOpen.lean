import Derived.Test.YtdlefdlnnclcaaaDoorBase
import Derived.ChangeArms
import Derived.ChangeSlices
import Derived.OpenShut
import Derived.Deep.Slices
/-! Arguments that came in, laid open as the kinds' words have them: any nesting of slices and structs of plain values. -/
set_option linter.unusedVariables false
set_option linter.unusedSimpArgs false
namespace Go.Proofs.YtdlefdlnnclcaaaDoor.B
open Go.RowKit Go.Proofs.YtdlefdlnnclcaaaDoorW.PrintWords Go.ChangeShapes

/-- Whatever reads as data of type t is of kind d, and meets wf. -/
structure Opens {α : Type} (P : Program) (d : Kd α) (wf : α → Prop) (t : TypeId) : Prop where
  go : ∀ (H : Type) (enc : TypeId × Value → H) (W : World) (spare : Nat → Bool) (held : Bool) (fuel : Nat) (cs : List Value) (x : DataW H × List MemPlace), DataW.trod enc P W 0 spare held fuel t cs = some x → ∃ y, d.K W y cs ∧ wf y

section
variable {P : Program}
theorem opens_int {t : TypeId} {k : IntKind} (ht : P.underlying t = some (.int k)) : Opens P (Kd.int k) (fun n => (Lit.int k n).wf = true) t := ⟨fun H enc W sp hd fuel cs x h => by
  obtain ⟨n, rfl, _, hw⟩ := DataW.trod_int ht h
  exact ⟨n, rfl, hw⟩⟩
theorem opens_bool {t : TypeId} (ht : P.underlying t = some .bool) : Opens P Kd.bool (fun _ => True) t := ⟨fun H enc W sp hd fuel cs x h => by
  obtain ⟨n, rfl, _⟩ := DataW.trod_bool ht h
  exact ⟨n, rfl, trivial⟩⟩
theorem opens_string {t : TypeId} (ht : P.underlying t = some .string) : Opens P Kd.string (fun s => s.size ≤ maxLen) t := ⟨fun H enc W sp hd fuel cs x h => by
  obtain ⟨n, rfl, _, hw⟩ := DataW.trod_string ht h
  exact ⟨n, rfl, hw⟩⟩
theorem Opens.imp {α : Type} {d : Kd α} {wf wf' : α → Prop} {t : TypeId} (h : Opens P d wf t) (hw : ∀ x, wf x → wf' x) : Opens P d wf' t := ⟨fun H enc W sp hd fuel cs x hx => by
  obtain ⟨y, h1, h2⟩ := h.go H enc W sp hd fuel cs x hx
  exact ⟨y, h1, hw y h2⟩⟩

theorem opens_slice {α : Type} {d : Kd α} {wf : α → Prop} {t e : TypeId} (ht : P.underlying t = some (.slice e)) (hc : P.cellsOf e = d.sz) (h : Opens P d wf e) : Opens P (Kd.slice e d) (fun xs => ∀ x ∈ xs, wf x) t := ⟨fun H enc W sp hd fuel cs x hx => by
  rcases DataW.trod_slice ht hx with ⟨rfl, _⟩ | ⟨a, len, cap, elems, rest, n, _, rfl, _, hb, hl, hm, hlen, hel, _, _⟩
  · exact ⟨[], ⟨none, 0, rfl, Nat.le_refl _, Kd.C_nil _ _⟩, fun x hx => absurd hx List.not_mem_nil⟩
  · have each : ∀ i, i < len → ∃ y cs', W.cells? 0 (a.add (i * P.cellsOf e)) (P.cellsOf e) = some cs' ∧ d.K W y cs' ∧ wf y := by
      intro i hi
      have h1 := hel i hi
      rw [List.getElem?_eq_getElem (by omega)] at h1
      obtain ⟨cs', h2, h3⟩ := Option.bind_eq_some_iff.1 h1
      obtain ⟨y, h4, h5⟩ := h.go H enc W sp hd n cs' _ h3
      exact ⟨y, cs', h2, h4, h5⟩
    have build : ∀ m, m ≤ len → ∃ xs : List α, xs.length = m ∧ ∀ i (hi : i < xs.length), ∃ cs', W.cells? 0 (a.add (i * P.cellsOf e)) (P.cellsOf e) = some cs' ∧ d.K W xs[i] cs' ∧ wf xs[i] := by
      intro m
      induction m with
      | zero => intro _; exact ⟨[], rfl, fun i hi => absurd hi (Nat.not_lt_zero i)⟩
      | succ m ih =>
        intro hm
        obtain ⟨xs, hxl, hxs⟩ := ih (by omega)
        obtain ⟨y, cs', h1, h2, h3⟩ := each m (by omega)
        refine ⟨xs ++ [y], by simp [hxl], fun i hi => ?_⟩
        rcases Nat.lt_or_ge i xs.length with hlt | hge
        · rw [List.getElem_append_left hlt]
          exact hxs i hlt
        · have : i = xs.length := by simp at hi; omega
          subst this
          rw [List.getElem_append_right (Nat.le_refl _)]
          simp only [Nat.sub_self, List.getElem_cons_zero]
          rw [hxl]
          exact ⟨cs', h1, h2, h3⟩
    obtain ⟨xs, hxl, hxs⟩ := build len (Nat.le_refl _)
    subst hxl
    refine ⟨xs, ⟨some a, cap, rfl, hl, rfl, by unfold maxLen at hm; omega, fun _ => ⟨a, rfl, fun j p hj => ?_⟩⟩, fun x hx => ?_⟩
    · obtain ⟨hj1, rfl⟩ := List.getElem?_eq_some_iff.1 hj
      obtain ⟨cs', h1, h2, h3⟩ := hxs j hj1
      obtain ⟨_, h5, h6⟩ := World.cells?_some h1
      refine ⟨cs', by rw [h5, hc], h2, fun i u hu => ?_⟩
      have hi : i < cs'.length := (List.getElem?_eq_some_iff.1 hu).1
      have h7 := h6 i (by omega)
      rw [hu, Go.Deep.add_add, hc] at h7
      exact h7
    · obtain ⟨i, hi, rfl⟩ := List.getElem_of_mem hx
      exact (hxs i hi).choose_spec.2.2⟩

/-- Fields in line. -/
structure OF {α : Type} (P : Program) (d : Kd α) (wf : α → Prop) (ts : List TypeId) : Prop where
  sum : (ts.map P.cellsOf).sum = d.sz
  go : ∀ (H : Type) (enc : TypeId × Value → H) (W : World) (spare : Nat → Bool) (held : Bool) (n : Nat) (cs : List Value), cs.length = (ts.map P.cellsOf).sum →
    (∀ (i : Nat) (t : TypeId), ts[i]? = some t → ∃ x, DataW.trod enc P W 0 spare held n t ((cs.drop ((ts.take i).map P.cellsOf).sum).take (P.cellsOf t)) = some x) → ∃ y, d.K W y cs ∧ wf y
theorem OF.last {α : Type} {d : Kd α} {wf : α → Prop} {t : TypeId} (hc : P.cellsOf t = d.sz) (h : Opens P d wf t) : OF P d wf [t] := ⟨by simpa using hc, fun H enc W sp hd n cs hl hf => by
  obtain ⟨x, hx⟩ := hf 0 t rfl
  have : ((cs.drop (((([t] : List TypeId).take 0).map P.cellsOf).sum)).take (P.cellsOf t)) = cs := by
    simp only [List.take_zero, List.map_nil, List.sum_nil, List.drop_zero]
    exact List.take_of_length_le (by simp at hl; omega)
  rw [this] at hx
  exact h.go H enc W sp hd n cs x hx⟩
theorem OF.cons {α β : Type} {d : Kd α} {d' : Kd β} {wf : α → Prop} {wf' : β → Prop} {t : TypeId} {ts : List TypeId} (hc : P.cellsOf t = d.sz) (h : Opens P d wf t) (h' : OF P d' wf' ts) : OF P (Kd.pair d d') (fun y => wf y.1 ∧ wf' y.2) (t :: ts) := ⟨by
  have := h'.sum
  simp only [List.map_cons, List.sum_cons]
  show _ = d.sz + d'.sz
  omega, fun H enc W sp hd n cs hl hf => by
  obtain ⟨x, hx⟩ := hf 0 t rfl
  simp only [List.take_zero, List.map_nil, List.sum_nil, List.drop_zero] at hx
  obtain ⟨y, h1, h2⟩ := h.go H enc W sp hd n _ x hx
  obtain ⟨y', h3, h4⟩ := h'.go H enc W sp hd n (cs.drop (P.cellsOf t)) (by simp at hl ⊢; omega) (fun i u hu => by
    obtain ⟨x, hx⟩ := hf (i + 1) u (by simpa using hu)
    refine ⟨x, ?_⟩
    rw [List.take_succ_cons, List.map_cons, List.sum_cons] at hx
    rw [List.drop_drop]
    exact hx)
  exact ⟨(y, y'), ⟨_, _, (List.take_append_drop (P.cellsOf t) cs).symm, h1, h3⟩, h2, h4⟩⟩
theorem opens_struct {α β : Type} {d : Kd α} {wf : α → Prop} {t : TypeId} {ts : List TypeId} {fs : Array Field} (f : β → α) (g : α → β) (hfg : ∀ a, f (g a) = a) (ht : P.underlying t = some (.struct fs)) (hc : P.cellsOf t = d.sz)
    (hts : fs.toList.map (·.type) = ts) (hoff : fs.toList.map (·.offset) = (List.range ts.length).map fun i => ((ts.take i).map P.cellsOf).sum) (h : OF P d wf ts) : Opens P (Kd.iso d f) (fun b => wf (f b)) t := ⟨fun H enc W sp hd fuel cs x hx => by
  obtain ⟨xs, n, _, _, hl, hxl, hf⟩ := DataW.trod_struct ht hx
  obtain ⟨y, h1, h2⟩ := h.go H enc W sp hd n cs (by rw [hl, hc, h.sum]) (fun i u hu => by
    have hi : i < ts.length := (List.getElem?_eq_some_iff.1 hu).1
    have hi2 : i < fs.size := by rw [← hts] at hi; simpa using hi
    have e1 : fs[i].type = u := by
      rw [← hts] at hu
      simpa [hi2] using hu
    have e2 : fs[i].offset = ((ts.take i).map P.cellsOf).sum := by
      have := congrArg (fun l => l[i]?) hoff
      simpa [hi2, hi] using this
    have h3 := hf i fs[i] (Array.getElem?_eq_getElem hi2)
    rw [e1, e2, List.getElem?_eq_getElem (by omega)] at h3
    exact ⟨_, h3⟩)
  exact ⟨g y, by show d.K W (f (g y)) cs; rw [hfg]; exact h1, by rw [hfg]; exact h2⟩⟩
end
end Go.Proofs.YtdlefdlnnclcaaaDoor.B
