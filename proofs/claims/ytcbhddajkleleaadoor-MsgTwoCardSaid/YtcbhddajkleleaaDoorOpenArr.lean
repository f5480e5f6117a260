import Derived.Test.YtcbhddajkleleaaDoorOpen
/-! Arrays that came in. -/
set_option linter.unusedVariables false
set_option linter.unusedSimpArgs false
namespace Go.Proofs.YtcbhddajkleleaaDoor.B
open Go.RowKit Go.Proofs.YtcbhddajkleleaaDoorW.PrintWords Go.ChangeShapes
theorem opens_arr {P : Program} {α β : Type} {d : Kd α} {wf : α → Prop} {t e : TypeId} {n : Nat} {ts : List TypeId} (f : β → α) (g : α → β) (hfg : ∀ a, f (g a) = a) (ht : P.underlying t = some (.array n e)) (hc : P.cellsOf t = d.sz)
    (hts : ts = List.replicate n e) (h : OF P d wf ts) : Opens P (Kd.iso d f) (fun b => wf (f b)) t := ⟨fun H enc W sp hd fuel cs x hx => by
  obtain ⟨xs, m, _, _, hl, hxl, hf⟩ := DataW.trod_array ht hx
  obtain ⟨y, h1, h2⟩ := h.go H enc W sp hd m cs (by rw [hl, hc, h.sum]) (fun i u hu => by
    have hi : i < ts.length := (List.getElem?_eq_some_iff.1 hu).1
    have hi2 : i < n := by rw [hts] at hi; simpa using hi
    have e1 : e = u := by
      rw [hts] at hu
      simpa [hi2] using hu
    have e2 : ((ts.take i).map P.cellsOf).sum = i * P.cellsOf e := by
      rw [hts, List.take_replicate, List.map_replicate, List.sum_replicate_nat, Nat.min_eq_left (by omega)]
    have h3 := hf i hi2
    subst e1
    rw [e2, h3, List.getElem?_eq_getElem (by omega)]
    exact ⟨_, rfl⟩)
  exact ⟨g y, by show d.K W (f (g y)) cs; rw [hfg]; exact h1, by rw [hfg]; exact h2⟩⟩
end Go.Proofs.YtcbhddajkleleaaDoor.B
