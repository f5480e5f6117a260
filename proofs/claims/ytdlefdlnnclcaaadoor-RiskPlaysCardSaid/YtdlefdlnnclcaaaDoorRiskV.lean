import Derived.Test.YtdlefdlnnclcaaaDoorRiskP
/-! Package risk at a desk beside the law's list, with frames. -/
set_option linter.unusedVariables false
set_option linter.unusedSimpArgs false
namespace Go.Proofs.YtdlefdlnnclcaaaDoor.Risk
open Go.RowKit Go.Maps Go.Proofs.YtdlefdlnnclcaaaDoorW.PrintWords Go.Proofs.YtdlefdlnnclcaaaDoor.B Go.Proofs.YtdlefdlnnclcaaaDoor.Err
open Go.Proofs.YtdlefdlnnclcaaaDoor.Num (mulF i64B i64B_t i64B_f)

section
variable {w0 w : World} {B M n : Nat} {L : Lim} {f : Int → Use} {u : Use}
theorem ask_bad2 (h : Rk w0 w B M n L f) (o p q a e1 : Int) (ho : (Lit.int .i64 o).wf = true) (hu : f o = u) (hk : UseOk u) (hp : p ≤ 9223372036854775807) (he : askF L u p q = (a, e1)) (h1 : 1 ≤ e1) :
    Calls Tryd.prog 12 #[.pointer (some ⟨B, 0, none⟩), .int .i64 o, .int .i64 p, .int .i64 q] w fun e w' => ∃ F, e = .returned (.iface 65 (.pointer (some ⟨F, 0, none⟩))) ∧ FaultAt w' F riskB a e1 ∧ Fr no w w' := by
  obtain ⟨u', _, hc⟩ := ask_any (h.at ho hu hk) p q hp
  rw [hu, he] at hc
  refine (Ask_no h1 hc).mono ?_
  rintro e w' ⟨F, rfl, _, hF, hf⟩
  exact ⟨F, rfl, hF, hf⟩
theorem ask_good2 (h : Rk w0 w B M n L f) (o p q a : Int) (ho : (Lit.int .i64 o).wf = true) (hu : f o = u) (hk : UseOk u) (hp : p ≤ 9223372036854775807) (he : askF L u p q = (a, 0)) :
    Calls Tryd.prog 12 #[.pointer (some ⟨B, 0, none⟩), .int .i64 o, .int .i64 p, .int .i64 q] w fun e w' => e = .returned .nilIface ∧ Fr no w w' := by
  obtain ⟨u', _, hc⟩ := ask_any (h.at ho hu hk) p q hp
  rw [hu, he] at hc
  exact Ask_yes hc
theorem open_bad2 (h : Rk w0 w B M n L f) (o p q a e1 : Int) (ho : (Lit.int .i64 o).wf = true) (hu : f o = u) (hk : UseOk u) (hp : p ≤ 9223372036854775807) (he : askF L u p q = (a, e1)) (h1 : 1 ≤ e1) :
    Calls Tryd.prog 13 #[.pointer (some ⟨B, 0, none⟩), .int .i64 o, .int .i64 p, .int .i64 q] w fun e w' => ∃ F, e = .returned (.iface 65 (.pointer (some ⟨F, 0, none⟩))) ∧ FaultAt w' F riskB a e1 ∧ Fr no w w' := by
  obtain ⟨u', _, hc⟩ := ask_any (h.at ho hu hk) p q hp
  rw [hu, he] at hc
  refine (Open_no h1 hc).mono ?_
  rintro e w' ⟨F, rfl, _, hF, hf⟩
  exact ⟨F, rfl, hF, hf⟩
theorem close_bad2 (h : Rk w0 w B M n L f) (o p q : Int) (b : Bool) (ho : (Lit.int .i64 o).wf = true) (hu : f o = u) (hk : UseOk u) (p0 : -9223372036854775808 ≤ p) (p1 : p ≤ 9223372036854775807) (q0 : -9223372036854775808 ≤ q) (q1 : q ≤ 9223372036854775807) (hb : closeB u p q b = false) :
    Calls Tryd.prog 14 #[.pointer (some ⟨B, 0, none⟩), .int .i64 o, .int .i64 p, .int .i64 q, .bool b] w fun e w' => e = .returned (.int .i64 1) ∧ Fr no w w' := by
  subst hu
  exact close_bad (h.at ho rfl hk) p q b p0 p1 q0 q1 hb
theorem close_good2 (h : Rk w0 w B M n L f) (o p q : Int) (b : Bool) (ho : (Lit.int .i64 o).wf = true) (hu : f o = u) (hk : UseOk u) (p1 : p ≤ 9223372036854775807) (q1 : q ≤ 9223372036854775807) (hb : closeB u p q b = true) (hn : n < 1000000000) :
    Calls Tryd.prog 14 #[.pointer (some ⟨B, 0, none⟩), .int .i64 o, .int .i64 p, .int .i64 q, .bool b] w fun e w' => e = .returned (.int .i64 0) ∧ Rk w0 w' B M (n + 1) L (upd f o (closeU u p q b)) ∧ Fr (one M) w w' := by
  subst hu
  refine (close_good (h.at ho rfl hk) p q b p1 q1 hb hn).mono ?_
  rintro e w' ⟨rfl, hu2, hf⟩
  exact ⟨rfl, h.step hu2 hf, hf⟩
end
/-- The law's Wrong at a block. -/
def WAt (w : World) (Z : Nat) (pt ec : Int) : Prop := (ec = 0 ∧ w.heap[Z]? = some (.cells #[.slice none 0 0, .int .i64 0] 44 (0, 0))) ∨ (1 ≤ ec ∧ ∃ G, w.heap[Z]? = some (.cells #[.slice (some ⟨G, 0, none⟩) 1 1, .int .i64 ec] 44 (0, 0)) ∧ PartAt w G riskB pt)
theorem WAt.fr {w w1 : World} {Z : Nat} {pt ec : Int} (h : WAt w Z pt ec) (hf : Fr no w w1) : WAt w1 Z pt ec := by
  rcases h with ⟨h1, h2⟩ | ⟨h1, G, h2, h3⟩
  · exact .inl ⟨h1, hf.heap h2 (fun h => h)⟩
  · exact .inr ⟨h1, G, hf.heap h2 (fun h => h), h3.fr hf⟩
theorem askF_cases (L : Lim) (u : Use) (p q : Int) : ((askF L u p q).2 = 0 ∨ (1 ≤ (askF L u p q).2 ∧ (askF L u p q).2 ≤ 14)) ∧ ((askF L u p q).1 = 0 ∨ (askF L u p q).1 = 1 ∨ (askF L u p q).1 = 2) := by
  unfold askF
  split
  · exact ⟨.inr (by decide), .inl rfl⟩
  split
  · exact ⟨.inr (by decide), .inl rfl⟩
  split
  · exact ⟨.inr (by decide), .inr (.inl rfl)⟩
  split
  · exact ⟨.inr (by decide), .inr (.inr rfl)⟩
  · exact ⟨.inl rfl, .inl rfl⟩
/-- What is opened may be opened. -/
theorem askF_open {L : Lim} {u : Use} {p q : Int} (hl : LimOk L) (hu : UseOk u) (h : (askF L u p q).2 = 0) : UseOk ⟨u.n + 1, u.money + p * q⟩ ∧ 0 ≤ p * q ∧ p * q ≤ 1125899906842624 := by
  unfold askF at h
  split at h
  · simp at h
  split at h
  · simp at h
  split at h
  · simp at h
  split at h
  · simp at h
  rename_i h1 h2 h3 h4
  have hpos : 0 ≤ p * q := Int.mul_nonneg (by omega) (by omega)
  obtain ⟨a, b, c, d⟩ := hu
  obtain ⟨_, _, _, m2, _, o2⟩ := hl
  exact ⟨⟨by show 0 ≤ u.n + 1; omega, by show u.n + 1 ≤ 4096; omega, by show 0 ≤ u.money + p * q; omega, by show u.money + p * q ≤ 1125899906842624; omega⟩, hpos, by omega⟩
theorem closeU_ok {u : Use} {p q : Int} {b : Bool} (hu : UseOk u) (h : closeB u p q b = true) : UseOk (closeU u p q b) ∧ 0 ≤ p * q ∧ p * q ≤ u.money ∧ (b = true → 1 ≤ u.n) := by
  unfold closeB at h
  simp only [Bool.and_eq_true, decide_eq_true_eq, Bool.or_eq_true, Bool.not_eq_true'] at h
  obtain ⟨h1, h2, h3, h4⟩ := h
  have hpos : 0 ≤ p * q := Int.mul_nonneg h1 h2
  obtain ⟨a, c, d, e⟩ := hu
  have hb : b = true → 1 ≤ u.n := fun hb => h4.resolve_left (by rw [hb]; simp)
  unfold closeU
  refine ⟨⟨?_, ?_, ?_, ?_⟩, hpos, h3, hb⟩
  · show 0 ≤ u.n - _
    cases b
    · simp; omega
    · have := hb rfl; simp; omega
  · show u.n - _ ≤ 4096
    cases b <;> simp <;> omega
  · show 0 ≤ u.money - p * q; omega
  · show u.money - p * q ≤ 1125899906842624; omega
theorem closeB_no {u : Use} {p q wn : Int} {b : Bool} (hw : wn = if b = true then 1 else 0) (n0 : 0 ≤ u.n) (hb : closeB u p q b = false) :
    decide (0 ≤ p) = false ∨ (decide (0 ≤ p) = true ∧ decide (0 ≤ q) = false) ∨ (decide (0 ≤ p) = true ∧ decide (0 ≤ q) = true ∧ mulF p q = (0, 9)) ∨ (decide (0 ≤ p) = true ∧ decide (0 ≤ q) = true ∧ mulF p q = (p * q, 0) ∧ decide (p * q ≤ u.money) = false) ∨ (decide (0 ≤ p) = true ∧ decide (0 ≤ q) = true ∧ mulF p q = (p * q, 0) ∧ decide (p * q ≤ u.money) = true ∧ decide (wn ≤ u.n) = false) := by
  unfold closeB at hb
  simp only [Bool.and_eq_false_iff, decide_eq_false_iff_not, Bool.or_eq_false_iff, Bool.not_eq_false'] at hb
  simp only [decide_eq_true_eq, decide_eq_false_iff_not]
  by_cases h1 : 0 ≤ p
  · by_cases h2 : 0 ≤ q
    · cases hi : i64B (p * q) with
      | false => exact .inr (.inr (.inl ⟨h1, h2, by unfold mulF; rw [hi]; rfl⟩))
      | true =>
        have hm : mulF p q = (p * q, 0) := by unfold mulF; rw [hi]; rfl
        by_cases h3 : p * q ≤ u.money
        · refine .inr (.inr (.inr (.inr ⟨h1, h2, hm, h3, ?_⟩)))
          rcases hb with hb | hb | hb | hb
          · omega
          · omega
          · omega
          · rw [hw, if_pos hb.1]; exact hb.2
        · exact .inr (.inr (.inr (.inl ⟨h1, h2, hm, h3⟩)))
    · exact .inr (.inl ⟨h1, h2⟩)
  · exact .inl h1
theorem closeB_yes {u : Use} {p q wn : Int} {b : Bool} (hw : wn = if b = true then 1 else 0) (hu : UseOk u) (hb : closeB u p q b = true) :
    decide (0 ≤ p) = true ∧ decide (0 ≤ q) = true ∧ mulF p q = (p * q, 0) ∧ decide (p * q ≤ u.money) = true ∧ decide (wn ≤ u.n) = true ∧ closeU u p q b = ⟨u.n - wn, u.money - p * q⟩ := by
  have hk := closeU_ok hu hb
  unfold closeB at hb
  simp only [Bool.and_eq_true, decide_eq_true_eq, Bool.or_eq_true, Bool.not_eq_true'] at hb
  obtain ⟨h1, h2, h3, h4⟩ := hb
  have hm1 := hu.m1
  have hi : i64B (p * q) = true := i64B_t.2 (by omega)
  refine ⟨by simpa using h1, by simpa using h2, by unfold mulF; rw [hi]; rfl, by simpa using h3, ?_, by unfold closeU; rw [hw]⟩
  have n0 := hu.n0
  cases b
  · simp only [hw, Bool.false_eq_true, if_false]; simpa using n0
  · simp only [hw, if_true]; simpa using hk.2.2.2 rfl
end Go.Proofs.YtdlefdlnnclcaaaDoor.Risk
