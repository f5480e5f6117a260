import Derived.Test.YtdgeakojdafipaaDoorLegC
/-! Contracts of slices.Clone, slices.Clip at legs, and of legs.Turned. -/
set_option linter.unusedVariables false
set_option linter.unusedSimpArgs false
namespace Go.Proofs.YtdgeakojdafipaaDoor.Legs
open Go.RowKit Go.Proofs.YtdgeakojdafipaaDoorW.PrintWords Go.Proofs.YtdgeakojdafipaaDoor.B Go.Proofs.YtdgeakojdafipaaDoor.Num

def cellsL (l : List Leg) : List Value := l.flatMap kLeg_cells
theorem cellsL_len : ∀ l : List Leg, (cellsL l).length = l.length * 3
  | [] => rfl
  | x :: r => by
    have := cellsL_len r
    simp only [cellsL, List.flatMap_cons, List.length_append, List.length_cons] at this ⊢
    rw [this]
    simp [kLeg_cells]
    omega
theorem cellsL_get : ∀ (l : List Leg) (j : Nat) (u : Value), (cellsL l)[j]? = some u → ∃ k i x, j = k * 3 + i ∧ l[k]? = some x ∧ (kLeg_cells x)[i]? = some u
  | [], j, u, h => by simp [cellsL] at h
  | x :: r, j, u, h => by
    have e : cellsL (x :: r) = kLeg_cells x ++ cellsL r := by simp [cellsL]
    rw [e] at h
    by_cases hj : j < 3
    · rw [List.getElem?_append_left (by simpa [kLeg_cells] using hj)] at h
      exact ⟨0, j, x, by omega, rfl, h⟩
    · rw [List.getElem?_append_right (by simp [kLeg_cells]; omega)] at h
      obtain ⟨k, i, y, h1, h2, h3⟩ := cellsL_get r _ u h
      have h1' : j - 3 = k * 3 + i := h1
      exact ⟨k + 1, i, y, by omega, h2, h3⟩
theorem cellsL_one (l : List Leg) : ∀ u ∈ cellsL l, u.oneCell' = true := by
  intro u hu
  obtain ⟨x, _, hx⟩ := List.mem_flatMap.1 hu
  simp [kLeg_cells] at hx
  rcases hx with rfl | rfl | rfl <;> rfl
theorem cells_of_C {w : World} {ad : Addr} {l : List Leg} (h : kLeg.C w (some ad) l.length l) (j : Nat) (u : Value) (hj : (cellsL l)[j]? = some u) : w.cell? (ad.add j) = some u := by
  obtain ⟨k, i, x, rfl, h2, h3⟩ := cellsL_get l j u hj
  have hk : k < l.length := (List.getElem?_eq_some_iff.1 h2).1
  obtain ⟨ad', e, hc⟩ := h.2.2 (by omega)
  obtain rfl := Option.some.inj e
  obtain ⟨c, c1, c2, c3⟩ := hc k x h2
  have e2 := kLeg_open c2
  subst e2
  exact c3 i u h3
theorem reps_cells (R : Leg → List Value → Prop) (hR : ∀ x, R x (kLeg_cells x)) : ∀ l : List Leg, Reps R 3 l (cellsL l)
  | [] => Reps.none _ _
  | x :: r => by
    have ih := reps_cells R hR r
    refine ⟨by rw [cellsL_len], fun j p hj => ?_⟩
    have e : cellsL (x :: r) = kLeg_cells x ++ cellsL r := by simp [cellsL]
    rw [e]
    cases j with
    | zero =>
      obtain rfl : x = p := by simpa using hj
      have : ((kLeg_cells x ++ cellsL r).drop (0 * 3)).take 3 = kLeg_cells x := by simp [kLeg_cells]
      rw [this]
      exact hR x
    | succ j =>
      have h2 := ih.2 j p (by simpa using hj)
      have : (kLeg_cells x ++ cellsL r).drop ((j + 1) * 3) = (cellsL r).drop (j * 3) := by
        rw [List.drop_append, List.drop_of_length_le (by simp [kLeg_cells]; omega), List.nil_append]
        congr 1
        simp [kLeg_cells]
        omega
      rw [this]
      exact h2
theorem infoLeg : (Tryd.prog.info? 43).map (fun i => (i.zero, i.size, i.bytes)) = some (some (.agg #[.int .i64 0, .int .i64 0, .int .i64 0]), 3, 24) := by kernel_rfl
/-- A row of the call's own, cut to its length. -/
def NewRow (w w' : World) (v : Value) (l : List Leg) : Prop := ∃ A c, v = .slice A l.length l.length ∧ l.length ≤ c ∧ kLeg.R 43 w' 0 (since w) (.slice A l.length c) l
theorem clip_c (A : Option Addr) (n c : Nat) (hc : n ≤ c) (hm : c ≤ 9223372036854775807) (w : World) :
    Calls Tryd.prog 23 #[.slice A n c] w fun e w' => e = .returned (.slice A n n) ∧ w = w' := by
  go_enter Tryd.func23, Tryd.ntmps23
  go_wp2
  go_ret
  exact ⟨rfl, rfl⟩
theorem clone_c (A : Option Addr) (c : Nat) (l : List Leg) (w : World) (hC : kLeg.C w A l.length l) (hc : l.length ≤ c) (hl : l.length ≤ 1000000) :
    Calls Tryd.prog 24 #[.slice A l.length c] w fun e w' => ∃ v, e = .returned v ∧ kLeg.R 43 w' 0 (since w) v l ∧ Fr no w w' := by
  have qT : ∀ (w : World) (a : Option Addr) (n c n' c' : Nat), (binOp .eql 22 (.slice a n c) (.slice none n' c')).run Tryd.prog w = .ok (.bool a.isNone) w := fun w a n c n' c' => Lib.run_eql_slice_nil w _ _ a n c n' c' Tryd.underlying22
  cases A with
  | none =>
    have h0 : l = [] := by
      have h2 := hC.2
      rcases Nat.eq_zero_or_pos l.length with h | h
      · exact List.length_eq_zero_iff.1 h
      · obtain ⟨ad, he, _⟩ := h2.2 h
        exact absurd he (by simp)
    subst h0
    simp only [List.length_nil] at *
    go_enter Tryd.func24, Tryd.ntmps24
    go_wp2
    go_ret
    exact ⟨_, rfl, Kd.R_nil _ _ _ _ _, Fr.refl _ _⟩
  | some ad =>
    obtain ⟨i0, hi, hz0, hz1, hz2⟩ := info_parts infoLeg
    have hcells := Lib.hid (fun o => cells_of_C (C_fr hC ((Fr.refl no w).alloc o)))
    have hlen := cellsL_len l
    have hone := cellsL_one l
    have hm : l.length ≤ maxLen := by unfold maxLen; omega
    obtain ⟨news, hnews⟩ : ∃ n, cellsL l = n := ⟨_, rfl⟩
    rw [hnews] at hlen hone hcells
    have HN := Lib.hid hnews
    have HO := Lib.hid hone
    clear hC hnews hone
    go_enter Tryd.func24, Tryd.ntmps24
    go_wp2_with (at_builtin; refine wpList_append_own _ rfl _ _ 22 rfl w.heap.size 43 i0 (.agg #[.int .i64 0, .int .i64 0, .int .i64 0]) 3 24 Tryd.underlying22 hi hz0 hz1 hz2 rfl (by decide) _ _ _ rfl (World.ownsRow_made w #[] 0 (Nat.le_refl _) (Nat.zero_le _) (by simp)) ad l.length c news rfl ?qc1 ?qc2 ?qc3 ?qc4 ?qc5 ?qc6 ?_)
    case qc1 => exact hlen
    case qc2 => exact fun j u hj => hcells.out _ j u hj
    case qc3 => exact HO.out
    case qc4 => rw [Nat.zero_add]; exact hm
    case qc5 => rw [Nat.zero_add]; omega
    case qc6 => simp
    intro v1 w1 hown hgrow hnil
    clear hlen hm
    go_wp2
    go_ret
    refine ⟨v1, rfl, ⟨fun k hk => ?_, news, ?_, ?_⟩, ?_⟩
    · exact (hown.lt k hk).1
    · have h2 : w1.ownsRow w.heap.size 43 3 v1 l.length news := by simpa using hown
      exact own_weaken h2 (Nat.zero_le _)
    · rw [← HN.out]
      exact reps_cells _ (fun x => kLeg_mkM _ _ _ x) l
    · exact Fr.of_below (((Below.refl _ w).alloc (Nat.le_refl _) _).grown hgrow (by simp) (by intro k hk; simp [Value.ownBlock] at hk; omega))
end Go.Proofs.YtdgeakojdafipaaDoor.Legs
