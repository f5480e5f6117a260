import Derived.Test.YtdlefdlnnclcaaaDoorRiskK
import Derived.Test.YtdlefdlnnclcaaaDoorNum
/-! Package risk, and the document's, and its limits, closings at any input. -/
set_option linter.unusedVariables false
set_option linter.unusedSimpArgs false
namespace Go.Proofs.YtdlefdlnnclcaaaDoor.Risk
open Go.RowKit Go.Maps Go.Proofs.YtdlefdlnnclcaaaDoorW.PrintWords Go.Proofs.YtdlefdlnnclcaaaDoor.B Go.Proofs.YtdlefdlnnclcaaaDoor.Err
open Go.Proofs.YtdlefdlnnclcaaaDoor.Num (mulF mul_g i64B i64B_t i64B_f minus natAbs_prod)


def limB (L : Lim) : Bool := (decide (1 ≤ L.qty) && decide (L.qty ≤ 1000000)) && ((decide (1 ≤ L.money) && decide (L.money ≤ 1125899906842624)) && (decide (1 ≤ L.orders) && decide (L.orders ≤ 4096)))
theorem limB_ok {L : Lim} : limB L = true ↔ LimOk L := by
  unfold limB
  simp only [Bool.and_eq_true, decide_eq_true_eq]
  exact ⟨fun ⟨⟨a, b⟩, ⟨c, d⟩, e, f⟩ => ⟨a, b, c, d, e, f⟩, fun h => ⟨⟨h.q1, h.q2⟩, ⟨h.m1, h.m2⟩, h.o1, h.o2⟩⟩
set_option maxRecDepth 100000 in
theorem check_bad (L : Lim) (h : limB L = false) (w : World) : Calls Tryd.prog 8 #[limV L] w fun e w' => e = .returned (.int .i64 1) ∧ Fr no w w' := by
  obtain ⟨q, m, o⟩ := L
  unfold limB at h
  dsimp only at h
  have hfa := (Fr.refl no w).alloc (.cells #[.int .i64 q, .int .i64 m, .int .i64 o] 23)
  have I := fun n lo hi => in_c n lo hi (w.alloc (.cells #[.int .i64 q, .int .i64 m, .int .i64 o] 23))
  have I1 := I q 1 1000000
  have I2 := I m 1 1125899906842624
  have I3 := I o 1 4096
  clear I
  generalize (decide (1 ≤ q) && decide (q ≤ 1000000)) = b1 at *
  generalize (decide (1 ≤ m) && decide (m ≤ 1125899906842624)) = b2 at *
  generalize (decide (1 ≤ o) && decide (o ≤ 4096)) = b3 at *
  have H1 := Lib.hid I1
  have H2 := Lib.hid I2
  have H3 := Lib.hid I3
  clear I1 I2 I3
  unfold limV
  cases b1
  · clear h
    go_enter Tryd.func8, Tryd.ntmps8
    go_wp2_with fail
    refine H1.out.mono ?_
    rintro e w1 ⟨rfl, rfl⟩
    dsimp only
    go_wp2
    go_ret
    exact ⟨rfl, hfa⟩
  · cases b2
    · clear h
      go_enter Tryd.func8, Tryd.ntmps8
      go_wp2_with fail
      refine H1.out.mono ?_
      rintro e w1 ⟨rfl, rfl⟩
      dsimp only
      go_wp2_with fail
      refine H2.out.mono ?_
      rintro e w1 ⟨rfl, rfl⟩
      dsimp only
      go_wp2
      go_ret
      exact ⟨rfl, hfa⟩
    · cases b3
      · clear h
        go_enter Tryd.func8, Tryd.ntmps8
        go_wp2_with fail
        refine H1.out.mono ?_
        rintro e w1 ⟨rfl, rfl⟩
        dsimp only
        go_wp2_with fail
        refine H2.out.mono ?_
        rintro e w1 ⟨rfl, rfl⟩
        dsimp only
        go_wp2_with fail
        refine H3.out.mono ?_
        rintro e w1 ⟨rfl, rfl⟩
        dsimp only
        go_wp2
        go_ret
        exact ⟨rfl, hfa⟩
      · cases h
theorem new_bad (L : Lim) (h : limB L = false) (w : World) : Calls Tryd.prog 5 #[limV L] w fun e w' => e = .returned (.tuple #[.pointer none, .int .i64 1]) ∧ Fr no w w' := by
  have hfa := (Fr.refl no w).alloc (.cells #[.int .i64 L.qty, .int .i64 L.money, .int .i64 L.orders] 23)
  have HC := Lib.hid (fun W => check_bad L h W)
  unfold limV at *
  go_enter Tryd.func5, Tryd.ntmps5
  go_wp2_with fail
  refine (HC.out _).mono ?_
  rintro e w1 ⟨rfl, hf⟩
  dsimp only
  go_wp2
  go_ret2
  exact ⟨rfl, hfa.trans' hf⟩
theorem check_any (L : Lim) (w : World) : Calls Tryd.prog 8 #[limV L] w fun e w' => e = .returned (.int .i64 (if limB L = true then 0 else 1)) ∧ Fr no w w' := by
  cases h : limB L
  · exact check_bad L h w
  · exact check_ok L (limB_ok.1 h) w

/-- What is closed may be closed. -/
def closeB (u : Use) (p q : Int) (b : Bool) : Bool := decide (0 ≤ p) && (decide (0 ≤ q) && (decide (p * q ≤ u.money) && (!b || decide (1 ≤ u.n))))
def closeU (u : Use) (p q : Int) (b : Bool) : Use := ⟨u.n - (if b = true then 1 else 0), u.money - p * q⟩
section
variable {w : World} {B M n : Nat} {L : Lim} {f : Int → Use} {o : Int}
set_option maxRecDepth 100000 in
set_option maxHeartbeats 4000000 in
theorem close_bad (h : At w B M n L f o) (p q : Int) (b : Bool) (p0 : -9223372036854775808 ≤ p) (p1 : p ≤ 9223372036854775807) (q0 : -9223372036854775808 ≤ q) (q1 : q ≤ 9223372036854775807) (hb : closeB (f o) p q b = false) :
    Calls Tryd.prog 14 #[.pointer (some ⟨B, 0, none⟩), .int .i64 o, .int .i64 p, .int .i64 q, .bool b] w fun e w' => e = .returned (.int .i64 1) ∧ Fr no w w' := by
  obtain ⟨hd, hl, hu, ho, u0, u1, v0, v1⟩ := h
  have HU := Lib.hid hu
  have hlk := hu.look o ho
  have hlt := blk_lt hd
  obtain ⟨c0, c1, c2, c3⟩ := hd.cells
  have HD := Lib.hid hd
  generalize hfo : f o = u at *
  have HF := Lib.hid hfo
  obtain ⟨un, um⟩ := u
  unfold useV at *
  dsimp only at *
  clear hu hd hl hfo
  unfold closeB at hb
  dsimp only at hb
  have HM := Lib.hid (fun W => mul_g p q p0 p1 q0 q1 W)
  have hcase : decide (p < 0) = true ∨ decide (p < 0) = false ∧ decide (q < 0) = true ∨ (decide (p < 0) = false ∧ decide (q < 0) = false ∧ mulF p q = (0, 9)) ∨ (decide (p < 0) = false ∧ decide (q < 0) = false ∧ mulF p q = (p * q, 0) ∧ decide (um < p * q) = true) ∨ (decide (p < 0) = false ∧ decide (q < 0) = false ∧ mulF p q = (p * q, 0) ∧ decide (um < p * q) = false ∧ b = true ∧ decide (un < 1) = true) := by
    simp only [Bool.and_eq_false_iff, decide_eq_false_iff_not, Bool.or_eq_false_iff, Bool.not_eq_false'] at hb
    simp only [decide_eq_true_eq, decide_eq_false_iff_not]
    by_cases h1 : p < 0
    · exact .inl h1
    by_cases h2 : q < 0
    · exact .inr (.inl ⟨h1, h2⟩)
    have hpos : 0 ≤ p * q := Int.mul_nonneg (by omega) (by omega)
    cases hi : i64B (p * q) with
    | false => exact .inr (.inr (.inl ⟨h1, h2, by unfold mulF; rw [hi]; rfl⟩))
    | true =>
      have hm : mulF p q = (p * q, 0) := by unfold mulF; rw [hi]; rfl
      by_cases h3 : um < p * q
      · exact .inr (.inr (.inr (.inl ⟨h1, h2, hm, h3⟩)))
      · refine .inr (.inr (.inr (.inr ⟨h1, h2, hm, h3, ?_⟩)))
        rcases hb with hb | hb | hb | hb
        · omega
        · omega
        · omega
        · exact ⟨hb.1, by have := hb.2; omega⟩
  clear hb
  rcases hcase with d1 | ⟨d1, d2⟩ | ⟨d1, d2, hm⟩ | ⟨d1, d2, hm, d3⟩ | ⟨d1, d2, hm, d3, rfl, d4⟩
  · obtain ⟨r, hr⟩ : ∃ r, mulF p q = r := ⟨_, rfl⟩
    rw [hr] at HM
    clear hr
    go_enter Tryd.func14, Tryd.ntmps14
    go_wp2_with fail
    refine (HM.out _).mono ?_
    rintro e w1 ⟨rfl, rfl⟩
    dsimp only
    go_wp2
    go_ret
    exact ⟨rfl, (Fr.refl _ _).alloc _⟩
  · obtain ⟨r, hr⟩ : ∃ r, mulF p q = r := ⟨_, rfl⟩
    rw [hr] at HM
    clear hr
    go_enter Tryd.func14, Tryd.ntmps14
    go_wp2_with fail
    refine (HM.out _).mono ?_
    rintro e w1 ⟨rfl, rfl⟩
    dsimp only
    go_wp2
    go_ret
    exact ⟨rfl, (Fr.refl _ _).alloc _⟩
  all_goals
    rw [hm] at HM
    obtain ⟨r, hr⟩ : ∃ r, p * q = r := ⟨_, rfl⟩
    try rw [hr] at HM d3
    clear hr hm
    go_enter Tryd.func14, Tryd.ntmps14
    go_wp2_with fail
    refine (HM.out _).mono ?_
    rintro e w1 ⟨rfl, rfl⟩
    dsimp only
    go_wp2
    go_ret
    exact ⟨rfl, (Fr.refl _ _).alloc _⟩
set_option maxRecDepth 100000 in
set_option maxHeartbeats 2000000 in
theorem close_w (h : At w B M n L f o) (p q : Int) (hp0 : 0 ≤ p) (hq0 : 0 ≤ q) (hp1 : p ≤ 9223372036854775807) (hq1 : q ≤ 9223372036854775807) (r : Int) (hr : p * q = r) (r0 : 0 ≤ r) (hm : r ≤ (f o).money) (hn1 : 1 ≤ (f o).n) (hn : n < 1000000000) :
    Calls Tryd.prog 14 #[.pointer (some ⟨B, 0, none⟩), .int .i64 o, .int .i64 p, .int .i64 q, .bool true] w fun e w' => e = .returned (.int .i64 0) ∧ Uses w' M (n + 1) (upd f o ⟨(f o).n - 1, (f o).money - r⟩) ∧ Fr (one M) w w' := by
  obtain ⟨hd, hl, hu, ho, u0, u1, v0, v1⟩ := h
  have HU := Lib.hid hu
  have hlk := hu.look o ho
  have hlt := blk_lt hd
  obtain ⟨c0, c1, c2, c3⟩ := hd.cells
  have HD := Lib.hid hd
  generalize hfo : f o = u at *
  have HF := Lib.hid hfo
  obtain ⟨un, um⟩ := u
  unfold useV at *
  dsimp only at *
  clear hu hd hl hfo
  have d1 : decide (p < 0) = false := by simp; omega
  have d2 : decide (q < 0) = false := by simp; omega
  have d3 : decide (um < r) = false := by simp; omega
  have d4 : decide (un < 1) = false := by simp; omega
  have HR := Lib.hid hr
  have hMl := HU.out.lt
  have hY := blk_new w (.cells #[.int .i64 (un - 1), .int .i64 (um - r)] 71)
  have hfa := (Fr.refl no w).alloc (.cells #[.int .i64 (un - 1), .int .i64 (um - r)] 71)
  have hD2 := hfa.heap HD.out (fun h => h)
  have hU2 := HU.out.fr hfa (fun h => h)
  clear hr HU HD
  go_enter Tryd.func14, Tryd.ntmps14
  go_wp2_with fail
  refine (mul_in p q hp0 hq0 (by omega) (by omega) r HR.out (by omega) _).mono ?_
  rintro e w1 ⟨rfl, rfl⟩
  dsimp only
  go_wp2
  generalize w.alloc _ = w2 at *
  generalize w.heap.size = Y at *
  have e3 : w2.drew.cell? ⟨B, 3, none⟩ = some (.map (some M)) := blk_cell hD2 3
  have y0 : w2.drew.cell? ⟨Y, 0, none⟩ = some (.int .i64 (un - 1)) := blk_cell hY 0
  have y1 : w2.drew.cell? ⟨Y, 1, none⟩ = some (.int .i64 (um - r)) := blk_cell hY 1
  go_still_tail 6, (by kernel_rfl)
  change wpList _ _ _ _ _ w2.drew
  replace hU2 := hU2.fr (Fr.refl no w2).drew (fun h => h)
  replace hfa := hfa.drew
  clear hD2 hY
  generalize w2.drew = w3 at *
  obtain ⟨D, hown, hat⟩ := hU2
  have HAT := Lib.hid hat
  have hmm : IsMap D := hown.isMap
  clear hat
  go_wp2_with (at_mapUpdate
               refine wpList_mapUpdate_own _ rfl _ _ _ 56 rfl 3 71 law_int Tryd.underlying56 useR M n D rfl hown (by unfold maxLen; omega) _ _ _ rfl rfl (keyOf_int_mk Tryd.underlying3 ho) (useD ⟨un - 1, um - r⟩) [] rfl ?_
               intro w4 hown4 hg4)
  go_ret
  refine ⟨rfl, Uses.stored hown4 hmm ho HAT.out, ?_⟩
  exact (hfa.mono (fun _ h _ => h.elim)).trans' (Fr.of_grown hg4 (fun k hk _ => by injection hk with hk; exact hk.symm))
set_option maxRecDepth 100000 in
set_option maxHeartbeats 2000000 in
theorem close_p (h : At w B M n L f o) (p q : Int) (hp0 : 0 ≤ p) (hq0 : 0 ≤ q) (hp1 : p ≤ 9223372036854775807) (hq1 : q ≤ 9223372036854775807) (r : Int) (hr : p * q = r) (r0 : 0 ≤ r) (hm : r ≤ (f o).money) (hn : n < 1000000000) :
    Calls Tryd.prog 14 #[.pointer (some ⟨B, 0, none⟩), .int .i64 o, .int .i64 p, .int .i64 q, .bool false] w fun e w' => e = .returned (.int .i64 0) ∧ Uses w' M (n + 1) (upd f o ⟨(f o).n, (f o).money - r⟩) ∧ Fr (one M) w w' := by
  obtain ⟨hd, hl, hu, ho, u0, u1, v0, v1⟩ := h
  have HU := Lib.hid hu
  have hlk := hu.look o ho
  have hlt := blk_lt hd
  obtain ⟨c0, c1, c2, c3⟩ := hd.cells
  have HD := Lib.hid hd
  generalize hfo : f o = u at *
  have HF := Lib.hid hfo
  obtain ⟨un, um⟩ := u
  unfold useV at *
  dsimp only at *
  clear hu hd hl hfo
  have d1 : decide (p < 0) = false := by simp; omega
  have d2 : decide (q < 0) = false := by simp; omega
  have d3 : decide (um < r) = false := by simp; omega
  have HR := Lib.hid hr
  have hMl := HU.out.lt
  have hY := blk_new w (.cells #[.int .i64 un, .int .i64 (um - r)] 71)
  have hfa := (Fr.refl no w).alloc (.cells #[.int .i64 un, .int .i64 (um - r)] 71)
  have hD2 := hfa.heap HD.out (fun h => h)
  have hU2 := HU.out.fr hfa (fun h => h)
  clear hr HU HD
  go_enter Tryd.func14, Tryd.ntmps14
  go_wp2_with fail
  refine (mul_in p q hp0 hq0 (by omega) (by omega) r HR.out (by omega) _).mono ?_
  rintro e w1 ⟨rfl, rfl⟩
  dsimp only
  go_wp2
  generalize w.alloc _ = w2 at *
  generalize w.heap.size = Y at *
  have e3 : w2.drew.cell? ⟨B, 3, none⟩ = some (.map (some M)) := blk_cell hD2 3
  have y0 : w2.drew.cell? ⟨Y, 0, none⟩ = some (.int .i64 un) := blk_cell hY 0
  have y1 : w2.drew.cell? ⟨Y, 1, none⟩ = some (.int .i64 (um - r)) := blk_cell hY 1
  go_still_tail 6, (by kernel_rfl)
  change wpList _ _ _ _ _ w2.drew
  replace hU2 := hU2.fr (Fr.refl no w2).drew (fun h => h)
  replace hfa := hfa.drew
  clear hD2 hY
  generalize w2.drew = w3 at *
  obtain ⟨D, hown, hat⟩ := hU2
  have HAT := Lib.hid hat
  have hmm : IsMap D := hown.isMap
  clear hat
  go_wp2_with (at_mapUpdate
               refine wpList_mapUpdate_own _ rfl _ _ _ 56 rfl 3 71 law_int Tryd.underlying56 useR M n D rfl hown (by unfold maxLen; omega) _ _ _ rfl rfl (keyOf_int_mk Tryd.underlying3 ho) (useD ⟨un, um - r⟩) [] rfl ?_
               intro w4 hown4 hg4)
  go_ret
  refine ⟨rfl, Uses.stored hown4 hmm ho HAT.out, ?_⟩
  exact (hfa.mono (fun _ h _ => h.elim)).trans' (Fr.of_grown hg4 (fun k hk _ => by injection hk with hk; exact hk.symm))
theorem close_good (h : At w B M n L f o) (p q : Int) (b : Bool) (p1 : p ≤ 9223372036854775807) (q1 : q ≤ 9223372036854775807) (hb : closeB (f o) p q b = true) (hn : n < 1000000000) :
    Calls Tryd.prog 14 #[.pointer (some ⟨B, 0, none⟩), .int .i64 o, .int .i64 p, .int .i64 q, .bool b] w fun e w' => e = .returned (.int .i64 0) ∧ Uses w' M (n + 1) (upd f o (closeU (f o) p q b)) ∧ Fr (one M) w w' := by
  unfold closeB at hb
  simp only [Bool.and_eq_true, decide_eq_true_eq, Bool.or_eq_true, Bool.not_eq_true'] at hb
  obtain ⟨h1, h2, h3, h4⟩ := hb
  have hpos : 0 ≤ p * q := Int.mul_nonneg h1 h2
  cases b
  · have := close_p h p q h1 h2 p1 q1 _ rfl hpos h3 hn
    simpa [closeU] using this
  · have := close_w h p q h1 h2 p1 q1 _ rfl hpos h3 (h4.resolve_left (by simp)) hn
    simpa [closeU] using this
end
end Go.Proofs.YtdlefdlnnclcaaaDoor.Risk
