import Derived.Test.YtdgeakojdafipaaGreatDoorLegC
import Derived.Test.YtdgeakojdafipaaGreatDoorSortLay
import Derived.Test.YtdgeakojdafipaaGreatDoorShelf
import Derived.Sort.OwnSorted
import Derived.Test.YtdgeakojdafipaaGreatDoorPLegA
import Derived.Test.YtdgeakojdafipaaGreatDoorPLegD
/-! Contracts of slices.Clone, slices.Clip at legs, and of legs.Turned. -/
set_option linter.unusedVariables false
set_option linter.unusedSimpArgs false
namespace Go.Proofs.YtdgeakojdafipaaGreatDoor.Legs
open Go.RowKit Go.Proofs.YtdgeakojdafipaaGreatDoorW.PrintWords Go.Proofs.YtdgeakojdafipaaGreatDoor.B Go.Proofs.YtdgeakojdafipaaGreatDoor.Num

def cellsL (l : List Leg) : List Value := l.flatMap kLeg_cells
theorem cellsL_len : ∀ l : List Leg, (cellsL l).length = l.length * 3
  | [] => rfl
  | x :: r => by
    have := cellsL_len r
    simp only [cellsL, List.flatMap_cons, List.length_append, List.length_cons] at this ⊢
    rw [this]
    simp [kLeg_cells]
    omega
theorem cellsL_get : ∀ (l : List Leg) (j : Nat) (u : Value), (cellsL l)[j]? = some u → ∃ k i x, j = k * 3 + i ∧ l[k]? = some x ∧ (kLeg_cells x)[i]? = some u
  | [], j, u, h => by simp [cellsL] at h
  | x :: r, j, u, h => by
    have e : cellsL (x :: r) = kLeg_cells x ++ cellsL r := by simp [cellsL]
    rw [e] at h
    by_cases hj : j < 3
    · rw [List.getElem?_append_left (by simpa [kLeg_cells] using hj)] at h
      exact ⟨0, j, x, by omega, rfl, h⟩
    · rw [List.getElem?_append_right (by simp [kLeg_cells]; omega)] at h
      obtain ⟨k, i, y, h1, h2, h3⟩ := cellsL_get r _ u h
      have h1' : j - 3 = k * 3 + i := h1
      exact ⟨k + 1, i, y, by omega, h2, h3⟩
theorem cellsL_one (l : List Leg) : ∀ u ∈ cellsL l, u.oneCell' = true := by
  intro u hu
  obtain ⟨x, _, hx⟩ := List.mem_flatMap.1 hu
  simp [kLeg_cells] at hx
  rcases hx with rfl | rfl | rfl <;> rfl
theorem cells_of_C {w : World} {ad : Addr} {l : List Leg} (h : kLeg.C w (some ad) l.length l) (j : Nat) (u : Value) (hj : (cellsL l)[j]? = some u) : w.cell? (ad.add j) = some u := by
  obtain ⟨k, i, x, rfl, h2, h3⟩ := cellsL_get l j u hj
  have hk : k < l.length := (List.getElem?_eq_some_iff.1 h2).1
  obtain ⟨ad', e, hc⟩ := h.2.2 (by omega)
  obtain rfl := Option.some.inj e
  obtain ⟨c, c1, c2, c3⟩ := hc k x h2
  have e2 := kLeg_open c2
  subst e2
  exact c3 i u h3
theorem reps_cells (R : Leg → List Value → Prop) (hR : ∀ x, R x (kLeg_cells x)) : ∀ l : List Leg, Reps R 3 l (cellsL l)
  | [] => Reps.none _ _
  | x :: r => by
    have ih := reps_cells R hR r
    refine ⟨by rw [cellsL_len], fun j p hj => ?_⟩
    have e : cellsL (x :: r) = kLeg_cells x ++ cellsL r := by simp [cellsL]
    rw [e]
    cases j with
    | zero =>
      obtain rfl : x = p := by simpa using hj
      have : ((kLeg_cells x ++ cellsL r).drop (0 * 3)).take 3 = kLeg_cells x := by simp [kLeg_cells]
      rw [this]
      exact hR x
    | succ j =>
      have h2 := ih.2 j p (by simpa using hj)
      have : (kLeg_cells x ++ cellsL r).drop ((j + 1) * 3) = (cellsL r).drop (j * 3) := by
        rw [List.drop_append, List.drop_of_length_le (by simp [kLeg_cells]; omega), List.nil_append]
        congr 1
        simp [kLeg_cells]
        omega
      rw [this]
      exact h2
theorem infoLeg : (Tryz.prog.info? 46).map (fun i => (i.zero, i.size, i.bytes)) = some (some (.agg #[.int .i64 0, .int .i64 0, .int .i64 0]), 3, 24) := by kernel_rfl
/-- A row of the call's own, cut to its length. -/
def NewRow (w w' : World) (v : Value) (l : List Leg) : Prop := ∃ A c, v = .slice A l.length l.length ∧ l.length ≤ c ∧ kLeg.R 46 w' 0 (since w) (.slice A l.length c) l
theorem clip_c (A : Option Addr) (n c : Nat) (hc : n ≤ c) (hm : c ≤ 9223372036854775807) (w : World) :
    Calls Tryz.prog 19 #[.slice A n c] w fun e w' => e = .returned (.slice A n n) ∧ w = w' := by
  go_enter Tryz.func19, Tryz.ntmps19
  go_wp2
  go_ret
  exact ⟨rfl, rfl⟩
theorem clone_c (A : Option Addr) (c : Nat) (l : List Leg) (w : World) (hC : kLeg.C w A l.length l) (hc : l.length ≤ c) (hl : l.length ≤ 1000000) :
    Calls Tryz.prog 20 #[.slice A l.length c] w fun e w' => ∃ v, e = .returned v ∧ kLeg.R 46 w' 0 (since w) v l ∧ Fr no w w' := by
  have qT : ∀ (w : World) (a : Option Addr) (n c n' c' : Nat), (binOp .eql 22 (.slice a n c) (.slice none n' c')).run Tryz.prog w = .ok (.bool a.isNone) w := fun w a n c n' c' => Lib.run_eql_slice_nil w _ _ a n c n' c' Tryz.underlying22
  cases A with
  | none =>
    have h0 : l = [] := by
      have h2 := hC.2
      rcases Nat.eq_zero_or_pos l.length with h | h
      · exact List.length_eq_zero_iff.1 h
      · obtain ⟨ad, he, _⟩ := h2.2 h
        exact absurd he (by simp)
    subst h0
    simp only [List.length_nil] at *
    go_enter Tryz.func20, Tryz.ntmps20
    go_wp2
    go_ret
    exact ⟨_, rfl, Kd.R_nil _ _ _ _ _, Fr.refl _ _⟩
  | some ad =>
    obtain ⟨i0, hi, hz0, hz1, hz2⟩ := info_parts infoLeg
    have hcells := Lib.hid (fun o => cells_of_C (C_fr hC ((Fr.refl no w).alloc o)))
    have hlen := cellsL_len l
    have hone := cellsL_one l
    have hm : l.length ≤ maxLen := by unfold maxLen; omega
    obtain ⟨news, hnews⟩ : ∃ n, cellsL l = n := ⟨_, rfl⟩
    rw [hnews] at hlen hone hcells
    have HN := Lib.hid hnews
    have HO := Lib.hid hone
    clear hC hnews hone
    go_enter Tryz.func20, Tryz.ntmps20
    go_wp2_with (at_builtin; refine wpList_append_own _ rfl _ _ 22 rfl w.heap.size 46 i0 (.agg #[.int .i64 0, .int .i64 0, .int .i64 0]) 3 24 Tryz.underlying22 hi hz0 hz1 hz2 rfl (by decide) _ _ _ rfl (World.ownsRow_made w #[] 0 (Nat.le_refl _) (Nat.zero_le _) (by simp)) ad l.length c news rfl ?qc1 ?qc2 ?qc3 ?qc4 ?qc5 ?qc6 ?_)
    case qc1 => exact hlen
    case qc2 => exact fun j u hj => hcells.out _ j u hj
    case qc3 => exact HO.out
    case qc4 => rw [Nat.zero_add]; exact hm
    case qc5 => rw [Nat.zero_add]; omega
    case qc6 => simp
    intro v1 w1 hown hgrow hnil
    clear hlen hm
    go_wp2
    go_ret
    refine ⟨v1, rfl, ⟨fun k hk => ?_, news, ?_, ?_⟩, ?_⟩
    · exact (hown.lt k hk).1
    · have h2 : w1.ownsRow w.heap.size 46 3 v1 l.length news := by simpa using hown
      exact own_weaken h2 (Nat.zero_le _)
    · rw [← HN.out]
      exact reps_cells _ (fun x => kLeg_mkM _ _ _ x) l
    · exact Fr.of_below (((Below.refl _ w).alloc (Nat.le_refl _) _).grown hgrow (by simp) (by intro k hk; simp [Value.ownBlock] at hk; omega))
end Go.Proofs.YtdgeakojdafipaaGreatDoor.Legs

/-! Contract of legs.Turned. -/
set_option linter.unusedVariables false
set_option linter.unusedSimpArgs false
namespace Go.Proofs.YtdgeakojdafipaaGreatDoor.Legs
open Go.RowKit Go.Proofs.YtdgeakojdafipaaGreatDoorW.PrintWords Go.Proofs.YtdgeakojdafipaaGreatDoor.B Go.Proofs.YtdgeakojdafipaaGreatDoor.Num

theorem lg_cells {w : World} {base g n cap : Nat} {ok : Nat → Prop} {l : List Leg} (h : kLeg.R 46 w base ok (.slice (some ⟨g, 0, none⟩) n cap) l) (k : Nat) (hk : k < l.length) :
    w.cell? ⟨g, k * 3, none⟩ = some (.int .i64 (lg l k).Series) ∧ w.cell? ⟨g, k * 3 + 1, none⟩ = some (.int .i64 (lg l k).Sign) ∧ w.cell? ⟨g, k * 3 + 2, none⟩ = some (.int .i64 (lg l k).Ratio) ∧ ∀ j, w.frozen? ⟨g, k * 3 + j, none⟩ = false := by
  obtain ⟨c, h1, h2, h3, h4⟩ := R_el h k hk
  obtain rfl := kLeg_openM h2
  rw [lg_lt hk]
  exact ⟨h3 0 _ rfl, h3 1 _ rfl, h3 2 _ rfl, h4⟩
theorem lg_put1 {w : World} {base g n cap : Nat} {ok : Nat → Prop} {l : List Leg} (h : kLeg.R 46 w base ok (.slice (some ⟨g, 0, none⟩) n cap) l) (k : Nat) (hk : k < l.length) (s : Int) :
    kLeg.R 46 (w.setCell ⟨g, k * 3 + 1, none⟩ (.int .i64 s)) base ok (.slice (some ⟨g, 0, none⟩) n cap) (l.set k { lg l k with Sign := s }) := by
  obtain ⟨c, h1, h2, h3, h4⟩ := R_el h k hk
  obtain rfl := kLeg_openM h2
  rw [lg_lt hk]
  exact R_put h k hk (okp := fun _ => False) h1 h3 (by decide) (kLeg_mkM _ _ _ { l[k] with Sign := s }) (fun _ h => h.elim)
theorem lg_put2 {w : World} {base g n cap : Nat} {ok : Nat → Prop} {l : List Leg} (h : kLeg.R 46 w base ok (.slice (some ⟨g, 0, none⟩) n cap) l) (k : Nat) (hk : k < l.length) (s : Int) :
    kLeg.R 46 (w.setCell ⟨g, k * 3 + 2, none⟩ (.int .i64 s)) base ok (.slice (some ⟨g, 0, none⟩) n cap) (l.set k { lg l k with Ratio := s }) := by
  obtain ⟨c, h1, h2, h3, h4⟩ := R_el h k hk
  obtain rfl := kLeg_openM h2
  rw [lg_lt hk]
  exact R_put h k hk (okp := fun _ => False) h1 h3 (by decide) (kLeg_mkM _ _ _ { l[k] with Ratio := s }) (fun _ h => h.elim)
/-- The first k of l are turned by f. -/
def upd (f : Leg → Leg) (l : List Leg) (k : Nat) : List Leg := (l.take k).map f ++ l.drop k
theorem upd_len (f : Leg → Leg) (l : List Leg) (k : Nat) : (upd f l k).length = l.length := by simp [upd]; omega
theorem upd_lg (f : Leg → Leg) (l : List Leg) (k : Nat) (h : k < l.length) : lg (upd f l k) k = lg l k := by
  have hl : ((l.take k).map f).length = k := by simp; omega
  unfold lg upd
  rw [List.getElem?_append_right (by omega), hl, Nat.sub_self, List.getElem?_drop]
  rfl
theorem upd_set (f : Leg → Leg) (l : List Leg) (k : Nat) (h : k < l.length) : (upd f l k).set k (f (lg l k)) = upd f l (k + 1) := by
  have hl : ((l.take k).map f).length = k := by simp; omega
  rw [lg_lt h]
  unfold upd
  rw [List.set_append, if_neg (by omega), hl, Nat.sub_self, List.drop_eq_getElem_cons h, List.set_cons_zero, List.take_succ_eq_append_getElem h, List.map_append]
  simp only [List.map_cons, List.map_nil, List.append_assoc, List.cons_append, List.nil_append]
theorem upd_all (f : Leg → Leg) (l : List Leg) : upd f l l.length = l.map f := by simp [upd]
set_option maxRecDepth 100000 in
set_option maxHeartbeats 2000000 in
theorem turned_c (A : Option Addr) (c : Nat) (l : List Leg) (w : World) (hC : kLeg.C w A l.length l) (hc : l.length ≤ c) (hl : l.length ≤ 1000000) :
    Calls Tryz.prog 15 #[.slice A l.length c] w fun e w' => (∃ v, e = .returned v ∧ NewRow w w' v (turnL l)) ∧ Fr no w w' := by
  have HC := Lib.hid hC
  clear hC
  go_enter Tryz.func15, Tryz.ntmps15
  go_wp2_with fail
  refine (clone_c A c l w HC.out hc hl).mono ?_
  rintro e w1 ⟨v, rfl, hR, hf⟩
  obtain ⟨A1, c1, rfl, hc1, hC1⟩ := Kd.R_reads hR
  have hcc := (R_cap hR).2
  clear hC1
  dsimp only
  go_wp2_with fail
  refine (clip_c A1 l.length c1 hc1 hcc _).mono ?_
  rintro e w2 ⟨rfl, rfl⟩
  dsimp only
  have h0 : upd turn1 l 0 = l := by simp [upd]
  have HR : Hid (kLeg.R 46 w1 0 (since w) (.slice A1 l.length c1) (upd turn1 l 0)) := by rw [h0]; exact hR
  clear hR h0
  go_wp2
  go_loopg [10] l.length (fun q i wr => ∃ (k : Nat), k + q = l.length ∧ i = .int .i64 k ∧ Hid (kLeg.R 46 wr 0 (since w) (.slice A1 l.length c1) (upd turn1 l k)) ∧ Fr no w wr)
  case atStart => exact ⟨0, by omega, rfl, HR, hf⟩
  case round =>
    clear HR hf
    obtain ⟨k, hk, rfl, hR, hf⟩ := hrel
    by_cases hlt : k < l.length
    · have hul := upd_len turn1 l k
      obtain ⟨g, cap, hv, _, hgl, _⟩ := Kd.R_form hR.out (by omega)
      injection hv with hA _ hcc2
      subst hA
      have hgs : w.heap.size ≤ g := hR.out.1 g rfl
      obtain ⟨c0, cs1, c2, fz⟩ := lg_cells hR.out k (by omega)
      rw [upd_lg _ _ _ hlt] at c0 cs1 c2
      have hnext := lg_put1 hR.out k (by omega) (wrap64 (-(lg l k).Sign))
      rw [upd_lg _ _ _ hlt, show ({ lg l k with Sign := wrap64 (-(lg l k).Sign) } : Leg) = turn1 (lg l k) from rfl, upd_set _ _ _ hlt] at hnext
      have HNX := Lib.hid hnext
      have f1 := fz 1
      clear hnext hR hul fz c0 c2
      generalize lg l k = x at *
      go_wp2
      go_roundg (l.length - (k + 1))
      case measure => omega
      case rel => exact ⟨k + 1, by omega, by go_num, HNX.out, hf.set (p := ⟨g, k * 3 + 1, none⟩) (fun h => absurd h (Nat.not_lt.2 hgs)) _⟩
    · obtain rfl : k = l.length := by omega
      have hR2 := hR.out
      rw [upd_all] at hR2
      have HR2 := Lib.hid hR2
      clear hR hR2
      go_wp2
      go_ret
      have hlen : (turnL l).length = l.length := turnL_length l
      refine ⟨⟨.slice A1 l.length l.length, rfl, A1, c1, by rw [hlen], by omega, ?_⟩, hf⟩
      rw [hlen]
      exact HR2.out
end Go.Proofs.YtdgeakojdafipaaGreatDoor.Legs

/-! slices.SortFunc at legs. -/
set_option linter.unusedVariables false
set_option linter.unusedSimpArgs false
namespace Go.Proofs.YtdgeakojdafipaaGreatDoor.Legs
open Go.RowKit Go.Sort Go.Proofs.YtdgeakojdafipaaGreatDoorW.PrintWords Go.Proofs.YtdgeakojdafipaaGreatDoor.B Go.Proofs.YtdgeakojdafipaaGreatDoor.Num

theorem cells3 (x : Leg) : (kLeg_cells x).length = 3 := rfl
theorem cellsL_at : ∀ (l : List Leg) (t : Nat), t < l.length * 3 → (cellsL l)[t]? = some ((kLeg_cells (lg l (t / 3)))[t % 3]!)
  | [], t, h => by simp at h
  | x :: r, t, h => by
    have e : cellsL (x :: r) = kLeg_cells x ++ cellsL r := by simp [cellsL]
    rw [e]
    by_cases hj : t < 3
    · rw [List.getElem?_append_left (by rw [cells3]; exact hj)]
      have h0 : t / 3 = 0 := by omega
      have h1 : t % 3 = t := by omega
      rw [h0, h1]
      have : lg (x :: r) 0 = x := rfl
      rw [this, List.getElem?_eq_getElem (by rw [cells3]; exact hj), getElem!_pos _ t (by rw [cells3]; exact hj)]
    · rw [List.getElem?_append_right (by rw [cells3]; omega), cells3]
      have h2 : t / 3 = (t - 3) / 3 + 1 := by omega
      have h3 : t % 3 = (t - 3) % 3 := by omega
      rw [cellsL_at r (t - 3) (by simp at h; omega), h2, h3]
      rfl
theorem get_lg (l : List Leg) (i : Nat) (h : i < l.length) : l.toArray[i]! = lg l i := by
  rw [lg_lt h, getElem!_pos l.toArray i (by simpa using h)]
  rfl
theorem flat_cells (l : List Leg) : (flatK kLeg_cells 3 l.toArray).toList = cellsL l := by
  apply List.ext_getElem?
  intro t
  by_cases ht : t < l.length * 3
  · have hs : t < (flatK kLeg_cells 3 l.toArray).size := by rw [size_flatK]; simpa using ht
    rw [Array.getElem?_toList, Array.getElem?_eq_getElem hs, cellsL_at l t ht]
    have := get_flatK kLeg_cells 3 l.toArray t (by simpa using ht)
    rw [getElem!_pos _ t hs] at this
    rw [this, get_lg l _ (by omega)]
  · rw [List.getElem?_eq_none (by rw [Array.length_toList, size_flatK]; simpa using Nat.not_lt.1 ht), List.getElem?_eq_none (by rw [cellsL_len]; omega)]
theorem holds_R {w : World} {base g n cap : Nat} {ok : Nat → Prop} {l : List Leg} (h : kLeg.R 46 w base ok (.slice (some ⟨g, 0, none⟩) n cap) l) : HoldsK kLeg_cells 3 w g 0 l.toArray := by
  intro t ht
  have ht' : t < l.length * 3 := by simpa using ht
  rw [get_flatK kLeg_cells 3 l.toArray t (by simpa using ht'), get_lg l _ (by omega)]
  obtain ⟨c0, c1, c2, fz⟩ := lg_cells h (t / 3) (by omega)
  have hf := fz (t % 3)
  have e : (t / 3) * 3 + t % 3 = t := by omega
  rw [e] at hf
  refine ⟨?_, by rw [Nat.zero_add]; exact hf⟩
  rw [Nat.zero_add]
  have h3 : t % 3 = 0 ∨ t % 3 = 1 ∨ t % 3 = 2 := by omega
  rcases h3 with h3 | h3 | h3
  · rw [h3]; rw [show t = t / 3 * 3 by omega]
    rw [show t / 3 * 3 / 3 = t / 3 by omega]
    exact c0
  · rw [h3]; rw [show t = t / 3 * 3 + 1 by omega]
    rw [show (t / 3 * 3 + 1) / 3 = t / 3 by omega]
    exact c1
  · rw [h3]; rw [show t = t / 3 * 3 + 2 by omega]
    rw [show (t / 3 * 3 + 2) / 3 = t / 3 by omega]
    exact c2
theorem take_put (cur F : Array Value) (h : F.size ≤ cur.size) : (putCells id 0 F cur).toList.take F.size = F.toList := by
  apply List.ext_getElem?
  intro j
  by_cases hj : j < F.size
  · rw [List.getElem?_take_of_lt hj, Array.getElem?_toList, Array.getElem?_toList]
    simp [putCells, hj, show j < cur.size by omega]
  · rw [List.getElem?_take_eq_none (by omega), List.getElem?_eq_none (by simp; omega)]
/-- Behind the sort the same slice owns the sorted legs. -/
theorem R_sorted {w : World} {base g n c k : Nat} {ok : Nat → Prop} {l m : List Leg} {os : Array Obj} (h : kLeg.R 46 w base ok (.slice (some ⟨g, 0, none⟩) n c) l) (hm : m.length = l.length) :
    kLeg.R 46 (sortWorldK kLeg_cells 3 w g 0 k m.toArray os) base ok (.slice (some ⟨g, 0, none⟩) n c) m ∧ Fr (one g) w (sortWorldK kLeg_cells 3 w g 0 k m.toArray os) := by
  obtain ⟨h0, inner, ho, hr⟩ := h
  obtain ⟨hil, ho2⟩ := ho
  rcases ho2 with ⟨hv, _⟩ | ⟨g', cap, cur, hv, hbase, hb, h1, h2, h3, h4⟩
  · cases hv
  · injection hv with e1 e2 e3
    injection e1 with e1
    injection e1 with e1
    subst e1 e2 e3
    have hg : g < w.heap.size := (Array.getElem?_eq_some_iff.1 hb).1
    have hblk : (sortWorldK kLeg_cells 3 w g 0 k m.toArray os).heap[g]? = some (.cells (putCells id 0 (flatK kLeg_cells 3 m.toArray) cur) 46 (0, 0)) := by
      unfold sortWorldK
      rw [heap_grow_old _ _ (by simpa [putRowK] using hg)]
      simp [putRowK, putRow, mapBlock, Sort.ahead, Array.getElem?_modify, hb, onCells]
    have hfs : (flatK kLeg_cells 3 m.toArray).size = l.length * 3 := by rw [size_flatK]; simp [hm]
    have hsz : cur.size = c * 3 := h3
    refine ⟨⟨h0, cellsL m, ⟨by rw [cellsL_len]; rfl, .inr ⟨g, c, _, by rw [hm], hbase, hblk, by rw [hm]; exact h1, h2, by simp [putCells]; exact hsz, ?_⟩⟩, reps_cells _ (fun x => kLeg_mkM _ _ _ x) m⟩, ⟨rfl, rfl, rfl, by simp [sortWorldK, putRowK], fun j hj hn => ?_⟩⟩
    · show (putCells id 0 (flatK kLeg_cells 3 m.toArray) cur).toList.take (m.length * 3) = cellsL m
      rw [hm, ← hfs, take_put cur _ (by rw [hfs, hsz]; omega), flat_cells]
    · unfold sortWorldK
      rw [heap_grow_old _ _ (by simpa [putRowK] using hj)]
      have : g ≠ j := fun e => hn (by rw [← e]; rfl)
      simp [putRowK, putRow, mapBlock, Sort.ahead, Array.getElem?_modify, this]
theorem compare_c (x y : Int) (w : World) : Calls Tryz.prog 23 #[.int .i64 x, .int .i64 y] w fun e w' => e = .returned (.int .i64 (Lib.compareInt x y)) ∧ w' = w := Tryz.cmp_Compare_int x y w
set_option maxHeartbeats 1000000 in
theorem cmp1_c (x y : Leg) (W : World) : Calls Tryz.prog 22 #[.agg (kLeg_cells x).toArray, .agg (kLeg_cells y).toArray] W fun e w' => e = .returned (.int .i64 (cf x y)) ∧ ∃ q os', w' = grow (W.drewN q) os' := by
  have hcon := fun W' => compare_c x.Series y.Series W'
  unfold cf
  generalize Lib.compareInt x.Series y.Series = r at hcon ⊢
  show Calls Tryz.prog 22 #[.agg #[.int .i64 x.Series, .int .i64 x.Sign, .int .i64 x.Ratio], .agg #[.int .i64 y.Series, .int .i64 y.Sign, .int .i64 y.Ratio]] W _
  go_enter Tryz.func22, Tryz.ntmps22
  go_wp2_with (go_at_call 23; refine (hcon _).mono ?_; rintro e w' ⟨rfl, rfl⟩)
  go_ret
  exact ⟨rfl, 0, _, by rw [alloc_eq_grow, alloc_eq_grow, grow_grow]; rfl⟩
theorem srt_length (l : List Leg) : (srt l).length = l.length := by
  obtain ⟨⟨h1, _, _⟩, _⟩ := insertionSort_holds swo_cf l.toArray 0 l.toArray.size (Nat.zero_le _) (Nat.le_refl _)
  show (insertionSort (ltOf cf) l.toArray 0 l.toArray.size).size = _
  rw [h1]; simp
theorem sort_c (g c cap : Nat) (base : Nat) (ok : Nat → Prop) (l : List Leg) (w : World) (hR : kLeg.R 46 w base ok (.slice (some ⟨g, 0, none⟩) l.length c) l) (hl : l.length ≤ 12) :
    Calls Tryz.prog 21 #[.slice (some ⟨g, 0, none⟩) l.length cap, .func (.func 22) #[] #[]] w fun e w' =>
      e = .returned (.tuple #[]) ∧ kLeg.R 46 w' base ok (.slice (some ⟨g, 0, none⟩) l.length c) (srt l) ∧ Fr (one g) w w' := by
  have eg : ∀ args w, (callFunc 22 args).run Tryz.prog w = .ok (.enter 22 args) w := enters_of Tryz.func22 (by kernel_rfl) rfl
  have hg : g < w.heap.size := by
    obtain ⟨_, inner, ho, _⟩ := hR
    exact own_lt ho g rfl
  have h := AnyQ.slices_SortFunc_small Tryz.sortLeg 3 Tryz.isAgg46 Tryz.sizeOf46 kLeg_cells cells3
    (fun x v hv => by simp [kLeg_cells] at hv; rcases hv with rfl | rfl | rfl <;> rfl) cf 22 #[] g 0 cap l.toArray w eg
    (fun _ _ _ _ x y => cmp1_c x y _) (holds_R hR) hg (by simpa using hl)
    (fun n W h => (Tryz.bits_Len n W (by omega) (by omega)).mono fun _ _ ⟨he, hw⟩ => ⟨⟨_, he⟩, hw⟩)
  have e1 : l.toArray.size = l.length := by simp
  change Calls Tryz.prog 21 _ _ _ at h
  refine h.mono ?_
  rintro e w' ⟨rfl, n, os, rfl⟩
  have h2 := R_sorted (k := n) (os := os) hR (srt_length l)
  have e2 : (srt l).toArray = insertionSort (ltOf cf) l.toArray 0 l.toArray.size := by simp [srt]
  rw [e2] at h2
  exact ⟨rfl, h2⟩
end Go.Proofs.YtdgeakojdafipaaGreatDoor.Legs

/-! num.Gcd, num.Add (and the reference's Gcd) at what legs ask of them; legs.Canon. -/
set_option linter.unusedVariables false
set_option linter.unusedSimpArgs false
namespace Go.Proofs.YtdgeakojdafipaaGreatDoor.Legs
open Go.RowKit Go.Proofs.YtdgeakojdafipaaGreatDoorW.PrintWords Go.Proofs.YtdgeakojdafipaaGreatDoor.B Go.Proofs.YtdgeakojdafipaaGreatDoor.Num

theorem u64_id {a : Int} (h0 : 0 ≤ a) (h1 : a ≤ 9223372036854775807) : IntKind.u64.wrap a = a := by simp [IntKind.wrap, IntKind.signed, IntKind.bits]; omega
theorem gcd_step (x y : Nat) : gcdF (x : Int) (y : Int) = ((Nat.gcd x y : Nat) : Int) := by simp [gcdF, Int.gcd]
theorem gcd_l (k : Nat) : ∀ (x y : Nat), y < k → x ≤ 1000000 → y ≤ 1000000 → PLegsAny.num_Gcd.l0 k (x : Int) (y : Int) = some ((Nat.gcd x y : Nat) : Int) := by
  induction k with
  | zero => intro x y h; omega
  | succ k ih =>
    intro x y hk hx hy
    simp only [PLegsAny.num_Gcd.l0]
    by_cases hy0 : y = 0
    · subst hy0
      rw [if_neg (by simp)]
      simp [mn, wrap64]
      omega
    · rw [if_pos (by omega), if_neg (by omega)]
      have e : Int.tmod (x : Int) (y : Int) = ((x % y : Nat) : Int) := by
        rw [Int.tmod_eq_emod_of_nonneg (by omega)]; simp
      have hlt := Nat.mod_lt x (show 0 < y by omega)
      rw [e, ih y (x % y) (by omega) hy (by omega), Nat.gcd_comm y, ← Nat.gcd_rec, Nat.gcd_comm]
theorem gcd_f (a b : Int) (a0 : 0 ≤ a) (a1 : a ≤ 1000000) (b0 : 0 ≤ b) (b1 : b ≤ 1000000) : PLegsAny.num_Gcd.f (b.toNat + 1) a b = some (gcdF a b) := by
  obtain ⟨x, rfl⟩ : ∃ x : Nat, a = x := ⟨a.toNat, by omega⟩
  obtain ⟨y, rfl⟩ : ∃ y : Nat, b = y := ⟨b.toNat, by omega⟩
  have h := gcd_l (y + 1) x y (by omega) (by omega) (by omega)
  unfold PLegsAny.num_Gcd.f PLegsAny.num_size.f
  rw [if_neg (by omega), if_neg (by omega), Option.bind_some, Option.bind_some, u64_id (by omega) (by omega), u64_id (by omega) (by omega), Int.toNat_natCast, h, gcd_step]
theorem gcd_c (a b : Int) (a0 : 0 ≤ a) (a1 : a ≤ 1000000) (b0 : 0 ≤ b) (b1 : b ≤ 1000000) (w : World) : Calls Tryz.prog 24 #[.int .i64 a, .int .i64 b] w fun e w' => e = .returned (.int .i64 (gcdF a b)) ∧ Fr no w w' :=
  (PLegsAny.num_Gcd.calls _ a b _ w (gcd_f a b a0 a1 b0 b1)).mono fun e w' ⟨h, h2⟩ => ⟨h, Fr.of_below h2⟩
theorem rgcd_l (k : Nat) : ∀ (x y : Nat), y < k → x ≤ 1000000 → y ≤ 1000000 → PLegsAny.straddleref1_Gcd.l0 k (x : Int) (y : Int) = some ((Nat.gcd x y : Nat) : Int) := by
  induction k with
  | zero => intro x y h; omega
  | succ k ih =>
    intro x y hk hx hy
    simp only [PLegsAny.straddleref1_Gcd.l0]
    by_cases hy0 : y = 0
    · subst hy0
      rw [if_neg (by simp), if_neg (by omega)]
      simp [wrap64]
      omega
    · rw [if_pos (by omega), if_neg (by omega)]
      have e : Int.tmod (x : Int) (y : Int) = ((x % y : Nat) : Int) := by
        rw [Int.tmod_eq_emod_of_nonneg (by omega)]; simp
      have hlt := Nat.mod_lt x (show 0 < y by omega)
      rw [e, ih y (x % y) (by omega) hy (by omega), Nat.gcd_comm y, ← Nat.gcd_rec, Nat.gcd_comm]
theorem rgcd_f (a b : Int) (a0 : 0 ≤ a) (a1 : a ≤ 1000000) (b0 : 0 ≤ b) (b1 : b ≤ 1000000) : PLegsAny.straddleref1_Gcd.f (b.toNat + 1) a b = some (gcdF a b) := by
  obtain ⟨x, rfl⟩ : ∃ x : Nat, a = x := ⟨a.toNat, by omega⟩
  obtain ⟨y, rfl⟩ : ∃ y : Nat, b = y := ⟨b.toNat, by omega⟩
  have h := rgcd_l (y + 1) x y (by omega) (by omega) (by omega)
  unfold PLegsAny.straddleref1_Gcd.f PLegsAny.straddleref1_size.f
  rw [if_neg (by omega), if_neg (by omega), Option.bind_some, Option.bind_some, u64_id (by omega) (by omega), u64_id (by omega) (by omega), Int.toNat_natCast, h, gcd_step]
theorem rgcd_c (a b : Int) (a0 : 0 ≤ a) (a1 : a ≤ 1000000) (b0 : 0 ≤ b) (b1 : b ≤ 1000000) (w : World) : Calls Tryz.prog 25 #[.int .i64 a, .int .i64 b] w fun e w' => e = .returned (.int .i64 (gcdF a b)) ∧ Fr no w w' :=
  (PLegsAny.straddleref1_Gcd.calls _ a b _ w (rgcd_f a b a0 a1 b0 b1)).mono fun e w' ⟨h, h2⟩ => ⟨h, Fr.of_below h2.below⟩
def addF (a b : Int) : Int × Int := if i64B (a + b) = true then (a + b, 0) else (0, 9)
theorem add_f (a b : Int) (a0 : -9223372036854775808 ≤ a) (a1 : a ≤ 9223372036854775807) (b0 : -9223372036854775808 ≤ b) (b1 : b ≤ 9223372036854775807) : PLegsAny.num_Add.f a b = some (addF a b) := by
  unfold PLegsAny.num_Add.f addF
  have hw : -9223372036854775808 ≤ a + b → a + b ≤ 9223372036854775807 → wrap64 (a + b) = a + b := fun h1 h2 => by unfold wrap64; omega
  rcases Int.lt_trichotomy b 0 with hb | hb | hb
  · have h1 : wrap64 (-9223372036854775808 - b) = -9223372036854775808 - b := by unfold wrap64; omega
    rw [if_neg (by omega), if_pos (by omega), h1]
    by_cases h : a < -9223372036854775808 - b
    · rw [if_pos h, if_neg (by rw [i64B_t]; omega)]
    · rw [if_neg h, hw (by omega) (by omega), if_pos (by rw [i64B_t]; omega)]
  · subst hb
    rw [if_neg (by omega), if_neg (by omega), hw (by omega) (by omega), if_pos (by rw [i64B_t]; omega)]
  · have h1 : wrap64 (9223372036854775807 - b) = 9223372036854775807 - b := by unfold wrap64; omega
    rw [if_pos (by omega), h1]
    by_cases h : a > 9223372036854775807 - b
    · rw [if_pos h, if_neg (by rw [i64B_t]; omega)]
    · rw [if_neg h, if_neg (by omega), hw (by omega) (by omega), if_pos (by rw [i64B_t]; omega)]
theorem add_c (a b : Int) (a0 : -9223372036854775808 ≤ a) (a1 : a ≤ 9223372036854775807) (b0 : -9223372036854775808 ≤ b) (b1 : b ≤ 9223372036854775807) (w : World) : Calls Tryz.prog 38 #[.int .i64 a, .int .i64 b] w fun e w' => e = .returned (.tuple #[.int .i64 (addF a b).1, .int .i64 (addF a b).2]) ∧ Fr no w w' :=
  (PLegsAny.num_Add.calls a b (addF a b).1 (addF a b).2 w (add_f a b a0 a1 b0 b1)).mono fun e w' ⟨h, h2⟩ => ⟨h, Fr.of_below h2.below⟩
end Go.Proofs.YtdgeakojdafipaaGreatDoor.Legs
