import Derived.Test.YtdgeakojdafipaaDoorLegT
/-! Contract of legs.Turned. -/
set_option linter.unusedVariables false
set_option linter.unusedSimpArgs false
namespace Go.Proofs.YtdgeakojdafipaaDoor.Legs
open Go.RowKit Go.Proofs.YtdgeakojdafipaaDoorW.PrintWords Go.Proofs.YtdgeakojdafipaaDoor.B Go.Proofs.YtdgeakojdafipaaDoor.Num

theorem lg_cells {w : World} {base g n cap : Nat} {ok : Nat → Prop} {l : List Leg} (h : kLeg.R 43 w base ok (.slice (some ⟨g, 0, none⟩) n cap) l) (k : Nat) (hk : k < l.length) :
    w.cell? ⟨g, k * 3, none⟩ = some (.int .i64 (lg l k).Series) ∧ w.cell? ⟨g, k * 3 + 1, none⟩ = some (.int .i64 (lg l k).Sign) ∧ w.cell? ⟨g, k * 3 + 2, none⟩ = some (.int .i64 (lg l k).Ratio) ∧ ∀ j, w.frozen? ⟨g, k * 3 + j, none⟩ = false := by
  obtain ⟨c, h1, h2, h3, h4⟩ := R_el h k hk
  obtain rfl := kLeg_openM h2
  rw [lg_lt hk]
  exact ⟨h3 0 _ rfl, h3 1 _ rfl, h3 2 _ rfl, h4⟩
theorem lg_put1 {w : World} {base g n cap : Nat} {ok : Nat → Prop} {l : List Leg} (h : kLeg.R 43 w base ok (.slice (some ⟨g, 0, none⟩) n cap) l) (k : Nat) (hk : k < l.length) (s : Int) :
    kLeg.R 43 (w.setCell ⟨g, k * 3 + 1, none⟩ (.int .i64 s)) base ok (.slice (some ⟨g, 0, none⟩) n cap) (l.set k { lg l k with Sign := s }) := by
  obtain ⟨c, h1, h2, h3, h4⟩ := R_el h k hk
  obtain rfl := kLeg_openM h2
  rw [lg_lt hk]
  exact R_put h k hk (okp := fun _ => False) h1 h3 (by decide) (kLeg_mkM _ _ _ { l[k] with Sign := s }) (fun _ h => h.elim)
theorem lg_put2 {w : World} {base g n cap : Nat} {ok : Nat → Prop} {l : List Leg} (h : kLeg.R 43 w base ok (.slice (some ⟨g, 0, none⟩) n cap) l) (k : Nat) (hk : k < l.length) (s : Int) :
    kLeg.R 43 (w.setCell ⟨g, k * 3 + 2, none⟩ (.int .i64 s)) base ok (.slice (some ⟨g, 0, none⟩) n cap) (l.set k { lg l k with Ratio := s }) := by
  obtain ⟨c, h1, h2, h3, h4⟩ := R_el h k hk
  obtain rfl := kLeg_openM h2
  rw [lg_lt hk]
  exact R_put h k hk (okp := fun _ => False) h1 h3 (by decide) (kLeg_mkM _ _ _ { l[k] with Ratio := s }) (fun _ h => h.elim)
/-- The first k of l are turned by f. -/
def upd (f : Leg → Leg) (l : List Leg) (k : Nat) : List Leg := (l.take k).map f ++ l.drop k
theorem upd_len (f : Leg → Leg) (l : List Leg) (k : Nat) : (upd f l k).length = l.length := by simp [upd]; omega
theorem upd_lg (f : Leg → Leg) (l : List Leg) (k : Nat) (h : k < l.length) : lg (upd f l k) k = lg l k := by
  have hl : ((l.take k).map f).length = k := by simp; omega
  unfold lg upd
  rw [List.getElem?_append_right (by omega), hl, Nat.sub_self, List.getElem?_drop]
  rfl
theorem upd_set (f : Leg → Leg) (l : List Leg) (k : Nat) (h : k < l.length) : (upd f l k).set k (f (lg l k)) = upd f l (k + 1) := by
  have hl : ((l.take k).map f).length = k := by simp; omega
  rw [lg_lt h]
  unfold upd
  rw [List.set_append, if_neg (by omega), hl, Nat.sub_self, List.drop_eq_getElem_cons h, List.set_cons_zero, List.take_succ_eq_append_getElem h, List.map_append]
  simp only [List.map_cons, List.map_nil, List.append_assoc, List.cons_append, List.nil_append]
theorem upd_all (f : Leg → Leg) (l : List Leg) : upd f l l.length = l.map f := by simp [upd]
set_option maxRecDepth 100000 in
set_option maxHeartbeats 2000000 in
theorem turned_c (A : Option Addr) (c : Nat) (l : List Leg) (w : World) (hC : kLeg.C w A l.length l) (hc : l.length ≤ c) (hl : l.length ≤ 1000000) :
    Calls Tryd.prog 12 #[.slice A l.length c] w fun e w' => (∃ v, e = .returned v ∧ NewRow w w' v (turnL l)) ∧ Fr no w w' := by
  have HC := Lib.hid hC
  clear hC
  go_enter Tryd.func12, Tryd.ntmps12
  go_wp2_with fail
  refine (clone_c A c l w HC.out hc hl).mono ?_
  rintro e w1 ⟨v, rfl, hR, hf⟩
  obtain ⟨A1, c1, rfl, hc1, hC1⟩ := Kd.R_reads hR
  have hcc := (R_cap hR).2
  clear hC1
  dsimp only
  go_wp2_with fail
  refine (clip_c A1 l.length c1 hc1 hcc _).mono ?_
  rintro e w2 ⟨rfl, rfl⟩
  dsimp only
  have h0 : upd turn1 l 0 = l := by simp [upd]
  have HR : Hid (kLeg.R 43 w1 0 (since w) (.slice A1 l.length c1) (upd turn1 l 0)) := by rw [h0]; exact hR
  clear hR h0
  go_wp2
  go_loopg [10] l.length (fun q i wr => ∃ (k : Nat), k + q = l.length ∧ i = .int .i64 k ∧ Hid (kLeg.R 43 wr 0 (since w) (.slice A1 l.length c1) (upd turn1 l k)) ∧ Fr no w wr)
  case atStart => exact ⟨0, by omega, rfl, HR, hf⟩
  case round =>
    clear HR hf
    obtain ⟨k, hk, rfl, hR, hf⟩ := hrel
    by_cases hlt : k < l.length
    · have hul := upd_len turn1 l k
      obtain ⟨g, cap, hv, _, hgl, _⟩ := Kd.R_form hR.out (by omega)
      injection hv with hA _ hcc2
      subst hA
      have hgs : w.heap.size ≤ g := hR.out.1 g rfl
      obtain ⟨c0, cs1, c2, fz⟩ := lg_cells hR.out k (by omega)
      rw [upd_lg _ _ _ hlt] at c0 cs1 c2
      have hnext := lg_put1 hR.out k (by omega) (wrap64 (-(lg l k).Sign))
      rw [upd_lg _ _ _ hlt, show ({ lg l k with Sign := wrap64 (-(lg l k).Sign) } : Leg) = turn1 (lg l k) from rfl, upd_set _ _ _ hlt] at hnext
      have HNX := Lib.hid hnext
      have f1 := fz 1
      clear hnext hR hul fz c0 c2
      generalize lg l k = x at *
      go_wp2
      go_roundg (l.length - (k + 1))
      case measure => omega
      case rel => exact ⟨k + 1, by omega, by go_num, HNX.out, hf.set (p := ⟨g, k * 3 + 1, none⟩) (fun h => absurd h (Nat.not_lt.2 hgs)) _⟩
    · obtain rfl : k = l.length := by omega
      have hR2 := hR.out
      rw [upd_all] at hR2
      have HR2 := Lib.hid hR2
      clear hR hR2
      go_wp2
      go_ret
      have hlen : (turnL l).length = l.length := turnL_length l
      refine ⟨⟨.slice A1 l.length l.length, rfl, A1, c1, by rw [hlen], by omega, ?_⟩, hf⟩
      rw [hlen]
      exact HR2.out
end Go.Proofs.YtdgeakojdafipaaDoor.Legs
