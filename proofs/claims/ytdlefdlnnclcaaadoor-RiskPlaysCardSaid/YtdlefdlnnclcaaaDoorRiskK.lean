import Derived.Test.YtdlefdlnnclcaaaDoorRiskD
import Derived.OpenShut
/-! The law's own check of package risk; RiskBounds. -/
set_option linter.unusedVariables false
set_option linter.unusedSimpArgs false
namespace Go.Proofs.YtdlefdlnnclcaaaDoor.Risk
open Go.RowKit Go.Maps Go.Proofs.YtdlefdlnnclcaaaDoorW.PrintWords Go.Proofs.YtdlefdlnnclcaaaDoor.B Go.Proofs.YtdlefdlnnclcaaaDoor.Err

/-- What is wrong with an order, and where. -/
def askF (L : Lim) (u : Use) (p q : Int) : Int × Int :=
  if q < 1 ∨ p < 0 then (0, 1) else if L.qty < q then (0, 9) else if L.money < u.money + p * q then (1, 9) else if L.orders ≤ u.n then (2, 8) else (0, 0)
section
variable {w : World} {B M n : Nat} {L : Lim} {f : Int → Use} {o : Int}
theorem ask_any (h : At w B M n L f o) (p q : Int) (hp1 : p ≤ 9223372036854775807) : ∃ u, ((askF L (f o) p q).2 = 0 → u = ⟨(f o).n + 1, (f o).money + p * q⟩) ∧
    Calls Tryd.prog 22 #[.pointer (some ⟨B, 0, none⟩), .int .i64 o, .int .i64 p, .int .i64 q] w fun e w' => e = .returned (.tuple #[useV u, .int .i64 (askF L (f o) p q).1, .int .i64 (askF L (f o) p q).2]) ∧ Fr no w w' := by
  unfold askF
  by_cases h1 : q < 1 ∨ p < 0
  · rw [if_pos h1]
    exact ⟨_, fun h => by simp at h, ask_arg h p q h1⟩
  · rw [if_neg h1]
    by_cases h2 : L.qty < q
    · rw [if_pos h2]
      exact ⟨_, fun h => by simp at h, ask_qty h p q (by omega) (by omega) h2⟩
    · rw [if_neg h2]
      by_cases h3 : L.money < (f o).money + p * q
      · rw [if_pos h3]
        exact ⟨_, fun h => by simp at h, ask_money h p q (by omega) (by omega) hp1 (by omega) _ rfl h3⟩
      · rw [if_neg h3]
        by_cases h4 : L.orders ≤ (f o).n
        · rw [if_pos h4]
          exact ⟨_, fun h => by simp at h, ask_full h p q (by omega) (by omega) hp1 (by omega) _ rfl (by omega) h4⟩
        · rw [if_neg h4]
          exact ⟨_, fun _ => rfl, ask_ok h p q (by omega) (by omega) hp1 (by omega) _ rfl (by omega) (by omega)⟩
end
/-- A desk that is new since w0. -/
structure Rk (w0 w : World) (B M n : Nat) (L : Lim) (f : Int → Use) : Prop where
  d : RDesk w B M L
  l : LimOk L
  u : Uses w M n f
  fr : Fr no w0 w
  b : w0.heap.size ≤ B
  m : w0.heap.size ≤ M
  ne : B ≠ M
section
variable {w0 w w' : World} {B M n : Nat} {L : Lim} {f : Int → Use} {u : Use}
theorem Rk.go (h : Rk w0 w B M n L f) (hf : Fr no w w') : Rk w0 w' B M n L f := ⟨hf.heap h.d (fun h => h), h.l, h.u.fr hf (fun h => h), h.fr.trans' hf, h.b, h.m, h.ne⟩
theorem Rk.step {n' : Nat} {f' : Int → Use} (h : Rk w0 w B M n L f) (hu : Uses w' M n' f') (hf : Fr (one M) w w') : Rk w0 w' B M n' L f' :=
  ⟨hf.heap h.d (fun he => h.ne he), h.l, hu, h.fr.new hf (fun k hk => by have h1 : k = M := hk; subst h1; exact h.m), h.b, h.m, h.ne⟩
/-- What an owner may have open. -/
structure UseOk (u : Use) : Prop where
  n0 : 0 ≤ u.n
  n1 : u.n ≤ 4096
  m0 : 0 ≤ u.money
  m1 : u.money ≤ 1125899906842624
theorem Rk.at (h : Rk w0 w B M n L f) {o : Int} (ho : (Lit.int .i64 o).wf = true) (hu : f o = u) (hk : UseOk u) : At w B M n L f o := by
  subst hu
  exact ⟨h.d, h.l, h.u, ho, hk.n0, hk.n1, hk.m0, hk.m1⟩
theorem new_t (L : Lim) (hl : LimOk L) (hf : Fr no w0 w) : Calls Tryd.prog 5 #[limV L] w fun e w' => ∃ B M, e = .returned (.tuple #[.pointer (some ⟨B, 0, none⟩), .int .i64 0]) ∧ Rk w0 w' B M 0 L (fun _ => zUse) := by
  refine (new_c L hl w).mono ?_
  rintro e w' ⟨⟨B, M, rfl, hB, hM, hne, hd, hu⟩, hf2⟩
  exact ⟨B, M, rfl, hd, hl, hu, hf.trans' hf2, Nat.le_trans hf.size hB, Nat.le_trans hf.size hM, hne⟩
theorem ask_bad (h : Rk w0 w B M n L f) (o p q a e1 : Int) (ho : (Lit.int .i64 o).wf = true) (hu : f o = u) (hk : UseOk u) (hp : p ≤ 9223372036854775807) (he : askF L u p q = (a, e1)) (h1 : 1 ≤ e1) :
    Calls Tryd.prog 12 #[.pointer (some ⟨B, 0, none⟩), .int .i64 o, .int .i64 p, .int .i64 q] w fun e w' => ∃ F, e = .returned (.iface 65 (.pointer (some ⟨F, 0, none⟩))) ∧ F ≠ M ∧ FaultAt w' F riskB a e1 ∧ Rk w0 w' B M n L f := by
  obtain ⟨u', _, hc⟩ := ask_any (h.at ho hu hk) p q hp
  rw [hu, he] at hc
  refine (Ask_no h1 hc).mono ?_
  rintro e w' ⟨F, rfl, hF, hA, hf⟩
  exact ⟨F, rfl, by have := h.u.lt; omega, hA, h.go hf⟩
theorem ask_good (h : Rk w0 w B M n L f) (o p q a : Int) (ho : (Lit.int .i64 o).wf = true) (hu : f o = u) (hk : UseOk u) (hp : p ≤ 9223372036854775807) (he : askF L u p q = (a, 0)) :
    Calls Tryd.prog 12 #[.pointer (some ⟨B, 0, none⟩), .int .i64 o, .int .i64 p, .int .i64 q] w fun e w' => e = .returned .nilIface ∧ Rk w0 w' B M n L f := by
  obtain ⟨u', _, hc⟩ := ask_any (h.at ho hu hk) p q hp
  rw [hu, he] at hc
  refine (Ask_yes hc).mono ?_
  rintro e w' ⟨rfl, hf⟩
  exact ⟨rfl, h.go hf⟩
theorem open_bad (h : Rk w0 w B M n L f) (o p q a e1 : Int) (ho : (Lit.int .i64 o).wf = true) (hu : f o = u) (hk : UseOk u) (hp : p ≤ 9223372036854775807) (he : askF L u p q = (a, e1)) (h1 : 1 ≤ e1) :
    Calls Tryd.prog 13 #[.pointer (some ⟨B, 0, none⟩), .int .i64 o, .int .i64 p, .int .i64 q] w fun e w' => ∃ F, e = .returned (.iface 65 (.pointer (some ⟨F, 0, none⟩))) ∧ F ≠ M ∧ FaultAt w' F riskB a e1 ∧ Rk w0 w' B M n L f := by
  obtain ⟨u', _, hc⟩ := ask_any (h.at ho hu hk) p q hp
  rw [hu, he] at hc
  refine (Open_no h1 hc).mono ?_
  rintro e w' ⟨F, rfl, hF, hA, hf⟩
  exact ⟨F, rfl, by have := h.u.lt; omega, hA, h.go hf⟩
theorem open_good (h : Rk w0 w B M n L f) (o p q a : Int) (u1 : Use) (ho : (Lit.int .i64 o).wf = true) (hu : f o = u) (hk : UseOk u) (hp : p ≤ 9223372036854775807) (hn : n < 1000000000) (he : askF L u p q = (a, 0)) (h1 : u1 = ⟨u.n + 1, u.money + p * q⟩) :
    Calls Tryd.prog 13 #[.pointer (some ⟨B, 0, none⟩), .int .i64 o, .int .i64 p, .int .i64 q] w fun e w' => e = .returned .nilIface ∧ Rk w0 w' B M (n + 1) L (upd f o u1) ∧ Fr (one M) w w' := by
  obtain ⟨u', hu', hc⟩ := ask_any (h.at ho hu hk) p q hp
  rw [hu, he] at hu' hc
  have h2 := hu' rfl
  subst h2
  subst h1
  refine (Open_yes h.d h.u ho hn hc).mono ?_
  rintro e w' ⟨rfl, hu2, hf⟩
  exact ⟨rfl, h.step hu2 hf, hf⟩
theorem used_t (h : Rk w0 w B M n L f) (o : Int) (ho : (Lit.int .i64 o).wf = true) (hu : f o = u) (hk : UseOk u) :
    Calls Tryd.prog 16 #[.pointer (some ⟨B, 0, none⟩), .int .i64 o] w fun e w' => e = .returned (.tuple #[.int .i64 u.n, .int .i64 u.money]) ∧ Rk w0 w' B M n L f ∧ Fr no w w' := by
  refine (used_c (h.at ho hu hk)).mono ?_
  rintro e w' ⟨rfl, hf⟩
  exact ⟨by rw [hu], h.go hf, hf⟩
theorem close_t (h : Rk w0 w B M n L f) (o p q : Int) (u1 : Use) (ho : (Lit.int .i64 o).wf = true) (hu : f o = u) (hk : UseOk u) (hp0 : 0 ≤ p) (hq0 : 0 ≤ q) (hp1 : p ≤ 1000000) (hq1 : q ≤ 1000000) (hm : p * q ≤ u.money) (hn1 : 1 ≤ u.n) (hn : n < 1000000000) (h1 : u1 = ⟨u.n - 1, u.money - p * q⟩) :
    Calls Tryd.prog 14 #[.pointer (some ⟨B, 0, none⟩), .int .i64 o, .int .i64 p, .int .i64 q, .bool true] w fun e w' => e = .returned (.int .i64 0) ∧ Rk w0 w' B M (n + 1) L (upd f o u1) ∧ Fr (one M) w w' := by
  subst h1 hu
  refine (close_whole (h.at ho rfl hk) p q hp0 hq0 hp1 hq1 _ rfl (Int.mul_nonneg hp0 hq0) hm hn1 hn).mono ?_
  rintro e w' ⟨rfl, hu2, hf⟩
  exact ⟨rfl, h.step hu2 hf, hf⟩
end
theorem upd_same (f : Int → Use) (o : Int) (u : Use) : upd f o u o = u := by simp [upd]
theorem upd_upd (f : Int → Use) (o : Int) (u v : Use) : upd (upd f o u) o v = upd f o v := by funext x; simp only [upd]; split <;> rfl
theorem upd_other (f : Int → Use) {o x : Int} (u : Use) (h : x ≠ o) : upd f o u x = f x := by simp [upd, h]
theorem zero_ok : UseOk zUse := ⟨by decide, by decide, by decide, by decide⟩

set_option maxRecDepth 100000 in
set_option maxHeartbeats 4000000 in
theorem known_c (w : World) (hg : ErrType w) : Calls Tryd.prog 4 #[] w fun e w' => e = .returned (.bool true) ∧ Fr no w w' := by
  have HG := Lib.hid hg
  clear hg
  go_enter Tryd.func4, Tryd.ntmps4
  go_wp2_with fail
  refine (new_t (w0 := w) ⟨10, 100, 2⟩ ⟨by decide, by decide, by decide, by decide, by decide, by decide⟩ (Fr.refl no w)).mono ?_
  rintro e w1 ⟨B, M, rfl, h⟩
  dsimp only
  go_wp2_with fail
  refine (open_good h 1 10 5 0 ⟨1, 50⟩ (by decide) rfl zero_ok (by decide) (by decide) (by decide) rfl).mono ?_
  rintro e w2 ⟨rfl, h2, _⟩
  clear h
  dsimp only
  go_wp2_with fail
  refine (ask_bad h2 1 10 6 1 9 (by decide) (upd_same _ _ _) ⟨by decide, by decide, by decide, by decide⟩ (by decide) (by decide) (by decide)).mono ?_
  rintro e w3 ⟨F, rfl, hFM, hF, h3⟩
  clear h2
  dsimp only
  go_wp2_with fail
  refine (used_t h3 1 (by decide) (upd_same _ _ _) ⟨by decide, by decide, by decide, by decide⟩).mono ?_
  rintro e w4 ⟨rfl, h4, hf⟩
  replace hF : FaultAt w4 F riskB 1 9 := hf.heap hF (fun h => h)
  clear h3 hf
  dsimp only
  go_wp2_with fail
  refine (close_t h4 1 10 5 ⟨0, 0⟩ (by decide) (upd_same _ _ _) ⟨by decide, by decide, by decide, by decide⟩ (by decide) (by decide) (by decide) (by decide) (by decide) (by decide) (by decide) rfl).mono ?_
  rintro e w5 ⟨rfl, h5, hf⟩
  replace hF : FaultAt w5 F riskB 1 9 := hf.heap hF hFM
  clear h4 hf
  dsimp only
  go_wp2_with fail
  refine (close_no (h5.at (by decide) (upd_same _ _ _) ⟨by decide, by decide, by decide, by decide⟩) 1 1 false (by decide) (by decide) (by decide) (by decide) 1 rfl (by decide) (by rw [upd_same]; decide)).mono ?_
  rintro e w6 ⟨rfl, hf⟩
  replace hF : FaultAt w6 F riskB 1 9 := hf.heap hF (fun h => h)
  replace h5 := h5.go hf
  clear hf
  dsimp only
  go_wp2_with fail
  refine (at_c riskB 1 9 _).mono ?_
  rintro e w8 ⟨⟨G, rfl, hGl, hG⟩, hf⟩
  replace hF : FaultAt w8 F riskB 1 9 := hf.heap hF (fun h => h)
  replace h5 := h5.go hf
  clear hf
  dsimp only
  go_wp2_with fail
  refine (tells_c F G riskB 1 9 1 rfl (by omega) (by decide) (by decide) (by decide) _ (HG.out.fr h5.fr (fun h => h)) hF hG).mono ?_
  rintro e w9 ⟨rfl, hf⟩
  replace h5 := h5.go hf
  clear hf hF hG hGl
  dsimp only
  go_wp2_with fail
  refine (check_zero _).mono ?_
  rintro e w10 ⟨rfl, hf⟩
  replace h5 := h5.go hf
  clear hf
  dsimp only
  go_wp2
  go_ret
  exact ⟨rfl, h5.fr⟩
end Go.Proofs.YtdlefdlnnclcaaaDoor.Risk
