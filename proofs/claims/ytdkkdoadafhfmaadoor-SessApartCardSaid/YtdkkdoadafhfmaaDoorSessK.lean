import Derived.Test.YtdkkdoadafhfmaaDoorSessD
import Derived.Test.YtdkkdoadafhfmaaDoorErrLaid
/-! The law's own check of package sess. -/
set_option linter.unusedVariables false
set_option linter.unusedSimpArgs false
namespace Go.Proofs.YtdkkdoadafhfmaaDoor.Sess
open Go.RowKit Go.Proofs.YtdkkdoadafhfmaaDoorW.PrintWords Go.Proofs.YtdkkdoadafhfmaaDoor.B Go.Proofs.YtdkkdoadafhfmaaDoor.Err

/-- A desk that is new since w0. -/
structure St (w0 w : World) (B : Nat) (t : Int) (S : Nat → Ses) : Prop where
  d : Desk w B t S
  f : Fr no w0 w
  b : w0.heap.size ≤ B
section
variable {w0 w w' : World} {B : Nat} {t : Int} {S S' : Nat → Ses}
theorem St.step (h : St w0 w B t S) (hd : Desk w' B t S') (hf : Fr (one B) w w') : St w0 w' B t S' := ⟨hd, h.f.new hf (fun k hk => by have h1 : k = B := hk; subst h1; exact h.b), h.b⟩
theorem St.fr (h : St w0 w B t S) (hf : Fr no w w') : St w0 w' B t S := ⟨h.d.fr hf (fun h => h), h.f.trans' hf, h.b⟩
theorem new_t (t : Int) (h1 : 1 ≤ t) (h2 : t ≤ 1000000) (hf : Fr no w0 w) : Calls Tryd.prog 16 #[.int .i64 t] w fun e w' =>
    ∃ B, e = .returned (.tuple #[.pointer (some ⟨B, 0, none⟩), .int .i64 0]) ∧ St w0 w' B t (fun _ => zSes) := by
  refine (new_yes t h1 h2 w).mono ?_
  rintro e w' ⟨⟨B, rfl, hB, hd⟩, hf2⟩
  exact ⟨B, rfl, hd, hf.trans' hf2, Nat.le_trans hf.size hB⟩
theorem in_t (h : St w0 w B t S) (s : Int) (n : Nat) (x : Ses) (hs : s = (n : Int)) (h1 : 1 ≤ n) (h2 : n ≤ 64) (k q now : Int) (hx : S n = x) (b1 : 0 ≤ x.inn) (b2 : x.inn ≤ 1000000) (hb : (x.on == (k == 1)) = false) (hq : q = x.inn + 1) (hk : (k == 3) = false) (hS : put S n ⟨true, x.inn + 1, x.out, now⟩ = S') :
    Calls Tryd.prog 17 #[.pointer (some ⟨B, 0, none⟩), .int .i64 s, msgV k q, .int .i64 now] w fun e w' => e = .returned .nilIface ∧ St w0 w' B t S' ∧ Fr (one B) w w' := by
  subst hx
  refine (in_ok B t S s n hs h1 h2 k q now w h.d b1 b2 hb hq hk).mono ?_
  rintro e w' ⟨rfl, hd, hf⟩
  rw [hS] at hd
  exact ⟨rfl, h.step hd hf, hf⟩
theorem seq_t (h : St w0 w B t S) (s : Int) (n : Nat) (x : Ses) (hs : s = (n : Int)) (h1 : 1 ≤ n) (h2 : n ≤ 64) (k q now : Int) (hx : S n = x) (b1 : 0 ≤ x.inn) (b2 : x.inn ≤ 1000000) (hb : (x.on == (k == 1)) = false) (hq : q ≠ x.inn + 1) :
    Calls Tryd.prog 17 #[.pointer (some ⟨B, 0, none⟩), .int .i64 s, msgV k q, .int .i64 now] w fun e w' => ∃ F, e = .returned (.iface 100 (.pointer (some ⟨F, 0, none⟩))) ∧ F ≠ B ∧ FaultAt w' F ⟨#[115, 101, 115, 115]⟩ s 13 ∧ St w0 w' B t S := by
  subst hx
  refine (in_seq B t S s n hs h1 h2 k q now w h.d b1 b2 hb hq).mono ?_
  rintro e w' ⟨⟨F, rfl, hF, hc⟩, hf⟩
  exact ⟨F, rfl, by have := h.d.lt; omega, hc, h.fr hf⟩
theorem out_t (h : St w0 w B t S) (s : Int) (n : Nat) (x : Ses) (r : Int) (hs : s = (n : Int)) (h1 : 1 ≤ n) (h2 : n ≤ 64) (hx : S n = x) (b1 : 0 ≤ x.out) (b2 : x.out ≤ 1000000) (hr : r = x.out + 1) (hS : put S n ⟨x.on, x.inn, x.out + 1, x.last⟩ = S') :
    Calls Tryd.prog 21 #[.pointer (some ⟨B, 0, none⟩), .int .i64 s] w fun e w' => e = .returned (.int .i64 r) ∧ St w0 w' B t S' ∧ Fr (one B) w w' := by
  subst hx hr
  refine (out_c B t S s n hs h1 h2 w h.d b1 b2).mono ?_
  rintro e w' ⟨rfl, hd, hf⟩
  have hd2 : Desk w' B t S' := by rw [← hS]; exact hd
  exact ⟨rfl, h.step hd2 hf, hf⟩
theorem on_t (h : St w0 w B t S) (s : Int) (n : Nat) (b : Bool) (hs : s = (n : Int)) (h1 : 1 ≤ n) (h2 : n ≤ 64) (hx : (S n).on = b) :
    Calls Tryd.prog 19 #[.pointer (some ⟨B, 0, none⟩), .int .i64 s] w fun e w' => e = .returned (.bool b) ∧ w = w' := by
  subst hx
  exact on_c B t S s n hs h1 h2 w h.d
theorem next_t (h : St w0 w B t S) (s : Int) (n : Nat) (r : Int) (hs : s = (n : Int)) (h1 : 1 ≤ n) (h2 : n ≤ 64) (b1 : 0 ≤ (S n).inn) (b2 : (S n).inn ≤ 1000000) (hr : r = (S n).inn + 1) :
    Calls Tryd.prog 18 #[.pointer (some ⟨B, 0, none⟩), .int .i64 s] w fun e w' => e = .returned (.int .i64 r) ∧ w = w' := by
  subst hr
  exact next_c B t S s n hs h1 h2 w h.d b1 b2
theorem late_t (h : St w0 w B t S) (t1 : 1 ≤ t) (t2 : t ≤ 1000000) (now : Int) (n1 : 0 ≤ now) (n2 : now ≤ 1000000) (hl : ∀ n, 0 ≤ (S n).last ∧ (S n).last ≤ 1000000) (out : List Int) (m : Nat) (hm : out.length = m) (hU : lateF t now (ids S 65) S = (S', out)) :
    Calls Tryd.prog 20 #[.pointer (some ⟨B, 0, none⟩), .int .i64 now] w fun e w' => (∃ A, e = .returned (.slice A m m) ∧ (Kd.int .i64).C w' A out.length out) ∧ St w0 w' B t S' ∧ Fr (one B) w w' := by
  subst hm
  refine (late_c B t now S w h.d t1 t2 n1 n2 hl).mono ?_
  rintro e w' ⟨⟨A, c, rfl, hR⟩, hd, hf⟩
  rw [hU] at hR hd
  rw [hU]
  exact ⟨⟨A, rfl, (Kd.R_reads' hR).2.2⟩, h.step hd hf, hf⟩
theorem live_t (h : St w0 w B t S) (out : List Int) (m : Nat) (hm : out.length = m) (hU : ids S 65 = out) :
    Calls Tryd.prog 56 #[.pointer (some ⟨B, 0, none⟩)] w fun e w' => (∃ A, e = .returned (.slice A m m)) ∧ St w0 w' B t S ∧ Fr no w w' := by
  subst hm hU
  refine (live_c B t S w h.d).mono ?_
  rintro e w' ⟨⟨A, c, rfl, hR⟩, hf⟩
  exact ⟨⟨A, rfl⟩, h.fr hf, hf⟩
end
def P3 (x : Ses) : Nat → Ses := put (fun _ => zSes) 3 x
theorem p3_at (x : Ses) : P3 x 3 = x := put_same _ _ _
theorem p3_put (x y : Ses) : put (P3 x) 3 y = P3 y := put_put _ _ _ _
theorem p3_last (x : Ses) (h1 : 0 ≤ x.last) (h2 : x.last ≤ 1000000) (n : Nat) : 0 ≤ (P3 x n).last ∧ (P3 x n).last ≤ 1000000 := by
  unfold P3 put
  split
  · exact ⟨h1, h2⟩
  · exact ⟨show (0 : Int) ≤ 0 by decide, show (0 : Int) ≤ 1000000 by decide⟩
theorem ids_on (a b c : Int) : ids (P3 ⟨true, a, b, c⟩) 65 = [3] := by kernel_rfl
theorem ids_off (a b c : Int) : ids (P3 ⟨false, a, b, c⟩) 65 = [] := by kernel_rfl
theorem late_k : lateF 10 16 (ids (P3 ⟨true, 2, 2, 6⟩) 65) (P3 ⟨true, 2, 2, 6⟩) = (P3 ⟨false, 2, 2, 6⟩, [3]) := by
  rw [ids_on]
  simp only [lateF, show (3 : Int).toNat = 3 by rfl, p3_at, p3_put]
  rfl

set_option maxRecDepth 100000 in
set_option maxHeartbeats 4000000 in
theorem known_c (w : World) (hg : ErrType w) : Calls Tryd.prog 15 #[] w fun e w' => e = .returned (.bool true) ∧ Fr no w w' := by
  have HG := Lib.hid hg
  clear hg
  go_enter Tryd.func15, Tryd.ntmps15
  go_wp2_with fail
  refine (new_t (w0 := w) 10 (by omega) (by omega) (Fr.refl no w)).mono ?_
  rintro e w1 ⟨B, rfl, h⟩
  dsimp only
  go_wp2_with fail
  refine (in_t (S' := P3 ⟨true, 1, 0, 5⟩) h 3 3 zSes rfl (by omega) (by omega) 1 1 5 rfl (by decide) (by decide) rfl rfl rfl rfl).mono ?_
  rintro e w2 ⟨rfl, h2, _⟩
  clear h
  dsimp only
  go_wp2_with fail
  refine (seq_t h2 3 3 ⟨true, 1, 0, 5⟩ rfl (by omega) (by omega) 2 1 6 (p3_at _) (by decide) (by decide) rfl (by decide)).mono ?_
  rintro e w3 ⟨F, rfl, hFB, hF, h3⟩
  clear h2
  dsimp only
  go_wp2_with fail
  refine (in_t (S' := P3 ⟨true, 2, 0, 6⟩) h3 3 3 ⟨true, 1, 0, 5⟩ rfl (by omega) (by omega) 2 2 6 (p3_at _) (by decide) (by decide) rfl rfl rfl (p3_put _ _)).mono ?_
  rintro e w4 ⟨rfl, h4, hf⟩
  replace hF : FaultAt w4 F ⟨#[115, 101, 115, 115]⟩ 3 13 := hf.heap hF hFB
  clear h3 hf
  dsimp only
  go_wp2_with fail
  refine (out_t (S' := P3 ⟨true, 2, 1, 6⟩) h4 3 3 ⟨true, 2, 0, 6⟩ 1 rfl (by omega) (by omega) (p3_at _) (by decide) (by decide) rfl (p3_put _ _)).mono ?_
  rintro e w5 ⟨rfl, h5, hf⟩
  replace hF : FaultAt w5 F ⟨#[115, 101, 115, 115]⟩ 3 13 := hf.heap hF hFB
  clear h4 hf
  dsimp only
  go_wp2_with fail
  refine (out_t (S' := P3 ⟨true, 2, 2, 6⟩) h5 3 3 ⟨true, 2, 1, 6⟩ 2 rfl (by omega) (by omega) (p3_at _) (by decide) (by decide) rfl (p3_put _ _)).mono ?_
  rintro e w6 ⟨rfl, h6, hf⟩
  replace hF : FaultAt w6 F ⟨#[115, 101, 115, 115]⟩ 3 13 := hf.heap hF hFB
  clear h5 hf
  dsimp only
  go_wp2_with fail
  refine (late_t (S' := P3 ⟨false, 2, 2, 6⟩) h6 (by decide) (by decide) 16 (by decide) (by decide) (p3_last _ (by decide) (by decide)) [3] 1 rfl late_k).mono ?_
  rintro e w7 ⟨⟨A, rfl, hC⟩, h7, hf⟩
  replace hF : FaultAt w7 F ⟨#[115, 101, 115, 115]⟩ 3 13 := hf.heap hF hFB
  clear h6 hf
  dsimp only
  go_wp2_with fail
  refine (new_no _).mono ?_
  rintro e w8 ⟨rfl, rfl⟩
  dsimp only
  go_wp2_with fail
  refine (at_c ⟨#[115, 101, 115, 115]⟩ 3 13 _).mono ?_
  rintro e w8 ⟨⟨G, rfl, hGl, hG⟩, hf⟩
  replace hF : FaultAt w8 F ⟨#[115, 101, 115, 115]⟩ 3 13 := hf.heap hF (fun h => h)
  replace h7 := h7.fr hf
  replace hC := C_fr hC hf
  clear hf
  dsimp only
  go_wp2_with fail
  refine (tells_c F G ⟨#[115, 101, 115, 115]⟩ 3 13 3 rfl (by omega) (by decide) (by decide) (by decide) _ (HG.out.fr h7.f (fun h => h)) hF hG).mono ?_
  rintro e w9 ⟨rfl, hf⟩
  replace h7 := h7.fr hf
  replace hC := C_fr hC hf
  clear hf hF hG hGl
  obtain ⟨ad, rfl, hc⟩ := i64_el hC 0 (by decide)
  have hc2 : w9.cell? ad = some (.int .i64 3) := by simpa [Addr.add] using hc
  dsimp only
  go_wp2_with fail
  refine (on_t h7 3 3 false rfl (by omega) (by omega) rfl).mono ?_
  rintro e w10 ⟨rfl, rfl⟩
  dsimp only
  go_wp2_with fail
  refine (next_t h7 3 3 3 rfl (by omega) (by omega) (by rw [p3_at]; decide) (by rw [p3_at]; decide) rfl).mono ?_
  rintro e w10 ⟨rfl, rfl⟩
  dsimp only
  go_wp2_with fail
  refine (live_t h7 [] 0 rfl (ids_off _ _ _)).mono ?_
  rintro e w10 ⟨⟨A, rfl⟩, h8, _⟩
  clear h7 hC hc hc2
  dsimp only
  go_wp2
  go_ret
  exact ⟨rfl, h8.f⟩
end Go.Proofs.YtdkkdoadafhfmaaDoor.Sess
