import Derived.Test.YtdkkdoadafhfmaaCodecK
import Derived.Lib.SlBytesConst
/-! The laws' own words about package codec. -/
set_option linter.unusedVariables false
set_option linter.unusedSimpArgs false
namespace Go.Proofs.Ytdkkdoadafhfmaa.Codec
open Go.RowKit Go.Proofs.YtdkkdoadafhfmaaW.PrintWords Go.Proofs.Ytdkkdoadafhfmaa.B

theorem dInt_s {w0 w : World} {B : Nat} {bs : List Int} {a0 : Int} (h : Decs w (since w0) B bs a0 none) (hf : Fr no w0 w) (h1 : 0 ≤ a0) (h2 : a0 ≤ bs.length) (hl : bs.length ≤ 1000000000) (hbs : ∀ x ∈ bs, 0 ≤ x ∧ x < 256) (r : Int × Int × Option (Int × Int)) (hr : dInt bs a0 = r) :
    Calls Try.prog 19 #[.pointer (some ⟨B, 0, none⟩)] w fun e w' => e = .returned (.int .i64 r.1) ∧ Decs w' (since w0) B bs r.2.1 r.2.2 ∧ Fr (one B) w w' ∧ Fr no w0 w' := by
  subst hr
  have hB : w0.heap.size ≤ B := h.choose_spec.choose_spec.2.1
  refine (dInt_yes B bs a0 w _ h h1 h2 hl hbs).mono ?_
  rintro e w' ⟨rfl, h3, hF⟩
  exact ⟨rfl, h3.mono (fun k hk => ext_since' hf.size k hk), hF, hf.new hF (fun k hk => by have : k = B := hk; subst this; exact hB)⟩
def RawS (w0 w : World) (B : Nat) (bs : List Int) (r : List Int × Int × Option (Int × Int)) (e : Ending) (w' : World) : Prop :=
  ∃ A, e = .returned (.slice A r.1.length r.1.length) ∧ (Kd.int .u8).C w' A r.1.length r.1 ∧ Decs w' (since w0) B bs r.2.1 r.2.2 ∧ Fr (one B) w w' ∧ Fr no w0 w'
theorem dRaw_s {w0 w : World} {B : Nat} {bs : List Int} {a0 : Int} (h : Decs w (since w0) B bs a0 none) (hf : Fr no w0 w) (h1 : 0 ≤ a0) (h2 : a0 ≤ bs.length) (hl : bs.length ≤ 1000000000) (hbs : ∀ x ∈ bs, 0 ≤ x ∧ x < 256) (r : List Int × Int × Option (Int × Int)) (hr : dRaw bs a0 = r) :
    Calls Try.prog 32 #[.pointer (some ⟨B, 0, none⟩)] w (RawS w0 w B bs r) := by
  subst hr
  have hB : w0.heap.size ≤ B := h.choose_spec.choose_spec.2.1
  refine (dRaw_yes B bs a0 w _ h h1 h2 hl hbs).mono ?_
  rintro e w' ⟨A, c, rfl, hR, h3, hF⟩
  exact ⟨A, rfl, (Kd.R_reads' hR).2.2, h3.mono (fun k hk => ext_since' hf.size k hk), hF, hf.new hF (fun k hk => by have : k = B := hk; subst this; exact hB)⟩

theorem left_n {w : World} {ok : Nat → Prop} {B : Nat} {bs : List Int} {a0 : Int} (h : Decs w ok B bs a0 none) (h1 : 0 ≤ a0) (h2 : a0 ≤ bs.length) (r : Int) (hr : (bs.length : Int) - a0 = r) :
    Calls Try.prog 24 #[.pointer (some ⟨B, 0, none⟩)] w fun e w' => e = .returned (.int .i64 r) ∧ Fr no w w' := by
  subst hr
  exact left_c B bs a0 none w ok h h1 h2
theorem left_e {w : World} {ok : Nat → Prop} {B : Nat} {bs : List Int} {a0 : Int} {x : Int × Int} (h : Decs w ok B bs a0 (some x)) (h1 : 0 ≤ a0) (h2 : a0 ≤ bs.length) :
    Calls Try.prog 24 #[.pointer (some ⟨B, 0, none⟩)] w fun e w' => e = .returned (.int .i64 0) ∧ Fr no w w' := left_c B bs a0 (some x) w ok h h1 h2
theorem err_n {w : World} {ok : Nat → Prop} {B : Nat} {bs : List Int} {a0 : Int} (h : Decs w ok B bs a0 none) :
    Calls Try.prog 21 #[.pointer (some ⟨B, 0, none⟩)] w fun e w' => e = .returned .nilIface ∧ w = w' := by
  refine (err_c B bs a0 none w ok h).mono ?_
  rintro e w' ⟨ev, rfl, h3, rfl⟩
  exact ⟨congrArg _ h3, rfl⟩

def b6 : List Int := [172, 2, 1, 4, 97, 98]
theorem b6_is : (([] ++ [150, -1].flatMap encI) ++ encR [97, 98]) = b6 := by
  have e1 : encI 150 = [172, 2] := by rw [encI, show zig 150 = 300 by rfl, enc_ge _ (by omega), enc_lt _ (by omega)]; rfl
  have e2 : encI (-1) = [1] := by rw [encI, show zig (-1) = 1 by rfl, enc_lt _ (by omega)]
  have e3 : encI 2 = [4] := by rw [encI, show zig 2 = 4 by rfl, enc_lt _ (by omega)]
  simp [e1, e2, e3, encR, b6]
theorem b6_d1 : dInt b6 0 = (150, 2, none) := by decide
theorem b6_d2 : dInt b6 2 = (-1, 3, none) := by decide
theorem b6_d3 : dRaw b6 3 = ([97, 98], 6, none) := by decide
theorem b6_by : ∀ x ∈ b6, 0 ≤ x ∧ x < 256 := by decide

set_option maxHeartbeats 1000000 in
theorem known_c (w : World) : Calls Try.prog 15 #[] w fun e w' => e = .returned (.bool true) ∧ Fr no w w' := by
  go_enter Try.func15, Try.ntmps15
  obtain ⟨hE, hf⟩ := enc_new (Fr.refl no w)
  go_wp2_with fail
  have hl2 : ∀ x ∈ ([150, -1] : List Int), -9223372036854775808 ≤ x ∧ x ≤ 9223372036854775807 := by simp
  have hl3 : ([] ++ [150, -1].flatMap encI).length + 20 + ([97, 98] : List Int).length ≤ 1000000000 := by
    have h1 := flat_len [150, -1] hl2
    simp only [List.length_append, List.length_cons, List.length_nil] at h1 ⊢
    omega
  have HL3 := Lib.hid hl3
  clear hl3
  refine (eInt_s hE hf [150, -1] hl2 (by simp) (by rfl) (by simp [go_sem]) (by rfl)).mono ?_
  clear hl2
  rintro e w1 ⟨rfl, hE, hf⟩
  have cv := Lib.run_convert_bytes_const w1 43 5 #[.int .u8 97, .int .u8 98] 2 2 Try.underlying43 Try.underlying5
  dsimp only
  go_wp2_with fail
  clear cv
  refine (eRaw_l hE hf [97, 98] HL3.out (by rfl) (by simp [go_sem]) (by rfl)).mono ?_
  rintro e w2 ⟨rfl, hE, hf⟩
  dsimp only
  rw [b6_is] at hE
  go_wp2_with fail
  refine (bytes_s hE (by decide)).mono ?_
  rintro e w3 ⟨A, rfl, hC, hF⟩
  replace hE := (hE.keep hF).lt
  replace hf := hf.trans' hF
  clear hF
  dsimp only
  go_wp2_with fail
  refine (of_c A _ b6 _ hC (by decide) (by decide)).mono ?_
  rintro e w4 ⟨D, rfl, hD, hF⟩
  have hn : w3.heap.size ≤ D := hD.choose_spec.choose_spec.2.1
  replace hD := hD.mono (ok' := since w) (fun k hk => Nat.le_trans hf.size hk)
  replace hE := hE.fr hF (fun _ _ h => h)
  replace hf := hf.trans' hF
  clear hF hC
  dsimp only
  go_wp2_with fail
  refine (dInt_s hD hf (by decide) (by decide) (by decide) b6_by _ b6_d1).mono ?_
  rintro e w5 ⟨rfl, hD, hF, hf⟩
  replace hE := hE.fr hF (fun k hk (he : k = D) => by omega)
  dsimp only
  go_wp2_with fail
  refine (dInt_s hD hf (by decide) (by decide) (by decide) b6_by _ b6_d2).mono ?_
  rintro e w6 ⟨rfl, hD, hF, hf⟩
  replace hE := hE.fr hF (fun k hk (he : k = D) => by omega)
  dsimp only
  go_wp2_with fail
  refine (dRaw_s hD hf (by decide) (by decide) (by decide) b6_by _ b6_d3).mono ?_
  rintro e w7 ⟨A2, rfl, hC2, hD, hF, hf⟩
  replace hE := hE.fr hF (fun k hk (he : k = D) => by omega)
  dsimp only
  go_wp2_with fail
  refine (bytes_s hE (by decide)).mono ?_
  rintro e w8 ⟨A3, rfl, hC3, hF⟩
  replace hD := hD.fr hF (fun _ _ h => h)
  replace hf := hf.trans' hF
  have c3 := Kd.C_string (src := 43) (dst := 9) (c := b6.length) Try.underlying43 Try.underlying5 Try.underlying9 hC3
  have c2 := Kd.C_string (src := 43) (dst := 9) (c := 2) Try.underlying43 Try.underlying5 Try.underlying9 (C_fr hC2 hF)
  rw [show strOfNums b6 = ⟨#[172, 2, 1, 4, 97, 98]⟩ by rfl] at c3
  rw [show strOfNums [97, 98] = ⟨#[97, 98]⟩ by rfl] at c2
  have c2' : (convert 43 9 (.slice A2 2 2)).run Try.prog w8 = .ok (.string ⟨#[97, 98]⟩) w8 := c2
  dsimp only
  go_wp2_with fail
  refine (left_n hD (by decide) (by decide) 0 (by decide)).mono ?_
  rintro e w9 ⟨rfl, hF⟩
  replace hD := hD.fr hF (fun _ _ h => h)
  replace hf := hf.trans' hF
  dsimp only
  go_wp2_with fail
  refine (err_n hD).mono ?_
  rintro e w10 ⟨rfl, rfl⟩
  dsimp only
  go_wp2
  go_ret
  exact ⟨rfl, hf⟩
end Go.Proofs.Ytdkkdoadafhfmaa.Codec
