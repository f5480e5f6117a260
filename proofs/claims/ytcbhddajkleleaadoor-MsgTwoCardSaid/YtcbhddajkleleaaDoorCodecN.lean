import Derived.Test.YtcbhddajkleleaaDoorCodecK
import Derived.Lib.SlBytesConst
/-! The laws' own words about package codec. -/
set_option linter.unusedVariables false
set_option linter.unusedSimpArgs false
namespace Go.Proofs.YtcbhddajkleleaaDoor.Codec
open Go.RowKit Go.Proofs.YtcbhddajkleleaaDoorW.PrintWords Go.Proofs.YtcbhddajkleleaaDoor.B

theorem dInt_s {w0 w : World} {B : Nat} {bs : List Int} {a0 : Int} (h : Decs w (since w0) B bs a0 none) (hf : Fr no w0 w) (h1 : 0 ≤ a0) (h2 : a0 ≤ bs.length) (hl : bs.length ≤ 1000000000) (hbs : ∀ x ∈ bs, 0 ≤ x ∧ x < 256) (r : Int × Int × Option (Int × Int)) (hr : dInt bs a0 = r) :
    Calls Tryd.prog 28 #[.pointer (some ⟨B, 0, none⟩)] w fun e w' => e = .returned (.int .i64 r.1) ∧ Decs w' (since w0) B bs r.2.1 r.2.2 ∧ Fr (one B) w w' ∧ Fr no w0 w' := by
  subst hr
  have hB : w0.heap.size ≤ B := h.choose_spec.choose_spec.2.1
  refine (dInt_yes B bs a0 w _ h h1 h2 hl hbs).mono ?_
  rintro e w' ⟨rfl, h3, hF⟩
  exact ⟨rfl, h3.mono (fun k hk => ext_since' hf.size k hk), hF, hf.new hF (fun k hk => by have : k = B := hk; subst this; exact hB)⟩
def RawS (w0 w : World) (B : Nat) (bs : List Int) (r : List Int × Int × Option (Int × Int)) (e : Ending) (w' : World) : Prop :=
  ∃ A, e = .returned (.slice A r.1.length r.1.length) ∧ (Kd.int .u8).C w' A r.1.length r.1 ∧ Decs w' (since w0) B bs r.2.1 r.2.2 ∧ Fr (one B) w w' ∧ Fr no w0 w'
theorem left_n {w : World} {ok : Nat → Prop} {B : Nat} {bs : List Int} {a0 : Int} (h : Decs w ok B bs a0 none) (h1 : 0 ≤ a0) (h2 : a0 ≤ bs.length) (r : Int) (hr : (bs.length : Int) - a0 = r) :
    Calls Tryd.prog 32 #[.pointer (some ⟨B, 0, none⟩)] w fun e w' => e = .returned (.int .i64 r) ∧ Fr no w w' := by
  subst hr
  exact left_c B bs a0 none w ok h h1 h2
theorem left_e {w : World} {ok : Nat → Prop} {B : Nat} {bs : List Int} {a0 : Int} {x : Int × Int} (h : Decs w ok B bs a0 (some x)) (h1 : 0 ≤ a0) (h2 : a0 ≤ bs.length) :
    Calls Tryd.prog 32 #[.pointer (some ⟨B, 0, none⟩)] w fun e w' => e = .returned (.int .i64 0) ∧ Fr no w w' := left_c B bs a0 (some x) w ok h h1 h2
theorem err_n {w : World} {ok : Nat → Prop} {B : Nat} {bs : List Int} {a0 : Int} (h : Decs w ok B bs a0 none) :
    Calls Tryd.prog 29 #[.pointer (some ⟨B, 0, none⟩)] w fun e w' => e = .returned .nilIface ∧ w = w' := by
  refine (err_c B bs a0 none w ok h).mono ?_
  rintro e w' ⟨ev, rfl, h3, rfl⟩
  exact ⟨congrArg _ h3, rfl⟩

def b6 : List Int := [172, 2, 1, 4, 97, 98]
theorem b6_is : (([] ++ [150, -1].flatMap encI) ++ encR [97, 98]) = b6 := by
  have e1 : encI 150 = [172, 2] := by rw [encI, show zig 150 = 300 by rfl, enc_ge _ (by omega), enc_lt _ (by omega)]; rfl
  have e2 : encI (-1) = [1] := by rw [encI, show zig (-1) = 1 by rfl, enc_lt _ (by omega)]
  have e3 : encI 2 = [4] := by rw [encI, show zig 2 = 4 by rfl, enc_lt _ (by omega)]
  simp [e1, e2, e3, encR, b6]
theorem b6_d1 : dInt b6 0 = (150, 2, none) := by decide
theorem b6_d2 : dInt b6 2 = (-1, 3, none) := by decide
theorem b6_d3 : dRaw b6 3 = ([97, 98], 6, none) := by decide
theorem b6_by : ∀ x ∈ b6, 0 ≤ x ∧ x < 256 := by decide

end Go.Proofs.YtcbhddajkleleaaDoor.Codec
