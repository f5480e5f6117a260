import Derived.Test.YtdgeakojdafipaaDoorLegN
import Derived.Test.YtdgeakojdafipaaDoorPLegB
/-! Contracts of legs.Same (at the same legs) and legs.Text. -/
set_option linter.unusedVariables false
set_option linter.unusedSimpArgs false
namespace Go.Proofs.YtdgeakojdafipaaDoor.Legs
open Go.RowKit Go.Proofs.YtdgeakojdafipaaDoorW.PrintWords Go.Proofs.YtdgeakojdafipaaDoor.B Go.Proofs.YtdgeakojdafipaaDoor.Num

abbrev PLeg := PLegsNet.S43
def toP (x : Leg) : PLeg := ⟨x.Series, x.Sign, x.Ratio⟩
theorem C_map {α β : Type} {d : Kd α} {d' : Kd β} (f : α → β) (hs : d.sz = d'.sz) (hk : ∀ w x c, d.K w x c → d'.K w (f x) c) {w : World} {A : Option Addr} {n : Nat} {xs : List α} (h : d.C w A n xs) : d'.C w A n (xs.map f) := by
  obtain ⟨h1, h2, h3⟩ := h
  refine ⟨by simpa using h1, h2, fun hn => ?_⟩
  obtain ⟨ad, e, hc⟩ := h3 hn
  refine ⟨ad, e, fun j p hj => ?_⟩
  obtain ⟨x, hx, rfl⟩ : ∃ x, xs[j]? = some x ∧ f x = p := by simpa using hj
  obtain ⟨c, c1, c2, c3⟩ := hc j x hx
  exact ⟨c, by rw [c1, hs], hk _ _ _ c2, by rw [← hs]; exact c3⟩
theorem toP_C {w : World} {A : Option Addr} {n : Nat} {t : List Leg} (h : kLeg.C w A n t) : PLegsNet.k43.C w A n (t.map toP) := C_map toP rfl (fun _ _ _ h => h) h
theorem same_l (l : List PLeg) (hl : l.length ≤ 1000000) : ∀ (d i k : Nat), i + d = l.length → d < k → PLegsNet.legs_Leg_33.l0 k l l (l.length : Int) (i : Int) = some true := by
  intro d
  induction d with
  | zero =>
    intro i k hi hk
    obtain ⟨k, rfl⟩ : ∃ m, k = m + 1 := ⟨k - 1, by omega⟩
    simp only [PLegsNet.legs_Leg_33.l0]
    rw [if_neg (by omega)]
  | succ d ih =>
    intro i k hi hk
    obtain ⟨k, rfl⟩ : ∃ m, k = m + 1 := ⟨k - 1, by omega⟩
    simp only [PLegsNet.legs_Leg_33.l0]
    have hw : wrap64 ((i : Int) + 1) = ((i + 1 : Nat) : Int) := by unfold wrap64; omega
    rw [if_pos (by omega), if_pos (by omega), if_pos (by omega), if_pos (by omega), if_neg (by simp), hw]
    exact ih (i + 1) k (by omega) (by omega)
theorem same_c (A B : Option Addr) (ca cb : Nat) (l m : List Leg) (he : l = m) (hl : l.length ≤ 1000000) (w : World) (hA : kLeg.C w A l.length l) (hB : kLeg.C w B m.length m) (ha : l.length ≤ ca) (hb : m.length ≤ cb) :
    Calls Tryd.prog 15 #[.slice A l.length ca, .slice B m.length cb] w fun e w' => e = .returned (.bool true) ∧ Fr no w w' := by
  subst he
  have hf : PLegsNet.legs_Same.f (l.length + 1) (l.map toP) (l.map toP) = some true := by
    unfold PLegsNet.legs_Same.f PLegsNet.legs_Leg_33.f
    rw [if_pos rfl]
    have h := same_l (l.map toP) (by rw [List.length_map]; exact hl) l.length 0 (l.length + 1) (by rw [List.length_map]; omega) (by omega)
    have h0 : ((0 : Nat) : Int) = 0 := rfl
    rw [h0] at h
    rw [h]; rfl
  have h := PLegsNet.legs_Same.calls (l.length + 1) A ca (l.map toP) B cb (l.map toP) true w (by rw [List.length_map]; exact toP_C hA) (by rw [List.length_map]; exact ha) (by rw [List.length_map]; exact toP_C hB) (by rw [List.length_map]; exact hb) hf
  rw [List.length_map] at h
  exact h.mono fun e w' ⟨h1, h2⟩ => ⟨h1, Fr.of_below h2.below⟩
end Go.Proofs.YtdgeakojdafipaaDoor.Legs
