import Derived.Test.YtdgeakojdafipaaDoorLegW
import Derived.Test.YtdgeakojdafipaaDoorPLegD
import Derived.OpenShut
/-! The reference's Check, and Of. -/
set_option linter.unusedVariables false
set_option linter.unusedSimpArgs false
namespace Go.Proofs.YtdgeakojdafipaaDoor.Legs
open Go.RowKit Go.Proofs.YtdgeakojdafipaaDoorW.PrintWords Go.Proofs.YtdgeakojdafipaaDoor.B Go.Proofs.YtdgeakojdafipaaDoor.Num

abbrev PRef := PLegsNet.S56
abbrev PPart := PLegsNet.S79
def toR (x : Leg) : PRef := ⟨x.Series, x.Sign, x.Ratio⟩
theorem rdR (l : List Leg) (i : Nat) : PLegsNet.rd_T56 (l.map toR) (i : Int) = toR (lg l i) := by
  unfold PLegsNet.rd_T56 lg
  rw [Int.toNat_natCast, List.getD_eq_getElem?_getD, List.getElem?_map]
  cases l[i]? <;> rfl
theorem rdP (l : List Leg) (i : Nat) : PLegsNet.rd_T43 (l.map toP) (i : Int) = toP (lg l i) := by
  unfold PLegsNet.rd_T43 lg
  rw [Int.toNat_natCast, List.getD_eq_getElem?_getD, List.getElem?_map]
  cases l[i]? <;> rfl
def ansC (a : Option (Nat × Int)) : List PPart × Int := match a with
  | none => ([], 0)
  | some (n, c) => ([⟨legW, (n : Int)⟩], c)
theorem w64s {i : Nat} (h : i ≤ 1000000) : wrap64 ((i : Int) + 1) = ((i + 1 : Nat) : Int) := by unfold wrap64; omega
theorem at_f (n : Nat) (c : Int) : ((PLegsNet.straddleref4_At.f (⟨#[108, 101, 103]⟩ : ByteArray) (n : Int) c).bind fun bt => some (bt.1, bt.2)) = some (ansC (some (n, c))) := rfl
theorem chk_l1 (l : List Leg) (hl : l.length ≤ 1000000) (i : Nat) (hi : i < l.length) : ∀ (e m k : Nat), m + e = i → e < k →
    PLegsNet.straddleref17_Check.l1 k (l.map toR) (i : Int) (m : Int) = if (((l.take i).drop m).any fun y => y.Series == (lg l i).Series) = true then some (ansC (some (i, 6))) else PLegsNet.straddleref17_Check.l0 (k - e - 1) (l.map toR) ((i + 1 : Nat) : Int) := by
  intro e
  induction e with
  | zero =>
    intro m k hm hk
    obtain ⟨k, rfl⟩ : ∃ n, k = n + 1 := ⟨k - 1, by omega⟩
    obtain rfl : m = i := by omega
    simp only [PLegsNet.straddleref17_Check.l1]
    rw [if_neg (by omega), List.drop_of_length_le (by rw [List.length_take]; omega), w64s (by omega)]
    simp
  | succ e ih =>
    intro m k hm hk
    obtain ⟨k, rfl⟩ : ∃ n, k = n + 1 := ⟨k - 1, by omega⟩
    have hml : m < (l.take i).length := by rw [List.length_take]; omega
    have hd : (l.take i).drop m = lg l m :: (l.take i).drop (m + 1) := by
      rw [List.drop_eq_getElem_cons hml, lg_lt (by omega)]
      simp
    simp only [PLegsNet.straddleref17_Check.l1]
    rw [if_pos (by omega), if_pos (by omega), if_pos (by rw [List.length_map]; omega), if_pos (by omega), if_pos (by rw [List.length_map]; omega), rdR, rdR, hd, List.any_cons]
    by_cases he : (lg l m).Series = (lg l i).Series
    · rw [if_pos (show (toR (lg l m)).f0 = (toR (lg l i)).f0 from he), at_f, if_pos (by simp [he])]
    · rw [if_neg (show ¬ (toR (lg l m)).f0 = (toR (lg l i)).f0 from he), w64s (by omega), ih (m + 1) k (by omega) (by omega)]
      have : ((lg l m).Series == (lg l i).Series) = false := by simp [he]
      rw [this, Bool.false_or, show k - e - 1 = k + 1 - (e + 1) - 1 by omega]
theorem chk_l0 (l : List Leg) (hl : l.length ≤ 1000) : ∀ (d i k : Nat), i + d = l.length → d * (l.length + 5) < k → PLegsNet.straddleref17_Check.l0 k (l.map toR) (i : Int) = some (ansC (wrongFrom l d i)) := by
  intro d
  induction d with
  | zero =>
    intro i k hi hk
    obtain ⟨k, rfl⟩ : ∃ n, k = n + 1 := ⟨k - 1, by omega⟩
    simp only [PLegsNet.straddleref17_Check.l0]
    rw [if_neg (by rw [List.length_map]; omega)]
    rfl
  | succ d ih =>
    intro i k hi hk
    have hk2 : d * (l.length + 5) + l.length + 5 < k := by rw [Nat.add_mul] at hk; omega
    obtain ⟨k, rfl⟩ : ∃ n, k = n + 2 := ⟨k - 2, by omega⟩
    have hil : i < l.length := by omega
    have jt : okB (lg l i) = false → PLegsNet.straddleref17_Check.j1 (k + 1) (l.map toR) (i : Int) true = some (ansC (wrongFrom l (d + 1) i)) := fun h => by
      rw [PLegsNet.straddleref17_Check.j1, if_pos rfl, at_f, wrongFrom, if_pos h]
    have jf : okB (lg l i) = true → PLegsNet.straddleref17_Check.j1 (k + 1) (l.map toR) (i : Int) false = some (ansC (wrongFrom l (d + 1) i)) := fun h => by
      have h0 : ((0 : Nat) : Int) = 0 := rfl
      rw [PLegsNet.straddleref17_Check.j1, if_neg (show ¬ (false = true) by decide), ← h0, chk_l1 l (by omega) i hil i 0 k (by omega) (by omega), List.drop_zero, wrongFrom, if_neg (show ¬ okB (lg l i) = false by simp [h])]
      unfold twice
      split
      · rfl
      · exact ih (i + 1) (k - i - 1) (by omega) (by omega)
    simp only [PLegsNet.straddleref17_Check.l0]
    rw [if_pos (by rw [List.length_map]; omega), if_pos (by omega), rdR]
    by_cases c1 : (lg l i).Series < 1
    · rw [if_pos (show (toR (lg l i)).f0 < 1 from c1)]
      exact jt (by rw [← Bool.not_eq_true, okB_iff]; omega)
    · rw [if_neg (show ¬ (toR (lg l i)).f0 < 1 from c1)]
      by_cases c2 : (lg l i).Sign = 1
      · rw [if_pos (show (toR (lg l i)).f1 = 1 from c2)]
        by_cases c3 : (lg l i).Ratio < 1
        · rw [if_pos (show (toR (lg l i)).f2 < 1 from c3)]
          exact jt (by rw [← Bool.not_eq_true, okB_iff]; omega)
        · rw [if_neg (show ¬ (toR (lg l i)).f2 < 1 from c3)]
          by_cases c4 : (lg l i).Ratio > 4
          · rw [show decide ((toR (lg l i)).f2 > 4) = true from decide_eq_true c4]
            exact jt (by rw [← Bool.not_eq_true, okB_iff]; omega)
          · rw [show decide ((toR (lg l i)).f2 > 4) = false from decide_eq_false c4]
            exact jf (okB_iff.2 ⟨by omega, .inl c2, by omega, by omega⟩)
      · rw [if_neg (show ¬ (toR (lg l i)).f1 = 1 from c2)]
        by_cases c5 : (lg l i).Sign = -1
        · rw [if_pos (show (toR (lg l i)).f1 = -1 from c5)]
          by_cases c3 : (lg l i).Ratio < 1
          · rw [if_pos (show (toR (lg l i)).f2 < 1 from c3)]
            exact jt (by rw [← Bool.not_eq_true, okB_iff]; omega)
          · rw [if_neg (show ¬ (toR (lg l i)).f2 < 1 from c3)]
            by_cases c4 : (lg l i).Ratio > 4
            · rw [show decide ((toR (lg l i)).f2 > 4) = true from decide_eq_true c4]
              exact jt (by rw [← Bool.not_eq_true, okB_iff]; omega)
            · rw [show decide ((toR (lg l i)).f2 > 4) = false from decide_eq_false c4]
              exact jf (okB_iff.2 ⟨by omega, .inr c5, by omega, by omega⟩)
        · rw [if_neg (show ¬ (toR (lg l i)).f1 = -1 from c5)]
          exact jt (by rw [← Bool.not_eq_true, okB_iff]; omega)
/-- What the reference tells. -/
def IsWr (w : World) (v : Value) (a : Option (Nat × Int)) : Prop := (a = none → ∃ A n c, v = .agg #[.slice A n c, .int .i64 0]) ∧ ∀ n c, a = some (n, c) → ∃ G cm, v = .agg #[.slice (some ⟨G, 0, none⟩) 1 cm, .int .i64 c] ∧ w.cell? ⟨G, 0, none⟩ = some (.string legW) ∧ w.cell? ⟨G, 1, none⟩ = some (.int .i64 n)
theorem rcheck_c (A : Option Addr) (cap : Nat) (l : List Leg) (hl : l.length ≤ 1000) (hcap : l.length ≤ cap) (w : World) (hC : PLegsNet.k56.C w A (l.map toR).length (l.map toR)) :
    Calls Tryd.prog 17 #[.slice A l.length cap] w fun e w' => (∃ v, e = .returned v ∧ IsWr w' v (wrong l)) ∧ Fr no w w' := by
  have key : PLegsNet.straddleref17_Check.f (l.length * (l.length + 5) + 1) (l.map toR) = some (ansC (wrong l)) := by
    unfold PLegsNet.straddleref17_Check.f wrong
    by_cases h0 : l.length < 2
    · rw [if_pos (by rw [List.length_map]; omega), if_pos h0, List.length_map, at_f]
    · rw [if_neg (by rw [List.length_map]; omega), if_neg h0]
      by_cases h4 : 4 < l.length
      · rw [if_pos (by rw [List.length_map]; omega), if_pos h4]
        exact at_f 4 1
      · rw [if_neg (by rw [List.length_map]; omega), if_neg h4]
        exact chk_l0 l hl l.length 0 _ (by omega) (by omega)
  have h := PLegsNet.straddleref17_Check.calls _ A cap (l.map toR) _ _ w hC (by rw [List.length_map]; exact hcap) key
  rw [List.length_map] at h
  refine h.mono fun e w' ⟨v, h3, hR, h4⟩ => ⟨⟨_, h3, ?_⟩, Fr.of_below h4⟩
  cases hc : wrong l with
  | none =>
    rw [hc] at hR
    obtain ⟨A', c', rfl⟩ := Kd.R_slice hR
    exact ⟨fun _ => ⟨_, _, _, rfl⟩, fun n c h => (by cases h)⟩
  | some x =>
    obtain ⟨n, c⟩ := x
    rw [hc] at hR
    obtain ⟨g, cm, rfl, _, _, _⟩ := Kd.R_form hR (Nat.zero_lt_one)
    obtain ⟨ad, e1, c1, c2⟩ := PLegsNet.at_T79 (Kd.R_reads' hR).2.2 0 (by omega) (Int.zero_lt_one)
    obtain rfl := (Option.some.inj e1).symm
    refine ⟨fun h => (by cases h), fun n' c' h => ?_⟩
    injection h with h
    injection h with h5 h6
    subst h5 h6
    exact ⟨g, cm, rfl, c1, c2⟩
theorem of_l (l : List Leg) (hl : l.length ≤ 1000000) : ∀ (d i : Nat) (k : Nat), i + d = l.length → d < k → PLegsNet.straddlelaw17_Of.l0 k (l.map toP) ((l.take i).map toR) i = some (l.map toR) := by
  intro d
  induction d with
  | zero =>
    intro i k hi hk
    obtain ⟨k, rfl⟩ : ∃ m, k = m + 1 := ⟨k - 1, by omega⟩
    simp only [PLegsNet.straddlelaw17_Of.l0]
    rw [if_neg (by simp; omega), List.take_of_length_le (by omega)]
  | succ d ih =>
    intro i k hi hk
    obtain ⟨k, rfl⟩ : ∃ m, k = m + 1 := ⟨k - 1, by omega⟩
    simp only [PLegsNet.straddlelaw17_Of.l0]
    rw [if_pos (by simp; omega), if_pos (by omega), if_pos (by simp; omega), rdP, w64s (by omega)]
    have h1 : (l.take i).map toR ++ [(⟨(toP (lg l i)).f0, (toP (lg l i)).f1, (toP (lg l i)).f2⟩ : PRef)] = (l.take (i + 1)).map toR := by
      rw [List.take_succ_eq_append_getElem (by omega), List.map_append, lg_lt (by omega)]
      simp [toP, toR]
    rw [h1]
    exact ih (i + 1) k (by omega) (by omega)
theorem of_c (A : Option Addr) (cap : Nat) (l : List Leg) (hl : l.length ≤ 1000000) (hcap : l.length ≤ cap) (w : World) (hC : kLeg.C w A l.length l) :
    Calls Tryd.prog 11 #[.slice A l.length cap] w fun e w' => (∃ v, e = .returned v ∧ PLegsNet.k56.R 56 w' w.heap.size (fun _ => True) v (l.map toR)) ∧ Fr no w w' := by
  have h := PLegsNet.straddlelaw17_Of.calls (l.length + 1) A cap (l.map toP) (l.map toR) w (by rw [List.length_map]; exact toP_C hC) (by rw [List.length_map]; exact hcap) (of_l l hl l.length 0 _ (by omega) (by omega))
  rw [List.length_map] at h
  exact h.mono fun e w' ⟨v, h1, h2, h3⟩ => ⟨⟨v, h1, h2⟩, Fr.of_below h3⟩
end Go.Proofs.YtdgeakojdafipaaDoor.Legs
