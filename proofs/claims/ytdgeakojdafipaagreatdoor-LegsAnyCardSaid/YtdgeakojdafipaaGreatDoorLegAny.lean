import Derived.Test.YtdgeakojdafipaaGreatDoorLegW
import Derived.Test.YtdgeakojdafipaaGreatDoorPLegD
import Derived.Test.YtdgeakojdafipaaGreatDoorPLegC
import Derived.OpenShut
import Derived.Test.YtdgeakojdafipaaGreatDoorPLegF
import Derived.Test.YtdgeakojdafipaaGreatDoorPLegG
import Derived.Test.YtdgeakojdafipaaGreatDoorErrTells
import Derived.Test.YtdgeakojdafipaaGreatDoorNumT
import Derived.Test.YtdgeakojdafipaaGreatDoorErrLaid
import Derived.Lib.LaidTab
import Derived.Lib.LaidU8
/-! The reference's Check, and Of. -/
set_option linter.unusedVariables false
set_option linter.unusedSimpArgs false
namespace Go.Proofs.YtdgeakojdafipaaGreatDoor.Legs
open Go.RowKit Go.Proofs.YtdgeakojdafipaaGreatDoorW.PrintWords Go.Proofs.YtdgeakojdafipaaGreatDoor.B Go.Proofs.YtdgeakojdafipaaGreatDoor.Num

abbrev PRef := PLegsAny.S52
abbrev PPart := PLegsAny.S66
def toR (x : Leg) : PRef := ⟨x.Series, x.Sign, x.Ratio⟩
theorem rdR (l : List Leg) (i : Nat) : PLegsAny.rd_T52 (l.map toR) (i : Int) = toR (lg l i) := by
  unfold PLegsAny.rd_T52 lg
  rw [Int.toNat_natCast, List.getD_eq_getElem?_getD, List.getElem?_map]
  cases l[i]? <;> rfl
theorem rdP (l : List Leg) (i : Nat) : PLegsAny.rd_T46 (l.map toP) (i : Int) = toP (lg l i) := by
  unfold PLegsAny.rd_T46 lg
  rw [Int.toNat_natCast, List.getD_eq_getElem?_getD, List.getElem?_map]
  cases l[i]? <;> rfl
def ansC (a : Option (Nat × Int)) : List PPart × Int := match a with
  | none => ([], 0)
  | some (n, c) => ([⟨legW, (n : Int)⟩], c)
theorem w64s {i : Nat} (h : i ≤ 1000000) : wrap64 ((i : Int) + 1) = ((i + 1 : Nat) : Int) := by unfold wrap64; omega
theorem at_f (n : Nat) (c : Int) : ((PLegsAny.straddleref4_At.f (⟨#[108, 101, 103]⟩ : ByteArray) (n : Int) c).bind fun bt => some (bt.1, bt.2)) = some (ansC (some (n, c))) := rfl
theorem chk_l1 (l : List Leg) (hl : l.length ≤ 1000000) (i : Nat) (hi : i < l.length) : ∀ (e m k : Nat), m + e = i → e < k →
    PLegsAny.straddleref17_Check.l1 k (l.map toR) (i : Int) (m : Int) = if (((l.take i).drop m).any fun y => y.Series == (lg l i).Series) = true then some (ansC (some (i, 6))) else PLegsAny.straddleref17_Check.l0 (k - e - 1) (l.map toR) ((i + 1 : Nat) : Int) := by
  intro e
  induction e with
  | zero =>
    intro m k hm hk
    obtain ⟨k, rfl⟩ : ∃ n, k = n + 1 := ⟨k - 1, by omega⟩
    obtain rfl : m = i := by omega
    simp only [PLegsAny.straddleref17_Check.l1]
    rw [if_neg (by omega), List.drop_of_length_le (by rw [List.length_take]; omega), w64s (by omega)]
    simp
  | succ e ih =>
    intro m k hm hk
    obtain ⟨k, rfl⟩ : ∃ n, k = n + 1 := ⟨k - 1, by omega⟩
    have hml : m < (l.take i).length := by rw [List.length_take]; omega
    have hd : (l.take i).drop m = lg l m :: (l.take i).drop (m + 1) := by
      rw [List.drop_eq_getElem_cons hml, lg_lt (by omega)]
      simp
    simp only [PLegsAny.straddleref17_Check.l1]
    rw [if_pos (by omega), if_pos (by omega), if_pos (by rw [List.length_map]; omega), if_pos (by omega), if_pos (by rw [List.length_map]; omega), rdR, rdR, hd, List.any_cons]
    by_cases he : (lg l m).Series = (lg l i).Series
    · rw [if_pos (show (toR (lg l m)).f0 = (toR (lg l i)).f0 from he), at_f, if_pos (by simp [he])]
    · rw [if_neg (show ¬ (toR (lg l m)).f0 = (toR (lg l i)).f0 from he), w64s (by omega), ih (m + 1) k (by omega) (by omega)]
      have : ((lg l m).Series == (lg l i).Series) = false := by simp [he]
      rw [this, Bool.false_or, show k - e - 1 = k + 1 - (e + 1) - 1 by omega]
theorem chk_l0 (l : List Leg) (hl : l.length ≤ 1000) : ∀ (d i k : Nat), i + d = l.length → d * (l.length + 5) < k → PLegsAny.straddleref17_Check.l0 k (l.map toR) (i : Int) = some (ansC (wrongFrom l d i)) := by
  intro d
  induction d with
  | zero =>
    intro i k hi hk
    obtain ⟨k, rfl⟩ : ∃ n, k = n + 1 := ⟨k - 1, by omega⟩
    simp only [PLegsAny.straddleref17_Check.l0]
    rw [if_neg (by rw [List.length_map]; omega)]
    rfl
  | succ d ih =>
    intro i k hi hk
    have hk2 : d * (l.length + 5) + l.length + 5 < k := by rw [Nat.add_mul] at hk; omega
    obtain ⟨k, rfl⟩ : ∃ n, k = n + 2 := ⟨k - 2, by omega⟩
    have hil : i < l.length := by omega
    have jt : okB (lg l i) = false → PLegsAny.straddleref17_Check.j1 (k + 1) (l.map toR) (i : Int) true = some (ansC (wrongFrom l (d + 1) i)) := fun h => by
      rw [PLegsAny.straddleref17_Check.j1, if_pos rfl, at_f, wrongFrom, if_pos h]
    have jf : okB (lg l i) = true → PLegsAny.straddleref17_Check.j1 (k + 1) (l.map toR) (i : Int) false = some (ansC (wrongFrom l (d + 1) i)) := fun h => by
      have h0 : ((0 : Nat) : Int) = 0 := rfl
      rw [PLegsAny.straddleref17_Check.j1, if_neg (show ¬ (false = true) by decide), ← h0, chk_l1 l (by omega) i hil i 0 k (by omega) (by omega), List.drop_zero, wrongFrom, if_neg (show ¬ okB (lg l i) = false by simp [h])]
      unfold twice
      split
      · rfl
      · exact ih (i + 1) (k - i - 1) (by omega) (by omega)
    simp only [PLegsAny.straddleref17_Check.l0]
    rw [if_pos (by rw [List.length_map]; omega), if_pos (by omega), rdR]
    by_cases c1 : (lg l i).Series < 1
    · rw [if_pos (show (toR (lg l i)).f0 < 1 from c1)]
      exact jt (by rw [← Bool.not_eq_true, okB_iff]; omega)
    · rw [if_neg (show ¬ (toR (lg l i)).f0 < 1 from c1)]
      by_cases c2 : (lg l i).Sign = 1
      · rw [if_pos (show (toR (lg l i)).f1 = 1 from c2)]
        by_cases c3 : (lg l i).Ratio < 1
        · rw [if_pos (show (toR (lg l i)).f2 < 1 from c3)]
          exact jt (by rw [← Bool.not_eq_true, okB_iff]; omega)
        · rw [if_neg (show ¬ (toR (lg l i)).f2 < 1 from c3)]
          by_cases c4 : (lg l i).Ratio > 4
          · rw [show decide ((toR (lg l i)).f2 > 4) = true from decide_eq_true c4]
            exact jt (by rw [← Bool.not_eq_true, okB_iff]; omega)
          · rw [show decide ((toR (lg l i)).f2 > 4) = false from decide_eq_false c4]
            exact jf (okB_iff.2 ⟨by omega, .inl c2, by omega, by omega⟩)
      · rw [if_neg (show ¬ (toR (lg l i)).f1 = 1 from c2)]
        by_cases c5 : (lg l i).Sign = -1
        · rw [if_pos (show (toR (lg l i)).f1 = -1 from c5)]
          by_cases c3 : (lg l i).Ratio < 1
          · rw [if_pos (show (toR (lg l i)).f2 < 1 from c3)]
            exact jt (by rw [← Bool.not_eq_true, okB_iff]; omega)
          · rw [if_neg (show ¬ (toR (lg l i)).f2 < 1 from c3)]
            by_cases c4 : (lg l i).Ratio > 4
            · rw [show decide ((toR (lg l i)).f2 > 4) = true from decide_eq_true c4]
              exact jt (by rw [← Bool.not_eq_true, okB_iff]; omega)
            · rw [show decide ((toR (lg l i)).f2 > 4) = false from decide_eq_false c4]
              exact jf (okB_iff.2 ⟨by omega, .inr c5, by omega, by omega⟩)
        · rw [if_neg (show ¬ (toR (lg l i)).f1 = -1 from c5)]
          exact jt (by rw [← Bool.not_eq_true, okB_iff]; omega)
/-- What the reference tells. -/
def IsWr (w : World) (v : Value) (a : Option (Nat × Int)) : Prop := (a = none → ∃ A n c, v = .agg #[.slice A n c, .int .i64 0]) ∧ ∀ n c, a = some (n, c) → ∃ G cm, v = .agg #[.slice (some ⟨G, 0, none⟩) 1 cm, .int .i64 c] ∧ w.cell? ⟨G, 0, none⟩ = some (.string legW) ∧ w.cell? ⟨G, 1, none⟩ = some (.int .i64 n)
theorem rcheck_c (A : Option Addr) (cap : Nat) (l : List Leg) (hl : l.length ≤ 1000) (hcap : l.length ≤ cap) (w : World) (hC : PLegsAny.k52.C w A (l.map toR).length (l.map toR)) :
    Calls Tryz.prog 5 #[.slice A l.length cap] w fun e w' => (∃ v, e = .returned v ∧ IsWr w' v (wrong l)) ∧ Fr no w w' := by
  have key : PLegsAny.straddleref17_Check.f (l.length * (l.length + 5) + 1) (l.map toR) = some (ansC (wrong l)) := by
    unfold PLegsAny.straddleref17_Check.f wrong
    by_cases h0 : l.length < 2
    · rw [if_pos (by rw [List.length_map]; omega), if_pos h0, List.length_map, at_f]
    · rw [if_neg (by rw [List.length_map]; omega), if_neg h0]
      by_cases h4 : 4 < l.length
      · rw [if_pos (by rw [List.length_map]; omega), if_pos h4]
        exact at_f 4 1
      · rw [if_neg (by rw [List.length_map]; omega), if_neg h4]
        exact chk_l0 l hl l.length 0 _ (by omega) (by omega)
  have h := PLegsAny.straddleref17_Check.calls _ A cap (l.map toR) _ _ w hC (by rw [List.length_map]; exact hcap) key
  rw [List.length_map] at h
  refine h.mono fun e w' ⟨v, h3, hR, h4⟩ => ⟨⟨_, h3, ?_⟩, Fr.of_below h4⟩
  cases hc : wrong l with
  | none =>
    rw [hc] at hR
    obtain ⟨A', c', rfl⟩ := Kd.R_slice hR
    exact ⟨fun _ => ⟨_, _, _, rfl⟩, fun n c h => (by cases h)⟩
  | some x =>
    obtain ⟨n, c⟩ := x
    rw [hc] at hR
    obtain ⟨g, cm, rfl, _, _, _⟩ := Kd.R_form hR (Nat.zero_lt_one)
    obtain ⟨ad, e1, c1, c2⟩ := PLegsAny.at_T66 (Kd.R_reads' hR).2.2 0 (by omega) (Int.zero_lt_one)
    obtain rfl := (Option.some.inj e1).symm
    refine ⟨fun h => (by cases h), fun n' c' h => ?_⟩
    injection h with h
    injection h with h5 h6
    subst h5 h6
    exact ⟨g, cm, rfl, c1, c2⟩
theorem of_l (l : List Leg) (hl : l.length ≤ 1000000) : ∀ (d i : Nat) (k : Nat), i + d = l.length → d < k → PLegsAny.straddlelaw17_Of.l0 k (l.map toP) ((l.take i).map toR) i = some (l.map toR) := by
  intro d
  induction d with
  | zero =>
    intro i k hi hk
    obtain ⟨k, rfl⟩ : ∃ m, k = m + 1 := ⟨k - 1, by omega⟩
    simp only [PLegsAny.straddlelaw17_Of.l0]
    rw [if_neg (by simp; omega), List.take_of_length_le (by omega)]
  | succ d ih =>
    intro i k hi hk
    obtain ⟨k, rfl⟩ : ∃ m, k = m + 1 := ⟨k - 1, by omega⟩
    simp only [PLegsAny.straddlelaw17_Of.l0]
    rw [if_pos (by simp; omega), if_pos (by omega), if_pos (by simp; omega), rdP, w64s (by omega)]
    have h1 : (l.take i).map toR ++ [(⟨(toP (lg l i)).f0, (toP (lg l i)).f1, (toP (lg l i)).f2⟩ : PRef)] = (l.take (i + 1)).map toR := by
      rw [List.take_succ_eq_append_getElem (by omega), List.map_append, lg_lt (by omega)]
      simp [toP, toR]
    rw [h1]
    exact ih (i + 1) k (by omega) (by omega)
theorem of_c (A : Option Addr) (cap : Nat) (l : List Leg) (hl : l.length ≤ 1000000) (hcap : l.length ≤ cap) (w : World) (hC : kLeg.C w A l.length l) :
    Calls Tryz.prog 6 #[.slice A l.length cap] w fun e w' => (∃ v, e = .returned v ∧ PLegsAny.k52.R 52 w' w.heap.size (fun _ => True) v (l.map toR)) ∧ Fr no w w' := by
  have h := PLegsAny.straddlelaw17_Of.calls (l.length + 1) A cap (l.map toP) (l.map toR) w (by rw [List.length_map]; exact toP_C hC) (by rw [List.length_map]; exact hcap) (of_l l hl l.length 0 _ (by omega) (by omega))
  rw [List.length_map] at h
  exact h.mono fun e w' ⟨v, h1, h2, h3⟩ => ⟨⟨v, h1, h2⟩, Fr.of_below h3⟩
end Go.Proofs.YtdgeakojdafipaaGreatDoor.Legs

/-! The reference's Turned, Same, Canon and Text. -/
set_option linter.unusedVariables false
set_option linter.unusedSimpArgs false
namespace Go.Proofs.YtdgeakojdafipaaGreatDoor.Legs
open Go.RowKit Go.Proofs.YtdgeakojdafipaaGreatDoorW.PrintWords Go.Proofs.YtdgeakojdafipaaGreatDoor.B Go.Proofs.YtdgeakojdafipaaGreatDoor.Num

/-! ### Turned -/
theorem rturn_l (l : List Leg) (hl : l.length ≤ 1000000) : ∀ (d i : Nat) (k : Nat), i + d = l.length → d < k → PLegsAny.straddleref17_Turned.l0 k (l.map toR) (((l.take i).map turn1).map toR) i = some ((turnL l).map toR) := by
  intro d
  induction d with
  | zero =>
    intro i k hi hk
    obtain ⟨k, rfl⟩ : ∃ m, k = m + 1 := ⟨k - 1, by omega⟩
    simp only [PLegsAny.straddleref17_Turned.l0]
    rw [if_neg (by simp; omega), List.take_of_length_le (by omega)]
    rfl
  | succ d ih =>
    intro i k hi hk
    obtain ⟨k, rfl⟩ : ∃ m, k = m + 1 := ⟨k - 1, by omega⟩
    simp only [PLegsAny.straddleref17_Turned.l0]
    rw [if_pos (by simp; omega), if_pos (by omega), if_pos (by simp; omega), rdR, w64s (by omega)]
    have h1 : ((l.take i).map turn1).map toR ++ [(⟨(toR (lg l i)).f0, wrap64 (-((toR (lg l i)).f1)), (toR (lg l i)).f2⟩ : PRef)] = ((l.take (i + 1)).map turn1).map toR := by
      rw [List.take_succ_eq_append_getElem (by omega), List.map_append, List.map_append, lg_lt (by omega)]
      simp only [List.map_cons, List.map_nil]
      rfl
    rw [h1]
    exact ih (i + 1) k (by omega) (by omega)
theorem rturn_f (l : List Leg) (hl : l.length ≤ 1000000) (k : Nat) (hk : l.length < k) : PLegsAny.straddleref17_Turned.f k (l.map toR) = some ((turnL l).map toR) := by
  unfold PLegsAny.straddleref17_Turned.f
  exact rturn_l l hl l.length 0 k (by omega) hk
/-! ### Same -/
theorem rsame_l (l : List Leg) (hl : l.length ≤ 1000000) : ∀ (d i k : Nat), i + d = l.length → d < k → PLegsAny.straddleref17_Same.l0 k (l.map toR) (l.map toR) (i : Int) = some true := by
  intro d
  induction d with
  | zero =>
    intro i k hi hk
    obtain ⟨k, rfl⟩ : ∃ m, k = m + 1 := ⟨k - 1, by omega⟩
    simp only [PLegsAny.straddleref17_Same.l0]
    rw [if_neg (by rw [List.length_map]; omega)]
  | succ d ih =>
    intro i k hi hk
    obtain ⟨k, rfl⟩ : ∃ m, k = m + 1 := ⟨k - 1, by omega⟩
    simp only [PLegsAny.straddleref17_Same.l0]
    rw [if_pos (by rw [List.length_map]; omega), if_pos (by omega), if_pos (by rw [List.length_map]; omega), if_pos trivial, if_pos trivial, if_pos trivial, w64s (by omega)]
    exact ih (i + 1) k (by omega) (by omega)
theorem rsame_c (A B : Option Addr) (ca cb : Nat) (l m : List Leg) (he : l = m) (hl : l.length ≤ 1000000) (w : World) (hA : PLegsAny.k52.C w A (l.map toR).length (l.map toR)) (hB : PLegsAny.k52.C w B (m.map toR).length (m.map toR)) (ha : l.length ≤ ca) (hb : m.length ≤ cb) :
    Calls Tryz.prog 11 #[.slice A l.length ca, .slice B m.length cb] w fun e w' => e = .returned (.bool true) ∧ Fr no w w' := by
  subst he
  have hf : PLegsAny.straddleref17_Same.f (l.length + 1) (l.map toR) (l.map toR) = some true := by
    unfold PLegsAny.straddleref17_Same.f
    rw [if_pos rfl]
    exact rsame_l l hl l.length 0 _ (by omega) (by omega)
  have h := PLegsAny.straddleref17_Same.calls _ A ca (l.map toR) B cb (l.map toR) true w hA (by rw [List.length_map]; exact ha) hB (by rw [List.length_map]; exact hb) hf
  rw [List.length_map] at h
  exact h.mono fun e w' ⟨h1, h2⟩ => ⟨h1, Fr.of_below h2.below⟩
theorem rturn_c (A : Option Addr) (cap : Nat) (l : List Leg) (hl : l.length ≤ 1000000) (hcap : l.length ≤ cap) (w : World) (hC : PLegsAny.k52.C w A (l.map toR).length (l.map toR)) :
    Calls Tryz.prog 16 #[.slice A l.length cap] w fun e w' => (∃ v, e = .returned v ∧ PLegsAny.k52.R 52 w' w.heap.size (fun _ => True) v ((turnL l).map toR)) ∧ Fr no w w' := by
  have h := PLegsAny.straddleref17_Turned.calls (l.length + 1) A cap (l.map toR) _ w hC (by rw [List.length_map]; exact hcap) (rturn_f l hl _ (by omega))
  rw [List.length_map] at h
  exact h.mono fun e w' ⟨v, h1, h2, h3⟩ => ⟨⟨v, h1, h2⟩, Fr.of_below h3⟩
/-! ### Canon -/
/-- x put into an ascending row. -/
def ins (r : List Leg) (x : Leg) (m : Nat) : List Leg := r.take m ++ [x] ++ r.drop m
/-- From place m down: where x is to stand. -/
def plc (r : List Leg) (s : Int) : Nat → Nat
  | 0 => 0
  | m + 1 => if (lg r m).Series > s then plc r s m else m + 1
theorem plc_le (r : List Leg) (s : Int) : ∀ m, plc r s m ≤ m
  | 0 => Nat.le_refl _
  | m + 1 => by
    unfold plc
    split
    · exact Nat.le_succ_of_le (plc_le r s m)
    · exact Nat.le_refl _
theorem plc_above (r : List Leg) (s : Int) : ∀ m j, plc r s m ≤ j → j < m → (lg r j).Series > s
  | 0, j, _, h => absurd h (Nat.not_lt_zero j)
  | m + 1, j, h1, h2 => by
    unfold plc at h1
    split at h1
    · rename_i h
      by_cases hj : j = m
      · subst hj; exact h
      · exact plc_above r s m j h1 (by omega)
    · omega
theorem plc_below (r : List Leg) (s : Int) : ∀ m, 0 < plc r s m → (lg r (plc r s m - 1)).Series ≤ s
  | 0, h => absurd h (Nat.lt_irrefl 0)
  | m + 1, h => by
    unfold plc at h ⊢
    split
    · rename_i h2
      rw [if_pos h2] at h
      exact plc_below r s m h
    · rename_i h2
      show (lg r (m + 1 - 1)).Series ≤ s
      simp only [Nat.add_sub_cancel]
      omega
def insAll : List Leg → List Leg → List Leg
  | r, [] => r
  | r, x :: t => insAll (ins r x (plc r x.Series r.length)) t
theorem ins_perm (r : List Leg) (x : Leg) (m : Nat) : (ins r x m).Perm (x :: r) := by
  unfold ins
  rw [List.append_assoc]
  refine List.perm_append_comm.trans ?_
  show (x :: (r.drop m ++ r.take m)).Perm (x :: r)
  exact List.Perm.cons _ (List.perm_append_comm.trans (by rw [List.take_append_drop]))
theorem ins_len (r : List Leg) (x : Leg) (m : Nat) : (ins r x m).length = r.length + 1 := by rw [(ins_perm r x m).length_eq]; rfl
theorem ins_asc {r : List Leg} {x : Leg} (ha : Asc r) (hn : ∀ y ∈ r, y.Series ≠ x.Series) : Asc (ins r x (plc r x.Series r.length)) := by
  have hle := plc_le r x.Series r.length
  have hab := plc_above r x.Series r.length
  have hbe := plc_below r x.Series r.length
  generalize plc r x.Series r.length = m at *
  unfold ins
  have h1 : Asc (r.take m) := ha.sublist (List.take_sublist _ _)
  have h2 : Asc (r.drop m) := ha.sublist (List.drop_sublist _ _)
  have hlow : ∀ y ∈ r.take m, y.Series < x.Series := by
    intro y hy
    obtain ⟨i, hi, rfl⟩ := List.mem_take_iff_getElem.1 hy
    have hm0 : 0 < m := by omega
    have h3 := hbe hm0
    rw [lg_lt (by omega)] at h3
    have h4 : r[i].Series ≤ r[m - 1].Series := by
      rcases Nat.lt_or_ge i (m - 1) with h | h
      · have := List.pairwise_iff_getElem.1 ha i (m - 1) (by omega) (by omega) h; omega
      · have : i = m - 1 := by omega
        subst this; exact Int.le_refl _
    have h5 := hn r[i] (List.getElem_mem _)
    omega
  have hhigh : ∀ y ∈ r.drop m, x.Series < y.Series := by
    intro y hy
    obtain ⟨i, hi, rfl⟩ := List.getElem_of_mem hy
    rw [List.length_drop] at hi
    rw [List.getElem_drop]
    have := hab (m + i) (by omega) (by omega)
    rw [lg_lt (by omega)] at this
    exact this
  rw [Asc, List.pairwise_append, List.pairwise_append]
  refine ⟨⟨h1, by simp, fun a ha b hb => by rw [List.mem_singleton.1 hb]; exact hlow a ha⟩, h2, fun a ha b hb => ?_⟩
  rcases List.mem_append.1 ha with h | h
  · have := hlow a h; have := hhigh b hb; omega
  · rw [List.mem_singleton.1 h]; exact hhigh b hb
theorem insAll_spec : ∀ (t r : List Leg), Asc r → (r ++ t).Pairwise (fun a b => a.Series ≠ b.Series) → (insAll r t).Perm (r ++ t) ∧ Asc (insAll r t)
  | [], r, ha, hn => ⟨by simp [insAll], ha⟩
  | x :: t, r, ha, hn => by
    have hx : ∀ y ∈ r, y.Series ≠ x.Series := fun y hy => (List.pairwise_append.1 hn).2.2 y hy x (List.mem_cons_self)
    have hp : (ins r x (plc r x.Series r.length) ++ t).Perm (r ++ x :: t) := by
      refine ((ins_perm r x _).append_right t).trans ?_
      show (x :: (r ++ t)).Perm (r ++ x :: t)
      exact List.perm_middle.symm
    have h := insAll_spec t _ (ins_asc ha hx) ((hp.pairwise_iff (fun h => h.symm)).2 hn)
    exact ⟨h.1.trans hp, h.2⟩
theorem insAll_srt {l : List Leg} (hn : l.Pairwise fun a b => a.Series ≠ b.Series) : insAll [] l = srt l :=
  (srt_eq hn (insAll_spec l [] (by simp [Asc]) (by simpa using hn)).1 (insAll_spec l [] (by simp [Asc]) (by simpa using hn)).2).symm
theorem rgcd_k (a b : Int) (a0 : 0 ≤ a) (a1 : a ≤ 1000000) (b0 : 0 ≤ b) (b1 : b ≤ 1000000) (k : Nat) (hk : b < k) : PLegsAny.straddleref1_Gcd.f k a b = some (gcdF a b) := by
  obtain ⟨x, rfl⟩ : ∃ x : Nat, a = x := ⟨a.toNat, by omega⟩
  obtain ⟨y, rfl⟩ : ∃ y : Nat, b = y := ⟨b.toNat, by omega⟩
  have h := rgcd_l k x y (by omega) (by omega) (by omega)
  unfold PLegsAny.straddleref1_Gcd.f PLegsAny.straddleref1_size.f
  rw [if_neg (by omega), if_neg (by omega), Option.bind_some, Option.bind_some, u64_id (by omega) (by omega), u64_id (by omega) (by omega), h, gcd_step]
abbrev CRes := List PRef × Bool × List PPart × Int
theorem canon_l1 (l : List Leg) (g : Int) (i : Nat) (hi : i < l.length) (hl : l.length ≤ 1000) (ps : List PPart) (c : Int) (r : List Leg) (hr : r.length ≤ 1000) : ∀ (m k : Nat), m ≤ r.length → m < k →
    PLegsAny.straddleref17_Canon.l1 k (l.map toR) g (r.map toR) (i : Int) (m : Int) ps c = PLegsAny.straddleref17_Canon.l0 (k - 1 - (m - plc r (lg l i).Series m)) (l.map toR) g ((ins r (lg l i) (plc r (lg l i).Series m)).map toR) ((i + 1 : Nat) : Int) ps c := by
  have place : ∀ m, m ≤ r.length → ([] : List PRef) ++ (r.map toR).take (m : Int).toNat ++ [(⟨(toR (lg l i)).f0, (toR (lg l i)).f1, (toR (lg l i)).f2⟩ : PRef)] ++ (r.map toR).drop (m : Int).toNat = (ins r (lg l i) m).map toR := fun m hm => by
    rw [Int.toNat_natCast]
    unfold ins
    rw [List.map_append, List.map_append, List.map_take, List.map_drop]
    rfl
  have len1 : ∀ m, m ≤ r.length → ((r.map toR).take (m : Int).toNat).length = m := fun m hm => by rw [Int.toNat_natCast, List.length_take, List.length_map]; omega
  have len2 : ∀ m, m ≤ r.length → ((r.map toR).drop (m : Int).toNat).length = r.length - m := fun m hm => by rw [Int.toNat_natCast, List.length_drop, List.length_map]
  intro m
  induction m with
  | zero =>
    intro k hm hk
    obtain ⟨k, rfl⟩ : ∃ n, k = n + 1 := ⟨k - 1, by omega⟩
    have hp : plc r (lg l i).Series 0 = 0 := rfl
    have p0 := place 0 hm
    have l1 := len1 0 hm
    have l2 := len2 0 hm
    rw [PLegsAny.straddleref17_Canon.l1, if_neg (by omega)]
    simp only [Option.bind_some, rdR]
    rw [if_pos (by omega), if_pos (by rw [List.length_map]; omega), if_pos (by rw [l1]; simp), if_pos (by omega), if_pos (by rw [List.length_map]; omega), if_pos (by rw [List.length_append, l1]; simp), if_pos (by rw [List.length_append, List.length_append, l1, l2]; simp; omega), p0, w64s (by omega), hp]
    congr 1
  | succ m ih =>
    intro k hm hk
    obtain ⟨k, rfl⟩ : ∃ n, k = n + 1 := ⟨k - 1, by omega⟩
    have hw : wrap64 (((m + 1 : Nat) : Int) - 1) = (m : Int) := by unfold wrap64; omega
    have p0 := place (m + 1) hm
    have l1 := len1 (m + 1) hm
    have l2 := len2 (m + 1) hm
    rw [PLegsAny.straddleref17_Canon.l1, if_pos (by omega), hw, if_pos (by omega), if_pos (by rw [List.length_map]; omega), if_pos (by omega), if_pos (by rw [List.length_map]; omega), rdR, rdR]
    by_cases hs : (lg r m).Series > (lg l i).Series
    · rw [if_pos (show (toR (lg r m)).f0 > (toR (lg l i)).f0 from hs), ih k (by omega) (by omega)]
      have hp : plc r (lg l i).Series (m + 1) = plc r (lg l i).Series m := by rw [plc, if_pos hs]
      have := plc_le r (lg l i).Series m
      rw [hp, show k - 1 - (m - plc r (lg l i).Series m) = k + 1 - 1 - (m + 1 - plc r (lg l i).Series m) by omega]
    · have hp : plc r (lg l i).Series (m + 1) = m + 1 := by rw [plc, if_neg hs]
      rw [if_neg (show ¬ (toR (lg r m)).f0 > (toR (lg l i)).f0 from hs)]
      simp only [Option.bind_some]
      rw [if_pos (by omega), if_pos (by rw [List.length_map]; omega), if_pos (by rw [l1]; simp; omega), if_pos (by rw [List.length_append, l1]; simp; omega), if_pos (by rw [List.length_append, List.length_append, l1, l2]; simp; omega), p0, w64s (by omega), hp]
      congr 1
      omega
/-- What the second part of Canon comes to. -/
def finR (g : Int) (s : List Leg) : List PRef × Bool := if (lg (dv g s) 0).Sign < 0 then ((turnL (dv g s)).map toR, true) else ((dv g s).map toR, false)
theorem canon_l2 (g : Int) (s : List Leg) (hg1 : 1 ≤ g) (hg4 : g ≤ 4) (hgs : Good s) (ps : List PPart) (c : Int) : ∀ (d i k : Nat), i + d = s.length → d + s.length + 2 < k →
    PLegsAny.straddleref17_Canon.l2 k g ((upd (div1 g) s i).map toR) (i : Int) ps c = some ((finR g s).1, (finR g s).2, ps, c) := by
  have hs4 := hgs.hi
  have hs2 := hgs.lo
  intro d
  induction d with
  | zero =>
    intro i k hi hk
    obtain ⟨k, rfl⟩ : ∃ n, k = n + 1 := ⟨k - 1, by omega⟩
    obtain rfl : i = s.length := by omega
    have hu : upd (div1 g) s s.length = dv g s := upd_all _ _
    have h0 := rdR (dv g s) 0
    rw [PLegsAny.straddleref17_Canon.l2, hu, if_neg (by rw [List.length_map, dv_length]; omega), if_pos (by rw [List.length_map, dv_length]; omega), show (0 : Int) = ((0 : Nat) : Int) from rfl, h0]
    unfold finR
    by_cases hn : (lg (dv g s) 0).Sign < 0
    · rw [if_pos (show (toR (lg (dv g s) 0)).f1 < ((0 : Nat) : Int) from hn), rturn_f (dv g s) (by rw [dv_length]; omega) k (by rw [dv_length]; omega), if_pos hn]
      rfl
    · rw [if_neg (show ¬ (toR (lg (dv g s) 0)).f1 < ((0 : Nat) : Int) from hn), if_neg hn]
  | succ d ih =>
    intro i k hi hk
    obtain ⟨k, rfl⟩ : ∃ n, k = n + 1 := ⟨k - 1, by omega⟩
    have hlt : i < s.length := by omega
    have hul := upd_len (div1 g) s i
    obtain ⟨_, _, r1, r4⟩ := okB_iff.1 (hgs.ok _ (List.getElem_mem hlt))
    rw [← lg_lt hlt] at r1 r4
    have hdv : wrap64 (Int.tdiv (lg s i).Ratio g) = (lg s i).Ratio / g := by
      rw [Int.tdiv_eq_ediv_of_nonneg (by omega)]
      have h1 : 0 ≤ (lg s i).Ratio / g := Int.ediv_nonneg (by omega) (by omega)
      have h2 : (lg s i).Ratio / g ≤ (lg s i).Ratio := Int.ediv_le_self g (by omega)
      unfold wrap64; omega
    rw [PLegsAny.straddleref17_Canon.l2, if_pos (by rw [List.length_map]; omega), if_pos (by omega), if_neg (by omega), rdR, upd_lg _ _ _ hlt, Int.toNat_natCast, w64s (by omega)]
    have h1 : ((upd (div1 g) s i).map toR).set i (⟨(toR (lg s i)).f0, (toR (lg s i)).f1, wrap64 (Int.tdiv ((toR (lg s i)).f2) g)⟩ : PRef) = (upd (div1 g) s (i + 1)).map toR := by
      rw [← upd_set _ _ _ hlt, List.map_set]
      congr 1
      show (⟨(lg s i).Series, (lg s i).Sign, wrap64 (Int.tdiv ((lg s i).Ratio) g)⟩ : PRef) = _
      rw [hdv]
      rfl
    rw [h1]
    exact ih (i + 1) k (by omega) (by omega)
theorem canon_run (l : List Leg) (hg : Good l) (ps : List PPart) (c : Int) (G : Int) (s : List Leg) (hG1 : 1 ≤ G) (hG4 : G ≤ 4) (hs : Good s) (hsl : s.length = l.length) : ∀ (d i : Nat) (g : Int) (r : List Leg) (k : Nat), i + d = l.length → r.length = i → 0 ≤ g → g ≤ 4 → 20 * d + 20 < k → foldG (l.drop i) g = G → insAll r (l.drop i) = s →
    PLegsAny.straddleref17_Canon.l0 k (l.map toR) g (r.map toR) (i : Int) ps c = some ((finR G s).1, (finR G s).2, ps, c) := by
  have hl4 := hg.hi
  intro d
  induction d with
  | zero =>
    intro i g r k hi hr h0 h4 hk hf hins
    obtain ⟨k, rfl⟩ : ∃ n, k = n + 1 := ⟨k - 1, by omega⟩
    obtain rfl : i = l.length := by omega
    rw [List.drop_length] at hf hins
    have hf' : g = G := hf
    have hins' : r = s := hins
    subst hf' hins'
    rw [PLegsAny.straddleref17_Canon.l0, if_neg (by rw [List.length_map]; omega)]
    have h := canon_l2 g r hG1 hG4 hs ps c r.length 0 k (by omega) (by omega)
    have hu : upd (div1 g) r 0 = r := by simp [upd]
    rw [hu] at h
    exact h
  | succ d ih =>
    intro i g r k hi hr h0 h4 hk hf hins
    obtain ⟨k, rfl⟩ : ∃ n, k = n + 1 := ⟨k - 1, by omega⟩
    have hlt : i < l.length := by omega
    obtain ⟨_, _, r1, r4⟩ := okB_iff.1 (hg.ok _ (List.getElem_mem hlt))
    rw [← lg_lt hlt] at r1 r4
    rw [foldG_drop hlt] at hf
    rw [List.drop_eq_getElem_cons hlt, ← lg_lt hlt] at hins
    have hins2 : insAll (ins r (lg l i) (plc r (lg l i).Series r.length)) (l.drop (i + 1)) = s := hins
    have hle := plc_le r (lg l i).Series r.length
    rw [PLegsAny.straddleref17_Canon.l0, if_pos (by rw [List.length_map]; omega), if_pos (by omega), rdR, show (toR (lg l i)).f2 = (lg l i).Ratio from rfl, rgcd_k g _ h0 (by omega) (by omega) (by omega) k (by omega), Option.bind_some, List.length_map, canon_l1 l _ i hlt (by omega) ps c r (by omega) r.length k (Nat.le_refl _) (by omega)]
    exact ih (i + 1) _ _ _ (by omega) (by rw [ins_len]; omega) (gcdF_nonneg _ _) (by have := gcdF_le (a := g) r1; omega) (by omega) hf hins2
theorem fin_canon {l : List Leg} (h : Good l) : finR (allG (srt l)) (srt l) = ((canonF l).1.map toR, (canonF l).2) := by
  have hb := good_base h
  have hp : 0 < (base l).length := by have := hb.lo; omega
  have ho := hb.ok _ (List.getElem_mem hp)
  rw [← lg_lt hp] at ho
  obtain ⟨_, h1, _⟩ := okB_iff.1 ho
  unfold base at h1
  rw [canon_base]
  unfold base finR
  rcases h1 with h1 | h1
  · rw [if_neg (by rw [h1]; decide), if_pos h1]
  · rw [if_pos (by rw [h1]; decide), if_neg (by rw [h1]; decide)]
theorem foldG_all (l : List Leg) : foldG l 0 = allG l := rfl
theorem chk_f (l : List Leg) (hl : l.length ≤ 20) (k : Nat) (hk : 600 ≤ k) : PLegsAny.straddleref17_Check.f k (l.map toR) = some (ansC (wrong l)) := by
  unfold PLegsAny.straddleref17_Check.f wrong
  by_cases h0 : l.length < 2
  · rw [if_pos (by rw [List.length_map]; omega), if_pos h0, List.length_map, at_f]
  · rw [if_neg (by rw [List.length_map]; omega), if_neg h0]
    by_cases h4 : 4 < l.length
    · rw [if_pos (by rw [List.length_map]; omega), if_pos h4]
      exact at_f 4 1
    · rw [if_neg (by rw [List.length_map]; omega), if_neg h4]
      have hm : l.length * (l.length + 5) ≤ 4 * 9 := Nat.mul_le_mul (by omega) (by omega)
      exact chk_l0 l (by omega) l.length 0 _ (by omega) (by omega)
/-- What the reference's Canon tells: legs, whether turned. -/
def canonA (l : List Leg) : List Leg × Bool := if wrong l = none then canonF l else ([], false)
theorem rcanon_f (l : List Leg) (hl : l.length ≤ 20) : PLegsAny.straddleref17_Canon.f 1000 (l.map toR) = some ((canonA l).1.map toR, (canonA l).2, (ansC (wrong l)).1, (ansC (wrong l)).2) := by
  unfold PLegsAny.straddleref17_Canon.f canonA
  rw [chk_f l hl 1000 (by omega), Option.bind_some]
  cases hw : wrong l with
  | some a =>
    obtain ⟨n, c⟩ := a
    have := (wrong_bd hw).2
    rw [if_neg (by show ¬ c = 0; dsimp only at this; omega), if_neg (by simp)]
    rfl
  | none =>
    have hg := good_iff.1 hw
    have hs := srt_spec hg.nd
    rw [if_pos (show (ansC none).2 = 0 from rfl), if_pos rfl]
    have h := canon_run l hg (ansC none).1 (ansC none).2 (allG (srt l)) (srt l) (allG_pos (good_srt hg).ok (by have := (good_srt hg).lo; omega)) (allG_le (good_srt hg).ok (by have := (good_srt hg).lo; omega)) (good_srt hg) hs.1.length_eq l.length 0 0 [] 1000 (by omega) rfl (by omega) (by omega) (by have := hg.hi; omega) (by rw [List.drop_zero, foldG_all]; exact (allG_perm hs.1).symm) (by rw [List.drop_zero]; exact insAll_srt hg.nd)
    rw [fin_canon hg] at h
    exact h
end Go.Proofs.YtdgeakojdafipaaGreatDoor.Legs

/-! Contracts of the reference's Canon and Text. -/
set_option linter.unusedVariables false
set_option linter.unusedSimpArgs false
namespace Go.Proofs.YtdgeakojdafipaaGreatDoor.Legs
open Go.RowKit Go.Proofs.YtdgeakojdafipaaGreatDoorW.PrintWords Go.Proofs.YtdgeakojdafipaaGreatDoor.B Go.Proofs.YtdgeakojdafipaaGreatDoor.Num

theorem isWr_of {w : World} {base : Nat} {ok : Nat → Prop} {v : Value} {a : Option (Nat × Int)} (hR : PLegsAny.k66.R 66 w base ok v (ansC a).1) : IsWr w (.agg #[v, .int .i64 (ansC a).2]) a := by
  cases a with
  | none =>
    obtain ⟨A', c', rfl⟩ := Kd.R_slice hR
    exact ⟨fun _ => ⟨_, _, _, rfl⟩, fun n c h => (by cases h)⟩
  | some x =>
    obtain ⟨n, c⟩ := x
    obtain ⟨g, cm, rfl, _, _, _⟩ := Kd.R_form hR (Nat.zero_lt_one)
    obtain ⟨ad, e1, c1, c2⟩ := PLegsAny.at_T66 (Kd.R_reads' hR).2.2 0 (by omega) (Int.zero_lt_one)
    obtain rfl := (Option.some.inj e1).symm
    refine ⟨fun h => (by cases h), fun n' c' h => ?_⟩
    injection h with h
    injection h with h5 h6
    subst h5 h6
    exact ⟨g, cm, rfl, c1, c2⟩
/-- A row of the document's legs. -/
def RowR (w : World) (v : Value) (l : List Leg) : Prop := ∃ A c, v = .slice A l.length c ∧ l.length ≤ c ∧ PLegsAny.k52.C w A (l.map toR).length (l.map toR)
theorem RowR.fr {w w1 : World} {v : Value} {l : List Leg} (h : RowR w v l) (hf : Fr no w w1) : RowR w1 v l := by
  obtain ⟨A, c, h1, h2, h3⟩ := h
  exact ⟨A, c, h1, h2, C_fr h3 hf⟩
theorem rowR_of {w : World} {base : Nat} {ok : Nat → Prop} {v : Value} {l : List Leg} (h : PLegsAny.k52.R 52 w base ok v (l.map toR)) : RowR w v l := by
  obtain ⟨A, c, rfl, h1, h2⟩ := Kd.R_reads h
  rw [List.length_map] at h1
  exact ⟨A, c, by rw [List.length_map], h1, h2⟩
theorem rcanon_c (A : Option Addr) (cap : Nat) (l : List Leg) (hl : l.length ≤ 20) (hcap : l.length ≤ cap) (w : World) (hC : PLegsAny.k52.C w A (l.map toR).length (l.map toR)) :
    Calls Tryz.prog 8 #[.slice A l.length cap] w fun e w' => (∃ v u, e = .returned (.tuple #[v, .bool (canonA l).2, u]) ∧ RowR w' v (canonA l).1 ∧ IsWr w' u (wrong l)) ∧ Fr no w w' := by
  have h := PLegsAny.straddleref17_Canon.calls 1000 A cap (l.map toR) _ _ _ _ w hC (by rw [List.length_map]; exact hcap) (rcanon_f l hl)
  rw [List.length_map] at h
  exact h.mono fun e w' ⟨v, u, h1, h2, h3, h4⟩ => ⟨⟨v, _, h1, rowR_of h2, isWr_of h3⟩, Fr.of_below h4⟩
/-! ### Text -/
theorem join_snoc (xs : List (List UInt8)) (x sep : List UInt8) : Lib.join (xs ++ [x]) sep = if xs = [] then x else Lib.join xs sep ++ sep ++ x := by
  cases xs with
  | nil => simp [Lib.join_one]
  | cons y r =>
    rw [if_neg (by simp), List.cons_append, Lib.join_cons, Lib.join_cons]
    simp [Lib.joinTail, List.append_assoc]
def pls (l : List Leg) (k : Nat) : List (List UInt8) := ((l.take k).map legT).map (·.data.toList)
theorem pls_succ (l : List Leg) (k : Nat) (h : k < l.length) : pls l (k + 1) = pls l k ++ [(legT (lg l k)).data.toList] := by
  unfold pls
  rw [List.take_succ_eq_append_getElem h, List.map_append, List.map_append, lg_lt h]
  rfl
theorem pls_nil (l : List Leg) (k : Nat) (h : k < l.length) : pls l k = [] ↔ k = 0 := by
  unfold pls
  rw [List.map_eq_nil_iff, List.map_eq_nil_iff]
  constructor
  · intro h2
    have h3 := congrArg List.length h2
    simp only [List.length_take, List.length_nil] at h3
    omega
  · rintro rfl; simp
theorem bytes_eq {b : ByteArray} {t : List UInt8} (h : b.data.toList = t) : b = ⟨t.toArray⟩ := by
  apply ByteArray.ext
  apply Array.toList_inj.1
  simpa using h
theorem legT_size (x : Leg) (h1 : (numB x.Ratio).size ≤ 30) (h2 : (numB x.Series).size ≤ 30) : (legT x).size ≤ 64 := by
  have h3 := signB_size x.Sign
  have h4 : (⟨#[42]⟩ : ByteArray).size = 1 := rfl
  unfold legT
  simp only [ByteArray.size_append, h3, h4]
  omega
theorem join_len (xs : List (List UInt8)) (h : ∀ x ∈ xs, x.length ≤ 64) : (Lib.join xs [32]).length ≤ 65 * xs.length := by
  cases xs with
  | nil => simp [Lib.join_nil]
  | cons y r =>
    have ht : ∀ r : List (List UInt8), (∀ x ∈ r, x.length ≤ 64) → (Lib.joinTail [32] r).length ≤ 65 * r.length := by
      intro r
      induction r with
      | nil => intro _; simp [Lib.joinTail]
      | cons z s ih =>
        intro hz
        have h1 := ih (fun x hx => hz x (by simp [hx]))
        have h2 := hz z (by simp)
        have e : Lib.joinTail [32] (z :: s) = ([32] ++ z) ++ Lib.joinTail [32] s := rfl
        rw [e, List.length_append, List.length_append, List.length_cons, List.length_cons, List.length_nil]
        omega
    have h1 := ht r (fun x hx => h x (by simp [hx]))
    have h2 := h y (by simp)
    rw [Lib.join_cons, List.length_append, List.length_cons]
    omega
theorem txt_len (l : List Leg) (ht : ∀ x ∈ l, (numB x.Ratio).size ≤ 30 ∧ (numB x.Series).size ≤ 30) : (txt l).length ≤ 65 * l.length := by
  have h := join_len ((l.map legT).map (·.data.toList)) (fun x hx => by
    obtain ⟨y, hy, rfl⟩ := List.mem_map.1 hx
    obtain ⟨z, hz, rfl⟩ := List.mem_map.1 hy
    have := legT_size z (ht z hz).1 (ht z hz).2
    exact this)
  rw [List.length_map, List.length_map] at h
  exact h
theorem rg_at {w : World} {A : Option Addr} {l : List Leg} (h : PLegsAny.k52.C w A (l.map toR).length (l.map toR)) (k : Nat) (hk : k < l.length) :
    ∃ ad, A = some ad ∧ w.cell? (ad.add (k * 3)) = some (.int .i64 (lg l k).Series) ∧ w.cell? ⟨(ad.add (k * 3)).block, (ad.add (k * 3)).off + 1, none⟩ = some (.int .i64 (lg l k).Sign) ∧ w.cell? ⟨(ad.add (k * 3)).block, (ad.add (k * 3)).off + 2, none⟩ = some (.int .i64 (lg l k).Ratio) := by
  obtain ⟨ad, h1, h2, h3, h4⟩ := PLegsAny.at_T52 h (k : Int) (by omega) (by rw [List.length_map]; omega)
  rw [rdR, Int.toNat_natCast] at h2 h3 h4
  exact ⟨ad, h1, h2, h3, h4⟩
/-- The reference's Text tells n's text, in w and behind it. -/
def RxAt (w : World) (n : Int) : Prop := ∀ W, Fr no w W → Calls Tryz.prog 36 #[.int .i64 n] W fun e w' => e = .returned (.string (numB n)) ∧ Fr no W w'
set_option maxRecDepth 100000 in
set_option maxHeartbeats 4000000 in
theorem rtext_c (A : Option Addr) (c : Nat) (l : List Leg) (w : World) (hC : PLegsAny.k52.C w A (l.map toR).length (l.map toR)) (h6 : l.length ≤ 20) (ht : ∀ x ∈ l, (RxAt w x.Ratio ∧ RxAt w x.Series) ∧ ((numB x.Ratio).size ≤ 30 ∧ (numB x.Series).size ≤ 30)) :
    Calls Tryz.prog 14 #[.slice A l.length c] w fun e w' => e = .returned (.string ⟨(txt l).toArray⟩) ∧ Fr no w w' := by
  have HK := Lib.hid (And.intro hC ht)
  clear hC ht
  go_enter Tryz.func14, Tryz.ntmps14
  go_wp2
  go_loopg [3, 4] l.length (fun q v3 v4 wr => ∃ (k : Nat) (b : ByteArray), k + q = l.length ∧ v4 = .int .i64 k ∧ v3 = .string b ∧ Hid (b.data.toList = Lib.join (pls l k) [32]) ∧ b.size ≤ 100 * k ∧ Fr no w wr)
  case atStart => exact ⟨0, _, by omega, rfl, rfl, rfl, by decide, Fr.refl _ _⟩
  case round =>
    obtain ⟨k, b, hk, rfl, rfl, hb, hbs, hf⟩ := hrel
    by_cases hlt : k < l.length
    · obtain ⟨ad, rfl, c0, c1, c2⟩ := rg_at (C_fr HK.out.1 hf) k hlt
      obtain ⟨⟨t1, t2⟩, z1, z2⟩ := HK.out.2 _ (List.getElem_mem hlt)
      rw [← lg_lt hlt] at t1 t2 z1 z2
      have hnx : Lib.join (pls l (k + 1)) [32] = if k = 0 then (legT (lg l k)).data.toList else b.data.toList ++ [32] ++ (legT (lg l k)).data.toList := by
        rw [pls_succ l k hlt, join_snoc, hb.out]
        by_cases h0 : k = 0
        · rw [if_pos ((pls_nil l k hlt).2 h0), if_pos h0]
        · rw [if_neg (fun h => h0 ((pls_nil l k hlt).1 h)), if_neg h0]
      have hb0 : k = 0 → b.data.toList = [] := fun h => by
        rw [hb.out, (pls_nil l k hlt).2 h]; rfl
      have HK2 : Hid (∀ u, Fr no w u → u.cell? (ad.add (k * 3)) = some (.int .i64 (lg l k).Series) ∧ u.cell? ⟨(ad.add (k * 3)).block, (ad.add (k * 3)).off + 2, none⟩ = some (.int .i64 (lg l k).Ratio)) := fun u h => by
        obtain ⟨ad', e, c0, c1, c2⟩ := rg_at (C_fr HK.out.1 h) k hlt
        obtain rfl := Option.some.inj e
        exact ⟨c0, c2⟩
      generalize lg l k = x at *
      obtain ⟨b1, hb1⟩ : ∃ b, numB x.Ratio = b := ⟨_, rfl⟩
      obtain ⟨b2, hb2⟩ : ∃ b, numB x.Series = b := ⟨_, rfl⟩
      unfold legT at hnx
      unfold RxAt at t1 t2
      rw [hb1] at t1 z1 hnx
      rw [hb2] at t2 z2 hnx
      have T1 := Lib.hid t1
      have T2 := Lib.hid t2
      have HNX := Lib.hid hnx
      have HB0 := Lib.hid hb0
      have hs : (decide (x.Sign < 0) = true ∧ signB x.Sign = ⟨#[45]⟩) ∨ (decide (x.Sign < 0) = false ∧ signB x.Sign = ⟨#[43]⟩) := by
        unfold signB
        by_cases h : x.Sign < 0
        · exact .inl ⟨by simp [h], if_pos h⟩
        · exact .inr ⟨by simp [h], if_neg h⟩
      have hk0 : (0 : Int) ≤ (k : Int) := by omega
      have hk1 : (k : Int) < (l.length : Int) := by omega
      have hk20 : k ≤ 20 := by omega
      have hfd := hf.drew
      have hpl := HK2.out _ hfd
      have hm0 : (k = 0 ∧ decide ((0 : Int) < (k : Int)) = false ∧ decide (0 < k) = false) ∨ (k ≠ 0 ∧ decide ((0 : Int) < (k : Int)) = true ∧ decide (0 < k) = true) := by
        by_cases h : k = 0
        · exact .inl ⟨h, by simp [h], by simp [h]⟩
        · exact .inr ⟨h, by simp; omega, by simp; omega⟩
      clear t1 t2 hb1 hb2 hnx hb0 c0 c2 hb
      rcases hm0 with ⟨hkz, m1, m2⟩ | ⟨hkz, m1, m2⟩
      all_goals
        have HKZ := Lib.hid hkz
        clear hkz
        rcases hs with ⟨e1, e2⟩ | ⟨e1, e2⟩
        all_goals
          have HE2 := Lib.hid e2
          clear e2
          go_wp2
          refine wp_region_plan (fun u => u.cell? (ad.add (k * 3)) = some (.int .i64 x.Series) ∧ u.cell? ⟨(ad.add (k * 3)).block, (ad.add (k * 3)).off + 2, none⟩ = some (.int .i64 x.Ratio)) [(0, false), (1, false), (2, false), (3, false), (4, false), (5, false), (9, false), (10, false), (11, false), (12, false), (13, false), (6, true), (7, false), (8, false), (14, true), (15, false), (16, false)] (by kernel_rfl) (by kernel_rfl) (fun _ _ _ _ _ h => h) (hpl) ?_
          simp only [planOps, List.getElem?_toArray, List.getElem?_cons_succ, List.getElem?_cons_zero]
          repeat (first
            | (refine plan_step (by rfl) ?_; apply Exists.intro; refine ⟨fun x hSx => ?_, ?_⟩; ((try dsimp only at hSx); go_simp; (try rw [if_neg (by omega)]); (try with_reducible rfl)); (simp only [Act.put, List.setIfInBounds_toArray, List.set_cons_zero, List.set_cons_succ]))
            | (refine plan_skip (by rfl) ?_; (simp only [Act.put, List.setIfInBounds_toArray, List.set_cons_zero, List.set_cons_succ])))
          refine plan_run (by rfl) (fun K hK => ?_)
          go_simp
          refine (T1.out _ hfd).mono ?_
          rintro e w3 ⟨rfl, g3⟩
          have hf3 := hfd.trans' g3
          have q3 := HK2.out _ hf3
          clear g3
          dsimp only
          refine hK.out (fun u => True) _ _ (q3) (trivial) ?_
          clear hK K
          try simp only [Act.put, List.setIfInBounds_toArray, List.set_cons_zero, List.set_cons_succ]
          repeat (first
            | (refine plan_step (by rfl) ?_; apply Exists.intro; refine ⟨fun x hSx => ?_, ?_⟩; ((try dsimp only at hSx); go_simp; (try rw [if_neg (by omega)]); (try with_reducible rfl)); (simp only [Act.put, List.setIfInBounds_toArray, List.set_cons_zero, List.set_cons_succ]))
            | (refine plan_skip (by rfl) ?_; (simp only [Act.put, List.setIfInBounds_toArray, List.set_cons_zero, List.set_cons_succ])))
          refine plan_run (by rfl) (fun K hK => ?_)
          go_simp
          refine (T2.out _ hf3).mono ?_
          rintro e w4 ⟨rfl, g4⟩
          have hf4 := hf3.trans' g4
          have q4 := HK2.out _ hf4
          clear g4
          dsimp only
          refine hK.out (fun u => True) _ _ (⟨q4, trivial⟩) (trivial) ?_
          clear hK K
          try simp only [Act.put, List.setIfInBounds_toArray, List.set_cons_zero, List.set_cons_succ]
          repeat (first
            | (refine plan_step (by rfl) ?_; apply Exists.intro; refine ⟨fun x hSx => ?_, ?_⟩; ((try dsimp only at hSx); go_simp; (try rw [if_neg (by omega)]); (try with_reducible rfl)); (simp only [Act.put, List.setIfInBounds_toArray, List.set_cons_zero, List.set_cons_succ]))
            | (refine plan_skip (by rfl) ?_; (simp only [Act.put, List.setIfInBounds_toArray, List.set_cons_zero, List.set_cons_succ])))
          refine plan_done ?_
          clear q3 q4 hpl hf hfd hf3 c1 m1 m2
          go_wp2
          go_roundg (l.length - (k + 1))
          case measure => omega
          case rel =>
            refine ⟨k + 1, _, by omega, by go_num, rfl, ?_, ?_, hf4⟩
            · show _ = _
              rw [HNX.out, HE2.out]
              first
              | (rw [if_pos HKZ.out]; have h0 := HB0.out HKZ.out; simp [h0])
              | (rw [if_neg HKZ.out]; simp)
            · have y1 : (⟨#[45]⟩ : ByteArray).size = 1 := rfl
              have y2 : (⟨#[43]⟩ : ByteArray).size = 1 := rfl
              have y3 : (⟨#[42]⟩ : ByteArray).size = 1 := rfl
              have y4 : (⟨#[32]⟩ : ByteArray).size = 1 := rfl
              simp only [ByteArray.size_append, y1, y2, y3, y4]
              omega
    · obtain rfl : k = l.length := by omega
      have hb2 := hb.out
      have hpl : pls l l.length = (l.map legT).map (·.data.toList) := by unfold pls; rw [List.take_length]
      rw [hpl] at hb2
      have hb3 : b = ⟨(txt l).toArray⟩ := bytes_eq hb2
      have HB3 := Lib.hid hb3
      clear hb hb2 hpl hb3
      go_wp2
      go_ret
      exact ⟨by rw [← HB3.out]; rfl, hf⟩
end Go.Proofs.YtdgeakojdafipaaGreatDoor.Legs

/-! Walk of LegsAny. -/
set_option linter.unusedVariables false
set_option linter.unusedSimpArgs false
namespace Go.Proofs.YtdgeakojdafipaaGreatDoor.Legs
open Go.RowKit Go.Proofs.YtdgeakojdafipaaGreatDoorW.PrintWords Go.Proofs.YtdgeakojdafipaaGreatDoor.B Go.Proofs.YtdgeakojdafipaaGreatDoor.Num Go.Proofs.YtdgeakojdafipaaGreatDoor.Err

theorem tells_o (A : Option Addr) (n c : Nat) (w : World) : Calls Tryz.prog 9 #[.nilIface, .agg #[.slice A n c, .int .i64 0]] w fun e w' => e = .returned (.bool true) ∧ Fr no w w' := by
  go_enter Tryz.func9, Tryz.ntmps9
  go_wp2
  go_ret
  exact ⟨rfl, (Fr.refl no w).alloc _⟩
/-- A copy of an answer's cells. -/
def WrAt (w : World) (X : Nat) (a : Option (Nat × Int)) : Prop := (a = none → ∃ A n c, w.cell? ⟨X, 0, none⟩ = some (.slice A n c) ∧ w.cell? ⟨X, 1, none⟩ = some (.int .i64 0))
set_option maxRecDepth 100000 in
set_option maxHeartbeats 8000000 in
theorem any_good (w : World) (hg : ErrType w) (ht : Err.Tab w) (A : Option Addr) (c : Nat) (l : List Leg) (hC : kLeg.C w A l.length l) (hc : l.length ≤ c) (hw : ∀ x ∈ l, wfLeg x) (hk : wrong l = none) :
    Calls Tryz.prog 3 #[.slice A l.length c] w fun e w' => e = .returned (.bool true) ∧ Fr no w w' := by
  have hgd := good_iff.1 hk
  have hl4 := hgd.hi
  have hl2 := hgd.lo
  have HK := Lib.hid (And.intro hC (And.intro hw (And.intro hk (And.intro hg ht))))
  have HG := Lib.hid hgd
  have d1 : decide ((20 : Int) < (l.length : Int)) = false := by simp; omega
  clear hC hw hk hg ht hgd
  go_enter Tryz.func3, Tryz.ntmps3
  go_wp2_with fail
  refine (known_c w).mono ?_
  rintro e w1 ⟨rfl, hf1⟩
  dsimp only
  go_wp2_with fail
  refine (of_c A c l (by omega) hc w1 (C_fr HK.out.1 hf1)).mono ?_
  rintro e w2 ⟨⟨v, rfl, hR⟩, hf2⟩
  obtain ⟨Ar, cr, rfl, hcr, hCr⟩ := Kd.R_reads hR
  rw [List.length_map] at hcr ⊢
  have hf02 := hf1.trans' hf2
  clear hf1 hf2 hR
  dsimp only
  go_wp2_with fail
  refine (rcheck_c Ar cr l (by omega) hcr w2 hCr).mono ?_
  rintro e w3 ⟨⟨v, rfl, hA⟩, hf3⟩
  obtain ⟨A3, n3, c3, rfl⟩ := hA.1 HK.out.2.2.1
  have hf03 := hf02.trans' hf3
  clear hf02 hf3 hCr hA
  have hX := blk_new w3 (.cells #[.slice A3 n3 c3, .int .i64 0] 26)
  have hfa := hf03.trans' ((Fr.refl no w3).alloc (.cells #[.slice A3 n3 c3, .int .i64 0] 26))
  dsimp only
  go_wp2_with fail
  generalize w3.alloc _ = w4 at *
  generalize w3.heap.size = X at *
  have HX := Lib.hid hX
  have HF4 := Lib.hid hfa
  clear hX hfa hf03
  have hcy := canon_yes A c l w4 (C_fr HK.out.1 HF4.out) hc HG.out
  have hra := fun W Ar cr (hcr : l.length ≤ cr) (hr : PLegsAny.k52.C W Ar (l.map toR).length (l.map toR)) => rcanon_c Ar cr l (by omega) hcr W hr
  have hca : canonA l = canonF l := by unfold canonA; rw [if_pos HK.out.2.2.1]
  have hgc := good_canon HG.out
  have hcc := canon_canon HG.out
  rw [hca, HK.out.2.2.1] at hra
  clear hca
  obtain ⟨D, hD⟩ : ∃ D, canonF l = D := ⟨_, rfl⟩
  rw [hD] at hcy hra hgc hcc
  clear hD
  obtain ⟨d, tt⟩ := D
  dsimp only at hcy hra hgc hcc
  have HRA := Lib.hid hra
  have HGC := Lib.hid hgc
  have HCC := Lib.hid hcc
  have hd4 := hgc.hi
  have hd2 := hgc.lo
  clear hra hgc hcc
  refine hcy.mono ?_
  clear hcy
  rintro e w5 ⟨⟨v, rfl, hv⟩, hf5⟩
  obtain ⟨Ad, rfl, hCd⟩ := hv.reads
  have HF5 := Lib.hid (HF4.out.trans' hf5)
  have HX5 := Lib.hid hf5
  clear hv hf5
  dsimp only
  go_wp2_with fail
  refine (of_c A c l (by omega) hc w5 (C_fr HK.out.1 HF5.out)).mono ?_
  rintro e w6 ⟨⟨v, rfl, hR⟩, hf6⟩
  obtain ⟨Ar, cr, rfl, hcr, hCr⟩ := Kd.R_reads hR
  rw [List.length_map] at hcr ⊢
  clear hR
  dsimp only
  go_wp2_with fail
  refine (HRA.out w6 Ar cr hcr hCr).mono ?_
  clear HRA hCr
  rintro e w7 ⟨⟨v, u, rfl, hRow, hWr⟩, hf7⟩
  obtain ⟨A4, n4, c4, rfl⟩ := hWr.1 rfl
  obtain ⟨Ae, ce, rfl, hce, hCe⟩ := hRow
  have hY := blk_new w7 (.cells #[.slice A4 n4 c4, .int .i64 0] 26)
  have hfb := (hf6.trans' hf7).trans' ((Fr.refl no w7).alloc (.cells #[.slice A4 n4 c4, .int .i64 0] 26))
  have hCe2 := C_fr hCe ((Fr.refl no w7).alloc (.cells #[.slice A4 n4 c4, .int .i64 0] 26))
  clear hWr hf6 hf7 hCe
  dsimp only
  go_wp2_with fail
  generalize w7.alloc _ = w8 at *
  generalize w7.heap.size = Y at *
  have HP : Hid (∀ u, Fr no w8 u → (u.cell? ⟨X, 0, none⟩ = some (.slice A3 n3 c3) ∧ u.cell? ⟨X, 1, none⟩ = some (.int .i64 0)) ∧ u.cell? ⟨Y, 0, none⟩ = some (.slice A4 n4 c4) ∧ u.cell? ⟨Y, 1, none⟩ = some (.int .i64 0)) := fun u h =>
    have h2 := (HX5.out.trans' hfb).trans' h
    ⟨⟨blk_cell (h2.heap HX.out (fun h => h)) 0, blk_cell (h2.heap HX.out (fun h => h)) 1⟩, blk_cell (h.heap hY (fun h => h)) 0, blk_cell (h.heap hY (fun h => h)) 1⟩
  have HCd := Lib.hid (C_fr hCd hfb)
  have HCe := Lib.hid hCe2
  have HF8 := Lib.hid (HF5.out.trans' hfb)
  clear HX HX5 hY hfb hCe2 hCd HF5 HF4
  have hfd := (Fr.refl no w8).drew
  have hpl := HP.out _ hfd
  refine wp_region_plan (fun u => (u.cell? ⟨X, 0, none⟩ = some (.slice A3 n3 c3) ∧ u.cell? ⟨X, 1, none⟩ = some (.int .i64 0)) ∧ u.cell? ⟨Y, 0, none⟩ = some (.slice A4 n4 c4) ∧ u.cell? ⟨Y, 1, none⟩ = some (.int .i64 0)) [(0, false), (2, false), (1, true), (3, true), (4, false), (5, false), (6, false), (7, false), (8, true), (9, false), (10, false), (11, false), (12, false), (14, false), (13, true), (15, true), (16, false), (17, false), (18, false), (19, false), (20, false), (21, false), (22, false)] (by kernel_rfl) (by kernel_rfl) (fun _ _ _ _ _ h => h) (hpl) ?_
  simp only [planOps, List.getElem?_toArray, List.getElem?_cons_succ, List.getElem?_cons_zero]
  repeat (first
    | (refine plan_step (by rfl) ?_; apply Exists.intro; refine ⟨fun x hSx => ?_, ?_⟩; ((try dsimp only at hSx); go_simp; (try rw [if_neg (by omega)]); (try with_reducible rfl)); (simp only [Act.put, List.setIfInBounds_toArray, List.set_cons_zero, List.set_cons_succ]))
    | (refine plan_skip (by rfl) ?_; (simp only [Act.put, List.setIfInBounds_toArray, List.set_cons_zero, List.set_cons_succ])))
  refine plan_run (by rfl) (fun K hK => ?_)
  go_simp
  refine (check_c A c l _ (C_fr HK.out.1 (HF8.out.trans' hfd)) hc).mono ?_
  rintro e w9 ⟨⟨v, rfl, hA⟩, g⟩
  obtain rfl := hA.1 HK.out.2.2.1
  have hf9 := hfd.trans' g
  have q9 := HP.out _ hf9
  clear g hA
  dsimp only
  refine hK.out (fun u => True) _ _ (q9) (trivial) ?_
  clear hK K
  try simp only [Act.put, List.setIfInBounds_toArray, List.set_cons_zero, List.set_cons_succ]
  repeat (first
    | (refine plan_step (by rfl) ?_; apply Exists.intro; refine ⟨fun x hSx => ?_, ?_⟩; ((try dsimp only at hSx); go_simp; (try rw [if_neg (by omega)]); (try with_reducible rfl)); (simp only [Act.put, List.setIfInBounds_toArray, List.set_cons_zero, List.set_cons_succ]))
    | (refine plan_skip (by rfl) ?_; (simp only [Act.put, List.setIfInBounds_toArray, List.set_cons_zero, List.set_cons_succ])))
  refine plan_run (by rfl) (fun K hK => ?_)
  go_simp
  refine (tells_o A3 n3 c3 _).mono ?_
  rintro e w10 ⟨rfl, g⟩
  have hf10 := hf9.trans' g
  have q10 := HP.out _ hf10
  clear g
  dsimp only
  refine hK.out (fun u => True) _ _ (⟨q10, trivial⟩) (trivial) ?_
  clear hK K
  try simp only [Act.put, List.setIfInBounds_toArray, List.set_cons_zero, List.set_cons_succ]
  repeat (first
    | (refine plan_step (by rfl) ?_; apply Exists.intro; refine ⟨fun x hSx => ?_, ?_⟩; ((try dsimp only at hSx); go_simp; (try rw [if_neg (by omega)]); (try with_reducible rfl)); (simp only [Act.put, List.setIfInBounds_toArray, List.set_cons_zero, List.set_cons_succ]))
    | (refine plan_skip (by rfl) ?_; (simp only [Act.put, List.setIfInBounds_toArray, List.set_cons_zero, List.set_cons_succ])))
  refine plan_run (by rfl) (fun K hK => ?_)
  go_simp
  refine (tells_o A4 n4 c4 _).mono ?_
  rintro e w11 ⟨rfl, g⟩
  have hf11 := hf10.trans' g
  have q11 := HP.out _ hf11
  clear g
  dsimp only
  refine hK.out (fun u => True) _ _ (⟨⟨q11, trivial⟩, trivial⟩) (trivial) ?_
  clear hK K
  try simp only [Act.put, List.setIfInBounds_toArray, List.set_cons_zero, List.set_cons_succ]
  repeat (first
    | (refine plan_step (by rfl) ?_; apply Exists.intro; refine ⟨fun x hSx => ?_, ?_⟩; ((try dsimp only at hSx); go_simp; (try rw [if_neg (by omega)]); (try with_reducible rfl)); (simp only [Act.put, List.setIfInBounds_toArray, List.set_cons_zero, List.set_cons_succ]))
    | (refine plan_skip (by rfl) ?_; (simp only [Act.put, List.setIfInBounds_toArray, List.set_cons_zero, List.set_cons_succ])))
  refine plan_run (by rfl) (fun K hK => ?_)
  go_simp
  refine (of_c Ad d.length d (by omega) (Nat.le_refl _) _ (C_fr HCd.out hf11)).mono ?_
  rintro e w12 ⟨⟨v, rfl, hR⟩, g⟩
  obtain ⟨As, cs, rfl, hcs, hCs⟩ := Kd.R_reads hR
  rw [List.length_map] at hcs ⊢
  have hf12 := hf11.trans' g
  have q12 := HP.out _ hf12
  clear g hR
  dsimp only
  refine hK.out (fun u => True) _ _ (⟨⟨⟨q12, trivial⟩, trivial⟩, trivial⟩) (trivial) ?_
  clear hK K
  try simp only [Act.put, List.setIfInBounds_toArray, List.set_cons_zero, List.set_cons_succ]
  repeat (first
    | (refine plan_step (by rfl) ?_; apply Exists.intro; refine ⟨fun x hSx => ?_, ?_⟩; ((try dsimp only at hSx); go_simp; (try rw [if_neg (by omega)]); (try with_reducible rfl)); (simp only [Act.put, List.setIfInBounds_toArray, List.set_cons_zero, List.set_cons_succ]))
    | (refine plan_skip (by rfl) ?_; (simp only [Act.put, List.setIfInBounds_toArray, List.set_cons_zero, List.set_cons_succ])))
  refine plan_run (by rfl) (fun K hK => ?_)
  go_simp
  refine (rsame_c As Ae cs ce d d rfl (by omega) _ hCs (C_fr HCe.out hf12) hcs hce).mono ?_
  rintro e w13 ⟨rfl, g⟩
  have hf13 := hf12.trans' g
  have q13 := HP.out _ hf13
  clear g hCs
  dsimp only
  refine hK.out (fun u => True) _ _ (⟨⟨⟨⟨q13, trivial⟩, trivial⟩, trivial⟩, trivial⟩) (trivial) ?_
  clear hK K
  try simp only [Act.put, List.setIfInBounds_toArray, List.set_cons_zero, List.set_cons_succ]
  repeat (first
    | (refine plan_step (by rfl) ?_; apply Exists.intro; refine ⟨fun x hSx => ?_, ?_⟩; ((try dsimp only at hSx); go_simp; (try rw [if_neg (by omega)]); (try with_reducible rfl)); (simp only [Act.put, List.setIfInBounds_toArray, List.set_cons_zero, List.set_cons_succ]))
    | (refine plan_skip (by rfl) ?_; (simp only [Act.put, List.setIfInBounds_toArray, List.set_cons_zero, List.set_cons_succ])))
  refine plan_done ?_
  have HF13 := Lib.hid hf13
  obtain ⟨⟨k0, k1⟩, _⟩ := q13
  have q1 : (tt != tt) = false := by simp
  clear q9 q10 q11 q12 hfd hf9 hf10 hf11 hf12 hf13 hpl
  go_wp2_with fail
  clear k0 k1 q1
  have h1 := canon_yes Ad d.length d w13 (C_fr HCd.out HF13.out) (Nat.le_refl _) HGC.out
  rw [HCC.out] at h1
  refine h1.mono ?_
  clear h1
  rintro e w14 ⟨⟨v, rfl, hv⟩, g⟩
  obtain ⟨Ag, rfl, hCg⟩ := hv.reads
  have HF14 := Lib.hid (HF13.out.trans' g)
  clear hv g
  dsimp only
  go_wp2_with fail
  refine (same_c Ag Ad d.length d.length d d rfl (by omega) w14 hCg (C_fr HCd.out HF14.out) (Nat.le_refl _) (Nat.le_refl _)).mono ?_
  rintro e w15 ⟨rfl, g⟩
  have HF15 := Lib.hid (HF8.out.trans' (HF14.out.trans' g))
  clear hCg g
  dsimp only
  go_wp2_with fail
  have hb : ∀ x ∈ l, (Err.i64 x.Ratio ∧ Err.i64 x.Series) := fun x hx => ⟨Go.bounds_i64 (HK.out.2.1 x hx).2.2, Go.bounds_i64 (HK.out.2.1 x hx).1⟩
  have hsz : ∀ x ∈ l, (numB x.Ratio).size ≤ 30 ∧ (numB x.Series).size ≤ 30 := fun x hx => ⟨itoB_size _ (hb x hx).1, itoB_size _ (hb x hx).2⟩
  have htl : (txt l).length ≤ 10000 := by have := txt_len l hsz; omega
  have htx := fun W (h : Fr no w W) => text_c A c l W (C_fr HK.out.1 h) (by omega) (by omega) (fun x hx => ⟨⟨fun V g => ptext_g _ (hb x hx).1 V (HK.out.2.2.2.2.fr (h.trans' g)), fun V g => ptext_g _ (hb x hx).2 V (HK.out.2.2.2.2.fr (h.trans' g))⟩, hsz x hx⟩) htl
  have hrx := fun W Ar cr (hr : PLegsAny.k52.C W Ar (l.map toR).length (l.map toR)) => rtext_c Ar cr l W hr (by omega) (fun x hx => ⟨⟨fun V g => rtext_g _ (hb x hx).1 V, fun V g => rtext_g _ (hb x hx).2 V⟩, hsz x hx⟩)
  obtain ⟨tx, htb⟩ : ∃ b, (⟨(txt l).toArray⟩ : ByteArray) = b := ⟨_, rfl⟩
  rw [htb] at htx hrx
  have HRX := Lib.hid hrx
  clear hb hsz htl htb hrx
  refine (htx _ HF15.out).mono ?_
  clear htx
  rintro e w16 ⟨rfl, g⟩
  have HF16 := Lib.hid (HF15.out.trans' g)
  clear g
  dsimp only
  go_wp2_with fail
  refine (of_c A c l (by omega) hc w16 (C_fr HK.out.1 HF16.out)).mono ?_
  rintro e w17 ⟨⟨v, rfl, hR⟩, hf6⟩
  obtain ⟨A7, c7, rfl, hc7, hC7⟩ := Kd.R_reads hR
  rw [List.length_map] at hc7 ⊢
  clear hR
  dsimp only
  go_wp2_with fail
  refine (HRX.out w17 A7 c7 hC7).mono ?_
  clear HRX
  rintro e w18 ⟨rfl, hf7⟩
  have HF18 := Lib.hid (HF16.out.trans' (hf6.trans' hf7))
  clear hf6 hf7 hC7
  dsimp only
  go_wp2_with fail
  refine (turned_c A c l w18 (C_fr HK.out.1 HF18.out) hc (by omega)).mono ?_
  rintro e w19 ⟨⟨v, rfl, hv⟩, g⟩
  obtain ⟨A8, rfl, hC8⟩ := hv.reads
  have HF19 := Lib.hid (HF18.out.trans' g)
  have hl8 : (turnL l).length ≤ 1000000 := by rw [turnL_length]; omega
  clear hv g
  dsimp only
  go_wp2_with fail
  refine (of_c A8 (turnL l).length (turnL l) hl8 (Nat.le_refl _) w19 hC8).mono ?_
  rintro e w20 ⟨⟨v, rfl, hR⟩, g⟩
  obtain ⟨A9, c9, rfl, hc9, hC9⟩ := Kd.R_reads hR
  rw [List.length_map] at hc9 ⊢
  have HF20 := Lib.hid (HF19.out.trans' g)
  clear hR g hC8
  dsimp only
  go_wp2_with fail
  refine (of_c A c l (by omega) hc w20 (C_fr HK.out.1 HF20.out)).mono ?_
  rintro e w21 ⟨⟨v, rfl, hR⟩, hf6⟩
  obtain ⟨A10, c10, rfl, hc10, hC10⟩ := Kd.R_reads hR
  rw [List.length_map] at hc10 ⊢
  clear hR
  dsimp only
  go_wp2_with fail
  refine (rturn_c A10 c10 l (by omega) hc10 w21 hC10).mono ?_
  rintro e w22 ⟨⟨v, rfl, hR⟩, hf7⟩
  obtain ⟨A11, c11, rfl, hc11, hC11⟩ := Kd.R_reads hR
  rw [List.length_map] at hc11 ⊢
  have HC9 := Lib.hid (C_fr hC9 (hf6.trans' hf7))
  have HF22 := Lib.hid (HF20.out.trans' (hf6.trans' hf7))
  clear hR hC9 hC10 hf6 hf7
  dsimp only
  go_wp2_with fail
  refine (rsame_c A9 A11 c9 c11 (turnL l) (turnL l) rfl hl8 w22 HC9.out hC11 hc9 hc11).mono ?_
  rintro e w23 ⟨rfl, g⟩
  have HF23 := Lib.hid (HF22.out.trans' g)
  clear g hC11
  dsimp only
  go_wp2
  go_ret
  exact ⟨rfl, HF23.out⟩
theorem kl_nil (w : World) : kLeg.C w none ([] : List Leg).length [] := ⟨rfl, by decide, fun h => absurd h (Nat.lt_irrefl 0)⟩
set_option maxRecDepth 100000 in
set_option maxHeartbeats 8000000 in
theorem any_bad (w : World) (hg : ErrType w) (A : Option Addr) (c : Nat) (l : List Leg) (hC : kLeg.C w A l.length l) (hc : l.length ≤ c) (hl : l.length ≤ 20) (n : Nat) (k : Int) (hk : wrong l = some (n, k)) :
    Calls Tryz.prog 3 #[.slice A l.length c] w fun e w' => e = .returned (.bool true) ∧ Fr no w w' := by
  have hbd := wrong_bd hk
  have HK := Lib.hid (And.intro hC (And.intro hg (And.intro hk hbd)))
  have d1 : decide ((20 : Int) < (l.length : Int)) = false := by simp; omega
  clear hC hk hg hbd
  go_enter Tryz.func3, Tryz.ntmps3
  go_wp2_with fail
  refine (known_c w).mono ?_
  rintro e w1 ⟨rfl, hf1⟩
  dsimp only
  go_wp2_with fail
  refine (of_c A c l (by omega) hc w1 (C_fr HK.out.1 hf1)).mono ?_
  rintro e w2 ⟨⟨v, rfl, hR⟩, hf2⟩
  obtain ⟨Ar, cr, rfl, hcr, hCr⟩ := Kd.R_reads hR
  rw [List.length_map] at hcr ⊢
  have hf02 := hf1.trans' hf2
  clear hf1 hf2 hR
  dsimp only
  go_wp2_with fail
  refine (rcheck_c Ar cr l (by omega) hcr w2 hCr).mono ?_
  rintro e w3 ⟨⟨v, rfl, hA⟩, hf3⟩
  obtain ⟨G1, c1, rfl, hG1⟩ := hA.2 n k HK.out.2.2.1
  have hf03 := hf02.trans' hf3
  clear hf02 hf3 hCr hA
  have hX := blk_new w3 (.cells #[.slice (some ⟨G1, 0, none⟩) 1 c1, .int .i64 k] 26)
  have hfx := (Fr.refl no w3).alloc (.cells #[.slice (some ⟨G1, 0, none⟩) 1 c1, .int .i64 k] 26)
  dsimp only
  go_wp2_with fail
  generalize w3.alloc _ = w4 at *
  generalize w3.heap.size = X at *
  have HX := Lib.hid hX
  have HF4 := Lib.hid (hf03.trans' hfx)
  have HG1 : Hid (∀ u, Fr no w4 u → PartAt u G1 legW n) := fun u h => ⟨(hfx.trans' h).cell hG1.1 (fun h => h), (hfx.trans' h).cell hG1.2 (fun h => h)⟩
  clear hX hfx hf03 hG1
  refine (canon_no A c l w4 (C_fr HK.out.1 HF4.out) hc n k HK.out.2.2.1).mono ?_
  rintro e w5 ⟨⟨F1, rfl, hF1⟩, hf5⟩
  have HF5 := Lib.hid (HF4.out.trans' hf5)
  have HX5 := Lib.hid hf5
  clear hf5
  dsimp only
  go_wp2_with fail
  refine (of_c A c l (by omega) hc w5 (C_fr HK.out.1 HF5.out)).mono ?_
  rintro e w6 ⟨⟨v, rfl, hR⟩, hf6⟩
  obtain ⟨Ar, cr, rfl, hcr, hCr⟩ := Kd.R_reads hR
  rw [List.length_map] at hcr ⊢
  clear hR
  dsimp only
  go_wp2_with fail
  have hra := rcanon_c Ar cr l (by omega) hcr w6 hCr
  have hca : canonA l = ([], false) := by unfold canonA; rw [if_neg (by rw [HK.out.2.2.1]; exact Option.some_ne_none _)]
  rw [hca, HK.out.2.2.1] at hra
  refine hra.mono ?_
  clear hra hca hCr
  rintro e w7 ⟨⟨v, u, rfl, hRow, hWr⟩, hf7⟩
  obtain ⟨G2, c2, rfl, hG2⟩ := hWr.2 n k rfl
  obtain ⟨Ae, ce, rfl, hce, hCe⟩ := hRow
  have hY := blk_new w7 (.cells #[.slice (some ⟨G2, 0, none⟩) 1 c2, .int .i64 k] 26)
  have hfy := (Fr.refl no w7).alloc (.cells #[.slice (some ⟨G2, 0, none⟩) 1 c2, .int .i64 k] 26)
  have hfb := (hf6.trans' hf7).trans' hfy
  have hCe2 := C_fr hCe hfy
  clear hWr hf6 hf7 hCe
  dsimp only
  go_wp2_with fail
  generalize w7.alloc _ = w8 at *
  generalize w7.heap.size = Y at *
  have HP : Hid (∀ u, Fr no w8 u → (u.cell? ⟨X, 0, none⟩ = some (.slice (some ⟨G1, 0, none⟩) 1 c1) ∧ u.cell? ⟨X, 1, none⟩ = some (.int .i64 k)) ∧ u.cell? ⟨Y, 0, none⟩ = some (.slice (some ⟨G2, 0, none⟩) 1 c2) ∧ u.cell? ⟨Y, 1, none⟩ = some (.int .i64 k)) := fun u h =>
    have h2 := (HX5.out.trans' hfb).trans' h
    ⟨⟨blk_cell (h2.heap HX.out (fun h => h)) 0, blk_cell (h2.heap HX.out (fun h => h)) 1⟩, blk_cell (h.heap hY (fun h => h)) 0, blk_cell (h.heap hY (fun h => h)) 1⟩
  have HG2 : Hid (∀ u, Fr no w8 u → PartAt u G2 legW n) := fun u h => ⟨(hfy.trans' h).cell hG2.1 (fun h => h), (hfy.trans' h).cell hG2.2 (fun h => h)⟩
  have HF1 : Hid (∀ u, Fr no w8 u → FaultAt u F1 legW n k) := fun u h => (hfb.trans' h).heap hF1 (fun h => h)
  have HG18 : Hid (∀ u, Fr no w8 u → PartAt u G1 legW n) := fun u h => HG1.out u ((HX5.out.trans' hfb).trans' h)
  have HCe := Lib.hid hCe2
  have HF8 := Lib.hid (HF5.out.trans' hfb)
  clear HX HX5 hY hfb hfy hCe2 HF5 HF4 hG2 hF1 HG1
  have hfd := (Fr.refl no w8).drew
  have hpl := HP.out _ hfd
  refine wp_region_plan (fun u => (u.cell? ⟨X, 0, none⟩ = some (.slice (some ⟨G1, 0, none⟩) 1 c1) ∧ u.cell? ⟨X, 1, none⟩ = some (.int .i64 k)) ∧ u.cell? ⟨Y, 0, none⟩ = some (.slice (some ⟨G2, 0, none⟩) 1 c2) ∧ u.cell? ⟨Y, 1, none⟩ = some (.int .i64 k)) [(0, false), (2, false), (1, true), (3, true), (4, false), (5, false), (6, false), (7, false), (8, true), (9, false), (10, false), (11, false), (12, false), (14, false), (13, true), (15, true), (16, false), (17, false), (18, false), (19, false), (20, false), (21, false), (22, false)] (by kernel_rfl) (by kernel_rfl) (fun _ _ _ _ _ h => h) (hpl) ?_
  simp only [planOps, List.getElem?_toArray, List.getElem?_cons_succ, List.getElem?_cons_zero]
  repeat (first
    | (refine plan_step (by rfl) ?_; apply Exists.intro; refine ⟨fun x hSx => ?_, ?_⟩; ((try dsimp only at hSx); go_simp; (try rw [if_neg (by omega)]); (try with_reducible rfl)); (simp only [Act.put, List.setIfInBounds_toArray, List.set_cons_zero, List.set_cons_succ]))
    | (refine plan_skip (by rfl) ?_; (simp only [Act.put, List.setIfInBounds_toArray, List.set_cons_zero, List.set_cons_succ])))
  refine plan_run (by rfl) (fun K hK => ?_)
  go_simp
  refine (check_c A c l _ (C_fr HK.out.1 (HF8.out.trans' hfd)) hc).mono ?_
  rintro e w9 ⟨⟨v, rfl, hA⟩, g⟩
  obtain ⟨F2, rfl, hF2⟩ := hA.2 n k HK.out.2.2.1
  have hf9 := hfd.trans' g
  have q9 := HP.out _ hf9
  clear g hA
  dsimp only
  refine hK.out (fun u => True) _ _ (q9) (trivial) ?_
  clear hK K
  try simp only [Act.put, List.setIfInBounds_toArray, List.set_cons_zero, List.set_cons_succ]
  repeat (first
    | (refine plan_step (by rfl) ?_; apply Exists.intro; refine ⟨fun x hSx => ?_, ?_⟩; ((try dsimp only at hSx); go_simp; (try rw [if_neg (by omega)]); (try with_reducible rfl)); (simp only [Act.put, List.setIfInBounds_toArray, List.set_cons_zero, List.set_cons_succ]))
    | (refine plan_skip (by rfl) ?_; (simp only [Act.put, List.setIfInBounds_toArray, List.set_cons_zero, List.set_cons_succ])))
  refine plan_run (by rfl) (fun K hK => ?_)
  go_simp
  refine (tellsC_c F2 G1 c1 legW n k n rfl (by have := HK.out.2.2.2.1; omega) (by have := HK.out.2.2.2.2; omega) (by have := HK.out.2.2.2.2; omega) (by decide) _ (HK.out.2.1.fr (HF8.out.trans' hf9) (fun h => h)) hF2 (HG18.out _ hf9)).mono ?_
  rintro e w10 ⟨rfl, g⟩
  have hf10 := hf9.trans' g
  have q10 := HP.out _ hf10
  clear g hF2
  dsimp only
  refine hK.out (fun u => True) _ _ (⟨q10, trivial⟩) (trivial) ?_
  clear hK K
  try simp only [Act.put, List.setIfInBounds_toArray, List.set_cons_zero, List.set_cons_succ]
  repeat (first
    | (refine plan_step (by rfl) ?_; apply Exists.intro; refine ⟨fun x hSx => ?_, ?_⟩; ((try dsimp only at hSx); go_simp; (try rw [if_neg (by omega)]); (try with_reducible rfl)); (simp only [Act.put, List.setIfInBounds_toArray, List.set_cons_zero, List.set_cons_succ]))
    | (refine plan_skip (by rfl) ?_; (simp only [Act.put, List.setIfInBounds_toArray, List.set_cons_zero, List.set_cons_succ])))
  refine plan_run (by rfl) (fun K hK => ?_)
  go_simp
  refine (tellsC_c F1 G2 c2 legW n k n rfl (by have := HK.out.2.2.2.1; omega) (by have := HK.out.2.2.2.2; omega) (by have := HK.out.2.2.2.2; omega) (by decide) _ (HK.out.2.1.fr (HF8.out.trans' hf10) (fun h => h)) (HF1.out _ hf10) (HG2.out _ hf10)).mono ?_
  rintro e w11 ⟨rfl, g⟩
  have hf11 := hf10.trans' g
  have q11 := HP.out _ hf11
  clear g
  dsimp only
  refine hK.out (fun u => True) _ _ (⟨⟨q11, trivial⟩, trivial⟩) (trivial) ?_
  clear hK K
  try simp only [Act.put, List.setIfInBounds_toArray, List.set_cons_zero, List.set_cons_succ]
  repeat (first
    | (refine plan_step (by rfl) ?_; apply Exists.intro; refine ⟨fun x hSx => ?_, ?_⟩; ((try dsimp only at hSx); go_simp; (try rw [if_neg (by omega)]); (try with_reducible rfl)); (simp only [Act.put, List.setIfInBounds_toArray, List.set_cons_zero, List.set_cons_succ]))
    | (refine plan_skip (by rfl) ?_; (simp only [Act.put, List.setIfInBounds_toArray, List.set_cons_zero, List.set_cons_succ])))
  refine plan_run (by rfl) (fun K hK => ?_)
  go_simp
  refine (of_c none 0 [] (by decide) (by decide) _ (kl_nil _)).mono ?_
  rintro e w12 ⟨⟨v, rfl, hR⟩, g⟩
  obtain ⟨As, cs, rfl, hcs, hCs⟩ := Kd.R_reads hR
  rw [List.length_map] at hcs ⊢
  have hf12 := hf11.trans' g
  have q12 := HP.out _ hf12
  clear g hR
  dsimp only
  refine hK.out (fun u => True) _ _ (⟨⟨⟨q12, trivial⟩, trivial⟩, trivial⟩) (trivial) ?_
  clear hK K
  try simp only [Act.put, List.setIfInBounds_toArray, List.set_cons_zero, List.set_cons_succ]
  repeat (first
    | (refine plan_step (by rfl) ?_; apply Exists.intro; refine ⟨fun x hSx => ?_, ?_⟩; ((try dsimp only at hSx); go_simp; (try rw [if_neg (by omega)]); (try with_reducible rfl)); (simp only [Act.put, List.setIfInBounds_toArray, List.set_cons_zero, List.set_cons_succ]))
    | (refine plan_skip (by rfl) ?_; (simp only [Act.put, List.setIfInBounds_toArray, List.set_cons_zero, List.set_cons_succ])))
  refine plan_run (by rfl) (fun K hK => ?_)
  go_simp
  refine (rsame_c As Ae cs ce [] [] rfl (by decide) _ hCs (C_fr HCe.out hf12) hcs hce).mono ?_
  rintro e w13 ⟨rfl, g⟩
  have hf13 := hf12.trans' g
  have q13 := HP.out _ hf13
  clear g hCs
  dsimp only
  refine hK.out (fun u => True) _ _ (⟨⟨⟨⟨q13, trivial⟩, trivial⟩, trivial⟩, trivial⟩) (trivial) ?_
  clear hK K
  try simp only [Act.put, List.setIfInBounds_toArray, List.set_cons_zero, List.set_cons_succ]
  repeat (first
    | (refine plan_step (by rfl) ?_; apply Exists.intro; refine ⟨fun x hSx => ?_, ?_⟩; ((try dsimp only at hSx); go_simp; (try rw [if_neg (by omega)]); (try with_reducible rfl)); (simp only [Act.put, List.setIfInBounds_toArray, List.set_cons_zero, List.set_cons_succ]))
    | (refine plan_skip (by rfl) ?_; (simp only [Act.put, List.setIfInBounds_toArray, List.set_cons_zero, List.set_cons_succ])))
  refine plan_done ?_
  have HFE := Lib.hid (HF8.out.trans' hf13)
  obtain ⟨⟨k0, k1⟩, _⟩ := q13
  have q1 : (k != 0) = true := by rcases HK.out.2.2.2.2 with h | h <;> rw [h] <;> rfl
  clear q9 q10 q11 q12 hfd hf9 hf10 hf11 hf12 hf13 hpl
  go_wp2
  go_ret
  exact ⟨rfl, HFE.out⟩
theorem any_long (w : World) (A : Option Addr) (c : Nat) (l : List Leg) (hl : 20 < l.length) :
    Calls Tryz.prog 3 #[.slice A l.length c] w fun e w' => e = .returned (.bool true) ∧ Fr no w w' := by
  have d1 : decide ((20 : Int) < (l.length : Int)) = true := by simp; omega
  go_enter Tryz.func3, Tryz.ntmps3
  go_wp2_with fail
  refine (known_c w).mono ?_
  rintro e w1 ⟨rfl, hf1⟩
  dsimp only
  go_wp2
  go_ret
  exact ⟨rfl, hf1⟩
theorem tab_of {w : World} (h : Lib.VarReads Tryz.prog w "internal/strconv.uint64pow10" (Lib.tabData .u64 Lib.pow10Tab)) : Err.Tab w := by
  obtain ⟨g', t', cs, fuel, p', hg', ht', hvar, hd⟩ := h
  obtain rfl := Option.some.inj ((show Tryz.prog.globalNamed "internal/strconv.uint64pow10" = some 1 by kernel_rfl).symm.trans hg')
  obtain rfl := Option.some.inj ((show (Tryz.prog.globals[1]?).map (·.type) = some 153 by kernel_rfl).symm.trans ht')
  unfold Err.Tab Lib.TabIs
  rw [hvar, ← Lib.cells_of_tab Tryz.underlying153 Tryz.underlying80 (by kernel_rfl) (by kernel_rfl) hd]
theorem any_row (w : World) (hL : laidMetH Tryz.prog [("math/bits.deBruijn32tab", Rows.laid_math_bits_deBruijn32tab), ("math/bits.deBruijn64tab", Rows.laid_math_bits_deBruijn64tab), ("internal/strconv.uint64pow10", Rows.laid_internal_strconv_uint64pow10), ("errors.errorType", Rows.laid_errors_errorType)] w)
    (A : Option Addr) (c : Nat) (l : List Leg) (hC : kLeg.C w A l.length l) (hc : l.length ≤ c) (hw : ∀ x ∈ l, wfLeg x) :
    Calls Tryz.prog 3 #[.slice A l.length c] w fun e w' => e = .returned (.bool true) ∧ Fr no w w' := by
  have h' : laidMet Tryz.prog _ w ∧ handlesMet Tryz.prog [("errors.errorType", Rows.laid_errors_errorType)] w := hL
  have h3 : laidMet Tryz.prog [("math/bits.deBruijn32tab", Rows.laid_math_bits_deBruijn32tab), ("math/bits.deBruijn64tab", Rows.laid_math_bits_deBruijn64tab), ("internal/strconv.uint64pow10", Rows.laid_internal_strconv_uint64pow10)] w := h'.1
  have ht : Err.Tab w := tab_of (Lib.laidMet.reads h3 (.tail _ (.tail _ (.head _))))
  by_cases hl : 20 < l.length
  · exact any_long w A c l hl
  cases hk : wrong l with
  | none => exact any_good w (errType_of_handles h'.2) ht A c l hC hc hw hk
  | some a => exact any_bad w (errType_of_handles h'.2) A c l hC hc (by omega) a.1 a.2 hk
end Go.Proofs.YtdgeakojdafipaaGreatDoor.Legs
