import Derived.Test.YtdgeakojdafipaaGreatDoorLegK
import Derived.Sort.LotA
import Derived.Shelf.SlSortCmp.SmallK
/-! Legs in plain Lean: what is wrong with them, their one form, their net. -/
set_option linter.unusedVariables false
set_option linter.unusedSimpArgs false
namespace Go.Proofs.YtdgeakojdafipaaGreatDoor.Legs
open Go.Sort Go.RowKit Go.Proofs.YtdgeakojdafipaaGreatDoorW.PrintWords

theorem leg_ext {a b : Leg} (h1 : a.Series = b.Series) (h2 : a.Sign = b.Sign) (h3 : a.Ratio = b.Ratio) : a = b := by
  cases a; cases b; simp_all
def okB (x : Leg) : Bool := decide (1 ≤ x.Series) && ((x.Sign == 1 || x.Sign == -1) && (decide (1 ≤ x.Ratio) && decide (x.Ratio ≤ 4)))
theorem okB_iff {x : Leg} : okB x = true ↔ 1 ≤ x.Series ∧ (x.Sign = 1 ∨ x.Sign = -1) ∧ 1 ≤ x.Ratio ∧ x.Ratio ≤ 4 := by simp [okB]
instance : Inhabited Leg := ⟨zLeg⟩
def lg (l : List Leg) (i : Nat) : Leg := l[i]?.getD zLeg
theorem lg_lt {l : List Leg} {i : Nat} (h : i < l.length) : lg l i = l[i] := by simp [lg, h]
def twice (l : List Leg) (i : Nat) : Bool := (l.take i).any fun y => y.Series == (lg l i).Series
def wrongFrom (l : List Leg) : Nat → Nat → Option (Nat × Int)
  | 0, _ => none
  | n + 1, i => if okB (lg l i) = false then some (i, 1) else if twice l i = true then some (i, 6) else wrongFrom l n (i + 1)
/-- What is wrong with legs, and where. -/
def wrong (l : List Leg) : Option (Nat × Int) := if l.length < 2 then some (l.length, 1) else if 4 < l.length then some (4, 1) else wrongFrom l l.length 0
structure Good (l : List Leg) : Prop where
  lo : 2 ≤ l.length
  hi : l.length ≤ 4
  ok : ∀ x ∈ l, okB x = true
  nd : l.Pairwise fun a b => a.Series ≠ b.Series
theorem wrongFrom_none {l : List Leg} : ∀ {n i : Nat}, wrongFrom l n i = none ↔ ∀ j, i ≤ j → j < i + n → okB (lg l j) = true ∧ twice l j = false
  | 0, i => by simp [wrongFrom]; intro j h1 h2; omega
  | n + 1, i => by
    unfold wrongFrom
    constructor
    · intro h j h1 h2
      split at h
      · cases h
      · split at h
        · cases h
        · rename_i a b
          by_cases hj : j = i
          · subst hj
            exact ⟨by simpa using a, by simpa using b⟩
          · exact wrongFrom_none.1 h j (by omega) (by omega)
    · intro h
      obtain ⟨a, b⟩ := h i (Nat.le_refl _) (by omega)
      rw [if_neg (by simp [a]), if_neg (by simp [b])]
      exact wrongFrom_none.2 fun j h1 h2 => h j (by omega) (by omega)
theorem wrongFrom_bd {l : List Leg} : ∀ {n i : Nat} {a : Nat × Int}, wrongFrom l n i = some a → a.1 < i + n ∧ (a.2 = 1 ∨ a.2 = 6)
  | 0, i, a, h => by simp [wrongFrom] at h
  | n + 1, i, a, h => by
    unfold wrongFrom at h
    split at h
    · cases h; exact ⟨by simp, .inl rfl⟩
    · split at h
      · cases h; exact ⟨by simp, .inr rfl⟩
      · have := wrongFrom_bd h; omega
theorem wrong_bd {l : List Leg} {a : Nat × Int} (h : wrong l = some a) : a.1 ≤ 4 ∧ (a.2 = 1 ∨ a.2 = 6) := by
  unfold wrong at h
  split at h
  · cases h; exact ⟨by dsimp only; omega, .inl rfl⟩
  · split at h
    · cases h; exact ⟨by simp, .inl rfl⟩
    · have := wrongFrom_bd h; omega
theorem twice_false {l : List Leg} {j : Nat} (hj : j < l.length) : twice l j = false ↔ ∀ i (hi : i < j), l[i].Series ≠ l[j].Series := by
  unfold twice
  rw [lg_lt hj, List.any_eq_false]
  constructor
  · intro h i hi
    have := h l[i] (by rw [List.mem_take_iff_getElem]; exact ⟨i, by omega, rfl⟩)
    simpa using this
  · intro h x hx
    obtain ⟨i, hi, rfl⟩ := List.mem_take_iff_getElem.1 hx
    simpa using h i (by omega)
theorem good_iff {l : List Leg} : wrong l = none ↔ Good l := by
  unfold wrong
  constructor
  · intro h
    split at h
    · cases h
    · split at h
      · cases h
      · rw [wrongFrom_none] at h
        refine ⟨by omega, by omega, fun x hx => ?_, ?_⟩
        · obtain ⟨i, hi, rfl⟩ := List.getElem_of_mem hx
          have := (h i (by omega) (by omega)).1
          rwa [lg_lt hi] at this
        · rw [List.pairwise_iff_getElem]
          intro i j hi hj hij
          exact (twice_false hj).1 (h j (by omega) (by omega)).2 i hij
  · intro h
    have h1 := h.lo
    have h2 := h.hi
    rw [if_neg (by omega), if_neg (by omega), wrongFrom_none]
    intro j _ hj
    have hj' : j < l.length := by omega
    refine ⟨by rw [lg_lt hj']; exact h.ok _ (List.getElem_mem hj'), (twice_false hj').2 fun i hi => ?_⟩
    exact List.pairwise_iff_getElem.1 h.nd i j (by omega) hj' hi

/-! ### sorted -/
def cf (x y : Leg) : Int := Lib.compareInt x.Series y.Series
theorem cf_lt (x y : Leg) : ltOf cf x y = decide (x.Series < y.Series) := by
  unfold ltOf cf Lib.compareInt
  by_cases h1 : x.Series < y.Series
  · simp [h1]
  · by_cases h2 : y.Series < x.Series <;> simp [h1, h2]
theorem swo_cf : SWO (ltOf cf) where
  irrefl x := by rw [cf_lt]; simp
  trans x y z h1 h2 := by rw [cf_lt] at *; simp at *; omega
  ntrans x y z h1 h2 := by rw [cf_lt] at *; simp at *; omega
def srt (l : List Leg) : List Leg := (insertionSort (ltOf cf) l.toArray 0 l.toArray.size).toList
abbrev Asc (l : List Leg) : Prop := l.Pairwise fun a b => a.Series < b.Series
theorem asc_unique : ∀ {l m : List Leg}, l.Perm m → Asc l → Asc m → l = m
  | [], m, h, _, _ => (List.nil_perm.1 h).symm
  | a :: r, [], h, _, _ => absurd h.length_eq (by simp)
  | a :: r, b :: s, h, h1, h2 => by
    have e : a = b := by
      rcases List.mem_cons.1 (h.subset (List.mem_cons_self)) with e | e
      · exact e
      rcases List.mem_cons.1 (h.symm.subset (List.mem_cons_self)) with e2 | e2
      · exact e2.symm
      have a1 := (List.pairwise_cons.1 h1).1 b e2
      have a2 := (List.pairwise_cons.1 h2).1 a e
      omega
    subst e
    rw [asc_unique (List.Perm.cons_inv h) (List.pairwise_cons.1 h1).2 (List.pairwise_cons.1 h2).2]
theorem srt_spec {l : List Leg} (hn : l.Pairwise fun a b => a.Series ≠ b.Series) : (srt l).Perm l ∧ Asc (srt l) := by
  obtain ⟨⟨h1, _, h2⟩, h3⟩ := insertionSort_holds swo_cf l.toArray 0 l.toArray.size (Nat.zero_le _) (Nat.le_refl _)
  have hp : (srt l).Perm l := by
    have e1 : ((insertionSort (ltOf cf) l.toArray 0 l.toArray.size).extract 0 l.toArray.size) = insertionSort (ltOf cf) l.toArray 0 l.toArray.size := by
      generalize insertionSort (ltOf cf) l.toArray 0 l.toArray.size = r at h1
      rw [← h1]
      simp
    rw [e1, Array.extract_size] at h2
    exact h2
  refine ⟨hp, ?_⟩
  have hs : (srt l).length = l.toArray.size := by have := hp.length_eq; simpa using this
  have hnd : (srt l).Pairwise fun a b => a.Series ≠ b.Series := (hp.pairwise_iff (fun h => h.symm)).2 hn
  rw [Asc, List.pairwise_iff_getElem]
  intro i j hi hj hij
  have a1 := h3 i j (Nat.zero_le _) hij (by omega)
  have a2 := List.pairwise_iff_getElem.1 hnd i j hi hj hij
  have e : ∀ k (hk : k < (srt l).length), (insertionSort (ltOf cf) l.toArray 0 l.toArray.size)[k]! = (srt l)[k] := fun k hk => by
    have hk' : k < (insertionSort (ltOf cf) l.toArray 0 l.toArray.size).size := hk
    rw [getElem!_pos _ k hk']; rfl
  rw [e j hj, e i hi, cf_lt] at a1
  have a1 : ¬ (srt l)[j].Series < (srt l)[i].Series := by simpa using a1
  omega
theorem srt_eq {l m : List Leg} (hn : l.Pairwise fun a b => a.Series ≠ b.Series) (hp : m.Perm l) (ha : Asc m) : srt l = m :=
  asc_unique ((srt_spec hn).1.trans hp.symm) (srt_spec hn).2 ha

/-! ### the greatest divisor of all -/
def gcdF (a b : Int) : Int := (Int.gcd a b : Int)
def allG (l : List Leg) : Int := l.foldl (fun g x => gcdF g x.Ratio) 0
def dv (g : Int) (l : List Leg) : List Leg := l.map fun x => { x with Ratio := x.Ratio / g }
def turn1 (x : Leg) : Leg := { x with Sign := wrap64 (-x.Sign) }
def turnL (l : List Leg) : List Leg := l.map turn1
def canonF (l : List Leg) : List Leg × Bool :=
  if (lg (dv (allG (srt l)) (srt l)) 0).Sign = 1 then (dv (allG (srt l)) (srt l), false) else (turnL (dv (allG (srt l)) (srt l)), true)
theorem gcdF_dvd (a b d : Int) : d ∣ gcdF a b ↔ d ∣ a ∧ d ∣ b := by
  unfold gcdF
  exact ⟨fun h => ⟨Int.dvd_trans h (Int.gcd_dvd_left ..), Int.dvd_trans h (Int.gcd_dvd_right ..)⟩, fun h => Int.dvd_coe_gcd h.1 h.2⟩
theorem gcdF_nonneg (a b : Int) : 0 ≤ gcdF a b := by unfold gcdF; omega
theorem foldG_dvd (l : List Leg) : ∀ (g d : Int), d ∣ l.foldl (fun g x => gcdF g x.Ratio) g ↔ d ∣ g ∧ ∀ x ∈ l, d ∣ x.Ratio := by
  induction l with
  | nil => simp
  | cons a r ih => intro g d; simp only [List.foldl_cons, ih, gcdF_dvd, List.mem_cons, forall_eq_or_imp, and_assoc]
theorem foldG_nonneg (l : List Leg) : ∀ (g : Int), 0 ≤ g → 0 ≤ l.foldl (fun g x => gcdF g x.Ratio) g := by
  induction l with
  | nil => simp
  | cons a r ih => intro g h; exact ih _ (gcdF_nonneg _ _)
theorem allG_dvd (l : List Leg) (d : Int) : d ∣ allG l ↔ ∀ x ∈ l, d ∣ x.Ratio := by
  unfold allG; rw [foldG_dvd]; simp
theorem allG_nonneg (l : List Leg) : 0 ≤ allG l := foldG_nonneg l 0 (Int.le_refl _)
/-- What divides as much, and is no less than none, is it. -/
theorem allG_eq {l : List Leg} {g : Int} (h0 : 0 ≤ g) (h : ∀ d : Int, d ∣ g ↔ ∀ x ∈ l, d ∣ x.Ratio) : allG l = g := by
  have h1 : allG l ∣ g := (h _).2 ((allG_dvd l _).1 (Int.dvd_refl _))
  have h2 : g ∣ allG l := (allG_dvd l _).2 ((h _).1 (Int.dvd_refl _))
  exact Int.dvd_antisymm (allG_nonneg l) h0 h1 h2
theorem allG_perm {l m : List Leg} (h : l.Perm m) : allG l = allG m :=
  allG_eq (allG_nonneg m) fun d => (allG_dvd m d).trans ⟨fun hx x hm => hx x (h.subset hm), fun hx x hm => hx x (h.symm.subset hm)⟩
theorem allG_pos {l : List Leg} (h : ∀ x ∈ l, okB x = true) (hl : 0 < l.length) : 1 ≤ allG l := by
  have h0 := allG_nonneg l
  rcases Int.lt_or_eq_of_le h0 with h1 | h1
  · omega
  · have h2 := (allG_dvd l 0).1 (by rw [← h1]; exact Int.dvd_refl _) l[0] (List.getElem_mem hl)
    have h3 := okB_iff.1 (h _ (List.getElem_mem hl))
    have h4 := Int.zero_dvd.1 h2
    omega
theorem allG_le {l : List Leg} (h : ∀ x ∈ l, okB x = true) (hl : 0 < l.length) : allG l ≤ 4 := by
  have h2 := (allG_dvd l (allG l)).1 (Int.dvd_refl _) l[0] (List.getElem_mem hl)
  have h3 := okB_iff.1 (h _ (List.getElem_mem hl))
  have := Int.le_of_dvd (by omega) h2
  omega
end Go.Proofs.YtdgeakojdafipaaGreatDoor.Legs
