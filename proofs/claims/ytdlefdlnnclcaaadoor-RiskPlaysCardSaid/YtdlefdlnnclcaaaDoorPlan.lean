import Derived.Test.YtdlefdlnnclcaaaDoorBase
import Derived.Deep.RegionHeld3
/-! A region that draws its order, walked by ONE plan: what yields the same in every world that meets S is taken when it may come up; what changes the world comes up alone, and S may be made narrower behind it; where several that change it may come up, the ways part. -/
set_option linter.unusedVariables false
set_option linter.unusedSimpArgs false
namespace Go.Proofs.YtdlefdlnnclcaaaDoor.B
open Go

section
variable {P : Program} {ops : Array Oper} {Q : Exit → Act → World → Prop} {md : Region.Mode}

theorem wpAnyH_weaken {S S' : World → Prop} (hs : ∀ x, S' x → S x) : ∀ (fuel : Nat) (listed : Array Bool) (a : Act) (w : World), wpAnyH P md ops Q S' fuel listed a w → wpAnyH P md ops Q S fuel listed a w
  | 0, _, _, _, h => h
  | fuel + 1, _, _, _, h => ⟨h.1, fun i hi => wpOp_mono (fun a' w' h' => ⟨hs _ h'.1, wpAnyH_weaken hs fuel _ a' w' h'.2⟩) (h.2 i hi)⟩

/-- What an operation waits for, looks at, writes: as bits. -/
def depN (md : Region.Mode) (o : Oper) : Nat := o.after.toList.foldr (fun e m => if Region.binds md e then Nat.lor (Nat.shiftLeft 1 e.on) m else m) 0
def lookN (ops : Array Oper) (o : Oper) : Nat := (o.looksAt ops).foldr (fun t m => Nat.lor (Nat.shiftLeft 1 t) m) 0
def dstN (o : Oper) : Nat := match o.dst with
  | some d => Nat.shiftLeft 1 d
  | none => 0
def depDst (md : Region.Mode) (ops : Array Oper) (o : Oper) : Nat := o.after.toList.foldr (fun e m => if Region.binds md e then Nat.lor (match ops[e.on]? with | some x => dstN x | none => 0) m else m) 0
def apartL : List Oper → Nat → Bool
  | [], _ => true
  | o :: r, acc => Nat.beq (Nat.land (dstN o) acc) 0 && apartL r (Nat.lor (dstN o) acc)
def allDst : List Oper → Nat
  | [] => 0
  | o :: r => Nat.lor (dstN o) (allDst r)
/-- Whoever waits for one of D, over others too (the operations in line, from number k on). -/
def after_ (md : Region.Mode) : List Oper → Nat → Nat → Nat
  | [], _, D => D
  | o :: r, k, D => after_ md r (k + 1) (if Nat.beq (Nat.land (depN md o) D) 0 then D else Nat.lor (Nat.shiftLeft 1 k) D)
def followers (md : Region.Mode) (ops : Array Oper) (i : Nat) : Nat := after_ md ops.toList 0 (Nat.shiftLeft 1 i)
def dstsIn (D : Nat) : List Oper → Nat → Nat
  | [], _ => 0
  | o :: r, k => if Nat.testBit D k then Nat.lor (dstN o) (dstsIn D r (k + 1)) else dstsIn D r (k + 1)
def subN (a b : Nat) : Bool := Nat.beq (Nat.lor a b) b
def looksL (md : Region.Mode) (ops : Array Oper) (all : Nat) : List Oper → Nat → Bool
  | [], _ => true
  | o :: r, k => (subN (Nat.land (lookN ops o) all) (depDst md ops o) || subN (Nat.land (lookN ops o) all) (Nat.lor (depDst md ops o) (dstsIn (followers md ops k) ops.toList 0))) && looksL md ops all r (k + 1)
/-- Each operation's results are its own; whoever looks at one waits for it, or is waited for. -/
def regionOk (md : Region.Mode) (ops : Array Oper) : Bool := Region.noSelect ops && (apartL ops.toList 0 && looksL md ops (allDst ops.toList) ops.toList 0)
/-- None but number i may come up. -/
def lone (md : Region.Mode) (i m : Nat) : List Oper → Nat → Bool
  | [], _ => true
  | o :: r, k => (Nat.beq k i || (Nat.testBit m k || !(Nat.beq (Nat.lor (depN md o) m) m))) && lone md i m r (k + 1)
def planN (md : Region.Mode) (ops : Array Oper) : List (Nat × Bool) → Nat → Bool
  | [], _ => true
  | (i, b) :: r, m => (match ops[i]? with
      | none => false
      | some o => !Nat.testBit m i && (Nat.beq (Nat.lor (depN md o) m) m && (!b || lone md i m ops.toList 0))) && planN md ops r (Nat.lor (Nat.shiftLeft 1 i) m)
/-- What has come up behind a plan. -/
def marksN : List (Nat × Bool) → Nat → Nat
  | [], m => m
  | (i, _) :: r, m => marksN r (Nat.lor (Nat.shiftLeft 1 i) m)

theorem bit_one (d k : Nat) : Nat.testBit (Nat.shiftLeft 1 d) k = decide (d = k) := by
  show Nat.testBit (1 <<< d) k = _
  rw [Nat.one_shiftLeft, Nat.testBit_two_pow]
theorem bit_or (a b k : Nat) : Nat.testBit (Nat.lor a b) k = (Nat.testBit a k || Nat.testBit b k) := Nat.testBit_or a b k
theorem bit_and (a b k : Nat) : Nat.testBit (Nat.land a b) k = (Nat.testBit a k && Nat.testBit b k) := Nat.testBit_and a b k
theorem beq_spec {a b : Nat} (h : Nat.beq a b = true) : a = b := Nat.eq_of_beq_eq_true h
theorem bit_sub {a b k : Nat} (h : Nat.beq (Nat.lor a b) b = true) (hk : Nat.testBit a k = true) : Nat.testBit b k = true := by
  rw [← beq_spec h, bit_or, hk, Bool.true_or]
theorem dstN_bit (o : Oper) (d : Nat) : Nat.testBit (dstN o) d = true ↔ o.dst = some d := by
  unfold dstN
  cases h : o.dst with
  | none => simp
  | some x =>
    show Nat.testBit (Nat.shiftLeft 1 x) d = true ↔ _
    rw [bit_one]
    simp
theorem lookN_bit (ops : Array Oper) (o : Oper) (t : Nat) (h : t ∈ o.looksAt ops) : Nat.testBit (lookN ops o) t = true := by
  unfold lookN
  generalize o.looksAt ops = l at *
  induction l with
  | nil => cases h
  | cons x r ih =>
    rw [List.foldr_cons, bit_or, bit_one]
    rcases List.mem_cons.1 h with rfl | h
    · simp
    · rw [ih h, Bool.or_true]
theorem depN_bit {md : Region.Mode} {o : Oper} {e : Edge} (he : e ∈ o.after) (hb : Region.binds md e = true) : Nat.testBit (depN md o) e.on = true := by
  unfold depN
  have he' : e ∈ o.after.toList := by simpa using he
  generalize o.after.toList = l at *
  induction l with
  | nil => cases he'
  | cons x r ih =>
    rw [List.foldr_cons]
    rcases List.mem_cons.1 he' with rfl | h
    · rw [if_pos hb, bit_or, bit_one]; simp
    · split
      · rw [bit_or, ih h, Bool.or_true]
      · exact ih h
theorem depN_inv {md : Region.Mode} {o : Oper} {k : Nat} (h : Nat.testBit (depN md o) k = true) : ∃ e ∈ o.after, Region.binds md e = true ∧ e.on = k := by
  unfold depN at h
  have : ∀ l : List Edge, Nat.testBit (l.foldr (fun e m => if Region.binds md e then Nat.lor (Nat.shiftLeft 1 e.on) m else m) 0) k = true → ∃ e ∈ l, Region.binds md e = true ∧ e.on = k := by
    intro l
    induction l with
    | nil => intro h; simp at h
    | cons x r ih =>
      intro h
      rw [List.foldr_cons] at h
      split at h
      · rename_i hb
        rw [bit_or, bit_one, Bool.or_eq_true] at h
        rcases h with h | h
        · exact ⟨x, by simp, hb, by simpa using h⟩
        · obtain ⟨e, h1, h2⟩ := ih h
          exact ⟨e, by simp [h1], h2⟩
      · obtain ⟨e, h1, h2⟩ := ih h
        exact ⟨e, by simp [h1], h2⟩
  obtain ⟨e, h1, h2⟩ := this _ h
  exact ⟨e, by simpa using h1, h2⟩
theorem depDst_inv {md : Region.Mode} {ops : Array Oper} {o : Oper} {d : Nat} (h : Nat.testBit (depDst md ops o) d = true) : ∃ e ∈ o.after, Region.binds md e = true ∧ ∃ x, ops[e.on]? = some x ∧ x.dst = some d := by
  unfold depDst at h
  have : ∀ l : List Edge, Nat.testBit (l.foldr (fun e m => if Region.binds md e then Nat.lor (match ops[e.on]? with | some x => dstN x | none => 0) m else m) 0) d = true → ∃ e ∈ l, Region.binds md e = true ∧ ∃ x, ops[e.on]? = some x ∧ x.dst = some d := by
    intro l
    induction l with
    | nil => intro h; simp at h
    | cons y r ih =>
      intro h
      rw [List.foldr_cons] at h
      split at h
      · rename_i hb
        rw [bit_or, Bool.or_eq_true] at h
        rcases h with h | h
        · cases hx : ops[y.on]? with
          | none => rw [hx] at h; simp at h
          | some x => rw [hx] at h; exact ⟨y, by simp, hb, x, hx, (dstN_bit x d).1 h⟩
        · obtain ⟨e, h1, h2⟩ := ih h
          exact ⟨e, by simp [h1], h2⟩
      · obtain ⟨e, h1, h2⟩ := ih h
        exact ⟨e, by simp [h1], h2⟩
  obtain ⟨e, h1, h2⟩ := this _ h
  exact ⟨e, by simpa using h1, h2⟩
theorem apartL_spec : ∀ (l : List Oper) (acc : Nat), apartL l acc = true → (∀ o ∈ l, ∀ d, o.dst = some d → Nat.testBit acc d = false) ∧ ∀ (i j : Nat) oi oj d, l[i]? = some oi → l[j]? = some oj → oi.dst = some d → oj.dst = some d → i = j
  | [], acc, _ => ⟨(fun o h => by cases h), (fun i j oi oj d h => by simp at h)⟩
  | o :: r, acc, h => by
    simp only [apartL, Bool.and_eq_true] at h
    obtain ⟨h1, h2⟩ := apartL_spec r _ h.2
    have h0 : ∀ d, o.dst = some d → Nat.testBit acc d = false := fun d hd => by
      have h3 := congrArg (fun n => Nat.testBit n d) (beq_spec h.1)
      simp only [bit_and, (dstN_bit o d).2 hd, Bool.true_and] at h3
      simpa using h3
    refine ⟨fun x hx d hd => ?_, fun i j oi oj d hi hj hdi hdj => ?_⟩
    · rcases List.mem_cons.1 hx with rfl | hx
      · exact h0 d hd
      · have h3 := h1 x hx d hd
        rw [bit_or, Bool.or_eq_false_iff] at h3
        exact h3.2
    · cases i with
      | zero =>
        obtain rfl : o = oi := by simpa using hi
        cases j with
        | zero => rfl
        | succ j =>
          have h3 := h1 oj (List.mem_of_getElem? (by simpa using hj)) d hdj
          rw [bit_or, (dstN_bit o d).2 hdi, Bool.true_or] at h3
          cases h3
      | succ i =>
        cases j with
        | zero =>
          obtain rfl : o = oj := by simpa using hj
          have h3 := h1 oi (List.mem_of_getElem? (by simpa using hi)) d hdi
          rw [bit_or, (dstN_bit o d).2 hdj, Bool.true_or] at h3
          cases h3
        | succ j => rw [h2 i j oi oj d (by simpa using hi) (by simpa using hj) hdi hdj]
theorem allDst_bit (l : List Oper) (o : Oper) (d : Nat) (h : o ∈ l) (hd : o.dst = some d) : Nat.testBit (allDst l) d = true := by
  induction l with
  | nil => cases h
  | cons x r ih =>
    rw [allDst, bit_or]
    rcases List.mem_cons.1 h with rfl | h
    · rw [(dstN_bit o d).2 hd, Bool.true_or]
    · rw [ih h, Bool.or_true]
theorem after_mono {md : Region.Mode} : ∀ (l : List Oper) (k D j : Nat), Nat.testBit D j = true → Nat.testBit (after_ md l k D) j = true
  | [], _, _, _, h => h
  | o :: r, k, D, j, h => by
    rw [after_]
    refine after_mono r (k + 1) _ j ?_
    split
    · exact h
    · rw [bit_or, h, Bool.or_true]
theorem land_ne {a b : Nat} (h : ¬ Nat.beq (Nat.land a b) 0 = true) : ∃ k, Nat.testBit a k = true ∧ Nat.testBit b k = true := by
  have h1 : Nat.land a b ≠ 0 := fun h0 => h (by rw [h0]; rfl)
  obtain ⟨k, hk⟩ := Nat.exists_testBit_of_ne_zero h1
  rw [bit_and, Bool.and_eq_true] at hk
  exact ⟨k, hk⟩
/-- Who follows waits for one who does, or for the first. -/
theorem after_spec {md : Region.Mode} : ∀ (l : List Oper) (k D j : Nat), Nat.testBit (after_ md l k D) j = true → Nat.testBit D j = true ∨ ∃ o, l[j - k]? = some o ∧ k ≤ j ∧ ∃ x, Nat.testBit (depN md o) x = true ∧ Nat.testBit (after_ md l k D) x = true ∧ (Nat.testBit D x = true ∨ x < j)
  | [], _, _, _, h => .inl h
  | o :: r, k, D, j, h => by
    rw [after_] at h
    have key := after_spec r (k + 1) _ j h
    rw [after_]
    generalize hD : (if Nat.beq (Nat.land (depN md o) D) 0 then D else Nat.lor (Nat.shiftLeft 1 k) D) = D' at *
    have hsub : ∀ x, Nat.testBit D' x = true → Nat.testBit D x = true ∨ (x = k ∧ ¬ Nat.beq (Nat.land (depN md o) D) 0 = true) := fun x hx => by
      rw [← hD] at hx
      split at hx
      · exact .inl hx
      · rename_i hb
        rw [bit_or, bit_one, Bool.or_eq_true] at hx
        rcases hx with hx | hx
        · exact .inr ⟨by simpa using Eq.symm (by simpa using hx), hb⟩
        · exact .inl hx
    have hsup : ∀ x, Nat.testBit D x = true → Nat.testBit D' x = true := fun x hx => by
      rw [← hD]
      split
      · exact hx
      · rw [bit_or, hx, Bool.or_true]
    rcases key with h1 | ⟨o', h1, h2, x, h3, h4, h5⟩
    · rcases hsub j h1 with h1 | ⟨rfl, hb⟩
      · exact .inl h1
      · obtain ⟨x, hx1, hx2⟩ := land_ne hb
        exact .inr ⟨o, by simp, Nat.le_refl _, x, hx1, after_mono r _ _ x (hsup x hx2), .inl hx2⟩
    · refine .inr ⟨o', ?_, by omega, x, h3, h4, ?_⟩
      · rw [show j - k = (j - (k + 1)) + 1 by omega]
        simpa using h1
      · rcases h5 with h5 | h5
        · rcases hsub x h5 with h5 | ⟨rfl, _⟩
          · exact .inl h5
          · exact .inr (by omega)
        · exact .inr h5
theorem after_has {md : Region.Mode} : ∀ (l : List Oper) (k D j x : Nat) (o : Oper), l[j]? = some o → Nat.testBit (depN md o) x = true → Nat.testBit D x = true → Nat.testBit (after_ md l k D) (k + j) = true
  | [], _, _, _, _, _, h, _, _ => by simp at h
  | y :: r, k, D, 0, x, o, h, h1, h2 => by
    obtain rfl : y = o := by simpa using h
    rw [after_]
    refine after_mono r _ _ _ ?_
    rw [if_neg]
    · rw [bit_or, bit_one]; simp
    · intro h0
      have h3 := congrArg (fun n => Nat.testBit n x) (beq_spec h0)
      simp only [bit_and, h1, h2] at h3
      simp at h3
  | y :: r, k, D, j + 1, x, o, h, h1, h2 => by
    rw [after_, show k + (j + 1) = k + 1 + j by omega]
    refine after_has r (k + 1) _ j x o (by simpa using h) h1 ?_
    split
    · exact h2
    · rw [bit_or, h2, Bool.or_true]
theorem dstsIn_inv {D d : Nat} : ∀ (l : List Oper) (k : Nat), Nat.testBit (dstsIn D l k) d = true → ∃ j o, l[j]? = some o ∧ o.dst = some d ∧ Nat.testBit D (k + j) = true
  | [], _, h => by simp [dstsIn] at h
  | o :: r, k, h => by
    rw [dstsIn] at h
    split at h
    · rename_i hb
      rw [bit_or, Bool.or_eq_true] at h
      rcases h with h | h
      · exact ⟨0, o, by simp, (dstN_bit o d).1 h, by simpa using hb⟩
      · obtain ⟨j, o', h1, h2, h3⟩ := dstsIn_inv r (k + 1) h
        exact ⟨j + 1, o', by simpa using h1, h2, by rwa [show k + (j + 1) = k + 1 + j by omega]⟩
    · obtain ⟨j, o', h1, h2, h3⟩ := dstsIn_inv r (k + 1) h
      exact ⟨j + 1, o', by simpa using h1, h2, by rwa [show k + (j + 1) = k + 1 + j by omega]⟩
theorem looksL_spec {md : Region.Mode} {ops : Array Oper} {all : Nat} : ∀ (l : List Oper) (k : Nat), looksL md ops all l k = true → ∀ j o, l[j]? = some o → ∀ d, d ∈ o.looksAt ops → Nat.testBit all d = true →
    Nat.testBit (depDst md ops o) d = true ∨ Nat.testBit (dstsIn (followers md ops (k + j)) ops.toList 0) d = true := by
  intro l
  induction l with
  | nil => intro k h j o ho; simp at ho
  | cons x r ih =>
    intro k h j o ho d hd ha
    rw [looksL, Bool.and_eq_true] at h
    cases j with
    | zero =>
      obtain rfl : x = o := by simpa using ho
      have hl : Nat.testBit (Nat.land (lookN ops x) all) d = true := by
        rw [bit_and, lookN_bit ops x d hd, ha]
        rfl
      rw [Bool.or_eq_true] at h
      rcases h.1 with h1 | h1
      · exact .inl (bit_sub h1 hl)
      · have := bit_sub h1 hl
        rw [bit_or, Bool.or_eq_true] at this
        exact this
    | succ j =>
      rw [show k + (j + 1) = k + 1 + j by omega]
      exact ih (k + 1) h.2 j o (by simpa using ho) d hd ha
/-- i waits, over others or not, for j. -/
def Waits (md : Region.Mode) (ops : Array Oper) (i j : Nat) : Prop := Nat.testBit (followers md ops j) i = true
theorem waits_self (md : Region.Mode) (ops : Array Oper) (i : Nat) : Waits md ops i i := after_mono _ _ _ _ (by rw [bit_one]; simp)
theorem waits_inv {md : Region.Mode} {ops : Array Oper} {i j : Nat} (h : Waits md ops i j) (hne : i ≠ j) : ∃ o, ops[i]? = some o ∧ ∃ e ∈ o.after, Region.binds md e = true ∧ Waits md ops e.on j ∧ (e.on = j ∨ e.on < i) := by
  rcases after_spec _ _ _ _ h with h1 | ⟨o, h1, _, x, h3, h4, h5⟩
  · rw [bit_one] at h1
    exact absurd (by simpa using h1) (Ne.symm hne)
  · obtain ⟨e, he, hb, rfl⟩ := depN_inv h3
    refine ⟨o, by simpa using h1, e, he, hb, h4, ?_⟩
    rcases h5 with h5 | h5
    · rw [bit_one] at h5
      exact .inl (Eq.symm (by simpa using h5))
    · exact .inr h5
theorem waits_of {md : Region.Mode} {ops : Array Oper} {i j : Nat} {o : Oper} (ho : ops[i]? = some o) {e : Edge} (he : e ∈ o.after) (hb : Region.binds md e = true) (hj : e.on = j) : Waits md ops i j := by
  have h := after_has (md := md) ops.toList 0 (Nat.shiftLeft 1 j) i j o (by simpa using ho) (by rw [← hj]; exact depN_bit he hb) (by rw [bit_one]; simp)
  rwa [Nat.zero_add] at h
/-- Who looks at a result waits for it, or is waited for; no two write one. -/
theorem regionOk_spec (h : regionOk md ops = true) : Region.noSelect ops = true ∧ (∀ (i j : Nat) oi oj d, ops[i]? = some oi → ops[j]? = some oj → oi.dst = some d → oj.dst = some d → i = j) ∧
    ∀ (i j : Nat) oi oj d, ops[i]? = some oi → ops[j]? = some oj → oi.dst = some d → d ∈ oj.looksAt ops → Waits md ops j i ∨ Waits md ops i j := by
  simp only [regionOk, Bool.and_eq_true] at h
  obtain ⟨_, h2⟩ := apartL_spec _ _ h.2.1
  have h2' : ∀ (i j : Nat) oi oj d, ops[i]? = some oi → ops[j]? = some oj → oi.dst = some d → oj.dst = some d → i = j := fun i j oi oj d hi hj => h2 i j oi oj d (by simpa using hi) (by simpa using hj)
  refine ⟨h.1, h2', fun i j oi oj d hi hj hd hl => ?_⟩
  rcases looksL_spec _ 0 h.2.2 j oj (by simpa using hj) d hl (allDst_bit _ oi d (List.mem_of_getElem? (i := i) (by simpa using hi)) hd) with h3 | h3
  · obtain ⟨e, h4, h5, x, h6, h7⟩ := depDst_inv h3
    exact .inl (waits_of hj h4 h5 (h2' _ _ _ _ _ h6 hi h7 hd))
  · obtain ⟨k, o, h4, h5, h6⟩ := dstsIn_inv _ _ h3
    obtain rfl : k = i := h2' _ _ _ _ _ (by simpa using h4) hi h5 hd
    rw [Nat.zero_add, Nat.zero_add] at h6
    exact .inr h6

/-- The bits m are what is listed. -/
def Rel0 (n m : Nat) (listed : Array Bool) : Prop := listed.size = n ∧ ∀ k, listed.getD k false = Nat.testBit m k
theorem rel0_zero (n : Nat) : Rel0 n 0 (Array.replicate n false) := ⟨by simp, fun k => by
  rw [Nat.zero_testBit]
  simp only [Array.getD, Array.size_replicate]
  split <;> simp⟩
theorem Rel0.set {n m : Nat} {listed : Array Bool} (h : Rel0 n m listed) {i : Nat} (hi : i < n) : Rel0 n (Nat.lor (Nat.shiftLeft 1 i) m) (listed.setIfInBounds i true) := ⟨by simp [h.1], fun k => by
  rw [bit_or, bit_one, ← h.2 k]
  by_cases hk : i = k
  · subst hk
    have : i < listed.size := by rw [h.1]; exact hi
    simp [this]
  · rw [getD_set_ne false hk]
    simp [hk]⟩
theorem Rel0.getD_true {n m : Nat} {listed : Array Bool} (h : Rel0 n m listed) {k : Nat} (hk : k < n) : listed.getD k true = Nat.testBit m k := by
  rw [← h.2 k]
  have : k < listed.size := by rw [h.1]; exact hk
  simp [this]
theorem Rel0.unlisted {n m : Nat} {listed : Array Bool} (h : Rel0 n m listed) {k : Nat} (hk : listed.getD k true = false) : k < n ∧ Nat.testBit m k = false := by
  have hlt : k < n := by
    rcases Nat.lt_or_ge k n with h1 | h1
    · exact h1
    · have : ¬ k < listed.size := by rw [h.1]; omega
      simp [this] at hk
  exact ⟨hlt, by rw [← h.getD_true hlt]; exact hk⟩
theorem ready_of {m : Nat} {listed : Array Bool} (h : Rel0 ops.size m listed) {i : Nat} {o : Oper} (ho : ops[i]? = some o) (h1 : Nat.testBit m i = false) (h2 : Nat.beq (Nat.lor (depN md o) m) m = true) : i ∈ Region.ready md ops listed := by
  have hi : i < ops.size := (Array.getElem?_eq_some_iff.1 ho).1
  refine mem_ready.2 ⟨by rw [h.getD_true hi]; exact h1, o, ho, fun e he hb => ?_⟩
  rw [h.2]
  exact bit_sub h2 (depN_bit he hb)
theorem ready_inv {m : Nat} {listed : Array Bool} (h : Rel0 ops.size m listed) {j : Nat} (hj : j ∈ Region.ready md ops listed) : ∃ o, ops[j]? = some o ∧ Nat.testBit m j = false ∧ Nat.beq (Nat.lor (depN md o) m) m = true := by
  obtain ⟨h1, o, ho, h2⟩ := mem_ready.1 hj
  refine ⟨o, ho, (h.unlisted h1).2, ?_⟩
  rw [Nat.beq_eq]
  apply Nat.eq_of_testBit_eq
  intro k
  rw [bit_or]
  cases hk : Nat.testBit (depN md o) k with
  | false => rw [Bool.false_or]
  | true =>
    obtain ⟨e, he, hb, rfl⟩ := depN_inv hk
    rw [← h.2, h2 e he hb]
    rfl
theorem lone_spec {m i : Nat} : ∀ (l : List Oper) (k : Nat), lone md i m l k = true → ∀ (j : Nat) o, l[j]? = some o → k + j = i ∨ Nat.testBit m (k + j) = true ∨ Nat.beq (Nat.lor (depN md o) m) m = false
  | [], k, _, j, o, h => by simp at h
  | x :: r, k, h, 0, o, ho => by
    simp only [lone, Bool.and_eq_true, Bool.or_eq_true] at h
    obtain rfl : x = o := by simpa using ho
    rcases h.1 with h1 | h1 | h1
    · exact .inl (beq_spec h1)
    · exact .inr (.inl h1)
    · exact .inr (.inr (by simpa using h1))
  | x :: r, k, h, j + 1, o, ho => by
    simp only [lone, Bool.and_eq_true] at h
    have := lone_spec r (k + 1) h.2 j o (by simpa using ho)
    rwa [show k + 1 + j = k + (j + 1) by omega] at this
/-- What is listed, and all that it waits for is listed. -/
structure Rel (md : Region.Mode) (ops : Array Oper) (m : Nat) (listed : Array Bool) : Prop where
  rel : Rel0 ops.size m listed
  down : ∀ k o, ops[k]? = some o → Nat.testBit m k = true → ∀ e ∈ o.after, Region.binds md e = true → Nat.testBit m e.on = true
theorem rel_zero (md : Region.Mode) (ops : Array Oper) : Rel md ops 0 (Array.replicate ops.size false) := ⟨rel0_zero _, fun k o _ h => by simp at h⟩
theorem Rel.set {m : Nat} {listed : Array Bool} (h : Rel md ops m listed) {i : Nat} (hr : i ∈ Region.ready md ops listed) : Rel md ops (Nat.lor (Nat.shiftLeft 1 i) m) (listed.setIfInBounds i true) := by
  obtain ⟨_, o, ho, hall⟩ := mem_ready.1 hr
  refine ⟨h.rel.set (Array.getElem?_eq_some_iff.1 ho).1, fun k x hx hk e he hb => ?_⟩
  rw [bit_or, Bool.or_eq_true]
  rw [bit_or, bit_one, Bool.or_eq_true] at hk
  rcases hk with hk | hk
  · obtain rfl : i = k := by simpa using hk
    obtain rfl : o = x := by rw [ho] at hx; exact Option.some.inj hx
    exact .inr (by rw [← h.rel.2]; exact hall e he hb)
  · exact .inr (h.down k x hx hk e he hb)
/-- Who waits for one that is not listed is not listed. -/
theorem Rel.waits {m : Nat} {listed : Array Bool} (h : Rel md ops m listed) {j : Nat} (hj : Nat.testBit m j = false) : ∀ i, Waits md ops i j → Nat.testBit m i = false := by
  intro i
  induction i using Nat.strongRecOn with
  | _ i ih =>
    intro hw
    by_cases he : i = j
    · rw [he]; exact hj
    obtain ⟨o, ho, e, he1, hb, hw2, hlt⟩ := waits_inv hw he
    cases hi : Nat.testBit m i with
    | false => rfl
    | true =>
      have h1 := h.down i o ho hi e he1 hb
      rcases hlt with hlt | hlt
      · rw [hlt, hj] at h1; cases h1
      · rw [ih _ hlt hw2] at h1; cases h1
theorem plan_first {S : World → Prop} {i : Nat} {oi : Oper} {v : Value} (hk : regionOk md ops = true) (hi : ops[i]? = some oi)
    (hQ : ∀ c a w, Q (.panic c) (a.put oi.dst v) w → Q (.panic c) a w) :
    ∀ (fuel : Nat) (m : Nat) (listed : Array Bool) (a : Act) (w : World), Rel md ops m listed → i ∈ Region.ready md ops listed → YieldsIf P ops S oi v a → S w →
      wpAnyH P md ops Q S fuel (listed.setIfInBounds i true) (a.put oi.dst v) w → wpAnyH P md ops Q S (fuel + 1) listed a w := by
  obtain ⟨hs, hd1, hd2⟩ := regionOk_spec hk
  have hsel := Region.noSelect_spec hs
  intro fuel
  induction fuel with
  | zero =>
    intro m listed a w hl hr hy hS H
    refine ⟨(fun h => (by rw [h] at hr; cases hr)), (fun j hj => ?_)⟩
    by_cases hji : j = i
    · subst hji; exact hy.wpOp hi hS ⟨hS, H⟩
    · have := ready_mono hj hji
      rw [H.1] at this
      cases this
  | succ fuel ih =>
    intro m listed a w hl hr hy hS H
    refine ⟨(fun h => (by rw [h] at hr; cases hr)), (fun j hj => ?_)⟩
    by_cases hji : j = i
    · subst hji; exact hy.wpOp hi hS ⟨hS, H⟩
    · have h1 := H.2 j (ready_mono hj hji)
      obtain ⟨hjun, oj, hoj, hall⟩ := mem_ready.1 hj
      obtain ⟨hiun, oi', hoi', halli⟩ := mem_ready.1 hr
      have hmj := (hl.rel.unlisted hjun).2
      have hmi := (hl.rel.unlisted hiun).2
      have nji : ¬ Waits md ops j i := fun hw => by
        obtain ⟨o, ho, e, he, hb, hw2, _⟩ := waits_inv hw hji
        obtain rfl : oj = o := by rw [hoj] at ho; exact Option.some.inj ho
        have h2 := hall e he hb
        rw [hl.rel.2, hl.waits hmi _ hw2] at h2
        cases h2
      have nij : ¬ Waits md ops i j := fun hw => by
        obtain ⟨o, ho, e, he, hb, hw2, _⟩ := waits_inv hw (Ne.symm hji)
        obtain rfl : oi' = o := by rw [hoi'] at ho; exact Option.some.inj ho
        have h2 := halli e he hb
        rw [hl.rel.2, hl.waits hmj _ hw2] at h2
        cases h2
      have a1 : ∀ d, oi.dst = some d → d ∉ oj.looksAt ops := fun d hd hx => by
        rcases hd2 i j oi oj d hi hoj hd hx with h | h
        · exact nji h
        · exact nij h
      have a2 : ∀ d, oi.dst = some d → oj.dst ≠ some d := fun d hd hd' => hji (hd1 j i oj oi d hoj hi hd' hd)
      have a3 : ∀ d, oj.dst = some d → d ∉ oi.looksAt ops := fun d hd hx => by
        rcases hd2 j i oj oi d hoj hi hd hx with h | h
        · exact nij h
        · exact nji h
      have hap : oi.apart ops oj = true := by
        unfold Oper.apart
        cases hd : oi.dst with
        | none =>
          cases hd' : oj.dst with
          | none => rfl
          | some d => simp [a3 d hd']
        | some d =>
          have b1 := a1 d hd
          have b2 := a2 d hd
          cases hd' : oj.dst with
          | none => simp [b1]
          | some d2 =>
            rw [hd'] at b2
            simp [b1, a3 d2 hd']
            exact fun h => b2 (by rw [h])
      have h2 := wpOp_putIf hoj hap (fun cs b => hsel i oi cs b hi) (fun cs b => hsel j oj cs b hoj) hQ hy h1
      refine wpOp_mono (fun a' w' h3 => ⟨h3.2.1, ih _ (listed.setIfInBounds j true) a' w' (hl.set hj) (ready_mono hr (Ne.symm hji)) h3.1 h3.2.1 ?_⟩) h2
      rw [Array.setIfInBounds_comm _ _ hji]
      exact h3.2.2
/-- The plan's operations, written out. -/
def planOps (ops : Array Oper) : List (Nat × Bool) → List (Bool × Oper)
  | [] => []
  | (i, b) :: r => match ops[i]? with
    | some o => (b, o) :: planOps ops r
    | none => []
/-- Whatever comes up from here on, m being what has come up. -/
def wpAnyN (P : Program) (md : Region.Mode) (ops : Array Oper) (Q : Exit → Act → World → Prop) (S : World → Prop) (f m : Nat) (a : Act) (w : World) : Prop := ∀ listed, Rel md ops m listed → wpAnyH P md ops Q S f listed a w

def wpPlan (P : Program) (ops : Array Oper) (Q : Exit → Act → World → Prop) (T : (World → Prop) → Act → World → Prop) : List (Bool × Oper) → (World → Prop) → Act → World → Prop
  | [], S, a, w => T S a w
  | (false, o) :: r, S, a, w => ∃ v, YieldsIf P ops S o v a ∧ wpPlan P ops Q T r S (a.put o.dst v) w
  | (true, o) :: r, S, a, w => ∀ K : Act → World → Prop, (∀ (N : World → Prop) a' w', S w' → N w' → wpPlan P ops Q T r (fun x => S x ∧ N x) a' w' → K a' w') → if Region.wanted o (yielded ops a.tmps) = true then o.wp P a w K Q else K (a.put o.dst undef) w

theorem wpAnyN_of_plan (hk : regionOk md ops = true) (hQ : ∀ c d v a w, Q (.panic c) (a.put d v) w → Q (.panic c) a w) (f : Nat) : ∀ (pl : List (Nat × Bool)) (S : World → Prop) (m : Nat) (a : Act) (w : World),
    planN md ops pl m = true → S w → wpPlan P ops Q (fun S a w => S w → wpAnyN P md ops Q S f (marksN pl m) a w) (planOps ops pl) S a w → wpAnyN P md ops Q S (f + pl.length) m a w
  | [], S, m, a, w, hp, hS, h => h hS
  | (i, b) :: r, S, m, a, w, hp, hS, h => by
    intro listed hl
    simp only [planN, Bool.and_eq_true] at hp
    cases ho : ops[i]? with
    | none => rw [ho] at hp; exact absurd hp.1 (by simp)
    | some o =>
      rw [ho] at hp
      simp only [Bool.and_eq_true, Bool.not_eq_true'] at hp
      obtain ⟨⟨h1, h2, h3⟩, hp⟩ := hp
      have hi : i < ops.size := (Array.getElem?_eq_some_iff.1 ho).1
      have hr := ready_of hl.rel ho h1 h2
      simp only [planOps, ho] at h
      cases b with
      | false =>
        obtain ⟨v, hy, h⟩ := h
        exact plan_first hk ho (fun c a w => hQ c _ _ a w) _ m listed a w hl hr hy hS (wpAnyN_of_plan hk hQ f r S _ _ w hp hS h _ (hl.set hr))
      | true =>
        refine ⟨(fun h0 => by rw [h0] at hr; cases hr), (fun j hj => ?_)⟩
        obtain rfl : j = i := by
          obtain ⟨oj, hoj, k1, k2⟩ := ready_inv hl.rel hj
          rcases lone_spec _ 0 (by simpa using h3) j oj (by simpa using hoj) with h | h | h
          · simpa using h
          · rw [Nat.zero_add, k1] at h; cases h
          · rw [k2] at h; cases h
        refine wpOp_step ho (fun K' hK => h K' (fun N a' w' g1 g2 g3 => hK a' w' ⟨g1, ?_⟩))
        exact wpAnyH_weaken (fun x hx => hx.1) _ _ _ _ (wpAnyN_of_plan hk hQ f r _ _ a' w' hp ⟨g1, g2⟩ g3 _ (hl.set hr))
theorem wpAnyN_done {S : World → Prop} {f m : Nat} {a : Act} {w : World} (hm : Nat.beq m (2 ^ ops.size - 1) = true) (h : Q .normal a w) : wpAnyN P md ops Q S f m a w := by
  intro listed hl
  refine wpAnyH_done ?_ h f
  apply List.eq_nil_iff_forall_not_mem.2
  intro j hj
  obtain ⟨o, ho, h1, _⟩ := ready_inv hl.rel hj
  rw [beq_spec hm, Nat.testBit_two_pow_sub_one] at h1
  have : j < ops.size := (Array.getElem?_eq_some_iff.1 ho).1
  simp [this] at h1

/-- The beginning: the plan is looked at by the kernel, S is shown of the world behind the draw. -/
theorem wp_region_plan {id : Nat} {a : Act} {w : World} (S : World → Prop) (pl : List (Nat × Bool)) (hm : P.follows .mixedOrders = true)
    (hp : (regionOk .any ops && (planN .any ops pl 0 && (Nat.beq pl.length ops.size && Nat.beq (marksN pl 0) (2 ^ ops.size - 1)))) = true)
    (hQ : ∀ c t v a w, Q (.panic c) (a.put (some t) v) w → Q (.panic c) a w) (hS : S w.drew) (h : wpPlan P ops Q (fun _ => Q .normal) (planOps ops pl) S a w.drew) : (Code.region id ops true).wp P Q a w := by
  simp only [Bool.and_eq_true] at hp
  have key : ∀ (l : List (Bool × Oper)) (S : World → Prop) a w, wpPlan P ops Q (fun _ => Q .normal) l S a w → wpPlan P ops Q (fun S a w => S w → wpAnyN P .any ops Q S 0 (marksN pl 0) a w) l S a w := by
    intro l
    induction l with
    | nil => exact fun S a w h _ => wpAnyN_done hp.2.2.2 h
    | cons x r ih =>
      obtain ⟨b, o⟩ := x
      cases b with
      | false => exact fun S a w ⟨v, h1, h2⟩ => ⟨v, h1, ih _ _ _ h2⟩
      | true => exact fun S a w h K hK => h K (fun N a' w' h1 h2 h3 => hK N a' w' h1 h2 (ih _ _ _ h3))
  refine wp_region_held_drew hm hS (fun _ => ?_)
  have h1 := wpAnyN_of_plan hp.1 (fun c d v a w h => by cases d with | none => exact h | some t => exact hQ c t v a w h) 0 pl S 0 a w.drew hp.2.1 hS (key _ _ _ _ h) _ (rel_zero .any ops)
  rwa [Nat.zero_add, beq_spec hp.2.2.1] at h1
/-- The beginning of a walk whose ways part. -/
theorem wp_region_part {id : Nat} {a : Act} {w : World} (S : World → Prop) (pl : List (Nat × Bool)) (f : Nat) (hm : P.follows .mixedOrders = true)
    (hp : (regionOk .any ops && (planN .any ops pl 0 && Nat.beq (f + pl.length) ops.size)) = true)
    (hQ : ∀ c t v a w, Q (.panic c) (a.put (some t) v) w → Q (.panic c) a w) (hS : S w.drew) (h : wpPlan P ops Q (fun S a w => S w → wpAnyN P .any ops Q S f (marksN pl 0) a w) (planOps ops pl) S a w.drew) : (Code.region id ops true).wp P Q a w := by
  simp only [Bool.and_eq_true] at hp
  refine wp_region_held_drew hm hS (fun _ => ?_)
  have h1 := wpAnyN_of_plan hp.1 (fun c d v a w h => by cases d with | none => exact h | some t => exact hQ c t v a w h) f pl S 0 a w.drew hp.2.1 hS h _ (rel_zero .any ops)
  rwa [beq_spec hp.2.2] at h1
/-- On from a place where the ways have parted. -/
theorem plan_on {S : World → Prop} {a : Act} {w : World} {n m : Nat} (pl : List (Nat × Bool)) (f : Nat)
    (hp : (regionOk md ops && (planN md ops pl m && Nat.beq (f + pl.length) n)) = true)
    (hQ : ∀ c t v a w, Q (.panic c) (a.put (some t) v) w → Q (.panic c) a w) (h : wpPlan P ops Q (fun S a w => S w → wpAnyN P md ops Q S f (marksN pl m) a w) (planOps ops pl) S a w) : S w → wpAnyN P md ops Q S n m a w := by
  intro hS
  simp only [Bool.and_eq_true] at hp
  rw [← beq_spec hp.2.2]
  exact wpAnyN_of_plan hp.1 (fun c d v a w h => by cases d with | none => exact h | some t => exact hQ c t v a w h) f pl S m a w hp.2.1 hS h
def forkAll (P : Program) (md : Region.Mode) (ops : Array Oper) (Q : Exit → Act → World → Prop) (S : World → Prop) (n m : Nat) (a : Act) (w : World) : List Nat → Prop
  | [] => True
  | i :: r => wpPlan P ops Q (fun S a w => S w → wpAnyN P md ops Q S n (Nat.lor (Nat.shiftLeft 1 i) m) a w) (planOps ops [(i, true)]) S a w ∧ forkAll P md ops Q S n m a w r
def readyN (md : Region.Mode) (m : Nat) (rs : List Nat) : List Oper → Nat → Bool
  | [], _ => true
  | o :: r, k => (rs.elem k || (Nat.testBit m k || !(Nat.beq (Nat.lor (depN md o) m) m))) && readyN md m rs r (k + 1)
theorem readyN_spec {m : Nat} {rs : List Nat} : ∀ (l : List Oper) (k : Nat), readyN md m rs l k = true → ∀ (j : Nat) o, l[j]? = some o → k + j ∈ rs ∨ Nat.testBit m (k + j) = true ∨ Nat.beq (Nat.lor (depN md o) m) m = false
  | [], k, _, j, o, h => by simp at h
  | x :: r, k, h, 0, o, ho => by
    simp only [readyN, Bool.and_eq_true, Bool.or_eq_true] at h
    obtain rfl : x = o := by simpa using ho
    rcases h.1 with h1 | h1 | h1
    · exact .inl (by simpa using h1)
    · exact .inr (.inl h1)
    · exact .inr (.inr (by simpa using h1))
  | x :: r, k, h, j + 1, o, ho => by
    simp only [readyN, Bool.and_eq_true] at h
    have := readyN_spec r (k + 1) h.2 j o (by simpa using ho)
    rwa [show k + 1 + j = k + (j + 1) by omega] at this
def someReady (md : Region.Mode) (ops : Array Oper) (m i : Nat) : Bool := match ops[i]? with
  | none => false
  | some o => !Nat.testBit m i && Nat.beq (Nat.lor (depN md o) m) m
/-- Several may come up now, each of which may change the world. -/
theorem plan_fork {S : World → Prop} {a : Act} {w : World} {n m : Nat} (i : Nat) (rs : List Nat)
    (hr : (someReady md ops m i && readyN md m (i :: rs) ops.toList 0) = true) (h : forkAll P md ops Q S n m a w (i :: rs)) : S w → wpAnyN P md ops Q S (n + 1) m a w := by
  intro hS listed hl
  simp only [Bool.and_eq_true] at hr
  have hne : Region.ready md ops listed ≠ [] := by
    intro h0
    have h1 := hr.1
    unfold someReady at h1
    cases ho : ops[i]? with
    | none => rw [ho] at h1; cases h1
    | some o =>
      rw [ho] at h1
      simp only [Bool.and_eq_true, Bool.not_eq_true'] at h1
      have := ready_of hl.rel ho h1.1 h1.2
      rw [h0] at this
      cases this
  refine ⟨fun h0 => absurd h0 hne, fun j hj => ?_⟩
  obtain ⟨o, ho, k1, k2⟩ := ready_inv hl.rel hj
  have hmem : j ∈ i :: rs := by
    rcases readyN_spec _ 0 hr.2 j o (by simpa using ho) with h | h | h
    · simpa using h
    · rw [Nat.zero_add, k1] at h; cases h
    · rw [k2] at h; cases h
  have h1 : wpPlan P ops Q (fun S a w => S w → wpAnyN P md ops Q S n (Nat.lor (Nat.shiftLeft 1 j) m) a w) (planOps ops [(j, true)]) S a w := by
    generalize i :: rs = l at *
    clear hr hne
    induction l with
    | nil => cases hmem
    | cons x r ih =>
      rcases List.mem_cons.1 hmem with rfl | hi
      · exact h.1
      · exact ih h.2 hi
  have hi : j < ops.size := (Array.getElem?_eq_some_iff.1 ho).1
  simp only [planOps, ho] at h1
  exact wpOp_step ho (fun K' hK => h1 K' (fun N a' w' g1 g2 g3 => hK a' w' ⟨g1, wpAnyH_weaken (fun x hx => hx.1) _ _ _ _ (g3 ⟨g1, g2⟩ _ (hl.set hj))⟩))
/-- All have come up. -/
theorem plan_all {S : World → Prop} {a : Act} {w : World} {n m : Nat} (hr : Nat.beq m (2 ^ ops.size - 1) = true) (h : Q .normal a w) : S w → wpAnyN P md ops Q S n m a w := fun _ => wpAnyN_done hr h

variable {T : (World → Prop) → Act → World → Prop}
theorem plan_step {S : World → Prop} {o : Oper} {r : List (Bool × Oper)} {a : Act} {w : World} (hw : Region.wanted o (yielded ops a.tmps) = true) (h : ∃ v, (∀ w, S w → (execOp a.eval o).run P w = .ok (.value v) w) ∧
    wpPlan P ops Q T r S (a.put o.dst v) w) : wpPlan P ops Q T ((false, o) :: r) S a w := by
  obtain ⟨v, h1, h2⟩ := h
  exact ⟨v, .inl ⟨hw, h1⟩, h2⟩
theorem plan_skip {S : World → Prop} {o : Oper} {r : List (Bool × Oper)} {a : Act} {w : World} (hw : Region.wanted o (yielded ops a.tmps) = false)
    (h : wpPlan P ops Q T r S (a.put o.dst undef) w) : wpPlan P ops Q T ((false, o) :: r) S a w := ⟨undef, .inr ⟨hw, rfl⟩, h⟩
theorem plan_run {S : World → Prop} {o : Oper} {r : List (Bool × Oper)} {a : Act} {w : World} (hw : Region.wanted o (yielded ops a.tmps) = true)
    (h : ∀ K : Act → World → Prop, Shut (∀ (N : World → Prop) a' w', S w' → N w' → wpPlan P ops Q T r (fun x => S x ∧ N x) a' w' → K a' w') → Oper.wp P o a w K Q) : wpPlan P ops Q T ((true, o) :: r) S a w := by
  intro K hK
  rw [if_pos hw]
  exact h K hK
theorem plan_if {S : World → Prop} {o : Oper} {r : List (Bool × Oper)} {a : Act} {w : World}
    (h : ∀ K : Act → World → Prop, Shut (∀ (N : World → Prop) a' w', S w' → N w' → wpPlan P ops Q T r (fun x => S x ∧ N x) a' w' → K a' w') → if Region.wanted o (yielded ops a.tmps) = true then o.wp P a w K Q else K (a.put o.dst undef) w) : wpPlan P ops Q T ((true, o) :: r) S a w := h
theorem plan_void {S : World → Prop} {o : Oper} {r : List (Bool × Oper)} {a : Act} {w : World} (hw : Region.wanted o (yielded ops a.tmps) = false)
    (hS : S w) (h : wpPlan P ops Q T r (fun x => S x ∧ True) (a.put o.dst undef) w) : wpPlan P ops Q T ((true, o) :: r) S a w := by
  intro K hK
  rw [hw]
  exact hK (fun _ => True) _ _ hS trivial h
theorem plan_done {S : World → Prop} {a : Act} {w : World} (h : T S a w) : wpPlan P ops Q T [] S a w := h
end
end Go.Proofs.YtdlefdlnnclcaaaDoor.B
