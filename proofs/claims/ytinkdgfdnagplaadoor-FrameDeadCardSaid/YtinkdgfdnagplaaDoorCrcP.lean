import Derived.Test.YtinkdgfdnagplaaDoorBase
/-! The document's sum: plain. Of bytes of which few bits in a row were turned the sum is another one. -/
set_option linter.unusedVariables false
set_option linter.unusedSimpArgs false
namespace Go.Proofs.YtinkdgfdnagplaaDoor.Crc

def poly : Nat := 3988292384
def st1 (s : Nat) : Nat := if s % 2 = 1 then s / 2 ^^^ poly else s / 2
def it : Nat → Nat → Nat
  | 0, s => s
  | k + 1, s => it k (st1 s)
def st8 (s : Nat) : Nat := it 8 s
def run (s : Nat) (l : List Nat) : Nat := l.foldl (fun a c => st8 (a ^^^ c)) s
theorem run_nil (s : Nat) : run s [] = s := rfl
theorem run_cons (s c : Nat) (r : List Nat) : run s (c :: r) = run (st8 (s ^^^ c)) r := rfl
/-- The number that bytes are, the least first. -/
def num : List Nat → Nat
  | [] => 0
  | c :: r => c ^^^ (num r * 256)

theorem st1_xor (a b : Nat) : st1 (a ^^^ b) = st1 a ^^^ st1 b := by
  unfold st1
  have h := Nat.xor_mod_two_eq_one (a := a) (b := b)
  by_cases ha : a % 2 = 1 <;> by_cases hb : b % 2 = 1
  · rw [if_neg (by rw [h]; simp [ha, hb]), if_pos ha, if_pos hb, Nat.xor_div_two]
    rw [show a / 2 ^^^ poly ^^^ (b / 2 ^^^ poly) = (a / 2 ^^^ b / 2) ^^^ (poly ^^^ poly) by ac_rfl, Nat.xor_self, Nat.xor_zero]
  · rw [if_pos (by rw [h]; simp [ha, hb]), if_pos ha, if_neg hb, Nat.xor_div_two]
    ac_rfl
  · rw [if_pos (by rw [h]; simp [ha, hb]), if_neg ha, if_pos hb, Nat.xor_div_two]
    ac_rfl
  · rw [if_neg (by rw [h]; simp [ha, hb]), if_neg ha, if_neg hb, Nat.xor_div_two]
theorem it_xor : ∀ (k a b : Nat), it k (a ^^^ b) = it k a ^^^ it k b
  | 0, _, _ => rfl
  | k + 1, a, b => by simp only [it, st1_xor, it_xor k]
theorem it_add : ∀ (j k s : Nat), it (j + k) s = it k (it j s)
  | 0, k, s => by simp [it]
  | j + 1, k, s => by
    rw [show j + 1 + k = (j + k) + 1 by omega]
    simp only [it]
    exact it_add j k (st1 s)
theorem it_pow : ∀ (k n : Nat), it k (n * 2 ^ k) = n
  | 0, n => by simp [it]
  | k + 1, n => by
    have e : n * 2 ^ (k + 1) = 2 * (n * 2 ^ k) := by rw [Nat.pow_succ]; ac_rfl
    simp only [it]
    rw [e]
    unfold st1
    rw [if_neg (by omega), Nat.mul_div_cancel_left _ (by omega)]
    exact it_pow k n
theorem xor_zero_eq {a b : Nat} (h : a ^^^ b = 0) : a = b := by
  have h1 : (a ^^^ b) ^^^ b = 0 ^^^ b := by rw [h]
  rwa [Nat.xor_assoc, Nat.xor_self, Nat.xor_zero, Nat.zero_xor] at h1
theorem st1_pos {s : Nat} (h : 0 < s) (hs : s < 2 ^ 32) : 0 < st1 s ∧ st1 s < 2 ^ 32 := by
  unfold st1
  by_cases ho : s % 2 = 1
  · rw [if_pos ho]
    refine ⟨Nat.pos_of_ne_zero fun h0 => ?_, Nat.xor_lt_two_pow (by omega) (by unfold poly; omega)⟩
    have h1 : s / 2 = poly := xor_zero_eq h0
    unfold poly at h1
    omega
  · rw [if_neg ho]
    omega
theorem it_pos : ∀ (k : Nat) {s : Nat}, 0 < s → s < 2 ^ 32 → 0 < it k s ∧ it k s < 2 ^ 32
  | 0, _, h, hs => ⟨h, hs⟩
  | k + 1, _, h, hs => by
    obtain ⟨h1, h2⟩ := st1_pos h hs
    exact it_pos k h1 h2
theorem it_zero : ∀ k, it k 0 = 0
  | 0 => rfl
  | k + 1 => by
    have : st1 0 = 0 := rfl
    simp only [it, this, it_zero k]
theorem it_lt (k : Nat) {s : Nat} (hs : s < 2 ^ 32) : it k s < 2 ^ 32 := by
  rcases Nat.eq_zero_or_pos s with rfl | h
  · rw [it_zero]; omega
  · exact (it_pos k h hs).2
theorem st1_lt {s : Nat} (hs : s < 2 ^ 32) : st1 s < 2 ^ 32 := it_lt 1 hs
theorem run_num : ∀ (l : List Nat) (s : Nat), run s l = it (8 * l.length) (s ^^^ num l)
  | [], s => by
    rw [run_nil, num, Nat.xor_zero]
    rfl
  | c :: r, s => by
    rw [run_cons, st8, run_num r, num, List.length_cons, show 8 * (r.length + 1) = 8 + 8 * r.length by omega, it_add]
    have e : it 8 (s ^^^ (c ^^^ num r * 256)) = it 8 (s ^^^ c) ^^^ num r := by
      rw [← Nat.xor_assoc, it_xor 8 (s ^^^ c), show num r * 256 = num r * 2 ^ 8 by rfl, it_pow]
    rw [e]
theorem run_lt : ∀ (l : List Nat) {s : Nat}, s < 2 ^ 32 → (∀ c ∈ l, c < 256) → run s l < 2 ^ 32
  | [], _, h, _ => h
  | c :: r, _, h, hl => run_lt r (it_lt 8 (Nat.xor_lt_two_pow h (Nat.lt_of_lt_of_le (hl c (by simp)) (by omega)))) (fun x hx => hl x (by simp [hx]))
theorem run_append : ∀ (l m : List Nat) (s : Nat), run s (l ++ m) = run (run s l) m
  | [], _, _ => rfl
  | c :: r, m, s => by rw [List.cons_append, run_cons, run_cons, run_append r m]
/-- A bit of a byte is turned. -/
theorem num_set : ∀ (l : List Nat) (j m : Nat), j < l.length → num (l.set j (l[j]?.getD 0 ^^^ 2 ^ m)) = num l ^^^ 2 ^ (8 * j + m)
  | [], _, _, h => by simp at h
  | c :: r, 0, m, _ => by
    simp only [List.set_cons_zero, num, List.getElem?_cons_zero, Option.getD_some, Nat.mul_zero, Nat.zero_add]
    ac_rfl
  | c :: r, j + 1, m, h => by
    have ih := num_set r j m (by simpa using h)
    simp only [List.set_cons_succ, num, List.getElem?_cons_succ, ih]
    have e : (num r ^^^ 2 ^ (8 * j + m)) * 256 = num r * 256 ^^^ 2 ^ (8 * (j + 1) + m) := by
      have e1 := Nat.shiftLeft_xor_distrib (a := num r) (b := 2 ^ (8 * j + m)) (i := 8)
      simp only [Nat.shiftLeft_eq] at e1
      rw [show (256 : Nat) = 2 ^ 8 by rfl, e1, ← Nat.pow_add, show 8 * j + m + 8 = 8 * (j + 1) + m by omega]
    rw [e]
    ac_rfl
theorem pow_bit (p i : Nat) : p % 2 ^ (i + 1) = p % 2 ^ i ^^^ (p / 2 ^ i % 2) * 2 ^ i := by
  have h1 : p % 2 ^ (i + 1) = p % 2 ^ i + 2 ^ i * (p / 2 ^ i % 2) := Nat.mod_pow_succ
  have h2 : p % 2 ^ i < 2 ^ i := Nat.mod_lt _ (Nat.two_pow_pos i)
  rw [h1]
  have h3 := Nat.two_pow_add_eq_or_of_lt h2 (p / 2 ^ i % 2)
  apply Nat.eq_of_testBit_eq
  intro x
  rw [Nat.add_comm, h3, Nat.testBit_or, Nat.testBit_xor, Nat.mul_comm, ← Nat.shiftLeft_eq, Nat.testBit_shiftLeft]
  by_cases hx : i ≤ x
  · rw [Nat.testBit_lt_two_pow (Nat.lt_of_lt_of_le h2 (Nat.pow_le_pow_right (by omega) hx))]
    simp
  · simp [show ¬ i ≤ x from hx]
/-- Bytes of which the bits of p were turned, from bit k on. -/
def Turned (b c : List Nat) (k p i : Nat) : Prop := c.length = b.length ∧ num c = num b ^^^ (p % 2 ^ i) * 2 ^ k
theorem turned_zero (b : List Nat) (k p : Nat) : Turned b b k p 0 := ⟨rfl, by simp [Nat.mod_one]⟩
theorem turned_keep {b c : List Nat} {k p i : Nat} (h : Turned b c k p i) (hp : p / 2 ^ i % 2 = 0) : Turned b c k p (i + 1) := ⟨h.1, by rw [pow_bit, hp, Nat.zero_mul, Nat.xor_zero]; exact h.2⟩
theorem turned_bit {b c : List Nat} {k p i : Nat} (h : Turned b c k p i) (hp : p / 2 ^ i % 2 = 1) (hk : (k + i) / 8 < c.length) :
    Turned b (c.set ((k + i) / 8) (c[(k + i) / 8]?.getD 0 ^^^ 2 ^ ((k + i) % 8))) k p (i + 1) := by
  refine ⟨by rw [List.length_set]; exact h.1, ?_⟩
  rw [num_set c _ _ hk, h.2, pow_bit, hp, Nat.one_mul]
  have e : (p % 2 ^ i ^^^ 2 ^ i) * 2 ^ k = p % 2 ^ i * 2 ^ k ^^^ 2 ^ (8 * ((k + i) / 8) + (k + i) % 8) := by
    have e1 := Nat.shiftLeft_xor_distrib (a := p % 2 ^ i) (b := 2 ^ i) (i := k)
    simp only [Nat.shiftLeft_eq] at e1
    rw [e1, ← Nat.pow_add, show 8 * ((k + i) / 8) + (k + i) % 8 = i + k by omega]
  rw [e, Nat.xor_assoc]
theorem turned_ne {b c : List Nat} {k p : Nat} (h : Turned b c k p 32) (hp : 0 < p) (hp2 : p < 2 ^ 32) (hk : k ≤ 8 * b.length) (s : Nat) : run s c ≠ run s b := by
  intro he
  rw [run_num, run_num, h.1] at he
  rw [h.2, Nat.mod_eq_of_lt hp2, ← Nat.xor_assoc, it_xor _ (s ^^^ num b)] at he
  have h0 : it (8 * b.length) (p * 2 ^ k) = 0 := by
    have h1 : it (8 * b.length) (s ^^^ num b) ^^^ (it (8 * b.length) (s ^^^ num b) ^^^ it (8 * b.length) (p * 2 ^ k)) = it (8 * b.length) (s ^^^ num b) ^^^ it (8 * b.length) (s ^^^ num b) := by rw [he]
    rwa [← Nat.xor_assoc, Nat.xor_self, Nat.zero_xor] at h1
  rw [show 8 * b.length = k + (8 * b.length - k) by omega, it_add, it_pow] at h0
  have := (it_pos (8 * b.length - k) hp hp2).1
  omega
end Go.Proofs.YtinkdgfdnagplaaDoor.Crc
