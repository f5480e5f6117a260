import Derived.Test.YtcbhddajkleleaaDoorMsgK
import Derived.Test.YtcbhddajkleleaaDoorCodecN
/-! Messages, plainly: kinds, their rows, what is wrong, the numbers in line; what is read of them when they are cut. -/
set_option linter.unusedVariables false
set_option linter.unusedSimpArgs false
namespace Go.Proofs.YtcbhddajkleleaaDoor.Msg
open Go.RowKit Go.Proofs.YtcbhddajkleleaaDoorW.PrintWords Go.Proofs.YtcbhddajkleleaaDoor.B Go.Proofs.YtcbhddajkleleaaDoor.Codec

def knownK (k : Int) : Bool := decide ((1 ≤ k ∧ k ≤ 15) ∨ (33 ≤ k ∧ k ≤ 38) ∨ (65 ≤ k ∧ k ≤ 68))
def loF (k : Int) : Int := if k = 8 then 1 else if k = 11 then 2 else 0
def hiF (k : Int) : Int := if k = 8 then 50 else if k = 37 then 50 else if k = 11 then 4 else if k = 67 then 64 else 0
theorem lo_bd (k : Int) : 0 ≤ loF k ∧ loF k ≤ 2 := by unfold loF; split <;> (try split) <;> omega
theorem hi_bd (k : Int) : 0 ≤ hiF k ∧ hiF k ≤ 64 := by unfold hiF; split <;> (try split) <;> (try split) <;> (try split) <;> omega
/-- What is wrong of a kind, a turn, so many rows. -/
def mayF (k s n : Int) : Int := if k < 0 ∨ 255 < k ∨ knownK k = false then 5 else if s < 0 then 1 else if n < loF k ∨ hiF k < n then 4 else 0
theorem mayF_bd (k s n : Int) : 0 ≤ mayF k s n ∧ mayF k s n ≤ 5 := by unfold mayF; split <;> (try split) <;> (try split) <;> omega
def cutK (k : Int) : Nat := (min (max k 0) 255).toNat

def rowL (r : Row) : List Int := [r.r0, r.r1, r.r2, r.r3, r.r4]
def headL (m : Msg) : List Int := [m.Kind, m.Seq, m.A.r0, m.A.r1, m.A.r2, m.A.r3, m.A.r4, m.A.r5, m.L.length]
/-- A message's numbers. -/
def numsL (m : Msg) : List Int := headL m ++ m.L.flatMap rowL
def encM (m : Msg) : List Int := (numsL m).flatMap encI
def i64 (x : Int) : Prop := -9223372036854775808 ≤ x ∧ x ≤ 9223372036854775807
structure OkM (m : Msg) : Prop where
  head : ∀ x ∈ headL m, i64 x
  rows : ∀ r ∈ m.L, ∀ x ∈ rowL r, i64 x
theorem OkM.nums {m : Msg} (h : OkM m) : ∀ x ∈ numsL m, i64 x := fun x hx => by
  rcases List.mem_append.1 hx with hx | hx
  · exact h.head x hx
  · obtain ⟨r, hr, hx⟩ := List.mem_flatMap.1 hx
    exact h.rows r hr x hx
theorem rows_len : ∀ l : List Row, (l.flatMap rowL).length = 5 * l.length
  | [] => rfl
  | r :: l => by
    rw [List.flatMap_cons, List.length_append, rows_len l]
    simp [rowL]; omega
theorem nums_len (m : Msg) : (numsL m).length = 9 + 5 * m.L.length := by
  unfold numsL
  rw [List.length_append, rows_len]
  rfl
theorem enc_ne (u : Int) : enc u ≠ [] := by
  rw [enc]; split <;> simp
theorem encI_ne (n : Int) : encI n ≠ [] := enc_ne _
/-- A number that is cut is none. -/
theorem un_cut : ∀ (m : Nat) (u : Int), u.toNat = m → 0 ≤ u → ∀ (i : Nat) (v : Int), i ≤ 9 → (i = 0 ∨ 1 ≤ u) → u < 128 ^ (10 - i) → ∀ t, t <+: enc u → t ≠ enc u → (un i v t).2.1 ≠ 0 := by
  intro m
  induction m using Nat.strongRecOn with
  | _ m ih =>
    intro u hu h0 i v hi hc hb t ht hne
    by_cases hlt : u < 128
    · rw [enc_lt u hlt] at ht hne
      have : t = [] := by
        rcases List.prefix_cons_iff.1 ht with h | ⟨t', rfl, h⟩
        · exact h
        · rw [List.prefix_nil.1 h] at hne; exact absurd rfl hne
      subst this
      unfold un
      split <;> decide
    · rw [enc_ge u (by omega)] at ht hne
      rcases List.prefix_cons_iff.1 ht with h | ⟨t', rfl, h⟩
      · subst h
        unfold un
        split <;> decide
      · have hne' : t' ≠ enc (u / 128) := fun h => hne (by rw [h])
        unfold un
        rw [if_neg (by omega)]
        by_cases h9 : (i = 9 ∧ 1 < u % 128 + 128) ∨ (0 < i ∧ u % 128 + 128 = 0)
        · rw [if_pos h9]; decide
        · rw [if_neg h9, if_neg (by omega)]
          have hi9 : i ≠ 9 := fun h => h9 (.inl ⟨h, by omega⟩)
          refine ih (u / 128).toNat (by omega) (u / 128) rfl (by omega) (i + 1) _ (by omega) (.inr (by omega)) ?_ t' h hne'
          have e : (128 : Int) ^ (10 - i) = 128 ^ (10 - (i + 1)) * 128 := by
            rw [← Int.pow_succ]
            congr 1
            omega
          rw [e] at hb
          omega
theorem dInt_cut (pre : List Int) (n : Int) (hn : i64 n) (t : List Int) (ht : t <+: encI n) (hne : t ≠ encI n) (a : Int) (ha : a = pre.length) : ∃ x, dInt (pre ++ t) a = (0, a, some x) := by
  subst ha
  obtain ⟨z0, z1⟩ := zig_range n hn.1 hn.2
  have h := un_cut _ (zig n) rfl z0 0 0 (by omega) (.inl rfl) (by have : (128 : Int) ^ (10 - 0) = 1180591620717411303424 := by decide
                                                                  omega) t ht hne
  unfold dInt
  rw [Int.toNat_natCast, List.drop_left]
  dsimp only
  rw [if_neg h]
  exact ⟨_, rfl⟩
/-- Bytes that hold j of the numbers whole, and then what follows: nothing of the next one that is whole. -/
structure Held (ns : List Int) (j : Nat) (bs : List Int) : Prop where
  le : j ≤ ns.length
  num : ∀ x ∈ ns, i64 x
  cut : ∃ t, bs = (ns.take j).flatMap encI ++ t ∧ (∀ x ∈ t, 0 ≤ x ∧ x < 256) ∧ ∀ h : j < ns.length, t <+: encI ns[j] ∧ t ≠ encI ns[j]
def posF (ns : List Int) (i : Nat) : Int := ((ns.take i).flatMap encI).length
theorem posF_succ (ns : List Int) (i : Nat) (h : i < ns.length) : posF ns (i + 1) = posF ns i + (encI ns[i]).length := by
  unfold posF
  rw [List.take_succ_eq_append_getElem h, List.flatMap_append, List.length_append]
  simp
theorem Held.bytes {ns : List Int} {j : Nat} {bs : List Int} (h : Held ns j bs) : ∀ x ∈ bs, 0 ≤ x ∧ x < 256 := by
  obtain ⟨t, rfl, ht, _⟩ := h.cut
  intro x hx
  rcases List.mem_append.1 hx with hx | hx
  · obtain ⟨n, hn, hx⟩ := List.mem_flatMap.1 hx
    have := h.num n (List.mem_of_mem_take hn)
    exact encI_bytes n this.1 this.2 x hx
  · exact ht x hx
theorem Held.pos {ns : List Int} {j : Nat} {bs : List Int} (h : Held ns j bs) {i : Nat} (hi : i ≤ j) : 0 ≤ posF ns i ∧ posF ns i ≤ bs.length := by
  obtain ⟨t, rfl, ht, _⟩ := h.cut
  unfold posF
  have e : ns.take j = ns.take i ++ (ns.take j).drop i := by
    rw [show ns.take i = (ns.take j).take i by rw [List.take_take, Nat.min_eq_left hi], List.take_append_drop]
  rw [e, List.flatMap_append]
  simp only [List.length_append]
  omega
/-- The next number, if it is whole. -/
theorem Held.yes {ns : List Int} {j : Nat} {bs : List Int} (h : Held ns j bs) {i : Nat} (hi : i < j) : dInt bs (posF ns i) = (ns[i]'(Nat.lt_of_lt_of_le hi h.le), posF ns (i + 1), none) := by
  have hil := Nat.lt_of_lt_of_le hi h.le
  obtain ⟨t, rfl, ht, _⟩ := h.cut
  have e : ns.take j = ns.take i ++ (ns[i] :: (ns.take j).drop (i + 1)) := by
    have h1 : i < (ns.take j).length := by rw [List.length_take]; omega
    have h2 := List.drop_eq_getElem_cons h1
    have h3 : (ns.take j)[i] = ns[i] := List.getElem_take ..
    rw [← h3, ← h2, show ns.take i = (ns.take j).take i by rw [List.take_take, Nat.min_eq_left (by omega)], List.take_append_drop]
  have hn := h.num _ (List.getElem_mem hil)
  rw [posF_succ ns i hil]
  have e2 : (ns.take j).flatMap encI ++ t = (ns.take i).flatMap encI ++ (encI ns[i] ++ (((ns.take j).drop (i + 1)).flatMap encI ++ t)) := by
    rw [← List.append_assoc (encI ns[i]), ← List.append_assoc, ← List.flatMap_cons, ← List.flatMap_append, ← e]
  have := dInt_enc ((ns.take i).flatMap encI) ns[i] (((ns.take j).drop (i + 1)).flatMap encI ++ t) hn.1 hn.2 _ rfl
  rw [← e2] at this
  exact this
/-- The first that is not. -/
theorem Held.no {ns : List Int} {j : Nat} {bs : List Int} (h : Held ns j bs) (hj : j < ns.length) : ∃ x, dInt bs (posF ns j) = (0, posF ns j, some x) := by
  obtain ⟨t, rfl, ht, hc⟩ := h.cut
  obtain ⟨h1, h2⟩ := hc hj
  exact dInt_cut _ _ (h.num _ (List.getElem_mem hj)) t h1 h2 _ rfl
/-- All of it, and what is behind. -/
theorem held_all {ns : List Int} (hn : ∀ x ∈ ns, i64 x) (t : List Int) (ht : ∀ x ∈ t, 0 ≤ x ∧ x < 256) : Held ns ns.length (ns.flatMap encI ++ t) :=
  ⟨Nat.le_refl _, hn, t, by rw [List.take_length], ht, fun h => absurd h (Nat.lt_irrefl _)⟩
/-- A cut. -/
theorem held_cut : ∀ {ns : List Int} (hn : ∀ x ∈ ns, i64 x) (k : Nat), k < (ns.flatMap encI).length → ∃ j, j < ns.length ∧ Held ns j ((ns.flatMap encI).take k)
  | [], _, k, h => by simp at h
  | n :: r, hn, k, h => by
    have hn0 := hn n (by simp)
    by_cases hk : k < (encI n).length
    · refine ⟨0, by simp, by simp, hn, (encI n).take k, ?_, ?_, fun _ => ⟨List.take_prefix _ _, fun he => ?_⟩⟩
      · rw [List.flatMap_cons, List.take_append_of_le_length (by omega)]
        rfl
      · exact fun x hx => encI_bytes n hn0.1 hn0.2 x (List.mem_of_mem_take hx)
      · have := congrArg List.length he
        rw [List.length_take] at this
        simp only [List.getElem_cons_zero] at this
        omega
    · rw [List.flatMap_cons, List.length_append] at h
      obtain ⟨j, hj, hh⟩ := held_cut (ns := r) (fun x hx => hn x (by simp [hx])) (k - (encI n).length) (by omega)
      obtain ⟨t, ht1, ht2, ht3⟩ := hh.cut
      refine ⟨j + 1, by simpa using hj, by simp; omega, hn, t, ?_, ht2, fun h => ?_⟩
      · rw [List.flatMap_cons, List.take_append, List.take_of_length_le (by omega), ht1, List.take_succ_cons, List.flatMap_cons, List.append_assoc]
      · simp only [List.getElem_cons_succ]
        exact ht3 (by simpa using h)
theorem flat_inj : ∀ (l1 l2 : List Int), (∀ x ∈ l1, i64 x) → (∀ x ∈ l2, i64 x) → l1.flatMap encI = l2.flatMap encI → l1 = l2
  | [], [], _, _, _ => rfl
  | [], n :: r, _, _, h => by
    rw [List.flatMap_nil, List.flatMap_cons] at h
    exact absurd (List.append_eq_nil_iff.1 h.symm).1 (encI_ne n)
  | n :: r, [], _, _, h => by
    rw [List.flatMap_nil, List.flatMap_cons] at h
    exact absurd (List.append_eq_nil_iff.1 h).1 (encI_ne n)
  | n :: r, m :: q, h1, h2, h => by
    have a1 := h1 n (by simp)
    have a2 := h2 m (by simp)
    rw [List.flatMap_cons, List.flatMap_cons] at h
    have d1 := dInt_enc [] n (r.flatMap encI) a1.1 a1.2 0 rfl
    have d2 := dInt_enc [] m (q.flatMap encI) a2.1 a2.2 0 rfl
    rw [List.nil_append] at d1 d2
    rw [h, d2] at d1
    injection d1 with d1 d3
    subst d1
    rw [flat_inj r q (fun x hx => h1 x (by simp [hx])) (fun x hx => h2 x (by simp [hx])) (List.append_cancel_left h)]
theorem rowL_inj : ∀ (l1 l2 : List Row), l1.flatMap rowL = l2.flatMap rowL → l1 = l2
  | [], [], _ => rfl
  | [], n :: r, h => by simp [rowL] at h
  | n :: r, [], h => by simp [rowL] at h
  | ⟨a0, a1, a2, a3, a4⟩ :: r, ⟨b0, b1, b2, b3, b4⟩ :: q, h => by
    simp only [List.flatMap_cons, rowL, List.cons_append, List.nil_append, List.cons.injEq] at h
    obtain ⟨rfl, rfl, rfl, rfl, rfl, h⟩ := h
    rw [rowL_inj r q h]
theorem nums_inj {a b : Msg} (h : numsL a = numsL b) : a = b := by
  obtain ⟨k, s, ⟨a0, a1, a2, a3, a4, a5⟩, L⟩ := a
  obtain ⟨k', s', ⟨b0, b1, b2, b3, b4, b5⟩, M⟩ := b
  simp only [numsL, headL, List.cons_append, List.nil_append, List.cons.injEq] at h
  obtain ⟨rfl, rfl, rfl, rfl, rfl, rfl, rfl, rfl, _, h⟩ := h
  rw [rowL_inj L M h]
theorem encM_inj {a b : Msg} (ha : OkM a) (hb : OkM b) (h : encM a = encM b) : a = b := nums_inj (flat_inj _ _ ha.nums hb.nums h)
end Go.Proofs.YtcbhddajkleleaaDoor.Msg
