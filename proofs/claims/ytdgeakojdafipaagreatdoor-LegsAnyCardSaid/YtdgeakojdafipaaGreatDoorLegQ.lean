import Derived.Test.YtdgeakojdafipaaGreatDoorLegP
import Derived.Test.YtdgeakojdafipaaGreatDoorNumA
/-! Legs in plain Lean: turned, multiplied, shuffled. -/
set_option linter.unusedVariables false
set_option linter.unusedSimpArgs false
namespace Go.Proofs.YtdgeakojdafipaaGreatDoor.Legs
open Go.Sort Go.RowKit Go.Proofs.YtdgeakojdafipaaGreatDoorW.PrintWords Go.Proofs.YtdgeakojdafipaaGreatDoor.Num

theorem turn1_sign {x : Leg} (h : okB x = true) : (turn1 x).Sign = -x.Sign := by
  obtain ⟨_, h | h, _⟩ := okB_iff.1 h <;> simp [turn1, h, wrap64]
theorem turn1_ok {x : Leg} (h : okB x = true) : okB (turn1 x) = true := by
  have h2 := turn1_sign h
  obtain ⟨a, b, c, d⟩ := okB_iff.1 h
  exact okB_iff.2 ⟨a, by rw [h2]; omega, c, d⟩
theorem turn1_turn1 {x : Leg} (h : okB x = true) : turn1 (turn1 x) = x := by
  have h2 := turn1_sign (turn1_ok h)
  rw [turn1_sign h] at h2
  exact leg_ext rfl (by rw [h2]; omega) rfl
theorem turnL_length (l : List Leg) : (turnL l).length = l.length := by simp [turnL]
theorem turnL_good {l : List Leg} (h : Good l) : Good (turnL l) where
  lo := by rw [turnL_length]; exact h.lo
  hi := by rw [turnL_length]; exact h.hi
  ok := fun x hx => by
    obtain ⟨y, hy, rfl⟩ := List.mem_map.1 hx
    exact turn1_ok (h.ok y hy)
  nd := List.pairwise_map.2 h.nd
theorem turnL_turnL {l : List Leg} (h : ∀ x ∈ l, okB x = true) : turnL (turnL l) = l := by
  unfold turnL
  rw [List.map_map]
  conv => rhs; rw [← List.map_id l]
  exact List.map_congr_left fun x hx => turn1_turn1 (h x hx)
theorem good_srt {l : List Leg} (h : Good l) : Good (srt l) := by
  have hp := (srt_spec h.nd).1
  exact ⟨by rw [hp.length_eq]; exact h.lo, by rw [hp.length_eq]; exact h.hi, fun x hx => h.ok x (hp.subset hx), (hp.pairwise_iff (fun h => h.symm)).2 h.nd⟩
theorem okB_dv {x : Leg} {g : Int} (h : okB x = true) (hg : 1 ≤ g) (hd : g ∣ x.Ratio) : okB { x with Ratio := x.Ratio / g } = true := by
  obtain ⟨a, b, c, d⟩ := okB_iff.1 h
  refine okB_iff.2 ⟨a, b, ?_, ?_⟩
  · show 1 ≤ x.Ratio / g
    rw [Int.le_ediv_iff_mul_le (by omega)]
    have := Int.le_of_dvd (by omega) hd
    omega
  · show x.Ratio / g ≤ 4
    have := Int.ediv_le_self (a := x.Ratio) g (by omega)
    omega
theorem dv_length (g : Int) (l : List Leg) : (dv g l).length = l.length := by simp [dv]
theorem good_dv {l : List Leg} (h : Good l) : Good (dv (allG l) l) where
  lo := by rw [dv_length]; exact h.lo
  hi := by rw [dv_length]; exact h.hi
  ok := fun x hx => by
    obtain ⟨y, hy, rfl⟩ := List.mem_map.1 hx
    exact okB_dv (h.ok y hy) (allG_pos h.ok (by have := h.lo; omega)) ((allG_dvd l _).1 (Int.dvd_refl _) y hy)
  nd := List.pairwise_map.2 h.nd
theorem dv_one (l : List Leg) : dv 1 l = l := by
  unfold dv
  conv => rhs; rw [← List.map_id l]
  exact List.map_congr_left fun x _ => by simp
/-- What one divides all by leaves nothing that divides all. -/
theorem allG_dv {l : List Leg} (h : Good l) : allG (dv (allG l) l) = 1 := by
  have hp := allG_pos h.ok (by have := h.lo; omega)
  refine allG_eq (by omega) fun d => ⟨fun hd x hx => ?_, fun hd => ?_⟩
  · obtain ⟨y, hy, rfl⟩ := List.mem_map.1 hx
    exact Int.dvd_trans hd (Int.one_dvd _)
  · have h2 : d * allG l ∣ allG l := by
      refine (allG_dvd l _).2 fun x hx => ?_
      obtain ⟨c, hc⟩ := (allG_dvd l _).1 (Int.dvd_refl _) x hx
      have h3 := hd { x with Ratio := x.Ratio / allG l } (List.mem_map.2 ⟨x, hx, rfl⟩)
      have h4 : x.Ratio / allG l = c := by rw [hc]; exact Int.mul_ediv_cancel_left _ (by omega)
      dsimp only at h3
      rw [h4] at h3
      rw [hc, Int.mul_comm d]
      exact Int.mul_dvd_mul_left _ h3
    have h5 : allG l * d ∣ allG l * 1 := by rw [Int.mul_one, Int.mul_comm]; exact h2
    exact Int.dvd_of_mul_dvd_mul_left (by omega) h5
theorem srt_turn {l : List Leg} (h : Good l) : srt (turnL l) = turnL (srt l) := by
  have hs := srt_spec h.nd
  exact srt_eq (turnL_good h).nd (hs.1.map _) (List.pairwise_map.2 hs.2)
theorem allG_turn (l : List Leg) : allG (turnL l) = allG l := by
  unfold allG turnL
  rw [List.foldl_map]
  rfl
theorem dv_turn (g : Int) (l : List Leg) : dv g (turnL l) = turnL (dv g l) := by
  unfold dv turnL
  rw [List.map_map, List.map_map]
  rfl
theorem lg_turn {l : List Leg} (h : 0 < l.length) : lg (turnL l) 0 = turn1 (lg l 0) := by
  rw [lg_lt h, lg_lt (by rw [turnL_length]; exact h)]
  simp [turnL]
/-- The divided, sorted legs. -/
def base (l : List Leg) : List Leg := dv (allG (srt l)) (srt l)
theorem good_base {l : List Leg} (h : Good l) : Good (base l) := good_dv (good_srt h)
theorem base_asc {l : List Leg} (h : Good l) : Asc (base l) := List.pairwise_map.2 (srt_spec h.nd).2
theorem base_turn {l : List Leg} (h : Good l) : base (turnL l) = turnL (base l) := by
  unfold base
  rw [srt_turn h, allG_turn, dv_turn]
theorem canon_base (l : List Leg) : canonF l = if (lg (base l) 0).Sign = 1 then (base l, false) else (turnL (base l), true) := rfl
theorem good_canon {l : List Leg} (h : Good l) : Good (canonF l).1 := by
  rw [canon_base]
  split
  · exact good_base h
  · exact turnL_good (good_base h)
theorem canon_turn {l : List Leg} (h : Good l) : canonF (turnL l) = ((canonF l).1, !(canonF l).2) := by
  have hb := good_base h
  have hp : 0 < (base l).length := by have := hb.lo; omega
  have ho := hb.ok _ (List.getElem_mem hp)
  rw [← lg_lt hp] at ho
  rw [canon_base, canon_base, base_turn h, lg_turn hp, turn1_sign ho, turnL_turnL hb.ok]
  obtain ⟨_, h1 | h1, _⟩ := okB_iff.1 ho <;> simp [h1]
theorem canon_lead {l : List Leg} (h : Good l) : (lg (canonF l).1 0).Sign = 1 := by
  have hb := good_base h
  have hp : 0 < (base l).length := by have := hb.lo; omega
  have ho := hb.ok _ (List.getElem_mem hp)
  rw [← lg_lt hp] at ho
  rw [canon_base]
  split
  · assumption
  · rename_i hn
    show (lg (turnL (base l)) 0).Sign = 1
    rw [lg_turn hp, turn1_sign ho]
    obtain ⟨_, h1 | h1, _⟩ := okB_iff.1 ho
    · exact absurd h1 hn
    · rw [h1]; rfl
theorem canon_asc {l : List Leg} (h : Good l) : Asc (canonF l).1 := by
  rw [canon_base]
  split
  · exact base_asc h
  · exact List.pairwise_map.2 (base_asc h)
theorem canon_gcd {l : List Leg} (h : Good l) : allG (canonF l).1 = 1 := by
  rw [canon_base]
  split
  · exact allG_dv (good_srt h)
  · show allG (turnL (base l)) = 1
    rw [allG_turn]
    exact allG_dv (good_srt h)
theorem canon_length {l : List Leg} (h : Good l) : (canonF l).1.length = l.length := by
  have h1 : (base l).length = l.length := by unfold base; rw [dv_length]; exact (srt_spec h.nd).1.length_eq
  rw [canon_base]
  split
  · exact h1
  · show (turnL (base l)).length = _
    rw [turnL_length]; exact h1
/-- Each leg of the one form is one of the legs, divided. -/
theorem canon_from {l : List Leg} (h : Good l) {x : Leg} (hx : x ∈ (canonF l).1) : ∃ y ∈ l, y.Series = x.Series ∧ y.Ratio = x.Ratio * allG l := by
  have hs := (srt_spec h.nd).1
  have hb : ∀ z ∈ base l, ∃ y ∈ l, y.Series = z.Series ∧ y.Ratio = z.Ratio * allG l := by
    intro z hz
    obtain ⟨y, hy, rfl⟩ := List.mem_map.1 hz
    have hd := (allG_dvd (srt l) _).1 (Int.dvd_refl _) y hy
    refine ⟨y, hs.subset hy, rfl, ?_⟩
    rw [← allG_perm hs]
    exact (Int.ediv_mul_cancel hd).symm
  rw [canon_base] at hx
  split at hx
  · exact hb x hx
  · obtain ⟨z, hz, rfl⟩ := List.mem_map.1 hx
    exact hb z hz
/-- The one form's own form is itself. -/
theorem canon_canon {l : List Leg} (h : Good l) : canonF (canonF l).1 = ((canonF l).1, false) := by
  have hg := good_canon h
  have h1 : srt (canonF l).1 = (canonF l).1 := srt_eq hg.nd (List.Perm.refl _) (canon_asc h)
  have h2 : base (canonF l).1 = (canonF l).1 := by unfold base; rw [h1, canon_gcd h, dv_one]
  rw [canon_base, h2, canon_lead h, if_pos rfl]
/-! ### multiplied, in another order -/
def mulL (k : Int) (l : List Leg) : List Leg := l.map fun x => { x with Ratio := x.Ratio * k }
theorem allG_mul {l : List Leg} (h : Good l) {k : Int} (hk : 1 ≤ k) : allG (mulL k l) = allG l * k := by
  have hp := allG_pos h.ok (by have := h.lo; omega)
  have h0 : k ∣ allG (mulL k l) := by
    refine (allG_dvd _ _).2 fun x hx => ?_
    obtain ⟨y, hy, rfl⟩ := List.mem_map.1 hx
    exact Int.dvd_mul_left _ _
  obtain ⟨c, hc⟩ := h0
  have hc0 : 0 ≤ c := by
    have := allG_nonneg (mulL k l)
    rw [hc] at this
    rcases Int.lt_or_le c 0 with h | h
    · have := Int.mul_neg_of_pos_of_neg (show 0 < k by omega) h
      omega
    · exact h
  have h1 : allG l = c := by
    refine allG_eq hc0 fun d => ?_
    have h2 : d ∣ c ↔ k * d ∣ allG (mulL k l) := by
      rw [hc]
      exact ⟨fun h => Int.mul_dvd_mul_left _ h, fun h => Int.dvd_of_mul_dvd_mul_left (by omega) h⟩
    rw [h2, allG_dvd]
    constructor
    · intro h x hx
      have h3 := h _ (List.mem_map.2 ⟨x, hx, rfl⟩)
      dsimp only at h3
      rw [Int.mul_comm x.Ratio] at h3
      exact Int.dvd_of_mul_dvd_mul_left (by omega) h3
    · intro h x hx
      obtain ⟨y, hy, rfl⟩ := List.mem_map.1 hx
      dsimp only
      rw [Int.mul_comm y.Ratio]
      exact Int.mul_dvd_mul_left _ (h y hy)
  rw [hc, h1, Int.mul_comm]
theorem base_shuffled {l m : List Leg} {k : Int} (h : Good l) (hk : 1 ≤ k) (hm : m.Perm (mulL k l)) : base m = base l := by
  have hs := srt_spec h.nd
  have hmn : m.Pairwise fun a b => a.Series ≠ b.Series := (hm.pairwise_iff (fun h => h.symm)).2 (List.pairwise_map.2 h.nd)
  have h1 : srt m = mulL k (srt l) := srt_eq hmn ((hs.1.map _).trans hm.symm) (List.pairwise_map.2 hs.2)
  have hg := good_srt h
  have hp := allG_pos hg.ok (by have := hg.lo; omega)
  unfold base
  rw [h1, allG_mul hg hk]
  unfold dv mulL
  rw [List.map_map]
  refine List.map_congr_left fun x hx => ?_
  show ({ x with Ratio := x.Ratio * k / (allG (srt l) * k) } : Leg) = _
  rw [Int.mul_ediv_mul_of_pos_left _ _ (by omega)]
theorem canon_shuffled {l m : List Leg} {k : Int} (h : Good l) (hk : 1 ≤ k) (hm : m.Perm (mulL k l)) : canonF m = canonF l := by
  rw [canon_base, canon_base, base_shuffled h hk hm]
theorem good_shuffled {l m : List Leg} {k : Int} (h : Good l) (hk : 1 ≤ k) (hm : m.Perm (mulL k l)) (h4 : ∀ x ∈ m, x.Ratio ≤ 4) : Good m where
  lo := by have := h.lo; rw [hm.length_eq]; simpa [mulL] using this
  hi := by have := h.hi; rw [hm.length_eq]; simpa [mulL] using this
  ok := fun x hx => by
    obtain ⟨y, hy, rfl⟩ := List.mem_map.1 (hm.subset hx)
    obtain ⟨a, b, c, d⟩ := okB_iff.1 (h.ok y hy)
    refine okB_iff.2 ⟨a, b, ?_, h4 _ hx⟩
    show 1 ≤ y.Ratio * k
    have := Int.mul_le_mul c hk (by omega) (by omega)
    omega
  nd := (hm.pairwise_iff (fun h => h.symm)).2 (List.pairwise_map.2 h.nd)
/-- Turned in a ring. -/
theorem ring_perm (l : List Leg) (t : Nat) (h : 0 < l.length) (m : List Leg) (hm : m.length = l.length) (he : ∀ i, i < l.length → lg m i = lg l ((i + t) % l.length)) : m.Perm l := by
  have e : m = l.drop (t % l.length) ++ l.take (t % l.length) := by
    have hlt := Nat.mod_lt t h
    refine List.ext_getElem (by simp; omega) fun i h1 h2 => ?_
    have h3 := he i (by omega)
    rw [lg_lt h1, lg_lt (Nat.mod_lt _ h)] at h3
    rw [h3, List.getElem_append]
    split
    · rename_i h4
      rw [List.getElem_drop]
      congr 1
      rw [List.length_drop] at h4
      rw [Nat.add_mod, Nat.mod_eq_of_lt (show i < l.length by omega), Nat.mod_eq_of_lt (show i + t % l.length < l.length by omega)]
      omega
    · rename_i h4
      rw [List.getElem_take]
      congr 1
      rw [List.length_drop] at h4 ⊢
      rw [Nat.add_mod, Nat.mod_eq_of_lt (show i < l.length by omega)]
      have e2 : i + t % l.length = (i - (l.length - t % l.length)) + l.length := by omega
      rw [e2, Nat.add_mod_right, Nat.mod_eq_of_lt (by omega)]
  rw [e]
  exact List.perm_append_comm.trans (by rw [List.take_append_drop])
/-! ### the net -/
def pr (ps : List Int) (i : Nat) : Int := ps[i]?.getD 0
def netFrom (l : List Leg) (ps : List Int) : Nat → Nat → Int → Int × Int
  | 0, _, s => (s, 0)
  | n + 1, i, s => if i64B ((lg l i).Sign * (lg l i).Ratio * pr ps i) = false then (0, 9) else if i64B (s + (lg l i).Sign * (lg l i).Ratio * pr ps i) = false then (0, 9) else netFrom l ps n (i + 1) (s + (lg l i).Sign * (lg l i).Ratio * pr ps i)
/-- What legs cost together. -/
def netF (l : List Leg) (ps : List Int) : Int × Int := if wrong l = none ∧ ps.length = l.length then netFrom l ps l.length 0 0 else (0, 1)
theorem mul_bd {a b c B : Int} (h1 : a = 1 ∨ a = -1) (h2 : 1 ≤ b) (h3 : b ≤ 4) (h4 : -B ≤ c) (h5 : c ≤ B) : -(4 * B) ≤ a * b * c ∧ a * b * c ≤ 4 * B ∧ -a * b * c = -(a * b * c) := by
  have hb : b = 1 ∨ b = 2 ∨ b = 3 ∨ b = 4 := by omega
  rcases h1 with rfl | rfl <;> rcases hb with rfl | rfl | rfl | rfl <;> omega
theorem net_turn (l : List Leg) (ps : List Int) (hok : ∀ x ∈ l, okB x = true) (B : Int) (hB0 : 0 ≤ B) (hB : 16 * B ≤ 9223372036854775807) (hps : ∀ i, i < l.length → -B ≤ pr ps i ∧ pr ps i ≤ B) (h4 : l.length ≤ 4) (n : Nat) :
    ∀ (i : Nat) (s : Int), i + n = l.length → -((i : Int) * (4 * B)) ≤ s → s ≤ (i : Int) * (4 * B) → netFrom (turnL l) ps n i (-s) = (-(netFrom l ps n i s).1, (netFrom l ps n i s).2) ∧ (netFrom l ps n i s).2 = 0 := by
  induction n with
  | zero => intro i s _ _ _; exact ⟨rfl, rfl⟩
  | succ n ih =>
    intro i s hn h1 h2
    have hi : i < l.length := by omega
    have ho := hok _ (List.getElem_mem hi)
    rw [← lg_lt hi] at ho
    have ht : lg (turnL l) i = turn1 (lg l i) := by
      rw [lg_lt hi, lg_lt (by rw [turnL_length]; exact hi)]
      simp [turnL]
    have hs := turn1_sign ho
    obtain ⟨_, a, b, c⟩ := okB_iff.1 ho
    have hp := hps i hi
    obtain ⟨m1, m2, m3⟩ := mul_bd (B := B) a b c hp.1 hp.2
    have hi4 : i = 0 ∨ i = 1 ∨ i = 2 ∨ i = 3 := by omega
    have ih' := ih (i + 1) (s + (lg l i).Sign * (lg l i).Ratio * pr ps i) (by omega)
    have hr : (turn1 (lg l i)).Ratio = (lg l i).Ratio := rfl
    simp only [netFrom, ht, hs, hr, m3]
    generalize (lg l i).Sign * (lg l i).Ratio * pr ps i = p at *
    have hsb : -(12 * B) ≤ s ∧ s ≤ 12 * B := by rcases hi4 with rfl | rfl | rfl | rfl <;> constructor <;> push_cast at h1 h2 <;> omega
    have e1 : i64B p = true := by unfold i64B; simp; omega
    have e2 : i64B (-p) = true := by unfold i64B; simp; omega
    have e3 : i64B (s + p) = true := by unfold i64B; simp; omega
    have e4 : i64B (-s + -p) = true := by unfold i64B; simp; omega
    rw [e1, e2, e3, e4, if_neg (by decide), if_neg (by decide), if_neg (by decide), if_neg (by decide), show -s + -p = -(s + p) by omega]
    exact ih' (by rcases hi4 with rfl | rfl | rfl | rfl <;> push_cast at h1 h2 ⊢ <;> omega) (by rcases hi4 with rfl | rfl | rfl | rfl <;> push_cast at h1 h2 ⊢ <;> omega)
theorem okB_turn1 {x : Leg} (hx : -9223372036854775808 ≤ x.Sign ∧ x.Sign ≤ 9223372036854775807) : okB (turn1 x) = okB x := by
  have h : ((turn1 x).Sign == 1 || (turn1 x).Sign == -1) = (x.Sign == 1 || x.Sign == -1) := by
    rw [Bool.eq_iff_iff]
    simp [turn1, wrap64]
    omega
  show (decide (1 ≤ x.Series) && (((turn1 x).Sign == 1 || (turn1 x).Sign == -1) && (decide (1 ≤ x.Ratio) && decide (x.Ratio ≤ 4)))) = _
  rw [h]; rfl
theorem wrong_turn {l : List Leg} (hx : ∀ x ∈ l, -9223372036854775808 ≤ x.Sign ∧ x.Sign ≤ 9223372036854775807) : wrong (turnL l) = none ↔ wrong l = none := by
  rw [good_iff, good_iff]
  refine ⟨fun h => ⟨by have := h.lo; rwa [turnL_length] at this, by have := h.hi; rwa [turnL_length] at this, fun x hm => ?_, ?_⟩, turnL_good⟩
  · rw [← okB_turn1 (hx x hm)]
    exact h.ok _ (List.mem_map.2 ⟨x, hm, rfl⟩)
  · have h2 := h.nd
    unfold turnL at h2
    rw [List.pairwise_map] at h2
    exact h2
theorem netF_turn (l : List Leg) (ps : List Int) (hx : ∀ x ∈ l, -9223372036854775808 ≤ x.Sign ∧ x.Sign ≤ 9223372036854775807) (hps : ∀ i, i < ps.length → -1125899906842624 ≤ pr ps i ∧ pr ps i ≤ 1125899906842624) :
    netF (turnL l) ps = (-(netF l ps).1, (netF l ps).2) ∧ (wrong l = none → ps.length = l.length → (netF l ps).2 = 0) := by
  unfold netF
  rw [turnL_length]
  by_cases h : wrong l = none ∧ ps.length = l.length
  · rw [if_pos h, if_pos ⟨(wrong_turn hx).2 h.1, h.2⟩]
    have hg := good_iff.1 h.1
    have := net_turn l ps hg.ok 1125899906842624 (by omega) (by omega) (fun i hi => hps i (by omega)) hg.hi l.length 0 0 (by omega) (by simp) (by simp)
    exact ⟨this.1, fun _ _ => this.2⟩
  · rw [if_neg h, if_neg (fun h3 => h ⟨(wrong_turn hx).1 h3.1, h3.2⟩)]
    exact ⟨rfl, fun h1 h2 => absurd ⟨h1, h2⟩ h⟩
theorem netFrom_i64 (l : List Leg) (ps : List Int) : ∀ (n i : Nat) (s : Int), i64B s = true → i64B (netFrom l ps n i s).1 = true
  | 0, i, s, h => h
  | n + 1, i, s, h => by
    unfold netFrom
    split
    · rfl
    · split
      · rfl
      · rename_i h1
        exact netFrom_i64 l ps n (i + 1) _ (by simpa using h1)
theorem netF_i64 (l : List Leg) (ps : List Int) : i64B (netF l ps).1 = true := by
  unfold netF
  split
  · exact netFrom_i64 l ps _ _ _ rfl
  · rfl
end Go.Proofs.YtdgeakojdafipaaGreatDoor.Legs
