import Derived.Test.YtdkkdoadafhfmaaDoorGridS
import Derived.OpenShut
/-! What is wrong with a table: the program's answer, the reference's. -/
set_option linter.unusedVariables false
set_option linter.unusedSimpArgs false
namespace Go.Proofs.YtdkkdoadafhfmaaDoor.Grid
open Go.RowKit Go.Proofs.YtdkkdoadafhfmaaDoorW.PrintWords Go.Proofs.YtdkkdoadafhfmaaDoor.B Go.Proofs.YtdkkdoadafhfmaaDoor.PGridAny Go.Proofs.YtdkkdoadafhfmaaDoorW.PrintMore Go.Proofs.YtdkkdoadafhfmaaDoor.Err

def stepB : ByteArray := ⟨#[115, 116, 101, 112]⟩
abbrev PPart := S125
def ansR (o : Option (Nat × Int)) : List PPart × Int := match o with
  | none => ([], 0)
  | some (n, c) => ([⟨stepB, n⟩], c)
theorem chkJ (t : List Step) (h8 : t.length ≤ 8) (i d : Nat) (hi : i + (d + 1) = t.length) (hp : Pre t i) (k : Nat)
    (next : good1 t i = true → good2 t i = true → straddleref6_Check.l0 k (t.map toR) ((i + 1 : Nat) : Int) = some (ansR (chkL t d (i + 1)))) :
    (good1 t i = false → straddleref6_Check.j1 (k + 1) (t.map toR) i true = some (ansR (chkL t (d + 1) i))) ∧
    (good1 t i = true → straddleref6_Check.j1 (k + 1) (t.map toR) i false = some (ansR (chkL t (d + 1) i))) := by
  constructor
  · intro hg
    simp only [straddleref6_Check.j1, if_true, straddleref4_At.f, Option.bind_some, chkL, hg]
    rfl
  · intro hg
    have e1 : wrap64 ((i : Int) + 1) = ((i + 1 : Nat) : Int) := w64 (by omega) (by omega)
    simp only [straddleref6_Check.j1]
    rw [if_neg (by simp)]
    rcases Nat.eq_zero_or_pos i with rfl | h0
    · rw [if_neg (by omega), e1, next hg (by simp [good2])]
      simp [chkL, hg, good2]
    · obtain ⟨m, rfl⟩ : ∃ m, i = m + 1 := ⟨i - 1, by omega⟩
      have e2 : wrap64 (((m + 1 : Nat) : Int) - 1) = (m : Int) := by rw [w64 (by omega) (by omega)]; omega
      have p1 := hp.by_ m (by omega)
      have p2 := hp.ge1 (j := m) (by omega)
      have p3 : (stp t (m + 1)).From ≤ 1000000 ∧ (stp t m).From < (stp t (m + 1)).From := by
        simp [good1] at hg
        omega
      rw [if_pos (by omega), if_pos (by omega), if_pos (by simp; omega), e2, if_pos (by omega), if_pos (by simp; omega)]
      rw [rdR, rdR]
      have e3 : wrap64 ((toR (stp t (m + 1))).f0 - (toR (stp t m)).f0) = (stp t (m + 1)).From - (stp t m).From := w64 (by simp [toR]; omega) (by simp [toR]; omega)
      rw [e3, Int.tmod_eq_emod_of_nonneg (by omega)]
      rw [if_neg (by simp [toR]; omega)]
      by_cases hd : ((stp t (m + 1)).From - (stp t m).From) % (stp t m).By = 0
      · have hg2 : good2 t (m + 1) = true := by simp [good2, hd]
        rw [if_pos (by simpa [toR] using hd), e1, next hg hg2]
        simp [chkL, hg, hg2]
      · have hg2 : good2 t (m + 1) = false := by simp [good2, hd]
        rw [if_neg (by simpa [toR] using hd)]
        simp only [straddleref4_At.f, Option.bind_some, chkL, hg, hg2]
        rfl
theorem chk6_l (t : List Step) (h0 : 0 < t.length) (h8 : t.length ≤ 8) : ∀ (d i : Nat) (k : Nat), i + d = t.length → Pre t i → 2 * d < k → straddleref6_Check.l0 k (t.map toR) (i : Int) = some (ansR (chkL t d i)) := by
  intro d
  induction d with
  | zero =>
    intro i k hi hp hk
    obtain ⟨k, rfl⟩ : ∃ m, k = m + 1 := ⟨k - 1, by omega⟩
    obtain rfl : i = t.length := by omega
    simp only [straddleref6_Check.l0]
    rw [if_neg (by simp)]
    rfl
  | succ d ih =>
    intro i k hi hp hk
    obtain ⟨k, rfl⟩ : ∃ m, k = m + 1 + 1 := ⟨k - 2, by omega⟩
    obtain ⟨jt, jf⟩ := chkJ t h8 i d (by omega) hp k (fun a b => ih (i + 1) k (by omega) (hp.succ a b) (by omega))
    unfold straddleref6_Check.l0
    rw [if_pos (by simp; omega)]
    rcases Nat.eq_zero_or_pos i with rfl | hpos
    · rw [if_pos (by omega), if_pos (by omega), rdR]
      by_cases c1 : (toR (stp t 0)).f0 = 1
      · rw [if_pos c1, if_neg (by omega)]
        by_cases c2 : (toR (stp t 0)).f0 > 1000000
        · rw [if_pos c2]; exact jt (by simp [good1]; simp [toR] at c1 c2; omega)
        · rw [if_neg c2]
          by_cases c3 : (toR (stp t 0)).f1 < 1
          · rw [if_pos c3]; exact jt (by simp [good1]; simp [toR] at c1 c2 c3; omega)
          · rw [if_neg c3]
            by_cases c4 : (toR (stp t 0)).f1 > 10000
            · rw [decide_eq_true c4]; exact jt (by simp [good1]; simp [toR] at c1 c2 c3 c4; omega)
            · rw [decide_eq_false c4]; exact jf (by simp [good1]; simp [toR] at c1 c2 c3 c4; omega)
      · rw [if_neg c1]; exact jt (by simp [good1]; simp [toR] at c1; omega)
    · obtain ⟨m, rfl⟩ : ∃ m, i = m + 1 := ⟨i - 1, by omega⟩
      have e2 : wrap64 (((m + 1 : Nat) : Int) - 1) = (m : Int) := by rw [w64 (by omega) (by omega)]; omega
      rw [if_neg (by omega), if_pos (by omega), if_pos (by omega), e2, if_pos (by omega), if_pos (by simp; omega), rdR, rdR]
      by_cases c1 : (toR (stp t (m + 1))).f0 ≤ (toR (stp t m)).f0
      · rw [if_pos c1]; exact jt (by simp [good1]; simp [toR] at c1; omega)
      · rw [if_neg c1]
        by_cases c2 : (toR (stp t (m + 1))).f0 > 1000000
        · rw [if_pos c2]; exact jt (by simp [good1]; simp [toR] at c1 c2; omega)
        · rw [if_neg c2]
          by_cases c3 : (toR (stp t (m + 1))).f1 < 1
          · rw [if_pos c3]; exact jt (by simp [good1]; simp [toR] at c1 c2 c3; omega)
          · rw [if_neg c3]
            by_cases c4 : (toR (stp t (m + 1))).f1 > 10000
            · rw [decide_eq_true c4]; exact jt (by simp [good1]; simp [toR] at c1 c2 c3 c4; omega)
            · rw [decide_eq_false c4]; exact jf (by simp [good1]; simp [toR] at c1 c2 c3 c4; omega)
/-- What an answer of the reference's is: nothing wrong, or one part. -/
def AnsW (w : World) (v : Value) : Option (Nat × Int) → Prop
  | none => ∃ A n c, v = .agg #[.slice A n c, .int .i64 0]
  | some (n, c) => ∃ G cp, v = wrongC G cp c ∧ PartAt w G stepB n
theorem rcheck_c (A : Option Addr) (cap : Nat) (t : List Step) (hcap : t.length ≤ cap) (w : World) (hC : RC w A t) :
    Calls Tryd.prog 37 #[.slice A t.length cap] w fun e w' => ∃ v, e = .returned v ∧ AnsW w' v (chk t) ∧ Fr no w w' := by
  have key : straddleref6_Check.f (2 * t.length + 1) (t.map toR) = some (ansR (chk t)) := by
    unfold straddleref6_Check.f chk
    by_cases h0 : t.length = 0
    · rw [if_pos (by simpa using h0), if_pos (.inl h0)]
      simp only [straddleref4_At.f, Option.bind_some, h0]
      rfl
    · rw [if_neg (by simpa using h0)]
      by_cases h8 : 8 < t.length
      · rw [if_pos (by simp; omega), if_pos (.inr h8)]
        simp only [straddleref4_At.f, Option.bind_some]
        rw [show min t.length 8 = 8 by omega]
        rfl
      · rw [if_neg (by simp; omega), if_neg (by omega)]
        exact chk6_l t (by omega) (by omega) t.length 0 _ (by omega) (Pre.zero t) (by omega)
  have h := straddleref6_Check.calls _ A cap (t.map toR) _ _ w hC (by rw [List.length_map]; exact hcap) key
  rw [List.length_map] at h
  refine h.mono fun e w' ⟨v, h3, hR, h4⟩ => ⟨_, h3, ?_, Fr.of_below h4⟩
  cases hc : chk t with
  | none =>
    obtain ⟨A', c', rfl⟩ := Kd.R_slice hR
    try rw [hc]
    exact ⟨_, _, _, rfl⟩
  | some x =>
    obtain ⟨n, c⟩ := x
    rw [hc] at hR
    try rw [hc]
    obtain ⟨g, cm, rfl, _, _, _⟩ := Kd.R_form hR (Nat.zero_lt_one)
    obtain ⟨ad, e1, c1, c2⟩ := at_T125 (Kd.R_reads' hR).2.2 0 (by omega) (Int.zero_lt_one)
    obtain rfl := (Option.some.inj e1).symm
    exact ⟨g, cm, rfl, c1, c2⟩

/-- Whether a step may be, the steps ahead of it being so. -/
theorem step_any (A : Option Addr) (cap : Nat) (t : List Step) (i : Nat) (h8 : t.length ≤ 8) (hp : Pre t i) (hb : ∀ x ∈ t, wfStep x) (hi : i < t.length) (hcap : t.length ≤ cap) (w : World) (hC : kStep.C w A t.length t) :
    Calls Tryd.prog 67 #[.slice A t.length cap, .int .i64 i] w fun e w' => e = .returned (.int .i64 (if good1 t i then (if good2 t i then 0 else 2) else 1)) ∧ Fr no w w' := by
  have key : grid_Table_step.f 2 (t.map toP) i = some (if good1 t i then (if good2 t i then 0 else 2) else 1) := by
    unfold grid_Table_step.f
    rw [if_pos (by omega), if_pos (by simpa using hi), rdP]
    have hf0 : (toP (stp t i)).f0 = (stp t i).From := rfl
    have hf1 : (toP (stp t i)).f1 = (stp t i).By := rfl
    rw [hf0, hf1]
    by_cases c1 : (stp t i).By < 1
    · have hg : good1 t i = false := by simp [good1]; omega
      rw [if_pos c1, hg]
      simp [grid_Table_step.j0]
    · rw [if_neg c1]
      by_cases c2 : (stp t i).By > 10000
      · have hg : good1 t i = false := by simp [good1]; omega
        rw [if_pos c2, hg]
        simp [grid_Table_step.j0]
      · rw [if_neg c2]
        by_cases c3 : (stp t i).From > 1000000
        · have hg : good1 t i = false := by simp [good1]; omega
          rw [decide_eq_true c3, hg]
          simp [grid_Table_step.j0]
        · rw [decide_eq_false c3]
          simp only [grid_Table_step.j0]
          rw [if_neg (by simp)]
          rcases Nat.eq_zero_or_pos i with rfl | h0
          · rw [if_pos (by omega)]
            simp only [grid_Table_step.j1]
            by_cases c4 : (stp t 0).From = 1
            · have hg : good1 t 0 = true := by simp [good1]; omega
              have : ((stp t 0).From != 1) = false := by simp [c4]
              rw [this, if_neg (by simp), if_pos (by omega), hg]
              simp [good2]
            · have hg : good1 t 0 = false := by simp [good1]; omega
              have : ((stp t 0).From != 1) = true := by simp [c4]
              rw [this, if_pos rfl, hg]
              rfl
          · obtain ⟨m, rfl⟩ : ∃ m, i = m + 1 := ⟨i - 1, by omega⟩
            have e2 : wrap64 (((m + 1 : Nat) : Int) - 1) = (m : Int) := by rw [w64 (by omega) (by omega)]; omega
            have p1 := hp.by_ m (by omega)
            have p2 := hp.ge1 (j := m) (by omega)
            rw [if_neg (by omega)]
            simp only [grid_Table_step.j1]
            rw [if_neg (by simp), if_neg (by omega), e2, if_pos (by omega), if_pos (by simp; omega), rdP]
            have hg0 : (toP (stp t m)).f0 = (stp t m).From := rfl
            have hg1 : (toP (stp t m)).f1 = (stp t m).By := rfl
            rw [hg0, hg1]
            by_cases c4 : (stp t (m + 1)).From ≤ (stp t m).From
            · have hg : good1 t (m + 1) = false := by simp [good1]; omega
              rw [if_pos c4, hg]
              rfl
            · have hg : good1 t (m + 1) = true := by simp [good1]; omega
              rw [if_neg c4, if_neg (by omega), hg]
              have e3 : wrap64 ((stp t (m + 1)).From - (stp t m).From) = (stp t (m + 1)).From - (stp t m).From := w64 (by omega) (by omega)
              rw [e3, Int.tmod_eq_emod_of_nonneg (by omega)]
              by_cases c5 : ((stp t (m + 1)).From - (stp t m).From) % (stp t m).By = 0
              · rw [if_pos c5]; simp [good2, c5]
              · rw [if_neg c5]; simp [good2, c5]
  have h := grid_Table_step.calls 2 A cap (t.map toP) i _ w (by rw [List.length_map]; exact toP_C hC) (by rw [List.length_map]; exact hcap) key
  rw [List.length_map] at h
  exact h.mono fun e w' ⟨h1, h3⟩ => ⟨h1, Fr.of_below h3⟩
/-- What Check tells. -/
def AnsE (w : World) (v : Value) : Option (Nat × Int) → Prop
  | none => v = .nilIface
  | some (n, c) => ∃ F, v = .iface 100 (.pointer (some ⟨F, 0, none⟩)) ∧ FaultAt w F stepB n c
theorem check_any (A : Option Addr) (cap : Nat) (t : List Step) (hb : ∀ x ∈ t, wfStep x) (hl : t.length ≤ 1000) (hcap : t.length ≤ cap) (w : World) (hC : kStep.C w A t.length t) :
    Calls Tryd.prog 38 #[.slice A t.length cap] w fun e w' => ∃ v, e = .returned v ∧ AnsE w' v (chk t) ∧ Fr no w w' := by
  have hnew : ∀ (wr : World) (a c : Int) (n : Nat), a = (n : Int) → FaultAt (wr.alloc (.cells #[.string stepB, .int .i64 a, .iface 34 (.int .i64 c)] 106)) wr.heap.size stepB n c := fun wr a c n h => by subst h; exact blk_new wr _
  have HN := Lib.hid hnew
  clear hnew
  by_cases h0 : t.length = 0
  · have hk : chk t = some (0, 1) := by unfold chk; rw [if_pos (.inl h0), h0]; rfl
    rw [hk]
    clear hk
    rw [h0]
    go_enter Tryd.func38, Tryd.ntmps38
    go_wp2
    go_ret
    exact ⟨_, rfl, ⟨_, rfl, HN.out _ _ _ 0 rfl⟩, (Fr.refl _ _).alloc _⟩
  · have hp0 : ((t.length : Int) == 0) = false := by simp; intro h; rw [h] at h0; simp at h0
    by_cases h8 : 8 < t.length
    · have hk : chk t = some (8, 1) := by unfold chk; rw [if_pos (.inr h8), show min t.length 8 = 8 by omega]
      have hm : min (t.length : Int) 8 = 8 := by omega
      rw [hk]
      clear hk h0
      go_enter Tryd.func38, Tryd.ntmps38
      go_wp2
      go_ret
      exact ⟨_, rfl, ⟨_, rfl, HN.out _ _ _ 8 rfl⟩, (Fr.refl _ _).alloc _⟩
    · have hk : chk t = chkL t t.length 0 := by unfold chk; rw [if_neg (by omega)]
      rw [hk]
      have hst := Lib.hid (fun (i : Nat) (hi : i < t.length) (hp : Pre t i) (W : World) (h : kStep.C W A t.length t) => step_any A cap t i (by omega) hp hb hi hcap W h)
      have HP := Lib.hid (Pre.zero t)
      have hd8 : decide (8 < (t.length : Int)) = false := by simp; omega
      obtain ⟨r, hr⟩ : ∃ r, chkL t t.length 0 = r := ⟨_, rfl⟩
      rw [hr]
      have HR := Lib.hid hr
      clear hk h0 hb hr
      go_enter Tryd.func38, Tryd.ntmps38
      go_wp2
      go_loopg [22] t.length (fun q i wr => ∃ (k : Nat), k + q = t.length ∧ i = .int .i64 k ∧ Hid (Pre t k) ∧ Hid (chkL t q k = r) ∧ Fr no w wr)
      case atStart => exact ⟨0, by omega, rfl, HP, HR, Fr.refl _ _⟩
      case round =>
        clear HR HP
        obtain ⟨k, hk, rfl, HP, HR, hf⟩ := hrel
        by_cases hlt : k < t.length
        · obtain ⟨d, rfl⟩ : ∃ d, gk = d + 1 := ⟨gk - 1, by omega⟩
          have hr := HR.out
          unfold chkL at hr
          clear HR
          by_cases g1 : good1 t k = true
          · by_cases g2 : good2 t k = true
            · rw [if_pos g1, if_pos g2] at hr
              have HR := Lib.hid hr
              have HP2 := Lib.hid (HP.out.succ g1 g2)
              have HG : Hid ((if good1 t k then (if good2 t k then (0 : Int) else 2) else 1) = 0) := by rw [if_pos g1, if_pos g2]; rfl
              clear hr g1 g2
              go_wp2_with fail
              refine (hst.out k hlt HP.out _ (C_fr hC hf)).mono ?_
              rintro e w1 ⟨rfl, hf1⟩
              rw [HG.out]
              dsimp only
              go_wp2
              go_roundg d
              case measure => omega
              case rel => exact ⟨k + 1, by omega, by go_num, HP2, HR, hf.trans' hf1⟩
            · rw [if_pos g1, if_neg g2] at hr
              subst hr
              have HG : Hid ((if good1 t k then (if good2 t k then (0 : Int) else 2) else 1) = 2) := by rw [if_pos g1, if_neg g2]; rfl
              clear g1 g2
              go_wp2_with fail
              refine (hst.out k hlt HP.out _ (C_fr hC hf)).mono ?_
              rintro e w1 ⟨rfl, hf1⟩
              rw [HG.out]
              dsimp only
              go_wp2
              go_ret
              exact ⟨_, rfl, ⟨_, rfl, HN.out _ _ _ k rfl⟩, (hf.trans' hf1).alloc _⟩
          · rw [if_neg g1] at hr
            subst hr
            have HG : Hid ((if good1 t k then (if good2 t k then (0 : Int) else 2) else 1) = 1) := by rw [if_neg g1]; rfl
            clear g1
            go_wp2_with fail
            refine (hst.out k hlt HP.out _ (C_fr hC hf)).mono ?_
            rintro e w1 ⟨rfl, hf1⟩
            rw [HG.out]
            dsimp only
            go_wp2
            go_ret
            exact ⟨_, rfl, ⟨_, rfl, HN.out _ _ _ k rfl⟩, (hf.trans' hf1).alloc _⟩
        · obtain rfl : k = t.length := by omega
          obtain rfl : gk = 0 := by omega
          have hr := HR.out
          unfold chkL at hr
          subst hr
          clear HR
          go_wp2
          go_ret
          exact ⟨_, rfl, rfl, hf⟩
end Go.Proofs.YtdkkdoadafhfmaaDoor.Grid
