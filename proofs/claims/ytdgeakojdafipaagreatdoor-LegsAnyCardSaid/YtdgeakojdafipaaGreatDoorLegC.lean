import Derived.Test.YtdgeakojdafipaaGreatDoorLegQ
import Derived.Test.YtdgeakojdafipaaGreatDoorNumA
import Derived.Lib.SliceRun
/-! Contracts of package legs: Check, and slices' functions at legs. -/
set_option linter.unusedVariables false
set_option linter.unusedSimpArgs false
namespace Go.Proofs.YtdgeakojdafipaaGreatDoor.Legs
open Go.RowKit Go.Proofs.YtdgeakojdafipaaGreatDoorW.PrintWords Go.Proofs.YtdgeakojdafipaaGreatDoor.B Go.Proofs.YtdgeakojdafipaaGreatDoor.Num

def Leg.val (x : Leg) : Value := .agg #[.int .i64 x.Series, .int .i64 x.Sign, .int .i64 x.Ratio]
def legW : ByteArray := ⟨#[108, 101, 103]⟩
def FaultL (w : World) (F : Nat) (a code : Int) : Prop := w.heap[F]? = some (.cells #[.string legW, .int .i64 a, .iface 47 (.int .i64 code)] 64 (0, 0))
theorem fault_c (a code : Int) (w : World) : Calls Tryz.prog 29 #[.int .i64 a, .int .i64 code] w fun e w' => (∃ F, e = .returned (.iface 60 (.pointer (some ⟨F, 0, none⟩))) ∧ FaultL w' F a code) ∧ Fr no w w' := by
  go_enter Tryz.func29, Tryz.ntmps29
  go_wp2
  go_ret
  exact ⟨⟨_, rfl, blk_new _ _⟩, (Fr.refl no w).alloc _⟩
theorem lg_at {w : World} {A : Option Addr} {l : List Leg} (h : kLeg.C w A l.length l) (k : Nat) (hk : k < l.length) :
    ∃ ad, A = some ad ∧ w.cell? (ad.add (k * 3)) = some (.int .i64 (lg l k).Series) ∧ w.cell? ⟨(ad.add (k * 3)).block, (ad.add (k * 3)).off + 1, none⟩ = some (.int .i64 (lg l k).Sign) ∧ w.cell? ⟨(ad.add (k * 3)).block, (ad.add (k * 3)).off + 2, none⟩ = some (.int .i64 (lg l k).Ratio) := by
  obtain ⟨ad, h1, h2, h3, h4⟩ := at_Leg h (k : Int) (by omega) (by omega)
  rw [Int.toNat_natCast] at h2 h3 h4
  have e : rd_Leg l k = lg l k := by simp [rd_Leg, lg]
  rw [e] at h2 h3 h4
  exact ⟨ad, h1, h2, h3, h4⟩
theorem eqs_c (x : Leg) (B : Nat) (s : Int) (w : World) (hB : w.cell? ⟨B, 0, none⟩ = some (.int .i64 s)) :
    Calls Tryz.prog 32 #[x.val, .pointer (some ⟨B, 0, none⟩)] w fun e w' => e = .returned (.bool (x.Series == s)) ∧ Fr no w w' := by
  have hB' := fun o => (World.cell?_alloc_lt w o ⟨B, 0, none⟩ (World.block_lt_of_cell? w _ hB)).trans hB
  unfold Leg.val
  obtain ⟨a, b, c⟩ := x
  dsimp only
  clear hB
  go_enter Tryz.func32, Tryz.ntmps32
  go_wp2
  go_ret
  exact ⟨rfl, (Fr.refl no w).alloc _⟩
/-- One of the first k has the number s. -/
def hit (l : List Leg) (s : Int) (k : Nat) : Bool := (l.take k).any fun y => y.Series == s
theorem hit_succ (l : List Leg) (s : Int) (k : Nat) (h : k < l.length) : hit l s (k + 1) = (hit l s k || ((lg l k).Series == s)) := by
  unfold hit
  rw [List.take_succ_eq_append_getElem h, List.any_append, lg_lt h]
  simp
def Some0 (l : List Leg) (s : Int) (e : Ending) : Prop := ∃ r : Int, e = .returned (.int .i64 r) ∧ decide (0 ≤ r) = hit l s l.length
set_option maxRecDepth 100000 in
set_option maxHeartbeats 1000000 in
theorem index_c (A : Option Addr) (c : Nat) (l : List Leg) (B : Nat) (s : Int) (w : World) (hC : kLeg.C w A l.length l) (hl : l.length ≤ 1000000) (hB : w.cell? ⟨B, 0, none⟩ = some (.int .i64 s)) :
    Calls Tryz.prog 51 #[.slice A l.length c, .func (.func 32) #[] #[.pointer (some ⟨B, 0, none⟩)]] w fun e w' => Some0 l s e ∧ Fr no w w' := by
  have HB : Hid (∀ u, Fr no w u → u.cell? ⟨B, 0, none⟩ = some (.int .i64 s) ∧ kLeg.C u A l.length l) := fun u h => ⟨h.cell hB (fun h => h), C_fr hC h⟩
  clear hB hC
  go_enter Tryz.func51, Tryz.ntmps51
  go_wp2
  go_loopg [8] l.length (fun q i wr => ∃ (k : Nat), k + q = l.length ∧ i = .int .i64 k ∧ Hid (hit l s k = false) ∧ Fr no w wr)
  case atStart => exact ⟨0, by omega, rfl, rfl, Fr.refl _ _⟩
  case round =>
    obtain ⟨k, hk, rfl, hh, hf⟩ := hrel
    by_cases hlt : k < l.length
    · obtain ⟨hB2, hC2⟩ := HB.out _ hf
      obtain ⟨ad, rfl, c0, c1, c2⟩ := lg_at hC2 k hlt
      have hsu := hit_succ l s k hlt
      rw [hh.out, Bool.false_or] at hsu
      have hfo := eqs_c (lg l k) B s wr hB2
      clear hB2 hC2
      generalize lg l k = x at *
      unfold Leg.val at hfo
      have HF := Lib.hid hfo
      have HS := Lib.hid hsu
      clear hfo hsu hh
      go_wp2_with fail
      refine HF.out.mono ?_
      rintro e w' ⟨rfl, hf2⟩
      dsimp only
      cases hx : x.Series == s with
      | true =>
        have hs2 := HS.out
        rw [hx] at hs2
        have HX : Hid (hit l s l.length = true) := by
          show hit l s l.length = true
          have e : (l.take l.length) = l := List.take_of_length_le (Nat.le_refl _)
          unfold hit at hs2 ⊢
          rw [e]
          rw [List.any_eq_true] at hs2 ⊢
          obtain ⟨y, hy, h⟩ := hs2
          exact ⟨y, List.mem_of_mem_take hy, h⟩
        clear hx hs2 HS
        go_wp2
        go_ret
        exact ⟨⟨_, rfl, by rw [HX.out]; simp⟩, hf.trans' hf2⟩
      | false =>
        have hs2 := HS.out
        rw [hx] at hs2
        have HX := Lib.hid hs2
        clear hx hs2 HS
        go_wp2
        go_roundg (l.length - (k + 1))
        case measure => omega
        case rel => exact ⟨k + 1, by omega, by go_num, HX, hf.trans' hf2⟩
    · obtain rfl : k = l.length := by omega
      go_wp2
      go_ret
      exact ⟨⟨_, rfl, by rw [hh.out]; rfl⟩, hf⟩
theorem contains_c (A : Option Addr) (c : Nat) (l : List Leg) (B : Nat) (s : Int) (w : World) (hC : kLeg.C w A l.length l) (hl : l.length ≤ 1000000) (hB : w.cell? ⟨B, 0, none⟩ = some (.int .i64 s)) :
    Calls Tryz.prog 31 #[.slice A l.length c, .func (.func 32) #[] #[.pointer (some ⟨B, 0, none⟩)]] w fun e w' => e = .returned (.bool (hit l s l.length)) ∧ Fr no w w' := by
  have HI := Lib.hid (fun (_ : Unit) => index_c A c l B s w hC hl hB)
  clear hC hB
  obtain ⟨b, hb⟩ : ∃ b, hit l s l.length = b := ⟨_, rfl⟩
  rw [hb]
  have HB := Lib.hid hb
  clear hb
  cases b
  all_goals
    go_enter Tryz.func31, Tryz.ntmps31
    go_wp2_with fail
    refine (HI.out ()).mono ?_
    rintro e w' ⟨⟨r, rfl, hr⟩, hf2⟩
    rw [HB.out] at hr
    dsimp only
    go_wp2
    go_ret
    exact ⟨rfl, hf2⟩
/-- What Check tells. -/
def AnsK (w : World) (v : Value) (a : Option (Nat × Int)) : Prop := (a = none → v = .nilIface) ∧ ∀ n c, a = some (n, c) → ∃ F, v = .iface 60 (.pointer (some ⟨F, 0, none⟩)) ∧ FaultL w F n c
theorem AnsK.fr {w w1 : World} {v : Value} {a : Option (Nat × Int)} (h : AnsK w v a) (hf : Fr no w w1) : AnsK w1 v a := ⟨h.1, fun n c e => by obtain ⟨F, h1, h2⟩ := h.2 n c e; exact ⟨F, h1, hf.heap h2 (fun h => h)⟩⟩
def IsAns (w' : World) (e : Ending) (a : Option (Nat × Int)) : Prop := ∃ v, e = .returned v ∧ AnsK w' v a
theorem isAns_some {w' : World} {F n : Nat} {k c : Int} (hk : k = (n : Int)) (h : FaultL w' F k c) : IsAns w' (.returned (.iface 60 (.pointer (some ⟨F, 0, none⟩)))) (some (n, c)) := by
  subst hk
  refine ⟨_, rfl, fun h => (by cases h), fun n' c' e => ?_⟩
  injection e with e
  injection e with e1 e2
  subst e1 e2
  exact ⟨F, rfl, h⟩
theorem isAns_none {w' : World} : IsAns w' (.returned .nilIface) none := ⟨_, rfl, fun _ => rfl, fun _ _ e => by cases e⟩
theorem C_take {α : Type} {d : Kd α} {w : World} {A : Option Addr} {xs : List α} (h : d.C w A xs.length xs) (k : Nat) (hk : k ≤ xs.length) : d.C w A k (xs.take k) := by
  obtain ⟨h1, h2, h3⟩ := h
  refine ⟨by simp; omega, by omega, fun hn => ?_⟩
  obtain ⟨ad, e, hc⟩ := h3 (by omega)
  refine ⟨ad, e, fun j p hj => ?_⟩
  have hj2 : j < k := by
    have := (List.getElem?_eq_some_iff.1 hj).1
    simp at this
    omega
  rw [List.getElem?_take_of_lt hj2] at hj
  exact hc j p hj
theorem hit_take (l : List Leg) (s : Int) (k : Nat) (hk : k ≤ l.length) : hit (l.take k) s (l.take k).length = (l.take k).any fun y => y.Series == s := by
  unfold hit
  rw [List.take_of_length_le (Nat.le_refl _)]
set_option maxRecDepth 100000 in
set_option maxHeartbeats 4000000 in
theorem check_c (A : Option Addr) (c : Nat) (l : List Leg) (w : World) (hC : kLeg.C w A l.length l) (hcap : l.length ≤ c) :
    Calls Tryz.prog 10 #[.slice A l.length c] w fun e w' => IsAns w' e (wrong l) ∧ Fr no w w' := by
  obtain ⟨V, hV⟩ : ∃ V, wrong l = V := ⟨_, rfl⟩
  rw [hV]
  unfold wrong at hV
  by_cases h2 : l.length < 2
  · rw [if_pos h2] at hV
    subst hV
    have d1 : decide ((l.length : Int) < 2) = true := by simp; omega
    have hm : min (l.length : Int) 4 = (l.length : Int) := by omega
    clear h2
    go_enter Tryz.func10, Tryz.ntmps10
    go_wp2_with fail
    refine (fault_c _ _ _).mono ?_
    rintro e w1 ⟨⟨F, rfl, hF⟩, hf⟩
    dsimp only
    go_wp2
    go_ret
    exact ⟨isAns_some rfl hF, hf⟩
  rw [if_neg h2] at hV
  by_cases h4 : 4 < l.length
  · rw [if_pos h4] at hV
    subst hV
    have d1 : decide ((l.length : Int) < 2) = false := by simp; omega
    have d2 : decide ((4 : Int) < (l.length : Int)) = true := by simp; omega
    have hm : min (l.length : Int) 4 = 4 := by omega
    clear h2 h4
    go_enter Tryz.func10, Tryz.ntmps10
    go_wp2_with fail
    refine (fault_c _ _ _).mono ?_
    rintro e w1 ⟨⟨F, rfl, hF⟩, hf⟩
    dsimp only
    go_wp2
    go_ret
    exact ⟨isAns_some rfl hF, hf⟩
  rw [if_neg h4] at hV
  have d1 : decide ((l.length : Int) < 2) = false := by simp; omega
  have d2 : decide ((4 : Int) < (l.length : Int)) = false := by simp; omega
  have HV := Lib.hid hV
  have HC := Lib.hid hC
  have HL : Hid (2 ≤ l.length ∧ l.length ≤ 4) := ⟨by omega, by omega⟩
  have hlm : l.length ≤ 4 := by omega
  clear hV hC h2 h4
  go_enter Tryz.func10, Tryz.ntmps10
  go_wp2
  clear d1 d2
  go_loopg [19] l.length (fun q i wr => ∃ (k : Nat), k + q = l.length ∧ i = .int .i64 k ∧ Hid (wrongFrom l (l.length - k) k = V) ∧ Fr no w wr)
  case atStart => exact ⟨0, by omega, rfl, HV, Fr.refl _ _⟩
  case round =>
    clear HV
    obtain ⟨k, hk, rfl, hv, hf⟩ := hrel
    by_cases hlt : k < l.length
    · have hv2 := hv.out
      rw [show l.length - k = (l.length - (k + 1)) + 1 by omega, wrongFrom] at hv2
      have hC2 := C_fr HC.out hf
      obtain ⟨ad, rfl, c0, c1, c2⟩ := lg_at hC2 k hlt
      have hkl : k ≤ c := by omega
      have HV2 := Lib.hid hv2
      clear hv hv2
      obtain ⟨x, hx⟩ : ∃ x, lg l k = x := ⟨_, rfl⟩
      have HX := Lib.hid hx
      rw [hx] at c0 c1 c2
      clear hx
      by_cases b1 : x.Series < 1
      · have e1 : decide (x.Series < 1) = true := by simp [b1]
        have ho : okB x = false := by rw [← Bool.not_eq_true, okB_iff]; omega
        have hv := HV2.out
        rw [HX.out, if_pos ho] at hv
        subst hv
        clear b1 ho HV2 hC2
        go_wp2_with fail
        refine (fault_c _ _ _).mono ?_
        rintro e w1 ⟨⟨F, rfl, hF⟩, hf1⟩
        dsimp only
        go_wp2
        go_ret
        exact ⟨isAns_some rfl hF, (hf.alloc _).trans' hf1⟩
      have e1 : decide (x.Series < 1) = false := by simp [b1]
      by_cases b2 : x.Sign = 1 ∨ x.Sign = -1
      rotate_left
      · have e2 : (x.Sign != 1) = true := by simp; omega
        have e3 : (x.Sign != -1) = true := by simp; omega
        have ho : okB x = false := by rw [← Bool.not_eq_true, okB_iff]; omega
        have hv := HV2.out
        rw [HX.out, if_pos ho] at hv
        subst hv
        clear b1 b2 ho HV2 hC2
        go_wp2_with fail
        refine (fault_c _ _ _).mono ?_
        rintro e w1 ⟨⟨F, rfl, hF⟩, hf1⟩
        dsimp only
        go_wp2
        go_ret
        exact ⟨isAns_some rfl hF, (hf.alloc _).trans' hf1⟩
      have hs : (x.Sign != 1) = false ∨ ((x.Sign != 1) = true ∧ (x.Sign != -1) = false) := by
        rcases b2 with h | h
        · exact .inl (by simp [h])
        · exact .inr ⟨by simp [h], by simp [h]⟩
      by_cases b3 : 1 ≤ x.Ratio ∧ x.Ratio ≤ 4
      rotate_left
      · have e4 : (decide (1 ≤ x.Ratio) && decide (x.Ratio ≤ 4)) = false := by simp; omega
        have ho : okB x = false := by rw [← Bool.not_eq_true, okB_iff]; omega
        have hv := HV2.out
        rw [HX.out, if_pos ho] at hv
        subst hv
        clear b1 b2 b3 ho HV2 hC2
        rcases hs with e2 | ⟨e2, e3⟩
        all_goals
          go_wp2_with fail
          refine (in_c _ _ _ _).mono ?_
          rintro e w1 ⟨rfl, rfl⟩
          rw [e4]
          dsimp only
          go_wp2_with fail
          refine (fault_c _ _ _).mono ?_
          rintro e w1 ⟨⟨F, rfl, hF⟩, hf1⟩
          dsimp only
          go_wp2
          go_ret
          exact ⟨isAns_some rfl hF, (hf.alloc _).trans' hf1⟩
      have e4 : (decide (1 ≤ x.Ratio) && decide (x.Ratio ≤ 4)) = true := by simp; omega
      have ho : okB x = true := by rw [okB_iff]; omega
      have hv := HV2.out
      rw [HX.out, if_neg (by simp [ho])] at hv
      have hcon := fun W (h : Fr no wr W) (hb : W.cell? ⟨wr.heap.size, 0, none⟩ = some (.int .i64 x.Series)) => contains_c (some ad) c (l.take k) wr.heap.size x.Series W (by rw [List.length_take, Nat.min_eq_left (by omega)]; exact C_take (C_fr hC2 h) k (by omega)) (by rw [List.length_take]; have := HL.out; omega) hb
      have htw : twice l k = hit (l.take k) x.Series (l.take k).length := by
        rw [hit_take l _ k (by omega)]
        unfold twice
        rw [HX.out]
      rw [htw] at hv
      have hlk : (l.take k).length = k := by rw [List.length_take]; omega
      rw [hlk] at hcon hv
      obtain ⟨b, hb⟩ : ∃ b, hit (l.take k) x.Series k = b := ⟨_, rfl⟩
      rw [hb] at hcon hv
      have HCO := Lib.hid hcon
      have HVV := Lib.hid hv
      clear b1 b2 b3 ho HV2 hC2 htw hlk hb hcon hv
      rcases hs with e2 | ⟨e2, e3⟩
      all_goals
        go_wp2_with fail
        refine (in_c _ _ _ _).mono ?_
        rintro e w1 ⟨rfl, rfl⟩
        rw [e4]
        dsimp only
        go_wp2_with fail
        refine (HCO.out _ ((Fr.refl no wr).alloc _) (blk_cell (heap_alloc_new wr _) 0)).mono ?_
        rintro e w1 ⟨rfl, hf1⟩
        cases b with
        | true =>
          have hv := HVV.out
          rw [if_pos rfl] at hv
          subst hv
          clear HVV
          dsimp only
          go_wp2_with fail
          refine (fault_c _ _ _).mono ?_
          rintro e w1 ⟨⟨F, rfl, hF⟩, hf2⟩
          dsimp only
          go_wp2
          go_ret
          exact ⟨isAns_some rfl hF, ((hf.alloc _).trans' hf1).trans' hf2⟩
        | false =>
          have hv := HVV.out
          rw [if_neg (by decide)] at hv
          have HVN := Lib.hid hv
          clear HVV hv
          dsimp only
          go_wp2
          go_roundg (l.length - (k + 1))
          case measure => omega
          case rel => exact ⟨k + 1, by omega, by go_num, HVN, (hf.alloc _).trans' hf1⟩
    · obtain rfl : k = l.length := by omega
      have hv2 := hv.out
      rw [Nat.sub_self, wrongFrom] at hv2
      subst hv2
      clear hv
      go_wp2
      go_ret
      exact ⟨isAns_none, hf⟩
end Go.Proofs.YtdgeakojdafipaaGreatDoor.Legs
