import Derived.Test.YtdkkdoadafhfmaaDoorRiskL
/-! RiskReturns. -/
set_option linter.unusedVariables false
set_option linter.unusedSimpArgs false
namespace Go.Proofs.YtdkkdoadafhfmaaDoor.Risk
open Go.RowKit Go.Maps Go.Proofs.YtdkkdoadafhfmaaDoorW.PrintWords Go.Proofs.YtdkkdoadafhfmaaDoor.B Go.Proofs.YtdkkdoadafhfmaaDoor.Err

def sumP : List Int → Int
  | [] => 0
  | x :: r => x % 1000 * (1 + x / 1000) + sumP r
theorem sumP_append : ∀ (l m : List Int), sumP (l ++ m) = sumP l + sumP m
  | [], m => by simp [sumP]
  | x :: r, m => by simp only [List.cons_append, sumP, sumP_append r m]; omega
theorem sumP_take (l : List Int) (k : Nat) (h : k < l.length) : sumP (l.take (k + 1)) = sumP (l.take k) + l[k] % 1000 * (1 + l[k] / 1000) := by
  rw [List.take_succ_eq_append_getElem h, sumP_append]
  simp [sumP]
theorem pq_bd {x : Int} (h0 : 0 ≤ x) (h1 : x < 65536) : 0 ≤ x % 1000 * (1 + x / 1000) ∧ x % 1000 * (1 + x / 1000) ≤ 65934 := by
  have a0 : 0 ≤ x % 1000 := by omega
  have a1 : x % 1000 ≤ 999 := by omega
  have b0 : 1 ≤ 1 + x / 1000 := by omega
  have b1 : 1 + x / 1000 ≤ 66 := by omega
  generalize x % 1000 = p at *
  generalize 1 + x / 1000 = q at *
  refine ⟨Int.mul_nonneg a0 (by omega), ?_⟩
  have := Int.mul_le_mul a1 b1 (by omega) (by omega : (0 : Int) ≤ 999)
  omega
theorem sumP_bd : ∀ (l : List Int), (∀ x ∈ l, 0 ≤ x ∧ x < 65536) → 0 ≤ sumP l ∧ sumP l ≤ 65934 * l.length
  | [], _ => by simp [sumP]
  | x :: r, h => by
    have h1 := sumP_bd r (fun y hy => h y (by simp [hy]))
    obtain ⟨x0, x1⟩ := h x (by simp)
    have h2 := pq_bd x0 x1
    simp only [sumP, List.length_cons]
    omega
theorem u16_el {w : World} {A : Option Addr} {xs : List Int} (hC : (Kd.int .u16).C w A xs.length xs) (k : Nat) (h : k < xs.length) : ∃ ad, A = some ad ∧ w.cell? (ad.add k) = some (.int .u16 xs[k]) := by
  obtain ⟨ad, h1, h2⟩ := Kd.at_int hC (k : Int) (by omega) (by omega)
  refine ⟨ad, h1, ?_⟩
  rw [Int.toNat_natCast] at h2
  rw [h2]
  simp [rd, h]
def U5 (u : Use) : Int → Use := upd (fun _ => zUse) 5 u
theorem u5_at (u : Use) : U5 u 5 = u := upd_same _ _ _
theorem u5_upd (u v : Use) : upd (U5 u) 5 v = U5 v := upd_upd _ _ _ _
set_option maxRecDepth 100000 in
set_option maxHeartbeats 4000000 in
theorem returns_c (w : World) (hg : ErrType w) (A : Option Addr) (cap : Nat) (l : List Int) (hC : (Kd.int .u16).C w A l.length l) (hb : ∀ x ∈ l, 0 ≤ x ∧ x < 65536) : Calls Tryd.prog 8 #[.slice A l.length cap] w fun e w' => e = .returned (.bool true) ∧ Fr no w w' := by
  have HG := Lib.hid hg
  have HBy := Lib.hid hb
  clear hg hb
  go_enter Tryd.func8, Tryd.ntmps8
  go_wp2_with fail
  refine (known_c w HG.out).mono ?_
  rintro e w1 ⟨rfl, hf⟩
  dsimp only
  by_cases h50 : 50 < l.length
  · go_wp2
    go_ret
    exact ⟨rfl, hf⟩
  go_wp2_with fail
  refine (new_t (w0 := w) ⟨1000, 1073741824, 100⟩ ⟨by decide, by decide, by decide, by decide, by decide, by decide⟩ hf).mono ?_
  rintro e w2 ⟨B, M, rfl, h⟩
  clear hf
  rw [← upd_zero 5] at h
  change Rk w w2 B M 0 ⟨1000, 1073741824, 100⟩ (U5 ⟨0, 0⟩) at h
  dsimp only
  go_wp2
  go_loopg [5] 2 (fun q i wr => ∃ t : Nat, t + q = 2 ∧ i = .int .i64 (t : Int) ∧ Rk w wr B M (t * (l.length + l.length)) ⟨1000, 1073741824, 100⟩ (U5 ⟨0, 0⟩))
  case atStart => exact ⟨0, by omega, rfl, by simpa using h⟩
  case round =>
    clear h
    obtain ⟨t, ht, rfl, h⟩ := hrel
    by_cases hlt : t < 2
    · have hdd : decide ((t : Int) < 2) = true := by simp; omega
      obtain ⟨wo, rfl⟩ : ∃ wo : World, wo = wr := ⟨_, rfl⟩
      go_wp2
      go_loopg [6, 7] l.length (fun q n i wr => ∃ j : Nat, j + q = l.length ∧ i = .int .i64 (j : Int) ∧ n = .int .i64 (sumP (l.take j)) ∧ Rk w wr B M (t * (l.length + l.length) + j) ⟨1000, 1073741824, 100⟩ (U5 ⟨(j : Int), sumP (l.take j)⟩))
      case atStart => exact ⟨0, by omega, rfl, by simp [sumP], by simpa [sumP] using h⟩
      case round =>
        clear h
        obtain ⟨j, hj, rfl, rfl, h⟩ := hrel
        have hts : t * (l.length + l.length) ≤ 1 * 100 := Nat.mul_le_mul (by omega) (by omega)
        have hsb := sumP_bd (l.take j) (fun x hx => HBy.out x (List.mem_of_mem_take hx))
        rw [List.length_take] at hsb
        by_cases hjl : j < l.length
        · obtain ⟨ad, rfl, hc⟩ := u16_el (C_fr hC h.fr) j hjl
          obtain ⟨x0, x1⟩ := HBy.out l[j] (List.getElem_mem hjl)
          have hst := sumP_take l j hjl
          have hpq := pq_bd x0 x1
          generalize l[j] = x at *
          obtain ⟨s, hs⟩ : ∃ s, sumP (l.take j) = s := ⟨_, rfl⟩
          rw [hs] at hst h hsb ⊢
          have HST := Lib.hid hst
          obtain ⟨r, hr⟩ : ∃ r, x % 1000 * (1 + x / 1000) = r := ⟨_, rfl⟩
          have HR := Lib.hid hr
          rw [hr] at hpq
          have p0 : 0 ≤ x % 1000 := by omega
          have p1 : x % 1000 ≤ 999 := by omega
          have q0 : 1 ≤ 1 + x / 1000 := by omega
          have q1 : 1 + x / 1000 ≤ 66 := by omega
          have q2 : 0 ≤ x / 1000 := by omega
          have hd2 : decide (j < l.length) = true := by simpa using hjl
          have huk : UseOk ⟨(j : Int), s⟩ := ⟨by show (0 : Int) ≤ (j : Int); omega, by show (j : Int) ≤ 4096; omega, by show (0 : Int) ≤ s; omega, by show s ≤ 1125899906842624; omega⟩
          have hqq : wrap64 (1 + wrap64 (IntKind.u16.wrap (x.tdiv 1000))) = 1 + x / 1000 := by
            rw [Int.tdiv_eq_ediv_of_nonneg x0, IntWalk.u16_in _ (by omega)]
            unfold wrap64
            omega
          clear hst hs hr
          go_wp2_with fail
          rw [hqq]
          refine (open_good h 5 _ _ 0 ⟨((j + 1 : Nat) : Int), s + r⟩ (by decide) (u5_at _) huk (by omega) (by omega) (askF_ok q0 p0 (by show 1 + x / 1000 ≤ 1000; omega) (by rw [HR.out]; show s + r ≤ 1073741824; omega) (by show (j : Int) < 100; omega)) (by rw [HR.out]; rfl)).mono ?_
          rintro e w3 ⟨rfl, h3, _⟩
          rw [u5_upd] at h3
          have HQ := Lib.hid hqq
          clear h hqq
          dsimp only
          have hs2 := hsb.2
          have hs3 : s ≤ 3300000 := by omega
          have hs1 := hsb.1
          have hr := HR.out
          obtain ⟨hr0, hr1⟩ := hpq
          have HST2 := Lib.hid (HST.out.trans (congrArg (s + ·) hr))
          clear hsb hs2 HST HR HQ hc
          generalize x % 1000 = p at *
          generalize 1 + x / 1000 = q at *
          go_wp2
          go_roundg (l.length - (j + 1))
          case measure => omega
          case rel => exact ⟨j + 1, by omega, by go_num, by rw [HST2.out], by rw [HST2.out]; exact h3⟩
        · obtain rfl : j = l.length := by omega
          rw [List.take_length] at h hsb ⊢
          have hsum : Hid (sumP l = sumP l) := rfl
          obtain ⟨s, hs⟩ : ∃ s, sumP l = s := ⟨_, rfl⟩
          have HS := Lib.hid hs
          rw [hs] at h hsb ⊢
          have hs2 := hsb.2
          have hs3 : s ≤ 3300000 := by omega
          have hs1 := hsb.1
          have huk : UseOk ⟨(l.length : Int), s⟩ := ⟨by show (0 : Int) ≤ (l.length : Int); omega, by show (l.length : Int) ≤ 4096; omega, by show (0 : Int) ≤ s; omega, by show s ≤ 1125899906842624; omega⟩
          clear hs hsb hs2 hjl hj hsum
          go_wp2_with fail
          refine (used_t h 5 (by decide) (u5_at _) huk).mono ?_
          rintro e w3 ⟨rfl, h3, _⟩
          clear h
          dsimp only
          go_wp2
          go_loopg [12] l.length (fun q i wr => ∃ j : Nat, j + q = l.length ∧ i = .int .i64 (j : Int) ∧ Rk w wr B M (t * (l.length + l.length) + l.length + j) ⟨1000, 1073741824, 100⟩ (U5 ⟨(l.length : Int) - (j : Int), s - sumP (l.take j)⟩))
          case atStart => exact ⟨0, by omega, rfl, by simpa [sumP] using h3⟩
          case round =>
            clear h3
            obtain ⟨j, hj, rfl, h⟩ := hrel
            by_cases hjl : j < l.length
            · obtain ⟨ad, rfl, hcw⟩ := u16_el hC j hjl
              have hc := h.fr.cell hcw (fun h => h)
              obtain ⟨x0, x1⟩ := HBy.out l[j] (List.getElem_mem hjl)
              have hst := sumP_take l j hjl
              have hpq := pq_bd x0 x1
              have hs0 := (sumP_bd (l.take j) (fun x hx => HBy.out x (List.mem_of_mem_take hx))).1
              have hle : sumP (l.take (j + 1)) ≤ s := by
                have h1 := sumP_append (l.take (j + 1)) (l.drop (j + 1))
                rw [List.take_append_drop, HS.out] at h1
                have h2 := (sumP_bd (l.drop (j + 1)) (fun x hx => HBy.out x (List.mem_of_mem_drop hx))).1
                omega
              generalize l[j] = x at *
              obtain ⟨v, hv⟩ : ∃ v, sumP (l.take j) = v := ⟨_, rfl⟩
              rw [hv] at hst h hs0
              rw [hst] at hle
              have HST := Lib.hid hst
              have p0 : 0 ≤ x % 1000 := by omega
              have p1 : x % 1000 ≤ 999 := by omega
              have q0 : 1 ≤ 1 + x / 1000 := by omega
              have q1 : 1 + x / 1000 ≤ 66 := by omega
              have huk : UseOk ⟨(l.length : Int) - (j : Int), s - v⟩ := ⟨by show (0 : Int) ≤ (l.length : Int) - (j : Int); omega, by show (l.length : Int) - (j : Int) ≤ 4096; omega, by show (0 : Int) ≤ s - v; omega, by show s - v ≤ 1125899906842624; omega⟩
              have hd2 : decide (j < l.length) = true := by simpa using hjl
              have hj0 : (0 : Int) ≤ (j : Int) := by omega
              have hj1 : (j : Int) < (l.length : Int) := by omega
              have HLE := Lib.hid hle
              clear hst hv hle
              go_wp2
              have e1 : x.tdiv 1000 = x / 1000 := Int.tdiv_eq_ediv_of_nonneg x0
              have e2 : x.tmod 1000 = x % 1000 := IntWalk.rem_in _ _ x0
              have e3 : IntKind.u16.wrap (x / 1000) = x / 1000 := IntWalk.u16_in _ (by omega)
              have e4 : IntKind.u16.wrap (x % 1000) = x % 1000 := IntWalk.u16_in _ (by omega)
              have e5 : IntKind.i64.wrap (x / 1000) = x / 1000 := IntWalk.i64_in _ (by omega)
              have e6 : IntKind.i64.wrap (x % 1000) = x % 1000 := IntWalk.i64_in _ (by omega)
              have e7 : IntKind.i64.wrap (1 + x / 1000) = 1 + x / 1000 := IntWalk.i64_in _ (by omega)
              have hfd := (Fr.refl no wr).drew
              have y0 := hfd.cell hc (fun h => h)
              refine wp_region_plan (fun u => u.cell? (ad.add j) = some (.int .u16 x)) [(0, false), (1, false), (2, false), (3, false), (4, false), (5, false), (6, false), (7, false), (8, false), (9, false), (10, false), (11, false), (12, false), (13, false), (14, true), (15, false)] (by kernel_rfl) (by kernel_rfl) (fun _ _ _ _ _ h => h) (y0) ?_
              simp only [planOps, List.getElem?_toArray, List.getElem?_cons_succ, List.getElem?_cons_zero]
              repeat (first
                | (refine plan_step (by rfl) ?_; apply Exists.intro; refine ⟨fun x hSx => ?_, ?_⟩; ((try dsimp only at hSx); go_simp; (try rw [if_neg (by omega)]); (try with_reducible rfl)); (simp only [Act.put, List.setIfInBounds_toArray, List.set_cons_zero, List.set_cons_succ]))
                | (refine plan_skip (by rfl) ?_; (simp only [Act.put, List.setIfInBounds_toArray, List.set_cons_zero, List.set_cons_succ])))
              refine plan_run (by rfl) (fun K hK => ?_)
              go_simp
              refine (close_t (h.go hfd) 5 (x % 1000) (1 + x / 1000) ⟨(l.length : Int) - ((j + 1 : Nat) : Int), s - v - x % 1000 * (1 + x / 1000)⟩ (by decide) (u5_at _) huk p0 (by omega) (by omega) (by omega) (by have := HLE.out; show x % 1000 * (1 + x / 1000) ≤ s - v; omega) (by show (1 : Int) ≤ (l.length : Int) - (j : Int); omega) (by omega) (by congr 1; show (l.length : Int) - ((j : Int) + 1) = (l.length : Int) - (j : Int) - 1; omega)).mono ?_
              rintro e w4 ⟨rfl, h4, hf4⟩
              rw [u5_upd] at h4
              have z0 := h4.fr.cell hcw (fun h => h)
              have HST2 := Lib.hid (show s - v - x % 1000 * (1 + x / 1000) = s - sumP (l.take (j + 1)) by rw [HST.out]; omega)
              rw [HST2.out] at h4
              clear h hf4
              dsimp only
              refine hK.out (fun u => True) _ _ (z0) (trivial) ?_
              clear hK K
              try simp only [Act.put, List.setIfInBounds_toArray, List.set_cons_zero, List.set_cons_succ]
              repeat (first
                | (refine plan_step (by rfl) ?_; apply Exists.intro; refine ⟨fun x hSx => ?_, ?_⟩; ((try dsimp only at hSx); go_simp; (try rw [if_neg (by omega)]); (try with_reducible rfl)); (simp only [Act.put, List.setIfInBounds_toArray, List.set_cons_zero, List.set_cons_succ]))
                | (refine plan_skip (by rfl) ?_; (simp only [Act.put, List.setIfInBounds_toArray, List.set_cons_zero, List.set_cons_succ])))
              refine plan_done ?_
              clear y0 z0 e1 e2 e3 e4 e5 e6 e7
              go_wp2
              go_roundg (l.length - (j + 1))
              case measure => omega
              case rel => exact ⟨j + 1, by omega, by go_num, h4⟩
            · obtain rfl : j = l.length := by omega
              rw [List.take_length, HS.out] at h
              have e0 : (l.length : Int) - (l.length : Int) = 0 := by omega
              have e9 : s - s = 0 := by omega
              rw [e0, e9] at h
              clear e0 e9 hjl hj
              go_wp2_with fail
              refine (used_t h 5 (by decide) (u5_at _) ⟨by decide, by decide, by decide, by decide⟩).mono ?_
              rintro e w4 ⟨rfl, h4, _⟩
              clear h
              dsimp only
              go_wp2
              have e8 : (t + 1) * (l.length + l.length) = t * (l.length + l.length) + l.length + l.length := by rw [Nat.add_mul]; omega
              rw [← e8] at h4
              go_roundg (2 - (t + 1))
              case measure => omega
              case rel => exact ⟨t + 1, by omega, by go_num, h4⟩
    · have hdd : decide ((t : Int) < 2) = false := by simp; omega
      go_wp2
      go_ret
      exact ⟨rfl, h.fr⟩
theorem returns_row (w : World) (hL : laidMetH Tryd.prog [("errors.errorType", Rows.laid_errors_errorType)] w) (A : Option Addr) (cap : Nat) (l : List Int) (hC : (Kd.int .u16).C w A l.length l) (_ : l.length ≤ cap) (hw : ∀ x ∈ l, (Lit.int .u16 x).wf = true) : Calls Tryd.prog 8 #[.slice A l.length cap] w fun e w' => e = .returned (.bool true) ∧ Fr no w w' :=
  returns_c w (errType_of_laid hL) A cap l hC (fun x hx => by have := Go.bounds_u16 (hw x hx); omega)
end Go.Proofs.YtdkkdoadafhfmaaDoor.Risk
