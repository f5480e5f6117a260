import Derived.Test.YtbeijddogfmnpaaLifeC
import Derived.OpenShut
/-! LifeOwners: an owner's open orders are just its own that have something open, by number. -/
set_option linter.unusedVariables false
set_option linter.unusedSimpArgs false
namespace Go.Proofs.Ytbeijddogfmnpaa.Life
open Go.RowKit Go.Proofs.YtbeijddogfmnpaaW.PrintWords Go.Proofs.Ytbeijddogfmnpaa.B

def ent (x : Int) (d : Bool) : Entry := ⟨3, if d then 3 else 0, 0, if d then 0 else 3, x % 4, 1, 1⟩
def ents (xs : List Int) (ds : List Bool) : List Entry := List.zipWith ent xs ds
theorem ents_len {xs : List Int} {ds : List Bool} (h : xs.length ≤ ds.length) : (ents xs ds).length = xs.length := by simp [ents]; omega
theorem ents_get {xs : List Int} {ds : List Bool} (h : xs.length ≤ ds.length) (k : Nat) (hk : k < xs.length) : (ents xs ds)[k]'(by rw [ents_len h]; exact hk) = ent xs[k] ds[k] := by simp [ents]
theorem ents_take {xs : List Int} {ds : List Bool} (h : xs.length ≤ ds.length) (k : Nat) (hk : k < xs.length) : (ents xs ds).take (k + 1) = (ents xs ds).take k ++ [ent xs[k] ds[k]] := by
  rw [List.take_succ_eq_append_getElem (by rw [ents_len h]; exact hk), ents_get h k hk]
theorem u8_at' {w w1 : World} {A : Option Addr} {xs : List Int} (hC : (Kd.int .u8).C w A xs.length xs) (hf : Fr no w w1) (k : Nat) (h : k < xs.length) : ∃ ad, A = some ad ∧ w1.cell? (ad.add k) = some (.int .u8 xs[k]) := by
  obtain ⟨ad, h1, h2⟩ := Kd.at_int (C_fr hC hf) (k : Int) (by omega) (by omega)
  refine ⟨ad, h1, ?_⟩
  rw [Int.toNat_natCast] at h2
  rw [h2]
  simp [rd, h]
theorem bool_at {w w1 : World} {A : Option Addr} {xs : List Bool} (hC : Kd.bool.C w A xs.length xs) (hf : Fr no w w1) (k : Nat) (h : k < xs.length) : ∃ ad, A = some ad ∧ w1.cell? (ad.add k) = some (.bool xs[k]) := by
  obtain ⟨ad, h1, h2⟩ := Kd.at_bool (C_fr hC hf) (k : Int) (by omega) (by omega)
  refine ⟨ad, h1, ?_⟩
  rw [Int.toNat_natCast] at h2
  rw [h2]
  simp [rdOf, h]
theorem i64_at {w : World} {A : Option Addr} {xs : List Int} (hC : (Kd.int .i64).C w A xs.length xs) (k : Nat) (h : k < xs.length) : ∃ ad, A = some ad ∧ w.cell? (ad.add k) = some (.int .i64 xs[k]) := by
  obtain ⟨ad, h1, h2⟩ := Kd.at_int hC (k : Int) (by omega) (by omega)
  refine ⟨ad, h1, ?_⟩
  rw [Int.toNat_natCast] at h2
  rw [h2]
  simp [rd, h]

theorem step_hit {o : Int} {xs : List Int} {ds : List Bool} (h : xs.length ≤ ds.length) {i k : Nat} (hi : i < xs.length) (h1 : xs[i] % 4 = o) (h2 : ds[i] = false) (hs : openIds o ((ents xs ds).drop i) i = (openIds o (ents xs ds) 0).drop k) :
    ∃ hk : k < (openIds o (ents xs ds) 0).length, (openIds o (ents xs ds) 0)[k] = (i : Int) + 1 ∧ openIds o ((ents xs ds).drop (i + 1)) ((i + 1 : Nat) : Int) = (openIds o (ents xs ds) 0).drop (k + 1) := by
  rw [openIds_step o _ i (by rw [ents_len h]; exact hi), ents_get h i hi, if_pos ⟨by simpa [ent] using h1, by simp [ent, h2]⟩] at hs
  have hk : k < (openIds o (ents xs ds) 0).length := by
    rcases Nat.lt_or_ge k (openIds o (ents xs ds) 0).length with h3 | h3
    · exact h3
    · rw [List.drop_of_length_le h3] at hs; simp at hs
  rw [List.drop_eq_getElem_cons hk] at hs
  injection hs with e1 e2
  exact ⟨hk, e1.symm, e2⟩
theorem step_miss {o : Int} {xs : List Int} {ds : List Bool} (h : xs.length ≤ ds.length) {i k : Nat} (hi : i < xs.length) (h1 : xs[i] % 4 ≠ o ∨ ds[i] = true) (hs : openIds o ((ents xs ds).drop i) i = (openIds o (ents xs ds) 0).drop k) :
    openIds o ((ents xs ds).drop (i + 1)) ((i + 1 : Nat) : Int) = (openIds o (ents xs ds) 0).drop k := by
  rw [openIds_step o _ i (by rw [ents_len h]; exact hi), ents_get h i hi, if_neg (by rintro ⟨e1, e2⟩; rcases h1 with h1 | h1; exact h1 (by simpa [ent] using e1); simp [ent, h1] at e2)] at hs
  exact hs

set_option maxRecDepth 100000 in
set_option maxHeartbeats 4000000 in
theorem owners_c (w : World) (A A1 : Option Addr) (cap cap1 : Nat) (xs : List Int) (ds : List Bool) (hC : (Kd.int .u8).C w A xs.length xs) (hD : Kd.bool.C w A1 ds.length ds) (hx : ∀ x ∈ xs, 0 ≤ x ∧ x ≤ 255) :
    Calls Try.prog 11 #[.slice A xs.length cap, .slice A1 ds.length cap1] w fun e w' => e = .returned (.bool true) ∧ Fr no w w' := by
  have hm := Kd.C_max hC
  have hm1 := Kd.C_max hD
  have HX := Lib.hid hx
  clear hx
  by_cases h1 : 60 < xs.length
  · go_enter Try.func11, Try.ntmps11
    go_wp2_with (go_at_call 33; refine (known_c _).mono ?_; rintro e w1 ⟨rfl, hf⟩)
    go_ret
    exact ⟨rfl, hf⟩
  by_cases h2 : ds.length < xs.length
  · go_enter Try.func11, Try.ntmps11
    go_wp2_with (go_at_call 33; refine (known_c _).mono ?_; rintro e w1 ⟨rfl, hf⟩)
    go_ret
    exact ⟨rfl, hf⟩
  by_cases h3 : 100 < ds.length
  · go_enter Try.func11, Try.ntmps11
    go_wp2_with (go_at_call 33; refine (known_c _).mono ?_; rintro e w1 ⟨rfl, hf⟩)
    go_ret
    exact ⟨rfl, hf⟩
  have hle : xs.length ≤ ds.length := by omega
  go_enter Try.func11, Try.ntmps11
  go_wp2_with (go_at_call 33; refine (known_c _).mono ?_; rintro e w1 ⟨rfl, hf⟩)
  go_wp2_with fail
  refine (new_c _).mono ?_
  rintro e w2 ⟨rfl, hL, hf2⟩
  replace hL := hL.mono (ext_since (w := w) no_since hf.size)
  replace hf2 := hf.trans' hf2
  generalize w1.heap.size = B at *
  clear hf
  go_wp2
  go_loopg [6] xs.length (fun q i wr => ∃ (k : Nat), k + q = xs.length ∧ i = .int .i64 k ∧ Led wr (since w) B ((ents xs ds).take k) ∧ Fr no w wr)
  case atStart => exact ⟨0, by omega, rfl, by simpa using hL, hf2⟩
  case round =>
    clear hL hf2
    obtain ⟨k, hk, rfl, hL, hf⟩ := hrel
    by_cases hlt : k < xs.length
    · obtain ⟨ad, hA, hc⟩ := u8_at' hC hf k hlt
      obtain ⟨ad1, hA1, hc10⟩ := bool_at hD (Fr.refl _ _) k (by omega)
      subst hA hA1
      obtain ⟨b0, b1⟩ := HX.out xs[k] (List.getElem_mem hlt)
      have ht := ents_take hle k hlt
      generalize xs[k] = b at *
      generalize ds[k]'(by omega) = d at *
      have htl : ((ents xs ds).take k).length = k := by rw [List.length_take, ents_len hle]; omega
      generalize (ents xs ds).take k = L at *
      subst htl
      have HT := Lib.hid ht
      clear ht

      go_wp2_with fail
      refine (enter_yes _ (b % 4) 1 1 3 _ _ _ hL (by omega) (by omega) (by omega)).mono ?_
      rintro e w4 ⟨rfl, hL4, hf4⟩
      replace hL := hL4.mono (ext_since' hf.size)
      have hf5 := hf.new' hf4
      have hc1 := hf5.cell hc10 (fun h => h)
      clear hf hL4 hf4 hc hc10
      cases d with
      | true =>
        go_wp2_with fail
        refine (fill_yes _ _ 3 _ _ _ hL L.length (by simp) rfl (by simp; omega) ⟨3, 0, 0, 3, b % 4, 1, 1⟩ (by simp) (by simp) (by simp) (by simp) (by simp) (by simp)).mono ?_
        rintro e w5 ⟨rfl, hL5, hf6⟩
        replace hf6 := hf5.new' hf6
        go_wp2
        go_roundg (xs.length - (L.length + 1))
        case measure => omega
        case rel => exact ⟨L.length + 1, by omega, by go_num, by rw [HT.out]; simpa [ent] using hL5, hf6⟩
      | false =>
        go_wp2
        go_roundg (xs.length - (L.length + 1))
        case measure => omega
        case rel => exact ⟨L.length + 1, by omega, by go_num, by rw [HT.out]; simpa [ent] using hL, hf5⟩
    · obtain rfl : k = xs.length := by omega
      replace hL : Led wr (since w) B (ents xs ds) := by rwa [List.take_of_length_le (by rw [ents_len hle]; omega)] at hL
      have hel := ents_len hle
      go_wp2
      go_loopg [9] 4 (fun q i wr => ∃ (o : Nat), o + q = 4 ∧ i = .int .i64 o ∧ Led wr (since w) B (ents xs ds) ∧ Fr no w wr)
      case atStart => exact ⟨0, by omega, rfl, hL, hf⟩
      case round =>
        clear hL hf
        obtain ⟨o, ho, rfl, hL, hf⟩ := hrel
        by_cases hlt : o < 4
        · have HE := Lib.hid hel
          clear hel
          go_wp2_with fail
          refine (opens_c _ o _ _ _ hL (by rw [HE.out]; omega)).mono ?_
          rintro e w4 ⟨A2, c2, rfl, hR, hf4⟩
          replace hL := hL.fr hf4 (fun _ _ h => h)
          replace hf := hf.trans' hf4
          have hrl : (openIds o (ents xs ds) 0).length ≤ 60 := by have := openIds_len o (ents xs ds) 0; rw [HE.out] at this; omega
          have hRC := (Kd.R_reads' hR).2.2
          obtain ⟨wo, rfl⟩ : ∃ wo : World, wo = w4 := ⟨_, rfl⟩
          go_wp2
          go_loopg [11, 12] xs.length (fun q kk i wr => ∃ (k j : Nat), j + q = xs.length ∧ i = .int .i64 j ∧ kk = .int .i64 k ∧ k ≤ (openIds o (ents xs ds) 0).length ∧ Hid (openIds o ((ents xs ds).drop j) j = (openIds o (ents xs ds) 0).drop k) ∧ wo = wr)
          case atStart => exact ⟨0, 0, by omega, rfl, rfl, by omega, by simp [Hid], rfl⟩
          case round =>
            obtain ⟨k, j, hj, rfl, rfl, hkj, hs, rfl⟩ := hrel
            by_cases hjl : j < xs.length
            · obtain ⟨ad, hA, hc⟩ := u8_at' hC hf j hjl
              obtain ⟨ad1, hA1, hc1⟩ := bool_at hD hf j (by omega)
              subst hA hA1
              obtain ⟨b0, b1⟩ := HX.out xs[j] (List.getElem_mem hjl)
              have hit := fun h1 h2 => step_hit hle hjl h1 h2 hs.out
              have miss := fun h1 => step_miss hle hjl h1 hs.out
              generalize xs[j] = b at *
              generalize ds[j]'(by omega) = d at *
              by_cases hb : b % 4 = (o : Int)
              · cases d with
                | true =>
                  have hb' : (b % 4 != (o : Int)) = false := by simp [hb]
                  have HS := Lib.hid (miss (.inr rfl))
                  clear hit miss hb hs
                  go_wp2
                  go_roundg (xs.length - (j + 1))
                  case measure => omega
                  case rel => exact ⟨k, j + 1, by omega, by go_num, rfl, by omega, HS, rfl⟩
                | false =>
                  have hb' : (b % 4 != (o : Int)) = false := by simp [hb]
                  obtain ⟨h5, h6, h7⟩ := hit hb rfl
                  obtain ⟨ad2, hA2, hc2⟩ := i64_at hRC k h5
                  rw [h6] at hc2
                  have HS := Lib.hid h7
                  clear hit miss hb hs h6 h7
                  subst hA2
                  go_wp2
                  go_roundg (xs.length - (j + 1))
                  case measure => omega
                  case rel => exact ⟨k + 1, j + 1, by omega, by go_num, by go_num, by omega, HS, rfl⟩
              · have hb' : (b % 4 != (o : Int)) = true := by simp [hb]
                have HS := Lib.hid (miss (.inl hb))
                clear hit miss hb hs
                go_wp2
                go_roundg (xs.length - (j + 1))
                case measure => omega
                case rel => exact ⟨k, j + 1, by omega, by go_num, rfl, by omega, HS, rfl⟩
            · have hk2 : k = (openIds o (ents xs ds) 0).length := by
                have h8 := hs.out
                rw [List.drop_of_length_le (by rw [HE.out]; omega)] at h8
                have h9 := congrArg List.length h8
                simp only [openIds, List.length_nil, List.length_drop] at h9
                omega
              clear hs
              subst hk2
              go_wp2
              go_roundg (4 - (o + 1))
              case measure => omega
              case rel => exact ⟨o + 1, by omega, by go_num, hL, hf⟩
        · obtain rfl : o = 4 := by omega
          go_wp2
          go_ret
          exact ⟨rfl, hf⟩

theorem owners_row (w : World) (A : Option Addr) (cap : Nat) (xs : List Int) (A1 : Option Addr) (cap1 : Nat) (ds : List Bool) (hC : (Kd.int .u8).C w A xs.length xs) (_ : xs.length ≤ cap) (hw : ∀ x ∈ xs, (Lit.int .u8 x).wf = true) (hD : Kd.bool.C w A1 ds.length ds) (_ : ds.length ≤ cap1) (_ : ∀ x ∈ ds, True) :
    Calls Try.prog 11 #[.slice A xs.length cap, .slice A1 ds.length cap1] w fun e w' => e = .returned (.bool true) ∧ Fr no w w' := owners_c w A A1 cap cap1 xs ds hC hD (fun x hx => Go.bounds_u8 (hw x hx))
end Go.Proofs.Ytbeijddogfmnpaa.Life
