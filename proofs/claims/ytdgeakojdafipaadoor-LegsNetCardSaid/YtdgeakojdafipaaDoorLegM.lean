import Derived.Test.YtdgeakojdafipaaDoorLegX
import Derived.Test.YtdgeakojdafipaaDoorNum
/-! Contracts of legs.part and legs.Net. -/
set_option linter.unusedVariables false
set_option linter.unusedSimpArgs false
namespace Go.Proofs.YtdgeakojdafipaaDoor.Legs
open Go.RowKit Go.Proofs.YtdgeakojdafipaaDoorW.PrintWords Go.Proofs.YtdgeakojdafipaaDoor.B Go.Proofs.YtdgeakojdafipaaDoor.Num

theorem pr_at {w : World} {B : Option Addr} {ps : List Int} (h : (Kd.int .i64).C w B ps.length ps) (k : Nat) (hk : k < ps.length) : ∃ bd, B = some bd ∧ w.cell? (bd.add k) = some (.int .i64 (pr ps k)) := by
  obtain ⟨ad, e, hc⟩ := h.2.2 (by omega)
  obtain ⟨c, c1, c2, c3⟩ := hc k ps[k] (by simp [hk])
  have c2' : c = [.int .i64 ps[k]] := c2
  subst c2'
  refine ⟨ad, e, ?_⟩
  have h1 : pr ps k = ps[k] := by simp [pr, hk]
  rw [h1]
  simpa [show (Kd.int .i64).sz = 1 from rfl] using c3 0 _ rfl
theorem sr_small {x : Leg} (h : okB x = true) : -4 ≤ x.Sign * x.Ratio ∧ x.Sign * x.Ratio ≤ 4 := by
  obtain ⟨_, a, b, c⟩ := okB_iff.1 h
  rcases a with a | a <;> rw [a] <;> omega
set_option maxRecDepth 100000 in
theorem part_c (x : Leg) (p : Int) (h : okB x = true) (p0 : -9223372036854775808 ≤ p) (p1 : p ≤ 9223372036854775807) (w : World) :
    Calls Tryd.prog 19 #[x.val, .int .i64 p] w fun e w' => e = .returned (.tuple #[.int .i64 (mulF (x.Sign * x.Ratio) p).1, .int .i64 (mulF (x.Sign * x.Ratio) p).2]) ∧ Fr no w w' := by
  obtain ⟨s1, s2⟩ := sr_small h
  obtain ⟨_, a, b, c⟩ := okB_iff.1 h
  have ha : -1 ≤ x.Sign ∧ x.Sign ≤ 1 := by omega
  have hm1 := fun W => mul_g x.Sign x.Ratio (by omega) (by omega) (by omega) (by omega) W
  have he : mulF x.Sign x.Ratio = (x.Sign * x.Ratio, 0) := by unfold mulF; rw [if_pos (i64B_t.2 (by omega))]
  rw [he] at hm1
  have hm2 := fun W => mul_g (x.Sign * x.Ratio) p (by omega) (by omega) p0 p1 W
  obtain ⟨r, hr⟩ : ∃ r, mulF (x.Sign * x.Ratio) p = r := ⟨_, rfl⟩
  rw [hr] at hm2 ⊢
  obtain ⟨n, hn⟩ : ∃ n, x.Sign * x.Ratio = n := ⟨_, rfl⟩
  rw [hn] at hm1 hm2
  have H1 := Lib.hid hm1
  have H2 := Lib.hid hm2
  obtain ⟨q, z⟩ := r
  clear hm1 hm2 hr he hn s1 s2 a b c ha h
  have hfa := (Fr.refl no w).alloc (.cells #[.int .i64 x.Series, .int .i64 x.Sign, .int .i64 x.Ratio] 43)
  unfold Leg.val
  go_enter Tryd.func19, Tryd.ntmps19
  go_wp2_with fail
  refine (H1.out _).mono ?_
  rintro e w1 ⟨rfl, rfl⟩
  dsimp only
  go_wp2_with fail
  refine (H2.out _).mono ?_
  rintro e w1 ⟨rfl, rfl⟩
  dsimp only
  go_wp2
  go_ret2
  exact ⟨rfl, hfa⟩
def NetOf (e : Ending) (r : Int × Int) : Prop := e = .returned (.tuple #[.int .i64 r.1, .int .i64 r.2])
set_option maxRecDepth 100000 in
set_option maxHeartbeats 4000000 in
theorem net_c (A : Option Addr) (c : Nat) (l : List Leg) (B : Option Addr) (cb : Nat) (ps : List Int) (w : World) (hC : kLeg.C w A l.length l) (hc : l.length ≤ c)
    (hB : (Kd.int .i64).C w B ps.length ps) (hb : ps.length ≤ cb) (hp : ∀ k, k < ps.length → -9223372036854775808 ≤ pr ps k ∧ pr ps k ≤ 9223372036854775807) :
    Calls Tryd.prog 9 #[.slice A l.length c, .slice B ps.length cb] w fun e w' => NetOf e (netF l ps) ∧ Fr no w w' := by
  obtain ⟨V, hV⟩ : ∃ V, netF l ps = V := ⟨_, rfl⟩
  rw [hV]
  unfold netF at hV
  have HK := Lib.hid (And.intro hC (And.intro hB hp))
  clear hC hB hp
  cases hw : wrong l with
  | some a =>
    obtain ⟨n, k⟩ := a
    rw [if_neg (by rw [hw]; simp)] at hV
    subst hV
    have HW := Lib.hid hw
    clear hw
    go_enter Tryd.func9, Tryd.ntmps9
    go_wp2_with fail
    refine (check_c A c l w HK.out.1 hc).mono ?_
    rintro e w1 ⟨⟨v, rfl, hA⟩, hf1⟩
    obtain ⟨F, rfl, hF⟩ := hA.2 n k HW.out
    clear hA
    dsimp only
    go_wp2
    go_ret2
    exact ⟨rfl, hf1⟩
  | none =>
    have hg := good_iff.1 hw
    by_cases hlen : ps.length = l.length
    rotate_left
    · rw [if_neg (by simp [hlen])] at hV
      subst hV
      have HW := Lib.hid hw
      have e1 : ((ps.length : Int) != (l.length : Int)) = true := by simp; omega
      clear hw hg hlen
      go_enter Tryd.func9, Tryd.ntmps9
      go_wp2_with fail
      refine (check_c A c l w HK.out.1 hc).mono ?_
      rintro e w1 ⟨⟨v, rfl, hA⟩, hf1⟩
      obtain rfl := hA.1 HW.out
      clear hA
      dsimp only
      go_wp2
      go_ret2
      exact ⟨rfl, hf1⟩
    rw [if_pos ⟨hw, hlen⟩] at hV
    have HW := Lib.hid (And.intro hw (And.intro hg hlen))
    have hl4 : l.length ≤ 4 := hg.hi
    have HV := Lib.hid hV
    have e1 : ((ps.length : Int) != (l.length : Int)) = false := by simp; omega
    clear hw hg hlen hV
    go_enter Tryd.func9, Tryd.ntmps9
    go_wp2_with fail
    refine (check_c A c l w HK.out.1 hc).mono ?_
    rintro e w1 ⟨⟨v, rfl, hA⟩, hf1⟩
    obtain rfl := hA.1 HW.out.1
    clear hA
    dsimp only
    go_wp2
    clear e1
    go_loopg [6, 23] l.length (fun q o i wr => ∃ (k : Nat) (s : Int), k + q = l.length ∧ i = .int .i64 k ∧ o = .int .i64 s ∧ -9223372036854775808 ≤ s ∧ s ≤ 9223372036854775807 ∧ Hid (netFrom l ps (l.length - k) k s = V) ∧ Fr no w wr)
    case atStart => exact ⟨0, 0, by omega, rfl, rfl, by omega, by omega, HV, hf1⟩
    case round =>
      clear HV hf1
      obtain ⟨k, s, hk, rfl, rfl, hs0, hs1, hv, hf⟩ := hrel
      by_cases hlt : k < l.length
      · have hv2 := hv.out
        rw [show l.length - k = (l.length - (k + 1)) + 1 by omega, netFrom] at hv2
        have hkp : k < ps.length := by have := HW.out.2.2; omega
        obtain ⟨ad, rfl, c0, c1, c2⟩ := lg_at (C_fr HK.out.1 hf) k hlt
        obtain ⟨bd, rfl, p0⟩ := pr_at (C_fr HK.out.2.1 hf) k hkp
        have hpb := HK.out.2.2 k hkp
        have hok := HW.out.2.1.ok _ (List.getElem_mem hlt)
        rw [← lg_lt hlt] at hok
        generalize lg l k = x at *
        generalize pr ps k = p at *
        have hpc := fun W => part_c x p hok hpb.1 hpb.2 W
        unfold Leg.val mulF at hpc
        have HPC := Lib.hid hpc
        have HV2 := Lib.hid hv2
        have hk0 : (0 : Int) ≤ (k : Int) := by omega
        have hk1 : (k : Int) < (ps.length : Int) := by omega
        have hk2 : k < ps.length := hkp
        clear hv hv2 hpc hok hpb hkp
        go_wp2
        have hX := blk_new wr (.cells #[.int .i64 x.Series, .int .i64 x.Sign, .int .i64 x.Ratio] 43)
        have hfx := hf.alloc (.cells #[.int .i64 x.Series, .int .i64 x.Sign, .int .i64 x.Ratio] 43)
        have p0' := (World.cell?_alloc_lt wr (.cells #[.int .i64 x.Series, .int .i64 x.Sign, .int .i64 x.Ratio] 43) (bd.add k) (World.block_lt_of_cell? wr _ p0)).trans p0
        clear c0 c1 c2 p0
        generalize wr.alloc _ = w2 at *
        generalize wr.heap.size = X at *
        have x0 : w2.cell? ⟨X, 0, none⟩ = some (.int .i64 x.Series) := blk_cell hX 0
        have x1 : w2.cell? ⟨X, 1, none⟩ = some (.int .i64 x.Sign) := blk_cell hX 1
        have x2 : w2.cell? ⟨X, 2, none⟩ = some (.int .i64 x.Ratio) := blk_cell hX 2
        clear hX
        refine wp_region_plan (fun u => u.cell? ⟨X, 0, none⟩ = some (.int .i64 x.Series) ∧ u.cell? ⟨X, 1, none⟩ = some (.int .i64 x.Sign) ∧ u.cell? ⟨X, 2, none⟩ = some (.int .i64 x.Ratio) ∧ u.cell? (bd.add k) = some (.int .i64 p)) [(0, false), (1, false), (2, false), (3, false), (4, false), (5, true), (6, false), (7, false), (8, false), (9, false), (10, false)] (by kernel_rfl) (by kernel_rfl) (fun _ _ _ _ _ h => h) (⟨x0, x1, x2, p0'⟩) ?_
        simp only [planOps, List.getElem?_toArray, List.getElem?_cons_succ, List.getElem?_cons_zero]
        repeat (first
          | (refine plan_step (by rfl) ?_; apply Exists.intro; refine ⟨fun x hSx => ?_, ?_⟩; ((try dsimp only at hSx); go_simp; (try rw [if_neg (by omega)]); (try with_reducible rfl)); (simp only [Act.put, List.setIfInBounds_toArray, List.set_cons_zero, List.set_cons_succ]))
          | (refine plan_skip (by rfl) ?_; (simp only [Act.put, List.setIfInBounds_toArray, List.set_cons_zero, List.set_cons_succ])))
        refine plan_run (by rfl) (fun K hK => ?_)
        go_simp
        refine (HPC.out _).mono ?_
        rintro e w3 ⟨rfl, hf3⟩
        have hf4 := hfx.drew.trans' hf3
        have h23 := (Fr.refl no w2).drew.trans' hf3
        have hS3 : w3.cell? ⟨X, 0, none⟩ = some (.int .i64 x.Series) ∧ w3.cell? ⟨X, 1, none⟩ = some (.int .i64 x.Sign) ∧ w3.cell? ⟨X, 2, none⟩ = some (.int .i64 x.Ratio) ∧ w3.cell? (bd.add k) = some (.int .i64 p) := ⟨h23.cell x0 (fun h => h), h23.cell x1 (fun h => h), h23.cell x2 (fun h => h), h23.cell p0' (fun h => h)⟩
        clear h23 x0 x1 x2 p0' hfx hf3
        cases hb1 : i64B (x.Sign * x.Ratio * p) with
        | false =>
          have hv2 := HV2.out
          rw [if_pos hb1] at hv2
          subst hv2
          rw [if_neg (by decide)]
          clear HV2 hb1
          dsimp only
          refine hK.out (fun u => True) _ _ (hS3) (trivial) ?_
          clear hK K
          try simp only [Act.put, List.setIfInBounds_toArray, List.set_cons_zero, List.set_cons_succ]
          repeat (first
            | (refine plan_step (by rfl) ?_; apply Exists.intro; refine ⟨fun x hSx => ?_, ?_⟩; ((try dsimp only at hSx); go_simp; (try rw [if_neg (by omega)]); (try with_reducible rfl)); (simp only [Act.put, List.setIfInBounds_toArray, List.set_cons_zero, List.set_cons_succ]))
            | (refine plan_skip (by rfl) ?_; (simp only [Act.put, List.setIfInBounds_toArray, List.set_cons_zero, List.set_cons_succ])))
          refine plan_done ?_
          clear hS3
          go_wp2
          go_ret2
          exact ⟨rfl, hf4⟩
        | true =>
          have hv2 := HV2.out
          rw [if_neg (by simp [hb1])] at hv2
          rw [if_pos rfl]
          obtain ⟨n, hn⟩ : ∃ n, x.Sign * x.Ratio * p = n := ⟨_, rfl⟩
          rw [hn] at hv2 hb1 ⊢
          obtain ⟨n0, n1⟩ := i64B_t.1 hb1
          have hac := fun W => add_c s n hs0 hs1 n0 n1 W
          unfold addF at hac
          have HAC := Lib.hid hac
          have HV3 := Lib.hid hv2
          clear HV2 hb1 hn hv2 hac
          dsimp only
          refine hK.out (fun u => True) _ _ (hS3) (trivial) ?_
          clear hK K
          try simp only [Act.put, List.setIfInBounds_toArray, List.set_cons_zero, List.set_cons_succ]
          repeat (first
            | (refine plan_step (by rfl) ?_; apply Exists.intro; refine ⟨fun x hSx => ?_, ?_⟩; ((try dsimp only at hSx); go_simp; (try rw [if_neg (by omega)]); (try with_reducible rfl)); (simp only [Act.put, List.setIfInBounds_toArray, List.set_cons_zero, List.set_cons_succ]))
            | (refine plan_skip (by rfl) ?_; (simp only [Act.put, List.setIfInBounds_toArray, List.set_cons_zero, List.set_cons_succ])))
          refine plan_done ?_
          clear hS3
          go_wp2_with fail
          refine (HAC.out _).mono ?_
          rintro e w4 ⟨rfl, hf5⟩
          cases hb2 : i64B (s + n) with
          | false =>
            have hv2 := HV3.out
            rw [if_pos hb2] at hv2
            subst hv2
            rw [if_neg (by decide)]
            clear HV3 hb2
            dsimp only
            go_wp2
            go_ret2
            exact ⟨rfl, hf4.trans' hf5⟩
          | true =>
            have hv2 := HV3.out
            rw [if_neg (by simp [hb2])] at hv2
            rw [if_pos rfl]
            obtain ⟨z, hz⟩ : ∃ z, s + n = z := ⟨_, rfl⟩
            rw [hz] at hv2 hb2 ⊢
            obtain ⟨z0, z1⟩ := i64B_t.1 hb2
            have HV4 := Lib.hid hv2
            clear HV3 hb2 hz hv2
            dsimp only
            go_wp2
            go_roundg (l.length - (k + 1))
            case measure => omega
            case rel => exact ⟨k + 1, z, by omega, by go_num, rfl, z0, z1, HV4, hf4.trans' hf5⟩
      · obtain rfl : k = l.length := by omega
        have hv2 := hv.out
        rw [Nat.sub_self, netFrom] at hv2
        subst hv2
        clear hv
        go_wp2
        go_ret2
        exact ⟨rfl, hf⟩
end Go.Proofs.YtdgeakojdafipaaDoor.Legs
