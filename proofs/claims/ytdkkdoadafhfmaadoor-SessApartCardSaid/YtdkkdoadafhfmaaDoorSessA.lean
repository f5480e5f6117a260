import Derived.Test.YtdkkdoadafhfmaaDoorSessL
/-! SessApart. -/
set_option linter.unusedVariables false
set_option linter.unusedSimpArgs false
namespace Go.Proofs.YtdkkdoadafhfmaaDoor.Sess
open Go.RowKit Go.Proofs.YtdkkdoadafhfmaaDoorW.PrintWords Go.Proofs.YtdkkdoadafhfmaaDoor.B Go.Proofs.YtdkkdoadafhfmaaDoor.Err

/-- Turns counted, each session's. -/
def bump (c : Nat → Nat) (n : Nat) : Nat → Nat := fun m => if m = n then c n + 1 else c m
theorem bump_same (c : Nat → Nat) (n : Nat) : bump c n n = c n + 1 := by simp [bump]
theorem bump_other (c : Nat → Nat) {n m : Nat} (h : m ≠ n) : bump c n m = c m := by simp [bump, h]
theorem bump_le {c : Nat → Nat} {j : Nat} (h : ∀ m, c m ≤ j) (n : Nat) : ∀ m, bump c n m ≤ j + 1 := fun m => by
  have h1 := h n
  have h2 := h m
  unfold bump
  split <;> omega
def Sc (c : Nat → Nat) : Nat → Ses := fun n => ⟨decide (0 < c n), c n, c n, 0⟩
theorem sc_bump (c : Nat → Nat) (n : Nat) (x : Ses) (hx : x = ⟨true, (c n : Int) + 1, (c n : Int) + 1, 0⟩) : put (Sc c) n x = Sc (bump c n) := by
  subst hx
  funext m
  by_cases h : m = n
  · subst h
    rw [put_same]
    simp [Sc, bump_same]
  · rw [put_other _ _ h]
    simp [Sc, bump_other _ h]
def Arr (w : World) (X : Nat) (c : Nat → Nat) : Prop := ∃ cs : Array Value, w.heap[X]? = some (.cells cs 48 (0, 0)) ∧ cs.size = 65 ∧ ∀ n, n < 65 → cs[n]? = some (.int .i64 (c n : Int))
theorem Arr.fr {w w1 : World} {S0 : Nat → Prop} {X : Nat} {c : Nat → Nat} (h : Arr w X c) (hf : Fr S0 w w1) (hn : ¬ S0 X) : Arr w1 X c := by
  obtain ⟨cs, h1, h2⟩ := h
  exact ⟨cs, hf.heap h1 hn, h2⟩
theorem Arr.cell {w : World} {X : Nat} {c : Nat → Nat} (h : Arr w X c) (n : Nat) (hn : n < 65) : w.cell? ⟨X, n, none⟩ = some (.int .i64 (c n : Int)) ∧ w.frozen? ⟨X, n, none⟩ = false := by
  obtain ⟨cs, h1, h2, h3⟩ := h
  exact ⟨(blk_cell h1 _).trans (h3 n hn), blk_frozen h1 _⟩
theorem Arr.put {w : World} {X : Nat} {c : Nat → Nat} (h : Arr w X c) (n : Nat) (hn : n < 65) : Arr (w.setCell ⟨X, n, none⟩ (.int .i64 ((c n : Int) + 1))) X (bump c n) := by
  obtain ⟨cs, h1, h2, h3⟩ := h
  refine ⟨_, blk_put h1 _ _ rfl, by simpa using h2, fun m hm => ?_⟩
  by_cases he : m = n
  · subst he
    rw [bump_same, Array.getElem?_setIfInBounds, if_pos rfl, if_pos (by omega)]
    rfl
  · rw [bump_other _ he, Array.getElem?_setIfInBounds_ne (Ne.symm he)]
    exact h3 m hm
theorem Arr.bumped {w : World} {X : Nat} {c : Nat → Nat} {n : Nat} (h : Arr w X (bump c n)) (m : Nat) (hn : m < 65) (he : m = n := by rfl) : w.cell? ⟨X, m, none⟩ = some (.int .i64 ((c m : Int) + 1)) := by
  subst he
  have := (h.cell m hn).1
  rwa [bump_same] at this
theorem St.set {w0 w : World} {B : Nat} {t : Int} {S : Nat → Ses} (h : St w0 w B t S) (X : Nat) (hX : w0.heap.size ≤ X) (hne : X ≠ B) (n : Nat) (u : Value) : St w0 (w.setCell ⟨X, n, none⟩ u) B t S := by
  have hf := (Fr.refl (one X) w).set (p := ⟨X, n, none⟩) (fun _ => rfl) u
  exact ⟨h.d.fr hf (fun hb : B = X => hne hb.symm), h.f.new hf (fun k hk => by have h1 : k = X := hk; subst h1; exact hX), h.b⟩
theorem arr_zero {w : World} {X : Nat} (h : w.heap[X]? = some (.cells Tryd.zeroCells48 48 (0, 0))) : Arr w X (fun _ => 0) := by
  have hz : Tryd.zeroCells48 = Array.replicate 65 (Value.int .i64 0) := by kernel_rfl
  refine ⟨_, h, by rw [hz]; rfl, fun n hn => ?_⟩
  rw [hz, Array.getElem?_replicate, if_pos hn]
  rfl
theorem u8_el {w : World} {A : Option Addr} {xs : List Int} (hC : (Kd.int .u8).C w A xs.length xs) (k : Nat) (h : k < xs.length) : ∃ ad, A = some ad ∧ w.cell? (ad.add k) = some (.int .u8 xs[k]) := by
  obtain ⟨ad, h1, h2⟩ := Kd.at_int hC (k : Int) (by omega) (by omega)
  refine ⟨ad, h1, ?_⟩
  rw [Int.toNat_natCast] at h2
  rw [h2]
  simp [rd, h]
set_option maxRecDepth 100000 in
set_option maxHeartbeats 4000000 in
theorem apart_c (w : World) (hg : ErrType w) (A : Option Addr) (cap : Nat) (l : List Int) (hC : (Kd.int .u8).C w A l.length l) (hb : ∀ x ∈ l, 0 ≤ x ∧ x < 256) : Calls Tryd.prog 6 #[.slice A l.length cap] w fun e w' => e = .returned (.bool true) ∧ Fr no w w' := by
  have HG := Lib.hid hg
  have HBy := Lib.hid hb
  clear hg hb
  go_enter Tryd.func6, Tryd.ntmps6
  go_wp2_with fail
  refine (known_c w HG.out).mono ?_
  rintro e w1 ⟨rfl, hf⟩
  dsimp only
  by_cases h100 : 100 < l.length
  · go_wp2
    go_ret
    exact ⟨rfl, hf⟩
  go_wp2_with fail
  refine (new_t (w0 := w) 1000 (by omega) (by omega) hf).mono ?_
  rintro e w2 ⟨B, rfl, h⟩
  clear hf
  dsimp only
  go_wp2
  have hX5 := blk_new w2 (.cells Tryd.zeroCells48 48)
  have hX6 := blk_new (w2.alloc (.cells Tryd.zeroCells48 48)) (.cells Tryd.zeroCells48 48)
  replace hX5 := ((Fr.refl no _).alloc (.cells Tryd.zeroCells48 48)).heap hX5 (fun h => h)
  rw [show (w2.alloc (.cells Tryd.zeroCells48 48)).heap.size = w2.heap.size + 1 by simp] at hX6
  have hB2 := h.d.lt
  have hB3 := h.f.size
  replace h := h.fr (((Fr.refl no w2).alloc (.cells Tryd.zeroCells48 48)).alloc (.cells Tryd.zeroCells48 48))
  generalize (w2.alloc _).alloc _ = w3 at *
  have a5 := arr_zero hX5
  have a6 := arr_zero hX6
  have hne5 : w2.heap.size ≠ B := by omega
  have hne6 : w2.heap.size + 1 ≠ B := by omega
  have hn65 : w2.heap.size + 1 ≠ w2.heap.size := by omega
  have hX5w : w.heap.size ≤ w2.heap.size := hB3
  have hX6w : w.heap.size ≤ w2.heap.size + 1 := by omega
  clear hX5 hX6 hB2 hB3
  generalize w2.heap.size + 1 = X6 at *
  generalize w2.heap.size = X5 at *
  go_loopg [7] l.length (fun q i wr => ∃ (j : Nat) (c : Nat → Nat), j + q = l.length ∧ i = .int .i64 j ∧ Hid (∀ m, c m ≤ j) ∧ St w wr B 1000 (Sc c) ∧ Arr wr X5 c ∧ Arr wr X6 c)
  case atStart => exact ⟨0, fun _ => 0, by omega, rfl, fun _ => Nat.le_refl _, h, a5, a6⟩
  case round =>
    clear h a5 a6
    obtain ⟨j, c, hj, rfl, hcj, h, a5, a6⟩ := hrel
    by_cases hlt : j < l.length
    · obtain ⟨ad, rfl, hc⟩ := u8_el (C_fr hC h.f) j hlt
      obtain ⟨x0, x1⟩ := HBy.out l[j] (List.getElem_mem hlt)
      generalize l[j] = x at *
      obtain ⟨n, hn⟩ : ∃ n : Nat, 1 + x % 64 = (n : Int) := ⟨(1 + x % 64).toNat, by omega⟩
      have hn1 : 1 ≤ n := by omega
      have hn2 : n ≤ 64 := by omega
      have hn3 : (0 : Int) ≤ (n : Int) := by omega
      have hn4 : (n : Int) < 65 := by omega
      have hm0 : 0 ≤ x % 64 := by omega
      have hm1 : x % 64 < 64 := by omega
      have hcn := hcj.out n
      obtain ⟨c5, f5⟩ := a5.cell n (by omega)
      obtain ⟨c6, f6⟩ := a6.cell n (by omega)
      have hdd : decide (j < l.length) = true := by simpa using hlt
      have p5 := Lib.hid ((a5.put n (by omega)).fr ((Fr.refl (one X6) _).set (p := ⟨X6, n, none⟩) (fun _ => rfl) (.int .i64 ((c n : Int) + 1))) (fun h : X5 = X6 => hn65 h.symm))
      have p6 := Lib.hid ((a6.fr ((Fr.refl (one X5) wr).set (p := ⟨X5, n, none⟩) (fun _ => rfl) (.int .i64 ((c n : Int) + 1))) (fun h : X6 = X5 => hn65 h)).put n (by omega))
      have h2 := Lib.hid ((h.set X5 hX5w hne5 n (.int .i64 ((c n : Int) + 1))).set X6 hX6w hne6 n (.int .i64 ((c n : Int) + 1)))
      by_cases hz : c n = 0
      · have hq : ((c n : Int) == 0) = true := by simp [hz]
        have HZ := Lib.hid hz
        clear hz
        go_wp2
        clear hc c5 f5 c6 f6 h a5 a6 hq
        generalize (wr.setCell _ _).setCell _ _ = W at *
        have hfd := (Fr.refl no W).drew
        have y5 := p5.out.bumped n (by omega)
        have y6 := p6.out.bumped n (by omega)
        have hne : ((c n : Int) + 1 != (c n : Int) + 1) = false := by simp
        clear hn
        refine wp_region_plan (fun u => u.cell? ⟨X5, n, none⟩ = some (.int .i64 ((c n : Int) + 1)) ∧ u.cell? ⟨X6, n, none⟩ = some (.int .i64 ((c n : Int) + 1))) [(0, false), (1, false), (2, false), (3, false), (4, false), (5, false), (6, false), (7, true), (8, false), (9, false), (10, false), (11, false), (13, false), (14, false), (15, false), (12, true), (16, false), (17, false)] (by kernel_rfl) (by kernel_rfl) (fun _ _ _ _ _ h => h) (⟨hfd.cell y5 (fun h => h), hfd.cell y6 (fun h => h)⟩) ?_
        simp only [planOps, List.getElem?_toArray, List.getElem?_cons_succ, List.getElem?_cons_zero]
        repeat (first
          | (refine plan_step (by rfl) ?_; apply Exists.intro; refine ⟨fun x hSx => ?_, ?_⟩; ((try dsimp only at hSx); go_simp; (try rw [if_neg (by omega)]); (try with_reducible rfl)); (simp only [Act.put, List.setIfInBounds_toArray, List.set_cons_zero, List.set_cons_succ]))
          | (refine plan_skip (by rfl) ?_; (simp only [Act.put, List.setIfInBounds_toArray, List.set_cons_zero, List.set_cons_succ])))
        refine plan_run (by rfl) (fun K hK => ?_)
        go_simp
        refine (in_t (S' := put (Sc c) n ⟨true, (c n : Int) + 1, c n, 0⟩) (h2.out.fr hfd) _ n (Sc c n) rfl hn1 hn2 1 _ 0 rfl (by show (0 : Int) ≤ (c n : Int); omega) (by show (c n : Int) ≤ 1000000; omega) (by simp [Sc, HZ.out]) rfl rfl rfl).mono ?_
        rintro e w4 ⟨rfl, h4, hf4⟩
        have z5 := hf4.cell (hfd.cell y5 (fun h => h)) hne5
        have z6 := hf4.cell (hfd.cell y6 (fun h => h)) hne6
        have q5 := (p5.out.fr hfd (fun h => h)).fr hf4 hne5
        have q6 := (p6.out.fr hfd (fun h => h)).fr hf4 hne6
        clear h2 y5 y6 hf4
        dsimp only
        refine hK.out (fun u => True) _ _ (⟨z5, z6⟩) (trivial) ?_
        clear hK K
        try simp only [Act.put, List.setIfInBounds_toArray, List.set_cons_zero, List.set_cons_succ]
        repeat (first
          | (refine plan_step (by rfl) ?_; apply Exists.intro; refine ⟨fun x hSx => ?_, ?_⟩; ((try dsimp only at hSx); go_simp; (try rw [if_neg (by omega)]); (try with_reducible rfl)); (simp only [Act.put, List.setIfInBounds_toArray, List.set_cons_zero, List.set_cons_succ]))
          | (refine plan_skip (by rfl) ?_; (simp only [Act.put, List.setIfInBounds_toArray, List.set_cons_zero, List.set_cons_succ])))
        refine plan_run (by rfl) (fun K hK => ?_)
        go_simp
        refine (out_t (S' := Sc (bump c n)) h4 _ n ⟨true, (c n : Int) + 1, c n, 0⟩ ((c n : Int) + 1) rfl hn1 hn2 (put_same _ _ _) (by show (0 : Int) ≤ (c n : Int); omega) (by show (c n : Int) ≤ 1000000; omega) rfl (by rw [put_put]; exact sc_bump c n _ rfl)).mono ?_
        rintro e w5 ⟨rfl, h5, hf5⟩
        have v5 := hf5.cell z5 hne5
        have v6 := hf5.cell z6 hne6
        replace q5 := q5.fr hf5 hne5
        replace q6 := q6.fr hf5 hne6
        clear h4 hf5
        dsimp only
        refine hK.out (fun u => True) _ _ (⟨⟨v5, v6⟩, trivial⟩) (trivial) ?_
        clear hK K
        try simp only [Act.put, List.setIfInBounds_toArray, List.set_cons_zero, List.set_cons_succ]
        repeat (first
          | (refine plan_step (by rfl) ?_; apply Exists.intro; refine ⟨fun x hSx => ?_, ?_⟩; ((try dsimp only at hSx); go_simp; (try rw [if_neg (by omega)]); (try with_reducible rfl)); (simp only [Act.put, List.setIfInBounds_toArray, List.set_cons_zero, List.set_cons_succ]))
          | (refine plan_skip (by rfl) ?_; (simp only [Act.put, List.setIfInBounds_toArray, List.set_cons_zero, List.set_cons_succ])))
        refine plan_done ?_
        clear z5 z6 v5 v6
        go_wp2
        go_roundg (l.length - (j + 1))
        case measure => omega
        case rel => exact ⟨j + 1, bump c n, by omega, by go_num, bump_le hcj.out n, h5, q5, q6⟩
      · have hq : ((c n : Int) == 0) = false := by simp [hz]
        have HZ := Lib.hid hz
        clear hz
        go_wp2
        clear hc c5 f5 c6 f6 h a5 a6 hq
        generalize (wr.setCell _ _).setCell _ _ = W at *
        have hfd := (Fr.refl no W).drew
        have y5 := p5.out.bumped n (by omega)
        have y6 := p6.out.bumped n (by omega)
        have hne : ((c n : Int) + 1 != (c n : Int) + 1) = false := by simp
        clear hn
        refine wp_region_plan (fun u => u.cell? ⟨X5, n, none⟩ = some (.int .i64 ((c n : Int) + 1)) ∧ u.cell? ⟨X6, n, none⟩ = some (.int .i64 ((c n : Int) + 1))) [(0, false), (1, false), (2, false), (3, false), (4, false), (5, false), (6, false), (7, true), (8, false), (9, false), (10, false), (11, false), (13, false), (14, false), (15, false), (12, true), (16, false), (17, false)] (by kernel_rfl) (by kernel_rfl) (fun _ _ _ _ _ h => h) (⟨hfd.cell y5 (fun h => h), hfd.cell y6 (fun h => h)⟩) ?_
        simp only [planOps, List.getElem?_toArray, List.getElem?_cons_succ, List.getElem?_cons_zero]
        repeat (first
          | (refine plan_step (by rfl) ?_; apply Exists.intro; refine ⟨fun x hSx => ?_, ?_⟩; ((try dsimp only at hSx); go_simp; (try rw [if_neg (by omega)]); (try with_reducible rfl)); (simp only [Act.put, List.setIfInBounds_toArray, List.set_cons_zero, List.set_cons_succ]))
          | (refine plan_skip (by rfl) ?_; (simp only [Act.put, List.setIfInBounds_toArray, List.set_cons_zero, List.set_cons_succ])))
        refine plan_run (by rfl) (fun K hK => ?_)
        go_simp
        refine (in_t (S' := put (Sc c) n ⟨true, (c n : Int) + 1, c n, 0⟩) (h2.out.fr hfd) _ n (Sc c n) rfl hn1 hn2 2 _ 0 rfl (by show (0 : Int) ≤ (c n : Int); omega) (by show (c n : Int) ≤ 1000000; omega) (by have h0 : 0 < c n := Nat.pos_of_ne_zero HZ.out; simp [Sc, h0]) rfl rfl rfl).mono ?_
        rintro e w4 ⟨rfl, h4, hf4⟩
        have z5 := hf4.cell (hfd.cell y5 (fun h => h)) hne5
        have z6 := hf4.cell (hfd.cell y6 (fun h => h)) hne6
        have q5 := (p5.out.fr hfd (fun h => h)).fr hf4 hne5
        have q6 := (p6.out.fr hfd (fun h => h)).fr hf4 hne6
        clear h2 y5 y6 hf4
        dsimp only
        refine hK.out (fun u => True) _ _ (⟨z5, z6⟩) (trivial) ?_
        clear hK K
        try simp only [Act.put, List.setIfInBounds_toArray, List.set_cons_zero, List.set_cons_succ]
        repeat (first
          | (refine plan_step (by rfl) ?_; apply Exists.intro; refine ⟨fun x hSx => ?_, ?_⟩; ((try dsimp only at hSx); go_simp; (try rw [if_neg (by omega)]); (try with_reducible rfl)); (simp only [Act.put, List.setIfInBounds_toArray, List.set_cons_zero, List.set_cons_succ]))
          | (refine plan_skip (by rfl) ?_; (simp only [Act.put, List.setIfInBounds_toArray, List.set_cons_zero, List.set_cons_succ])))
        refine plan_run (by rfl) (fun K hK => ?_)
        go_simp
        refine (out_t (S' := Sc (bump c n)) h4 _ n ⟨true, (c n : Int) + 1, c n, 0⟩ ((c n : Int) + 1) rfl hn1 hn2 (put_same _ _ _) (by show (0 : Int) ≤ (c n : Int); omega) (by show (c n : Int) ≤ 1000000; omega) rfl (by rw [put_put]; exact sc_bump c n _ rfl)).mono ?_
        rintro e w5 ⟨rfl, h5, hf5⟩
        have v5 := hf5.cell z5 hne5
        have v6 := hf5.cell z6 hne6
        replace q5 := q5.fr hf5 hne5
        replace q6 := q6.fr hf5 hne6
        clear h4 hf5
        dsimp only
        refine hK.out (fun u => True) _ _ (⟨⟨v5, v6⟩, trivial⟩) (trivial) ?_
        clear hK K
        try simp only [Act.put, List.setIfInBounds_toArray, List.set_cons_zero, List.set_cons_succ]
        repeat (first
          | (refine plan_step (by rfl) ?_; apply Exists.intro; refine ⟨fun x hSx => ?_, ?_⟩; ((try dsimp only at hSx); go_simp; (try rw [if_neg (by omega)]); (try with_reducible rfl)); (simp only [Act.put, List.setIfInBounds_toArray, List.set_cons_zero, List.set_cons_succ]))
          | (refine plan_skip (by rfl) ?_; (simp only [Act.put, List.setIfInBounds_toArray, List.set_cons_zero, List.set_cons_succ])))
        refine plan_done ?_
        clear z5 z6 v5 v6
        go_wp2
        go_roundg (l.length - (j + 1))
        case measure => omega
        case rel => exact ⟨j + 1, bump c n, by omega, by go_num, bump_le hcj.out n, h5, q5, q6⟩
    · obtain rfl : j = l.length := by omega
      clear hlt hj hC HBy
      obtain ⟨wo, rfl⟩ : ∃ wo : World, wo = wr := ⟨_, rfl⟩
      go_wp2
      go_loopg [10] 64 (fun q i wx => ∃ m : Nat, m + q = 64 ∧ i = .int .i64 ((m : Int) + 1) ∧ Fr no wo wx)
      case atStart => exact ⟨0, by omega, rfl, Fr.refl _ _⟩
      case round =>
        obtain ⟨m, hm, rfl, hf⟩ := hrel
        replace h := h.fr hf
        replace a5 := a5.fr hf (fun h => h)
        by_cases hlt : m < 64
        · obtain ⟨n, hn⟩ : ∃ n : Nat, (m : Int) + 1 = (n : Int) := ⟨m + 1, by omega⟩
          have hd2 : decide ((n : Int) ≤ 64) = true := by simp; omega
          have hn1 : 1 ≤ n := by omega
          have hn2 : n ≤ 64 := by omega
          have hn3 : (0 : Int) ≤ (n : Int) := by omega
          have hn4 : (n : Int) < 65 := by omega
          rw [hn]
          have hcn := hcj.out n
          have HN := Lib.hid hn
          clear hn
          go_wp2
          have hfd := (Fr.refl no wr).drew
          have y5 := ((a5.fr hfd (fun h => h)).cell n (by omega)).1
          have hne : ((c n : Int) + 1 != (c n : Int) + 1) = false := by simp
          have hne2 : (decide (0 < c n) != decide (0 < c n)) = false := by simp
          have hw : IntKind.i64.wrap ((c n : Int) + 1) = (c n : Int) + 1 := IntWalk.i64_in _ (by omega)
          refine wp_region_plan (fun u => u.cell? ⟨X5, n, none⟩ = some (.int .i64 (c n : Int))) [(0, false), (1, false), (3, false), (4, false), (5, false), (6, false), (2, true), (7, false), (8, false), (9, false), (10, false), (12, false), (13, false), (14, false), (15, false), (11, true), (16, false), (17, false)] (by kernel_rfl) (by kernel_rfl) (fun _ _ _ _ _ h => h) (y5) ?_
          simp only [planOps, List.getElem?_toArray, List.getElem?_cons_succ, List.getElem?_cons_zero]
          repeat (first
            | (refine plan_step (by rfl) ?_; apply Exists.intro; refine ⟨fun x hSx => ?_, ?_⟩; ((try dsimp only at hSx); go_simp; (try rw [if_neg (by omega)]); (try with_reducible rfl)); (simp only [Act.put, List.setIfInBounds_toArray, List.set_cons_zero, List.set_cons_succ]))
            | (refine plan_skip (by rfl) ?_; (simp only [Act.put, List.setIfInBounds_toArray, List.set_cons_zero, List.set_cons_succ])))
          refine plan_run (by rfl) (fun K hK => ?_)
          go_simp
          refine (next_t (h.fr hfd) _ n ((c n : Int) + 1) rfl hn1 hn2 (by show (0 : Int) ≤ (c n : Int); omega) (by show (c n : Int) ≤ 1000000; omega) rfl).mono ?_
          rintro e w4 ⟨rfl, rfl⟩
          dsimp only
          refine hK.out (fun u => True) _ _ (y5) (trivial) ?_
          clear hK K
          try simp only [Act.put, List.setIfInBounds_toArray, List.set_cons_zero, List.set_cons_succ]
          repeat (first
            | (refine plan_step (by rfl) ?_; apply Exists.intro; refine ⟨fun x hSx => ?_, ?_⟩; ((try dsimp only at hSx); go_simp; (try rw [if_neg (by omega)]); (try with_reducible rfl)); (simp only [Act.put, List.setIfInBounds_toArray, List.set_cons_zero, List.set_cons_succ]))
            | (refine plan_skip (by rfl) ?_; (simp only [Act.put, List.setIfInBounds_toArray, List.set_cons_zero, List.set_cons_succ])))
          refine plan_run (by rfl) (fun K hK => ?_)
          go_simp
          refine (on_t (h.fr hfd) _ n (decide (0 < c n)) rfl hn1 hn2 rfl).mono ?_
          rintro e w4 ⟨rfl, rfl⟩
          dsimp only
          refine hK.out (fun u => True) _ _ (⟨y5, trivial⟩) (trivial) ?_
          clear hK K
          try simp only [Act.put, List.setIfInBounds_toArray, List.set_cons_zero, List.set_cons_succ]
          repeat (first
            | (refine plan_step (by rfl) ?_; apply Exists.intro; refine ⟨fun x hSx => ?_, ?_⟩; ((try dsimp only at hSx); go_simp; (try rw [if_neg (by omega)]); (try with_reducible rfl)); (simp only [Act.put, List.setIfInBounds_toArray, List.set_cons_zero, List.set_cons_succ]))
            | (refine plan_skip (by rfl) ?_; (simp only [Act.put, List.setIfInBounds_toArray, List.set_cons_zero, List.set_cons_succ])))
          refine plan_done ?_
          go_wp2
          go_roundg (64 - (m + 1))
          case measure => omega
          case rel => exact ⟨m + 1, by omega, by have := HN.out; rw [← this]; go_num, hf.drew⟩
        · have hd2 : decide ((m : Int) + 1 ≤ 64) = false := by simp; omega
          go_wp2
          go_ret
          exact ⟨rfl, h.f⟩
theorem apart_row (w : World) (hL : laidMetH Tryd.prog [("errors.errorType", Rows.laid_errors_errorType)] w) (A : Option Addr) (cap : Nat) (l : List Int) (hC : (Kd.int .u8).C w A l.length l) (_ : l.length ≤ cap) (hw : ∀ x ∈ l, (Lit.int .u8 x).wf = true) : Calls Tryd.prog 6 #[.slice A l.length cap] w fun e w' => e = .returned (.bool true) ∧ Fr no w w' :=
  apart_c w (errType_of_laid hL) A cap l hC (fun x hx => by have := Go.bounds_u8 (hw x hx); omega)
end Go.Proofs.YtdkkdoadafhfmaaDoor.Sess
