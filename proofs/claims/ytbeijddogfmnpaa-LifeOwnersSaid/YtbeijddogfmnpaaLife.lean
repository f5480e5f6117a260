import Derived.Test.YtbeijddogfmnpaaLifeK
/-! Contracts of package life. -/
set_option linter.unusedVariables false
set_option linter.unusedSimpArgs false
namespace Go.Proofs.Ytbeijddogfmnpaa.Life
open Go.RowKit Go.Proofs.YtbeijddogfmnpaaW.PrintWords Go.Proofs.Ytbeijddogfmnpaa.B

theorem infoE : (Try.prog.info? 76).map (fun i => (i.zero, i.size, i.bytes)) = some (some (.agg #[.int .i64 0, .int .i64 0, .int .i64 0, .int .i64 0, .int .i64 0, .int .i64 0, .int .i64 0]), 7, 56) := by kernel_rfl

/-- The ledger at block B. -/
def Led (w : World) (ok : Nat → Prop) (B : Nat) (L : List Entry) : Prop :=
  ∃ v, w.heap[B]? = some (.cells #[v] 101 (0, 0)) ∧ ok B ∧ kEntry.R 76 w 0 (fun k => ok k ∧ k ≠ B) v L
theorem Led.fr {w w1 : World} {ok S : Nat → Prop} {B : Nat} {L : List Entry} (h : Led w ok B L) (hf : Fr S w w1) (hn : ∀ k, ok k → ¬ S k) : Led w1 ok B L := by
  obtain ⟨v, h1, h2, h3⟩ := h
  exact ⟨v, hf.heap h1 (hn B h2), h2, R_fr h3 hf (fun k hk => hn k hk.1)⟩
theorem Led.mono {w : World} {ok ok' : Nat → Prop} {B : Nat} {L : List Entry} (h : Led w ok B L) (hn : ∀ k, ok k → ok' k) : Led w ok' B L := by
  obtain ⟨v, h1, h2, h3⟩ := h
  exact ⟨v, h1, hn B h2, Kd.R_mono h3 (fun k hk => ⟨hn k hk.1, hk.2⟩)⟩
theorem Led.lt {w : World} {ok : Nat → Prop} {B : Nat} {L : List Entry} (h : Led w ok B L) : Led w (fun k => ok k ∧ k < w.heap.size) B L := by
  obtain ⟨v, h1, h2, h3⟩ := h
  exact ⟨v, h1, ⟨h2, blk_lt h1⟩, Kd.R_mono (R_lt' h3) (fun k hk => ⟨⟨hk.1.1, hk.2⟩, hk.1.2⟩)⟩

/-- num.In -/
theorem in_c (n lo hi : Int) (w : World) : Calls Try.prog 51 #[.int .i64 n, .int .i64 lo, .int .i64 hi] w fun e w' => e = .returned (.bool (decide (lo ≤ n) && decide (n ≤ hi))) ∧ w = w' := by
  by_cases h1 : lo ≤ n
  · go_enter Try.func51, Try.ntmps51
    go_wp2
    go_ret
    refine ⟨?_, rfl⟩
    simp [h1]
  · go_enter Try.func51, Try.ntmps51
    go_wp2
    go_ret
    refine ⟨?_, rfl⟩
    simp; omega

theorem new_c (w : World) : Calls Try.prog 34 #[] w fun e w' => e = .returned (.pointer (some ⟨w.heap.size, 0, none⟩)) ∧ Led w' (ext no w) w.heap.size [] ∧ Fr no w w' := by
  go_enter Try.func34, Try.ntmps34
  go_wp2
  go_ret
  refine ⟨rfl, ?_, ?_⟩
  · exact ⟨_, heap_alloc_new w _, .inr (Nat.le_refl _), Kd.R_nil _ _ _ _ _⟩
  · exact (Fr.refl _ _).alloc _

theorem find_yes (B g n cap : Nat) (id : Int) (w : World) (hB : w.cell? ⟨B, 0, none⟩ = some (.slice (some ⟨g, 0, none⟩) n cap)) (h1 : 1 ≤ id) (h2 : id ≤ n) (hn : n ≤ 1000000) :
    Calls Try.prog 53 #[.pointer (some ⟨B, 0, none⟩), .int .i64 id] w fun e w' => e = .returned (.pointer (some ⟨g, (id.toNat - 1) * 7, none⟩)) ∧ w = w' := by
  go_enter Try.func53, Try.ntmps53
  go_wp2_with (go_at_call 51; refine (in_c _ _ _ _).mono ?_; rintro e w' ⟨rfl, rfl⟩)
  go_ret
  exact ⟨rfl, rfl⟩

theorem find_no (B n cap : Nat) (A : Option Addr) (id : Int) (w : World) (hB : w.cell? ⟨B, 0, none⟩ = some (.slice A n cap)) (h1 : id < 1 ∨ n < id) (hn : n ≤ 1000000) :
    Calls Try.prog 53 #[.pointer (some ⟨B, 0, none⟩), .int .i64 id] w fun e w' => e = .returned (.pointer none) ∧ w = w' := by
  have hd : (decide (1 ≤ id) && decide (id ≤ (n : Int))) = false := by simp; omega
  go_enter Try.func53, Try.ntmps53
  go_wp2_with (go_at_call 51; refine (in_c _ _ _ _).mono ?_; rintro e w' ⟨rfl, rfl⟩)
  go_ret
  exact ⟨rfl, rfl⟩

theorem enter_no (B : Nat) (o s sd q : Int) (w : World) (h1 : q < 1 ∨ 1000000 < q) :
    Calls Try.prog 35 #[.pointer (some ⟨B, 0, none⟩), .int .i64 o, .int .i64 s, .int .i64 sd, .int .i64 q] w fun e w' => e = .returned (.tuple #[.int .i64 0, .int .i64 1]) ∧ w = w' := by
  have hd : (decide (1 ≤ q) && decide (q ≤ (1000000 : Int))) = false := by simp; omega
  go_enter Try.func35, Try.ntmps35
  go_wp2_with (go_at_call 51; refine (in_c _ _ _ _).mono ?_; rintro e w' ⟨rfl, rfl⟩)
  go_ret2
  exact ⟨rfl, rfl⟩

theorem enter_yes (B : Nat) (o s sd q : Int) (w : World) (ok : Nat → Prop) (L : List Entry) (h : Led w ok B L) (h1 : 1 ≤ q) (h2 : q ≤ 1000000) (hl : L.length ≤ 1000000) :
    Calls Try.prog 35 #[.pointer (some ⟨B, 0, none⟩), .int .i64 o, .int .i64 s, .int .i64 sd, .int .i64 q] w fun e w' =>
      e = .returned (.tuple #[.int .i64 (L.length + 1), .int .i64 0]) ∧ Led w' (ext ok w) B (L ++ [⟨q, 0, 0, q, o, s, sd⟩]) ∧ Fr ok w w' := by
  obtain ⟨v, hb, hokB, hR⟩ := h
  obtain ⟨A, c, rfl⟩ := Kd.R_slice hR
  have hcB := blk_cell hb 0
  simp at hcB
  go_enter Try.func35, Try.ntmps35
  go_wp2_with (first
    | (go_at_call 51; refine (in_c _ _ _ _).mono ?_; rintro e w' ⟨rfl, rfl⟩)
    | (at_builtin; refine Kd.R_append kEntry (w0 := w) 0 rfl (.tmp 19) (.tmp 26) 69 76 (.agg #[.int .i64 0, .int .i64 0, .int .i64 0, .int .i64 0, .int .i64 0, .int .i64 0, .int .i64 0]) 56 rfl Try.underlying69 infoE rfl (by decide) (by omega) _ L ⟨q, 0, 0, q, o, s, sd⟩ _ (fun k => ext ok w k ∧ k ≠ B) (fun _ => False) rfl rfl (kEntry_mkM _ _ _ _) (fun _ hk => hk.elim) (fun k hk => ⟨.inr hk, fun he => by have := blk_lt hb; omega⟩) (Kd.R_mono hR (fun k hk => ⟨.inl hk.1, hk.2⟩)) (Below.refl _ _) (Nat.zero_le _) (by omega) ?_
       intro v1 w1 ho hb1 hg hat
       clear hat hb1
       obtain ⟨A1, c1, rfl⟩ := Kd.R_slice ho
       have hb2 := blk_grown hb hg (fun he => (hR.1 B he.symm).2 rfl)
       have hcB1 := blk_cell hb2 0
       have hfB1 := blk_frozen hb2 0
       simp at hcB1))
  go_ret2
  refine ⟨by simp, ⟨_, blk_put hb2 0 _ rfl, .inl hokB, ?_⟩, (Fr.of_grown hg (fun k hk _ => (hR.1 k hk).1)).set (fun _ => hokB) _⟩
  have h3 := Kd.R_far (p := ⟨B, 0, none⟩) ho (fun k hk => hk.2) (Value.slice A1 (L.length + 1) c1)
  rw [List.length_append] at h3
  exact h3

theorem ent_cells {w : World} {e base g n cap : Nat} {ok : Nat → Prop} {L : List Entry} (h : kEntry.R e w base ok (.slice (some ⟨g, 0, none⟩) n cap) L) (i : Nat) (hi : i < L.length) :
    w.cell? ⟨g, i * 7, none⟩ = some (.int .i64 L[i].Entered) ∧ w.cell? ⟨g, i * 7 + 1, none⟩ = some (.int .i64 L[i].Filled) ∧ w.cell? ⟨g, i * 7 + 2, none⟩ = some (.int .i64 L[i].Cancelled) ∧ w.cell? ⟨g, i * 7 + 3, none⟩ = some (.int .i64 L[i].Open) ∧
    w.cell? ⟨g, i * 7 + 4, none⟩ = some (.int .i64 L[i].Owner) ∧ w.cell? ⟨g, i * 7 + 5, none⟩ = some (.int .i64 L[i].Series) ∧ w.cell? ⟨g, i * 7 + 6, none⟩ = some (.int .i64 L[i].Side) ∧ ∀ j, w.frozen? ⟨g, i * 7 + j, none⟩ = false := by
  obtain ⟨c, _, hM, hc0, hf⟩ := R_el h i hi
  have hc : ∀ j u, c[j]? = some u → w.cell? ⟨g, i * 7 + j, none⟩ = some u := hc0
  obtain rfl := kEntry_openM hM
  exact ⟨hc 0 _ rfl, hc 1 _ rfl, hc 2 _ rfl, hc 3 _ rfl, hc 4 _ rfl, hc 5 _ rfl, hc 6 _ rfl, hf⟩
/-- Two fields of an entry are written. -/
theorem ent_put {w : World} {e base g n cap : Nat} {ok : Nat → Prop} {L : List Entry} (h : kEntry.R e w base ok (.slice (some ⟨g, 0, none⟩) n cap) L) (i : Nat) (hi : i < L.length) (j : Nat) (hj : j < 7) (u : Int) (x : Entry)
    (hx : [Value.int .i64 x.Entered, .int .i64 x.Filled, .int .i64 x.Cancelled, .int .i64 x.Open, .int .i64 x.Owner, .int .i64 x.Series, .int .i64 x.Side] = [Value.int .i64 L[i].Entered, .int .i64 L[i].Filled, .int .i64 L[i].Cancelled, .int .i64 L[i].Open, .int .i64 L[i].Owner, .int .i64 L[i].Series, .int .i64 L[i].Side].set j (.int .i64 u)) :
    kEntry.R e (w.setCell ⟨g, i * 7 + j, none⟩ (.int .i64 u)) base ok (.slice (some ⟨g, 0, none⟩) n cap) (L.set i x) := by
  obtain ⟨c, hcl, hM, hc0, hf⟩ := R_el h i hi
  obtain rfl := kEntry_openM hM
  exact R_put (okp := fun k => ok k ∧ k ≠ g) h i hi hcl hc0 hj (by rw [← hx]; exact kEntry_mkM _ _ _ _) (fun _ h => h)

theorem open_id (B n cap : Nat) (A : Option Addr) (id q : Int) (w : World) (hB : w.cell? ⟨B, 0, none⟩ = some (.slice A n cap)) (h1 : id < 1 ∨ n < id) (hn : n ≤ 1000000) :
    Calls Try.prog 52 #[.pointer (some ⟨B, 0, none⟩), .int .i64 id, .int .i64 q] w fun e w' => e = .returned (.tuple #[.pointer none, .int .i64 5]) ∧ w = w' := by
  go_enter Try.func52, Try.ntmps52
  go_wp2_with (go_at_call 53; refine (find_no B n cap A id _ hB h1 hn).mono ?_; rintro e w' ⟨rfl, rfl⟩)
  go_ret2
  exact ⟨rfl, rfl⟩
theorem open_qty (B g n cap : Nat) (id q o : Int) (w : World) (hB : w.cell? ⟨B, 0, none⟩ = some (.slice (some ⟨g, 0, none⟩) n cap)) (h1 : 1 ≤ id) (h2 : id ≤ n) (hn : n ≤ 1000000)
    (ho : w.cell? ⟨g, (id.toNat - 1) * 7 + 3, none⟩ = some (.int .i64 o)) (hq : q < 1 ∨ o < q) :
    Calls Try.prog 52 #[.pointer (some ⟨B, 0, none⟩), .int .i64 id, .int .i64 q] w fun e w' => e = .returned (.tuple #[.pointer none, .int .i64 1]) ∧ w = w' := by
  have hd : (decide (1 ≤ q) && decide (q ≤ o)) = false := by simp; omega
  go_enter Try.func52, Try.ntmps52
  go_wp2_with (first
    | (go_at_call 53; refine (find_yes B g n cap id _ hB h1 h2 hn).mono ?_; rintro e w' ⟨rfl, rfl⟩)
    | (go_at_call 51; refine (in_c _ _ _ _).mono ?_; rintro e w' ⟨rfl, rfl⟩))
  go_ret2
  exact ⟨rfl, rfl⟩
theorem open_yes (B g n cap : Nat) (id q o : Int) (w : World) (hB : w.cell? ⟨B, 0, none⟩ = some (.slice (some ⟨g, 0, none⟩) n cap)) (h1 : 1 ≤ id) (h2 : id ≤ n) (hn : n ≤ 1000000)
    (ho : w.cell? ⟨g, (id.toNat - 1) * 7 + 3, none⟩ = some (.int .i64 o)) (hq1 : 1 ≤ q) (hq2 : q ≤ o) :
    Calls Try.prog 52 #[.pointer (some ⟨B, 0, none⟩), .int .i64 id, .int .i64 q] w fun e w' => e = .returned (.tuple #[.pointer (some ⟨g, (id.toNat - 1) * 7, none⟩), .int .i64 0]) ∧ w = w' := by
  go_enter Try.func52, Try.ntmps52
  go_wp2_with (first
    | (go_at_call 53; refine (find_yes B g n cap id _ hB h1 h2 hn).mono ?_; rintro e w' ⟨rfl, rfl⟩)
    | (go_at_call 51; refine (in_c _ _ _ _).mono ?_; rintro e w' ⟨rfl, rfl⟩))
  go_ret2
  exact ⟨rfl, rfl⟩

theorem fill_id (B : Nat) (id q : Int) (w : World) (ok : Nat → Prop) (L : List Entry) (h : Led w ok B L) (h1 : id < 1 ∨ L.length < id) (hn : L.length ≤ 1000000) :
    Calls Try.prog 36 #[.pointer (some ⟨B, 0, none⟩), .int .i64 id, .int .i64 q] w fun e w' => e = .returned (.int .i64 5) ∧ w = w' := by
  obtain ⟨v, hb, hokB, hR⟩ := h
  obtain ⟨A, c, rfl⟩ := Kd.R_slice hR
  have hcB := blk_cell hb 0
  simp at hcB
  go_enter Try.func36, Try.ntmps36
  go_wp2_with (go_at_call 52; refine (open_id B _ c A id q _ hcB h1 hn).mono ?_; rintro e w' ⟨rfl, rfl⟩)
  go_ret
  exact ⟨rfl, rfl⟩
theorem fill_qty (B : Nat) (id q : Int) (w : World) (ok : Nat → Prop) (L : List Entry) (h : Led w ok B L) (i : Nat) (hi : i < L.length) (hid : id = i + 1) (hn : L.length ≤ 1000000) (hq : q < 1 ∨ L[i].Open < q) :
    Calls Try.prog 36 #[.pointer (some ⟨B, 0, none⟩), .int .i64 id, .int .i64 q] w fun e w' => e = .returned (.int .i64 1) ∧ w = w' := by
  obtain ⟨v, hb, hokB, hR⟩ := h
  obtain ⟨g, cap, rfl, _, hgl, _⟩ := Kd.R_form hR (by omega)
  have hcB := blk_cell hb 0
  simp at hcB
  obtain ⟨_, _, _, c3, _⟩ := ent_cells hR i hi
  obtain rfl : i = id.toNat - 1 := by omega
  have h1 : 1 ≤ id := by omega
  have h2 : id ≤ L.length := by omega
  clear hid
  go_enter Try.func36, Try.ntmps36
  go_wp2_with (go_at_call 52; refine (open_qty B g _ cap id q _ _ hcB h1 h2 hn c3 hq).mono ?_; rintro e w' ⟨rfl, rfl⟩)
  go_ret
  exact ⟨rfl, rfl⟩
theorem fill_yes (B : Nat) (id q : Int) (w : World) (ok : Nat → Prop) (L : List Entry) (h : Led w ok B L) (i : Nat) (hi : i < L.length) (hid : id = i + 1) (hn : L.length ≤ 1000000) (x : Entry) (hx : L[i] = x) (hq1 : 1 ≤ q) (hq2 : q ≤ x.Open) (hb1 : x.Open ≤ 1000000) (hb2 : 0 ≤ x.Filled) (hb3 : x.Filled ≤ 1000000) :
    Calls Try.prog 36 #[.pointer (some ⟨B, 0, none⟩), .int .i64 id, .int .i64 q] w fun e w' => e = .returned (.int .i64 0) ∧ Led w' ok B (L.set i { x with Open := x.Open - q, Filled := x.Filled + q }) ∧ Fr ok w w' := by
  obtain ⟨v, hb, hokB, hR⟩ := h
  obtain ⟨g, cap, rfl, _, hgl, _⟩ := Kd.R_form hR (by omega)
  have hcB := blk_cell hb 0
  simp at hcB
  have hgok := hR.1 g rfl
  obtain ⟨_, c1, c2, c3, _, _, _, hf⟩ := ent_cells hR i hi
  have f3 := hf 3
  have f1 := hf 1
  clear hf
  rw [hx] at c1 c2 c3
  have HX := Lib.hid hx
  clear hx
  obtain rfl : i = id.toNat - 1 := by omega
  have h1 : 1 ≤ id := by omega
  have h2 : id ≤ L.length := by omega
  have hi' := hi
  clear hid
  go_enter Try.func36, Try.ntmps36
  go_wp2_with (go_at_call 52; refine (open_yes B g _ cap id q _ _ hcB h1 h2 hn c3 hq1 hq2).mono ?_; rintro e w' ⟨rfl, rfl⟩)
  go_ret
  have hR1 := ent_put hR (id.toNat - 1) hi 3 (by omega) (x.Open - q) { x with Open := x.Open - q } (by rw [HX.out]; rfl)
  have hR2 := ent_put hR1 (id.toNat - 1) (by rw [List.length_set]; exact hi) 1 (by omega) (x.Filled + q) { x with Open := x.Open - q, Filled := x.Filled + q } (by rw [List.getElem_set_self]; rfl)
  rw [List.set_set] at hR2
  refine ⟨rfl, ⟨_, blk_far (blk_far hb (fun e => hgok.2 e.symm) _) (fun e => hgok.2 e.symm) _, hokB, hR2⟩, ((Fr.refl _ _).set (fun _ => hgok.1) _).set (fun _ => hgok.1) _⟩

theorem cancel_id (B : Nat) (id q : Int) (w : World) (ok : Nat → Prop) (L : List Entry) (h : Led w ok B L) (h1 : id < 1 ∨ L.length < id) (hn : L.length ≤ 1000000) :
    Calls Try.prog 37 #[.pointer (some ⟨B, 0, none⟩), .int .i64 id, .int .i64 q] w fun e w' => e = .returned (.int .i64 5) ∧ w = w' := by
  obtain ⟨v, hb, hokB, hR⟩ := h
  obtain ⟨A, c, rfl⟩ := Kd.R_slice hR
  have hcB := blk_cell hb 0
  simp at hcB
  go_enter Try.func37, Try.ntmps37
  go_wp2_with (go_at_call 52; refine (open_id B _ c A id q _ hcB h1 hn).mono ?_; rintro e w' ⟨rfl, rfl⟩)
  go_ret
  exact ⟨rfl, rfl⟩
theorem cancel_qty (B : Nat) (id q : Int) (w : World) (ok : Nat → Prop) (L : List Entry) (h : Led w ok B L) (i : Nat) (hi : i < L.length) (hid : id = i + 1) (hn : L.length ≤ 1000000) (hq : q < 1 ∨ L[i].Open < q) :
    Calls Try.prog 37 #[.pointer (some ⟨B, 0, none⟩), .int .i64 id, .int .i64 q] w fun e w' => e = .returned (.int .i64 1) ∧ w = w' := by
  obtain ⟨v, hb, hokB, hR⟩ := h
  obtain ⟨g, cap, rfl, _, hgl, _⟩ := Kd.R_form hR (by omega)
  have hcB := blk_cell hb 0
  simp at hcB
  obtain ⟨_, _, _, c3, _⟩ := ent_cells hR i hi
  obtain rfl : i = id.toNat - 1 := by omega
  have h1 : 1 ≤ id := by omega
  have h2 : id ≤ L.length := by omega
  clear hid
  go_enter Try.func37, Try.ntmps37
  go_wp2_with (go_at_call 52; refine (open_qty B g _ cap id q _ _ hcB h1 h2 hn c3 hq).mono ?_; rintro e w' ⟨rfl, rfl⟩)
  go_ret
  exact ⟨rfl, rfl⟩
theorem cancel_yes (B : Nat) (id q : Int) (w : World) (ok : Nat → Prop) (L : List Entry) (h : Led w ok B L) (i : Nat) (hi : i < L.length) (hid : id = i + 1) (hn : L.length ≤ 1000000) (x : Entry) (hx : L[i] = x) (hq1 : 1 ≤ q) (hq2 : q ≤ x.Open) (hb1 : x.Open ≤ 1000000) (hb2 : 0 ≤ x.Cancelled) (hb3 : x.Cancelled ≤ 1000000) :
    Calls Try.prog 37 #[.pointer (some ⟨B, 0, none⟩), .int .i64 id, .int .i64 q] w fun e w' => e = .returned (.int .i64 0) ∧ Led w' ok B (L.set i { x with Open := x.Open - q, Cancelled := x.Cancelled + q }) ∧ Fr ok w w' := by
  obtain ⟨v, hb, hokB, hR⟩ := h
  obtain ⟨g, cap, rfl, _, hgl, _⟩ := Kd.R_form hR (by omega)
  have hcB := blk_cell hb 0
  simp at hcB
  have hgok := hR.1 g rfl
  obtain ⟨_, c1, c2, c3, _, _, _, hf⟩ := ent_cells hR i hi
  have f3 := hf 3
  have f2 := hf 2
  clear hf
  rw [hx] at c1 c2 c3
  have HX := Lib.hid hx
  clear hx
  obtain rfl : i = id.toNat - 1 := by omega
  have h1 : 1 ≤ id := by omega
  have h2 : id ≤ L.length := by omega
  have hi' := hi
  clear hid
  go_enter Try.func37, Try.ntmps37
  go_wp2_with (go_at_call 52; refine (open_yes B g _ cap id q _ _ hcB h1 h2 hn c3 hq1 hq2).mono ?_; rintro e w' ⟨rfl, rfl⟩)
  go_ret
  have hR1 := ent_put hR (id.toNat - 1) hi 3 (by omega) (x.Open - q) { x with Open := x.Open - q } (by rw [HX.out]; rfl)
  have hR2 := ent_put hR1 (id.toNat - 1) (by rw [List.length_set]; exact hi) 2 (by omega) (x.Cancelled + q) { x with Open := x.Open - q, Cancelled := x.Cancelled + q } (by rw [List.getElem_set_self]; rfl)
  rw [List.set_set] at hR2
  refine ⟨rfl, ⟨_, blk_far (blk_far hb (fun e => hgok.2 e.symm) _) (fun e => hgok.2 e.symm) _, hokB, hR2⟩, ((Fr.refl _ _).set (fun _ => hgok.1) _).set (fun _ => hgok.1) _⟩
end Go.Proofs.Ytbeijddogfmnpaa.Life
