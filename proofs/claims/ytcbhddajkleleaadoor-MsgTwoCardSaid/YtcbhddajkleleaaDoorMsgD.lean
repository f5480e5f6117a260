import Derived.Test.YtcbhddajkleleaaDoorMsgE
/-! What msg.Decode reads: the state of its walk. -/
set_option linter.unusedVariables false
set_option linter.unusedSimpArgs false
namespace Go.Proofs.YtcbhddajkleleaaDoor.Msg
open Go.RowKit Go.Proofs.YtcbhddajkleleaaDoorW.PrintWords Go.Proofs.YtcbhddajkleleaaDoor.B Go.Proofs.YtcbhddajkleleaaDoor.Codec

theorem infoR : (Tryd.prog.info? 42).map (fun i => (i.zero, i.size, i.bytes)) = some (some (.agg #[.int .i64 0, .int .i64 0, .int .i64 0, .int .i64 0, .int .i64 0]), 5, 40) := by kernel_rfl
/-- The number i as it is read. -/
def gv (ns : List Int) (j i : Nat) : Int := if i < j then ns.getD i 0 else 0
theorem gv_yes {ns : List Int} {j i : Nat} (h : i < j) (hl : i < ns.length) : gv ns j i = ns[i] := by unfold gv; rw [if_pos h]; simp [hl]
theorem gv_no {ns : List Int} {j i : Nat} (h : j ≤ i) : gv ns j i = 0 := by unfold gv; rw [if_neg (by omega)]
/-- What is read when i numbers have been asked for. -/
def RdD (w : World) (ok : Nat → Prop) (B : Nat) (ns : List Int) (j : Nat) (bs : List Int) (i : Nat) : Prop :=
  (i ≤ j → Decs w ok B bs (posF ns i) none) ∧ (j < i → ∃ (a : Int) (x : Int × Int), 0 ≤ a ∧ a ≤ bs.length ∧ Decs w ok B bs a (some x))
theorem RdD.own {w : World} {ok : Nat → Prop} {B : Nat} {ns : List Int} {j : Nat} {bs : List Int} {i : Nat} (h : RdD w ok B ns j bs i) : ok B ∧ B < w.heap.size := by
  rcases Nat.lt_or_ge j i with hi | hi
  · obtain ⟨a, x, _, _, v, ev, h1, h2, _⟩ := h.2 hi
    exact ⟨h2, blk_lt h1⟩
  · obtain ⟨v, ev, h1, h2, _⟩ := h.1 hi
    exact ⟨h2, blk_lt h1⟩
theorem RdD.fr {w w1 : World} {ok S : Nat → Prop} {B : Nat} {ns : List Int} {j : Nat} {bs : List Int} {i : Nat} (h : RdD w ok B ns j bs i) (hf : Fr S w w1) (hn : ∀ k, ok k → ¬ S k) : RdD w1 ok B ns j bs i :=
  ⟨fun hi => (h.1 hi).fr hf hn, fun hi => by
    obtain ⟨a, x, a0, a1, hd⟩ := h.2 hi
    exact ⟨a, x, a0, a1, hd.fr hf hn⟩⟩
theorem RdD.lt {w : World} {ok : Nat → Prop} {B : Nat} {ns : List Int} {j : Nat} {bs : List Int} {i : Nat} (h : RdD w ok B ns j bs i) : RdD w (fun k => ok k ∧ k < w.heap.size) B ns j bs i :=
  ⟨fun hi => (h.1 hi).lt, fun hi => by
    obtain ⟨a, x, a0, a1, hd⟩ := h.2 hi
    exact ⟨a, x, a0, a1, hd.lt⟩⟩
theorem int_d {w : World} {ok : Nat → Prop} {B : Nat} {ns : List Int} {j : Nat} {bs : List Int} {i : Nat} (h : RdD w ok B ns j bs i) (hh : Held ns j bs) (hi : i < ns.length) (hl : bs.length ≤ 1000000000) :
    Calls Tryd.prog 28 #[.pointer (some ⟨B, 0, none⟩)] w fun e w' => e = .returned (.int .i64 (gv ns j i)) ∧ RdD w' (ext ok w) B ns j bs (i + 1) ∧ Fr (one B) w w' := by
  rcases Nat.lt_trichotomy i j with hij | hij | hij
  · have hp := hh.pos (Nat.le_of_lt hij)
    refine (dInt_yes B bs _ w ok (h.1 (Nat.le_of_lt hij)) hp.1 hp.2 hl hh.bytes).mono ?_
    rw [hh.yes hij]
    rintro e w' ⟨rfl, hd, hF⟩
    exact ⟨by rw [gv_yes hij hi], ⟨fun _ => hd, fun h => by omega⟩, hF⟩
  · subst hij
    have hp := hh.pos (Nat.le_refl i)
    obtain ⟨x, hx⟩ := hh.no hi
    refine (dInt_yes B bs _ w ok (h.1 (Nat.le_refl _)) hp.1 hp.2 hl hh.bytes).mono ?_
    rw [hx]
    rintro e w' ⟨rfl, hd, hF⟩
    exact ⟨by rw [gv_no (Nat.le_refl _)], ⟨fun h => by omega, fun _ => ⟨_, x, hp.1, hp.2, hd⟩⟩, hF⟩
  · obtain ⟨a, x, a0, a1, hd⟩ := h.2 hij
    refine (dInt_no B bs a x w ok hd).mono ?_
    rintro e w' ⟨rfl, rfl⟩
    exact ⟨by rw [gv_no (by omega)], ⟨fun h => by omega, fun _ => ⟨a, x, a0, a1, hd.mono (fun k h => .inl h)⟩⟩, Fr.refl _ _⟩

/-- The message that is read, in block M: its cells, its rows; what is read; a block apart. -/
structure DS (w0 w : World) (B M : Nat) (ns : List Int) (j : Nat) (bs : List Int) (i : Nat) (av : Nat → Prop) (cs : List Value) (v : Value) (L : List Row) (okD okL : Nat → Prop) : Prop where
  d1 : ∀ k, okD k → since w0 k ∧ k ≠ M ∧ ¬ av k
  d2 : ∀ k, okL k → since w0 k ∧ k ≠ M ∧ ¬ av k ∧ ¬ okD k
  m1 : w0.heap.size ≤ M ∧ ¬ av M
  rd : RdD w okD B ns j bs i
  blk : w.heap[M]? = some (.cells (cs ++ [v]).toArray 29 (0, 0))
  row : kRow.R 42 w 0 okL v L
  fr : Fr no w0 w
  av1 : ∀ k, av k → k < w.heap.size
section
variable {w0 w w1 : World} {B M : Nat} {ns : List Int} {j : Nat} {bs : List Int} {i : Nat} {av : Nat → Prop} {cs : List Value} {v : Value} {L : List Row} {okD okL : Nat → Prop}
theorem DS.go (h : DS w0 w B M ns j bs i av cs v L okD okL) (hf : Fr no w w1) : DS w0 w1 B M ns j bs i av cs v L okD okL :=
  ⟨h.d1, h.d2, h.m1, h.rd.fr hf (fun _ _ h => h), hf.heap h.blk (fun h => h), R_fr h.row hf (fun _ _ h => h), h.fr.trans' hf, fun k hk => Nat.lt_of_lt_of_le (h.av1 k hk) hf.size⟩
theorem DS.int (h : DS w0 w B M ns j bs i av cs v L okD okL) (hh : Held ns j bs) (hi : i < ns.length) (hl : bs.length ≤ 1000000000) :
    Calls Tryd.prog 28 #[.pointer (some ⟨B, 0, none⟩)] w fun e w' => e = .returned (.int .i64 (gv ns j i)) ∧ DS w0 w' B M ns j bs (i + 1) av cs v L (ext okD w) (fun k => okL k ∧ k < w.heap.size) ∧ Fr (one B) w w' := by
  refine (int_d h.rd hh hi hl).mono ?_
  rintro e w' ⟨rfl, hd, hF⟩
  obtain ⟨hB, hBl⟩ := h.rd.own
  have hM := blk_lt h.blk
  have hBM := (h.d1 B hB).2.1
  refine ⟨rfl, ⟨fun k hk => ?_, fun k hk => ?_, h.m1, hd, hF.heap h.blk (fun he => hBM he.symm), R_fr (R_lt' h.row) hF (fun k hk he => (h.d2 k hk.1).2.2.2 (by have : k = B := he; rw [this]; exact hB)), h.fr.new hF (fun k hk => by have : k = B := hk; rw [this]; exact (h.d1 B hB).1), fun k hk => Nat.lt_of_lt_of_le (h.av1 k hk) hF.size⟩, hF⟩
  · rcases hk with hk | hk
    · exact h.d1 k hk
    · refine ⟨Nat.le_trans h.fr.size hk, by omega, fun ha => ?_⟩
      have := h.av1 k ha
      omega
  · obtain ⟨a, b, c, d⟩ := h.d2 k hk.1
    refine ⟨a, b, c, fun he => ?_⟩
    rcases he with he | he
    · exact d he
    · have := hk.2
      omega
/-- A cell of the message is written. -/
theorem DS.set (h : DS w0 w B M ns j bs i av cs v L okD okL) (p : Nat) (hp : p < cs.length) (u : Value) : DS w0 (w.setCell ⟨M, p, none⟩ u) B M ns j bs i av (cs.set p u) v L okD okL := by
  have hF : Fr (one M) w (w.setCell ⟨M, p, none⟩ u) := (Fr.refl (one M) w).set (p := ⟨M, p, none⟩) (fun _ => rfl) _
  refine ⟨h.d1, h.d2, h.m1, h.rd.fr hF (fun k hk he => (h.d1 k hk).2.1 he), ?_, R_fr h.row hF (fun k hk he => (h.d2 k hk).2.1 he), h.fr.new hF (fun k hk => by have : k = M := hk; rw [this]; exact h.m1.1), fun k hk => Nat.lt_of_lt_of_le (h.av1 k hk) hF.size⟩
  have := blk_put h.blk p u rfl
  rw [List.setIfInBounds_toArray, List.set_append_left _ _ hp] at this
  exact this
/-- The rows are others. -/
theorem DS.rows (h : DS w0 w B M ns j bs i av cs v L okD okL) (hF : Fr okL w w1) {v' : Value} {L' : List Row} (hR : kRow.R 42 w1 0 (ext okL w) v' L') :
    DS w0 (w1.setCell ⟨M, cs.length, none⟩ v') B M ns j bs i av cs v' L' (fun k => okD k ∧ k < w.heap.size) (ext okL w) := by
  have hMl := blk_lt h.blk
  have hb := hF.heap h.blk (fun he => (h.d2 M he).2.1 rfl)
  have hF2 : Fr (one M) w1 (w1.setCell ⟨M, cs.length, none⟩ v') := (Fr.refl (one M) w1).set (p := ⟨M, cs.length, none⟩) (fun _ => rfl) _
  have hf1 := h.fr.new hF (fun k hk => (h.d2 k hk).1)
  refine ⟨fun k hk => h.d1 k hk.1, fun k hk => ?_, h.m1, (h.rd.lt.fr hF (fun k hk he => (h.d2 k he).2.2.2 hk.1)).fr hF2 (fun k hk he => (h.d1 k hk.1).2.1 he), ?_, R_fr hR hF2 (fun k hk he => ?_), hf1.new hF2 (fun k hk => by have : k = M := hk; rw [this]; exact h.m1.1), fun k hk => Nat.lt_of_lt_of_le (h.av1 k hk) (Nat.le_trans hF.size hF2.size)⟩
  · rcases hk with hk | hk
    · obtain ⟨a, b, c, d⟩ := h.d2 k hk
      exact ⟨a, b, c, fun he => d he.1⟩
    · refine ⟨Nat.le_trans h.fr.size hk, by omega, fun ha => ?_, fun he => ?_⟩
      · have := h.av1 k ha; omega
      · have := he.2; omega
  · have := blk_put hb cs.length v' rfl
    rw [List.setIfInBounds_toArray, List.set_append_right _ _ (Nat.le_refl _), Nat.sub_self, List.set_cons_zero] at this
    exact this
  · have he' : k = M := he
    subst he'
    rcases hk with hk | hk
    · exact (h.d2 k hk).2.1 rfl
    · omega
/-- A block is made. -/
theorem DS.new (h : DS w0 w B M ns j bs i no cs v L okD okL) (o : Obj) : DS w0 (w.alloc o) B M ns j bs i (fun k => k = w.heap.size) cs v L (fun k => okD k ∧ k < w.heap.size) (fun k => okL k ∧ k < w.heap.size) := by
  have hMl := blk_lt h.blk
  have hf := (Fr.refl no w).alloc o
  refine ⟨fun k hk => ⟨(h.d1 k hk.1).1, (h.d1 k hk.1).2.1, fun he => by have := hk.2; omega⟩, fun k hk => ⟨(h.d2 k hk.1).1, (h.d2 k hk.1).2.1, fun he => by have := hk.2; omega, fun he => (h.d2 k hk.1).2.2.2 he.1⟩, ⟨h.m1.1, by omega⟩, h.rd.lt.fr hf (fun _ _ h => h), hf.heap h.blk (fun h => h), R_fr (R_lt' h.row) hf (fun _ _ h => h), h.fr.trans' hf, fun k hk => ?_⟩
  rw [World.size_alloc]
  omega
/-- The block apart is written. -/
theorem DS.far {R : Nat} (h : DS w0 w B M ns j bs i (fun k => k = R) cs v L okD okL) (hR : w0.heap.size ≤ R) (p : Nat) (u : Value) : DS w0 (w.setCell ⟨R, p, none⟩ u) B M ns j bs i (fun k => k = R) cs v L okD okL := by
  have hF : Fr (one R) w (w.setCell ⟨R, p, none⟩ u) := (Fr.refl (one R) w).set (p := ⟨R, p, none⟩) (fun _ => rfl) _
  exact ⟨h.d1, h.d2, h.m1, h.rd.fr hF (fun k hk he => (h.d1 k hk).2.2 he), hF.heap h.blk (fun he => h.m1.2 he), R_fr h.row hF (fun k hk he => (h.d2 k hk).2.2.1 he), h.fr.new hF (fun k hk => by have : k = R := hk; rw [this]; exact hR), fun k hk => Nat.lt_of_lt_of_le (h.av1 k hk) hF.size⟩
/-- It is given up. -/
theorem DS.drop (h : DS w0 w B M ns j bs i av cs v L okD okL) : DS w0 w B M ns j bs i no cs v L okD okL :=
  ⟨fun k hk => ⟨(h.d1 k hk).1, (h.d1 k hk).2.1, fun h => h⟩, fun k hk => ⟨(h.d2 k hk).1, (h.d2 k hk).2.1, fun h => h, (h.d2 k hk).2.2.2⟩, ⟨h.m1.1, fun h => h⟩, h.rd, h.blk, h.row, h.fr, fun k hk => hk.elim⟩
end
theorem clip_r (A : Option Addr) (n c : Nat) (hc : n ≤ c) (hm : c ≤ 9223372036854775807) (w : World) :
    Calls Tryd.prog 31 #[.slice A n c] w fun e w' => e = .returned (.slice A n n) ∧ w = w' := by
  go_enter Tryd.func31, Tryd.ntmps31
  go_wp2
  go_ret
  exact ⟨rfl, rfl⟩
/-- The rows as they are read. -/
def rowsG (ns : List Int) (j k : Nat) : List Row := (List.range k).map fun q => ⟨gv ns j (9 + 5 * q), gv ns j (9 + 5 * q + 1), gv ns j (9 + 5 * q + 2), gv ns j (9 + 5 * q + 3), gv ns j (9 + 5 * q + 4)⟩
theorem rowsG_succ (ns : List Int) (j k : Nat) : rowsG ns j (k + 1) = rowsG ns j k ++ [⟨gv ns j (9 + 5 * k), gv ns j (9 + 5 * k + 1), gv ns j (9 + 5 * k + 2), gv ns j (9 + 5 * k + 3), gv ns j (9 + 5 * k + 4)⟩] := by
  simp [rowsG, List.range_succ]
theorem rowsG_len (ns : List Int) (j k : Nat) : (rowsG ns j k).length = k := by simp [rowsG]
theorem rows_drop : ∀ (l : List Row) (q : Nat) (h : q < l.length), (l.flatMap rowL).drop (5 * q) = rowL l[q] ++ (l.drop (q + 1)).flatMap rowL
  | [], q, h => by simp at h
  | r :: l, 0, h => by simp
  | r :: l, q + 1, h => by
    have ih := rows_drop l q (by simpa using h)
    rw [List.flatMap_cons, show 5 * (q + 1) = (rowL r).length + 5 * q by simp [rowL]; omega, List.drop_length_add_append, ih]
    simp
theorem nums_at (m : Msg) (q i : Nat) (hq : q < m.L.length) (hi : i < 5) : (numsL m).getD (9 + 5 * q + i) 0 = (rowL m.L[q]).getD i 0 := by
  have h1 : (numsL m).drop (9 + 5 * q) = rowL m.L[q] ++ (m.L.drop (q + 1)).flatMap rowL := by
    unfold numsL
    rw [show 9 + 5 * q = (headL m).length + 5 * q by rfl, List.drop_length_add_append, rows_drop _ _ hq]
  have h2 : (numsL m).getD (9 + 5 * q + i) 0 = ((numsL m).drop (9 + 5 * q)).getD i 0 := by
    simp [List.getD_eq_getElem?_getD, List.getElem?_drop]
  rw [h2, h1]
  simp only [List.getD_eq_getElem?_getD]
  rw [List.getElem?_append_left (by rw [row_len]; exact hi)]
theorem rowsG_all (m : Msg) : rowsG (numsL m) (numsL m).length m.L.length = m.L := by
  refine List.ext_getElem (rowsG_len _ _ _) (fun q h1 h2 => ?_)
  have hn := nums_len m
  have key : ∀ i, i < 5 → gv (numsL m) (numsL m).length (9 + 5 * q + i) = (rowL m.L[q]).getD i 0 := fun i hi => by
    unfold gv
    rw [if_pos (by omega)]
    exact nums_at m q i h2 hi
  have k0 := key 0 (by omega)
  have k1 := key 1 (by omega)
  have k2 := key 2 (by omega)
  have k3 := key 3 (by omega)
  have k4 := key 4 (by omega)
  simp only [Nat.add_zero] at k0
  simp only [rowsG, List.getElem_map, List.getElem_range]
  rw [k0, k1, k2, k3, k4]
  rfl
theorem gv_head (m : Msg) (j : Nat) (hj : 9 ≤ j) (i : Nat) (hi : i < 9) : gv (numsL m) j i = (headL m).getD i 0 := by
  unfold gv
  rw [if_pos (by omega)]
  unfold numsL
  simp only [List.getD_eq_getElem?_getD]
  rw [List.getElem?_append_left (by show i < 9; exact hi)]
end Go.Proofs.YtcbhddajkleleaaDoor.Msg
