import Derived.Test.YtbeijddogfmnpaaLife
/-! Contracts of package life, those that read the ledger. -/
set_option linter.unusedVariables false
set_option linter.unusedSimpArgs false
namespace Go.Proofs.Ytbeijddogfmnpaa.Life
open Go.RowKit Go.Proofs.YtbeijddogfmnpaaW.PrintWords Go.Proofs.Ytbeijddogfmnpaa.B

theorem info64 : (Try.prog.info? 2).map (fun i => (i.zero, i.size, i.bytes)) = some (some (.int .i64 0), 1, 8) := by kernel_rfl

theorem len_c (B : Nat) (w : World) (ok : Nat → Prop) (L : List Entry) (h : Led w ok B L) :
    Calls Try.prog 41 #[.pointer (some ⟨B, 0, none⟩)] w fun e w' => e = .returned (.int .i64 L.length) ∧ w = w' := by
  obtain ⟨v, hb, hokB, hR⟩ := h
  obtain ⟨A, c, rfl⟩ := Kd.R_slice hR
  have hcB := blk_cell hb 0
  simp at hcB
  go_enter Try.func41, Try.ntmps41
  go_wp2
  go_ret
  exact ⟨rfl, rfl⟩

def Entry.val (x : Entry) : Value := .agg #[.int .i64 x.Entered, .int .i64 x.Filled, .int .i64 x.Cancelled, .int .i64 x.Open, .int .i64 x.Owner, .int .i64 x.Series, .int .i64 x.Side]
theorem get_no (B : Nat) (id : Int) (w : World) (ok : Nat → Prop) (L : List Entry) (h : Led w ok B L) (h1 : id < 1 ∨ L.length < id) (hn : L.length ≤ 1000000) :
    Calls Try.prog 38 #[.pointer (some ⟨B, 0, none⟩), .int .i64 id] w fun e w' => e = .returned (.tuple #[zEntry.val, .bool false]) ∧ Fr no w w' := by
  obtain ⟨v, hb, hokB, hR⟩ := h
  obtain ⟨A, c, rfl⟩ := Kd.R_slice hR
  have hcB := blk_cell hb 0
  simp at hcB
  have hcB2 := fun o => (World.cell?_alloc_lt w o ⟨B, 0, none⟩ (blk_lt hb)).trans hcB
  go_enter Try.func38, Try.ntmps38
  go_wp2_with (go_at_call 53; refine (find_no B _ c A id _ (hcB2 _) h1 hn).mono ?_; rintro e w' ⟨rfl, rfl⟩)
  exact bodyPost_ret (v := .tuple #[zEntry.val, .bool false]) (by simp [results, Try.results38, go_sem, Entry.val, zEntry]) rfl ⟨rfl, (Fr.refl _ _).alloc _⟩
theorem get_yes (B : Nat) (id : Int) (w : World) (ok : Nat → Prop) (L : List Entry) (h : Led w ok B L) (i : Nat) (hi : i < L.length) (hid : id = i + 1) (hn : L.length ≤ 1000000) (x : Entry) (hx : L[i] = x) :
    Calls Try.prog 38 #[.pointer (some ⟨B, 0, none⟩), .int .i64 id] w fun e w' => e = .returned (.tuple #[x.val, .bool true]) ∧ Fr no w w' := by
  obtain ⟨v, hb, hokB, hR⟩ := h
  obtain ⟨g, cap, rfl, _, hgl, _⟩ := Kd.R_form hR (by omega)
  have hcB := blk_cell hb 0
  simp at hcB
  have hcB2 := fun o => (World.cell?_alloc_lt w o ⟨B, 0, none⟩ (blk_lt hb)).trans hcB
  obtain ⟨c0, c1, c2, c3, c4, c5, c6, _⟩ := ent_cells hR i hi
  rw [hx] at c0 c1 c2 c3 c4 c5 c6
  have HX := Lib.hid hx
  clear hx
  obtain rfl : i = id.toNat - 1 := by omega
  have h1 : 1 ≤ id := by omega
  have h2 : id ≤ L.length := by omega
  clear hid
  go_enter Try.func38, Try.ntmps38
  go_wp2_with (go_at_call 53; refine (find_yes B g _ cap id _ (hcB2 _) h1 h2 hn).mono ?_; rintro e w' ⟨rfl, rfl⟩)
  exact bodyPost_ret (v := .tuple #[x.val, .bool true]) (by simp [results, Try.results38, go_sem, Entry.val]) rfl ⟨rfl, (Fr.refl _ _).alloc _⟩

/-- What was filled of a side of a series. -/
def sumF (s sd : Int) : List Entry → Int
  | [] => 0
  | x :: r => (if x.Series = s ∧ x.Side = sd then x.Filled else 0) + sumF s sd r
theorem sum_c (B : Nat) (s sd : Int) (w : World) (ok : Nat → Prop) (L : List Entry) (h : Led w ok B L) (hn : L.length ≤ 1000000) (hb1 : ∀ x ∈ L, 0 ≤ x.Filled ∧ x.Filled ≤ 1000000) :
    Calls Try.prog 40 #[.pointer (some ⟨B, 0, none⟩), .int .i64 s, .int .i64 sd] w fun e w' => e = .returned (.int .i64 (sumF s sd L)) ∧ Fr no w w' := by
  obtain ⟨v, hb, hokB, hR⟩ := h
  obtain ⟨A, cap, rfl⟩ := Kd.R_slice hR
  have hcB := blk_cell hb 0
  simp at hcB
  have HB := Lib.hid hb1
  clear hb1
  go_enter Try.func40, Try.ntmps40
  go_wp2
  go_loopw [7, 15] (fun acc i wr => ∃ (k : Nat) (a : Int), k ≤ L.length ∧ i = .int .i64 k ∧ acc = .int .i64 a ∧ 0 ≤ a ∧ a ≤ k * 1000000 ∧ Hid (a + sumF s sd (L.drop k) = sumF s sd L) ∧ Fr no w wr) (fun _ i _ => L.length - (intOf i).toNat)
  case atStart => exact ⟨0, 0, by omega, rfl, rfl, by omega, by omega, by simp [Hid], Fr.refl _ _⟩
  case round =>
    obtain ⟨k, a, hk, rfl, rfl, ha0, ha1, hs, hf⟩ := hrel
    by_cases hlt : k < L.length
    · obtain ⟨g, cap, hv, _, hgl, _⟩ := Kd.R_form hR (by omega)
      injection hv with hA _ hcc
      subst hA; subst hcc
      have hRk := R_fr hR hf (fun _ _ h => h)
      obtain ⟨c0, c1, c2, c3, c4, c5, c6, _⟩ := ent_cells hRk k hlt
      clear hRk
      have hx := HB.out L[k] (List.getElem_mem hlt)
      have hs2 : Hid (a + ((if L[k].Series = s ∧ L[k].Side = sd then L[k].Filled else 0) + sumF s sd (L.drop (k + 1))) = sumF s sd L) := by
        have := hs.out
        rw [List.drop_eq_getElem_cons hlt] at this
        exact this
      clear hs
      generalize L[k] = x at *
      by_cases h5 : x.Series = s
      · by_cases h6 : x.Side = sd
        · subst h5; subst h6
          go_wp2
          go_roundw
          case rel => exact ⟨k + 1, a + x.Filled, by omega, by go_num, rfl, by omega, by omega, by have := hs2.out; simp only [and_self, if_true] at this; show _ = _; omega, hf.alloc _⟩
          case measure => simp [intOf]; omega
        · subst h5
          have e6 : (x.Side == sd) = false := by simp [h6]
          go_wp2
          go_roundw
          case rel => exact ⟨k + 1, a, by omega, by go_num, rfl, by omega, by omega, by have := hs2.out; rw [if_neg (fun e => h6 e.2)] at this; show _ = _; omega, hf.alloc _⟩
          case measure => simp [intOf]; omega
      · have e5 : (x.Series == s) = false := by simp [h5]
        go_wp2
        go_roundw
        case rel => exact ⟨k + 1, a, by omega, by go_num, rfl, by omega, by omega, by have := hs2.out; rw [if_neg (fun e => h5 e.1)] at this; show _ = _; omega, hf.alloc _⟩
        case measure => simp [intOf]; omega
    · obtain rfl : k = L.length := by omega
      go_wp2
      go_ret
      refine ⟨?_, hf⟩
      have := hs.out
      simp [sumF] at this
      simp [this]

/-- An owner's orders that are open, by number. -/
def openIds (o : Int) : List Entry → Int → List Int
  | [], _ => []
  | x :: r, i => if x.Owner = o ∧ 0 < x.Open then (i + 1) :: openIds o r (i + 1) else openIds o r (i + 1)
theorem openIds_len (o : Int) : ∀ (L : List Entry) (i : Int), (openIds o L i).length ≤ L.length
  | [], _ => by simp [openIds]
  | x :: r, i => by
    have := openIds_len o r (i + 1)
    unfold openIds
    split <;> simp <;> omega
/-- s[:len(s):len(s)] -/
theorem clip64_c (A : Option Addr) (n c : Nat) (hc : n ≤ c) (hm : c ≤ 9223372036854775807) (w : World) :
    Calls Try.prog 54 #[.slice A n c] w fun e w' => e = .returned (.slice A n n) ∧ w = w' := by
  go_enter Try.func54, Try.ntmps54
  go_wp2
  go_ret
  exact ⟨rfl, rfl⟩
theorem openIds_step (o : Int) (L : List Entry) (k : Nat) (h : k < L.length) : openIds o (L.drop k) k = if L[k].Owner = o ∧ 0 < L[k].Open then ((k : Int) + 1) :: openIds o (L.drop (k + 1)) ((k + 1 : Nat) : Int) else openIds o (L.drop (k + 1)) ((k + 1 : Nat) : Int) := by
  rw [List.drop_eq_getElem_cons h]
  rfl
theorem opens_c (B : Nat) (o : Int) (w : World) (ok : Nat → Prop) (L : List Entry) (h : Led w ok B L) (hn : L.length ≤ 1000000) :
    Calls Try.prog 39 #[.pointer (some ⟨B, 0, none⟩), .int .i64 o] w fun e w' =>
      ∃ A c, e = .returned (.slice A (openIds o L 0).length (openIds o L 0).length) ∧ (Kd.int .i64).R 2 w' 0 (fun b => w.heap.size ≤ b) (.slice A (openIds o L 0).length c) (openIds o L 0) ∧ Fr no w w' := by
  obtain ⟨v, hb, hokB, hR⟩ := h
  obtain ⟨A, cap, rfl⟩ := Kd.R_slice hR
  have hcB := blk_cell hb 0
  simp at hcB
  go_enter Try.func39, Try.ntmps39
  go_wp2
  go_loopg [5, 13] L.length (fun q v i wr => ∃ (k : Nat) (xs : List Int), k + q = L.length ∧ i = .int .i64 k ∧ (Kd.int .i64).R 2 wr 0 (fun b => w.heap.size ≤ b) v xs ∧ Hid (xs ++ openIds o (L.drop k) k = openIds o L 0) ∧ xs.length ≤ k ∧ Fr no w wr)
  case atStart => exact ⟨0, [], by omega, rfl, Kd.R_nil _ _ _ _ _, rfl, by simp, Fr.refl _ _⟩
  case round =>
    obtain ⟨k, xs, hk, rfl, hO, hs, hxl, hf⟩ := hrel
    by_cases hlt : k < L.length
    · obtain ⟨g, cap, hv, _, hgl, _⟩ := Kd.R_form hR (by omega)
      injection hv with hA _ hcc
      subst hA; subst hcc
      have hRk := R_fr hR hf (fun _ _ h => h)
      obtain ⟨c0, c1, c2, c3, c4, c5, c6, _⟩ := ent_cells hRk k hlt
      clear hRk
      have hs2 := hs.out
      rw [openIds_step o L k hlt] at hs2
      clear hs
      generalize L[k] = x at *
      by_cases h5 : x.Owner = o
      · by_cases h6 : 0 < x.Open
        · rw [if_pos ⟨h5, h6⟩] at hs2
          replace hs2 := Lib.hid hs2
          subst h5
          go_wp2_with (at_builtin; refine Kd.R_append (Kd.int .i64) (w0 := wr) 0 rfl (.tmp 27) (.tmp 30) 78 2 (.int .i64 0) 8 rfl Try.underlying78 info64 rfl (by decide) (by omega) _ xs ((k : Int) + 1) [.int .i64 ((k : Int) + 1)] (fun b => w.heap.size ≤ b) (fun _ => False) rfl (by simp [go_sem]) rfl (fun _ hk => hk.elim) (fun b hb => Nat.le_trans (hf.alloc _).size hb) (Kd.R_alloc hO _) ((Below.refl 0 _).alloc (Nat.zero_le _) _) (Nat.zero_le _) (by omega) ?_
                       intro v1 w1 ho hb1 hg hat
                       clear hat hb1)
          go_roundg (L.length - (k + 1))
          case rel => exact ⟨k + 1, xs ++ [(k : Int) + 1], by omega, by go_num, ho, by show _ = _; rw [← hs2.out]; simp, by simp; omega, (hf.alloc _).trans (S' := fun b => w.heap.size ≤ b) (Fr.of_grown hg (fun b hb _ => hO.1 b hb)) (fun b hb hl => absurd hb (by omega))⟩
          case measure => omega
        · rw [if_neg (fun e => h6 e.2)] at hs2
          replace hs2 := Lib.hid hs2
          subst h5
          go_wp2
          go_roundg (L.length - (k + 1))
          case rel => exact ⟨k + 1, xs, by omega, by go_num, Kd.R_alloc hO _, hs2, by omega, hf.alloc _⟩
          case measure => omega
      · rw [if_neg (fun e => h5 e.1)] at hs2
        replace hs2 := Lib.hid hs2
        have e5 : (x.Owner == o) = false := by simp [h5]
        go_wp2
        go_roundg (L.length - (k + 1))
        case rel => exact ⟨k + 1, xs, by omega, by go_num, Kd.R_alloc hO _, hs2, by omega, hf.alloc _⟩
        case measure => omega
    · obtain rfl : k = L.length := by omega
      have hxs : xs = openIds o L 0 := by have := hs.out; simpa [openIds] using this
      subst hxs
      clear hs
      obtain ⟨A1, c1, rfl, hc1, hC1⟩ := Kd.R_reads hO
      have hcc := (R_cap hO).2
      go_wp2_with (go_at_call 54; refine (clip64_c A1 _ c1 hc1 hcc _).mono ?_; rintro e w' ⟨rfl, rfl⟩)
      go_ret
      exact ⟨A1, c1, rfl, hO, hf⟩

theorem fair_one (x : Entry) (w : World) (h1 : 0 ≤ x.Filled) (h2 : 0 ≤ x.Cancelled) (h3 : 0 ≤ x.Open) (h4 : x.Filled + x.Cancelled + x.Open = x.Entered) (h5 : x.Entered ≤ 1000000) :
    Calls Try.prog 56 #[x.val] w fun e w' => e = .returned (.bool false) ∧ Fr no w w' := by
  unfold Entry.val
  obtain ⟨a, b, c, d, e, f, g⟩ := x
  simp only at *
  subst h4
  have hq : (b + c + d != b + c + d) = false := by simp
  go_enter Try.func56, Try.ntmps56
  go_wp2
  go_ret
  exact ⟨rfl, (Fr.refl _ _).alloc _⟩
def Fair (x : Entry) : Prop := 0 ≤ x.Filled ∧ 0 ≤ x.Cancelled ∧ 0 ≤ x.Open ∧ x.Filled + x.Cancelled + x.Open = x.Entered ∧ x.Entered ≤ 1000000
theorem index_c (w : World) (A : Option Addr) (cap : Nat) (ok : Nat → Prop) (L : List Entry) (hR : kEntry.R 76 w 0 ok (.slice A L.length cap) L) (hn : L.length ≤ 1000000) (hb : ∀ x ∈ L, Fair x) :
    Calls Try.prog 60 #[.slice A L.length cap, .func (.func 56) #[] #[]] w fun e w' => e = .returned (.int .i64 (-1)) ∧ Fr no w w' := by
  have HB := Lib.hid hb
  clear hb
  go_enter Try.func60, Try.ntmps60
  go_wp2
  go_loopg [8] L.length (fun q i wr => ∃ (k : Nat), k + q = L.length ∧ i = .int .i64 k ∧ Fr no w wr)
  case atStart => exact ⟨0, by omega, rfl, Fr.refl _ _⟩
  case round =>
    obtain ⟨k, hk, rfl, hf⟩ := hrel
    by_cases hlt : k < L.length
    · obtain ⟨g, cap, hv, _, hgl, _⟩ := Kd.R_form hR (by omega)
      injection hv with hA _ hcc
      subst hA; subst hcc
      have hRk := R_fr hR hf (fun _ _ h => h)
      obtain ⟨c0, c1, c2, c3, c4, c5, c6, _⟩ := ent_cells hRk k hlt
      clear hRk
      obtain ⟨x1, x2, x3, x4, x5⟩ := HB.out L[k] (List.getElem_mem hlt)
      have hfo := fun W => fair_one L[k] W x1 x2 x3 x4 x5
      clear x1 x2 x3 x4 x5
      generalize L[k] = x at *
      have HF := Lib.hid hfo
      clear hfo
      go_wp2_with (go_at_call 56; refine (HF.out _).mono ?_; rintro e w' ⟨rfl, hf2⟩)
      go_roundg (L.length - (k + 1))
      case measure => omega
      case rel => exact ⟨k + 1, by omega, by go_num, hf.trans' hf2⟩
    · obtain rfl : k = L.length := by omega
      go_wp2
      go_ret
      exact ⟨rfl, hf⟩
theorem contains_c (w : World) (A : Option Addr) (cap : Nat) (ok : Nat → Prop) (L : List Entry) (hR : kEntry.R 76 w 0 ok (.slice A L.length cap) L) (hn : L.length ≤ 1000000) (hb : ∀ x ∈ L, Fair x) :
    Calls Try.prog 55 #[.slice A L.length cap, .func (.func 56) #[] #[]] w fun e w' => e = .returned (.bool false) ∧ Fr no w w' := by
  have HI := Lib.hid (fun (_ : Unit) => index_c w A cap ok L hR hn hb)
  clear hb
  go_enter Try.func55, Try.ntmps55
  go_wp2_with (go_at_call 60; refine (HI.out ()).mono ?_; rintro e w' ⟨rfl, hf2⟩)
  go_ret
  exact ⟨rfl, hf2⟩
theorem fair_c (B : Nat) (w : World) (ok : Nat → Prop) (L : List Entry) (h : Led w ok B L) (hn : L.length ≤ 1000000) (hb : ∀ x ∈ L, Fair x) :
    Calls Try.prog 42 #[.pointer (some ⟨B, 0, none⟩)] w fun e w' => e = .returned (.bool true) ∧ Fr no w w' := by
  obtain ⟨v, hb, hokB, hR⟩ := h
  obtain ⟨A, cap, rfl⟩ := Kd.R_slice hR
  have hcB := blk_cell hb 0
  simp at hcB
  rename_i hfair
  have HI := Lib.hid (fun (_ : Unit) => contains_c w A cap _ L hR hn hfair)
  clear hfair
  go_enter Try.func42, Try.ntmps42
  go_wp2_with (go_at_call 55; refine (HI.out ()).mono ?_; rintro e w' ⟨rfl, hf2⟩)
  go_ret
  exact ⟨rfl, hf2⟩
end Go.Proofs.Ytbeijddogfmnpaa.Life
