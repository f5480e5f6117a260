import Derived.Test.YtcbhddajkleleaaDoorCodec
import Derived.Lib.SliceRun
/-! Contracts of package codec: texts, and what was written. -/
set_option linter.unusedVariables false
set_option linter.unusedSimpArgs false
namespace Go.Proofs.YtcbhddajkleleaaDoor.Codec
open Go.RowKit Go.Proofs.YtcbhddajkleleaaDoorW.PrintWords Go.Proofs.YtcbhddajkleleaaDoor.B

def encR (p : List Int) : List Int := encI p.length ++ p

/-- A literal of one number is a row that is read. -/
theorem lit_C {W W1 : World} {S : Nat → Prop} {k : IntKind} {n : Int} {t : Nat} (hf : Fr S (W.alloc (.cells #[.int k n] t)) W1) (hS : ¬ S W.heap.size) : (Kd.int k).C W1 (some ⟨W.heap.size, 0, none⟩) 1 [n] := by
  have h1 := hf.heap (blk_new W _) hS
  exact C_blk (d := Kd.int k) h1 [n] (show 0 < 1 by decide) (show 1 ≤ 9223372036854775807 by decide) ((Reps.none _ _).snoc (p := n) (show (Kd.int k).K _ n [.int k n] from rfl) rfl)

theorem clipB_c (A : Option Addr) (n c : Nat) (hc : n ≤ c) (hm : c ≤ 9223372036854775807) (w : World) :
    Calls Tryd.prog 37 #[.slice A n c] w fun e w' => e = .returned (.slice A n n) ∧ w = w' := by
  go_enter Tryd.func37, Tryd.ntmps37
  go_wp2
  go_ret
  exact ⟨rfl, rfl⟩

theorem clone_c (A : Option Addr) (c : Nat) (p : List Int) (w : World) (hC : (Kd.int .u8).C w A p.length p) (hc : p.length ≤ c) (hl : p.length ≤ 1000000000) :
    Calls Tryd.prog 38 #[.slice A p.length c] w fun e w' => ∃ v, e = .returned v ∧ (Kd.int .u8).R 5 w' 0 (since w) v p ∧ Fr no w w' := by
  have qT : ∀ (w : World) (a : Option Addr) (n c n' c' : Nat), (binOp .eql 36 (.slice a n c) (.slice none n' c')).run Tryd.prog w = .ok (.bool a.isNone) w := fun w a n c n' c' => Lib.run_eql_slice_nil w _ _ a n c n' c' Tryd.underlying36
  cases A with
  | none =>
    have h0 : p = [] := by
      have h2 := hC.2
      rcases Nat.eq_zero_or_pos p.length with h | h
      · exact List.length_eq_zero_iff.1 h
      · obtain ⟨ad, he, _⟩ := h2.2 h
        exact absurd he (by simp)
    subst h0
    simp only [List.length_nil] at *
    go_enter Tryd.func38, Tryd.ntmps38
    go_wp2
    go_ret
    exact ⟨_, rfl, Kd.R_nil _ _ _ _ _, Fr.refl _ _⟩
  | some ad =>
    go_enter Tryd.func38, Tryd.ntmps38
    have hE : (Kd.int .u8).R 5 (w.alloc (.cells #[] 5)) 0 (since w) (.slice (some ⟨w.heap.size, 0, none⟩) 0 0) [] := Kd.R_of_own (World.ownsRow_lit w #[] 0 (Nat.zero_le _) (by decide) rfl) (fun k hk => by simp [Value.ownBlock] at hk; subst hk; exact Nat.le_refl _)
    go_wp2_with (at_builtin
                 refine Kd.R_append_row (fun n : Int => Value.int .u8 n) (0 : Int) (w0 := w.alloc (.cells #[] 5)) 0 rfl (.tmp 5) (.tmp 6) 36 5 (.int .u8 0) 1 rfl Tryd.underlying36 info8 rfl (by decide) _ [] p (some ad) p.length c (since w) rfl rfl (fun b hb => Nat.le_trans ((Fr.refl no w).alloc _).size hb) hE (C_fr hC ((Fr.refl no w).alloc _)) (Below.refl 0 _) (Nat.zero_le _) (by simp; omega) ?_
                 intro v1 w2 ho hb1 hg hat
                 clear hat hb1
                 obtain ⟨A2, c2, rfl⟩ := Kd.R_slice ho)
    go_ret
    exact ⟨_, rfl, ho, ((Fr.refl no w).alloc _).new' (Fr.of_grown hg (fun b hb _ => hE.1 b hb))⟩

theorem bytes_c (B : Nat) (bs : List Int) (w : World) (ok : Nat → Prop) (h : Encs w ok B bs) (hl : bs.length ≤ 1000000000) :
    Calls Tryd.prog 23 #[.pointer (some ⟨B, 0, none⟩)] w fun e w' => ∃ A c, e = .returned (.slice A bs.length bs.length) ∧ (Kd.int .u8).R 5 w' 0 (since w) (.slice A bs.length c) bs ∧ Fr no w w' := by
  obtain ⟨v, hB, hokB, hR⟩ := h
  obtain ⟨A1, c1, rfl⟩ := Kd.R_slice hR
  obtain ⟨_, _, hC⟩ := Kd.R_reads' hR
  obtain ⟨hcap, _⟩ := R_cap hR
  have hcB := blk_cell hB 0
  simp at hcB
  go_enter Tryd.func23, Tryd.ntmps23
  go_wp2_with (first
    | (go_at_call 38; refine (clone_c A1 c1 bs w hC hcap hl).mono ?_; rintro e w1 ⟨v, rfl, h1, hf1⟩
       obtain ⟨A2, c2, rfl⟩ := Kd.R_slice h1
       dsimp only)
    | (go_at_call 37; refine (clipB_c A2 bs.length c2 (R_cap h1).1 (R_cap h1).2 w1).mono ?_; rintro e w2 ⟨rfl, rfl⟩))
  go_ret
  exact ⟨_, _, rfl, h1, hf1⟩

/-- What is wrong where: told as an error. -/
def ErrV (w : World) (ok : Nat → Prop) (ev : Value) : Option (Int × Int) → Prop
  | none => ev = .nilIface
  | some (at', code) => ∃ F, ev = .iface 65 (.pointer (some ⟨F, 0, none⟩)) ∧ ok F ∧ w.heap[F]? = some (.cells #[.string ⟨#[98, 121, 116, 101]⟩, .int .i64 at', .iface 64 (.int .i64 code)] 69 (0, 0))
/-- What is read: bytes, the place, what was wrong. -/
def Decs (w : World) (ok : Nat → Prop) (B : Nat) (bs : List Int) (at' : Int) (er : Option (Int × Int)) : Prop :=
  ∃ v ev, w.heap[B]? = some (.cells #[v, .int .i64 at', ev] 107 (0, 0)) ∧ ok B ∧ (Kd.int .u8).R 5 w 0 (fun k => ok k ∧ k ≠ B) v bs ∧ ErrV w (fun k => ok k ∧ k ≠ B) ev er
theorem ErrV.fr {w w1 : World} {ok S : Nat → Prop} {ev : Value} {er : Option (Int × Int)} (h : ErrV w ok ev er) (hf : Fr S w w1) (hn : ∀ k, ok k → ¬ S k) : ErrV w1 ok ev er := by
  match er, h with
  | none, h => exact h
  | some (_, _), ⟨F, h1, h2, h3⟩ => exact ⟨F, h1, h2, hf.heap h3 (hn F h2)⟩
theorem ErrV.mono {w : World} {ok ok' : Nat → Prop} {ev : Value} {er : Option (Int × Int)} (h : ErrV w ok ev er) (hn : ∀ k, ok k → ok' k) : ErrV w ok' ev er := by
  match er, h with
  | none, h => exact h
  | some (_, _), ⟨F, h1, h2, h3⟩ => exact ⟨F, h1, hn F h2, h3⟩
theorem ErrV.lt {w : World} {ok : Nat → Prop} {ev : Value} {er : Option (Int × Int)} (h : ErrV w ok ev er) : ErrV w (fun k => ok k ∧ k < w.heap.size) ev er := by
  match er, h with
  | none, h => exact h
  | some (_, _), ⟨F, h1, h2, h3⟩ => exact ⟨F, h1, ⟨h2, blk_lt h3⟩, h3⟩
theorem Decs.fr {w w1 : World} {ok S : Nat → Prop} {B : Nat} {L : List Int} {a : Int} {er : Option (Int × Int)} (h : Decs w ok B L a er) (hf : Fr S w w1) (hn : ∀ k, ok k → ¬ S k) : Decs w1 ok B L a er := by
  obtain ⟨v, ev, h1, h2, h3, h4⟩ := h
  exact ⟨v, ev, hf.heap h1 (hn B h2), h2, R_fr h3 hf (fun k hk => hn k hk.1), h4.fr hf (fun k hk => hn k hk.1)⟩
theorem Decs.mono {w : World} {ok ok' : Nat → Prop} {B : Nat} {L : List Int} {a : Int} {er : Option (Int × Int)} (h : Decs w ok B L a er) (hn : ∀ k, ok k → ok' k) : Decs w ok' B L a er := by
  obtain ⟨v, ev, h1, h2, h3, h4⟩ := h
  exact ⟨v, ev, h1, hn B h2, Kd.R_mono h3 (fun k hk => ⟨hn k hk.1, hk.2⟩), h4.mono (fun k hk => ⟨hn k hk.1, hk.2⟩)⟩
theorem Decs.lt {w : World} {ok : Nat → Prop} {B : Nat} {L : List Int} {a : Int} {er : Option (Int × Int)} (h : Decs w ok B L a er) : Decs w (fun k => ok k ∧ k < w.heap.size) B L a er := by
  obtain ⟨v, ev, h1, h2, h3, h4⟩ := h
  exact ⟨v, ev, h1, ⟨h2, blk_lt h1⟩, Kd.R_mono (R_lt' h3) (fun k hk => ⟨⟨hk.1.1, hk.2⟩, hk.1.2⟩), h4.lt.mono (fun k hk => ⟨⟨hk.1.1, hk.2⟩, hk.1.2⟩)⟩

theorem of_c (A : Option Addr) (c : Nat) (p : List Int) (w : World) (hC : (Kd.int .u8).C w A p.length p) (hc : p.length ≤ c) (hl : p.length ≤ 1000000000) :
    Calls Tryd.prog 27 #[.slice A p.length c] w fun e w' => ∃ B, e = .returned (.pointer (some ⟨B, 0, none⟩)) ∧ Decs w' (since w) B p 0 none ∧ Fr no w w' := by
  go_enter Tryd.func27, Tryd.ntmps27
  go_wp2_with (
    (go_at_call 38; refine (clone_c A c p w hC hc hl).mono ?_; rintro e w1 ⟨v, rfl, h1, hf1⟩
     obtain ⟨A2, c2, rfl⟩ := Kd.R_slice h1
     dsimp only))
  go_ret
  refine ⟨_, rfl, ⟨_, _, blk_new _ _, hf1.size, ?_, rfl⟩, hf1.alloc _⟩
  exact Kd.R_mono (Kd.R_alloc (R_lt' h1) _) (fun k hk => ⟨hk.1, fun he => absurd hk.2 (by omega)⟩)
end Go.Proofs.YtcbhddajkleleaaDoor.Codec
