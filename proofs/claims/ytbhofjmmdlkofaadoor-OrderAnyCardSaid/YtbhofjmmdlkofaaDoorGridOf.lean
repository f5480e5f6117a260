import Derived.RangeFuncNested
import Derived.RangeFuncLeaves
import Derived.RangeFuncBox
import Derived.Shelf.Abstract
import Derived.OwnWalkIn
import Derived.TacticsInMore
import Derived.LoopNIn
import Derived.LoopIn
import Derived.Test.YtbhofjmmdlkofaaDoorGridK
/-! slices.Backward over a table, and (grid.Table).of: the last step that is not above a price. -/
set_option linter.unusedVariables false
set_option linter.unusedSimpArgs false
namespace Go.Proofs.YtbhofjmmdlkofaaDoor.Grid
open Go.RowKit Go.Shelf Go.Proofs.YtbhofjmmdlkofaaDoorW.PrintWords Go.Proofs.YtbhofjmmdlkofaaDoor.B
attribute [local go_sem] Oper.semAt_some

def stp (t : List Step) (i : Nat) : Step := t[i]?.getD zStep
/-- What has come when k rounds are over, from the last on. -/
def upto (t : List Step) (k : Nat) : List (Nat × Step) := (List.range k).map fun j => (t.length - 1 - j, stp t (t.length - 1 - j))
theorem upto_succ (t : List Step) (k : Nat) : upto t (k + 1) = upto t k ++ [(t.length - 1 - k, stp t (t.length - 1 - k))] := by simp [upto, List.range_succ]
theorem upto_length (t : List Step) (k : Nat) : (upto t k).length = k := by simp [upto]
theorem cell_of_C {w : World} {A : Option Addr} {t : List Step} (h : kStep.C w A t.length t) (k : Nat) (hk : k < t.length) :
    ∃ ad, A = some ad ∧ w.cell? (ad.add (k * 2)) = some (.int .i64 (stp t k).From) ∧ w.cell? ⟨(ad.add (k * 2)).block, (ad.add (k * 2)).off + 1, none⟩ = some (.int .i64 (stp t k).By) := by
  obtain ⟨ad, h1, h2, h3⟩ := at_Step h (k : Int) (by omega) (by omega)
  rw [Int.toNat_natCast] at h2 h3
  have e : rd_Step t k = stp t k := by simp [rd_Step, stp]
  rw [e] at h2 h3
  exact ⟨ad, h1, h2, h3⟩

set_option maxRecDepth 100000 in
set_option maxHeartbeats 2000000 in
theorem bwd1_in (F : Fence) (n : Nat) (h61 : F.fn 66) (hro : F.round = none) (hn : 1 ≤ n) (l Bs n₀ cap : Nat) (A : Option Addr) (t : List Step) (hT : t.length ≤ 1000000) (J Jx : List (Nat × Step) → World → Prop)
    (hY : ∀ pre x W, J pre W → pre.length < t.length → YieldAt F (n - 1) Tryd.prog l #[.int .i64 (x.1 : Int), .agg #[.int .i64 x.2.From, .int .i64 x.2.By]] W fun e W' =>
      (e = .returned (.bool true) ∧ J (pre ++ [x]) W' ∧ Below n₀ W W') ∨ (e = .returned (.bool false) ∧ Jx (pre ++ [x]) W'))
    (W : World) (hBs : W.cell? ⟨Bs, 0, none⟩ = some (.slice A t.length cap)) (hBn : Bs < n₀) (hC : ∀ W', Below n₀ W W' → kStep.C W' A t.length t) (h0 : J [] W) :
    CallsIn F n Tryd.prog 66 #[.func (.yield l) #[] #[], .pointer (some ⟨Bs, 0, none⟩)] W fun e W' => (∃ v, e = .returned v) ∧
      ((∃ ys, ys = upto t t.length ∧ J ys W') ∨ (∃ pre, (∃ k, k ≤ t.length ∧ pre = upto t k) ∧ Jx pre W')) := by
  refine callsIn_of_wp Tryd.func66 rfl h61 ?_ hro
  simp only [Tryd.ntmps66, List.size_toArray, List.length_cons, List.length_nil, Nat.reduceAdd, Nat.reduceSub, Array.replicate_succ, Array.replicate_zero, List.push_toArray, List.append_toArray, List.nil_append, List.cons_append]
  have HC := Lib.hid hC
  clear hC
  gi_wp2
  gi_loopw [3] (fun i wr => ∃ k : Nat, k ≤ t.length ∧ i = .int .i64 ((k : Int) - 1) ∧ J (upto t (t.length - k)) wr ∧ Below n₀ W wr) (fun i _ => (intOf i + 1).toNat)
  case atStart => exact ⟨t.length, Nat.le_refl _, rfl, by rw [Nat.sub_self]; exact h0, Below.refl _ _⟩
  case round =>
    obtain ⟨k, hk, rfl, hJs, hnx⟩ := hrel
    have hBs' : wr.cell? ⟨Bs, 0, none⟩ = some (.slice A t.length cap) := (hnx.cell (p := ⟨Bs, 0, none⟩) hBn).trans hBs
    cases k with
    | zero =>
      gi_wp2
      go_end0
      exact ⟨⟨_, rfl⟩, .inl ⟨_, rfl, hJs⟩⟩
    | succ m =>
      obtain ⟨ad, rfl, hc1, hc2⟩ := cell_of_C (HC.out _ hnx) m (by omega)
      obtain ⟨fn, tmps, assign, body, hy, hR⟩ := hY _ (m, stp t m) wr hJs (by rw [upto_length]; omega)
      dsimp only at hy
      have hup : upto t (t.length - (m + 1)) ++ [(m, stp t m)] = upto t (t.length - m) := by
        have e : t.length - m = (t.length - (m + 1)) + 1 := by omega
        rw [e, upto_succ, show t.length - 1 - (t.length - (m + 1)) = m by omega]
      have HU := Lib.hid hup
      clear hup
      have e1 : ((m + 1 : Nat) : Int) - 1 = (m : Int) := by omega
      rw [e1]
      clear e1
      gi_wp2
      refine hR.mono ?_
      rintro e W3 (⟨rfl, hJ3, hk3⟩ | ⟨rfl, hJx3⟩)
      · rw [HU.out] at hJ3
        gi_wp2
        go_roundw
        case rel => exact ⟨m, by omega, rfl, hJ3, hnx.trans hk3⟩
        case measure => simp [intOf]
      · gi_wp2
        refine bodyPost_ret (results_none rfl _ _ _) rfl ?_
        rw [HU.out] at hJx3
        exact ⟨⟨_, rfl⟩, .inr ⟨_, ⟨t.length - m, by omega, rfl⟩, hJx3⟩⟩

set_option maxHeartbeats 1000000 in
theorem bwd_in (F : Fence) (n : Nat) (h59 : F.fn 63) (hro : F.round = none) (a : Option Addr) (len cap : Nat) (w : World) :
    CallsIn F n Tryd.prog 63 #[.slice a len cap] w fun e w' => e = .returned (.func (.func 66) #[] #[.pointer (some ⟨w.heap.size, 0, none⟩)]) ∧ w' = w.alloc (.cells #[.slice a len cap] 25) := by
  refine callsIn_of_wp Tryd.func63 rfl h59 ?_ hro
  simp only [Tryd.ntmps63, List.size_toArray, List.length_cons, List.length_nil, Nat.reduceAdd, Nat.reduceSub, Array.replicate_succ, Array.replicate_zero, List.push_toArray, List.append_toArray, List.nil_append, List.cons_append]
  gi_wp2
  go_ret
  exact ⟨rfl, rfl⟩

theorem bwd_stops (F : Fence) (n : Nat) (h61 : F.fn 66) (hro : F.round = none) (hn : 1 ≤ n) (Bs n₀ cap : Nat) (A : Option Addr) (t : List Step) (hT : t.length ≤ 1000000) (w : World) (hBs : Bs < n₀) (hn₀ : n₀ ≤ w.heap.size)
    (hc : w.cell? ⟨Bs, 0, none⟩ = some (.slice A t.length cap)) (hI : ∀ W, Below n₀ w W → kStep.C W A t.length t) :
    SeqStopsK F n Tryd.prog 66 #[.pointer (some ⟨Bs, 0, none⟩)] (fun x : Nat × Step => #[.int .i64 (x.1 : Int), .agg #[.int .i64 x.2.From, .int .i64 x.2.By]]) (Below n₀) (fun ys => ys = upto t t.length)
      (fun pre => ∃ k, k ≤ t.length ∧ pre = upto t k) t.length w := fun l J Jx W hW _ _ hY h0 => by
  have hW' := hW.mono hn₀
  exact bwd1_in F n h61 hro hn l Bs n₀ cap A t hT J Jx hY W ((hW'.cell (p := ⟨Bs, 0, none⟩) hBs).trans hc) hBs (fun W' h => hI W' (hW'.trans h)) h0

/-- What 'of' answers. -/
def IsOf (t : List Step) (p : Int) (r : Int) : Prop := (r = -1 ∧ ∀ j, j < t.length → p < (stp t j).From) ∨ ∃ k : Nat, k < t.length ∧ r = k ∧ (stp t k).From ≤ p ∧ ∀ j, k < j → j < t.length → p < (stp t j).From
set_option maxRecDepth 100000 in
set_option maxHeartbeats 4000000 in
theorem of_in (F : Fence) (n : Nat) (h50 : F.fn 57) (h59 : F.fn 63) (h61 : F.fn 66) (hro : F.round = none) (hn : 3 ≤ n) (A : Option Addr) (cap : Nat) (t : List Step) (p : Int) (hT : t.length ≤ 1000000) (w : World) (hC : kStep.C w A t.length t) :
    CallsIn F n Tryd.prog 57 #[.slice A t.length cap, .int .i64 p] w fun e W' => (∃ r, e = .returned (.int .i64 r) ∧ IsOf t p r) ∧ Below w.heap.size w W' := by
  have h1 : 1 ≤ n := by omega
  refine callsIn_of_wp_marks Tryd.func57 rfl h50 ?_ hro
  simp only [Tryd.ntmps57, List.size_toArray, List.length_cons, List.length_nil, Nat.reduceAdd, Nat.reduceSub, Array.replicate_succ, Array.replicate_zero, List.push_toArray, List.append_toArray, List.nil_append, List.cons_append]
  have HC := Lib.hid hC
  clear hC
  gi_wp2_with (gi_at_call 63; refine (bwd_in F (n - 1) h59 hro _ _ _ _).mono ?_; rintro e w' ⟨rfl, rfl⟩)
  have b1 := ((Boxed.new w 2 (.int .i64 p)).alloc (.cells #[.int .i64 0] 3)).alloc (.cells #[.slice A t.length cap] 25)
  have b2 := (Boxed.new (w.alloc (.cells #[.int .i64 p] 2)) 3 (.int .i64 0)).alloc (.cells #[.slice A t.length cap] 25)
  have b3 := Boxed.new ((w.alloc (.cells #[.int .i64 p] 2)).alloc (.cells #[.int .i64 0] 3)) 25 (.slice A t.length cap)
  simp only [World.size_alloc] at b2 b3
  have hB0 : Below w.heap.size w (((w.alloc (.cells #[.int .i64 p] 2)).alloc (.cells #[.int .i64 0] 3)).alloc (.cells #[.slice A t.length cap] 25)) := (((Below.refl _ w).alloc (Nat.le_refl _) _).alloc (by simp) _).alloc (by simp; omega) _
  have hsz : (((w.alloc (.cells #[.int .i64 p] 2)).alloc (.cells #[.int .i64 0] 3)).alloc (.cells #[.slice A t.length cap] 25)).heap.size = w.heap.size + 3 := by simp
  obtain ⟨W0, hW0⟩ : ∃ W0, ((w.alloc (.cells #[.int .i64 p] 2)).alloc (.cells #[.int .i64 0] 3)).alloc (.cells #[.slice A t.length cap] 25) = W0 := ⟨_, rfl⟩
  rw [hW0] at b1 b2 b3 hB0 hsz ⊢
  clear hW0
  refine wpIn_rangeFunc_ownH hro h1 (gf := 66) (lb := #[.pointer (some ⟨w.heap.size + 1 + 1, 0, none⟩)]) rfl h61 (enters_of Tryd.func66 (by kernel_rfl) rfl)
    (bwd_stops F (n - 1) h61 hro (by omega) (w.heap.size + 1 + 1) (w.heap.size + 3) cap A t hT W0 (by omega) (by omega) b3.cell (fun W h => Kd.C_below HC.out (hB0.trans (h.mono (by omega))))) belowK_t (belowK_b (by omega)) (Below.refl _ _) (fun _ => rfl)
    (fun pre W => ((∀ x ∈ pre, p < x.2.From) ∧ Boxed W (w.heap.size + 1) 3 (.int .i64 0) ∧ Boxed W w.heap.size 2 (.int .i64 p) ∧ Boxed W (w.heap.size + 1 + 1) 25 (.slice A t.length cap)) ∧ Below w.heap.size w W)
    (fun c pre W => (c = .ret ∧ ∃ ini last, pre = ini ++ [last] ∧ (∀ x ∈ ini, p < x.2.From) ∧ last.2.From ≤ p ∧ Boxed W (w.heap.size + 1) 3 (.int .i64 (last.1 : Int))) ∧ Below w.heap.size w W)
    (OwnFrom.and (Own.from (fun s X Y row hs hg hr => ⟨hs.1, boxed_own _ _ (fun (_ : Unit) => Value.int .i64 0) () X Y row hs.2.1 hg hr, boxed_own _ _ (fun (_ : Unit) => Value.int .i64 p) () X Y row hs.2.2.1 hg hr, boxed_own _ _ (fun (_ : Unit) => Value.slice A t.length cap) () X Y row hs.2.2.2 hg hr⟩) _) (ownFrom_below (Nat.le_refl _) (by omega)))
    (fun c => OwnFrom.and (Own.from (fun s X Y row hs hg hr => by obtain ⟨hc, ini, last, e1, e2, e3, e4⟩ := hs; exact ⟨hc, ini, last, e1, e2, e3, boxed_own _ _ (fun (_ : Unit) => Value.int .i64 (last.1 : Int)) () X Y row e4 hg hr⟩) _) (ownFrom_below (Nat.le_refl _) (by omega)))
    ⟨⟨by simp, b2, b1, b3⟩, hB0⟩
    (fun x a' W => ∃ Bx, W.cell? ⟨Bx, 0, none⟩ = some (.int .i64 x.2.From) ∧ a' = { tmps := #[.slice A t.length cap, .int .i64 p, undef, .pointer (some ⟨w.heap.size, 0, none⟩), .pointer (some ⟨w.heap.size + 1, 0, none⟩), .int .i64 (x.1 : Int), .pointer (some ⟨Bx, 0, none⟩), .slice A t.length cap, .func (.func 66) #[] #[.pointer (some ⟨w.heap.size + 1 + 1, 0, none⟩)], .int .i64 (x.1 : Int), .agg #[.int .i64 x.2.From, .int .i64 x.2.By], undef, undef, undef, undef, undef], defers := [] })
    (fun x a' _ X Y row hs hg hr => by obtain ⟨Bx, h1, h2⟩ := hs; exact ⟨Bx, cell_kept h1 hg (fun r e => (hr r e).2), h2⟩)
    ?assign ?body ?done ?stop
  case assign =>
    rintro l pre x W K ⟨⟨hp, b2, b1, b3⟩, hB⟩ hK
    have hl := b3.lt
    gi_wp2
    refine hK _ _ ((KeepsOthers.alloc _ _).from _) ((Below.refl _ W).alloc (by omega) _) ⟨⟨hp, b2.alloc _, b1.alloc _, b3.alloc _⟩, hB.alloc hB.size _⟩ ⟨W.heap.size, ?_, rfl⟩
    exact (blk_cell (heap_alloc_new W _) 0).trans rfl
  case body =>
    rintro l pre x a' W hl ⟨r, hr⟩ ⟨⟨hp, b2, b1, b3⟩, hB⟩ ⟨Bx, hx, rfl⟩ hlt
    have c1 := b1.cell
    have c2 := b2.cell
    have f2 := b2.frozen
    by_cases hle : x.2.From ≤ p
    · gi_wp2
      exact ⟨(KeepsOthers.setCell _ _ _).from _, ⟨rfl, pre, x, rfl, hp, hle, b2.set _⟩, hB.setCell (p := ⟨w.heap.size + 1, 0, none⟩) (by simp) _⟩
    · have hcase : ∀ y ∈ pre ++ [x], p < y.2.From := by
        intro y hy
        rcases List.mem_append.1 hy with hy | hy
        · exact hp y hy
        · obtain rfl : y = x := by simpa using hy
          omega
      have HCASE := Lib.hid hcase
      clear hcase
      gi_wp2
      exact ⟨KeepsFrom.refl _ _, Below.refl _ _, ⟨fun a b hy => HCASE.out (a, b) hy, b2, b1, b3⟩, hB⟩
  case done =>
    rintro D ys W hD rfl ⟨⟨hne, b2, b1, b3⟩, hB⟩ hK
    have c2 := b2.cell
    have f2 := b2.frozen
    gi_wp2
    have hK' := (KeepsOthers.setCell W ⟨w.heap.size + 1, 0, none⟩ (.int .i64 (-1))).same D _ hK rfl
    refine ⟨by simp, .inl ⟨_, _, rfl, run_takeDeferred hK', ?_⟩⟩
    have hc5 := cell_kept (World.cell?_setCell_same' W ⟨w.heap.size + 1, 0, none⟩ (.int .i64 (-1)) (by rw [c2]; rfl)) (grownBy_putObj' _ D (.deferred none)) (fun r e => by cases e; exact ⟨_, hK', rfl⟩)
    refine ⟨.int .i64 (-1), ?_, ⟨-1, rfl, .inl ⟨rfl, fun j hj => ?_⟩⟩, (hB.setCell (p := ⟨w.heap.size + 1, 0, none⟩) (by simp) _).trans (belowK_b (w := w) (Nat.le_refl _) _ D _ _ (by omega) hK' rfl rfl)⟩
    · simp [results, Tryd.f57, go_sem, hc5]
    · have := hne (j, stp t j) (by simp only [upto, List.mem_map, List.mem_range]; exact ⟨t.length - 1 - j, by omega, by rw [show t.length - 1 - (t.length - 1 - j) = j by omega]⟩)
      exact this
  case stop =>
    rintro D c pre W hD ⟨k, hk, rfl⟩ ⟨⟨rfl, ini, last, e1, e2, e3, b2⟩, hB⟩ hK
    gi_wp2
    refine ⟨by simp, .inl ⟨_, _, rfl, run_takeDeferred hK, ?_⟩⟩
    have hc5 := cell_kept b2.cell (grownBy_putObj' _ D (.deferred none)) (fun r e => by cases e; exact ⟨_, hK, rfl⟩)
    obtain ⟨k', rfl⟩ : ∃ k', k = k' + 1 := by
      cases k with
      | zero => simp [upto] at e1
      | succ k' => exact ⟨k', rfl⟩
    rw [upto_succ] at e1
    obtain ⟨rfl, e5⟩ := List.append_inj' e1 rfl
    obtain rfl : (t.length - 1 - k', stp t (t.length - 1 - k')) = last := by simpa using e5
    refine ⟨.int .i64 ((t.length - 1 - k' : Nat) : Int), ?_, ⟨_, rfl, .inr ⟨t.length - 1 - k', by omega, rfl, e3, fun j hj1 hj2 => ?_⟩⟩, hB.trans (belowK_b (w := w) (Nat.le_refl _) W D _ _ (by omega) hK rfl rfl)⟩
    · simp [results, Tryd.f57, go_sem, hc5]
    · exact e2 (j, stp t j) (by simp only [upto, List.mem_map, List.mem_range]; exact ⟨t.length - 1 - j, by omega, by rw [show t.length - 1 - (t.length - 1 - j) = j by omega]⟩)

theorem of_c (A : Option Addr) (cap : Nat) (t : List Step) (p : Int) (hT : t.length ≤ 1000000) (w : World) (hC : kStep.C w A t.length t) :
    Calls Tryd.prog 57 #[.slice A t.length cap, .int .i64 p] w fun e W' => ∃ r, e = .returned (.int .i64 r) ∧ IsOf t p r ∧ Fr no w W' :=
  ((callsIn_wide (n := 3)).1 (of_in Fence.wide 3 trivial trivial trivial rfl (Nat.le_refl _) A cap t p hT w hC)).mono fun e w' ⟨⟨r, h1, h2⟩, h3⟩ => ⟨r, h1, h2, Fr.of_below h3⟩
end Go.Proofs.YtbhofjmmdlkofaaDoor.Grid
