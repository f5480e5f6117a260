import Derived.Test.YtkmdnbficoknlaaBase
import Derived.Deep.RegionHeld3
/-! A region that draws its order, walked by ONE plan: what yields the same in every world that meets S is taken when it may come up; what changes the world comes up alone, and S may be made narrower behind it. -/
set_option linter.unusedVariables false
set_option linter.unusedSimpArgs false
namespace Go.Proofs.Ytkmdnbficoknlaa.B
open Go

section
variable {P : Program} {ops : Array Oper} {Q : Exit → Act → World → Prop} {md : Region.Mode}

theorem wpAnyH_weaken {S S' : World → Prop} (hs : ∀ x, S' x → S x) : ∀ (fuel : Nat) (listed : Array Bool) (a : Act) (w : World), wpAnyH P md ops Q S' fuel listed a w → wpAnyH P md ops Q S fuel listed a w
  | 0, _, _, _, h => h
  | fuel + 1, _, _, _, h => ⟨h.1, fun i hi => wpOp_mono (fun a' w' h' => ⟨hs _ h'.1, wpAnyH_weaken hs fuel _ a' w' h'.2⟩) (h.2 i hi)⟩

def planB (md : Region.Mode) (ops : Array Oper) : List (Nat × Bool) → Array Bool → Bool
  | [], listed => (Region.ready md ops listed).isEmpty
  | (i, false) :: r, listed => (ops[i]?).isSome && (Region.ready md ops listed).contains i && Region.free md ops listed i && planB md ops r (listed.setIfInBounds i true)
  | (i, true) :: r, listed => (ops[i]?).isSome && decide (Region.ready md ops listed = [i]) && planB md ops r (listed.setIfInBounds i true)
/-- The plan's operations, written out. -/
def planOps (ops : Array Oper) : List (Nat × Bool) → List (Bool × Oper)
  | [] => []
  | (i, b) :: r => match ops[i]? with
    | some o => (b, o) :: planOps ops r
    | none => []

def wpPlan (P : Program) (ops : Array Oper) (Q : Exit → Act → World → Prop) : List (Bool × Oper) → (World → Prop) → Act → World → Prop
  | [], _, a, w => Q .normal a w
  | (false, o) :: r, S, a, w => ∃ v, YieldsIf P ops S o v a ∧ wpPlan P ops Q r S (a.put o.dst v) w
  | (true, o) :: r, S, a, w => ∀ K : Act → World → Prop, (∀ (N : World → Prop) a' w', S w' → N w' → wpPlan P ops Q r (fun x => S x ∧ N x) a' w' → K a' w') → if Region.wanted o (yielded ops a.tmps) = true then o.wp P a w K Q else K (a.put o.dst undef) w

theorem wpAnyH_of_plan (hs : Region.noSelect ops = true) (hQ : ∀ c d v a w, Q (.panic c) (a.put d v) w → Q (.panic c) a w) : ∀ (pl : List (Nat × Bool)) (S : World → Prop) (fuel : Nat) (listed : Array Bool) (a : Act) (w : World),
    planB md ops pl listed = true → pl.length ≤ fuel → S w → wpPlan P ops Q (planOps ops pl) S a w → wpAnyH P md ops Q S fuel listed a w
  | [], S, fuel, listed, a, w, hp, _, _, h => wpAnyH_done (by simpa [planB] using hp) h fuel
  | (i, false) :: r, S, 0, listed, a, w, hp, hl, _, h => by simp at hl
  | (i, true) :: r, S, 0, listed, a, w, hp, hl, _, h => by simp at hl
  | (i, false) :: r, S, fuel + 1, listed, a, w, hp, hl, hS, h => by
    simp only [planB, Bool.and_eq_true] at hp
    obtain ⟨o, ho⟩ := Option.isSome_iff_exists.1 hp.1.1.1
    simp only [planOps, ho] at h
    obtain ⟨v, hy, h⟩ := h
    exact wpAnyH_take ho hs hp.1.2 hp.1.1.2 (fun c a w => hQ c _ _ a w) hy hS (wpAnyH_of_plan hs hQ r S fuel _ _ w hp.2 (by simp at hl; omega) hS h)
  | (i, true) :: r, S, fuel + 1, listed, a, w, hp, hl, hS, h => by
    simp only [planB, Bool.and_eq_true, decide_eq_true_eq] at hp
    obtain ⟨o, ho⟩ := Option.isSome_iff_exists.1 hp.1.1
    simp only [planOps, ho] at h
    refine wpAnyH_all hp.1.2 (by simp) (fun j hj => ?_)
    obtain rfl : j = i := by simpa using hj
    refine wpOp_step ho (fun K' hK => h K' (fun N a' w' h1 h2 h3 => hK a' w' ⟨h1, ?_⟩))
    exact wpAnyH_weaken (fun x hx => hx.1) fuel _ _ _ (wpAnyH_of_plan hs hQ r _ fuel _ a' w' hp.2 (by simp at hl; omega) ⟨h1, h2⟩ h3)

/-- The beginning: the plan is looked at by the kernel, S is shown of the world behind the draw. -/
theorem wp_region_plan {id : Nat} {a : Act} {w : World} (S : World → Prop) (pl : List (Nat × Bool)) (hm : P.follows .mixedOrders = true)
    (hp : (Region.noSelect ops && (planB .any ops pl (Array.replicate ops.size false) && decide (pl.length ≤ ops.size))) = true)
    (hQ : ∀ c t v a w, Q (.panic c) (a.put (some t) v) w → Q (.panic c) a w) (hS : S w.drew) (h : wpPlan P ops Q (planOps ops pl) S a w.drew) : (Code.region id ops true).wp P Q a w := by
  simp only [Bool.and_eq_true, decide_eq_true_eq] at hp
  exact wp_region_held_drew hm hS (fun _ => wpAnyH_of_plan hp.1 (fun c d v a w h => by cases d with | none => exact h | some t => exact hQ c t v a w h) pl S _ _ _ _ hp.2.1 hp.2.2 hS h)

theorem plan_step {S : World → Prop} {o : Oper} {r : List (Bool × Oper)} {a : Act} {w : World} (hw : Region.wanted o (yielded ops a.tmps) = true) (h : ∃ v, (∀ w, S w → (execOp a.eval o).run P w = .ok (.value v) w) ∧
    wpPlan P ops Q r S (a.put o.dst v) w) : wpPlan P ops Q ((false, o) :: r) S a w := by
  obtain ⟨v, h1, h2⟩ := h
  exact ⟨v, .inl ⟨hw, h1⟩, h2⟩
theorem plan_skip {S : World → Prop} {o : Oper} {r : List (Bool × Oper)} {a : Act} {w : World} (hw : Region.wanted o (yielded ops a.tmps) = false)
    (h : wpPlan P ops Q r S (a.put o.dst undef) w) : wpPlan P ops Q ((false, o) :: r) S a w := ⟨undef, .inr ⟨hw, rfl⟩, h⟩
theorem plan_run {S : World → Prop} {o : Oper} {r : List (Bool × Oper)} {a : Act} {w : World} (hw : Region.wanted o (yielded ops a.tmps) = true)
    (h : ∀ K : Act → World → Prop, Shut (∀ (N : World → Prop) a' w', S w' → N w' → wpPlan P ops Q r (fun x => S x ∧ N x) a' w' → K a' w') → Oper.wp P o a w K Q) : wpPlan P ops Q ((true, o) :: r) S a w := by
  intro K hK
  rw [if_pos hw]
  exact h K hK
theorem plan_void {S : World → Prop} {o : Oper} {r : List (Bool × Oper)} {a : Act} {w : World} (hw : Region.wanted o (yielded ops a.tmps) = false)
    (hS : S w) (h : wpPlan P ops Q r (fun x => S x ∧ True) (a.put o.dst undef) w) : wpPlan P ops Q ((true, o) :: r) S a w := by
  intro K hK
  rw [hw]
  exact hK (fun _ => True) _ _ hS trivial h
theorem plan_done {S : World → Prop} {a : Act} {w : World} (h : Q .normal a w) : wpPlan P ops Q [] S a w := h
end
end Go.Proofs.Ytkmdnbficoknlaa.B
