import Derived.Test.YtinkdgfdnagplaaDoorFrA
import Derived.Test.YtinkdgfdnagplaaDoorErrTells
/-! errors.As at a number's error; again; a stream's death. -/
set_option linter.unusedVariables false
set_option linter.unusedSimpArgs false
namespace Go.Proofs.YtinkdgfdnagplaaDoor.Err
open Go.RowKit Go.Extern.Stop Go.Stop Go.Extern Go.Proofs.YtinkdgfdnagplaaDoor.B

theorem q_noAsE (v : Value) (xT : TypeId) (w : World) : (Instr.typeAssert (.iface 47 v) xT 103 true).run Tryd.prog w = .ok (.tuple #[.nilIface, .bool false]) w := run_typeAssert_lacksB Tryd.underlying103 (by kernel_rfl) (by kernel_rfl) v xT w
theorem q_assignableE (w : World) : (ReflectliteType.relation "AssignableTo" ReflectliteType.assignableTo #[.agg #[.pointer (some ⟨4, 47, none⟩)], .iface 92 (.agg #[.pointer (some ⟨4, 54, none⟩)])]).run Tryd.prog w = .ok (.bool false) w := by kernel_rfl
set_option maxHeartbeats 4000000 in
theorem as_miss (c : Int) (t : Addr) (w : World) (hg : w.cell? ⟨0, 0, none⟩ = some (.iface 92 (.agg #[.pointer (some ⟨4, 26, none⟩)]))) :
    Calls Tryd.prog 23 #[.iface 47 (.int .i64 c), .iface 56 (.pointer (some t))] w fun ev w' => ev = .returned (.bool false) ∧ Fr no w w' := by
  have h6 := @run_callFunc_extern Tryd.prog 34 _ (fun args => ReflectliteValue.unpack (args.getD 0 (.tuple #[]))) Tryd.func34 (by kernel_rfl) (by kernel_rfl) (by kernel_rfl) (by kernel_rfl)
  have h7 := @run_callFunc_extern Tryd.prog 35 _ (ReflectliteValue.methodAny (ReflectliteValue.valueError "reflectlite.Value.Type" 0) (fun t _ _ _ => ReflectliteType.toType t)) Tryd.func35 (by kernel_rfl) (by kernel_rfl) (by kernel_rfl) (by kernel_rfl)
  have h8 := @run_callFunc_extern Tryd.prog 36 _ (ReflectliteValue.method (ReflectliteValue.valueError "reflectlite.Value.IsNil" 0) ReflectliteValue.isNil) Tryd.func36 (by kernel_rfl) (by kernel_rfl) (by kernel_rfl) (by kernel_rfl)
  have h27 := @run_callFunc_extern Tryd.prog 60 _ (ReflectliteType.abiMethod fun t => do pure (.int .u8 (← Rtype.kind t))) Tryd.func60 (by kernel_rfl) (by kernel_rfl) (by kernel_rfl) (by kernel_rfl)
  have h37 := @run_callFunc_extern Tryd.prog 86 _ (ReflectliteType.method ReflectliteType.elem) Tryd.func86 (by kernel_rfl) (by kernel_rfl) (by kernel_rfl) (by kernel_rfl)
  have h38 := @run_callFunc_extern Tryd.prog 87 _ (ReflectliteType.relation "Implements" ReflectliteType.implements_) Tryd.func87 (by kernel_rfl) (by kernel_rfl) (by kernel_rfl) (by kernel_rfl)
  have h10 := @run_callFunc_extern Tryd.prog 32 _ ReflectliteType.typeOf Tryd.func32 (by kernel_rfl) (by kernel_rfl) (by kernel_rfl) (by kernel_rfl)
  have h35 := @run_callFunc_extern Tryd.prog 84 _ (ReflectliteType.relation "AssignableTo" ReflectliteType.assignableTo) Tryd.func84 (by kernel_rfl) (by kernel_rfl) (by kernel_rfl) (by kernel_rfl)
  have tO := q_isTypeOf
  have mA := q_methodAssignableTo
  have a25 := q_assignableE
  have f6 := q_valueOf27
  have f7 := q_type27
  have mK := q_methodKind
  have mE := q_methodElem
  have mI := q_methodImplements
  have k27 := q_kind27
  have k25 := q_kind25
  have e27 := q_elem27
  have i25 := q_implements25
  have b1 := q_noAsE
  have b2 := q_noUnwrapE
  have b3 := q_noUnwrapsE
  have n8 := q_isNil27 ⟨w.heap.size, 0, none⟩ t ((w.alloc (.cells #[.pointer (some t)] 56)).alloc (.cells #[.pointer (some ⟨4, 56, none⟩), .pointer (some ⟨w.heap.size, 0, none⟩), .int .u64 150] 80)) (by simp)
  have hlt : 0 < w.heap.size := World.block_lt_of_cell? w _ hg
  have hg2 : ((w.alloc (.cells #[.pointer (some t)] 56)).alloc (.cells #[.pointer (some ⟨4, 56, none⟩), .pointer (some ⟨w.heap.size, 0, none⟩), .int .u64 150] 80)).cell? ⟨0, 0, none⟩ = some (.iface 92 (.agg #[.pointer (some ⟨4, 26, none⟩)])) := by
    rw [World.cell?_alloc_lt _ _ ⟨0, 0, none⟩ (by simp), World.cell?_alloc_lt _ _ ⟨0, 0, none⟩ hlt]; exact hg
  go_enter Tryd.func23, Tryd.ntmps23
  go_wp2
  refine wp_loop_rounds 1 ?_
  rw [rounds_succ]
  go_wp2
  go_ret
  exact ⟨rfl, (((Fr.refl no w).alloc _).alloc _).alloc _⟩
end Go.Proofs.YtinkdgfdnagplaaDoor.Err
namespace Go.Proofs.YtinkdgfdnagplaaDoor.Frame
open Go.RowKit Go.Proofs.YtinkdgfdnagplaaDoorW.PrintWords Go.Proofs.YtinkdgfdnagplaaDoor.B Go.Proofs.YtinkdgfdnagplaaDoor.Crc Go.Proofs.YtinkdgfdnagplaaDoor.Err

/-- An Errno anew is itself. -/
theorem again_err (c : Int) (w : World) (hg : ErrType w) : Calls Tryd.prog 26 #[.iface 47 (.int .i64 c)] w fun e w' => e = .returned (.iface 47 (.int .i64 c)) ∧ Fr no w w' := by
  have hfa := (Fr.refl no w).alloc (.cells #[.pointer none] 54)
  have hga := hg.fr hfa (fun h => h)
  go_enter Tryd.func26, Tryd.ntmps26
  go_wp2_with fail
  refine (as_miss c _ _ hga).mono ?_
  rintro e w1 ⟨rfl, hf⟩
  have HF := Lib.hid (hfa.trans' hf)
  clear hf hga hfa hg
  dsimp only
  go_wp2
  go_ret
  exact ⟨rfl, HF.out⟩
set_option maxRecDepth 100000 in
set_option maxHeartbeats 4000000 in
/-- A Fault anew is a Fault of the same. -/
theorem again_fault (F : Nat) (part : ByteArray) (a code : Int) (w : World) (hg : ErrType w) (hF : FaultAt w F part a code) :
    Calls Tryd.prog 26 #[.iface 54 (.pointer (some ⟨F, 0, none⟩))] w fun e w' => (∃ G, e = .returned (.iface 54 (.pointer (some ⟨G, 0, none⟩))) ∧ w.heap.size ≤ G ∧ FaultAt w' G part a code) ∧ Fr no w w' := by
  have hfa := (Fr.refl no w).alloc (.cells #[.pointer none] 54)
  have hYb := blk_new w (.cells #[.pointer none] 54)
  have hga := hg.fr hfa (fun h => h)
  have hFa : FaultAt (w.alloc (.cells #[.pointer none] 54)) F part a code := hfa.heap hF (fun h => h)
  have HW := Lib.hid hg
  clear hg hF
  go_enter Tryd.func26, Tryd.ntmps26
  go_wp2_with fail
  refine (as_c F w.heap.size _ hga hYb).mono ?_
  rintro e w1 ⟨rfl, hY1, hf1⟩
  have h01 : Fr no w w1 := hfa.new hf1 (fun k hk => by have : k = w.heap.size := hk; subst this; exact Nat.le_refl _)
  have hF1 : FaultAt w1 F part a code := hf1.heap hFa (fun h => by
    have h2 : F = w.heap.size := h
    have h3 : (w.alloc (.cells #[.pointer none] 54)).heap[F]? = _ := hFa
    subst h2
    rw [hYb] at h3
    simp at h3)
  have y0 : w1.drew.cell? ⟨w.heap.size, 0, none⟩ = some (.pointer (some ⟨F, 0, none⟩)) := blk_cell hY1 0
  have y1 : w1.drew.cell? ⟨F, 0, none⟩ = some (.string part) := blk_cell hF1 0
  have y2 : w1.drew.cell? ⟨F, 1, none⟩ = some (.int .i64 a) := blk_cell hF1 1
  have y3 : w1.drew.cell? ⟨F, 2, none⟩ = some (.iface 47 (.int .i64 code)) := blk_cell hF1 2
  have H01 := Lib.hid h01.drew
  clear hfa hYb hga hFa hY1 hf1 h01 hF1
  generalize w.heap.size = Y at *
  dsimp only
  go_wp2_with fail
  refine wp_region_plan (fun u => u.cell? ⟨Y, 0, none⟩ = some (.pointer (some ⟨F, 0, none⟩)) ∧ u.cell? ⟨F, 0, none⟩ = some (.string part) ∧ u.cell? ⟨F, 1, none⟩ = some (.int .i64 a) ∧ u.cell? ⟨F, 2, none⟩ = some (.iface 47 (.int .i64 code))) [(0, false), (1, false), (2, false), (3, false), (4, false), (5, false), (6, false), (7, false), (8, false), (9, false), (10, false), (11, false), (12, true), (13, false), (14, true), (15, false), (16, false)] (by kernel_rfl) (by kernel_rfl) (fun _ _ _ _ _ h => h) (⟨y0, y1, y2, y3⟩) ?_
  simp only [planOps, List.getElem?_toArray, List.getElem?_cons_succ, List.getElem?_cons_zero]
  repeat (first
    | (refine plan_step (by rfl) ?_; apply Exists.intro; refine ⟨fun x hSx => ?_, ?_⟩; ((try dsimp only at hSx); go_simp; (try rw [if_neg (by omega)]); (try with_reducible rfl)); (simp only [Act.put, List.setIfInBounds_toArray, List.set_cons_zero, List.set_cons_succ]))
    | (refine plan_skip (by rfl) ?_; (simp only [Act.put, List.setIfInBounds_toArray, List.set_cons_zero, List.set_cons_succ])))
  refine plan_run (by rfl) (fun K hK => ?_)
  go_simp
  refine (again_err code _ (HW.out.fr H01.out (fun h => h))).mono ?_
  rintro e w2 ⟨rfl, hf2⟩
  have H02 := Lib.hid (H01.out.trans' hf2)
  have z0 := hf2.cell y0 (fun h => h)
  have z1 := hf2.cell y1 (fun h => h)
  have z2 := hf2.cell y2 (fun h => h)
  have z3 := hf2.cell y3 (fun h => h)
  clear hf2 y0 y1 y2 y3
  dsimp only
  refine hK.out (fun u => True) _ _ (⟨z0, z1, z2, z3⟩) (trivial) ?_
  clear hK K
  try simp only [Act.put, List.setIfInBounds_toArray, List.set_cons_zero, List.set_cons_succ]
  repeat (first
    | (refine plan_step (by rfl) ?_; apply Exists.intro; refine ⟨fun x hSx => ?_, ?_⟩; ((try dsimp only at hSx); go_simp; (try rw [if_neg (by omega)]); (try with_reducible rfl)); (simp only [Act.put, List.setIfInBounds_toArray, List.set_cons_zero, List.set_cons_succ]))
    | (refine plan_skip (by rfl) ?_; (simp only [Act.put, List.setIfInBounds_toArray, List.set_cons_zero, List.set_cons_succ])))
  refine plan_run (by rfl) (fun K hK => ?_)
  go_simp
  have hfb := (Fr.refl no w2).alloc (.cells #[.string part, .int .i64 a, .iface 47 (.int .i64 code)] 58)
  refine hK.out (fun u => True) _ _ (⟨⟨hfb.cell z0 (fun h => h), hfb.cell z1 (fun h => h), hfb.cell z2 (fun h => h), hfb.cell z3 (fun h => h)⟩, trivial⟩) (trivial) ?_
  clear hK K
  try simp only [Act.put, List.setIfInBounds_toArray, List.set_cons_zero, List.set_cons_succ]
  repeat (first
    | (refine plan_step (by rfl) ?_; apply Exists.intro; refine ⟨fun x hSx => ?_, ?_⟩; ((try dsimp only at hSx); go_simp; (try rw [if_neg (by omega)]); (try with_reducible rfl)); (simp only [Act.put, List.setIfInBounds_toArray, List.set_cons_zero, List.set_cons_succ]))
    | (refine plan_skip (by rfl) ?_; (simp only [Act.put, List.setIfInBounds_toArray, List.set_cons_zero, List.set_cons_succ])))
  refine plan_done ?_
  have HG := Lib.hid (blk_new w2 (.cells #[.string part, .int .i64 a, .iface 47 (.int .i64 code)] 58))
  have HFB := Lib.hid (H02.out.trans' hfb)
  have hsz := H02.out.size
  clear z0 z1 z2 z3 hfb
  go_wp2
  go_ret
  exact ⟨⟨_, rfl, hsz, HG.out⟩, HFB.out⟩
end Go.Proofs.YtinkdgfdnagplaaDoor.Frame
