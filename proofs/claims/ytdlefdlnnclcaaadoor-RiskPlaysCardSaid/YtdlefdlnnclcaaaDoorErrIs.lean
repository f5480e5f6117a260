import Derived.Test.YtdlefdlnnclcaaaDoorBase
import Derived.WalkKit
import Derived.LaidEql
import Derived.Stop.Asserts
import Derived.RowKitTokens
/-! errors.Is of a Fault and a number's error (after the guide's worked text of errors.Is, SentryIs; the law on two errors of one integer type after its note 10). -/
set_option linter.unusedVariables false
set_option linter.unusedSimpArgs false
namespace Go.Proofs.YtdlefdlnnclcaaaDoor.Err
open Go.RowKit Go.Extern.Stop Go.Stop Go.Extern Go.Proofs.YtdlefdlnnclcaaaDoor.B

section
variable {P : Program} (w : World)
theorem q_equalIn_int (d : Nat) {ti tn : TypeId} {ms : Array (String × TypeId)} {i : TypeInfo} {k : IntKind} (a b : Int)
    (hi : P.underlying ti = some (.interface ms)) (hn : P.underlying tn = some (.int k)) (hinfo : P.info? tn = some i) (hcomp : i.comparable = true) :
    (Op.equalIn (d + 2) ti (.iface tn (.int k a)) (.iface tn (.int k b))).run P w = .ok (a == b) w := by
  simp [Op.equalIn, run_underlying hi, run_underlying hn, typeInfo, hinfo, hcomp]
/-- 'x == y', both interface values of one integer type: as the numbers are. -/
theorem q_eql_int {ti tn : TypeId} {ms : Array (String × TypeId)} {k : IntKind} (a b : Int)
    (hi : P.underlying ti = some (.interface ms)) (hn : P.underlying tn = some (.int k)) (hinfo : (P.info? tn).map (·.comparable) = some true) :
    (binOp .eql ti (.iface tn (.int k a)) (.iface tn (.int k b))).run P w = .ok (.bool (a == b)) w := by
  obtain ⟨i, h1, h2⟩ := Option.map_eq_some_iff.1 hinfo
  simp only [binOp]
  simp [Op.equal, Op.maxDepth, q_equalIn_int w 9998 a b hi hn h1 h2]
theorem q_equalIn_types (d : Nat) {ti tn tm : TypeId} {ms : Array (String × TypeId)} (x y : Value) (hi : P.underlying ti = some (.interface ms)) (hne : (tn == tm) = false) :
    (Op.equalIn (d + 2) ti (.iface tn x) (.iface tm y)).run P w = .ok false w := by
  have hne' : tn ≠ tm := by simpa using hne
  simp [Op.equalIn, run_underlying hi, hne']
theorem q_eql_types {ti tn tm : TypeId} {ms : Array (String × TypeId)} (x y : Value) (hi : P.underlying ti = some (.interface ms)) (hne : (tn == tm) = false) :
    (binOp .eql ti (.iface tn x) (.iface tm y)).run P w = .ok (.bool false) w := by
  simp only [binOp]
  simp [Op.equal, Op.maxDepth, q_equalIn_types w 9998 x y hi hne]
end

theorem q_isTypeOf (v : Value) (w : World) : (Extern.ReflectliteType.typeOf #[.iface 27 v]).run Tryd.prog w = .ok (.iface 99 (.agg #[.pointer (some ⟨4, 27, none⟩)])) w := by kernel_rfl
theorem q_isComparable (w : World) : ((Extern.ReflectliteType.method fun t => do Rtype.noPackHeld "Comparable" t; (fun a => Value.bool a.comparable) <$> typeInfo t) #[.agg #[.pointer (some ⟨4, 27, none⟩)]]).run Tryd.prog w = .ok (.bool true) w := by kernel_rfl
theorem q_isMethodComparable (v : Value) (w : World) : (Go.method 259 99 v "Comparable").run Tryd.prog w = .ok (77, v) w := by kernel_rfl
theorem q_noIsE (v : Value) (xT : TypeId) (w : World) : (Instr.typeAssert (.iface 27 v) xT 101 true).run Tryd.prog w = .ok (.tuple #[.nilIface, .bool false]) w := run_typeAssert_lacksB Tryd.underlying101 (by kernel_rfl) (by kernel_rfl) v xT w
theorem q_noUnwrapE (v : Value) (xT : TypeId) (w : World) : (Instr.typeAssert (.iface 27 v) xT 104 true).run Tryd.prog w = .ok (.tuple #[.nilIface, .bool false]) w := run_typeAssert_lacksB Tryd.underlying104 (by kernel_rfl) (by kernel_rfl) v xT w
theorem q_noUnwrapsE (v : Value) (xT : TypeId) (w : World) : (Instr.typeAssert (.iface 27 v) xT 106 true).run Tryd.prog w = .ok (.tuple #[.nilIface, .bool false]) w := run_typeAssert_lacksB Tryd.underlying106 (by kernel_rfl) (by kernel_rfl) v xT w
theorem q_noIsF (v : Value) (xT : TypeId) (w : World) : (Instr.typeAssert (.iface 65 v) xT 101 true).run Tryd.prog w = .ok (.tuple #[.nilIface, .bool false]) w := run_typeAssert_lacksB Tryd.underlying101 (by kernel_rfl) (by kernel_rfl) v xT w
theorem q_hasUnwrapF (v : Value) (xT : TypeId) (w : World) : (Instr.typeAssert (.iface 65 v) xT 104 true).run Tryd.prog w = .ok (.tuple #[.iface 65 v, .bool true]) w := run_typeAssert_hasB Tryd.underlying104 (by kernel_rfl) v xT w
theorem q_methodUnwrap (v : Value) (w : World) : (Go.method 259 65 v "Unwrap").run Tryd.prog w = .ok (57, v) w := by kernel_rfl

theorem unwrap_c (F : Nat) (ev : Value) (w : World) (h : w.cell? ⟨F, 2, none⟩ = some ev) : Calls Tryd.prog 57 #[.pointer (some ⟨F, 0, none⟩)] w fun e w' => e = .returned ev ∧ w = w' := by
  go_enter Tryd.func57, Tryd.ntmps57
  go_wp2
  go_ret
  exact ⟨rfl, rfl⟩

set_option maxHeartbeats 4000000 in
theorem is_loop (F : Nat) (c code : Int) (w : World) (h : w.cell? ⟨F, 2, none⟩ = some (.iface 27 (.int .i64 c))) :
    Calls Tryd.prog 28 #[.iface 65 (.pointer (some ⟨F, 0, none⟩)), .iface 27 (.int .i64 code), .bool true] w fun e w' => e = .returned (.bool (c == code)) ∧ w = w' := by
  have e1 := q_eql_types (P := Tryd.prog) w (tn := 65) (tm := 27) (.pointer (some ⟨F, 0, none⟩)) (.int .i64 code) Tryd.underlying48 rfl
  have e2 := q_eql_int (P := Tryd.prog) w c code Tryd.underlying48 Tryd.underlying27 (by kernel_rfl)
  have a1 := q_noIsE
  have a2 := q_noUnwrapE
  have a3 := q_noUnwrapsE
  have a4 := q_noIsF
  have a5 := q_hasUnwrapF
  have a6 := q_methodUnwrap
  by_cases hc : c = code
  · have hc' : (c == code) = true := by simp [hc]
    rw [hc']
    clear hc
    go_enter Tryd.func28, Tryd.ntmps28
    go_wp2
    refine wp_loop_rounds 2 ?_
    rw [rounds_succ]
    go_wp2_with (go_at_call 57; refine (unwrap_c F _ _ h).mono ?_; rintro e w' ⟨rfl, rfl⟩)
    rw [rounds_succ]
    go_wp2
    go_ret
    exact ⟨rfl, rfl⟩
  · have hc' : (c == code) = false := by simp [hc]
    rw [hc']
    clear hc
    go_enter Tryd.func28, Tryd.ntmps28
    go_wp2
    refine wp_loop_rounds 2 ?_
    rw [rounds_succ]
    go_wp2_with (go_at_call 57; refine (unwrap_c F _ _ h).mono ?_; rintro e w' ⟨rfl, rfl⟩)
    rw [rounds_succ]
    go_wp2
    go_ret
    exact ⟨rfl, rfl⟩
set_option maxHeartbeats 4000000 in
theorem is_c (F : Nat) (c code : Int) (w : World) (h : w.cell? ⟨F, 2, none⟩ = some (.iface 27 (.int .i64 c))) :
    Calls Tryd.prog 20 #[.iface 65 (.pointer (some ⟨F, 0, none⟩)), .iface 27 (.int .i64 code)] w fun e w' => e = .returned (.bool (c == code)) ∧ w = w' := by
  have h8 := @run_callFunc_extern Tryd.prog 27 _ Extern.ReflectliteType.typeOf Tryd.func27 (by kernel_rfl) (by kernel_rfl) (by kernel_rfl) (by kernel_rfl)
  have h32 := @run_callFunc_extern Tryd.prog 77 _ (Extern.ReflectliteType.method fun t => do Rtype.noPackHeld "Comparable" t; pure (.bool (← typeInfo t).comparable)) Tryd.func77 (by kernel_rfl) (by kernel_rfl) (by kernel_rfl) (by kernel_rfl)
  have tT := q_isTypeOf
  have cT := q_isComparable
  have mR := q_isMethodComparable
  go_enter Tryd.func20, Tryd.ntmps20
  go_wp2_with (go_at_call 28; refine (is_loop F c code _ h).mono ?_; rintro e w' ⟨rfl, rfl⟩)
  go_ret
  exact ⟨rfl, rfl⟩
end Go.Proofs.YtdlefdlnnclcaaaDoor.Err
