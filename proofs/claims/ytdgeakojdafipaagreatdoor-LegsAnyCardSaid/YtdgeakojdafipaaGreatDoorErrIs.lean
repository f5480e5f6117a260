import Derived.Test.YtdgeakojdafipaaGreatDoorBase
import Derived.WalkKit
import Derived.LaidEql
import Derived.Stop.Asserts
import Derived.RowKitTokens
/-! errors.Is of a Fault and a number's error (after the guide's worked text of errors.Is, SentryIs; the law on two errors of one integer type after its note 10). -/
set_option linter.unusedVariables false
set_option linter.unusedSimpArgs false
namespace Go.Proofs.YtdgeakojdafipaaGreatDoor.Err
open Go.RowKit Go.Extern.Stop Go.Stop Go.Extern Go.Proofs.YtdgeakojdafipaaGreatDoor.B

section
variable {P : Program} (w : World)
theorem q_equalIn_int (d : Nat) {ti tn : TypeId} {ms : Array (String × TypeId)} {i : TypeInfo} {k : IntKind} (a b : Int)
    (hi : P.underlying ti = some (.interface ms)) (hn : P.underlying tn = some (.int k)) (hinfo : P.info? tn = some i) (hcomp : i.comparable = true) :
    (Op.equalIn (d + 2) ti (.iface tn (.int k a)) (.iface tn (.int k b))).run P w = .ok (a == b) w := by
  simp [Op.equalIn, run_underlying hi, run_underlying hn, typeInfo, hinfo, hcomp]
/-- 'x == y', both interface values of one integer type: as the numbers are. -/
theorem q_eql_int {ti tn : TypeId} {ms : Array (String × TypeId)} {k : IntKind} (a b : Int)
    (hi : P.underlying ti = some (.interface ms)) (hn : P.underlying tn = some (.int k)) (hinfo : (P.info? tn).map (·.comparable) = some true) :
    (binOp .eql ti (.iface tn (.int k a)) (.iface tn (.int k b))).run P w = .ok (.bool (a == b)) w := by
  obtain ⟨i, h1, h2⟩ := Option.map_eq_some_iff.1 hinfo
  simp only [binOp]
  simp [Op.equal, Op.maxDepth, q_equalIn_int w 9998 a b hi hn h1 h2]
theorem q_equalIn_types (d : Nat) {ti tn tm : TypeId} {ms : Array (String × TypeId)} (x y : Value) (hi : P.underlying ti = some (.interface ms)) (hne : (tn == tm) = false) :
    (Op.equalIn (d + 2) ti (.iface tn x) (.iface tm y)).run P w = .ok false w := by
  have hne' : tn ≠ tm := by simpa using hne
  simp [Op.equalIn, run_underlying hi, hne']
theorem q_eql_types {ti tn tm : TypeId} {ms : Array (String × TypeId)} (x y : Value) (hi : P.underlying ti = some (.interface ms)) (hne : (tn == tm) = false) :
    (binOp .eql ti (.iface tn x) (.iface tm y)).run P w = .ok (.bool false) w := by
  simp only [binOp]
  simp [Op.equal, Op.maxDepth, q_equalIn_types w 9998 x y hi hne]
end

theorem q_isTypeOf (v : Value) (w : World) : (Extern.ReflectliteType.typeOf #[.iface 47 v]).run Tryz.prog w = .ok (.iface 118 (.agg #[.pointer (some ⟨5, 47, none⟩)])) w := by kernel_rfl
theorem q_isComparable (w : World) : ((Extern.ReflectliteType.method fun t => do Rtype.noPackHeld "Comparable" t; (fun a => Value.bool a.comparable) <$> typeInfo t) #[.agg #[.pointer (some ⟨5, 47, none⟩)]]).run Tryz.prog w = .ok (.bool true) w := by kernel_rfl
theorem q_isMethodComparable (v : Value) (w : World) : (Go.method 284 118 v "Comparable").run Tryz.prog w = .ok (119, v) w := by kernel_rfl
theorem q_noIsE (v : Value) (xT : TypeId) (w : World) : (Instr.typeAssert (.iface 47 v) xT 120 true).run Tryz.prog w = .ok (.tuple #[.nilIface, .bool false]) w := run_typeAssert_lacksB Tryz.underlying120 (by kernel_rfl) (by kernel_rfl) v xT w
theorem q_noUnwrapE (v : Value) (xT : TypeId) (w : World) : (Instr.typeAssert (.iface 47 v) xT 123 true).run Tryz.prog w = .ok (.tuple #[.nilIface, .bool false]) w := run_typeAssert_lacksB Tryz.underlying123 (by kernel_rfl) (by kernel_rfl) v xT w
theorem q_noUnwrapsE (v : Value) (xT : TypeId) (w : World) : (Instr.typeAssert (.iface 47 v) xT 125 true).run Tryz.prog w = .ok (.tuple #[.nilIface, .bool false]) w := run_typeAssert_lacksB Tryz.underlying125 (by kernel_rfl) (by kernel_rfl) v xT w
theorem q_noIsF (v : Value) (xT : TypeId) (w : World) : (Instr.typeAssert (.iface 60 v) xT 120 true).run Tryz.prog w = .ok (.tuple #[.nilIface, .bool false]) w := run_typeAssert_lacksB Tryz.underlying120 (by kernel_rfl) (by kernel_rfl) v xT w
theorem q_hasUnwrapF (v : Value) (xT : TypeId) (w : World) : (Instr.typeAssert (.iface 60 v) xT 123 true).run Tryz.prog w = .ok (.tuple #[.iface 60 v, .bool true]) w := run_typeAssert_hasB Tryz.underlying123 (by kernel_rfl) v xT w
theorem q_methodUnwrap (v : Value) (w : World) : (Go.method 284 60 v "Unwrap").run Tryz.prog w = .ok (110, v) w := by kernel_rfl

theorem unwrap_c (F : Nat) (ev : Value) (w : World) (h : w.cell? ⟨F, 2, none⟩ = some ev) : Calls Tryz.prog 110 #[.pointer (some ⟨F, 0, none⟩)] w fun e w' => e = .returned ev ∧ w = w' := by
  go_enter Tryz.func110, Tryz.ntmps110
  go_wp2
  go_ret
  exact ⟨rfl, rfl⟩

set_option maxHeartbeats 4000000 in
theorem is_loop (F : Nat) (c code : Int) (w : World) (h : w.cell? ⟨F, 2, none⟩ = some (.iface 47 (.int .i64 c))) :
    Calls Tryz.prog 46 #[.iface 60 (.pointer (some ⟨F, 0, none⟩)), .iface 47 (.int .i64 code), .bool true] w fun e w' => e = .returned (.bool (c == code)) ∧ w = w' := by
  have e1 := q_eql_types (P := Tryz.prog) w (tn := 60) (tm := 47) (.pointer (some ⟨F, 0, none⟩)) (.int .i64 code) Tryz.underlying31 rfl
  have e2 := q_eql_int (P := Tryz.prog) w c code Tryz.underlying31 Tryz.underlying47 (by kernel_rfl)
  have a1 := q_noIsE
  have a2 := q_noUnwrapE
  have a3 := q_noUnwrapsE
  have a4 := q_noIsF
  have a5 := q_hasUnwrapF
  have a6 := q_methodUnwrap
  by_cases hc : c = code
  · have hc' : (c == code) = true := by simp [hc]
    rw [hc']
    clear hc
    go_enter Tryz.func46, Tryz.ntmps46
    go_wp2
    refine wp_loop_rounds 2 ?_
    rw [rounds_succ]
    go_wp2_with (go_at_call 110; refine (unwrap_c F _ _ h).mono ?_; rintro e w' ⟨rfl, rfl⟩)
    rw [rounds_succ]
    go_wp2
    go_ret
    exact ⟨rfl, rfl⟩
  · have hc' : (c == code) = false := by simp [hc]
    rw [hc']
    clear hc
    go_enter Tryz.func46, Tryz.ntmps46
    go_wp2
    refine wp_loop_rounds 2 ?_
    rw [rounds_succ]
    go_wp2_with (go_at_call 110; refine (unwrap_c F _ _ h).mono ?_; rintro e w' ⟨rfl, rfl⟩)
    rw [rounds_succ]
    go_wp2
    go_ret
    exact ⟨rfl, rfl⟩
set_option maxHeartbeats 4000000 in
theorem is_c (F : Nat) (c code : Int) (w : World) (h : w.cell? ⟨F, 2, none⟩ = some (.iface 47 (.int .i64 c))) :
    Calls Tryz.prog 27 #[.iface 60 (.pointer (some ⟨F, 0, none⟩)), .iface 47 (.int .i64 code)] w fun e w' => e = .returned (.bool (c == code)) ∧ w = w' := by
  have h8 := @run_callFunc_extern Tryz.prog 45 _ Extern.ReflectliteType.typeOf Tryz.func45 (by kernel_rfl) (by kernel_rfl) (by kernel_rfl) (by kernel_rfl)
  have h32 := @run_callFunc_extern Tryz.prog 119 _ (Extern.ReflectliteType.method fun t => do Rtype.noPackHeld "Comparable" t; pure (.bool (← typeInfo t).comparable)) Tryz.func119 (by kernel_rfl) (by kernel_rfl) (by kernel_rfl) (by kernel_rfl)
  have tT := q_isTypeOf
  have cT := q_isComparable
  have mR := q_isMethodComparable
  go_enter Tryz.func27, Tryz.ntmps27
  go_wp2_with (go_at_call 46; refine (is_loop F c code _ h).mono ?_; rintro e w' ⟨rfl, rfl⟩)
  go_ret
  exact ⟨rfl, rfl⟩
end Go.Proofs.YtdgeakojdafipaaGreatDoor.Err
