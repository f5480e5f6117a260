import Derived.Test.YtcbhddajkleleaaDoorMsgC
import Derived.Laws.StructEq
/-! '==' of a message's arrays. -/
set_option linter.unusedVariables false
set_option linter.unusedSimpArgs false
namespace Go.Proofs.YtcbhddajkleleaaDoor.Msg
open Go.RowKit Go.Proofs.YtcbhddajkleleaaDoorW.PrintWords Go.Proofs.YtcbhddajkleleaaDoor.B Go.Proofs.YtcbhddajkleleaaDoor.Codec

set_option maxHeartbeats 1000000 in
theorem eqv6 (d : Nat) (w : World) (a0 a1 a2 a3 a4 a5 b0 b1 b2 b3 b4 b5 : Int) :
    (Op.equalIn (d + 1 + 1) 26 (.agg #[.int .i64 a0, .int .i64 a1, .int .i64 a2, .int .i64 a3, .int .i64 a4, .int .i64 a5]) (.agg #[.int .i64 b0, .int .i64 b1, .int .i64 b2, .int .i64 b3, .int .i64 b4, .int .i64 b5])).run Tryd.prog w = .ok (decide ([a0, a1, a2, a3, a4, a5] = [b0, b1, b2, b3, b4, b5])) w := by
  have hp : ∀ (xs : Array Value) (i : Nat) (v : Value) (w : World), xs[i]? = some v → (part 2 xs i).run Tryd.prog w = .ok v w := fun xs i v w h => by
    simp only [part, Sem.run_bind, Tryd.isAgg2, Result.andThen_ok]
    simp [h]
  have hq : ∀ (a b : Int) (w : World), (Op.equalIn (d + 1) 2 (.int .i64 a) (.int .i64 b)).run Tryd.prog w = .ok (a == b) w := fun a b w => run_equalIn_int w d 2 .i64 .i64 a b Tryd.underlying2
  rw [Op.equalIn]
  simp only [Sem.run_bind, run_underlying Tryd.underlying26, Result.andThen_ok, Tryd.sizeOf2, Std.Legacy.Range.forIn_eq_forIn_range', Std.Legacy.Range.size, List.range'_succ, List.range'_zero, List.forIn_cons, List.forIn_nil]
  have pa0 : ∀ w, (part 2 #[.int .i64 a0, .int .i64 a1, .int .i64 a2, .int .i64 a3, .int .i64 a4, .int .i64 a5] 0).run Tryd.prog w = .ok (.int .i64 a0) w := fun w => hp _ _ _ w rfl
  have pb0 : ∀ w, (part 2 #[.int .i64 b0, .int .i64 b1, .int .i64 b2, .int .i64 b3, .int .i64 b4, .int .i64 b5] 0).run Tryd.prog w = .ok (.int .i64 b0) w := fun w => hp _ _ _ w rfl
  have pa1 : ∀ w, (part 2 #[.int .i64 a0, .int .i64 a1, .int .i64 a2, .int .i64 a3, .int .i64 a4, .int .i64 a5] 1).run Tryd.prog w = .ok (.int .i64 a1) w := fun w => hp _ _ _ w rfl
  have pb1 : ∀ w, (part 2 #[.int .i64 b0, .int .i64 b1, .int .i64 b2, .int .i64 b3, .int .i64 b4, .int .i64 b5] 1).run Tryd.prog w = .ok (.int .i64 b1) w := fun w => hp _ _ _ w rfl
  have pa2 : ∀ w, (part 2 #[.int .i64 a0, .int .i64 a1, .int .i64 a2, .int .i64 a3, .int .i64 a4, .int .i64 a5] 2).run Tryd.prog w = .ok (.int .i64 a2) w := fun w => hp _ _ _ w rfl
  have pb2 : ∀ w, (part 2 #[.int .i64 b0, .int .i64 b1, .int .i64 b2, .int .i64 b3, .int .i64 b4, .int .i64 b5] 2).run Tryd.prog w = .ok (.int .i64 b2) w := fun w => hp _ _ _ w rfl
  have pa3 : ∀ w, (part 2 #[.int .i64 a0, .int .i64 a1, .int .i64 a2, .int .i64 a3, .int .i64 a4, .int .i64 a5] 3).run Tryd.prog w = .ok (.int .i64 a3) w := fun w => hp _ _ _ w rfl
  have pb3 : ∀ w, (part 2 #[.int .i64 b0, .int .i64 b1, .int .i64 b2, .int .i64 b3, .int .i64 b4, .int .i64 b5] 3).run Tryd.prog w = .ok (.int .i64 b3) w := fun w => hp _ _ _ w rfl
  have pa4 : ∀ w, (part 2 #[.int .i64 a0, .int .i64 a1, .int .i64 a2, .int .i64 a3, .int .i64 a4, .int .i64 a5] 4).run Tryd.prog w = .ok (.int .i64 a4) w := fun w => hp _ _ _ w rfl
  have pb4 : ∀ w, (part 2 #[.int .i64 b0, .int .i64 b1, .int .i64 b2, .int .i64 b3, .int .i64 b4, .int .i64 b5] 4).run Tryd.prog w = .ok (.int .i64 b4) w := fun w => hp _ _ _ w rfl
  have pa5 : ∀ w, (part 2 #[.int .i64 a0, .int .i64 a1, .int .i64 a2, .int .i64 a3, .int .i64 a4, .int .i64 a5] 5).run Tryd.prog w = .ok (.int .i64 a5) w := fun w => hp _ _ _ w rfl
  have pb5 : ∀ w, (part 2 #[.int .i64 b0, .int .i64 b1, .int .i64 b2, .int .i64 b3, .int .i64 b4, .int .i64 b5] 5).run Tryd.prog w = .ok (.int .i64 b5) w := fun w => hp _ _ _ w rfl
  simp only [Nat.zero_add, Nat.zero_mul, Nat.mul_one, Nat.reduceAdd]
  generalize (#[.int .i64 a0, .int .i64 a1, .int .i64 a2, .int .i64 a3, .int .i64 a4, .int .i64 a5] : Array Value) = XA at *
  generalize (#[.int .i64 b0, .int .i64 b1, .int .i64 b2, .int .i64 b3, .int .i64 b4, .int .i64 b5] : Array Value) = XB at *
  clear hp
  by_cases h0 : a0 = b0
  rotate_left
  · simp [pa0, pb0, hq, h0]
  by_cases h1 : a1 = b1
  rotate_left
  · simp [pa0, pb0, pa1, pb1, hq, h0, h1]
  by_cases h2 : a2 = b2
  rotate_left
  · simp [pa0, pb0, pa1, pb1, pa2, pb2, hq, h0, h1, h2]
  by_cases h3 : a3 = b3
  rotate_left
  · simp [pa0, pb0, pa1, pb1, pa2, pb2, pa3, pb3, hq, h0, h1, h2, h3]
  by_cases h4 : a4 = b4
  rotate_left
  · simp [pa0, pb0, pa1, pb1, pa2, pb2, pa3, pb3, pa4, pb4, hq, h0, h1, h2, h3, h4]
  by_cases h5 : a5 = b5
  rotate_left
  · simp [pa0, pb0, pa1, pb1, pa2, pb2, pa3, pb3, pa4, pb4, pa5, pb5, hq, h0, h1, h2, h3, h4, h5]
  simp [pa0, pb0, pa1, pb1, pa2, pb2, pa3, pb3, pa4, pb4, pa5, pb5, hq, h0, h1, h2, h3, h4, h5]
theorem eql6 (a0 a1 a2 a3 a4 a5 b0 b1 b2 b3 b4 b5 : Int) (w : World) : (binOp .eql 26 (.agg #[.int .i64 a0, .int .i64 a1, .int .i64 a2, .int .i64 a3, .int .i64 a4, .int .i64 a5]) (.agg #[.int .i64 b0, .int .i64 b1, .int .i64 b2, .int .i64 b3, .int .i64 b4, .int .i64 b5])).run Tryd.prog w = .ok (.bool (decide ([a0, a1, a2, a3, a4, a5] = [b0, b1, b2, b3, b4, b5]))) w := by
  rw [run_eql_struct, show (10000 : Nat) = 9998 + 1 + 1 from rfl, eqv6]
  rfl
theorem neq6 (a0 a1 a2 a3 a4 a5 b0 b1 b2 b3 b4 b5 : Int) (w : World) : (binOp .neq 26 (.agg #[.int .i64 a0, .int .i64 a1, .int .i64 a2, .int .i64 a3, .int .i64 a4, .int .i64 a5]) (.agg #[.int .i64 b0, .int .i64 b1, .int .i64 b2, .int .i64 b3, .int .i64 b4, .int .i64 b5])).run Tryd.prog w = .ok (.bool (!decide ([a0, a1, a2, a3, a4, a5] = [b0, b1, b2, b3, b4, b5]))) w := by
  rw [run_neq_struct, show (10000 : Nat) = 9998 + 1 + 1 from rfl, eqv6]
  rfl
set_option maxHeartbeats 1000000 in
theorem eqv5 (d : Nat) (w : World) (a0 a1 a2 a3 a4 b0 b1 b2 b3 b4 : Int) :
    (Op.equalIn (d + 1 + 1) 42 (.agg #[.int .i64 a0, .int .i64 a1, .int .i64 a2, .int .i64 a3, .int .i64 a4]) (.agg #[.int .i64 b0, .int .i64 b1, .int .i64 b2, .int .i64 b3, .int .i64 b4])).run Tryd.prog w = .ok (decide ([a0, a1, a2, a3, a4] = [b0, b1, b2, b3, b4])) w := by
  have hp : ∀ (xs : Array Value) (i : Nat) (v : Value) (w : World), xs[i]? = some v → (part 2 xs i).run Tryd.prog w = .ok v w := fun xs i v w h => by
    simp only [part, Sem.run_bind, Tryd.isAgg2, Result.andThen_ok]
    simp [h]
  have hq : ∀ (a b : Int) (w : World), (Op.equalIn (d + 1) 2 (.int .i64 a) (.int .i64 b)).run Tryd.prog w = .ok (a == b) w := fun a b w => run_equalIn_int w d 2 .i64 .i64 a b Tryd.underlying2
  rw [Op.equalIn]
  simp only [Sem.run_bind, run_underlying Tryd.underlying42, Result.andThen_ok, Tryd.sizeOf2, Std.Legacy.Range.forIn_eq_forIn_range', Std.Legacy.Range.size, List.range'_succ, List.range'_zero, List.forIn_cons, List.forIn_nil]
  have pa0 : ∀ w, (part 2 #[.int .i64 a0, .int .i64 a1, .int .i64 a2, .int .i64 a3, .int .i64 a4] 0).run Tryd.prog w = .ok (.int .i64 a0) w := fun w => hp _ _ _ w rfl
  have pb0 : ∀ w, (part 2 #[.int .i64 b0, .int .i64 b1, .int .i64 b2, .int .i64 b3, .int .i64 b4] 0).run Tryd.prog w = .ok (.int .i64 b0) w := fun w => hp _ _ _ w rfl
  have pa1 : ∀ w, (part 2 #[.int .i64 a0, .int .i64 a1, .int .i64 a2, .int .i64 a3, .int .i64 a4] 1).run Tryd.prog w = .ok (.int .i64 a1) w := fun w => hp _ _ _ w rfl
  have pb1 : ∀ w, (part 2 #[.int .i64 b0, .int .i64 b1, .int .i64 b2, .int .i64 b3, .int .i64 b4] 1).run Tryd.prog w = .ok (.int .i64 b1) w := fun w => hp _ _ _ w rfl
  have pa2 : ∀ w, (part 2 #[.int .i64 a0, .int .i64 a1, .int .i64 a2, .int .i64 a3, .int .i64 a4] 2).run Tryd.prog w = .ok (.int .i64 a2) w := fun w => hp _ _ _ w rfl
  have pb2 : ∀ w, (part 2 #[.int .i64 b0, .int .i64 b1, .int .i64 b2, .int .i64 b3, .int .i64 b4] 2).run Tryd.prog w = .ok (.int .i64 b2) w := fun w => hp _ _ _ w rfl
  have pa3 : ∀ w, (part 2 #[.int .i64 a0, .int .i64 a1, .int .i64 a2, .int .i64 a3, .int .i64 a4] 3).run Tryd.prog w = .ok (.int .i64 a3) w := fun w => hp _ _ _ w rfl
  have pb3 : ∀ w, (part 2 #[.int .i64 b0, .int .i64 b1, .int .i64 b2, .int .i64 b3, .int .i64 b4] 3).run Tryd.prog w = .ok (.int .i64 b3) w := fun w => hp _ _ _ w rfl
  have pa4 : ∀ w, (part 2 #[.int .i64 a0, .int .i64 a1, .int .i64 a2, .int .i64 a3, .int .i64 a4] 4).run Tryd.prog w = .ok (.int .i64 a4) w := fun w => hp _ _ _ w rfl
  have pb4 : ∀ w, (part 2 #[.int .i64 b0, .int .i64 b1, .int .i64 b2, .int .i64 b3, .int .i64 b4] 4).run Tryd.prog w = .ok (.int .i64 b4) w := fun w => hp _ _ _ w rfl
  simp only [Nat.zero_add, Nat.zero_mul, Nat.mul_one, Nat.reduceAdd]
  generalize (#[.int .i64 a0, .int .i64 a1, .int .i64 a2, .int .i64 a3, .int .i64 a4] : Array Value) = XA at *
  generalize (#[.int .i64 b0, .int .i64 b1, .int .i64 b2, .int .i64 b3, .int .i64 b4] : Array Value) = XB at *
  clear hp
  by_cases h0 : a0 = b0
  rotate_left
  · simp [pa0, pb0, hq, h0]
  by_cases h1 : a1 = b1
  rotate_left
  · simp [pa0, pb0, pa1, pb1, hq, h0, h1]
  by_cases h2 : a2 = b2
  rotate_left
  · simp [pa0, pb0, pa1, pb1, pa2, pb2, hq, h0, h1, h2]
  by_cases h3 : a3 = b3
  rotate_left
  · simp [pa0, pb0, pa1, pb1, pa2, pb2, pa3, pb3, hq, h0, h1, h2, h3]
  by_cases h4 : a4 = b4
  rotate_left
  · simp [pa0, pb0, pa1, pb1, pa2, pb2, pa3, pb3, pa4, pb4, hq, h0, h1, h2, h3, h4]
  simp [pa0, pb0, pa1, pb1, pa2, pb2, pa3, pb3, pa4, pb4, hq, h0, h1, h2, h3, h4]
theorem eql5 (a0 a1 a2 a3 a4 b0 b1 b2 b3 b4 : Int) (w : World) : (binOp .eql 42 (.agg #[.int .i64 a0, .int .i64 a1, .int .i64 a2, .int .i64 a3, .int .i64 a4]) (.agg #[.int .i64 b0, .int .i64 b1, .int .i64 b2, .int .i64 b3, .int .i64 b4])).run Tryd.prog w = .ok (.bool (decide ([a0, a1, a2, a3, a4] = [b0, b1, b2, b3, b4]))) w := by
  rw [run_eql_struct, show (10000 : Nat) = 9998 + 1 + 1 from rfl, eqv5]
  rfl
theorem neq5 (a0 a1 a2 a3 a4 b0 b1 b2 b3 b4 : Int) (w : World) : (binOp .neq 42 (.agg #[.int .i64 a0, .int .i64 a1, .int .i64 a2, .int .i64 a3, .int .i64 a4]) (.agg #[.int .i64 b0, .int .i64 b1, .int .i64 b2, .int .i64 b3, .int .i64 b4])).run Tryd.prog w = .ok (.bool (!decide ([a0, a1, a2, a3, a4] = [b0, b1, b2, b3, b4]))) w := by
  rw [run_neq_struct, show (10000 : Nat) = 9998 + 1 + 1 from rfl, eqv5]
  rfl
end Go.Proofs.YtcbhddajkleleaaDoor.Msg
