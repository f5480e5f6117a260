import Derived.Test.YtcbhddajkleleaaDoorOpenArr
/-! Structures and kinds of Go's struct types (written by wip/kinds.py over the kit's own kinds). -/
set_option linter.unusedVariables false
set_option linter.unusedSimpArgs false
namespace Go.Proofs.YtcbhddajkleleaaDoor.Msg
open Go.Proofs.YtcbhddajkleleaaDoor.B Go.RowKit Go.Proofs.YtcbhddajkleleaaDoorW.PrintWords
/-! #### Arr6 -/
structure Arr6 where
  r0 : Int
  r1 : Int
  r2 : Int
  r3 : Int
  r4 : Int
  r5 : Int
def zArr6 : Arr6 := ⟨(0 : Int), (0 : Int), (0 : Int), (0 : Int), (0 : Int), (0 : Int)⟩
def kArr6 : Kd Arr6 := Kd.iso (Kd.pair (Kd.int .i64) (Kd.pair (Kd.int .i64) (Kd.pair (Kd.int .i64) (Kd.pair (Kd.int .i64) (Kd.pair (Kd.int .i64) (Kd.int .i64)))))) (fun x : Arr6 => (x.r0, x.r1, x.r2, x.r3, x.r4, x.r5))
theorem kArr6_open {w : World} {x : Arr6} {cs : List Value} (h : kArr6.K w x cs) : cs = [.int .i64 x.r0, .int .i64 x.r1, .int .i64 x.r2, .int .i64 x.r3, .int .i64 x.r4, .int .i64 x.r5] := by
  obtain ⟨_, _, rfl, rfl, ⟨_, _, rfl, rfl, ⟨_, _, rfl, rfl, ⟨_, _, rfl, rfl, ⟨_, _, rfl, rfl, rfl⟩⟩⟩⟩⟩ := h
  exact rfl
theorem kArr6_openM {w : World} {base : Nat} {ok : Nat → Prop} {x : Arr6} {cs : List Value} (h : kArr6.M w base ok x cs) : cs = [.int .i64 x.r0, .int .i64 x.r1, .int .i64 x.r2, .int .i64 x.r3, .int .i64 x.r4, .int .i64 x.r5] := by
  obtain ⟨_, _, rfl, rfl, ⟨_, _, rfl, rfl, ⟨_, _, rfl, rfl, ⟨_, _, rfl, rfl, ⟨_, _, rfl, rfl, rfl⟩⟩⟩⟩⟩ := h
  exact rfl
theorem kArr6_mk (w : World) (x : Arr6)  : kArr6.K w x [.int .i64 x.r0, .int .i64 x.r1, .int .i64 x.r2, .int .i64 x.r3, .int .i64 x.r4, .int .i64 x.r5] := ⟨[.int .i64 x.r0], [.int .i64 x.r1, .int .i64 x.r2, .int .i64 x.r3, .int .i64 x.r4, .int .i64 x.r5], rfl, rfl, ⟨[.int .i64 x.r1], [.int .i64 x.r2, .int .i64 x.r3, .int .i64 x.r4, .int .i64 x.r5], rfl, rfl, ⟨[.int .i64 x.r2], [.int .i64 x.r3, .int .i64 x.r4, .int .i64 x.r5], rfl, rfl, ⟨[.int .i64 x.r3], [.int .i64 x.r4, .int .i64 x.r5], rfl, rfl, ⟨[.int .i64 x.r4], [.int .i64 x.r5], rfl, rfl, rfl⟩⟩⟩⟩⟩
theorem kArr6_mkM (w : World) (base : Nat) (ok : Nat → Prop) (x : Arr6)  : kArr6.M w base ok x [.int .i64 x.r0, .int .i64 x.r1, .int .i64 x.r2, .int .i64 x.r3, .int .i64 x.r4, .int .i64 x.r5] := ⟨[.int .i64 x.r0], [.int .i64 x.r1, .int .i64 x.r2, .int .i64 x.r3, .int .i64 x.r4, .int .i64 x.r5], rfl, rfl, ⟨[.int .i64 x.r1], [.int .i64 x.r2, .int .i64 x.r3, .int .i64 x.r4, .int .i64 x.r5], rfl, rfl, ⟨[.int .i64 x.r2], [.int .i64 x.r3, .int .i64 x.r4, .int .i64 x.r5], rfl, rfl, ⟨[.int .i64 x.r3], [.int .i64 x.r4, .int .i64 x.r5], rfl, rfl, ⟨[.int .i64 x.r4], [.int .i64 x.r5], rfl, rfl, rfl⟩⟩⟩⟩⟩
def rd_Arr6 (xs : List Arr6) (i : Int) : Arr6 := xs.getD i.toNat zArr6
theorem at_Arr6 {w : World} {A : Option Addr} {n : Nat} {xs : List Arr6} (h : Kd.C kArr6 w A n xs) (i : Int) (h0 : 0 ≤ i) (h1 : i < n) : ∃ ad , A = some ad ∧ w.cell? (ad.add (i.toNat * 6)) = some (.int .i64 (rd_Arr6 xs i).r0) ∧ w.cell? ⟨(ad.add (i.toNat * 6)).block, (ad.add (i.toNat * 6)).off + 1, none⟩ = some (.int .i64 (rd_Arr6 xs i).r1) ∧ w.cell? ⟨(ad.add (i.toNat * 6)).block, (ad.add (i.toNat * 6)).off + 2, none⟩ = some (.int .i64 (rd_Arr6 xs i).r2) ∧ w.cell? ⟨(ad.add (i.toNat * 6)).block, (ad.add (i.toNat * 6)).off + 3, none⟩ = some (.int .i64 (rd_Arr6 xs i).r3) ∧ w.cell? ⟨(ad.add (i.toNat * 6)).block, (ad.add (i.toNat * 6)).off + 4, none⟩ = some (.int .i64 (rd_Arr6 xs i).r4) ∧ w.cell? ⟨(ad.add (i.toNat * 6)).block, (ad.add (i.toNat * 6)).off + 5, none⟩ = some (.int .i64 (rd_Arr6 xs i).r5) := by
  obtain ⟨ad, c, e, _, hK, hc0⟩ := Kd.C_get h zArr6 i h0 h1
  have hc : ∀ j u, c[j]? = some u → w.cell? (ad.add (i.toNat * 6 + j)) = some u := hc0
  obtain rfl := kArr6_open hK
  exact ⟨ad, e, hc 0 _ rfl, by rw [← add_field _ _ 1 (by omega)]; exact hc 1 _ rfl, by rw [← add_field _ _ 2 (by omega)]; exact hc 2 _ rfl, by rw [← add_field _ _ 3 (by omega)]; exact hc 3 _ rfl, by rw [← add_field _ _ 4 (by omega)]; exact hc 4 _ rfl, by rw [← add_field _ _ 5 (by omega)]; exact hc 5 _ rfl⟩

/-! #### straddle/msg.Row -/
structure Row where
  r0 : Int
  r1 : Int
  r2 : Int
  r3 : Int
  r4 : Int
def zRow : Row := ⟨(0 : Int), (0 : Int), (0 : Int), (0 : Int), (0 : Int)⟩
def kRow : Kd Row := Kd.iso (Kd.pair (Kd.int .i64) (Kd.pair (Kd.int .i64) (Kd.pair (Kd.int .i64) (Kd.pair (Kd.int .i64) (Kd.int .i64))))) (fun x : Row => (x.r0, x.r1, x.r2, x.r3, x.r4))
theorem kRow_open {w : World} {x : Row} {cs : List Value} (h : kRow.K w x cs) : cs = [.int .i64 x.r0, .int .i64 x.r1, .int .i64 x.r2, .int .i64 x.r3, .int .i64 x.r4] := by
  obtain ⟨_, _, rfl, rfl, ⟨_, _, rfl, rfl, ⟨_, _, rfl, rfl, ⟨_, _, rfl, rfl, rfl⟩⟩⟩⟩ := h
  exact rfl
theorem kRow_openM {w : World} {base : Nat} {ok : Nat → Prop} {x : Row} {cs : List Value} (h : kRow.M w base ok x cs) : cs = [.int .i64 x.r0, .int .i64 x.r1, .int .i64 x.r2, .int .i64 x.r3, .int .i64 x.r4] := by
  obtain ⟨_, _, rfl, rfl, ⟨_, _, rfl, rfl, ⟨_, _, rfl, rfl, ⟨_, _, rfl, rfl, rfl⟩⟩⟩⟩ := h
  exact rfl
theorem kRow_mk (w : World) (x : Row)  : kRow.K w x [.int .i64 x.r0, .int .i64 x.r1, .int .i64 x.r2, .int .i64 x.r3, .int .i64 x.r4] := ⟨[.int .i64 x.r0], [.int .i64 x.r1, .int .i64 x.r2, .int .i64 x.r3, .int .i64 x.r4], rfl, rfl, ⟨[.int .i64 x.r1], [.int .i64 x.r2, .int .i64 x.r3, .int .i64 x.r4], rfl, rfl, ⟨[.int .i64 x.r2], [.int .i64 x.r3, .int .i64 x.r4], rfl, rfl, ⟨[.int .i64 x.r3], [.int .i64 x.r4], rfl, rfl, rfl⟩⟩⟩⟩
theorem kRow_mkM (w : World) (base : Nat) (ok : Nat → Prop) (x : Row)  : kRow.M w base ok x [.int .i64 x.r0, .int .i64 x.r1, .int .i64 x.r2, .int .i64 x.r3, .int .i64 x.r4] := ⟨[.int .i64 x.r0], [.int .i64 x.r1, .int .i64 x.r2, .int .i64 x.r3, .int .i64 x.r4], rfl, rfl, ⟨[.int .i64 x.r1], [.int .i64 x.r2, .int .i64 x.r3, .int .i64 x.r4], rfl, rfl, ⟨[.int .i64 x.r2], [.int .i64 x.r3, .int .i64 x.r4], rfl, rfl, ⟨[.int .i64 x.r3], [.int .i64 x.r4], rfl, rfl, rfl⟩⟩⟩⟩
def rd_Row (xs : List Row) (i : Int) : Row := xs.getD i.toNat zRow
theorem at_Row {w : World} {A : Option Addr} {n : Nat} {xs : List Row} (h : Kd.C kRow w A n xs) (i : Int) (h0 : 0 ≤ i) (h1 : i < n) : ∃ ad , A = some ad ∧ w.cell? (ad.add (i.toNat * 5)) = some (.int .i64 (rd_Row xs i).r0) ∧ w.cell? ⟨(ad.add (i.toNat * 5)).block, (ad.add (i.toNat * 5)).off + 1, none⟩ = some (.int .i64 (rd_Row xs i).r1) ∧ w.cell? ⟨(ad.add (i.toNat * 5)).block, (ad.add (i.toNat * 5)).off + 2, none⟩ = some (.int .i64 (rd_Row xs i).r2) ∧ w.cell? ⟨(ad.add (i.toNat * 5)).block, (ad.add (i.toNat * 5)).off + 3, none⟩ = some (.int .i64 (rd_Row xs i).r3) ∧ w.cell? ⟨(ad.add (i.toNat * 5)).block, (ad.add (i.toNat * 5)).off + 4, none⟩ = some (.int .i64 (rd_Row xs i).r4) := by
  obtain ⟨ad, c, e, _, hK, hc0⟩ := Kd.C_get h zRow i h0 h1
  have hc : ∀ j u, c[j]? = some u → w.cell? (ad.add (i.toNat * 5 + j)) = some u := hc0
  obtain rfl := kRow_open hK
  exact ⟨ad, e, hc 0 _ rfl, by rw [← add_field _ _ 1 (by omega)]; exact hc 1 _ rfl, by rw [← add_field _ _ 2 (by omega)]; exact hc 2 _ rfl, by rw [← add_field _ _ 3 (by omega)]; exact hc 3 _ rfl, by rw [← add_field _ _ 4 (by omega)]; exact hc 4 _ rfl⟩

def rd_L3 (xs : List (List Row)) (i : Int) : (List Row) := xs.getD i.toNat ([] : List Row)
theorem at_L3 {w : World} {A : Option Addr} {n : Nat} {xs : List (List Row)} (h : Kd.C (Kd.slice 42 kRow) w A n xs) (i : Int) (h0 : 0 ≤ i) (h1 : i < n) : ∃ ad A0 c0, A = some ad ∧ w.cell? (ad.add i.toNat) = some (.slice A0 (rd_L3 xs i).length c0) ∧ (rd_L3 xs i).length ≤ c0 ∧ kRow.C w A0 (rd_L3 xs i).length (rd_L3 xs i) := by
  obtain ⟨ad, c, e, _, hK, hc0⟩ := Kd.C_get h ([] : List Row) i h0 h1
  have hc : ∀ j u, c[j]? = some u → w.cell? (ad.add (i.toNat * 1 + j)) = some u := hc0
  obtain ⟨A0, c0, rfl, l0, g0⟩ := hK
  exact ⟨ad, A0, c0, e, by have hq := hc 0 _ rfl; rwa [Nat.mul_one, Nat.add_zero] at hq, l0, g0⟩

/-! #### straddle/msg.Msg -/
structure Msg where
  Kind : Int
  Seq : Int
  A : Arr6
  L : (List Row)
def zMsg : Msg := ⟨(0 : Int), (0 : Int), zArr6, ([] : List Row)⟩
def kMsg : Kd Msg := Kd.iso (Kd.pair (Kd.int .i64) (Kd.pair (Kd.int .i64) (Kd.pair kArr6 (Kd.slice 42 kRow)))) (fun x : Msg => (x.Kind, x.Seq, x.A, x.L))
theorem kMsg_open {w : World} {x : Msg} {cs : List Value} (h : kMsg.K w x cs) : ∃ A8 c8, cs = [.int .i64 x.Kind, .int .i64 x.Seq, .int .i64 x.A.r0, .int .i64 x.A.r1, .int .i64 x.A.r2, .int .i64 x.A.r3, .int .i64 x.A.r4, .int .i64 x.A.r5, .slice A8 x.L.length c8] ∧ x.L.length ≤ c8 ∧ kRow.C w A8 x.L.length x.L := by
  obtain ⟨_, _, rfl, rfl, ⟨_, _, rfl, rfl, ⟨_, _, rfl, s2, ⟨A8, c8, rfl, l8, g8⟩⟩⟩⟩ := h
  obtain rfl := kArr6_open s2
  exact ⟨A8, c8, rfl, l8, g8⟩
theorem kMsg_openM {w : World} {base : Nat} {ok : Nat → Prop} {x : Msg} {cs : List Value} (h : kMsg.M w base ok x cs) : ∃ v8, cs = [.int .i64 x.Kind, .int .i64 x.Seq, .int .i64 x.A.r0, .int .i64 x.A.r1, .int .i64 x.A.r2, .int .i64 x.A.r3, .int .i64 x.A.r4, .int .i64 x.A.r5, v8] ∧ kRow.R 42 w base ok v8 x.L := by
  obtain ⟨_, _, rfl, rfl, ⟨_, _, rfl, rfl, ⟨_, _, rfl, s2, ⟨v8, rfl, g8⟩⟩⟩⟩ := h
  obtain rfl := kArr6_openM s2
  exact ⟨v8, rfl, g8⟩
theorem kMsg_mk (w : World) (x : Msg) {A8 : Option Addr} {c8 : Nat} (l8 : x.L.length ≤ c8) (g8 : kRow.C w A8 x.L.length x.L) : kMsg.K w x [.int .i64 x.Kind, .int .i64 x.Seq, .int .i64 x.A.r0, .int .i64 x.A.r1, .int .i64 x.A.r2, .int .i64 x.A.r3, .int .i64 x.A.r4, .int .i64 x.A.r5, .slice A8 x.L.length c8] := ⟨[.int .i64 x.Kind], [.int .i64 x.Seq, .int .i64 x.A.r0, .int .i64 x.A.r1, .int .i64 x.A.r2, .int .i64 x.A.r3, .int .i64 x.A.r4, .int .i64 x.A.r5, .slice A8 x.L.length c8], rfl, rfl, ⟨[.int .i64 x.Seq], [.int .i64 x.A.r0, .int .i64 x.A.r1, .int .i64 x.A.r2, .int .i64 x.A.r3, .int .i64 x.A.r4, .int .i64 x.A.r5, .slice A8 x.L.length c8], rfl, rfl, ⟨[.int .i64 x.A.r0, .int .i64 x.A.r1, .int .i64 x.A.r2, .int .i64 x.A.r3, .int .i64 x.A.r4, .int .i64 x.A.r5], [.slice A8 x.L.length c8], rfl, (kArr6_mk w x.A ), ⟨A8, c8, rfl, l8, g8⟩⟩⟩⟩
theorem kMsg_mkM (w : World) (base : Nat) (ok : Nat → Prop) (x : Msg) {v8 : Value} (g8 : kRow.R 42 w base ok v8 x.L) : kMsg.M w base ok x [.int .i64 x.Kind, .int .i64 x.Seq, .int .i64 x.A.r0, .int .i64 x.A.r1, .int .i64 x.A.r2, .int .i64 x.A.r3, .int .i64 x.A.r4, .int .i64 x.A.r5, v8] := ⟨[.int .i64 x.Kind], [.int .i64 x.Seq, .int .i64 x.A.r0, .int .i64 x.A.r1, .int .i64 x.A.r2, .int .i64 x.A.r3, .int .i64 x.A.r4, .int .i64 x.A.r5, v8], rfl, rfl, ⟨[.int .i64 x.Seq], [.int .i64 x.A.r0, .int .i64 x.A.r1, .int .i64 x.A.r2, .int .i64 x.A.r3, .int .i64 x.A.r4, .int .i64 x.A.r5, v8], rfl, rfl, ⟨[.int .i64 x.A.r0, .int .i64 x.A.r1, .int .i64 x.A.r2, .int .i64 x.A.r3, .int .i64 x.A.r4, .int .i64 x.A.r5], [v8], rfl, (kArr6_mkM w base ok x.A ), ⟨v8, rfl, g8⟩⟩⟩⟩
def rd_Msg (xs : List Msg) (i : Int) : Msg := xs.getD i.toNat zMsg
theorem at_Msg {w : World} {A : Option Addr} {n : Nat} {xs : List Msg} (h : Kd.C kMsg w A n xs) (i : Int) (h0 : 0 ≤ i) (h1 : i < n) : ∃ ad A8 c8, A = some ad ∧ w.cell? (ad.add (i.toNat * 9)) = some (.int .i64 (rd_Msg xs i).Kind) ∧ w.cell? ⟨(ad.add (i.toNat * 9)).block, (ad.add (i.toNat * 9)).off + 1, none⟩ = some (.int .i64 (rd_Msg xs i).Seq) ∧ w.cell? ⟨(ad.add (i.toNat * 9)).block, (ad.add (i.toNat * 9)).off + 2, none⟩ = some (.int .i64 (rd_Msg xs i).A.r0) ∧ w.cell? ⟨(ad.add (i.toNat * 9)).block, (ad.add (i.toNat * 9)).off + 3, none⟩ = some (.int .i64 (rd_Msg xs i).A.r1) ∧ w.cell? ⟨(ad.add (i.toNat * 9)).block, (ad.add (i.toNat * 9)).off + 4, none⟩ = some (.int .i64 (rd_Msg xs i).A.r2) ∧ w.cell? ⟨(ad.add (i.toNat * 9)).block, (ad.add (i.toNat * 9)).off + 5, none⟩ = some (.int .i64 (rd_Msg xs i).A.r3) ∧ w.cell? ⟨(ad.add (i.toNat * 9)).block, (ad.add (i.toNat * 9)).off + 6, none⟩ = some (.int .i64 (rd_Msg xs i).A.r4) ∧ w.cell? ⟨(ad.add (i.toNat * 9)).block, (ad.add (i.toNat * 9)).off + 7, none⟩ = some (.int .i64 (rd_Msg xs i).A.r5) ∧ w.cell? ⟨(ad.add (i.toNat * 9)).block, (ad.add (i.toNat * 9)).off + 8, none⟩ = some (.slice A8 (rd_Msg xs i).L.length c8) ∧ (rd_Msg xs i).L.length ≤ c8 ∧ kRow.C w A8 (rd_Msg xs i).L.length (rd_Msg xs i).L := by
  obtain ⟨ad, c, e, _, hK, hc0⟩ := Kd.C_get h zMsg i h0 h1
  have hc : ∀ j u, c[j]? = some u → w.cell? (ad.add (i.toNat * 9 + j)) = some u := hc0
  obtain ⟨A8, c8, rfl, l8, g8⟩ := kMsg_open hK
  exact ⟨ad, A8, c8, e, hc 0 _ rfl, by rw [← add_field _ _ 1 (by omega)]; exact hc 1 _ rfl, by rw [← add_field _ _ 2 (by omega)]; exact hc 2 _ rfl, by rw [← add_field _ _ 3 (by omega)]; exact hc 3 _ rfl, by rw [← add_field _ _ 4 (by omega)]; exact hc 4 _ rfl, by rw [← add_field _ _ 5 (by omega)]; exact hc 5 _ rfl, by rw [← add_field _ _ 6 (by omega)]; exact hc 6 _ rfl, by rw [← add_field _ _ 7 (by omega)]; exact hc 7 _ rfl, by rw [← add_field _ _ 8 (by omega)]; exact hc 8 _ rfl, l8, g8⟩

/-! #### straddle/straddleref4.Row -/
structure RRow where
  r0 : Int
  r1 : Int
  r2 : Int
  r3 : Int
  r4 : Int
def zRRow : RRow := ⟨(0 : Int), (0 : Int), (0 : Int), (0 : Int), (0 : Int)⟩
def kRRow : Kd RRow := Kd.iso (Kd.pair (Kd.int .i64) (Kd.pair (Kd.int .i64) (Kd.pair (Kd.int .i64) (Kd.pair (Kd.int .i64) (Kd.int .i64))))) (fun x : RRow => (x.r0, x.r1, x.r2, x.r3, x.r4))
theorem kRRow_open {w : World} {x : RRow} {cs : List Value} (h : kRRow.K w x cs) : cs = [.int .i64 x.r0, .int .i64 x.r1, .int .i64 x.r2, .int .i64 x.r3, .int .i64 x.r4] := by
  obtain ⟨_, _, rfl, rfl, ⟨_, _, rfl, rfl, ⟨_, _, rfl, rfl, ⟨_, _, rfl, rfl, rfl⟩⟩⟩⟩ := h
  exact rfl
theorem kRRow_openM {w : World} {base : Nat} {ok : Nat → Prop} {x : RRow} {cs : List Value} (h : kRRow.M w base ok x cs) : cs = [.int .i64 x.r0, .int .i64 x.r1, .int .i64 x.r2, .int .i64 x.r3, .int .i64 x.r4] := by
  obtain ⟨_, _, rfl, rfl, ⟨_, _, rfl, rfl, ⟨_, _, rfl, rfl, ⟨_, _, rfl, rfl, rfl⟩⟩⟩⟩ := h
  exact rfl
theorem kRRow_mk (w : World) (x : RRow)  : kRRow.K w x [.int .i64 x.r0, .int .i64 x.r1, .int .i64 x.r2, .int .i64 x.r3, .int .i64 x.r4] := ⟨[.int .i64 x.r0], [.int .i64 x.r1, .int .i64 x.r2, .int .i64 x.r3, .int .i64 x.r4], rfl, rfl, ⟨[.int .i64 x.r1], [.int .i64 x.r2, .int .i64 x.r3, .int .i64 x.r4], rfl, rfl, ⟨[.int .i64 x.r2], [.int .i64 x.r3, .int .i64 x.r4], rfl, rfl, ⟨[.int .i64 x.r3], [.int .i64 x.r4], rfl, rfl, rfl⟩⟩⟩⟩
theorem kRRow_mkM (w : World) (base : Nat) (ok : Nat → Prop) (x : RRow)  : kRRow.M w base ok x [.int .i64 x.r0, .int .i64 x.r1, .int .i64 x.r2, .int .i64 x.r3, .int .i64 x.r4] := ⟨[.int .i64 x.r0], [.int .i64 x.r1, .int .i64 x.r2, .int .i64 x.r3, .int .i64 x.r4], rfl, rfl, ⟨[.int .i64 x.r1], [.int .i64 x.r2, .int .i64 x.r3, .int .i64 x.r4], rfl, rfl, ⟨[.int .i64 x.r2], [.int .i64 x.r3, .int .i64 x.r4], rfl, rfl, ⟨[.int .i64 x.r3], [.int .i64 x.r4], rfl, rfl, rfl⟩⟩⟩⟩
def rd_RRow (xs : List RRow) (i : Int) : RRow := xs.getD i.toNat zRRow
theorem at_RRow {w : World} {A : Option Addr} {n : Nat} {xs : List RRow} (h : Kd.C kRRow w A n xs) (i : Int) (h0 : 0 ≤ i) (h1 : i < n) : ∃ ad , A = some ad ∧ w.cell? (ad.add (i.toNat * 5)) = some (.int .i64 (rd_RRow xs i).r0) ∧ w.cell? ⟨(ad.add (i.toNat * 5)).block, (ad.add (i.toNat * 5)).off + 1, none⟩ = some (.int .i64 (rd_RRow xs i).r1) ∧ w.cell? ⟨(ad.add (i.toNat * 5)).block, (ad.add (i.toNat * 5)).off + 2, none⟩ = some (.int .i64 (rd_RRow xs i).r2) ∧ w.cell? ⟨(ad.add (i.toNat * 5)).block, (ad.add (i.toNat * 5)).off + 3, none⟩ = some (.int .i64 (rd_RRow xs i).r3) ∧ w.cell? ⟨(ad.add (i.toNat * 5)).block, (ad.add (i.toNat * 5)).off + 4, none⟩ = some (.int .i64 (rd_RRow xs i).r4) := by
  obtain ⟨ad, c, e, _, hK, hc0⟩ := Kd.C_get h zRRow i h0 h1
  have hc : ∀ j u, c[j]? = some u → w.cell? (ad.add (i.toNat * 5 + j)) = some u := hc0
  obtain rfl := kRRow_open hK
  exact ⟨ad, e, hc 0 _ rfl, by rw [← add_field _ _ 1 (by omega)]; exact hc 1 _ rfl, by rw [← add_field _ _ 2 (by omega)]; exact hc 2 _ rfl, by rw [← add_field _ _ 3 (by omega)]; exact hc 3 _ rfl, by rw [← add_field _ _ 4 (by omega)]; exact hc 4 _ rfl⟩

def rd_L6 (xs : List (List RRow)) (i : Int) : (List RRow) := xs.getD i.toNat ([] : List RRow)
theorem at_L6 {w : World} {A : Option Addr} {n : Nat} {xs : List (List RRow)} (h : Kd.C (Kd.slice 54 kRRow) w A n xs) (i : Int) (h0 : 0 ≤ i) (h1 : i < n) : ∃ ad A0 c0, A = some ad ∧ w.cell? (ad.add i.toNat) = some (.slice A0 (rd_L6 xs i).length c0) ∧ (rd_L6 xs i).length ≤ c0 ∧ kRRow.C w A0 (rd_L6 xs i).length (rd_L6 xs i) := by
  obtain ⟨ad, c, e, _, hK, hc0⟩ := Kd.C_get h ([] : List RRow) i h0 h1
  have hc : ∀ j u, c[j]? = some u → w.cell? (ad.add (i.toNat * 1 + j)) = some u := hc0
  obtain ⟨A0, c0, rfl, l0, g0⟩ := hK
  exact ⟨ad, A0, c0, e, by have hq := hc 0 _ rfl; rwa [Nat.mul_one, Nat.add_zero] at hq, l0, g0⟩

/-! #### straddle/straddleref4.Msg -/
structure RMsg where
  Kind : Int
  Seq : Int
  A : Arr6
  L : (List RRow)
def zRMsg : RMsg := ⟨(0 : Int), (0 : Int), zArr6, ([] : List RRow)⟩
def kRMsg : Kd RMsg := Kd.iso (Kd.pair (Kd.int .i64) (Kd.pair (Kd.int .i64) (Kd.pair kArr6 (Kd.slice 54 kRRow)))) (fun x : RMsg => (x.Kind, x.Seq, x.A, x.L))
theorem kRMsg_open {w : World} {x : RMsg} {cs : List Value} (h : kRMsg.K w x cs) : ∃ A8 c8, cs = [.int .i64 x.Kind, .int .i64 x.Seq, .int .i64 x.A.r0, .int .i64 x.A.r1, .int .i64 x.A.r2, .int .i64 x.A.r3, .int .i64 x.A.r4, .int .i64 x.A.r5, .slice A8 x.L.length c8] ∧ x.L.length ≤ c8 ∧ kRRow.C w A8 x.L.length x.L := by
  obtain ⟨_, _, rfl, rfl, ⟨_, _, rfl, rfl, ⟨_, _, rfl, s2, ⟨A8, c8, rfl, l8, g8⟩⟩⟩⟩ := h
  obtain rfl := kArr6_open s2
  exact ⟨A8, c8, rfl, l8, g8⟩
theorem kRMsg_openM {w : World} {base : Nat} {ok : Nat → Prop} {x : RMsg} {cs : List Value} (h : kRMsg.M w base ok x cs) : ∃ v8, cs = [.int .i64 x.Kind, .int .i64 x.Seq, .int .i64 x.A.r0, .int .i64 x.A.r1, .int .i64 x.A.r2, .int .i64 x.A.r3, .int .i64 x.A.r4, .int .i64 x.A.r5, v8] ∧ kRRow.R 54 w base ok v8 x.L := by
  obtain ⟨_, _, rfl, rfl, ⟨_, _, rfl, rfl, ⟨_, _, rfl, s2, ⟨v8, rfl, g8⟩⟩⟩⟩ := h
  obtain rfl := kArr6_openM s2
  exact ⟨v8, rfl, g8⟩
theorem kRMsg_mk (w : World) (x : RMsg) {A8 : Option Addr} {c8 : Nat} (l8 : x.L.length ≤ c8) (g8 : kRRow.C w A8 x.L.length x.L) : kRMsg.K w x [.int .i64 x.Kind, .int .i64 x.Seq, .int .i64 x.A.r0, .int .i64 x.A.r1, .int .i64 x.A.r2, .int .i64 x.A.r3, .int .i64 x.A.r4, .int .i64 x.A.r5, .slice A8 x.L.length c8] := ⟨[.int .i64 x.Kind], [.int .i64 x.Seq, .int .i64 x.A.r0, .int .i64 x.A.r1, .int .i64 x.A.r2, .int .i64 x.A.r3, .int .i64 x.A.r4, .int .i64 x.A.r5, .slice A8 x.L.length c8], rfl, rfl, ⟨[.int .i64 x.Seq], [.int .i64 x.A.r0, .int .i64 x.A.r1, .int .i64 x.A.r2, .int .i64 x.A.r3, .int .i64 x.A.r4, .int .i64 x.A.r5, .slice A8 x.L.length c8], rfl, rfl, ⟨[.int .i64 x.A.r0, .int .i64 x.A.r1, .int .i64 x.A.r2, .int .i64 x.A.r3, .int .i64 x.A.r4, .int .i64 x.A.r5], [.slice A8 x.L.length c8], rfl, (kArr6_mk w x.A ), ⟨A8, c8, rfl, l8, g8⟩⟩⟩⟩
theorem kRMsg_mkM (w : World) (base : Nat) (ok : Nat → Prop) (x : RMsg) {v8 : Value} (g8 : kRRow.R 54 w base ok v8 x.L) : kRMsg.M w base ok x [.int .i64 x.Kind, .int .i64 x.Seq, .int .i64 x.A.r0, .int .i64 x.A.r1, .int .i64 x.A.r2, .int .i64 x.A.r3, .int .i64 x.A.r4, .int .i64 x.A.r5, v8] := ⟨[.int .i64 x.Kind], [.int .i64 x.Seq, .int .i64 x.A.r0, .int .i64 x.A.r1, .int .i64 x.A.r2, .int .i64 x.A.r3, .int .i64 x.A.r4, .int .i64 x.A.r5, v8], rfl, rfl, ⟨[.int .i64 x.Seq], [.int .i64 x.A.r0, .int .i64 x.A.r1, .int .i64 x.A.r2, .int .i64 x.A.r3, .int .i64 x.A.r4, .int .i64 x.A.r5, v8], rfl, rfl, ⟨[.int .i64 x.A.r0, .int .i64 x.A.r1, .int .i64 x.A.r2, .int .i64 x.A.r3, .int .i64 x.A.r4, .int .i64 x.A.r5], [v8], rfl, (kArr6_mkM w base ok x.A ), ⟨v8, rfl, g8⟩⟩⟩⟩
def rd_RMsg (xs : List RMsg) (i : Int) : RMsg := xs.getD i.toNat zRMsg
theorem at_RMsg {w : World} {A : Option Addr} {n : Nat} {xs : List RMsg} (h : Kd.C kRMsg w A n xs) (i : Int) (h0 : 0 ≤ i) (h1 : i < n) : ∃ ad A8 c8, A = some ad ∧ w.cell? (ad.add (i.toNat * 9)) = some (.int .i64 (rd_RMsg xs i).Kind) ∧ w.cell? ⟨(ad.add (i.toNat * 9)).block, (ad.add (i.toNat * 9)).off + 1, none⟩ = some (.int .i64 (rd_RMsg xs i).Seq) ∧ w.cell? ⟨(ad.add (i.toNat * 9)).block, (ad.add (i.toNat * 9)).off + 2, none⟩ = some (.int .i64 (rd_RMsg xs i).A.r0) ∧ w.cell? ⟨(ad.add (i.toNat * 9)).block, (ad.add (i.toNat * 9)).off + 3, none⟩ = some (.int .i64 (rd_RMsg xs i).A.r1) ∧ w.cell? ⟨(ad.add (i.toNat * 9)).block, (ad.add (i.toNat * 9)).off + 4, none⟩ = some (.int .i64 (rd_RMsg xs i).A.r2) ∧ w.cell? ⟨(ad.add (i.toNat * 9)).block, (ad.add (i.toNat * 9)).off + 5, none⟩ = some (.int .i64 (rd_RMsg xs i).A.r3) ∧ w.cell? ⟨(ad.add (i.toNat * 9)).block, (ad.add (i.toNat * 9)).off + 6, none⟩ = some (.int .i64 (rd_RMsg xs i).A.r4) ∧ w.cell? ⟨(ad.add (i.toNat * 9)).block, (ad.add (i.toNat * 9)).off + 7, none⟩ = some (.int .i64 (rd_RMsg xs i).A.r5) ∧ w.cell? ⟨(ad.add (i.toNat * 9)).block, (ad.add (i.toNat * 9)).off + 8, none⟩ = some (.slice A8 (rd_RMsg xs i).L.length c8) ∧ (rd_RMsg xs i).L.length ≤ c8 ∧ kRRow.C w A8 (rd_RMsg xs i).L.length (rd_RMsg xs i).L := by
  obtain ⟨ad, c, e, _, hK, hc0⟩ := Kd.C_get h zRMsg i h0 h1
  have hc : ∀ j u, c[j]? = some u → w.cell? (ad.add (i.toNat * 9 + j)) = some u := hc0
  obtain ⟨A8, c8, rfl, l8, g8⟩ := kRMsg_open hK
  exact ⟨ad, A8, c8, e, hc 0 _ rfl, by rw [← add_field _ _ 1 (by omega)]; exact hc 1 _ rfl, by rw [← add_field _ _ 2 (by omega)]; exact hc 2 _ rfl, by rw [← add_field _ _ 3 (by omega)]; exact hc 3 _ rfl, by rw [← add_field _ _ 4 (by omega)]; exact hc 4 _ rfl, by rw [← add_field _ _ 5 (by omega)]; exact hc 5 _ rfl, by rw [← add_field _ _ 6 (by omega)]; exact hc 6 _ rfl, by rw [← add_field _ _ 7 (by omega)]; exact hc 7 _ rfl, by rw [← add_field _ _ 8 (by omega)]; exact hc 8 _ rfl, l8, g8⟩

def wfArr6 (x : Arr6) : Prop := ((Lit.int .i64 x.r0).wf = true) ∧ ((Lit.int .i64 x.r1).wf = true) ∧ ((Lit.int .i64 x.r2).wf = true) ∧ ((Lit.int .i64 x.r3).wf = true) ∧ ((Lit.int .i64 x.r4).wf = true) ∧ ((Lit.int .i64 x.r5).wf = true)
theorem opens_Arr6 : Opens Tryd.prog kArr6 wfArr6 26 := opens_arr (ts := [2, 2, 2, 2, 2, 2]) _ (fun p => ⟨p.1, p.2.1, p.2.2.1, p.2.2.2.1, p.2.2.2.2.1, p.2.2.2.2.2⟩) (fun _ => rfl) Tryd.underlying26 (by kernel_rfl) rfl (OF.cons (by kernel_rfl) (opens_int Tryd.underlying2) (OF.cons (by kernel_rfl) (opens_int Tryd.underlying2) (OF.cons (by kernel_rfl) (opens_int Tryd.underlying2) (OF.cons (by kernel_rfl) (opens_int Tryd.underlying2) (OF.cons (by kernel_rfl) (opens_int Tryd.underlying2) (OF.last (by kernel_rfl) (opens_int Tryd.underlying2)))))))
def wfRow (x : Row) : Prop := ((Lit.int .i64 x.r0).wf = true) ∧ ((Lit.int .i64 x.r1).wf = true) ∧ ((Lit.int .i64 x.r2).wf = true) ∧ ((Lit.int .i64 x.r3).wf = true) ∧ ((Lit.int .i64 x.r4).wf = true)
theorem opens_Row : Opens Tryd.prog kRow wfRow 42 := opens_arr (ts := [2, 2, 2, 2, 2]) _ (fun p => ⟨p.1, p.2.1, p.2.2.1, p.2.2.2.1, p.2.2.2.2⟩) (fun _ => rfl) Tryd.underlying42 (by kernel_rfl) rfl (OF.cons (by kernel_rfl) (opens_int Tryd.underlying2) (OF.cons (by kernel_rfl) (opens_int Tryd.underlying2) (OF.cons (by kernel_rfl) (opens_int Tryd.underlying2) (OF.cons (by kernel_rfl) (opens_int Tryd.underlying2) (OF.last (by kernel_rfl) (opens_int Tryd.underlying2))))))
def wfMsg (x : Msg) : Prop := ((Lit.int .i64 x.Kind).wf = true) ∧ ((Lit.int .i64 x.Seq).wf = true) ∧ (wfArr6 x.A) ∧ (∀ y ∈ x.L, wfRow y)
theorem opens_Msg : Opens Tryd.prog kMsg wfMsg 29 := opens_struct (ts := [3, 2, 26, 27]) _ (fun p => ⟨p.1, p.2.1, p.2.2.1, p.2.2.2⟩) (fun _ => rfl) Tryd.underlying29 (by kernel_rfl) (by kernel_rfl) (by kernel_rfl) (OF.cons (by kernel_rfl) (opens_int Tryd.underlying3) (OF.cons (by kernel_rfl) (opens_int Tryd.underlying2) (OF.cons (by kernel_rfl) opens_Arr6 (OF.last (by kernel_rfl) (opens_slice Tryd.underlying27 (by kernel_rfl) opens_Row)))))
def wfRRow (x : RRow) : Prop := ((Lit.int .i64 x.r0).wf = true) ∧ ((Lit.int .i64 x.r1).wf = true) ∧ ((Lit.int .i64 x.r2).wf = true) ∧ ((Lit.int .i64 x.r3).wf = true) ∧ ((Lit.int .i64 x.r4).wf = true)
theorem opens_RRow : Opens Tryd.prog kRRow wfRRow 54 := opens_arr (ts := [2, 2, 2, 2, 2]) _ (fun p => ⟨p.1, p.2.1, p.2.2.1, p.2.2.2.1, p.2.2.2.2⟩) (fun _ => rfl) Tryd.underlying54 (by kernel_rfl) rfl (OF.cons (by kernel_rfl) (opens_int Tryd.underlying2) (OF.cons (by kernel_rfl) (opens_int Tryd.underlying2) (OF.cons (by kernel_rfl) (opens_int Tryd.underlying2) (OF.cons (by kernel_rfl) (opens_int Tryd.underlying2) (OF.last (by kernel_rfl) (opens_int Tryd.underlying2))))))
def wfRMsg (x : RMsg) : Prop := ((Lit.int .i64 x.Kind).wf = true) ∧ ((Lit.int .i64 x.Seq).wf = true) ∧ (wfArr6 x.A) ∧ (∀ y ∈ x.L, wfRRow y)
theorem opens_RMsg : Opens Tryd.prog kRMsg wfRMsg 34 := opens_struct (ts := [3, 2, 26, 32]) _ (fun p => ⟨p.1, p.2.1, p.2.2.1, p.2.2.2⟩) (fun _ => rfl) Tryd.underlying34 (by kernel_rfl) (by kernel_rfl) (by kernel_rfl) (OF.cons (by kernel_rfl) (opens_int Tryd.underlying3) (OF.cons (by kernel_rfl) (opens_int Tryd.underlying2) (OF.cons (by kernel_rfl) opens_Arr6 (OF.last (by kernel_rfl) (opens_slice Tryd.underlying32 (by kernel_rfl) opens_RRow)))))
def kArr6_cells (x : Arr6) : List Value := [.int .i64 x.r0, .int .i64 x.r1, .int .i64 x.r2, .int .i64 x.r3, .int .i64 x.r4, .int .i64 x.r5]
def kRow_cells (x : Row) : List Value := [.int .i64 x.r0, .int .i64 x.r1, .int .i64 x.r2, .int .i64 x.r3, .int .i64 x.r4]
def kRRow_cells (x : RRow) : List Value := [.int .i64 x.r0, .int .i64 x.r1, .int .i64 x.r2, .int .i64 x.r3, .int .i64 x.r4]
end Go.Proofs.YtcbhddajkleleaaDoor.Msg
