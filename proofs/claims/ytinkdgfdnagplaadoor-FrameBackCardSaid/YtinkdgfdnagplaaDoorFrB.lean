import Derived.Test.YtinkdgfdnagplaaDoorFrR
import Derived.Test.YtinkdgfdnagplaaDoorFrQ
import Derived.Test.YtinkdgfdnagplaaDoorErrLaid
/-! Walk of FrameBack (begun). -/
set_option linter.unusedVariables false
set_option linter.unusedSimpArgs false
namespace Go.Proofs.YtinkdgfdnagplaaDoor.Frame
open Go.RowKit Go.Proofs.YtinkdgfdnagplaaDoorW.PrintWords Go.Proofs.YtinkdgfdnagplaaDoor.B Go.Proofs.YtinkdgfdnagplaaDoor.Crc Go.Proofs.YtinkdgfdnagplaaDoor.Err

/-- Rows of bytes that lay in a world W0 (nothing of which changes), as elements. -/
def kW (W0 : World) : Kd (List Int) where
  sz := 1
  E := []
  K := fun _ xs cs => ∃ A c, cs = [.slice A xs.length c] ∧ xs.length ≤ c ∧ (Kd.int .u8).C W0 A xs.length xs
  M := fun _ _ _ xs cs => ∃ A c, cs = [.slice A xs.length c] ∧ xs.length ≤ c ∧ (Kd.int .u8).C W0 A xs.length xs
  K_len := by
    rintro w x cs ⟨A, c, rfl, _⟩
    rfl
  K_one := by
    rintro w x cs ⟨A, c, rfl, _⟩ u hu
    rw [List.mem_singleton.1 hu]
    rfl
  K_below := fun _ h => h
  K_of_M := fun h => h
  M_mono := fun _ h => h
  M_bound := fun h => h
  M_move := fun _ h => h
  M_lower := fun _ h => h
theorem kW_C {W0 w : World} {A : Option Addr} {n : Nat} {xs : List (List Int)} (h : (kW W0).C w A n xs) (hf : Fr no W0 w) : kB.C w A n xs :=
  ReadsRow.imp_ h (Below.refl _ _) (fun _ _ ⟨A', c, e, hl, hC⟩ => ⟨A', c, e, hl, C_fr hC hf⟩)
theorem kD_C {w : World} {ok : Nat → Prop} {v : Value} {xs : List (List Int)} (h : kD.R 24 w 0 ok v xs) : ∃ A c, v = .slice A xs.length c ∧ kB.C w A xs.length xs := by
  obtain ⟨A, c, e, _, hC⟩ := Kd.R_reads h
  exact ⟨A, c, e, ReadsRow.imp_ hC (Below.refl _ _) (fun _ _ hk => hk)⟩
/-- The bodies among the first k that may be framed. -/
def gd (l : List (List Int)) (k : Nat) : List (List Int) := (l.take k).filter fun p => decide (p.length ≤ 1024)
theorem gd_succ (l : List (List Int)) (k : Nat) (h : k < l.length) : gd l (k + 1) = gd l k ++ if l[k].length ≤ 1024 then [l[k]] else [] := by
  unfold gd
  rw [List.take_succ_eq_append_getElem h, List.filter_append]
  congr 1
  by_cases hp : l[k].length ≤ 1024
  · simp [hp]
  · simp [hp]
end Go.Proofs.YtinkdgfdnagplaaDoor.Frame
