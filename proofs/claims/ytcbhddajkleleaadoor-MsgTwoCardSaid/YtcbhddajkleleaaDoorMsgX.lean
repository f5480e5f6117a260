import Derived.Test.YtcbhddajkleleaaDoorMsgC
import Derived.Test.YtcbhddajkleleaaDoorMsgE
import Derived.Test.YtcbhddajkleleaaDoorShelf
import Derived.Lib.ItoaNum
/-! msg.Text of the message that the laws' own check asks for. -/
set_option linter.unusedVariables false
set_option linter.unusedSimpArgs false
namespace Go.Proofs.YtcbhddajkleleaaDoor.Msg
open Go.RowKit Go.Proofs.YtcbhddajkleleaaDoorW.PrintWords Go.Proofs.YtcbhddajkleleaaDoor.B Go.Proofs.YtcbhddajkleleaaDoor.Codec

theorem infoS : (Tryd.prog.info? 9).map (fun i => (i.zero, i.size, i.bytes)) = some (some (.string ⟨#[]⟩), 1, 16) := by kernel_rfl
def digS (i : Nat) : ByteArray := ⟨(Lib.decDigits i).toArray⟩
theorem text_s (n : Int) (i : Nat) (h : n = (i : Int)) (hi : i < 100) (w : World) : Calls Tryd.prog 50 #[.int .i64 n] w fun e w' => e = .returned (.string (digS i)) ∧ w = w' := by
  subst h
  go_enter Tryd.func50, Tryd.ntmps50
  go_wp2_with fail
  refine (Tryd.strconv_FormatInt_10_small i hi _).mono ?_
  rintro e w' ⟨rfl, rfl⟩
  dsimp only
  go_wp2
  go_ret
  exact ⟨rfl, rfl⟩
def joinS (l : List Nat) : List UInt8 := Lib.join ((l.map digS).map (·.data.toList)) [32]
set_option maxRecDepth 100000 in
set_option maxHeartbeats 2000000 in
theorem words_x (A : Option Addr) (n cap : Nat) (l : List Nat) (hl : ∀ i ∈ l, i < 100) (hn : n = l.length) (h0 : 0 < l.length) (h6 : l.length ≤ 1000) (hj : (joinS l).length ≤ 1000) (w : World) (hC : (Kd.int .i64).C w A (l.map Int.ofNat).length (l.map Int.ofNat)) :
    Calls Tryd.prog 34 #[.slice A n cap] w fun e w' => e = .returned (.string ⟨(joinS l).toArray⟩) ∧ Fr no w w' := by
  subst hn
  have HL := Lib.hid hl
  have HJ := Lib.hid hj
  clear hl hj
  go_enter Tryd.func34, Tryd.ntmps34
  go_wp2
  go_loopg [3, 8] l.length (fun q v3 v8 wr => ∃ k : Nat, k + q = l.length ∧ v8 = .int .i64 k ∧ Kd.string.R 9 wr 0 (since w) v3 ((l.take k).map digS) ∧ Fr no w wr)
  case atStart => exact ⟨0, by omega, rfl, by simpa using Kd.R_nil _ _ _ _ _, Fr.refl _ _⟩
  case round =>
    obtain ⟨k, hk, rfl, hR, hf⟩ := hrel
    by_cases hlt : k < l.length
    · obtain ⟨ad, rfl, hc⟩ := i64_at (C_fr hC hf) k (by rw [List.length_map]; exact hlt)
      have hx : (l.map Int.ofNat)[k]'(by rw [List.length_map]; exact hlt) = ((l[k] : Nat) : Int) := by simp
      rw [hx] at hc
      have hi := HL.out l[k] (List.getElem_mem hlt)
      have hsn : (l.take (k + 1)).map digS = (l.take k).map digS ++ [digS l[k]] := by
        rw [List.take_succ_eq_append_getElem hlt, List.map_append]
        rfl
      have HSN := Lib.hid hsn
      have hgl : ((l.take k).map digS).length ≤ 1000 := by rw [List.length_map, List.length_take]; omega
      have hgk : ((l.take k).map digS).length = k := by rw [List.length_map, List.length_take]; omega
      have HGK := Lib.hid hgk
      clear hx hsn hgk
      obtain ⟨i, hie⟩ : ∃ i, l[k] = i := ⟨_, rfl⟩
      rw [hie] at hc hi HSN
      clear hie
      obtain ⟨G, hG⟩ : ∃ x, (l.take k).map digS = x := ⟨_, rfl⟩
      rw [hG] at hR hgl HSN HGK
      clear hG
      obtain ⟨A1, c1, rfl⟩ := Kd.R_slice hR
      have hk0 : (0 : Int) ≤ (k : Int) := by omega
      have hk1 : (k : Int) < (l.length : Int) := by omega
      go_wp2_with fail
      refine (text_s _ i rfl hi _).mono ?_
      rintro e w1 ⟨rfl, rfl⟩
      dsimp only
      go_wp2_with (at_builtin
                   refine Kd.R_append Kd.string (w0 := wr) 0 rfl (.tmp 12) (.tmp 15) 111 9 (.string ⟨#[]⟩) 16 rfl Tryd.underlying111 infoS rfl (by decide) (by omega) _ G (digS i) [.string (digS i)] (since w) (fun _ => False) rfl (by simp [go_sem]) rfl (fun _ hk => hk.elim) (fun b hb => Nat.le_trans hf.size hb) hR (Below.refl 0 _) (Nat.zero_le _) (by omega) ?_
                   intro v1 w8 ho hb1 hg hat
                   clear hat hb1
                   have hF8 := hf.new' ((Fr.of_grown hg (fun k hk _ => hR.1 k hk)).mono (fun _ h _ => h))
                   obtain ⟨A2, c2, rfl⟩ := Kd.R_slice ho
                   clear hg)
      rw [List.length_append] at ho
      rw [← HSN.out] at ho
      go_roundg (l.length - (k + 1))
      case measure => omega
      case rel => exact ⟨k + 1, by omega, by go_num, ho, hF8⟩
    · obtain rfl : k = l.length := by omega
      rw [List.take_length] at hR
      obtain ⟨g, cm, rfl, hcm, hgl, _⟩ := Kd.R_form hR (by rw [List.length_map]; exact h0)
      have hCS := (Kd.R_reads' hR).2.2
      have hcap := (Kd.R_reads' hR).2.1
      have hcell : ∀ (j : Nat) (x : ByteArray), (l.map digS)[j]? = some x → wr.cell? ⟨g, 0 + j, none⟩ = some (.string x) := fun j x hj => by
        obtain ⟨_, _, h3⟩ := hCS
        obtain ⟨ad, e1, h4⟩ := h3 (by rw [List.length_map]; exact h0)
        obtain rfl := (Option.some.inj e1).symm
        obtain ⟨cc, k1, k2, k3⟩ := h4 j x hj
        have k2' : cc = [.string x] := k2
        subst k2'
        have k4 := k3 0 (.string x) rfl
        have e : Addr.add ⟨g, 0, none⟩ (j * Kd.string.sz + 0) = ⟨g, 0 + j, none⟩ := by
          rw [show Kd.string.sz = 1 from rfl, Nat.mul_one, Nat.add_zero]
          unfold Addr.add
          by_cases h0 : j = 0
          · subst h0; simp
          · simp [h0]
        rw [e] at k4
        exact k4
      have hbk : g < wr.heap.size := World.block_lt_of_cell? wr ⟨g, 0 + 0, none⟩ (hcell 0 _ (List.getElem?_eq_getElem (by rw [List.length_map]; exact h0)))
      have hJ0 := (Tryd.strings_Join g 0 cm (l.map digS) ⟨#[32]⟩ wr hcell hbk (by rw [List.length_map]; omega) hcap (by have := HJ.out; unfold joinS at this; exact Nat.le_trans this (by omega)))
      rw [List.length_map] at hJ0
      have hJoin := Lib.hid hJ0
      clear hcell hCS hR hJ0
      go_wp2_with fail
      (with_reducible refine (hJoin.out).mono ?_)
      rintro e w1 ⟨rfl, hb⟩
      dsimp only
      go_wp2
      go_ret
      exact ⟨rfl, hf.trans' (Fr.of_below hb)⟩
end Go.Proofs.YtcbhddajkleleaaDoor.Msg
