import Derived.Test.YtkmdnbficoknlaaCodecN
import Derived.Test.YtkmdnbficoknlaaCodeRef
import Derived.Test.YtkmdnbficoknlaaItemK
/-! P301: any items go there and back: what is written, and what is wanted, grow side by side. -/
set_option linter.unusedVariables false
set_option linter.unusedSimpArgs false
namespace Go.Proofs.Ytkmdnbficoknlaa.Codec
open Go.RowKit Go.Proofs.YtkmdnbficoknlaaW.PrintWords Go.Proofs.Ytkmdnbficoknlaa.B

def Two (w0 w : World) (B : Nat) (v : Value) (bs ws : List Int) : Prop :=
  ∃ okE okW : Nat → Prop, (∀ k, okE k → since w0 k) ∧ (∀ k, okW k → since w0 k) ∧ (∀ k, okE k → ¬ okW k) ∧ Encs w okE B bs ∧ (Kd.int .u8).R 5 w 0 okW v ws
theorem Two.fr {w0 w w1 : World} {B : Nat} {v : Value} {bs ws : List Int} (h : Two w0 w B v bs ws) (hf : Fr no w w1) : Two w0 w1 B v bs ws := by
  obtain ⟨okE, okW, s1, s2, s3, hE, hR⟩ := h
  exact ⟨okE, okW, s1, s2, s3, hE.fr hf (fun _ _ h => h), R_fr hR hf (fun _ _ h => h)⟩
theorem two_new {w0 w : World} (hf : Fr no w0 w) : Two w0 (w.alloc (.cells #[.slice none 0 0] 27)) w.heap.size (.slice none 0 0) [] [] :=
  ⟨since w0, fun _ => False, fun _ h => h, fun _ h => h.elim, fun _ _ h => h, (enc_new hf).1, Kd.R_nil _ _ _ _ _⟩
theorem eRaw_t {w0 w : World} {B : Nat} {v : Value} {bs ws : List Int} (h : Two w0 w B v bs ws) (hf : Fr no w0 w) {A : Option Addr} {p : List Int} (cap : Nat) (hC : (Kd.int .u8).C w0 A p.length p) (hlen : bs.length + 20 + p.length ≤ 1000000000) :
    Calls Try.prog 13 #[.pointer (some ⟨B, 0, none⟩), .slice A p.length cap] w fun e w' => e = .returned (.tuple #[]) ∧ Two w0 w' B v (bs ++ encR p) ws ∧ Fr no w0 w' := by
  obtain ⟨okE, okW, s1, s2, s3, hE, hR⟩ := h
  refine (eRaw_c B A cap p bs w _ hE.lt (fun W hF => C_fr hC (hf.new hF (fun k hk => s1 k hk.1))) hlen).mono ?_
  rintro e w' ⟨rfl, h2, hF⟩
  refine ⟨rfl, ⟨_, fun k => okW k ∧ k < w.heap.size, ?_, fun k hk => s2 k hk.1, ?_, h2, ?_⟩, hf.new hF (fun k hk => s1 k hk.1)⟩
  · exact fun k hk => hk.elim (fun h => s1 k h.1) (fun h => Nat.le_trans hf.size h)
  · rintro k (hk | hk) ⟨h3, h4⟩
    · exact s3 k hk.1 h3
    · exact absurd hk (by omega)
  · exact R_fr (R_lt' hR) hF (fun k hk hk2 => s3 k hk2.1 hk.1)
theorem eInt_t {w0 w : World} {B : Nat} {v : Value} {bs ws : List Int} (h : Two w0 w B v bs ws) (hf : Fr no w0 w) (n : Int) (h1 : -9223372036854775808 ≤ n) (h2 : n ≤ 9223372036854775807) (hlen : bs.length + 10 ≤ 1000000000) {W : World} {g : Nat} (hW : W = w.alloc (.cells #[.int .i64 n] 2)) (hg : g = w.heap.size) :
    Calls Try.prog 15 #[.pointer (some ⟨B, 0, none⟩), .slice (some ⟨g, 0, none⟩) 1 1] W fun e w' => e = .returned (.tuple #[]) ∧ Two w0 w' B v (bs ++ encI n) ws ∧ Fr no w0 w' := by
  subst hW hg
  obtain ⟨okE, okW, s1, s2, s3, hE, hR⟩ := h
  have hfa := (Fr.refl no w).alloc (.cells #[.int .i64 n] 2)
  refine (eInt_c B _ 1 [n] bs _ _ (hE.lt.fr hfa (fun _ _ h => h)) (fun W hF => lit_C hF (fun h => absurd h.2 (Nat.lt_irrefl _))) (by simp; omega) (by simp; omega)).mono ?_
  rintro e w' ⟨rfl, h3, hF⟩
  simp only [List.flatMap_cons, List.flatMap_nil, List.append_nil] at h3
  refine ⟨rfl, ⟨_, fun k => okW k ∧ k < w.heap.size, ?_, fun k hk => s2 k hk.1, ?_, h3, ?_⟩, (hf.alloc _).new hF (fun k hk => s1 k hk.1)⟩
  · exact fun k hk => hk.elim (fun h => s1 k h.1) (fun h => Nat.le_trans (hf.alloc _).size h)
  · rintro k (hk | hk) ⟨h4, h5⟩
    · exact s3 k hk.1 h4
    · have := hfa.size
      exact absurd hk (by omega)
  · exact R_fr (R_fr (R_lt' hR) hfa (fun _ _ h => h)) hF (fun k hk hk2 => s3 k hk2.1 hk.1)
theorem Two.app {w0 w w1 : World} {B : Nat} {v v1 : Value} {bs ws ws1 : List Int} {okE okW : Nat → Prop} (hf : Fr no w0 w) (s1 : ∀ k, okE k → since w0 k) (s2 : ∀ k, okW k → since w0 k) (s3 : ∀ k, okE k → ¬ okW k) (hE : Encs w okE B bs) (hR : (Kd.int .u8).R 5 w 0 okW v ws)
    (ho : (Kd.int .u8).R 5 w1 0 (ext okW w) v1 ws1) (hg : w.grownBy w1 v.ownBlock) : Two w0 w1 B v1 bs ws1 ∧ Fr no w0 w1 := by
  have hF : Fr okW w w1 := Fr.of_grown hg (fun k hk _ => hR.1 k hk)
  refine ⟨⟨fun k => okE k ∧ k < w.heap.size, ext okW w, fun k hk => s1 k hk.1, ?_, ?_, hE.lt.fr hF (fun k hk => s3 k hk.1), ho⟩, hf.new hF s2⟩
  · exact fun k hk => hk.elim (fun h => s2 k h) (fun h => Nat.le_trans hf.size h)
  · rintro k ⟨h4, h5⟩ (h6 | h6)
    · exact s3 k h4 h6
    · exact absurd h6 (by omega)

def itE (x : Item) : List Int := if x.Text then encR x.B else encI x.I
theorem it_split (l : List Item) (k : Nat) (h : k < l.length) (t : List Int) : l.flatMap itE ++ t = (l.take k).flatMap itE ++ (itE l[k] ++ ((l.drop (k + 1)).flatMap itE ++ t)) := by
  have e : l = l.take k ++ l[k] :: l.drop (k + 1) := by rw [← List.drop_eq_getElem_cons h, List.take_append_drop]
  have h2 := congrArg (fun m => m.flatMap itE ++ t) e
  simp only [List.flatMap_append, List.flatMap_cons, List.append_assoc] at h2
  exact h2
theorem it_take (l : List Item) (k : Nat) (h : k < l.length) : (l.take (k + 1)).flatMap itE = (l.take k).flatMap itE ++ itE l[k] := by rw [List.take_succ_eq_append_getElem h, List.flatMap_append]; simp
def okIt (x : Item) : Prop := -9223372036854775808 ≤ x.I ∧ x.I ≤ 9223372036854775807 ∧ ∀ y ∈ x.B, 0 ≤ y ∧ y < 256
theorem itE_len (x : Item) (h : okIt x) (h3 : x.B.length ≤ 300) : (itE x).length ≤ 310 := by
  unfold itE
  split
  · have h2 := encI_len x.B.length (by omega) (by omega)
    simp only [encR, List.length_append]
    omega
  · have h2 := encI_len x.I h.1 h.2.1
    omega
theorem its_len : ∀ (l : List Item), (∀ x ∈ l, okIt x ∧ x.B.length ≤ 300) → (l.flatMap itE).length ≤ 310 * l.length
  | [], _ => by simp
  | x :: r, h => by
    have h1 := its_len r (fun y hy => h y (by simp [hy]))
    have h2 := itE_len x (h x (by simp)).1 (h x (by simp)).2
    simp only [List.flatMap_cons, List.length_append, List.length_cons]
    omega
theorem itE_bytes (x : Item) (h : okIt x) (h3 : x.B.length ≤ 300) : ∀ y ∈ itE x, 0 ≤ y ∧ y < 256 := by
  unfold itE
  split
  · exact encR_bytes _ (by omega) h.2.2
  · exact encI_bytes _ h.1 h.2.1
end Go.Proofs.Ytkmdnbficoknlaa.Codec
