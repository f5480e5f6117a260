import Derived.Test.YtdlefdlnnclcaaaDoorRiskS
import Derived.Test.YtdlefdlnnclcaaaDoorRiskU
import Derived.OpenShut
/-! RiskPlays: any orders asked for, opened, closed: what the desk tells is what the document's list has. -/
set_option linter.unusedVariables false
set_option linter.unusedSimpArgs false
namespace Go.Proofs.YtdlefdlnnclcaaaDoor.Risk
open Go.RowKit Go.Maps Go.Proofs.YtdlefdlnnclcaaaDoorW.PrintWords Go.Proofs.YtdlefdlnnclcaaaDoor.B Go.Proofs.YtdlefdlnnclcaaaDoor.Err

/-- The law's list of what each has open tells f. -/
structure Okm (m : List LUsed) (f : Int → Use) : Prop where
  e : ∀ x ∈ m, f x.owner = ⟨x.n, x.money⟩ ∧ UseOk ⟨x.n, x.money⟩
  z : ∀ o, (∀ x ∈ m, x.owner ≠ o) → f o = zUse
  i : ∀ i j (hi : i < m.length) (hj : j < m.length), m[i].owner = m[j].owner → i = j
theorem Okm.nil : Okm [] (fun _ => zUse) := ⟨fun x hx => by simp at hx, fun _ _ => rfl, fun i j hi => absurd hi (by simp)⟩
theorem Okm.at {m : List LUsed} {f : Int → Use} (h : Okm m f) (o : Int) : UseOk (f o) := by
  by_cases hx : ∃ x ∈ m, x.owner = o
  · obtain ⟨x, hx, rfl⟩ := hx
    rw [(h.e x hx).1]
    exact (h.e x hx).2
  · rw [h.z o (fun x h1 h2 => hx ⟨x, h1, h2⟩)]
    exact zero_ok
theorem Okm.app {m : List LUsed} {f : Int → Use} (h : Okm m f) (o : Int) (ho : ∀ x ∈ m, x.owner ≠ o) : Okm (m ++ [⟨o, 0, 0⟩]) f := by
  refine ⟨fun x hx => ?_, fun o' ho' => h.z o' (fun x hx => ho' x (List.mem_append_left _ hx)), fun i j hi hj he => ?_⟩
  · rcases List.mem_append.1 hx with hx | hx
    · exact h.e x hx
    · rw [List.mem_singleton] at hx
      subst hx
      exact ⟨h.z o ho, zero_ok⟩
  · rw [List.length_append, List.length_singleton] at hi hj
    by_cases h1 : i < m.length <;> by_cases h2 : j < m.length
    · rw [List.getElem_append_left h1, List.getElem_append_left h2] at he
      exact h.i i j h1 h2 he
    · rw [List.getElem_append_left h1, List.getElem_append_right (by omega)] at he
      simp at he
      exact absurd he (ho _ (List.getElem_mem h1))
    · rw [List.getElem_append_left h2, List.getElem_append_right (by omega)] at he
      simp at he
      exact absurd he.symm (ho _ (List.getElem_mem h2))
    · omega
theorem Okm.upd {m : List LUsed} {f : Int → Use} (h : Okm m f) (i : Nat) (hi : i < m.length) (u : Use) (hu : UseOk u) (o : Int) (ho : m[i].owner = o) : Okm (m.set i ⟨o, u.n, u.money⟩) (upd f o u) := by
  have hset : ∀ j (hj : j < m.length), (m.set i ⟨o, u.n, u.money⟩)[j]'(by rw [List.length_set]; exact hj) = if i = j then ⟨o, u.n, u.money⟩ else m[j] := fun j hj => by rw [List.getElem_set]
  refine ⟨fun x hx => ?_, fun o' ho' => ?_, fun a b ha hb he => ?_⟩
  · obtain ⟨j, hj, rfl⟩ := List.getElem_of_mem hx
    rw [List.length_set] at hj
    rw [hset j hj]
    by_cases hij : i = j
    · rw [if_pos hij]
      exact ⟨upd_same f o u, hu⟩
    · rw [if_neg hij, upd_other f u (fun e => hij (h.i i j hi hj (ho.trans e.symm)))]
      exact h.e _ (List.getElem_mem hj)
  · have h1 : o' ≠ o := fun e => by
      have := ho' ((m.set i ⟨o, u.n, u.money⟩)[i]'(by rw [List.length_set]; exact hi)) (List.getElem_mem _)
      rw [hset i hi, if_pos rfl] at this
      exact this e.symm
    rw [upd_other f u h1]
    refine h.z o' (fun x hx he => ?_)
    obtain ⟨j, hj, rfl⟩ := List.getElem_of_mem hx
    by_cases hij : i = j
    · subst hij
      exact h1 (he.symm.trans ho)
    · have := ho' ((m.set i ⟨o, u.n, u.money⟩)[j]'(by rw [List.length_set]; exact hj)) (List.getElem_mem _)
      rw [hset j hj, if_neg hij] at this
      exact this he
  · rw [List.length_set] at ha hb
    rw [hset a ha, hset b hb] at he
    have ow : ∀ j (hj : j < m.length), (if i = j then (⟨o, u.n, u.money⟩ : LUsed) else m[j]).owner = m[j].owner := fun j hj => by
      by_cases hij : i = j
      · subst hij; rw [if_pos rfl]; exact ho.symm
      · rw [if_neg hij]
    rw [ow a ha, ow b hb] at he
    exact h.i a b ha hb he
/-- Where the search for an owner stands behind j steps. -/
def Fnd (m : List LUsed) (o : Int) (j : Nat) (a : Int) : Prop := (a = -1 ∧ ∀ i (h : i < m.length), i < j → m[i].owner ≠ o) ∨ ∃ i, ∃ h : i < m.length, a = (i : Int) ∧ i < j ∧ m[i].owner = o
theorem lu_cells {w : World} {e base g n cap : Nat} {ok : Nat → Prop} {m : List LUsed} (h : kLUsed.R e w base ok (.slice (some ⟨g, 0, none⟩) n cap) m) (i : Nat) (hi : i < m.length) :
    w.cell? ⟨g, i * 3, none⟩ = some (.int .i64 m[i].owner) ∧ w.cell? ⟨g, i * 3 + 1, none⟩ = some (.int .i64 m[i].n) ∧ w.cell? ⟨g, i * 3 + 2, none⟩ = some (.int .i64 m[i].money) ∧ ∀ j, w.frozen? ⟨g, i * 3 + j, none⟩ = false := by
  obtain ⟨c, _, hM, hc0, hf⟩ := R_el h i hi
  have hc : ∀ j u, c[j]? = some u → w.cell? ⟨g, i * 3 + j, none⟩ = some u := hc0
  obtain rfl := kLUsed_openM hM
  exact ⟨hc 0 _ rfl, hc 1 _ rfl, hc 2 _ rfl, hf⟩
theorem lu_put {w : World} {e base g n cap : Nat} {ok : Nat → Prop} {m : List LUsed} (h : kLUsed.R e w base ok (.slice (some ⟨g, 0, none⟩) n cap) m) (i : Nat) (hi : i < m.length) (j : Nat) (hj : j < 3) (u : Int) (x : LUsed)
    (hx : [Value.int .i64 x.owner, .int .i64 x.n, .int .i64 x.money] = [Value.int .i64 m[i].owner, .int .i64 m[i].n, .int .i64 m[i].money].set j (.int .i64 u)) :
    kLUsed.R e (w.setCell ⟨g, i * 3 + j, none⟩ (.int .i64 u)) base ok (.slice (some ⟨g, 0, none⟩) n cap) (m.set i x) := by
  obtain ⟨c, hcl, hM, hc0, hf⟩ := R_el h i hi
  obtain rfl := kLUsed_openM hM
  exact R_put (okp := fun k => ok k ∧ k ≠ g) h i hi hcl hc0 hj (by rw [← hx]; exact kLUsed_mkM _ _ _ _) (fun _ h => h)
/-- Two rows of new memory, apart from each other. -/
def Pr (w0 w : World) (u : Value) (xs : List LUsed) (v : Value) (ys : List LUsed) : Prop :=
  ∃ okA okB : Nat → Prop, (∀ k, okA k → since w0 k) ∧ (∀ k, okB k → since w0 k) ∧ (∀ k, okA k → ¬ okB k) ∧ kLUsed.R 38 w 0 okA u xs ∧ kLUsed.R 38 w 0 okB v ys
theorem Pr.swap {w0 w : World} {u v : Value} {xs ys : List LUsed} (h : Pr w0 w u xs v ys) : Pr w0 w v ys u xs := by
  obtain ⟨okA, okB, s1, s2, s3, h1, h2⟩ := h
  exact ⟨okB, okA, s2, s1, fun k hb ha => s3 k ha hb, h2, h1⟩
theorem pr_nil (w0 w : World) : Pr w0 w (.slice none 0 0) [] (.slice none 0 0) [] :=
  ⟨fun _ => False, fun _ => False, fun _ h => h.elim, fun _ h => h.elim, fun _ h => h.elim, Kd.R_nil _ _ _ _ _, Kd.R_nil _ _ _ _ _⟩
theorem Pr.left {w0 w w1 : World} {u1 v : Value} {xs1 ys : List LUsed} {okA okB : Nat → Prop} {row : Option Nat} (hf : Fr no w0 w) (s1 : ∀ k, okA k → since w0 k) (s2 : ∀ k, okB k → since w0 k) (s3 : ∀ k, okA k → ¬ okB k)
    (hA : kLUsed.R 38 w1 0 (ext okA w) u1 xs1) (hB : kLUsed.R 38 w 0 okB v ys) (hg : w.grownBy w1 row) (hrow : ∀ k, row = some k → okA k) : Pr w0 w1 u1 xs1 v ys ∧ Fr no w0 w1 := by
  have hF : Fr okA w w1 := Fr.of_grown hg (fun k hk _ => hrow k hk)
  refine ⟨⟨ext okA w, fun k => okB k ∧ k < w.heap.size, ?_, fun k hk => s2 k hk.1, ?_, hA, R_fr (R_lt' hB) hF (fun k hk ha => s3 k ha hk.1)⟩, hf.new hF s1⟩
  · exact fun k hk => hk.elim (fun h => s1 k h) (fun h => Nat.le_trans hf.size h)
  · rintro k (hk | hk) ⟨h3, h4⟩
    · exact s3 k hk h3
    · exact absurd hk (by omega)
theorem luK_M {w W : World} {base : Nat} {ok : Nat → Prop} (e : LUsed) (cs : List Value) (h : kLUsed.K w e cs) : kLUsed.M W base ok e cs := by rw [kLUsed_open h]; exact kLUsed_mkM _ _ _ _
theorem infoU : (Tryd.prog.info? 38).map (fun i => (i.zero, i.size, i.bytes)) = some (some (.agg #[.int .i64 0, .int .i64 0, .int .i64 0]), 3, 24) := by kernel_rfl
def okAct (x : Act) : Prop := (Lit.int .i64 x.Owner).wf = true ∧ (-9223372036854775808 ≤ x.Price ∧ x.Price ≤ 9223372036854775807) ∧ (-9223372036854775808 ≤ x.Qty ∧ x.Qty ≤ 9223372036854775807)
theorem okAct_of {x : Act} (h : wfAct x) : okAct x := by
  obtain ⟨_, h2, h3, h4, _⟩ := h
  have b3 := Go.bounds_i64 h3
  have b4 := Go.bounds_i64 h4
  exact ⟨h2, by omega, by omega⟩
theorem Rk.far {w0 w w' : World} {B M n : Nat} {L : Lim} {f : Int → Use} {g : Nat} (h : Rk w0 w B M n L f) (hf : Fr (one g) w w') (hg : w0.heap.size ≤ g) (hB : B ≠ g) (hM : M ≠ g) : Rk w0 w' B M n L f :=
  ⟨hf.heap h.d (fun he => hB he), h.l, h.u.fr hf (fun he => hM he), h.fr.new hf (fun k hk => by have h1 : k = g := hk; subst h1; exact hg), h.b, h.m, h.ne⟩
set_option maxRecDepth 100000 in
set_option maxHeartbeats 4000000 in
theorem plays_big (w : World) (hg : ErrType w) (L : Lim) (A : Option Addr) (cap n : Nat) (o : Int) (hn : 80 < n) : Calls Tryd.prog 3 #[limV L, .slice A n cap, .int .i64 o] w fun e w' => e = .returned (.bool true) ∧ Fr no w w' := by
  have d1 : decide ((80 : Int) < (n : Int)) = true := by simp; omega
  have hfa := (Fr.refl no w).alloc (.cells #[.int .i64 L.qty, .int .i64 L.money, .int .i64 L.orders] 23)
  have HG := Lib.hid (hg.fr hfa (fun h => h))
  have HA := Lib.hid hfa
  unfold limV
  clear hn hg hfa
  go_enter Tryd.func3, Tryd.ntmps3
  go_wp2_with fail
  refine (known_c _ HG.out).mono ?_
  rintro e w1 ⟨rfl, hf⟩
  dsimp only
  go_wp2
  go_ret
  exact ⟨rfl, HA.out.trans' hf⟩
set_option maxRecDepth 100000 in
set_option maxHeartbeats 4000000 in
theorem plays_bad (w : World) (hg : ErrType w) (L : Lim) (A : Option Addr) (cap n : Nat) (o : Int) (hn : n ≤ 80) (hl : limB L = false) : Calls Tryd.prog 3 #[limV L, .slice A n cap, .int .i64 o] w fun e w' => e = .returned (.bool true) ∧ Fr no w w' := by
  have d1 : decide ((80 : Int) < (n : Int)) = false := by simp; omega
  have hfa := (Fr.refl no w).alloc (.cells #[.int .i64 L.qty, .int .i64 L.money, .int .i64 L.orders] 23)
  have hX := blk_new w (.cells #[.int .i64 L.qty, .int .i64 L.money, .int .i64 L.orders] 23)
  have HG := Lib.hid (hg.fr hfa (fun h => h))
  have HA := Lib.hid hfa
  have HN := Lib.hid (fun W => new_bad L hl W)
  have HO := Lib.hid (fun W => of_c L W)
  have HK := Lib.hid (fun W => check_bad L hl W)
  have hr := fun W => rlim_c L W
  rw [hl, if_neg (by simp)] at hr
  have HR := Lib.hid hr
  unfold limV at *
  clear hn hg hfa hr hl
  go_enter Tryd.func3, Tryd.ntmps3
  go_wp2_with fail
  generalize w.alloc _ = wa at *
  generalize w.heap.size = X at *
  refine (known_c _ HG.out).mono ?_
  rintro e w1 ⟨rfl, hf1⟩
  have hX1 := hf1.heap hX (fun h => h)
  have b0 := blk_cell hX1 0
  have b1 := blk_cell hX1 1
  have b2 := blk_cell hX1 2
  dsimp only
  go_wp2_with fail
  refine (HN.out _).mono ?_
  rintro e w2 ⟨rfl, hf2⟩
  have hX2 := hf2.heap hX1 (fun h => h)
  have c0 := blk_cell hX2 0
  have c1 := blk_cell hX2 1
  have c2 := blk_cell hX2 2
  clear b0 b1 b2
  dsimp only
  go_wp2_with fail
  refine (HO.out _).mono ?_
  rintro e w3 ⟨rfl, hf3⟩
  dsimp only
  go_wp2_with fail
  refine (HR.out _).mono ?_
  rintro e w4 ⟨rfl, hf4⟩
  have hX4 := hf4.heap (hf3.heap hX2 (fun h => h)) (fun h => h)
  have e0 := blk_cell hX4 0
  have e1 := blk_cell hX4 1
  have e2 := blk_cell hX4 2
  clear c0 c1 c2
  dsimp only
  go_wp2_with fail
  refine (HK.out _).mono ?_
  rintro e w5 ⟨rfl, hf5⟩
  have HE := Lib.hid (HA.out.trans' (hf1.trans' (hf2.trans' (hf3.trans' (hf4.trans' hf5)))))
  clear hf1 hf2 hf3 hf4 hf5 hX1 hX2 hX4 e0 e1 e2
  dsimp only
  go_wp2
  go_ret
  exact ⟨rfl, HE.out⟩
end Go.Proofs.YtdlefdlnnclcaaaDoor.Risk
