import Derived.Test.YtinkdgfdnagplaaDoorFrN
/-! A row of bodies, each a clipped row of bytes that is only read. -/
set_option linter.unusedVariables false
set_option linter.unusedSimpArgs false
namespace Go.Proofs.YtinkdgfdnagplaaDoor.Frame
open Go.RowKit Go.Proofs.YtinkdgfdnagplaaDoorW.PrintWords Go.Proofs.YtinkdgfdnagplaaDoor.B Go.Proofs.YtinkdgfdnagplaaDoor.Crc Go.Proofs.YtinkdgfdnagplaaDoor.Err

theorem C_cells {w w1 : World} {A : Option Addr} {n : Nat} {xs : List Int} (h : (Kd.int .u8).C w A n xs) (hm : ∀ ad, A = some ad → w1.heap[ad.block]? = w.heap[ad.block]?) : (Kd.int .u8).C w1 A n xs :=
  ⟨h.1, h.2.1, fun hn => by
    obtain ⟨ad, e, hc⟩ := h.2.2 hn
    exact ⟨ad, e, fun k x hx => by
      obtain ⟨c, h1, h2, h3⟩ := hc k x hx
      exact ⟨c, h1, h2, fun j u hu => by
        have q : w1.heap[(ad.add (k * (Kd.int .u8).sz + j)).block]? = w.heap[(ad.add (k * (Kd.int .u8).sz + j)).block]? := by
          rw [show (ad.add (k * (Kd.int .u8).sz + j)).block = ad.block by unfold Addr.add; split <;> rfl]
          exact hm ad e
        exact (World.cell?_of_block q).trans (h3 j u hu)⟩⟩⟩
def kD : Kd (List Int) where
  sz := 1
  E := [5]
  K := fun w xs cs => ∃ A c, cs = [.slice A xs.length c] ∧ xs.length ≤ c ∧ (Kd.int .u8).C w A xs.length xs
  M := fun w base ok xs cs => ∃ A c, cs = [.slice A xs.length c] ∧ xs.length ≤ c ∧ (Kd.int .u8).C w A xs.length xs ∧ ∀ ad, A = some ad → ok ad.block ∧ base ≤ ad.block ∧ ad.block < w.heap.size ∧ ∃ cells, w.heap[ad.block]? = some (.cells cells 5 (0, 0))
  K_len := by
    rintro w x cs ⟨A, c, rfl, _⟩
    rfl
  K_one := by
    rintro w x cs ⟨A, c, rfl, _⟩ u hu
    rw [List.mem_singleton.1 hu]
    rfl
  K_below := by
    rintro w w1 x cs hb ⟨A, c, rfl, hl, hr⟩
    exact ⟨A, c, rfl, hl, Kd.C_below hr hb⟩
  K_of_M := by
    rintro w base ok x cs ⟨A, c, rfl, hl, hr, _⟩
    exact ⟨A, c, rfl, hl, hr⟩
  M_mono := by
    rintro w base ok ok' x cs hok ⟨A, c, rfl, hl, hr, hf⟩
    exact ⟨A, c, rfl, hl, hr, fun ad e => ⟨hok _ (hf ad e).1, (hf ad e).2⟩⟩
  M_bound := by
    rintro w base ok x cs ⟨A, c, rfl, hl, hr, hf⟩
    exact ⟨A, c, rfl, hl, hr, fun ad e => ⟨⟨(hf ad e).1, (hf ad e).2.1, (hf ad e).2.2.1, _, List.mem_singleton.2 rfl, (hf ad e).2.2.2⟩, (hf ad e).2⟩⟩
  M_move := by
    rintro w w1 base ok x cs hm ⟨A, c, rfl, hl, hr, hf⟩
    refine ⟨A, c, rfl, hl, C_cells hr (fun ad e => hm _ (hf ad e).1), fun ad e => ?_⟩
    obtain ⟨h1, h2, h3, cells, h4⟩ := hf ad e
    have h5 : w1.heap[ad.block]? = some (.cells cells 5 (0, 0)) := (hm _ h1).trans h4
    exact ⟨h1, h2, blk_lt h5, cells, h5⟩
  M_lower := by
    rintro w base base' ok x cs hb ⟨A, c, rfl, hl, hr, hf⟩
    exact ⟨A, c, rfl, hl, hr, fun ad e => ⟨(hf ad e).1, Nat.le_trans hb (hf ad e).2.1, (hf ad e).2.2⟩⟩
/-- An own row of bytes, clipped. -/
theorem M_of_R {w : World} {ok : Nat → Prop} {A : Option Addr} {m c : Nat} {b : List Int} (h : (Kd.int .u8).R 5 w 0 ok (.slice A m c) b) : kD.M w 0 ok b [.slice A m m] := by
  obtain ⟨hl, hc, hC⟩ := Kd.R_reads' h
  subst hl
  obtain ⟨inner, ho⟩ := Kd.R_own h
  refine ⟨A, b.length, rfl, Nat.le_refl _, hC, fun ad e => ?_⟩
  subst e
  exact ⟨h.1 _ rfl, Nat.zero_le _, own_lt ho _ rfl, own_typed ho _ rfl⟩
theorem info24 : (Tryd.prog.info? 24).map (fun i => (i.zero, i.size, i.bytes)) = some (some (.slice none 0 0), 1, 24) := by kernel_rfl
/-- What is held comes to whole bodies, and what is left. -/
inductive Pz : List Int → List (List Int) → List Int → Prop
  | short (h : List Int) : h.length < 2 → Pz h [] h
  | part (m : Nat) (x : List Int) : m ≤ 1024 → x.length < m + 4 → Pz (hd2 m ++ x) [] (hd2 m ++ x)
  | one (b h : List Int) (bs : List (List Int)) (r : List Int) : Bytes [b] → b.length ≤ 1024 → Pz h bs r → Pz (fr b ++ h) (b :: bs) r
theorem Pz.len {h : List Int} {bs : List (List Int)} {r : List Int} (hz : Pz h bs r) : r.length + 6 * bs.length ≤ h.length := by
  induction hz with
  | short h _ => simp
  | part m x _ _ => simp
  | one b h bs r _ _ _ ih => rw [List.length_append, fr_len, List.length_cons]; omega
theorem Pz.way {h : List Int} {rem : List (List Int)} {r : List Int} (hz : Pz h rem r) : (rem = [] ∧ r = h ∧ ∀ (S : Nat) (n : Int) (w : World), St w S h n → Calls Tryd.prog 24 #[.pointer (some ⟨S, 0, none⟩)] w fun e w' => e = .returned (.tuple #[.slice none 0 0, .bool false, .nilIface]) ∧ Fr no w w') ∨ ∃ b h2 rem2, h = fr b ++ h2 ∧ rem = b :: rem2 ∧ Bytes [b] ∧ b.length ≤ 1024 ∧ Pz h2 rem2 r := by
  cases hz with
  | short h hl => exact .inl ⟨rfl, rfl, fun S n w hs => next_short S h n w hs hl⟩
  | part m x hm hl => exact .inl ⟨rfl, rfl, fun S n w hs => next_part S m x n w hs hm hl⟩
  | one b h bs r hb hm hz => exact .inr ⟨b, h, bs, rfl, rfl, hb, hm, hz⟩
theorem St.grown {W w5 : World} {S : Nat} {h : List Int} {n : Int} {ok : Nat → Prop} {v : Value} {done : List (List Int)} (hs : St W S h n) (hR : kD.R 24 W 0 ok v done) (hg : W.grownBy w5 v.ownBlock) (hne : some S ≠ v.ownBlock) : St w5 S h n := by
  obtain ⟨v', h1, h2⟩ := hs
  refine ⟨v', blk_grown h1 hg hne, ?_⟩
  cases hv : v.ownBlock with
  | none => rw [hv] at hg; exact Kd.R_grown h2 hg (fun k _ => by simp)
  | some g =>
    obtain ⟨inner, ho⟩ := Kd.R_own hR
    obtain ⟨cells, hc⟩ := own_typed ho g hv
    have h3 := Kd.R_types h2 hc (by decide)
    rw [hv] at hg
    exact Kd.R_mono (Kd.R_grown h3 hg (fun k hk e => by injection e with e; exact hk.2 e)) (fun k hk => hk.1)
theorem clipBB_c (A : Option Addr) (n c : Nat) (hc : n ≤ c) (hm : c ≤ 9223372036854775807) (w : World) :
    Calls Tryd.prog 25 #[.slice A n c] w fun e w' => e = .returned (.slice A n n) ∧ w = w' := by
  go_enter Tryd.func25, Tryd.ntmps25
  go_wp2
  go_ret
  exact ⟨rfl, rfl⟩
set_option maxRecDepth 100000 in
set_option maxHeartbeats 4000000 in
theorem feed_yes (S : Nat) (h0 x : List Int) (bs : List (List Int)) (r : List Int) (n : Int) (Ab : Option Addr) (cb : Nat) (w : World) (hs : St w S h0 n) (hx : (Kd.int .u8).C w Ab x.length x) (hcb : x.length ≤ cb) (hB : Bytes [h0, x]) (hpos : 0 < (h0 ++ x).length) (hz : Pz (h0 ++ x) bs r) (hn : 0 ≤ n) (hn2 : n ≤ 1000000) :
    Calls Tryd.prog 11 #[.pointer (some ⟨S, 0, none⟩), .slice Ab x.length cb] w fun e w' => (∃ A, e = .returned (.tuple #[.slice A bs.length bs.length, .nilIface]) ∧ ReadsRow (kD.M w' 0 (since w)) 1 w' A bs.length bs ∧ ∀ ad, A = some ad → since w ad.block) ∧ St w' S r (n + bs.length) ∧ Fr (fun k => k = S) w w' := by
  have hhl := (hB h0 (by simp)).1
  have hxl := (hB x (by simp)).1
  obtain ⟨v, h1, h2⟩ := hs
  obtain ⟨A, c, rfl⟩ := Kd.R_slice h2
  obtain ⟨h3, h4⟩ := R_cap h2
  have k0 := blk_cell h1 0
  have k2 := blk_cell h1 2
  have hX3 := blk_new w (.cells #[.slice A h0.length c, .slice Ab x.length cb] 24)
  have hf3 := (Fr.refl no w).alloc (.cells #[.slice A h0.length c, .slice Ab x.length cb] 24)
  have hC3 : kB.C (w.alloc (.cells #[.slice A h0.length c, .slice Ab x.length cb] 24)) (some ⟨w.heap.size, 0, none⟩) [h0, x].length [h0, x] :=
    C_blk (d := kB) hX3 [h0, x] (show 0 < 1 by decide) (show 2 ≤ 9223372036854775807 by decide) (((Reps.none _ _).snoc (p := h0) (show kB.K _ h0 [.slice A h0.length c] from ⟨A, c, rfl, h3, C_fr (Kd.R_reads' h2).2.2 hf3⟩) rfl).snoc (p := x) (show kB.K _ x [.slice Ab x.length cb] from ⟨Ab, cb, rfl, hcb, C_fr hx hf3⟩) rfl)
  have hcc := concat_c _ 2 [h0, x] (by simp) hB (by rw [show [h0, x].flatten = h0 ++ x by simp]; exact hpos) _ hC3
  rw [show [h0, x].flatten = h0 ++ x by simp] at hcc
  have HCC := Lib.hid hcc
  have H1 := Lib.hid h1
  have HZ := Lib.hid hz
  have HF3 := Lib.hid hf3
  have hzl := hz.len
  obtain ⟨L, hL⟩ : ∃ L, h0 ++ x = L := ⟨_, rfl⟩
  have hLL : L.length ≤ 200000 := by rw [← hL, List.length_append]; omega
  rw [hL] at HCC HZ hzl
  clear hcc hC3 hX3 hf3 hx h1 h2 hB hz hpos h3 h4
  go_enter Tryd.func11, Tryd.ntmps11
  go_wp2_with fail
  refine HCC.out.mono ?_
  rintro e w1 ⟨⟨A1, c1, rfl, hR1⟩, hf1⟩
  have hf01 := HF3.out.trans' hf1
  have hb1 := hf01.heap H1.out (fun h => h)
  have k3 := blk_cell hb1 0
  have k4 := blk_frozen hb1 0
  have HB1 := Lib.hid hb1
  have HR1 := Lib.hid hR1
  have HF1 := Lib.hid hf01
  have hgp : S < w1.heap.size := blk_lt hb1
  have HS0 := Lib.hid (blk_lt H1.out)
  clear k0 k2 hb1 hR1 hf1 hf01 HCC
  dsimp only
  go_wp2_with fail
  generalize hW : w1.setCell ⟨S, 0, none⟩ _ = w2 at *
  have hss : Fr (fun k => k = S) w1 w2 := by rw [← hW]; exact Fr.set (p := ⟨S, 0, none⟩) (Fr.refl (fun k => k = S) w1) (fun _ => rfl) _
  have hst : St w2 S L n := by
    refine ⟨.slice A1 L.length c1, by rw [← hW]; exact blk_put HB1.out 0 _ rfl, Kd.R_mono (R_fr HR1.out hss (fun k hk e => ?_)) (fun k hk e => ?_)⟩
    all_goals
      subst e
      have h1 := HF3.out.size
      have h2 := HS0.out
      unfold since at hk
      omega
  have hw2 : Fr (fun k => k = S) w w2 := (HF1.out.mono (fun _ h _ => h.elim)).trans' hss
  have HST := Lib.hid hst
  have HW2 := Lib.hid hw2
  clear hst hw2 hss hW k3 k4 HR1 HF1 HB1 HF3 H1 hgp hcb hhl hxl
  go_loopg [6] bs.length (fun q v6 wr => ∃ (done rem : List (List Int)) (h : List Int), q = rem.length ∧ done ++ rem = bs ∧ kD.R 24 wr 0 (since w) v6 done ∧ Hid (St wr S h (n + done.length)) ∧ Hid (Pz h rem r) ∧ h.length ≤ 200000 ∧ Fr (fun k => k = S) w wr)
  case atStart => exact ⟨[], bs, L, rfl, rfl, Kd.R_nil _ _ _ _ _, by simpa using HST, HZ, hLL, HW2.out⟩
  case round =>
    obtain ⟨done, rem, h, hq, hbs, hR, hSt, hPz, hhl, hf⟩ := hrel
    obtain ⟨Ao, co, rfl⟩ := Kd.R_slice hR
    have HR := Lib.hid hR
    have HF := Lib.hid hf
    have hcap := R_cap hR
    obtain ⟨hcap1, hcap2⟩ := hcap
    clear hR hf
    rcases hPz.out.way with ⟨rfl, rfl, hnx⟩ | ⟨b, h2, rem2, rfl, rfl, hb, hm, hz2⟩
    · have HNX := Lib.hid (hnx S _ wr hSt.out)
      clear hnx
      have hdl : done = bs := by simpa using hbs
      subst hdl
      clear hbs hq
      go_wp2_with fail
      refine HNX.out.mono ?_
      rintro e w3 ⟨rfl, hf3⟩
      dsimp only
      go_wp2_with fail
      refine (clipBB_c Ao _ co hcap1 hcap2 w3).mono ?_
      rintro e w4 ⟨rfl, rfl⟩
      dsimp only
      go_wp2
      go_ret2
      have hR3 := R_fr HR.out hf3 (fun _ _ h => h)
      obtain ⟨A', c', e, hl, hr⟩ := OwnRow.reads hR3.2
      injection e with e1 e2 e3
      subst e1
      exact ⟨⟨Ao, rfl, hr.imp_ (Below.refl _ _) (fun _ _ hp => kD.M_mono (fun k hk => hk.1) hp), fun ad e => by subst e; exact HR.out.1 _ rfl⟩, hSt.out.fr hf3, HF.out.trans' (hf3.mono (fun _ h _ => h.elim))⟩
    · have HNX := Lib.hid (next_yes S b h2 _ wr hSt.out hb hm (by rw [List.length_append] at hhl; omega))
      have HZ2 := Lib.hid hz2
      clear hb hz2
      go_wp2_with fail
      refine HNX.out.mono ?_
      rintro e w3 ⟨⟨A3, c3, rfl, hR3⟩, hst3, hf3⟩
      have hSw : ∀ k, since w k → ¬ k = S := fun k hk e => by subst e; have := HS0.out; unfold since at hk; omega
      have hRo := R_fr HR.out hf3 hSw
      have hMo := kD.M_mono (fun k hk => (⟨hk, fun e => by
        obtain ⟨inner, ho⟩ := Kd.R_own HR.out
        have := own_lt ho k e.symm
        unfold since at hk
        omega⟩ : since wr k ∧ some k ≠ (Value.slice Ao done.length co).ownBlock)) (M_of_R hR3)
      have hszr := HF.out.size
      obtain ⟨vh, b1, b2⟩ := hst3
      have k1 := blk_cell b1 1
      have k2 := blk_frozen b1 1
      obtain ⟨N, hN⟩ : ∃ N, n + (done.length : Int) = N := ⟨_, rfl⟩
      have hdn : done.length ≤ bs.length := by rw [← hbs, List.length_append]; omega
      have hN1 : IntKind.i64.wrap (N + 1) = N + 1 := IntWalk.i64_in _ (by omega)
      have hN2 : wrap64 (N + 1) = N + 1 := by unfold wrap64; omega
      rw [hN] at b1 k1
      have hss3 : Fr (fun k => k = S) w3 (w3.setCell ⟨S, 1, none⟩ (.int .i64 (N + 1))) := Fr.set (p := ⟨S, 1, none⟩) (Fr.refl (fun k => k = S) w3) (fun _ => rfl) _
      have hst4 : St (w3.setCell ⟨S, 1, none⟩ (.int .i64 (N + 1))) S h2 (N + 1) := ⟨vh, blk_put b1 1 _ rfl, R_fr b2 hss3 (fun k hk => hk)⟩
      have hRo4 := R_fr hRo hss3 hSw
      have hMo4 := M_fr hMo hss3 (fun k hk e => by have := hk.1; subst e; have := HS0.out; unfold since at *; omega)
      have hF4 := (HF.out.trans' hf3).trans' hss3
      have f1 : (w3.setCell ⟨S, 1, none⟩ (.int .i64 (N + 1))).heap.size = w3.heap.size := by simp [World.setCell]
      have HS4 := Lib.hid hst4
      have HR4 := Lib.hid hRo4
      have HM4 := Lib.hid hMo4
      have HF4 := Lib.hid hF4
      have hne : some S ≠ (Value.slice Ao done.length co).ownBlock := fun e => hSw S (hRo.1 S e.symm) rfl
      have HNE := Lib.hid hne
      have HSW := Lib.hid hSw
      have hgp : S < w3.heap.size := blk_lt b1
      clear hst4 hRo4 hMo4 hF4 hss3 b1 b2 hRo hMo hR3 hf3 hne hSw HNX
      dsimp only
      go_wp2_with (at_builtin
                   refine Kd.R_append kD (w0 := w3.setCell ⟨S, 1, none⟩ (.int .i64 (N + 1))) 0 rfl (.tmp 57) (.tmp 59) 22 24 (.slice none 0 0) 24 rfl Tryd.underlying22 info24 rfl (by decide) (by omega) _ done b [.slice A3 b.length b.length] (since w) (fun k => since wr k ∧ some k ≠ (Value.slice Ao done.length co).ownBlock) rfl (by simp [go_sem]) HM4.out (fun k hk => ⟨Nat.le_trans hszr hk.1, hk.2⟩) (fun k hk => Nat.le_trans HF4.out.size hk) HR4.out (Below.refl 0 _) (Nat.zero_le _) (by omega) ?_
                   intro v1 w5 ho hb1 hg hat
                   clear hat hb1
                   have hst5 := HS4.out.grown HR4.out hg HNE.out
                   have hF5 : Fr (since w) (w3.setCell ⟨S, 1, none⟩ (.int .i64 (N + 1))) w5 := Fr.of_grown hg (fun k hk _ => HR4.out.1 k hk)
                   have hF6 : Fr (fun k => k = S) w w5 := HF4.out.trans hF5 (fun x hx hl => absurd hx (Nat.not_le.2 hl))
                   clear hg hF5)
      go_roundg rem2.length
      case measure => rw [hq]; simp
      case rel => exact ⟨done ++ [b], rem2, h2, rfl, by rw [List.append_assoc]; exact hbs, ho, by rw [List.length_append, show n + ((done.length + [b].length : Nat) : Int) = N + 1 by rw [← hN]; simp; omega]; exact hst5, HZ2, by rw [List.length_append] at hhl; omega, hF6⟩
end Go.Proofs.YtinkdgfdnagplaaDoor.Frame
