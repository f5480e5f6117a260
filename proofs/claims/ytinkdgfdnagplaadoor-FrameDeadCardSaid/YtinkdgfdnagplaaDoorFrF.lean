import Derived.Test.YtinkdgfdnagplaaDoorFrE
import Derived.Test.YtinkdgfdnagplaaDoorFrT
import Derived.Test.YtinkdgfdnagplaaDoorFrK
import Derived.Test.YtinkdgfdnagplaaDoorErrLaid
import Derived.OpenShut
/-! Streams that die: feeding one to its death, feeding a dead one. -/
set_option linter.unusedVariables false
set_option linter.unusedSimpArgs false
namespace Go.Proofs.YtinkdgfdnagplaaDoor.Frame
open Go.RowKit Go.Proofs.YtinkdgfdnagplaaDoorW.PrintWords Go.Proofs.YtinkdgfdnagplaaDoor.B Go.Proofs.YtinkdgfdnagplaaDoor.Crc Go.Proofs.YtinkdgfdnagplaaDoor.Err

/-- A dead stream at block S that told n. -/
def Sd (w : World) (S F : Nat) (n : Int) : Prop := w.heap[S]? = some (.cells #[.slice none 0 0, .int .i64 n, .iface 54 (.pointer (some ⟨F, 0, none⟩))] 62 (0, 0)) ∧ FaultAt w F frW n 4
theorem Sd.fr {w w1 : World} {S F : Nat} {n : Int} (hs : Sd w S F n) (hf : Fr no w w1) : Sd w1 S F n := ⟨hf.heap hs.1 (fun h => h), hf.heap hs.2 (fun h => h)⟩
theorem held_dead (S F : Nat) (n : Int) (w : World) (hs : Sd w S F n) :
    Calls Tryd.prog 13 #[.pointer (some ⟨S, 0, none⟩)] w fun e w' => e = .returned (.int .i64 0) ∧ w = w' := by
  have k0 := blk_cell hs.1 0
  clear hs
  go_enter Tryd.func13, Tryd.ntmps13
  go_wp2
  go_ret
  exact ⟨rfl, rfl⟩
theorem err_dead (S F : Nat) (n : Int) (w : World) (hg : ErrType w) (hs : Sd w S F n) :
    Calls Tryd.prog 15 #[.pointer (some ⟨S, 0, none⟩)] w fun e w' => (∃ G, e = .returned (.iface 54 (.pointer (some ⟨G, 0, none⟩))) ∧ w.heap.size ≤ G ∧ FaultAt w' G frW n 4) ∧ Fr no w w' := by
  have k2 := blk_cell hs.1 2
  have HA := Lib.hid (again_fault F frW n 4 w hg hs.2)
  clear hs hg
  go_enter Tryd.func15, Tryd.ntmps15
  go_wp2_with fail
  refine HA.out.mono ?_
  rintro e w1 ⟨⟨G, rfl, h1, h2⟩, hf⟩
  dsimp only
  go_wp2
  go_ret
  exact ⟨⟨G, rfl, h1, h2⟩, hf⟩
theorem feed_after (S F : Nat) (n : Int) (v : Value) (w : World) (hg : ErrType w) (hs : Sd w S F n) :
    Calls Tryd.prog 11 #[.pointer (some ⟨S, 0, none⟩), v] w fun e w' => (∃ G, e = .returned (.tuple #[.slice none 0 0, .iface 54 (.pointer (some ⟨G, 0, none⟩))]) ∧ w.heap.size ≤ G ∧ FaultAt w' G frW n 4) ∧ Fr no w w' := by
  have k2 := blk_cell hs.1 2
  have HA := Lib.hid (err_dead S F n w hg hs)
  clear hs hg
  go_enter Tryd.func11, Tryd.ntmps11
  go_wp2_with fail
  refine HA.out.mono ?_
  rintro e w1 ⟨⟨G, rfl, h1, h2⟩, hf⟩
  dsimp only
  go_wp2
  go_ret2
  exact ⟨⟨G, rfl, h1, h2⟩, hf⟩
/-- What is held comes to whole bodies, and a length that is too long. -/
inductive Pd : List Int → List (List Int) → Prop
  | dead (m : Nat) (x : List Int) : 1024 < m → m < 65536 → Pd (hd2 m ++ x) []
  | one (b h : List Int) (bs : List (List Int)) : Bytes [b] → b.length ≤ 1024 → Pd h bs → Pd (fr b ++ h) (b :: bs)
theorem Pd.len {h : List Int} {bs : List (List Int)} (hz : Pd h bs) : 6 * bs.length + 2 ≤ h.length := by
  induction hz with
  | dead m x _ _ => simp [hd2]
  | one b h bs _ _ _ ih => rw [List.length_append, fr_len, List.length_cons]; omega
theorem Pd.way {h : List Int} {rem : List (List Int)} (hz : Pd h rem) : (rem = [] ∧ ∀ (S : Nat) (n : Int) (w : World), St w S h n → Calls Tryd.prog 24 #[.pointer (some ⟨S, 0, none⟩)] w fun e w' => (∃ F, e = .returned (.tuple #[.slice none 0 0, .bool false, .iface 54 (.pointer (some ⟨F, 0, none⟩))]) ∧ w.heap.size ≤ F ∧ FaultAt w' F frW n 4) ∧ Fr no w w') ∨ ∃ b h2 rem2, h = fr b ++ h2 ∧ rem = b :: rem2 ∧ Bytes [b] ∧ b.length ≤ 1024 ∧ Pd h2 rem2 := by
  cases hz with
  | dead m x hm hl => exact .inl ⟨rfl, fun S n w hs => next_dead S m x n w hs hm hl⟩
  | one b h bs hb hm hz => exact .inr ⟨b, h, bs, rfl, rfl, hb, hm, hz⟩
set_option maxRecDepth 100000 in
set_option maxHeartbeats 4000000 in
theorem feed_dead (S : Nat) (h0 x : List Int) (bs : List (List Int)) (n : Int) (Ab : Option Addr) (cb : Nat) (w : World) (hs : St w S h0 n) (hx : (Kd.int .u8).C w Ab x.length x) (hcb : x.length ≤ cb) (hB : Bytes [h0, x]) (hpos : 0 < (h0 ++ x).length) (hz : Pd (h0 ++ x) bs) (hn : 0 ≤ n) (hn2 : n ≤ 1000000) (hg : ErrType w) :
    Calls Tryd.prog 11 #[.pointer (some ⟨S, 0, none⟩), .slice Ab x.length cb] w fun e w' => (∃ A G, e = .returned (.tuple #[.slice A bs.length bs.length, .iface 54 (.pointer (some ⟨G, 0, none⟩))]) ∧ ReadsRow (kD.M w' 0 (since w)) 1 w' A bs.length bs ∧ FaultAt w' G frW (n + bs.length) 4) ∧ (∃ F, Sd w' S F (n + bs.length)) ∧ Fr (fun k => k = S) w w' := by
  have hhl := (hB h0 (by simp)).1
  have hxl := (hB x (by simp)).1
  obtain ⟨v, h1, h2⟩ := hs
  obtain ⟨A, c, rfl⟩ := Kd.R_slice h2
  obtain ⟨h3, h4⟩ := R_cap h2
  have k0 := blk_cell h1 0
  have k2 := blk_cell h1 2
  have hSg : S ≠ 0 := by
    rintro rfl
    have h := hg
    unfold ErrType at h
    rw [k0] at h
    cases h
  have HEG := Lib.hid hg
  have HSG := Lib.hid hSg
  clear hg hSg
  have hX3 := blk_new w (.cells #[.slice A h0.length c, .slice Ab x.length cb] 24)
  have hf3 := (Fr.refl no w).alloc (.cells #[.slice A h0.length c, .slice Ab x.length cb] 24)
  have hC3 : kB.C (w.alloc (.cells #[.slice A h0.length c, .slice Ab x.length cb] 24)) (some ⟨w.heap.size, 0, none⟩) [h0, x].length [h0, x] :=
    C_blk (d := kB) hX3 [h0, x] (show 0 < 1 by decide) (show 2 ≤ 9223372036854775807 by decide) (((Reps.none _ _).snoc (p := h0) (show kB.K _ h0 [.slice A h0.length c] from ⟨A, c, rfl, h3, C_fr (Kd.R_reads' h2).2.2 hf3⟩) rfl).snoc (p := x) (show kB.K _ x [.slice Ab x.length cb] from ⟨Ab, cb, rfl, hcb, C_fr hx hf3⟩) rfl)
  have hcc := concat_c _ 2 [h0, x] (by simp) hB (by rw [show [h0, x].flatten = h0 ++ x by simp]; exact hpos) _ hC3
  rw [show [h0, x].flatten = h0 ++ x by simp] at hcc
  have HCC := Lib.hid hcc
  have H1 := Lib.hid h1
  have HZ := Lib.hid hz
  have HF3 := Lib.hid hf3
  have hzl := hz.len
  obtain ⟨L, hL⟩ : ∃ L, h0 ++ x = L := ⟨_, rfl⟩
  have hLL : L.length ≤ 200000 := by rw [← hL, List.length_append]; omega
  rw [hL] at HCC HZ hzl
  clear hcc hC3 hX3 hf3 hx h1 h2 hB hz hpos h3 h4
  go_enter Tryd.func11, Tryd.ntmps11
  go_wp2_with fail
  refine HCC.out.mono ?_
  rintro e w1 ⟨⟨A1, c1, rfl, hR1⟩, hf1⟩
  have hf01 := HF3.out.trans' hf1
  have hb1 := hf01.heap H1.out (fun h => h)
  have k3 := blk_cell hb1 0
  have k4 := blk_frozen hb1 0
  have HB1 := Lib.hid hb1
  have HR1 := Lib.hid hR1
  have HF1 := Lib.hid hf01
  have hgp : S < w1.heap.size := blk_lt hb1
  have HS0 := Lib.hid (blk_lt H1.out)
  clear k0 k2 hb1 hR1 hf1 hf01 HCC
  dsimp only
  go_wp2_with fail
  generalize hW : w1.setCell ⟨S, 0, none⟩ _ = w2 at *
  have hss : Fr (fun k => k = S) w1 w2 := by rw [← hW]; exact Fr.set (p := ⟨S, 0, none⟩) (Fr.refl (fun k => k = S) w1) (fun _ => rfl) _
  have hst : St w2 S L n := by
    refine ⟨.slice A1 L.length c1, by rw [← hW]; exact blk_put HB1.out 0 _ rfl, Kd.R_mono (R_fr HR1.out hss (fun k hk e => ?_)) (fun k hk e => ?_)⟩
    all_goals
      subst e
      have h1 := HF3.out.size
      have h2 := HS0.out
      unfold since at hk
      omega
  have hw2 : Fr (fun k => k = S) w w2 := (HF1.out.mono (fun _ h _ => h.elim)).trans' hss
  have HST := Lib.hid hst
  have HW2 := Lib.hid hw2
  clear hst hw2 hss hW k3 k4 HR1 HF1 HB1 HF3 H1 hgp hcb hhl hxl
  go_loopg [6] bs.length (fun q v6 wr => ∃ (done rem : List (List Int)) (h : List Int), q = rem.length ∧ done ++ rem = bs ∧ kD.R 24 wr 0 (since w) v6 done ∧ Hid (St wr S h (n + done.length)) ∧ Hid (Pd h rem) ∧ h.length ≤ 200000 ∧ Fr (fun k => k = S) w wr)
  case atStart => exact ⟨[], bs, L, rfl, rfl, Kd.R_nil _ _ _ _ _, by simpa using HST, HZ, hLL, HW2.out⟩
  case round =>
    obtain ⟨done, rem, h, hq, hbs, hR, hSt, hPz, hhl, hf⟩ := hrel
    obtain ⟨Ao, co, rfl⟩ := Kd.R_slice hR
    have HR := Lib.hid hR
    have HF := Lib.hid hf
    have hcap := R_cap hR
    obtain ⟨hcap1, hcap2⟩ := hcap
    clear hR hf
    rcases hPz.out.way with ⟨rfl, hnx⟩ | ⟨b, h2, rem2, rfl, rfl, hb, hm, hz2⟩
    · have HNX := Lib.hid (hnx S _ wr hSt.out)
      clear hnx
      have hdl : done = bs := by simpa using hbs
      subst hdl
      clear hbs hq
      go_wp2_with fail
      refine HNX.out.mono ?_
      rintro e w3 ⟨⟨F, rfl, hF0, hF⟩, hf3⟩
      obtain ⟨N, hN⟩ : ∃ N, n + (done.length : Int) = N := ⟨_, rfl⟩
      have hSw : ∀ k, since w k → ¬ k = S := fun k hk e => by subst e; have := HS0.out; unfold since at hk; omega
      rw [hN] at hF hSt
      have HN := Lib.hid hN
      have hst3 := hSt.out.fr hf3
      obtain ⟨vh, b1, b2⟩ := hst3
      have k0 := blk_cell b1 0
      have k2 := blk_cell b1 2
      have k0f := blk_frozen b1 0
      have k2f := blk_frozen b1 2
      have hFS : ¬ F = S := by
        intro e
        subst e
        obtain ⟨v0, b0, _⟩ := hSt.out
        have := blk_lt b0
        omega
      have hgp : S < w3.heap.size := blk_lt b1
      have HB1 := Lib.hid b1
      have HF3 := Lib.hid hF
      have HR3 := Lib.hid (R_fr HR.out hf3 (fun _ _ h => h))
      have HF4 := Lib.hid (HF.out.trans' (hf3.mono (fun _ h _ => h.elim)))
      have HSW := Lib.hid hSw
      have HFS := Lib.hid hFS
      clear hSw b1 b2 hF hf3 hSt HNX hFS hN
      dsimp only
      go_wp2_with fail
      generalize hW : World.setCell (w3.setCell ⟨S, 0, none⟩ _) _ _ = w4 at *
      have hss : Fr (fun k => k = S) w3 w4 := by rw [← hW]; exact Fr.set (p := ⟨S, 2, none⟩) (Fr.set (p := ⟨S, 0, none⟩) (Fr.refl (fun k => k = S) w3) (fun _ => rfl) _) (fun _ => rfl) _
      have hb4 : (w3.setCell ⟨S, 0, none⟩ (.slice none 0 0)).heap[S]? = some (.cells #[.slice none 0 0, .int .i64 N, .nilIface] 62 (0, 0)) := blk_put HB1.out 0 _ rfl
      have hb5 : w4.heap[S]? = some (.cells #[.slice none 0 0, .int .i64 N, .iface 54 (.pointer (some ⟨F, 0, none⟩))] 62 (0, 0)) := by rw [← hW]; exact blk_put hb4 2 _ rfl
      have hSd : Sd w4 S F N := ⟨hb5, hss.heap HF3.out HFS.out⟩
      have HSD := Lib.hid hSd
      have HF5 := Lib.hid (HF4.out.trans' hss)
      have HEG4 := Lib.hid (HEG.out.fr HF5.out (fun e => HSG.out e.symm))
      have HR5 := Lib.hid (R_fr HR3.out hss HSW.out)
      clear hss hb4 hb5 hSd hW k0 k2 k0f k2f HF4 HR3 HB1 HF3 hgp
      refine (clipBB_c Ao _ co hcap1 hcap2 w4).mono ?_
      rintro e w5 ⟨rfl, rfl⟩
      dsimp only
      go_wp2_with fail
      refine (err_dead S F N w4 HEG4.out HSD.out).mono ?_
      rintro e w6 ⟨⟨G, rfl, hG1, hG2⟩, hf6⟩
      have HG2 := Lib.hid hG2
      have HF6 := Lib.hid hf6
      clear hG1 hG2 hf6
      dsimp only
      go_wp2
      go_ret2
      have hR6 := R_fr HR5.out HF6.out (fun _ _ h => h)
      obtain ⟨A', c', e, hl, hr⟩ := OwnRow.reads hR6.2
      injection e with e1 e2 e3
      subst e1
      exact ⟨⟨Ao, G, rfl, hr.imp_ (Below.refl _ _) (fun _ _ hp => kD.M_mono (fun k hk => hk.1) hp), by rw [HN.out]; exact HG2.out⟩, ⟨F, by rw [HN.out]; exact HSD.out.fr HF6.out⟩, HF5.out.trans' (HF6.out.mono (fun _ h _ => h.elim))⟩
    · have HNX := Lib.hid (next_yes S b h2 _ wr hSt.out hb hm (by rw [List.length_append] at hhl; omega))
      have HZ2 := Lib.hid hz2
      clear hb hz2
      go_wp2_with fail
      refine HNX.out.mono ?_
      rintro e w3 ⟨⟨A3, c3, rfl, hR3⟩, hst3, hf3⟩
      have hSw : ∀ k, since w k → ¬ k = S := fun k hk e => by subst e; have := HS0.out; unfold since at hk; omega
      have hRo := R_fr HR.out hf3 hSw
      have hMo := kD.M_mono (fun k hk => (⟨hk, fun e => by
        obtain ⟨inner, ho⟩ := Kd.R_own HR.out
        have := own_lt ho k e.symm
        unfold since at hk
        omega⟩ : since wr k ∧ some k ≠ (Value.slice Ao done.length co).ownBlock)) (M_of_R hR3)
      have hszr := HF.out.size
      obtain ⟨vh, b1, b2⟩ := hst3
      have k1 := blk_cell b1 1
      have k2 := blk_frozen b1 1
      obtain ⟨N, hN⟩ : ∃ N, n + (done.length : Int) = N := ⟨_, rfl⟩
      have hdn : done.length ≤ bs.length := by rw [← hbs, List.length_append]; omega
      have hN1 : IntKind.i64.wrap (N + 1) = N + 1 := IntWalk.i64_in _ (by omega)
      have hN2 : wrap64 (N + 1) = N + 1 := by unfold wrap64; omega
      rw [hN] at b1 k1
      have hss3 : Fr (fun k => k = S) w3 (w3.setCell ⟨S, 1, none⟩ (.int .i64 (N + 1))) := Fr.set (p := ⟨S, 1, none⟩) (Fr.refl (fun k => k = S) w3) (fun _ => rfl) _
      have hst4 : St (w3.setCell ⟨S, 1, none⟩ (.int .i64 (N + 1))) S h2 (N + 1) := ⟨vh, blk_put b1 1 _ rfl, R_fr b2 hss3 (fun k hk => hk)⟩
      have hRo4 := R_fr hRo hss3 hSw
      have hMo4 := M_fr hMo hss3 (fun k hk e => by have := hk.1; subst e; have := HS0.out; unfold since at *; omega)
      have hF4 := (HF.out.trans' hf3).trans' hss3
      have f1 : (w3.setCell ⟨S, 1, none⟩ (.int .i64 (N + 1))).heap.size = w3.heap.size := by simp [World.setCell]
      have HS4 := Lib.hid hst4
      have HR4 := Lib.hid hRo4
      have HM4 := Lib.hid hMo4
      have HF4 := Lib.hid hF4
      have hne : some S ≠ (Value.slice Ao done.length co).ownBlock := fun e => hSw S (hRo.1 S e.symm) rfl
      have HNE := Lib.hid hne
      have HSW := Lib.hid hSw
      have hgp : S < w3.heap.size := blk_lt b1
      clear hst4 hRo4 hMo4 hF4 hss3 b1 b2 hRo hMo hR3 hf3 hne hSw HNX
      dsimp only
      go_wp2_with (at_builtin
                   refine Kd.R_append kD (w0 := w3.setCell ⟨S, 1, none⟩ (.int .i64 (N + 1))) 0 rfl (.tmp 57) (.tmp 59) 22 24 (.slice none 0 0) 24 rfl Tryd.underlying22 info24 rfl (by decide) (by omega) _ done b [.slice A3 b.length b.length] (since w) (fun k => since wr k ∧ some k ≠ (Value.slice Ao done.length co).ownBlock) rfl (by simp [go_sem]) HM4.out (fun k hk => ⟨Nat.le_trans hszr hk.1, hk.2⟩) (fun k hk => Nat.le_trans HF4.out.size hk) HR4.out (Below.refl 0 _) (Nat.zero_le _) (by omega) ?_
                   intro v1 w5 ho hb1 hg hat
                   clear hat hb1
                   have hst5 := HS4.out.grown HR4.out hg HNE.out
                   have hF5 : Fr (since w) (w3.setCell ⟨S, 1, none⟩ (.int .i64 (N + 1))) w5 := Fr.of_grown hg (fun k hk _ => HR4.out.1 k hk)
                   have hF6 : Fr (fun k => k = S) w w5 := HF4.out.trans hF5 (fun x hx hl => absurd hx (Nat.not_le.2 hl))
                   clear hg hF5)
      go_roundg rem2.length
      case measure => rw [hq]; simp
      case rel => exact ⟨done ++ [b], rem2, h2, rfl, by rw [List.append_assoc]; exact hbs, ho, by rw [List.length_append, show n + ((done.length + [b].length : Nat) : Int) = N + 1 by rw [← hN]; simp; omega]; exact hst5, HZ2, by rw [List.length_append] at hhl; omega, hF6⟩
end Go.Proofs.YtinkdgfdnagplaaDoor.Frame
