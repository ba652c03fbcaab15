/- What is taken is more urgent than what runs and left again leaves the stack as it was: the law 'FnInterfaces' says so of every code. No condition. -/
import Derived.Test.YtndfmkbpdoohfaaGreatMcFiG
namespace Go.Proofs.YtndfmkbpdoohfaaGreat
open Go.RowKit Go.ChangeShapes Go.WideShapes Go.Deep

theorem FI.lvl {m : Int} {st : List Int} {ls : List Sl} {lw : List Wt} (h : Fa.good m st ls lw = true) (hk : Sl.tkOk ls (minI m (Fa.run st ls)) = true) : Fa.run (st ++ [Sl.tkI ls]) (Sl.tkS ls) < minI m (Fa.run st ls) := by
  have hq := (Fa.good_iff.1 h).2.1
  have hp := (Qu.good_parts hq).1
  have hg2 := (Qu.parts_get (Qu.tk_parts hp hk)).1
  have hact := Qu.tk_act hk
  obtain ⟨k, s, hb, hlt, hs, h1, hpm, e, e2⟩ := Sl.tkOk_hit hk
  have hl2 : Sl.lvl (Sl.tkS ls) (Sl.tkI ls) = s.prio := by
    refine Sl.act_lvl hg2 ((hact _ _).2 (.inl ⟨rfl, ?_⟩))
    rw [hb, Sl.at_get hs]
  rw [Fa.run_last (i := Sl.tkI ls) (by simp), hl2]
  exact hpm
/-- what a take that is done says -/
theorem FI.took {m : Int} {st : List Int} {ls : List Sl} {lw : List Wt} (h : Fa.ttOk m st ls lw = true) :
    Fa.good m st ls lw = true ∧ Fa.good m (st ++ [Sl.tkI ls]) (Sl.tkS ls) lw = true ∧ Fa.run (st ++ [Sl.tkI ls]) (Sl.tkS ls) < Fa.run st ls ∧ Fa.run (st ++ [Sl.tkI ls]) (Sl.tkS ls) < m ∧
    Fa.lvOk m (st ++ [Sl.tkI ls]) (Sl.tkS ls) lw = true ∧ Fa.lvM m (st ++ [Sl.tkI ls]) (Sl.tkS ls) lw = m ∧ Fa.lvI m (st ++ [Sl.tkI ls]) (Sl.tkS ls) lw = Sl.tkI ls ∧ Fa.lvT m (st ++ [Sl.tkI ls]) (Sl.tkS ls) lw = st ∧
    Fa.good m st (Fa.lvS m (st ++ [Sl.tkI ls]) (Sl.tkS ls) lw) (Fa.lvW m (st ++ [Sl.tkI ls]) (Sl.tkS ls) lw) = true := by
  have h0 := h
  simp only [Fa.ttOk, Bool.and_eq_true] at h
  obtain ⟨hg, hk⟩ := h
  have hg2 : Fa.good m (st ++ [Sl.tkI ls]) (Sl.tkS ls) lw = true := FS.took_good (s := ⟨m, st, ls, lw⟩) hg hk
  have hl := FI.lvl hg hk
  have hm := minI_le m (Fa.run st ls)
  have hj : st.length + 1 = (st ++ [Sl.tkI ls]).length := by simp
  have hx : (st ++ [Sl.tkI ls])[st.length]? = some (Sl.tkI ls) := by simp
  obtain ⟨e1, e2, e3, e4, e5, e6⟩ := Fa.lv_yes (lw := lw) (m := m) hg2 hj hx
  have h3 := FS.left_good (s := ⟨m, st ++ [Sl.tkI ls], Sl.tkS ls, lw⟩) hg2 (by show ¬ (st ++ [Sl.tkI ls]).length = 0; simp)
  obtain ⟨_, f2, f3⟩ := Fa.top_at hj hx
  have ht : (st ++ [Sl.tkI ls]).take st.length = st := by simp
  rw [ht] at e4 f2
  refine ⟨hg, hg2, by omega, by omega, e1, e2, e3, e4, ?_⟩
  rw [e5, e6]
  simpa [FS.left, FS.good, f2, f3] using h3

set_option maxRecDepth 8000 in
set_option maxHeartbeats 16000000 in
theorem FnInterfaces_walk (cv : Value) (l : List UInt8) (w : World) (h : Rd By.cells 1 w 0 w.heap.size cv l) :
    Calls Tryz.prog 3 #[cv] w fun e w' => e = .returned (.bool true) ∧ Below w.heap.size w w' := by
  have hB := Below.refl w.heap.size w
  have z_0 : w.heap.size ≤ w.heap.size := Nat.le_refl _
  have c0 := vBig_any cv l w h
  by_cases hz : 65536 < l.length
  · rw [decide_eq_true hz] at c0
    go_enter Tryz.func3, Tryz.ntmps3
    go_wp2_with fail
    refine (c0).mono ?_; rintro q_ w_ ⟨rfl, rfl⟩
    go_wp2_with fail
    go_ret
    exact ⟨rfl, hB⟩
  rw [decide_eq_false hz] at c0
  go_enter Tryz.func3, Tryz.ntmps3
  go_wp2_with fail
  refine (c0).mono ?_; rintro q_ w_ ⟨rfl, rfl⟩
  clear c0
  go_wp2_with fail
  refine (DrawTakeIrq_any cv l w h (by omega)).mono ?_; rintro q_ w1 ⟨m1, vt1, vs1, vw1, st1, ls1, lw1, rfl, ht1, hl1, hw1, a1, o1, p1, b_1⟩
  replace h := h.below b_1 (by omega)
  have z_2 := b_1.size
  replace hB := hB.trans (b_1.mono (by omega))
  clear b_1
  obtain ⟨T1, n1, d1, rfl, HN1, _, _⟩ := a1.rd.form
  obtain ⟨A1, k1, c1, rfl, _, _, _⟩ := o1.rd.form
  obtain ⟨B1, j1, e1, rfl, _, _, _⟩ := p1.rd.form
  go_wp2_with fail
  have b_3 := (Below.refl w1.heap.size w1).alloc (Nat.le_refl _) (.cells #[.int .i64 m1, .slice T1 n1 d1, .slice A1 k1 c1, .slice B1 j1 e1] 30)
  have bq1 := Box.new w1 #[.int .i64 m1, .slice T1 n1 d1, .slice A1 k1 c1, .slice B1 j1 e1] 30 rfl
  replace h := h.below b_3 (by omega)
  replace a1 := a1.below b_3 (by omega)
  replace o1 := o1.below b_3 (by omega)
  replace p1 := p1.below b_3 (by omega)
  have z_4 := b_3.size
  replace hB := hB.trans (b_3.mono (by omega))
  clear b_3
  generalize w1.alloc _ = w3 at *
  generalize w1.heap.size = g3 at *
  obtain ⟨ok1, hz_⟩ : ∃ o, Fa.ttOk m1 st1 ls1 lw1 = o := ⟨_, rfl⟩
  have Hok1 := Lib.hid hz_
  clear hz_
  have nok1 : (ok1 != ok1) = false := by simp
  obtain ⟨ir1, hz_⟩ : ∃ o, Fa.ttV m1 st1 ls1 lw1 = o := ⟨_, rfl⟩
  have Hir1 := Lib.hid hz_
  clear hz_
  have nir1 : (ir1 != ir1) = false := by simp
  obtain ⟨gd1, hz_⟩ : ∃ o, Fa.good m1 st1 ls1 lw1 = o := ⟨_, rfl⟩
  have Hgd1 := Lib.hid hz_
  clear hz_
  have ngd1 : (gd1 != gd1) = false := by simp
  have c1 := implTakeIrq_any m1 _ _ _ st1 ls1 lw1 w3 a1.rd o1.rd p1.rd (by omega) (by omega) (by omega) ht1 hw1
  rw [Hok1.out, Hir1.out] at c1
  refine (c1).mono ?_; rintro q_ w5 ⟨vt2, vs2, vw2, rfl, a2, o2, p2, b_5⟩
  replace bq1 := bq1.below b_5 bq1.lt
  replace h := h.below b_5 (by omega)
  replace a1 := a1.below b_5 (by omega)
  replace o1 := o1.below b_5 (by omega)
  replace p1 := p1.below b_5 (by omega)
  have z_6 := b_5.size
  replace hB := hB.trans (b_5.mono (by omega))
  clear b_5
  obtain ⟨T2, n2, d2, rfl, HN2, _, _⟩ := a2.rd.form
  obtain ⟨A2, k2, c2, rfl, _, _, _⟩ := o2.rd.form
  obtain ⟨B2, j2, e2, rfl, _, _, _⟩ := p2.rd.form
  clear c1
  have bq1_0 := bq1.cell (j := 0) rfl
  have bq1_1 := bq1.cell (j := 1) rfl
  have bq1_2 := bq1.cell (j := 2) rfl
  have bq1_3 := bq1.cell (j := 3) rfl
  have bq1_z := bq1.frozen
  have bq1_l := bq1.lt
  go_wp2_with fail
  clear bq1_0 bq1_1 bq1_2 bq1_3 bq1_z bq1_l
  have b_7 := (Below.refl w5.heap.size w5).alloc (Nat.le_refl _) (.cells #[.int .i64 (Fa.ttM m1 st1 ls1 lw1), .slice T2 n2 d2, .slice A2 k2 c2, .slice B2 j2 e2] 30)
  have bq2 := Box.new w5 #[.int .i64 (Fa.ttM m1 st1 ls1 lw1), .slice T2 n2 d2, .slice A2 k2 c2, .slice B2 j2 e2] 30 rfl
  replace bq1 := bq1.below b_7 bq1.lt
  replace h := h.below b_7 (by omega)
  replace a1 := a1.below b_7 (by omega)
  replace o1 := o1.below b_7 (by omega)
  replace p1 := p1.below b_7 (by omega)
  replace a2 := a2.below b_7 (by omega)
  replace o2 := o2.below b_7 (by omega)
  replace p2 := p2.below b_7 (by omega)
  have z_8 := b_7.size
  replace hB := hB.trans (b_7.mono (by omega))
  clear b_7
  generalize w5.alloc _ = w7 at *
  generalize w5.heap.size = g7 at *
  have c1 := specTakeIrq_any m1 _ _ _ st1 ls1 lw1 w7 a1.rd o1.rd p1.rd (by omega) (by omega) (by omega) ht1 hw1
  rw [Hok1.out, Hir1.out] at c1
  refine (c1).mono ?_; rintro q_ w9 ⟨vt3, vs3, vw3, rfl, a3, o3, p3, b_9⟩
  replace bq1 := bq1.below b_9 bq1.lt
  replace bq2 := bq2.below b_9 bq2.lt
  replace h := h.below b_9 (by omega)
  replace a1 := a1.below b_9 (by omega)
  replace o1 := o1.below b_9 (by omega)
  replace p1 := p1.below b_9 (by omega)
  replace a2 := a2.below b_9 (by omega)
  replace o2 := o2.below b_9 (by omega)
  replace p2 := p2.below b_9 (by omega)
  have z_10 := b_9.size
  replace hB := hB.trans (b_9.mono (by omega))
  clear b_9
  obtain ⟨T3, n3, d3, rfl, HN3, _, _⟩ := a3.rd.form
  obtain ⟨A3, k3, c3, rfl, _, _, _⟩ := o3.rd.form
  obtain ⟨B3, j3, e3, rfl, _, _, _⟩ := p3.rd.form
  clear c1
  have bq1_0 := bq1.cell (j := 0) rfl
  have bq1_1 := bq1.cell (j := 1) rfl
  have bq1_2 := bq1.cell (j := 2) rfl
  have bq1_3 := bq1.cell (j := 3) rfl
  have bq1_z := bq1.frozen
  have bq1_l := bq1.lt
  have bq2_0 := bq2.cell (j := 0) rfl
  have bq2_1 := bq2.cell (j := 1) rfl
  have bq2_2 := bq2.cell (j := 2) rfl
  have bq2_3 := bq2.cell (j := 3) rfl
  have bq2_z := bq2.frozen
  have bq2_l := bq2.lt
  go_upto_region 6 with fail
  clear bq1_0 bq1_1 bq1_2 bq1_3 bq1_z bq1_l bq2_0 bq2_1 bq2_2 bq2_3 bq2_z bq2_l
  have b_11 := (Below.refl w9.heap.size w9).alloc (Nat.le_refl _) (.cells #[.int .i64 (Fa.ttM m1 st1 ls1 lw1), .slice T3 n3 d3, .slice A3 k3 c3, .slice B3 j3 e3] 30)
  have bq3 := Box.new w9 #[.int .i64 (Fa.ttM m1 st1 ls1 lw1), .slice T3 n3 d3, .slice A3 k3 c3, .slice B3 j3 e3] 30 rfl
  replace bq1 := bq1.below b_11 bq1.lt
  replace bq2 := bq2.below b_11 bq2.lt
  replace h := h.below b_11 (by omega)
  replace a1 := a1.below b_11 (by omega)
  replace o1 := o1.below b_11 (by omega)
  replace p1 := p1.below b_11 (by omega)
  replace a2 := a2.below b_11 (by omega)
  replace o2 := o2.below b_11 (by omega)
  replace p2 := p2.below b_11 (by omega)
  replace a3 := a3.below b_11 (by omega)
  replace o3 := o3.below b_11 (by omega)
  replace p3 := p3.below b_11 (by omega)
  have z_12 := b_11.size
  replace hB := hB.trans (b_11.mono (by omega))
  clear b_11
  generalize w9.alloc _ = w11 at *
  generalize w9.heap.size = g11 at *
  go_cut [79] (fun s79 wx => s79 = .bool false ∧ Below w11.heap.size w11 wx)
  case first =>
    as_aux_lemma =>
      have hBf := Below.refl w11.heap.size w11
      have mkS : ∀ Wx, Below w11.heap.size w11 Wx → Below w11.heap.size w11 Wx ∧ Wx.cell? ⟨g3, 0, none⟩ = some (.int .i64 m1) ∧ Wx.cell? ⟨g3, 1, none⟩ = some (.slice T1 n1 d1) ∧ Wx.cell? ⟨g3, 2, none⟩ = some (.slice A1 k1 c1) ∧ Wx.cell? ⟨g3, 3, none⟩ = some (.slice B1 j1 e1) ∧ Wx.cell? ⟨g7, 0, none⟩ = some (.int .i64 (Fa.ttM m1 st1 ls1 lw1)) ∧ Wx.cell? ⟨g7, 1, none⟩ = some (.slice T2 n2 d2) ∧ Wx.cell? ⟨g7, 2, none⟩ = some (.slice A2 k2 c2) ∧ Wx.cell? ⟨g7, 3, none⟩ = some (.slice B2 j2 e2) ∧ Wx.cell? ⟨g11, 0, none⟩ = some (.int .i64 (Fa.ttM m1 st1 ls1 lw1)) ∧ Wx.cell? ⟨g11, 1, none⟩ = some (.slice T3 n3 d3) ∧ Wx.cell? ⟨g11, 2, none⟩ = some (.slice A3 k3 c3) ∧ Wx.cell? ⟨g11, 3, none⟩ = some (.slice B3 j3 e3) := fun Wx hb => ⟨hb, (bq1.below hb bq1.lt).cell (j := 0) rfl, (bq1.below hb bq1.lt).cell (j := 1) rfl, (bq1.below hb bq1.lt).cell (j := 2) rfl, (bq1.below hb bq1.lt).cell (j := 3) rfl, (bq2.below hb bq2.lt).cell (j := 0) rfl, (bq2.below hb bq2.lt).cell (j := 1) rfl, (bq2.below hb bq2.lt).cell (j := 2) rfl, (bq2.below hb bq2.lt).cell (j := 3) rfl, (bq3.below hb bq3.lt).cell (j := 0) rfl, (bq3.below hb bq3.lt).cell (j := 1) rfl, (bq3.below hb bq3.lt).cell (j := 2) rfl, (bq3.below hb bq3.lt).cell (j := 3) rfl⟩
      have cc0 : ∀ Wx, (Below w11.heap.size w11 Wx ∧ Wx.cell? ⟨g3, 0, none⟩ = some (.int .i64 m1) ∧ Wx.cell? ⟨g3, 1, none⟩ = some (.slice T1 n1 d1) ∧ Wx.cell? ⟨g3, 2, none⟩ = some (.slice A1 k1 c1) ∧ Wx.cell? ⟨g3, 3, none⟩ = some (.slice B1 j1 e1) ∧ Wx.cell? ⟨g7, 0, none⟩ = some (.int .i64 (Fa.ttM m1 st1 ls1 lw1)) ∧ Wx.cell? ⟨g7, 1, none⟩ = some (.slice T2 n2 d2) ∧ Wx.cell? ⟨g7, 2, none⟩ = some (.slice A2 k2 c2) ∧ Wx.cell? ⟨g7, 3, none⟩ = some (.slice B2 j2 e2) ∧ Wx.cell? ⟨g11, 0, none⟩ = some (.int .i64 (Fa.ttM m1 st1 ls1 lw1)) ∧ Wx.cell? ⟨g11, 1, none⟩ = some (.slice T3 n3 d3) ∧ Wx.cell? ⟨g11, 2, none⟩ = some (.slice A3 k3 c3) ∧ Wx.cell? ⟨g11, 3, none⟩ = some (.slice B3 j3 e3)) → Calls Tryz.prog 9 #[.agg #[.int .i64 (Fa.ttM m1 st1 ls1 lw1), .slice T2 n2 d2, .slice A2 k2 c2, .slice B2 j2 e2], .agg #[.int .i64 (Fa.ttM m1 st1 ls1 lw1), .slice T3 n3 d3, .slice A3 k3 c3, .slice B3 j3 e3]] Wx fun e w' => e = .returned (.bool true) ∧ Below w11.heap.size w11 w' ∧ w'.cell? ⟨g3, 0, none⟩ = some (.int .i64 m1) ∧ w'.cell? ⟨g3, 1, none⟩ = some (.slice T1 n1 d1) ∧ w'.cell? ⟨g3, 2, none⟩ = some (.slice A1 k1 c1) ∧ w'.cell? ⟨g3, 3, none⟩ = some (.slice B1 j1 e1) ∧ w'.cell? ⟨g7, 0, none⟩ = some (.int .i64 (Fa.ttM m1 st1 ls1 lw1)) ∧ w'.cell? ⟨g7, 1, none⟩ = some (.slice T2 n2 d2) ∧ w'.cell? ⟨g7, 2, none⟩ = some (.slice A2 k2 c2) ∧ w'.cell? ⟨g7, 3, none⟩ = some (.slice B2 j2 e2) ∧ w'.cell? ⟨g11, 0, none⟩ = some (.int .i64 (Fa.ttM m1 st1 ls1 lw1)) ∧ w'.cell? ⟨g11, 1, none⟩ = some (.slice T3 n3 d3) ∧ w'.cell? ⟨g11, 2, none⟩ = some (.slice A3 k3 c3) ∧ w'.cell? ⟨g11, 3, none⟩ = some (.slice B3 j3 e3) := fun Wx hs => by
        have hb := hs.1
        have zb := hb.size
        have c := vFace_same (Fa.ttM m1 st1 ls1 lw1) _ _ _ _ _ _ _ _ _ Wx (a2.rd.below hb (by omega)) (o2.rd.below hb (by omega)) (p2.rd.below hb (by omega)) (a3.rd.below hb (by omega)) (o3.rd.below hb (by omega)) (p3.rd.below hb (by omega)) (by omega) (by omega) (by omega) (by omega) (by omega) (by omega)
        refine c.mono ?_
        rintro e w' ⟨he, bb⟩
        exact ⟨he, mkS _ (hb.trans (bb.mono zb))⟩
      have cc1 : ∀ Wx, (Below w11.heap.size w11 Wx ∧ Wx.cell? ⟨g3, 0, none⟩ = some (.int .i64 m1) ∧ Wx.cell? ⟨g3, 1, none⟩ = some (.slice T1 n1 d1) ∧ Wx.cell? ⟨g3, 2, none⟩ = some (.slice A1 k1 c1) ∧ Wx.cell? ⟨g3, 3, none⟩ = some (.slice B1 j1 e1) ∧ Wx.cell? ⟨g7, 0, none⟩ = some (.int .i64 (Fa.ttM m1 st1 ls1 lw1)) ∧ Wx.cell? ⟨g7, 1, none⟩ = some (.slice T2 n2 d2) ∧ Wx.cell? ⟨g7, 2, none⟩ = some (.slice A2 k2 c2) ∧ Wx.cell? ⟨g7, 3, none⟩ = some (.slice B2 j2 e2) ∧ Wx.cell? ⟨g11, 0, none⟩ = some (.int .i64 (Fa.ttM m1 st1 ls1 lw1)) ∧ Wx.cell? ⟨g11, 1, none⟩ = some (.slice T3 n3 d3) ∧ Wx.cell? ⟨g11, 2, none⟩ = some (.slice A3 k3 c3) ∧ Wx.cell? ⟨g11, 3, none⟩ = some (.slice B3 j3 e3)) → Calls Tryz.prog 10 #[.agg #[.int .i64 m1, .slice T1 n1 d1, .slice A1 k1 c1, .slice B1 j1 e1]] Wx fun e w' => e = .returned (.bool gd1) ∧ Below w11.heap.size w11 w' ∧ w'.cell? ⟨g3, 0, none⟩ = some (.int .i64 m1) ∧ w'.cell? ⟨g3, 1, none⟩ = some (.slice T1 n1 d1) ∧ w'.cell? ⟨g3, 2, none⟩ = some (.slice A1 k1 c1) ∧ w'.cell? ⟨g3, 3, none⟩ = some (.slice B1 j1 e1) ∧ w'.cell? ⟨g7, 0, none⟩ = some (.int .i64 (Fa.ttM m1 st1 ls1 lw1)) ∧ w'.cell? ⟨g7, 1, none⟩ = some (.slice T2 n2 d2) ∧ w'.cell? ⟨g7, 2, none⟩ = some (.slice A2 k2 c2) ∧ w'.cell? ⟨g7, 3, none⟩ = some (.slice B2 j2 e2) ∧ w'.cell? ⟨g11, 0, none⟩ = some (.int .i64 (Fa.ttM m1 st1 ls1 lw1)) ∧ w'.cell? ⟨g11, 1, none⟩ = some (.slice T3 n3 d3) ∧ w'.cell? ⟨g11, 2, none⟩ = some (.slice A3 k3 c3) ∧ w'.cell? ⟨g11, 3, none⟩ = some (.slice B3 j3 e3) := fun Wx hs => by
        have hb := hs.1
        have zb := hb.size
        have c := implIsInterface_any m1 _ _ _ st1 ls1 lw1 Wx (a1.rd.below hb (by omega)) (o1.rd.below hb (by omega)) (p1.rd.below hb (by omega)) (by omega) (by omega) (by omega) ht1
        rw [Hgd1.out] at c
        refine c.mono ?_
        rintro e w' ⟨he, bb⟩
        exact ⟨he, mkS _ (hb.trans (bb.mono zb))⟩
      have cc2 : ∀ Wx, (Below w11.heap.size w11 Wx ∧ Wx.cell? ⟨g3, 0, none⟩ = some (.int .i64 m1) ∧ Wx.cell? ⟨g3, 1, none⟩ = some (.slice T1 n1 d1) ∧ Wx.cell? ⟨g3, 2, none⟩ = some (.slice A1 k1 c1) ∧ Wx.cell? ⟨g3, 3, none⟩ = some (.slice B1 j1 e1) ∧ Wx.cell? ⟨g7, 0, none⟩ = some (.int .i64 (Fa.ttM m1 st1 ls1 lw1)) ∧ Wx.cell? ⟨g7, 1, none⟩ = some (.slice T2 n2 d2) ∧ Wx.cell? ⟨g7, 2, none⟩ = some (.slice A2 k2 c2) ∧ Wx.cell? ⟨g7, 3, none⟩ = some (.slice B2 j2 e2) ∧ Wx.cell? ⟨g11, 0, none⟩ = some (.int .i64 (Fa.ttM m1 st1 ls1 lw1)) ∧ Wx.cell? ⟨g11, 1, none⟩ = some (.slice T3 n3 d3) ∧ Wx.cell? ⟨g11, 2, none⟩ = some (.slice A3 k3 c3) ∧ Wx.cell? ⟨g11, 3, none⟩ = some (.slice B3 j3 e3)) → Calls Tryz.prog 11 #[.agg #[.int .i64 m1, .slice T1 n1 d1, .slice A1 k1 c1, .slice B1 j1 e1]] Wx fun e w' => e = .returned (.bool gd1) ∧ Below w11.heap.size w11 w' ∧ w'.cell? ⟨g3, 0, none⟩ = some (.int .i64 m1) ∧ w'.cell? ⟨g3, 1, none⟩ = some (.slice T1 n1 d1) ∧ w'.cell? ⟨g3, 2, none⟩ = some (.slice A1 k1 c1) ∧ w'.cell? ⟨g3, 3, none⟩ = some (.slice B1 j1 e1) ∧ w'.cell? ⟨g7, 0, none⟩ = some (.int .i64 (Fa.ttM m1 st1 ls1 lw1)) ∧ w'.cell? ⟨g7, 1, none⟩ = some (.slice T2 n2 d2) ∧ w'.cell? ⟨g7, 2, none⟩ = some (.slice A2 k2 c2) ∧ w'.cell? ⟨g7, 3, none⟩ = some (.slice B2 j2 e2) ∧ w'.cell? ⟨g11, 0, none⟩ = some (.int .i64 (Fa.ttM m1 st1 ls1 lw1)) ∧ w'.cell? ⟨g11, 1, none⟩ = some (.slice T3 n3 d3) ∧ w'.cell? ⟨g11, 2, none⟩ = some (.slice A3 k3 c3) ∧ w'.cell? ⟨g11, 3, none⟩ = some (.slice B3 j3 e3) := fun Wx hs => by
        have hb := hs.1
        have zb := hb.size
        have c := specIsInterface_any m1 _ _ _ st1 ls1 lw1 Wx (a1.rd.below hb (by omega)) (o1.rd.below hb (by omega)) (p1.rd.below hb (by omega)) (by omega) (by omega) (by omega)
        rw [Hgd1.out] at c
        refine c.mono ?_
        rintro e w' ⟨he, bb⟩
        exact ⟨he, mkS _ (hb.trans (bb.mono zb))⟩
      have hS0 := mkS _ (Below.drew (Below.refl w11.heap.size w11))
      clear mkS
      go_region_held3 (fun Wx => Below w11.heap.size w11 Wx ∧ Wx.cell? ⟨g3, 0, none⟩ = some (.int .i64 m1) ∧ Wx.cell? ⟨g3, 1, none⟩ = some (.slice T1 n1 d1) ∧ Wx.cell? ⟨g3, 2, none⟩ = some (.slice A1 k1 c1) ∧ Wx.cell? ⟨g3, 3, none⟩ = some (.slice B1 j1 e1) ∧ Wx.cell? ⟨g7, 0, none⟩ = some (.int .i64 (Fa.ttM m1 st1 ls1 lw1)) ∧ Wx.cell? ⟨g7, 1, none⟩ = some (.slice T2 n2 d2) ∧ Wx.cell? ⟨g7, 2, none⟩ = some (.slice A2 k2 c2) ∧ Wx.cell? ⟨g7, 3, none⟩ = some (.slice B2 j2 e2) ∧ Wx.cell? ⟨g11, 0, none⟩ = some (.int .i64 (Fa.ttM m1 st1 ls1 lw1)) ∧ Wx.cell? ⟨g11, 1, none⟩ = some (.slice T3 n3 d3) ∧ Wx.cell? ⟨g11, 2, none⟩ = some (.slice A3 k3 c3) ∧ Wx.cell? ⟨g11, 3, none⟩ = some (.slice B3 j3 e3)) (first | exact hS0 | assumption) (first | (go_at_call 9; refine (cc0 _ (by assumption)).mono ?_; rintro q_ wv ⟨rfl, hN⟩) | (go_at_call 10; refine (cc1 _ (by assumption)).mono ?_; rintro q_ wv ⟨rfl, hN⟩) | (go_at_call 11; refine (cc2 _ (by assumption)).mono ?_; rintro q_ wv ⟨rfl, hN⟩))
      all_goals (go_wp2_with fail; go_meet; exact ⟨rfl, hN.1⟩)
  case rest =>
    obtain ⟨rfl, hb⟩ := hcut
    replace bq1 := bq1.below hb bq1.lt
    replace bq2 := bq2.below hb bq2.lt
    replace bq3 := bq3.below hb bq3.lt
    replace h := h.below hb (by omega)
    replace a1 := a1.below hb (by omega)
    replace o1 := o1.below hb (by omega)
    replace p1 := p1.below hb (by omega)
    replace a2 := a2.below hb (by omega)
    replace o2 := o2.below hb (by omega)
    replace p2 := p2.below hb (by omega)
    replace a3 := a3.below hb (by omega)
    replace o3 := o3.below hb (by omega)
    replace p3 := p3.below hb (by omega)
    have z_13 := hb.size
    replace hB := hB.trans (hb.mono (by omega))
    clear hb
    clear bq3 a3 o3 p3
    have bq1_0 := bq1.cell (j := 0) rfl
    have bq1_1 := bq1.cell (j := 1) rfl
    have bq1_2 := bq1.cell (j := 2) rfl
    have bq1_3 := bq1.cell (j := 3) rfl
    have bq1_z := bq1.frozen
    have bq1_l := bq1.lt
    have bq2_0 := bq2.cell (j := 0) rfl
    have bq2_1 := bq2.cell (j := 1) rfl
    have bq2_2 := bq2.cell (j := 2) rfl
    have bq2_3 := bq2.cell (j := 3) rfl
    have bq2_z := bq2.frozen
    have bq2_l := bq2.lt
    go_wp2_with fail
    clear bq1_0 bq1_1 bq1_2 bq1_3 bq1_z bq1_l bq2_0 bq2_1 bq2_2 bq2_3 bq2_z bq2_l
    have c1 := implCanTake_any m1 _ _ _ st1 ls1 lw1 wc a1.rd o1.rd p1.rd (by omega) (by omega) (by omega) ht1 hw1
    rw [show Fa.ctR m1 st1 ls1 lw1 = ok1 from Hok1.out, Hgd1.out] at c1
    refine (c1).mono ?_; rintro q_ w14 ⟨rfl, b_14⟩
    replace bq1 := bq1.below b_14 bq1.lt
    replace bq2 := bq2.below b_14 bq2.lt
    replace h := h.below b_14 (by omega)
    replace a1 := a1.below b_14 (by omega)
    replace o1 := o1.below b_14 (by omega)
    replace p1 := p1.below b_14 (by omega)
    replace a2 := a2.below b_14 (by omega)
    replace o2 := o2.below b_14 (by omega)
    replace p2 := p2.below b_14 (by omega)
    have z_15 := b_14.size
    replace hB := hB.trans (b_14.mono (by omega))
    clear b_14
    clear c1
    have bq1_0 := bq1.cell (j := 0) rfl
    have bq1_1 := bq1.cell (j := 1) rfl
    have bq1_2 := bq1.cell (j := 2) rfl
    have bq1_3 := bq1.cell (j := 3) rfl
    have bq1_z := bq1.frozen
    have bq1_l := bq1.lt
    have bq2_0 := bq2.cell (j := 0) rfl
    have bq2_1 := bq2.cell (j := 1) rfl
    have bq2_2 := bq2.cell (j := 2) rfl
    have bq2_3 := bq2.cell (j := 3) rfl
    have bq2_z := bq2.frozen
    have bq2_l := bq2.lt
    go_wp2_with fail
    clear bq1_0 bq1_1 bq1_2 bq1_3 bq1_z bq1_l bq2_0 bq2_1 bq2_2 bq2_3 bq2_z bq2_l
    have c1 := specCanTake_any m1 _ _ _ st1 ls1 lw1 w14 a1.rd o1.rd p1.rd (by omega) (by omega) (by omega) ht1 hw1
    rw [show Fa.ctR m1 st1 ls1 lw1 = ok1 from Hok1.out, Hgd1.out] at c1
    refine (c1).mono ?_; rintro q_ w16 ⟨rfl, b_16⟩
    replace bq1 := bq1.below b_16 bq1.lt
    replace bq2 := bq2.below b_16 bq2.lt
    replace h := h.below b_16 (by omega)
    replace a1 := a1.below b_16 (by omega)
    replace o1 := o1.below b_16 (by omega)
    replace p1 := p1.below b_16 (by omega)
    replace a2 := a2.below b_16 (by omega)
    replace o2 := o2.below b_16 (by omega)
    replace p2 := p2.below b_16 (by omega)
    have z_17 := b_16.size
    replace hB := hB.trans (b_16.mono (by omega))
    clear b_16
    clear c1
    have bq1_0 := bq1.cell (j := 0) rfl
    have bq1_1 := bq1.cell (j := 1) rfl
    have bq1_2 := bq1.cell (j := 2) rfl
    have bq1_3 := bq1.cell (j := 3) rfl
    have bq1_z := bq1.frozen
    have bq1_l := bq1.lt
    have bq2_0 := bq2.cell (j := 0) rfl
    have bq2_1 := bq2.cell (j := 1) rfl
    have bq2_2 := bq2.cell (j := 2) rfl
    have bq2_3 := bq2.cell (j := 3) rfl
    have bq2_z := bq2.frozen
    have bq2_l := bq2.lt
    go_upto_if 103 with fail
    clear bq1_0 bq1_1 bq1_2 bq1_3 bq1_z bq1_l bq2_0 bq2_1 bq2_2 bq2_3 bq2_z bq2_l
    go_cut [] (fun wx => Below w16.heap.size w16 wx)
    case first =>
      as_aux_lemma =>
        have hBf := Below.refl w16.heap.size w16
        cases ok1
        · have bq1_0 := bq1.cell (j := 0) rfl
          have bq1_1 := bq1.cell (j := 1) rfl
          have bq1_2 := bq1.cell (j := 2) rfl
          have bq1_3 := bq1.cell (j := 3) rfl
          have bq1_z := bq1.frozen
          have bq1_l := bq1.lt
          have bq2_0 := bq2.cell (j := 0) rfl
          have bq2_1 := bq2.cell (j := 1) rfl
          have bq2_2 := bq2.cell (j := 2) rfl
          have bq2_3 := bq2.cell (j := 3) rfl
          have bq2_z := bq2.frozen
          have bq2_l := bq2.lt
          go_wp2_with fail
          clear bq1_0 bq1_1 bq1_2 bq1_3 bq1_z bq1_l bq2_0 bq2_1 bq2_2 bq2_3 bq2_z bq2_l
          go_meet
          exact hBf
        · obtain ⟨hg, hg2, hr1, hr2, e1, e2, e3, e4, hg3⟩ := FI.took Hok1.out
          obtain ⟨_, f1, f2, f3, f4, f5⟩ := Fa.tt_yes Hok1.out
          rw [f1] at bq2
          rw [f2] at a2
          rw [f3] at o2
          rw [f4] at p2
          obtain rfl : Sl.tkI ls1 = ir1 := f5.symm.trans Hir1.out
          obtain ⟨r0, h0_⟩ : ∃ z, Fa.run st1 ls1 = z := ⟨_, rfl⟩
          obtain ⟨r1, h1_⟩ : ∃ z, Fa.run (st1 ++ [Sl.tkI ls1]) (Sl.tkS ls1) = z := ⟨_, rfl⟩
          rw [h0_, h1_] at hr1
          rw [h1_] at hr2
          have hL2 : (st1 ++ [Sl.tkI ls1]).length ≤ 1048576 := by have := (FS.good_len (s := ⟨m1, st1 ++ [Sl.tkI ls1], Sl.tkS ls1, lw1⟩) hg2).1; show (st1 ++ [Sl.tkI ls1]).length ≤ 1048576; simp only at this; omega
          have R0 := Lib.hid (show Fa.rpR m1 st1 ls1 lw1 = r0 by rw [Fa.rpR, if_pos hg, h0_])
          have R1 := Lib.hid (show Fa.rpR m1 (st1 ++ [Sl.tkI ls1]) (Sl.tkS ls1) lw1 = r1 by rw [Fa.rpR, if_pos hg2, h1_])
          have D1 := Lib.hid (show Fa.deR m1 (st1 ++ [Sl.tkI ls1]) (Sl.tkS ls1) lw1 = (n1 : Int) + 1 by rw [Fa.deR, if_pos hg2, HN1.out]; simp)
          have G0 := Lib.hid hg
          have G2 := Lib.hid hg2
          have G3 := Lib.hid hg3
          have E1 := Lib.hid e1
          have E2 := Lib.hid e2
          have E3 := Lib.hid e3
          have E4 := Lib.hid e4
          have hd1 : decide (r0 ≤ r1) = false := decide_eq_false (by omega)
          have hd2 : decide (m1 ≤ r1) = false := decide_eq_false (by omega)
          have hn1 : n1 ≤ 1048576 := by rw [HN1.out]; exact ht1
          have hnw : IntKind.i64.wrap ((n1 : Int) + 1) = (n1 : Int) + 1 := IntWalk.i64_in _ (by omega)
          have hnn : (((n1 : Int) + 1) != ((n1 : Int) + 1)) = false := by simp
          clear hg hg2 e1 e2 e3 e4 hg3 f1 f2 f3 f4 f5 h0_ h1_ HN1 HN2
          generalize hti : Sl.tkI ls1 = ti at *
          clear hti
          have bq1_0 := bq1.cell (j := 0) rfl
          have bq1_1 := bq1.cell (j := 1) rfl
          have bq1_2 := bq1.cell (j := 2) rfl
          have bq1_3 := bq1.cell (j := 3) rfl
          have bq1_z := bq1.frozen
          have bq1_l := bq1.lt
          have bq2_0 := bq2.cell (j := 0) rfl
          have bq2_1 := bq2.cell (j := 1) rfl
          have bq2_2 := bq2.cell (j := 2) rfl
          have bq2_3 := bq2.cell (j := 3) rfl
          have bq2_z := bq2.frozen
          have bq2_l := bq2.lt
          go_wp2_with fail
          clear bq1_0 bq1_1 bq1_2 bq1_3 bq1_z bq1_l bq2_0 bq2_1 bq2_2 bq2_3 bq2_z bq2_l
          have c1 := implRunningPriority_any m1 _ _ _ st1 ls1 lw1 w16 a1.rd o1.rd p1.rd (by omega) (by omega) (by omega) ht1
          rw [R0.out, G0.out] at c1
          refine (c1).mono ?_; rintro q_ w18 ⟨rfl, b_18⟩
          replace bq1 := bq1.below b_18 bq1.lt
          replace bq2 := bq2.below b_18 bq2.lt
          replace h := h.below b_18 (by omega)
          replace a1 := a1.below b_18 (by omega)
          replace o1 := o1.below b_18 (by omega)
          replace p1 := p1.below b_18 (by omega)
          replace a2 := a2.below b_18 (by omega)
          replace o2 := o2.below b_18 (by omega)
          replace p2 := p2.below b_18 (by omega)
          have z_19 := b_18.size
          replace hBf := hBf.trans (b_18.mono (by omega))
          clear b_18
          clear c1
          have bq1_0 := bq1.cell (j := 0) rfl
          have bq1_1 := bq1.cell (j := 1) rfl
          have bq1_2 := bq1.cell (j := 2) rfl
          have bq1_3 := bq1.cell (j := 3) rfl
          have bq1_z := bq1.frozen
          have bq1_l := bq1.lt
          have bq2_0 := bq2.cell (j := 0) rfl
          have bq2_1 := bq2.cell (j := 1) rfl
          have bq2_2 := bq2.cell (j := 2) rfl
          have bq2_3 := bq2.cell (j := 3) rfl
          have bq2_z := bq2.frozen
          have bq2_l := bq2.lt
          go_wp2_with fail
          clear bq1_0 bq1_1 bq1_2 bq1_3 bq1_z bq1_l bq2_0 bq2_1 bq2_2 bq2_3 bq2_z bq2_l
          have c1 := implRunningPriority_any m1 _ _ _ (st1 ++ [ti]) (Sl.tkS ls1) lw1 w18 a2.rd o2.rd p2.rd (by omega) (by omega) (by omega) hL2
          rw [R1.out, G2.out] at c1
          refine (c1).mono ?_; rintro q_ w20 ⟨rfl, b_20⟩
          replace bq1 := bq1.below b_20 bq1.lt
          replace bq2 := bq2.below b_20 bq2.lt
          replace h := h.below b_20 (by omega)
          replace a1 := a1.below b_20 (by omega)
          replace o1 := o1.below b_20 (by omega)
          replace p1 := p1.below b_20 (by omega)
          replace a2 := a2.below b_20 (by omega)
          replace o2 := o2.below b_20 (by omega)
          replace p2 := p2.below b_20 (by omega)
          have z_21 := b_20.size
          replace hBf := hBf.trans (b_20.mono (by omega))
          clear b_20
          clear c1
          have bq1_0 := bq1.cell (j := 0) rfl
          have bq1_1 := bq1.cell (j := 1) rfl
          have bq1_2 := bq1.cell (j := 2) rfl
          have bq1_3 := bq1.cell (j := 3) rfl
          have bq1_z := bq1.frozen
          have bq1_l := bq1.lt
          have bq2_0 := bq2.cell (j := 0) rfl
          have bq2_1 := bq2.cell (j := 1) rfl
          have bq2_2 := bq2.cell (j := 2) rfl
          have bq2_3 := bq2.cell (j := 3) rfl
          have bq2_z := bq2.frozen
          have bq2_l := bq2.lt
          go_wp2_with fail
          clear bq1_0 bq1_1 bq1_2 bq1_3 bq1_z bq1_l bq2_0 bq2_1 bq2_2 bq2_3 bq2_z bq2_l
          have c1 := implLeaveIrq_any m1 _ _ _ (st1 ++ [ti]) (Sl.tkS ls1) lw1 w20 a2.rd o2.rd p2.rd (by omega) (by omega) (by omega) hL2
          rw [E1.out, E2.out, E3.out, E4.out] at c1
          refine (c1).mono ?_; rintro q_ w22 ⟨vt4, vs4, vw4, rfl, a4, o4, p4, b_22⟩
          replace bq1 := bq1.below b_22 bq1.lt
          replace bq2 := bq2.below b_22 bq2.lt
          replace h := h.below b_22 (by omega)
          replace a1 := a1.below b_22 (by omega)
          replace o1 := o1.below b_22 (by omega)
          replace p1 := p1.below b_22 (by omega)
          replace a2 := a2.below b_22 (by omega)
          replace o2 := o2.below b_22 (by omega)
          replace p2 := p2.below b_22 (by omega)
          have z_23 := b_22.size
          replace hBf := hBf.trans (b_22.mono (by omega))
          clear b_22
          obtain ⟨T4, n4, d4, rfl, HN4, _, _⟩ := a4.rd.form
          obtain ⟨A4, k4, c4, rfl, _, _, _⟩ := o4.rd.form
          obtain ⟨B4, j4, e4, rfl, _, _, _⟩ := p4.rd.form
          clear c1
          have bq1_0 := bq1.cell (j := 0) rfl
          have bq1_1 := bq1.cell (j := 1) rfl
          have bq1_2 := bq1.cell (j := 2) rfl
          have bq1_3 := bq1.cell (j := 3) rfl
          have bq1_z := bq1.frozen
          have bq1_l := bq1.lt
          have bq2_0 := bq2.cell (j := 0) rfl
          have bq2_1 := bq2.cell (j := 1) rfl
          have bq2_2 := bq2.cell (j := 2) rfl
          have bq2_3 := bq2.cell (j := 3) rfl
          have bq2_z := bq2.frozen
          have bq2_l := bq2.lt
          go_wp2_with fail
          clear bq1_0 bq1_1 bq1_2 bq1_3 bq1_z bq1_l bq2_0 bq2_1 bq2_2 bq2_3 bq2_z bq2_l
          have b_24 := (Below.refl w22.heap.size w22).alloc (Nat.le_refl _) (.cells #[.int .i64 m1, .slice T4 n4 d4, .slice A4 k4 c4, .slice B4 j4 e4] 30)
          have bq4 := Box.new w22 #[.int .i64 m1, .slice T4 n4 d4, .slice A4 k4 c4, .slice B4 j4 e4] 30 rfl
          replace bq1 := bq1.below b_24 bq1.lt
          replace bq2 := bq2.below b_24 bq2.lt
          replace h := h.below b_24 (by omega)
          replace a1 := a1.below b_24 (by omega)
          replace o1 := o1.below b_24 (by omega)
          replace p1 := p1.below b_24 (by omega)
          replace a2 := a2.below b_24 (by omega)
          replace o2 := o2.below b_24 (by omega)
          replace p2 := p2.below b_24 (by omega)
          replace a4 := a4.below b_24 (by omega)
          replace o4 := o4.below b_24 (by omega)
          replace p4 := p4.below b_24 (by omega)
          have z_25 := b_24.size
          replace hBf := hBf.trans (b_24.mono (by omega))
          clear b_24
          generalize w22.alloc _ = w24 at *
          generalize w22.heap.size = g24 at *
          have c1 := implDepthOf_any m1 _ _ _ (st1 ++ [ti]) (Sl.tkS ls1) lw1 w24 a2.rd o2.rd p2.rd (by omega) (by omega) (by omega) hL2
          rw [D1.out, G2.out] at c1
          refine (c1).mono ?_; rintro q_ w26 ⟨rfl, b_26⟩
          replace bq1 := bq1.below b_26 bq1.lt
          replace bq2 := bq2.below b_26 bq2.lt
          replace bq4 := bq4.below b_26 bq4.lt
          replace h := h.below b_26 (by omega)
          replace a1 := a1.below b_26 (by omega)
          replace o1 := o1.below b_26 (by omega)
          replace p1 := p1.below b_26 (by omega)
          replace a2 := a2.below b_26 (by omega)
          replace o2 := o2.below b_26 (by omega)
          replace p2 := p2.below b_26 (by omega)
          replace a4 := a4.below b_26 (by omega)
          replace o4 := o4.below b_26 (by omega)
          replace p4 := p4.below b_26 (by omega)
          have z_27 := b_26.size
          replace hBf := hBf.trans (b_26.mono (by omega))
          clear b_26
          clear c1
          have bq1_0 := bq1.cell (j := 0) rfl
          have bq1_1 := bq1.cell (j := 1) rfl
          have bq1_2 := bq1.cell (j := 2) rfl
          have bq1_3 := bq1.cell (j := 3) rfl
          have bq1_z := bq1.frozen
          have bq1_l := bq1.lt
          have bq2_0 := bq2.cell (j := 0) rfl
          have bq2_1 := bq2.cell (j := 1) rfl
          have bq2_2 := bq2.cell (j := 2) rfl
          have bq2_3 := bq2.cell (j := 3) rfl
          have bq2_z := bq2.frozen
          have bq2_l := bq2.lt
          have bq4_0 := bq4.cell (j := 0) rfl
          have bq4_1 := bq4.cell (j := 1) rfl
          have bq4_2 := bq4.cell (j := 2) rfl
          have bq4_3 := bq4.cell (j := 3) rfl
          have bq4_z := bq4.frozen
          have bq4_l := bq4.lt
          go_wp2_with fail
          clear bq1_0 bq1_1 bq1_2 bq1_3 bq1_z bq1_l bq2_0 bq2_1 bq2_2 bq2_3 bq2_z bq2_l bq4_0 bq4_1 bq4_2 bq4_3 bq4_z bq4_l
          refine (vInts_same _ _ _ w26 a4.rd a1.rd (by omega) (by omega)).mono ?_; rintro q_ w28 ⟨rfl, b_28⟩
          replace bq1 := bq1.below b_28 bq1.lt
          replace bq2 := bq2.below b_28 bq2.lt
          replace bq4 := bq4.below b_28 bq4.lt
          replace h := h.below b_28 (by omega)
          replace a1 := a1.below b_28 (by omega)
          replace o1 := o1.below b_28 (by omega)
          replace p1 := p1.below b_28 (by omega)
          replace a2 := a2.below b_28 (by omega)
          replace o2 := o2.below b_28 (by omega)
          replace p2 := p2.below b_28 (by omega)
          replace a4 := a4.below b_28 (by omega)
          replace o4 := o4.below b_28 (by omega)
          replace p4 := p4.below b_28 (by omega)
          have z_29 := b_28.size
          replace hBf := hBf.trans (b_28.mono (by omega))
          clear b_28
          have bq1_0 := bq1.cell (j := 0) rfl
          have bq1_1 := bq1.cell (j := 1) rfl
          have bq1_2 := bq1.cell (j := 2) rfl
          have bq1_3 := bq1.cell (j := 3) rfl
          have bq1_z := bq1.frozen
          have bq1_l := bq1.lt
          have bq2_0 := bq2.cell (j := 0) rfl
          have bq2_1 := bq2.cell (j := 1) rfl
          have bq2_2 := bq2.cell (j := 2) rfl
          have bq2_3 := bq2.cell (j := 3) rfl
          have bq2_z := bq2.frozen
          have bq2_l := bq2.lt
          have bq4_0 := bq4.cell (j := 0) rfl
          have bq4_1 := bq4.cell (j := 1) rfl
          have bq4_2 := bq4.cell (j := 2) rfl
          have bq4_3 := bq4.cell (j := 3) rfl
          have bq4_z := bq4.frozen
          have bq4_l := bq4.lt
          go_wp2_with fail
          clear bq1_0 bq1_1 bq1_2 bq1_3 bq1_z bq1_l bq2_0 bq2_1 bq2_2 bq2_3 bq2_z bq2_l bq4_0 bq4_1 bq4_2 bq4_3 bq4_z bq4_l
          have c1 := implIsInterface_any m1 _ _ _ (st1 ++ [ti]) (Sl.tkS ls1) lw1 w28 a2.rd o2.rd p2.rd (by omega) (by omega) (by omega) hL2
          rw [G2.out] at c1
          refine (c1).mono ?_; rintro q_ w30 ⟨rfl, b_30⟩
          replace bq1 := bq1.below b_30 bq1.lt
          replace bq2 := bq2.below b_30 bq2.lt
          replace bq4 := bq4.below b_30 bq4.lt
          replace h := h.below b_30 (by omega)
          replace a1 := a1.below b_30 (by omega)
          replace o1 := o1.below b_30 (by omega)
          replace p1 := p1.below b_30 (by omega)
          replace a2 := a2.below b_30 (by omega)
          replace o2 := o2.below b_30 (by omega)
          replace p2 := p2.below b_30 (by omega)
          replace a4 := a4.below b_30 (by omega)
          replace o4 := o4.below b_30 (by omega)
          replace p4 := p4.below b_30 (by omega)
          have z_31 := b_30.size
          replace hBf := hBf.trans (b_30.mono (by omega))
          clear b_30
          clear c1
          have bq1_0 := bq1.cell (j := 0) rfl
          have bq1_1 := bq1.cell (j := 1) rfl
          have bq1_2 := bq1.cell (j := 2) rfl
          have bq1_3 := bq1.cell (j := 3) rfl
          have bq1_z := bq1.frozen
          have bq1_l := bq1.lt
          have bq2_0 := bq2.cell (j := 0) rfl
          have bq2_1 := bq2.cell (j := 1) rfl
          have bq2_2 := bq2.cell (j := 2) rfl
          have bq2_3 := bq2.cell (j := 3) rfl
          have bq2_z := bq2.frozen
          have bq2_l := bq2.lt
          have bq4_0 := bq4.cell (j := 0) rfl
          have bq4_1 := bq4.cell (j := 1) rfl
          have bq4_2 := bq4.cell (j := 2) rfl
          have bq4_3 := bq4.cell (j := 3) rfl
          have bq4_z := bq4.frozen
          have bq4_l := bq4.lt
          go_wp2_with fail
          clear bq1_0 bq1_1 bq1_2 bq1_3 bq1_z bq1_l bq2_0 bq2_1 bq2_2 bq2_3 bq2_z bq2_l bq4_0 bq4_1 bq4_2 bq4_3 bq4_z bq4_l
          have c1 := implIsInterface_any m1 _ _ _ _ _ _ w30 a4.rd o4.rd p4.rd (by omega) (by omega) (by omega) ht1
          rw [G3.out] at c1
          refine (c1).mono ?_; rintro q_ w32 ⟨rfl, b_32⟩
          replace bq1 := bq1.below b_32 bq1.lt
          replace bq2 := bq2.below b_32 bq2.lt
          replace bq4 := bq4.below b_32 bq4.lt
          replace h := h.below b_32 (by omega)
          replace a1 := a1.below b_32 (by omega)
          replace o1 := o1.below b_32 (by omega)
          replace p1 := p1.below b_32 (by omega)
          replace a2 := a2.below b_32 (by omega)
          replace o2 := o2.below b_32 (by omega)
          replace p2 := p2.below b_32 (by omega)
          replace a4 := a4.below b_32 (by omega)
          replace o4 := o4.below b_32 (by omega)
          replace p4 := p4.below b_32 (by omega)
          have z_33 := b_32.size
          replace hBf := hBf.trans (b_32.mono (by omega))
          clear b_32
          clear c1
          have bq1_0 := bq1.cell (j := 0) rfl
          have bq1_1 := bq1.cell (j := 1) rfl
          have bq1_2 := bq1.cell (j := 2) rfl
          have bq1_3 := bq1.cell (j := 3) rfl
          have bq1_z := bq1.frozen
          have bq1_l := bq1.lt
          have bq2_0 := bq2.cell (j := 0) rfl
          have bq2_1 := bq2.cell (j := 1) rfl
          have bq2_2 := bq2.cell (j := 2) rfl
          have bq2_3 := bq2.cell (j := 3) rfl
          have bq2_z := bq2.frozen
          have bq2_l := bq2.lt
          have bq4_0 := bq4.cell (j := 0) rfl
          have bq4_1 := bq4.cell (j := 1) rfl
          have bq4_2 := bq4.cell (j := 2) rfl
          have bq4_3 := bq4.cell (j := 3) rfl
          have bq4_z := bq4.frozen
          have bq4_l := bq4.lt
          go_wp2_with fail
          clear bq1_0 bq1_1 bq1_2 bq1_3 bq1_z bq1_l bq2_0 bq2_1 bq2_2 bq2_3 bq2_z bq2_l bq4_0 bq4_1 bq4_2 bq4_3 bq4_z bq4_l
          go_meet
          exact hBf
    case rest =>
      have hb := hcut
      replace bq1 := bq1.below hb bq1.lt
      replace bq2 := bq2.below hb bq2.lt
      replace h := h.below hb (by omega)
      replace a1 := a1.below hb (by omega)
      replace o1 := o1.below hb (by omega)
      replace p1 := p1.below hb (by omega)
      replace a2 := a2.below hb (by omega)
      replace o2 := o2.below hb (by omega)
      replace p2 := p2.below hb (by omega)
      have z_18 := hb.size
      replace hB := hB.trans (hb.mono (by omega))
      clear hb
      clear bq1 bq2 a1 o1 p1 a2 o2 p2
      clear nok1 Hok1 nir1 Hir1 ngd1 Hgd1
      go_wp2_with fail
      refine (DrawLeaveIrq_any cv l wc h (by omega)).mono ?_; rintro q_ w19 ⟨m5, vt5, vs5, vw5, st5, ls5, lw5, rfl, ht5, hl5, hw5, a5, o5, p5, b_19⟩
      replace h := h.below b_19 (by omega)
      have z_20 := b_19.size
      replace hB := hB.trans (b_19.mono (by omega))
      clear b_19
      obtain ⟨T5, n5, d5, rfl, HN5, _, _⟩ := a5.rd.form
      obtain ⟨A5, k5, c5, rfl, _, _, _⟩ := o5.rd.form
      obtain ⟨B5, j5, e5, rfl, _, _, _⟩ := p5.rd.form
      go_wp2_with fail
      have b_21 := (Below.refl w19.heap.size w19).alloc (Nat.le_refl _) (.cells #[.int .i64 m5, .slice T5 n5 d5, .slice A5 k5 c5, .slice B5 j5 e5] 30)
      have bq5 := Box.new w19 #[.int .i64 m5, .slice T5 n5 d5, .slice A5 k5 c5, .slice B5 j5 e5] 30 rfl
      replace h := h.below b_21 (by omega)
      replace a5 := a5.below b_21 (by omega)
      replace o5 := o5.below b_21 (by omega)
      replace p5 := p5.below b_21 (by omega)
      have z_22 := b_21.size
      replace hB := hB.trans (b_21.mono (by omega))
      clear b_21
      generalize w19.alloc _ = w21 at *
      generalize w19.heap.size = g21 at *
      obtain ⟨okl, hz_⟩ : ∃ o, Fa.lvOk m5 st5 ls5 lw5 = o := ⟨_, rfl⟩
      have Hokl := Lib.hid hz_
      clear hz_
      have nokl : (okl != okl) = false := by simp
      obtain ⟨irl, hz_⟩ : ∃ o, Fa.lvI m5 st5 ls5 lw5 = o := ⟨_, rfl⟩
      have Hirl := Lib.hid hz_
      clear hz_
      have nirl : (irl != irl) = false := by simp
      have c1 := implLeaveIrq_any m5 _ _ _ st5 ls5 lw5 w21 a5.rd o5.rd p5.rd (by omega) (by omega) (by omega) ht5
      rw [Hokl.out, Hirl.out] at c1
      refine (c1).mono ?_; rintro q_ w23 ⟨vt6, vs6, vw6, rfl, a6, o6, p6, b_23⟩
      replace bq5 := bq5.below b_23 bq5.lt
      replace h := h.below b_23 (by omega)
      replace a5 := a5.below b_23 (by omega)
      replace o5 := o5.below b_23 (by omega)
      replace p5 := p5.below b_23 (by omega)
      have z_24 := b_23.size
      replace hB := hB.trans (b_23.mono (by omega))
      clear b_23
      obtain ⟨T6, n6, d6, rfl, HN6, _, _⟩ := a6.rd.form
      obtain ⟨A6, k6, c6, rfl, _, _, _⟩ := o6.rd.form
      obtain ⟨B6, j6, e6, rfl, _, _, _⟩ := p6.rd.form
      clear c1
      have bq5_0 := bq5.cell (j := 0) rfl
      have bq5_1 := bq5.cell (j := 1) rfl
      have bq5_2 := bq5.cell (j := 2) rfl
      have bq5_3 := bq5.cell (j := 3) rfl
      have bq5_z := bq5.frozen
      have bq5_l := bq5.lt
      go_wp2_with fail
      clear bq5_0 bq5_1 bq5_2 bq5_3 bq5_z bq5_l
      have b_25 := (Below.refl w23.heap.size w23).alloc (Nat.le_refl _) (.cells #[.int .i64 (Fa.lvM m5 st5 ls5 lw5), .slice T6 n6 d6, .slice A6 k6 c6, .slice B6 j6 e6] 30)
      have bq6 := Box.new w23 #[.int .i64 (Fa.lvM m5 st5 ls5 lw5), .slice T6 n6 d6, .slice A6 k6 c6, .slice B6 j6 e6] 30 rfl
      replace bq5 := bq5.below b_25 bq5.lt
      replace h := h.below b_25 (by omega)
      replace a5 := a5.below b_25 (by omega)
      replace o5 := o5.below b_25 (by omega)
      replace p5 := p5.below b_25 (by omega)
      replace a6 := a6.below b_25 (by omega)
      replace o6 := o6.below b_25 (by omega)
      replace p6 := p6.below b_25 (by omega)
      have z_26 := b_25.size
      replace hB := hB.trans (b_25.mono (by omega))
      clear b_25
      generalize w23.alloc _ = w25 at *
      generalize w23.heap.size = g25 at *
      have c1 := specLeaveIrq_any m5 _ _ _ st5 ls5 lw5 w25 a5.rd o5.rd p5.rd (by omega) (by omega) (by omega) ht5
      rw [Hokl.out, Hirl.out] at c1
      refine (c1).mono ?_; rintro q_ w27 ⟨vt7, vs7, vw7, rfl, a7, o7, p7, b_27⟩
      replace bq5 := bq5.below b_27 bq5.lt
      replace bq6 := bq6.below b_27 bq6.lt
      replace h := h.below b_27 (by omega)
      replace a5 := a5.below b_27 (by omega)
      replace o5 := o5.below b_27 (by omega)
      replace p5 := p5.below b_27 (by omega)
      replace a6 := a6.below b_27 (by omega)
      replace o6 := o6.below b_27 (by omega)
      replace p6 := p6.below b_27 (by omega)
      have z_28 := b_27.size
      replace hB := hB.trans (b_27.mono (by omega))
      clear b_27
      obtain ⟨T7, n7, d7, rfl, HN7, _, _⟩ := a7.rd.form
      obtain ⟨A7, k7, c7, rfl, _, _, _⟩ := o7.rd.form
      obtain ⟨B7, j7, e7, rfl, _, _, _⟩ := p7.rd.form
      clear c1
      have bq5_0 := bq5.cell (j := 0) rfl
      have bq5_1 := bq5.cell (j := 1) rfl
      have bq5_2 := bq5.cell (j := 2) rfl
      have bq5_3 := bq5.cell (j := 3) rfl
      have bq5_z := bq5.frozen
      have bq5_l := bq5.lt
      have bq6_0 := bq6.cell (j := 0) rfl
      have bq6_1 := bq6.cell (j := 1) rfl
      have bq6_2 := bq6.cell (j := 2) rfl
      have bq6_3 := bq6.cell (j := 3) rfl
      have bq6_z := bq6.frozen
      have bq6_l := bq6.lt
      go_wp2_with fail
      clear bq5_0 bq5_1 bq5_2 bq5_3 bq5_z bq5_l bq6_0 bq6_1 bq6_2 bq6_3 bq6_z bq6_l
      have b_29 := (Below.refl w27.heap.size w27).alloc (Nat.le_refl _) (.cells #[.int .i64 (Fa.lvM m5 st5 ls5 lw5), .slice T7 n7 d7, .slice A7 k7 c7, .slice B7 j7 e7] 30)
      have bq7 := Box.new w27 #[.int .i64 (Fa.lvM m5 st5 ls5 lw5), .slice T7 n7 d7, .slice A7 k7 c7, .slice B7 j7 e7] 30 rfl
      replace bq5 := bq5.below b_29 bq5.lt
      replace bq6 := bq6.below b_29 bq6.lt
      replace h := h.below b_29 (by omega)
      replace a5 := a5.below b_29 (by omega)
      replace o5 := o5.below b_29 (by omega)
      replace p5 := p5.below b_29 (by omega)
      replace a6 := a6.below b_29 (by omega)
      replace o6 := o6.below b_29 (by omega)
      replace p6 := p6.below b_29 (by omega)
      replace a7 := a7.below b_29 (by omega)
      replace o7 := o7.below b_29 (by omega)
      replace p7 := p7.below b_29 (by omega)
      have z_30 := b_29.size
      replace hB := hB.trans (b_29.mono (by omega))
      clear b_29
      generalize w27.alloc _ = w29 at *
      generalize w27.heap.size = g29 at *
      refine (vFace_same _ _ _ _ _ _ _ _ _ _ w29 a6.rd o6.rd p6.rd a7.rd o7.rd p7.rd (by omega) (by omega) (by omega) (by omega) (by omega) (by omega)).mono ?_; rintro q_ w31 ⟨rfl, b_31⟩
      replace bq5 := bq5.below b_31 bq5.lt
      replace bq6 := bq6.below b_31 bq6.lt
      replace bq7 := bq7.below b_31 bq7.lt
      replace h := h.below b_31 (by omega)
      replace a5 := a5.below b_31 (by omega)
      replace o5 := o5.below b_31 (by omega)
      replace p5 := p5.below b_31 (by omega)
      replace a6 := a6.below b_31 (by omega)
      replace o6 := o6.below b_31 (by omega)
      replace p6 := p6.below b_31 (by omega)
      replace a7 := a7.below b_31 (by omega)
      replace o7 := o7.below b_31 (by omega)
      replace p7 := p7.below b_31 (by omega)
      have z_32 := b_31.size
      replace hB := hB.trans (b_31.mono (by omega))
      clear b_31
      clear a6 o6 p6
      clear a7 o7 p7
      have bq5_0 := bq5.cell (j := 0) rfl
      have bq5_1 := bq5.cell (j := 1) rfl
      have bq5_2 := bq5.cell (j := 2) rfl
      have bq5_3 := bq5.cell (j := 3) rfl
      have bq5_z := bq5.frozen
      have bq5_l := bq5.lt
      have bq6_0 := bq6.cell (j := 0) rfl
      have bq6_1 := bq6.cell (j := 1) rfl
      have bq6_2 := bq6.cell (j := 2) rfl
      have bq6_3 := bq6.cell (j := 3) rfl
      have bq6_z := bq6.frozen
      have bq6_l := bq6.lt
      have bq7_0 := bq7.cell (j := 0) rfl
      have bq7_1 := bq7.cell (j := 1) rfl
      have bq7_2 := bq7.cell (j := 2) rfl
      have bq7_3 := bq7.cell (j := 3) rfl
      have bq7_z := bq7.frozen
      have bq7_l := bq7.lt
      go_wp2_with fail
      clear bq5_0 bq5_1 bq5_2 bq5_3 bq5_z bq5_l bq6_0 bq6_1 bq6_2 bq6_3 bq6_z bq6_l bq7_0 bq7_1 bq7_2 bq7_3 bq7_z bq7_l
      clear bq6 bq7 bq5 a5 o5 p5
      clear nokl Hokl nirl Hirl
      refine (DrawRaiseIrq_any cv l w31 h (by omega)).mono ?_; rintro q_ w33 ⟨m8, vt8, vs8, vw8, st8, ls8, lw8, x8, y8, rfl, ht8, hl8, hw8, a8, o8, p8, b_33⟩
      replace h := h.below b_33 (by omega)
      have z_34 := b_33.size
      replace hB := hB.trans (b_33.mono (by omega))
      clear b_33
      obtain ⟨T8, n8, d8, rfl, HN8, _, _⟩ := a8.rd.form
      obtain ⟨A8, k8, c8, rfl, _, _, _⟩ := o8.rd.form
      obtain ⟨B8, j8, e8, rfl, _, _, _⟩ := p8.rd.form
      go_wp2_with fail
      have b_35 := (Below.refl w33.heap.size w33).alloc (Nat.le_refl _) (.cells #[.int .i64 m8, .slice T8 n8 d8, .slice A8 k8 c8, .slice B8 j8 e8] 30)
      have bq8 := Box.new w33 #[.int .i64 m8, .slice T8 n8 d8, .slice A8 k8 c8, .slice B8 j8 e8] 30 rfl
      replace h := h.below b_35 (by omega)
      replace a8 := a8.below b_35 (by omega)
      replace o8 := o8.below b_35 (by omega)
      replace p8 := p8.below b_35 (by omega)
      have z_36 := b_35.size
      replace hB := hB.trans (b_35.mono (by omega))
      clear b_35
      generalize w33.alloc _ = w35 at *
      generalize w33.heap.size = g35 at *
      obtain ⟨okr, hz_⟩ : ∃ o, Fa.raOk m8 st8 ls8 lw8 x8 y8 = o := ⟨_, rfl⟩
      have Hokr := Lib.hid hz_
      clear hz_
      have nokr : (okr != okr) = false := by simp
      have c1 := implRaiseIrq_any m8 _ _ _ st8 ls8 lw8 w35 a8.rd o8.rd p8.rd (by omega) (by omega) (by omega) x8 y8 ht8
      rw [Hokr.out] at c1
      refine (c1).mono ?_; rintro q_ w37 ⟨vt9, vs9, vw9, rfl, a9, o9, p9, b_37⟩
      replace bq8 := bq8.below b_37 bq8.lt
      replace h := h.below b_37 (by omega)
      replace a8 := a8.below b_37 (by omega)
      replace o8 := o8.below b_37 (by omega)
      replace p8 := p8.below b_37 (by omega)
      have z_38 := b_37.size
      replace hB := hB.trans (b_37.mono (by omega))
      clear b_37
      obtain ⟨T9, n9, d9, rfl, HN9, _, _⟩ := a9.rd.form
      obtain ⟨A9, k9, c9, rfl, _, _, _⟩ := o9.rd.form
      obtain ⟨B9, j9, e9, rfl, _, _, _⟩ := p9.rd.form
      clear c1
      have bq8_0 := bq8.cell (j := 0) rfl
      have bq8_1 := bq8.cell (j := 1) rfl
      have bq8_2 := bq8.cell (j := 2) rfl
      have bq8_3 := bq8.cell (j := 3) rfl
      have bq8_z := bq8.frozen
      have bq8_l := bq8.lt
      go_wp2_with fail
      clear bq8_0 bq8_1 bq8_2 bq8_3 bq8_z bq8_l
      have b_39 := (Below.refl w37.heap.size w37).alloc (Nat.le_refl _) (.cells #[.int .i64 (Fa.raM m8 st8 ls8 lw8 x8 y8), .slice T9 n9 d9, .slice A9 k9 c9, .slice B9 j9 e9] 30)
      have bq9 := Box.new w37 #[.int .i64 (Fa.raM m8 st8 ls8 lw8 x8 y8), .slice T9 n9 d9, .slice A9 k9 c9, .slice B9 j9 e9] 30 rfl
      replace bq8 := bq8.below b_39 bq8.lt
      replace h := h.below b_39 (by omega)
      replace a8 := a8.below b_39 (by omega)
      replace o8 := o8.below b_39 (by omega)
      replace p8 := p8.below b_39 (by omega)
      replace a9 := a9.below b_39 (by omega)
      replace o9 := o9.below b_39 (by omega)
      replace p9 := p9.below b_39 (by omega)
      have z_40 := b_39.size
      replace hB := hB.trans (b_39.mono (by omega))
      clear b_39
      generalize w37.alloc _ = w39 at *
      generalize w37.heap.size = g39 at *
      have c1 := specRaiseIrq_any m8 _ _ _ st8 ls8 lw8 w39 a8.rd o8.rd p8.rd (by omega) (by omega) (by omega) x8 y8 ht8
      rw [Hokr.out] at c1
      refine (c1).mono ?_; rintro q_ w41 ⟨vt10, vs10, vw10, rfl, a10, o10, p10, b_41⟩
      replace bq8 := bq8.below b_41 bq8.lt
      replace bq9 := bq9.below b_41 bq9.lt
      replace h := h.below b_41 (by omega)
      replace a8 := a8.below b_41 (by omega)
      replace o8 := o8.below b_41 (by omega)
      replace p8 := p8.below b_41 (by omega)
      replace a9 := a9.below b_41 (by omega)
      replace o9 := o9.below b_41 (by omega)
      replace p9 := p9.below b_41 (by omega)
      have z_42 := b_41.size
      replace hB := hB.trans (b_41.mono (by omega))
      clear b_41
      obtain ⟨T10, n10, d10, rfl, HN10, _, _⟩ := a10.rd.form
      obtain ⟨A10, k10, c10, rfl, _, _, _⟩ := o10.rd.form
      obtain ⟨B10, j10, e10, rfl, _, _, _⟩ := p10.rd.form
      clear c1
      have bq8_0 := bq8.cell (j := 0) rfl
      have bq8_1 := bq8.cell (j := 1) rfl
      have bq8_2 := bq8.cell (j := 2) rfl
      have bq8_3 := bq8.cell (j := 3) rfl
      have bq8_z := bq8.frozen
      have bq8_l := bq8.lt
      have bq9_0 := bq9.cell (j := 0) rfl
      have bq9_1 := bq9.cell (j := 1) rfl
      have bq9_2 := bq9.cell (j := 2) rfl
      have bq9_3 := bq9.cell (j := 3) rfl
      have bq9_z := bq9.frozen
      have bq9_l := bq9.lt
      go_upto_region 27 with fail
      clear bq8_0 bq8_1 bq8_2 bq8_3 bq8_z bq8_l bq9_0 bq9_1 bq9_2 bq9_3 bq9_z bq9_l
      have b_43 := (Below.refl w41.heap.size w41).alloc (Nat.le_refl _) (.cells #[.int .i64 (Fa.raM m8 st8 ls8 lw8 x8 y8), .slice T10 n10 d10, .slice A10 k10 c10, .slice B10 j10 e10] 30)
      have bq10 := Box.new w41 #[.int .i64 (Fa.raM m8 st8 ls8 lw8 x8 y8), .slice T10 n10 d10, .slice A10 k10 c10, .slice B10 j10 e10] 30 rfl
      replace bq8 := bq8.below b_43 bq8.lt
      replace bq9 := bq9.below b_43 bq9.lt
      replace h := h.below b_43 (by omega)
      replace a8 := a8.below b_43 (by omega)
      replace o8 := o8.below b_43 (by omega)
      replace p8 := p8.below b_43 (by omega)
      replace a9 := a9.below b_43 (by omega)
      replace o9 := o9.below b_43 (by omega)
      replace p9 := p9.below b_43 (by omega)
      replace a10 := a10.below b_43 (by omega)
      replace o10 := o10.below b_43 (by omega)
      replace p10 := p10.below b_43 (by omega)
      have z_44 := b_43.size
      replace hB := hB.trans (b_43.mono (by omega))
      clear b_43
      generalize w41.alloc _ = w43 at *
      generalize w41.heap.size = g43 at *
      go_cut [248] (fun s248 wx => s248 = .bool false ∧ Below w43.heap.size w43 wx)
      case first =>
        as_aux_lemma =>
          have hBf := Below.refl w43.heap.size w43
          cases okr
          · have bq8_0 := bq8.cell (j := 0) rfl
            have bq8_1 := bq8.cell (j := 1) rfl
            have bq8_2 := bq8.cell (j := 2) rfl
            have bq8_3 := bq8.cell (j := 3) rfl
            have bq8_z := bq8.frozen
            have bq8_l := bq8.lt
            have bq9_0 := bq9.cell (j := 0) rfl
            have bq9_1 := bq9.cell (j := 1) rfl
            have bq9_2 := bq9.cell (j := 2) rfl
            have bq9_3 := bq9.cell (j := 3) rfl
            have bq9_z := bq9.frozen
            have bq9_l := bq9.lt
            have bq10_0 := bq10.cell (j := 0) rfl
            have bq10_1 := bq10.cell (j := 1) rfl
            have bq10_2 := bq10.cell (j := 2) rfl
            have bq10_3 := bq10.cell (j := 3) rfl
            have bq10_z := bq10.frozen
            have bq10_l := bq10.lt
            go_wp2_with fail
            clear bq8_0 bq8_1 bq8_2 bq8_3 bq8_z bq8_l bq9_0 bq9_1 bq9_2 bq9_3 bq9_z bq9_l bq10_0 bq10_1 bq10_2 bq10_3 bq10_z bq10_l
            refine (vFace_same _ _ _ _ _ _ _ _ _ _ w43 a9.rd o9.rd p9.rd a10.rd o10.rd p10.rd (by omega) (by omega) (by omega) (by omega) (by omega) (by omega)).mono ?_; rintro q_ w45 ⟨rfl, b_45⟩
            replace bq8 := bq8.below b_45 bq8.lt
            replace bq9 := bq9.below b_45 bq9.lt
            replace bq10 := bq10.below b_45 bq10.lt
            replace h := h.below b_45 (by omega)
            replace a8 := a8.below b_45 (by omega)
            replace o8 := o8.below b_45 (by omega)
            replace p8 := p8.below b_45 (by omega)
            replace a9 := a9.below b_45 (by omega)
            replace o9 := o9.below b_45 (by omega)
            replace p9 := p9.below b_45 (by omega)
            replace a10 := a10.below b_45 (by omega)
            replace o10 := o10.below b_45 (by omega)
            replace p10 := p10.below b_45 (by omega)
            have z_46 := b_45.size
            replace hBf := hBf.trans (b_45.mono (by omega))
            clear b_45
            have bq8_0 := bq8.cell (j := 0) rfl
            have bq8_1 := bq8.cell (j := 1) rfl
            have bq8_2 := bq8.cell (j := 2) rfl
            have bq8_3 := bq8.cell (j := 3) rfl
            have bq8_z := bq8.frozen
            have bq8_l := bq8.lt
            have bq9_0 := bq9.cell (j := 0) rfl
            have bq9_1 := bq9.cell (j := 1) rfl
            have bq9_2 := bq9.cell (j := 2) rfl
            have bq9_3 := bq9.cell (j := 3) rfl
            have bq9_z := bq9.frozen
            have bq9_l := bq9.lt
            have bq10_0 := bq10.cell (j := 0) rfl
            have bq10_1 := bq10.cell (j := 1) rfl
            have bq10_2 := bq10.cell (j := 2) rfl
            have bq10_3 := bq10.cell (j := 3) rfl
            have bq10_z := bq10.frozen
            have bq10_l := bq10.lt
            go_wp2_with fail
            clear bq8_0 bq8_1 bq8_2 bq8_3 bq8_z bq8_l bq9_0 bq9_1 bq9_2 bq9_3 bq9_z bq9_l bq10_0 bq10_1 bq10_2 bq10_3 bq10_z bq10_l
            go_meet
            exact ⟨rfl, hBf⟩
          · have bq8_0 := bq8.cell (j := 0) rfl
            have bq8_1 := bq8.cell (j := 1) rfl
            have bq8_2 := bq8.cell (j := 2) rfl
            have bq8_3 := bq8.cell (j := 3) rfl
            have bq8_z := bq8.frozen
            have bq8_l := bq8.lt
            have bq9_0 := bq9.cell (j := 0) rfl
            have bq9_1 := bq9.cell (j := 1) rfl
            have bq9_2 := bq9.cell (j := 2) rfl
            have bq9_3 := bq9.cell (j := 3) rfl
            have bq9_z := bq9.frozen
            have bq9_l := bq9.lt
            have bq10_0 := bq10.cell (j := 0) rfl
            have bq10_1 := bq10.cell (j := 1) rfl
            have bq10_2 := bq10.cell (j := 2) rfl
            have bq10_3 := bq10.cell (j := 3) rfl
            have bq10_z := bq10.frozen
            have bq10_l := bq10.lt
            go_wp2_with fail
            clear bq8_0 bq8_1 bq8_2 bq8_3 bq8_z bq8_l bq9_0 bq9_1 bq9_2 bq9_3 bq9_z bq9_l bq10_0 bq10_1 bq10_2 bq10_3 bq10_z bq10_l
            refine (vFace_same _ _ _ _ _ _ _ _ _ _ w43 a9.rd o9.rd p9.rd a10.rd o10.rd p10.rd (by omega) (by omega) (by omega) (by omega) (by omega) (by omega)).mono ?_; rintro q_ w45 ⟨rfl, b_45⟩
            replace bq8 := bq8.below b_45 bq8.lt
            replace bq9 := bq9.below b_45 bq9.lt
            replace bq10 := bq10.below b_45 bq10.lt
            replace h := h.below b_45 (by omega)
            replace a8 := a8.below b_45 (by omega)
            replace o8 := o8.below b_45 (by omega)
            replace p8 := p8.below b_45 (by omega)
            replace a9 := a9.below b_45 (by omega)
            replace o9 := o9.below b_45 (by omega)
            replace p9 := p9.below b_45 (by omega)
            replace a10 := a10.below b_45 (by omega)
            replace o10 := o10.below b_45 (by omega)
            replace p10 := p10.below b_45 (by omega)
            have z_46 := b_45.size
            replace hBf := hBf.trans (b_45.mono (by omega))
            clear b_45
            have bq8_0 := bq8.cell (j := 0) rfl
            have bq8_1 := bq8.cell (j := 1) rfl
            have bq8_2 := bq8.cell (j := 2) rfl
            have bq8_3 := bq8.cell (j := 3) rfl
            have bq8_z := bq8.frozen
            have bq8_l := bq8.lt
            have bq9_0 := bq9.cell (j := 0) rfl
            have bq9_1 := bq9.cell (j := 1) rfl
            have bq9_2 := bq9.cell (j := 2) rfl
            have bq9_3 := bq9.cell (j := 3) rfl
            have bq9_z := bq9.frozen
            have bq9_l := bq9.lt
            have bq10_0 := bq10.cell (j := 0) rfl
            have bq10_1 := bq10.cell (j := 1) rfl
            have bq10_2 := bq10.cell (j := 2) rfl
            have bq10_3 := bq10.cell (j := 3) rfl
            have bq10_z := bq10.frozen
            have bq10_l := bq10.lt
            go_wp2_with fail
            clear bq8_0 bq8_1 bq8_2 bq8_3 bq8_z bq8_l bq9_0 bq9_1 bq9_2 bq9_3 bq9_z bq9_l bq10_0 bq10_1 bq10_2 bq10_3 bq10_z bq10_l
            rw [(Fa.ra_yes Hokr.out).2.2.1] at a9
            refine (vInts_same _ _ _ w45 a9.rd a8.rd (by omega) (by omega)).mono ?_; rintro q_ w47 ⟨rfl, b_47⟩
            replace bq8 := bq8.below b_47 bq8.lt
            replace bq9 := bq9.below b_47 bq9.lt
            replace bq10 := bq10.below b_47 bq10.lt
            replace h := h.below b_47 (by omega)
            replace a8 := a8.below b_47 (by omega)
            replace o8 := o8.below b_47 (by omega)
            replace p8 := p8.below b_47 (by omega)
            replace a9 := a9.below b_47 (by omega)
            replace o9 := o9.below b_47 (by omega)
            replace p9 := p9.below b_47 (by omega)
            replace a10 := a10.below b_47 (by omega)
            replace o10 := o10.below b_47 (by omega)
            replace p10 := p10.below b_47 (by omega)
            have z_48 := b_47.size
            replace hBf := hBf.trans (b_47.mono (by omega))
            clear b_47
            have bq8_0 := bq8.cell (j := 0) rfl
            have bq8_1 := bq8.cell (j := 1) rfl
            have bq8_2 := bq8.cell (j := 2) rfl
            have bq8_3 := bq8.cell (j := 3) rfl
            have bq8_z := bq8.frozen
            have bq8_l := bq8.lt
            have bq9_0 := bq9.cell (j := 0) rfl
            have bq9_1 := bq9.cell (j := 1) rfl
            have bq9_2 := bq9.cell (j := 2) rfl
            have bq9_3 := bq9.cell (j := 3) rfl
            have bq9_z := bq9.frozen
            have bq9_l := bq9.lt
            have bq10_0 := bq10.cell (j := 0) rfl
            have bq10_1 := bq10.cell (j := 1) rfl
            have bq10_2 := bq10.cell (j := 2) rfl
            have bq10_3 := bq10.cell (j := 3) rfl
            have bq10_z := bq10.frozen
            have bq10_l := bq10.lt
            go_wp2_with fail
            clear bq8_0 bq8_1 bq8_2 bq8_3 bq8_z bq8_l bq9_0 bq9_1 bq9_2 bq9_3 bq9_z bq9_l bq10_0 bq10_1 bq10_2 bq10_3 bq10_z bq10_l
            go_meet
            exact ⟨rfl, hBf⟩
      case rest =>
        obtain ⟨rfl, hb⟩ := hcut
        replace bq8 := bq8.below hb bq8.lt
        replace bq9 := bq9.below hb bq9.lt
        replace bq10 := bq10.below hb bq10.lt
        replace h := h.below hb (by omega)
        replace a8 := a8.below hb (by omega)
        replace o8 := o8.below hb (by omega)
        replace p8 := p8.below hb (by omega)
        replace a9 := a9.below hb (by omega)
        replace o9 := o9.below hb (by omega)
        replace p9 := p9.below hb (by omega)
        replace a10 := a10.below hb (by omega)
        replace o10 := o10.below hb (by omega)
        replace p10 := p10.below hb (by omega)
        have z_45 := hb.size
        replace hB := hB.trans (hb.mono (by omega))
        clear hb
        clear bq8 a8 o8 p8
        clear bq9 a9 o9 p9
        clear bq10 a10 o10 p10
        clear nokr Hokr
        go_wp2_with fail
        refine (DrawSetMask_any cv l wc h (by omega)).mono ?_; rintro q_ w46 ⟨m11, vt11, vs11, vw11, st11, ls11, lw11, x11, rfl, ht11, hl11, hw11, a11, o11, p11, b_46⟩
        replace h := h.below b_46 (by omega)
        have z_47 := b_46.size
        replace hB := hB.trans (b_46.mono (by omega))
        clear b_46
        obtain ⟨T11, n11, d11, rfl, HN11, _, _⟩ := a11.rd.form
        obtain ⟨A11, k11, c11, rfl, _, _, _⟩ := o11.rd.form
        obtain ⟨B11, j11, e11, rfl, _, _, _⟩ := p11.rd.form
        go_wp2_with fail
        have b_48 := (Below.refl w46.heap.size w46).alloc (Nat.le_refl _) (.cells #[.int .i64 m11, .slice T11 n11 d11, .slice A11 k11 c11, .slice B11 j11 e11] 30)
        have bq11 := Box.new w46 #[.int .i64 m11, .slice T11 n11 d11, .slice A11 k11 c11, .slice B11 j11 e11] 30 rfl
        replace h := h.below b_48 (by omega)
        replace a11 := a11.below b_48 (by omega)
        replace o11 := o11.below b_48 (by omega)
        replace p11 := p11.below b_48 (by omega)
        have z_49 := b_48.size
        replace hB := hB.trans (b_48.mono (by omega))
        clear b_48
        generalize w46.alloc _ = w48 at *
        generalize w46.heap.size = g48 at *
        obtain ⟨okm, hz_⟩ : ∃ o, Fa.smOk m11 st11 ls11 lw11 x11 = o := ⟨_, rfl⟩
        have Hokm := Lib.hid hz_
        clear hz_
        have nokm : (okm != okm) = false := by simp
        have eokm : (okm == okm) = true := by simp
        have c1 := implSetMask_any m11 _ _ _ st11 ls11 lw11 w48 a11.rd o11.rd p11.rd (by omega) (by omega) (by omega) x11 ht11 hl11 hw11
        rw [Hokm.out] at c1
        refine (c1).mono ?_; rintro q_ w50 ⟨vt12, vs12, vw12, rfl, a12, o12, p12, b_50⟩
        replace bq11 := bq11.below b_50 bq11.lt
        replace h := h.below b_50 (by omega)
        replace a11 := a11.below b_50 (by omega)
        replace o11 := o11.below b_50 (by omega)
        replace p11 := p11.below b_50 (by omega)
        have z_51 := b_50.size
        replace hB := hB.trans (b_50.mono (by omega))
        clear b_50
        obtain ⟨T12, n12, d12, rfl, HN12, _, _⟩ := a12.rd.form
        obtain ⟨A12, k12, c12, rfl, _, _, _⟩ := o12.rd.form
        obtain ⟨B12, j12, e12, rfl, _, _, _⟩ := p12.rd.form
        clear c1
        have bq11_0 := bq11.cell (j := 0) rfl
        have bq11_1 := bq11.cell (j := 1) rfl
        have bq11_2 := bq11.cell (j := 2) rfl
        have bq11_3 := bq11.cell (j := 3) rfl
        have bq11_z := bq11.frozen
        have bq11_l := bq11.lt
        go_wp2_with fail
        clear bq11_0 bq11_1 bq11_2 bq11_3 bq11_z bq11_l
        have b_52 := (Below.refl w50.heap.size w50).alloc (Nat.le_refl _) (.cells #[.int .i64 (Fa.smM m11 st11 ls11 lw11 x11), .slice T12 n12 d12, .slice A12 k12 c12, .slice B12 j12 e12] 30)
        have bq12 := Box.new w50 #[.int .i64 (Fa.smM m11 st11 ls11 lw11 x11), .slice T12 n12 d12, .slice A12 k12 c12, .slice B12 j12 e12] 30 rfl
        replace bq11 := bq11.below b_52 bq11.lt
        replace h := h.below b_52 (by omega)
        replace a11 := a11.below b_52 (by omega)
        replace o11 := o11.below b_52 (by omega)
        replace p11 := p11.below b_52 (by omega)
        replace a12 := a12.below b_52 (by omega)
        replace o12 := o12.below b_52 (by omega)
        replace p12 := p12.below b_52 (by omega)
        have z_53 := b_52.size
        replace hB := hB.trans (b_52.mono (by omega))
        clear b_52
        generalize w50.alloc _ = w52 at *
        generalize w50.heap.size = g52 at *
        have c1 := specSetMask_any m11 _ _ _ st11 ls11 lw11 w52 a11.rd o11.rd p11.rd (by omega) (by omega) (by omega) x11 ht11 hl11 hw11
        rw [Hokm.out] at c1
        refine (c1).mono ?_; rintro q_ w54 ⟨vt13, vs13, vw13, rfl, a13, o13, p13, b_54⟩
        replace bq11 := bq11.below b_54 bq11.lt
        replace bq12 := bq12.below b_54 bq12.lt
        replace h := h.below b_54 (by omega)
        replace a11 := a11.below b_54 (by omega)
        replace o11 := o11.below b_54 (by omega)
        replace p11 := p11.below b_54 (by omega)
        replace a12 := a12.below b_54 (by omega)
        replace o12 := o12.below b_54 (by omega)
        replace p12 := p12.below b_54 (by omega)
        have z_55 := b_54.size
        replace hB := hB.trans (b_54.mono (by omega))
        clear b_54
        obtain ⟨T13, n13, d13, rfl, HN13, _, _⟩ := a13.rd.form
        obtain ⟨A13, k13, c13, rfl, _, _, _⟩ := o13.rd.form
        obtain ⟨B13, j13, e13, rfl, _, _, _⟩ := p13.rd.form
        clear c1
        have bq11_0 := bq11.cell (j := 0) rfl
        have bq11_1 := bq11.cell (j := 1) rfl
        have bq11_2 := bq11.cell (j := 2) rfl
        have bq11_3 := bq11.cell (j := 3) rfl
        have bq11_z := bq11.frozen
        have bq11_l := bq11.lt
        have bq12_0 := bq12.cell (j := 0) rfl
        have bq12_1 := bq12.cell (j := 1) rfl
        have bq12_2 := bq12.cell (j := 2) rfl
        have bq12_3 := bq12.cell (j := 3) rfl
        have bq12_z := bq12.frozen
        have bq12_l := bq12.lt
        go_wp2_with fail
        clear bq11_0 bq11_1 bq11_2 bq11_3 bq11_z bq11_l bq12_0 bq12_1 bq12_2 bq12_3 bq12_z bq12_l
        have b_56 := (Below.refl w54.heap.size w54).alloc (Nat.le_refl _) (.cells #[.int .i64 (Fa.smM m11 st11 ls11 lw11 x11), .slice T13 n13 d13, .slice A13 k13 c13, .slice B13 j13 e13] 30)
        have bq13 := Box.new w54 #[.int .i64 (Fa.smM m11 st11 ls11 lw11 x11), .slice T13 n13 d13, .slice A13 k13 c13, .slice B13 j13 e13] 30 rfl
        replace bq11 := bq11.below b_56 bq11.lt
        replace bq12 := bq12.below b_56 bq12.lt
        replace h := h.below b_56 (by omega)
        replace a11 := a11.below b_56 (by omega)
        replace o11 := o11.below b_56 (by omega)
        replace p11 := p11.below b_56 (by omega)
        replace a12 := a12.below b_56 (by omega)
        replace o12 := o12.below b_56 (by omega)
        replace p12 := p12.below b_56 (by omega)
        replace a13 := a13.below b_56 (by omega)
        replace o13 := o13.below b_56 (by omega)
        replace p13 := p13.below b_56 (by omega)
        have z_57 := b_56.size
        replace hB := hB.trans (b_56.mono (by omega))
        clear b_56
        generalize w54.alloc _ = w56 at *
        generalize w54.heap.size = g56 at *
        refine (vFace_same _ _ _ _ _ _ _ _ _ _ w56 a12.rd o12.rd p12.rd a13.rd o13.rd p13.rd (by omega) (by omega) (by omega) (by omega) (by omega) (by omega)).mono ?_; rintro q_ w58 ⟨rfl, b_58⟩
        replace bq11 := bq11.below b_58 bq11.lt
        replace bq12 := bq12.below b_58 bq12.lt
        replace bq13 := bq13.below b_58 bq13.lt
        replace h := h.below b_58 (by omega)
        replace a11 := a11.below b_58 (by omega)
        replace o11 := o11.below b_58 (by omega)
        replace p11 := p11.below b_58 (by omega)
        replace a12 := a12.below b_58 (by omega)
        replace o12 := o12.below b_58 (by omega)
        replace p12 := p12.below b_58 (by omega)
        replace a13 := a13.below b_58 (by omega)
        replace o13 := o13.below b_58 (by omega)
        replace p13 := p13.below b_58 (by omega)
        have z_59 := b_58.size
        replace hB := hB.trans (b_58.mono (by omega))
        clear b_58
        have bq11_0 := bq11.cell (j := 0) rfl
        have bq11_1 := bq11.cell (j := 1) rfl
        have bq11_2 := bq11.cell (j := 2) rfl
        have bq11_3 := bq11.cell (j := 3) rfl
        have bq11_z := bq11.frozen
        have bq11_l := bq11.lt
        have bq12_0 := bq12.cell (j := 0) rfl
        have bq12_1 := bq12.cell (j := 1) rfl
        have bq12_2 := bq12.cell (j := 2) rfl
        have bq12_3 := bq12.cell (j := 3) rfl
        have bq12_z := bq12.frozen
        have bq12_l := bq12.lt
        have bq13_0 := bq13.cell (j := 0) rfl
        have bq13_1 := bq13.cell (j := 1) rfl
        have bq13_2 := bq13.cell (j := 2) rfl
        have bq13_3 := bq13.cell (j := 3) rfl
        have bq13_z := bq13.frozen
        have bq13_l := bq13.lt
        go_wp2_with fail
        clear bq11_0 bq11_1 bq11_2 bq11_3 bq11_z bq11_l bq12_0 bq12_1 bq12_2 bq12_3 bq12_z bq12_l bq13_0 bq13_1 bq13_2 bq13_3 bq13_z bq13_l
        go_ret
        exact ⟨rfl, hB⟩

set_option maxRecDepth 100000 in
theorem FnInterfaces_holds : Rows.FnInterfacesSaid :=
  OpenClaim.holds_of_wide 3 Tryz.f3 rfl rfl rfl rfl rfl rfl rfl ⟨rfl, rfl, rfl, rfl, rfl⟩ rfl rfl rfl rfl rfl (by kernel_rfl) Tryz.func3 (by kernel_rfl)
    (of_decide_eq_true (by kernel_rfl)) (by unfold Func.isWrapper; first | (rw [if_pos (by decide +kernel)]; kernel_rfl) | (rw [if_neg (by decide +kernel)]; exact ⟨rfl, rfl⟩))
    (fun os started H enc _ => law_lifted (C := Tryz.checked) (s := Rows.fnInterfacesSpec) own started (by kernel_rfl) Tryz.func3
      (ChangeSpec.witness6 (enc := enc) (C := Tryz.checked) false ⟨#[], #[.slice none 0 0], []⟩ 8 (by kernel_rfl) (by kernel_rfl) (by kernel_rfl) (by kernel_rfl))
      laidOut (by kernel_rfl) rfl rfl Tryz.underlying4 (fun ds h => by match ds, h with | [_], _ => rfl)
      (fun W base args ds p hval0 hA0 => by
        have hval : ∀ (j : Nat) t v, Tryz.f3.params[j]? = some t → args[j]? = some v → Value.okWide Tryz.prog W .any base t v := hval0
        have hA : DataW.TrodAll enc Tryz.prog W 0 (fun _ => true) true Tryz.f3.params.toList args.toList ds p := hA0
        rw [Tryz.params3] at hA hval
        obtain ⟨v0, vs0, d0, ds0, p0, q0, hargs, rfl, rfl, h0, r0⟩ := trodAll_cons hA
        obtain ⟨rfl, rfl, rfl⟩ := trodAll_nil r0
        obtain rfl : args = #[v0] := by cases args; simp_all
        obtain ⟨l, k0⟩ := By.openS (hval 0 22 v0 rfl rfl) h0
        exact FnInterfaces_walk v0 l W k0))

end Go.Proofs.YtndfmkbpdoohfaaGreat
