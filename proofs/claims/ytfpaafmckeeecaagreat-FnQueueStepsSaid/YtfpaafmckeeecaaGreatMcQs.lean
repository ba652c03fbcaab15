/- What is taken is the most urgent one below the limit, ended it is gone, and what is withdrawn is pending no more: the law 'FnQueueSteps' says so of every code. No condition. -/
import Derived.Test.YtfpaafmckeeecaaGreatMcQsE
namespace Go.Proofs.YtfpaafmckeeecaaGreat
open Go.RowKit Go.ChangeShapes Go.WideShapes Go.Deep

theorem Qu.irqs_len (ls : List Sl) (lw : List Wt) : (Qu.irqs ls lw).length = (Qu.all ls lw).length := by simp [Qu.irqs]
theorem Qu.pe_irqs {ls : List Sl} {lw : List Wt} (h : Qu.good ls lw = true) : Qu.peL ls lw = Qu.irqs ls lw := Qu.pe_yes h
theorem Qu.en_true {ls : List Sl} {lw : List Wt} {i : Int} (h : Qu.enOk ls lw i = true) : Qu.enS ls lw i = (Qu.enP ls lw i).1 ∧ Qu.enW ls lw i = (Qu.enP ls lw i).2 ∧ Qu.good (Qu.enP ls lw i).1 (Qu.enP ls lw i).2 = true := by
  simp only [Qu.enOk, Bool.and_eq_true] at h
  obtain ⟨_, e2, e3⟩ := Qu.en_yes h.1
  obtain ⟨f1, f2⟩ := Qu.ei_yes h.2 lw
  exact ⟨e2.trans f1, e3.trans f2, Qu.eiP_good (Qu.good_parts (Qu.enG_get h.1).1).1 h.2⟩
theorem Qu.not_has {l : List Int} {i : Int} (h : i ∉ l) : l.contains i = false := by simp [h]
theorem Qu.tt_all {ls : List Sl} {lw : List Wt} {m : Int} (h : Qu.ttOk ls lw m = true) : Qu.good ls lw = true ∧ Qu.ttS ls lw m = Sl.tkS ls ∧ Qu.ttW ls lw m = lw ∧ Qu.ttV ls lw m = Sl.tkI ls ∧ Qu.good (Sl.tkS ls) lw = true ∧
    (Qu.irqs (Sl.tkS ls) lw).length + 1 = (Qu.irqs ls lw).length ∧ (Qu.irqs (Sl.tkS ls) lw).contains (Sl.tkI ls) = false ∧ Qu.enOk (Sl.tkS ls) lw (Sl.tkI ls) = true ∧ Qu.irqs (Qu.enP (Sl.tkS ls) lw (Sl.tkI ls)).1 (Qu.enP (Sl.tkS ls) lw (Sl.tkI ls)).2 = Qu.irqs (Sl.tkS ls) lw := by
  obtain ⟨_, e1, e2, e3⟩ := Qu.tt_yes h
  simp only [Qu.ttOk, Bool.and_eq_true] at h
  obtain ⟨⟨hq, _⟩, hk⟩ := h
  obtain ⟨f1, f2, f3, f4, _⟩ := Qu.tk_steps hq hk
  refine ⟨hq, e1, e2, e3, Qu.tk_good hq hk, by rw [Qu.irqs_len, Qu.irqs_len]; exact f1, Qu.not_has f2, f3, by rw [Qu.irqs, f4]; rfl⟩
theorem Qu.wi_all {ls : List Sl} {lw : List Wt} {i : Int} (h : Qu.wiOk ls lw i = true) : Qu.good ls lw = true ∧ (0 ≤ i ∧ i ≤ 7) ∧ (Qu.irqs ls lw).contains i = true ∧ Qu.wiS ls lw i = (Qu.wiP ls lw i).1 ∧ Qu.wiW ls lw i = (Qu.wiP ls lw i).2 ∧ Qu.good (Qu.wiP ls lw i).1 (Qu.wiP ls lw i).2 = true ∧
    (Qu.irqs (Qu.wiP ls lw i).1 (Qu.wiP ls lw i).2).length + 1 = (Qu.irqs ls lw).length ∧ (Qu.irqs (Qu.wiP ls lw i).1 (Qu.wiP ls lw i).2).contains i = false := by
  obtain ⟨hq, hi, h0⟩ := Qu.wiOk_get h
  obtain ⟨_, e2, e3⟩ := Qu.wi_yes h
  obtain ⟨f1, f2⟩ := Qu.wi_steps h
  refine ⟨hq, inB_true hi, ?_, e2, e3, Qu.wiP_good h, by rw [Qu.irqs_len, Qu.irqs_len]; exact f2, Qu.not_has f1⟩
  have := (Qu.wi_iff (Qu.good_parts hq).1).1 h0
  simp [this]
theorem Qu.wi_not {ls : List Sl} {lw : List Wt} {i : Int} (h : Qu.wiOk ls lw i = false) (hq : Qu.good ls lw = true) (hi : 0 ≤ i ∧ i ≤ 7) : (Qu.irqs ls lw).contains i = false := by
  refine Qu.not_has fun hm => ?_
  have h0 := (Qu.wi_iff (Qu.good_parts hq).1).2 hm
  have : inB i 0 7 = true := by rw [inB_iff]; omega
  simp [Qu.wiOk, Qu.enG, hq, this, h0] at h

set_option maxRecDepth 8000 in
set_option maxHeartbeats 16000000 in
theorem FnQueueSteps_walk (cv : Value) (l : List UInt8) (w : World) (h : Rd By.cells 1 w 0 w.heap.size cv l) :
    Calls Tryz.prog 4 #[cv] w fun e w' => e = .returned (.bool true) ∧ Below w.heap.size w w' := by
  have hB := Below.refl w.heap.size w
  have z_0 : w.heap.size ≤ w.heap.size := Nat.le_refl _
  have c0 := vBig_any cv l w h
  by_cases hz : 65536 < l.length
  · rw [decide_eq_true hz] at c0
    go_enter Tryz.func4, Tryz.ntmps4
    go_wp2_with fail
    refine (c0).mono ?_; rintro q_ w_ ⟨rfl, rfl⟩
    go_wp2_with fail
    go_ret
    exact ⟨rfl, hB⟩
  rw [decide_eq_false hz] at c0
  go_enter Tryz.func4, Tryz.ntmps4
  go_wp2_with fail
  refine (c0).mono ?_; rintro q_ w_ ⟨rfl, rfl⟩
  clear c0
  go_wp2_with fail
  refine (DrawTakeQueue_any cv l w h (by omega)).mono ?_; rintro q_ w1 ⟨v1, u1, l1, m1, x1, rfl, hl1, hm1, o1, p1, b_1⟩
  replace h := h.below b_1 (by omega)
  have z_2 := b_1.size
  replace hB := hB.trans (b_1.mono (by omega))
  clear b_1
  obtain ⟨A1, k1, c1, rfl, _, _, _⟩ := o1.rd.form
  obtain ⟨B1, j1, e1, rfl, _, _, _⟩ := p1.rd.form
  go_wp2_with fail
  have b_3 := (Below.refl w1.heap.size w1).alloc (Nat.le_refl _) (.cells #[.slice A1 k1 c1, .slice B1 j1 e1] 27)
  have bq1 := Box.new w1 #[.slice A1 k1 c1, .slice B1 j1 e1] 27 rfl
  replace h := h.below b_3 (by omega)
  replace o1 := o1.below b_3 (by omega)
  replace p1 := p1.below b_3 (by omega)
  have z_4 := b_3.size
  replace hB := hB.trans (b_3.mono (by omega))
  clear b_3
  generalize w1.alloc _ = w3 at *
  generalize w1.heap.size = g3 at *
  cases hk : Qu.ttOk l1 m1 x1
  · have c1 := implTakeQueue_any _ _ l1 m1 x1 w3 o1.rd p1.rd (by omega) (by omega) hm1
    rw [hk] at c1
    refine (c1).mono ?_; rintro q_ w5 ⟨v2, u2, rfl, o2, p2, b_5⟩
    replace bq1 := bq1.below b_5 bq1.lt
    replace h := h.below b_5 (by omega)
    replace o1 := o1.below b_5 (by omega)
    replace p1 := p1.below b_5 (by omega)
    have z_6 := b_5.size
    replace hB := hB.trans (b_5.mono (by omega))
    clear b_5
    obtain ⟨A2, k2, c2, rfl, _, _, _⟩ := o2.rd.form
    obtain ⟨B2, j2, e2, rfl, _, _, _⟩ := p2.rd.form
    clear c1
    have bq1_0 := bq1.cell (j := 0) rfl
    have bq1_1 := bq1.cell (j := 1) rfl
    have bq1_z := bq1.frozen
    have bq1_l := bq1.lt
    go_wp2_with fail
    clear bq1_0 bq1_1 bq1_z bq1_l
    have b_7 := (Below.refl w5.heap.size w5).alloc (Nat.le_refl _) (.cells #[.slice A2 k2 c2, .slice B2 j2 e2] 27)
    have bq2 := Box.new w5 #[.slice A2 k2 c2, .slice B2 j2 e2] 27 rfl
    replace bq1 := bq1.below b_7 bq1.lt
    replace h := h.below b_7 (by omega)
    replace o1 := o1.below b_7 (by omega)
    replace p1 := p1.below b_7 (by omega)
    replace o2 := o2.below b_7 (by omega)
    replace p2 := p2.below b_7 (by omega)
    have z_8 := b_7.size
    replace hB := hB.trans (b_7.mono (by omega))
    clear b_7
    generalize w5.alloc _ = w7 at *
    generalize w5.heap.size = g7 at *
    have c1 := specTakeQueue_any _ _ l1 m1 x1 w7 o1.rd p1.rd (by omega) (by omega) hm1
    rw [hk] at c1
    refine (c1).mono ?_; rintro q_ w9 ⟨v3, u3, rfl, o3, p3, b_9⟩
    replace bq1 := bq1.below b_9 bq1.lt
    replace bq2 := bq2.below b_9 bq2.lt
    replace h := h.below b_9 (by omega)
    replace o1 := o1.below b_9 (by omega)
    replace p1 := p1.below b_9 (by omega)
    replace o2 := o2.below b_9 (by omega)
    replace p2 := p2.below b_9 (by omega)
    have z_10 := b_9.size
    replace hB := hB.trans (b_9.mono (by omega))
    clear b_9
    obtain ⟨A3, k3, c3, rfl, _, _, _⟩ := o3.rd.form
    obtain ⟨B3, j3, e3, rfl, _, _, _⟩ := p3.rd.form
    clear c1 hk
    have bq1_0 := bq1.cell (j := 0) rfl
    have bq1_1 := bq1.cell (j := 1) rfl
    have bq1_z := bq1.frozen
    have bq1_l := bq1.lt
    have bq2_0 := bq2.cell (j := 0) rfl
    have bq2_1 := bq2.cell (j := 1) rfl
    have bq2_z := bq2.frozen
    have bq2_l := bq2.lt
    go_wp2_with fail
    clear bq1_0 bq1_1 bq1_z bq1_l bq2_0 bq2_1 bq2_z bq2_l
    have b_11 := (Below.refl w9.heap.size w9).alloc (Nat.le_refl _) (.cells #[.slice A3 k3 c3, .slice B3 j3 e3] 27)
    have bq3 := Box.new w9 #[.slice A3 k3 c3, .slice B3 j3 e3] 27 rfl
    replace bq1 := bq1.below b_11 bq1.lt
    replace bq2 := bq2.below b_11 bq2.lt
    replace h := h.below b_11 (by omega)
    replace o1 := o1.below b_11 (by omega)
    replace p1 := p1.below b_11 (by omega)
    replace o2 := o2.below b_11 (by omega)
    replace p2 := p2.below b_11 (by omega)
    replace o3 := o3.below b_11 (by omega)
    replace p3 := p3.below b_11 (by omega)
    have z_12 := b_11.size
    replace hB := hB.trans (b_11.mono (by omega))
    clear b_11
    generalize w9.alloc _ = w11 at *
    generalize w9.heap.size = g11 at *
    refine (vQueue_same _ _ _ _ _ _ w11 o2.rd p2.rd o3.rd p3.rd (by omega) (by omega) (by omega) (by omega)).mono ?_; rintro q_ w13 ⟨rfl, b_13⟩
    replace bq1 := bq1.below b_13 bq1.lt
    replace bq2 := bq2.below b_13 bq2.lt
    replace bq3 := bq3.below b_13 bq3.lt
    replace h := h.below b_13 (by omega)
    replace o1 := o1.below b_13 (by omega)
    replace p1 := p1.below b_13 (by omega)
    replace o2 := o2.below b_13 (by omega)
    replace p2 := p2.below b_13 (by omega)
    replace o3 := o3.below b_13 (by omega)
    replace p3 := p3.below b_13 (by omega)
    have z_14 := b_13.size
    replace hB := hB.trans (b_13.mono (by omega))
    clear b_13
    clear bq3 o3 p3
    have bq1_0 := bq1.cell (j := 0) rfl
    have bq1_1 := bq1.cell (j := 1) rfl
    have bq1_z := bq1.frozen
    have bq1_l := bq1.lt
    have bq2_0 := bq2.cell (j := 0) rfl
    have bq2_1 := bq2.cell (j := 1) rfl
    have bq2_z := bq2.frozen
    have bq2_l := bq2.lt
    go_wp2_with fail
    clear bq1_0 bq1_1 bq1_z bq1_l bq2_0 bq2_1 bq2_z bq2_l
    clear bq1 bq2 o1 p1 o2 p2
    refine (DrawEndQueue_any cv l w13 h (by omega)).mono ?_; rintro q_ w15 ⟨v5, u5, l5, m5, x5, rfl, hl5, hm5, o5, p5, b_15⟩
    replace h := h.below b_15 (by omega)
    have z_16 := b_15.size
    replace hB := hB.trans (b_15.mono (by omega))
    clear b_15
    obtain ⟨A5, k5, c5, rfl, _, _, _⟩ := o5.rd.form
    obtain ⟨B5, j5, e5, rfl, _, _, _⟩ := p5.rd.form
    go_wp2_with fail
    have b_17 := (Below.refl w15.heap.size w15).alloc (Nat.le_refl _) (.cells #[.slice A5 k5 c5, .slice B5 j5 e5] 27)
    have bq5 := Box.new w15 #[.slice A5 k5 c5, .slice B5 j5 e5] 27 rfl
    replace h := h.below b_17 (by omega)
    replace o5 := o5.below b_17 (by omega)
    replace p5 := p5.below b_17 (by omega)
    have z_18 := b_17.size
    replace hB := hB.trans (b_17.mono (by omega))
    clear b_17
    generalize w15.alloc _ = w17 at *
    generalize w15.heap.size = g17 at *
    cases hk : Qu.enOk l5 m5 x5
    · have c1 := implEndQueue_any _ _ l5 m5 x5 w17 o5.rd p5.rd (by omega) (by omega)
      rw [hk] at c1
      refine (c1).mono ?_; rintro q_ w19 ⟨v6, u6, rfl, o6, p6, b_19⟩
      replace bq5 := bq5.below b_19 bq5.lt
      replace h := h.below b_19 (by omega)
      replace o5 := o5.below b_19 (by omega)
      replace p5 := p5.below b_19 (by omega)
      have z_20 := b_19.size
      replace hB := hB.trans (b_19.mono (by omega))
      clear b_19
      obtain ⟨A6, k6, c6, rfl, _, _, _⟩ := o6.rd.form
      obtain ⟨B6, j6, e6, rfl, _, _, _⟩ := p6.rd.form
      clear c1
      have bq5_0 := bq5.cell (j := 0) rfl
      have bq5_1 := bq5.cell (j := 1) rfl
      have bq5_z := bq5.frozen
      have bq5_l := bq5.lt
      go_wp2_with fail
      clear bq5_0 bq5_1 bq5_z bq5_l
      have b_21 := (Below.refl w19.heap.size w19).alloc (Nat.le_refl _) (.cells #[.slice A6 k6 c6, .slice B6 j6 e6] 27)
      have bq6 := Box.new w19 #[.slice A6 k6 c6, .slice B6 j6 e6] 27 rfl
      replace bq5 := bq5.below b_21 bq5.lt
      replace h := h.below b_21 (by omega)
      replace o5 := o5.below b_21 (by omega)
      replace p5 := p5.below b_21 (by omega)
      replace o6 := o6.below b_21 (by omega)
      replace p6 := p6.below b_21 (by omega)
      have z_22 := b_21.size
      replace hB := hB.trans (b_21.mono (by omega))
      clear b_21
      generalize w19.alloc _ = w21 at *
      generalize w19.heap.size = g21 at *
      have c1 := specEndQueue_any _ _ l5 m5 x5 w21 o5.rd p5.rd (by omega) (by omega)
      rw [hk] at c1
      refine (c1).mono ?_; rintro q_ w23 ⟨v7, u7, rfl, o7, p7, b_23⟩
      replace bq5 := bq5.below b_23 bq5.lt
      replace bq6 := bq6.below b_23 bq6.lt
      replace h := h.below b_23 (by omega)
      replace o5 := o5.below b_23 (by omega)
      replace p5 := p5.below b_23 (by omega)
      replace o6 := o6.below b_23 (by omega)
      replace p6 := p6.below b_23 (by omega)
      have z_24 := b_23.size
      replace hB := hB.trans (b_23.mono (by omega))
      clear b_23
      obtain ⟨A7, k7, c7, rfl, _, _, _⟩ := o7.rd.form
      obtain ⟨B7, j7, e7, rfl, _, _, _⟩ := p7.rd.form
      clear c1 hk
      have bq5_0 := bq5.cell (j := 0) rfl
      have bq5_1 := bq5.cell (j := 1) rfl
      have bq5_z := bq5.frozen
      have bq5_l := bq5.lt
      have bq6_0 := bq6.cell (j := 0) rfl
      have bq6_1 := bq6.cell (j := 1) rfl
      have bq6_z := bq6.frozen
      have bq6_l := bq6.lt
      go_wp2_with fail
      clear bq5_0 bq5_1 bq5_z bq5_l bq6_0 bq6_1 bq6_z bq6_l
      have b_25 := (Below.refl w23.heap.size w23).alloc (Nat.le_refl _) (.cells #[.slice A7 k7 c7, .slice B7 j7 e7] 27)
      have bq7 := Box.new w23 #[.slice A7 k7 c7, .slice B7 j7 e7] 27 rfl
      replace bq5 := bq5.below b_25 bq5.lt
      replace bq6 := bq6.below b_25 bq6.lt
      replace h := h.below b_25 (by omega)
      replace o5 := o5.below b_25 (by omega)
      replace p5 := p5.below b_25 (by omega)
      replace o6 := o6.below b_25 (by omega)
      replace p6 := p6.below b_25 (by omega)
      replace o7 := o7.below b_25 (by omega)
      replace p7 := p7.below b_25 (by omega)
      have z_26 := b_25.size
      replace hB := hB.trans (b_25.mono (by omega))
      clear b_25
      generalize w23.alloc _ = w25 at *
      generalize w23.heap.size = g25 at *
      refine (vQueue_same _ _ _ _ _ _ w25 o6.rd p6.rd o7.rd p7.rd (by omega) (by omega) (by omega) (by omega)).mono ?_; rintro q_ w27 ⟨rfl, b_27⟩
      replace bq5 := bq5.below b_27 bq5.lt
      replace bq6 := bq6.below b_27 bq6.lt
      replace bq7 := bq7.below b_27 bq7.lt
      replace h := h.below b_27 (by omega)
      replace o5 := o5.below b_27 (by omega)
      replace p5 := p5.below b_27 (by omega)
      replace o6 := o6.below b_27 (by omega)
      replace p6 := p6.below b_27 (by omega)
      replace o7 := o7.below b_27 (by omega)
      replace p7 := p7.below b_27 (by omega)
      have z_28 := b_27.size
      replace hB := hB.trans (b_27.mono (by omega))
      clear b_27
      have bq5_0 := bq5.cell (j := 0) rfl
      have bq5_1 := bq5.cell (j := 1) rfl
      have bq5_z := bq5.frozen
      have bq5_l := bq5.lt
      have bq6_0 := bq6.cell (j := 0) rfl
      have bq6_1 := bq6.cell (j := 1) rfl
      have bq6_z := bq6.frozen
      have bq6_l := bq6.lt
      have bq7_0 := bq7.cell (j := 0) rfl
      have bq7_1 := bq7.cell (j := 1) rfl
      have bq7_z := bq7.frozen
      have bq7_l := bq7.lt
      go_wp2_with fail
      clear bq5_0 bq5_1 bq5_z bq5_l bq6_0 bq6_1 bq6_z bq6_l bq7_0 bq7_1 bq7_z bq7_l
      clear bq5 bq6 bq7 o5 p5 o6 p6 o7 p7
      refine (DrawWithdrawIrq_any cv l w27 h (by omega)).mono ?_; rintro q_ w29 ⟨v8, u8, l8, m8, x8, rfl, hl8, hm8, o8, p8, b_29⟩
      replace h := h.below b_29 (by omega)
      have z_30 := b_29.size
      replace hB := hB.trans (b_29.mono (by omega))
      clear b_29
      obtain ⟨A8, k8, c8, rfl, _, _, _⟩ := o8.rd.form
      obtain ⟨B8, j8, e8, rfl, _, _, _⟩ := p8.rd.form
      go_wp2_with fail
      have b_31 := (Below.refl w29.heap.size w29).alloc (Nat.le_refl _) (.cells #[.slice A8 k8 c8, .slice B8 j8 e8] 27)
      have bq8 := Box.new w29 #[.slice A8 k8 c8, .slice B8 j8 e8] 27 rfl
      replace h := h.below b_31 (by omega)
      replace o8 := o8.below b_31 (by omega)
      replace p8 := p8.below b_31 (by omega)
      have z_32 := b_31.size
      replace hB := hB.trans (b_31.mono (by omega))
      clear b_31
      generalize w29.alloc _ = w31 at *
      generalize w29.heap.size = g31 at *
      cases hk : Qu.wiOk l8 m8 x8
      · have c1 := implWithdrawIrq_any _ _ l8 m8 x8 w31 o8.rd p8.rd (by omega) (by omega)
        rw [hk] at c1
        refine (c1).mono ?_; rintro q_ w33 ⟨v9, u9, rfl, o9, p9, b_33⟩
        replace bq8 := bq8.below b_33 bq8.lt
        replace h := h.below b_33 (by omega)
        replace o8 := o8.below b_33 (by omega)
        replace p8 := p8.below b_33 (by omega)
        have z_34 := b_33.size
        replace hB := hB.trans (b_33.mono (by omega))
        clear b_33
        obtain ⟨A9, k9, c9, rfl, _, _, _⟩ := o9.rd.form
        obtain ⟨B9, j9, e9, rfl, _, _, _⟩ := p9.rd.form
        clear c1
        have bq8_0 := bq8.cell (j := 0) rfl
        have bq8_1 := bq8.cell (j := 1) rfl
        have bq8_z := bq8.frozen
        have bq8_l := bq8.lt
        go_wp2_with fail
        clear bq8_0 bq8_1 bq8_z bq8_l
        have b_35 := (Below.refl w33.heap.size w33).alloc (Nat.le_refl _) (.cells #[.slice A9 k9 c9, .slice B9 j9 e9] 27)
        have bq9 := Box.new w33 #[.slice A9 k9 c9, .slice B9 j9 e9] 27 rfl
        replace bq8 := bq8.below b_35 bq8.lt
        replace h := h.below b_35 (by omega)
        replace o8 := o8.below b_35 (by omega)
        replace p8 := p8.below b_35 (by omega)
        replace o9 := o9.below b_35 (by omega)
        replace p9 := p9.below b_35 (by omega)
        have z_36 := b_35.size
        replace hB := hB.trans (b_35.mono (by omega))
        clear b_35
        generalize w33.alloc _ = w35 at *
        generalize w33.heap.size = g35 at *
        have c1 := specWithdrawIrq_any _ _ l8 m8 x8 w35 o8.rd p8.rd (by omega) (by omega)
        rw [hk] at c1
        refine (c1).mono ?_; rintro q_ w37 ⟨v10, u10, rfl, o10, p10, b_37⟩
        replace bq8 := bq8.below b_37 bq8.lt
        replace bq9 := bq9.below b_37 bq9.lt
        replace h := h.below b_37 (by omega)
        replace o8 := o8.below b_37 (by omega)
        replace p8 := p8.below b_37 (by omega)
        replace o9 := o9.below b_37 (by omega)
        replace p9 := p9.below b_37 (by omega)
        have z_38 := b_37.size
        replace hB := hB.trans (b_37.mono (by omega))
        clear b_37
        obtain ⟨A10, k10, c10, rfl, _, _, _⟩ := o10.rd.form
        obtain ⟨B10, j10, e10, rfl, _, _, _⟩ := p10.rd.form
        clear c1
        have bq8_0 := bq8.cell (j := 0) rfl
        have bq8_1 := bq8.cell (j := 1) rfl
        have bq8_z := bq8.frozen
        have bq8_l := bq8.lt
        have bq9_0 := bq9.cell (j := 0) rfl
        have bq9_1 := bq9.cell (j := 1) rfl
        have bq9_z := bq9.frozen
        have bq9_l := bq9.lt
        go_wp2_with fail
        clear bq8_0 bq8_1 bq8_z bq8_l bq9_0 bq9_1 bq9_z bq9_l
        have b_39 := (Below.refl w37.heap.size w37).alloc (Nat.le_refl _) (.cells #[.slice A10 k10 c10, .slice B10 j10 e10] 27)
        have bq10 := Box.new w37 #[.slice A10 k10 c10, .slice B10 j10 e10] 27 rfl
        replace bq8 := bq8.below b_39 bq8.lt
        replace bq9 := bq9.below b_39 bq9.lt
        replace h := h.below b_39 (by omega)
        replace o8 := o8.below b_39 (by omega)
        replace p8 := p8.below b_39 (by omega)
        replace o9 := o9.below b_39 (by omega)
        replace p9 := p9.below b_39 (by omega)
        replace o10 := o10.below b_39 (by omega)
        replace p10 := p10.below b_39 (by omega)
        have z_40 := b_39.size
        replace hB := hB.trans (b_39.mono (by omega))
        clear b_39
        generalize w37.alloc _ = w39 at *
        generalize w37.heap.size = g39 at *
        refine (vQueue_same _ _ _ _ _ _ w39 o9.rd p9.rd o10.rd p10.rd (by omega) (by omega) (by omega) (by omega)).mono ?_; rintro q_ w41 ⟨rfl, b_41⟩
        replace bq8 := bq8.below b_41 bq8.lt
        replace bq9 := bq9.below b_41 bq9.lt
        replace bq10 := bq10.below b_41 bq10.lt
        replace h := h.below b_41 (by omega)
        replace o8 := o8.below b_41 (by omega)
        replace p8 := p8.below b_41 (by omega)
        replace o9 := o9.below b_41 (by omega)
        replace p9 := p9.below b_41 (by omega)
        replace o10 := o10.below b_41 (by omega)
        replace p10 := p10.below b_41 (by omega)
        have z_42 := b_41.size
        replace hB := hB.trans (b_41.mono (by omega))
        clear b_41
        clear bq10 o10 p10
        cases hq : Qu.good l8 m8
        · have bq8_0 := bq8.cell (j := 0) rfl
          have bq8_1 := bq8.cell (j := 1) rfl
          have bq8_z := bq8.frozen
          have bq8_l := bq8.lt
          have bq9_0 := bq9.cell (j := 0) rfl
          have bq9_1 := bq9.cell (j := 1) rfl
          have bq9_z := bq9.frozen
          have bq9_l := bq9.lt
          go_wp2_with fail
          clear bq8_0 bq8_1 bq8_z bq8_l bq9_0 bq9_1 bq9_z bq9_l
          have c1 := implPendingIrqs_any _ _ l8 m8 w41 o8.rd p8.rd (by omega) (by omega)
          rw [hq] at c1
          refine (c1).mono ?_; rintro q_ w43 ⟨vP, rfl, oP, b_43⟩
          replace bq8 := bq8.below b_43 bq8.lt
          replace bq9 := bq9.below b_43 bq9.lt
          replace h := h.below b_43 (by omega)
          replace o8 := o8.below b_43 (by omega)
          replace p8 := p8.below b_43 (by omega)
          replace o9 := o9.below b_43 (by omega)
          replace p9 := p9.below b_43 (by omega)
          have z_44 := b_43.size
          replace hB := hB.trans (b_43.mono (by omega))
          clear b_43
          clear c1
          clear hq hk
          have bq8_0 := bq8.cell (j := 0) rfl
          have bq8_1 := bq8.cell (j := 1) rfl
          have bq8_z := bq8.frozen
          have bq8_l := bq8.lt
          have bq9_0 := bq9.cell (j := 0) rfl
          have bq9_1 := bq9.cell (j := 1) rfl
          have bq9_z := bq9.frozen
          have bq9_l := bq9.lt
          go_wp2_with fail
          clear bq8_0 bq8_1 bq8_z bq8_l bq9_0 bq9_1 bq9_z bq9_l
          go_ret
          exact ⟨rfl, hB⟩
        · have G1 := Lib.hid hq
          by_cases hx0 : 0 ≤ x8
          rotate_left
          · have hx0b : decide (0 ≤ x8) = false := decide_eq_false hx0
            have bq8_0 := bq8.cell (j := 0) rfl
            have bq8_1 := bq8.cell (j := 1) rfl
            have bq8_z := bq8.frozen
            have bq8_l := bq8.lt
            have bq9_0 := bq9.cell (j := 0) rfl
            have bq9_1 := bq9.cell (j := 1) rfl
            have bq9_z := bq9.frozen
            have bq9_l := bq9.lt
            go_wp2_with fail
            clear bq8_0 bq8_1 bq8_z bq8_l bq9_0 bq9_1 bq9_z bq9_l
            have c1 := implPendingIrqs_any _ _ l8 m8 w41 o8.rd p8.rd (by omega) (by omega)
            rw [G1.out, Qu.pe_irqs G1.out] at c1
            refine (c1).mono ?_; rintro q_ w43 ⟨vP, rfl, oP, b_43⟩
            replace bq8 := bq8.below b_43 bq8.lt
            replace bq9 := bq9.below b_43 bq9.lt
            replace h := h.below b_43 (by omega)
            replace o8 := o8.below b_43 (by omega)
            replace p8 := p8.below b_43 (by omega)
            replace o9 := o9.below b_43 (by omega)
            replace p9 := p9.below b_43 (by omega)
            have z_44 := b_43.size
            replace hB := hB.trans (b_43.mono (by omega))
            clear b_43
            clear c1
            clear hq hk
            have bq8_0 := bq8.cell (j := 0) rfl
            have bq8_1 := bq8.cell (j := 1) rfl
            have bq8_z := bq8.frozen
            have bq8_l := bq8.lt
            have bq9_0 := bq9.cell (j := 0) rfl
            have bq9_1 := bq9.cell (j := 1) rfl
            have bq9_z := bq9.frozen
            have bq9_l := bq9.lt
            go_wp2_with fail
            clear bq8_0 bq8_1 bq8_z bq8_l bq9_0 bq9_1 bq9_z bq9_l
            go_ret
            exact ⟨rfl, hB⟩
          by_cases hx7 : x8 < 8
          rotate_left
          · have hx0b : decide (0 ≤ x8) = true := decide_eq_true hx0
            have hx7b : decide (x8 < 8) = false := decide_eq_false hx7
            have bq8_0 := bq8.cell (j := 0) rfl
            have bq8_1 := bq8.cell (j := 1) rfl
            have bq8_z := bq8.frozen
            have bq8_l := bq8.lt
            have bq9_0 := bq9.cell (j := 0) rfl
            have bq9_1 := bq9.cell (j := 1) rfl
            have bq9_z := bq9.frozen
            have bq9_l := bq9.lt
            go_wp2_with fail
            clear bq8_0 bq8_1 bq8_z bq8_l bq9_0 bq9_1 bq9_z bq9_l
            have c1 := implPendingIrqs_any _ _ l8 m8 w41 o8.rd p8.rd (by omega) (by omega)
            rw [G1.out, Qu.pe_irqs G1.out] at c1
            refine (c1).mono ?_; rintro q_ w43 ⟨vP, rfl, oP, b_43⟩
            replace bq8 := bq8.below b_43 bq8.lt
            replace bq9 := bq9.below b_43 bq9.lt
            replace h := h.below b_43 (by omega)
            replace o8 := o8.below b_43 (by omega)
            replace p8 := p8.below b_43 (by omega)
            replace o9 := o9.below b_43 (by omega)
            replace p9 := p9.below b_43 (by omega)
            have z_44 := b_43.size
            replace hB := hB.trans (b_43.mono (by omega))
            clear b_43
            clear c1
            clear hq hk
            have bq8_0 := bq8.cell (j := 0) rfl
            have bq8_1 := bq8.cell (j := 1) rfl
            have bq8_z := bq8.frozen
            have bq8_l := bq8.lt
            have bq9_0 := bq9.cell (j := 0) rfl
            have bq9_1 := bq9.cell (j := 1) rfl
            have bq9_z := bq9.frozen
            have bq9_l := bq9.lt
            go_wp2_with fail
            clear bq8_0 bq8_1 bq8_z bq8_l bq9_0 bq9_1 bq9_z bq9_l
            go_ret
            exact ⟨rfl, hB⟩
          · have hx0b : decide (0 ≤ x8) = true := decide_eq_true hx0
            have hx7b : decide (x8 < 8) = true := decide_eq_true hx7
            have G5 := Lib.hid (Qu.wi_not hk hq (by omega))
            have bq8_0 := bq8.cell (j := 0) rfl
            have bq8_1 := bq8.cell (j := 1) rfl
            have bq8_z := bq8.frozen
            have bq8_l := bq8.lt
            have bq9_0 := bq9.cell (j := 0) rfl
            have bq9_1 := bq9.cell (j := 1) rfl
            have bq9_z := bq9.frozen
            have bq9_l := bq9.lt
            go_wp2_with fail
            clear bq8_0 bq8_1 bq8_z bq8_l bq9_0 bq9_1 bq9_z bq9_l
            have c1 := implPendingIrqs_any _ _ l8 m8 w41 o8.rd p8.rd (by omega) (by omega)
            rw [G1.out, Qu.pe_irqs G1.out] at c1
            refine (c1).mono ?_; rintro q_ w43 ⟨vP, rfl, oP, b_43⟩
            replace bq8 := bq8.below b_43 bq8.lt
            replace bq9 := bq9.below b_43 bq9.lt
            replace h := h.below b_43 (by omega)
            replace o8 := o8.below b_43 (by omega)
            replace p8 := p8.below b_43 (by omega)
            replace o9 := o9.below b_43 (by omega)
            replace p9 := p9.below b_43 (by omega)
            have z_44 := b_43.size
            replace hB := hB.trans (b_43.mono (by omega))
            clear b_43
            clear c1
            clear hq hk
            have bq8_0 := bq8.cell (j := 0) rfl
            have bq8_1 := bq8.cell (j := 1) rfl
            have bq8_z := bq8.frozen
            have bq8_l := bq8.lt
            have bq9_0 := bq9.cell (j := 0) rfl
            have bq9_1 := bq9.cell (j := 1) rfl
            have bq9_z := bq9.frozen
            have bq9_l := bq9.lt
            go_wp2_with fail
            clear bq8_0 bq8_1 bq8_z bq8_l bq9_0 bq9_1 bq9_z bq9_l
            have c1 := vHas_any _ _ x8 w43 oP.rd (by omega)
            rw [G5.out] at c1
            refine (c1).mono ?_; rintro q_ w_ ⟨rfl, rfl⟩
            clear c1
            have bq8_0 := bq8.cell (j := 0) rfl
            have bq8_1 := bq8.cell (j := 1) rfl
            have bq8_z := bq8.frozen
            have bq8_l := bq8.lt
            have bq9_0 := bq9.cell (j := 0) rfl
            have bq9_1 := bq9.cell (j := 1) rfl
            have bq9_z := bq9.frozen
            have bq9_l := bq9.lt
            go_wp2_with fail
            clear bq8_0 bq8_1 bq8_z bq8_l bq9_0 bq9_1 bq9_z bq9_l
            go_ret
            exact ⟨rfl, hB⟩
      · obtain ⟨hq, hir, hh0, eS, eW, hgP, hlen, hno⟩ := Qu.wi_all hk
        have G1 := Lib.hid hq
        have G2 := Lib.hid hgP
        have G3 := Lib.hid hlen
        have G4 := Lib.hid hno
        have G5 := Lib.hid hh0
        have hx0 : decide (0 ≤ x8) = true := decide_eq_true hir.1
        have hx7 : decide (x8 < 8) = true := decide_eq_true (by omega)
        clear hq hgP hlen hno hh0 hir
        have c1 := implWithdrawIrq_any _ _ l8 m8 x8 w31 o8.rd p8.rd (by omega) (by omega)
        rw [hk, eS, eW] at c1
        refine (c1).mono ?_; rintro q_ w33 ⟨v9, u9, rfl, o9, p9, b_33⟩
        replace bq8 := bq8.below b_33 bq8.lt
        replace h := h.below b_33 (by omega)
        replace o8 := o8.below b_33 (by omega)
        replace p8 := p8.below b_33 (by omega)
        have z_34 := b_33.size
        replace hB := hB.trans (b_33.mono (by omega))
        clear b_33
        obtain ⟨A9, k9, c9, rfl, _, _, _⟩ := o9.rd.form
        obtain ⟨B9, j9, e9, rfl, _, _, _⟩ := p9.rd.form
        clear c1
        have bq8_0 := bq8.cell (j := 0) rfl
        have bq8_1 := bq8.cell (j := 1) rfl
        have bq8_z := bq8.frozen
        have bq8_l := bq8.lt
        go_wp2_with fail
        clear bq8_0 bq8_1 bq8_z bq8_l
        have b_35 := (Below.refl w33.heap.size w33).alloc (Nat.le_refl _) (.cells #[.slice A9 k9 c9, .slice B9 j9 e9] 27)
        have bq9 := Box.new w33 #[.slice A9 k9 c9, .slice B9 j9 e9] 27 rfl
        replace bq8 := bq8.below b_35 bq8.lt
        replace h := h.below b_35 (by omega)
        replace o8 := o8.below b_35 (by omega)
        replace p8 := p8.below b_35 (by omega)
        replace o9 := o9.below b_35 (by omega)
        replace p9 := p9.below b_35 (by omega)
        have z_36 := b_35.size
        replace hB := hB.trans (b_35.mono (by omega))
        clear b_35
        generalize w33.alloc _ = w35 at *
        generalize w33.heap.size = g35 at *
        have c1 := specWithdrawIrq_any _ _ l8 m8 x8 w35 o8.rd p8.rd (by omega) (by omega)
        rw [hk, eS, eW] at c1
        refine (c1).mono ?_; rintro q_ w37 ⟨v10, u10, rfl, o10, p10, b_37⟩
        replace bq8 := bq8.below b_37 bq8.lt
        replace bq9 := bq9.below b_37 bq9.lt
        replace h := h.below b_37 (by omega)
        replace o8 := o8.below b_37 (by omega)
        replace p8 := p8.below b_37 (by omega)
        replace o9 := o9.below b_37 (by omega)
        replace p9 := p9.below b_37 (by omega)
        have z_38 := b_37.size
        replace hB := hB.trans (b_37.mono (by omega))
        clear b_37
        obtain ⟨A10, k10, c10, rfl, _, _, _⟩ := o10.rd.form
        obtain ⟨B10, j10, e10, rfl, _, _, _⟩ := p10.rd.form
        clear c1 eS eW hk
        have bq8_0 := bq8.cell (j := 0) rfl
        have bq8_1 := bq8.cell (j := 1) rfl
        have bq8_z := bq8.frozen
        have bq8_l := bq8.lt
        have bq9_0 := bq9.cell (j := 0) rfl
        have bq9_1 := bq9.cell (j := 1) rfl
        have bq9_z := bq9.frozen
        have bq9_l := bq9.lt
        go_wp2_with fail
        clear bq8_0 bq8_1 bq8_z bq8_l bq9_0 bq9_1 bq9_z bq9_l
        have b_39 := (Below.refl w37.heap.size w37).alloc (Nat.le_refl _) (.cells #[.slice A10 k10 c10, .slice B10 j10 e10] 27)
        have bq10 := Box.new w37 #[.slice A10 k10 c10, .slice B10 j10 e10] 27 rfl
        replace bq8 := bq8.below b_39 bq8.lt
        replace bq9 := bq9.below b_39 bq9.lt
        replace h := h.below b_39 (by omega)
        replace o8 := o8.below b_39 (by omega)
        replace p8 := p8.below b_39 (by omega)
        replace o9 := o9.below b_39 (by omega)
        replace p9 := p9.below b_39 (by omega)
        replace o10 := o10.below b_39 (by omega)
        replace p10 := p10.below b_39 (by omega)
        have z_40 := b_39.size
        replace hB := hB.trans (b_39.mono (by omega))
        clear b_39
        generalize w37.alloc _ = w39 at *
        generalize w37.heap.size = g39 at *
        refine (vQueue_same _ _ _ _ _ _ w39 o9.rd p9.rd o10.rd p10.rd (by omega) (by omega) (by omega) (by omega)).mono ?_; rintro q_ w41 ⟨rfl, b_41⟩
        replace bq8 := bq8.below b_41 bq8.lt
        replace bq9 := bq9.below b_41 bq9.lt
        replace bq10 := bq10.below b_41 bq10.lt
        replace h := h.below b_41 (by omega)
        replace o8 := o8.below b_41 (by omega)
        replace p8 := p8.below b_41 (by omega)
        replace o9 := o9.below b_41 (by omega)
        replace p9 := p9.below b_41 (by omega)
        replace o10 := o10.below b_41 (by omega)
        replace p10 := p10.below b_41 (by omega)
        have z_42 := b_41.size
        replace hB := hB.trans (b_41.mono (by omega))
        clear b_41
        clear bq10 o10 p10
        have bq8_0 := bq8.cell (j := 0) rfl
        have bq8_1 := bq8.cell (j := 1) rfl
        have bq8_z := bq8.frozen
        have bq8_l := bq8.lt
        have bq9_0 := bq9.cell (j := 0) rfl
        have bq9_1 := bq9.cell (j := 1) rfl
        have bq9_z := bq9.frozen
        have bq9_l := bq9.lt
        go_wp2_with fail
        clear bq8_0 bq8_1 bq8_z bq8_l bq9_0 bq9_1 bq9_z bq9_l
        have c1 := implPendingIrqs_any _ _ l8 m8 w41 o8.rd p8.rd (by omega) (by omega)
        rw [G1.out, Qu.pe_irqs G1.out] at c1
        refine (c1).mono ?_; rintro q_ w43 ⟨vP, rfl, oP, b_43⟩
        replace bq8 := bq8.below b_43 bq8.lt
        replace bq9 := bq9.below b_43 bq9.lt
        replace h := h.below b_43 (by omega)
        replace o8 := o8.below b_43 (by omega)
        replace p8 := p8.below b_43 (by omega)
        replace o9 := o9.below b_43 (by omega)
        replace p9 := p9.below b_43 (by omega)
        have z_44 := b_43.size
        replace hB := hB.trans (b_43.mono (by omega))
        clear b_43
        clear c1
        have bq8_0 := bq8.cell (j := 0) rfl
        have bq8_1 := bq8.cell (j := 1) rfl
        have bq8_z := bq8.frozen
        have bq8_l := bq8.lt
        have bq9_0 := bq9.cell (j := 0) rfl
        have bq9_1 := bq9.cell (j := 1) rfl
        have bq9_z := bq9.frozen
        have bq9_l := bq9.lt
        go_wp2_with fail
        clear bq8_0 bq8_1 bq8_z bq8_l bq9_0 bq9_1 bq9_z bq9_l
        have c1 := vHas_any _ _ x8 w43 oP.rd (by omega)
        rw [G5.out] at c1
        refine (c1).mono ?_; rintro q_ w_ ⟨rfl, rfl⟩
        clear c1
        have bq8_0 := bq8.cell (j := 0) rfl
        have bq8_1 := bq8.cell (j := 1) rfl
        have bq8_z := bq8.frozen
        have bq8_l := bq8.lt
        have bq9_0 := bq9.cell (j := 0) rfl
        have bq9_1 := bq9.cell (j := 1) rfl
        have bq9_z := bq9.frozen
        have bq9_l := bq9.lt
        go_wp2_with fail
        clear bq8_0 bq8_1 bq8_z bq8_l bq9_0 bq9_1 bq9_z bq9_l
        have c1 := implPendingIrqs_any _ _ _ _ w43 o9.rd p9.rd (by omega) (by omega)
        rw [G2.out, Qu.pe_irqs G2.out] at c1
        refine (c1).mono ?_; rintro q_ w45 ⟨vR, rfl, oR, b_45⟩
        replace bq8 := bq8.below b_45 bq8.lt
        replace bq9 := bq9.below b_45 bq9.lt
        replace h := h.below b_45 (by omega)
        replace o8 := o8.below b_45 (by omega)
        replace p8 := p8.below b_45 (by omega)
        replace o9 := o9.below b_45 (by omega)
        replace p9 := p9.below b_45 (by omega)
        replace oP := oP.below b_45 (by omega)
        have z_46 := b_45.size
        replace hB := hB.trans (b_45.mono (by omega))
        clear b_45
        clear c1
        obtain ⟨AP, nP, dP, rfl, HP, hcP, hmP⟩ := oP.rd.form
        obtain ⟨AR, nR, dR, rfl, HR, hcR, hmR⟩ := oR.rd.form
        obtain rfl : nP = nR + 1 := by rw [HP.out, HR.out]; exact G3.out.symm
        have hje : ((nR + 1 : Nat) : Int) - 1 = (nR : Int) := by omega
        have hjw : IntKind.i64.wrap (nR : Int) = (nR : Int) := IntWalk.i64_in _ (by omega)
        clear HP HR
        have bq8_0 := bq8.cell (j := 0) rfl
        have bq8_1 := bq8.cell (j := 1) rfl
        have bq8_z := bq8.frozen
        have bq8_l := bq8.lt
        have bq9_0 := bq9.cell (j := 0) rfl
        have bq9_1 := bq9.cell (j := 1) rfl
        have bq9_z := bq9.frozen
        have bq9_l := bq9.lt
        go_wp2_with fail
        clear bq8_0 bq8_1 bq8_z bq8_l bq9_0 bq9_1 bq9_z bq9_l
        have c1 := vHas_any _ _ x8 w45 oR.rd (by omega)
        rw [G4.out] at c1
        refine (c1).mono ?_; rintro q_ w_ ⟨rfl, rfl⟩
        clear c1
        have bq8_0 := bq8.cell (j := 0) rfl
        have bq8_1 := bq8.cell (j := 1) rfl
        have bq8_z := bq8.frozen
        have bq8_l := bq8.lt
        have bq9_0 := bq9.cell (j := 0) rfl
        have bq9_1 := bq9.cell (j := 1) rfl
        have bq9_z := bq9.frozen
        have bq9_l := bq9.lt
        go_wp2_with fail
        clear bq8_0 bq8_1 bq8_z bq8_l bq9_0 bq9_1 bq9_z bq9_l
        have c1 := implIsQueue_any _ _ _ _ w45 o9.rd p9.rd (by omega) (by omega)
        rw [G2.out] at c1
        refine (c1).mono ?_; rintro q_ w47 ⟨rfl, b_47⟩
        replace bq8 := bq8.below b_47 bq8.lt
        replace bq9 := bq9.below b_47 bq9.lt
        replace h := h.below b_47 (by omega)
        replace o8 := o8.below b_47 (by omega)
        replace p8 := p8.below b_47 (by omega)
        replace o9 := o9.below b_47 (by omega)
        replace p9 := p9.below b_47 (by omega)
        replace oP := oP.below b_47 (by omega)
        replace oR := oR.below b_47 (by omega)
        have z_48 := b_47.size
        replace hB := hB.trans (b_47.mono (by omega))
        clear b_47
        have bq8_0 := bq8.cell (j := 0) rfl
        have bq8_1 := bq8.cell (j := 1) rfl
        have bq8_z := bq8.frozen
        have bq8_l := bq8.lt
        have bq9_0 := bq9.cell (j := 0) rfl
        have bq9_1 := bq9.cell (j := 1) rfl
        have bq9_z := bq9.frozen
        have bq9_l := bq9.lt
        go_wp2_with fail
        clear bq8_0 bq8_1 bq8_z bq8_l bq9_0 bq9_1 bq9_z bq9_l
        go_ret
        exact ⟨rfl, hB⟩
    · obtain ⟨eS, eW, hgE⟩ := Qu.en_true hk
      have G1 := Lib.hid hgE
      clear hgE
      have c1 := implEndQueue_any _ _ l5 m5 x5 w17 o5.rd p5.rd (by omega) (by omega)
      rw [hk, eS, eW] at c1
      refine (c1).mono ?_; rintro q_ w19 ⟨v6, u6, rfl, o6, p6, b_19⟩
      replace bq5 := bq5.below b_19 bq5.lt
      replace h := h.below b_19 (by omega)
      replace o5 := o5.below b_19 (by omega)
      replace p5 := p5.below b_19 (by omega)
      have z_20 := b_19.size
      replace hB := hB.trans (b_19.mono (by omega))
      clear b_19
      obtain ⟨A6, k6, c6, rfl, _, _, _⟩ := o6.rd.form
      obtain ⟨B6, j6, e6, rfl, _, _, _⟩ := p6.rd.form
      clear c1
      have bq5_0 := bq5.cell (j := 0) rfl
      have bq5_1 := bq5.cell (j := 1) rfl
      have bq5_z := bq5.frozen
      have bq5_l := bq5.lt
      go_wp2_with fail
      clear bq5_0 bq5_1 bq5_z bq5_l
      have b_21 := (Below.refl w19.heap.size w19).alloc (Nat.le_refl _) (.cells #[.slice A6 k6 c6, .slice B6 j6 e6] 27)
      have bq6 := Box.new w19 #[.slice A6 k6 c6, .slice B6 j6 e6] 27 rfl
      replace bq5 := bq5.below b_21 bq5.lt
      replace h := h.below b_21 (by omega)
      replace o5 := o5.below b_21 (by omega)
      replace p5 := p5.below b_21 (by omega)
      replace o6 := o6.below b_21 (by omega)
      replace p6 := p6.below b_21 (by omega)
      have z_22 := b_21.size
      replace hB := hB.trans (b_21.mono (by omega))
      clear b_21
      generalize w19.alloc _ = w21 at *
      generalize w19.heap.size = g21 at *
      have c1 := specEndQueue_any _ _ l5 m5 x5 w21 o5.rd p5.rd (by omega) (by omega)
      rw [hk, eS, eW] at c1
      refine (c1).mono ?_; rintro q_ w23 ⟨v7, u7, rfl, o7, p7, b_23⟩
      replace bq5 := bq5.below b_23 bq5.lt
      replace bq6 := bq6.below b_23 bq6.lt
      replace h := h.below b_23 (by omega)
      replace o5 := o5.below b_23 (by omega)
      replace p5 := p5.below b_23 (by omega)
      replace o6 := o6.below b_23 (by omega)
      replace p6 := p6.below b_23 (by omega)
      have z_24 := b_23.size
      replace hB := hB.trans (b_23.mono (by omega))
      clear b_23
      obtain ⟨A7, k7, c7, rfl, _, _, _⟩ := o7.rd.form
      obtain ⟨B7, j7, e7, rfl, _, _, _⟩ := p7.rd.form
      clear c1 hk eS eW
      have bq5_0 := bq5.cell (j := 0) rfl
      have bq5_1 := bq5.cell (j := 1) rfl
      have bq5_z := bq5.frozen
      have bq5_l := bq5.lt
      have bq6_0 := bq6.cell (j := 0) rfl
      have bq6_1 := bq6.cell (j := 1) rfl
      have bq6_z := bq6.frozen
      have bq6_l := bq6.lt
      go_wp2_with fail
      clear bq5_0 bq5_1 bq5_z bq5_l bq6_0 bq6_1 bq6_z bq6_l
      have b_25 := (Below.refl w23.heap.size w23).alloc (Nat.le_refl _) (.cells #[.slice A7 k7 c7, .slice B7 j7 e7] 27)
      have bq7 := Box.new w23 #[.slice A7 k7 c7, .slice B7 j7 e7] 27 rfl
      replace bq5 := bq5.below b_25 bq5.lt
      replace bq6 := bq6.below b_25 bq6.lt
      replace h := h.below b_25 (by omega)
      replace o5 := o5.below b_25 (by omega)
      replace p5 := p5.below b_25 (by omega)
      replace o6 := o6.below b_25 (by omega)
      replace p6 := p6.below b_25 (by omega)
      replace o7 := o7.below b_25 (by omega)
      replace p7 := p7.below b_25 (by omega)
      have z_26 := b_25.size
      replace hB := hB.trans (b_25.mono (by omega))
      clear b_25
      generalize w23.alloc _ = w25 at *
      generalize w23.heap.size = g25 at *
      refine (vQueue_same _ _ _ _ _ _ w25 o6.rd p6.rd o7.rd p7.rd (by omega) (by omega) (by omega) (by omega)).mono ?_; rintro q_ w27 ⟨rfl, b_27⟩
      replace bq5 := bq5.below b_27 bq5.lt
      replace bq6 := bq6.below b_27 bq6.lt
      replace bq7 := bq7.below b_27 bq7.lt
      replace h := h.below b_27 (by omega)
      replace o5 := o5.below b_27 (by omega)
      replace p5 := p5.below b_27 (by omega)
      replace o6 := o6.below b_27 (by omega)
      replace p6 := p6.below b_27 (by omega)
      replace o7 := o7.below b_27 (by omega)
      replace p7 := p7.below b_27 (by omega)
      have z_28 := b_27.size
      replace hB := hB.trans (b_27.mono (by omega))
      clear b_27
      have bq5_0 := bq5.cell (j := 0) rfl
      have bq5_1 := bq5.cell (j := 1) rfl
      have bq5_z := bq5.frozen
      have bq5_l := bq5.lt
      have bq6_0 := bq6.cell (j := 0) rfl
      have bq6_1 := bq6.cell (j := 1) rfl
      have bq6_z := bq6.frozen
      have bq6_l := bq6.lt
      have bq7_0 := bq7.cell (j := 0) rfl
      have bq7_1 := bq7.cell (j := 1) rfl
      have bq7_z := bq7.frozen
      have bq7_l := bq7.lt
      go_wp2_with fail
      clear bq5_0 bq5_1 bq5_z bq5_l bq6_0 bq6_1 bq6_z bq6_l bq7_0 bq7_1 bq7_z bq7_l
      have c1 := implIsQueue_any _ _ _ _ w27 o6.rd p6.rd (by omega) (by omega)
      rw [G1.out] at c1
      refine (c1).mono ?_; rintro q_ w29 ⟨rfl, b_29⟩
      replace bq5 := bq5.below b_29 bq5.lt
      replace bq6 := bq6.below b_29 bq6.lt
      replace bq7 := bq7.below b_29 bq7.lt
      replace h := h.below b_29 (by omega)
      replace o5 := o5.below b_29 (by omega)
      replace p5 := p5.below b_29 (by omega)
      replace o6 := o6.below b_29 (by omega)
      replace p6 := p6.below b_29 (by omega)
      replace o7 := o7.below b_29 (by omega)
      replace p7 := p7.below b_29 (by omega)
      have z_30 := b_29.size
      replace hB := hB.trans (b_29.mono (by omega))
      clear b_29
      clear c1 G1
      have bq5_0 := bq5.cell (j := 0) rfl
      have bq5_1 := bq5.cell (j := 1) rfl
      have bq5_z := bq5.frozen
      have bq5_l := bq5.lt
      have bq6_0 := bq6.cell (j := 0) rfl
      have bq6_1 := bq6.cell (j := 1) rfl
      have bq6_z := bq6.frozen
      have bq6_l := bq6.lt
      have bq7_0 := bq7.cell (j := 0) rfl
      have bq7_1 := bq7.cell (j := 1) rfl
      have bq7_z := bq7.frozen
      have bq7_l := bq7.lt
      go_wp2_with fail
      clear bq5_0 bq5_1 bq5_z bq5_l bq6_0 bq6_1 bq6_z bq6_l bq7_0 bq7_1 bq7_z bq7_l
      clear bq5 bq6 bq7 o5 p5 o6 p6 o7 p7
      refine (DrawWithdrawIrq_any cv l w29 h (by omega)).mono ?_; rintro q_ w31 ⟨v8, u8, l8, m8, x8, rfl, hl8, hm8, o8, p8, b_31⟩
      replace h := h.below b_31 (by omega)
      have z_32 := b_31.size
      replace hB := hB.trans (b_31.mono (by omega))
      clear b_31
      obtain ⟨A8, k8, c8, rfl, _, _, _⟩ := o8.rd.form
      obtain ⟨B8, j8, e8, rfl, _, _, _⟩ := p8.rd.form
      go_wp2_with fail
      have b_33 := (Below.refl w31.heap.size w31).alloc (Nat.le_refl _) (.cells #[.slice A8 k8 c8, .slice B8 j8 e8] 27)
      have bq8 := Box.new w31 #[.slice A8 k8 c8, .slice B8 j8 e8] 27 rfl
      replace h := h.below b_33 (by omega)
      replace o8 := o8.below b_33 (by omega)
      replace p8 := p8.below b_33 (by omega)
      have z_34 := b_33.size
      replace hB := hB.trans (b_33.mono (by omega))
      clear b_33
      generalize w31.alloc _ = w33 at *
      generalize w31.heap.size = g33 at *
      cases hk : Qu.wiOk l8 m8 x8
      · have c1 := implWithdrawIrq_any _ _ l8 m8 x8 w33 o8.rd p8.rd (by omega) (by omega)
        rw [hk] at c1
        refine (c1).mono ?_; rintro q_ w35 ⟨v9, u9, rfl, o9, p9, b_35⟩
        replace bq8 := bq8.below b_35 bq8.lt
        replace h := h.below b_35 (by omega)
        replace o8 := o8.below b_35 (by omega)
        replace p8 := p8.below b_35 (by omega)
        have z_36 := b_35.size
        replace hB := hB.trans (b_35.mono (by omega))
        clear b_35
        obtain ⟨A9, k9, c9, rfl, _, _, _⟩ := o9.rd.form
        obtain ⟨B9, j9, e9, rfl, _, _, _⟩ := p9.rd.form
        clear c1
        have bq8_0 := bq8.cell (j := 0) rfl
        have bq8_1 := bq8.cell (j := 1) rfl
        have bq8_z := bq8.frozen
        have bq8_l := bq8.lt
        go_wp2_with fail
        clear bq8_0 bq8_1 bq8_z bq8_l
        have b_37 := (Below.refl w35.heap.size w35).alloc (Nat.le_refl _) (.cells #[.slice A9 k9 c9, .slice B9 j9 e9] 27)
        have bq9 := Box.new w35 #[.slice A9 k9 c9, .slice B9 j9 e9] 27 rfl
        replace bq8 := bq8.below b_37 bq8.lt
        replace h := h.below b_37 (by omega)
        replace o8 := o8.below b_37 (by omega)
        replace p8 := p8.below b_37 (by omega)
        replace o9 := o9.below b_37 (by omega)
        replace p9 := p9.below b_37 (by omega)
        have z_38 := b_37.size
        replace hB := hB.trans (b_37.mono (by omega))
        clear b_37
        generalize w35.alloc _ = w37 at *
        generalize w35.heap.size = g37 at *
        have c1 := specWithdrawIrq_any _ _ l8 m8 x8 w37 o8.rd p8.rd (by omega) (by omega)
        rw [hk] at c1
        refine (c1).mono ?_; rintro q_ w39 ⟨v10, u10, rfl, o10, p10, b_39⟩
        replace bq8 := bq8.below b_39 bq8.lt
        replace bq9 := bq9.below b_39 bq9.lt
        replace h := h.below b_39 (by omega)
        replace o8 := o8.below b_39 (by omega)
        replace p8 := p8.below b_39 (by omega)
        replace o9 := o9.below b_39 (by omega)
        replace p9 := p9.below b_39 (by omega)
        have z_40 := b_39.size
        replace hB := hB.trans (b_39.mono (by omega))
        clear b_39
        obtain ⟨A10, k10, c10, rfl, _, _, _⟩ := o10.rd.form
        obtain ⟨B10, j10, e10, rfl, _, _, _⟩ := p10.rd.form
        clear c1
        have bq8_0 := bq8.cell (j := 0) rfl
        have bq8_1 := bq8.cell (j := 1) rfl
        have bq8_z := bq8.frozen
        have bq8_l := bq8.lt
        have bq9_0 := bq9.cell (j := 0) rfl
        have bq9_1 := bq9.cell (j := 1) rfl
        have bq9_z := bq9.frozen
        have bq9_l := bq9.lt
        go_wp2_with fail
        clear bq8_0 bq8_1 bq8_z bq8_l bq9_0 bq9_1 bq9_z bq9_l
        have b_41 := (Below.refl w39.heap.size w39).alloc (Nat.le_refl _) (.cells #[.slice A10 k10 c10, .slice B10 j10 e10] 27)
        have bq10 := Box.new w39 #[.slice A10 k10 c10, .slice B10 j10 e10] 27 rfl
        replace bq8 := bq8.below b_41 bq8.lt
        replace bq9 := bq9.below b_41 bq9.lt
        replace h := h.below b_41 (by omega)
        replace o8 := o8.below b_41 (by omega)
        replace p8 := p8.below b_41 (by omega)
        replace o9 := o9.below b_41 (by omega)
        replace p9 := p9.below b_41 (by omega)
        replace o10 := o10.below b_41 (by omega)
        replace p10 := p10.below b_41 (by omega)
        have z_42 := b_41.size
        replace hB := hB.trans (b_41.mono (by omega))
        clear b_41
        generalize w39.alloc _ = w41 at *
        generalize w39.heap.size = g41 at *
        refine (vQueue_same _ _ _ _ _ _ w41 o9.rd p9.rd o10.rd p10.rd (by omega) (by omega) (by omega) (by omega)).mono ?_; rintro q_ w43 ⟨rfl, b_43⟩
        replace bq8 := bq8.below b_43 bq8.lt
        replace bq9 := bq9.below b_43 bq9.lt
        replace bq10 := bq10.below b_43 bq10.lt
        replace h := h.below b_43 (by omega)
        replace o8 := o8.below b_43 (by omega)
        replace p8 := p8.below b_43 (by omega)
        replace o9 := o9.below b_43 (by omega)
        replace p9 := p9.below b_43 (by omega)
        replace o10 := o10.below b_43 (by omega)
        replace p10 := p10.below b_43 (by omega)
        have z_44 := b_43.size
        replace hB := hB.trans (b_43.mono (by omega))
        clear b_43
        clear bq10 o10 p10
        cases hq : Qu.good l8 m8
        · have bq8_0 := bq8.cell (j := 0) rfl
          have bq8_1 := bq8.cell (j := 1) rfl
          have bq8_z := bq8.frozen
          have bq8_l := bq8.lt
          have bq9_0 := bq9.cell (j := 0) rfl
          have bq9_1 := bq9.cell (j := 1) rfl
          have bq9_z := bq9.frozen
          have bq9_l := bq9.lt
          go_wp2_with fail
          clear bq8_0 bq8_1 bq8_z bq8_l bq9_0 bq9_1 bq9_z bq9_l
          have c1 := implPendingIrqs_any _ _ l8 m8 w43 o8.rd p8.rd (by omega) (by omega)
          rw [hq] at c1
          refine (c1).mono ?_; rintro q_ w45 ⟨vP, rfl, oP, b_45⟩
          replace bq8 := bq8.below b_45 bq8.lt
          replace bq9 := bq9.below b_45 bq9.lt
          replace h := h.below b_45 (by omega)
          replace o8 := o8.below b_45 (by omega)
          replace p8 := p8.below b_45 (by omega)
          replace o9 := o9.below b_45 (by omega)
          replace p9 := p9.below b_45 (by omega)
          have z_46 := b_45.size
          replace hB := hB.trans (b_45.mono (by omega))
          clear b_45
          clear c1
          clear hq hk
          have bq8_0 := bq8.cell (j := 0) rfl
          have bq8_1 := bq8.cell (j := 1) rfl
          have bq8_z := bq8.frozen
          have bq8_l := bq8.lt
          have bq9_0 := bq9.cell (j := 0) rfl
          have bq9_1 := bq9.cell (j := 1) rfl
          have bq9_z := bq9.frozen
          have bq9_l := bq9.lt
          go_wp2_with fail
          clear bq8_0 bq8_1 bq8_z bq8_l bq9_0 bq9_1 bq9_z bq9_l
          go_ret
          exact ⟨rfl, hB⟩
        · have G1 := Lib.hid hq
          by_cases hx0 : 0 ≤ x8
          rotate_left
          · have hx0b : decide (0 ≤ x8) = false := decide_eq_false hx0
            have bq8_0 := bq8.cell (j := 0) rfl
            have bq8_1 := bq8.cell (j := 1) rfl
            have bq8_z := bq8.frozen
            have bq8_l := bq8.lt
            have bq9_0 := bq9.cell (j := 0) rfl
            have bq9_1 := bq9.cell (j := 1) rfl
            have bq9_z := bq9.frozen
            have bq9_l := bq9.lt
            go_wp2_with fail
            clear bq8_0 bq8_1 bq8_z bq8_l bq9_0 bq9_1 bq9_z bq9_l
            have c1 := implPendingIrqs_any _ _ l8 m8 w43 o8.rd p8.rd (by omega) (by omega)
            rw [G1.out, Qu.pe_irqs G1.out] at c1
            refine (c1).mono ?_; rintro q_ w45 ⟨vP, rfl, oP, b_45⟩
            replace bq8 := bq8.below b_45 bq8.lt
            replace bq9 := bq9.below b_45 bq9.lt
            replace h := h.below b_45 (by omega)
            replace o8 := o8.below b_45 (by omega)
            replace p8 := p8.below b_45 (by omega)
            replace o9 := o9.below b_45 (by omega)
            replace p9 := p9.below b_45 (by omega)
            have z_46 := b_45.size
            replace hB := hB.trans (b_45.mono (by omega))
            clear b_45
            clear c1
            clear hq hk
            have bq8_0 := bq8.cell (j := 0) rfl
            have bq8_1 := bq8.cell (j := 1) rfl
            have bq8_z := bq8.frozen
            have bq8_l := bq8.lt
            have bq9_0 := bq9.cell (j := 0) rfl
            have bq9_1 := bq9.cell (j := 1) rfl
            have bq9_z := bq9.frozen
            have bq9_l := bq9.lt
            go_wp2_with fail
            clear bq8_0 bq8_1 bq8_z bq8_l bq9_0 bq9_1 bq9_z bq9_l
            go_ret
            exact ⟨rfl, hB⟩
          by_cases hx7 : x8 < 8
          rotate_left
          · have hx0b : decide (0 ≤ x8) = true := decide_eq_true hx0
            have hx7b : decide (x8 < 8) = false := decide_eq_false hx7
            have bq8_0 := bq8.cell (j := 0) rfl
            have bq8_1 := bq8.cell (j := 1) rfl
            have bq8_z := bq8.frozen
            have bq8_l := bq8.lt
            have bq9_0 := bq9.cell (j := 0) rfl
            have bq9_1 := bq9.cell (j := 1) rfl
            have bq9_z := bq9.frozen
            have bq9_l := bq9.lt
            go_wp2_with fail
            clear bq8_0 bq8_1 bq8_z bq8_l bq9_0 bq9_1 bq9_z bq9_l
            have c1 := implPendingIrqs_any _ _ l8 m8 w43 o8.rd p8.rd (by omega) (by omega)
            rw [G1.out, Qu.pe_irqs G1.out] at c1
            refine (c1).mono ?_; rintro q_ w45 ⟨vP, rfl, oP, b_45⟩
            replace bq8 := bq8.below b_45 bq8.lt
            replace bq9 := bq9.below b_45 bq9.lt
            replace h := h.below b_45 (by omega)
            replace o8 := o8.below b_45 (by omega)
            replace p8 := p8.below b_45 (by omega)
            replace o9 := o9.below b_45 (by omega)
            replace p9 := p9.below b_45 (by omega)
            have z_46 := b_45.size
            replace hB := hB.trans (b_45.mono (by omega))
            clear b_45
            clear c1
            clear hq hk
            have bq8_0 := bq8.cell (j := 0) rfl
            have bq8_1 := bq8.cell (j := 1) rfl
            have bq8_z := bq8.frozen
            have bq8_l := bq8.lt
            have bq9_0 := bq9.cell (j := 0) rfl
            have bq9_1 := bq9.cell (j := 1) rfl
            have bq9_z := bq9.frozen
            have bq9_l := bq9.lt
            go_wp2_with fail
            clear bq8_0 bq8_1 bq8_z bq8_l bq9_0 bq9_1 bq9_z bq9_l
            go_ret
            exact ⟨rfl, hB⟩
          · have hx0b : decide (0 ≤ x8) = true := decide_eq_true hx0
            have hx7b : decide (x8 < 8) = true := decide_eq_true hx7
            have G5 := Lib.hid (Qu.wi_not hk hq (by omega))
            have bq8_0 := bq8.cell (j := 0) rfl
            have bq8_1 := bq8.cell (j := 1) rfl
            have bq8_z := bq8.frozen
            have bq8_l := bq8.lt
            have bq9_0 := bq9.cell (j := 0) rfl
            have bq9_1 := bq9.cell (j := 1) rfl
            have bq9_z := bq9.frozen
            have bq9_l := bq9.lt
            go_wp2_with fail
            clear bq8_0 bq8_1 bq8_z bq8_l bq9_0 bq9_1 bq9_z bq9_l
            have c1 := implPendingIrqs_any _ _ l8 m8 w43 o8.rd p8.rd (by omega) (by omega)
            rw [G1.out, Qu.pe_irqs G1.out] at c1
            refine (c1).mono ?_; rintro q_ w45 ⟨vP, rfl, oP, b_45⟩
            replace bq8 := bq8.below b_45 bq8.lt
            replace bq9 := bq9.below b_45 bq9.lt
            replace h := h.below b_45 (by omega)
            replace o8 := o8.below b_45 (by omega)
            replace p8 := p8.below b_45 (by omega)
            replace o9 := o9.below b_45 (by omega)
            replace p9 := p9.below b_45 (by omega)
            have z_46 := b_45.size
            replace hB := hB.trans (b_45.mono (by omega))
            clear b_45
            clear c1
            clear hq hk
            have bq8_0 := bq8.cell (j := 0) rfl
            have bq8_1 := bq8.cell (j := 1) rfl
            have bq8_z := bq8.frozen
            have bq8_l := bq8.lt
            have bq9_0 := bq9.cell (j := 0) rfl
            have bq9_1 := bq9.cell (j := 1) rfl
            have bq9_z := bq9.frozen
            have bq9_l := bq9.lt
            go_wp2_with fail
            clear bq8_0 bq8_1 bq8_z bq8_l bq9_0 bq9_1 bq9_z bq9_l
            have c1 := vHas_any _ _ x8 w45 oP.rd (by omega)
            rw [G5.out] at c1
            refine (c1).mono ?_; rintro q_ w_ ⟨rfl, rfl⟩
            clear c1
            have bq8_0 := bq8.cell (j := 0) rfl
            have bq8_1 := bq8.cell (j := 1) rfl
            have bq8_z := bq8.frozen
            have bq8_l := bq8.lt
            have bq9_0 := bq9.cell (j := 0) rfl
            have bq9_1 := bq9.cell (j := 1) rfl
            have bq9_z := bq9.frozen
            have bq9_l := bq9.lt
            go_wp2_with fail
            clear bq8_0 bq8_1 bq8_z bq8_l bq9_0 bq9_1 bq9_z bq9_l
            go_ret
            exact ⟨rfl, hB⟩
      · obtain ⟨hq, hir, hh0, eS, eW, hgP, hlen, hno⟩ := Qu.wi_all hk
        have G1 := Lib.hid hq
        have G2 := Lib.hid hgP
        have G3 := Lib.hid hlen
        have G4 := Lib.hid hno
        have G5 := Lib.hid hh0
        have hx0 : decide (0 ≤ x8) = true := decide_eq_true hir.1
        have hx7 : decide (x8 < 8) = true := decide_eq_true (by omega)
        clear hq hgP hlen hno hh0 hir
        have c1 := implWithdrawIrq_any _ _ l8 m8 x8 w33 o8.rd p8.rd (by omega) (by omega)
        rw [hk, eS, eW] at c1
        refine (c1).mono ?_; rintro q_ w35 ⟨v9, u9, rfl, o9, p9, b_35⟩
        replace bq8 := bq8.below b_35 bq8.lt
        replace h := h.below b_35 (by omega)
        replace o8 := o8.below b_35 (by omega)
        replace p8 := p8.below b_35 (by omega)
        have z_36 := b_35.size
        replace hB := hB.trans (b_35.mono (by omega))
        clear b_35
        obtain ⟨A9, k9, c9, rfl, _, _, _⟩ := o9.rd.form
        obtain ⟨B9, j9, e9, rfl, _, _, _⟩ := p9.rd.form
        clear c1
        have bq8_0 := bq8.cell (j := 0) rfl
        have bq8_1 := bq8.cell (j := 1) rfl
        have bq8_z := bq8.frozen
        have bq8_l := bq8.lt
        go_wp2_with fail
        clear bq8_0 bq8_1 bq8_z bq8_l
        have b_37 := (Below.refl w35.heap.size w35).alloc (Nat.le_refl _) (.cells #[.slice A9 k9 c9, .slice B9 j9 e9] 27)
        have bq9 := Box.new w35 #[.slice A9 k9 c9, .slice B9 j9 e9] 27 rfl
        replace bq8 := bq8.below b_37 bq8.lt
        replace h := h.below b_37 (by omega)
        replace o8 := o8.below b_37 (by omega)
        replace p8 := p8.below b_37 (by omega)
        replace o9 := o9.below b_37 (by omega)
        replace p9 := p9.below b_37 (by omega)
        have z_38 := b_37.size
        replace hB := hB.trans (b_37.mono (by omega))
        clear b_37
        generalize w35.alloc _ = w37 at *
        generalize w35.heap.size = g37 at *
        have c1 := specWithdrawIrq_any _ _ l8 m8 x8 w37 o8.rd p8.rd (by omega) (by omega)
        rw [hk, eS, eW] at c1
        refine (c1).mono ?_; rintro q_ w39 ⟨v10, u10, rfl, o10, p10, b_39⟩
        replace bq8 := bq8.below b_39 bq8.lt
        replace bq9 := bq9.below b_39 bq9.lt
        replace h := h.below b_39 (by omega)
        replace o8 := o8.below b_39 (by omega)
        replace p8 := p8.below b_39 (by omega)
        replace o9 := o9.below b_39 (by omega)
        replace p9 := p9.below b_39 (by omega)
        have z_40 := b_39.size
        replace hB := hB.trans (b_39.mono (by omega))
        clear b_39
        obtain ⟨A10, k10, c10, rfl, _, _, _⟩ := o10.rd.form
        obtain ⟨B10, j10, e10, rfl, _, _, _⟩ := p10.rd.form
        clear c1 eS eW hk
        have bq8_0 := bq8.cell (j := 0) rfl
        have bq8_1 := bq8.cell (j := 1) rfl
        have bq8_z := bq8.frozen
        have bq8_l := bq8.lt
        have bq9_0 := bq9.cell (j := 0) rfl
        have bq9_1 := bq9.cell (j := 1) rfl
        have bq9_z := bq9.frozen
        have bq9_l := bq9.lt
        go_wp2_with fail
        clear bq8_0 bq8_1 bq8_z bq8_l bq9_0 bq9_1 bq9_z bq9_l
        have b_41 := (Below.refl w39.heap.size w39).alloc (Nat.le_refl _) (.cells #[.slice A10 k10 c10, .slice B10 j10 e10] 27)
        have bq10 := Box.new w39 #[.slice A10 k10 c10, .slice B10 j10 e10] 27 rfl
        replace bq8 := bq8.below b_41 bq8.lt
        replace bq9 := bq9.below b_41 bq9.lt
        replace h := h.below b_41 (by omega)
        replace o8 := o8.below b_41 (by omega)
        replace p8 := p8.below b_41 (by omega)
        replace o9 := o9.below b_41 (by omega)
        replace p9 := p9.below b_41 (by omega)
        replace o10 := o10.below b_41 (by omega)
        replace p10 := p10.below b_41 (by omega)
        have z_42 := b_41.size
        replace hB := hB.trans (b_41.mono (by omega))
        clear b_41
        generalize w39.alloc _ = w41 at *
        generalize w39.heap.size = g41 at *
        refine (vQueue_same _ _ _ _ _ _ w41 o9.rd p9.rd o10.rd p10.rd (by omega) (by omega) (by omega) (by omega)).mono ?_; rintro q_ w43 ⟨rfl, b_43⟩
        replace bq8 := bq8.below b_43 bq8.lt
        replace bq9 := bq9.below b_43 bq9.lt
        replace bq10 := bq10.below b_43 bq10.lt
        replace h := h.below b_43 (by omega)
        replace o8 := o8.below b_43 (by omega)
        replace p8 := p8.below b_43 (by omega)
        replace o9 := o9.below b_43 (by omega)
        replace p9 := p9.below b_43 (by omega)
        replace o10 := o10.below b_43 (by omega)
        replace p10 := p10.below b_43 (by omega)
        have z_44 := b_43.size
        replace hB := hB.trans (b_43.mono (by omega))
        clear b_43
        clear bq10 o10 p10
        have bq8_0 := bq8.cell (j := 0) rfl
        have bq8_1 := bq8.cell (j := 1) rfl
        have bq8_z := bq8.frozen
        have bq8_l := bq8.lt
        have bq9_0 := bq9.cell (j := 0) rfl
        have bq9_1 := bq9.cell (j := 1) rfl
        have bq9_z := bq9.frozen
        have bq9_l := bq9.lt
        go_wp2_with fail
        clear bq8_0 bq8_1 bq8_z bq8_l bq9_0 bq9_1 bq9_z bq9_l
        have c1 := implPendingIrqs_any _ _ l8 m8 w43 o8.rd p8.rd (by omega) (by omega)
        rw [G1.out, Qu.pe_irqs G1.out] at c1
        refine (c1).mono ?_; rintro q_ w45 ⟨vP, rfl, oP, b_45⟩
        replace bq8 := bq8.below b_45 bq8.lt
        replace bq9 := bq9.below b_45 bq9.lt
        replace h := h.below b_45 (by omega)
        replace o8 := o8.below b_45 (by omega)
        replace p8 := p8.below b_45 (by omega)
        replace o9 := o9.below b_45 (by omega)
        replace p9 := p9.below b_45 (by omega)
        have z_46 := b_45.size
        replace hB := hB.trans (b_45.mono (by omega))
        clear b_45
        clear c1
        have bq8_0 := bq8.cell (j := 0) rfl
        have bq8_1 := bq8.cell (j := 1) rfl
        have bq8_z := bq8.frozen
        have bq8_l := bq8.lt
        have bq9_0 := bq9.cell (j := 0) rfl
        have bq9_1 := bq9.cell (j := 1) rfl
        have bq9_z := bq9.frozen
        have bq9_l := bq9.lt
        go_wp2_with fail
        clear bq8_0 bq8_1 bq8_z bq8_l bq9_0 bq9_1 bq9_z bq9_l
        have c1 := vHas_any _ _ x8 w45 oP.rd (by omega)
        rw [G5.out] at c1
        refine (c1).mono ?_; rintro q_ w_ ⟨rfl, rfl⟩
        clear c1
        have bq8_0 := bq8.cell (j := 0) rfl
        have bq8_1 := bq8.cell (j := 1) rfl
        have bq8_z := bq8.frozen
        have bq8_l := bq8.lt
        have bq9_0 := bq9.cell (j := 0) rfl
        have bq9_1 := bq9.cell (j := 1) rfl
        have bq9_z := bq9.frozen
        have bq9_l := bq9.lt
        go_wp2_with fail
        clear bq8_0 bq8_1 bq8_z bq8_l bq9_0 bq9_1 bq9_z bq9_l
        have c1 := implPendingIrqs_any _ _ _ _ w45 o9.rd p9.rd (by omega) (by omega)
        rw [G2.out, Qu.pe_irqs G2.out] at c1
        refine (c1).mono ?_; rintro q_ w47 ⟨vR, rfl, oR, b_47⟩
        replace bq8 := bq8.below b_47 bq8.lt
        replace bq9 := bq9.below b_47 bq9.lt
        replace h := h.below b_47 (by omega)
        replace o8 := o8.below b_47 (by omega)
        replace p8 := p8.below b_47 (by omega)
        replace o9 := o9.below b_47 (by omega)
        replace p9 := p9.below b_47 (by omega)
        replace oP := oP.below b_47 (by omega)
        have z_48 := b_47.size
        replace hB := hB.trans (b_47.mono (by omega))
        clear b_47
        clear c1
        obtain ⟨AP, nP, dP, rfl, HP, hcP, hmP⟩ := oP.rd.form
        obtain ⟨AR, nR, dR, rfl, HR, hcR, hmR⟩ := oR.rd.form
        obtain rfl : nP = nR + 1 := by rw [HP.out, HR.out]; exact G3.out.symm
        have hje : ((nR + 1 : Nat) : Int) - 1 = (nR : Int) := by omega
        have hjw : IntKind.i64.wrap (nR : Int) = (nR : Int) := IntWalk.i64_in _ (by omega)
        clear HP HR
        have bq8_0 := bq8.cell (j := 0) rfl
        have bq8_1 := bq8.cell (j := 1) rfl
        have bq8_z := bq8.frozen
        have bq8_l := bq8.lt
        have bq9_0 := bq9.cell (j := 0) rfl
        have bq9_1 := bq9.cell (j := 1) rfl
        have bq9_z := bq9.frozen
        have bq9_l := bq9.lt
        go_wp2_with fail
        clear bq8_0 bq8_1 bq8_z bq8_l bq9_0 bq9_1 bq9_z bq9_l
        have c1 := vHas_any _ _ x8 w47 oR.rd (by omega)
        rw [G4.out] at c1
        refine (c1).mono ?_; rintro q_ w_ ⟨rfl, rfl⟩
        clear c1
        have bq8_0 := bq8.cell (j := 0) rfl
        have bq8_1 := bq8.cell (j := 1) rfl
        have bq8_z := bq8.frozen
        have bq8_l := bq8.lt
        have bq9_0 := bq9.cell (j := 0) rfl
        have bq9_1 := bq9.cell (j := 1) rfl
        have bq9_z := bq9.frozen
        have bq9_l := bq9.lt
        go_wp2_with fail
        clear bq8_0 bq8_1 bq8_z bq8_l bq9_0 bq9_1 bq9_z bq9_l
        have c1 := implIsQueue_any _ _ _ _ w47 o9.rd p9.rd (by omega) (by omega)
        rw [G2.out] at c1
        refine (c1).mono ?_; rintro q_ w49 ⟨rfl, b_49⟩
        replace bq8 := bq8.below b_49 bq8.lt
        replace bq9 := bq9.below b_49 bq9.lt
        replace h := h.below b_49 (by omega)
        replace o8 := o8.below b_49 (by omega)
        replace p8 := p8.below b_49 (by omega)
        replace o9 := o9.below b_49 (by omega)
        replace p9 := p9.below b_49 (by omega)
        replace oP := oP.below b_49 (by omega)
        replace oR := oR.below b_49 (by omega)
        have z_50 := b_49.size
        replace hB := hB.trans (b_49.mono (by omega))
        clear b_49
        have bq8_0 := bq8.cell (j := 0) rfl
        have bq8_1 := bq8.cell (j := 1) rfl
        have bq8_z := bq8.frozen
        have bq8_l := bq8.lt
        have bq9_0 := bq9.cell (j := 0) rfl
        have bq9_1 := bq9.cell (j := 1) rfl
        have bq9_z := bq9.frozen
        have bq9_l := bq9.lt
        go_wp2_with fail
        clear bq8_0 bq8_1 bq8_z bq8_l bq9_0 bq9_1 bq9_z bq9_l
        go_ret
        exact ⟨rfl, hB⟩
  · obtain ⟨hq, eS, eW, eV, hg2, hlen, hno, hen, hirq⟩ := Qu.tt_all hk
    obtain ⟨fS, fW, hgE⟩ := Qu.en_true hen
    have G1 := Lib.hid hq
    have G2 := Lib.hid hg2
    have G3 := Lib.hid hlen
    have G4 := Lib.hid hno
    have G5 := Lib.hid hen
    have G6 := Lib.hid hirq
    have G7 := Lib.hid hgE
    have G8 := Lib.hid fS
    have G9 := Lib.hid fW
    clear hq hg2 hlen hno hen hirq hgE fS fW
    have c1 := implTakeQueue_any _ _ l1 m1 x1 w3 o1.rd p1.rd (by omega) (by omega) hm1
    rw [hk, eS, eW, eV] at c1
    refine (c1).mono ?_; rintro q_ w5 ⟨v2, u2, rfl, o2, p2, b_5⟩
    replace bq1 := bq1.below b_5 bq1.lt
    replace h := h.below b_5 (by omega)
    replace o1 := o1.below b_5 (by omega)
    replace p1 := p1.below b_5 (by omega)
    have z_6 := b_5.size
    replace hB := hB.trans (b_5.mono (by omega))
    clear b_5
    obtain ⟨A2, k2, c2, rfl, _, _, _⟩ := o2.rd.form
    obtain ⟨B2, j2, e2, rfl, _, _, _⟩ := p2.rd.form
    clear c1
    have bq1_0 := bq1.cell (j := 0) rfl
    have bq1_1 := bq1.cell (j := 1) rfl
    have bq1_z := bq1.frozen
    have bq1_l := bq1.lt
    go_wp2_with fail
    clear bq1_0 bq1_1 bq1_z bq1_l
    have b_7 := (Below.refl w5.heap.size w5).alloc (Nat.le_refl _) (.cells #[.slice A2 k2 c2, .slice B2 j2 e2] 27)
    have bq2 := Box.new w5 #[.slice A2 k2 c2, .slice B2 j2 e2] 27 rfl
    replace bq1 := bq1.below b_7 bq1.lt
    replace h := h.below b_7 (by omega)
    replace o1 := o1.below b_7 (by omega)
    replace p1 := p1.below b_7 (by omega)
    replace o2 := o2.below b_7 (by omega)
    replace p2 := p2.below b_7 (by omega)
    have z_8 := b_7.size
    replace hB := hB.trans (b_7.mono (by omega))
    clear b_7
    generalize w5.alloc _ = w7 at *
    generalize w5.heap.size = g7 at *
    have c1 := specTakeQueue_any _ _ l1 m1 x1 w7 o1.rd p1.rd (by omega) (by omega) hm1
    rw [hk, eS, eW, eV] at c1
    refine (c1).mono ?_; rintro q_ w9 ⟨v3, u3, rfl, o3, p3, b_9⟩
    replace bq1 := bq1.below b_9 bq1.lt
    replace bq2 := bq2.below b_9 bq2.lt
    replace h := h.below b_9 (by omega)
    replace o1 := o1.below b_9 (by omega)
    replace p1 := p1.below b_9 (by omega)
    replace o2 := o2.below b_9 (by omega)
    replace p2 := p2.below b_9 (by omega)
    have z_10 := b_9.size
    replace hB := hB.trans (b_9.mono (by omega))
    clear b_9
    obtain ⟨A3, k3, c3, rfl, _, _, _⟩ := o3.rd.form
    obtain ⟨B3, j3, e3, rfl, _, _, _⟩ := p3.rd.form
    clear c1 hk eS eW eV
    have bq1_0 := bq1.cell (j := 0) rfl
    have bq1_1 := bq1.cell (j := 1) rfl
    have bq1_z := bq1.frozen
    have bq1_l := bq1.lt
    have bq2_0 := bq2.cell (j := 0) rfl
    have bq2_1 := bq2.cell (j := 1) rfl
    have bq2_z := bq2.frozen
    have bq2_l := bq2.lt
    go_wp2_with fail
    clear bq1_0 bq1_1 bq1_z bq1_l bq2_0 bq2_1 bq2_z bq2_l
    have b_11 := (Below.refl w9.heap.size w9).alloc (Nat.le_refl _) (.cells #[.slice A3 k3 c3, .slice B3 j3 e3] 27)
    have bq3 := Box.new w9 #[.slice A3 k3 c3, .slice B3 j3 e3] 27 rfl
    replace bq1 := bq1.below b_11 bq1.lt
    replace bq2 := bq2.below b_11 bq2.lt
    replace h := h.below b_11 (by omega)
    replace o1 := o1.below b_11 (by omega)
    replace p1 := p1.below b_11 (by omega)
    replace o2 := o2.below b_11 (by omega)
    replace p2 := p2.below b_11 (by omega)
    replace o3 := o3.below b_11 (by omega)
    replace p3 := p3.below b_11 (by omega)
    have z_12 := b_11.size
    replace hB := hB.trans (b_11.mono (by omega))
    clear b_11
    generalize w9.alloc _ = w11 at *
    generalize w9.heap.size = g11 at *
    refine (vQueue_same _ _ _ _ _ _ w11 o2.rd p2.rd o3.rd p3.rd (by omega) (by omega) (by omega) (by omega)).mono ?_; rintro q_ w13 ⟨rfl, b_13⟩
    replace bq1 := bq1.below b_13 bq1.lt
    replace bq2 := bq2.below b_13 bq2.lt
    replace bq3 := bq3.below b_13 bq3.lt
    replace h := h.below b_13 (by omega)
    replace o1 := o1.below b_13 (by omega)
    replace p1 := p1.below b_13 (by omega)
    replace o2 := o2.below b_13 (by omega)
    replace p2 := p2.below b_13 (by omega)
    replace o3 := o3.below b_13 (by omega)
    replace p3 := p3.below b_13 (by omega)
    have z_14 := b_13.size
    replace hB := hB.trans (b_13.mono (by omega))
    clear b_13
    clear bq3 o3 p3
    have bq1_0 := bq1.cell (j := 0) rfl
    have bq1_1 := bq1.cell (j := 1) rfl
    have bq1_z := bq1.frozen
    have bq1_l := bq1.lt
    have bq2_0 := bq2.cell (j := 0) rfl
    have bq2_1 := bq2.cell (j := 1) rfl
    have bq2_z := bq2.frozen
    have bq2_l := bq2.lt
    go_wp2_with fail
    clear bq1_0 bq1_1 bq1_z bq1_l bq2_0 bq2_1 bq2_z bq2_l
    have c1 := implPendingIrqs_any _ _ l1 m1 w13 o1.rd p1.rd (by omega) (by omega)
    rw [G1.out, Qu.pe_irqs G1.out] at c1
    refine (c1).mono ?_; rintro q_ w15 ⟨vP, rfl, oP, b_15⟩
    replace bq1 := bq1.below b_15 bq1.lt
    replace bq2 := bq2.below b_15 bq2.lt
    replace h := h.below b_15 (by omega)
    replace o1 := o1.below b_15 (by omega)
    replace p1 := p1.below b_15 (by omega)
    replace o2 := o2.below b_15 (by omega)
    replace p2 := p2.below b_15 (by omega)
    have z_16 := b_15.size
    replace hB := hB.trans (b_15.mono (by omega))
    clear b_15
    clear c1
    have bq1_0 := bq1.cell (j := 0) rfl
    have bq1_1 := bq1.cell (j := 1) rfl
    have bq1_z := bq1.frozen
    have bq1_l := bq1.lt
    have bq2_0 := bq2.cell (j := 0) rfl
    have bq2_1 := bq2.cell (j := 1) rfl
    have bq2_z := bq2.frozen
    have bq2_l := bq2.lt
    go_wp2_with fail
    clear bq1_0 bq1_1 bq1_z bq1_l bq2_0 bq2_1 bq2_z bq2_l
    have c1 := implPendingIrqs_any _ _ _ _ w15 o2.rd p2.rd (by omega) (by omega)
    rw [G2.out, Qu.pe_irqs G2.out] at c1
    refine (c1).mono ?_; rintro q_ w17 ⟨vR, rfl, oR, b_17⟩
    replace bq1 := bq1.below b_17 bq1.lt
    replace bq2 := bq2.below b_17 bq2.lt
    replace h := h.below b_17 (by omega)
    replace o1 := o1.below b_17 (by omega)
    replace p1 := p1.below b_17 (by omega)
    replace o2 := o2.below b_17 (by omega)
    replace p2 := p2.below b_17 (by omega)
    replace oP := oP.below b_17 (by omega)
    have z_18 := b_17.size
    replace hB := hB.trans (b_17.mono (by omega))
    clear b_17
    clear c1
    have bq1_0 := bq1.cell (j := 0) rfl
    have bq1_1 := bq1.cell (j := 1) rfl
    have bq1_z := bq1.frozen
    have bq1_l := bq1.lt
    have bq2_0 := bq2.cell (j := 0) rfl
    have bq2_1 := bq2.cell (j := 1) rfl
    have bq2_z := bq2.frozen
    have bq2_l := bq2.lt
    go_wp2_with fail
    clear bq1_0 bq1_1 bq1_z bq1_l bq2_0 bq2_1 bq2_z bq2_l
    have c1 := implEndQueue_any _ _ _ _ (Sl.tkI l1) w17 o2.rd p2.rd (by omega) (by omega)
    rw [G5.out, G8.out, G9.out] at c1
    refine (c1).mono ?_; rintro q_ w19 ⟨v4, u4, rfl, o4, p4, b_19⟩
    replace bq1 := bq1.below b_19 bq1.lt
    replace bq2 := bq2.below b_19 bq2.lt
    replace h := h.below b_19 (by omega)
    replace o1 := o1.below b_19 (by omega)
    replace p1 := p1.below b_19 (by omega)
    replace o2 := o2.below b_19 (by omega)
    replace p2 := p2.below b_19 (by omega)
    replace oP := oP.below b_19 (by omega)
    replace oR := oR.below b_19 (by omega)
    have z_20 := b_19.size
    replace hB := hB.trans (b_19.mono (by omega))
    clear b_19
    obtain ⟨A4, k4, c4, rfl, _, _, _⟩ := o4.rd.form
    obtain ⟨B4, j4, e4, rfl, _, _, _⟩ := p4.rd.form
    clear c1
    have bq1_0 := bq1.cell (j := 0) rfl
    have bq1_1 := bq1.cell (j := 1) rfl
    have bq1_z := bq1.frozen
    have bq1_l := bq1.lt
    have bq2_0 := bq2.cell (j := 0) rfl
    have bq2_1 := bq2.cell (j := 1) rfl
    have bq2_z := bq2.frozen
    have bq2_l := bq2.lt
    go_wp2_with fail
    clear bq1_0 bq1_1 bq1_z bq1_l bq2_0 bq2_1 bq2_z bq2_l
    have b_21 := (Below.refl w19.heap.size w19).alloc (Nat.le_refl _) (.cells #[.slice A4 k4 c4, .slice B4 j4 e4] 27)
    have bq4 := Box.new w19 #[.slice A4 k4 c4, .slice B4 j4 e4] 27 rfl
    replace bq1 := bq1.below b_21 bq1.lt
    replace bq2 := bq2.below b_21 bq2.lt
    replace h := h.below b_21 (by omega)
    replace o1 := o1.below b_21 (by omega)
    replace p1 := p1.below b_21 (by omega)
    replace o2 := o2.below b_21 (by omega)
    replace p2 := p2.below b_21 (by omega)
    replace oP := oP.below b_21 (by omega)
    replace oR := oR.below b_21 (by omega)
    replace o4 := o4.below b_21 (by omega)
    replace p4 := p4.below b_21 (by omega)
    have z_22 := b_21.size
    replace hB := hB.trans (b_21.mono (by omega))
    clear b_21
    generalize w19.alloc _ = w21 at *
    generalize w19.heap.size = g21 at *
    have c1 := implPendingIrqs_any _ _ _ _ w21 o4.rd p4.rd (by omega) (by omega)
    rw [G7.out, Qu.pe_irqs G7.out, G6.out] at c1
    refine (c1).mono ?_; rintro q_ w23 ⟨vL, rfl, oL, b_23⟩
    replace bq1 := bq1.below b_23 bq1.lt
    replace bq2 := bq2.below b_23 bq2.lt
    replace bq4 := bq4.below b_23 bq4.lt
    replace h := h.below b_23 (by omega)
    replace o1 := o1.below b_23 (by omega)
    replace p1 := p1.below b_23 (by omega)
    replace o2 := o2.below b_23 (by omega)
    replace p2 := p2.below b_23 (by omega)
    replace oP := oP.below b_23 (by omega)
    replace oR := oR.below b_23 (by omega)
    replace o4 := o4.below b_23 (by omega)
    replace p4 := p4.below b_23 (by omega)
    have z_24 := b_23.size
    replace hB := hB.trans (b_23.mono (by omega))
    clear b_23
    clear c1
    obtain ⟨AP, nP, dP, rfl, HP, hcP, hmP⟩ := oP.rd.form
    obtain ⟨AR, nR, dR, rfl, HR, hcR, hmR⟩ := oR.rd.form
    obtain rfl : nP = nR + 1 := by rw [HP.out, HR.out]; exact G3.out.symm
    have hje : ((nR + 1 : Nat) : Int) - 1 = (nR : Int) := by omega
    have hjw : IntKind.i64.wrap (nR : Int) = (nR : Int) := IntWalk.i64_in _ (by omega)
    clear HP HR
    have bq1_0 := bq1.cell (j := 0) rfl
    have bq1_1 := bq1.cell (j := 1) rfl
    have bq1_z := bq1.frozen
    have bq1_l := bq1.lt
    have bq2_0 := bq2.cell (j := 0) rfl
    have bq2_1 := bq2.cell (j := 1) rfl
    have bq2_z := bq2.frozen
    have bq2_l := bq2.lt
    have bq4_0 := bq4.cell (j := 0) rfl
    have bq4_1 := bq4.cell (j := 1) rfl
    have bq4_z := bq4.frozen
    have bq4_l := bq4.lt
    go_wp2_with fail
    clear bq1_0 bq1_1 bq1_z bq1_l bq2_0 bq2_1 bq2_z bq2_l bq4_0 bq4_1 bq4_z bq4_l
    have c1 := vHas_any _ _ (Sl.tkI l1) w23 oR.rd (by omega)
    rw [G4.out] at c1
    refine (c1).mono ?_; rintro q_ w_ ⟨rfl, rfl⟩
    clear c1
    have bq1_0 := bq1.cell (j := 0) rfl
    have bq1_1 := bq1.cell (j := 1) rfl
    have bq1_z := bq1.frozen
    have bq1_l := bq1.lt
    have bq2_0 := bq2.cell (j := 0) rfl
    have bq2_1 := bq2.cell (j := 1) rfl
    have bq2_z := bq2.frozen
    have bq2_l := bq2.lt
    have bq4_0 := bq4.cell (j := 0) rfl
    have bq4_1 := bq4.cell (j := 1) rfl
    have bq4_z := bq4.frozen
    have bq4_l := bq4.lt
    go_wp2_with fail
    clear bq1_0 bq1_1 bq1_z bq1_l bq2_0 bq2_1 bq2_z bq2_l bq4_0 bq4_1 bq4_z bq4_l
    refine (vInts_same _ _ _ w23 oL.rd oR.rd (by omega) (by omega)).mono ?_; rintro q_ w25 ⟨rfl, b_25⟩
    replace bq1 := bq1.below b_25 bq1.lt
    replace bq2 := bq2.below b_25 bq2.lt
    replace bq4 := bq4.below b_25 bq4.lt
    replace h := h.below b_25 (by omega)
    replace o1 := o1.below b_25 (by omega)
    replace p1 := p1.below b_25 (by omega)
    replace o2 := o2.below b_25 (by omega)
    replace p2 := p2.below b_25 (by omega)
    replace oP := oP.below b_25 (by omega)
    replace oR := oR.below b_25 (by omega)
    replace o4 := o4.below b_25 (by omega)
    replace p4 := p4.below b_25 (by omega)
    replace oL := oL.below b_25 (by omega)
    have z_26 := b_25.size
    replace hB := hB.trans (b_25.mono (by omega))
    clear b_25
    have bq1_0 := bq1.cell (j := 0) rfl
    have bq1_1 := bq1.cell (j := 1) rfl
    have bq1_z := bq1.frozen
    have bq1_l := bq1.lt
    have bq2_0 := bq2.cell (j := 0) rfl
    have bq2_1 := bq2.cell (j := 1) rfl
    have bq2_z := bq2.frozen
    have bq2_l := bq2.lt
    have bq4_0 := bq4.cell (j := 0) rfl
    have bq4_1 := bq4.cell (j := 1) rfl
    have bq4_z := bq4.frozen
    have bq4_l := bq4.lt
    go_wp2_with fail
    clear bq1_0 bq1_1 bq1_z bq1_l bq2_0 bq2_1 bq2_z bq2_l bq4_0 bq4_1 bq4_z bq4_l
    have c1 := implIsQueue_any _ _ _ _ w25 o2.rd p2.rd (by omega) (by omega)
    rw [G2.out] at c1
    refine (c1).mono ?_; rintro q_ w27 ⟨rfl, b_27⟩
    replace bq1 := bq1.below b_27 bq1.lt
    replace bq2 := bq2.below b_27 bq2.lt
    replace bq4 := bq4.below b_27 bq4.lt
    replace h := h.below b_27 (by omega)
    replace o1 := o1.below b_27 (by omega)
    replace p1 := p1.below b_27 (by omega)
    replace o2 := o2.below b_27 (by omega)
    replace p2 := p2.below b_27 (by omega)
    replace oP := oP.below b_27 (by omega)
    replace oR := oR.below b_27 (by omega)
    replace o4 := o4.below b_27 (by omega)
    replace p4 := p4.below b_27 (by omega)
    replace oL := oL.below b_27 (by omega)
    have z_28 := b_27.size
    replace hB := hB.trans (b_27.mono (by omega))
    clear b_27
    clear c1
    have bq1_0 := bq1.cell (j := 0) rfl
    have bq1_1 := bq1.cell (j := 1) rfl
    have bq1_z := bq1.frozen
    have bq1_l := bq1.lt
    have bq2_0 := bq2.cell (j := 0) rfl
    have bq2_1 := bq2.cell (j := 1) rfl
    have bq2_z := bq2.frozen
    have bq2_l := bq2.lt
    have bq4_0 := bq4.cell (j := 0) rfl
    have bq4_1 := bq4.cell (j := 1) rfl
    have bq4_z := bq4.frozen
    have bq4_l := bq4.lt
    go_wp2_with fail
    clear bq1_0 bq1_1 bq1_z bq1_l bq2_0 bq2_1 bq2_z bq2_l bq4_0 bq4_1 bq4_z bq4_l
    have c1 := implIsQueue_any _ _ _ _ w27 o4.rd p4.rd (by omega) (by omega)
    rw [G7.out] at c1
    refine (c1).mono ?_; rintro q_ w29 ⟨rfl, b_29⟩
    replace bq1 := bq1.below b_29 bq1.lt
    replace bq2 := bq2.below b_29 bq2.lt
    replace bq4 := bq4.below b_29 bq4.lt
    replace h := h.below b_29 (by omega)
    replace o1 := o1.below b_29 (by omega)
    replace p1 := p1.below b_29 (by omega)
    replace o2 := o2.below b_29 (by omega)
    replace p2 := p2.below b_29 (by omega)
    replace oP := oP.below b_29 (by omega)
    replace oR := oR.below b_29 (by omega)
    replace o4 := o4.below b_29 (by omega)
    replace p4 := p4.below b_29 (by omega)
    replace oL := oL.below b_29 (by omega)
    have z_30 := b_29.size
    replace hB := hB.trans (b_29.mono (by omega))
    clear b_29
    clear c1 G1 G2 G3 G4 G5 G6 G7 G8 G9
    have bq1_0 := bq1.cell (j := 0) rfl
    have bq1_1 := bq1.cell (j := 1) rfl
    have bq1_z := bq1.frozen
    have bq1_l := bq1.lt
    have bq2_0 := bq2.cell (j := 0) rfl
    have bq2_1 := bq2.cell (j := 1) rfl
    have bq2_z := bq2.frozen
    have bq2_l := bq2.lt
    have bq4_0 := bq4.cell (j := 0) rfl
    have bq4_1 := bq4.cell (j := 1) rfl
    have bq4_z := bq4.frozen
    have bq4_l := bq4.lt
    go_wp2_with fail
    clear bq1_0 bq1_1 bq1_z bq1_l bq2_0 bq2_1 bq2_z bq2_l bq4_0 bq4_1 bq4_z bq4_l
    clear bq4 o4 p4 oP oR oL
    clear hje hjw
    clear bq1 bq2 o1 p1 o2 p2
    refine (DrawEndQueue_any cv l w29 h (by omega)).mono ?_; rintro q_ w31 ⟨v5, u5, l5, m5, x5, rfl, hl5, hm5, o5, p5, b_31⟩
    replace h := h.below b_31 (by omega)
    have z_32 := b_31.size
    replace hB := hB.trans (b_31.mono (by omega))
    clear b_31
    obtain ⟨A5, k5, c5, rfl, _, _, _⟩ := o5.rd.form
    obtain ⟨B5, j5, e5, rfl, _, _, _⟩ := p5.rd.form
    go_wp2_with fail
    have b_33 := (Below.refl w31.heap.size w31).alloc (Nat.le_refl _) (.cells #[.slice A5 k5 c5, .slice B5 j5 e5] 27)
    have bq5 := Box.new w31 #[.slice A5 k5 c5, .slice B5 j5 e5] 27 rfl
    replace h := h.below b_33 (by omega)
    replace o5 := o5.below b_33 (by omega)
    replace p5 := p5.below b_33 (by omega)
    have z_34 := b_33.size
    replace hB := hB.trans (b_33.mono (by omega))
    clear b_33
    generalize w31.alloc _ = w33 at *
    generalize w31.heap.size = g33 at *
    cases hk : Qu.enOk l5 m5 x5
    · have c1 := implEndQueue_any _ _ l5 m5 x5 w33 o5.rd p5.rd (by omega) (by omega)
      rw [hk] at c1
      refine (c1).mono ?_; rintro q_ w35 ⟨v6, u6, rfl, o6, p6, b_35⟩
      replace bq5 := bq5.below b_35 bq5.lt
      replace h := h.below b_35 (by omega)
      replace o5 := o5.below b_35 (by omega)
      replace p5 := p5.below b_35 (by omega)
      have z_36 := b_35.size
      replace hB := hB.trans (b_35.mono (by omega))
      clear b_35
      obtain ⟨A6, k6, c6, rfl, _, _, _⟩ := o6.rd.form
      obtain ⟨B6, j6, e6, rfl, _, _, _⟩ := p6.rd.form
      clear c1
      have bq5_0 := bq5.cell (j := 0) rfl
      have bq5_1 := bq5.cell (j := 1) rfl
      have bq5_z := bq5.frozen
      have bq5_l := bq5.lt
      go_wp2_with fail
      clear bq5_0 bq5_1 bq5_z bq5_l
      have b_37 := (Below.refl w35.heap.size w35).alloc (Nat.le_refl _) (.cells #[.slice A6 k6 c6, .slice B6 j6 e6] 27)
      have bq6 := Box.new w35 #[.slice A6 k6 c6, .slice B6 j6 e6] 27 rfl
      replace bq5 := bq5.below b_37 bq5.lt
      replace h := h.below b_37 (by omega)
      replace o5 := o5.below b_37 (by omega)
      replace p5 := p5.below b_37 (by omega)
      replace o6 := o6.below b_37 (by omega)
      replace p6 := p6.below b_37 (by omega)
      have z_38 := b_37.size
      replace hB := hB.trans (b_37.mono (by omega))
      clear b_37
      generalize w35.alloc _ = w37 at *
      generalize w35.heap.size = g37 at *
      have c1 := specEndQueue_any _ _ l5 m5 x5 w37 o5.rd p5.rd (by omega) (by omega)
      rw [hk] at c1
      refine (c1).mono ?_; rintro q_ w39 ⟨v7, u7, rfl, o7, p7, b_39⟩
      replace bq5 := bq5.below b_39 bq5.lt
      replace bq6 := bq6.below b_39 bq6.lt
      replace h := h.below b_39 (by omega)
      replace o5 := o5.below b_39 (by omega)
      replace p5 := p5.below b_39 (by omega)
      replace o6 := o6.below b_39 (by omega)
      replace p6 := p6.below b_39 (by omega)
      have z_40 := b_39.size
      replace hB := hB.trans (b_39.mono (by omega))
      clear b_39
      obtain ⟨A7, k7, c7, rfl, _, _, _⟩ := o7.rd.form
      obtain ⟨B7, j7, e7, rfl, _, _, _⟩ := p7.rd.form
      clear c1 hk
      have bq5_0 := bq5.cell (j := 0) rfl
      have bq5_1 := bq5.cell (j := 1) rfl
      have bq5_z := bq5.frozen
      have bq5_l := bq5.lt
      have bq6_0 := bq6.cell (j := 0) rfl
      have bq6_1 := bq6.cell (j := 1) rfl
      have bq6_z := bq6.frozen
      have bq6_l := bq6.lt
      go_wp2_with fail
      clear bq5_0 bq5_1 bq5_z bq5_l bq6_0 bq6_1 bq6_z bq6_l
      have b_41 := (Below.refl w39.heap.size w39).alloc (Nat.le_refl _) (.cells #[.slice A7 k7 c7, .slice B7 j7 e7] 27)
      have bq7 := Box.new w39 #[.slice A7 k7 c7, .slice B7 j7 e7] 27 rfl
      replace bq5 := bq5.below b_41 bq5.lt
      replace bq6 := bq6.below b_41 bq6.lt
      replace h := h.below b_41 (by omega)
      replace o5 := o5.below b_41 (by omega)
      replace p5 := p5.below b_41 (by omega)
      replace o6 := o6.below b_41 (by omega)
      replace p6 := p6.below b_41 (by omega)
      replace o7 := o7.below b_41 (by omega)
      replace p7 := p7.below b_41 (by omega)
      have z_42 := b_41.size
      replace hB := hB.trans (b_41.mono (by omega))
      clear b_41
      generalize w39.alloc _ = w41 at *
      generalize w39.heap.size = g41 at *
      refine (vQueue_same _ _ _ _ _ _ w41 o6.rd p6.rd o7.rd p7.rd (by omega) (by omega) (by omega) (by omega)).mono ?_; rintro q_ w43 ⟨rfl, b_43⟩
      replace bq5 := bq5.below b_43 bq5.lt
      replace bq6 := bq6.below b_43 bq6.lt
      replace bq7 := bq7.below b_43 bq7.lt
      replace h := h.below b_43 (by omega)
      replace o5 := o5.below b_43 (by omega)
      replace p5 := p5.below b_43 (by omega)
      replace o6 := o6.below b_43 (by omega)
      replace p6 := p6.below b_43 (by omega)
      replace o7 := o7.below b_43 (by omega)
      replace p7 := p7.below b_43 (by omega)
      have z_44 := b_43.size
      replace hB := hB.trans (b_43.mono (by omega))
      clear b_43
      have bq5_0 := bq5.cell (j := 0) rfl
      have bq5_1 := bq5.cell (j := 1) rfl
      have bq5_z := bq5.frozen
      have bq5_l := bq5.lt
      have bq6_0 := bq6.cell (j := 0) rfl
      have bq6_1 := bq6.cell (j := 1) rfl
      have bq6_z := bq6.frozen
      have bq6_l := bq6.lt
      have bq7_0 := bq7.cell (j := 0) rfl
      have bq7_1 := bq7.cell (j := 1) rfl
      have bq7_z := bq7.frozen
      have bq7_l := bq7.lt
      go_wp2_with fail
      clear bq5_0 bq5_1 bq5_z bq5_l bq6_0 bq6_1 bq6_z bq6_l bq7_0 bq7_1 bq7_z bq7_l
      clear bq5 bq6 bq7 o5 p5 o6 p6 o7 p7
      refine (DrawWithdrawIrq_any cv l w43 h (by omega)).mono ?_; rintro q_ w45 ⟨v8, u8, l8, m8, x8, rfl, hl8, hm8, o8, p8, b_45⟩
      replace h := h.below b_45 (by omega)
      have z_46 := b_45.size
      replace hB := hB.trans (b_45.mono (by omega))
      clear b_45
      obtain ⟨A8, k8, c8, rfl, _, _, _⟩ := o8.rd.form
      obtain ⟨B8, j8, e8, rfl, _, _, _⟩ := p8.rd.form
      go_wp2_with fail
      have b_47 := (Below.refl w45.heap.size w45).alloc (Nat.le_refl _) (.cells #[.slice A8 k8 c8, .slice B8 j8 e8] 27)
      have bq8 := Box.new w45 #[.slice A8 k8 c8, .slice B8 j8 e8] 27 rfl
      replace h := h.below b_47 (by omega)
      replace o8 := o8.below b_47 (by omega)
      replace p8 := p8.below b_47 (by omega)
      have z_48 := b_47.size
      replace hB := hB.trans (b_47.mono (by omega))
      clear b_47
      generalize w45.alloc _ = w47 at *
      generalize w45.heap.size = g47 at *
      cases hk : Qu.wiOk l8 m8 x8
      · have c1 := implWithdrawIrq_any _ _ l8 m8 x8 w47 o8.rd p8.rd (by omega) (by omega)
        rw [hk] at c1
        refine (c1).mono ?_; rintro q_ w49 ⟨v9, u9, rfl, o9, p9, b_49⟩
        replace bq8 := bq8.below b_49 bq8.lt
        replace h := h.below b_49 (by omega)
        replace o8 := o8.below b_49 (by omega)
        replace p8 := p8.below b_49 (by omega)
        have z_50 := b_49.size
        replace hB := hB.trans (b_49.mono (by omega))
        clear b_49
        obtain ⟨A9, k9, c9, rfl, _, _, _⟩ := o9.rd.form
        obtain ⟨B9, j9, e9, rfl, _, _, _⟩ := p9.rd.form
        clear c1
        have bq8_0 := bq8.cell (j := 0) rfl
        have bq8_1 := bq8.cell (j := 1) rfl
        have bq8_z := bq8.frozen
        have bq8_l := bq8.lt
        go_wp2_with fail
        clear bq8_0 bq8_1 bq8_z bq8_l
        have b_51 := (Below.refl w49.heap.size w49).alloc (Nat.le_refl _) (.cells #[.slice A9 k9 c9, .slice B9 j9 e9] 27)
        have bq9 := Box.new w49 #[.slice A9 k9 c9, .slice B9 j9 e9] 27 rfl
        replace bq8 := bq8.below b_51 bq8.lt
        replace h := h.below b_51 (by omega)
        replace o8 := o8.below b_51 (by omega)
        replace p8 := p8.below b_51 (by omega)
        replace o9 := o9.below b_51 (by omega)
        replace p9 := p9.below b_51 (by omega)
        have z_52 := b_51.size
        replace hB := hB.trans (b_51.mono (by omega))
        clear b_51
        generalize w49.alloc _ = w51 at *
        generalize w49.heap.size = g51 at *
        have c1 := specWithdrawIrq_any _ _ l8 m8 x8 w51 o8.rd p8.rd (by omega) (by omega)
        rw [hk] at c1
        refine (c1).mono ?_; rintro q_ w53 ⟨v10, u10, rfl, o10, p10, b_53⟩
        replace bq8 := bq8.below b_53 bq8.lt
        replace bq9 := bq9.below b_53 bq9.lt
        replace h := h.below b_53 (by omega)
        replace o8 := o8.below b_53 (by omega)
        replace p8 := p8.below b_53 (by omega)
        replace o9 := o9.below b_53 (by omega)
        replace p9 := p9.below b_53 (by omega)
        have z_54 := b_53.size
        replace hB := hB.trans (b_53.mono (by omega))
        clear b_53
        obtain ⟨A10, k10, c10, rfl, _, _, _⟩ := o10.rd.form
        obtain ⟨B10, j10, e10, rfl, _, _, _⟩ := p10.rd.form
        clear c1
        have bq8_0 := bq8.cell (j := 0) rfl
        have bq8_1 := bq8.cell (j := 1) rfl
        have bq8_z := bq8.frozen
        have bq8_l := bq8.lt
        have bq9_0 := bq9.cell (j := 0) rfl
        have bq9_1 := bq9.cell (j := 1) rfl
        have bq9_z := bq9.frozen
        have bq9_l := bq9.lt
        go_wp2_with fail
        clear bq8_0 bq8_1 bq8_z bq8_l bq9_0 bq9_1 bq9_z bq9_l
        have b_55 := (Below.refl w53.heap.size w53).alloc (Nat.le_refl _) (.cells #[.slice A10 k10 c10, .slice B10 j10 e10] 27)
        have bq10 := Box.new w53 #[.slice A10 k10 c10, .slice B10 j10 e10] 27 rfl
        replace bq8 := bq8.below b_55 bq8.lt
        replace bq9 := bq9.below b_55 bq9.lt
        replace h := h.below b_55 (by omega)
        replace o8 := o8.below b_55 (by omega)
        replace p8 := p8.below b_55 (by omega)
        replace o9 := o9.below b_55 (by omega)
        replace p9 := p9.below b_55 (by omega)
        replace o10 := o10.below b_55 (by omega)
        replace p10 := p10.below b_55 (by omega)
        have z_56 := b_55.size
        replace hB := hB.trans (b_55.mono (by omega))
        clear b_55
        generalize w53.alloc _ = w55 at *
        generalize w53.heap.size = g55 at *
        refine (vQueue_same _ _ _ _ _ _ w55 o9.rd p9.rd o10.rd p10.rd (by omega) (by omega) (by omega) (by omega)).mono ?_; rintro q_ w57 ⟨rfl, b_57⟩
        replace bq8 := bq8.below b_57 bq8.lt
        replace bq9 := bq9.below b_57 bq9.lt
        replace bq10 := bq10.below b_57 bq10.lt
        replace h := h.below b_57 (by omega)
        replace o8 := o8.below b_57 (by omega)
        replace p8 := p8.below b_57 (by omega)
        replace o9 := o9.below b_57 (by omega)
        replace p9 := p9.below b_57 (by omega)
        replace o10 := o10.below b_57 (by omega)
        replace p10 := p10.below b_57 (by omega)
        have z_58 := b_57.size
        replace hB := hB.trans (b_57.mono (by omega))
        clear b_57
        clear bq10 o10 p10
        cases hq : Qu.good l8 m8
        · have bq8_0 := bq8.cell (j := 0) rfl
          have bq8_1 := bq8.cell (j := 1) rfl
          have bq8_z := bq8.frozen
          have bq8_l := bq8.lt
          have bq9_0 := bq9.cell (j := 0) rfl
          have bq9_1 := bq9.cell (j := 1) rfl
          have bq9_z := bq9.frozen
          have bq9_l := bq9.lt
          go_wp2_with fail
          clear bq8_0 bq8_1 bq8_z bq8_l bq9_0 bq9_1 bq9_z bq9_l
          have c1 := implPendingIrqs_any _ _ l8 m8 w57 o8.rd p8.rd (by omega) (by omega)
          rw [hq] at c1
          refine (c1).mono ?_; rintro q_ w59 ⟨vP, rfl, oP, b_59⟩
          replace bq8 := bq8.below b_59 bq8.lt
          replace bq9 := bq9.below b_59 bq9.lt
          replace h := h.below b_59 (by omega)
          replace o8 := o8.below b_59 (by omega)
          replace p8 := p8.below b_59 (by omega)
          replace o9 := o9.below b_59 (by omega)
          replace p9 := p9.below b_59 (by omega)
          have z_60 := b_59.size
          replace hB := hB.trans (b_59.mono (by omega))
          clear b_59
          clear c1
          clear hq hk
          have bq8_0 := bq8.cell (j := 0) rfl
          have bq8_1 := bq8.cell (j := 1) rfl
          have bq8_z := bq8.frozen
          have bq8_l := bq8.lt
          have bq9_0 := bq9.cell (j := 0) rfl
          have bq9_1 := bq9.cell (j := 1) rfl
          have bq9_z := bq9.frozen
          have bq9_l := bq9.lt
          go_wp2_with fail
          clear bq8_0 bq8_1 bq8_z bq8_l bq9_0 bq9_1 bq9_z bq9_l
          go_ret
          exact ⟨rfl, hB⟩
        · have G1 := Lib.hid hq
          by_cases hx0 : 0 ≤ x8
          rotate_left
          · have hx0b : decide (0 ≤ x8) = false := decide_eq_false hx0
            have bq8_0 := bq8.cell (j := 0) rfl
            have bq8_1 := bq8.cell (j := 1) rfl
            have bq8_z := bq8.frozen
            have bq8_l := bq8.lt
            have bq9_0 := bq9.cell (j := 0) rfl
            have bq9_1 := bq9.cell (j := 1) rfl
            have bq9_z := bq9.frozen
            have bq9_l := bq9.lt
            go_wp2_with fail
            clear bq8_0 bq8_1 bq8_z bq8_l bq9_0 bq9_1 bq9_z bq9_l
            have c1 := implPendingIrqs_any _ _ l8 m8 w57 o8.rd p8.rd (by omega) (by omega)
            rw [G1.out, Qu.pe_irqs G1.out] at c1
            refine (c1).mono ?_; rintro q_ w59 ⟨vP, rfl, oP, b_59⟩
            replace bq8 := bq8.below b_59 bq8.lt
            replace bq9 := bq9.below b_59 bq9.lt
            replace h := h.below b_59 (by omega)
            replace o8 := o8.below b_59 (by omega)
            replace p8 := p8.below b_59 (by omega)
            replace o9 := o9.below b_59 (by omega)
            replace p9 := p9.below b_59 (by omega)
            have z_60 := b_59.size
            replace hB := hB.trans (b_59.mono (by omega))
            clear b_59
            clear c1
            clear hq hk
            have bq8_0 := bq8.cell (j := 0) rfl
            have bq8_1 := bq8.cell (j := 1) rfl
            have bq8_z := bq8.frozen
            have bq8_l := bq8.lt
            have bq9_0 := bq9.cell (j := 0) rfl
            have bq9_1 := bq9.cell (j := 1) rfl
            have bq9_z := bq9.frozen
            have bq9_l := bq9.lt
            go_wp2_with fail
            clear bq8_0 bq8_1 bq8_z bq8_l bq9_0 bq9_1 bq9_z bq9_l
            go_ret
            exact ⟨rfl, hB⟩
          by_cases hx7 : x8 < 8
          rotate_left
          · have hx0b : decide (0 ≤ x8) = true := decide_eq_true hx0
            have hx7b : decide (x8 < 8) = false := decide_eq_false hx7
            have bq8_0 := bq8.cell (j := 0) rfl
            have bq8_1 := bq8.cell (j := 1) rfl
            have bq8_z := bq8.frozen
            have bq8_l := bq8.lt
            have bq9_0 := bq9.cell (j := 0) rfl
            have bq9_1 := bq9.cell (j := 1) rfl
            have bq9_z := bq9.frozen
            have bq9_l := bq9.lt
            go_wp2_with fail
            clear bq8_0 bq8_1 bq8_z bq8_l bq9_0 bq9_1 bq9_z bq9_l
            have c1 := implPendingIrqs_any _ _ l8 m8 w57 o8.rd p8.rd (by omega) (by omega)
            rw [G1.out, Qu.pe_irqs G1.out] at c1
            refine (c1).mono ?_; rintro q_ w59 ⟨vP, rfl, oP, b_59⟩
            replace bq8 := bq8.below b_59 bq8.lt
            replace bq9 := bq9.below b_59 bq9.lt
            replace h := h.below b_59 (by omega)
            replace o8 := o8.below b_59 (by omega)
            replace p8 := p8.below b_59 (by omega)
            replace o9 := o9.below b_59 (by omega)
            replace p9 := p9.below b_59 (by omega)
            have z_60 := b_59.size
            replace hB := hB.trans (b_59.mono (by omega))
            clear b_59
            clear c1
            clear hq hk
            have bq8_0 := bq8.cell (j := 0) rfl
            have bq8_1 := bq8.cell (j := 1) rfl
            have bq8_z := bq8.frozen
            have bq8_l := bq8.lt
            have bq9_0 := bq9.cell (j := 0) rfl
            have bq9_1 := bq9.cell (j := 1) rfl
            have bq9_z := bq9.frozen
            have bq9_l := bq9.lt
            go_wp2_with fail
            clear bq8_0 bq8_1 bq8_z bq8_l bq9_0 bq9_1 bq9_z bq9_l
            go_ret
            exact ⟨rfl, hB⟩
          · have hx0b : decide (0 ≤ x8) = true := decide_eq_true hx0
            have hx7b : decide (x8 < 8) = true := decide_eq_true hx7
            have G5 := Lib.hid (Qu.wi_not hk hq (by omega))
            have bq8_0 := bq8.cell (j := 0) rfl
            have bq8_1 := bq8.cell (j := 1) rfl
            have bq8_z := bq8.frozen
            have bq8_l := bq8.lt
            have bq9_0 := bq9.cell (j := 0) rfl
            have bq9_1 := bq9.cell (j := 1) rfl
            have bq9_z := bq9.frozen
            have bq9_l := bq9.lt
            go_wp2_with fail
            clear bq8_0 bq8_1 bq8_z bq8_l bq9_0 bq9_1 bq9_z bq9_l
            have c1 := implPendingIrqs_any _ _ l8 m8 w57 o8.rd p8.rd (by omega) (by omega)
            rw [G1.out, Qu.pe_irqs G1.out] at c1
            refine (c1).mono ?_; rintro q_ w59 ⟨vP, rfl, oP, b_59⟩
            replace bq8 := bq8.below b_59 bq8.lt
            replace bq9 := bq9.below b_59 bq9.lt
            replace h := h.below b_59 (by omega)
            replace o8 := o8.below b_59 (by omega)
            replace p8 := p8.below b_59 (by omega)
            replace o9 := o9.below b_59 (by omega)
            replace p9 := p9.below b_59 (by omega)
            have z_60 := b_59.size
            replace hB := hB.trans (b_59.mono (by omega))
            clear b_59
            clear c1
            clear hq hk
            have bq8_0 := bq8.cell (j := 0) rfl
            have bq8_1 := bq8.cell (j := 1) rfl
            have bq8_z := bq8.frozen
            have bq8_l := bq8.lt
            have bq9_0 := bq9.cell (j := 0) rfl
            have bq9_1 := bq9.cell (j := 1) rfl
            have bq9_z := bq9.frozen
            have bq9_l := bq9.lt
            go_wp2_with fail
            clear bq8_0 bq8_1 bq8_z bq8_l bq9_0 bq9_1 bq9_z bq9_l
            have c1 := vHas_any _ _ x8 w59 oP.rd (by omega)
            rw [G5.out] at c1
            refine (c1).mono ?_; rintro q_ w_ ⟨rfl, rfl⟩
            clear c1
            have bq8_0 := bq8.cell (j := 0) rfl
            have bq8_1 := bq8.cell (j := 1) rfl
            have bq8_z := bq8.frozen
            have bq8_l := bq8.lt
            have bq9_0 := bq9.cell (j := 0) rfl
            have bq9_1 := bq9.cell (j := 1) rfl
            have bq9_z := bq9.frozen
            have bq9_l := bq9.lt
            go_wp2_with fail
            clear bq8_0 bq8_1 bq8_z bq8_l bq9_0 bq9_1 bq9_z bq9_l
            go_ret
            exact ⟨rfl, hB⟩
      · obtain ⟨hq, hir, hh0, eS, eW, hgP, hlen, hno⟩ := Qu.wi_all hk
        have G1 := Lib.hid hq
        have G2 := Lib.hid hgP
        have G3 := Lib.hid hlen
        have G4 := Lib.hid hno
        have G5 := Lib.hid hh0
        have hx0 : decide (0 ≤ x8) = true := decide_eq_true hir.1
        have hx7 : decide (x8 < 8) = true := decide_eq_true (by omega)
        clear hq hgP hlen hno hh0 hir
        have c1 := implWithdrawIrq_any _ _ l8 m8 x8 w47 o8.rd p8.rd (by omega) (by omega)
        rw [hk, eS, eW] at c1
        refine (c1).mono ?_; rintro q_ w49 ⟨v9, u9, rfl, o9, p9, b_49⟩
        replace bq8 := bq8.below b_49 bq8.lt
        replace h := h.below b_49 (by omega)
        replace o8 := o8.below b_49 (by omega)
        replace p8 := p8.below b_49 (by omega)
        have z_50 := b_49.size
        replace hB := hB.trans (b_49.mono (by omega))
        clear b_49
        obtain ⟨A9, k9, c9, rfl, _, _, _⟩ := o9.rd.form
        obtain ⟨B9, j9, e9, rfl, _, _, _⟩ := p9.rd.form
        clear c1
        have bq8_0 := bq8.cell (j := 0) rfl
        have bq8_1 := bq8.cell (j := 1) rfl
        have bq8_z := bq8.frozen
        have bq8_l := bq8.lt
        go_wp2_with fail
        clear bq8_0 bq8_1 bq8_z bq8_l
        have b_51 := (Below.refl w49.heap.size w49).alloc (Nat.le_refl _) (.cells #[.slice A9 k9 c9, .slice B9 j9 e9] 27)
        have bq9 := Box.new w49 #[.slice A9 k9 c9, .slice B9 j9 e9] 27 rfl
        replace bq8 := bq8.below b_51 bq8.lt
        replace h := h.below b_51 (by omega)
        replace o8 := o8.below b_51 (by omega)
        replace p8 := p8.below b_51 (by omega)
        replace o9 := o9.below b_51 (by omega)
        replace p9 := p9.below b_51 (by omega)
        have z_52 := b_51.size
        replace hB := hB.trans (b_51.mono (by omega))
        clear b_51
        generalize w49.alloc _ = w51 at *
        generalize w49.heap.size = g51 at *
        have c1 := specWithdrawIrq_any _ _ l8 m8 x8 w51 o8.rd p8.rd (by omega) (by omega)
        rw [hk, eS, eW] at c1
        refine (c1).mono ?_; rintro q_ w53 ⟨v10, u10, rfl, o10, p10, b_53⟩
        replace bq8 := bq8.below b_53 bq8.lt
        replace bq9 := bq9.below b_53 bq9.lt
        replace h := h.below b_53 (by omega)
        replace o8 := o8.below b_53 (by omega)
        replace p8 := p8.below b_53 (by omega)
        replace o9 := o9.below b_53 (by omega)
        replace p9 := p9.below b_53 (by omega)
        have z_54 := b_53.size
        replace hB := hB.trans (b_53.mono (by omega))
        clear b_53
        obtain ⟨A10, k10, c10, rfl, _, _, _⟩ := o10.rd.form
        obtain ⟨B10, j10, e10, rfl, _, _, _⟩ := p10.rd.form
        clear c1 eS eW hk
        have bq8_0 := bq8.cell (j := 0) rfl
        have bq8_1 := bq8.cell (j := 1) rfl
        have bq8_z := bq8.frozen
        have bq8_l := bq8.lt
        have bq9_0 := bq9.cell (j := 0) rfl
        have bq9_1 := bq9.cell (j := 1) rfl
        have bq9_z := bq9.frozen
        have bq9_l := bq9.lt
        go_wp2_with fail
        clear bq8_0 bq8_1 bq8_z bq8_l bq9_0 bq9_1 bq9_z bq9_l
        have b_55 := (Below.refl w53.heap.size w53).alloc (Nat.le_refl _) (.cells #[.slice A10 k10 c10, .slice B10 j10 e10] 27)
        have bq10 := Box.new w53 #[.slice A10 k10 c10, .slice B10 j10 e10] 27 rfl
        replace bq8 := bq8.below b_55 bq8.lt
        replace bq9 := bq9.below b_55 bq9.lt
        replace h := h.below b_55 (by omega)
        replace o8 := o8.below b_55 (by omega)
        replace p8 := p8.below b_55 (by omega)
        replace o9 := o9.below b_55 (by omega)
        replace p9 := p9.below b_55 (by omega)
        replace o10 := o10.below b_55 (by omega)
        replace p10 := p10.below b_55 (by omega)
        have z_56 := b_55.size
        replace hB := hB.trans (b_55.mono (by omega))
        clear b_55
        generalize w53.alloc _ = w55 at *
        generalize w53.heap.size = g55 at *
        refine (vQueue_same _ _ _ _ _ _ w55 o9.rd p9.rd o10.rd p10.rd (by omega) (by omega) (by omega) (by omega)).mono ?_; rintro q_ w57 ⟨rfl, b_57⟩
        replace bq8 := bq8.below b_57 bq8.lt
        replace bq9 := bq9.below b_57 bq9.lt
        replace bq10 := bq10.below b_57 bq10.lt
        replace h := h.below b_57 (by omega)
        replace o8 := o8.below b_57 (by omega)
        replace p8 := p8.below b_57 (by omega)
        replace o9 := o9.below b_57 (by omega)
        replace p9 := p9.below b_57 (by omega)
        replace o10 := o10.below b_57 (by omega)
        replace p10 := p10.below b_57 (by omega)
        have z_58 := b_57.size
        replace hB := hB.trans (b_57.mono (by omega))
        clear b_57
        clear bq10 o10 p10
        have bq8_0 := bq8.cell (j := 0) rfl
        have bq8_1 := bq8.cell (j := 1) rfl
        have bq8_z := bq8.frozen
        have bq8_l := bq8.lt
        have bq9_0 := bq9.cell (j := 0) rfl
        have bq9_1 := bq9.cell (j := 1) rfl
        have bq9_z := bq9.frozen
        have bq9_l := bq9.lt
        go_wp2_with fail
        clear bq8_0 bq8_1 bq8_z bq8_l bq9_0 bq9_1 bq9_z bq9_l
        have c1 := implPendingIrqs_any _ _ l8 m8 w57 o8.rd p8.rd (by omega) (by omega)
        rw [G1.out, Qu.pe_irqs G1.out] at c1
        refine (c1).mono ?_; rintro q_ w59 ⟨vP, rfl, oP, b_59⟩
        replace bq8 := bq8.below b_59 bq8.lt
        replace bq9 := bq9.below b_59 bq9.lt
        replace h := h.below b_59 (by omega)
        replace o8 := o8.below b_59 (by omega)
        replace p8 := p8.below b_59 (by omega)
        replace o9 := o9.below b_59 (by omega)
        replace p9 := p9.below b_59 (by omega)
        have z_60 := b_59.size
        replace hB := hB.trans (b_59.mono (by omega))
        clear b_59
        clear c1
        have bq8_0 := bq8.cell (j := 0) rfl
        have bq8_1 := bq8.cell (j := 1) rfl
        have bq8_z := bq8.frozen
        have bq8_l := bq8.lt
        have bq9_0 := bq9.cell (j := 0) rfl
        have bq9_1 := bq9.cell (j := 1) rfl
        have bq9_z := bq9.frozen
        have bq9_l := bq9.lt
        go_wp2_with fail
        clear bq8_0 bq8_1 bq8_z bq8_l bq9_0 bq9_1 bq9_z bq9_l
        have c1 := vHas_any _ _ x8 w59 oP.rd (by omega)
        rw [G5.out] at c1
        refine (c1).mono ?_; rintro q_ w_ ⟨rfl, rfl⟩
        clear c1
        have bq8_0 := bq8.cell (j := 0) rfl
        have bq8_1 := bq8.cell (j := 1) rfl
        have bq8_z := bq8.frozen
        have bq8_l := bq8.lt
        have bq9_0 := bq9.cell (j := 0) rfl
        have bq9_1 := bq9.cell (j := 1) rfl
        have bq9_z := bq9.frozen
        have bq9_l := bq9.lt
        go_wp2_with fail
        clear bq8_0 bq8_1 bq8_z bq8_l bq9_0 bq9_1 bq9_z bq9_l
        have c1 := implPendingIrqs_any _ _ _ _ w59 o9.rd p9.rd (by omega) (by omega)
        rw [G2.out, Qu.pe_irqs G2.out] at c1
        refine (c1).mono ?_; rintro q_ w61 ⟨vR, rfl, oR, b_61⟩
        replace bq8 := bq8.below b_61 bq8.lt
        replace bq9 := bq9.below b_61 bq9.lt
        replace h := h.below b_61 (by omega)
        replace o8 := o8.below b_61 (by omega)
        replace p8 := p8.below b_61 (by omega)
        replace o9 := o9.below b_61 (by omega)
        replace p9 := p9.below b_61 (by omega)
        replace oP := oP.below b_61 (by omega)
        have z_62 := b_61.size
        replace hB := hB.trans (b_61.mono (by omega))
        clear b_61
        clear c1
        obtain ⟨AP, nP, dP, rfl, HP, hcP, hmP⟩ := oP.rd.form
        obtain ⟨AR, nR, dR, rfl, HR, hcR, hmR⟩ := oR.rd.form
        obtain rfl : nP = nR + 1 := by rw [HP.out, HR.out]; exact G3.out.symm
        have hje : ((nR + 1 : Nat) : Int) - 1 = (nR : Int) := by omega
        have hjw : IntKind.i64.wrap (nR : Int) = (nR : Int) := IntWalk.i64_in _ (by omega)
        clear HP HR
        have bq8_0 := bq8.cell (j := 0) rfl
        have bq8_1 := bq8.cell (j := 1) rfl
        have bq8_z := bq8.frozen
        have bq8_l := bq8.lt
        have bq9_0 := bq9.cell (j := 0) rfl
        have bq9_1 := bq9.cell (j := 1) rfl
        have bq9_z := bq9.frozen
        have bq9_l := bq9.lt
        go_wp2_with fail
        clear bq8_0 bq8_1 bq8_z bq8_l bq9_0 bq9_1 bq9_z bq9_l
        have c1 := vHas_any _ _ x8 w61 oR.rd (by omega)
        rw [G4.out] at c1
        refine (c1).mono ?_; rintro q_ w_ ⟨rfl, rfl⟩
        clear c1
        have bq8_0 := bq8.cell (j := 0) rfl
        have bq8_1 := bq8.cell (j := 1) rfl
        have bq8_z := bq8.frozen
        have bq8_l := bq8.lt
        have bq9_0 := bq9.cell (j := 0) rfl
        have bq9_1 := bq9.cell (j := 1) rfl
        have bq9_z := bq9.frozen
        have bq9_l := bq9.lt
        go_wp2_with fail
        clear bq8_0 bq8_1 bq8_z bq8_l bq9_0 bq9_1 bq9_z bq9_l
        have c1 := implIsQueue_any _ _ _ _ w61 o9.rd p9.rd (by omega) (by omega)
        rw [G2.out] at c1
        refine (c1).mono ?_; rintro q_ w63 ⟨rfl, b_63⟩
        replace bq8 := bq8.below b_63 bq8.lt
        replace bq9 := bq9.below b_63 bq9.lt
        replace h := h.below b_63 (by omega)
        replace o8 := o8.below b_63 (by omega)
        replace p8 := p8.below b_63 (by omega)
        replace o9 := o9.below b_63 (by omega)
        replace p9 := p9.below b_63 (by omega)
        replace oP := oP.below b_63 (by omega)
        replace oR := oR.below b_63 (by omega)
        have z_64 := b_63.size
        replace hB := hB.trans (b_63.mono (by omega))
        clear b_63
        have bq8_0 := bq8.cell (j := 0) rfl
        have bq8_1 := bq8.cell (j := 1) rfl
        have bq8_z := bq8.frozen
        have bq8_l := bq8.lt
        have bq9_0 := bq9.cell (j := 0) rfl
        have bq9_1 := bq9.cell (j := 1) rfl
        have bq9_z := bq9.frozen
        have bq9_l := bq9.lt
        go_wp2_with fail
        clear bq8_0 bq8_1 bq8_z bq8_l bq9_0 bq9_1 bq9_z bq9_l
        go_ret
        exact ⟨rfl, hB⟩
    · obtain ⟨eS, eW, hgE⟩ := Qu.en_true hk
      have G1 := Lib.hid hgE
      clear hgE
      have c1 := implEndQueue_any _ _ l5 m5 x5 w33 o5.rd p5.rd (by omega) (by omega)
      rw [hk, eS, eW] at c1
      refine (c1).mono ?_; rintro q_ w35 ⟨v6, u6, rfl, o6, p6, b_35⟩
      replace bq5 := bq5.below b_35 bq5.lt
      replace h := h.below b_35 (by omega)
      replace o5 := o5.below b_35 (by omega)
      replace p5 := p5.below b_35 (by omega)
      have z_36 := b_35.size
      replace hB := hB.trans (b_35.mono (by omega))
      clear b_35
      obtain ⟨A6, k6, c6, rfl, _, _, _⟩ := o6.rd.form
      obtain ⟨B6, j6, e6, rfl, _, _, _⟩ := p6.rd.form
      clear c1
      have bq5_0 := bq5.cell (j := 0) rfl
      have bq5_1 := bq5.cell (j := 1) rfl
      have bq5_z := bq5.frozen
      have bq5_l := bq5.lt
      go_wp2_with fail
      clear bq5_0 bq5_1 bq5_z bq5_l
      have b_37 := (Below.refl w35.heap.size w35).alloc (Nat.le_refl _) (.cells #[.slice A6 k6 c6, .slice B6 j6 e6] 27)
      have bq6 := Box.new w35 #[.slice A6 k6 c6, .slice B6 j6 e6] 27 rfl
      replace bq5 := bq5.below b_37 bq5.lt
      replace h := h.below b_37 (by omega)
      replace o5 := o5.below b_37 (by omega)
      replace p5 := p5.below b_37 (by omega)
      replace o6 := o6.below b_37 (by omega)
      replace p6 := p6.below b_37 (by omega)
      have z_38 := b_37.size
      replace hB := hB.trans (b_37.mono (by omega))
      clear b_37
      generalize w35.alloc _ = w37 at *
      generalize w35.heap.size = g37 at *
      have c1 := specEndQueue_any _ _ l5 m5 x5 w37 o5.rd p5.rd (by omega) (by omega)
      rw [hk, eS, eW] at c1
      refine (c1).mono ?_; rintro q_ w39 ⟨v7, u7, rfl, o7, p7, b_39⟩
      replace bq5 := bq5.below b_39 bq5.lt
      replace bq6 := bq6.below b_39 bq6.lt
      replace h := h.below b_39 (by omega)
      replace o5 := o5.below b_39 (by omega)
      replace p5 := p5.below b_39 (by omega)
      replace o6 := o6.below b_39 (by omega)
      replace p6 := p6.below b_39 (by omega)
      have z_40 := b_39.size
      replace hB := hB.trans (b_39.mono (by omega))
      clear b_39
      obtain ⟨A7, k7, c7, rfl, _, _, _⟩ := o7.rd.form
      obtain ⟨B7, j7, e7, rfl, _, _, _⟩ := p7.rd.form
      clear c1 hk eS eW
      have bq5_0 := bq5.cell (j := 0) rfl
      have bq5_1 := bq5.cell (j := 1) rfl
      have bq5_z := bq5.frozen
      have bq5_l := bq5.lt
      have bq6_0 := bq6.cell (j := 0) rfl
      have bq6_1 := bq6.cell (j := 1) rfl
      have bq6_z := bq6.frozen
      have bq6_l := bq6.lt
      go_wp2_with fail
      clear bq5_0 bq5_1 bq5_z bq5_l bq6_0 bq6_1 bq6_z bq6_l
      have b_41 := (Below.refl w39.heap.size w39).alloc (Nat.le_refl _) (.cells #[.slice A7 k7 c7, .slice B7 j7 e7] 27)
      have bq7 := Box.new w39 #[.slice A7 k7 c7, .slice B7 j7 e7] 27 rfl
      replace bq5 := bq5.below b_41 bq5.lt
      replace bq6 := bq6.below b_41 bq6.lt
      replace h := h.below b_41 (by omega)
      replace o5 := o5.below b_41 (by omega)
      replace p5 := p5.below b_41 (by omega)
      replace o6 := o6.below b_41 (by omega)
      replace p6 := p6.below b_41 (by omega)
      replace o7 := o7.below b_41 (by omega)
      replace p7 := p7.below b_41 (by omega)
      have z_42 := b_41.size
      replace hB := hB.trans (b_41.mono (by omega))
      clear b_41
      generalize w39.alloc _ = w41 at *
      generalize w39.heap.size = g41 at *
      refine (vQueue_same _ _ _ _ _ _ w41 o6.rd p6.rd o7.rd p7.rd (by omega) (by omega) (by omega) (by omega)).mono ?_; rintro q_ w43 ⟨rfl, b_43⟩
      replace bq5 := bq5.below b_43 bq5.lt
      replace bq6 := bq6.below b_43 bq6.lt
      replace bq7 := bq7.below b_43 bq7.lt
      replace h := h.below b_43 (by omega)
      replace o5 := o5.below b_43 (by omega)
      replace p5 := p5.below b_43 (by omega)
      replace o6 := o6.below b_43 (by omega)
      replace p6 := p6.below b_43 (by omega)
      replace o7 := o7.below b_43 (by omega)
      replace p7 := p7.below b_43 (by omega)
      have z_44 := b_43.size
      replace hB := hB.trans (b_43.mono (by omega))
      clear b_43
      have bq5_0 := bq5.cell (j := 0) rfl
      have bq5_1 := bq5.cell (j := 1) rfl
      have bq5_z := bq5.frozen
      have bq5_l := bq5.lt
      have bq6_0 := bq6.cell (j := 0) rfl
      have bq6_1 := bq6.cell (j := 1) rfl
      have bq6_z := bq6.frozen
      have bq6_l := bq6.lt
      have bq7_0 := bq7.cell (j := 0) rfl
      have bq7_1 := bq7.cell (j := 1) rfl
      have bq7_z := bq7.frozen
      have bq7_l := bq7.lt
      go_wp2_with fail
      clear bq5_0 bq5_1 bq5_z bq5_l bq6_0 bq6_1 bq6_z bq6_l bq7_0 bq7_1 bq7_z bq7_l
      have c1 := implIsQueue_any _ _ _ _ w43 o6.rd p6.rd (by omega) (by omega)
      rw [G1.out] at c1
      refine (c1).mono ?_; rintro q_ w45 ⟨rfl, b_45⟩
      replace bq5 := bq5.below b_45 bq5.lt
      replace bq6 := bq6.below b_45 bq6.lt
      replace bq7 := bq7.below b_45 bq7.lt
      replace h := h.below b_45 (by omega)
      replace o5 := o5.below b_45 (by omega)
      replace p5 := p5.below b_45 (by omega)
      replace o6 := o6.below b_45 (by omega)
      replace p6 := p6.below b_45 (by omega)
      replace o7 := o7.below b_45 (by omega)
      replace p7 := p7.below b_45 (by omega)
      have z_46 := b_45.size
      replace hB := hB.trans (b_45.mono (by omega))
      clear b_45
      clear c1 G1
      have bq5_0 := bq5.cell (j := 0) rfl
      have bq5_1 := bq5.cell (j := 1) rfl
      have bq5_z := bq5.frozen
      have bq5_l := bq5.lt
      have bq6_0 := bq6.cell (j := 0) rfl
      have bq6_1 := bq6.cell (j := 1) rfl
      have bq6_z := bq6.frozen
      have bq6_l := bq6.lt
      have bq7_0 := bq7.cell (j := 0) rfl
      have bq7_1 := bq7.cell (j := 1) rfl
      have bq7_z := bq7.frozen
      have bq7_l := bq7.lt
      go_wp2_with fail
      clear bq5_0 bq5_1 bq5_z bq5_l bq6_0 bq6_1 bq6_z bq6_l bq7_0 bq7_1 bq7_z bq7_l
      clear bq5 bq6 bq7 o5 p5 o6 p6 o7 p7
      refine (DrawWithdrawIrq_any cv l w45 h (by omega)).mono ?_; rintro q_ w47 ⟨v8, u8, l8, m8, x8, rfl, hl8, hm8, o8, p8, b_47⟩
      replace h := h.below b_47 (by omega)
      have z_48 := b_47.size
      replace hB := hB.trans (b_47.mono (by omega))
      clear b_47
      obtain ⟨A8, k8, c8, rfl, _, _, _⟩ := o8.rd.form
      obtain ⟨B8, j8, e8, rfl, _, _, _⟩ := p8.rd.form
      go_wp2_with fail
      have b_49 := (Below.refl w47.heap.size w47).alloc (Nat.le_refl _) (.cells #[.slice A8 k8 c8, .slice B8 j8 e8] 27)
      have bq8 := Box.new w47 #[.slice A8 k8 c8, .slice B8 j8 e8] 27 rfl
      replace h := h.below b_49 (by omega)
      replace o8 := o8.below b_49 (by omega)
      replace p8 := p8.below b_49 (by omega)
      have z_50 := b_49.size
      replace hB := hB.trans (b_49.mono (by omega))
      clear b_49
      generalize w47.alloc _ = w49 at *
      generalize w47.heap.size = g49 at *
      cases hk : Qu.wiOk l8 m8 x8
      · have c1 := implWithdrawIrq_any _ _ l8 m8 x8 w49 o8.rd p8.rd (by omega) (by omega)
        rw [hk] at c1
        refine (c1).mono ?_; rintro q_ w51 ⟨v9, u9, rfl, o9, p9, b_51⟩
        replace bq8 := bq8.below b_51 bq8.lt
        replace h := h.below b_51 (by omega)
        replace o8 := o8.below b_51 (by omega)
        replace p8 := p8.below b_51 (by omega)
        have z_52 := b_51.size
        replace hB := hB.trans (b_51.mono (by omega))
        clear b_51
        obtain ⟨A9, k9, c9, rfl, _, _, _⟩ := o9.rd.form
        obtain ⟨B9, j9, e9, rfl, _, _, _⟩ := p9.rd.form
        clear c1
        have bq8_0 := bq8.cell (j := 0) rfl
        have bq8_1 := bq8.cell (j := 1) rfl
        have bq8_z := bq8.frozen
        have bq8_l := bq8.lt
        go_wp2_with fail
        clear bq8_0 bq8_1 bq8_z bq8_l
        have b_53 := (Below.refl w51.heap.size w51).alloc (Nat.le_refl _) (.cells #[.slice A9 k9 c9, .slice B9 j9 e9] 27)
        have bq9 := Box.new w51 #[.slice A9 k9 c9, .slice B9 j9 e9] 27 rfl
        replace bq8 := bq8.below b_53 bq8.lt
        replace h := h.below b_53 (by omega)
        replace o8 := o8.below b_53 (by omega)
        replace p8 := p8.below b_53 (by omega)
        replace o9 := o9.below b_53 (by omega)
        replace p9 := p9.below b_53 (by omega)
        have z_54 := b_53.size
        replace hB := hB.trans (b_53.mono (by omega))
        clear b_53
        generalize w51.alloc _ = w53 at *
        generalize w51.heap.size = g53 at *
        have c1 := specWithdrawIrq_any _ _ l8 m8 x8 w53 o8.rd p8.rd (by omega) (by omega)
        rw [hk] at c1
        refine (c1).mono ?_; rintro q_ w55 ⟨v10, u10, rfl, o10, p10, b_55⟩
        replace bq8 := bq8.below b_55 bq8.lt
        replace bq9 := bq9.below b_55 bq9.lt
        replace h := h.below b_55 (by omega)
        replace o8 := o8.below b_55 (by omega)
        replace p8 := p8.below b_55 (by omega)
        replace o9 := o9.below b_55 (by omega)
        replace p9 := p9.below b_55 (by omega)
        have z_56 := b_55.size
        replace hB := hB.trans (b_55.mono (by omega))
        clear b_55
        obtain ⟨A10, k10, c10, rfl, _, _, _⟩ := o10.rd.form
        obtain ⟨B10, j10, e10, rfl, _, _, _⟩ := p10.rd.form
        clear c1
        have bq8_0 := bq8.cell (j := 0) rfl
        have bq8_1 := bq8.cell (j := 1) rfl
        have bq8_z := bq8.frozen
        have bq8_l := bq8.lt
        have bq9_0 := bq9.cell (j := 0) rfl
        have bq9_1 := bq9.cell (j := 1) rfl
        have bq9_z := bq9.frozen
        have bq9_l := bq9.lt
        go_wp2_with fail
        clear bq8_0 bq8_1 bq8_z bq8_l bq9_0 bq9_1 bq9_z bq9_l
        have b_57 := (Below.refl w55.heap.size w55).alloc (Nat.le_refl _) (.cells #[.slice A10 k10 c10, .slice B10 j10 e10] 27)
        have bq10 := Box.new w55 #[.slice A10 k10 c10, .slice B10 j10 e10] 27 rfl
        replace bq8 := bq8.below b_57 bq8.lt
        replace bq9 := bq9.below b_57 bq9.lt
        replace h := h.below b_57 (by omega)
        replace o8 := o8.below b_57 (by omega)
        replace p8 := p8.below b_57 (by omega)
        replace o9 := o9.below b_57 (by omega)
        replace p9 := p9.below b_57 (by omega)
        replace o10 := o10.below b_57 (by omega)
        replace p10 := p10.below b_57 (by omega)
        have z_58 := b_57.size
        replace hB := hB.trans (b_57.mono (by omega))
        clear b_57
        generalize w55.alloc _ = w57 at *
        generalize w55.heap.size = g57 at *
        refine (vQueue_same _ _ _ _ _ _ w57 o9.rd p9.rd o10.rd p10.rd (by omega) (by omega) (by omega) (by omega)).mono ?_; rintro q_ w59 ⟨rfl, b_59⟩
        replace bq8 := bq8.below b_59 bq8.lt
        replace bq9 := bq9.below b_59 bq9.lt
        replace bq10 := bq10.below b_59 bq10.lt
        replace h := h.below b_59 (by omega)
        replace o8 := o8.below b_59 (by omega)
        replace p8 := p8.below b_59 (by omega)
        replace o9 := o9.below b_59 (by omega)
        replace p9 := p9.below b_59 (by omega)
        replace o10 := o10.below b_59 (by omega)
        replace p10 := p10.below b_59 (by omega)
        have z_60 := b_59.size
        replace hB := hB.trans (b_59.mono (by omega))
        clear b_59
        clear bq10 o10 p10
        cases hq : Qu.good l8 m8
        · have bq8_0 := bq8.cell (j := 0) rfl
          have bq8_1 := bq8.cell (j := 1) rfl
          have bq8_z := bq8.frozen
          have bq8_l := bq8.lt
          have bq9_0 := bq9.cell (j := 0) rfl
          have bq9_1 := bq9.cell (j := 1) rfl
          have bq9_z := bq9.frozen
          have bq9_l := bq9.lt
          go_wp2_with fail
          clear bq8_0 bq8_1 bq8_z bq8_l bq9_0 bq9_1 bq9_z bq9_l
          have c1 := implPendingIrqs_any _ _ l8 m8 w59 o8.rd p8.rd (by omega) (by omega)
          rw [hq] at c1
          refine (c1).mono ?_; rintro q_ w61 ⟨vP, rfl, oP, b_61⟩
          replace bq8 := bq8.below b_61 bq8.lt
          replace bq9 := bq9.below b_61 bq9.lt
          replace h := h.below b_61 (by omega)
          replace o8 := o8.below b_61 (by omega)
          replace p8 := p8.below b_61 (by omega)
          replace o9 := o9.below b_61 (by omega)
          replace p9 := p9.below b_61 (by omega)
          have z_62 := b_61.size
          replace hB := hB.trans (b_61.mono (by omega))
          clear b_61
          clear c1
          clear hq hk
          have bq8_0 := bq8.cell (j := 0) rfl
          have bq8_1 := bq8.cell (j := 1) rfl
          have bq8_z := bq8.frozen
          have bq8_l := bq8.lt
          have bq9_0 := bq9.cell (j := 0) rfl
          have bq9_1 := bq9.cell (j := 1) rfl
          have bq9_z := bq9.frozen
          have bq9_l := bq9.lt
          go_wp2_with fail
          clear bq8_0 bq8_1 bq8_z bq8_l bq9_0 bq9_1 bq9_z bq9_l
          go_ret
          exact ⟨rfl, hB⟩
        · have G1 := Lib.hid hq
          by_cases hx0 : 0 ≤ x8
          rotate_left
          · have hx0b : decide (0 ≤ x8) = false := decide_eq_false hx0
            have bq8_0 := bq8.cell (j := 0) rfl
            have bq8_1 := bq8.cell (j := 1) rfl
            have bq8_z := bq8.frozen
            have bq8_l := bq8.lt
            have bq9_0 := bq9.cell (j := 0) rfl
            have bq9_1 := bq9.cell (j := 1) rfl
            have bq9_z := bq9.frozen
            have bq9_l := bq9.lt
            go_wp2_with fail
            clear bq8_0 bq8_1 bq8_z bq8_l bq9_0 bq9_1 bq9_z bq9_l
            have c1 := implPendingIrqs_any _ _ l8 m8 w59 o8.rd p8.rd (by omega) (by omega)
            rw [G1.out, Qu.pe_irqs G1.out] at c1
            refine (c1).mono ?_; rintro q_ w61 ⟨vP, rfl, oP, b_61⟩
            replace bq8 := bq8.below b_61 bq8.lt
            replace bq9 := bq9.below b_61 bq9.lt
            replace h := h.below b_61 (by omega)
            replace o8 := o8.below b_61 (by omega)
            replace p8 := p8.below b_61 (by omega)
            replace o9 := o9.below b_61 (by omega)
            replace p9 := p9.below b_61 (by omega)
            have z_62 := b_61.size
            replace hB := hB.trans (b_61.mono (by omega))
            clear b_61
            clear c1
            clear hq hk
            have bq8_0 := bq8.cell (j := 0) rfl
            have bq8_1 := bq8.cell (j := 1) rfl
            have bq8_z := bq8.frozen
            have bq8_l := bq8.lt
            have bq9_0 := bq9.cell (j := 0) rfl
            have bq9_1 := bq9.cell (j := 1) rfl
            have bq9_z := bq9.frozen
            have bq9_l := bq9.lt
            go_wp2_with fail
            clear bq8_0 bq8_1 bq8_z bq8_l bq9_0 bq9_1 bq9_z bq9_l
            go_ret
            exact ⟨rfl, hB⟩
          by_cases hx7 : x8 < 8
          rotate_left
          · have hx0b : decide (0 ≤ x8) = true := decide_eq_true hx0
            have hx7b : decide (x8 < 8) = false := decide_eq_false hx7
            have bq8_0 := bq8.cell (j := 0) rfl
            have bq8_1 := bq8.cell (j := 1) rfl
            have bq8_z := bq8.frozen
            have bq8_l := bq8.lt
            have bq9_0 := bq9.cell (j := 0) rfl
            have bq9_1 := bq9.cell (j := 1) rfl
            have bq9_z := bq9.frozen
            have bq9_l := bq9.lt
            go_wp2_with fail
            clear bq8_0 bq8_1 bq8_z bq8_l bq9_0 bq9_1 bq9_z bq9_l
            have c1 := implPendingIrqs_any _ _ l8 m8 w59 o8.rd p8.rd (by omega) (by omega)
            rw [G1.out, Qu.pe_irqs G1.out] at c1
            refine (c1).mono ?_; rintro q_ w61 ⟨vP, rfl, oP, b_61⟩
            replace bq8 := bq8.below b_61 bq8.lt
            replace bq9 := bq9.below b_61 bq9.lt
            replace h := h.below b_61 (by omega)
            replace o8 := o8.below b_61 (by omega)
            replace p8 := p8.below b_61 (by omega)
            replace o9 := o9.below b_61 (by omega)
            replace p9 := p9.below b_61 (by omega)
            have z_62 := b_61.size
            replace hB := hB.trans (b_61.mono (by omega))
            clear b_61
            clear c1
            clear hq hk
            have bq8_0 := bq8.cell (j := 0) rfl
            have bq8_1 := bq8.cell (j := 1) rfl
            have bq8_z := bq8.frozen
            have bq8_l := bq8.lt
            have bq9_0 := bq9.cell (j := 0) rfl
            have bq9_1 := bq9.cell (j := 1) rfl
            have bq9_z := bq9.frozen
            have bq9_l := bq9.lt
            go_wp2_with fail
            clear bq8_0 bq8_1 bq8_z bq8_l bq9_0 bq9_1 bq9_z bq9_l
            go_ret
            exact ⟨rfl, hB⟩
          · have hx0b : decide (0 ≤ x8) = true := decide_eq_true hx0
            have hx7b : decide (x8 < 8) = true := decide_eq_true hx7
            have G5 := Lib.hid (Qu.wi_not hk hq (by omega))
            have bq8_0 := bq8.cell (j := 0) rfl
            have bq8_1 := bq8.cell (j := 1) rfl
            have bq8_z := bq8.frozen
            have bq8_l := bq8.lt
            have bq9_0 := bq9.cell (j := 0) rfl
            have bq9_1 := bq9.cell (j := 1) rfl
            have bq9_z := bq9.frozen
            have bq9_l := bq9.lt
            go_wp2_with fail
            clear bq8_0 bq8_1 bq8_z bq8_l bq9_0 bq9_1 bq9_z bq9_l
            have c1 := implPendingIrqs_any _ _ l8 m8 w59 o8.rd p8.rd (by omega) (by omega)
            rw [G1.out, Qu.pe_irqs G1.out] at c1
            refine (c1).mono ?_; rintro q_ w61 ⟨vP, rfl, oP, b_61⟩
            replace bq8 := bq8.below b_61 bq8.lt
            replace bq9 := bq9.below b_61 bq9.lt
            replace h := h.below b_61 (by omega)
            replace o8 := o8.below b_61 (by omega)
            replace p8 := p8.below b_61 (by omega)
            replace o9 := o9.below b_61 (by omega)
            replace p9 := p9.below b_61 (by omega)
            have z_62 := b_61.size
            replace hB := hB.trans (b_61.mono (by omega))
            clear b_61
            clear c1
            clear hq hk
            have bq8_0 := bq8.cell (j := 0) rfl
            have bq8_1 := bq8.cell (j := 1) rfl
            have bq8_z := bq8.frozen
            have bq8_l := bq8.lt
            have bq9_0 := bq9.cell (j := 0) rfl
            have bq9_1 := bq9.cell (j := 1) rfl
            have bq9_z := bq9.frozen
            have bq9_l := bq9.lt
            go_wp2_with fail
            clear bq8_0 bq8_1 bq8_z bq8_l bq9_0 bq9_1 bq9_z bq9_l
            have c1 := vHas_any _ _ x8 w61 oP.rd (by omega)
            rw [G5.out] at c1
            refine (c1).mono ?_; rintro q_ w_ ⟨rfl, rfl⟩
            clear c1
            have bq8_0 := bq8.cell (j := 0) rfl
            have bq8_1 := bq8.cell (j := 1) rfl
            have bq8_z := bq8.frozen
            have bq8_l := bq8.lt
            have bq9_0 := bq9.cell (j := 0) rfl
            have bq9_1 := bq9.cell (j := 1) rfl
            have bq9_z := bq9.frozen
            have bq9_l := bq9.lt
            go_wp2_with fail
            clear bq8_0 bq8_1 bq8_z bq8_l bq9_0 bq9_1 bq9_z bq9_l
            go_ret
            exact ⟨rfl, hB⟩
      · obtain ⟨hq, hir, hh0, eS, eW, hgP, hlen, hno⟩ := Qu.wi_all hk
        have G1 := Lib.hid hq
        have G2 := Lib.hid hgP
        have G3 := Lib.hid hlen
        have G4 := Lib.hid hno
        have G5 := Lib.hid hh0
        have hx0 : decide (0 ≤ x8) = true := decide_eq_true hir.1
        have hx7 : decide (x8 < 8) = true := decide_eq_true (by omega)
        clear hq hgP hlen hno hh0 hir
        have c1 := implWithdrawIrq_any _ _ l8 m8 x8 w49 o8.rd p8.rd (by omega) (by omega)
        rw [hk, eS, eW] at c1
        refine (c1).mono ?_; rintro q_ w51 ⟨v9, u9, rfl, o9, p9, b_51⟩
        replace bq8 := bq8.below b_51 bq8.lt
        replace h := h.below b_51 (by omega)
        replace o8 := o8.below b_51 (by omega)
        replace p8 := p8.below b_51 (by omega)
        have z_52 := b_51.size
        replace hB := hB.trans (b_51.mono (by omega))
        clear b_51
        obtain ⟨A9, k9, c9, rfl, _, _, _⟩ := o9.rd.form
        obtain ⟨B9, j9, e9, rfl, _, _, _⟩ := p9.rd.form
        clear c1
        have bq8_0 := bq8.cell (j := 0) rfl
        have bq8_1 := bq8.cell (j := 1) rfl
        have bq8_z := bq8.frozen
        have bq8_l := bq8.lt
        go_wp2_with fail
        clear bq8_0 bq8_1 bq8_z bq8_l
        have b_53 := (Below.refl w51.heap.size w51).alloc (Nat.le_refl _) (.cells #[.slice A9 k9 c9, .slice B9 j9 e9] 27)
        have bq9 := Box.new w51 #[.slice A9 k9 c9, .slice B9 j9 e9] 27 rfl
        replace bq8 := bq8.below b_53 bq8.lt
        replace h := h.below b_53 (by omega)
        replace o8 := o8.below b_53 (by omega)
        replace p8 := p8.below b_53 (by omega)
        replace o9 := o9.below b_53 (by omega)
        replace p9 := p9.below b_53 (by omega)
        have z_54 := b_53.size
        replace hB := hB.trans (b_53.mono (by omega))
        clear b_53
        generalize w51.alloc _ = w53 at *
        generalize w51.heap.size = g53 at *
        have c1 := specWithdrawIrq_any _ _ l8 m8 x8 w53 o8.rd p8.rd (by omega) (by omega)
        rw [hk, eS, eW] at c1
        refine (c1).mono ?_; rintro q_ w55 ⟨v10, u10, rfl, o10, p10, b_55⟩
        replace bq8 := bq8.below b_55 bq8.lt
        replace bq9 := bq9.below b_55 bq9.lt
        replace h := h.below b_55 (by omega)
        replace o8 := o8.below b_55 (by omega)
        replace p8 := p8.below b_55 (by omega)
        replace o9 := o9.below b_55 (by omega)
        replace p9 := p9.below b_55 (by omega)
        have z_56 := b_55.size
        replace hB := hB.trans (b_55.mono (by omega))
        clear b_55
        obtain ⟨A10, k10, c10, rfl, _, _, _⟩ := o10.rd.form
        obtain ⟨B10, j10, e10, rfl, _, _, _⟩ := p10.rd.form
        clear c1 eS eW hk
        have bq8_0 := bq8.cell (j := 0) rfl
        have bq8_1 := bq8.cell (j := 1) rfl
        have bq8_z := bq8.frozen
        have bq8_l := bq8.lt
        have bq9_0 := bq9.cell (j := 0) rfl
        have bq9_1 := bq9.cell (j := 1) rfl
        have bq9_z := bq9.frozen
        have bq9_l := bq9.lt
        go_wp2_with fail
        clear bq8_0 bq8_1 bq8_z bq8_l bq9_0 bq9_1 bq9_z bq9_l
        have b_57 := (Below.refl w55.heap.size w55).alloc (Nat.le_refl _) (.cells #[.slice A10 k10 c10, .slice B10 j10 e10] 27)
        have bq10 := Box.new w55 #[.slice A10 k10 c10, .slice B10 j10 e10] 27 rfl
        replace bq8 := bq8.below b_57 bq8.lt
        replace bq9 := bq9.below b_57 bq9.lt
        replace h := h.below b_57 (by omega)
        replace o8 := o8.below b_57 (by omega)
        replace p8 := p8.below b_57 (by omega)
        replace o9 := o9.below b_57 (by omega)
        replace p9 := p9.below b_57 (by omega)
        replace o10 := o10.below b_57 (by omega)
        replace p10 := p10.below b_57 (by omega)
        have z_58 := b_57.size
        replace hB := hB.trans (b_57.mono (by omega))
        clear b_57
        generalize w55.alloc _ = w57 at *
        generalize w55.heap.size = g57 at *
        refine (vQueue_same _ _ _ _ _ _ w57 o9.rd p9.rd o10.rd p10.rd (by omega) (by omega) (by omega) (by omega)).mono ?_; rintro q_ w59 ⟨rfl, b_59⟩
        replace bq8 := bq8.below b_59 bq8.lt
        replace bq9 := bq9.below b_59 bq9.lt
        replace bq10 := bq10.below b_59 bq10.lt
        replace h := h.below b_59 (by omega)
        replace o8 := o8.below b_59 (by omega)
        replace p8 := p8.below b_59 (by omega)
        replace o9 := o9.below b_59 (by omega)
        replace p9 := p9.below b_59 (by omega)
        replace o10 := o10.below b_59 (by omega)
        replace p10 := p10.below b_59 (by omega)
        have z_60 := b_59.size
        replace hB := hB.trans (b_59.mono (by omega))
        clear b_59
        clear bq10 o10 p10
        have bq8_0 := bq8.cell (j := 0) rfl
        have bq8_1 := bq8.cell (j := 1) rfl
        have bq8_z := bq8.frozen
        have bq8_l := bq8.lt
        have bq9_0 := bq9.cell (j := 0) rfl
        have bq9_1 := bq9.cell (j := 1) rfl
        have bq9_z := bq9.frozen
        have bq9_l := bq9.lt
        go_wp2_with fail
        clear bq8_0 bq8_1 bq8_z bq8_l bq9_0 bq9_1 bq9_z bq9_l
        have c1 := implPendingIrqs_any _ _ l8 m8 w59 o8.rd p8.rd (by omega) (by omega)
        rw [G1.out, Qu.pe_irqs G1.out] at c1
        refine (c1).mono ?_; rintro q_ w61 ⟨vP, rfl, oP, b_61⟩
        replace bq8 := bq8.below b_61 bq8.lt
        replace bq9 := bq9.below b_61 bq9.lt
        replace h := h.below b_61 (by omega)
        replace o8 := o8.below b_61 (by omega)
        replace p8 := p8.below b_61 (by omega)
        replace o9 := o9.below b_61 (by omega)
        replace p9 := p9.below b_61 (by omega)
        have z_62 := b_61.size
        replace hB := hB.trans (b_61.mono (by omega))
        clear b_61
        clear c1
        have bq8_0 := bq8.cell (j := 0) rfl
        have bq8_1 := bq8.cell (j := 1) rfl
        have bq8_z := bq8.frozen
        have bq8_l := bq8.lt
        have bq9_0 := bq9.cell (j := 0) rfl
        have bq9_1 := bq9.cell (j := 1) rfl
        have bq9_z := bq9.frozen
        have bq9_l := bq9.lt
        go_wp2_with fail
        clear bq8_0 bq8_1 bq8_z bq8_l bq9_0 bq9_1 bq9_z bq9_l
        have c1 := vHas_any _ _ x8 w61 oP.rd (by omega)
        rw [G5.out] at c1
        refine (c1).mono ?_; rintro q_ w_ ⟨rfl, rfl⟩
        clear c1
        have bq8_0 := bq8.cell (j := 0) rfl
        have bq8_1 := bq8.cell (j := 1) rfl
        have bq8_z := bq8.frozen
        have bq8_l := bq8.lt
        have bq9_0 := bq9.cell (j := 0) rfl
        have bq9_1 := bq9.cell (j := 1) rfl
        have bq9_z := bq9.frozen
        have bq9_l := bq9.lt
        go_wp2_with fail
        clear bq8_0 bq8_1 bq8_z bq8_l bq9_0 bq9_1 bq9_z bq9_l
        have c1 := implPendingIrqs_any _ _ _ _ w61 o9.rd p9.rd (by omega) (by omega)
        rw [G2.out, Qu.pe_irqs G2.out] at c1
        refine (c1).mono ?_; rintro q_ w63 ⟨vR, rfl, oR, b_63⟩
        replace bq8 := bq8.below b_63 bq8.lt
        replace bq9 := bq9.below b_63 bq9.lt
        replace h := h.below b_63 (by omega)
        replace o8 := o8.below b_63 (by omega)
        replace p8 := p8.below b_63 (by omega)
        replace o9 := o9.below b_63 (by omega)
        replace p9 := p9.below b_63 (by omega)
        replace oP := oP.below b_63 (by omega)
        have z_64 := b_63.size
        replace hB := hB.trans (b_63.mono (by omega))
        clear b_63
        clear c1
        obtain ⟨AP, nP, dP, rfl, HP, hcP, hmP⟩ := oP.rd.form
        obtain ⟨AR, nR, dR, rfl, HR, hcR, hmR⟩ := oR.rd.form
        obtain rfl : nP = nR + 1 := by rw [HP.out, HR.out]; exact G3.out.symm
        have hje : ((nR + 1 : Nat) : Int) - 1 = (nR : Int) := by omega
        have hjw : IntKind.i64.wrap (nR : Int) = (nR : Int) := IntWalk.i64_in _ (by omega)
        clear HP HR
        have bq8_0 := bq8.cell (j := 0) rfl
        have bq8_1 := bq8.cell (j := 1) rfl
        have bq8_z := bq8.frozen
        have bq8_l := bq8.lt
        have bq9_0 := bq9.cell (j := 0) rfl
        have bq9_1 := bq9.cell (j := 1) rfl
        have bq9_z := bq9.frozen
        have bq9_l := bq9.lt
        go_wp2_with fail
        clear bq8_0 bq8_1 bq8_z bq8_l bq9_0 bq9_1 bq9_z bq9_l
        have c1 := vHas_any _ _ x8 w63 oR.rd (by omega)
        rw [G4.out] at c1
        refine (c1).mono ?_; rintro q_ w_ ⟨rfl, rfl⟩
        clear c1
        have bq8_0 := bq8.cell (j := 0) rfl
        have bq8_1 := bq8.cell (j := 1) rfl
        have bq8_z := bq8.frozen
        have bq8_l := bq8.lt
        have bq9_0 := bq9.cell (j := 0) rfl
        have bq9_1 := bq9.cell (j := 1) rfl
        have bq9_z := bq9.frozen
        have bq9_l := bq9.lt
        go_wp2_with fail
        clear bq8_0 bq8_1 bq8_z bq8_l bq9_0 bq9_1 bq9_z bq9_l
        have c1 := implIsQueue_any _ _ _ _ w63 o9.rd p9.rd (by omega) (by omega)
        rw [G2.out] at c1
        refine (c1).mono ?_; rintro q_ w65 ⟨rfl, b_65⟩
        replace bq8 := bq8.below b_65 bq8.lt
        replace bq9 := bq9.below b_65 bq9.lt
        replace h := h.below b_65 (by omega)
        replace o8 := o8.below b_65 (by omega)
        replace p8 := p8.below b_65 (by omega)
        replace o9 := o9.below b_65 (by omega)
        replace p9 := p9.below b_65 (by omega)
        replace oP := oP.below b_65 (by omega)
        replace oR := oR.below b_65 (by omega)
        have z_66 := b_65.size
        replace hB := hB.trans (b_65.mono (by omega))
        clear b_65
        have bq8_0 := bq8.cell (j := 0) rfl
        have bq8_1 := bq8.cell (j := 1) rfl
        have bq8_z := bq8.frozen
        have bq8_l := bq8.lt
        have bq9_0 := bq9.cell (j := 0) rfl
        have bq9_1 := bq9.cell (j := 1) rfl
        have bq9_z := bq9.frozen
        have bq9_l := bq9.lt
        go_wp2_with fail
        clear bq8_0 bq8_1 bq8_z bq8_l bq9_0 bq9_1 bq9_z bq9_l
        go_ret
        exact ⟨rfl, hB⟩

set_option maxRecDepth 100000 in
theorem FnQueueSteps_holds : Rows.FnQueueStepsSaid :=
  OpenClaim.holds_of_wide 4 Tryz.f4 rfl rfl rfl rfl rfl rfl rfl ⟨rfl, rfl, rfl, rfl, rfl⟩ rfl rfl rfl rfl rfl (by kernel_rfl) Tryz.func4 (by kernel_rfl)
    (of_decide_eq_true (by kernel_rfl)) (by unfold Func.isWrapper; first | (rw [if_pos (by decide +kernel)]; kernel_rfl) | (rw [if_neg (by decide +kernel)]; exact ⟨rfl, rfl⟩))
    (fun os started H enc _ => law_lifted (C := Tryz.checked) (s := Rows.fnQueueStepsSpec) own started (by kernel_rfl) Tryz.func4
      (ChangeSpec.witness6 (enc := enc) (C := Tryz.checked) false ⟨#[], #[.slice none 0 0], []⟩ 8 (by kernel_rfl) (by kernel_rfl) (by kernel_rfl) (by kernel_rfl))
      laidOut (by kernel_rfl) rfl rfl Tryz.underlying4 (fun ds h => by match ds, h with | [_], _ => rfl)
      (fun W base args ds p hval0 hA0 => by
        have hval : ∀ (j : Nat) t v, Tryz.f4.params[j]? = some t → args[j]? = some v → Value.okWide Tryz.prog W .any base t v := hval0
        have hA : DataW.TrodAll enc Tryz.prog W 0 (fun _ => true) true Tryz.f4.params.toList args.toList ds p := hA0
        rw [Tryz.params4] at hA hval
        obtain ⟨v0, vs0, d0, ds0, p0, q0, hargs, rfl, rfl, h0, r0⟩ := trodAll_cons hA
        obtain ⟨rfl, rfl, rfl⟩ := trodAll_nil r0
        obtain rfl : args = #[v0] := by cases args; simp_all
        obtain ⟨l, k0⟩ := By.openS (hval 0 22 v0 rfl rfl) h0
        exact FnQueueSteps_walk v0 l W k0))

end Go.Proofs.YtfpaafmckeeecaaGreat
