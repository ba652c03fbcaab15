/- 'RunOps' of the program and of the reference agree for all arguments, and the program's results share no memory with its arguments. No condition. -/
import Derived.Test.YtengaccnncnipaaGreatMcRunOpsF
namespace Go.Proofs.YtengaccnncnipaaGreat
open Go.RowKit Go.ChangeShapes Go.WideShapes Go.Deep

set_option maxRecDepth 16000 in
set_option maxHeartbeats 16000000 in
theorem RunOps_walk (m : Int) (vt vs vw : Value) (st : List Int) (ls : List Sl) (lw : List Wt) (vo : Value) (ops : List Op_) (w : World) (h0 : Rd Nm.cells 1 w 0 w.heap.size vt st) (h : Rd Sl.cells 3 w 0 w.heap.size vs ls) (h2 : Rd Wt.cells 2 w 0 w.heap.size vw lw) (h4 : Rd Op_.cells 3 w 0 w.heap.size vo ops) :
    Calls Tryz.prog 7 #[.agg #[.int .i64 m, vt, vs, vw], vo] w fun e w' => e = .returned (.bool true) ∧ Below w.heap.size w w' := by
  have b0 := (Below.refl w.heap.size w).alloc (Nat.le_refl _) (.cells #[.int .i64 m, vt, vs, vw] 28)
  have z0 : (w.alloc (.cells #[.int .i64 m, vt, vs, vw] 28)).heap.size = w.heap.size + 1 := by simp
  have bA := Box.new w #[.int .i64 m, vt, vs, vw] 28 rfl
  have ht := h0.below b0 (Nat.le_refl _)
  have hs := h.below b0 (Nat.le_refl _)
  have hw := h2.below b0 (Nat.le_refl _)
  have hv0_ := h0.form
  have hv_ := h.form
  have hv2_ := h2.form
  have ho4 := h4.below b0 (Nat.le_refl _)
  have hv4_ := h4.form
  clear h0 h h2 h4
  generalize hwA : w.alloc (.cells #[.int .i64 m, vt, vs, vw] 28) = wA at *
  obtain ⟨At, nt, dt, rfl, _, _, _⟩ := hv0_
  obtain ⟨A0, n0, d0, rfl, _, _, _⟩ := hv_
  obtain ⟨A1, n1, d1, rfl, _, _, _⟩ := hv2_
  obtain ⟨Ao, no, do_, rfl, _, _, _⟩ := hv4_
  go_enter Tryz.func7, Tryz.ntmps7
  have bA_0 := bA.cell (j := 0) rfl
  have bA_1 := bA.cell (j := 1) rfl
  have bA_2 := bA.cell (j := 2) rfl
  have bA_3 := bA.cell (j := 3) rfl
  have bA_z := bA.frozen
  have bA_l := bA.lt
  go_wp2_with fail
  clear hwA
  clear bA_0 bA_1 bA_2 bA_3 bA_z bA_l
  refine (szFace_any m _ _ _ st ls lw wA ht hs hw (by omega) (by omega) (by omega)).mono ?_; rintro q_ w1 ⟨q, rfl, hq, b_1⟩
  replace bA := bA.below b_1 bA.lt
  replace ht := ht.below b_1 (by omega)
  replace hs := hs.below b_1 (by omega)
  replace hw := hw.below b_1 (by omega)
  replace ho4 := ho4.below b_1 (by omega)
  have z_2 := b_1.size
  replace b0 := b0.trans (b_1.mono (by omega))
  clear b_1
  rcases hq with rfl | ⟨hq0, hq1⟩
  · have bA_0 := bA.cell (j := 0) rfl
    have bA_1 := bA.cell (j := 1) rfl
    have bA_2 := bA.cell (j := 2) rfl
    have bA_3 := bA.cell (j := 3) rfl
    have bA_z := bA.frozen
    have bA_l := bA.lt
    go_wp2_with fail
    clear bA_0 bA_1 bA_2 bA_3 bA_z bA_l
    go_ret
    exact ⟨rfl, b0⟩
  have zt : st.length ≤ 1048576 := by omega
  have zs : ls.length ≤ 1048576 := by omega
  have zw : lw.length ≤ 1048576 := by omega
  have hqd : decide (q < 0) = false := decide_eq_false (by omega)
  have hq2 := hq1.2
  clear hq1
  have bA_0 := bA.cell (j := 0) rfl
  have bA_1 := bA.cell (j := 1) rfl
  have bA_2 := bA.cell (j := 2) rfl
  have bA_3 := bA.cell (j := 3) rfl
  have bA_z := bA.frozen
  have bA_l := bA.lt
  go_wp2_with fail
  clear bA_0 bA_1 bA_2 bA_3 bA_z bA_l
  by_cases hz4 : (ops.length : Int) ≤ q
  rotate_left
  · have c4 := Op_.szS_any _ ops w1 ho4 q hq0 hq2
    rw [szL_no (by omega)] at c4
    refine (c4).mono ?_; rintro q_ w_ ⟨rfl, rfl⟩
    have bA_0 := bA.cell (j := 0) rfl
    have bA_1 := bA.cell (j := 1) rfl
    have bA_2 := bA.cell (j := 2) rfl
    have bA_3 := bA.cell (j := 3) rfl
    have bA_z := bA.frozen
    have bA_l := bA.lt
    go_wp2_with fail
    clear bA_0 bA_1 bA_2 bA_3 bA_z bA_l
    go_ret
    exact ⟨rfl, b0⟩
  have zo : ops.length ≤ 1048576 := by omega
  have c4 := Op_.szS_any _ ops w1 ho4 q hq0 hq2
  rw [szL_yes hz4] at c4
  have hz4d : decide (q - (ops.length : Int) < 0) = false := decide_eq_false (by omega)
  have zz0 : ((FS.roS ⟨m, st, ls, lw⟩ ops).st).length ≤ 1048576 := (FS.roS_len _ _).1
  have zz1 : ((FS.roS ⟨m, st, ls, lw⟩ ops).ls).length ≤ 1048576 := (FS.roS_len _ _).2.1
  have zz2 : ((FS.roS ⟨m, st, ls, lw⟩ ops).lw).length ≤ 1048576 := (FS.roS_len _ _).2.2.1
  have zz3 : (FS.roT ⟨m, st, ls, lw⟩ ops).length ≤ 1048576 := (FS.roS_len _ _).2.2.2
  have kd1 : decide ((1 : Int) + ((st).length : Int) + 3 * ((ls).length : Int) + 2 * ((lw).length : Int) + 3 * (ops.length : Int) < 0) = false := decide_eq_false (by omega)
  have kd2 : decide ((1 : Int) + (((FS.roS ⟨m, st, ls, lw⟩ ops).st).length : Int) + 3 * (((FS.roS ⟨m, st, ls, lw⟩ ops).ls).length : Int) + 2 * (((FS.roS ⟨m, st, ls, lw⟩ ops).lw).length : Int) < 0) = false := decide_eq_false (by omega)
  have kd3 : decide ((1 : Int) + (((FS.roS ⟨m, st, ls, lw⟩ ops).st).length : Int) + 3 * (((FS.roS ⟨m, st, ls, lw⟩ ops).ls).length : Int) + 2 * (((FS.roS ⟨m, st, ls, lw⟩ ops).lw).length : Int) + (((FS.roT ⟨m, st, ls, lw⟩ ops)).length : Int) < 0) = false := decide_eq_false (by omega)
  refine (c4).mono ?_; rintro q_ w_ ⟨rfl, rfl⟩
  clear hz4 hq0 hq2 c4
  have bA_0 := bA.cell (j := 0) rfl
  have bA_1 := bA.cell (j := 1) rfl
  have bA_2 := bA.cell (j := 2) rfl
  have bA_3 := bA.cell (j := 3) rfl
  have bA_z := bA.frozen
  have bA_l := bA.lt
  go_wp2_with fail
  clear bA_0 bA_1 bA_2 bA_3 bA_z bA_l
  refine (toFace_any m _ _ _ st ls lw w1 ht hs hw (by omega) (by omega) (by omega) zt zs zw).mono ?_; rintro q_ w3 ⟨v10, v11, v12, rfl, o10, o11, o12, b_3⟩
  replace bA := bA.below b_3 bA.lt
  replace ht := ht.below b_3 (by omega)
  replace hs := hs.below b_3 (by omega)
  replace hw := hw.below b_3 (by omega)
  replace ho4 := ho4.below b_3 (by omega)
  have z_4 := b_3.size
  replace b0 := b0.trans (b_3.mono (by omega))
  clear b_3
  obtain ⟨A10, n10, d10, rfl, _, _, _⟩ := o10.rd.form
  obtain ⟨A11, n11, d11, rfl, _, _, _⟩ := o11.rd.form
  obtain ⟨A12, n12, d12, rfl, _, _, _⟩ := o12.rd.form
  have bA_0 := bA.cell (j := 0) rfl
  have bA_1 := bA.cell (j := 1) rfl
  have bA_2 := bA.cell (j := 2) rfl
  have bA_3 := bA.cell (j := 3) rfl
  have bA_z := bA.frozen
  have bA_l := bA.lt
  go_wp2_with fail
  clear bA_0 bA_1 bA_2 bA_3 bA_z bA_l
  refine (Op_.toS_any _ ops w3 ho4 (by omega) zo).mono ?_; rintro q_ w5 ⟨v17, rfl, o17, b_5⟩
  replace bA := bA.below b_5 bA.lt
  replace ht := ht.below b_5 (by omega)
  replace hs := hs.below b_5 (by omega)
  replace hw := hw.below b_5 (by omega)
  replace ho4 := ho4.below b_5 (by omega)
  replace o10 := o10.below b_5 (by omega)
  replace o11 := o11.below b_5 (by omega)
  replace o12 := o12.below b_5 (by omega)
  have z_6 := b_5.size
  replace b0 := b0.trans (b_5.mono (by omega))
  clear b_5
  obtain ⟨A17, n17, d17, rfl, _, _, _⟩ := o17.rd.form
  have bA_0 := bA.cell (j := 0) rfl
  have bA_1 := bA.cell (j := 1) rfl
  have bA_2 := bA.cell (j := 2) rfl
  have bA_3 := bA.cell (j := 3) rfl
  have bA_z := bA.frozen
  have bA_l := bA.lt
  go_wp2_with fail
  clear bA_0 bA_1 bA_2 bA_3 bA_z bA_l
  refine (specRunOps_any m _ _ _ st ls lw w5 o10.rd o11.rd o12.rd (by omega) (by omega) (by omega) _ ops o17.rd (by omega) zt zs zw).mono ?_; rintro q_ w7 ⟨v13, v14, v15, v16, p13, q13, r13, s13, rfl, o13, o14, o15, o16, i13, i14, i15, i16, j13, b_7⟩
  replace bA := bA.below b_7 bA.lt
  replace ht := ht.below b_7 (by omega)
  replace hs := hs.below b_7 (by omega)
  replace hw := hw.below b_7 (by omega)
  replace ho4 := ho4.below b_7 (by omega)
  replace o10 := o10.below b_7 (by omega)
  replace o11 := o11.below b_7 (by omega)
  replace o12 := o12.below b_7 (by omega)
  replace o17 := o17.below b_7 (by omega)
  have z_8 := b_7.size
  replace b0 := b0.trans (b_7.mono (by omega))
  clear b_7
  obtain ⟨A13, n13, d13, rfl, _, _, _⟩ := o13.rd.form
  obtain ⟨A14, n14, d14, rfl, _, _, _⟩ := o14.rd.form
  obtain ⟨A15, n15, d15, rfl, _, _, _⟩ := o15.rd.form
  obtain ⟨A16, n16, d16, rfl, _, _, _⟩ := o16.rd.form
  clear o10 o11 o12 o17
  have bA_0 := bA.cell (j := 0) rfl
  have bA_1 := bA.cell (j := 1) rfl
  have bA_2 := bA.cell (j := 2) rfl
  have bA_3 := bA.cell (j := 3) rfl
  have bA_z := bA.frozen
  have bA_l := bA.lt
  go_wp2_with fail
  clear bA_0 bA_1 bA_2 bA_3 bA_z bA_l
  have b_9 := (Below.refl w7.heap.size w7).alloc (Nat.le_refl _) (.cells #[.int .i64 ((FS.roS ⟨m, st, ls, lw⟩ ops).m), .slice A13 n13 d13, .slice A14 n14 d14, .slice A15 n15 d15] 35)
  have bW := Box.new w7 #[.int .i64 ((FS.roS ⟨m, st, ls, lw⟩ ops).m), .slice A13 n13 d13, .slice A14 n14 d14, .slice A15 n15 d15] 35 rfl
  replace bA := bA.below b_9 bA.lt
  replace ht := ht.below b_9 (by omega)
  replace hs := hs.below b_9 (by omega)
  replace hw := hw.below b_9 (by omega)
  replace ho4 := ho4.below b_9 (by omega)
  replace o13 := o13.below b_9 (by omega)
  replace o14 := o14.below b_9 (by omega)
  replace o15 := o15.below b_9 (by omega)
  replace o16 := o16.below b_9 (by omega)
  have z_10 := b_9.size
  replace b0 := b0.trans (b_9.mono (by omega))
  clear b_9
  generalize w7.alloc _ = w9 at *
  generalize w7.heap.size = g9 at *
  refine (toFace_any m _ _ _ st ls lw w9 ht hs hw (by omega) (by omega) (by omega) zt zs zw).mono ?_; rintro q_ w11 ⟨v20, v21, v22, rfl, o20, o21, o22, b_11⟩
  replace bA := bA.below b_11 bA.lt
  replace bW := bW.below b_11 bW.lt
  replace ht := ht.below b_11 (by omega)
  replace hs := hs.below b_11 (by omega)
  replace hw := hw.below b_11 (by omega)
  replace ho4 := ho4.below b_11 (by omega)
  replace o13 := o13.below b_11 (by omega)
  replace o14 := o14.below b_11 (by omega)
  replace o15 := o15.below b_11 (by omega)
  replace o16 := o16.below b_11 (by omega)
  have z_12 := b_11.size
  replace b0 := b0.trans (b_11.mono (by omega))
  clear b_11
  obtain ⟨A20, n20, d20, rfl, _, _, _⟩ := o20.rd.form
  obtain ⟨A21, n21, d21, rfl, _, _, _⟩ := o21.rd.form
  obtain ⟨A22, n22, d22, rfl, _, _, _⟩ := o22.rd.form
  have bA_0 := bA.cell (j := 0) rfl
  have bA_1 := bA.cell (j := 1) rfl
  have bA_2 := bA.cell (j := 2) rfl
  have bA_3 := bA.cell (j := 3) rfl
  have bA_z := bA.frozen
  have bA_l := bA.lt
  have bW_0 := bW.cell (j := 0) rfl
  have bW_1 := bW.cell (j := 1) rfl
  have bW_2 := bW.cell (j := 2) rfl
  have bW_3 := bW.cell (j := 3) rfl
  have bW_z := bW.frozen
  have bW_l := bW.lt
  go_wp2_with fail
  clear bA_0 bA_1 bA_2 bA_3 bA_z bA_l bW_0 bW_1 bW_2 bW_3 bW_z bW_l
  have b_13 := (Below.refl w11.heap.size w11).alloc (Nat.le_refl _) (.cells #[.int .i64 m, .slice A20 n20 d20, .slice A21 n21 d21, .slice A22 n22 d22] 35)
  have bX := Box.new w11 #[.int .i64 m, .slice A20 n20 d20, .slice A21 n21 d21, .slice A22 n22 d22] 35 rfl
  replace bA := bA.below b_13 bA.lt
  replace bW := bW.below b_13 bW.lt
  replace ht := ht.below b_13 (by omega)
  replace hs := hs.below b_13 (by omega)
  replace hw := hw.below b_13 (by omega)
  replace ho4 := ho4.below b_13 (by omega)
  replace o13 := o13.below b_13 (by omega)
  replace o14 := o14.below b_13 (by omega)
  replace o15 := o15.below b_13 (by omega)
  replace o16 := o16.below b_13 (by omega)
  replace o20 := o20.below b_13 (by omega)
  replace o21 := o21.below b_13 (by omega)
  replace o22 := o22.below b_13 (by omega)
  have z_14 := b_13.size
  replace b0 := b0.trans (b_13.mono (by omega))
  clear b_13
  generalize w11.alloc _ = w13 at *
  generalize w11.heap.size = g13 at *
  refine (Op_.toS_any _ ops w13 ho4 (by omega) zo).mono ?_; rintro q_ w15 ⟨v30, rfl, o30, b_15⟩
  replace bA := bA.below b_15 bA.lt
  replace bW := bW.below b_15 bW.lt
  replace bX := bX.below b_15 bX.lt
  replace ht := ht.below b_15 (by omega)
  replace hs := hs.below b_15 (by omega)
  replace hw := hw.below b_15 (by omega)
  replace ho4 := ho4.below b_15 (by omega)
  replace o13 := o13.below b_15 (by omega)
  replace o14 := o14.below b_15 (by omega)
  replace o15 := o15.below b_15 (by omega)
  replace o16 := o16.below b_15 (by omega)
  replace o20 := o20.below b_15 (by omega)
  replace o21 := o21.below b_15 (by omega)
  replace o22 := o22.below b_15 (by omega)
  have z_16 := b_15.size
  replace b0 := b0.trans (b_15.mono (by omega))
  clear b_15
  obtain ⟨A30, n30, d30, rfl, _, _, _⟩ := o30.rd.form
  have bA_0 := bA.cell (j := 0) rfl
  have bA_1 := bA.cell (j := 1) rfl
  have bA_2 := bA.cell (j := 2) rfl
  have bA_3 := bA.cell (j := 3) rfl
  have bA_z := bA.frozen
  have bA_l := bA.lt
  have bW_0 := bW.cell (j := 0) rfl
  have bW_1 := bW.cell (j := 1) rfl
  have bW_2 := bW.cell (j := 2) rfl
  have bW_3 := bW.cell (j := 3) rfl
  have bW_z := bW.frozen
  have bW_l := bW.lt
  have bX_0 := bX.cell (j := 0) rfl
  have bX_1 := bX.cell (j := 1) rfl
  have bX_2 := bX.cell (j := 2) rfl
  have bX_3 := bX.cell (j := 3) rfl
  have bX_z := bX.frozen
  have bX_l := bX.lt
  go_wp2_with fail
  clear bA_0 bA_1 bA_2 bA_3 bA_z bA_l bW_0 bW_1 bW_2 bW_3 bW_z bW_l bX_0 bX_1 bX_2 bX_3 bX_z bX_l
  refine (implRunOps_any m _ _ _ st ls lw w15 o20.rd o21.rd o22.rd (by omega) (by omega) (by omega) _ ops o30.rd (by omega) zt zs zw).mono ?_; rintro q_ w17 ⟨v23, v24, v25, v26, p23, q23, r23, s23, rfl, o23, o24, o25, o26, i23, i24, i25, i26, j23, b_17⟩
  replace bA := bA.below b_17 bA.lt
  replace bW := bW.below b_17 bW.lt
  replace bX := bX.below b_17 bX.lt
  replace ht := ht.below b_17 (by omega)
  replace hs := hs.below b_17 (by omega)
  replace hw := hw.below b_17 (by omega)
  replace ho4 := ho4.below b_17 (by omega)
  replace o13 := o13.below b_17 (by omega)
  replace o14 := o14.below b_17 (by omega)
  replace o15 := o15.below b_17 (by omega)
  replace o16 := o16.below b_17 (by omega)
  replace o20 := o20.below b_17 (by omega)
  replace o21 := o21.below b_17 (by omega)
  replace o22 := o22.below b_17 (by omega)
  replace o30 := o30.below b_17 (by omega)
  have z_18 := b_17.size
  replace b0 := b0.trans (b_17.mono (by omega))
  clear b_17
  obtain ⟨A23, n23, d23, rfl, _, _, _⟩ := o23.rd.form
  obtain ⟨A24, n24, d24, rfl, _, _, _⟩ := o24.rd.form
  obtain ⟨A25, n25, d25, rfl, _, _, _⟩ := o25.rd.form
  obtain ⟨A26, n26, d26, rfl, _, _, _⟩ := o26.rd.form
  have bA_0 := bA.cell (j := 0) rfl
  have bA_1 := bA.cell (j := 1) rfl
  have bA_2 := bA.cell (j := 2) rfl
  have bA_3 := bA.cell (j := 3) rfl
  have bA_z := bA.frozen
  have bA_l := bA.lt
  have bW_0 := bW.cell (j := 0) rfl
  have bW_1 := bW.cell (j := 1) rfl
  have bW_2 := bW.cell (j := 2) rfl
  have bW_3 := bW.cell (j := 3) rfl
  have bW_z := bW.frozen
  have bW_l := bW.lt
  have bX_0 := bX.cell (j := 0) rfl
  have bX_1 := bX.cell (j := 1) rfl
  have bX_2 := bX.cell (j := 2) rfl
  have bX_3 := bX.cell (j := 3) rfl
  have bX_z := bX.frozen
  have bX_l := bX.lt
  go_wp2_with fail
  clear bA_0 bA_1 bA_2 bA_3 bA_z bA_l bW_0 bW_1 bW_2 bW_3 bW_z bW_l bX_0 bX_1 bX_2 bX_3 bX_z bX_l
  have b_19 := (Below.refl w17.heap.size w17).alloc (Nat.le_refl _) (.cells #[.int .i64 ((FS.roS ⟨m, st, ls, lw⟩ ops).m), .slice A23 n23 d23, .slice A24 n24 d24, .slice A25 n25 d25] 35)
  have bG := Box.new w17 #[.int .i64 ((FS.roS ⟨m, st, ls, lw⟩ ops).m), .slice A23 n23 d23, .slice A24 n24 d24, .slice A25 n25 d25] 35 rfl
  replace bA := bA.below b_19 bA.lt
  replace bW := bW.below b_19 bW.lt
  replace bX := bX.below b_19 bX.lt
  replace ht := ht.below b_19 (by omega)
  replace hs := hs.below b_19 (by omega)
  replace hw := hw.below b_19 (by omega)
  replace ho4 := ho4.below b_19 (by omega)
  replace o13 := o13.below b_19 (by omega)
  replace o14 := o14.below b_19 (by omega)
  replace o15 := o15.below b_19 (by omega)
  replace o16 := o16.below b_19 (by omega)
  replace o20 := o20.below b_19 (by omega)
  replace o21 := o21.below b_19 (by omega)
  replace o22 := o22.below b_19 (by omega)
  replace o30 := o30.below b_19 (by omega)
  replace o23 := o23.below b_19 (by omega)
  replace o24 := o24.below b_19 (by omega)
  replace o25 := o25.below b_19 (by omega)
  replace o26 := o26.below b_19 (by omega)
  have z_20 := b_19.size
  replace b0 := b0.trans (b_19.mono (by omega))
  clear b_19
  generalize w17.alloc _ = w19 at *
  generalize w17.heap.size = g19 at *
  refine (eqFace_same ((FS.roS ⟨m, st, ls, lw⟩ ops).m) _ _ _ _ _ _ ((FS.roS ⟨m, st, ls, lw⟩ ops).st) ((FS.roS ⟨m, st, ls, lw⟩ ops).ls) ((FS.roS ⟨m, st, ls, lw⟩ ops).lw) w19 o23.rd o24.rd o25.rd o13.rd o14.rd o15.rd (by omega) (by omega) (by omega) (by omega) (by omega) (by omega)).mono ?_; rintro q_ w21 ⟨rfl, b_21⟩
  replace bA := bA.below b_21 bA.lt
  replace bW := bW.below b_21 bW.lt
  replace bX := bX.below b_21 bX.lt
  replace bG := bG.below b_21 bG.lt
  replace ht := ht.below b_21 (by omega)
  replace hs := hs.below b_21 (by omega)
  replace hw := hw.below b_21 (by omega)
  replace ho4 := ho4.below b_21 (by omega)
  replace o13 := o13.below b_21 (by omega)
  replace o14 := o14.below b_21 (by omega)
  replace o15 := o15.below b_21 (by omega)
  replace o16 := o16.below b_21 (by omega)
  replace o20 := o20.below b_21 (by omega)
  replace o21 := o21.below b_21 (by omega)
  replace o22 := o22.below b_21 (by omega)
  replace o30 := o30.below b_21 (by omega)
  replace o23 := o23.below b_21 (by omega)
  replace o24 := o24.below b_21 (by omega)
  replace o25 := o25.below b_21 (by omega)
  replace o26 := o26.below b_21 (by omega)
  have z_22 := b_21.size
  replace b0 := b0.trans (b_21.mono (by omega))
  clear b_21
  have bA_0 := bA.cell (j := 0) rfl
  have bA_1 := bA.cell (j := 1) rfl
  have bA_2 := bA.cell (j := 2) rfl
  have bA_3 := bA.cell (j := 3) rfl
  have bA_z := bA.frozen
  have bA_l := bA.lt
  have bW_0 := bW.cell (j := 0) rfl
  have bW_1 := bW.cell (j := 1) rfl
  have bW_2 := bW.cell (j := 2) rfl
  have bW_3 := bW.cell (j := 3) rfl
  have bW_z := bW.frozen
  have bW_l := bW.lt
  have bX_0 := bX.cell (j := 0) rfl
  have bX_1 := bX.cell (j := 1) rfl
  have bX_2 := bX.cell (j := 2) rfl
  have bX_3 := bX.cell (j := 3) rfl
  have bX_z := bX.frozen
  have bX_l := bX.lt
  have bG_0 := bG.cell (j := 0) rfl
  have bG_1 := bG.cell (j := 1) rfl
  have bG_2 := bG.cell (j := 2) rfl
  have bG_3 := bG.cell (j := 3) rfl
  have bG_z := bG.frozen
  have bG_l := bG.lt
  go_wp2_with fail
  clear bA_0 bA_1 bA_2 bA_3 bA_z bA_l bW_0 bW_1 bW_2 bW_3 bW_z bW_l bX_0 bX_1 bX_2 bX_3 bX_z bX_l bG_0 bG_1 bG_2 bG_3 bG_z bG_l
  refine (Nm.eqS_same _ _ (FS.roT ⟨m, st, ls, lw⟩ ops) w21 o26.rd o16.rd (by omega) (by omega)).mono ?_; rintro q_ w23 ⟨rfl, b_23⟩
  replace bA := bA.below b_23 bA.lt
  replace bW := bW.below b_23 bW.lt
  replace bX := bX.below b_23 bX.lt
  replace bG := bG.below b_23 bG.lt
  replace ht := ht.below b_23 (by omega)
  replace hs := hs.below b_23 (by omega)
  replace hw := hw.below b_23 (by omega)
  replace ho4 := ho4.below b_23 (by omega)
  replace o13 := o13.below b_23 (by omega)
  replace o14 := o14.below b_23 (by omega)
  replace o15 := o15.below b_23 (by omega)
  replace o16 := o16.below b_23 (by omega)
  replace o20 := o20.below b_23 (by omega)
  replace o21 := o21.below b_23 (by omega)
  replace o22 := o22.below b_23 (by omega)
  replace o30 := o30.below b_23 (by omega)
  replace o23 := o23.below b_23 (by omega)
  replace o24 := o24.below b_23 (by omega)
  replace o25 := o25.below b_23 (by omega)
  replace o26 := o26.below b_23 (by omega)
  have z_24 := b_23.size
  replace b0 := b0.trans (b_23.mono (by omega))
  clear b_23
  have bA_0 := bA.cell (j := 0) rfl
  have bA_1 := bA.cell (j := 1) rfl
  have bA_2 := bA.cell (j := 2) rfl
  have bA_3 := bA.cell (j := 3) rfl
  have bA_z := bA.frozen
  have bA_l := bA.lt
  have bW_0 := bW.cell (j := 0) rfl
  have bW_1 := bW.cell (j := 1) rfl
  have bW_2 := bW.cell (j := 2) rfl
  have bW_3 := bW.cell (j := 3) rfl
  have bW_z := bW.frozen
  have bW_l := bW.lt
  have bX_0 := bX.cell (j := 0) rfl
  have bX_1 := bX.cell (j := 1) rfl
  have bX_2 := bX.cell (j := 2) rfl
  have bX_3 := bX.cell (j := 3) rfl
  have bX_z := bX.frozen
  have bX_l := bX.lt
  have bG_0 := bG.cell (j := 0) rfl
  have bG_1 := bG.cell (j := 1) rfl
  have bG_2 := bG.cell (j := 2) rfl
  have bG_3 := bG.cell (j := 3) rfl
  have bG_z := bG.frozen
  have bG_l := bG.lt
  go_wp2_with fail
  clear bA_0 bA_1 bA_2 bA_3 bA_z bA_l bW_0 bW_1 bW_2 bW_3 bW_z bW_l bX_0 bX_1 bX_2 bX_3 bX_z bX_l bG_0 bG_1 bG_2 bG_3 bG_z bG_l
  refine wp_region_held_drew (S := fun W => Box W (g13) 35 [.int .i64 m, .slice A20 n20 d20, .slice A21 n21 d21, .slice A22 n22 d22] ∧ Box W (w.heap.size) 28 [.int .i64 m, .slice At nt dt, .slice A0 n0 d0, .slice A1 n1 d1]) (by kernel_rfl) (show (fun (W : World) => Box W (g13) 35 [.int .i64 m, .slice A20 n20 d20, .slice A21 n21 d21, .slice A22 n22 d22] ∧ Box W (w.heap.size) 28 [.int .i64 m, .slice At nt dt, .slice A0 n0 d0, .slice A1 n1 d1]) w23.drew from ⟨bX, bA⟩) (fun hHeld => ?_)
  refine wpAnyH_take (i := 0) (v := .agg #[.int .i64 m, .slice A20 n20 d20, .slice A21 n21 d21, .slice A22 n22 d22]) rfl (by kernel_rfl) (by kernel_rfl) (by kernel_rfl) (fun _ _ _ h => h) (Or.inl ⟨by rfl, by intro w hSw; obtain ⟨hS0, hS1⟩ := hSw; have y00 := hS0.cell (j := 0) rfl; have y01 := hS0.cell (j := 1) rfl; have y02 := hS0.cell (j := 2) rfl; have y03 := hS0.cell (j := 3) rfl; have y10 := hS1.cell (j := 0) rfl; have y11 := hS1.cell (j := 1) rfl; have y12 := hS1.cell (j := 2) rfl; have y13 := hS1.cell (j := 3) rfl; go_simp⟩) hHeld ?_
  refine wpAnyH_take (i := 1) (v := .agg #[.int .i64 m, .slice At nt dt, .slice A0 n0 d0, .slice A1 n1 d1]) rfl (by kernel_rfl) (by kernel_rfl) (by kernel_rfl) (fun _ _ _ h => h) (Or.inl ⟨by rfl, by intro w hSw; obtain ⟨hS0, hS1⟩ := hSw; have y00 := hS0.cell (j := 0) rfl; have y01 := hS0.cell (j := 1) rfl; have y02 := hS0.cell (j := 2) rfl; have y03 := hS0.cell (j := 3) rfl; have y10 := hS1.cell (j := 0) rfl; have y11 := hS1.cell (j := 1) rfl; have y12 := hS1.cell (j := 2) rfl; have y13 := hS1.cell (j := 3) rfl; go_simp⟩) hHeld ?_
  clear hHeld
  refine held_gen (F := fun W' => Below w23.heap.size w23 W') (Below.refl w23.heap.size w23).drew ?_
  rintro w25 b_25
  replace bA := bA.below b_25 bA.lt
  replace bW := bW.below b_25 bW.lt
  replace bX := bX.below b_25 bX.lt
  replace bG := bG.below b_25 bG.lt
  replace ht := ht.below b_25 (by omega)
  replace hs := hs.below b_25 (by omega)
  replace hw := hw.below b_25 (by omega)
  replace ho4 := ho4.below b_25 (by omega)
  replace o13 := o13.below b_25 (by omega)
  replace o14 := o14.below b_25 (by omega)
  replace o15 := o15.below b_25 (by omega)
  replace o16 := o16.below b_25 (by omega)
  replace o20 := o20.below b_25 (by omega)
  replace o21 := o21.below b_25 (by omega)
  replace o22 := o22.below b_25 (by omega)
  replace o30 := o30.below b_25 (by omega)
  replace o23 := o23.below b_25 (by omega)
  replace o24 := o24.below b_25 (by omega)
  replace o25 := o25.below b_25 (by omega)
  replace o26 := o26.below b_25 (by omega)
  have z_26 := b_25.size
  replace b0 := b0.trans (b_25.mono (by omega))
  clear b_25
  refine wpAnyH_ready (rs := [2]) (by kernel_rfl) (by decide) ?_
  refine AllReadyH.cons rfl (fun K27 hK27 => ?_) AllReadyH.nil
  go_simp
  refine (toFace_any m _ _ _ st ls lw w25 ht hs hw (by omega) (by omega) (by omega) zt zs zw).mono ?_; rintro q_ w28 ⟨v60, v61, v62, rfl, o60, o61, o62, b_28⟩
  replace bA := bA.below b_28 bA.lt
  replace bW := bW.below b_28 bW.lt
  replace bX := bX.below b_28 bX.lt
  replace bG := bG.below b_28 bG.lt
  replace ht := ht.below b_28 (by omega)
  replace hs := hs.below b_28 (by omega)
  replace hw := hw.below b_28 (by omega)
  replace ho4 := ho4.below b_28 (by omega)
  replace o13 := o13.below b_28 (by omega)
  replace o14 := o14.below b_28 (by omega)
  replace o15 := o15.below b_28 (by omega)
  replace o16 := o16.below b_28 (by omega)
  replace o20 := o20.below b_28 (by omega)
  replace o21 := o21.below b_28 (by omega)
  replace o22 := o22.below b_28 (by omega)
  replace o30 := o30.below b_28 (by omega)
  replace o23 := o23.below b_28 (by omega)
  replace o24 := o24.below b_28 (by omega)
  replace o25 := o25.below b_28 (by omega)
  replace o26 := o26.below b_28 (by omega)
  have z_29 := b_28.size
  replace b0 := b0.trans (b_28.mono (by omega))
  clear b_28
  obtain ⟨A60, n60, d60, rfl, _, _, _⟩ := o60.rd.form
  obtain ⟨A61, n61, d61, rfl, _, _, _⟩ := o61.rd.form
  obtain ⟨A62, n62, d62, rfl, _, _, _⟩ := o62.rd.form
  refine hK27.out _ _ ⟨bX, bA⟩ (fun _ => ?_)
  refine wpAnyH_ready (rs := [3]) (by kernel_rfl) (by decide) ?_
  refine AllReadyH.cons rfl (fun K30 hK30 => ?_) AllReadyH.nil
  go_simp
  refine (eqFace_same m _ _ _ _ _ _ st ls lw w28 o20.rd o21.rd o22.rd o60.rd o61.rd o62.rd (by omega) (by omega) (by omega) (by omega) (by omega) (by omega)).mono ?_; rintro q_ w31 ⟨rfl, b_31⟩
  replace bA := bA.below b_31 bA.lt
  replace bW := bW.below b_31 bW.lt
  replace bX := bX.below b_31 bX.lt
  replace bG := bG.below b_31 bG.lt
  replace ht := ht.below b_31 (by omega)
  replace hs := hs.below b_31 (by omega)
  replace hw := hw.below b_31 (by omega)
  replace ho4 := ho4.below b_31 (by omega)
  replace o13 := o13.below b_31 (by omega)
  replace o14 := o14.below b_31 (by omega)
  replace o15 := o15.below b_31 (by omega)
  replace o16 := o16.below b_31 (by omega)
  replace o20 := o20.below b_31 (by omega)
  replace o21 := o21.below b_31 (by omega)
  replace o22 := o22.below b_31 (by omega)
  replace o30 := o30.below b_31 (by omega)
  replace o23 := o23.below b_31 (by omega)
  replace o24 := o24.below b_31 (by omega)
  replace o25 := o25.below b_31 (by omega)
  replace o26 := o26.below b_31 (by omega)
  replace o60 := o60.below b_31 (by omega)
  replace o61 := o61.below b_31 (by omega)
  replace o62 := o62.below b_31 (by omega)
  have z_32 := b_31.size
  replace b0 := b0.trans (b_31.mono (by omega))
  clear b_31
  refine hK30.out _ _ ⟨bX, bA⟩ (fun _ => ?_)
  refine wpAnyH_ready (rs := [4]) (by kernel_rfl) (by decide) ?_
  refine AllReadyH.cons rfl (fun K33 hK33 => ?_) AllReadyH.nil
  go_simp
  refine hK33.out _ _ ⟨bX, bA⟩ (fun _ => ?_)
  refine ⟨by kernel_rfl, ?_⟩
  clear o60 o61 o62
  have bA_0 := bA.cell (j := 0) rfl
  have bA_1 := bA.cell (j := 1) rfl
  have bA_2 := bA.cell (j := 2) rfl
  have bA_3 := bA.cell (j := 3) rfl
  have bA_z := bA.frozen
  have bA_l := bA.lt
  have bW_0 := bW.cell (j := 0) rfl
  have bW_1 := bW.cell (j := 1) rfl
  have bW_2 := bW.cell (j := 2) rfl
  have bW_3 := bW.cell (j := 3) rfl
  have bW_z := bW.frozen
  have bW_l := bW.lt
  have bX_0 := bX.cell (j := 0) rfl
  have bX_1 := bX.cell (j := 1) rfl
  have bX_2 := bX.cell (j := 2) rfl
  have bX_3 := bX.cell (j := 3) rfl
  have bX_z := bX.frozen
  have bX_l := bX.lt
  have bG_0 := bG.cell (j := 0) rfl
  have bG_1 := bG.cell (j := 1) rfl
  have bG_2 := bG.cell (j := 2) rfl
  have bG_3 := bG.cell (j := 3) rfl
  have bG_z := bG.frozen
  have bG_l := bG.lt
  go_wp2_with fail
  clear bA_0 bA_1 bA_2 bA_3 bA_z bA_l bW_0 bW_1 bW_2 bW_3 bW_z bW_l bX_0 bX_1 bX_2 bX_3 bX_z bX_l bG_0 bG_1 bG_2 bG_3 bG_z bG_l
  refine (Op_.toS_any _ ops w31 ho4 (by omega) zo).mono ?_; rintro q_ w34 ⟨v33, rfl, o33, b_34⟩
  replace bA := bA.below b_34 bA.lt
  replace bW := bW.below b_34 bW.lt
  replace bX := bX.below b_34 bX.lt
  replace bG := bG.below b_34 bG.lt
  replace ht := ht.below b_34 (by omega)
  replace hs := hs.below b_34 (by omega)
  replace hw := hw.below b_34 (by omega)
  replace ho4 := ho4.below b_34 (by omega)
  replace o13 := o13.below b_34 (by omega)
  replace o14 := o14.below b_34 (by omega)
  replace o15 := o15.below b_34 (by omega)
  replace o16 := o16.below b_34 (by omega)
  replace o20 := o20.below b_34 (by omega)
  replace o21 := o21.below b_34 (by omega)
  replace o22 := o22.below b_34 (by omega)
  replace o30 := o30.below b_34 (by omega)
  replace o23 := o23.below b_34 (by omega)
  replace o24 := o24.below b_34 (by omega)
  replace o25 := o25.below b_34 (by omega)
  replace o26 := o26.below b_34 (by omega)
  have z_35 := b_34.size
  replace b0 := b0.trans (b_34.mono (by omega))
  clear b_34
  obtain ⟨A33, n33, d33, rfl, _, _, _⟩ := o33.rd.form
  have bA_0 := bA.cell (j := 0) rfl
  have bA_1 := bA.cell (j := 1) rfl
  have bA_2 := bA.cell (j := 2) rfl
  have bA_3 := bA.cell (j := 3) rfl
  have bA_z := bA.frozen
  have bA_l := bA.lt
  have bW_0 := bW.cell (j := 0) rfl
  have bW_1 := bW.cell (j := 1) rfl
  have bW_2 := bW.cell (j := 2) rfl
  have bW_3 := bW.cell (j := 3) rfl
  have bW_z := bW.frozen
  have bW_l := bW.lt
  have bX_0 := bX.cell (j := 0) rfl
  have bX_1 := bX.cell (j := 1) rfl
  have bX_2 := bX.cell (j := 2) rfl
  have bX_3 := bX.cell (j := 3) rfl
  have bX_z := bX.frozen
  have bX_l := bX.lt
  have bG_0 := bG.cell (j := 0) rfl
  have bG_1 := bG.cell (j := 1) rfl
  have bG_2 := bG.cell (j := 2) rfl
  have bG_3 := bG.cell (j := 3) rfl
  have bG_z := bG.frozen
  have bG_l := bG.lt
  go_wp2_with fail
  clear bA_0 bA_1 bA_2 bA_3 bA_z bA_l bW_0 bW_1 bW_2 bW_3 bW_z bW_l bX_0 bX_1 bX_2 bX_3 bX_z bX_l bG_0 bG_1 bG_2 bG_3 bG_z bG_l
  refine (Op_.eqS_same _ _ ops w34 o30.rd o33.rd (by omega) (by omega)).mono ?_; rintro q_ w36 ⟨rfl, b_36⟩
  replace bA := bA.below b_36 bA.lt
  replace bW := bW.below b_36 bW.lt
  replace bX := bX.below b_36 bX.lt
  replace bG := bG.below b_36 bG.lt
  replace ht := ht.below b_36 (by omega)
  replace hs := hs.below b_36 (by omega)
  replace hw := hw.below b_36 (by omega)
  replace ho4 := ho4.below b_36 (by omega)
  replace o13 := o13.below b_36 (by omega)
  replace o14 := o14.below b_36 (by omega)
  replace o15 := o15.below b_36 (by omega)
  replace o16 := o16.below b_36 (by omega)
  replace o20 := o20.below b_36 (by omega)
  replace o21 := o21.below b_36 (by omega)
  replace o22 := o22.below b_36 (by omega)
  replace o30 := o30.below b_36 (by omega)
  replace o23 := o23.below b_36 (by omega)
  replace o24 := o24.below b_36 (by omega)
  replace o25 := o25.below b_36 (by omega)
  replace o26 := o26.below b_36 (by omega)
  replace o33 := o33.below b_36 (by omega)
  have z_37 := b_36.size
  replace b0 := b0.trans (b_36.mono (by omega))
  clear b_36
  clear o33
  have bA_0 := bA.cell (j := 0) rfl
  have bA_1 := bA.cell (j := 1) rfl
  have bA_2 := bA.cell (j := 2) rfl
  have bA_3 := bA.cell (j := 3) rfl
  have bA_z := bA.frozen
  have bA_l := bA.lt
  have bW_0 := bW.cell (j := 0) rfl
  have bW_1 := bW.cell (j := 1) rfl
  have bW_2 := bW.cell (j := 2) rfl
  have bW_3 := bW.cell (j := 3) rfl
  have bW_z := bW.frozen
  have bW_l := bW.lt
  have bX_0 := bX.cell (j := 0) rfl
  have bX_1 := bX.cell (j := 1) rfl
  have bX_2 := bX.cell (j := 2) rfl
  have bX_3 := bX.cell (j := 3) rfl
  have bX_z := bX.frozen
  have bX_l := bX.lt
  have bG_0 := bG.cell (j := 0) rfl
  have bG_1 := bG.cell (j := 1) rfl
  have bG_2 := bG.cell (j := 2) rfl
  have bG_3 := bG.cell (j := 3) rfl
  have bG_z := bG.frozen
  have bG_l := bG.lt
  go_wp2_with fail
  clear bA_0 bA_1 bA_2 bA_3 bA_z bA_l bW_0 bW_1 bW_2 bW_3 bW_z bW_l bX_0 bX_1 bX_2 bX_3 bX_z bX_l bG_0 bG_1 bG_2 bG_3 bG_z bG_l
  refine (markFace_any _ _ _ _ (st) (ls) (lw) w36 o20 o21 o22 (by omega) (by omega) (by omega) zt zs zw 1 (by omega) (by omega)).mono ?_; rintro q_ wx ⟨wxa, wxb, wxc, wxd, rfl, bax, px0, tx0, bbx, px1, tx1, px2, tx2, _⟩
  replace bA := bA.below bax bA.lt
  replace bW := bW.below bax bW.lt
  replace bX := bX.below bax bX.lt
  replace bG := bG.below bax bG.lt
  replace ht := ht.below bax (by omega)
  replace hs := hs.below bax (by omega)
  replace hw := hw.below bax (by omega)
  replace ho4 := ho4.below bax (by omega)
  replace o13 := o13.below bax (by omega)
  replace o14 := o14.below bax (by omega)
  replace o15 := o15.below bax (by omega)
  replace o16 := o16.below bax (by omega)
  replace o20 := o20.below bax (by omega)
  replace o21 := o21.below bax (by omega)
  replace o22 := o22.below bax (by omega)
  replace o30 := o30.below bax (by omega)
  replace o23 := o23.below bax (by omega)
  replace o24 := o24.below bax (by omega)
  replace o25 := o25.below bax (by omega)
  replace o26 := o26.below bax (by omega)
  have z_38 := bax.size
  replace b0 := b0.trans (bax.mono (by omega))
  clear bax
  have z_39 := tx0.size
  replace bA := bA.turned o20 tx0 (by decide)
  replace bW := bW.turned o20 tx0 (by decide)
  replace bX := bX.turned o20 tx0 (by decide)
  replace bG := bG.turned o20 tx0 (by decide)
  replace ht := ht.turned o20 tx0 (by omega) (by omega)
  replace hs := hs.turned o20 tx0 (by omega) (by omega)
  replace hw := hw.turned o20 tx0 (by omega) (by omega)
  replace ho4 := ho4.turned o20 tx0 (by omega) (by omega)
  replace o13 := o13.turned o20 tx0 (by omega)
  replace o14 := o14.turned o20 tx0 (by omega)
  replace o15 := o15.turned o20 tx0 (by omega)
  replace o16 := o16.turned o20 tx0 (by omega)
  replace o21 := o21.turned_type o20 tx0 (by decide)
  replace o22 := o22.turned_type o20 tx0 (by decide)
  replace o30 := o30.turned o20 tx0 (by omega)
  replace o23 := o23.turned o20 tx0 (by omega)
  replace o24 := o24.turned o20 tx0 (by omega)
  replace o25 := o25.turned o20 tx0 (by omega)
  replace o26 := o26.turned o20 tx0 (by omega)
  replace b0 := Below.turned b0 o20 tx0 (by omega) (by omega)
  clear o20 tx0
  have o20 := px0
  clear px0
  replace bA := bA.below bbx bA.lt
  replace bW := bW.below bbx bW.lt
  replace bX := bX.below bbx bX.lt
  replace bG := bG.below bbx bG.lt
  replace ht := ht.below bbx (by omega)
  replace hs := hs.below bbx (by omega)
  replace hw := hw.below bbx (by omega)
  replace ho4 := ho4.below bbx (by omega)
  replace o13 := o13.below bbx (by omega)
  replace o14 := o14.below bbx (by omega)
  replace o15 := o15.below bbx (by omega)
  replace o16 := o16.below bbx (by omega)
  replace o20 := o20.below bbx (by omega)
  replace o21 := o21.below bbx (by omega)
  replace o22 := o22.below bbx (by omega)
  replace o30 := o30.below bbx (by omega)
  replace o23 := o23.below bbx (by omega)
  replace o24 := o24.below bbx (by omega)
  replace o25 := o25.below bbx (by omega)
  replace o26 := o26.below bbx (by omega)
  have z_40 := bbx.size
  replace b0 := b0.trans (bbx.mono (by omega))
  clear bbx
  have z_41 := tx1.size
  replace bA := bA.turned o21 tx1 (by decide)
  replace bW := bW.turned o21 tx1 (by decide)
  replace bX := bX.turned o21 tx1 (by decide)
  replace bG := bG.turned o21 tx1 (by decide)
  replace ht := ht.turned o21 tx1 (by omega) (by omega)
  replace hs := hs.turned o21 tx1 (by omega) (by omega)
  replace hw := hw.turned o21 tx1 (by omega) (by omega)
  replace ho4 := ho4.turned o21 tx1 (by omega) (by omega)
  replace o13 := o13.turned o21 tx1 (by omega)
  replace o14 := o14.turned o21 tx1 (by omega)
  replace o15 := o15.turned o21 tx1 (by omega)
  replace o16 := o16.turned o21 tx1 (by omega)
  replace o20 := o20.turned_type o21 tx1 (by decide)
  replace o22 := o22.turned_type o21 tx1 (by decide)
  replace o30 := o30.turned o21 tx1 (by omega)
  replace o23 := o23.turned o21 tx1 (by omega)
  replace o24 := o24.turned o21 tx1 (by omega)
  replace o25 := o25.turned o21 tx1 (by omega)
  replace o26 := o26.turned o21 tx1 (by omega)
  replace b0 := Below.turned b0 o21 tx1 (by omega) (by omega)
  clear o21 tx1
  have o21 := px1
  clear px1
  have z_42 := tx2.size
  replace bA := bA.turned o22 tx2 (by decide)
  replace bW := bW.turned o22 tx2 (by decide)
  replace bX := bX.turned o22 tx2 (by decide)
  replace bG := bG.turned o22 tx2 (by decide)
  replace ht := ht.turned o22 tx2 (by omega) (by omega)
  replace hs := hs.turned o22 tx2 (by omega) (by omega)
  replace hw := hw.turned o22 tx2 (by omega) (by omega)
  replace ho4 := ho4.turned o22 tx2 (by omega) (by omega)
  replace o13 := o13.turned o22 tx2 (by omega)
  replace o14 := o14.turned o22 tx2 (by omega)
  replace o15 := o15.turned o22 tx2 (by omega)
  replace o16 := o16.turned o22 tx2 (by omega)
  replace o20 := o20.turned_type o22 tx2 (by decide)
  replace o21 := o21.turned_type o22 tx2 (by decide)
  replace o30 := o30.turned o22 tx2 (by omega)
  replace o23 := o23.turned o22 tx2 (by omega)
  replace o24 := o24.turned o22 tx2 (by omega)
  replace o25 := o25.turned o22 tx2 (by omega)
  replace o26 := o26.turned o22 tx2 (by omega)
  replace b0 := Below.turned b0 o22 tx2 (by omega) (by omega)
  clear o22 tx2
  have o22 := px2
  clear px2
  clear o20 o21 o22
  have bA_0 := bA.cell (j := 0) rfl
  have bA_1 := bA.cell (j := 1) rfl
  have bA_2 := bA.cell (j := 2) rfl
  have bA_3 := bA.cell (j := 3) rfl
  have bA_z := bA.frozen
  have bA_l := bA.lt
  have bW_0 := bW.cell (j := 0) rfl
  have bW_1 := bW.cell (j := 1) rfl
  have bW_2 := bW.cell (j := 2) rfl
  have bW_3 := bW.cell (j := 3) rfl
  have bW_z := bW.frozen
  have bW_l := bW.lt
  have bX_0 := bX.cell (j := 0) rfl
  have bX_1 := bX.cell (j := 1) rfl
  have bX_2 := bX.cell (j := 2) rfl
  have bX_3 := bX.cell (j := 3) rfl
  have bX_z := bX.frozen
  have bX_l := bX.lt
  have bG_0 := bG.cell (j := 0) rfl
  have bG_1 := bG.cell (j := 1) rfl
  have bG_2 := bG.cell (j := 2) rfl
  have bG_3 := bG.cell (j := 3) rfl
  have bG_z := bG.frozen
  have bG_l := bG.lt
  go_wp2_with fail
  clear bA_0 bA_1 bA_2 bA_3 bA_z bA_l bW_0 bW_1 bW_2 bW_3 bW_z bW_l bX_0 bX_1 bX_2 bX_3 bX_z bX_l bG_0 bG_1 bG_2 bG_3 bG_z bG_l
  refine (Op_.markS_any _ _ wx o30 _ (by omega) (by omega) zo).mono ?_; rintro q_ wy ⟨rfl, py, ty⟩
  have z_43 := ty.size
  replace bA := bA.turned o30 ty (by decide)
  replace bW := bW.turned o30 ty (by decide)
  replace bX := bX.turned o30 ty (by decide)
  replace bG := bG.turned o30 ty (by decide)
  replace ht := ht.turned o30 ty (by omega) (by omega)
  replace hs := hs.turned o30 ty (by omega) (by omega)
  replace hw := hw.turned o30 ty (by omega) (by omega)
  replace ho4 := ho4.turned o30 ty (by omega) (by omega)
  replace o13 := o13.turned o30 ty (by omega)
  replace o14 := o14.turned o30 ty (by omega)
  replace o15 := o15.turned o30 ty (by omega)
  replace o16 := o16.turned o30 ty (by omega)
  replace o23 := o23.turned o30 ty (by omega)
  replace o24 := o24.turned o30 ty (by omega)
  replace o25 := o25.turned o30 ty (by omega)
  replace o26 := o26.turned o30 ty (by omega)
  replace b0 := Below.turned b0 o30 ty (by omega) (by omega)
  clear o30 ty
  have o30 := py
  clear py
  clear o30
  have bA_0 := bA.cell (j := 0) rfl
  have bA_1 := bA.cell (j := 1) rfl
  have bA_2 := bA.cell (j := 2) rfl
  have bA_3 := bA.cell (j := 3) rfl
  have bA_z := bA.frozen
  have bA_l := bA.lt
  have bW_0 := bW.cell (j := 0) rfl
  have bW_1 := bW.cell (j := 1) rfl
  have bW_2 := bW.cell (j := 2) rfl
  have bW_3 := bW.cell (j := 3) rfl
  have bW_z := bW.frozen
  have bW_l := bW.lt
  have bX_0 := bX.cell (j := 0) rfl
  have bX_1 := bX.cell (j := 1) rfl
  have bX_2 := bX.cell (j := 2) rfl
  have bX_3 := bX.cell (j := 3) rfl
  have bX_z := bX.frozen
  have bX_l := bX.lt
  have bG_0 := bG.cell (j := 0) rfl
  have bG_1 := bG.cell (j := 1) rfl
  have bG_2 := bG.cell (j := 2) rfl
  have bG_3 := bG.cell (j := 3) rfl
  have bG_z := bG.frozen
  have bG_l := bG.lt
  go_wp2_with fail
  clear bA_0 bA_1 bA_2 bA_3 bA_z bA_l bW_0 bW_1 bW_2 bW_3 bW_z bW_l bX_0 bX_1 bX_2 bX_3 bX_z bX_l bG_0 bG_1 bG_2 bG_3 bG_z bG_l
  refine (eqFace_same ((FS.roS ⟨m, st, ls, lw⟩ ops).m) _ _ _ _ _ _ ((FS.roS ⟨m, st, ls, lw⟩ ops).st) ((FS.roS ⟨m, st, ls, lw⟩ ops).ls) ((FS.roS ⟨m, st, ls, lw⟩ ops).lw) wy o23.rd o24.rd o25.rd o13.rd o14.rd o15.rd (by omega) (by omega) (by omega) (by omega) (by omega) (by omega)).mono ?_; rintro q_ w44 ⟨rfl, b_44⟩
  replace bA := bA.below b_44 bA.lt
  replace bW := bW.below b_44 bW.lt
  replace bX := bX.below b_44 bX.lt
  replace bG := bG.below b_44 bG.lt
  replace ht := ht.below b_44 (by omega)
  replace hs := hs.below b_44 (by omega)
  replace hw := hw.below b_44 (by omega)
  replace ho4 := ho4.below b_44 (by omega)
  replace o13 := o13.below b_44 (by omega)
  replace o14 := o14.below b_44 (by omega)
  replace o15 := o15.below b_44 (by omega)
  replace o16 := o16.below b_44 (by omega)
  replace o23 := o23.below b_44 (by omega)
  replace o24 := o24.below b_44 (by omega)
  replace o25 := o25.below b_44 (by omega)
  replace o26 := o26.below b_44 (by omega)
  have z_45 := b_44.size
  replace b0 := b0.trans (b_44.mono (by omega))
  clear b_44
  have bA_0 := bA.cell (j := 0) rfl
  have bA_1 := bA.cell (j := 1) rfl
  have bA_2 := bA.cell (j := 2) rfl
  have bA_3 := bA.cell (j := 3) rfl
  have bA_z := bA.frozen
  have bA_l := bA.lt
  have bW_0 := bW.cell (j := 0) rfl
  have bW_1 := bW.cell (j := 1) rfl
  have bW_2 := bW.cell (j := 2) rfl
  have bW_3 := bW.cell (j := 3) rfl
  have bW_z := bW.frozen
  have bW_l := bW.lt
  have bX_0 := bX.cell (j := 0) rfl
  have bX_1 := bX.cell (j := 1) rfl
  have bX_2 := bX.cell (j := 2) rfl
  have bX_3 := bX.cell (j := 3) rfl
  have bX_z := bX.frozen
  have bX_l := bX.lt
  have bG_0 := bG.cell (j := 0) rfl
  have bG_1 := bG.cell (j := 1) rfl
  have bG_2 := bG.cell (j := 2) rfl
  have bG_3 := bG.cell (j := 3) rfl
  have bG_z := bG.frozen
  have bG_l := bG.lt
  go_wp2_with fail
  clear bA_0 bA_1 bA_2 bA_3 bA_z bA_l bW_0 bW_1 bW_2 bW_3 bW_z bW_l bX_0 bX_1 bX_2 bX_3 bX_z bX_l bG_0 bG_1 bG_2 bG_3 bG_z bG_l
  refine (Nm.eqS_same _ _ (FS.roT ⟨m, st, ls, lw⟩ ops) w44 o26.rd o16.rd (by omega) (by omega)).mono ?_; rintro q_ w46 ⟨rfl, b_46⟩
  replace bA := bA.below b_46 bA.lt
  replace bW := bW.below b_46 bW.lt
  replace bX := bX.below b_46 bX.lt
  replace bG := bG.below b_46 bG.lt
  replace ht := ht.below b_46 (by omega)
  replace hs := hs.below b_46 (by omega)
  replace hw := hw.below b_46 (by omega)
  replace ho4 := ho4.below b_46 (by omega)
  replace o13 := o13.below b_46 (by omega)
  replace o14 := o14.below b_46 (by omega)
  replace o15 := o15.below b_46 (by omega)
  replace o16 := o16.below b_46 (by omega)
  replace o23 := o23.below b_46 (by omega)
  replace o24 := o24.below b_46 (by omega)
  replace o25 := o25.below b_46 (by omega)
  replace o26 := o26.below b_46 (by omega)
  have z_47 := b_46.size
  replace b0 := b0.trans (b_46.mono (by omega))
  clear b_46
  have bA_0 := bA.cell (j := 0) rfl
  have bA_1 := bA.cell (j := 1) rfl
  have bA_2 := bA.cell (j := 2) rfl
  have bA_3 := bA.cell (j := 3) rfl
  have bA_z := bA.frozen
  have bA_l := bA.lt
  have bW_0 := bW.cell (j := 0) rfl
  have bW_1 := bW.cell (j := 1) rfl
  have bW_2 := bW.cell (j := 2) rfl
  have bW_3 := bW.cell (j := 3) rfl
  have bW_z := bW.frozen
  have bW_l := bW.lt
  have bX_0 := bX.cell (j := 0) rfl
  have bX_1 := bX.cell (j := 1) rfl
  have bX_2 := bX.cell (j := 2) rfl
  have bX_3 := bX.cell (j := 3) rfl
  have bX_z := bX.frozen
  have bX_l := bX.lt
  have bG_0 := bG.cell (j := 0) rfl
  have bG_1 := bG.cell (j := 1) rfl
  have bG_2 := bG.cell (j := 2) rfl
  have bG_3 := bG.cell (j := 3) rfl
  have bG_z := bG.frozen
  have bG_l := bG.lt
  go_wp2_with fail
  clear bA_0 bA_1 bA_2 bA_3 bA_z bA_l bW_0 bW_1 bW_2 bW_3 bW_z bW_l bX_0 bX_1 bX_2 bX_3 bX_z bX_l bG_0 bG_1 bG_2 bG_3 bG_z bG_l
  refine (markFace_any _ _ _ _ ((FS.roS ⟨m, st, ls, lw⟩ ops).st) ((FS.roS ⟨m, st, ls, lw⟩ ops).ls) ((FS.roS ⟨m, st, ls, lw⟩ ops).lw) w46 o23 o24 o25 (by omega) (by omega) (by omega) zz0 zz1 zz2 1 (by omega) (by omega)).mono ?_; rintro q_ wg ⟨wga, wgb, wgc, wgd, rfl, bag, pg0, tg0, bbg, pg1, tg1, pg2, tg2, _⟩
  replace bA := bA.below bag bA.lt
  replace bW := bW.below bag bW.lt
  replace bX := bX.below bag bX.lt
  replace bG := bG.below bag bG.lt
  replace ht := ht.below bag (by omega)
  replace hs := hs.below bag (by omega)
  replace hw := hw.below bag (by omega)
  replace ho4 := ho4.below bag (by omega)
  replace o13 := o13.below bag (by omega)
  replace o14 := o14.below bag (by omega)
  replace o15 := o15.below bag (by omega)
  replace o16 := o16.below bag (by omega)
  replace o23 := o23.below bag (by omega)
  replace o24 := o24.below bag (by omega)
  replace o25 := o25.below bag (by omega)
  replace o26 := o26.below bag (by omega)
  have z_48 := bag.size
  replace b0 := b0.trans (bag.mono (by omega))
  clear bag
  have z_49 := tg0.size
  replace bA := bA.turned o23 tg0 (by decide)
  replace bW := bW.turned o23 tg0 (by decide)
  replace bX := bX.turned o23 tg0 (by decide)
  replace bG := bG.turned o23 tg0 (by decide)
  replace ht := ht.turned o23 tg0 (by omega) (by omega)
  replace hs := hs.turned o23 tg0 (by omega) (by omega)
  replace hw := hw.turned o23 tg0 (by omega) (by omega)
  replace ho4 := ho4.turned o23 tg0 (by omega) (by omega)
  replace o13 := o13.turned o23 tg0 (by omega)
  replace o14 := o14.turned o23 tg0 (by omega)
  replace o15 := o15.turned o23 tg0 (by omega)
  replace o16 := o16.turned o23 tg0 (by omega)
  replace o24 := o24.turned_type o23 tg0 (by decide)
  replace o25 := o25.turned_type o23 tg0 (by decide)
  replace o26 := o26.turned o23 tg0 (by omega)
  replace b0 := Below.turned b0 o23 tg0 (by omega) (by omega)
  clear o23 tg0
  have o23 := pg0
  clear pg0
  replace bA := bA.below bbg bA.lt
  replace bW := bW.below bbg bW.lt
  replace bX := bX.below bbg bX.lt
  replace bG := bG.below bbg bG.lt
  replace ht := ht.below bbg (by omega)
  replace hs := hs.below bbg (by omega)
  replace hw := hw.below bbg (by omega)
  replace ho4 := ho4.below bbg (by omega)
  replace o13 := o13.below bbg (by omega)
  replace o14 := o14.below bbg (by omega)
  replace o15 := o15.below bbg (by omega)
  replace o16 := o16.below bbg (by omega)
  replace o23 := o23.below bbg (by omega)
  replace o24 := o24.below bbg (by omega)
  replace o25 := o25.below bbg (by omega)
  replace o26 := o26.below bbg (by omega)
  have z_50 := bbg.size
  replace b0 := b0.trans (bbg.mono (by omega))
  clear bbg
  have z_51 := tg1.size
  replace bA := bA.turned o24 tg1 (by decide)
  replace bW := bW.turned o24 tg1 (by decide)
  replace bX := bX.turned o24 tg1 (by decide)
  replace bG := bG.turned o24 tg1 (by decide)
  replace ht := ht.turned o24 tg1 (by omega) (by omega)
  replace hs := hs.turned o24 tg1 (by omega) (by omega)
  replace hw := hw.turned o24 tg1 (by omega) (by omega)
  replace ho4 := ho4.turned o24 tg1 (by omega) (by omega)
  replace o13 := o13.turned o24 tg1 (by omega)
  replace o14 := o14.turned o24 tg1 (by omega)
  replace o15 := o15.turned o24 tg1 (by omega)
  replace o16 := o16.turned o24 tg1 (by omega)
  replace o23 := o23.turned_type o24 tg1 (by decide)
  replace o25 := o25.turned_type o24 tg1 (by decide)
  replace o26 := o26.turned o24 tg1 (by omega)
  replace b0 := Below.turned b0 o24 tg1 (by omega) (by omega)
  clear o24 tg1
  have o24 := pg1
  clear pg1
  have z_52 := tg2.size
  replace bA := bA.turned o25 tg2 (by decide)
  replace bW := bW.turned o25 tg2 (by decide)
  replace bX := bX.turned o25 tg2 (by decide)
  replace bG := bG.turned o25 tg2 (by decide)
  replace ht := ht.turned o25 tg2 (by omega) (by omega)
  replace hs := hs.turned o25 tg2 (by omega) (by omega)
  replace hw := hw.turned o25 tg2 (by omega) (by omega)
  replace ho4 := ho4.turned o25 tg2 (by omega) (by omega)
  replace o13 := o13.turned o25 tg2 (by omega)
  replace o14 := o14.turned o25 tg2 (by omega)
  replace o15 := o15.turned o25 tg2 (by omega)
  replace o16 := o16.turned o25 tg2 (by omega)
  replace o23 := o23.turned_type o25 tg2 (by decide)
  replace o24 := o24.turned_type o25 tg2 (by decide)
  replace o26 := o26.turned o25 tg2 (by omega)
  replace b0 := Below.turned b0 o25 tg2 (by omega) (by omega)
  clear o25 tg2
  have o25 := pg2
  clear pg2
  have bA_0 := bA.cell (j := 0) rfl
  have bA_1 := bA.cell (j := 1) rfl
  have bA_2 := bA.cell (j := 2) rfl
  have bA_3 := bA.cell (j := 3) rfl
  have bA_z := bA.frozen
  have bA_l := bA.lt
  have bW_0 := bW.cell (j := 0) rfl
  have bW_1 := bW.cell (j := 1) rfl
  have bW_2 := bW.cell (j := 2) rfl
  have bW_3 := bW.cell (j := 3) rfl
  have bW_z := bW.frozen
  have bW_l := bW.lt
  have bX_0 := bX.cell (j := 0) rfl
  have bX_1 := bX.cell (j := 1) rfl
  have bX_2 := bX.cell (j := 2) rfl
  have bX_3 := bX.cell (j := 3) rfl
  have bX_z := bX.frozen
  have bX_l := bX.lt
  have bG_0 := bG.cell (j := 0) rfl
  have bG_1 := bG.cell (j := 1) rfl
  have bG_2 := bG.cell (j := 2) rfl
  have bG_3 := bG.cell (j := 3) rfl
  have bG_z := bG.frozen
  have bG_l := bG.lt
  go_wp2_with fail
  clear bA_0 bA_1 bA_2 bA_3 bA_z bA_l bW_0 bW_1 bW_2 bW_3 bW_z bW_l bX_0 bX_1 bX_2 bX_3 bX_z bX_l bG_0 bG_1 bG_2 bG_3 bG_z bG_l
  refine (Nm.markS_any _ _ wg o26 _ (by omega) (by omega) zz3).mono ?_; rintro q_ wh ⟨rfl, ph, th⟩
  have z_53 := th.size
  replace bA := bA.turned o26 th (by decide)
  replace bW := bW.turned o26 th (by decide)
  replace bX := bX.turned o26 th (by decide)
  replace bG := bG.turned o26 th (by decide)
  replace ht := ht.turned o26 th (by omega) (by omega)
  replace hs := hs.turned o26 th (by omega) (by omega)
  replace hw := hw.turned o26 th (by omega) (by omega)
  replace ho4 := ho4.turned o26 th (by omega) (by omega)
  replace o13 := o13.turned o26 th (by omega)
  replace o14 := o14.turned o26 th (by omega)
  replace o15 := o15.turned o26 th (by omega)
  replace o16 := o16.turned o26 th (by omega)
  replace o23 := o23.turned o26 th (by omega)
  replace o24 := o24.turned o26 th (by omega)
  replace o25 := o25.turned o26 th (by omega)
  replace b0 := Below.turned b0 o26 th (by omega) (by omega)
  clear o26 th
  have o26 := ph
  clear ph
  have bA_0 := bA.cell (j := 0) rfl
  have bA_1 := bA.cell (j := 1) rfl
  have bA_2 := bA.cell (j := 2) rfl
  have bA_3 := bA.cell (j := 3) rfl
  have bA_z := bA.frozen
  have bA_l := bA.lt
  have bW_0 := bW.cell (j := 0) rfl
  have bW_1 := bW.cell (j := 1) rfl
  have bW_2 := bW.cell (j := 2) rfl
  have bW_3 := bW.cell (j := 3) rfl
  have bW_z := bW.frozen
  have bW_l := bW.lt
  have bX_0 := bX.cell (j := 0) rfl
  have bX_1 := bX.cell (j := 1) rfl
  have bX_2 := bX.cell (j := 2) rfl
  have bX_3 := bX.cell (j := 3) rfl
  have bX_z := bX.frozen
  have bX_l := bX.lt
  have bG_0 := bG.cell (j := 0) rfl
  have bG_1 := bG.cell (j := 1) rfl
  have bG_2 := bG.cell (j := 2) rfl
  have bG_3 := bG.cell (j := 3) rfl
  have bG_z := bG.frozen
  have bG_l := bG.lt
  go_wp2_with fail
  clear bA_0 bA_1 bA_2 bA_3 bA_z bA_l bW_0 bW_1 bW_2 bW_3 bW_z bW_l bX_0 bX_1 bX_2 bX_3 bX_z bX_l bG_0 bG_1 bG_2 bG_3 bG_z bG_l
  refine (heldFace_any _ _ _ _ ((FS.roS ⟨m, st, ls, lw⟩ ops).st).length ((FS.roS ⟨m, st, ls, lw⟩ ops).ls).length ((FS.roS ⟨m, st, ls, lw⟩ ops).lw).length wh o23.rd o24.rd o25.rd (by omega) (by omega) (by omega) zz0 zz1 zz2 (by omega) (by omega)).mono ?_; rintro q_ w54 ⟨rfl, b_54⟩
  replace bA := bA.below b_54 bA.lt
  replace bW := bW.below b_54 bW.lt
  replace bX := bX.below b_54 bX.lt
  replace bG := bG.below b_54 bG.lt
  replace ht := ht.below b_54 (by omega)
  replace hs := hs.below b_54 (by omega)
  replace hw := hw.below b_54 (by omega)
  replace ho4 := ho4.below b_54 (by omega)
  replace o13 := o13.below b_54 (by omega)
  replace o14 := o14.below b_54 (by omega)
  replace o15 := o15.below b_54 (by omega)
  replace o16 := o16.below b_54 (by omega)
  replace o23 := o23.below b_54 (by omega)
  replace o24 := o24.below b_54 (by omega)
  replace o25 := o25.below b_54 (by omega)
  replace o26 := o26.below b_54 (by omega)
  have z_55 := b_54.size
  replace b0 := b0.trans (b_54.mono (by omega))
  clear b_54
  have bA_0 := bA.cell (j := 0) rfl
  have bA_1 := bA.cell (j := 1) rfl
  have bA_2 := bA.cell (j := 2) rfl
  have bA_3 := bA.cell (j := 3) rfl
  have bA_z := bA.frozen
  have bA_l := bA.lt
  have bW_0 := bW.cell (j := 0) rfl
  have bW_1 := bW.cell (j := 1) rfl
  have bW_2 := bW.cell (j := 2) rfl
  have bW_3 := bW.cell (j := 3) rfl
  have bW_z := bW.frozen
  have bW_l := bW.lt
  have bX_0 := bX.cell (j := 0) rfl
  have bX_1 := bX.cell (j := 1) rfl
  have bX_2 := bX.cell (j := 2) rfl
  have bX_3 := bX.cell (j := 3) rfl
  have bX_z := bX.frozen
  have bX_l := bX.lt
  have bG_0 := bG.cell (j := 0) rfl
  have bG_1 := bG.cell (j := 1) rfl
  have bG_2 := bG.cell (j := 2) rfl
  have bG_3 := bG.cell (j := 3) rfl
  have bG_z := bG.frozen
  have bG_l := bG.lt
  go_wp2_with fail
  clear bA_0 bA_1 bA_2 bA_3 bA_z bA_l bW_0 bW_1 bW_2 bW_3 bW_z bW_l bX_0 bX_1 bX_2 bX_3 bX_z bX_l bG_0 bG_1 bG_2 bG_3 bG_z bG_l
  refine (Nm.heldS_any _ w54 o26.rd (by omega) (by omega) zz3).mono ?_; rintro q_ w_ ⟨rfl, rfl⟩
  have bA_0 := bA.cell (j := 0) rfl
  have bA_1 := bA.cell (j := 1) rfl
  have bA_2 := bA.cell (j := 2) rfl
  have bA_3 := bA.cell (j := 3) rfl
  have bA_z := bA.frozen
  have bA_l := bA.lt
  have bW_0 := bW.cell (j := 0) rfl
  have bW_1 := bW.cell (j := 1) rfl
  have bW_2 := bW.cell (j := 2) rfl
  have bW_3 := bW.cell (j := 3) rfl
  have bW_z := bW.frozen
  have bW_l := bW.lt
  have bX_0 := bX.cell (j := 0) rfl
  have bX_1 := bX.cell (j := 1) rfl
  have bX_2 := bX.cell (j := 2) rfl
  have bX_3 := bX.cell (j := 3) rfl
  have bX_z := bX.frozen
  have bX_l := bX.lt
  have bG_0 := bG.cell (j := 0) rfl
  have bG_1 := bG.cell (j := 1) rfl
  have bG_2 := bG.cell (j := 2) rfl
  have bG_3 := bG.cell (j := 3) rfl
  have bG_z := bG.frozen
  have bG_l := bG.lt
  go_wp2_with fail
  clear bA_0 bA_1 bA_2 bA_3 bA_z bA_l bW_0 bW_1 bW_2 bW_3 bW_z bW_l bX_0 bX_1 bX_2 bX_3 bX_z bX_l bG_0 bG_1 bG_2 bG_3 bG_z bG_l
  refine (toFace_any m _ _ _ st ls lw w54 ht hs hw (by omega) (by omega) (by omega) zt zs zw).mono ?_; rintro q_ w56 ⟨v40, v41, v42, rfl, o40, o41, o42, b_56⟩
  replace bA := bA.below b_56 bA.lt
  replace bW := bW.below b_56 bW.lt
  replace bX := bX.below b_56 bX.lt
  replace bG := bG.below b_56 bG.lt
  replace ht := ht.below b_56 (by omega)
  replace hs := hs.below b_56 (by omega)
  replace hw := hw.below b_56 (by omega)
  replace ho4 := ho4.below b_56 (by omega)
  replace o13 := o13.below b_56 (by omega)
  replace o14 := o14.below b_56 (by omega)
  replace o15 := o15.below b_56 (by omega)
  replace o16 := o16.below b_56 (by omega)
  replace o23 := o23.below b_56 (by omega)
  replace o24 := o24.below b_56 (by omega)
  replace o25 := o25.below b_56 (by omega)
  replace o26 := o26.below b_56 (by omega)
  have z_57 := b_56.size
  replace b0 := b0.trans (b_56.mono (by omega))
  clear b_56
  obtain ⟨A40, n40, d40, rfl, _, _, _⟩ := o40.rd.form
  obtain ⟨A41, n41, d41, rfl, _, _, _⟩ := o41.rd.form
  obtain ⟨A42, n42, d42, rfl, _, _, _⟩ := o42.rd.form
  have bA_0 := bA.cell (j := 0) rfl
  have bA_1 := bA.cell (j := 1) rfl
  have bA_2 := bA.cell (j := 2) rfl
  have bA_3 := bA.cell (j := 3) rfl
  have bA_z := bA.frozen
  have bA_l := bA.lt
  have bW_0 := bW.cell (j := 0) rfl
  have bW_1 := bW.cell (j := 1) rfl
  have bW_2 := bW.cell (j := 2) rfl
  have bW_3 := bW.cell (j := 3) rfl
  have bW_z := bW.frozen
  have bW_l := bW.lt
  have bX_0 := bX.cell (j := 0) rfl
  have bX_1 := bX.cell (j := 1) rfl
  have bX_2 := bX.cell (j := 2) rfl
  have bX_3 := bX.cell (j := 3) rfl
  have bX_z := bX.frozen
  have bX_l := bX.lt
  have bG_0 := bG.cell (j := 0) rfl
  have bG_1 := bG.cell (j := 1) rfl
  have bG_2 := bG.cell (j := 2) rfl
  have bG_3 := bG.cell (j := 3) rfl
  have bG_z := bG.frozen
  have bG_l := bG.lt
  go_wp2_with fail
  clear bA_0 bA_1 bA_2 bA_3 bA_z bA_l bW_0 bW_1 bW_2 bW_3 bW_z bW_l bX_0 bX_1 bX_2 bX_3 bX_z bX_l bG_0 bG_1 bG_2 bG_3 bG_z bG_l
  refine (Op_.toS_any _ ops w56 ho4 (by omega) zo).mono ?_; rintro q_ w58 ⟨v47, rfl, o47, b_58⟩
  replace bA := bA.below b_58 bA.lt
  replace bW := bW.below b_58 bW.lt
  replace bX := bX.below b_58 bX.lt
  replace bG := bG.below b_58 bG.lt
  replace ht := ht.below b_58 (by omega)
  replace hs := hs.below b_58 (by omega)
  replace hw := hw.below b_58 (by omega)
  replace ho4 := ho4.below b_58 (by omega)
  replace o13 := o13.below b_58 (by omega)
  replace o14 := o14.below b_58 (by omega)
  replace o15 := o15.below b_58 (by omega)
  replace o16 := o16.below b_58 (by omega)
  replace o23 := o23.below b_58 (by omega)
  replace o24 := o24.below b_58 (by omega)
  replace o25 := o25.below b_58 (by omega)
  replace o26 := o26.below b_58 (by omega)
  replace o40 := o40.below b_58 (by omega)
  replace o41 := o41.below b_58 (by omega)
  replace o42 := o42.below b_58 (by omega)
  have z_59 := b_58.size
  replace b0 := b0.trans (b_58.mono (by omega))
  clear b_58
  obtain ⟨A47, n47, d47, rfl, _, _, _⟩ := o47.rd.form
  have bA_0 := bA.cell (j := 0) rfl
  have bA_1 := bA.cell (j := 1) rfl
  have bA_2 := bA.cell (j := 2) rfl
  have bA_3 := bA.cell (j := 3) rfl
  have bA_z := bA.frozen
  have bA_l := bA.lt
  have bW_0 := bW.cell (j := 0) rfl
  have bW_1 := bW.cell (j := 1) rfl
  have bW_2 := bW.cell (j := 2) rfl
  have bW_3 := bW.cell (j := 3) rfl
  have bW_z := bW.frozen
  have bW_l := bW.lt
  have bX_0 := bX.cell (j := 0) rfl
  have bX_1 := bX.cell (j := 1) rfl
  have bX_2 := bX.cell (j := 2) rfl
  have bX_3 := bX.cell (j := 3) rfl
  have bX_z := bX.frozen
  have bX_l := bX.lt
  have bG_0 := bG.cell (j := 0) rfl
  have bG_1 := bG.cell (j := 1) rfl
  have bG_2 := bG.cell (j := 2) rfl
  have bG_3 := bG.cell (j := 3) rfl
  have bG_z := bG.frozen
  have bG_l := bG.lt
  go_wp2_with fail
  clear bA_0 bA_1 bA_2 bA_3 bA_z bA_l bW_0 bW_1 bW_2 bW_3 bW_z bW_l bX_0 bX_1 bX_2 bX_3 bX_z bX_l bG_0 bG_1 bG_2 bG_3 bG_z bG_l
  refine (implRunOps_any m _ _ _ st ls lw w58 o40.rd o41.rd o42.rd (by omega) (by omega) (by omega) _ ops o47.rd (by omega) zt zs zw).mono ?_; rintro q_ w60 ⟨v43, v44, v45, v46, p43, q43, r43, s43, rfl, o43, o44, o45, o46, i43, i44, i45, i46, j43, b_60⟩
  replace bA := bA.below b_60 bA.lt
  replace bW := bW.below b_60 bW.lt
  replace bX := bX.below b_60 bX.lt
  replace bG := bG.below b_60 bG.lt
  replace ht := ht.below b_60 (by omega)
  replace hs := hs.below b_60 (by omega)
  replace hw := hw.below b_60 (by omega)
  replace ho4 := ho4.below b_60 (by omega)
  replace o13 := o13.below b_60 (by omega)
  replace o14 := o14.below b_60 (by omega)
  replace o15 := o15.below b_60 (by omega)
  replace o16 := o16.below b_60 (by omega)
  replace o23 := o23.below b_60 (by omega)
  replace o24 := o24.below b_60 (by omega)
  replace o25 := o25.below b_60 (by omega)
  replace o26 := o26.below b_60 (by omega)
  replace o40 := o40.below b_60 (by omega)
  replace o41 := o41.below b_60 (by omega)
  replace o42 := o42.below b_60 (by omega)
  replace o47 := o47.below b_60 (by omega)
  have z_61 := b_60.size
  replace b0 := b0.trans (b_60.mono (by omega))
  clear b_60
  obtain ⟨A43, n43, d43, rfl, _, _, _⟩ := o43.rd.form
  obtain ⟨A44, n44, d44, rfl, _, _, _⟩ := o44.rd.form
  obtain ⟨A45, n45, d45, rfl, _, _, _⟩ := o45.rd.form
  obtain ⟨A46, n46, d46, rfl, _, _, _⟩ := o46.rd.form
  clear o40 o41 o42 o47
  have bA_0 := bA.cell (j := 0) rfl
  have bA_1 := bA.cell (j := 1) rfl
  have bA_2 := bA.cell (j := 2) rfl
  have bA_3 := bA.cell (j := 3) rfl
  have bA_z := bA.frozen
  have bA_l := bA.lt
  have bW_0 := bW.cell (j := 0) rfl
  have bW_1 := bW.cell (j := 1) rfl
  have bW_2 := bW.cell (j := 2) rfl
  have bW_3 := bW.cell (j := 3) rfl
  have bW_z := bW.frozen
  have bW_l := bW.lt
  have bX_0 := bX.cell (j := 0) rfl
  have bX_1 := bX.cell (j := 1) rfl
  have bX_2 := bX.cell (j := 2) rfl
  have bX_3 := bX.cell (j := 3) rfl
  have bX_z := bX.frozen
  have bX_l := bX.lt
  have bG_0 := bG.cell (j := 0) rfl
  have bG_1 := bG.cell (j := 1) rfl
  have bG_2 := bG.cell (j := 2) rfl
  have bG_3 := bG.cell (j := 3) rfl
  have bG_z := bG.frozen
  have bG_l := bG.lt
  go_wp2_with fail
  clear bA_0 bA_1 bA_2 bA_3 bA_z bA_l bW_0 bW_1 bW_2 bW_3 bW_z bW_l bX_0 bX_1 bX_2 bX_3 bX_z bX_l bG_0 bG_1 bG_2 bG_3 bG_z bG_l
  have b_62 := (Below.refl w60.heap.size w60).alloc (Nat.le_refl _) (.cells #[.int .i64 ((FS.roS ⟨m, st, ls, lw⟩ ops).m), .slice A43 n43 d43, .slice A44 n44 d44, .slice A45 n45 d45] 35)
  have bH := Box.new w60 #[.int .i64 ((FS.roS ⟨m, st, ls, lw⟩ ops).m), .slice A43 n43 d43, .slice A44 n44 d44, .slice A45 n45 d45] 35 rfl
  replace bA := bA.below b_62 bA.lt
  replace bW := bW.below b_62 bW.lt
  replace bX := bX.below b_62 bX.lt
  replace bG := bG.below b_62 bG.lt
  replace ht := ht.below b_62 (by omega)
  replace hs := hs.below b_62 (by omega)
  replace hw := hw.below b_62 (by omega)
  replace ho4 := ho4.below b_62 (by omega)
  replace o13 := o13.below b_62 (by omega)
  replace o14 := o14.below b_62 (by omega)
  replace o15 := o15.below b_62 (by omega)
  replace o16 := o16.below b_62 (by omega)
  replace o23 := o23.below b_62 (by omega)
  replace o24 := o24.below b_62 (by omega)
  replace o25 := o25.below b_62 (by omega)
  replace o26 := o26.below b_62 (by omega)
  replace o43 := o43.below b_62 (by omega)
  replace o44 := o44.below b_62 (by omega)
  replace o45 := o45.below b_62 (by omega)
  replace o46 := o46.below b_62 (by omega)
  have z_63 := b_62.size
  replace b0 := b0.trans (b_62.mono (by omega))
  clear b_62
  generalize w60.alloc _ = w62 at *
  generalize w60.heap.size = g62 at *
  refine (eqFace_same ((FS.roS ⟨m, st, ls, lw⟩ ops).m) _ _ _ _ _ _ ((FS.roS ⟨m, st, ls, lw⟩ ops).st) ((FS.roS ⟨m, st, ls, lw⟩ ops).ls) ((FS.roS ⟨m, st, ls, lw⟩ ops).lw) w62 o43.rd o44.rd o45.rd o13.rd o14.rd o15.rd (by omega) (by omega) (by omega) (by omega) (by omega) (by omega)).mono ?_; rintro q_ w64 ⟨rfl, b_64⟩
  replace bA := bA.below b_64 bA.lt
  replace bW := bW.below b_64 bW.lt
  replace bX := bX.below b_64 bX.lt
  replace bG := bG.below b_64 bG.lt
  replace bH := bH.below b_64 bH.lt
  replace ht := ht.below b_64 (by omega)
  replace hs := hs.below b_64 (by omega)
  replace hw := hw.below b_64 (by omega)
  replace ho4 := ho4.below b_64 (by omega)
  replace o13 := o13.below b_64 (by omega)
  replace o14 := o14.below b_64 (by omega)
  replace o15 := o15.below b_64 (by omega)
  replace o16 := o16.below b_64 (by omega)
  replace o23 := o23.below b_64 (by omega)
  replace o24 := o24.below b_64 (by omega)
  replace o25 := o25.below b_64 (by omega)
  replace o26 := o26.below b_64 (by omega)
  replace o43 := o43.below b_64 (by omega)
  replace o44 := o44.below b_64 (by omega)
  replace o45 := o45.below b_64 (by omega)
  replace o46 := o46.below b_64 (by omega)
  have z_65 := b_64.size
  replace b0 := b0.trans (b_64.mono (by omega))
  clear b_64
  have bA_0 := bA.cell (j := 0) rfl
  have bA_1 := bA.cell (j := 1) rfl
  have bA_2 := bA.cell (j := 2) rfl
  have bA_3 := bA.cell (j := 3) rfl
  have bA_z := bA.frozen
  have bA_l := bA.lt
  have bW_0 := bW.cell (j := 0) rfl
  have bW_1 := bW.cell (j := 1) rfl
  have bW_2 := bW.cell (j := 2) rfl
  have bW_3 := bW.cell (j := 3) rfl
  have bW_z := bW.frozen
  have bW_l := bW.lt
  have bX_0 := bX.cell (j := 0) rfl
  have bX_1 := bX.cell (j := 1) rfl
  have bX_2 := bX.cell (j := 2) rfl
  have bX_3 := bX.cell (j := 3) rfl
  have bX_z := bX.frozen
  have bX_l := bX.lt
  have bG_0 := bG.cell (j := 0) rfl
  have bG_1 := bG.cell (j := 1) rfl
  have bG_2 := bG.cell (j := 2) rfl
  have bG_3 := bG.cell (j := 3) rfl
  have bG_z := bG.frozen
  have bG_l := bG.lt
  have bH_0 := bH.cell (j := 0) rfl
  have bH_1 := bH.cell (j := 1) rfl
  have bH_2 := bH.cell (j := 2) rfl
  have bH_3 := bH.cell (j := 3) rfl
  have bH_z := bH.frozen
  have bH_l := bH.lt
  go_wp2_with fail
  clear bA_0 bA_1 bA_2 bA_3 bA_z bA_l bW_0 bW_1 bW_2 bW_3 bW_z bW_l bX_0 bX_1 bX_2 bX_3 bX_z bX_l bG_0 bG_1 bG_2 bG_3 bG_z bG_l bH_0 bH_1 bH_2 bH_3 bH_z bH_l
  refine (Nm.eqS_same _ _ (FS.roT ⟨m, st, ls, lw⟩ ops) w64 o46.rd o16.rd (by omega) (by omega)).mono ?_; rintro q_ w66 ⟨rfl, b_66⟩
  replace bA := bA.below b_66 bA.lt
  replace bW := bW.below b_66 bW.lt
  replace bX := bX.below b_66 bX.lt
  replace bG := bG.below b_66 bG.lt
  replace bH := bH.below b_66 bH.lt
  replace ht := ht.below b_66 (by omega)
  replace hs := hs.below b_66 (by omega)
  replace hw := hw.below b_66 (by omega)
  replace ho4 := ho4.below b_66 (by omega)
  replace o13 := o13.below b_66 (by omega)
  replace o14 := o14.below b_66 (by omega)
  replace o15 := o15.below b_66 (by omega)
  replace o16 := o16.below b_66 (by omega)
  replace o23 := o23.below b_66 (by omega)
  replace o24 := o24.below b_66 (by omega)
  replace o25 := o25.below b_66 (by omega)
  replace o26 := o26.below b_66 (by omega)
  replace o43 := o43.below b_66 (by omega)
  replace o44 := o44.below b_66 (by omega)
  replace o45 := o45.below b_66 (by omega)
  replace o46 := o46.below b_66 (by omega)
  have z_67 := b_66.size
  replace b0 := b0.trans (b_66.mono (by omega))
  clear b_66
  have bA_0 := bA.cell (j := 0) rfl
  have bA_1 := bA.cell (j := 1) rfl
  have bA_2 := bA.cell (j := 2) rfl
  have bA_3 := bA.cell (j := 3) rfl
  have bA_z := bA.frozen
  have bA_l := bA.lt
  have bW_0 := bW.cell (j := 0) rfl
  have bW_1 := bW.cell (j := 1) rfl
  have bW_2 := bW.cell (j := 2) rfl
  have bW_3 := bW.cell (j := 3) rfl
  have bW_z := bW.frozen
  have bW_l := bW.lt
  have bX_0 := bX.cell (j := 0) rfl
  have bX_1 := bX.cell (j := 1) rfl
  have bX_2 := bX.cell (j := 2) rfl
  have bX_3 := bX.cell (j := 3) rfl
  have bX_z := bX.frozen
  have bX_l := bX.lt
  have bG_0 := bG.cell (j := 0) rfl
  have bG_1 := bG.cell (j := 1) rfl
  have bG_2 := bG.cell (j := 2) rfl
  have bG_3 := bG.cell (j := 3) rfl
  have bG_z := bG.frozen
  have bG_l := bG.lt
  have bH_0 := bH.cell (j := 0) rfl
  have bH_1 := bH.cell (j := 1) rfl
  have bH_2 := bH.cell (j := 2) rfl
  have bH_3 := bH.cell (j := 3) rfl
  have bH_z := bH.frozen
  have bH_l := bH.lt
  go_wp2_with fail
  clear bA_0 bA_1 bA_2 bA_3 bA_z bA_l bW_0 bW_1 bW_2 bW_3 bW_z bW_l bX_0 bX_1 bX_2 bX_3 bX_z bX_l bG_0 bG_1 bG_2 bG_3 bG_z bG_l bH_0 bH_1 bH_2 bH_3 bH_z bH_l
  refine (heldFace_any _ _ _ _ ((FS.roS ⟨m, st, ls, lw⟩ ops).st).length ((FS.roS ⟨m, st, ls, lw⟩ ops).ls).length ((FS.roS ⟨m, st, ls, lw⟩ ops).lw).length w66 o23.rd o24.rd o25.rd (by omega) (by omega) (by omega) zz0 zz1 zz2 (by omega) (by omega)).mono ?_; rintro q_ w68 ⟨rfl, b_68⟩
  replace bA := bA.below b_68 bA.lt
  replace bW := bW.below b_68 bW.lt
  replace bX := bX.below b_68 bX.lt
  replace bG := bG.below b_68 bG.lt
  replace bH := bH.below b_68 bH.lt
  replace ht := ht.below b_68 (by omega)
  replace hs := hs.below b_68 (by omega)
  replace hw := hw.below b_68 (by omega)
  replace ho4 := ho4.below b_68 (by omega)
  replace o13 := o13.below b_68 (by omega)
  replace o14 := o14.below b_68 (by omega)
  replace o15 := o15.below b_68 (by omega)
  replace o16 := o16.below b_68 (by omega)
  replace o23 := o23.below b_68 (by omega)
  replace o24 := o24.below b_68 (by omega)
  replace o25 := o25.below b_68 (by omega)
  replace o26 := o26.below b_68 (by omega)
  replace o43 := o43.below b_68 (by omega)
  replace o44 := o44.below b_68 (by omega)
  replace o45 := o45.below b_68 (by omega)
  replace o46 := o46.below b_68 (by omega)
  have z_69 := b_68.size
  replace b0 := b0.trans (b_68.mono (by omega))
  clear b_68
  have bA_0 := bA.cell (j := 0) rfl
  have bA_1 := bA.cell (j := 1) rfl
  have bA_2 := bA.cell (j := 2) rfl
  have bA_3 := bA.cell (j := 3) rfl
  have bA_z := bA.frozen
  have bA_l := bA.lt
  have bW_0 := bW.cell (j := 0) rfl
  have bW_1 := bW.cell (j := 1) rfl
  have bW_2 := bW.cell (j := 2) rfl
  have bW_3 := bW.cell (j := 3) rfl
  have bW_z := bW.frozen
  have bW_l := bW.lt
  have bX_0 := bX.cell (j := 0) rfl
  have bX_1 := bX.cell (j := 1) rfl
  have bX_2 := bX.cell (j := 2) rfl
  have bX_3 := bX.cell (j := 3) rfl
  have bX_z := bX.frozen
  have bX_l := bX.lt
  have bG_0 := bG.cell (j := 0) rfl
  have bG_1 := bG.cell (j := 1) rfl
  have bG_2 := bG.cell (j := 2) rfl
  have bG_3 := bG.cell (j := 3) rfl
  have bG_z := bG.frozen
  have bG_l := bG.lt
  have bH_0 := bH.cell (j := 0) rfl
  have bH_1 := bH.cell (j := 1) rfl
  have bH_2 := bH.cell (j := 2) rfl
  have bH_3 := bH.cell (j := 3) rfl
  have bH_z := bH.frozen
  have bH_l := bH.lt
  go_wp2_with fail
  clear bA_0 bA_1 bA_2 bA_3 bA_z bA_l bW_0 bW_1 bW_2 bW_3 bW_z bW_l bX_0 bX_1 bX_2 bX_3 bX_z bX_l bG_0 bG_1 bG_2 bG_3 bG_z bG_l bH_0 bH_1 bH_2 bH_3 bH_z bH_l
  refine (Nm.heldS_any _ w68 o26.rd (by omega) (by omega) zz3).mono ?_; rintro q_ w_ ⟨rfl, rfl⟩
  have bA_0 := bA.cell (j := 0) rfl
  have bA_1 := bA.cell (j := 1) rfl
  have bA_2 := bA.cell (j := 2) rfl
  have bA_3 := bA.cell (j := 3) rfl
  have bA_z := bA.frozen
  have bA_l := bA.lt
  have bW_0 := bW.cell (j := 0) rfl
  have bW_1 := bW.cell (j := 1) rfl
  have bW_2 := bW.cell (j := 2) rfl
  have bW_3 := bW.cell (j := 3) rfl
  have bW_z := bW.frozen
  have bW_l := bW.lt
  have bX_0 := bX.cell (j := 0) rfl
  have bX_1 := bX.cell (j := 1) rfl
  have bX_2 := bX.cell (j := 2) rfl
  have bX_3 := bX.cell (j := 3) rfl
  have bX_z := bX.frozen
  have bX_l := bX.lt
  have bG_0 := bG.cell (j := 0) rfl
  have bG_1 := bG.cell (j := 1) rfl
  have bG_2 := bG.cell (j := 2) rfl
  have bG_3 := bG.cell (j := 3) rfl
  have bG_z := bG.frozen
  have bG_l := bG.lt
  have bH_0 := bH.cell (j := 0) rfl
  have bH_1 := bH.cell (j := 1) rfl
  have bH_2 := bH.cell (j := 2) rfl
  have bH_3 := bH.cell (j := 3) rfl
  have bH_z := bH.frozen
  have bH_l := bH.lt
  go_wp2_with fail
  clear bA_0 bA_1 bA_2 bA_3 bA_z bA_l bW_0 bW_1 bW_2 bW_3 bW_z bW_l bX_0 bX_1 bX_2 bX_3 bX_z bX_l bG_0 bG_1 bG_2 bG_3 bG_z bG_l bH_0 bH_1 bH_2 bH_3 bH_z bH_l
  go_ret
  exact ⟨rfl, b0⟩

set_option maxRecDepth 100000 in
theorem RunOps_holds : Rows.FnExactRunOpsSaid :=
  OpenClaim.holds_of_wide 7 Tryz.f7 rfl rfl rfl rfl rfl rfl rfl ⟨rfl, rfl, rfl, rfl, rfl⟩ rfl rfl rfl rfl rfl (by kernel_rfl) Tryz.func7 (by kernel_rfl)
    (of_decide_eq_true (by kernel_rfl)) (by unfold Func.isWrapper; first | (rw [if_pos (by decide +kernel)]; kernel_rfl) | (rw [if_neg (by decide +kernel)]; exact ⟨rfl, rfl⟩))
    (fun os started H enc _ => law_lifted (C := Tryz.checked) (s := Rows.fnExactRunOpsSpec) own started (by kernel_rfl) Tryz.func7
      (ChangeSpec.witness6 (enc := enc) (C := Tryz.checked) false ⟨#[], #[.agg #[.int .i64 0, .slice none 0 0, .slice none 0 0, .slice none 0 0], .slice none 0 0], []⟩ 8 (by kernel_rfl) (by kernel_rfl) (by kernel_rfl) (by kernel_rfl))
      laidOut (by kernel_rfl) rfl rfl Tryz.underlying4 (fun ds h => by match ds, h with | [_, _], _ => rfl)
      (fun W base args ds p hval0 hA0 => by
        have hval : ∀ (j : Nat) t v, Tryz.f7.params[j]? = some t → args[j]? = some v → Value.okWide Tryz.prog W .any base t v := hval0
        have hA : DataW.TrodAll enc Tryz.prog W 0 (fun _ => true) true Tryz.f7.params.toList args.toList ds p := hA0
        rw [Tryz.params7] at hA hval
        obtain ⟨v0, vs0, d0, ds0, p0, q0, hargs, rfl, rfl, h0, r0⟩ := trodAll_cons hA
        obtain ⟨v1, vs1, d1, ds1, p1, q1, rfl, rfl, rfl, h1, r1⟩ := trodAll_cons r0
        obtain ⟨rfl, rfl, rfl⟩ := trodAll_nil r1
        obtain rfl : args = #[v0, v1] := by cases args; simp_all
        obtain ⟨m, vt, vs, vw, st, ls, lw, rfl, k0, k1, k2⟩ := Fa.open_ (hval 0 28 v0 rfl rfl) h0
        obtain ⟨l1, k1_⟩ := Op_.openS (hval 1 47 v1 rfl rfl) h1
        exact RunOps_walk m vt vs vw st ls lw v1 l1 W k0 k1 k2 k1_))

end Go.Proofs.YtengaccnncnipaaGreat
