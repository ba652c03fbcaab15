/- 'TakeIrq' of the program and of the reference agree for all arguments, and the program's results share no memory with its arguments. No condition. -/
import Derived.Test.YtengaccnncnipaaGreatFaTakeQ
import Derived.Test.YtengaccnncnipaaGreatTyFace
namespace Go.Proofs.YtengaccnncnipaaGreat
open Go.RowKit Go.ChangeShapes Go.WideShapes Go.Deep

theorem Fa.ttT_len (m : Int) (st : List Int) (ls : List Sl) (lw : List Wt) : (Fa.ttT m st ls lw).length ≤ 1048576 := by
  unfold Fa.ttT; split
  · rename_i h
    simp only [Fa.ttOk, Bool.and_eq_true] at h
    obtain ⟨_, hq, ho⟩ := Fa.good_iff.1 h.1
    have h1 := Fa.ok_len ho
    have h2 := Sl.good_len (Qu.parts_get (Qu.good_parts hq).1).1
    simp; omega
  · simp
theorem Fa.ttS_len (m : Int) (st : List Int) (ls : List Sl) (lw : List Wt) : (Fa.ttS m st ls lw).length ≤ 1048576 := by
  unfold Fa.ttS; split
  · rename_i h
    simp only [Fa.ttOk, Bool.and_eq_true] at h
    have h2 := Sl.good_len (Qu.parts_get (Qu.tk_parts (Qu.good_parts (Fa.good_iff.1 h.1).2.1).1 h.2)).1
    omega
  · simp
set_option maxHeartbeats 8000000 in
theorem TakeIrq_walk (m : Int) (vt vs vw : Value) (st : List Int) (ls : List Sl) (lw : List Wt)  (w : World) (h0 : Rd Nm.cells 1 w 0 w.heap.size vt st) (h : Rd Sl.cells 3 w 0 w.heap.size vs ls) (h2 : Rd Wt.cells 2 w 0 w.heap.size vw lw) :
    Calls Tryz.prog 4 #[.agg #[.int .i64 m, vt, vs, vw]] w fun e w' => e = .returned (.bool true) ∧ Below w.heap.size w w' := by
  have b0 := (Below.refl w.heap.size w).alloc (Nat.le_refl _) (.cells #[.int .i64 m, vt, vs, vw] 28)
  have z0 : (w.alloc (.cells #[.int .i64 m, vt, vs, vw] 28)).heap.size = w.heap.size + 1 := by simp
  have bA := Box.new w #[.int .i64 m, vt, vs, vw] 28 rfl
  have ht := h0.below b0 (Nat.le_refl _)
  have hs := h.below b0 (Nat.le_refl _)
  have hw := h2.below b0 (Nat.le_refl _)
  have hv0_ := h0.form
  have hv_ := h.form
  have hv2_ := h2.form
  clear h0 h h2
  generalize hwA : w.alloc (.cells #[.int .i64 m, vt, vs, vw] 28) = wA at *
  obtain ⟨At, nt, dt, rfl, _, _, _⟩ := hv0_
  obtain ⟨A0, n0, d0, rfl, _, _, _⟩ := hv_
  obtain ⟨A1, n1, d1, rfl, _, _, _⟩ := hv2_
  go_enter Tryz.func4, Tryz.ntmps4
  have bA_0 := bA.cell (j := 0) rfl
  have bA_1 := bA.cell (j := 1) rfl
  have bA_2 := bA.cell (j := 2) rfl
  have bA_3 := bA.cell (j := 3) rfl
  have bA_z := bA.frozen
  have bA_l := bA.lt
  go_wp2_with fail
  clear hwA
  clear bA_0 bA_1 bA_2 bA_3 bA_z bA_l
  refine (szFace_any m _ _ _ st ls lw wA ht hs hw (by omega) (by omega) (by omega)).mono ?_; rintro q_ w1 ⟨q, rfl, hq, b_1⟩
  replace bA := bA.below b_1 bA.lt
  replace ht := ht.below b_1 (by omega)
  replace hs := hs.below b_1 (by omega)
  replace hw := hw.below b_1 (by omega)
  have z_2 := b_1.size
  replace b0 := b0.trans (b_1.mono (by omega))
  clear b_1
  rcases hq with rfl | ⟨hq0, hq1⟩
  · have bA_0 := bA.cell (j := 0) rfl
    have bA_1 := bA.cell (j := 1) rfl
    have bA_2 := bA.cell (j := 2) rfl
    have bA_3 := bA.cell (j := 3) rfl
    have bA_z := bA.frozen
    have bA_l := bA.lt
    go_wp2_with fail
    clear bA_0 bA_1 bA_2 bA_3 bA_z bA_l
    go_ret
    exact ⟨rfl, b0⟩
  have zt : st.length ≤ 1048576 := by omega
  have zs : ls.length ≤ 1048576 := by omega
  have zw : lw.length ≤ 1048576 := by omega
  have hqd : decide (q < 0) = false := decide_eq_false (by omega)
  clear hq0 hq1
  have bA_0 := bA.cell (j := 0) rfl
  have bA_1 := bA.cell (j := 1) rfl
  have bA_2 := bA.cell (j := 2) rfl
  have bA_3 := bA.cell (j := 3) rfl
  have bA_z := bA.frozen
  have bA_l := bA.lt
  go_wp2_with fail
  clear bA_0 bA_1 bA_2 bA_3 bA_z bA_l
  have zz0 : (Fa.ttT m st ls lw).length ≤ 1048576 := Fa.ttT_len m st ls lw
  have zz1 : (Fa.ttS m st ls lw).length ≤ 1048576 := Fa.ttS_len m st ls lw
  have zz2 : (Fa.ttW m st ls lw).length ≤ 1048576 := by unfold Fa.ttW; split <;> first | omega | (simp <;> omega)
  have kd1 : decide ((1 : Int) + ((st).length : Int) + 3 * ((ls).length : Int) + 2 * ((lw).length : Int) < 0) = false := decide_eq_false (by omega)
  have kd2 : decide ((1 : Int) + ((Fa.ttT m st ls lw).length : Int) + 3 * ((Fa.ttS m st ls lw).length : Int) + 2 * ((Fa.ttW m st ls lw).length : Int) < 0) = false := decide_eq_false (by omega)
  refine (toFace_any m _ _ _ st ls lw w1 ht hs hw (by omega) (by omega) (by omega) zt zs zw).mono ?_; rintro q_ w3 ⟨v10, v11, v12, rfl, o10, o11, o12, b_3⟩
  replace bA := bA.below b_3 bA.lt
  replace ht := ht.below b_3 (by omega)
  replace hs := hs.below b_3 (by omega)
  replace hw := hw.below b_3 (by omega)
  have z_4 := b_3.size
  replace b0 := b0.trans (b_3.mono (by omega))
  clear b_3
  obtain ⟨A10, n10, d10, rfl, _, _, _⟩ := o10.rd.form
  obtain ⟨A11, n11, d11, rfl, _, _, _⟩ := o11.rd.form
  obtain ⟨A12, n12, d12, rfl, _, _, _⟩ := o12.rd.form
  have bA_0 := bA.cell (j := 0) rfl
  have bA_1 := bA.cell (j := 1) rfl
  have bA_2 := bA.cell (j := 2) rfl
  have bA_3 := bA.cell (j := 3) rfl
  have bA_z := bA.frozen
  have bA_l := bA.lt
  go_wp2_with fail
  clear bA_0 bA_1 bA_2 bA_3 bA_z bA_l
  refine (specTakeIrq_any m _ _ _ st ls lw w3 o10.rd o11.rd o12.rd (by omega) (by omega) (by omega) zt zw).mono ?_; rintro q_ w5 ⟨v13, v14, v15, rfl, o13, o14, o15, b_5⟩
  replace bA := bA.below b_5 bA.lt
  replace ht := ht.below b_5 (by omega)
  replace hs := hs.below b_5 (by omega)
  replace hw := hw.below b_5 (by omega)
  replace o10 := o10.below b_5 (by omega)
  replace o11 := o11.below b_5 (by omega)
  replace o12 := o12.below b_5 (by omega)
  have z_6 := b_5.size
  replace b0 := b0.trans (b_5.mono (by omega))
  clear b_5
  obtain ⟨A13, n13, d13, rfl, _, _, _⟩ := o13.rd.form
  obtain ⟨A14, n14, d14, rfl, _, _, _⟩ := o14.rd.form
  obtain ⟨A15, n15, d15, rfl, _, _, _⟩ := o15.rd.form
  clear o10 o11 o12
  have bA_0 := bA.cell (j := 0) rfl
  have bA_1 := bA.cell (j := 1) rfl
  have bA_2 := bA.cell (j := 2) rfl
  have bA_3 := bA.cell (j := 3) rfl
  have bA_z := bA.frozen
  have bA_l := bA.lt
  go_wp2_with fail
  clear bA_0 bA_1 bA_2 bA_3 bA_z bA_l
  have b_7 := (Below.refl w5.heap.size w5).alloc (Nat.le_refl _) (.cells #[.int .i64 (Fa.ttM m st ls lw), .slice A13 n13 d13, .slice A14 n14 d14, .slice A15 n15 d15] 35)
  have bW := Box.new w5 #[.int .i64 (Fa.ttM m st ls lw), .slice A13 n13 d13, .slice A14 n14 d14, .slice A15 n15 d15] 35 rfl
  replace bA := bA.below b_7 bA.lt
  replace ht := ht.below b_7 (by omega)
  replace hs := hs.below b_7 (by omega)
  replace hw := hw.below b_7 (by omega)
  replace o13 := o13.below b_7 (by omega)
  replace o14 := o14.below b_7 (by omega)
  replace o15 := o15.below b_7 (by omega)
  have z_8 := b_7.size
  replace b0 := b0.trans (b_7.mono (by omega))
  clear b_7
  generalize w5.alloc _ = w7 at *
  generalize w5.heap.size = g7 at *
  refine (toFace_any m _ _ _ st ls lw w7 ht hs hw (by omega) (by omega) (by omega) zt zs zw).mono ?_; rintro q_ w9 ⟨v20, v21, v22, rfl, o20, o21, o22, b_9⟩
  replace bA := bA.below b_9 bA.lt
  replace bW := bW.below b_9 bW.lt
  replace ht := ht.below b_9 (by omega)
  replace hs := hs.below b_9 (by omega)
  replace hw := hw.below b_9 (by omega)
  replace o13 := o13.below b_9 (by omega)
  replace o14 := o14.below b_9 (by omega)
  replace o15 := o15.below b_9 (by omega)
  have z_10 := b_9.size
  replace b0 := b0.trans (b_9.mono (by omega))
  clear b_9
  obtain ⟨A20, n20, d20, rfl, _, _, _⟩ := o20.rd.form
  obtain ⟨A21, n21, d21, rfl, _, _, _⟩ := o21.rd.form
  obtain ⟨A22, n22, d22, rfl, _, _, _⟩ := o22.rd.form
  have bA_0 := bA.cell (j := 0) rfl
  have bA_1 := bA.cell (j := 1) rfl
  have bA_2 := bA.cell (j := 2) rfl
  have bA_3 := bA.cell (j := 3) rfl
  have bA_z := bA.frozen
  have bA_l := bA.lt
  have bW_0 := bW.cell (j := 0) rfl
  have bW_1 := bW.cell (j := 1) rfl
  have bW_2 := bW.cell (j := 2) rfl
  have bW_3 := bW.cell (j := 3) rfl
  have bW_z := bW.frozen
  have bW_l := bW.lt
  go_wp2_with fail
  clear bA_0 bA_1 bA_2 bA_3 bA_z bA_l bW_0 bW_1 bW_2 bW_3 bW_z bW_l
  have b_11 := (Below.refl w9.heap.size w9).alloc (Nat.le_refl _) (.cells #[.int .i64 m, .slice A20 n20 d20, .slice A21 n21 d21, .slice A22 n22 d22] 35)
  have bX := Box.new w9 #[.int .i64 m, .slice A20 n20 d20, .slice A21 n21 d21, .slice A22 n22 d22] 35 rfl
  replace bA := bA.below b_11 bA.lt
  replace bW := bW.below b_11 bW.lt
  replace ht := ht.below b_11 (by omega)
  replace hs := hs.below b_11 (by omega)
  replace hw := hw.below b_11 (by omega)
  replace o13 := o13.below b_11 (by omega)
  replace o14 := o14.below b_11 (by omega)
  replace o15 := o15.below b_11 (by omega)
  replace o20 := o20.below b_11 (by omega)
  replace o21 := o21.below b_11 (by omega)
  replace o22 := o22.below b_11 (by omega)
  have z_12 := b_11.size
  replace b0 := b0.trans (b_11.mono (by omega))
  clear b_11
  generalize w9.alloc _ = w11 at *
  generalize w9.heap.size = g11 at *
  refine (implTakeIrq_any m _ _ _ st ls lw w11 o20.rd o21.rd o22.rd (by omega) (by omega) (by omega) zt zw).mono ?_; rintro q_ w13 ⟨v23, v24, v25, rfl, o23, o24, o25, b_13⟩
  replace bA := bA.below b_13 bA.lt
  replace bW := bW.below b_13 bW.lt
  replace bX := bX.below b_13 bX.lt
  replace ht := ht.below b_13 (by omega)
  replace hs := hs.below b_13 (by omega)
  replace hw := hw.below b_13 (by omega)
  replace o13 := o13.below b_13 (by omega)
  replace o14 := o14.below b_13 (by omega)
  replace o15 := o15.below b_13 (by omega)
  replace o20 := o20.below b_13 (by omega)
  replace o21 := o21.below b_13 (by omega)
  replace o22 := o22.below b_13 (by omega)
  have z_14 := b_13.size
  replace b0 := b0.trans (b_13.mono (by omega))
  clear b_13
  obtain ⟨A23, n23, d23, rfl, _, _, _⟩ := o23.rd.form
  obtain ⟨A24, n24, d24, rfl, _, _, _⟩ := o24.rd.form
  obtain ⟨A25, n25, d25, rfl, _, _, _⟩ := o25.rd.form
  have bA_0 := bA.cell (j := 0) rfl
  have bA_1 := bA.cell (j := 1) rfl
  have bA_2 := bA.cell (j := 2) rfl
  have bA_3 := bA.cell (j := 3) rfl
  have bA_z := bA.frozen
  have bA_l := bA.lt
  have bW_0 := bW.cell (j := 0) rfl
  have bW_1 := bW.cell (j := 1) rfl
  have bW_2 := bW.cell (j := 2) rfl
  have bW_3 := bW.cell (j := 3) rfl
  have bW_z := bW.frozen
  have bW_l := bW.lt
  have bX_0 := bX.cell (j := 0) rfl
  have bX_1 := bX.cell (j := 1) rfl
  have bX_2 := bX.cell (j := 2) rfl
  have bX_3 := bX.cell (j := 3) rfl
  have bX_z := bX.frozen
  have bX_l := bX.lt
  go_wp2_with fail
  clear bA_0 bA_1 bA_2 bA_3 bA_z bA_l bW_0 bW_1 bW_2 bW_3 bW_z bW_l bX_0 bX_1 bX_2 bX_3 bX_z bX_l
  have b_15 := (Below.refl w13.heap.size w13).alloc (Nat.le_refl _) (.cells #[.int .i64 (Fa.ttM m st ls lw), .slice A23 n23 d23, .slice A24 n24 d24, .slice A25 n25 d25] 35)
  have bG := Box.new w13 #[.int .i64 (Fa.ttM m st ls lw), .slice A23 n23 d23, .slice A24 n24 d24, .slice A25 n25 d25] 35 rfl
  replace bA := bA.below b_15 bA.lt
  replace bW := bW.below b_15 bW.lt
  replace bX := bX.below b_15 bX.lt
  replace ht := ht.below b_15 (by omega)
  replace hs := hs.below b_15 (by omega)
  replace hw := hw.below b_15 (by omega)
  replace o13 := o13.below b_15 (by omega)
  replace o14 := o14.below b_15 (by omega)
  replace o15 := o15.below b_15 (by omega)
  replace o20 := o20.below b_15 (by omega)
  replace o21 := o21.below b_15 (by omega)
  replace o22 := o22.below b_15 (by omega)
  replace o23 := o23.below b_15 (by omega)
  replace o24 := o24.below b_15 (by omega)
  replace o25 := o25.below b_15 (by omega)
  have z_16 := b_15.size
  replace b0 := b0.trans (b_15.mono (by omega))
  clear b_15
  generalize w13.alloc _ = w15 at *
  generalize w13.heap.size = g15 at *
  refine (eqFace_same (Fa.ttM m st ls lw) _ _ _ _ _ _ (Fa.ttT m st ls lw) (Fa.ttS m st ls lw) (Fa.ttW m st ls lw) w15 o23.rd o24.rd o25.rd o13.rd o14.rd o15.rd (by omega) (by omega) (by omega) (by omega) (by omega) (by omega)).mono ?_; rintro q_ w17 ⟨rfl, b_17⟩
  replace bA := bA.below b_17 bA.lt
  replace bW := bW.below b_17 bW.lt
  replace bX := bX.below b_17 bX.lt
  replace bG := bG.below b_17 bG.lt
  replace ht := ht.below b_17 (by omega)
  replace hs := hs.below b_17 (by omega)
  replace hw := hw.below b_17 (by omega)
  replace o13 := o13.below b_17 (by omega)
  replace o14 := o14.below b_17 (by omega)
  replace o15 := o15.below b_17 (by omega)
  replace o20 := o20.below b_17 (by omega)
  replace o21 := o21.below b_17 (by omega)
  replace o22 := o22.below b_17 (by omega)
  replace o23 := o23.below b_17 (by omega)
  replace o24 := o24.below b_17 (by omega)
  replace o25 := o25.below b_17 (by omega)
  have z_18 := b_17.size
  replace b0 := b0.trans (b_17.mono (by omega))
  clear b_17
  have bA_0 := bA.cell (j := 0) rfl
  have bA_1 := bA.cell (j := 1) rfl
  have bA_2 := bA.cell (j := 2) rfl
  have bA_3 := bA.cell (j := 3) rfl
  have bA_z := bA.frozen
  have bA_l := bA.lt
  have bW_0 := bW.cell (j := 0) rfl
  have bW_1 := bW.cell (j := 1) rfl
  have bW_2 := bW.cell (j := 2) rfl
  have bW_3 := bW.cell (j := 3) rfl
  have bW_z := bW.frozen
  have bW_l := bW.lt
  have bX_0 := bX.cell (j := 0) rfl
  have bX_1 := bX.cell (j := 1) rfl
  have bX_2 := bX.cell (j := 2) rfl
  have bX_3 := bX.cell (j := 3) rfl
  have bX_z := bX.frozen
  have bX_l := bX.lt
  have bG_0 := bG.cell (j := 0) rfl
  have bG_1 := bG.cell (j := 1) rfl
  have bG_2 := bG.cell (j := 2) rfl
  have bG_3 := bG.cell (j := 3) rfl
  have bG_z := bG.frozen
  have bG_l := bG.lt
  go_wp2_with fail
  clear bA_0 bA_1 bA_2 bA_3 bA_z bA_l bW_0 bW_1 bW_2 bW_3 bW_z bW_l bX_0 bX_1 bX_2 bX_3 bX_z bX_l bG_0 bG_1 bG_2 bG_3 bG_z bG_l
  refine wp_region_held_drew (S := fun W => Box W (g11) 35 [.int .i64 m, .slice A20 n20 d20, .slice A21 n21 d21, .slice A22 n22 d22] ∧ Box W (w.heap.size) 28 [.int .i64 m, .slice At nt dt, .slice A0 n0 d0, .slice A1 n1 d1]) (by kernel_rfl) (show (fun (W : World) => Box W (g11) 35 [.int .i64 m, .slice A20 n20 d20, .slice A21 n21 d21, .slice A22 n22 d22] ∧ Box W (w.heap.size) 28 [.int .i64 m, .slice At nt dt, .slice A0 n0 d0, .slice A1 n1 d1]) w17.drew from ⟨bX, bA⟩) (fun hHeld => ?_)
  refine wpAnyH_take (i := 0) (v := .agg #[.int .i64 m, .slice A20 n20 d20, .slice A21 n21 d21, .slice A22 n22 d22]) rfl (by kernel_rfl) (by kernel_rfl) (by kernel_rfl) (fun _ _ _ h => h) (Or.inl ⟨by rfl, by intro w hSw; obtain ⟨hS0, hS1⟩ := hSw; have y00 := hS0.cell (j := 0) rfl; have y01 := hS0.cell (j := 1) rfl; have y02 := hS0.cell (j := 2) rfl; have y03 := hS0.cell (j := 3) rfl; have y10 := hS1.cell (j := 0) rfl; have y11 := hS1.cell (j := 1) rfl; have y12 := hS1.cell (j := 2) rfl; have y13 := hS1.cell (j := 3) rfl; go_simp⟩) hHeld ?_
  refine wpAnyH_take (i := 1) (v := .agg #[.int .i64 m, .slice At nt dt, .slice A0 n0 d0, .slice A1 n1 d1]) rfl (by kernel_rfl) (by kernel_rfl) (by kernel_rfl) (fun _ _ _ h => h) (Or.inl ⟨by rfl, by intro w hSw; obtain ⟨hS0, hS1⟩ := hSw; have y00 := hS0.cell (j := 0) rfl; have y01 := hS0.cell (j := 1) rfl; have y02 := hS0.cell (j := 2) rfl; have y03 := hS0.cell (j := 3) rfl; have y10 := hS1.cell (j := 0) rfl; have y11 := hS1.cell (j := 1) rfl; have y12 := hS1.cell (j := 2) rfl; have y13 := hS1.cell (j := 3) rfl; go_simp⟩) hHeld ?_
  clear hHeld
  refine held_gen (F := fun W' => Below w17.heap.size w17 W') (Below.refl w17.heap.size w17).drew ?_
  rintro w19 b_19
  replace bA := bA.below b_19 bA.lt
  replace bW := bW.below b_19 bW.lt
  replace bX := bX.below b_19 bX.lt
  replace bG := bG.below b_19 bG.lt
  replace ht := ht.below b_19 (by omega)
  replace hs := hs.below b_19 (by omega)
  replace hw := hw.below b_19 (by omega)
  replace o13 := o13.below b_19 (by omega)
  replace o14 := o14.below b_19 (by omega)
  replace o15 := o15.below b_19 (by omega)
  replace o20 := o20.below b_19 (by omega)
  replace o21 := o21.below b_19 (by omega)
  replace o22 := o22.below b_19 (by omega)
  replace o23 := o23.below b_19 (by omega)
  replace o24 := o24.below b_19 (by omega)
  replace o25 := o25.below b_19 (by omega)
  have z_20 := b_19.size
  replace b0 := b0.trans (b_19.mono (by omega))
  clear b_19
  refine wpAnyH_ready (rs := [2]) (by kernel_rfl) (by decide) ?_
  refine AllReadyH.cons rfl (fun K21 hK21 => ?_) AllReadyH.nil
  go_simp
  refine (toFace_any m _ _ _ st ls lw w19 ht hs hw (by omega) (by omega) (by omega) zt zs zw).mono ?_; rintro q_ w22 ⟨v30, v31, v32, rfl, o30, o31, o32, b_22⟩
  replace bA := bA.below b_22 bA.lt
  replace bW := bW.below b_22 bW.lt
  replace bX := bX.below b_22 bX.lt
  replace bG := bG.below b_22 bG.lt
  replace ht := ht.below b_22 (by omega)
  replace hs := hs.below b_22 (by omega)
  replace hw := hw.below b_22 (by omega)
  replace o13 := o13.below b_22 (by omega)
  replace o14 := o14.below b_22 (by omega)
  replace o15 := o15.below b_22 (by omega)
  replace o20 := o20.below b_22 (by omega)
  replace o21 := o21.below b_22 (by omega)
  replace o22 := o22.below b_22 (by omega)
  replace o23 := o23.below b_22 (by omega)
  replace o24 := o24.below b_22 (by omega)
  replace o25 := o25.below b_22 (by omega)
  have z_23 := b_22.size
  replace b0 := b0.trans (b_22.mono (by omega))
  clear b_22
  obtain ⟨A30, n30, d30, rfl, _, _, _⟩ := o30.rd.form
  obtain ⟨A31, n31, d31, rfl, _, _, _⟩ := o31.rd.form
  obtain ⟨A32, n32, d32, rfl, _, _, _⟩ := o32.rd.form
  refine hK21.out _ _ ⟨bX, bA⟩ (fun _ => ?_)
  refine wpAnyH_ready (rs := [3]) (by kernel_rfl) (by decide) ?_
  refine AllReadyH.cons rfl (fun K24 hK24 => ?_) AllReadyH.nil
  go_simp
  refine (eqFace_same m _ _ _ _ _ _ st ls lw w22 o20.rd o21.rd o22.rd o30.rd o31.rd o32.rd (by omega) (by omega) (by omega) (by omega) (by omega) (by omega)).mono ?_; rintro q_ w25 ⟨rfl, b_25⟩
  replace bA := bA.below b_25 bA.lt
  replace bW := bW.below b_25 bW.lt
  replace bX := bX.below b_25 bX.lt
  replace bG := bG.below b_25 bG.lt
  replace ht := ht.below b_25 (by omega)
  replace hs := hs.below b_25 (by omega)
  replace hw := hw.below b_25 (by omega)
  replace o13 := o13.below b_25 (by omega)
  replace o14 := o14.below b_25 (by omega)
  replace o15 := o15.below b_25 (by omega)
  replace o20 := o20.below b_25 (by omega)
  replace o21 := o21.below b_25 (by omega)
  replace o22 := o22.below b_25 (by omega)
  replace o23 := o23.below b_25 (by omega)
  replace o24 := o24.below b_25 (by omega)
  replace o25 := o25.below b_25 (by omega)
  replace o30 := o30.below b_25 (by omega)
  replace o31 := o31.below b_25 (by omega)
  replace o32 := o32.below b_25 (by omega)
  have z_26 := b_25.size
  replace b0 := b0.trans (b_25.mono (by omega))
  clear b_25
  refine hK24.out _ _ ⟨bX, bA⟩ (fun _ => ?_)
  refine wpAnyH_ready (rs := [4]) (by kernel_rfl) (by decide) ?_
  refine AllReadyH.cons rfl (fun K27 hK27 => ?_) AllReadyH.nil
  go_simp
  refine hK27.out _ _ ⟨bX, bA⟩ (fun _ => ?_)
  refine ⟨by kernel_rfl, ?_⟩
  clear o30 o31 o32
  have bA_0 := bA.cell (j := 0) rfl
  have bA_1 := bA.cell (j := 1) rfl
  have bA_2 := bA.cell (j := 2) rfl
  have bA_3 := bA.cell (j := 3) rfl
  have bA_z := bA.frozen
  have bA_l := bA.lt
  have bW_0 := bW.cell (j := 0) rfl
  have bW_1 := bW.cell (j := 1) rfl
  have bW_2 := bW.cell (j := 2) rfl
  have bW_3 := bW.cell (j := 3) rfl
  have bW_z := bW.frozen
  have bW_l := bW.lt
  have bX_0 := bX.cell (j := 0) rfl
  have bX_1 := bX.cell (j := 1) rfl
  have bX_2 := bX.cell (j := 2) rfl
  have bX_3 := bX.cell (j := 3) rfl
  have bX_z := bX.frozen
  have bX_l := bX.lt
  have bG_0 := bG.cell (j := 0) rfl
  have bG_1 := bG.cell (j := 1) rfl
  have bG_2 := bG.cell (j := 2) rfl
  have bG_3 := bG.cell (j := 3) rfl
  have bG_z := bG.frozen
  have bG_l := bG.lt
  go_wp2_with fail
  clear bA_0 bA_1 bA_2 bA_3 bA_z bA_l bW_0 bW_1 bW_2 bW_3 bW_z bW_l bX_0 bX_1 bX_2 bX_3 bX_z bX_l bG_0 bG_1 bG_2 bG_3 bG_z bG_l
  refine (markFace_any _ _ _ _ (st) (ls) (lw) w25 o20 o21 o22 (by omega) (by omega) (by omega) zt zs zw 1 (by omega) (by omega)).mono ?_; rintro q_ wx ⟨wxa, wxb, wxc, wxd, rfl, bax, px0, tx0, bbx, px1, tx1, px2, tx2, _⟩
  replace bA := bA.below bax bA.lt
  replace bW := bW.below bax bW.lt
  replace bX := bX.below bax bX.lt
  replace bG := bG.below bax bG.lt
  replace ht := ht.below bax (by omega)
  replace hs := hs.below bax (by omega)
  replace hw := hw.below bax (by omega)
  replace o13 := o13.below bax (by omega)
  replace o14 := o14.below bax (by omega)
  replace o15 := o15.below bax (by omega)
  replace o20 := o20.below bax (by omega)
  replace o21 := o21.below bax (by omega)
  replace o22 := o22.below bax (by omega)
  replace o23 := o23.below bax (by omega)
  replace o24 := o24.below bax (by omega)
  replace o25 := o25.below bax (by omega)
  have z_28 := bax.size
  replace b0 := b0.trans (bax.mono (by omega))
  clear bax
  have z_29 := tx0.size
  replace bA := bA.turned o20 tx0 (by decide)
  replace bW := bW.turned o20 tx0 (by decide)
  replace bX := bX.turned o20 tx0 (by decide)
  replace bG := bG.turned o20 tx0 (by decide)
  replace ht := ht.turned o20 tx0 (by omega) (by omega)
  replace hs := hs.turned o20 tx0 (by omega) (by omega)
  replace hw := hw.turned o20 tx0 (by omega) (by omega)
  replace o13 := o13.turned o20 tx0 (by omega)
  replace o14 := o14.turned o20 tx0 (by omega)
  replace o15 := o15.turned o20 tx0 (by omega)
  replace o21 := o21.turned_type o20 tx0 (by decide)
  replace o22 := o22.turned_type o20 tx0 (by decide)
  replace o23 := o23.turned o20 tx0 (by omega)
  replace o24 := o24.turned o20 tx0 (by omega)
  replace o25 := o25.turned o20 tx0 (by omega)
  replace b0 := Below.turned b0 o20 tx0 (by omega) (by omega)
  clear o20 tx0
  have o20 := px0
  clear px0
  replace bA := bA.below bbx bA.lt
  replace bW := bW.below bbx bW.lt
  replace bX := bX.below bbx bX.lt
  replace bG := bG.below bbx bG.lt
  replace ht := ht.below bbx (by omega)
  replace hs := hs.below bbx (by omega)
  replace hw := hw.below bbx (by omega)
  replace o13 := o13.below bbx (by omega)
  replace o14 := o14.below bbx (by omega)
  replace o15 := o15.below bbx (by omega)
  replace o20 := o20.below bbx (by omega)
  replace o21 := o21.below bbx (by omega)
  replace o22 := o22.below bbx (by omega)
  replace o23 := o23.below bbx (by omega)
  replace o24 := o24.below bbx (by omega)
  replace o25 := o25.below bbx (by omega)
  have z_30 := bbx.size
  replace b0 := b0.trans (bbx.mono (by omega))
  clear bbx
  have z_31 := tx1.size
  replace bA := bA.turned o21 tx1 (by decide)
  replace bW := bW.turned o21 tx1 (by decide)
  replace bX := bX.turned o21 tx1 (by decide)
  replace bG := bG.turned o21 tx1 (by decide)
  replace ht := ht.turned o21 tx1 (by omega) (by omega)
  replace hs := hs.turned o21 tx1 (by omega) (by omega)
  replace hw := hw.turned o21 tx1 (by omega) (by omega)
  replace o13 := o13.turned o21 tx1 (by omega)
  replace o14 := o14.turned o21 tx1 (by omega)
  replace o15 := o15.turned o21 tx1 (by omega)
  replace o20 := o20.turned_type o21 tx1 (by decide)
  replace o22 := o22.turned_type o21 tx1 (by decide)
  replace o23 := o23.turned o21 tx1 (by omega)
  replace o24 := o24.turned o21 tx1 (by omega)
  replace o25 := o25.turned o21 tx1 (by omega)
  replace b0 := Below.turned b0 o21 tx1 (by omega) (by omega)
  clear o21 tx1
  have o21 := px1
  clear px1
  have z_32 := tx2.size
  replace bA := bA.turned o22 tx2 (by decide)
  replace bW := bW.turned o22 tx2 (by decide)
  replace bX := bX.turned o22 tx2 (by decide)
  replace bG := bG.turned o22 tx2 (by decide)
  replace ht := ht.turned o22 tx2 (by omega) (by omega)
  replace hs := hs.turned o22 tx2 (by omega) (by omega)
  replace hw := hw.turned o22 tx2 (by omega) (by omega)
  replace o13 := o13.turned o22 tx2 (by omega)
  replace o14 := o14.turned o22 tx2 (by omega)
  replace o15 := o15.turned o22 tx2 (by omega)
  replace o20 := o20.turned_type o22 tx2 (by decide)
  replace o21 := o21.turned_type o22 tx2 (by decide)
  replace o23 := o23.turned o22 tx2 (by omega)
  replace o24 := o24.turned o22 tx2 (by omega)
  replace o25 := o25.turned o22 tx2 (by omega)
  replace b0 := Below.turned b0 o22 tx2 (by omega) (by omega)
  clear o22 tx2
  have o22 := px2
  clear px2
  clear o20 o21 o22
  have bA_0 := bA.cell (j := 0) rfl
  have bA_1 := bA.cell (j := 1) rfl
  have bA_2 := bA.cell (j := 2) rfl
  have bA_3 := bA.cell (j := 3) rfl
  have bA_z := bA.frozen
  have bA_l := bA.lt
  have bW_0 := bW.cell (j := 0) rfl
  have bW_1 := bW.cell (j := 1) rfl
  have bW_2 := bW.cell (j := 2) rfl
  have bW_3 := bW.cell (j := 3) rfl
  have bW_z := bW.frozen
  have bW_l := bW.lt
  have bX_0 := bX.cell (j := 0) rfl
  have bX_1 := bX.cell (j := 1) rfl
  have bX_2 := bX.cell (j := 2) rfl
  have bX_3 := bX.cell (j := 3) rfl
  have bX_z := bX.frozen
  have bX_l := bX.lt
  have bG_0 := bG.cell (j := 0) rfl
  have bG_1 := bG.cell (j := 1) rfl
  have bG_2 := bG.cell (j := 2) rfl
  have bG_3 := bG.cell (j := 3) rfl
  have bG_z := bG.frozen
  have bG_l := bG.lt
  go_wp2_with fail
  clear bA_0 bA_1 bA_2 bA_3 bA_z bA_l bW_0 bW_1 bW_2 bW_3 bW_z bW_l bX_0 bX_1 bX_2 bX_3 bX_z bX_l bG_0 bG_1 bG_2 bG_3 bG_z bG_l
  refine (eqFace_same (Fa.ttM m st ls lw) _ _ _ _ _ _ (Fa.ttT m st ls lw) (Fa.ttS m st ls lw) (Fa.ttW m st ls lw) wx o23.rd o24.rd o25.rd o13.rd o14.rd o15.rd (by omega) (by omega) (by omega) (by omega) (by omega) (by omega)).mono ?_; rintro q_ w33 ⟨rfl, b_33⟩
  replace bA := bA.below b_33 bA.lt
  replace bW := bW.below b_33 bW.lt
  replace bX := bX.below b_33 bX.lt
  replace bG := bG.below b_33 bG.lt
  replace ht := ht.below b_33 (by omega)
  replace hs := hs.below b_33 (by omega)
  replace hw := hw.below b_33 (by omega)
  replace o13 := o13.below b_33 (by omega)
  replace o14 := o14.below b_33 (by omega)
  replace o15 := o15.below b_33 (by omega)
  replace o23 := o23.below b_33 (by omega)
  replace o24 := o24.below b_33 (by omega)
  replace o25 := o25.below b_33 (by omega)
  have z_34 := b_33.size
  replace b0 := b0.trans (b_33.mono (by omega))
  clear b_33
  have bA_0 := bA.cell (j := 0) rfl
  have bA_1 := bA.cell (j := 1) rfl
  have bA_2 := bA.cell (j := 2) rfl
  have bA_3 := bA.cell (j := 3) rfl
  have bA_z := bA.frozen
  have bA_l := bA.lt
  have bW_0 := bW.cell (j := 0) rfl
  have bW_1 := bW.cell (j := 1) rfl
  have bW_2 := bW.cell (j := 2) rfl
  have bW_3 := bW.cell (j := 3) rfl
  have bW_z := bW.frozen
  have bW_l := bW.lt
  have bX_0 := bX.cell (j := 0) rfl
  have bX_1 := bX.cell (j := 1) rfl
  have bX_2 := bX.cell (j := 2) rfl
  have bX_3 := bX.cell (j := 3) rfl
  have bX_z := bX.frozen
  have bX_l := bX.lt
  have bG_0 := bG.cell (j := 0) rfl
  have bG_1 := bG.cell (j := 1) rfl
  have bG_2 := bG.cell (j := 2) rfl
  have bG_3 := bG.cell (j := 3) rfl
  have bG_z := bG.frozen
  have bG_l := bG.lt
  go_wp2_with fail
  clear bA_0 bA_1 bA_2 bA_3 bA_z bA_l bW_0 bW_1 bW_2 bW_3 bW_z bW_l bX_0 bX_1 bX_2 bX_3 bX_z bX_l bG_0 bG_1 bG_2 bG_3 bG_z bG_l
  refine (markFace_any _ _ _ _ (Fa.ttT m st ls lw) (Fa.ttS m st ls lw) (Fa.ttW m st ls lw) w33 o23 o24 o25 (by omega) (by omega) (by omega) zz0 zz1 zz2 1 (by omega) (by omega)).mono ?_; rintro q_ wg ⟨wga, wgb, wgc, wgd, rfl, bag, pg0, tg0, bbg, pg1, tg1, pg2, tg2, _⟩
  replace bA := bA.below bag bA.lt
  replace bW := bW.below bag bW.lt
  replace bX := bX.below bag bX.lt
  replace bG := bG.below bag bG.lt
  replace ht := ht.below bag (by omega)
  replace hs := hs.below bag (by omega)
  replace hw := hw.below bag (by omega)
  replace o13 := o13.below bag (by omega)
  replace o14 := o14.below bag (by omega)
  replace o15 := o15.below bag (by omega)
  replace o23 := o23.below bag (by omega)
  replace o24 := o24.below bag (by omega)
  replace o25 := o25.below bag (by omega)
  have z_35 := bag.size
  replace b0 := b0.trans (bag.mono (by omega))
  clear bag
  have z_36 := tg0.size
  replace bA := bA.turned o23 tg0 (by decide)
  replace bW := bW.turned o23 tg0 (by decide)
  replace bX := bX.turned o23 tg0 (by decide)
  replace bG := bG.turned o23 tg0 (by decide)
  replace ht := ht.turned o23 tg0 (by omega) (by omega)
  replace hs := hs.turned o23 tg0 (by omega) (by omega)
  replace hw := hw.turned o23 tg0 (by omega) (by omega)
  replace o13 := o13.turned o23 tg0 (by omega)
  replace o14 := o14.turned o23 tg0 (by omega)
  replace o15 := o15.turned o23 tg0 (by omega)
  replace o24 := o24.turned_type o23 tg0 (by decide)
  replace o25 := o25.turned_type o23 tg0 (by decide)
  replace b0 := Below.turned b0 o23 tg0 (by omega) (by omega)
  clear o23 tg0
  have o23 := pg0
  clear pg0
  replace bA := bA.below bbg bA.lt
  replace bW := bW.below bbg bW.lt
  replace bX := bX.below bbg bX.lt
  replace bG := bG.below bbg bG.lt
  replace ht := ht.below bbg (by omega)
  replace hs := hs.below bbg (by omega)
  replace hw := hw.below bbg (by omega)
  replace o13 := o13.below bbg (by omega)
  replace o14 := o14.below bbg (by omega)
  replace o15 := o15.below bbg (by omega)
  replace o23 := o23.below bbg (by omega)
  replace o24 := o24.below bbg (by omega)
  replace o25 := o25.below bbg (by omega)
  have z_37 := bbg.size
  replace b0 := b0.trans (bbg.mono (by omega))
  clear bbg
  have z_38 := tg1.size
  replace bA := bA.turned o24 tg1 (by decide)
  replace bW := bW.turned o24 tg1 (by decide)
  replace bX := bX.turned o24 tg1 (by decide)
  replace bG := bG.turned o24 tg1 (by decide)
  replace ht := ht.turned o24 tg1 (by omega) (by omega)
  replace hs := hs.turned o24 tg1 (by omega) (by omega)
  replace hw := hw.turned o24 tg1 (by omega) (by omega)
  replace o13 := o13.turned o24 tg1 (by omega)
  replace o14 := o14.turned o24 tg1 (by omega)
  replace o15 := o15.turned o24 tg1 (by omega)
  replace o23 := o23.turned_type o24 tg1 (by decide)
  replace o25 := o25.turned_type o24 tg1 (by decide)
  replace b0 := Below.turned b0 o24 tg1 (by omega) (by omega)
  clear o24 tg1
  have o24 := pg1
  clear pg1
  have z_39 := tg2.size
  replace bA := bA.turned o25 tg2 (by decide)
  replace bW := bW.turned o25 tg2 (by decide)
  replace bX := bX.turned o25 tg2 (by decide)
  replace bG := bG.turned o25 tg2 (by decide)
  replace ht := ht.turned o25 tg2 (by omega) (by omega)
  replace hs := hs.turned o25 tg2 (by omega) (by omega)
  replace hw := hw.turned o25 tg2 (by omega) (by omega)
  replace o13 := o13.turned o25 tg2 (by omega)
  replace o14 := o14.turned o25 tg2 (by omega)
  replace o15 := o15.turned o25 tg2 (by omega)
  replace o23 := o23.turned_type o25 tg2 (by decide)
  replace o24 := o24.turned_type o25 tg2 (by decide)
  replace b0 := Below.turned b0 o25 tg2 (by omega) (by omega)
  clear o25 tg2
  have o25 := pg2
  clear pg2
  have bA_0 := bA.cell (j := 0) rfl
  have bA_1 := bA.cell (j := 1) rfl
  have bA_2 := bA.cell (j := 2) rfl
  have bA_3 := bA.cell (j := 3) rfl
  have bA_z := bA.frozen
  have bA_l := bA.lt
  have bW_0 := bW.cell (j := 0) rfl
  have bW_1 := bW.cell (j := 1) rfl
  have bW_2 := bW.cell (j := 2) rfl
  have bW_3 := bW.cell (j := 3) rfl
  have bW_z := bW.frozen
  have bW_l := bW.lt
  have bX_0 := bX.cell (j := 0) rfl
  have bX_1 := bX.cell (j := 1) rfl
  have bX_2 := bX.cell (j := 2) rfl
  have bX_3 := bX.cell (j := 3) rfl
  have bX_z := bX.frozen
  have bX_l := bX.lt
  have bG_0 := bG.cell (j := 0) rfl
  have bG_1 := bG.cell (j := 1) rfl
  have bG_2 := bG.cell (j := 2) rfl
  have bG_3 := bG.cell (j := 3) rfl
  have bG_z := bG.frozen
  have bG_l := bG.lt
  go_wp2_with fail
  clear bA_0 bA_1 bA_2 bA_3 bA_z bA_l bW_0 bW_1 bW_2 bW_3 bW_z bW_l bX_0 bX_1 bX_2 bX_3 bX_z bX_l bG_0 bG_1 bG_2 bG_3 bG_z bG_l
  refine (heldFace_any _ _ _ _ (Fa.ttT m st ls lw).length (Fa.ttS m st ls lw).length (Fa.ttW m st ls lw).length wg o23.rd o24.rd o25.rd (by omega) (by omega) (by omega) zz0 zz1 zz2 (by omega) (by omega)).mono ?_; rintro q_ w40 ⟨rfl, b_40⟩
  replace bA := bA.below b_40 bA.lt
  replace bW := bW.below b_40 bW.lt
  replace bX := bX.below b_40 bX.lt
  replace bG := bG.below b_40 bG.lt
  replace ht := ht.below b_40 (by omega)
  replace hs := hs.below b_40 (by omega)
  replace hw := hw.below b_40 (by omega)
  replace o13 := o13.below b_40 (by omega)
  replace o14 := o14.below b_40 (by omega)
  replace o15 := o15.below b_40 (by omega)
  replace o23 := o23.below b_40 (by omega)
  replace o24 := o24.below b_40 (by omega)
  replace o25 := o25.below b_40 (by omega)
  have z_41 := b_40.size
  replace b0 := b0.trans (b_40.mono (by omega))
  clear b_40
  have bA_0 := bA.cell (j := 0) rfl
  have bA_1 := bA.cell (j := 1) rfl
  have bA_2 := bA.cell (j := 2) rfl
  have bA_3 := bA.cell (j := 3) rfl
  have bA_z := bA.frozen
  have bA_l := bA.lt
  have bW_0 := bW.cell (j := 0) rfl
  have bW_1 := bW.cell (j := 1) rfl
  have bW_2 := bW.cell (j := 2) rfl
  have bW_3 := bW.cell (j := 3) rfl
  have bW_z := bW.frozen
  have bW_l := bW.lt
  have bX_0 := bX.cell (j := 0) rfl
  have bX_1 := bX.cell (j := 1) rfl
  have bX_2 := bX.cell (j := 2) rfl
  have bX_3 := bX.cell (j := 3) rfl
  have bX_z := bX.frozen
  have bX_l := bX.lt
  have bG_0 := bG.cell (j := 0) rfl
  have bG_1 := bG.cell (j := 1) rfl
  have bG_2 := bG.cell (j := 2) rfl
  have bG_3 := bG.cell (j := 3) rfl
  have bG_z := bG.frozen
  have bG_l := bG.lt
  go_wp2_with fail
  clear bA_0 bA_1 bA_2 bA_3 bA_z bA_l bW_0 bW_1 bW_2 bW_3 bW_z bW_l bX_0 bX_1 bX_2 bX_3 bX_z bX_l bG_0 bG_1 bG_2 bG_3 bG_z bG_l
  refine (toFace_any m _ _ _ st ls lw w40 ht hs hw (by omega) (by omega) (by omega) zt zs zw).mono ?_; rintro q_ w42 ⟨v40, v41, v42, rfl, o40, o41, o42, b_42⟩
  replace bA := bA.below b_42 bA.lt
  replace bW := bW.below b_42 bW.lt
  replace bX := bX.below b_42 bX.lt
  replace bG := bG.below b_42 bG.lt
  replace ht := ht.below b_42 (by omega)
  replace hs := hs.below b_42 (by omega)
  replace hw := hw.below b_42 (by omega)
  replace o13 := o13.below b_42 (by omega)
  replace o14 := o14.below b_42 (by omega)
  replace o15 := o15.below b_42 (by omega)
  replace o23 := o23.below b_42 (by omega)
  replace o24 := o24.below b_42 (by omega)
  replace o25 := o25.below b_42 (by omega)
  have z_43 := b_42.size
  replace b0 := b0.trans (b_42.mono (by omega))
  clear b_42
  obtain ⟨A40, n40, d40, rfl, _, _, _⟩ := o40.rd.form
  obtain ⟨A41, n41, d41, rfl, _, _, _⟩ := o41.rd.form
  obtain ⟨A42, n42, d42, rfl, _, _, _⟩ := o42.rd.form
  have bA_0 := bA.cell (j := 0) rfl
  have bA_1 := bA.cell (j := 1) rfl
  have bA_2 := bA.cell (j := 2) rfl
  have bA_3 := bA.cell (j := 3) rfl
  have bA_z := bA.frozen
  have bA_l := bA.lt
  have bW_0 := bW.cell (j := 0) rfl
  have bW_1 := bW.cell (j := 1) rfl
  have bW_2 := bW.cell (j := 2) rfl
  have bW_3 := bW.cell (j := 3) rfl
  have bW_z := bW.frozen
  have bW_l := bW.lt
  have bX_0 := bX.cell (j := 0) rfl
  have bX_1 := bX.cell (j := 1) rfl
  have bX_2 := bX.cell (j := 2) rfl
  have bX_3 := bX.cell (j := 3) rfl
  have bX_z := bX.frozen
  have bX_l := bX.lt
  have bG_0 := bG.cell (j := 0) rfl
  have bG_1 := bG.cell (j := 1) rfl
  have bG_2 := bG.cell (j := 2) rfl
  have bG_3 := bG.cell (j := 3) rfl
  have bG_z := bG.frozen
  have bG_l := bG.lt
  go_wp2_with fail
  clear bA_0 bA_1 bA_2 bA_3 bA_z bA_l bW_0 bW_1 bW_2 bW_3 bW_z bW_l bX_0 bX_1 bX_2 bX_3 bX_z bX_l bG_0 bG_1 bG_2 bG_3 bG_z bG_l
  refine (implTakeIrq_any m _ _ _ st ls lw w42 o40.rd o41.rd o42.rd (by omega) (by omega) (by omega) zt zw).mono ?_; rintro q_ w44 ⟨v43, v44, v45, rfl, o43, o44, o45, b_44⟩
  replace bA := bA.below b_44 bA.lt
  replace bW := bW.below b_44 bW.lt
  replace bX := bX.below b_44 bX.lt
  replace bG := bG.below b_44 bG.lt
  replace ht := ht.below b_44 (by omega)
  replace hs := hs.below b_44 (by omega)
  replace hw := hw.below b_44 (by omega)
  replace o13 := o13.below b_44 (by omega)
  replace o14 := o14.below b_44 (by omega)
  replace o15 := o15.below b_44 (by omega)
  replace o23 := o23.below b_44 (by omega)
  replace o24 := o24.below b_44 (by omega)
  replace o25 := o25.below b_44 (by omega)
  replace o40 := o40.below b_44 (by omega)
  replace o41 := o41.below b_44 (by omega)
  replace o42 := o42.below b_44 (by omega)
  have z_45 := b_44.size
  replace b0 := b0.trans (b_44.mono (by omega))
  clear b_44
  obtain ⟨A43, n43, d43, rfl, _, _, _⟩ := o43.rd.form
  obtain ⟨A44, n44, d44, rfl, _, _, _⟩ := o44.rd.form
  obtain ⟨A45, n45, d45, rfl, _, _, _⟩ := o45.rd.form
  clear o40 o41 o42
  have bA_0 := bA.cell (j := 0) rfl
  have bA_1 := bA.cell (j := 1) rfl
  have bA_2 := bA.cell (j := 2) rfl
  have bA_3 := bA.cell (j := 3) rfl
  have bA_z := bA.frozen
  have bA_l := bA.lt
  have bW_0 := bW.cell (j := 0) rfl
  have bW_1 := bW.cell (j := 1) rfl
  have bW_2 := bW.cell (j := 2) rfl
  have bW_3 := bW.cell (j := 3) rfl
  have bW_z := bW.frozen
  have bW_l := bW.lt
  have bX_0 := bX.cell (j := 0) rfl
  have bX_1 := bX.cell (j := 1) rfl
  have bX_2 := bX.cell (j := 2) rfl
  have bX_3 := bX.cell (j := 3) rfl
  have bX_z := bX.frozen
  have bX_l := bX.lt
  have bG_0 := bG.cell (j := 0) rfl
  have bG_1 := bG.cell (j := 1) rfl
  have bG_2 := bG.cell (j := 2) rfl
  have bG_3 := bG.cell (j := 3) rfl
  have bG_z := bG.frozen
  have bG_l := bG.lt
  go_wp2_with fail
  clear bA_0 bA_1 bA_2 bA_3 bA_z bA_l bW_0 bW_1 bW_2 bW_3 bW_z bW_l bX_0 bX_1 bX_2 bX_3 bX_z bX_l bG_0 bG_1 bG_2 bG_3 bG_z bG_l
  have b_46 := (Below.refl w44.heap.size w44).alloc (Nat.le_refl _) (.cells #[.int .i64 (Fa.ttM m st ls lw), .slice A43 n43 d43, .slice A44 n44 d44, .slice A45 n45 d45] 35)
  have bH := Box.new w44 #[.int .i64 (Fa.ttM m st ls lw), .slice A43 n43 d43, .slice A44 n44 d44, .slice A45 n45 d45] 35 rfl
  replace bA := bA.below b_46 bA.lt
  replace bW := bW.below b_46 bW.lt
  replace bX := bX.below b_46 bX.lt
  replace bG := bG.below b_46 bG.lt
  replace ht := ht.below b_46 (by omega)
  replace hs := hs.below b_46 (by omega)
  replace hw := hw.below b_46 (by omega)
  replace o13 := o13.below b_46 (by omega)
  replace o14 := o14.below b_46 (by omega)
  replace o15 := o15.below b_46 (by omega)
  replace o23 := o23.below b_46 (by omega)
  replace o24 := o24.below b_46 (by omega)
  replace o25 := o25.below b_46 (by omega)
  replace o43 := o43.below b_46 (by omega)
  replace o44 := o44.below b_46 (by omega)
  replace o45 := o45.below b_46 (by omega)
  have z_47 := b_46.size
  replace b0 := b0.trans (b_46.mono (by omega))
  clear b_46
  generalize w44.alloc _ = w46 at *
  generalize w44.heap.size = g46 at *
  refine (eqFace_same (Fa.ttM m st ls lw) _ _ _ _ _ _ (Fa.ttT m st ls lw) (Fa.ttS m st ls lw) (Fa.ttW m st ls lw) w46 o43.rd o44.rd o45.rd o13.rd o14.rd o15.rd (by omega) (by omega) (by omega) (by omega) (by omega) (by omega)).mono ?_; rintro q_ w48 ⟨rfl, b_48⟩
  replace bA := bA.below b_48 bA.lt
  replace bW := bW.below b_48 bW.lt
  replace bX := bX.below b_48 bX.lt
  replace bG := bG.below b_48 bG.lt
  replace bH := bH.below b_48 bH.lt
  replace ht := ht.below b_48 (by omega)
  replace hs := hs.below b_48 (by omega)
  replace hw := hw.below b_48 (by omega)
  replace o13 := o13.below b_48 (by omega)
  replace o14 := o14.below b_48 (by omega)
  replace o15 := o15.below b_48 (by omega)
  replace o23 := o23.below b_48 (by omega)
  replace o24 := o24.below b_48 (by omega)
  replace o25 := o25.below b_48 (by omega)
  replace o43 := o43.below b_48 (by omega)
  replace o44 := o44.below b_48 (by omega)
  replace o45 := o45.below b_48 (by omega)
  have z_49 := b_48.size
  replace b0 := b0.trans (b_48.mono (by omega))
  clear b_48
  have bA_0 := bA.cell (j := 0) rfl
  have bA_1 := bA.cell (j := 1) rfl
  have bA_2 := bA.cell (j := 2) rfl
  have bA_3 := bA.cell (j := 3) rfl
  have bA_z := bA.frozen
  have bA_l := bA.lt
  have bW_0 := bW.cell (j := 0) rfl
  have bW_1 := bW.cell (j := 1) rfl
  have bW_2 := bW.cell (j := 2) rfl
  have bW_3 := bW.cell (j := 3) rfl
  have bW_z := bW.frozen
  have bW_l := bW.lt
  have bX_0 := bX.cell (j := 0) rfl
  have bX_1 := bX.cell (j := 1) rfl
  have bX_2 := bX.cell (j := 2) rfl
  have bX_3 := bX.cell (j := 3) rfl
  have bX_z := bX.frozen
  have bX_l := bX.lt
  have bG_0 := bG.cell (j := 0) rfl
  have bG_1 := bG.cell (j := 1) rfl
  have bG_2 := bG.cell (j := 2) rfl
  have bG_3 := bG.cell (j := 3) rfl
  have bG_z := bG.frozen
  have bG_l := bG.lt
  have bH_0 := bH.cell (j := 0) rfl
  have bH_1 := bH.cell (j := 1) rfl
  have bH_2 := bH.cell (j := 2) rfl
  have bH_3 := bH.cell (j := 3) rfl
  have bH_z := bH.frozen
  have bH_l := bH.lt
  go_wp2_with fail
  clear bA_0 bA_1 bA_2 bA_3 bA_z bA_l bW_0 bW_1 bW_2 bW_3 bW_z bW_l bX_0 bX_1 bX_2 bX_3 bX_z bX_l bG_0 bG_1 bG_2 bG_3 bG_z bG_l bH_0 bH_1 bH_2 bH_3 bH_z bH_l
  refine (heldFace_any _ _ _ _ (Fa.ttT m st ls lw).length (Fa.ttS m st ls lw).length (Fa.ttW m st ls lw).length w48 o23.rd o24.rd o25.rd (by omega) (by omega) (by omega) zz0 zz1 zz2 (by omega) (by omega)).mono ?_; rintro q_ w50 ⟨rfl, b_50⟩
  replace bA := bA.below b_50 bA.lt
  replace bW := bW.below b_50 bW.lt
  replace bX := bX.below b_50 bX.lt
  replace bG := bG.below b_50 bG.lt
  replace bH := bH.below b_50 bH.lt
  replace ht := ht.below b_50 (by omega)
  replace hs := hs.below b_50 (by omega)
  replace hw := hw.below b_50 (by omega)
  replace o13 := o13.below b_50 (by omega)
  replace o14 := o14.below b_50 (by omega)
  replace o15 := o15.below b_50 (by omega)
  replace o23 := o23.below b_50 (by omega)
  replace o24 := o24.below b_50 (by omega)
  replace o25 := o25.below b_50 (by omega)
  replace o43 := o43.below b_50 (by omega)
  replace o44 := o44.below b_50 (by omega)
  replace o45 := o45.below b_50 (by omega)
  have z_51 := b_50.size
  replace b0 := b0.trans (b_50.mono (by omega))
  clear b_50
  have bA_0 := bA.cell (j := 0) rfl
  have bA_1 := bA.cell (j := 1) rfl
  have bA_2 := bA.cell (j := 2) rfl
  have bA_3 := bA.cell (j := 3) rfl
  have bA_z := bA.frozen
  have bA_l := bA.lt
  have bW_0 := bW.cell (j := 0) rfl
  have bW_1 := bW.cell (j := 1) rfl
  have bW_2 := bW.cell (j := 2) rfl
  have bW_3 := bW.cell (j := 3) rfl
  have bW_z := bW.frozen
  have bW_l := bW.lt
  have bX_0 := bX.cell (j := 0) rfl
  have bX_1 := bX.cell (j := 1) rfl
  have bX_2 := bX.cell (j := 2) rfl
  have bX_3 := bX.cell (j := 3) rfl
  have bX_z := bX.frozen
  have bX_l := bX.lt
  have bG_0 := bG.cell (j := 0) rfl
  have bG_1 := bG.cell (j := 1) rfl
  have bG_2 := bG.cell (j := 2) rfl
  have bG_3 := bG.cell (j := 3) rfl
  have bG_z := bG.frozen
  have bG_l := bG.lt
  have bH_0 := bH.cell (j := 0) rfl
  have bH_1 := bH.cell (j := 1) rfl
  have bH_2 := bH.cell (j := 2) rfl
  have bH_3 := bH.cell (j := 3) rfl
  have bH_z := bH.frozen
  have bH_l := bH.lt
  go_wp2_with fail
  clear bA_0 bA_1 bA_2 bA_3 bA_z bA_l bW_0 bW_1 bW_2 bW_3 bW_z bW_l bX_0 bX_1 bX_2 bX_3 bX_z bX_l bG_0 bG_1 bG_2 bG_3 bG_z bG_l bH_0 bH_1 bH_2 bH_3 bH_z bH_l
  go_ret
  exact ⟨rfl, b0⟩

set_option maxRecDepth 100000 in
theorem TakeIrq_holds : Rows.FnExactTakeIrqSaid :=
  OpenClaim.holds_of_wide 4 Tryz.f4 rfl rfl rfl rfl rfl rfl rfl ⟨rfl, rfl, rfl, rfl, rfl⟩ rfl rfl rfl rfl rfl (by kernel_rfl) Tryz.func4 (by kernel_rfl)
    (of_decide_eq_true (by kernel_rfl)) (by unfold Func.isWrapper; first | (rw [if_pos (by decide +kernel)]; kernel_rfl) | (rw [if_neg (by decide +kernel)]; exact ⟨rfl, rfl⟩))
    (fun os started H enc _ => law_lifted (C := Tryz.checked) (s := Rows.fnExactTakeIrqSpec) own started (by kernel_rfl) Tryz.func4
      (ChangeSpec.witness6 (enc := enc) (C := Tryz.checked) false ⟨#[], #[.agg #[.int .i64 0, .slice none 0 0, .slice none 0 0, .slice none 0 0]], []⟩ 8 (by kernel_rfl) (by kernel_rfl) (by kernel_rfl) (by kernel_rfl))
      laidOut (by kernel_rfl) rfl rfl Tryz.underlying4 (fun ds h => by match ds, h with | [_], _ => rfl)
      (fun W base args ds p hval0 hA0 => by
        have hval : ∀ (j : Nat) t v, Tryz.f4.params[j]? = some t → args[j]? = some v → Value.okWide Tryz.prog W .any base t v := hval0
        have hA : DataW.TrodAll enc Tryz.prog W 0 (fun _ => true) true Tryz.f4.params.toList args.toList ds p := hA0
        rw [Tryz.params4] at hA hval
        obtain ⟨v0, vs0, d0, ds0, p0, q0, hargs, rfl, rfl, h0, r0⟩ := trodAll_cons hA
        obtain ⟨rfl, rfl, rfl⟩ := trodAll_nil r0
        obtain rfl : args = #[v0] := by cases args; simp_all
        obtain ⟨m, vt, vs, vw, st, ls, lw, rfl, k0, k1, k2⟩ := Fa.open_ (hval 0 28 v0 rfl rfl) h0
        exact TakeIrq_walk m vt vs vw st ls lw W k0 k1 k2))

end Go.Proofs.YtengaccnncnipaaGreat
