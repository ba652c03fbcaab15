/- 'CanTake' of the program and of the reference agree for all arguments, and the program leaves its arguments as they were. No condition. -/
import Derived.Test.YtaobdfgepgalhaaFaCan
import Derived.Test.YtaobdfgepgalhaaTyFace
import Derived.Test.YtaobdfgepgalhaaQuOwn
namespace Go.Proofs.Ytaobdfgepgalhaa
open Go.RowKit Go.ChangeShapes Go.WideShapes Go.Deep

set_option maxHeartbeats 8000000 in
theorem CanTake_walk (m : Int) (vt vs vw : Value) (st : List Int) (ls : List Sl) (lw : List Wt) (w : World) (h0 : Rd Nm.cells 1 w 0 w.heap.size vt st) (h : Rd Sl.cells 3 w 0 w.heap.size vs ls) (h2 : Rd Wt.cells 2 w 0 w.heap.size vw lw) :
    Calls Try.prog 6 #[.agg #[.int .i64 m, vt, vs, vw]] w fun e w' => e = .returned (.bool true) ∧ Below w.heap.size w w' := by
  have b0 := (Below.refl w.heap.size w).alloc (Nat.le_refl _) (.cells #[.int .i64 m, vt, vs, vw] 28)
  have z0 : (w.alloc (.cells #[.int .i64 m, vt, vs, vw] 28)).heap.size = w.heap.size + 1 := by simp
  have bA := Box.new w #[.int .i64 m, vt, vs, vw] 28 rfl
  have ht := h0.below b0 (Nat.le_refl _)
  have hs := h.below b0 (Nat.le_refl _)
  have hw := h2.below b0 (Nat.le_refl _)
  have hv0_ := h0.form
  have hv_ := h.form
  have hv2_ := h2.form
  clear h0 h h2
  generalize hwA : w.alloc (.cells #[.int .i64 m, vt, vs, vw] 28) = wA at *
  obtain ⟨At, nt, dt, rfl, _, _, _⟩ := hv0_
  obtain ⟨A0, n0, d0, rfl, _, _, _⟩ := hv_
  obtain ⟨A1, n1, d1, rfl, _, _, _⟩ := hv2_
  go_enter Try.func6, Try.ntmps6
  have bA_0 := bA.cell (j := 0) rfl
  have bA_1 := bA.cell (j := 1) rfl
  have bA_2 := bA.cell (j := 2) rfl
  have bA_3 := bA.cell (j := 3) rfl
  have bA_z := bA.frozen
  have bA_l := bA.lt
  go_wp2_with fail
  clear hwA
  clear bA_0 bA_1 bA_2 bA_3 bA_z bA_l
  refine (szFace_any m _ _ _ st ls lw wA ht hs hw (by omega) (by omega) (by omega)).mono ?_; rintro q_ w1 ⟨q, rfl, hq, b_1⟩
  replace bA := bA.below b_1 bA.lt
  replace ht := ht.below b_1 (by omega)
  replace hs := hs.below b_1 (by omega)
  replace hw := hw.below b_1 (by omega)
  have z_2 := b_1.size
  replace b0 := b0.trans (b_1.mono (by omega))
  clear b_1
  rcases hq with rfl | ⟨hq0, hq1⟩
  · have bA_0 := bA.cell (j := 0) rfl
    have bA_1 := bA.cell (j := 1) rfl
    have bA_2 := bA.cell (j := 2) rfl
    have bA_3 := bA.cell (j := 3) rfl
    have bA_z := bA.frozen
    have bA_l := bA.lt
    go_wp2_with fail
    clear bA_0 bA_1 bA_2 bA_3 bA_z bA_l
    go_ret
    exact ⟨rfl, b0⟩
  have zt : st.length ≤ 1048576 := by omega
  have zs : ls.length ≤ 1048576 := by omega
  have zw : lw.length ≤ 1048576 := by omega
  have hqd : decide (q < 0) = false := decide_eq_false (by omega)
  clear hq0 hq1
  have bA_0 := bA.cell (j := 0) rfl
  have bA_1 := bA.cell (j := 1) rfl
  have bA_2 := bA.cell (j := 2) rfl
  have bA_3 := bA.cell (j := 3) rfl
  have bA_z := bA.frozen
  have bA_l := bA.lt
  go_wp2_with fail
  clear bA_0 bA_1 bA_2 bA_3 bA_z bA_l
  refine (toFace_any m _ _ _ st ls lw w1 ht hs hw (by omega) (by omega) (by omega) zt zs zw).mono ?_; rintro q_ w3 ⟨v10, v11, v12, rfl, o10, o11, o12, b_3⟩
  replace bA := bA.below b_3 bA.lt
  replace ht := ht.below b_3 (by omega)
  replace hs := hs.below b_3 (by omega)
  replace hw := hw.below b_3 (by omega)
  have z_4 := b_3.size
  replace b0 := b0.trans (b_3.mono (by omega))
  clear b_3
  obtain ⟨A10, n10, d10, rfl, _, _, _⟩ := o10.rd.form
  obtain ⟨A11, n11, d11, rfl, _, _, _⟩ := o11.rd.form
  obtain ⟨A12, n12, d12, rfl, _, _, _⟩ := o12.rd.form
  have bA_0 := bA.cell (j := 0) rfl
  have bA_1 := bA.cell (j := 1) rfl
  have bA_2 := bA.cell (j := 2) rfl
  have bA_3 := bA.cell (j := 3) rfl
  have bA_z := bA.frozen
  have bA_l := bA.lt
  go_wp2_with fail
  clear bA_0 bA_1 bA_2 bA_3 bA_z bA_l
  refine (specCanTake_any m _ _ _ st ls lw w3 o10.rd o11.rd o12.rd (by omega) (by omega) (by omega) zt zw).mono ?_; rintro q_ w5 ⟨rfl, b_5⟩
  replace bA := bA.below b_5 bA.lt
  replace ht := ht.below b_5 (by omega)
  replace hs := hs.below b_5 (by omega)
  replace hw := hw.below b_5 (by omega)
  replace o10 := o10.below b_5 (by omega)
  replace o11 := o11.below b_5 (by omega)
  replace o12 := o12.below b_5 (by omega)
  have z_6 := b_5.size
  replace b0 := b0.trans (b_5.mono (by omega))
  clear b_5
  clear o10 o11 o12
  have bA_0 := bA.cell (j := 0) rfl
  have bA_1 := bA.cell (j := 1) rfl
  have bA_2 := bA.cell (j := 2) rfl
  have bA_3 := bA.cell (j := 3) rfl
  have bA_z := bA.frozen
  have bA_l := bA.lt
  go_wp2_with fail
  clear bA_0 bA_1 bA_2 bA_3 bA_z bA_l
  refine (toFace_any m _ _ _ st ls lw w5 ht hs hw (by omega) (by omega) (by omega) zt zs zw).mono ?_; rintro q_ w7 ⟨v20, v21, v22, rfl, o20, o21, o22, b_7⟩
  replace bA := bA.below b_7 bA.lt
  replace ht := ht.below b_7 (by omega)
  replace hs := hs.below b_7 (by omega)
  replace hw := hw.below b_7 (by omega)
  have z_8 := b_7.size
  replace b0 := b0.trans (b_7.mono (by omega))
  clear b_7
  obtain ⟨A20, n20, d20, rfl, _, _, _⟩ := o20.rd.form
  obtain ⟨A21, n21, d21, rfl, _, _, _⟩ := o21.rd.form
  obtain ⟨A22, n22, d22, rfl, _, _, _⟩ := o22.rd.form
  have bA_0 := bA.cell (j := 0) rfl
  have bA_1 := bA.cell (j := 1) rfl
  have bA_2 := bA.cell (j := 2) rfl
  have bA_3 := bA.cell (j := 3) rfl
  have bA_z := bA.frozen
  have bA_l := bA.lt
  go_wp2_with fail
  clear bA_0 bA_1 bA_2 bA_3 bA_z bA_l
  have b_9 := (Below.refl w7.heap.size w7).alloc (Nat.le_refl _) (.cells #[.int .i64 m, .slice A20 n20 d20, .slice A21 n21 d21, .slice A22 n22 d22] 36)
  have bX := Box.new w7 #[.int .i64 m, .slice A20 n20 d20, .slice A21 n21 d21, .slice A22 n22 d22] 36 rfl
  replace bA := bA.below b_9 bA.lt
  replace ht := ht.below b_9 (by omega)
  replace hs := hs.below b_9 (by omega)
  replace hw := hw.below b_9 (by omega)
  replace o20 := o20.below b_9 (by omega)
  replace o21 := o21.below b_9 (by omega)
  replace o22 := o22.below b_9 (by omega)
  have z_10 := b_9.size
  replace b0 := b0.trans (b_9.mono (by omega))
  clear b_9
  generalize w7.alloc _ = w9 at *
  generalize w7.heap.size = g9 at *
  refine (implCanTake_any m _ _ _ st ls lw w9 o20.rd o21.rd o22.rd (by omega) (by omega) (by omega) zt zw).mono ?_; rintro q_ w11 ⟨rfl, b_11⟩
  replace bA := bA.below b_11 bA.lt
  replace bX := bX.below b_11 bX.lt
  replace ht := ht.below b_11 (by omega)
  replace hs := hs.below b_11 (by omega)
  replace hw := hw.below b_11 (by omega)
  replace o20 := o20.below b_11 (by omega)
  replace o21 := o21.below b_11 (by omega)
  replace o22 := o22.below b_11 (by omega)
  have z_12 := b_11.size
  replace b0 := b0.trans (b_11.mono (by omega))
  clear b_11
  generalize Fa.good m st ls lw = res0_
  generalize Fa.ctR m st ls lw = res1_
  have bA_0 := bA.cell (j := 0) rfl
  have bA_1 := bA.cell (j := 1) rfl
  have bA_2 := bA.cell (j := 2) rfl
  have bA_3 := bA.cell (j := 3) rfl
  have bA_z := bA.frozen
  have bA_l := bA.lt
  have bX_0 := bX.cell (j := 0) rfl
  have bX_1 := bX.cell (j := 1) rfl
  have bX_2 := bX.cell (j := 2) rfl
  have bX_3 := bX.cell (j := 3) rfl
  have bX_z := bX.frozen
  have bX_l := bX.lt
  go_wp2_with fail
  clear bA_0 bA_1 bA_2 bA_3 bA_z bA_l bX_0 bX_1 bX_2 bX_3 bX_z bX_l
  refine wp_region_held_drew (S := fun W => Box W (g9) 36 [.int .i64 m, .slice A20 n20 d20, .slice A21 n21 d21, .slice A22 n22 d22] ∧ Box W (w.heap.size) 28 [.int .i64 m, .slice At nt dt, .slice A0 n0 d0, .slice A1 n1 d1]) (by kernel_rfl) (show (fun (W : World) => Box W (g9) 36 [.int .i64 m, .slice A20 n20 d20, .slice A21 n21 d21, .slice A22 n22 d22] ∧ Box W (w.heap.size) 28 [.int .i64 m, .slice At nt dt, .slice A0 n0 d0, .slice A1 n1 d1]) w11.drew from ⟨bX, bA⟩) (fun hHeld => ?_)
  refine wpAnyH_take (i := 0) (v := .agg #[.int .i64 m, .slice A20 n20 d20, .slice A21 n21 d21, .slice A22 n22 d22]) rfl (by kernel_rfl) (by kernel_rfl) (by kernel_rfl) (fun _ _ _ h => h) (Or.inl ⟨by rfl, by intro w hSw; obtain ⟨hS0, hS1⟩ := hSw; have y00 := hS0.cell (j := 0) rfl; have y01 := hS0.cell (j := 1) rfl; have y02 := hS0.cell (j := 2) rfl; have y03 := hS0.cell (j := 3) rfl; have y10 := hS1.cell (j := 0) rfl; have y11 := hS1.cell (j := 1) rfl; have y12 := hS1.cell (j := 2) rfl; have y13 := hS1.cell (j := 3) rfl; go_simp⟩) hHeld ?_
  refine wpAnyH_take (i := 1) (v := .agg #[.int .i64 m, .slice At nt dt, .slice A0 n0 d0, .slice A1 n1 d1]) rfl (by kernel_rfl) (by kernel_rfl) (by kernel_rfl) (fun _ _ _ h => h) (Or.inl ⟨by rfl, by intro w hSw; obtain ⟨hS0, hS1⟩ := hSw; have y00 := hS0.cell (j := 0) rfl; have y01 := hS0.cell (j := 1) rfl; have y02 := hS0.cell (j := 2) rfl; have y03 := hS0.cell (j := 3) rfl; have y10 := hS1.cell (j := 0) rfl; have y11 := hS1.cell (j := 1) rfl; have y12 := hS1.cell (j := 2) rfl; have y13 := hS1.cell (j := 3) rfl; go_simp⟩) hHeld ?_
  clear hHeld
  refine held_gen (F := fun W' => Below w11.heap.size w11 W') (Below.refl w11.heap.size w11).drew ?_
  rintro w13 b_13
  replace bA := bA.below b_13 bA.lt
  replace bX := bX.below b_13 bX.lt
  replace ht := ht.below b_13 (by omega)
  replace hs := hs.below b_13 (by omega)
  replace hw := hw.below b_13 (by omega)
  replace o20 := o20.below b_13 (by omega)
  replace o21 := o21.below b_13 (by omega)
  replace o22 := o22.below b_13 (by omega)
  have z_14 := b_13.size
  replace b0 := b0.trans (b_13.mono (by omega))
  clear b_13
  refine wpAnyH_ready (rs := [2]) (by kernel_rfl) (by decide) ?_
  refine AllReadyH.cons rfl (fun K15 hK15 => ?_) AllReadyH.nil
  go_simp
  refine (toFace_any m _ _ _ st ls lw w13 ht hs hw (by omega) (by omega) (by omega) zt zs zw).mono ?_; rintro q_ w16 ⟨v30, v31, v32, rfl, o30, o31, o32, b_16⟩
  replace bA := bA.below b_16 bA.lt
  replace bX := bX.below b_16 bX.lt
  replace ht := ht.below b_16 (by omega)
  replace hs := hs.below b_16 (by omega)
  replace hw := hw.below b_16 (by omega)
  replace o20 := o20.below b_16 (by omega)
  replace o21 := o21.below b_16 (by omega)
  replace o22 := o22.below b_16 (by omega)
  have z_17 := b_16.size
  replace b0 := b0.trans (b_16.mono (by omega))
  clear b_16
  obtain ⟨A30, n30, d30, rfl, _, _, _⟩ := o30.rd.form
  obtain ⟨A31, n31, d31, rfl, _, _, _⟩ := o31.rd.form
  obtain ⟨A32, n32, d32, rfl, _, _, _⟩ := o32.rd.form
  refine hK15.out _ _ ⟨bX, bA⟩ (fun _ => ?_)
  refine wpAnyH_ready (rs := [3]) (by kernel_rfl) (by decide) ?_
  refine AllReadyH.cons rfl (fun K18 hK18 => ?_) AllReadyH.nil
  go_simp
  refine (eqFace_same m _ _ _ _ _ _ st ls lw w16 o20.rd o21.rd o22.rd o30.rd o31.rd o32.rd (by omega) (by omega) (by omega) (by omega) (by omega) (by omega)).mono ?_; rintro q_ w19 ⟨rfl, b_19⟩
  replace bA := bA.below b_19 bA.lt
  replace bX := bX.below b_19 bX.lt
  replace ht := ht.below b_19 (by omega)
  replace hs := hs.below b_19 (by omega)
  replace hw := hw.below b_19 (by omega)
  replace o20 := o20.below b_19 (by omega)
  replace o21 := o21.below b_19 (by omega)
  replace o22 := o22.below b_19 (by omega)
  replace o30 := o30.below b_19 (by omega)
  replace o31 := o31.below b_19 (by omega)
  replace o32 := o32.below b_19 (by omega)
  have z_20 := b_19.size
  replace b0 := b0.trans (b_19.mono (by omega))
  clear b_19
  refine hK18.out _ _ ⟨bX, bA⟩ (fun _ => ?_)
  refine wpAnyH_ready (rs := [4]) (by kernel_rfl) (by decide) ?_
  refine AllReadyH.cons rfl (fun K21 hK21 => ?_) AllReadyH.nil
  go_simp
  refine hK21.out _ _ ⟨bX, bA⟩ (fun _ => ?_)
  refine ⟨by kernel_rfl, ?_⟩
  clear o30 o31 o32
  have bA_0 := bA.cell (j := 0) rfl
  have bA_1 := bA.cell (j := 1) rfl
  have bA_2 := bA.cell (j := 2) rfl
  have bA_3 := bA.cell (j := 3) rfl
  have bA_z := bA.frozen
  have bA_l := bA.lt
  have bX_0 := bX.cell (j := 0) rfl
  have bX_1 := bX.cell (j := 1) rfl
  have bX_2 := bX.cell (j := 2) rfl
  have bX_3 := bX.cell (j := 3) rfl
  have bX_z := bX.frozen
  have bX_l := bX.lt
  go_wp2_with fail
  clear bA_0 bA_1 bA_2 bA_3 bA_z bA_l bX_0 bX_1 bX_2 bX_3 bX_z bX_l
  go_ret
  exact ⟨rfl, b0⟩

set_option maxRecDepth 100000 in
theorem CanTake_holds : Rows.FnExactCanTakeSaid :=
  OpenClaim.holds_of_wide 6 Try.f6 rfl rfl rfl rfl rfl rfl rfl ⟨rfl, rfl, rfl, rfl, rfl⟩ rfl rfl rfl rfl rfl (by kernel_rfl) Try.func6 (by kernel_rfl)
    (of_decide_eq_true (by kernel_rfl)) (by unfold Func.isWrapper; first | (rw [if_pos (by decide +kernel)]; kernel_rfl) | (rw [if_neg (by decide +kernel)]; exact ⟨rfl, rfl⟩))
    (fun os started H enc _ => law_lifted (C := Try.checked) (s := Rows.fnExactCanTakeSpec) own started (by kernel_rfl) Try.func6
      (ChangeSpec.witness6 (enc := enc) (C := Try.checked) false ⟨#[], #[.agg #[.int .i64 0, .slice none 0 0, .slice none 0 0, .slice none 0 0]], []⟩ 8 (by kernel_rfl) (by kernel_rfl) (by kernel_rfl) (by kernel_rfl))
      laidOut (by kernel_rfl) rfl rfl Try.underlying4 (fun ds h => by match ds, h with | [_], _ => rfl)
      (fun W base args ds p hval0 hA0 => by
        have hval : ∀ (j : Nat) t v, Try.f6.params[j]? = some t → args[j]? = some v → Value.okWide Try.prog W .any base t v := hval0
        have hA : DataW.TrodAll enc Try.prog W 0 (fun _ => true) true Try.f6.params.toList args.toList ds p := hA0
        rw [Try.params6] at hA hval
        obtain ⟨v0, vs0, d0, ds0, p0, q0, hargs, rfl, rfl, h0, r0⟩ := trodAll_cons hA
        obtain ⟨rfl, rfl, rfl⟩ := trodAll_nil r0
        obtain rfl : args = #[v0] := by cases args; simp_all
        obtain ⟨m, vt, vs, vw, st, ls, lw, rfl, k0, k1, k2⟩ := Fa.open_ (hval 0 28 v0 rfl rfl) h0
        exact CanTake_walk m vt vs vw st ls lw W k0 k1 k2))

end Go.Proofs.Ytaobdfgepgalhaa
