/- 'PendingIrqs' of the program and of the reference agree for all arguments, and the program's results share no memory with its arguments. No condition. -/
import Derived.Test.YtghfdoibabaadaaQuLaw
import Derived.Test.YtghfdoibabaadaaQuPend
namespace Go.Proofs.Ytghfdoibabaadaa
open Go.RowKit Go.ChangeShapes Go.WideShapes Go.Deep

set_option maxHeartbeats 8000000 in
theorem PendingIrqs_walk (v0 u0 : Value) (l0 : List Sl) (m0 : List Wt) (W : World) (h0 : Rd Sl.cells 3 W 0 W.heap.size v0 l0) (h1 : Rd Wt.cells 2 W 0 W.heap.size u0 m0) : Calls Try.prog 10 #[.agg #[v0, u0]] W fun e W' => e = .returned (.bool true) ∧ Below W.heap.size W W' := by
  have hB := (Below.refl W.heap.size W).alloc (Nat.le_refl _) (.cells #[v0, u0] 25)
  have z0 : (W.alloc (.cells #[v0, u0] 25)).heap.size = W.heap.size + 1 := by simp
  have rQ := Qc.new W 25 v0 u0
  have ks := h0.below hB (Nat.le_refl _)
  have kw := h1.below hB (Nat.le_refl _)
  obtain ⟨A0, n0, d0, rfl, _, _, _⟩ := h0.form
  obtain ⟨A, n, c, rfl, _, _, _⟩ := h1.form
  clear h0 h1
  by_cases hz : l0.length + m0.length ≤ 1048576
  rotate_left
  · have cs := szQueue_any _ _ l0 m0 _ ks kw (by omega) (by omega) 1048576 (by omega) (by omega)
    rw [szQ_no hz] at cs
    go_enter Try.func10, Try.ntmps10
    go_wp2_with fail
    refine cs.mono ?_; rintro e_ w1 ⟨rfl, b1⟩
    go_wp2_with fail
    go_ret
    exact ⟨rfl, hB.trans (b1.mono (by omega))⟩
  have zl : l0.length ≤ 1048576 := by omega
  have zm : m0.length ≤ 1048576 := by omega
  have cs := szQueue_any _ _ l0 m0 _ ks kw (by omega) (by omega) 1048576 (by omega) (by omega)
  rw [szQ_yes (by omega) hz] at cs
  obtain ⟨q, hq⟩ : ∃ q : Int, q = 1048576 - (l0.length : Int) - m0.length := ⟨_, rfl⟩
  rw [← hq] at cs
  have hqd : decide (q < 0) = false := decide_eq_false (by omega)
  clear hq
  go_enter Try.func10, Try.ntmps10
  go_wp2_with fail
  generalize W.alloc _ = wA at *
  refine cs.mono ?_; rintro e_ w0 ⟨rfl, b0⟩
  have s0 := b0.size
  replace rQ := rQ.below b0 (by omega)
  replace ks := ks.below b0 (by omega)
  replace kw := kw.below b0 (by omega)
  replace hB := hB.trans (b0.mono (by omega))
  clear b0
  obtain ⟨bx0_0, bx0_1⟩ := Qc.box rQ
  have zb0 : W.heap.size < w0.heap.size := by omega
  go_wp2_with fail
  clear bx0_0 bx0_1 zb0
  refine (toQueue_any _ _ l0 m0 w0 ks kw (by omega) (by omega) zl zm).mono ?_; rintro e_ w1 ⟨u1_0, u1_1, rfl, o1_0, o1_1, b1⟩
  have s1 := b1.size
  replace rQ := rQ.below b1 (by omega)
  replace ks := ks.below b1 (by omega)
  replace kw := kw.below b1 (by omega)
  replace hB := hB.trans (b1.mono (by omega))
  clear b1
  obtain ⟨A1_0, n1_0, d1_0, rfl, _, _, _⟩ := o1_0.rd.form
  obtain ⟨A1_1, n1_1, d1_1, rfl, _, _, _⟩ := o1_1.rd.form
  go_wp2_with fail
  refine (specPendingIrqs_any _ _ l0 m0 w1 o1_0.rd o1_1.rd (by omega) (by omega)).mono ?_; rintro e_ w2 ⟨u2_0, rfl, o2_0, b2⟩
  have s2 := b2.size
  replace rQ := rQ.below b2 (by omega)
  replace ks := ks.below b2 (by omega)
  replace kw := kw.below b2 (by omega)
  replace o1_0 := o1_0.below b2 (by omega)
  replace o1_1 := o1_1.below b2 (by omega)
  replace hB := hB.trans (b2.mono (by omega))
  clear b2
  obtain ⟨A2_0, n2_0, d2_0, rfl, _, _, _⟩ := o2_0.rd.form
  obtain ⟨bx0_0, bx0_1⟩ := Qc.box rQ
  have zb0 : W.heap.size < w2.heap.size := by omega
  go_wp2_with fail
  clear bx0_0 bx0_1 zb0
  refine (toQueue_any _ _ l0 m0 w2 ks kw (by omega) (by omega) zl zm).mono ?_; rintro e_ w3 ⟨u3_0, u3_1, rfl, o3_0, o3_1, b3⟩
  have s3 := b3.size
  replace rQ := rQ.below b3 (by omega)
  replace ks := ks.below b3 (by omega)
  replace kw := kw.below b3 (by omega)
  replace o1_0 := o1_0.below b3 (by omega)
  replace o1_1 := o1_1.below b3 (by omega)
  replace o2_0 := o2_0.below b3 (by omega)
  replace hB := hB.trans (b3.mono (by omega))
  clear b3
  obtain ⟨A3_0, n3_0, d3_0, rfl, _, _, _⟩ := o3_0.rd.form
  obtain ⟨A3_1, n3_1, d3_1, rfl, _, _, _⟩ := o3_1.rd.form
  go_wp2_with fail
  have bA4 : Below w3.heap.size w3 (w3.alloc (.cells #[.slice A3_0 n3_0 d3_0, .slice A3_1 n3_1 d3_1] 31)) := (Below.refl _ _).alloc (Nat.le_refl _) _
  have rA4 := Qc.new w3 31 (.slice A3_0 n3_0 d3_0) (.slice A3_1 n3_1 d3_1)
  have zA4 : (w3.alloc (.cells #[.slice A3_0 n3_0 d3_0, .slice A3_1 n3_1 d3_1] 31)).heap.size = w3.heap.size + 1 := by simp
  generalize w3.alloc _ = w4 at bA4 rA4 zA4 ⊢
  have s4 := bA4.size
  replace rQ := rQ.below bA4 (by omega)
  replace ks := ks.below bA4 (by omega)
  replace kw := kw.below bA4 (by omega)
  replace o1_0 := o1_0.below bA4 (by omega)
  replace o1_1 := o1_1.below bA4 (by omega)
  replace o2_0 := o2_0.below bA4 (by omega)
  replace o3_0 := o3_0.below bA4 (by omega)
  replace o3_1 := o3_1.below bA4 (by omega)
  replace hB := hB.trans (bA4.mono (by omega))
  clear bA4
  refine (implPendingIrqs_any _ _ l0 m0 w4 o3_0.rd o3_1.rd (by omega) (by omega)).mono ?_; rintro e_ w5 ⟨u5_0, rfl, o5_0, b5⟩
  have s5 := b5.size
  replace rQ := rQ.below b5 (by omega)
  replace ks := ks.below b5 (by omega)
  replace kw := kw.below b5 (by omega)
  replace o1_0 := o1_0.below b5 (by omega)
  replace o1_1 := o1_1.below b5 (by omega)
  replace o2_0 := o2_0.below b5 (by omega)
  replace o3_0 := o3_0.below b5 (by omega)
  replace o3_1 := o3_1.below b5 (by omega)
  replace rA4 := rA4.below b5 (by omega)
  replace hB := hB.trans (b5.mono (by omega))
  clear b5
  obtain ⟨A5_0, n5_0, d5_0, rfl, _, _, _⟩ := o5_0.rd.form
  go_wp2_with fail
  refine (Nm.eqS_same _ _ _ w5 o5_0.rd o2_0.rd (by omega) (by omega)).mono ?_; rintro e_ w6 ⟨rfl, b6⟩
  have s6 := b6.size
  replace rQ := rQ.below b6 (by omega)
  replace ks := ks.below b6 (by omega)
  replace kw := kw.below b6 (by omega)
  replace o1_0 := o1_0.below b6 (by omega)
  replace o1_1 := o1_1.below b6 (by omega)
  replace o2_0 := o2_0.below b6 (by omega)
  replace o3_0 := o3_0.below b6 (by omega)
  replace o3_1 := o3_1.below b6 (by omega)
  replace rA4 := rA4.below b6 (by omega)
  replace o5_0 := o5_0.below b6 (by omega)
  replace hB := hB.trans (b6.mono (by omega))
  clear b6
  obtain ⟨bx0_0, bx0_1⟩ := Qc.box rA4
  have zb0 : w3.heap.size < w6.heap.size := by omega
  obtain ⟨bx1_0, bx1_1⟩ := Qc.box rQ
  have zb1 : W.heap.size < w6.heap.size := by omega
  have c7 := toQueue_any _ _ l0 m0 w6.drew ks.drew kw.drew (by simp; omega) (by simp; omega) zl zm
  have c8 := fun (wy7 : World) (v5 v6 : Value) (by7 : Below w6.heap.size w6.drew wy7) (oy5 : Ow Sl.cells 3 65 wy7 w6.heap.size wy7.heap.size v5 l0) (oy6 : Ow Wt.cells 2 69 wy7 w6.heap.size wy7.heap.size v6 m0) => eqQueue_same (.slice A3_0 n3_0 d3_0) (.slice A3_1 n3_1 d3_1) v5 v6 l0 m0 wy7 (o3_0.drew.below by7 (by omega)).rd (o3_1.drew.below by7 (by omega)).rd oy5.rd oy6.rd (by have := by7.size; simp at this; omega) (by have := by7.size; simp at this; omega) (Nat.le_refl _) (Nat.le_refl _)
  go_wp2_with fail
  go_region_with (first | (go_at_call 13; refine c7.mono ?_; rintro e_ wy7 ⟨v5, v6, rfl, oy5, oy6, by7⟩; (try simp only [World.size_drew] at oy5 oy6 by7); (obtain ⟨hc7, hf7⟩ := bcell by7); (simp only [World.cell?_drew] at hc7); (have bx0_0 := (hc7 _ 0 zb0).trans bx0_0); (have bx0_1 := (hc7 _ 1 zb0).trans bx0_1); (clear hc7 hf7)) | (go_at_call 15; refine (c8 _ _ _ by7 oy5 oy6).mono ?_; rintro e_ wy8 ⟨rfl, by8⟩))
  all_goals have bD : Below w6.heap.size w6 wy8 := (Below.refl w6.heap.size w6).drew.trans (by7.trans (by8.mono (by have := by7.size; simp at this; omega)))
  all_goals clear by7 by8 oy5 oy6 c7 c8 bx0_0 bx0_1 zb0 bx1_0 bx1_1 zb1
  all_goals (
  have s9 := bD.size
  replace rQ := rQ.below bD (by omega)
  replace ks := ks.below bD (by omega)
  replace kw := kw.below bD (by omega)
  replace o1_0 := o1_0.below bD (by omega)
  replace o1_1 := o1_1.below bD (by omega)
  replace o2_0 := o2_0.below bD (by omega)
  replace o3_0 := o3_0.below bD (by omega)
  replace o3_1 := o3_1.below bD (by omega)
  replace rA4 := rA4.below bD (by omega)
  replace o5_0 := o5_0.below bD (by omega)
  replace hB := hB.trans (bD.mono (by omega))
  clear bD)
  rotate_left 0
  all_goals (
  obtain ⟨bx0_0, bx0_1⟩ := Qc.box rA4
  have zb0 : w3.heap.size < wy8.heap.size := by omega
  go_wp2_with fail
  clear bx0_0 bx0_1 zb0
  refine (markQueue_any _ _ _ _ wy8 o3_0 o3_1 (by omega) (by omega) zl zm 1 (by omega) (by omega)).mono ?_; rintro e_ w10 ⟨wa10, wb10, rfl, b10, pa10, ta10, pb10, tb10, ob10⟩
  have s10 := b10.size
  replace rQ := rQ.below b10 (by omega)
  replace ks := ks.below b10 (by omega)
  replace kw := kw.below b10 (by omega)
  replace o1_0 := o1_0.below b10 (by omega)
  replace o1_1 := o1_1.below b10 (by omega)
  replace o2_0 := o2_0.below b10 (by omega)
  replace o3_0 := o3_0.below b10 (by omega)
  replace o3_1 := o3_1.below b10 (by omega)
  replace rA4 := rA4.below b10 (by omega)
  replace o5_0 := o5_0.below b10 (by omega)
  replace hB := hB.trans (b10.mono (by omega))
  clear b10
  have s11 := ta10.size
  replace rQ := rQ.turned o3_0 ta10 (by omega) (by omega)
  replace ks := ks.turned o3_0 ta10 (by omega) (by omega)
  replace kw := kw.turned o3_0 ta10 (by omega) (by omega)
  replace o1_0 := o1_0.turned o3_0 ta10 (by omega)
  replace o1_1 := o1_1.turned o3_0 ta10 (by omega)
  replace o2_0 := o2_0.turned o3_0 ta10 (by omega)
  replace o3_1 := o3_1.turned_type o3_0 ta10 (by decide)
  replace rA4 := rA4.turned o3_0 ta10 (by omega) (by omega)
  replace o5_0 := o5_0.turned o3_0 ta10 (by omega)
  replace hB := Below.turned hB o3_0 ta10 (by omega) (by omega)
  clear o3_0 o3_1 ta10
  have o3_0 := pa10; clear pa10
  have o3_1 := ob10; clear ob10
  have s12 := tb10.size
  replace rQ := rQ.turned o3_1 tb10 (by omega) (by omega)
  replace ks := ks.turned o3_1 tb10 (by omega) (by omega)
  replace kw := kw.turned o3_1 tb10 (by omega) (by omega)
  replace o1_0 := o1_0.turned o3_1 tb10 (by omega)
  replace o1_1 := o1_1.turned o3_1 tb10 (by omega)
  replace o2_0 := o2_0.turned o3_1 tb10 (by omega)
  replace o3_0 := o3_0.turned_type o3_1 tb10 (by decide)
  replace rA4 := rA4.turned o3_1 tb10 (by omega) (by omega)
  replace o5_0 := o5_0.turned o3_1 tb10 (by omega)
  replace hB := Below.turned hB o3_1 tb10 (by omega) (by omega)
  clear o3_1 tb10
  have o3_1 := pb10; clear pb10
  go_wp2_with fail
  refine (Nm.eqS_same _ _ _ w10 o5_0.rd o2_0.rd (by omega) (by omega)).mono ?_; rintro e_ w13 ⟨rfl, b13⟩
  have s13 := b13.size
  replace rQ := rQ.below b13 (by omega)
  replace ks := ks.below b13 (by omega)
  replace kw := kw.below b13 (by omega)
  replace o1_0 := o1_0.below b13 (by omega)
  replace o1_1 := o1_1.below b13 (by omega)
  replace o2_0 := o2_0.below b13 (by omega)
  replace o3_0 := o3_0.below b13 (by omega)
  replace o3_1 := o3_1.below b13 (by omega)
  replace rA4 := rA4.below b13 (by omega)
  replace o5_0 := o5_0.below b13 (by omega)
  replace hB := hB.trans (b13.mono (by omega))
  clear b13
  go_wp2_with fail
  refine (Nm.markS_any _ _ w13 o5_0 _ (by omega) (by omega) (Qu.peL_len l0 m0)).mono ?_; rintro e_ w14 ⟨rfl, p14, t14⟩
  have s15 := t14.size
  replace rQ := rQ.turned o5_0 t14 (by omega) (by omega)
  replace ks := ks.turned o5_0 t14 (by omega) (by omega)
  replace kw := kw.turned o5_0 t14 (by omega) (by omega)
  replace o1_0 := o1_0.turned o5_0 t14 (by omega)
  replace o1_1 := o1_1.turned o5_0 t14 (by omega)
  replace o2_0 := o2_0.turned o5_0 t14 (by omega)
  replace o3_0 := o3_0.turned o5_0 t14 (by omega)
  replace o3_1 := o3_1.turned o5_0 t14 (by omega)
  replace rA4 := rA4.turned o5_0 t14 (by omega) (by omega)
  replace hB := Below.turned hB o5_0 t14 (by omega) (by omega)
  clear o5_0 t14
  have o5_0 := p14; clear p14
  go_wp2_with fail
  refine (Nm.heldS_any _ w14 o5_0.rd (by omega) (by omega) (Qu.peL_len l0 m0)).mono ?_; rintro e_ w_ ⟨rfl, rfl⟩
  obtain ⟨bx0_0, bx0_1⟩ := Qc.box rQ
  have zb0 : W.heap.size < w14.heap.size := by omega
  go_wp2_with fail
  clear bx0_0 bx0_1 zb0
  refine (toQueue_any _ _ l0 m0 w14 ks kw (by omega) (by omega) zl zm).mono ?_; rintro e_ w16 ⟨u16_0, u16_1, rfl, o16_0, o16_1, b16⟩
  have s16 := b16.size
  replace rQ := rQ.below b16 (by omega)
  replace ks := ks.below b16 (by omega)
  replace kw := kw.below b16 (by omega)
  replace o1_0 := o1_0.below b16 (by omega)
  replace o1_1 := o1_1.below b16 (by omega)
  replace o2_0 := o2_0.below b16 (by omega)
  replace o3_0 := o3_0.below b16 (by omega)
  replace o3_1 := o3_1.below b16 (by omega)
  replace rA4 := rA4.below b16 (by omega)
  replace o5_0 := o5_0.below b16 (by omega)
  replace hB := hB.trans (b16.mono (by omega))
  clear b16
  obtain ⟨A16_0, n16_0, d16_0, rfl, _, _, _⟩ := o16_0.rd.form
  obtain ⟨A16_1, n16_1, d16_1, rfl, _, _, _⟩ := o16_1.rd.form
  go_wp2_with fail
  refine (implPendingIrqs_any _ _ l0 m0 w16 o16_0.rd o16_1.rd (by omega) (by omega)).mono ?_; rintro e_ w17 ⟨u17_0, rfl, o17_0, b17⟩
  have s17 := b17.size
  replace rQ := rQ.below b17 (by omega)
  replace ks := ks.below b17 (by omega)
  replace kw := kw.below b17 (by omega)
  replace o1_0 := o1_0.below b17 (by omega)
  replace o1_1 := o1_1.below b17 (by omega)
  replace o2_0 := o2_0.below b17 (by omega)
  replace o3_0 := o3_0.below b17 (by omega)
  replace o3_1 := o3_1.below b17 (by omega)
  replace rA4 := rA4.below b17 (by omega)
  replace o5_0 := o5_0.below b17 (by omega)
  replace o16_0 := o16_0.below b17 (by omega)
  replace o16_1 := o16_1.below b17 (by omega)
  replace hB := hB.trans (b17.mono (by omega))
  clear b17
  obtain ⟨A17_0, n17_0, d17_0, rfl, _, _, _⟩ := o17_0.rd.form
  go_wp2_with fail
  refine (Nm.eqS_same _ _ _ w17 o17_0.rd o2_0.rd (by omega) (by omega)).mono ?_; rintro e_ w18 ⟨rfl, b18⟩
  have s18 := b18.size
  replace rQ := rQ.below b18 (by omega)
  replace ks := ks.below b18 (by omega)
  replace kw := kw.below b18 (by omega)
  replace o1_0 := o1_0.below b18 (by omega)
  replace o1_1 := o1_1.below b18 (by omega)
  replace o2_0 := o2_0.below b18 (by omega)
  replace o3_0 := o3_0.below b18 (by omega)
  replace o3_1 := o3_1.below b18 (by omega)
  replace rA4 := rA4.below b18 (by omega)
  replace o5_0 := o5_0.below b18 (by omega)
  replace o16_0 := o16_0.below b18 (by omega)
  replace o16_1 := o16_1.below b18 (by omega)
  replace o17_0 := o17_0.below b18 (by omega)
  replace hB := hB.trans (b18.mono (by omega))
  clear b18
  go_wp2_with fail
  refine (Nm.heldS_any _ w18 o5_0.rd (by omega) (by omega) (Qu.peL_len l0 m0)).mono ?_; rintro e_ w_ ⟨rfl, rfl⟩
  go_wp2_with fail
  go_ret
  exact ⟨rfl, hB⟩)

set_option maxRecDepth 100000 in
theorem PendingIrqs_holds : Rows.FnExactPendingIrqsSaid :=
  OpenClaim.holds_of_wide 10 Try.f10 rfl rfl rfl rfl rfl rfl rfl ⟨rfl, rfl, rfl, rfl, rfl⟩ rfl rfl rfl rfl rfl (by kernel_rfl) Try.func10 (by kernel_rfl)
    (of_decide_eq_true (by kernel_rfl)) (by unfold Func.isWrapper; first | (rw [if_pos (by decide +kernel)]; kernel_rfl) | (rw [if_neg (by decide +kernel)]; exact ⟨rfl, rfl⟩))
    (fun os started H enc _ => law_lifted (C := Try.checked) (s := Rows.fnExactPendingIrqsSpec) own started (by kernel_rfl) Try.func10
      (ChangeSpec.witness6 (enc := enc) (C := Try.checked) false ⟨#[], #[.agg #[.slice none 0 0, .slice none 0 0]], []⟩ 8 (by kernel_rfl) (by kernel_rfl) (by kernel_rfl) (by kernel_rfl))
      laidOut (by kernel_rfl) rfl rfl Try.underlying4 (fun ds h => by match ds, h with | [_], _ => rfl)
      (fun W base args ds p hval0 hA0 => by
        have hval : ∀ (j : Nat) t v, Try.f10.params[j]? = some t → args[j]? = some v → Value.okWide Try.prog W .any base t v := hval0
        have hA : DataW.TrodAll enc Try.prog W 0 (fun _ => true) true Try.f10.params.toList args.toList ds p := hA0
        rw [Try.params10] at hA hval
        obtain ⟨v0, vs0, d0, ds0, p0, q0, hargs, rfl, rfl, h0, r0⟩ := trodAll_cons hA
        obtain ⟨rfl, rfl, rfl⟩ := trodAll_nil r0
        obtain rfl : args = #[v0] := by cases args; simp_all
        obtain ⟨vs, vw, ls, lw, rfl, k0, k1⟩ := Qu.open_ (hval 0 25 v0 rfl rfl) h0
        exact PendingIrqs_walk vs vw ls lw W k0 k1))

end Go.Proofs.Ytghfdoibabaadaa
