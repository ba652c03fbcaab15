/- 'SettleQueue' of the program and of the reference agree for all arguments, and the program's results share no memory with its arguments. No condition. -/
import Derived.Test.YtghfdoibabaadaaQuLaw
import Derived.Test.YtghfdoibabaadaaQuPub
namespace Go.Proofs.Ytghfdoibabaadaa
open Go.RowKit Go.ChangeShapes Go.WideShapes Go.Deep

set_option maxHeartbeats 8000000 in
theorem SettleQueue_walk (v0 : Value) (l0 : List Sl) (u0 : Value) (m0 : List Wt) (W : World) (h0 : Rd Sl.cells 3 W 0 W.heap.size v0 l0) (h1 : Rd Wt.cells 2 W 0 W.heap.size u0 m0) : Calls Try.prog 5 #[v0, u0] W fun e W' => e = .returned (.bool true) ∧ Below W.heap.size W W' := by
  have hB := Below.refl W.heap.size W
  by_cases zl : l0.length ≤ 1048576
  rotate_left
  · have c := Sl.szS_any v0 l0 W h0 1048576 (by omega) (by omega)
    rw [szL_no (by omega)] at c
    go_enter Try.func5, Try.ntmps5
    go_wp2_with fail
    refine c.mono ?_; rintro e_ w' ⟨rfl, rfl⟩
    go_wp2_with fail
    go_ret
    exact ⟨rfl, hB⟩
  have cs0 := Sl.szS_any v0 l0 W h0 1048576 (by omega) (by omega)
  rw [szL_yes (by omega)] at cs0
  obtain ⟨q1, hq1, hq1l, hq1u⟩ : ∃ q : Int, q = 1048576 - (l0.length : Int) ∧ 0 ≤ q ∧ q ≤ 1048576 := ⟨_, rfl, by omega, by omega⟩
  rw [← hq1] at cs0
  by_cases zz : (m0.length : Int) ≤ q1
  rotate_left
  · have c := Wt.szS_any u0 m0 W h1 q1 (by omega) (by omega)
    rw [szL_no (by omega)] at c
    clear hq1
    go_enter Try.func5, Try.ntmps5
    go_wp2_with fail
    refine cs0.mono ?_; rintro e_ w' ⟨rfl, rfl⟩
    go_wp2_with fail
    refine c.mono ?_; rintro e_ w' ⟨rfl, rfl⟩
    go_wp2_with fail
    go_ret
    exact ⟨rfl, hB⟩
  have zm : m0.length ≤ 1048576 := by omega
  have cs1 := Wt.szS_any u0 m0 W h1 q1 (by omega) (by omega)
  rw [szL_yes (by omega)] at cs1
  obtain ⟨q2, hq2, hq2l, hq2u⟩ : ∃ q : Int, q = q1 - (m0.length : Int) ∧ 0 ≤ q ∧ q ≤ 1048576 := ⟨_, rfl, by omega, by omega⟩
  rw [← hq2] at cs1
  clear hq1 hq2
  go_enter Try.func5, Try.ntmps5
  go_wp2_with fail
  refine cs0.mono ?_; rintro e_ w' ⟨rfl, rfl⟩
  go_wp2_with fail
  refine cs1.mono ?_; rintro e_ w' ⟨rfl, rfl⟩
  go_wp2_with fail
  refine (Sl.toS_any _ _ _ h0 (by omega) zl).mono ?_; rintro e_ w1 ⟨u1, rfl, o1, b1⟩
  have s1 := b1.size
  replace h0 := h0.below b1 (by omega)
  replace h1 := h1.below b1 (by omega)
  replace hB := hB.trans (b1.mono (by omega))
  clear b1
  obtain ⟨A1_0, n1_0, d1_0, rfl, _, _, _⟩ := o1.rd.form
  go_wp2_with fail
  refine (Wt.toS_any _ _ _ h1 (by omega) zm).mono ?_; rintro e_ w2 ⟨u2, rfl, o2, b2⟩
  have s2 := b2.size
  replace h0 := h0.below b2 (by omega)
  replace h1 := h1.below b2 (by omega)
  replace o1 := o1.below b2 (by omega)
  replace hB := hB.trans (b2.mono (by omega))
  clear b2
  obtain ⟨A2_0, n2_0, d2_0, rfl, _, _, _⟩ := o2.rd.form
  go_wp2_with fail
  refine (specSettleQueue_any _ l0 _ m0 w2 o1.rd o2.rd (by omega) (by omega)).mono ?_; rintro e_ w3 ⟨u3_0a, u3_0b, rfl, o3_0a, o3_0b, b3⟩
  have s3 := b3.size
  replace h0 := h0.below b3 (by omega)
  replace h1 := h1.below b3 (by omega)
  replace o1 := o1.below b3 (by omega)
  replace o2 := o2.below b3 (by omega)
  replace hB := hB.trans (b3.mono (by omega))
  clear b3
  obtain ⟨A3_0a, n3_0a, d3_0a, rfl, _, _, _⟩ := o3_0a.rd.form
  obtain ⟨A3_0b, n3_0b, d3_0b, rfl, _, _, _⟩ := o3_0b.rd.form
  go_wp2_with fail
  have bA4 : Below w3.heap.size w3 (w3.alloc (.cells #[.slice A3_0a n3_0a d3_0a, .slice A3_0b n3_0b d3_0b] 31)) := (Below.refl _ _).alloc (Nat.le_refl _) _
  have rA4 := Qc.new w3 31 (.slice A3_0a n3_0a d3_0a) (.slice A3_0b n3_0b d3_0b)
  have zA4 : (w3.alloc (.cells #[.slice A3_0a n3_0a d3_0a, .slice A3_0b n3_0b d3_0b] 31)).heap.size = w3.heap.size + 1 := by simp
  generalize w3.alloc _ = w4 at bA4 rA4 zA4 ⊢
  have s4 := bA4.size
  replace h0 := h0.below bA4 (by omega)
  replace h1 := h1.below bA4 (by omega)
  replace o1 := o1.below bA4 (by omega)
  replace o2 := o2.below bA4 (by omega)
  replace o3_0a := o3_0a.below bA4 (by omega)
  replace o3_0b := o3_0b.below bA4 (by omega)
  replace hB := hB.trans (bA4.mono (by omega))
  clear bA4
  refine (Sl.toS_any _ _ _ h0 (by omega) zl).mono ?_; rintro e_ w5 ⟨u5, rfl, o5, b5⟩
  have s5 := b5.size
  replace h0 := h0.below b5 (by omega)
  replace h1 := h1.below b5 (by omega)
  replace o1 := o1.below b5 (by omega)
  replace o2 := o2.below b5 (by omega)
  replace o3_0a := o3_0a.below b5 (by omega)
  replace o3_0b := o3_0b.below b5 (by omega)
  replace rA4 := rA4.below b5 (by omega)
  replace hB := hB.trans (b5.mono (by omega))
  clear b5
  obtain ⟨A5_0, n5_0, d5_0, rfl, _, _, _⟩ := o5.rd.form
  go_wp2_with fail
  refine (Wt.toS_any _ _ _ h1 (by omega) zm).mono ?_; rintro e_ w6 ⟨u6, rfl, o6, b6⟩
  have s6 := b6.size
  replace h0 := h0.below b6 (by omega)
  replace h1 := h1.below b6 (by omega)
  replace o1 := o1.below b6 (by omega)
  replace o2 := o2.below b6 (by omega)
  replace o3_0a := o3_0a.below b6 (by omega)
  replace o3_0b := o3_0b.below b6 (by omega)
  replace rA4 := rA4.below b6 (by omega)
  replace o5 := o5.below b6 (by omega)
  replace hB := hB.trans (b6.mono (by omega))
  clear b6
  obtain ⟨A6_0, n6_0, d6_0, rfl, _, _, _⟩ := o6.rd.form
  go_wp2_with fail
  refine (implSettleQueue_any _ l0 _ m0 w6 o5.rd o6.rd (by omega) (by omega)).mono ?_; rintro e_ w7 ⟨u7_0a, u7_0b, rfl, o7_0a, o7_0b, b7⟩
  have s7 := b7.size
  replace h0 := h0.below b7 (by omega)
  replace h1 := h1.below b7 (by omega)
  replace o1 := o1.below b7 (by omega)
  replace o2 := o2.below b7 (by omega)
  replace o3_0a := o3_0a.below b7 (by omega)
  replace o3_0b := o3_0b.below b7 (by omega)
  replace rA4 := rA4.below b7 (by omega)
  replace o5 := o5.below b7 (by omega)
  replace o6 := o6.below b7 (by omega)
  replace hB := hB.trans (b7.mono (by omega))
  clear b7
  obtain ⟨A7_0a, n7_0a, d7_0a, rfl, _, _, _⟩ := o7_0a.rd.form
  obtain ⟨A7_0b, n7_0b, d7_0b, rfl, _, _, _⟩ := o7_0b.rd.form
  obtain ⟨bx0_0, bx0_1⟩ := Qc.box rA4
  have zb0 : w3.heap.size < w7.heap.size := by omega
  go_wp2_with fail
  clear bx0_0 bx0_1 zb0
  have bA8 : Below w7.heap.size w7 (w7.alloc (.cells #[.slice A7_0a n7_0a d7_0a, .slice A7_0b n7_0b d7_0b] 31)) := (Below.refl _ _).alloc (Nat.le_refl _) _
  have rA8 := Qc.new w7 31 (.slice A7_0a n7_0a d7_0a) (.slice A7_0b n7_0b d7_0b)
  have zA8 : (w7.alloc (.cells #[.slice A7_0a n7_0a d7_0a, .slice A7_0b n7_0b d7_0b] 31)).heap.size = w7.heap.size + 1 := by simp
  generalize w7.alloc _ = w8 at bA8 rA8 zA8 ⊢
  have s8 := bA8.size
  replace h0 := h0.below bA8 (by omega)
  replace h1 := h1.below bA8 (by omega)
  replace o1 := o1.below bA8 (by omega)
  replace o2 := o2.below bA8 (by omega)
  replace o3_0a := o3_0a.below bA8 (by omega)
  replace o3_0b := o3_0b.below bA8 (by omega)
  replace rA4 := rA4.below bA8 (by omega)
  replace o5 := o5.below bA8 (by omega)
  replace o6 := o6.below bA8 (by omega)
  replace o7_0a := o7_0a.below bA8 (by omega)
  replace o7_0b := o7_0b.below bA8 (by omega)
  replace hB := hB.trans (bA8.mono (by omega))
  clear bA8
  refine (eqQueue_same _ _ _ _ _ _ w8 o7_0a.rd o7_0b.rd o3_0a.rd o3_0b.rd (by omega) (by omega) (by omega) (by omega)).mono ?_; rintro e_ w9 ⟨rfl, b9⟩
  have s9 := b9.size
  replace h0 := h0.below b9 (by omega)
  replace h1 := h1.below b9 (by omega)
  replace o1 := o1.below b9 (by omega)
  replace o2 := o2.below b9 (by omega)
  replace o3_0a := o3_0a.below b9 (by omega)
  replace o3_0b := o3_0b.below b9 (by omega)
  replace rA4 := rA4.below b9 (by omega)
  replace o5 := o5.below b9 (by omega)
  replace o6 := o6.below b9 (by omega)
  replace o7_0a := o7_0a.below b9 (by omega)
  replace o7_0b := o7_0b.below b9 (by omega)
  replace rA8 := rA8.below b9 (by omega)
  replace hB := hB.trans (b9.mono (by omega))
  clear b9
  go_wp2_with fail
  refine (Sl.toS_any _ _ _ h0 (by omega) zl).mono ?_; rintro e_ w10 ⟨u10, rfl, o10, b10⟩
  have s10 := b10.size
  replace h0 := h0.below b10 (by omega)
  replace h1 := h1.below b10 (by omega)
  replace o1 := o1.below b10 (by omega)
  replace o2 := o2.below b10 (by omega)
  replace o3_0a := o3_0a.below b10 (by omega)
  replace o3_0b := o3_0b.below b10 (by omega)
  replace rA4 := rA4.below b10 (by omega)
  replace o5 := o5.below b10 (by omega)
  replace o6 := o6.below b10 (by omega)
  replace o7_0a := o7_0a.below b10 (by omega)
  replace o7_0b := o7_0b.below b10 (by omega)
  replace rA8 := rA8.below b10 (by omega)
  replace hB := hB.trans (b10.mono (by omega))
  clear b10
  obtain ⟨A10_0, n10_0, d10_0, rfl, _, _, _⟩ := o10.rd.form
  go_wp2_with fail
  refine (Sl.eqS_same _ _ _ w10 o5.rd o10.rd (by omega) (by omega)).mono ?_; rintro e_ w11 ⟨rfl, b11⟩
  have s11 := b11.size
  replace h0 := h0.below b11 (by omega)
  replace h1 := h1.below b11 (by omega)
  replace o1 := o1.below b11 (by omega)
  replace o2 := o2.below b11 (by omega)
  replace o3_0a := o3_0a.below b11 (by omega)
  replace o3_0b := o3_0b.below b11 (by omega)
  replace rA4 := rA4.below b11 (by omega)
  replace o5 := o5.below b11 (by omega)
  replace o6 := o6.below b11 (by omega)
  replace o7_0a := o7_0a.below b11 (by omega)
  replace o7_0b := o7_0b.below b11 (by omega)
  replace rA8 := rA8.below b11 (by omega)
  replace o10 := o10.below b11 (by omega)
  replace hB := hB.trans (b11.mono (by omega))
  clear b11
  go_wp2_with fail
  refine (Wt.toS_any _ _ _ h1 (by omega) zm).mono ?_; rintro e_ w12 ⟨u12, rfl, o12, b12⟩
  have s12 := b12.size
  replace h0 := h0.below b12 (by omega)
  replace h1 := h1.below b12 (by omega)
  replace o1 := o1.below b12 (by omega)
  replace o2 := o2.below b12 (by omega)
  replace o3_0a := o3_0a.below b12 (by omega)
  replace o3_0b := o3_0b.below b12 (by omega)
  replace rA4 := rA4.below b12 (by omega)
  replace o5 := o5.below b12 (by omega)
  replace o6 := o6.below b12 (by omega)
  replace o7_0a := o7_0a.below b12 (by omega)
  replace o7_0b := o7_0b.below b12 (by omega)
  replace rA8 := rA8.below b12 (by omega)
  replace o10 := o10.below b12 (by omega)
  replace hB := hB.trans (b12.mono (by omega))
  clear b12
  obtain ⟨A12_0, n12_0, d12_0, rfl, _, _, _⟩ := o12.rd.form
  go_wp2_with fail
  refine (Wt.eqS_same _ _ _ w12 o6.rd o12.rd (by omega) (by omega)).mono ?_; rintro e_ w13 ⟨rfl, b13⟩
  have s13 := b13.size
  replace h0 := h0.below b13 (by omega)
  replace h1 := h1.below b13 (by omega)
  replace o1 := o1.below b13 (by omega)
  replace o2 := o2.below b13 (by omega)
  replace o3_0a := o3_0a.below b13 (by omega)
  replace o3_0b := o3_0b.below b13 (by omega)
  replace rA4 := rA4.below b13 (by omega)
  replace o5 := o5.below b13 (by omega)
  replace o6 := o6.below b13 (by omega)
  replace o7_0a := o7_0a.below b13 (by omega)
  replace o7_0b := o7_0b.below b13 (by omega)
  replace rA8 := rA8.below b13 (by omega)
  replace o10 := o10.below b13 (by omega)
  replace o12 := o12.below b13 (by omega)
  replace hB := hB.trans (b13.mono (by omega))
  clear b13
  go_wp2_with fail
  refine (Sl.markS_any _ _ w13 o5 _ (by omega) (by omega) zl).mono ?_; rintro e_ w14 ⟨rfl, p14, t14⟩
  have s15 := t14.size
  replace h0 := h0.turned o5 t14 (by omega) (by omega)
  replace h1 := h1.turned o5 t14 (by omega) (by omega)
  replace o1 := o1.turned o5 t14 (by omega)
  replace o2 := o2.turned o5 t14 (by omega)
  replace o3_0a := o3_0a.turned o5 t14 (by omega)
  replace o3_0b := o3_0b.turned o5 t14 (by omega)
  replace rA4 := rA4.turned o5 t14 (by omega) (by omega)
  replace o6 := o6.turned o5 t14 (by omega)
  replace o7_0a := o7_0a.turned o5 t14 (by omega)
  replace o7_0b := o7_0b.turned o5 t14 (by omega)
  replace rA8 := rA8.turned o5 t14 (by omega) (by omega)
  replace o10 := o10.turned o5 t14 (by omega)
  replace o12 := o12.turned o5 t14 (by omega)
  replace hB := Below.turned hB o5 t14 (by omega) (by omega)
  clear o5 t14
  have o5 := p14; clear p14
  go_wp2_with fail
  refine (Wt.markS_any _ _ w14 o6 _ (by omega) (by omega) zm).mono ?_; rintro e_ w16 ⟨rfl, p16, t16⟩
  have s17 := t16.size
  replace h0 := h0.turned o6 t16 (by omega) (by omega)
  replace h1 := h1.turned o6 t16 (by omega) (by omega)
  replace o1 := o1.turned o6 t16 (by omega)
  replace o2 := o2.turned o6 t16 (by omega)
  replace o3_0a := o3_0a.turned o6 t16 (by omega)
  replace o3_0b := o3_0b.turned o6 t16 (by omega)
  replace rA4 := rA4.turned o6 t16 (by omega) (by omega)
  replace o5 := o5.turned o6 t16 (by omega)
  replace o7_0a := o7_0a.turned o6 t16 (by omega)
  replace o7_0b := o7_0b.turned o6 t16 (by omega)
  replace rA8 := rA8.turned o6 t16 (by omega) (by omega)
  replace o10 := o10.turned o6 t16 (by omega)
  replace o12 := o12.turned o6 t16 (by omega)
  replace hB := Below.turned hB o6 t16 (by omega) (by omega)
  clear o6 t16
  have o6 := p16; clear p16
  obtain ⟨bx0_0, bx0_1⟩ := Qc.box rA8
  have zb0 : w7.heap.size < w16.heap.size := by omega
  obtain ⟨bx1_0, bx1_1⟩ := Qc.box rA4
  have zb1 : w3.heap.size < w16.heap.size := by omega
  go_wp2_with fail
  clear bx0_0 bx0_1 zb0 bx1_0 bx1_1 zb1
  refine (eqQueue_same _ _ _ _ _ _ w16 o7_0a.rd o7_0b.rd o3_0a.rd o3_0b.rd (by omega) (by omega) (by omega) (by omega)).mono ?_; rintro e_ w18 ⟨rfl, b18⟩
  have s18 := b18.size
  replace h0 := h0.below b18 (by omega)
  replace h1 := h1.below b18 (by omega)
  replace o1 := o1.below b18 (by omega)
  replace o2 := o2.below b18 (by omega)
  replace o3_0a := o3_0a.below b18 (by omega)
  replace o3_0b := o3_0b.below b18 (by omega)
  replace rA4 := rA4.below b18 (by omega)
  replace o5 := o5.below b18 (by omega)
  replace o6 := o6.below b18 (by omega)
  replace o7_0a := o7_0a.below b18 (by omega)
  replace o7_0b := o7_0b.below b18 (by omega)
  replace rA8 := rA8.below b18 (by omega)
  replace o10 := o10.below b18 (by omega)
  replace o12 := o12.below b18 (by omega)
  replace hB := hB.trans (b18.mono (by omega))
  clear b18
  obtain ⟨bx0_0, bx0_1⟩ := Qc.box rA8
  have zb0 : w7.heap.size < w18.heap.size := by omega
  go_wp2_with fail
  clear bx0_0 bx0_1 zb0
  refine (markQueue_any _ _ _ _ w18 o7_0a o7_0b (by omega) (by omega) (Qu.seS_len l0 m0) (Qu.seW_len l0 m0) 1 (by omega) (by omega)).mono ?_; rintro e_ w19 ⟨wa19, wb19, rfl, b19, pa19, ta19, pb19, tb19, ob19⟩
  have s19 := b19.size
  replace h0 := h0.below b19 (by omega)
  replace h1 := h1.below b19 (by omega)
  replace o1 := o1.below b19 (by omega)
  replace o2 := o2.below b19 (by omega)
  replace o3_0a := o3_0a.below b19 (by omega)
  replace o3_0b := o3_0b.below b19 (by omega)
  replace rA4 := rA4.below b19 (by omega)
  replace o5 := o5.below b19 (by omega)
  replace o6 := o6.below b19 (by omega)
  replace o7_0a := o7_0a.below b19 (by omega)
  replace o7_0b := o7_0b.below b19 (by omega)
  replace rA8 := rA8.below b19 (by omega)
  replace o10 := o10.below b19 (by omega)
  replace o12 := o12.below b19 (by omega)
  replace hB := hB.trans (b19.mono (by omega))
  clear b19
  have s20 := ta19.size
  replace h0 := h0.turned o7_0a ta19 (by omega) (by omega)
  replace h1 := h1.turned o7_0a ta19 (by omega) (by omega)
  replace o1 := o1.turned o7_0a ta19 (by omega)
  replace o2 := o2.turned o7_0a ta19 (by omega)
  replace o3_0a := o3_0a.turned o7_0a ta19 (by omega)
  replace o3_0b := o3_0b.turned o7_0a ta19 (by omega)
  replace rA4 := rA4.turned o7_0a ta19 (by omega) (by omega)
  replace o5 := o5.turned o7_0a ta19 (by omega)
  replace o6 := o6.turned o7_0a ta19 (by omega)
  replace o7_0b := o7_0b.turned_type o7_0a ta19 (by decide)
  replace rA8 := rA8.turned o7_0a ta19 (by omega) (by omega)
  replace o10 := o10.turned o7_0a ta19 (by omega)
  replace o12 := o12.turned o7_0a ta19 (by omega)
  replace hB := Below.turned hB o7_0a ta19 (by omega) (by omega)
  clear o7_0a o7_0b ta19
  have o7_0a := pa19; clear pa19
  have o7_0b := ob19; clear ob19
  have s21 := tb19.size
  replace h0 := h0.turned o7_0b tb19 (by omega) (by omega)
  replace h1 := h1.turned o7_0b tb19 (by omega) (by omega)
  replace o1 := o1.turned o7_0b tb19 (by omega)
  replace o2 := o2.turned o7_0b tb19 (by omega)
  replace o3_0a := o3_0a.turned o7_0b tb19 (by omega)
  replace o3_0b := o3_0b.turned o7_0b tb19 (by omega)
  replace rA4 := rA4.turned o7_0b tb19 (by omega) (by omega)
  replace o5 := o5.turned o7_0b tb19 (by omega)
  replace o6 := o6.turned o7_0b tb19 (by omega)
  replace o7_0a := o7_0a.turned_type o7_0b tb19 (by decide)
  replace rA8 := rA8.turned o7_0b tb19 (by omega) (by omega)
  replace o10 := o10.turned o7_0b tb19 (by omega)
  replace o12 := o12.turned o7_0b tb19 (by omega)
  replace hB := Below.turned hB o7_0b tb19 (by omega) (by omega)
  clear o7_0b tb19
  have o7_0b := pb19; clear pb19
  obtain ⟨bx0_0, bx0_1⟩ := Qc.box rA8
  have zb0 : w7.heap.size < w19.heap.size := by omega
  go_wp2_with fail
  clear bx0_0 bx0_1 zb0
  refine (heldQueue_any _ _ _ _ w19 o7_0a.rd o7_0b.rd (by omega) (by omega) (Qu.seS_len l0 m0) (Qu.seW_len l0 m0) (by omega) (by omega)).mono ?_; rintro e_ w22 ⟨rfl, b22⟩
  have s22 := b22.size
  replace h0 := h0.below b22 (by omega)
  replace h1 := h1.below b22 (by omega)
  replace o1 := o1.below b22 (by omega)
  replace o2 := o2.below b22 (by omega)
  replace o3_0a := o3_0a.below b22 (by omega)
  replace o3_0b := o3_0b.below b22 (by omega)
  replace rA4 := rA4.below b22 (by omega)
  replace o5 := o5.below b22 (by omega)
  replace o6 := o6.below b22 (by omega)
  replace o7_0a := o7_0a.below b22 (by omega)
  replace o7_0b := o7_0b.below b22 (by omega)
  replace rA8 := rA8.below b22 (by omega)
  replace o10 := o10.below b22 (by omega)
  replace o12 := o12.below b22 (by omega)
  replace hB := hB.trans (b22.mono (by omega))
  clear b22
  go_wp2_with fail
  refine (Sl.toS_any _ _ _ h0 (by omega) zl).mono ?_; rintro e_ w23 ⟨u23, rfl, o23, b23⟩
  have s23 := b23.size
  replace h0 := h0.below b23 (by omega)
  replace h1 := h1.below b23 (by omega)
  replace o1 := o1.below b23 (by omega)
  replace o2 := o2.below b23 (by omega)
  replace o3_0a := o3_0a.below b23 (by omega)
  replace o3_0b := o3_0b.below b23 (by omega)
  replace rA4 := rA4.below b23 (by omega)
  replace o5 := o5.below b23 (by omega)
  replace o6 := o6.below b23 (by omega)
  replace o7_0a := o7_0a.below b23 (by omega)
  replace o7_0b := o7_0b.below b23 (by omega)
  replace rA8 := rA8.below b23 (by omega)
  replace o10 := o10.below b23 (by omega)
  replace o12 := o12.below b23 (by omega)
  replace hB := hB.trans (b23.mono (by omega))
  clear b23
  obtain ⟨A23_0, n23_0, d23_0, rfl, _, _, _⟩ := o23.rd.form
  go_wp2_with fail
  refine (Wt.toS_any _ _ _ h1 (by omega) zm).mono ?_; rintro e_ w24 ⟨u24, rfl, o24, b24⟩
  have s24 := b24.size
  replace h0 := h0.below b24 (by omega)
  replace h1 := h1.below b24 (by omega)
  replace o1 := o1.below b24 (by omega)
  replace o2 := o2.below b24 (by omega)
  replace o3_0a := o3_0a.below b24 (by omega)
  replace o3_0b := o3_0b.below b24 (by omega)
  replace rA4 := rA4.below b24 (by omega)
  replace o5 := o5.below b24 (by omega)
  replace o6 := o6.below b24 (by omega)
  replace o7_0a := o7_0a.below b24 (by omega)
  replace o7_0b := o7_0b.below b24 (by omega)
  replace rA8 := rA8.below b24 (by omega)
  replace o10 := o10.below b24 (by omega)
  replace o12 := o12.below b24 (by omega)
  replace o23 := o23.below b24 (by omega)
  replace hB := hB.trans (b24.mono (by omega))
  clear b24
  obtain ⟨A24_0, n24_0, d24_0, rfl, _, _, _⟩ := o24.rd.form
  go_wp2_with fail
  refine (implSettleQueue_any _ l0 _ m0 w24 o23.rd o24.rd (by omega) (by omega)).mono ?_; rintro e_ w25 ⟨u25_0a, u25_0b, rfl, o25_0a, o25_0b, b25⟩
  have s25 := b25.size
  replace h0 := h0.below b25 (by omega)
  replace h1 := h1.below b25 (by omega)
  replace o1 := o1.below b25 (by omega)
  replace o2 := o2.below b25 (by omega)
  replace o3_0a := o3_0a.below b25 (by omega)
  replace o3_0b := o3_0b.below b25 (by omega)
  replace rA4 := rA4.below b25 (by omega)
  replace o5 := o5.below b25 (by omega)
  replace o6 := o6.below b25 (by omega)
  replace o7_0a := o7_0a.below b25 (by omega)
  replace o7_0b := o7_0b.below b25 (by omega)
  replace rA8 := rA8.below b25 (by omega)
  replace o10 := o10.below b25 (by omega)
  replace o12 := o12.below b25 (by omega)
  replace o23 := o23.below b25 (by omega)
  replace o24 := o24.below b25 (by omega)
  replace hB := hB.trans (b25.mono (by omega))
  clear b25
  obtain ⟨A25_0a, n25_0a, d25_0a, rfl, _, _, _⟩ := o25_0a.rd.form
  obtain ⟨A25_0b, n25_0b, d25_0b, rfl, _, _, _⟩ := o25_0b.rd.form
  obtain ⟨bx0_0, bx0_1⟩ := Qc.box rA4
  have zb0 : w3.heap.size < w25.heap.size := by omega
  go_wp2_with fail
  clear bx0_0 bx0_1 zb0
  have bA26 : Below w25.heap.size w25 (w25.alloc (.cells #[.slice A25_0a n25_0a d25_0a, .slice A25_0b n25_0b d25_0b] 31)) := (Below.refl _ _).alloc (Nat.le_refl _) _
  have rA26 := Qc.new w25 31 (.slice A25_0a n25_0a d25_0a) (.slice A25_0b n25_0b d25_0b)
  have zA26 : (w25.alloc (.cells #[.slice A25_0a n25_0a d25_0a, .slice A25_0b n25_0b d25_0b] 31)).heap.size = w25.heap.size + 1 := by simp
  generalize w25.alloc _ = w26 at bA26 rA26 zA26 ⊢
  have s26 := bA26.size
  replace h0 := h0.below bA26 (by omega)
  replace h1 := h1.below bA26 (by omega)
  replace o1 := o1.below bA26 (by omega)
  replace o2 := o2.below bA26 (by omega)
  replace o3_0a := o3_0a.below bA26 (by omega)
  replace o3_0b := o3_0b.below bA26 (by omega)
  replace rA4 := rA4.below bA26 (by omega)
  replace o5 := o5.below bA26 (by omega)
  replace o6 := o6.below bA26 (by omega)
  replace o7_0a := o7_0a.below bA26 (by omega)
  replace o7_0b := o7_0b.below bA26 (by omega)
  replace rA8 := rA8.below bA26 (by omega)
  replace o10 := o10.below bA26 (by omega)
  replace o12 := o12.below bA26 (by omega)
  replace o23 := o23.below bA26 (by omega)
  replace o24 := o24.below bA26 (by omega)
  replace o25_0a := o25_0a.below bA26 (by omega)
  replace o25_0b := o25_0b.below bA26 (by omega)
  replace hB := hB.trans (bA26.mono (by omega))
  clear bA26
  refine (eqQueue_same _ _ _ _ _ _ w26 o25_0a.rd o25_0b.rd o3_0a.rd o3_0b.rd (by omega) (by omega) (by omega) (by omega)).mono ?_; rintro e_ w27 ⟨rfl, b27⟩
  have s27 := b27.size
  replace h0 := h0.below b27 (by omega)
  replace h1 := h1.below b27 (by omega)
  replace o1 := o1.below b27 (by omega)
  replace o2 := o2.below b27 (by omega)
  replace o3_0a := o3_0a.below b27 (by omega)
  replace o3_0b := o3_0b.below b27 (by omega)
  replace rA4 := rA4.below b27 (by omega)
  replace o5 := o5.below b27 (by omega)
  replace o6 := o6.below b27 (by omega)
  replace o7_0a := o7_0a.below b27 (by omega)
  replace o7_0b := o7_0b.below b27 (by omega)
  replace rA8 := rA8.below b27 (by omega)
  replace o10 := o10.below b27 (by omega)
  replace o12 := o12.below b27 (by omega)
  replace o23 := o23.below b27 (by omega)
  replace o24 := o24.below b27 (by omega)
  replace o25_0a := o25_0a.below b27 (by omega)
  replace o25_0b := o25_0b.below b27 (by omega)
  replace rA26 := rA26.below b27 (by omega)
  replace hB := hB.trans (b27.mono (by omega))
  clear b27
  obtain ⟨bx0_0, bx0_1⟩ := Qc.box rA8
  have zb0 : w7.heap.size < w27.heap.size := by omega
  go_wp2_with fail
  clear bx0_0 bx0_1 zb0
  refine (heldQueue_any _ _ _ _ w27 o7_0a.rd o7_0b.rd (by omega) (by omega) (Qu.seS_len l0 m0) (Qu.seW_len l0 m0) (by omega) (by omega)).mono ?_; rintro e_ w28 ⟨rfl, b28⟩
  have s28 := b28.size
  replace h0 := h0.below b28 (by omega)
  replace h1 := h1.below b28 (by omega)
  replace o1 := o1.below b28 (by omega)
  replace o2 := o2.below b28 (by omega)
  replace o3_0a := o3_0a.below b28 (by omega)
  replace o3_0b := o3_0b.below b28 (by omega)
  replace rA4 := rA4.below b28 (by omega)
  replace o5 := o5.below b28 (by omega)
  replace o6 := o6.below b28 (by omega)
  replace o7_0a := o7_0a.below b28 (by omega)
  replace o7_0b := o7_0b.below b28 (by omega)
  replace rA8 := rA8.below b28 (by omega)
  replace o10 := o10.below b28 (by omega)
  replace o12 := o12.below b28 (by omega)
  replace o23 := o23.below b28 (by omega)
  replace o24 := o24.below b28 (by omega)
  replace o25_0a := o25_0a.below b28 (by omega)
  replace o25_0b := o25_0b.below b28 (by omega)
  replace rA26 := rA26.below b28 (by omega)
  replace hB := hB.trans (b28.mono (by omega))
  clear b28
  go_wp2_with fail
  go_ret
  exact ⟨rfl, hB⟩

set_option maxRecDepth 100000 in
theorem SettleQueue_holds : Rows.FnExactSettleQueueSaid :=
  OpenClaim.holds_of_wide 5 Try.f5 rfl rfl rfl rfl rfl rfl rfl ⟨rfl, rfl, rfl, rfl, rfl⟩ rfl rfl rfl rfl rfl (by kernel_rfl) Try.func5 (by kernel_rfl)
    (of_decide_eq_true (by kernel_rfl)) (by unfold Func.isWrapper; first | (rw [if_pos (by decide +kernel)]; kernel_rfl) | (rw [if_neg (by decide +kernel)]; exact ⟨rfl, rfl⟩))
    (fun os started H enc _ => law_lifted (C := Try.checked) (s := Rows.fnExactSettleQueueSpec) own started (by kernel_rfl) Try.func5
      (ChangeSpec.witness6 (enc := enc) (C := Try.checked) false ⟨#[], #[.slice none 0 0, .slice none 0 0], []⟩ 8 (by kernel_rfl) (by kernel_rfl) (by kernel_rfl) (by kernel_rfl))
      laidOut (by kernel_rfl) rfl rfl Try.underlying4 (fun ds h => by match ds, h with | [_, _], _ => rfl)
      (fun W base args ds p hval0 hA0 => by
        have hval : ∀ (j : Nat) t v, Try.f5.params[j]? = some t → args[j]? = some v → Value.okWide Try.prog W .any base t v := hval0
        have hA : DataW.TrodAll enc Try.prog W 0 (fun _ => true) true Try.f5.params.toList args.toList ds p := hA0
        rw [Try.params5] at hA hval
        obtain ⟨v0, vs0, d0, ds0, p0, q0, hargs, rfl, rfl, h0, r0⟩ := trodAll_cons hA
        obtain ⟨v1, vs1, d1, ds1, p1, q1, rfl, rfl, rfl, h1, r1⟩ := trodAll_cons r0
        obtain ⟨rfl, rfl, rfl⟩ := trodAll_nil r1
        obtain rfl : args = #[v0, v1] := by cases args; simp_all
        obtain ⟨l0, k0⟩ := Sl.openS (hval 0 22 v0 rfl rfl) h0
        obtain ⟨l1, k1⟩ := Wt.openS (hval 1 23 v1 rfl rfl) h1
        exact SettleQueue_walk v0 l0 v1 l1 W k0 k1))

end Go.Proofs.Ytghfdoibabaadaa
