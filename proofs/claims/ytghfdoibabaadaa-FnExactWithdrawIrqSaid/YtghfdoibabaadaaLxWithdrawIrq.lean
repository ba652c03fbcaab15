/- 'WithdrawIrq' of the program and of the reference agree for all arguments, and the program's results share no memory with its arguments. No condition. -/
import Derived.Test.YtghfdoibabaadaaQuLaw
import Derived.Test.YtghfdoibabaadaaQuWith
namespace Go.Proofs.Ytghfdoibabaadaa
open Go.RowKit Go.ChangeShapes Go.WideShapes Go.Deep

set_option maxHeartbeats 8000000 in
theorem WithdrawIrq_walk (v0 u0 : Value) (l0 : List Sl) (m0 : List Wt) (x1 : Int) (W : World) (h0 : Rd Sl.cells 3 W 0 W.heap.size v0 l0) (h1 : Rd Wt.cells 2 W 0 W.heap.size u0 m0) : Calls Try.prog 7 #[.agg #[v0, u0], .int .i64 x1] W fun e W' => e = .returned (.bool true) ∧ Below W.heap.size W W' := by
  have hB := (Below.refl W.heap.size W).alloc (Nat.le_refl _) (.cells #[v0, u0] 25)
  have z0 : (W.alloc (.cells #[v0, u0] 25)).heap.size = W.heap.size + 1 := by simp
  have rQ := Qc.new W 25 v0 u0
  have ks := h0.below hB (Nat.le_refl _)
  have kw := h1.below hB (Nat.le_refl _)
  obtain ⟨A0, n0, d0, rfl, _, _, _⟩ := h0.form
  obtain ⟨A, n, c, rfl, _, _, _⟩ := h1.form
  clear h0 h1
  by_cases hz : l0.length + m0.length ≤ 1048576
  rotate_left
  · have cs := szQueue_any _ _ l0 m0 _ ks kw (by omega) (by omega) 1048576 (by omega) (by omega)
    rw [szQ_no hz] at cs
    go_enter Try.func7, Try.ntmps7
    go_wp2_with fail
    refine cs.mono ?_; rintro e_ w1 ⟨rfl, b1⟩
    go_wp2_with fail
    go_ret
    exact ⟨rfl, hB.trans (b1.mono (by omega))⟩
  have zl : l0.length ≤ 1048576 := by omega
  have zm : m0.length ≤ 1048576 := by omega
  have cs := szQueue_any _ _ l0 m0 _ ks kw (by omega) (by omega) 1048576 (by omega) (by omega)
  rw [szQ_yes (by omega) hz] at cs
  obtain ⟨q, hq⟩ : ∃ q : Int, q = 1048576 - (l0.length : Int) - m0.length := ⟨_, rfl⟩
  rw [← hq] at cs
  have hqd : decide (q < 0) = false := decide_eq_false (by omega)
  clear hq
  go_enter Try.func7, Try.ntmps7
  go_wp2_with fail
  generalize W.alloc _ = wA at *
  refine cs.mono ?_; rintro e_ w0 ⟨rfl, b0⟩
  have s0 := b0.size
  replace rQ := rQ.below b0 (by omega)
  replace ks := ks.below b0 (by omega)
  replace kw := kw.below b0 (by omega)
  replace hB := hB.trans (b0.mono (by omega))
  clear b0
  obtain ⟨bx0_0, bx0_1⟩ := Qc.box rQ
  have zb0 : W.heap.size < w0.heap.size := by omega
  go_wp2_with fail
  clear bx0_0 bx0_1 zb0
  refine (toQueue_any _ _ l0 m0 w0 ks kw (by omega) (by omega) zl zm).mono ?_; rintro e_ w1 ⟨u1_0, u1_1, rfl, o1_0, o1_1, b1⟩
  have s1 := b1.size
  replace rQ := rQ.below b1 (by omega)
  replace ks := ks.below b1 (by omega)
  replace kw := kw.below b1 (by omega)
  replace hB := hB.trans (b1.mono (by omega))
  clear b1
  obtain ⟨A1_0, n1_0, d1_0, rfl, _, _, _⟩ := o1_0.rd.form
  obtain ⟨A1_1, n1_1, d1_1, rfl, _, _, _⟩ := o1_1.rd.form
  go_wp2_with fail
  refine (specWithdrawIrq_any _ _ l0 m0 x1 w1 o1_0.rd o1_1.rd (by omega) (by omega)).mono ?_; rintro e_ w2 ⟨u2_0a, u2_0b, rfl, o2_0a, o2_0b, b2⟩
  have s2 := b2.size
  replace rQ := rQ.below b2 (by omega)
  replace ks := ks.below b2 (by omega)
  replace kw := kw.below b2 (by omega)
  replace o1_0 := o1_0.below b2 (by omega)
  replace o1_1 := o1_1.below b2 (by omega)
  replace hB := hB.trans (b2.mono (by omega))
  clear b2
  obtain ⟨A2_0a, n2_0a, d2_0a, rfl, _, _, _⟩ := o2_0a.rd.form
  obtain ⟨A2_0b, n2_0b, d2_0b, rfl, _, _, _⟩ := o2_0b.rd.form
  obtain ⟨bx0_0, bx0_1⟩ := Qc.box rQ
  have zb0 : W.heap.size < w2.heap.size := by omega
  go_wp2_with fail
  clear bx0_0 bx0_1 zb0
  have bA3 : Below w2.heap.size w2 (w2.alloc (.cells #[.slice A2_0a n2_0a d2_0a, .slice A2_0b n2_0b d2_0b] 31)) := (Below.refl _ _).alloc (Nat.le_refl _) _
  have rA3 := Qc.new w2 31 (.slice A2_0a n2_0a d2_0a) (.slice A2_0b n2_0b d2_0b)
  have zA3 : (w2.alloc (.cells #[.slice A2_0a n2_0a d2_0a, .slice A2_0b n2_0b d2_0b] 31)).heap.size = w2.heap.size + 1 := by simp
  generalize w2.alloc _ = w3 at bA3 rA3 zA3 ⊢
  have s3 := bA3.size
  replace rQ := rQ.below bA3 (by omega)
  replace ks := ks.below bA3 (by omega)
  replace kw := kw.below bA3 (by omega)
  replace o1_0 := o1_0.below bA3 (by omega)
  replace o1_1 := o1_1.below bA3 (by omega)
  replace o2_0a := o2_0a.below bA3 (by omega)
  replace o2_0b := o2_0b.below bA3 (by omega)
  replace hB := hB.trans (bA3.mono (by omega))
  clear bA3
  refine (toQueue_any _ _ l0 m0 w3 ks kw (by omega) (by omega) zl zm).mono ?_; rintro e_ w4 ⟨u4_0, u4_1, rfl, o4_0, o4_1, b4⟩
  have s4 := b4.size
  replace rQ := rQ.below b4 (by omega)
  replace ks := ks.below b4 (by omega)
  replace kw := kw.below b4 (by omega)
  replace o1_0 := o1_0.below b4 (by omega)
  replace o1_1 := o1_1.below b4 (by omega)
  replace o2_0a := o2_0a.below b4 (by omega)
  replace o2_0b := o2_0b.below b4 (by omega)
  replace rA3 := rA3.below b4 (by omega)
  replace hB := hB.trans (b4.mono (by omega))
  clear b4
  obtain ⟨A4_0, n4_0, d4_0, rfl, _, _, _⟩ := o4_0.rd.form
  obtain ⟨A4_1, n4_1, d4_1, rfl, _, _, _⟩ := o4_1.rd.form
  go_wp2_with fail
  have bA5 : Below w4.heap.size w4 (w4.alloc (.cells #[.slice A4_0 n4_0 d4_0, .slice A4_1 n4_1 d4_1] 31)) := (Below.refl _ _).alloc (Nat.le_refl _) _
  have rA5 := Qc.new w4 31 (.slice A4_0 n4_0 d4_0) (.slice A4_1 n4_1 d4_1)
  have zA5 : (w4.alloc (.cells #[.slice A4_0 n4_0 d4_0, .slice A4_1 n4_1 d4_1] 31)).heap.size = w4.heap.size + 1 := by simp
  generalize w4.alloc _ = w5 at bA5 rA5 zA5 ⊢
  have s5 := bA5.size
  replace rQ := rQ.below bA5 (by omega)
  replace ks := ks.below bA5 (by omega)
  replace kw := kw.below bA5 (by omega)
  replace o1_0 := o1_0.below bA5 (by omega)
  replace o1_1 := o1_1.below bA5 (by omega)
  replace o2_0a := o2_0a.below bA5 (by omega)
  replace o2_0b := o2_0b.below bA5 (by omega)
  replace rA3 := rA3.below bA5 (by omega)
  replace o4_0 := o4_0.below bA5 (by omega)
  replace o4_1 := o4_1.below bA5 (by omega)
  replace hB := hB.trans (bA5.mono (by omega))
  clear bA5
  refine (implWithdrawIrq_any _ _ l0 m0 x1 w5 o4_0.rd o4_1.rd (by omega) (by omega)).mono ?_; rintro e_ w6 ⟨u6_0a, u6_0b, rfl, o6_0a, o6_0b, b6⟩
  have s6 := b6.size
  replace rQ := rQ.below b6 (by omega)
  replace ks := ks.below b6 (by omega)
  replace kw := kw.below b6 (by omega)
  replace o1_0 := o1_0.below b6 (by omega)
  replace o1_1 := o1_1.below b6 (by omega)
  replace o2_0a := o2_0a.below b6 (by omega)
  replace o2_0b := o2_0b.below b6 (by omega)
  replace rA3 := rA3.below b6 (by omega)
  replace o4_0 := o4_0.below b6 (by omega)
  replace o4_1 := o4_1.below b6 (by omega)
  replace rA5 := rA5.below b6 (by omega)
  replace hB := hB.trans (b6.mono (by omega))
  clear b6
  obtain ⟨A6_0a, n6_0a, d6_0a, rfl, _, _, _⟩ := o6_0a.rd.form
  obtain ⟨A6_0b, n6_0b, d6_0b, rfl, _, _, _⟩ := o6_0b.rd.form
  obtain ⟨bx0_0, bx0_1⟩ := Qc.box rA3
  have zb0 : w2.heap.size < w6.heap.size := by omega
  go_wp2_with fail
  clear bx0_0 bx0_1 zb0
  have bA7 : Below w6.heap.size w6 (w6.alloc (.cells #[.slice A6_0a n6_0a d6_0a, .slice A6_0b n6_0b d6_0b] 31)) := (Below.refl _ _).alloc (Nat.le_refl _) _
  have rA7 := Qc.new w6 31 (.slice A6_0a n6_0a d6_0a) (.slice A6_0b n6_0b d6_0b)
  have zA7 : (w6.alloc (.cells #[.slice A6_0a n6_0a d6_0a, .slice A6_0b n6_0b d6_0b] 31)).heap.size = w6.heap.size + 1 := by simp
  generalize w6.alloc _ = w7 at bA7 rA7 zA7 ⊢
  have s7 := bA7.size
  replace rQ := rQ.below bA7 (by omega)
  replace ks := ks.below bA7 (by omega)
  replace kw := kw.below bA7 (by omega)
  replace o1_0 := o1_0.below bA7 (by omega)
  replace o1_1 := o1_1.below bA7 (by omega)
  replace o2_0a := o2_0a.below bA7 (by omega)
  replace o2_0b := o2_0b.below bA7 (by omega)
  replace rA3 := rA3.below bA7 (by omega)
  replace o4_0 := o4_0.below bA7 (by omega)
  replace o4_1 := o4_1.below bA7 (by omega)
  replace rA5 := rA5.below bA7 (by omega)
  replace o6_0a := o6_0a.below bA7 (by omega)
  replace o6_0b := o6_0b.below bA7 (by omega)
  replace hB := hB.trans (bA7.mono (by omega))
  clear bA7
  refine (eqQueue_same _ _ _ _ _ _ w7 o6_0a.rd o6_0b.rd o2_0a.rd o2_0b.rd (by omega) (by omega) (by omega) (by omega)).mono ?_; rintro e_ w8 ⟨rfl, b8⟩
  have s8 := b8.size
  replace rQ := rQ.below b8 (by omega)
  replace ks := ks.below b8 (by omega)
  replace kw := kw.below b8 (by omega)
  replace o1_0 := o1_0.below b8 (by omega)
  replace o1_1 := o1_1.below b8 (by omega)
  replace o2_0a := o2_0a.below b8 (by omega)
  replace o2_0b := o2_0b.below b8 (by omega)
  replace rA3 := rA3.below b8 (by omega)
  replace o4_0 := o4_0.below b8 (by omega)
  replace o4_1 := o4_1.below b8 (by omega)
  replace rA5 := rA5.below b8 (by omega)
  replace o6_0a := o6_0a.below b8 (by omega)
  replace o6_0b := o6_0b.below b8 (by omega)
  replace rA7 := rA7.below b8 (by omega)
  replace hB := hB.trans (b8.mono (by omega))
  clear b8
  obtain ⟨bx0_0, bx0_1⟩ := Qc.box rA5
  have zb0 : w4.heap.size < w8.heap.size := by omega
  obtain ⟨bx1_0, bx1_1⟩ := Qc.box rQ
  have zb1 : W.heap.size < w8.heap.size := by omega
  have c7 := toQueue_any _ _ l0 m0 w8.drew ks.drew kw.drew (by simp; omega) (by simp; omega) zl zm
  have c8 := fun (wy7 : World) (v5 v6 : Value) (by7 : Below w8.heap.size w8.drew wy7) (oy5 : Ow Sl.cells 3 65 wy7 w8.heap.size wy7.heap.size v5 l0) (oy6 : Ow Wt.cells 2 69 wy7 w8.heap.size wy7.heap.size v6 m0) => eqQueue_same (.slice A4_0 n4_0 d4_0) (.slice A4_1 n4_1 d4_1) v5 v6 l0 m0 wy7 (o4_0.drew.below by7 (by omega)).rd (o4_1.drew.below by7 (by omega)).rd oy5.rd oy6.rd (by have := by7.size; simp at this; omega) (by have := by7.size; simp at this; omega) (Nat.le_refl _) (Nat.le_refl _)
  go_wp2_with fail
  go_region_with (first | (go_at_call 13; refine c7.mono ?_; rintro e_ wy7 ⟨v5, v6, rfl, oy5, oy6, by7⟩; (try simp only [World.size_drew] at oy5 oy6 by7); (obtain ⟨hc7, hf7⟩ := bcell by7); (simp only [World.cell?_drew] at hc7); (have bx0_0 := (hc7 _ 0 zb0).trans bx0_0); (have bx0_1 := (hc7 _ 1 zb0).trans bx0_1); (clear hc7 hf7)) | (go_at_call 15; refine (c8 _ _ _ by7 oy5 oy6).mono ?_; rintro e_ wy8 ⟨rfl, by8⟩))
  all_goals have bD : Below w8.heap.size w8 wy8 := (Below.refl w8.heap.size w8).drew.trans (by7.trans (by8.mono (by have := by7.size; simp at this; omega)))
  all_goals clear by7 by8 oy5 oy6 c7 c8 bx0_0 bx0_1 zb0 bx1_0 bx1_1 zb1
  all_goals (
  have s11 := bD.size
  replace rQ := rQ.below bD (by omega)
  replace ks := ks.below bD (by omega)
  replace kw := kw.below bD (by omega)
  replace o1_0 := o1_0.below bD (by omega)
  replace o1_1 := o1_1.below bD (by omega)
  replace o2_0a := o2_0a.below bD (by omega)
  replace o2_0b := o2_0b.below bD (by omega)
  replace rA3 := rA3.below bD (by omega)
  replace o4_0 := o4_0.below bD (by omega)
  replace o4_1 := o4_1.below bD (by omega)
  replace rA5 := rA5.below bD (by omega)
  replace o6_0a := o6_0a.below bD (by omega)
  replace o6_0b := o6_0b.below bD (by omega)
  replace rA7 := rA7.below bD (by omega)
  replace hB := hB.trans (bD.mono (by omega))
  clear bD)
  rotate_left 0
  all_goals (
  obtain ⟨bx0_0, bx0_1⟩ := Qc.box rA5
  have zb0 : w4.heap.size < wy8.heap.size := by omega
  go_wp2_with fail
  clear bx0_0 bx0_1 zb0
  refine (markQueue_any _ _ _ _ wy8 o4_0 o4_1 (by omega) (by omega) zl zm 1 (by omega) (by omega)).mono ?_; rintro e_ w12 ⟨wa12, wb12, rfl, b12, pa12, ta12, pb12, tb12, ob12⟩
  have s12 := b12.size
  replace rQ := rQ.below b12 (by omega)
  replace ks := ks.below b12 (by omega)
  replace kw := kw.below b12 (by omega)
  replace o1_0 := o1_0.below b12 (by omega)
  replace o1_1 := o1_1.below b12 (by omega)
  replace o2_0a := o2_0a.below b12 (by omega)
  replace o2_0b := o2_0b.below b12 (by omega)
  replace rA3 := rA3.below b12 (by omega)
  replace o4_0 := o4_0.below b12 (by omega)
  replace o4_1 := o4_1.below b12 (by omega)
  replace rA5 := rA5.below b12 (by omega)
  replace o6_0a := o6_0a.below b12 (by omega)
  replace o6_0b := o6_0b.below b12 (by omega)
  replace rA7 := rA7.below b12 (by omega)
  replace hB := hB.trans (b12.mono (by omega))
  clear b12
  have s13 := ta12.size
  replace rQ := rQ.turned o4_0 ta12 (by omega) (by omega)
  replace ks := ks.turned o4_0 ta12 (by omega) (by omega)
  replace kw := kw.turned o4_0 ta12 (by omega) (by omega)
  replace o1_0 := o1_0.turned o4_0 ta12 (by omega)
  replace o1_1 := o1_1.turned o4_0 ta12 (by omega)
  replace o2_0a := o2_0a.turned o4_0 ta12 (by omega)
  replace o2_0b := o2_0b.turned o4_0 ta12 (by omega)
  replace rA3 := rA3.turned o4_0 ta12 (by omega) (by omega)
  replace o4_1 := o4_1.turned_type o4_0 ta12 (by decide)
  replace rA5 := rA5.turned o4_0 ta12 (by omega) (by omega)
  replace o6_0a := o6_0a.turned o4_0 ta12 (by omega)
  replace o6_0b := o6_0b.turned o4_0 ta12 (by omega)
  replace rA7 := rA7.turned o4_0 ta12 (by omega) (by omega)
  replace hB := Below.turned hB o4_0 ta12 (by omega) (by omega)
  clear o4_0 o4_1 ta12
  have o4_0 := pa12; clear pa12
  have o4_1 := ob12; clear ob12
  have s14 := tb12.size
  replace rQ := rQ.turned o4_1 tb12 (by omega) (by omega)
  replace ks := ks.turned o4_1 tb12 (by omega) (by omega)
  replace kw := kw.turned o4_1 tb12 (by omega) (by omega)
  replace o1_0 := o1_0.turned o4_1 tb12 (by omega)
  replace o1_1 := o1_1.turned o4_1 tb12 (by omega)
  replace o2_0a := o2_0a.turned o4_1 tb12 (by omega)
  replace o2_0b := o2_0b.turned o4_1 tb12 (by omega)
  replace rA3 := rA3.turned o4_1 tb12 (by omega) (by omega)
  replace o4_0 := o4_0.turned_type o4_1 tb12 (by decide)
  replace rA5 := rA5.turned o4_1 tb12 (by omega) (by omega)
  replace o6_0a := o6_0a.turned o4_1 tb12 (by omega)
  replace o6_0b := o6_0b.turned o4_1 tb12 (by omega)
  replace rA7 := rA7.turned o4_1 tb12 (by omega) (by omega)
  replace hB := Below.turned hB o4_1 tb12 (by omega) (by omega)
  clear o4_1 tb12
  have o4_1 := pb12; clear pb12
  obtain ⟨bx0_0, bx0_1⟩ := Qc.box rA7
  have zb0 : w6.heap.size < w12.heap.size := by omega
  obtain ⟨bx1_0, bx1_1⟩ := Qc.box rA3
  have zb1 : w2.heap.size < w12.heap.size := by omega
  go_wp2_with fail
  clear bx0_0 bx0_1 zb0 bx1_0 bx1_1 zb1
  refine (eqQueue_same _ _ _ _ _ _ w12 o6_0a.rd o6_0b.rd o2_0a.rd o2_0b.rd (by omega) (by omega) (by omega) (by omega)).mono ?_; rintro e_ w15 ⟨rfl, b15⟩
  have s15 := b15.size
  replace rQ := rQ.below b15 (by omega)
  replace ks := ks.below b15 (by omega)
  replace kw := kw.below b15 (by omega)
  replace o1_0 := o1_0.below b15 (by omega)
  replace o1_1 := o1_1.below b15 (by omega)
  replace o2_0a := o2_0a.below b15 (by omega)
  replace o2_0b := o2_0b.below b15 (by omega)
  replace rA3 := rA3.below b15 (by omega)
  replace o4_0 := o4_0.below b15 (by omega)
  replace o4_1 := o4_1.below b15 (by omega)
  replace rA5 := rA5.below b15 (by omega)
  replace o6_0a := o6_0a.below b15 (by omega)
  replace o6_0b := o6_0b.below b15 (by omega)
  replace rA7 := rA7.below b15 (by omega)
  replace hB := hB.trans (b15.mono (by omega))
  clear b15
  obtain ⟨bx0_0, bx0_1⟩ := Qc.box rA7
  have zb0 : w6.heap.size < w15.heap.size := by omega
  go_wp2_with fail
  clear bx0_0 bx0_1 zb0
  refine (markQueue_any _ _ _ _ w15 o6_0a o6_0b (by omega) (by omega) (Qu.wiS_len l0 m0 x1) (Qu.wiW_len l0 m0 x1) 1 (by omega) (by omega)).mono ?_; rintro e_ w16 ⟨wa16, wb16, rfl, b16, pa16, ta16, pb16, tb16, ob16⟩
  have s16 := b16.size
  replace rQ := rQ.below b16 (by omega)
  replace ks := ks.below b16 (by omega)
  replace kw := kw.below b16 (by omega)
  replace o1_0 := o1_0.below b16 (by omega)
  replace o1_1 := o1_1.below b16 (by omega)
  replace o2_0a := o2_0a.below b16 (by omega)
  replace o2_0b := o2_0b.below b16 (by omega)
  replace rA3 := rA3.below b16 (by omega)
  replace o4_0 := o4_0.below b16 (by omega)
  replace o4_1 := o4_1.below b16 (by omega)
  replace rA5 := rA5.below b16 (by omega)
  replace o6_0a := o6_0a.below b16 (by omega)
  replace o6_0b := o6_0b.below b16 (by omega)
  replace rA7 := rA7.below b16 (by omega)
  replace hB := hB.trans (b16.mono (by omega))
  clear b16
  have s17 := ta16.size
  replace rQ := rQ.turned o6_0a ta16 (by omega) (by omega)
  replace ks := ks.turned o6_0a ta16 (by omega) (by omega)
  replace kw := kw.turned o6_0a ta16 (by omega) (by omega)
  replace o1_0 := o1_0.turned o6_0a ta16 (by omega)
  replace o1_1 := o1_1.turned o6_0a ta16 (by omega)
  replace o2_0a := o2_0a.turned o6_0a ta16 (by omega)
  replace o2_0b := o2_0b.turned o6_0a ta16 (by omega)
  replace rA3 := rA3.turned o6_0a ta16 (by omega) (by omega)
  replace o4_0 := o4_0.turned o6_0a ta16 (by omega)
  replace o4_1 := o4_1.turned o6_0a ta16 (by omega)
  replace rA5 := rA5.turned o6_0a ta16 (by omega) (by omega)
  replace o6_0b := o6_0b.turned_type o6_0a ta16 (by decide)
  replace rA7 := rA7.turned o6_0a ta16 (by omega) (by omega)
  replace hB := Below.turned hB o6_0a ta16 (by omega) (by omega)
  clear o6_0a o6_0b ta16
  have o6_0a := pa16; clear pa16
  have o6_0b := ob16; clear ob16
  have s18 := tb16.size
  replace rQ := rQ.turned o6_0b tb16 (by omega) (by omega)
  replace ks := ks.turned o6_0b tb16 (by omega) (by omega)
  replace kw := kw.turned o6_0b tb16 (by omega) (by omega)
  replace o1_0 := o1_0.turned o6_0b tb16 (by omega)
  replace o1_1 := o1_1.turned o6_0b tb16 (by omega)
  replace o2_0a := o2_0a.turned o6_0b tb16 (by omega)
  replace o2_0b := o2_0b.turned o6_0b tb16 (by omega)
  replace rA3 := rA3.turned o6_0b tb16 (by omega) (by omega)
  replace o4_0 := o4_0.turned o6_0b tb16 (by omega)
  replace o4_1 := o4_1.turned o6_0b tb16 (by omega)
  replace rA5 := rA5.turned o6_0b tb16 (by omega) (by omega)
  replace o6_0a := o6_0a.turned_type o6_0b tb16 (by decide)
  replace rA7 := rA7.turned o6_0b tb16 (by omega) (by omega)
  replace hB := Below.turned hB o6_0b tb16 (by omega) (by omega)
  clear o6_0b tb16
  have o6_0b := pb16; clear pb16
  obtain ⟨bx0_0, bx0_1⟩ := Qc.box rA7
  have zb0 : w6.heap.size < w16.heap.size := by omega
  go_wp2_with fail
  clear bx0_0 bx0_1 zb0
  refine (heldQueue_any _ _ _ _ w16 o6_0a.rd o6_0b.rd (by omega) (by omega) (Qu.wiS_len l0 m0 x1) (Qu.wiW_len l0 m0 x1) (by omega) (by omega)).mono ?_; rintro e_ w19 ⟨rfl, b19⟩
  have s19 := b19.size
  replace rQ := rQ.below b19 (by omega)
  replace ks := ks.below b19 (by omega)
  replace kw := kw.below b19 (by omega)
  replace o1_0 := o1_0.below b19 (by omega)
  replace o1_1 := o1_1.below b19 (by omega)
  replace o2_0a := o2_0a.below b19 (by omega)
  replace o2_0b := o2_0b.below b19 (by omega)
  replace rA3 := rA3.below b19 (by omega)
  replace o4_0 := o4_0.below b19 (by omega)
  replace o4_1 := o4_1.below b19 (by omega)
  replace rA5 := rA5.below b19 (by omega)
  replace o6_0a := o6_0a.below b19 (by omega)
  replace o6_0b := o6_0b.below b19 (by omega)
  replace rA7 := rA7.below b19 (by omega)
  replace hB := hB.trans (b19.mono (by omega))
  clear b19
  obtain ⟨bx0_0, bx0_1⟩ := Qc.box rQ
  have zb0 : W.heap.size < w19.heap.size := by omega
  go_wp2_with fail
  clear bx0_0 bx0_1 zb0
  refine (toQueue_any _ _ l0 m0 w19 ks kw (by omega) (by omega) zl zm).mono ?_; rintro e_ w20 ⟨u20_0, u20_1, rfl, o20_0, o20_1, b20⟩
  have s20 := b20.size
  replace rQ := rQ.below b20 (by omega)
  replace ks := ks.below b20 (by omega)
  replace kw := kw.below b20 (by omega)
  replace o1_0 := o1_0.below b20 (by omega)
  replace o1_1 := o1_1.below b20 (by omega)
  replace o2_0a := o2_0a.below b20 (by omega)
  replace o2_0b := o2_0b.below b20 (by omega)
  replace rA3 := rA3.below b20 (by omega)
  replace o4_0 := o4_0.below b20 (by omega)
  replace o4_1 := o4_1.below b20 (by omega)
  replace rA5 := rA5.below b20 (by omega)
  replace o6_0a := o6_0a.below b20 (by omega)
  replace o6_0b := o6_0b.below b20 (by omega)
  replace rA7 := rA7.below b20 (by omega)
  replace hB := hB.trans (b20.mono (by omega))
  clear b20
  obtain ⟨A20_0, n20_0, d20_0, rfl, _, _, _⟩ := o20_0.rd.form
  obtain ⟨A20_1, n20_1, d20_1, rfl, _, _, _⟩ := o20_1.rd.form
  go_wp2_with fail
  refine (implWithdrawIrq_any _ _ l0 m0 x1 w20 o20_0.rd o20_1.rd (by omega) (by omega)).mono ?_; rintro e_ w21 ⟨u21_0a, u21_0b, rfl, o21_0a, o21_0b, b21⟩
  have s21 := b21.size
  replace rQ := rQ.below b21 (by omega)
  replace ks := ks.below b21 (by omega)
  replace kw := kw.below b21 (by omega)
  replace o1_0 := o1_0.below b21 (by omega)
  replace o1_1 := o1_1.below b21 (by omega)
  replace o2_0a := o2_0a.below b21 (by omega)
  replace o2_0b := o2_0b.below b21 (by omega)
  replace rA3 := rA3.below b21 (by omega)
  replace o4_0 := o4_0.below b21 (by omega)
  replace o4_1 := o4_1.below b21 (by omega)
  replace rA5 := rA5.below b21 (by omega)
  replace o6_0a := o6_0a.below b21 (by omega)
  replace o6_0b := o6_0b.below b21 (by omega)
  replace rA7 := rA7.below b21 (by omega)
  replace o20_0 := o20_0.below b21 (by omega)
  replace o20_1 := o20_1.below b21 (by omega)
  replace hB := hB.trans (b21.mono (by omega))
  clear b21
  obtain ⟨A21_0a, n21_0a, d21_0a, rfl, _, _, _⟩ := o21_0a.rd.form
  obtain ⟨A21_0b, n21_0b, d21_0b, rfl, _, _, _⟩ := o21_0b.rd.form
  obtain ⟨bx0_0, bx0_1⟩ := Qc.box rA3
  have zb0 : w2.heap.size < w21.heap.size := by omega
  go_wp2_with fail
  clear bx0_0 bx0_1 zb0
  have bA22 : Below w21.heap.size w21 (w21.alloc (.cells #[.slice A21_0a n21_0a d21_0a, .slice A21_0b n21_0b d21_0b] 31)) := (Below.refl _ _).alloc (Nat.le_refl _) _
  have rA22 := Qc.new w21 31 (.slice A21_0a n21_0a d21_0a) (.slice A21_0b n21_0b d21_0b)
  have zA22 : (w21.alloc (.cells #[.slice A21_0a n21_0a d21_0a, .slice A21_0b n21_0b d21_0b] 31)).heap.size = w21.heap.size + 1 := by simp
  generalize w21.alloc _ = w22 at bA22 rA22 zA22 ⊢
  have s22 := bA22.size
  replace rQ := rQ.below bA22 (by omega)
  replace ks := ks.below bA22 (by omega)
  replace kw := kw.below bA22 (by omega)
  replace o1_0 := o1_0.below bA22 (by omega)
  replace o1_1 := o1_1.below bA22 (by omega)
  replace o2_0a := o2_0a.below bA22 (by omega)
  replace o2_0b := o2_0b.below bA22 (by omega)
  replace rA3 := rA3.below bA22 (by omega)
  replace o4_0 := o4_0.below bA22 (by omega)
  replace o4_1 := o4_1.below bA22 (by omega)
  replace rA5 := rA5.below bA22 (by omega)
  replace o6_0a := o6_0a.below bA22 (by omega)
  replace o6_0b := o6_0b.below bA22 (by omega)
  replace rA7 := rA7.below bA22 (by omega)
  replace o20_0 := o20_0.below bA22 (by omega)
  replace o20_1 := o20_1.below bA22 (by omega)
  replace o21_0a := o21_0a.below bA22 (by omega)
  replace o21_0b := o21_0b.below bA22 (by omega)
  replace hB := hB.trans (bA22.mono (by omega))
  clear bA22
  refine (eqQueue_same _ _ _ _ _ _ w22 o21_0a.rd o21_0b.rd o2_0a.rd o2_0b.rd (by omega) (by omega) (by omega) (by omega)).mono ?_; rintro e_ w23 ⟨rfl, b23⟩
  have s23 := b23.size
  replace rQ := rQ.below b23 (by omega)
  replace ks := ks.below b23 (by omega)
  replace kw := kw.below b23 (by omega)
  replace o1_0 := o1_0.below b23 (by omega)
  replace o1_1 := o1_1.below b23 (by omega)
  replace o2_0a := o2_0a.below b23 (by omega)
  replace o2_0b := o2_0b.below b23 (by omega)
  replace rA3 := rA3.below b23 (by omega)
  replace o4_0 := o4_0.below b23 (by omega)
  replace o4_1 := o4_1.below b23 (by omega)
  replace rA5 := rA5.below b23 (by omega)
  replace o6_0a := o6_0a.below b23 (by omega)
  replace o6_0b := o6_0b.below b23 (by omega)
  replace rA7 := rA7.below b23 (by omega)
  replace o20_0 := o20_0.below b23 (by omega)
  replace o20_1 := o20_1.below b23 (by omega)
  replace o21_0a := o21_0a.below b23 (by omega)
  replace o21_0b := o21_0b.below b23 (by omega)
  replace rA22 := rA22.below b23 (by omega)
  replace hB := hB.trans (b23.mono (by omega))
  clear b23
  obtain ⟨bx0_0, bx0_1⟩ := Qc.box rA7
  have zb0 : w6.heap.size < w23.heap.size := by omega
  go_wp2_with fail
  clear bx0_0 bx0_1 zb0
  refine (heldQueue_any _ _ _ _ w23 o6_0a.rd o6_0b.rd (by omega) (by omega) (Qu.wiS_len l0 m0 x1) (Qu.wiW_len l0 m0 x1) (by omega) (by omega)).mono ?_; rintro e_ w24 ⟨rfl, b24⟩
  have s24 := b24.size
  replace rQ := rQ.below b24 (by omega)
  replace ks := ks.below b24 (by omega)
  replace kw := kw.below b24 (by omega)
  replace o1_0 := o1_0.below b24 (by omega)
  replace o1_1 := o1_1.below b24 (by omega)
  replace o2_0a := o2_0a.below b24 (by omega)
  replace o2_0b := o2_0b.below b24 (by omega)
  replace rA3 := rA3.below b24 (by omega)
  replace o4_0 := o4_0.below b24 (by omega)
  replace o4_1 := o4_1.below b24 (by omega)
  replace rA5 := rA5.below b24 (by omega)
  replace o6_0a := o6_0a.below b24 (by omega)
  replace o6_0b := o6_0b.below b24 (by omega)
  replace rA7 := rA7.below b24 (by omega)
  replace o20_0 := o20_0.below b24 (by omega)
  replace o20_1 := o20_1.below b24 (by omega)
  replace o21_0a := o21_0a.below b24 (by omega)
  replace o21_0b := o21_0b.below b24 (by omega)
  replace rA22 := rA22.below b24 (by omega)
  replace hB := hB.trans (b24.mono (by omega))
  clear b24
  go_wp2_with fail
  go_ret
  exact ⟨rfl, hB⟩)

set_option maxRecDepth 100000 in
theorem WithdrawIrq_holds : Rows.FnExactWithdrawIrqSaid :=
  OpenClaim.holds_of_wide 7 Try.f7 rfl rfl rfl rfl rfl rfl rfl ⟨rfl, rfl, rfl, rfl, rfl⟩ rfl rfl rfl rfl rfl (by kernel_rfl) Try.func7 (by kernel_rfl)
    (of_decide_eq_true (by kernel_rfl)) (by unfold Func.isWrapper; first | (rw [if_pos (by decide +kernel)]; kernel_rfl) | (rw [if_neg (by decide +kernel)]; exact ⟨rfl, rfl⟩))
    (fun os started H enc _ => law_lifted (C := Try.checked) (s := Rows.fnExactWithdrawIrqSpec) own started (by kernel_rfl) Try.func7
      (ChangeSpec.witness6 (enc := enc) (C := Try.checked) false ⟨#[], #[.agg #[.slice none 0 0, .slice none 0 0], .int .i64 0], []⟩ 8 (by kernel_rfl) (by kernel_rfl) (by kernel_rfl) (by kernel_rfl))
      laidOut (by kernel_rfl) rfl rfl Try.underlying4 (fun ds h => by match ds, h with | [_, _], _ => rfl)
      (fun W base args ds p hval0 hA0 => by
        have hval : ∀ (j : Nat) t v, Try.f7.params[j]? = some t → args[j]? = some v → Value.okWide Try.prog W .any base t v := hval0
        have hA : DataW.TrodAll enc Try.prog W 0 (fun _ => true) true Try.f7.params.toList args.toList ds p := hA0
        rw [Try.params7] at hA hval
        obtain ⟨v0, vs0, d0, ds0, p0, q0, hargs, rfl, rfl, h0, r0⟩ := trodAll_cons hA
        obtain ⟨v1, vs1, d1, ds1, p1, q1, rfl, rfl, rfl, h1, r1⟩ := trodAll_cons r0
        obtain ⟨rfl, rfl, rfl⟩ := trodAll_nil r1
        obtain rfl : args = #[v0, v1] := by cases args; simp_all
        obtain ⟨vs, vw, ls, lw, rfl, k0, k1⟩ := Qu.open_ (hval 0 25 v0 rfl rfl) h0
        obtain ⟨x1, rfl, rfl, rfl, _⟩ := open_int Try.underlying3 (hval 1 3 v1 rfl rfl) h1
        exact WithdrawIrq_walk vs vw ls lw x1 W k0 k1))

end Go.Proofs.Ytghfdoibabaadaa
