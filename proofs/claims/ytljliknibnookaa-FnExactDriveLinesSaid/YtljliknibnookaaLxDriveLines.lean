/- 'DriveLines' of the program and of the reference agree for all arguments, and the program's results share no memory with its arguments. No condition. -/
import Derived.Test.YtljliknibnookaaLnDrive
namespace Go.Proofs.Ytljliknibnookaa
open Go.RowKit Go.ChangeShapes Go.WideShapes Go.Deep

theorem DriveLines_walk (v0 : Value) (l0 : List Ln) (v1 : Value) (l1 : List Bool) (W : World) (h0 : Rd Ln.cells 4 W 0 W.heap.size v0 l0) (h1 : Rd Bo.cells 1 W 0 W.heap.size v1 l1) : Calls Try.prog 12 #[v0, v1] W fun e W' => e = .returned (.bool true) ∧ Below W.heap.size W W' := by
  have hB := Below.refl W.heap.size W
  by_cases zl1 : l1.length ≤ 1048576
  rotate_left
  · obtain ⟨A, n, c, rfl, H, hc, hm⟩ := h1.form
    rw [← H.out] at zl1
    have zn : (1048576 : Int) < n := by omega
    go_enter Try.func12, Try.ntmps12
    go_wp2_with fail
    go_ret
    exact ⟨rfl, hB⟩
  obtain ⟨A1_, n1_, c1_, rfl, H1_, hc1_, hm1_⟩ := h1.form
  have zn1_ : (n1_ : Int) ≤ 1048576 := by rw [H1_.out]; omega
  by_cases zl0 : l0.length ≤ 1048576
  rotate_left
  · have c := Ln.szS_any v0 l0 W h0 1048576 (by omega) (by omega)
    rw [szL_no (by omega)] at c
    go_enter Try.func12, Try.ntmps12
    go_wp2_with fail
    refine c.mono ?_; rintro e w' ⟨rfl, rfl⟩
    go_wp2_with fail
    go_ret
    exact ⟨rfl, hB⟩
  have cs0 := Ln.szS_any v0 l0 W h0 1048576 (by omega) (by omega)
  rw [szL_yes (by omega)] at cs0
  obtain ⟨q1, hq1, hq1l, hq1u⟩ : ∃ q : Int, q = 1048576 - (l0.length : Int) ∧ 0 ≤ q ∧ q ≤ 1048576 := ⟨_, rfl, by omega, by omega⟩
  rw [← hq1] at cs0
  clear hq1
  go_enter Try.func12, Try.ntmps12
  go_wp2_with fail
  refine cs0.mono ?_; rintro e w' ⟨rfl, rfl⟩
  go_wp2_with fail
  refine (Ln.toS_any v0 _ _ h0 (by omega) zl0).mono ?_; rintro e w1 ⟨u1, rfl, o1, b1⟩
  have s1 := b1.size
  replace h0 := h0.below b1 (by omega)
  replace h1 := h1.below b1 (by omega)
  replace hB := hB.trans (b1.mono (by omega))
  clear b1
  go_wp2_with fail
  refine (Bo.toS_any _ _ _ h1 (by omega) zl1).mono ?_; rintro e w2 ⟨u2, rfl, o2, b2⟩
  have s2 := b2.size
  replace h0 := h0.below b2 (by omega)
  replace h1 := h1.below b2 (by omega)
  replace o1 := o1.below b2 (by omega)
  replace hB := hB.trans (b2.mono (by omega))
  clear b2
  go_wp2_with fail
  refine (specDriveLines_any u1 _ u2 _ _ o1.rd (by omega) o2.rd (by omega)).mono ?_; rintro e w3 ⟨u3_0, rfl, o3_0, b3⟩
  have s3 := b3.size
  replace h0 := h0.below b3 (by omega)
  replace h1 := h1.below b3 (by omega)
  replace o1 := o1.below b3 (by omega)
  replace o2 := o2.below b3 (by omega)
  replace hB := hB.trans (b3.mono (by omega))
  clear b3
  go_wp2_with fail
  refine (Ln.toS_any v0 _ _ h0 (by omega) zl0).mono ?_; rintro e w4 ⟨u4, rfl, o4, b4⟩
  have s4 := b4.size
  replace h0 := h0.below b4 (by omega)
  replace h1 := h1.below b4 (by omega)
  replace o1 := o1.below b4 (by omega)
  replace o2 := o2.below b4 (by omega)
  replace o3_0 := o3_0.below b4 (by omega)
  replace hB := hB.trans (b4.mono (by omega))
  clear b4
  go_wp2_with fail
  refine (Bo.toS_any _ _ _ h1 (by omega) zl1).mono ?_; rintro e w5 ⟨u5, rfl, o5, b5⟩
  have s5 := b5.size
  replace h0 := h0.below b5 (by omega)
  replace h1 := h1.below b5 (by omega)
  replace o1 := o1.below b5 (by omega)
  replace o2 := o2.below b5 (by omega)
  replace o3_0 := o3_0.below b5 (by omega)
  replace o4 := o4.below b5 (by omega)
  replace hB := hB.trans (b5.mono (by omega))
  clear b5
  go_wp2_with fail
  refine (implDriveLines_any u4 _ u5 _ _ o4.rd (by omega) o5.rd (by omega)).mono ?_; rintro e w6 ⟨u6_0, rfl, o6_0, n6_0, b6⟩
  have s6 := b6.size
  replace h0 := h0.below b6 (by omega)
  replace h1 := h1.below b6 (by omega)
  replace o1 := o1.below b6 (by omega)
  replace o2 := o2.below b6 (by omega)
  replace o3_0 := o3_0.below b6 (by omega)
  replace o4 := o4.below b6 (by omega)
  replace o5 := o5.below b6 (by omega)
  replace hB := hB.trans (b6.mono (by omega))
  clear b6
  go_wp2_with fail
  refine (Ln.eqS_same u6_0 u3_0 _ _ o6_0.rd o3_0 (by omega) (by omega)).mono ?_; rintro e w7 ⟨rfl, b7⟩
  have s7 := b7.size
  replace h0 := h0.below b7 (by omega)
  replace h1 := h1.below b7 (by omega)
  replace o1 := o1.below b7 (by omega)
  replace o2 := o2.below b7 (by omega)
  replace o3_0 := o3_0.below b7 (by omega)
  replace o4 := o4.below b7 (by omega)
  replace o5 := o5.below b7 (by omega)
  replace o6_0 := o6_0.below b7 (by omega)
  replace hB := hB.trans (b7.mono (by omega))
  clear b7
  go_wp2_with fail
  refine (Ln.toS_any v0 _ _ h0 (by omega) zl0).mono ?_; rintro e w8 ⟨u8, rfl, o8, b8⟩
  have s8 := b8.size
  replace h0 := h0.below b8 (by omega)
  replace h1 := h1.below b8 (by omega)
  replace o1 := o1.below b8 (by omega)
  replace o2 := o2.below b8 (by omega)
  replace o3_0 := o3_0.below b8 (by omega)
  replace o4 := o4.below b8 (by omega)
  replace o5 := o5.below b8 (by omega)
  replace o6_0 := o6_0.below b8 (by omega)
  replace hB := hB.trans (b8.mono (by omega))
  clear b8
  go_wp2_with fail
  refine (Ln.eqS_same u4 u8 _ _ o4.rd o8.rd (by omega) (by omega)).mono ?_; rintro e w9 ⟨rfl, b9⟩
  have s9 := b9.size
  replace h0 := h0.below b9 (by omega)
  replace h1 := h1.below b9 (by omega)
  replace o1 := o1.below b9 (by omega)
  replace o2 := o2.below b9 (by omega)
  replace o3_0 := o3_0.below b9 (by omega)
  replace o4 := o4.below b9 (by omega)
  replace o5 := o5.below b9 (by omega)
  replace o6_0 := o6_0.below b9 (by omega)
  replace o8 := o8.below b9 (by omega)
  replace hB := hB.trans (b9.mono (by omega))
  clear b9
  go_wp2_with fail
  refine (Bo.toS_any _ _ _ h1 (by omega) zl1).mono ?_; rintro e w10 ⟨u10, rfl, o10, b10⟩
  have s10 := b10.size
  replace h0 := h0.below b10 (by omega)
  replace h1 := h1.below b10 (by omega)
  replace o1 := o1.below b10 (by omega)
  replace o2 := o2.below b10 (by omega)
  replace o3_0 := o3_0.below b10 (by omega)
  replace o4 := o4.below b10 (by omega)
  replace o5 := o5.below b10 (by omega)
  replace o6_0 := o6_0.below b10 (by omega)
  replace o8 := o8.below b10 (by omega)
  replace hB := hB.trans (b10.mono (by omega))
  clear b10
  go_wp2_with fail
  refine (Bo.eqS_same u5 u10 _ _ o5.rd o10.rd (by omega) (by omega)).mono ?_; rintro e w11 ⟨rfl, b11⟩
  have s11 := b11.size
  replace h0 := h0.below b11 (by omega)
  replace h1 := h1.below b11 (by omega)
  replace o1 := o1.below b11 (by omega)
  replace o2 := o2.below b11 (by omega)
  replace o3_0 := o3_0.below b11 (by omega)
  replace o4 := o4.below b11 (by omega)
  replace o5 := o5.below b11 (by omega)
  replace o6_0 := o6_0.below b11 (by omega)
  replace o8 := o8.below b11 (by omega)
  replace o10 := o10.below b11 (by omega)
  replace hB := hB.trans (b11.mono (by omega))
  clear b11
  go_wp2_with fail
  refine (Ln.markS_any u4 _ _ o4 _ (by omega) (by omega) zl0).mono ?_; rintro e w12 ⟨rfl, p12, t12⟩
  have s12 := t12.size
  replace h0 := h0.turned o4 t12 (by omega) (by omega)
  replace h1 := h1.turned o4 t12 (by omega) (by omega)
  replace o1 := o1.turned o4 t12 (by omega)
  replace o2 := o2.turned o4 t12 (by omega)
  replace o3_0 := o3_0.turned o4 t12 (by omega) (by omega)
  replace o5 := o5.turned o4 t12 (by omega)
  replace o6_0 := o6_0.turned o4 t12 (by omega)
  replace o8 := o8.turned o4 t12 (by omega)
  replace o10 := o10.turned o4 t12 (by omega)
  replace hB := Below.turned hB o4 t12 (by omega) (by omega)
  clear t12 o4
  have o4 := p12; clear p12
  go_wp2_with fail
  refine (Bo.markS_any u5 _ _ o5 _ (by omega) (by omega) zl1).mono ?_; rintro e w13 ⟨rfl, p13, t13⟩
  have s13 := t13.size
  replace h0 := h0.turned o5 t13 (by omega) (by omega)
  replace h1 := h1.turned o5 t13 (by omega) (by omega)
  replace o1 := o1.turned o5 t13 (by omega)
  replace o2 := o2.turned o5 t13 (by omega)
  replace o3_0 := o3_0.turned o5 t13 (by omega) (by omega)
  replace o4 := o4.turned o5 t13 (by omega)
  replace o6_0 := o6_0.turned o5 t13 (by omega)
  replace o8 := o8.turned o5 t13 (by omega)
  replace o10 := o10.turned o5 t13 (by omega)
  replace hB := Below.turned hB o5 t13 (by omega) (by omega)
  clear t13 o5
  have o5 := p13; clear p13
  go_wp2_with fail
  refine (Ln.eqS_same u6_0 u3_0 _ _ o6_0.rd o3_0 (by omega) (by omega)).mono ?_; rintro e w14 ⟨rfl, b14⟩
  have s14 := b14.size
  replace h0 := h0.below b14 (by omega)
  replace h1 := h1.below b14 (by omega)
  replace o1 := o1.below b14 (by omega)
  replace o2 := o2.below b14 (by omega)
  replace o3_0 := o3_0.below b14 (by omega)
  replace o4 := o4.below b14 (by omega)
  replace o5 := o5.below b14 (by omega)
  replace o6_0 := o6_0.below b14 (by omega)
  replace o8 := o8.below b14 (by omega)
  replace o10 := o10.below b14 (by omega)
  replace hB := hB.trans (b14.mono (by omega))
  clear b14
  go_wp2_with fail
  refine (Ln.markS_any u6_0 _ _ o6_0 _ (by omega) (by omega) n6_0).mono ?_; rintro e w15 ⟨rfl, p15, t15⟩
  have s15 := t15.size
  replace h0 := h0.turned o6_0 t15 (by omega) (by omega)
  replace h1 := h1.turned o6_0 t15 (by omega) (by omega)
  replace o1 := o1.turned o6_0 t15 (by omega)
  replace o2 := o2.turned o6_0 t15 (by omega)
  replace o3_0 := o3_0.turned o6_0 t15 (by omega) (by omega)
  replace o4 := o4.turned o6_0 t15 (by omega)
  replace o5 := o5.turned o6_0 t15 (by omega)
  replace o8 := o8.turned o6_0 t15 (by omega)
  replace o10 := o10.turned o6_0 t15 (by omega)
  replace hB := Below.turned hB o6_0 t15 (by omega) (by omega)
  clear t15 o6_0
  have o6_0 := p15; clear p15
  go_wp2_with fail
  refine (Ln.heldS_any u6_0 _ o6_0.rd (by omega) (by omega) n6_0).mono ?_; rintro e w' ⟨rfl, rfl⟩
  go_wp2_with fail
  refine (Ln.toS_any v0 _ _ h0 (by omega) zl0).mono ?_; rintro e w16 ⟨u16, rfl, o16, b16⟩
  have s16 := b16.size
  replace h0 := h0.below b16 (by omega)
  replace h1 := h1.below b16 (by omega)
  replace o1 := o1.below b16 (by omega)
  replace o2 := o2.below b16 (by omega)
  replace o3_0 := o3_0.below b16 (by omega)
  replace o4 := o4.below b16 (by omega)
  replace o5 := o5.below b16 (by omega)
  replace o6_0 := o6_0.below b16 (by omega)
  replace o8 := o8.below b16 (by omega)
  replace o10 := o10.below b16 (by omega)
  replace hB := hB.trans (b16.mono (by omega))
  clear b16
  go_wp2_with fail
  refine (Bo.toS_any _ _ _ h1 (by omega) zl1).mono ?_; rintro e w17 ⟨u17, rfl, o17, b17⟩
  have s17 := b17.size
  replace h0 := h0.below b17 (by omega)
  replace h1 := h1.below b17 (by omega)
  replace o1 := o1.below b17 (by omega)
  replace o2 := o2.below b17 (by omega)
  replace o3_0 := o3_0.below b17 (by omega)
  replace o4 := o4.below b17 (by omega)
  replace o5 := o5.below b17 (by omega)
  replace o6_0 := o6_0.below b17 (by omega)
  replace o8 := o8.below b17 (by omega)
  replace o10 := o10.below b17 (by omega)
  replace o16 := o16.below b17 (by omega)
  replace hB := hB.trans (b17.mono (by omega))
  clear b17
  go_wp2_with fail
  refine (implDriveLines_any u16 _ u17 _ _ o16.rd (by omega) o17.rd (by omega)).mono ?_; rintro e w18 ⟨u18_0, rfl, o18_0, n18_0, b18⟩
  have s18 := b18.size
  replace h0 := h0.below b18 (by omega)
  replace h1 := h1.below b18 (by omega)
  replace o1 := o1.below b18 (by omega)
  replace o2 := o2.below b18 (by omega)
  replace o3_0 := o3_0.below b18 (by omega)
  replace o4 := o4.below b18 (by omega)
  replace o5 := o5.below b18 (by omega)
  replace o6_0 := o6_0.below b18 (by omega)
  replace o8 := o8.below b18 (by omega)
  replace o10 := o10.below b18 (by omega)
  replace o16 := o16.below b18 (by omega)
  replace o17 := o17.below b18 (by omega)
  replace hB := hB.trans (b18.mono (by omega))
  clear b18
  go_wp2_with fail
  refine (Ln.eqS_same u18_0 u3_0 _ _ o18_0.rd o3_0 (by omega) (by omega)).mono ?_; rintro e w19 ⟨rfl, b19⟩
  have s19 := b19.size
  replace h0 := h0.below b19 (by omega)
  replace h1 := h1.below b19 (by omega)
  replace o1 := o1.below b19 (by omega)
  replace o2 := o2.below b19 (by omega)
  replace o3_0 := o3_0.below b19 (by omega)
  replace o4 := o4.below b19 (by omega)
  replace o5 := o5.below b19 (by omega)
  replace o6_0 := o6_0.below b19 (by omega)
  replace o8 := o8.below b19 (by omega)
  replace o10 := o10.below b19 (by omega)
  replace o16 := o16.below b19 (by omega)
  replace o17 := o17.below b19 (by omega)
  replace o18_0 := o18_0.below b19 (by omega)
  replace hB := hB.trans (b19.mono (by omega))
  clear b19
  go_wp2_with fail
  refine (Ln.heldS_any u6_0 _ o6_0.rd (by omega) (by omega) n6_0).mono ?_; rintro e w' ⟨rfl, rfl⟩
  go_wp2_with fail
  go_ret
  exact ⟨rfl, hB⟩

set_option maxRecDepth 100000 in
theorem DriveLines_holds : Rows.FnExactDriveLinesSaid :=
  OpenClaim.holds_of_wide 12 Try.f12 rfl rfl rfl rfl rfl rfl rfl ⟨rfl, rfl, rfl, rfl, rfl⟩ rfl rfl rfl rfl rfl (by kernel_rfl) Try.func12 (by kernel_rfl)
    (of_decide_eq_true (by kernel_rfl)) (by unfold Func.isWrapper; first | (rw [if_pos (by decide +kernel)]; kernel_rfl) | (rw [if_neg (by decide +kernel)]; exact ⟨rfl, rfl⟩))
    (fun os started H enc _ => law_lifted (C := Try.checked) (s := Rows.fnExactDriveLinesSpec) own started (by kernel_rfl) Try.func12
      (ChangeSpec.witness6 (enc := enc) (C := Try.checked) false ⟨#[], #[.slice none 0 0, .slice none 0 0], []⟩ 8 (by kernel_rfl) (by kernel_rfl) (by kernel_rfl) (by kernel_rfl))
      laidOut (by kernel_rfl) rfl rfl Try.underlying4 (fun ds h => by match ds, h with | [_, _], _ => rfl)
      (fun W base args ds p hval0 hA0 => by
        have hval : ∀ (j : Nat) t v, Try.f12.params[j]? = some t → args[j]? = some v → Value.okWide Try.prog W .any base t v := hval0
        have hA : DataW.TrodAll enc Try.prog W 0 (fun _ => true) true Try.f12.params.toList args.toList ds p := hA0
        rw [Try.params12] at hA hval
        obtain ⟨v0, vs0, d0, ds0, p0, q0, hargs, rfl, rfl, h0, r0⟩ := trodAll_cons hA
        obtain ⟨v1, vs1, d1, ds1, p1, q1, rfl, rfl, rfl, h1, r1⟩ := trodAll_cons r0
        obtain ⟨rfl, rfl, rfl⟩ := trodAll_nil r1
        obtain rfl : args = #[v0, v1] := by cases args; simp_all
        obtain ⟨l0, k0⟩ := Ln.openS (hval 0 34 v0 rfl rfl) h0
        obtain ⟨l1, k1⟩ := Bo.openS (hval 1 52 v1 rfl rfl) h1
        exact DriveLines_walk v0 l0 v1 l1 W k0 k1))

end Go.Proofs.Ytljliknibnookaa
