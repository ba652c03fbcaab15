/- 'ServeAll' of the program and of the reference agree for all arguments, and the program's results share no memory with its arguments. No condition. -/
import Derived.Test.YtleoicpbnodklaaIqServe
namespace Go.Proofs.Ytleoicpbnodklaa
open Go.RowKit Go.ChangeShapes Go.WideShapes Go.Deep

theorem ServeAll_walk (v0 : Value) (l0 : List Iq) (x1 : Int) (W : World) (h0 : Rd Iq.cells 5 W 0 W.heap.size v0 l0) : Calls Try.prog 9 #[v0, .int .i64 x1] W fun e W' => e = .returned (.bool true) ∧ Below W.heap.size W W' := by
  have hB := Below.refl W.heap.size W
  by_cases zl0 : l0.length ≤ 1048576
  rotate_left
  · have c := Iq.szS_any v0 l0 W h0 1048576 (by omega) (by omega)
    rw [szL_no (by omega)] at c
    go_enter Try.func9, Try.ntmps9
    go_wp2_with fail
    refine c.mono ?_; rintro e w' ⟨rfl, rfl⟩
    go_wp2_with fail
    go_ret
    exact ⟨rfl, hB⟩
  have cs0 := Iq.szS_any v0 l0 W h0 1048576 (by omega) (by omega)
  rw [szL_yes (by omega)] at cs0
  obtain ⟨q1, hq1, hq1l, hq1u⟩ : ∃ q : Int, q = 1048576 - (l0.length : Int) ∧ 0 ≤ q ∧ q ≤ 1048576 := ⟨_, rfl, by omega, by omega⟩
  rw [← hq1] at cs0
  clear hq1
  go_enter Try.func9, Try.ntmps9
  go_wp2_with fail
  refine cs0.mono ?_; rintro e w' ⟨rfl, rfl⟩
  go_wp2_with fail
  refine (Iq.toS_any v0 _ _ h0 (by omega) zl0).mono ?_; rintro e w1 ⟨u1, rfl, o1, b1⟩
  have s1 := b1.size
  replace h0 := h0.below b1 (by omega)
  replace hB := hB.trans (b1.mono (by omega))
  clear b1
  go_wp2_with fail
  refine (specServeAll_any u1 _ x1 _ o1.rd (by omega)).mono ?_; rintro e w2 ⟨u2_0, u2_1, rfl, o2_0, o2_1, b2⟩
  have s2 := b2.size
  replace h0 := h0.below b2 (by omega)
  replace o1 := o1.below b2 (by omega)
  replace hB := hB.trans (b2.mono (by omega))
  clear b2
  go_wp2_with fail
  refine (Iq.toS_any v0 _ _ h0 (by omega) zl0).mono ?_; rintro e w3 ⟨u3, rfl, o3, b3⟩
  have s3 := b3.size
  replace h0 := h0.below b3 (by omega)
  replace o1 := o1.below b3 (by omega)
  replace o2_0 := o2_0.below b3 (by omega)
  replace o2_1 := o2_1.below b3 (by omega)
  replace hB := hB.trans (b3.mono (by omega))
  clear b3
  go_wp2_with fail
  refine (implServeAll_any u3 _ x1 _ o3.rd (by omega)).mono ?_; rintro e w4 ⟨u4_0, u4_1, rfl, o4_0, o4_1, n4_0, n4_1, b4⟩
  have s4 := b4.size
  replace h0 := h0.below b4 (by omega)
  replace o1 := o1.below b4 (by omega)
  replace o2_0 := o2_0.below b4 (by omega)
  replace o2_1 := o2_1.below b4 (by omega)
  replace o3 := o3.below b4 (by omega)
  replace hB := hB.trans (b4.mono (by omega))
  clear b4
  go_wp2_with fail
  refine (Nm.eqS_same u4_0 u2_0 _ _ o4_0.rd o2_0 (by omega) (by omega)).mono ?_; rintro e w5 ⟨rfl, b5⟩
  have s5 := b5.size
  replace h0 := h0.below b5 (by omega)
  replace o1 := o1.below b5 (by omega)
  replace o2_0 := o2_0.below b5 (by omega)
  replace o2_1 := o2_1.below b5 (by omega)
  replace o3 := o3.below b5 (by omega)
  replace o4_0 := o4_0.below b5 (by omega)
  replace o4_1 := o4_1.below b5 (by omega)
  replace hB := hB.trans (b5.mono (by omega))
  clear b5
  go_wp2_with fail
  refine (Iq.eqS_same u4_1 u2_1 _ _ o4_1.rd o2_1 (by omega) (by omega)).mono ?_; rintro e w6 ⟨rfl, b6⟩
  have s6 := b6.size
  replace h0 := h0.below b6 (by omega)
  replace o1 := o1.below b6 (by omega)
  replace o2_0 := o2_0.below b6 (by omega)
  replace o2_1 := o2_1.below b6 (by omega)
  replace o3 := o3.below b6 (by omega)
  replace o4_0 := o4_0.below b6 (by omega)
  replace o4_1 := o4_1.below b6 (by omega)
  replace hB := hB.trans (b6.mono (by omega))
  clear b6
  go_wp2_with fail
  refine (Iq.toS_any v0 _ _ h0 (by omega) zl0).mono ?_; rintro e w7 ⟨u7, rfl, o7, b7⟩
  have s7 := b7.size
  replace h0 := h0.below b7 (by omega)
  replace o1 := o1.below b7 (by omega)
  replace o2_0 := o2_0.below b7 (by omega)
  replace o2_1 := o2_1.below b7 (by omega)
  replace o3 := o3.below b7 (by omega)
  replace o4_0 := o4_0.below b7 (by omega)
  replace o4_1 := o4_1.below b7 (by omega)
  replace hB := hB.trans (b7.mono (by omega))
  clear b7
  go_wp2_with fail
  refine (Iq.eqS_same u3 u7 _ _ o3.rd o7.rd (by omega) (by omega)).mono ?_; rintro e w8 ⟨rfl, b8⟩
  have s8 := b8.size
  replace h0 := h0.below b8 (by omega)
  replace o1 := o1.below b8 (by omega)
  replace o2_0 := o2_0.below b8 (by omega)
  replace o2_1 := o2_1.below b8 (by omega)
  replace o3 := o3.below b8 (by omega)
  replace o4_0 := o4_0.below b8 (by omega)
  replace o4_1 := o4_1.below b8 (by omega)
  replace o7 := o7.below b8 (by omega)
  replace hB := hB.trans (b8.mono (by omega))
  clear b8
  go_wp2_with fail
  refine (Iq.markS_any u3 _ _ o3 _ (by omega) (by omega) zl0).mono ?_; rintro e w9 ⟨rfl, p9, t9⟩
  have s9 := t9.size
  replace h0 := h0.turned o3 t9 (by omega) (by omega)
  replace o1 := o1.turned o3 t9 (by omega)
  replace o2_0 := o2_0.turned o3 t9 (by omega) (by omega)
  replace o2_1 := o2_1.turned o3 t9 (by omega) (by omega)
  replace o4_0 := o4_0.turned o3 t9 (by omega)
  replace o4_1 := o4_1.turned o3 t9 (by omega)
  replace o7 := o7.turned o3 t9 (by omega)
  replace hB := Below.turned hB o3 t9 (by omega) (by omega)
  clear t9 o3
  have o3 := p9; clear p9
  go_wp2_with fail
  refine (Nm.eqS_same u4_0 u2_0 _ _ o4_0.rd o2_0 (by omega) (by omega)).mono ?_; rintro e w10 ⟨rfl, b10⟩
  have s10 := b10.size
  replace h0 := h0.below b10 (by omega)
  replace o1 := o1.below b10 (by omega)
  replace o2_0 := o2_0.below b10 (by omega)
  replace o2_1 := o2_1.below b10 (by omega)
  replace o3 := o3.below b10 (by omega)
  replace o4_0 := o4_0.below b10 (by omega)
  replace o4_1 := o4_1.below b10 (by omega)
  replace o7 := o7.below b10 (by omega)
  replace hB := hB.trans (b10.mono (by omega))
  clear b10
  go_wp2_with fail
  refine (Iq.eqS_same u4_1 u2_1 _ _ o4_1.rd o2_1 (by omega) (by omega)).mono ?_; rintro e w11 ⟨rfl, b11⟩
  have s11 := b11.size
  replace h0 := h0.below b11 (by omega)
  replace o1 := o1.below b11 (by omega)
  replace o2_0 := o2_0.below b11 (by omega)
  replace o2_1 := o2_1.below b11 (by omega)
  replace o3 := o3.below b11 (by omega)
  replace o4_0 := o4_0.below b11 (by omega)
  replace o4_1 := o4_1.below b11 (by omega)
  replace o7 := o7.below b11 (by omega)
  replace hB := hB.trans (b11.mono (by omega))
  clear b11
  go_wp2_with fail
  refine (Nm.markS_any u4_0 _ _ o4_0 _ (by omega) (by omega) n4_0).mono ?_; rintro e w12 ⟨rfl, p12, t12⟩
  have s12 := t12.size
  replace h0 := h0.turned o4_0 t12 (by omega) (by omega)
  replace o1 := o1.turned o4_0 t12 (by omega)
  replace o2_0 := o2_0.turned o4_0 t12 (by omega) (by omega)
  replace o2_1 := o2_1.turned o4_0 t12 (by omega) (by omega)
  replace o3 := o3.turned o4_0 t12 (by omega)
  replace o4_1 := o4_1.turned_type o4_0 t12 (by decide)
  replace o7 := o7.turned o4_0 t12 (by omega)
  replace hB := Below.turned hB o4_0 t12 (by omega) (by omega)
  clear t12 o4_0
  have o4_0 := p12; clear p12
  go_wp2_with fail
  refine (Iq.markS_any u4_1 _ _ o4_1 _ (by omega) (by omega) n4_1).mono ?_; rintro e w13 ⟨rfl, p13, t13⟩
  have s13 := t13.size
  replace h0 := h0.turned o4_1 t13 (by omega) (by omega)
  replace o1 := o1.turned o4_1 t13 (by omega)
  replace o2_0 := o2_0.turned o4_1 t13 (by omega) (by omega)
  replace o2_1 := o2_1.turned o4_1 t13 (by omega) (by omega)
  replace o3 := o3.turned o4_1 t13 (by omega)
  replace o4_0 := o4_0.turned_type o4_1 t13 (by decide)
  replace o7 := o7.turned o4_1 t13 (by omega)
  replace hB := Below.turned hB o4_1 t13 (by omega) (by omega)
  clear t13 o4_1
  have o4_1 := p13; clear p13
  go_wp2_with fail
  refine (Nm.heldS_any u4_0 _ o4_0.rd (by omega) (by omega) n4_0).mono ?_; rintro e w' ⟨rfl, rfl⟩
  go_wp2_with fail
  refine (Iq.heldS_any u4_1 _ o4_1.rd (by omega) (by omega) n4_1).mono ?_; rintro e w' ⟨rfl, rfl⟩
  go_wp2_with fail
  refine (Iq.toS_any v0 _ _ h0 (by omega) zl0).mono ?_; rintro e w14 ⟨u14, rfl, o14, b14⟩
  have s14 := b14.size
  replace h0 := h0.below b14 (by omega)
  replace o1 := o1.below b14 (by omega)
  replace o2_0 := o2_0.below b14 (by omega)
  replace o2_1 := o2_1.below b14 (by omega)
  replace o3 := o3.below b14 (by omega)
  replace o4_0 := o4_0.below b14 (by omega)
  replace o4_1 := o4_1.below b14 (by omega)
  replace o7 := o7.below b14 (by omega)
  replace hB := hB.trans (b14.mono (by omega))
  clear b14
  go_wp2_with fail
  refine (implServeAll_any u14 _ x1 _ o14.rd (by omega)).mono ?_; rintro e w15 ⟨u15_0, u15_1, rfl, o15_0, o15_1, n15_0, n15_1, b15⟩
  have s15 := b15.size
  replace h0 := h0.below b15 (by omega)
  replace o1 := o1.below b15 (by omega)
  replace o2_0 := o2_0.below b15 (by omega)
  replace o2_1 := o2_1.below b15 (by omega)
  replace o3 := o3.below b15 (by omega)
  replace o4_0 := o4_0.below b15 (by omega)
  replace o4_1 := o4_1.below b15 (by omega)
  replace o7 := o7.below b15 (by omega)
  replace o14 := o14.below b15 (by omega)
  replace hB := hB.trans (b15.mono (by omega))
  clear b15
  go_wp2_with fail
  refine (Nm.eqS_same u15_0 u2_0 _ _ o15_0.rd o2_0 (by omega) (by omega)).mono ?_; rintro e w16 ⟨rfl, b16⟩
  have s16 := b16.size
  replace h0 := h0.below b16 (by omega)
  replace o1 := o1.below b16 (by omega)
  replace o2_0 := o2_0.below b16 (by omega)
  replace o2_1 := o2_1.below b16 (by omega)
  replace o3 := o3.below b16 (by omega)
  replace o4_0 := o4_0.below b16 (by omega)
  replace o4_1 := o4_1.below b16 (by omega)
  replace o7 := o7.below b16 (by omega)
  replace o14 := o14.below b16 (by omega)
  replace o15_0 := o15_0.below b16 (by omega)
  replace o15_1 := o15_1.below b16 (by omega)
  replace hB := hB.trans (b16.mono (by omega))
  clear b16
  go_wp2_with fail
  refine (Iq.eqS_same u15_1 u2_1 _ _ o15_1.rd o2_1 (by omega) (by omega)).mono ?_; rintro e w17 ⟨rfl, b17⟩
  have s17 := b17.size
  replace h0 := h0.below b17 (by omega)
  replace o1 := o1.below b17 (by omega)
  replace o2_0 := o2_0.below b17 (by omega)
  replace o2_1 := o2_1.below b17 (by omega)
  replace o3 := o3.below b17 (by omega)
  replace o4_0 := o4_0.below b17 (by omega)
  replace o4_1 := o4_1.below b17 (by omega)
  replace o7 := o7.below b17 (by omega)
  replace o14 := o14.below b17 (by omega)
  replace o15_0 := o15_0.below b17 (by omega)
  replace o15_1 := o15_1.below b17 (by omega)
  replace hB := hB.trans (b17.mono (by omega))
  clear b17
  go_wp2_with fail
  refine (Nm.heldS_any u4_0 _ o4_0.rd (by omega) (by omega) n4_0).mono ?_; rintro e w' ⟨rfl, rfl⟩
  go_wp2_with fail
  refine (Iq.heldS_any u4_1 _ o4_1.rd (by omega) (by omega) n4_1).mono ?_; rintro e w' ⟨rfl, rfl⟩
  go_wp2_with fail
  go_ret
  exact ⟨rfl, hB⟩

set_option maxRecDepth 100000 in
theorem ServeAll_holds : Rows.FnExactServeAllSaid :=
  OpenClaim.holds_of_wide 9 Try.f9 rfl rfl rfl rfl rfl rfl rfl ⟨rfl, rfl, rfl, rfl, rfl⟩ rfl rfl rfl rfl rfl (by kernel_rfl) Try.func9 (by kernel_rfl)
    (of_decide_eq_true (by kernel_rfl)) (by unfold Func.isWrapper; first | (rw [if_pos (by decide +kernel)]; kernel_rfl) | (rw [if_neg (by decide +kernel)]; exact ⟨rfl, rfl⟩))
    (fun os started H enc _ => law_lifted (C := Try.checked) (s := Rows.fnExactServeAllSpec) own started (by kernel_rfl) Try.func9
      (ChangeSpec.witness6 (enc := enc) (C := Try.checked) false ⟨#[], #[.slice none 0 0, .int .i64 0], []⟩ 8 (by kernel_rfl) (by kernel_rfl) (by kernel_rfl) (by kernel_rfl))
      laidOut (by kernel_rfl) rfl rfl Try.underlying4 (fun ds h => by match ds, h with | [_, _], _ => rfl)
      (fun W base args ds p hval0 hA0 => by
        have hval : ∀ (j : Nat) t v, Try.f9.params[j]? = some t → args[j]? = some v → Value.okWide Try.prog W .any base t v := hval0
        have hA : DataW.TrodAll enc Try.prog W 0 (fun _ => true) true Try.f9.params.toList args.toList ds p := hA0
        rw [Try.params9] at hA hval
        obtain ⟨v0, vs0, d0, ds0, p0, q0, hargs, rfl, rfl, h0, r0⟩ := trodAll_cons hA
        obtain ⟨v1, vs1, d1, ds1, p1, q1, rfl, rfl, rfl, h1, r1⟩ := trodAll_cons r0
        obtain ⟨rfl, rfl, rfl⟩ := trodAll_nil r1
        obtain rfl : args = #[v0, v1] := by cases args; simp_all
        obtain ⟨l0, k0⟩ := Iq.openS (hval 0 22 v0 rfl rfl) h0
        obtain ⟨x1, rfl, rfl, rfl, _⟩ := open_int Try.underlying3 (hval 1 3 v1 rfl rfl) h1
        exact ServeAll_walk v0 l0 x1 W k0))

end Go.Proofs.Ytleoicpbnodklaa
