/- 'ActiveIrqs' of the program and of the reference agree for all arguments, and the program's results share no memory with its arguments. No condition. -/
import Derived.Test.YthibacnnmlieiaaSlAct
namespace Go.Proofs.Ythibacnnmlieiaa
open Go.RowKit Go.ChangeShapes Go.WideShapes Go.Deep

theorem ActiveIrqs_walk (v0 : Value) (l0 : List Sl) (W : World) (h0 : Rd Sl.cells 3 W 0 W.heap.size v0 l0) : Calls Try.prog 10 #[v0] W fun e W' => e = .returned (.bool true) ∧ Below W.heap.size W W' := by
  have hB := Below.refl W.heap.size W
  by_cases zl0 : l0.length ≤ 1048576
  rotate_left
  · have c := Sl.szS_any v0 l0 W h0 1048576 (by omega) (by omega)
    rw [szL_no (by omega)] at c
    go_enter Try.func10, Try.ntmps10
    go_wp2_with fail
    refine c.mono ?_; rintro e w' ⟨rfl, rfl⟩
    go_wp2_with fail
    go_ret
    exact ⟨rfl, hB⟩
  have cs0 := Sl.szS_any v0 l0 W h0 1048576 (by omega) (by omega)
  rw [szL_yes (by omega)] at cs0
  obtain ⟨q1, hq1, hq1l, hq1u⟩ : ∃ q : Int, q = 1048576 - (l0.length : Int) ∧ 0 ≤ q ∧ q ≤ 1048576 := ⟨_, rfl, by omega, by omega⟩
  rw [← hq1] at cs0
  clear hq1
  go_enter Try.func10, Try.ntmps10
  go_wp2_with fail
  refine cs0.mono ?_; rintro e w' ⟨rfl, rfl⟩
  go_wp2_with fail
  refine (Sl.toS_any v0 _ _ h0 (by omega) zl0).mono ?_; rintro e w1 ⟨u1, rfl, o1, b1⟩
  have s1 := b1.size
  replace h0 := h0.below b1 (by omega)
  replace hB := hB.trans (b1.mono (by omega))
  clear b1
  go_wp2_with fail
  refine (specActiveIrqs_any u1 _ _ o1.rd (by omega)).mono ?_; rintro e w2 ⟨u2_0, rfl, o2_0, b2⟩
  have s2 := b2.size
  replace h0 := h0.below b2 (by omega)
  replace o1 := o1.below b2 (by omega)
  replace hB := hB.trans (b2.mono (by omega))
  clear b2
  go_wp2_with fail
  refine (Sl.toS_any v0 _ _ h0 (by omega) zl0).mono ?_; rintro e w3 ⟨u3, rfl, o3, b3⟩
  have s3 := b3.size
  replace h0 := h0.below b3 (by omega)
  replace o1 := o1.below b3 (by omega)
  replace o2_0 := o2_0.below b3 (by omega)
  replace hB := hB.trans (b3.mono (by omega))
  clear b3
  go_wp2_with fail
  refine (implActiveIrqs_any u3 _ _ o3.rd (by omega)).mono ?_; rintro e w4 ⟨u4_0, rfl, o4_0, n4_0, b4⟩
  have s4 := b4.size
  replace h0 := h0.below b4 (by omega)
  replace o1 := o1.below b4 (by omega)
  replace o2_0 := o2_0.below b4 (by omega)
  replace o3 := o3.below b4 (by omega)
  replace hB := hB.trans (b4.mono (by omega))
  clear b4
  go_wp2_with fail
  refine (Nm.eqS_same u4_0 u2_0 _ _ o4_0.rd o2_0 (by omega) (by omega)).mono ?_; rintro e w5 ⟨rfl, b5⟩
  have s5 := b5.size
  replace h0 := h0.below b5 (by omega)
  replace o1 := o1.below b5 (by omega)
  replace o2_0 := o2_0.below b5 (by omega)
  replace o3 := o3.below b5 (by omega)
  replace o4_0 := o4_0.below b5 (by omega)
  replace hB := hB.trans (b5.mono (by omega))
  clear b5
  go_wp2_with fail
  refine (Sl.toS_any v0 _ _ h0 (by omega) zl0).mono ?_; rintro e w6 ⟨u6, rfl, o6, b6⟩
  have s6 := b6.size
  replace h0 := h0.below b6 (by omega)
  replace o1 := o1.below b6 (by omega)
  replace o2_0 := o2_0.below b6 (by omega)
  replace o3 := o3.below b6 (by omega)
  replace o4_0 := o4_0.below b6 (by omega)
  replace hB := hB.trans (b6.mono (by omega))
  clear b6
  go_wp2_with fail
  refine (Sl.eqS_same u3 u6 _ _ o3.rd o6.rd (by omega) (by omega)).mono ?_; rintro e w7 ⟨rfl, b7⟩
  have s7 := b7.size
  replace h0 := h0.below b7 (by omega)
  replace o1 := o1.below b7 (by omega)
  replace o2_0 := o2_0.below b7 (by omega)
  replace o3 := o3.below b7 (by omega)
  replace o4_0 := o4_0.below b7 (by omega)
  replace o6 := o6.below b7 (by omega)
  replace hB := hB.trans (b7.mono (by omega))
  clear b7
  go_wp2_with fail
  refine (Sl.markS_any u3 _ _ o3 _ (by omega) (by omega) zl0).mono ?_; rintro e w8 ⟨rfl, p8, t8⟩
  have s8 := t8.size
  replace h0 := h0.turned o3 t8 (by omega) (by omega)
  replace o1 := o1.turned o3 t8 (by omega)
  replace o2_0 := o2_0.turned o3 t8 (by omega) (by omega)
  replace o4_0 := o4_0.turned o3 t8 (by omega)
  replace o6 := o6.turned o3 t8 (by omega)
  replace hB := Below.turned hB o3 t8 (by omega) (by omega)
  clear t8 o3
  have o3 := p8; clear p8
  go_wp2_with fail
  refine (Nm.eqS_same u4_0 u2_0 _ _ o4_0.rd o2_0 (by omega) (by omega)).mono ?_; rintro e w9 ⟨rfl, b9⟩
  have s9 := b9.size
  replace h0 := h0.below b9 (by omega)
  replace o1 := o1.below b9 (by omega)
  replace o2_0 := o2_0.below b9 (by omega)
  replace o3 := o3.below b9 (by omega)
  replace o4_0 := o4_0.below b9 (by omega)
  replace o6 := o6.below b9 (by omega)
  replace hB := hB.trans (b9.mono (by omega))
  clear b9
  go_wp2_with fail
  refine (Nm.markS_any u4_0 _ _ o4_0 _ (by omega) (by omega) n4_0).mono ?_; rintro e w10 ⟨rfl, p10, t10⟩
  have s10 := t10.size
  replace h0 := h0.turned o4_0 t10 (by omega) (by omega)
  replace o1 := o1.turned o4_0 t10 (by omega)
  replace o2_0 := o2_0.turned o4_0 t10 (by omega) (by omega)
  replace o3 := o3.turned o4_0 t10 (by omega)
  replace o6 := o6.turned o4_0 t10 (by omega)
  replace hB := Below.turned hB o4_0 t10 (by omega) (by omega)
  clear t10 o4_0
  have o4_0 := p10; clear p10
  go_wp2_with fail
  refine (Nm.heldS_any u4_0 _ o4_0.rd (by omega) (by omega) n4_0).mono ?_; rintro e w' ⟨rfl, rfl⟩
  go_wp2_with fail
  refine (Sl.toS_any v0 _ _ h0 (by omega) zl0).mono ?_; rintro e w11 ⟨u11, rfl, o11, b11⟩
  have s11 := b11.size
  replace h0 := h0.below b11 (by omega)
  replace o1 := o1.below b11 (by omega)
  replace o2_0 := o2_0.below b11 (by omega)
  replace o3 := o3.below b11 (by omega)
  replace o4_0 := o4_0.below b11 (by omega)
  replace o6 := o6.below b11 (by omega)
  replace hB := hB.trans (b11.mono (by omega))
  clear b11
  go_wp2_with fail
  refine (implActiveIrqs_any u11 _ _ o11.rd (by omega)).mono ?_; rintro e w12 ⟨u12_0, rfl, o12_0, n12_0, b12⟩
  have s12 := b12.size
  replace h0 := h0.below b12 (by omega)
  replace o1 := o1.below b12 (by omega)
  replace o2_0 := o2_0.below b12 (by omega)
  replace o3 := o3.below b12 (by omega)
  replace o4_0 := o4_0.below b12 (by omega)
  replace o6 := o6.below b12 (by omega)
  replace o11 := o11.below b12 (by omega)
  replace hB := hB.trans (b12.mono (by omega))
  clear b12
  go_wp2_with fail
  refine (Nm.eqS_same u12_0 u2_0 _ _ o12_0.rd o2_0 (by omega) (by omega)).mono ?_; rintro e w13 ⟨rfl, b13⟩
  have s13 := b13.size
  replace h0 := h0.below b13 (by omega)
  replace o1 := o1.below b13 (by omega)
  replace o2_0 := o2_0.below b13 (by omega)
  replace o3 := o3.below b13 (by omega)
  replace o4_0 := o4_0.below b13 (by omega)
  replace o6 := o6.below b13 (by omega)
  replace o11 := o11.below b13 (by omega)
  replace o12_0 := o12_0.below b13 (by omega)
  replace hB := hB.trans (b13.mono (by omega))
  clear b13
  go_wp2_with fail
  refine (Nm.heldS_any u4_0 _ o4_0.rd (by omega) (by omega) n4_0).mono ?_; rintro e w' ⟨rfl, rfl⟩
  go_wp2_with fail
  go_ret
  exact ⟨rfl, hB⟩

set_option maxRecDepth 100000 in
theorem ActiveIrqs_holds : Rows.FnExactActiveIrqsSaid :=
  OpenClaim.holds_of_wide 10 Try.f10 rfl rfl rfl rfl rfl rfl rfl ⟨rfl, rfl, rfl, rfl, rfl⟩ rfl rfl rfl rfl rfl (by kernel_rfl) Try.func10 (by kernel_rfl)
    (of_decide_eq_true (by kernel_rfl)) (by unfold Func.isWrapper; first | (rw [if_pos (by decide +kernel)]; kernel_rfl) | (rw [if_neg (by decide +kernel)]; exact ⟨rfl, rfl⟩))
    (fun os started H enc _ => law_lifted (C := Try.checked) (s := Rows.fnExactActiveIrqsSpec) own started (by kernel_rfl) Try.func10
      (ChangeSpec.witness6 (enc := enc) (C := Try.checked) false ⟨#[], #[.slice none 0 0], []⟩ 8 (by kernel_rfl) (by kernel_rfl) (by kernel_rfl) (by kernel_rfl))
      laidOut (by kernel_rfl) rfl rfl Try.underlying4 (fun ds h => by match ds, h with | [_], _ => rfl)
      (fun W base args ds p hval0 hA0 => by
        have hval : ∀ (j : Nat) t v, Try.f10.params[j]? = some t → args[j]? = some v → Value.okWide Try.prog W .any base t v := hval0
        have hA : DataW.TrodAll enc Try.prog W 0 (fun _ => true) true Try.f10.params.toList args.toList ds p := hA0
        rw [Try.params10] at hA hval
        obtain ⟨v0, vs0, d0, ds0, p0, q0, hargs, rfl, rfl, h0, r0⟩ := trodAll_cons hA
        obtain ⟨rfl, rfl, rfl⟩ := trodAll_nil r0
        obtain rfl : args = #[v0] := by cases args; simp_all
        obtain ⟨l0, k0⟩ := Sl.openS (hval 0 22 v0 rfl rfl) h0
        exact ActiveIrqs_walk v0 l0 W k0))

end Go.Proofs.Ythibacnnmlieiaa
