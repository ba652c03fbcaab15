/- 'EmptySlots' of the program and of the reference agree for all arguments, and the program's results share no memory with its arguments. No condition. -/
import Derived.Test.YthibacnnmlieiaaSlPub
namespace Go.Proofs.Ythibacnnmlieiaa
open Go.RowKit Go.ChangeShapes Go.WideShapes Go.Deep

theorem EmptySlots_walk (v0 : Value) (l0 : List Sl) (W : World) (h0 : Rd Sl.cells 3 W 0 W.heap.size v0 l0) : Calls Try.prog 5 #[v0] W fun e W' => e = .returned (.bool true) ∧ Below W.heap.size W W' := by
  have hB := Below.refl W.heap.size W
  by_cases zl0 : l0.length ≤ 1048576
  rotate_left
  · have c := Sl.szS_any v0 l0 W h0 1048576 (by omega) (by omega)
    rw [szL_no (by omega)] at c
    go_enter Try.func5, Try.ntmps5
    go_wp2_with fail
    refine c.mono ?_; rintro e w' ⟨rfl, rfl⟩
    go_wp2_with fail
    go_ret
    exact ⟨rfl, hB⟩
  have cs0 := Sl.szS_any v0 l0 W h0 1048576 (by omega) (by omega)
  rw [szL_yes (by omega)] at cs0
  obtain ⟨q1, hq1, hq1l, hq1u⟩ : ∃ q : Int, q = 1048576 - (l0.length : Int) ∧ 0 ≤ q ∧ q ≤ 1048576 := ⟨_, rfl, by omega, by omega⟩
  rw [← hq1] at cs0
  clear hq1
  go_enter Try.func5, Try.ntmps5
  go_wp2_with fail
  refine cs0.mono ?_; rintro e w' ⟨rfl, rfl⟩
  go_wp2_with fail
  refine (Sl.toS_any v0 _ _ h0 (by omega) zl0).mono ?_; rintro e w1 ⟨u1, rfl, o1, b1⟩
  have s1 := b1.size
  replace h0 := h0.below b1 (by omega)
  replace hB := hB.trans (b1.mono (by omega))
  clear b1
  go_wp2_with fail
  refine (specEmptySlots_any u1 _ _ o1.rd (by omega)).mono ?_; rintro e w2 ⟨rfl, b2⟩
  have s2 := b2.size
  replace h0 := h0.below b2 (by omega)
  replace o1 := o1.below b2 (by omega)
  replace hB := hB.trans (b2.mono (by omega))
  clear b2
  go_wp2_with fail
  refine (Sl.toS_any v0 _ _ h0 (by omega) zl0).mono ?_; rintro e w3 ⟨u3, rfl, o3, b3⟩
  have s3 := b3.size
  replace h0 := h0.below b3 (by omega)
  replace o1 := o1.below b3 (by omega)
  replace hB := hB.trans (b3.mono (by omega))
  clear b3
  go_wp2_with fail
  refine (implEmptySlots_any u3 _ _ o3.rd (by omega)).mono ?_; rintro e w4 ⟨rfl, b4⟩
  have s4 := b4.size
  replace h0 := h0.below b4 (by omega)
  replace o1 := o1.below b4 (by omega)
  replace o3 := o3.below b4 (by omega)
  replace hB := hB.trans (b4.mono (by omega))
  clear b4
  go_wp2_with fail
  refine (Sl.toS_any v0 _ _ h0 (by omega) zl0).mono ?_; rintro e w5 ⟨u5, rfl, o5, b5⟩
  have s5 := b5.size
  replace h0 := h0.below b5 (by omega)
  replace o1 := o1.below b5 (by omega)
  replace o3 := o3.below b5 (by omega)
  replace hB := hB.trans (b5.mono (by omega))
  clear b5
  go_wp2_with fail
  refine (Sl.eqS_same u3 u5 _ _ o3.rd o5.rd (by omega) (by omega)).mono ?_; rintro e w6 ⟨rfl, b6⟩
  have s6 := b6.size
  replace h0 := h0.below b6 (by omega)
  replace o1 := o1.below b6 (by omega)
  replace o3 := o3.below b6 (by omega)
  replace o5 := o5.below b6 (by omega)
  replace hB := hB.trans (b6.mono (by omega))
  clear b6
  go_wp2_with fail
  go_ret
  exact ⟨rfl, hB⟩

set_option maxRecDepth 100000 in
theorem EmptySlots_holds : Rows.FnExactEmptySlotsSaid :=
  OpenClaim.holds_of_wide 5 Try.f5 rfl rfl rfl rfl rfl rfl rfl ⟨rfl, rfl, rfl, rfl, rfl⟩ rfl rfl rfl rfl rfl (by kernel_rfl) Try.func5 (by kernel_rfl)
    (of_decide_eq_true (by kernel_rfl)) (by unfold Func.isWrapper; first | (rw [if_pos (by decide +kernel)]; kernel_rfl) | (rw [if_neg (by decide +kernel)]; exact ⟨rfl, rfl⟩))
    (fun os started H enc _ => law_lifted (C := Try.checked) (s := Rows.fnExactEmptySlotsSpec) own started (by kernel_rfl) Try.func5
      (ChangeSpec.witness6 (enc := enc) (C := Try.checked) false ⟨#[], #[.slice none 0 0], []⟩ 8 (by kernel_rfl) (by kernel_rfl) (by kernel_rfl) (by kernel_rfl))
      laidOut (by kernel_rfl) rfl rfl Try.underlying4 (fun ds h => by match ds, h with | [_], _ => rfl)
      (fun W base args ds p hval0 hA0 => by
        have hval : ∀ (j : Nat) t v, Try.f5.params[j]? = some t → args[j]? = some v → Value.okWide Try.prog W .any base t v := hval0
        have hA : DataW.TrodAll enc Try.prog W 0 (fun _ => true) true Try.f5.params.toList args.toList ds p := hA0
        rw [Try.params5] at hA hval
        obtain ⟨v0, vs0, d0, ds0, p0, q0, hargs, rfl, rfl, h0, r0⟩ := trodAll_cons hA
        obtain ⟨rfl, rfl, rfl⟩ := trodAll_nil r0
        obtain rfl : args = #[v0] := by cases args; simp_all
        obtain ⟨l0, k0⟩ := Sl.openS (hval 0 22 v0 rfl rfl) h0
        exact EmptySlots_walk v0 l0 W k0))

end Go.Proofs.Ythibacnnmlieiaa
