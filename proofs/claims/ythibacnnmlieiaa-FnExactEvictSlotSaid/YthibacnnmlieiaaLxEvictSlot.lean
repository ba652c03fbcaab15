/- 'EvictSlot' of the program and of the reference agree for all arguments, and the program's results share no memory with its arguments. No condition. -/
import Derived.Test.YthibacnnmlieiaaSlEvict
namespace Go.Proofs.Ythibacnnmlieiaa
open Go.RowKit Go.ChangeShapes Go.WideShapes Go.Deep

theorem EvictSlot_walk (v0 : Value) (l0 : List Sl) (W : World) (h0 : Rd Sl.cells 3 W 0 W.heap.size v0 l0) : Calls Try.prog 8 #[v0] W fun e W' => e = .returned (.bool true) ∧ Below W.heap.size W W' := by
  have hB := Below.refl W.heap.size W
  by_cases zl0 : l0.length ≤ 1048576
  rotate_left
  · have c := Sl.szS_any v0 l0 W h0 1048576 (by omega) (by omega)
    rw [szL_no (by omega)] at c
    go_enter Try.func8, Try.ntmps8
    go_wp2_with fail
    refine c.mono ?_; rintro e w' ⟨rfl, rfl⟩
    go_wp2_with fail
    go_ret
    exact ⟨rfl, hB⟩
  have cs0 := Sl.szS_any v0 l0 W h0 1048576 (by omega) (by omega)
  rw [szL_yes (by omega)] at cs0
  obtain ⟨q1, hq1, hq1l, hq1u⟩ : ∃ q : Int, q = 1048576 - (l0.length : Int) ∧ 0 ≤ q ∧ q ≤ 1048576 := ⟨_, rfl, by omega, by omega⟩
  rw [← hq1] at cs0
  clear hq1
  have ceq := fun W => Sl.eq_any (Sl.evV l0) (Sl.evV l0) W
  simp only [(Sl.eqB_iff (Sl.evV l0) (Sl.evV l0)).2 rfl] at ceq
  unfold Sl.val at ceq
  go_enter Try.func8, Try.ntmps8
  go_wp2_with fail
  refine cs0.mono ?_; rintro e w' ⟨rfl, rfl⟩
  go_wp2_with fail
  refine (Sl.toS_any v0 _ _ h0 (by omega) zl0).mono ?_; rintro e w1 ⟨u1, rfl, o1, b1⟩
  have s1 := b1.size
  replace h0 := h0.below b1 (by omega)
  replace hB := hB.trans (b1.mono (by omega))
  clear b1
  go_wp2_with fail
  refine (specEvictSlot_any u1 _ _ o1.rd (by omega)).mono ?_; rintro e w2 ⟨u2_0, rfl, o2_0, b2⟩
  have s2 := b2.size
  replace h0 := h0.below b2 (by omega)
  replace o1 := o1.below b2 (by omega)
  replace hB := hB.trans (b2.mono (by omega))
  clear b2
  go_wp2_with fail
  have bA4 : Below w2.heap.size w2 (w2.alloc (.cells #[.int .i64 (Sl.evV l0).state, .int .i64 (Sl.evV l0).irq, .int .i64 (Sl.evV l0).prio] 39)) := (Below.refl _ _).alloc (Nat.le_refl _) _
  have rA4 := rd_one (cells := Sl.cells) (sz := 3) (x := (Sl.evV l0)) (g := w2.heap.size) (w := w2.alloc (.cells #[.int .i64 (Sl.evV l0).state, .int .i64 (Sl.evV l0).irq, .int .i64 (Sl.evV l0).prio] 39)) (fun j u hu => cell_new w2 _ _ rfl (by simpa [Sl.cells] using hu))
  have zA4 : (w2.alloc (.cells #[.int .i64 (Sl.evV l0).state, .int .i64 (Sl.evV l0).irq, .int .i64 (Sl.evV l0).prio] 39)).heap.size = w2.heap.size + 1 := by simp
  generalize w2.alloc _ = w4 at bA4 rA4 zA4 ⊢
  have s4 := bA4.size
  replace h0 := h0.below bA4 (by omega)
  replace o1 := o1.below bA4 (by omega)
  replace o2_0 := o2_0.below bA4 (by omega)
  replace hB := hB.trans (bA4.mono (by omega))
  clear bA4
  refine (Sl.toS_any v0 _ _ h0 (by omega) zl0).mono ?_; rintro e w4 ⟨u4, rfl, o4, b4⟩
  have s4 := b4.size
  replace h0 := h0.below b4 (by omega)
  replace o1 := o1.below b4 (by omega)
  replace o2_0 := o2_0.below b4 (by omega)
  replace rA4 := rA4.below b4 (by omega)
  replace hB := hB.trans (b4.mono (by omega))
  clear b4
  go_wp2_with fail
  refine (implEvictSlot_any u4 _ _ o4.rd (by omega)).mono ?_; rintro e w5 ⟨u5_0, rfl, o5_0, n5_0, b5⟩
  have s5 := b5.size
  replace h0 := h0.below b5 (by omega)
  replace o1 := o1.below b5 (by omega)
  replace o2_0 := o2_0.below b5 (by omega)
  replace rA4 := rA4.below b5 (by omega)
  replace o4 := o4.below b5 (by omega)
  replace hB := hB.trans (b5.mono (by omega))
  clear b5
  go_wp2_with fail
  have bA7 : Below w5.heap.size w5 (w5.alloc (.cells #[.int .i64 (Sl.evV l0).state, .int .i64 (Sl.evV l0).irq, .int .i64 (Sl.evV l0).prio] 39)) := (Below.refl _ _).alloc (Nat.le_refl _) _
  have rA7 := rd_one (cells := Sl.cells) (sz := 3) (x := (Sl.evV l0)) (g := w5.heap.size) (w := w5.alloc (.cells #[.int .i64 (Sl.evV l0).state, .int .i64 (Sl.evV l0).irq, .int .i64 (Sl.evV l0).prio] 39)) (fun j u hu => cell_new w5 _ _ rfl (by simpa [Sl.cells] using hu))
  have zA7 : (w5.alloc (.cells #[.int .i64 (Sl.evV l0).state, .int .i64 (Sl.evV l0).irq, .int .i64 (Sl.evV l0).prio] 39)).heap.size = w5.heap.size + 1 := by simp
  generalize w5.alloc _ = w7 at bA7 rA7 zA7 ⊢
  have s7 := bA7.size
  replace h0 := h0.below bA7 (by omega)
  replace o1 := o1.below bA7 (by omega)
  replace o2_0 := o2_0.below bA7 (by omega)
  replace rA4 := rA4.below bA7 (by omega)
  replace o4 := o4.below bA7 (by omega)
  replace o5_0 := o5_0.below bA7 (by omega)
  replace hB := hB.trans (bA7.mono (by omega))
  clear bA7
  refine (Sl.eqS_same u5_0 u2_0 _ _ o5_0.rd o2_0 (by omega) (by omega)).mono ?_; rintro e w7 ⟨rfl, b7⟩
  have s7 := b7.size
  replace h0 := h0.below b7 (by omega)
  replace o1 := o1.below b7 (by omega)
  replace o2_0 := o2_0.below b7 (by omega)
  replace rA4 := rA4.below b7 (by omega)
  replace o4 := o4.below b7 (by omega)
  replace o5_0 := o5_0.below b7 (by omega)
  replace rA7 := rA7.below b7 (by omega)
  replace hB := hB.trans (b7.mono (by omega))
  clear b7
  obtain ⟨fa0, fa1, fa2⟩ := Sl.box rA7; obtain ⟨fb0, fb1, fb2⟩ := Sl.box rA4
  go_wp2_with fail
  refine (ceq _).mono ?_; rintro e w8 ⟨rfl, b8⟩
  clear fa0 fb0 fa1 fb1 fa2 fb2
  have s8 := b8.size
  replace h0 := h0.below b8 (by omega)
  replace o1 := o1.below b8 (by omega)
  replace o2_0 := o2_0.below b8 (by omega)
  replace rA4 := rA4.below b8 (by omega)
  replace o4 := o4.below b8 (by omega)
  replace o5_0 := o5_0.below b8 (by omega)
  replace rA7 := rA7.below b8 (by omega)
  replace hB := hB.trans (b8.mono (by omega))
  clear b8
  go_wp2_with fail
  refine (Sl.toS_any v0 _ _ h0 (by omega) zl0).mono ?_; rintro e w9 ⟨u9, rfl, o9, b9⟩
  have s9 := b9.size
  replace h0 := h0.below b9 (by omega)
  replace o1 := o1.below b9 (by omega)
  replace o2_0 := o2_0.below b9 (by omega)
  replace rA4 := rA4.below b9 (by omega)
  replace o4 := o4.below b9 (by omega)
  replace o5_0 := o5_0.below b9 (by omega)
  replace rA7 := rA7.below b9 (by omega)
  replace hB := hB.trans (b9.mono (by omega))
  clear b9
  go_wp2_with fail
  refine (Sl.eqS_same u4 u9 _ _ o4.rd o9.rd (by omega) (by omega)).mono ?_; rintro e w10 ⟨rfl, b10⟩
  have s10 := b10.size
  replace h0 := h0.below b10 (by omega)
  replace o1 := o1.below b10 (by omega)
  replace o2_0 := o2_0.below b10 (by omega)
  replace rA4 := rA4.below b10 (by omega)
  replace o4 := o4.below b10 (by omega)
  replace o5_0 := o5_0.below b10 (by omega)
  replace rA7 := rA7.below b10 (by omega)
  replace o9 := o9.below b10 (by omega)
  replace hB := hB.trans (b10.mono (by omega))
  clear b10
  go_wp2_with fail
  refine (Sl.markS_any u4 _ _ o4 _ (by omega) (by omega) zl0).mono ?_; rintro e w11 ⟨rfl, p11, t11⟩
  have s11 := t11.size
  replace h0 := h0.turned o4 t11 (by omega) (by omega)
  replace o1 := o1.turned o4 t11 (by omega)
  replace o2_0 := o2_0.turned o4 t11 (by omega) (by omega)
  replace rA4 := rA4.turned o4 t11 (by omega) (by omega)
  replace o5_0 := o5_0.turned o4 t11 (by omega)
  replace rA7 := rA7.turned o4 t11 (by omega) (by omega)
  replace o9 := o9.turned o4 t11 (by omega)
  replace hB := Below.turned hB o4 t11 (by omega) (by omega)
  clear t11 o4
  have o4 := p11; clear p11
  go_wp2_with fail
  refine (Sl.eqS_same u5_0 u2_0 _ _ o5_0.rd o2_0 (by omega) (by omega)).mono ?_; rintro e w12 ⟨rfl, b12⟩
  have s12 := b12.size
  replace h0 := h0.below b12 (by omega)
  replace o1 := o1.below b12 (by omega)
  replace o2_0 := o2_0.below b12 (by omega)
  replace rA4 := rA4.below b12 (by omega)
  replace o4 := o4.below b12 (by omega)
  replace o5_0 := o5_0.below b12 (by omega)
  replace rA7 := rA7.below b12 (by omega)
  replace o9 := o9.below b12 (by omega)
  replace hB := hB.trans (b12.mono (by omega))
  clear b12
  obtain ⟨fa0, fa1, fa2⟩ := Sl.box rA7; obtain ⟨fb0, fb1, fb2⟩ := Sl.box rA4
  go_wp2_with fail
  refine (ceq _).mono ?_; rintro e w13 ⟨rfl, b13⟩
  clear fa0 fb0 fa1 fb1 fa2 fb2
  have s13 := b13.size
  replace h0 := h0.below b13 (by omega)
  replace o1 := o1.below b13 (by omega)
  replace o2_0 := o2_0.below b13 (by omega)
  replace rA4 := rA4.below b13 (by omega)
  replace o4 := o4.below b13 (by omega)
  replace o5_0 := o5_0.below b13 (by omega)
  replace rA7 := rA7.below b13 (by omega)
  replace o9 := o9.below b13 (by omega)
  replace hB := hB.trans (b13.mono (by omega))
  clear b13
  go_wp2_with fail
  refine (Sl.markS_any u5_0 _ _ o5_0 _ (by omega) (by omega) n5_0).mono ?_; rintro e w14 ⟨rfl, p14, t14⟩
  have s14 := t14.size
  replace h0 := h0.turned o5_0 t14 (by omega) (by omega)
  replace o1 := o1.turned o5_0 t14 (by omega)
  replace o2_0 := o2_0.turned o5_0 t14 (by omega) (by omega)
  replace rA4 := rA4.turned o5_0 t14 (by omega) (by omega)
  replace o4 := o4.turned o5_0 t14 (by omega)
  replace rA7 := rA7.turned o5_0 t14 (by omega) (by omega)
  replace o9 := o9.turned o5_0 t14 (by omega)
  replace hB := Below.turned hB o5_0 t14 (by omega) (by omega)
  clear t14 o5_0
  have o5_0 := p14; clear p14
  go_wp2_with fail
  refine (Sl.heldS_any u5_0 _ o5_0.rd (by omega) (by omega) n5_0).mono ?_; rintro e w' ⟨rfl, rfl⟩
  go_wp2_with fail
  refine (Sl.toS_any v0 _ _ h0 (by omega) zl0).mono ?_; rintro e w15 ⟨u15, rfl, o15, b15⟩
  have s15 := b15.size
  replace h0 := h0.below b15 (by omega)
  replace o1 := o1.below b15 (by omega)
  replace o2_0 := o2_0.below b15 (by omega)
  replace rA4 := rA4.below b15 (by omega)
  replace o4 := o4.below b15 (by omega)
  replace o5_0 := o5_0.below b15 (by omega)
  replace rA7 := rA7.below b15 (by omega)
  replace o9 := o9.below b15 (by omega)
  replace hB := hB.trans (b15.mono (by omega))
  clear b15
  go_wp2_with fail
  refine (implEvictSlot_any u15 _ _ o15.rd (by omega)).mono ?_; rintro e w16 ⟨u16_0, rfl, o16_0, n16_0, b16⟩
  have s16 := b16.size
  replace h0 := h0.below b16 (by omega)
  replace o1 := o1.below b16 (by omega)
  replace o2_0 := o2_0.below b16 (by omega)
  replace rA4 := rA4.below b16 (by omega)
  replace o4 := o4.below b16 (by omega)
  replace o5_0 := o5_0.below b16 (by omega)
  replace rA7 := rA7.below b16 (by omega)
  replace o9 := o9.below b16 (by omega)
  replace o15 := o15.below b16 (by omega)
  replace hB := hB.trans (b16.mono (by omega))
  clear b16
  go_wp2_with fail
  have bA18 : Below w16.heap.size w16 (w16.alloc (.cells #[.int .i64 (Sl.evV l0).state, .int .i64 (Sl.evV l0).irq, .int .i64 (Sl.evV l0).prio] 39)) := (Below.refl _ _).alloc (Nat.le_refl _) _
  have rA18 := rd_one (cells := Sl.cells) (sz := 3) (x := (Sl.evV l0)) (g := w16.heap.size) (w := w16.alloc (.cells #[.int .i64 (Sl.evV l0).state, .int .i64 (Sl.evV l0).irq, .int .i64 (Sl.evV l0).prio] 39)) (fun j u hu => cell_new w16 _ _ rfl (by simpa [Sl.cells] using hu))
  have zA18 : (w16.alloc (.cells #[.int .i64 (Sl.evV l0).state, .int .i64 (Sl.evV l0).irq, .int .i64 (Sl.evV l0).prio] 39)).heap.size = w16.heap.size + 1 := by simp
  generalize w16.alloc _ = w18 at bA18 rA18 zA18 ⊢
  have s18 := bA18.size
  replace h0 := h0.below bA18 (by omega)
  replace o1 := o1.below bA18 (by omega)
  replace o2_0 := o2_0.below bA18 (by omega)
  replace rA4 := rA4.below bA18 (by omega)
  replace o4 := o4.below bA18 (by omega)
  replace o5_0 := o5_0.below bA18 (by omega)
  replace rA7 := rA7.below bA18 (by omega)
  replace o9 := o9.below bA18 (by omega)
  replace o15 := o15.below bA18 (by omega)
  replace o16_0 := o16_0.below bA18 (by omega)
  replace hB := hB.trans (bA18.mono (by omega))
  clear bA18
  refine (Sl.eqS_same u16_0 u2_0 _ _ o16_0.rd o2_0 (by omega) (by omega)).mono ?_; rintro e w18 ⟨rfl, b18⟩
  have s18 := b18.size
  replace h0 := h0.below b18 (by omega)
  replace o1 := o1.below b18 (by omega)
  replace o2_0 := o2_0.below b18 (by omega)
  replace rA4 := rA4.below b18 (by omega)
  replace o4 := o4.below b18 (by omega)
  replace o5_0 := o5_0.below b18 (by omega)
  replace rA7 := rA7.below b18 (by omega)
  replace o9 := o9.below b18 (by omega)
  replace o15 := o15.below b18 (by omega)
  replace o16_0 := o16_0.below b18 (by omega)
  replace rA18 := rA18.below b18 (by omega)
  replace hB := hB.trans (b18.mono (by omega))
  clear b18
  obtain ⟨fa0, fa1, fa2⟩ := Sl.box rA18; obtain ⟨fb0, fb1, fb2⟩ := Sl.box rA4
  go_wp2_with fail
  refine (ceq _).mono ?_; rintro e w19 ⟨rfl, b19⟩
  clear fa0 fb0 fa1 fb1 fa2 fb2
  have s19 := b19.size
  replace h0 := h0.below b19 (by omega)
  replace o1 := o1.below b19 (by omega)
  replace o2_0 := o2_0.below b19 (by omega)
  replace rA4 := rA4.below b19 (by omega)
  replace o4 := o4.below b19 (by omega)
  replace o5_0 := o5_0.below b19 (by omega)
  replace rA7 := rA7.below b19 (by omega)
  replace o9 := o9.below b19 (by omega)
  replace o15 := o15.below b19 (by omega)
  replace o16_0 := o16_0.below b19 (by omega)
  replace rA18 := rA18.below b19 (by omega)
  replace hB := hB.trans (b19.mono (by omega))
  clear b19
  go_wp2_with fail
  refine (Sl.heldS_any u5_0 _ o5_0.rd (by omega) (by omega) n5_0).mono ?_; rintro e w' ⟨rfl, rfl⟩
  go_wp2_with fail
  go_ret
  exact ⟨rfl, hB⟩

set_option maxRecDepth 100000 in
theorem EvictSlot_holds : Rows.FnExactEvictSlotSaid :=
  OpenClaim.holds_of_wide 8 Try.f8 rfl rfl rfl rfl rfl rfl rfl ⟨rfl, rfl, rfl, rfl, rfl⟩ rfl rfl rfl rfl rfl (by kernel_rfl) Try.func8 (by kernel_rfl)
    (of_decide_eq_true (by kernel_rfl)) (by unfold Func.isWrapper; first | (rw [if_pos (by decide +kernel)]; kernel_rfl) | (rw [if_neg (by decide +kernel)]; exact ⟨rfl, rfl⟩))
    (fun os started H enc _ => law_lifted (C := Try.checked) (s := Rows.fnExactEvictSlotSpec) own started (by kernel_rfl) Try.func8
      (ChangeSpec.witness6 (enc := enc) (C := Try.checked) false ⟨#[], #[.slice none 0 0], []⟩ 8 (by kernel_rfl) (by kernel_rfl) (by kernel_rfl) (by kernel_rfl))
      laidOut (by kernel_rfl) rfl rfl Try.underlying4 (fun ds h => by match ds, h with | [_], _ => rfl)
      (fun W base args ds p hval0 hA0 => by
        have hval : ∀ (j : Nat) t v, Try.f8.params[j]? = some t → args[j]? = some v → Value.okWide Try.prog W .any base t v := hval0
        have hA : DataW.TrodAll enc Try.prog W 0 (fun _ => true) true Try.f8.params.toList args.toList ds p := hA0
        rw [Try.params8] at hA hval
        obtain ⟨v0, vs0, d0, ds0, p0, q0, hargs, rfl, rfl, h0, r0⟩ := trodAll_cons hA
        obtain ⟨rfl, rfl, rfl⟩ := trodAll_nil r0
        obtain rfl : args = #[v0] := by cases args; simp_all
        obtain ⟨l0, k0⟩ := Sl.openS (hval 0 22 v0 rfl rfl) h0
        exact EvictSlot_walk v0 l0 W k0))

end Go.Proofs.Ythibacnnmlieiaa
