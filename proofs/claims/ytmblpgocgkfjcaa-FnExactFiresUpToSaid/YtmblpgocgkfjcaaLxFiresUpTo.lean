/- 'FiresUpTo' of the program and of the reference agree for every timer and every tick. No condition. -/
import Derived.Test.YtmblpgocgkfjcaaTmLaw1
namespace Go.Proofs.Ytmblpgocgkfjcaa
open Go.RowKit Go.ChangeShapes Go.WideShapes Go.Deep

theorem FiresUpTo_walk (t : Tm) (x : Int) (W : World) : Calls Try.prog 4 #[t.val, .int .i64 x] W fun e W' => e = .returned (.bool true) ∧ Below W.heap.size W W' := by
  have c1 := Tm.to_any t
  have c2 := specFires_any t x
  have c3 := implFires_any t x
  generalize t.firesR x = r at c2 c3
  generalize t.firesB x = b at c2 c3
  unfold Tm.val at *
  go_enter Try.func4, Try.ntmps4
  go_wp2_with fail
  refine (c1 _).mono ?_; rintro e w1 ⟨rfl, hb1⟩; simp only [World.size_alloc] at hb1; obtain ⟨hc1, hf1⟩ := bcell hb1
  have z1 : W.heap.size < w1.heap.size := by have := hb1.size; simp at this; omega
  go_wp2_with fail
  refine (c2 _).mono ?_; rintro e w2 ⟨rfl, hb2⟩; obtain ⟨hc2, hf2⟩ := bcell hb2
  have z2 : W.heap.size < w2.heap.size := by have := hb2.size; omega
  go_wp2_with fail
  refine (c1 _).mono ?_; rintro e w3 ⟨rfl, hb3⟩
  go_wp2_with fail
  refine (c3 _).mono ?_; rintro e w4 ⟨rfl, hb4⟩
  have hB : Below W.heap.size W w4 := (((((Below.refl _ _).alloc (Nat.le_refl _) _).trans (hb1.mono (by omega))).trans (hb2.mono (by omega))).trans (hb3.mono (by omega))).trans (hb4.mono (by have := hb3.size; omega))
  clear hb1 hb2 hb3 hb4 hc1 hf1 hc2 hf2
  go_wp2_with fail
  go_ret
  exact ⟨rfl, hB⟩

set_option maxRecDepth 100000 in
theorem FiresUpTo_holds : Rows.FnExactFiresUpToSaid :=
  OpenClaim.holds_of_wide 4 Try.f4 rfl rfl rfl rfl rfl rfl rfl ⟨rfl, rfl, rfl, rfl, rfl⟩ rfl rfl rfl rfl rfl (by kernel_rfl) Try.func4 (by kernel_rfl)
    (of_decide_eq_true (by kernel_rfl)) (by unfold Func.isWrapper; first | (rw [if_pos (by decide +kernel)]; kernel_rfl) | (rw [if_neg (by decide +kernel)]; exact ⟨rfl, rfl⟩))
    (fun os started H enc _ => law_lifted (C := Try.checked) (s := Rows.fnExactFiresUpToSpec) own started (by kernel_rfl) Try.func4
      (ChangeSpec.witness6 (enc := enc) (C := Try.checked) false ⟨#[], #[.agg #[.bool false, .int .i64 0, .int .i64 0, .int .i64 0], .int .i64 0], []⟩ 8 (by kernel_rfl) (by kernel_rfl) (by kernel_rfl) (by kernel_rfl))
      laidOut (by kernel_rfl) rfl rfl Try.underlying4 (fun ds h => by match ds, h with | [_, _], _ => rfl)
      (fun W base args ds p hval0 hA0 => by
        have hval : ∀ (j : Nat) t v, Try.f4.params[j]? = some t → args[j]? = some v → Value.okWide Try.prog W .any base t v := hval0
        have hA : DataW.TrodAll enc Try.prog W 0 (fun _ => true) true Try.f4.params.toList args.toList ds p := hA0
        rw [Try.params4] at hA hval
        obtain ⟨v0, v1, d0, d1, p0, p1, rfl, rfl, rfl, h0, h1⟩ := trodAll_two hA
        obtain ⟨t, rfl⟩ := Tm.open_ (hval 0 23 v0 rfl rfl) h0
        obtain ⟨x, rfl, rfl, rfl, _⟩ := open_int Try.underlying3 (hval 1 3 v1 rfl rfl) h1
        exact FiresUpTo_walk t x W))

end Go.Proofs.Ytmblpgocgkfjcaa
