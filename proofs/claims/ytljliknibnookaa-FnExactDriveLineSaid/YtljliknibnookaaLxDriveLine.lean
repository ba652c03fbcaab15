/- 'DriveLine' of the program and of the reference agree for all arguments. No condition. -/
import Derived.Test.YtljliknibnookaaLnLaw1
namespace Go.Proofs.Ytljliknibnookaa
open Go.RowKit Go.ChangeShapes Go.WideShapes Go.Deep Go.Joins

theorem DriveLine_walk (t0 : Ln) (x1 : Bool) (W : World) : Calls Try.prog 5 #[t0.val, .bool x1] W fun e W' => e = .returned (.bool true) ∧ Below W.heap.size W W' := by
  have c1 := Ln.to_any t0
  have c2 := fun W => specDriveLine_any t0 x1 W
  have c3 := fun W => implDriveLine_any t0 x1 W
  have c4 := fun W => Ln.eq_any (Ln.driveR t0 x1) (Ln.driveR t0 x1) W
  simp only [(Ln.eqB_iff (Ln.driveR t0 x1) (Ln.driveR t0 x1)).2 rfl] at c4
  generalize Ln.driveR t0 x1 = r0 at c2 c3 c4
  generalize Ln.ok t0 = r1 at c2 c3
  unfold Ln.val at *
  go_enter Try.func5, Try.ntmps5
  go_wp2_with fail
  refine (c1 _).mono ?_; rintro e w1 ⟨rfl, hb1⟩; simp only [World.size_alloc] at hb1; obtain ⟨hc1, hf1⟩ := bcell hb1
  have z1 : W.heap.size < w1.heap.size := by have := hb1.size; simp at this; omega
  go_wp2_with fail
  refine (c2 _).mono ?_; rintro e w2 ⟨rfl, hb2⟩; obtain ⟨hc2, hf2⟩ := bcell hb2
  have z2 : W.heap.size < w2.heap.size := by have := hb2.size; omega
  go_wp2_with fail
  refine (c1 _).mono ?_; rintro e w3 ⟨rfl, hb3⟩; simp only [World.size_alloc] at hb3; obtain ⟨hc3, hf3⟩ := bcell hb3
  have z3 : w2.heap.size < w3.heap.size := by have := hb3.size; simp at this; omega
  go_wp2_with fail
  refine (c3 _).mono ?_; rintro e w4 ⟨rfl, hb4⟩; obtain ⟨hc4, hf4⟩ := bcell hb4
  have z4 : w2.heap.size < w4.heap.size := by have := hb4.size; omega
  go_wp2_with fail
  refine (c4 _).mono ?_; rintro e w5 ⟨rfl, hb5⟩; simp only [World.size_alloc] at hb5
  have hB : Below W.heap.size W w5 := (((((((Below.refl _ _).alloc (Nat.le_refl _) _).trans (hb1.mono (by omega))).trans (hb2.mono (by omega))).alloc (by omega) _).trans (hb3.mono (by omega))).trans (hb4.mono (by omega))).alloc (by omega) _ |>.trans (hb5.mono (by omega))
  clear hb1 hb2 hb3 hb4 hb5 hc1 hf1 hc2 hf2 hc3 hf3 hc4 hf4
  go_wp2_with fail
  go_ret
  exact ⟨rfl, hB⟩

set_option maxRecDepth 100000 in
theorem DriveLine_holds : Rows.FnExactDriveLineSaid :=
  OpenClaim.holds_of_wide 5 Try.f5 rfl rfl rfl rfl rfl rfl rfl ⟨rfl, rfl, rfl, rfl, rfl⟩ rfl rfl rfl rfl rfl (by kernel_rfl) Try.func5 (by kernel_rfl)
    (of_decide_eq_true (by kernel_rfl)) (by unfold Func.isWrapper; first | (rw [if_pos (by decide +kernel)]; kernel_rfl) | (rw [if_neg (by decide +kernel)]; exact ⟨rfl, rfl⟩))
    (fun os started H enc _ => law_lifted (C := Try.checked) (s := Rows.fnExactDriveLineSpec) own started (by kernel_rfl) Try.func5
      (ChangeSpec.witness6 (enc := enc) (C := Try.checked) false ⟨#[], #[.agg #[.int .i64 0, .int .i64 0, .bool false, .bool false], .bool false], []⟩ 8 (by kernel_rfl) (by kernel_rfl) (by kernel_rfl) (by kernel_rfl))
      laidOut (by kernel_rfl) rfl rfl Try.underlying4 (fun ds h => by match ds, h with | [_, _], _ => rfl)
      (fun W base args ds p hval0 hA0 => by
        have hval : ∀ (j : Nat) t v, Try.f5.params[j]? = some t → args[j]? = some v → Value.okWide Try.prog W .any base t v := hval0
        have hA : DataW.TrodAll enc Try.prog W 0 (fun _ => true) true Try.f5.params.toList args.toList ds p := hA0
        rw [Try.params5] at hA hval
        obtain ⟨v0, vs0, d0, ds0, p0, q0, hargs, rfl, rfl, h0, r0⟩ := trodAll_cons hA
        obtain ⟨v1, vs1, d1, ds1, p1, q1, rfl, rfl, rfl, h1, r1⟩ := trodAll_cons r0
        obtain ⟨rfl, rfl, rfl⟩ := trodAll_nil r1
        obtain rfl : args = #[v0, v1] := by cases args; simp_all
        obtain ⟨t0, rfl⟩ := Ln.open_ (hval 0 23 v0 rfl rfl) h0
        obtain ⟨x1, rfl, rfl, rfl⟩ := open_bool Try.underlying4 (hval 1 4 v1 rfl rfl) h1
        exact DriveLine_walk t0 x1 W))

end Go.Proofs.Ytljliknibnookaa
