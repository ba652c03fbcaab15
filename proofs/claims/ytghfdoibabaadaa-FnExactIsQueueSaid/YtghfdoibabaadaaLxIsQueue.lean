/- 'IsQueue' of the program and of the reference agree for all arguments. No condition. -/
import Derived.Test.YtghfdoibabaadaaQuOpen
import Derived.Test.YtghfdoibabaadaaQuSet
namespace Go.Proofs.Ytghfdoibabaadaa
open Go.RowKit Go.ChangeShapes Go.WideShapes Go.Deep

theorem szQ_yes {n m : Nat} (h : n ≤ 1048576) (h2 : n + m ≤ 1048576) : szQ 1048576 n m = 1048576 - n - m := by
  unfold szQ szL
  repeat' split
  all_goals omega
theorem szQ_no {n m : Nat} (h : ¬ n + m ≤ 1048576) : szQ 1048576 n m = -1 := by
  unfold szQ szL
  repeat' split
  all_goals omega

set_option maxHeartbeats 2000000 in
theorem IsQueue_walk (vs vw : Value) (ls : List Sl) (lw : List Wt) (W : World) (hs : Rd Sl.cells 3 W 0 W.heap.size vs ls) (hw : Rd Wt.cells 2 W 0 W.heap.size vw lw) : Calls Try.prog 3 #[.agg #[vs, vw]] W fun e W' => e = .returned (.bool true) ∧ Below W.heap.size W W' := by
  have b0 := (Below.refl W.heap.size W).alloc (Nat.le_refl _) (.cells #[vs, vw] 25)
  have z0 : (W.alloc (.cells #[vs, vw] 25)).heap.size = W.heap.size + 1 := by simp
  have r0 := Qc.new W 25 vs vw
  have ks := hs.below b0 (Nat.le_refl _)
  have kw := hw.below b0 (Nat.le_refl _)
  obtain ⟨A0, n0, d0, rfl, _, _, _⟩ := hs.form
  obtain ⟨A, n, c, rfl, _, _, _⟩ := hw.form
  clear hs hw
  by_cases hz : ls.length + lw.length ≤ 1048576
  · have cs := szQueue_any _ _ ls lw _ ks kw (by omega) (by omega) 1048576 (by omega) (by omega)
    rw [szQ_yes (by omega) hz] at cs
    obtain ⟨q, hq⟩ : ∃ q : Int, q = 1048576 - (ls.length : Int) - lw.length := ⟨_, rfl⟩
    rw [← hq] at cs
    have hqd : decide (q < 0) = false := decide_eq_false (by omega)
    clear hq
    go_enter Try.func3, Try.ntmps3
    go_wp2_with fail
    generalize W.alloc _ = w0 at *
    refine cs.mono ?_; rintro e w1 ⟨rfl, b1⟩
    have s1 := b1.size
    replace r0 := r0.below b1 (by omega)
    replace ks := ks.below b1 (by omega)
    replace kw := kw.below b1 (by omega)
    replace b0 := b0.trans (b1.mono (by omega))
    clear b1
    obtain ⟨x0, x1⟩ := Qc.box r0
    go_wp2_with fail
    clear x0 x1
    refine (toQueue_any _ _ ls lw w1 ks kw (by omega) (by omega) (by omega) (by omega)).mono ?_; rintro e w2 ⟨v1, v2, rfl, o1, o2, b2⟩
    have s2 := b2.size
    replace r0 := r0.below b2 (by omega)
    replace ks := ks.below b2 (by omega)
    replace kw := kw.below b2 (by omega)
    replace b0 := b0.trans (b2.mono (by omega))
    clear b2
    go_wp2_with fail
    refine (specIsQueue_any _ _ ls lw w2 o1.rd o2.rd (by omega) (by omega)).mono ?_; rintro e w3 ⟨rfl, b3⟩
    have s3 := b3.size
    replace r0 := r0.below b3 (by omega)
    replace ks := ks.below b3 (by omega)
    replace kw := kw.below b3 (by omega)
    replace b0 := b0.trans (b3.mono (by omega))
    clear b3 o1 o2
    obtain ⟨x0, x1⟩ := Qc.box r0
    go_wp2_with fail
    clear x0 x1
    refine (toQueue_any _ _ ls lw w3 ks kw (by omega) (by omega) (by omega) (by omega)).mono ?_; rintro e w4 ⟨v3, v4, rfl, o3, o4, b4⟩
    have s4 := b4.size
    replace r0 := r0.below b4 (by omega)
    replace ks := ks.below b4 (by omega)
    replace kw := kw.below b4 (by omega)
    replace b0 := b0.trans (b4.mono (by omega))
    clear b4
    obtain ⟨A3, n3, d3, rfl, _, _, _⟩ := o3.rd.form
    obtain ⟨A4, n4, d4, rfl, _, _, _⟩ := o4.rd.form
    go_wp2_with fail
    have bA : Below w4.heap.size w4 (w4.alloc (.cells #[.slice A3 n3 d3, .slice A4 n4 d4] 31)) := (Below.refl _ _).alloc (Nat.le_refl _) _
    have rA := Qc.new w4 31 (.slice A3 n3 d3) (.slice A4 n4 d4)
    have zA : (w4.alloc (.cells #[.slice A3 n3 d3, .slice A4 n4 d4] 31)).heap.size = w4.heap.size + 1 := by simp
    generalize w4.alloc _ = w5 at bA rA zA ⊢
    replace r0 := r0.below bA (by omega)
    replace ks := ks.below bA (by omega)
    replace kw := kw.below bA (by omega)
    replace o3 := o3.below bA (by omega)
    replace o4 := o4.below bA (by omega)
    replace b0 := b0.trans (bA.mono (by omega))
    clear bA
    refine (implIsQueue_any _ _ ls lw w5 o3.rd o4.rd (by omega) (by omega)).mono ?_; rintro e w6 ⟨rfl, b6⟩
    have s6 := b6.size
    replace r0 := r0.below b6 (by omega)
    replace rA := rA.below b6 (by omega)
    replace ks := ks.below b6 (by omega)
    replace kw := kw.below b6 (by omega)
    replace o3 := o3.below b6 (by omega)
    replace o4 := o4.below b6 (by omega)
    replace b0 := b0.trans (b6.mono (by omega))
    clear b6
    generalize Qu.good ls lw = g
    obtain ⟨x0, x1⟩ := Qc.box r0
    obtain ⟨y0, y1⟩ := Qc.box rA
    have zw : W.heap.size < w6.heap.size := by omega
    have zv : w4.heap.size < w6.heap.size := by omega
    have c7 := toQueue_any _ _ ls lw w6.drew ks.drew kw.drew (by simp; omega) (by simp; omega) (by omega) (by omega)
    have c8 := fun (w7 : World) (v5 v6 : Value) (b7 : Below w6.heap.size w6.drew w7) (o5 : Ow Sl.cells 3 65 w7 w6.heap.size w7.heap.size v5 ls) (o6 : Ow Wt.cells 2 69 w7 w6.heap.size w7.heap.size v6 lw) =>
      eqQueue_same (.slice A3 n3 d3) (.slice A4 n4 d4) v5 v6 ls lw w7 (o3.drew.below b7 (by omega)).rd (o4.drew.below b7 (by omega)).rd o5.rd o6.rd (by have := b7.size; simp at this; omega) (by have := b7.size; simp at this; omega) (Nat.le_refl _) (Nat.le_refl _)
    go_wp2_with fail
    go_region_with (first | (go_at_call 13; refine c7.mono ?_; rintro e w7 ⟨v5, v6, rfl, o5, o6, b7⟩; (try simp only [World.size_drew] at o5 o6 b7); (obtain ⟨hc7, hf7⟩ := bcell b7); (simp only [World.cell?_drew] at hc7); (have y0 := (hc7 _ 0 zv).trans y0); (have y1 := (hc7 _ 1 zv).trans y1); (clear hc7 hf7)) | (go_at_call 15; refine (c8 _ _ _ b7 o5 o6).mono ?_; rintro e w8 ⟨rfl, b8⟩))
    all_goals
      go_wp2_with fail
      go_ret
      exact ⟨rfl, b0.drew.trans ((b7.trans (b8.mono (by have := b7.size; simp at this; omega))).mono (by omega))⟩
  · have cs := szQueue_any _ _ ls lw _ ks kw (by omega) (by omega) 1048576 (by omega) (by omega)
    rw [szQ_no hz] at cs
    go_enter Try.func3, Try.ntmps3
    go_wp2_with fail
    refine cs.mono ?_; rintro e w1 ⟨rfl, b1⟩
    go_wp2_with fail
    go_ret
    exact ⟨rfl, b0.trans (b1.mono (by omega))⟩

set_option maxRecDepth 100000 in
theorem IsQueue_holds : Rows.FnExactIsQueueSaid :=
  OpenClaim.holds_of_wide 3 Try.f3 rfl rfl rfl rfl rfl rfl rfl ⟨rfl, rfl, rfl, rfl, rfl⟩ rfl rfl rfl rfl rfl (by kernel_rfl) Try.func3 (by kernel_rfl)
    (of_decide_eq_true (by kernel_rfl)) (by unfold Func.isWrapper; first | (rw [if_pos (by decide +kernel)]; kernel_rfl) | (rw [if_neg (by decide +kernel)]; exact ⟨rfl, rfl⟩))
    (fun os started H enc _ => law_lifted (C := Try.checked) (s := Rows.fnExactIsQueueSpec) own started (by kernel_rfl) Try.func3
      (ChangeSpec.witness6 (enc := enc) (C := Try.checked) false ⟨#[], #[.agg #[.slice none 0 0, .slice none 0 0]], []⟩ 8 (by kernel_rfl) (by kernel_rfl) (by kernel_rfl) (by kernel_rfl))
      laidOut (by kernel_rfl) rfl rfl Try.underlying4 (fun ds h => by match ds, h with | [_], _ => rfl)
      (fun W base args ds p hval0 hA0 => by
        have hval : ∀ (j : Nat) t v, Try.f3.params[j]? = some t → args[j]? = some v → Value.okWide Try.prog W .any base t v := hval0
        have hA : DataW.TrodAll enc Try.prog W 0 (fun _ => true) true Try.f3.params.toList args.toList ds p := hA0
        rw [Try.params3] at hA hval
        obtain ⟨v0, vs0, d0, ds0, p0, q0, hargs, rfl, rfl, h0, r0⟩ := trodAll_cons hA
        obtain ⟨rfl, rfl, rfl⟩ := trodAll_nil r0
        obtain rfl : args = #[v0] := by cases args; simp_all
        obtain ⟨vs, vw, ls, lw, rfl, k0, k1⟩ := Qu.open_ (hval 0 25 v0 rfl rfl) h0
        exact IsQueue_walk vs vw ls lw W k0 k1))

end Go.Proofs.Ytghfdoibabaadaa
