/- 'SlotsText' of the program and of the reference agree for all arguments. No condition. -/
import Derived.Test.YtaggjadgbmmjoaaDoorTxQ
import Derived.Test.YtaggjadgbmmjoaaDoorTie
import Derived.Test.YtaggjadgbmmjoaaDoorCards
import Derived.Lay
import Derived.SevenTiedAt
namespace Go.Proofs.YtaggjadgbmmjoaaDoor
open Go.RowKit Go.ChangeShapes Go.WideShapes Go.Deep

theorem SlotsText_walk (v0 : Value) (l0 : List Sl) (W : World) (h0 : Rd Sl.cells 3 W 0 W.heap.size v0 l0) : Calls Tryd.prog 3 #[v0] W fun e W' => e = .returned (.bool true) ∧ Below W.heap.size W W' := by
  have hB := Below.refl W.heap.size W
  by_cases zl0 : l0.length ≤ 1048576
  rotate_left
  · have c := Sl.szS_any v0 l0 W h0 1048576 (by omega) (by omega)
    rw [szL_no (by omega)] at c
    go_enter Tryd.func3, Tryd.ntmps3
    go_wp2_with fail
    refine c.mono ?_; rintro e w' ⟨rfl, rfl⟩
    go_wp2_with fail
    go_ret
    exact ⟨rfl, hB⟩
  have cs0 := Sl.szS_any v0 l0 W h0 1048576 (by omega) (by omega)
  rw [szL_yes (by omega)] at cs0
  obtain ⟨q1, hq1, hq1l, hq1u⟩ : ∃ q : Int, q = 1048576 - (l0.length : Int) ∧ 0 ≤ q ∧ q ≤ 1048576 := ⟨_, rfl, by omega, by omega⟩
  rw [← hq1] at cs0
  clear hq1
  generalize hT : Tx.txR l0 = T
  have HT := Lib.hid hT
  clear hT
  generalize hG : Sl.good l0 = G
  have HG := Lib.hid hG
  clear hG
  have hGG : (G != G) = false := by simp
  go_enter Tryd.func3, Tryd.ntmps3
  go_wp2_with fail
  refine cs0.mono ?_; rintro e w' ⟨rfl, rfl⟩
  go_wp2_with fail
  refine (Sl.toS_any v0 _ _ h0 (by omega) zl0).mono ?_; rintro e w1 ⟨u1, rfl, o1, b1⟩
  have s1 := b1.size
  replace h0 := h0.below b1 (by omega)
  replace hB := hB.trans (b1.mono (by omega))
  clear b1
  go_wp2_with fail
  have c1 := specSlotsText_any u1 _ _ o1.rd (by omega)
  rw [HT.out, HG.out] at c1
  refine c1.mono ?_; rintro e w2 ⟨rfl, b2⟩
  clear c1
  have s2 := b2.size
  replace h0 := h0.below b2 (by omega)
  replace hB := hB.trans (b2.mono (by omega))
  clear b2 o1
  go_wp2_with fail
  refine (Sl.toS_any v0 _ _ h0 (by omega) zl0).mono ?_; rintro e w3 ⟨u3, rfl, o3, b3⟩
  have s3 := b3.size
  replace h0 := h0.below b3 (by omega)
  replace hB := hB.trans (b3.mono (by omega))
  clear b3
  go_wp2_with fail
  have c1 := implSlotsText_any u3 _ _ o3.rd (by omega)
  rw [HT.out, HG.out] at c1
  refine c1.mono ?_; rintro e w4 ⟨rfl, b4⟩
  clear c1
  have s4 := b4.size
  replace h0 := h0.below b4 (by omega)
  replace o3 := o3.below b4 (by omega)
  replace hB := hB.trans (b4.mono (by omega))
  clear b4
  go_wp2_with fail
  refine (Sl.toS_any v0 _ _ h0 (by omega) zl0).mono ?_; rintro e w5 ⟨u5, rfl, o5, b5⟩
  have s5 := b5.size
  replace h0 := h0.below b5 (by omega)
  replace o3 := o3.below b5 (by omega)
  replace hB := hB.trans (b5.mono (by omega))
  clear b5
  go_wp2_with fail
  refine (Sl.eqS_same u3 u5 _ _ o3.rd o5.rd (by omega) (by omega)).mono ?_; rintro e w6 ⟨rfl, b6⟩
  have s6 := b6.size
  replace hB := hB.trans (b6.mono (by omega))
  clear b6
  go_wp2_with fail
  go_ret
  exact ⟨rfl, hB⟩

set_option maxRecDepth 100000 in
theorem SlotsText_lifted (os : Os) (started : os.Started) (H : Type) (enc : TypeId × Value → H) :
    ReturnsInHanded {} Tryd.checked os 3 .any (fun w args => (Rows.fnExactSlotsTextSpec.pre enc Tryd.prog Tryd.f3 [] false w args ∧ laidMetH Tryd.prog Rows.fnExactSlotsTextRow.laid w) ∧ sizedMet enc Tryd.prog Tryd.f3 (OpenSpec.ofChange Rows.fnExactSlotsTextSpec) false w args)
      (Rows.fnExactSlotsTextSpec.post enc Tryd.prog Tryd.f3 false true false false) := by
  refine returnsInHanded_of_change_and (C := Tryd.checked) (X := fun w _ => laidMetH Tryd.prog Rows.fnExactSlotsTextRow.laid w) (fun _ _ _ hh h => h.of_heap hh) own started (by kernel_rfl) Tryd.func3
    (ChangeSpec.witness_shaped (enc := enc) (C := Tryd.checked) (os := os) (X := fun w _ => laidMetH Tryd.prog Rows.fnExactSlotsTextRow.laid w) false (World.laidAll Tryd.prog os Rows.fnExactSlotsTextRow.laid) #[.slice none 0 0] 8 (World.laidAll_os _ _ _)
      (World.shaped_of_ZipB (by kernel_rfl) (by kernel_rfl)) (by kernel_rfl) (by kernel_rfl) (by kernel_rfl)
      (by rw [MakeChecks.laidMetH_plain _ _ _ (by kernel_rfl)]; exact laidMet_laidAll _ (by kernel_rfl) (by kernel_rfl))) ?_
  intro W base args ds gs before hval0 hW _ _ hL _
  have hval : ∀ (j : Nat) t v, Tryd.f3.params[j]? = some t → args[j]? = some v → Value.okWide Tryd.prog W .any base t v := hval0
  have hlt : ∀ p ∈ before, p.block < W.heap.size := fun p hp => hW.lt p hp
  have hW' := hW
  obtain ⟨p, q, hA0, hV, rfl, _, _⟩ := hW
  have hA : DataW.TrodAll enc Tryd.prog W 0 (fun _ => true) true Tryd.f3.params.toList args.toList ds p := hA0
  rw [Tryd.params3] at hA hval
  obtain ⟨rfl, rfl⟩ := trodVars_none hV
  obtain ⟨v0, vs0, d0, ds0, p0, q0, hargs, rfl, rfl, h0, r0⟩ := trodAll_cons hA
  obtain ⟨rfl, rfl, rfl⟩ := trodAll_nil r0
  obtain rfl : args = #[v0] := by cases args; simp_all
  obtain ⟨l0, k0⟩ := Sl.openS (hval 0 22 v0 rfl rfl) h0
  simp only [List.append_nil] at hW' hlt
  refine (SlotsText_walk v0 l0 W k0).mono fun e W' ⟨he, hb⟩ => ⟨_, he, ?_⟩
  refine ⟨_, [], _, [], _, [], hW', ?_, ?_, ?_, World.keptBut_mono (fun x hx => ⟨hx, .inr (.inl hx)⟩) (hb.frame _), fun h => by cases h⟩
  · exact trodAll_mk1 (shut_bool Tryd.underlying4 true)
  · rw [List.append_nil, Tryd.params3]; exact trodAll_below laidOut hb _ _ [d0] p0 (by kernel_rfl) (by simpa using hA) (fun x hx => hlt x (by simpa using hx))
  · exact rfl

theorem SlotsText_row : Rows.FnExactSlotsTextSaid :=
  OpenClaim.holds_of_wide 3 Tryd.f3 rfl rfl rfl rfl rfl rfl rfl ⟨rfl, rfl, rfl, rfl, rfl⟩ rfl rfl rfl rfl rfl (by kernel_rfl) Tryd.func3 (by kernel_rfl)
    (of_decide_eq_true (by kernel_rfl)) (by unfold Func.isWrapper; first | (rw [if_pos (by decide +kernel)]; kernel_rfl) | (rw [if_neg (by decide +kernel)]; exact ⟨rfl, rfl⟩))
    (fun os started H enc _ => SlotsText_lifted os started H enc)

theorem SlotsText_holds : Rows.FnExactSlotsTextCardSaid :=
  Claim7.holds_tied_plain_at .later [] [.data, .data, .data] true Rows.fnExactSlotsTextCard.stood.harness Rows.fnExactSlotsTextCard.stood.looks SlotsText_row (fun _ h => by cases h) (by kernel_rfl) (fun _ h => by cases h) fnExactSlotsText_row_tie rfl ⟨rfl, rfl⟩ (by kernel_rfl) rfl
    (fun f fn hf hfn => by
      obtain rfl : f = 3 := Option.some.inj ((show Tryd.prog.funcNamed "loop.example/g00843/laws.FnExactSlotsText" = some 3 by kernel_rfl).symm.trans hf) |>.symm
      obtain rfl : fn = Tryd.f3 := (Option.some.inj (Tryd.func3.symm.trans hfn)).symm
      exact ⟨by kernel_rfl, fun j t ht => by
        rw [Tryd.params3] at ht
        have hm : t ∈ [22] := by simpa using Array.mem_of_getElem? ht
        have hall : ([22].all fun u => !Tryd.prog.wantsStandIn u) = true := by kernel_rfl
        exact (show Tryd.prog.wantsStandIn t = false by simpa using List.all_eq_true.1 hall t hm)⟩)
    (by kernel_rfl)

end Go.Proofs.YtaggjadgbmmjoaaDoor
