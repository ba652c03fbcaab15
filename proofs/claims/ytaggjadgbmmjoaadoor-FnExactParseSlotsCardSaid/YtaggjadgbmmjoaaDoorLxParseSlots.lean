/- 'ParseSlots' of the program and of the reference agree for all arguments, and the program's results share no memory with its arguments. Condition: the library's variables read as their own initialisers lay them, which the card ties to the program's text. -/
import Derived.Test.YtaggjadgbmmjoaaDoorTxU
import Derived.Test.YtaggjadgbmmjoaaDoorTie
import Derived.Test.YtaggjadgbmmjoaaDoorCards
import Derived.LaidOnce
import Derived.ChangeMaps5
import Derived.SevenTiedAt
namespace Go.Proofs.YtaggjadgbmmjoaaDoor
open Go.RowKit Go.ChangeShapes Go.WideShapes Go.Deep

theorem Tx.Pa.len {s : ByteArray} {out : List Sl} {ok : Bool} (h : Tx.Pa s out ok) : out.length ≤ 1048576 := by
  cases ok
  · rw [(h.2 rfl).1]; simp
  · rw [Sl.good_len (h.1 rfl).1]; omega
theorem ParseSlots_walk (s : ByteArray) (W : World) (hE : Tx.Env W) : Calls Tryd.prog 4 #[.string s] W fun e W' => e = .returned (.bool true) ∧ Below W.heap.size W W' := by
  by_cases hz : 1048576 < s.size
  · have hd1 : decide ((1048576 : Int) < (s.size : Int)) = true := decide_eq_true (by omega)
    have hd2 : decide (1048576 < s.size) = true := decide_eq_true hz
    clear hz
    go_enter Tryd.func4, Tryd.ntmps4
    go_wp2_with fail
    go_ret
    exact ⟨rfl, Below.refl _ _⟩
  have hd1 : decide ((1048576 : Int) < (s.size : Int)) = false := decide_eq_false (by omega)
  have hd2 : decide (1048576 < s.size) = false := decide_eq_false hz
  have hs : s.size ≤ 1048576 := by omega
  clear hz
  have c1 := specParseSlots_any s W hs
  have c2 := fun w hE => implParseSlots_any s w hs hE
  go_enter Tryd.func4, Tryd.ntmps4
  go_wp2_with fail
  refine c1.mono ?_; rintro q_ w1 ⟨⟨v1, l1, ok, rfl, hp1, o1⟩, hB⟩
  have HP := Lib.hid hp1
  clear c1 hp1
  have s1 := hB.size
  go_wp2_with fail
  refine (c2 _ (hE.below hB)).mono ?_; rintro q_ w2 ⟨⟨v2, l2, ok2, rfl, hp2, o2⟩, b2⟩
  obtain ⟨rfl, rfl⟩ := HP.out.same hp2
  clear hp2
  have hokk : (ok != ok) = false := by simp
  have hlen : l1.length ≤ 1048576 := HP.out.len
  have s2 := b2.size
  replace o1 := o1.below b2 (by omega)
  replace hB := hB.trans (b2.mono (by omega))
  clear b2
  go_wp2_with fail
  refine (Sl.eqS_same v2 v1 _ _ o2.rd o1.rd (by omega) (by omega)).mono ?_; rintro q_ w3 ⟨rfl, b3⟩
  have s3 := b3.size
  replace o1 := o1.below b3 (by omega)
  replace o2 := o2.below b3 (by omega)
  replace hB := hB.trans (b3.mono (by omega))
  clear b3
  go_wp2_with fail
  refine (Sl.markS_any v2 _ _ o2 _ (by omega) (by omega) hlen).mono ?_; rintro q_ w4 ⟨rfl, p4, t4⟩
  have s4 := t4.size
  replace o1 := o1.turned o2 t4 (by omega)
  replace hB := Below.turned hB o2 t4 (by omega) (by omega)
  clear t4 o2
  have o2 := p4
  clear p4
  go_wp2_with fail
  refine (Sl.heldS_any v2 _ o2.rd (by omega) (by omega) hlen).mono ?_; rintro q_ w_ ⟨rfl, rfl⟩
  go_wp2_with fail
  refine (c2 _ (hE.below hB)).mono ?_; rintro q_ w5 ⟨⟨v5, l5, ok5, rfl, hp5, o5⟩, b5⟩
  obtain ⟨rfl, rfl⟩ := HP.out.same hp5
  clear hp5 c2
  have s5 := b5.size
  replace o1 := o1.below b5 (by omega)
  replace o2 := o2.below b5 (by omega)
  replace hB := hB.trans (b5.mono (by omega))
  clear b5
  go_wp2_with fail
  refine (Sl.eqS_same v5 v1 _ _ o5.rd o1.rd (by omega) (by omega)).mono ?_; rintro q_ w6 ⟨rfl, b6⟩
  have s6 := b6.size
  replace o2 := o2.below b6 (by omega)
  replace hB := hB.trans (b6.mono (by omega))
  clear b6
  go_wp2_with fail
  refine (Sl.heldS_any v2 _ o2.rd (by omega) (by omega) hlen).mono ?_; rintro q_ w_ ⟨rfl, rfl⟩
  go_wp2_with fail
  go_ret
  exact ⟨rfl, hB⟩

set_option maxRecDepth 100000 in
theorem ParseSlots_lifted (os : Os) (started : os.Started) (H : Type) (enc : TypeId × Value → H) :
    ReturnsInHanded {} Tryd.checked os 4 .any (fun w args => (Rows.fnExactParseSlotsSpec.pre enc Tryd.prog Tryd.f4 [] false w args ∧ laidMetH Tryd.prog Rows.fnExactParseSlotsRow.laid w) ∧ sizedMet enc Tryd.prog Tryd.f4 (OpenSpec.ofChange Rows.fnExactParseSlotsSpec) false w args)
      (Rows.fnExactParseSlotsSpec.post enc Tryd.prog Tryd.f4 false true false false) :=
  law_laid (C := Tryd.checked) (s := Rows.fnExactParseSlotsSpec) own started (by kernel_rfl) Tryd.func4
    (ChangeSpec.witness_shaped (enc := enc) (C := Tryd.checked) (os := os) (X := fun w _ => laidMetH Tryd.prog Rows.fnExactParseSlotsRow.laid w) false (World.laidAll Tryd.prog os Rows.fnExactParseSlotsRow.laid) #[.string ⟨#[]⟩] 8 (World.laidAll_os _ _ _)
      (World.shaped_of_ZipB (by kernel_rfl) (by kernel_rfl)) (by kernel_rfl) (by kernel_rfl) (by kernel_rfl)
      (by rw [MakeChecks.laidMetH_plain _ _ _ (by kernel_rfl)]; exact laidMet_laidAll _ (by kernel_rfl) (by kernel_rfl)))
    (by kernel_rfl) laidOut (by kernel_rfl) rfl rfl Tryd.underlying4 (fun ds h => by match ds, h with | [_], _ => rfl)
    (fun W base args ds p hval0 hA0 hL hS => by
      have hval : ∀ (j : Nat) t v, Tryd.f4.params[j]? = some t → args[j]? = some v → Value.okWide Tryd.prog W .any base t v := hval0
      have hA : DataW.TrodAll enc Tryd.prog W 0 (fun _ => true) true Tryd.f4.params.toList args.toList ds p := hA0
      rw [Tryd.params4] at hA hval
      obtain ⟨v0, vs0, d0, ds0, p0, q0, hargs, rfl, rfl, h0, r0⟩ := trodAll_cons hA
      obtain ⟨rfl, rfl, rfl⟩ := trodAll_nil r0
      obtain rfl : args = #[v0] := by cases args; simp_all
      obtain ⟨s, rfl, _⟩ := Go.ChangeMaps.open_string Tryd.underlying9 (hval 0 9 v0 rfl rfl) h0
      exact ParseSlots_walk s W (Tx.env_laid hS hL))

theorem ParseSlots_row : Rows.FnExactParseSlotsSaid :=
  OpenClaim.holds_of_wide 4 Tryd.f4 rfl rfl rfl rfl rfl rfl rfl ⟨rfl, rfl, rfl, rfl, rfl⟩ rfl rfl rfl rfl rfl (by kernel_rfl) Tryd.func4 (by kernel_rfl)
    (of_decide_eq_true (by kernel_rfl)) (by unfold Func.isWrapper; first | (rw [if_pos (by decide +kernel)]; kernel_rfl) | (rw [if_neg (by decide +kernel)]; exact ⟨rfl, rfl⟩))
    (fun os started H enc _ => ParseSlots_lifted os started H enc)

theorem ParseSlots_holds : Rows.FnExactParseSlotsCardSaid :=
  Claim7.holds_tied_plain_at .later [] [.data, .data, .data, .data, .sentinel, .sentinel, .pinned] true Rows.fnExactParseSlotsCard.stood.harness Rows.fnExactParseSlotsCard.stood.looks ParseSlots_row (fun _ h => by cases h) (by kernel_rfl) (fun _ h => by cases h) fnExactParseSlots_row_tie rfl ⟨rfl, rfl⟩ (by kernel_rfl) rfl
    (fun f fn hf hfn => by
      obtain rfl : f = 4 := Option.some.inj ((show Tryd.prog.funcNamed "loop.example/g00843/laws.FnExactParseSlots" = some 4 by kernel_rfl).symm.trans hf) |>.symm
      obtain rfl : fn = Tryd.f4 := (Option.some.inj (Tryd.func4.symm.trans hfn)).symm
      exact ⟨by kernel_rfl, fun j t ht => by
        rw [Tryd.params4] at ht
        have hm : t ∈ [9] := by simpa using Array.mem_of_getElem? ht
        have hall : ([9].all fun u => !Tryd.prog.wantsStandIn u) = true := by kernel_rfl
        exact (show Tryd.prog.wantsStandIn t = false by simpa using List.all_eq_true.1 hall t hm)⟩)
    (by kernel_rfl)

end Go.Proofs.YtaggjadgbmmjoaaDoor
