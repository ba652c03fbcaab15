/- Whether a processor interface is valid, in the program and in the reference. Condition: at most 1048576 numbers on the stack. -/
import Derived.Test.YtengaccnncnipaaGreatFaH
import Derived.Test.YtengaccnncnipaaGreatSortLay
import Derived.Test.YtengaccnncnipaaGreatQuSet
import Derived.Deep.DeepCutAuto
namespace Go.Proofs.YtengaccnncnipaaGreat
open Go.RowKit Go.ChangeShapes Go.WideShapes Go.Deep

theorem Fa.good_no1 {m : Int} {st : List Int} {ls : List Sl} {lw : List Wt} (h : inB m 0 16 = false) : Fa.good m st ls lw = false := by simp [Fa.good, h]
theorem Fa.good_no2 {m : Int} {st : List Int} {ls : List Sl} {lw : List Wt} (h : Qu.good ls lw = false) : Fa.good m st ls lw = false := by simp [Fa.good, h]
theorem Fa.good_at {m : Int} {st : List Int} {ls : List Sl} {lw : List Wt} (h : inB m 0 16 = true) (h2 : Qu.good ls lw = true) : Fa.good m st ls lw = (Fa.same st ls && Fa.descTo ls st st.length) := by simp [Fa.good, h, h2]
theorem Fa.desc_mono {ls : List Sl} {st : List Int} {k n : Nat} (hk : k ≤ n) (h : Fa.descTo ls st n = true) : Fa.descTo ls st k = true := Fa.descTo_iff.2 fun j hj => Fa.descTo_iff.1 h j (by omega)
theorem Fa.okTo_mono {ls : List Sl} {st : List Int} {k n : Nat} (hk : k ≤ n) (h : Fa.okTo ls st n = true) : Fa.okTo ls st k = true := Fa.okTo_iff.2 fun j x hj hx => Fa.okTo_iff.1 h j x (by omega) hx
/-- an active interrupt lies in a slot -/
theorem Sl.active_ix {ls : List Sl} (hg : Sl.good ls = true) {i : Int} (h : i ∈ Sl.active ls) : ∃ k : Nat, Sl.ix ls i = k ∧ k < ls.length := by
  obtain ⟨p, s, hs, ha, rfl, _⟩ := Sl.act_active.1 h
  obtain ⟨k, hk⟩ := List.getElem?_of_mem hs
  exact ⟨k, (Sl.lvl_of hg hk (Sl.isAct_used ha)).1, (List.getElem?_eq_some_iff.1 hk).1⟩

set_option maxHeartbeats 1600000 in
theorem implIsInterface_any (m : Int) (vt vs vw : Value) (st : List Int) (ls : List Sl) (lw : List Wt) (w : World) {lo hi lo2 hi2 lo3 hi3 : Nat} (h0 : Rd Nm.cells 1 w lo3 hi3 vt st) (h : Rd Sl.cells 3 w lo hi vs ls) (h2 : Rd Wt.cells 2 w lo2 hi2 vw lw) (hh0 : hi3 ≤ w.heap.size) (hh : hi ≤ w.heap.size) (hh2 : hi2 ≤ w.heap.size) (hl : st.length ≤ 1048576) :
    Calls Tryz.prog 35 #[.agg #[.int .i64 m, vt, vs, vw]] w fun e w' => e = .returned (.bool (Fa.good m st ls lw)) ∧ Below w.heap.size w w' := by
  have b0 := (Below.refl w.heap.size w).alloc (Nat.le_refl _) (.cells #[.int .i64 m, vt, vs, vw] 35)
  have z0 : (w.alloc (.cells #[.int .i64 m, vt, vs, vw] 35)).heap.size = w.heap.size + 1 := by simp
  have bx := Box.new w #[.int .i64 m, vt, vs, vw] 35 rfl
  have ht := h0.below b0 hh0
  have hs := h.below b0 hh
  have hw := h2.below b0 hh2
  have hv0 := h0.form
  have hv := h.form
  have hv2 := h2.form
  clear h0 h h2
  generalize hwA : w.alloc (.cells #[.int .i64 m, vt, vs, vw] 35) = wA at *
  obtain ⟨At, nt, dt, rfl, Ht, hdt, hmt⟩ := hv0
  obtain ⟨A0, n0, d0, rfl, H0, hd0, hm0⟩ := hv
  obtain ⟨A1, n1, d1, rfl, H1, hd1, hm1⟩ := hv2
  have c1 := fun W => isMask_any m W
  have c2 := implIsQueue_any _ _ ls lw wA hs hw (by omega) (by omega)
  have x0 := bx.cell (j := 0) rfl
  have x1 := bx.cell (j := 1) rfl
  have x2 := bx.cell (j := 2) rfl
  have x3 := bx.cell (j := 3) rfl
  cases hm : inB m 0 16
  · have HF := Lib.hid (Fa.good_no1 (st := st) (ls := ls) (lw := lw) hm)
    rw [hm] at c1
    clear hm
    go_enter Tryz.func35, Tryz.ntmps35
    go_wp2_with fail
    refine (c1 _).mono ?_; rintro q_ w_ ⟨rfl, rfl⟩
    go_wp2_with fail
    go_ret
    exact ⟨ret_bool HF.out.symm, b0⟩
  rw [hm] at c1
  cases hq : Qu.good ls lw
  · have HF := Lib.hid (Fa.good_no2 (m := m) (st := st) hq)
    rw [hq] at c2
    clear hm hq
    go_enter Tryz.func35, Tryz.ntmps35
    go_wp2_with fail
    refine (c1 _).mono ?_; rintro q_ w_ ⟨rfl, rfl⟩
    go_wp2_with fail
    refine c2.mono ?_; rintro q_ w1 ⟨rfl, b1⟩
    go_wp2_with fail
    go_ret
    exact ⟨ret_bool HF.out.symm, b0.trans (b1.mono (by omega))⟩
  rw [hq] at c2
  have HG := Lib.hid (Qu.parts_get (Qu.good_parts hq).1).1
  have HA := Lib.hid (Fa.good_at (st := st) hm hq)
  clear hm hq
  go_enter Tryz.func35, Tryz.ntmps35
  go_wp2_with fail
  clear hwA
  refine (c1 _).mono ?_; rintro q_ w_ ⟨rfl, rfl⟩
  go_wp2_with fail
  refine c2.mono ?_; rintro q_ w1 ⟨rfl, b1⟩
  replace bx := bx.below b1 bx.lt
  have z1 := b1.size
  replace ht := ht.below b1 (by omega)
  replace hs := hs.below b1 (by omega)
  replace b0 := b0.trans (b1.mono (by omega))
  clear b1 x0 x1 x2 x3 hw c1 c2
  have x1 := bx.cell (j := 1) rfl
  go_wp2_with fail
  refine (copyInts_any _ st w1 ht (by omega) hl).mono ?_; rintro q_ w2 ⟨v3, rfl, o3, b2⟩
  obtain ⟨A3, n3, d3, rfl, _, _, _⟩ := o3.rd.form
  clear x1
  have x1 := bx.below b2 bx.lt
  go_wp2_with fail
  refine (sortI_any w1 A3 n3 d3 st hl w2 b2 o3 (Nat.le_refl _)).mono ?_; rintro q_ w3 ⟨rfl, o4, hh4, b3⟩
  have z2 := b2.size
  have z3 := b3.size
  replace bx := bx.below b3 bx.lt
  replace ht := ht.below b3 (by omega)
  replace hs := hs.below b3 (by omega)
  replace b0 := b0.trans (b3.mono (by omega))
  clear b2 b3 x1 o3
  have x1 := bx.cell (j := 1) rfl
  have x2 := bx.cell (j := 2) rfl
  have x3 := bx.cell (j := 3) rfl
  go_wp2_with fail
  refine (activeIrqs_any _ ls w3 hs (by omega) HG.out).mono ?_; rintro q_ w4 ⟨v5, rfl, o5, b4⟩
  have z4 := b4.size
  replace bx := bx.below b4 bx.lt
  replace ht := ht.below b4 (by omega)
  replace hs := hs.below b4 (by omega)
  replace o4 := o4.below b4 (by omega)
  replace b0 := b0.trans (b4.mono (by omega))
  obtain ⟨A5, n5, d5, rfl, _, _, _⟩ := o5.rd.form
  have c3 := equalInts_any _ _ _ _ w4 o4.rd o5.rd (by omega) (by omega)
  clear b4 x1 x2 x3
  cases he : ((st.mergeSort fun x y => decide (x ≤ y)) == Sl.active ls)
  · have HF := Lib.hid (HA.out.trans (show (Fa.same st ls && Fa.descTo ls st st.length) = false from by simp [Fa.same, he]))
    rw [he] at c3
    clear he HA HG
    go_wp2_with fail
    refine c3.mono ?_; rintro q_ w5 ⟨rfl, b5⟩
    replace b0 := b0.trans (b5.mono (by omega))
    go_wp2_with fail
    go_ret
    exact ⟨ret_bool HF.out.symm, b0⟩
  have HS := Lib.hid (show Fa.same st ls = true from he)
  replace HA := Lib.hid (HA.out.trans (show (Fa.same st ls && Fa.descTo ls st st.length) = Fa.descTo ls st st.length from by simp [HS.out]))
  rw [he] at c3
  clear he
  go_wp2_with fail
  refine c3.mono ?_; rintro q_ w5 ⟨rfl, b5⟩
  have z5 := b5.size
  replace bx := bx.below b5 bx.lt
  replace ht := ht.below b5 (by omega)
  replace hs := hs.below b5 (by omega)
  replace b0 := b0.trans (b5.mono (by omega))
  clear b5 o4 o5 hh4 c3
  have hn := ht.n_eq.1
  have hc := ht.n_eq.2
  have hix : ∀ (j : Nat) (x : Int), st[j]? = some x → ∃ k : Nat, Sl.ix ls x = k ∧ k < ls.length := fun j x hx => Sl.active_ix HG.out (((Fa.same_iff.1 HS.out).2 x).1 (List.mem_of_getElem? hx))
  have zq : hi ≤ w5.heap.size := by omega
  have zq3 : hi3 ≤ w5.heap.size := by omega
  clear hh hh0 hh2 z0 z1 z2 z3 z4 z5 HG HS
  go_wp2_with fail
  go_loopw [4] (fun i wr => ∃ k : Nat, 1 ≤ k ∧ k ≤ nt + 1 ∧ i = .int .i64 k ∧ Below w5.heap.size w5 wr ∧ Hid (Fa.descTo ls st k = true)) (fun i _ => nt + 1 - (intOf i).toNat)
  case atStart => exact ⟨1, Nat.le_refl _, by omega, rfl, Below.refl _ _, Lib.hid rfl⟩
  case round =>
    obtain ⟨k, h1k, hk, rfl, hb, HD⟩ := hrel
    have bxr := bx.below hb bx.lt
    have x1 := bxr.cell (j := 1) rfl
    have x2 := bxr.cell (j := 2) rfl
    by_cases hlt : k < nt
    · obtain ⟨j, rfl⟩ : ∃ j, k = j + 1 := ⟨k - 1, by omega⟩
      obtain ⟨b, off, x, rfl, hx, _, _, f0⟩ := Nm.get ht hlt hb zq3
      obtain ⟨_, _, y, e, hy, _, _, g0⟩ := Nm.get ht (k := j) (by omega) hb zq3
      injection e with e
      injection e with e1 e2
      subst e1; subst e2
      have hki : ((j + 1 : Nat) : Int) < (nt : Int) := by omega
      have hj : (j : Int) < (nt : Int) := by omega
      have hsr := hs.below hb zq
      have zr := Nat.le_trans zq hb.size
      have cP := fun p i (H : Hid (∃ k : Nat, Sl.ix ls i = k ∧ k < ls.length)) => priorityIn_any _ ls i (ext wr p) (hsr.below (below_ext wr p) zr) (Nat.le_trans zr (below_ext wr p).size) H.out.choose_spec.1 H.out.choose_spec.2
      have HX := Lib.hid (hix _ _ hx.out)
      have HY := Lib.hid (hix _ _ hy.out)
      have hda : Fa.descAt ls st (j + 1) = decide (Sl.lvl ls x < Sl.lvl ls y) := by simp [Fa.descAt, List.getD_eq_getElem?_getD, hx.out, hy.out]
      have hbw := Nat.le_trans bx.lt hb.size
      clear hx hy
      have e0 := cell_ext f0; have e1 := cell_ext g0; have e2 := cell_ext x1; have e3 := cell_ext x2
      generalize Sl.lvl ls = L at cP hda
      by_cases hq : L x < L y
      · have HD2 := Lib.hid (show Fa.descTo ls st (j + 1 + 1) = true from by rw [Fa.descTo, HD.out, hda]; simpa using hq)
        have hd : decide (L y ≤ L x) = false := decide_eq_false (by omega)
        clear HD hda hq
        go_wp2_with fail
        refine wp_region_ext_all (by kernel_rfl) (by kernel_rfl) ?_
        repeat (go_big_quiet_step ((go_at_call 86; exact calls_ext (cP _ _ (by assumption)))))
        refine wpQuiet_nil ?_
        intro w6 b6
        clear e0 e1 e2 e3
        replace hb := hb.trans (b6.mono hb.size)
        go_wp2_with fail
        go_roundw
        case rel => exact ⟨j + 1 + 1, by omega, by omega, by go_num, hb, HD2⟩
        case measure => simp [intOf]; omega
      · have HF := Lib.hid (HA.out.trans (show Fa.descTo ls st st.length = false from by
          rw [← Bool.not_eq_true]
          intro h
          have := Fa.descTo_iff.1 h (j + 1) (by omega)
          rw [hda] at this
          exact hq (by simpa using this)))
        have hd : decide (L y ≤ L x) = true := decide_eq_true (by omega)
        clear HD hda hq HA
        go_wp2_with fail
        refine wp_region_ext_all (by kernel_rfl) (by kernel_rfl) ?_
        repeat (go_big_quiet_step ((go_at_call 86; exact calls_ext (cP _ _ (by assumption)))))
        refine wpQuiet_nil ?_
        intro w6 b6
        clear e0 e1 e2 e3
        replace hb := hb.trans (b6.mono hb.size)
        go_wp2_with fail
        go_ret
        exact ⟨ret_bool HF.out.symm, b0.trans (hb.mono b0.size)⟩
    · have HF := Lib.hid (HA.out.trans (Fa.desc_mono (by omega) HD.out))
      clear HA HD
      go_wp2_with fail
      go_ret
      exact ⟨ret_bool HF.out.symm, b0.trans (hb.mono b0.size)⟩

end Go.Proofs.YtengaccnncnipaaGreat
