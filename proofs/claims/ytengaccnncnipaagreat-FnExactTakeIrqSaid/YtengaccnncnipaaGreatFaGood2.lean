/- Whether a processor interface is valid, in the reference; the exported functions. No condition but room. -/
import Derived.Test.YtengaccnncnipaaGreatFaGood
import Derived.Test.YtengaccnncnipaaGreatHas
namespace Go.Proofs.YtengaccnncnipaaGreat
open Go.RowKit Go.ChangeShapes Go.WideShapes Go.Deep

/-- the value v holds a row in which x lies, or not -/
def Fa.HasB (w : World) (v : Value) (x : Int) (b : Bool) : Prop := ∃ (l : List Int) (lo hi : Nat), Rd Nm.cells 1 w lo hi v l ∧ hi ≤ w.heap.size ∧ l.contains x = b
theorem Fa.okAt_no1 {ls : List Sl} {st : List Int} {i : Nat} {x : Int} (h : (Sl.active ls).contains x = false) : Fa.okAt ls st i x = false := by unfold Fa.okAt; rw [h]; rfl
theorem Fa.okAt_no2 {ls : List Sl} {st : List Int} {i : Nat} {x : Int} (h : (st.take i).contains x = true) : Fa.okAt ls st i x = false := by unfold Fa.okAt; rw [h]; simp
theorem Fa.okAt_at {ls : List Sl} {st : List Int} {i : Nat} {x : Int} (h : (Sl.active ls).contains x = true) (h2 : (st.take i).contains x = false) : Fa.okAt ls st i x = Fa.descAt ls st i := by unfold Fa.okAt; rw [h, h2]; simp
theorem Fa.okAt_has {ls : List Sl} {st : List Int} {i : Nat} {x : Int} (h : Fa.okAt ls st i x = true) : x ∈ Sl.active ls := by
  simp only [Fa.okAt, Bool.and_eq_true, List.contains_eq_mem, decide_eq_true_eq] at h; exact h.1.1
theorem Fa.okTo_no {ls : List Sl} {st : List Int} {i : Nat} {x : Int} (hx : st[i]? = some x) (h : Fa.okAt ls st i x = false) : Fa.okTo ls st st.length = false := by
  rw [← Bool.not_eq_true]
  intro e
  rw [Fa.okTo_iff.1 e i x (List.getElem?_eq_some_iff.1 hx).1 hx] at h
  simp at h

set_option maxHeartbeats 4000000 in
theorem l10Good_any (m : Int) (vt vs vw : Value) (st : List Int) (ls : List Sl) (lw : List Wt) (w : World) {lo hi lo2 hi2 lo3 hi3 : Nat} (h0 : Rd Nm.cells 1 w lo3 hi3 vt st) (h : Rd Sl.cells 3 w lo hi vs ls) (h2 : Rd Wt.cells 2 w lo2 hi2 vw lw) (hh0 : hi3 ≤ w.heap.size) (hh : hi ≤ w.heap.size) (hh2 : hi2 ≤ w.heap.size) :
    Calls Tryz.prog 52 #[.agg #[.int .i64 m, vt, vs, vw]] w fun e w' => e = .returned (.bool (Fa.good m st ls lw)) ∧ Below w.heap.size w w' := by
  have b0 := (Below.refl w.heap.size w).alloc (Nat.le_refl _) (.cells #[.int .i64 m, vt, vs, vw] 35)
  have z0 : (w.alloc (.cells #[.int .i64 m, vt, vs, vw] 35)).heap.size = w.heap.size + 1 := by simp
  have bx := Box.new w #[.int .i64 m, vt, vs, vw] 35 rfl
  have ht := h0.below b0 hh0
  have hs := h.below b0 hh
  have hw := h2.below b0 hh2
  have hv0 := h0.form
  have hv := h.form
  have hv2 := h2.form
  clear h0 h h2
  generalize hwA : w.alloc (.cells #[.int .i64 m, vt, vs, vw] 35) = wA at *
  obtain ⟨At, nt, dt, rfl, Ht, hdt, hmt⟩ := hv0
  obtain ⟨A0, n0, d0, rfl, H0, hd0, hm0⟩ := hv
  obtain ⟨A1, n1, d1, rfl, H1, hd1, hm1⟩ := hv2
  have c1 := fun W => l1In_any m 0 16 W
  have c2 := l9Good_any _ _ ls lw wA hs hw (by omega) (by omega)
  have x0 := bx.cell (j := 0) rfl
  have x1 := bx.cell (j := 1) rfl
  have x2 := bx.cell (j := 2) rfl
  have x3 := bx.cell (j := 3) rfl
  cases hm : inB m 0 16
  · have HF := Lib.hid (Fa.good_no1 (st := st) (ls := ls) (lw := lw) hm)
    rw [hm] at c1
    clear hm
    go_enter Tryz.func52, Tryz.ntmps52
    go_wp2_with fail
    refine (c1 _).mono ?_; rintro q_ w_ ⟨rfl, rfl⟩
    go_wp2_with fail
    go_ret
    exact ⟨ret_bool HF.out.symm, b0⟩
  rw [hm] at c1
  cases hq : Qu.good ls lw
  · have HF := Lib.hid (Fa.good_no2 (m := m) (st := st) hq)
    rw [hq] at c2
    clear hm hq
    go_enter Tryz.func52, Tryz.ntmps52
    go_wp2_with fail
    refine (c1 _).mono ?_; rintro q_ w_ ⟨rfl, rfl⟩
    go_wp2_with fail
    refine c2.mono ?_; rintro q_ w1 ⟨rfl, b1⟩
    go_wp2_with fail
    go_ret
    exact ⟨ret_bool HF.out.symm, b0.trans (b1.mono (by omega))⟩
  rw [hq] at c2
  have HG := Lib.hid (Qu.parts_get (Qu.good_parts hq).1).1
  have HA := Lib.hid ((Fa.good_at (st := st) hm hq).trans (Fa.ok_eq st ls).symm)
  clear hm hq
  go_enter Tryz.func52, Tryz.ntmps52
  go_wp2_with fail
  clear hwA
  refine (c1 _).mono ?_; rintro q_ w_ ⟨rfl, rfl⟩
  go_wp2_with fail
  refine c2.mono ?_; rintro q_ w1 ⟨rfl, b1⟩
  replace bx := bx.below b1 bx.lt
  have z1 := b1.size
  replace ht := ht.below b1 (by omega)
  replace hs := hs.below b1 (by omega)
  replace b0 := b0.trans (b1.mono (by omega))
  clear b1 x0 x1 x2 x3 hw c1 c2
  have x1 := bx.cell (j := 1) rfl
  have x2 := bx.cell (j := 2) rfl
  have x3 := bx.cell (j := 3) rfl
  go_wp2_with fail
  refine (l8Active_any _ ls w1 hs (by omega) HG.out).mono ?_; rintro q_ w4 ⟨v5, rfl, o5, b4⟩
  have z4 := b4.size
  replace bx := bx.below b4 bx.lt
  replace ht := ht.below b4 (by omega)
  replace hs := hs.below b4 (by omega)
  replace b0 := b0.trans (b4.mono (by omega))
  obtain ⟨A5, n5, d5, rfl, _, _, _⟩ := o5.form
  clear b4 x1 x2 x3
  have hn := Nat.le_of_eq ht.n_eq.1
  have hn' := Nat.le_of_eq ht.n_eq.1.symm
  have hc := ht.n_eq.2
  have hn5 := Nat.le_of_eq o5.n_eq.1
  have hn5' := Nat.le_of_eq o5.n_eq.1.symm
  have zq : hi ≤ w4.heap.size := by omega
  have zq3 : hi3 ≤ w4.heap.size := by omega
  clear hh hh0 hh2 z0 z1 z4
  go_wp2_with fail
  go_loopw [4] (fun i wr => ∃ k : Nat, k ≤ nt ∧ i = .int .i64 k ∧ Below w4.heap.size w4 wr ∧ Hid (Fa.okTo ls st k = true)) (fun i _ => nt - (intOf i).toNat)
  case atStart => exact ⟨0, Nat.zero_le _, rfl, Below.refl _ _, Lib.hid rfl⟩
  case round =>
    obtain ⟨k, hk, rfl, hb, HD⟩ := hrel
    have bxr := bx.below hb bx.lt
    have x1 := bxr.cell (j := 1) rfl
    have x2 := bxr.cell (j := 2) rfl
    have x3 := bxr.cell (j := 3) rfl
    by_cases hlt : k < nt
    · obtain ⟨b, off, x, rfl, hx, _, hbh, f0⟩ := Nm.get ht hlt hb zq3
      have hki : (k : Int) < (nt : Int) := by omega
      have hkn : k ≤ nt := by omega
      have hkc : k ≤ dt := by omega
      have htr := ht.below hb zq3
      have hsr := hs.below hb zq
      have zr := Nat.le_trans zq hb.size
      have zr3 := Nat.le_trans zq3 hb.size
      have hac : ∀ p, Fa.HasB (ext wr p) (.slice A5 n5 d5) x ((Sl.active ls).contains x) := fun p => ⟨_, _, _, (o5.below hb (Nat.le_refl _)).below (below_ext wr p) hb.size, Nat.le_trans hb.size (below_ext wr p).size, rfl⟩
      have htc : ∀ p, Fa.HasB (ext wr p) (.slice (some ⟨b, off, none⟩) k dt) x ((st.take k).contains x) := fun p => ⟨_, _, _, (htr.take_ hkn).below (below_ext wr p) zr3, Nat.le_trans zr3 (below_ext wr p).size, rfl⟩
      have cH := fun p v x b (H : ∀ p, Fa.HasB (ext wr p) v x b) => (l1Has_any v _ x (ext wr p) (H p).choose_spec.choose_spec.choose_spec.1 (H p).choose_spec.choose_spec.choose_spec.2.1).mono (R' := fun e w' => e = .returned (.bool b) ∧ ext wr p = w') (fun e w' h => ⟨h.1.trans (ret_bool (H p).choose_spec.choose_spec.choose_spec.2.2), h.2⟩)
      have e0 := cell_ext f0; have e1 := cell_ext x1; have e2 := cell_ext x2; have e3 := cell_ext x3
      cases h1 : (Sl.active ls).contains x
      · have HF := Lib.hid (HA.out.trans (show _ = false from by rw [Fa.okTo_no hx.out (Fa.okAt_no1 h1)]; rfl))
        rw [h1] at hac
        clear h1 hx htc
        go_wp2_with fail
        refine wp_region_ext_all (by kernel_rfl) (by kernel_rfl) ?_
        repeat (go_big_quiet_step ((go_at_call 100; exact calls_ext0 (cH _ _ _ _ (by assumption)))))
        refine wpQuiet_nil ?_
        intro w6 b6
        clear e0 e1 e2 e3
        replace hb := hb.trans (b6.mono hb.size)
        go_wp2_with fail
        go_ret
        exact ⟨ret_bool HF.out.symm, b0.trans (hb.mono b0.size)⟩
      rw [h1] at hac
      cases h2 : (st.take k).contains x
      rotate_left
      · have HF := Lib.hid (HA.out.trans (show _ = false from by rw [Fa.okTo_no hx.out (Fa.okAt_no2 h2)]; rfl))
        rw [h2] at htc
        clear h1 h2 hx
        go_wp2_with fail
        refine wp_region_ext_all (by kernel_rfl) (by kernel_rfl) ?_
        repeat (go_big_quiet_step ((go_at_call 100; exact calls_ext0 (cH _ _ _ _ (by assumption)))))
        refine wpQuiet_nil ?_
        intro w6 b6
        clear e0 e1 e2 e3
        replace hb := hb.trans (b6.mono hb.size)
        go_wp2_with fail
        go_ret
        exact ⟨ret_bool HF.out.symm, b0.trans (hb.mono b0.size)⟩
      rw [h2] at htc
      have hat := Fa.okAt_at h1 h2
      have hxa : x ∈ Sl.active ls := by simpa using h1
      have HX := Lib.hid (Sl.active_ix HG.out hxa)
      clear h1 h2 hxa
      rcases Nat.eq_zero_or_pos k with hk0 | hk0
      · obtain rfl : k = 0 := by omega
        simp only [Nat.add_zero] at e0
        have HD2 := Lib.hid (show Fa.okTo ls st (0 + 1) = true from by rw [Fa.okTo_succ hx.out, HD.out, hat]; rfl)
        clear HD hat hx hk0
        go_wp2_with fail
        refine wp_region_ext_all (by kernel_rfl) (by kernel_rfl) ?_
        repeat (go_big_quiet_step ((go_at_call 100; exact calls_ext0 (cH _ _ _ _ (by assumption)))))
        refine wpQuiet_nil ?_
        intro w6 b6
        clear e0 e1 e2 e3 f0 x1 x2 x3
        replace hb := hb.trans (b6.mono hb.size)
        clear b6
        go_wp2_with fail
        refine wp_region_ext_all (by kernel_rfl) (by kernel_rfl) ?_
        repeat (go_big_quiet_step (fail))
        refine wpQuiet_nil ?_
        intro w7 b7
        replace hb := hb.trans (b7.mono hb.size)
        go_wp2_with fail
        go_roundw
        case rel => exact ⟨0 + 1, by omega, by go_num, hb, HD2⟩
        case measure => simp [intOf]; omega
      obtain ⟨j, rfl⟩ : ∃ j, k = j + 1 := ⟨k - 1, by omega⟩
      obtain ⟨_, _, y, e, hy, _, _, g0⟩ := Nm.get ht (k := j) (by omega) hb zq3
      injection e with e
      injection e with e1 e2
      subst e1; subst e2
      have hd : decide ((0 : Int) < ((j + 1 : Nat) : Int)) = true := decide_eq_true (by omega)
      have hj : (j : Int) < (nt : Int) := by omega
      have HY := Lib.hid (Sl.active_ix HG.out (Fa.okAt_has (Fa.okTo_iff.1 HD.out j y (by omega) hy.out)))
      have hda : Fa.descAt ls st (j + 1) = decide (Sl.lvl ls x < Sl.lvl ls y) := by simp [Fa.descAt, List.getD_eq_getElem?_getD, hx.out, hy.out]
      rw [hda] at hat
      have HT := Lib.hid (show Fa.okTo ls st (j + 1 + 1) = Fa.okAt ls st (j + 1) x from by rw [Fa.okTo_succ hx.out, HD.out]; rfl)
      have HTN := Lib.hid (fun h => Fa.okTo_no (ls := ls) hx.out h)
      have LV := Lib.hid (show ∃ L, L = Sl.lvl ls from ⟨_, rfl⟩)
      obtain ⟨L, hL⟩ := LV.out
      clear LV
      rw [← hL] at hat
      have HL := Lib.hid hL
      clear hL hx hy hda HD
      by_cases hq : L x < L y
      · have HD2 := Lib.hid (show Fa.okTo ls st (j + 1 + 1) = true from by rw [HT.out, hat]; simpa using hq)
        have hd2 : decide (L y ≤ L x) = false := decide_eq_false (by omega)
        clear HT HTN hat hq
        go_wp2_with fail
        refine wp_region_ext_all (by kernel_rfl) (by kernel_rfl) ?_
        repeat (go_big_quiet_step ((go_at_call 100; exact calls_ext0 (cH _ _ _ _ (by assumption)))))
        refine wpQuiet_nil ?_
        intro w6 b6
        clear e0 e1 e2 e3 cH
        have f0' := ((bcell b6).1 _ _ (by omega)).trans f0
        have g0' := ((bcell b6).1 _ _ (by omega)).trans g0
        have y1 := ((bcell b6).1 _ _ bxr.lt).trans x1
        have y2 := ((bcell b6).1 _ _ bxr.lt).trans x2
        have y3 := ((bcell b6).1 _ _ bxr.lt).trans x3
        replace hsr := hsr.below b6 zr
        replace zr := Nat.le_trans zr b6.size
        replace hb := hb.trans (b6.mono hb.size)
        clear f0 g0 x1 x2 x3 b6 htr
        have cL := fun p i (H : Hid (∃ k : Nat, Sl.ix ls i = k ∧ k < ls.length)) => (l10Level_any _ (.slice A1 n1 d1) ls i (ext w6 p) (hsr.below (below_ext w6 p) zr) (Nat.le_trans zr (below_ext w6 p).size) H.out.choose_spec.1 H.out.choose_spec.2).mono (R' := fun e w' => e = .returned (.int .i64 (L i)) ∧ Below (ext w6 p).heap.size (ext w6 p) w') (fun e w' h => ⟨h.1.trans (ret_int (congrFun HL.out i).symm), h.2⟩)
        have e0 := cell_ext f0'; have e1 := cell_ext g0'; have e2 := cell_ext y1; have e3 := cell_ext y2; have e4 := cell_ext y3
        go_wp2_with fail
        refine wp_region_ext_all (by kernel_rfl) (by kernel_rfl) ?_
        repeat (go_big_quiet_step ((go_at_call 101; exact calls_ext (cL _ _ (by assumption)))))
        refine wpQuiet_nil ?_
        intro w7 b7
        clear e0 e1 e2 e3 e4
        replace hb := hb.trans (b7.mono hb.size)
        go_wp2_with fail
        go_roundw
        case rel => exact ⟨j + 1 + 1, by omega, by go_num, hb, HD2⟩
        case measure => simp [intOf]; omega
      · have HF := Lib.hid (HA.out.trans (show _ = false from by rw [HTN.out (by rw [hat]; simpa using hq)]; rfl))
        have hd2 : decide (L y ≤ L x) = true := decide_eq_true (by omega)
        clear HT HTN hat hq
        go_wp2_with fail
        refine wp_region_ext_all (by kernel_rfl) (by kernel_rfl) ?_
        repeat (go_big_quiet_step ((go_at_call 100; exact calls_ext0 (cH _ _ _ _ (by assumption)))))
        refine wpQuiet_nil ?_
        intro w6 b6
        clear e0 e1 e2 e3 cH
        have f0' := ((bcell b6).1 _ _ (by omega)).trans f0
        have g0' := ((bcell b6).1 _ _ (by omega)).trans g0
        have y1 := ((bcell b6).1 _ _ bxr.lt).trans x1
        have y2 := ((bcell b6).1 _ _ bxr.lt).trans x2
        have y3 := ((bcell b6).1 _ _ bxr.lt).trans x3
        replace hsr := hsr.below b6 zr
        replace zr := Nat.le_trans zr b6.size
        replace hb := hb.trans (b6.mono hb.size)
        clear f0 g0 x1 x2 x3 b6 htr
        have cL := fun p i (H : Hid (∃ k : Nat, Sl.ix ls i = k ∧ k < ls.length)) => (l10Level_any _ (.slice A1 n1 d1) ls i (ext w6 p) (hsr.below (below_ext w6 p) zr) (Nat.le_trans zr (below_ext w6 p).size) H.out.choose_spec.1 H.out.choose_spec.2).mono (R' := fun e w' => e = .returned (.int .i64 (L i)) ∧ Below (ext w6 p).heap.size (ext w6 p) w') (fun e w' h => ⟨h.1.trans (ret_int (congrFun HL.out i).symm), h.2⟩)
        have e0 := cell_ext f0'; have e1 := cell_ext g0'; have e2 := cell_ext y1; have e3 := cell_ext y2; have e4 := cell_ext y3
        go_wp2_with fail
        refine wp_region_ext_all (by kernel_rfl) (by kernel_rfl) ?_
        repeat (go_big_quiet_step ((go_at_call 101; exact calls_ext (cL _ _ (by assumption)))))
        refine wpQuiet_nil ?_
        intro w7 b7
        clear e0 e1 e2 e3 e4
        replace hb := hb.trans (b7.mono hb.size)
        go_wp2_with fail
        go_ret
        exact ⟨ret_bool HF.out.symm, b0.trans (hb.mono b0.size)⟩
    · have HD2 := Lib.hid (show Fa.okTo ls st st.length = true from by have := HD.out; rwa [show k = st.length from by omega] at this)
      by_cases hnn : nt = n5
      · have HF := Lib.hid (HA.out.trans (show _ = true from by rw [HD2.out, decide_eq_true (by omega)]; rfl))
        have hnd : ((nt : Int) == (n5 : Int)) = true := by rw [hnn]; simp
        clear HD HD2 HA hnn hn hn5 hn' hn5'
        go_wp2_with fail
        go_ret
        exact ⟨ret_bool HF.out.symm, b0.trans (hb.mono b0.size)⟩
      · have HF := Lib.hid (HA.out.trans (show _ = false from by rw [HD2.out, decide_eq_false (by omega)]; rfl))
        have hnd : ((nt : Int) == (n5 : Int)) = false := by rw [beq_eq_false_iff_ne]; omega
        clear HD HD2 HA hnn hn hn5 hn' hn5'
        go_wp2_with fail
        go_ret
        exact ⟨ret_bool HF.out.symm, b0.trans (hb.mono b0.size)⟩

end Go.Proofs.YtengaccnncnipaaGreat
