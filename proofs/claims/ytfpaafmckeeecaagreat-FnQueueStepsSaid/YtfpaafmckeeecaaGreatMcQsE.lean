/- Lemmas and walks that the last text of this claim leans on, part 5. No condition. -/
import Derived.Test.YtfpaafmckeeecaaGreatMcQsD
/- Withdrawing an interrupt, in the program and in the reference. No condition. -/
namespace Go.Proofs.YtfpaafmckeeecaaGreat
open Go.RowKit Go.ChangeShapes Go.WideShapes Go.Deep

theorem eraseIdx_two {α : Type} (l : List α) (k : Nat) : l.eraseIdx k = l.take k ++ l.drop (k + 1) := List.eraseIdx_eq_take_drop_succ l k
theorem Sl.drop_both {s : Sl} (h : s.state = 3) : Sl.drop s = ⟨2, s.irq, s.prio⟩ := by simp [Sl.drop, h]
theorem Sl.drop_one {s : Sl} (h : ¬ s.state = 3) : Sl.drop s = ⟨0, 0, 0⟩ := by simp [Sl.drop, h]

set_option maxHeartbeats 8000000 in
theorem specWithdrawIrq_any (vs vw : Value) (ls : List Sl) (lw : List Wt) (i : Int) (w : World) {lo hi lo2 hi2 : Nat} (h : Rd Sl.cells 3 w lo hi vs ls) (h2 : Rd Wt.cells 2 w lo2 hi2 vw lw) (hh : hi ≤ w.heap.size) (hh2 : hi2 ≤ w.heap.size) :
    Calls Tryz.prog 31 #[.agg #[vs, vw], .int .i64 i] w fun e w' => ∃ v1 v2, e = .returned (.tuple #[.agg #[v1, v2], .bool (Qu.wiOk ls lw i)]) ∧ Ow Sl.cells 3 76 w' w.heap.size w'.heap.size v1 (Qu.wiS ls lw i) ∧ Ow Wt.cells 2 67 w' w.heap.size w'.heap.size v2 (Qu.wiW ls lw i) ∧ Below w.heap.size w w' := by
  have b0 : Below w.heap.size w ((w.alloc (.cells #[vs, vw] 27)).alloc (.cells #[.slice none 0 0, .slice none 0 0] 27)) := ((Below.refl w.heap.size w).alloc (Nat.le_refl _) _).alloc (by simp) _
  have z0 : ((w.alloc (.cells #[vs, vw] 27)).alloc (.cells #[.slice none 0 0, .slice none 0 0] 27)).heap.size = w.heap.size + 2 := by simp
  have bq := Box.new w #[vs, vw] 27 rfl
  have bR := Box.new (g := w.heap.size + 1) (w.alloc (.cells #[vs, vw] 27)) #[.slice none 0 0, .slice none 0 0] 27 (by simp)
  replace bq := bq.below ((Below.refl _ (w.alloc (.cells #[vs, vw] 27))).alloc (Nat.le_refl _) (.cells #[.slice none 0 0, .slice none 0 0] 27)) bq.lt
  have hs := h.below b0 hh
  have hw := h2.below b0 hh2
  have hv_ := h.form
  have hv2_ := h2.form
  clear h h2
  generalize hwA : ((w.alloc (.cells #[vs, vw] 27)).alloc (.cells #[.slice none 0 0, .slice none 0 0] 27)) = wA at *
  obtain ⟨A0, n0, d0, rfl, _, _, _⟩ := hv_
  obtain ⟨A1, n1, d1, rfl, _, _, _⟩ := hv2_
  have c1 := l9Good_any _ _ ls lw _ hs hw (by omega) (by omega)
  have c2 := fun W => l6Irq_any i W
  cases hg : Qu.good ls lw
  · have HF := Lib.hid (Qu.wi_no (ls := ls) (lw := lw) (i := i) (by simp [Qu.wiOk, Qu.enG, hg]))
    rw [hg] at c1
    clear hg
    go_enter Tryz.func31, Tryz.ntmps31
    have bq_0 := bq.cell (j := 0) rfl
    have bq_1 := bq.cell (j := 1) rfl
    have bq_z := bq.frozen
    have bq_l := bq.lt
    have bR_0 := bR.cell (j := 0) rfl
    have bR_1 := bR.cell (j := 1) rfl
    have bR_z := bR.frozen
    have bR_l := bR.lt
    go_wp2_with fail
    clear hwA
    clear bq_0 bq_1 bq_z bq_l bR_0 bR_1 bR_z bR_l
    refine (c1).mono ?_; rintro q_ w1 ⟨rfl, b_1⟩
    replace bq := bq.below b_1 bq.lt
    replace bR := bR.below b_1 bR.lt
    replace hs := hs.below b_1 (by omega)
    replace hw := hw.below b_1 (by omega)
    have z_2 := b_1.size
    replace b0 := b0.trans (b_1.mono (by omega))
    clear b_1
    have bq_0 := bq.cell (j := 0) rfl
    have bq_1 := bq.cell (j := 1) rfl
    have bq_z := bq.frozen
    have bq_l := bq.lt
    have bR_0 := bR.cell (j := 0) rfl
    have bR_1 := bR.cell (j := 1) rfl
    have bR_z := bR.frozen
    have bR_l := bR.lt
    go_wp2_with fail
    clear bq_0 bq_1 bq_z bq_l bR_0 bR_1 bR_z bR_l
    generalize hwz : World.setCell (World.setCell _ _ _) _ _ = wz_
    obtain rfl : wz_ = setL w1 (w.heap.size + 1) 0 [.slice none 0 0, .slice none 0 0] := hwz.symm
    clear hwz
    replace bq := bq.other (b := w.heap.size + 1) (by omega) 0 [.slice none 0 0, .slice none 0 0]
    replace hs := hs.away (g := w.heap.size + 1) (by omega) 0 [.slice none 0 0, .slice none 0 0]
    replace hw := hw.away (g := w.heap.size + 1) (by omega) 0 [.slice none 0 0, .slice none 0 0]
    replace b0 := setL_below b0 [.slice none 0 0, .slice none 0 0] (w.heap.size + 1) 0 (by omega)
    have zs_3 : (setL w1 (w.heap.size + 1) 0 [.slice none 0 0, .slice none 0 0]).heap.size = w1.heap.size := setL_size _ _ _ _
    replace bR := bR.setAll [.slice none 0 0, .slice none 0 0] rfl
    generalize setL w1 _ 0 _ = w3 at *
    have u0_ := bR.cell (j := 0) rfl
    have u1_ := bR.cell (j := 1) rfl
    refine bodyPost_ret (by simp only [results, Tryz.results31]; simp [go_sem, u0_, u1_]; rfl) rfl ?_
    exact ⟨_, _, by rw [HF.out.1], by rw [HF.out.2.1]; exact Ow.nil_, by rw [HF.out.2.2]; exact Ow.nil_, b0⟩
  · cases hi_ : inB i 0 7
    · have HF := Lib.hid (Qu.wi_no (ls := ls) (lw := lw) (i := i) (by simp [Qu.wiOk, Qu.enG, hi_]))
      rw [hg] at c1
      rw [hi_] at c2
      clear hg hi_
      go_enter Tryz.func31, Tryz.ntmps31
      have bq_0 := bq.cell (j := 0) rfl
      have bq_1 := bq.cell (j := 1) rfl
      have bq_z := bq.frozen
      have bq_l := bq.lt
      have bR_0 := bR.cell (j := 0) rfl
      have bR_1 := bR.cell (j := 1) rfl
      have bR_z := bR.frozen
      have bR_l := bR.lt
      go_wp2_with fail
      clear hwA
      clear bq_0 bq_1 bq_z bq_l bR_0 bR_1 bR_z bR_l
      refine (c1).mono ?_; rintro q_ w1 ⟨rfl, b_1⟩
      replace bq := bq.below b_1 bq.lt
      replace bR := bR.below b_1 bR.lt
      replace hs := hs.below b_1 (by omega)
      replace hw := hw.below b_1 (by omega)
      have z_2 := b_1.size
      replace b0 := b0.trans (b_1.mono (by omega))
      clear b_1
      have bq_0 := bq.cell (j := 0) rfl
      have bq_1 := bq.cell (j := 1) rfl
      have bq_z := bq.frozen
      have bq_l := bq.lt
      have bR_0 := bR.cell (j := 0) rfl
      have bR_1 := bR.cell (j := 1) rfl
      have bR_z := bR.frozen
      have bR_l := bR.lt
      go_wp2_with fail
      clear bq_0 bq_1 bq_z bq_l bR_0 bR_1 bR_z bR_l
      refine (c2 _).mono ?_; rintro q_ w_ ⟨rfl, rfl⟩
      have bq_0 := bq.cell (j := 0) rfl
      have bq_1 := bq.cell (j := 1) rfl
      have bq_z := bq.frozen
      have bq_l := bq.lt
      have bR_0 := bR.cell (j := 0) rfl
      have bR_1 := bR.cell (j := 1) rfl
      have bR_z := bR.frozen
      have bR_l := bR.lt
      go_wp2_with fail
      clear bq_0 bq_1 bq_z bq_l bR_0 bR_1 bR_z bR_l
      generalize hwz : World.setCell (World.setCell _ _ _) _ _ = wz_
      obtain rfl : wz_ = setL w1 (w.heap.size + 1) 0 [.slice none 0 0, .slice none 0 0] := hwz.symm
      clear hwz
      replace bq := bq.other (b := w.heap.size + 1) (by omega) 0 [.slice none 0 0, .slice none 0 0]
      replace hs := hs.away (g := w.heap.size + 1) (by omega) 0 [.slice none 0 0, .slice none 0 0]
      replace hw := hw.away (g := w.heap.size + 1) (by omega) 0 [.slice none 0 0, .slice none 0 0]
      replace b0 := setL_below b0 [.slice none 0 0, .slice none 0 0] (w.heap.size + 1) 0 (by omega)
      have zs_3 : (setL w1 (w.heap.size + 1) 0 [.slice none 0 0, .slice none 0 0]).heap.size = w1.heap.size := setL_size _ _ _ _
      replace bR := bR.setAll [.slice none 0 0, .slice none 0 0] rfl
      generalize setL w1 _ 0 _ = w3 at *
      have u0_ := bR.cell (j := 0) rfl
      have u1_ := bR.cell (j := 1) rfl
      refine bodyPost_ret (by simp only [results, Tryz.results31]; simp [go_sem, u0_, u1_]; rfl) rfl ?_
      exact ⟨_, _, by rw [HF.out.1], by rw [HF.out.2.1]; exact Ow.nil_, by rw [HF.out.2.2]; exact Ow.nil_, b0⟩
    · have hp := (Qu.good_parts hg).1
      have hsg := (Qu.parts_get hp).1
      have hl1 := Sl.good_len hsg
      have hl2 := Qu.parts_len hp
      have hEG : Qu.enG ls lw i = true := by simp [Qu.enG, hg, hi_]
      have HG := Lib.hid hg
      have HS := Lib.hid hsg
      have HL := Lib.hid (show ls.length = 4 ∧ lw.length ≤ 8 from ⟨hl1, hl2⟩)
      rw [hg] at c1
      rw [hi_] at c2
      clear hg hi_ hsg hl1 hl2
      rcases find_cases (Wt.isI i) lw with ⟨hf, ha⟩ | ⟨j, t, hf, hj, ht, hpt⟩
      · have hix := Sl.ix_neg (ls := ls) (i := i)
        have HA := Lib.hid ha
        by_cases hx : Sl.ix ls i < 0
        · have HF := Lib.hid (Qu.wi_no (ls := ls) (lw := lw) (i := i) (by rw [Qu.wiOk, Qu.wi_none ha hx, Bool.and_false]))
          have hd : decide (Sl.ix ls i < 0) = true := decide_eq_true hx
          have c4 := fun W hs hh => specFind_b (.slice A0 n0 d0) ls i W (lo := lo) (hi := hi) hs hh
          generalize Sl.ix ls i = z at c4 hd
          clear hx ha hix hp hEG
          have HFX := Lib.hid hf
          clear hf
          have hfx := HFX.out
          go_enter Tryz.func31, Tryz.ntmps31
          have bq_0 := bq.cell (j := 0) rfl
          have bq_1 := bq.cell (j := 1) rfl
          have bq_z := bq.frozen
          have bq_l := bq.lt
          have bR_0 := bR.cell (j := 0) rfl
          have bR_1 := bR.cell (j := 1) rfl
          have bR_z := bR.frozen
          have bR_l := bR.lt
          go_wp2_with fail
          clear hwA
          clear bq_0 bq_1 bq_z bq_l bR_0 bR_1 bR_z bR_l
          refine (c1).mono ?_; rintro q_ w1 ⟨rfl, b_1⟩
          replace bq := bq.below b_1 bq.lt
          replace bR := bR.below b_1 bR.lt
          replace hs := hs.below b_1 (by omega)
          replace hw := hw.below b_1 (by omega)
          have z_2 := b_1.size
          replace b0 := b0.trans (b_1.mono (by omega))
          clear b_1
          have bq_0 := bq.cell (j := 0) rfl
          have bq_1 := bq.cell (j := 1) rfl
          have bq_z := bq.frozen
          have bq_l := bq.lt
          have bR_0 := bR.cell (j := 0) rfl
          have bR_1 := bR.cell (j := 1) rfl
          have bR_z := bR.frozen
          have bR_l := bR.lt
          go_wp2_with fail
          clear bq_0 bq_1 bq_z bq_l bR_0 bR_1 bR_z bR_l
          refine (c2 _).mono ?_; rintro q_ w_ ⟨rfl, rfl⟩
          have bq_0 := bq.cell (j := 0) rfl
          have bq_1 := bq.cell (j := 1) rfl
          have bq_z := bq.frozen
          have bq_l := bq.lt
          have bR_0 := bR.cell (j := 0) rfl
          have bR_1 := bR.cell (j := 1) rfl
          have bR_z := bR.frozen
          have bR_l := bR.lt
          go_wp2_with fail
          clear bq_0 bq_1 bq_z bq_l bR_0 bR_1 bR_z bR_l
          have c3 := l9Has_any _ lw i w1 hw (by omega)
          rw [hfx] at c3
          refine (c3).mono ?_; rintro q_ w_ ⟨rfl, rfl⟩
          clear hfx
          have bq_0 := bq.cell (j := 0) rfl
          have bq_1 := bq.cell (j := 1) rfl
          have bq_z := bq.frozen
          have bq_l := bq.lt
          have bR_0 := bR.cell (j := 0) rfl
          have bR_1 := bR.cell (j := 1) rfl
          have bR_z := bR.frozen
          have bR_l := bR.lt
          go_wp2_with fail
          clear bq_0 bq_1 bq_z bq_l bR_0 bR_1 bR_z bR_l
          refine (c4 w1 hs (by omega)).mono ?_; rintro q_ w3 ⟨rfl, b_3⟩
          replace bq := bq.below b_3 bq.lt
          replace bR := bR.below b_3 bR.lt
          replace hs := hs.below b_3 (by omega)
          replace hw := hw.below b_3 (by omega)
          have z_4 := b_3.size
          replace b0 := b0.trans (b_3.mono (by omega))
          clear b_3
          have bq_0 := bq.cell (j := 0) rfl
          have bq_1 := bq.cell (j := 1) rfl
          have bq_z := bq.frozen
          have bq_l := bq.lt
          have bR_0 := bR.cell (j := 0) rfl
          have bR_1 := bR.cell (j := 1) rfl
          have bR_z := bR.frozen
          have bR_l := bR.lt
          go_wp2_with fail
          clear bq_0 bq_1 bq_z bq_l bR_0 bR_1 bR_z bR_l
          generalize hwz : World.setCell (World.setCell _ _ _) _ _ = wz_
          obtain rfl : wz_ = setL w3 (w.heap.size + 1) 0 [.slice none 0 0, .slice none 0 0] := hwz.symm
          clear hwz
          replace bq := bq.other (b := w.heap.size + 1) (by omega) 0 [.slice none 0 0, .slice none 0 0]
          replace hs := hs.away (g := w.heap.size + 1) (by omega) 0 [.slice none 0 0, .slice none 0 0]
          replace hw := hw.away (g := w.heap.size + 1) (by omega) 0 [.slice none 0 0, .slice none 0 0]
          replace b0 := setL_below b0 [.slice none 0 0, .slice none 0 0] (w.heap.size + 1) 0 (by omega)
          have zs_5 : (setL w3 (w.heap.size + 1) 0 [.slice none 0 0, .slice none 0 0]).heap.size = w3.heap.size := setL_size _ _ _ _
          replace bR := bR.setAll [.slice none 0 0, .slice none 0 0] rfl
          generalize setL w3 _ 0 _ = w5 at *
          have u0_ := bR.cell (j := 0) rfl
          have u1_ := bR.cell (j := 1) rfl
          refine bodyPost_ret (by simp only [results, Tryz.results31]; simp [go_sem, u0_, u1_]; rfl) rfl ?_
          exact ⟨_, _, by rw [HF.out.1], by rw [HF.out.2.1]; exact Ow.nil_, by rw [HF.out.2.2]; exact Ow.nil_, b0⟩
        · obtain ⟨q, s, hq, hql, hqs, hq0, hqi⟩ := Sl.ix_hit (ls := ls) (i := i) (by omega)
          have HQ := Lib.hid hqs
          have c4 := fun W hs hh => specFind_b (.slice A0 n0 d0) ls i W (lo := lo) (hi := hi) hs hh
          simp only [hq] at c4
          have hqd : decide ((q : Int) < 0) = false := by simp
          have hWS := Qu.wi_slot ha hq hqs
          have hN := hs.n_eq
          have hqn : q < n0 := by omega
          have hqn2 : (q : Int) < (n0 : Int) := by omega
          clear hN
          by_cases hs2 : s.state = 2
          · have HF := Lib.hid (Qu.wi_no (ls := ls) (lw := lw) (i := i) (by rw [Qu.wiOk, hWS.1, hs2]; simp))
            clear hWS hq hqs hq0 hqi hx ha hix hp hEG
            obtain ⟨bs, os, s', e_, hs', hbs0, hbs, _, _, _⟩ := Sl.get hs hqn (Below.refl wA.heap.size wA) (by omega)
            obtain rfl : s = s' := Option.some.inj (HQ.out.symm.trans hs'.out)
            clear hs'
            subst e_
            have HFX := Lib.hid hf
            clear hf
            have hfx := HFX.out
            go_enter Tryz.func31, Tryz.ntmps31
            have bq_0 := bq.cell (j := 0) rfl
            have bq_1 := bq.cell (j := 1) rfl
            have bq_z := bq.frozen
            have bq_l := bq.lt
            have bR_0 := bR.cell (j := 0) rfl
            have bR_1 := bR.cell (j := 1) rfl
            have bR_z := bR.frozen
            have bR_l := bR.lt
            go_wp2_with fail
            clear hwA
            clear bq_0 bq_1 bq_z bq_l bR_0 bR_1 bR_z bR_l
            refine (c1).mono ?_; rintro q_ w1 ⟨rfl, b_1⟩
            replace bq := bq.below b_1 bq.lt
            replace bR := bR.below b_1 bR.lt
            replace hs := hs.below b_1 (by omega)
            replace hw := hw.below b_1 (by omega)
            have z_2 := b_1.size
            replace b0 := b0.trans (b_1.mono (by omega))
            clear b_1
            have bq_0 := bq.cell (j := 0) rfl
            have bq_1 := bq.cell (j := 1) rfl
            have bq_z := bq.frozen
            have bq_l := bq.lt
            have bR_0 := bR.cell (j := 0) rfl
            have bR_1 := bR.cell (j := 1) rfl
            have bR_z := bR.frozen
            have bR_l := bR.lt
            go_wp2_with fail
            clear bq_0 bq_1 bq_z bq_l bR_0 bR_1 bR_z bR_l
            refine (c2 _).mono ?_; rintro q_ w_ ⟨rfl, rfl⟩
            have bq_0 := bq.cell (j := 0) rfl
            have bq_1 := bq.cell (j := 1) rfl
            have bq_z := bq.frozen
            have bq_l := bq.lt
            have bR_0 := bR.cell (j := 0) rfl
            have bR_1 := bR.cell (j := 1) rfl
            have bR_z := bR.frozen
            have bR_l := bR.lt
            go_wp2_with fail
            clear bq_0 bq_1 bq_z bq_l bR_0 bR_1 bR_z bR_l
            have c3 := l9Has_any _ lw i w1 hw (by omega)
            rw [hfx] at c3
            refine (c3).mono ?_; rintro q_ w_ ⟨rfl, rfl⟩
            clear hfx
            have bq_0 := bq.cell (j := 0) rfl
            have bq_1 := bq.cell (j := 1) rfl
            have bq_z := bq.frozen
            have bq_l := bq.lt
            have bR_0 := bR.cell (j := 0) rfl
            have bR_1 := bR.cell (j := 1) rfl
            have bR_z := bR.frozen
            have bR_l := bR.lt
            go_wp2_with fail
            clear bq_0 bq_1 bq_z bq_l bR_0 bR_1 bR_z bR_l
            refine (c4 w1 hs (by omega)).mono ?_; rintro q_ w3 ⟨rfl, b_3⟩
            replace bq := bq.below b_3 bq.lt
            replace bR := bR.below b_3 bR.lt
            replace hs := hs.below b_3 (by omega)
            replace hw := hw.below b_3 (by omega)
            have z_4 := b_3.size
            replace b0 := b0.trans (b_3.mono (by omega))
            clear b_3
            obtain ⟨_, _, s', e_, hs', _, _, f0, f1, f2⟩ := Sl.get hs hqn (Below.refl w3.heap.size w3) (by omega)
            injection e_ with e_
            injection e_ with e1_ e2_
            subst e1_; subst e2_
            obtain rfl : s = s' := Option.some.inj (HQ.out.symm.trans hs'.out)
            clear hs'
            rw [hs2] at f0
            clear hs2
            have bq_0 := bq.cell (j := 0) rfl
            have bq_1 := bq.cell (j := 1) rfl
            have bq_z := bq.frozen
            have bq_l := bq.lt
            have bR_0 := bR.cell (j := 0) rfl
            have bR_1 := bR.cell (j := 1) rfl
            have bR_z := bR.frozen
            have bR_l := bR.lt
            go_wp2_with fail
            clear bq_0 bq_1 bq_z bq_l bR_0 bR_1 bR_z bR_l
            generalize hwz : World.setCell (World.setCell _ _ _) _ _ = wz_
            obtain rfl : wz_ = setL w3 (w.heap.size + 1) 0 [.slice none 0 0, .slice none 0 0] := hwz.symm
            clear hwz
            replace bq := bq.other (b := w.heap.size + 1) (by omega) 0 [.slice none 0 0, .slice none 0 0]
            replace hs := hs.away (g := w.heap.size + 1) (by omega) 0 [.slice none 0 0, .slice none 0 0]
            replace hw := hw.away (g := w.heap.size + 1) (by omega) 0 [.slice none 0 0, .slice none 0 0]
            replace b0 := setL_below b0 [.slice none 0 0, .slice none 0 0] (w.heap.size + 1) 0 (by omega)
            have zs_5 : (setL w3 (w.heap.size + 1) 0 [.slice none 0 0, .slice none 0 0]).heap.size = w3.heap.size := setL_size _ _ _ _
            replace bR := bR.setAll [.slice none 0 0, .slice none 0 0] rfl
            generalize setL w3 _ 0 _ = w5 at *
            have u0_ := bR.cell (j := 0) rfl
            have u1_ := bR.cell (j := 1) rfl
            refine bodyPost_ret (by simp only [results, Tryz.results31]; simp [go_sem, u0_, u1_]; rfl) rfl ?_
            exact ⟨_, _, by rw [HF.out.1], by rw [HF.out.2.1]; exact Ow.nil_, by rw [HF.out.2.2]; exact Ow.nil_, b0⟩
          · have HP2 := Lib.hid (Qu.wi_parts hp (show Qu.wiOk0 ls lw i = true by rw [hWS.1]; simpa using hs2))
            have HF := Lib.hid (Qu.wi_yes (ls := ls) (lw := lw) (i := i) (by rw [Qu.wiOk, hEG, hWS.1]; simpa using hs2))
            have HW := Lib.hid hWS.2
            rw [hWS.2] at HP2
            have hb2 : (s.state == 2) = false := by simpa using hs2
            by_cases hs3 : s.state = 3
            · have HD := Lib.hid (Sl.drop_both hs3)
              have HB := Lib.hid (Qu.wi_both_st HG.out ha hq hqs hs3)
              have HK3 := Lib.hid hs3
              rw [HD.out] at HP2
              clear hWS hq hqs hq0 hqi hx ha hix hp hEG hs2
              obtain ⟨bs, os, s', e_, hs', hbs0, hbs, _, _, _⟩ := Sl.get hs hqn (Below.refl wA.heap.size wA) (by omega)
              obtain rfl : s = s' := Option.some.inj (HQ.out.symm.trans hs'.out)
              clear hs'
              subst e_
              have HFX := Lib.hid hf
              clear hf
              have hfx := HFX.out
              go_enter Tryz.func31, Tryz.ntmps31
              have bq_0 := bq.cell (j := 0) rfl
              have bq_1 := bq.cell (j := 1) rfl
              have bq_z := bq.frozen
              have bq_l := bq.lt
              have bR_0 := bR.cell (j := 0) rfl
              have bR_1 := bR.cell (j := 1) rfl
              have bR_z := bR.frozen
              have bR_l := bR.lt
              go_wp2_with fail
              clear hwA
              clear bq_0 bq_1 bq_z bq_l bR_0 bR_1 bR_z bR_l
              refine (c1).mono ?_; rintro q_ w1 ⟨rfl, b_1⟩
              replace bq := bq.below b_1 bq.lt
              replace bR := bR.below b_1 bR.lt
              replace hs := hs.below b_1 (by omega)
              replace hw := hw.below b_1 (by omega)
              have z_2 := b_1.size
              replace b0 := b0.trans (b_1.mono (by omega))
              clear b_1
              have bq_0 := bq.cell (j := 0) rfl
              have bq_1 := bq.cell (j := 1) rfl
              have bq_z := bq.frozen
              have bq_l := bq.lt
              have bR_0 := bR.cell (j := 0) rfl
              have bR_1 := bR.cell (j := 1) rfl
              have bR_z := bR.frozen
              have bR_l := bR.lt
              go_wp2_with fail
              clear bq_0 bq_1 bq_z bq_l bR_0 bR_1 bR_z bR_l
              refine (c2 _).mono ?_; rintro q_ w_ ⟨rfl, rfl⟩
              have bq_0 := bq.cell (j := 0) rfl
              have bq_1 := bq.cell (j := 1) rfl
              have bq_z := bq.frozen
              have bq_l := bq.lt
              have bR_0 := bR.cell (j := 0) rfl
              have bR_1 := bR.cell (j := 1) rfl
              have bR_z := bR.frozen
              have bR_l := bR.lt
              go_wp2_with fail
              clear bq_0 bq_1 bq_z bq_l bR_0 bR_1 bR_z bR_l
              have c3 := l9Has_any _ lw i w1 hw (by omega)
              rw [hfx] at c3
              refine (c3).mono ?_; rintro q_ w_ ⟨rfl, rfl⟩
              clear hfx
              have bq_0 := bq.cell (j := 0) rfl
              have bq_1 := bq.cell (j := 1) rfl
              have bq_z := bq.frozen
              have bq_l := bq.lt
              have bR_0 := bR.cell (j := 0) rfl
              have bR_1 := bR.cell (j := 1) rfl
              have bR_z := bR.frozen
              have bR_l := bR.lt
              go_wp2_with fail
              clear bq_0 bq_1 bq_z bq_l bR_0 bR_1 bR_z bR_l
              refine (c4 w1 hs (by omega)).mono ?_; rintro q_ w3 ⟨rfl, b_3⟩
              replace bq := bq.below b_3 bq.lt
              replace bR := bR.below b_3 bR.lt
              replace hs := hs.below b_3 (by omega)
              replace hw := hw.below b_3 (by omega)
              have z_4 := b_3.size
              replace b0 := b0.trans (b_3.mono (by omega))
              clear b_3
              obtain ⟨_, _, s', e_, hs', _, _, f0, f1, f2⟩ := Sl.get hs hqn (Below.refl w3.heap.size w3) (by omega)
              injection e_ with e_
              injection e_ with e1_ e2_
              subst e1_; subst e2_
              obtain rfl : s = s' := Option.some.inj (HQ.out.symm.trans hs'.out)
              clear hs'
              rw [HK3.out] at f0
              clear hs3 hb2
              have bq_0 := bq.cell (j := 0) rfl
              have bq_1 := bq.cell (j := 1) rfl
              have bq_z := bq.frozen
              have bq_l := bq.lt
              have bR_0 := bR.cell (j := 0) rfl
              have bR_1 := bR.cell (j := 1) rfl
              have bR_z := bR.frozen
              have bR_l := bR.lt
              go_upto_region 10 with fail
              clear bq_0 bq_1 bq_z bq_l bR_0 bR_1 bR_z bR_l
              have b_5 := (Below.refl w3.heap.size w3).alloc (Nat.le_refl _) (.cells #[(.int .i64 0), (.int .i64 0), (.int .i64 0)] 76)
              have bs_ := Box.new w3 #[(.int .i64 0), (.int .i64 0), (.int .i64 0)] 76 rfl
              replace bq := bq.below b_5 bq.lt
              replace bR := bR.below b_5 bR.lt
              replace hs := hs.below b_5 (by omega)
              replace hw := hw.below b_5 (by omega)
              have z_6 := b_5.size
              replace b0 := b0.trans (b_5.mono (by omega))
              clear b_5
              generalize w3.alloc _ = w5 at *
              generalize w3.heap.size = g5 at *
              clear f0 f1 f2
              obtain ⟨_, _, s', e_, hs', _, _, f0, f1, f2⟩ := Sl.get hs hqn (Below.refl w5.heap.size w5) (by omega)
              injection e_ with e_
              injection e_ with e1_ e2_
              subst e1_; subst e2_
              obtain rfl : s = s' := Option.some.inj (HQ.out.symm.trans hs'.out)
              clear hs'
              rw [HK3.out] at f0
              have bq_0 := bq.cell (j := 0) rfl
              have bq_1 := bq.cell (j := 1) rfl
              have bq_z := bq.frozen
              have bq_l := bq.lt
              have bR_0 := bR.cell (j := 0) rfl
              have bR_1 := bR.cell (j := 1) rfl
              have bR_z := bR.frozen
              have bR_l := bR.lt
              have bs__0 := bs_.cell (j := 0) rfl
              have bs__1 := bs_.cell (j := 1) rfl
              have bs__2 := bs_.cell (j := 2) rfl
              have bs__z := bs_.frozen
              have bs__l := bs_.lt
              go_upto_region 12 with fail
              clear bq_0 bq_1 bq_z bq_l bR_0 bR_1 bR_z bR_l bs__0 bs__1 bs__2 bs__z bs__l
              generalize hwz : World.setCell (World.setCell (World.setCell _ _ _) _ _) _ _ = wz_
              obtain rfl : wz_ = setL w5 (g5) 0 [.int .i64 3, .int .i64 s.irq, .int .i64 s.prio] := hwz.symm
              clear hwz
              replace bq := bq.other (b := g5) (by omega) 0 [.int .i64 3, .int .i64 s.irq, .int .i64 s.prio]
              replace bR := bR.other (b := g5) (by omega) 0 [.int .i64 3, .int .i64 s.irq, .int .i64 s.prio]
              replace hs := hs.away (g := g5) (by omega) 0 [.int .i64 3, .int .i64 s.irq, .int .i64 s.prio]
              replace hw := hw.away (g := g5) (by omega) 0 [.int .i64 3, .int .i64 s.irq, .int .i64 s.prio]
              replace b0 := setL_below b0 [.int .i64 3, .int .i64 s.irq, .int .i64 s.prio] (g5) 0 (by omega)
              have zs_7 : (setL w5 (g5) 0 [.int .i64 3, .int .i64 s.irq, .int .i64 s.prio]).heap.size = w5.heap.size := setL_size _ _ _ _
              replace bs_ := bs_.setAll [.int .i64 3, .int .i64 s.irq, .int .i64 s.prio] rfl
              generalize setL w5 _ 0 _ = w7 at *
              have bq_0 := bq.cell (j := 0) rfl
              have bq_1 := bq.cell (j := 1) rfl
              have bq_z := bq.frozen
              have bq_l := bq.lt
              have bR_0 := bR.cell (j := 0) rfl
              have bR_1 := bR.cell (j := 1) rfl
              have bR_z := bR.frozen
              have bR_l := bR.lt
              have bs__0 := bs_.cell (j := 0) rfl
              have bs__1 := bs_.cell (j := 1) rfl
              have bs__2 := bs_.cell (j := 2) rfl
              have bs__z := bs_.frozen
              have bs__l := bs_.lt
              go_upto_region 13 with fail
              clear bq_0 bq_1 bq_z bq_l bR_0 bR_1 bR_z bR_l bs__0 bs__1 bs__2 bs__z bs__l
              generalize hwz : World.setCell _ _ _ = wz_
              obtain rfl : wz_ = setL w7 (g5) 0 [.int .i64 2] := hwz.symm
              clear hwz
              replace bq := bq.other (b := g5) (by omega) 0 [.int .i64 2]
              replace bR := bR.other (b := g5) (by omega) 0 [.int .i64 2]
              replace hs := hs.away (g := g5) (by omega) 0 [.int .i64 2]
              replace hw := hw.away (g := g5) (by omega) 0 [.int .i64 2]
              replace b0 := setL_below b0 [.int .i64 2] (g5) 0 (by omega)
              have zs_8 : (setL w7 (g5) 0 [.int .i64 2]).heap.size = w7.heap.size := setL_size _ _ _ _
              replace bs_ := bs_.set1 (j := 0) (.int .i64 2) (by simp)
              generalize setL w7 _ 0 _ = w8 at *
              clear f0 f1 f2
              refine wp_region_held_drew (S := fun W => Box W (w.heap.size) 27 [.slice (some ⟨bs, os, none⟩) n0 d0, .slice A1 n1 d1] ∧ Box W (g5) 76 [.int .i64 2, .int .i64 s.irq, .int .i64 s.prio]) (by kernel_rfl) (show (fun (W : World) => Box W (w.heap.size) 27 [.slice (some ⟨bs, os, none⟩) n0 d0, .slice A1 n1 d1] ∧ Box W (g5) 76 [.int .i64 2, .int .i64 s.irq, .int .i64 s.prio]) w8.drew from ⟨bq, bs_⟩) (fun hHeld => ?_)
              refine wpAnyH_take (i := 0) (v := .pointer (some ⟨w.heap.size, 0, none⟩)) rfl (by kernel_rfl) (by kernel_rfl) (by kernel_rfl) (fun _ _ _ h => h) (Or.inl ⟨by rfl, by intro w hSw; obtain ⟨hS0, hS1⟩ := hSw; have y00 := hS0.cell (j := 0) rfl; have y01 := hS0.cell (j := 1) rfl; have y10 := hS1.cell (j := 0) rfl; have y11 := hS1.cell (j := 1) rfl; have y12 := hS1.cell (j := 2) rfl; go_simp⟩) hHeld ?_
              refine wpAnyH_take (i := 1) (v := .slice (some ⟨bs, os, none⟩) n0 d0) rfl (by kernel_rfl) (by kernel_rfl) (by kernel_rfl) (fun _ _ _ h => h) (Or.inl ⟨by rfl, by intro w hSw; obtain ⟨hS0, hS1⟩ := hSw; have y00 := hS0.cell (j := 0) rfl; have y01 := hS0.cell (j := 1) rfl; have y10 := hS1.cell (j := 0) rfl; have y11 := hS1.cell (j := 1) rfl; have y12 := hS1.cell (j := 2) rfl; go_simp⟩) hHeld ?_
              refine wpAnyH_take (i := 2) (v := .int .i64 q) rfl (by kernel_rfl) (by kernel_rfl) (by kernel_rfl) (fun _ _ _ h => h) (Or.inl ⟨by rfl, by intro w hSw; obtain ⟨hS0, hS1⟩ := hSw; have y00 := hS0.cell (j := 0) rfl; have y01 := hS0.cell (j := 1) rfl; have y10 := hS1.cell (j := 0) rfl; have y11 := hS1.cell (j := 1) rfl; have y12 := hS1.cell (j := 2) rfl; go_simp⟩) hHeld ?_
              refine wpAnyH_take (i := 3) (v := .agg #[.int .i64 2, .int .i64 s.irq, .int .i64 s.prio]) rfl (by kernel_rfl) (by kernel_rfl) (by kernel_rfl) (fun _ _ _ h => h) (Or.inl ⟨by rfl, by intro w hSw; obtain ⟨hS0, hS1⟩ := hSw; have y00 := hS0.cell (j := 0) rfl; have y01 := hS0.cell (j := 1) rfl; have y10 := hS1.cell (j := 0) rfl; have y11 := hS1.cell (j := 1) rfl; have y12 := hS1.cell (j := 2) rfl; go_simp⟩) hHeld ?_
              refine wpAnyH_take (i := 5) (v := .pointer (some ⟨w.heap.size, 1, none⟩)) rfl (by kernel_rfl) (by kernel_rfl) (by kernel_rfl) (fun _ _ _ h => h) (Or.inl ⟨by rfl, by intro w hSw; obtain ⟨hS0, hS1⟩ := hSw; have y00 := hS0.cell (j := 0) rfl; have y01 := hS0.cell (j := 1) rfl; have y10 := hS1.cell (j := 0) rfl; have y11 := hS1.cell (j := 1) rfl; have y12 := hS1.cell (j := 2) rfl; go_simp⟩) hHeld ?_
              refine wpAnyH_take (i := 6) (v := .slice A1 n1 d1) rfl (by kernel_rfl) (by kernel_rfl) (by kernel_rfl) (fun _ _ _ h => h) (Or.inl ⟨by rfl, by intro w hSw; obtain ⟨hS0, hS1⟩ := hSw; have y00 := hS0.cell (j := 0) rfl; have y01 := hS0.cell (j := 1) rfl; have y10 := hS1.cell (j := 0) rfl; have y11 := hS1.cell (j := 1) rfl; have y12 := hS1.cell (j := 2) rfl; go_simp⟩) hHeld ?_
              clear hHeld
              refine held_gen (F := fun W' => Below w8.heap.size w8 W') (Below.refl w8.heap.size w8).drew ?_
              rintro w9 b_9
              replace bq := bq.below b_9 bq.lt
              replace bR := bR.below b_9 bR.lt
              replace bs_ := bs_.below b_9 bs_.lt
              replace hs := hs.below b_9 (by omega)
              replace hw := hw.below b_9 (by omega)
              have z_10 := b_9.size
              replace b0 := b0.trans (b_9.mono (by omega))
              clear b_9
              refine wpAnyH_ready (rs := [4]) (by kernel_rfl) (by decide) ?_
              refine AllReadyH.cons rfl (fun K11 hK11 => ?_) AllReadyH.nil
              go_simp
              refine (specWith_any _ ls q ⟨2, s.irq, s.prio⟩ w9 hs (by omega) hql (by have := HL.out; omega)).mono ?_; rintro q_ w12 ⟨v3, rfl, o3, b_12⟩
              replace bq := bq.below b_12 bq.lt
              replace bR := bR.below b_12 bR.lt
              replace bs_ := bs_.below b_12 bs_.lt
              replace hs := hs.below b_12 (by omega)
              replace hw := hw.below b_12 (by omega)
              have z_13 := b_12.size
              replace b0 := b0.trans (b_12.mono (by omega))
              clear b_12
              obtain ⟨A3, n3, d3, rfl, _, _, _⟩ := o3.rd.form
              refine hK11.out _ _ ⟨bq, bs_⟩ (fun _ => ?_)
              refine wpAnyH_ready (rs := [7]) (by kernel_rfl) (by decide) ?_
              refine AllReadyH.cons rfl (fun K14 hK14 => ?_) AllReadyH.nil
              go_simp
              refine hK14.out _ _ ⟨bq, bs_⟩ (fun _ => ?_)
              refine wpAnyH_ready (rs := [8]) (by kernel_rfl) (by decide) ?_
              refine AllReadyH.cons rfl (fun K15 hK15 => ?_) AllReadyH.nil
              go_simp
              refine (specSettle_any _ _ (ls.set q ⟨2, s.irq, s.prio⟩) lw w12 o3.rd hw (by omega) (by omega) HP2.out).mono ?_; rintro q_ w16 ⟨v5, v6, rfl, o5, o6, b_16⟩
              replace bq := bq.below b_16 bq.lt
              replace bR := bR.below b_16 bR.lt
              replace bs_ := bs_.below b_16 bs_.lt
              replace hs := hs.below b_16 (by omega)
              replace hw := hw.below b_16 (by omega)
              replace o3 := o3.below b_16 (by omega)
              have z_17 := b_16.size
              replace b0 := b0.trans (b_16.mono (by omega))
              clear b_16
              obtain ⟨A5, n5, d5, rfl, _, _, _⟩ := o5.rd.form
              obtain ⟨A6, n6, d6, rfl, _, _, _⟩ := o6.rd.form
              refine hK15.out _ _ ⟨bq, bs_⟩ (fun _ => ?_)
              refine wpAnyH_ready (rs := [9]) (by kernel_rfl) (by decide) ?_
              refine AllReadyH.cons rfl (fun K18 hK18 => ?_) AllReadyH.nil
              have bq_0 := bq.cell (j := 0) rfl
              have bq_1 := bq.cell (j := 1) rfl
              have bq_z := bq.frozen
              have bq_l := bq.lt
              have bR_0 := bR.cell (j := 0) rfl
              have bR_1 := bR.cell (j := 1) rfl
              have bR_z := bR.frozen
              have bR_l := bR.lt
              have bs__0 := bs_.cell (j := 0) rfl
              have bs__1 := bs_.cell (j := 1) rfl
              have bs__2 := bs_.cell (j := 2) rfl
              have bs__z := bs_.frozen
              have bs__l := bs_.lt
              go_simp
              clear bq_0 bq_1 bq_z bq_l bR_0 bR_1 bR_z bR_l bs__0 bs__1 bs__2 bs__z bs__l
              generalize hwz : World.setCell (World.setCell _ _ _) _ _ = wz_
              obtain rfl : wz_ = setL w16 (w.heap.size + 1) 0 [.slice A5 n5 d5, .slice A6 n6 d6] := hwz.symm
              clear hwz
              replace bq := bq.other (b := w.heap.size + 1) (by omega) 0 [.slice A5 n5 d5, .slice A6 n6 d6]
              replace bs_ := bs_.other (b := w.heap.size + 1) (by omega) 0 [.slice A5 n5 d5, .slice A6 n6 d6]
              replace hs := hs.away (g := w.heap.size + 1) (by omega) 0 [.slice A5 n5 d5, .slice A6 n6 d6]
              replace hw := hw.away (g := w.heap.size + 1) (by omega) 0 [.slice A5 n5 d5, .slice A6 n6 d6]
              replace o3 := o3.box (g := w.heap.size + 1) bR (by decide) 0 [.slice A5 n5 d5, .slice A6 n6 d6]
              replace o5 := o5.box (g := w.heap.size + 1) bR (by decide) 0 [.slice A5 n5 d5, .slice A6 n6 d6]
              replace o6 := o6.box (g := w.heap.size + 1) bR (by decide) 0 [.slice A5 n5 d5, .slice A6 n6 d6]
              replace b0 := setL_below b0 [.slice A5 n5 d5, .slice A6 n6 d6] (w.heap.size + 1) 0 (by omega)
              have zs_19 : (setL w16 (w.heap.size + 1) 0 [.slice A5 n5 d5, .slice A6 n6 d6]).heap.size = w16.heap.size := setL_size _ _ _ _
              replace bR := bR.setAll [.slice A5 n5 d5, .slice A6 n6 d6] rfl
              generalize setL w16 _ 0 _ = w19 at *
              refine hK18.out _ _ ⟨bq, bs_⟩ (fun _ => ?_)
              refine wpAnyH_ready (rs := [10]) (by kernel_rfl) (by decide) ?_
              refine AllReadyH.cons rfl (fun K20 hK20 => ?_) AllReadyH.nil
              go_simp
              refine hK20.out _ _ ⟨bq, bs_⟩ (fun _ => ?_)
              refine ⟨by kernel_rfl, ?_⟩
              have bq_0 := bq.cell (j := 0) rfl
              have bq_1 := bq.cell (j := 1) rfl
              have bq_z := bq.frozen
              have bq_l := bq.lt
              have bR_0 := bR.cell (j := 0) rfl
              have bR_1 := bR.cell (j := 1) rfl
              have bR_z := bR.frozen
              have bR_l := bR.lt
              have bs__0 := bs_.cell (j := 0) rfl
              have bs__1 := bs_.cell (j := 1) rfl
              have bs__2 := bs_.cell (j := 2) rfl
              have bs__z := bs_.frozen
              have bs__l := bs_.lt
              go_wp2_with fail
              clear bq_0 bq_1 bq_z bq_l bR_0 bR_1 bR_z bR_l bs__0 bs__1 bs__2 bs__z bs__l
              have u0_ := bR.cell (j := 0) rfl
              have u1_ := bR.cell (j := 1) rfl
              refine bodyPost_ret (by simp only [results, Tryz.results31]; simp [go_sem, u0_, u1_]; rfl) rfl ?_
              exact ⟨_, _, by rw [HF.out.1], by rw [HF.out.2.1, Qu.wiP, HW.out, HD.out]; exact o5.mono (by omega) (by omega), by rw [HF.out.2.2, Qu.wiP, HW.out, HD.out]; exact o6.mono (by omega) (by omega), b0⟩
            · have HD := Lib.hid (Sl.drop_one hs3)
              have hb3 : (s.state == 3) = false := by simpa using hs3
              rw [HD.out] at HP2
              clear hWS hq hqs hq0 hqi hx ha hix hp hEG hs2
              obtain ⟨bs, os, s', e_, hs', hbs0, hbs, _, _, _⟩ := Sl.get hs hqn (Below.refl wA.heap.size wA) (by omega)
              obtain rfl : s = s' := Option.some.inj (HQ.out.symm.trans hs'.out)
              clear hs'
              subst e_
              have HFX := Lib.hid hf
              clear hf
              have hfx := HFX.out
              go_enter Tryz.func31, Tryz.ntmps31
              have bq_0 := bq.cell (j := 0) rfl
              have bq_1 := bq.cell (j := 1) rfl
              have bq_z := bq.frozen
              have bq_l := bq.lt
              have bR_0 := bR.cell (j := 0) rfl
              have bR_1 := bR.cell (j := 1) rfl
              have bR_z := bR.frozen
              have bR_l := bR.lt
              go_wp2_with fail
              clear hwA
              clear bq_0 bq_1 bq_z bq_l bR_0 bR_1 bR_z bR_l
              refine (c1).mono ?_; rintro q_ w1 ⟨rfl, b_1⟩
              replace bq := bq.below b_1 bq.lt
              replace bR := bR.below b_1 bR.lt
              replace hs := hs.below b_1 (by omega)
              replace hw := hw.below b_1 (by omega)
              have z_2 := b_1.size
              replace b0 := b0.trans (b_1.mono (by omega))
              clear b_1
              have bq_0 := bq.cell (j := 0) rfl
              have bq_1 := bq.cell (j := 1) rfl
              have bq_z := bq.frozen
              have bq_l := bq.lt
              have bR_0 := bR.cell (j := 0) rfl
              have bR_1 := bR.cell (j := 1) rfl
              have bR_z := bR.frozen
              have bR_l := bR.lt
              go_wp2_with fail
              clear bq_0 bq_1 bq_z bq_l bR_0 bR_1 bR_z bR_l
              refine (c2 _).mono ?_; rintro q_ w_ ⟨rfl, rfl⟩
              have bq_0 := bq.cell (j := 0) rfl
              have bq_1 := bq.cell (j := 1) rfl
              have bq_z := bq.frozen
              have bq_l := bq.lt
              have bR_0 := bR.cell (j := 0) rfl
              have bR_1 := bR.cell (j := 1) rfl
              have bR_z := bR.frozen
              have bR_l := bR.lt
              go_wp2_with fail
              clear bq_0 bq_1 bq_z bq_l bR_0 bR_1 bR_z bR_l
              have c3 := l9Has_any _ lw i w1 hw (by omega)
              rw [hfx] at c3
              refine (c3).mono ?_; rintro q_ w_ ⟨rfl, rfl⟩
              clear hfx
              have bq_0 := bq.cell (j := 0) rfl
              have bq_1 := bq.cell (j := 1) rfl
              have bq_z := bq.frozen
              have bq_l := bq.lt
              have bR_0 := bR.cell (j := 0) rfl
              have bR_1 := bR.cell (j := 1) rfl
              have bR_z := bR.frozen
              have bR_l := bR.lt
              go_wp2_with fail
              clear bq_0 bq_1 bq_z bq_l bR_0 bR_1 bR_z bR_l
              refine (c4 w1 hs (by omega)).mono ?_; rintro q_ w3 ⟨rfl, b_3⟩
              replace bq := bq.below b_3 bq.lt
              replace bR := bR.below b_3 bR.lt
              replace hs := hs.below b_3 (by omega)
              replace hw := hw.below b_3 (by omega)
              have z_4 := b_3.size
              replace b0 := b0.trans (b_3.mono (by omega))
              clear b_3
              obtain ⟨_, _, s', e_, hs', _, _, f0, f1, f2⟩ := Sl.get hs hqn (Below.refl w3.heap.size w3) (by omega)
              injection e_ with e_
              injection e_ with e1_ e2_
              subst e1_; subst e2_
              obtain rfl : s = s' := Option.some.inj (HQ.out.symm.trans hs'.out)
              clear hs'
              clear hs3
              have bq_0 := bq.cell (j := 0) rfl
              have bq_1 := bq.cell (j := 1) rfl
              have bq_z := bq.frozen
              have bq_l := bq.lt
              have bR_0 := bR.cell (j := 0) rfl
              have bR_1 := bR.cell (j := 1) rfl
              have bR_z := bR.frozen
              have bR_l := bR.lt
              go_upto_region 10 with fail
              clear bq_0 bq_1 bq_z bq_l bR_0 bR_1 bR_z bR_l
              have b_5 := (Below.refl w3.heap.size w3).alloc (Nat.le_refl _) (.cells #[(.int .i64 0), (.int .i64 0), (.int .i64 0)] 76)
              have bs_ := Box.new w3 #[(.int .i64 0), (.int .i64 0), (.int .i64 0)] 76 rfl
              replace bq := bq.below b_5 bq.lt
              replace bR := bR.below b_5 bR.lt
              replace hs := hs.below b_5 (by omega)
              replace hw := hw.below b_5 (by omega)
              have z_6 := b_5.size
              replace b0 := b0.trans (b_5.mono (by omega))
              clear b_5
              generalize w3.alloc _ = w5 at *
              generalize w3.heap.size = g5 at *
              clear f0 f1 f2
              obtain ⟨_, _, s', e_, hs', _, _, f0, f1, f2⟩ := Sl.get hs hqn (Below.refl w5.heap.size w5) (by omega)
              injection e_ with e_
              injection e_ with e1_ e2_
              subst e1_; subst e2_
              obtain rfl : s = s' := Option.some.inj (HQ.out.symm.trans hs'.out)
              clear hs'
              have bq_0 := bq.cell (j := 0) rfl
              have bq_1 := bq.cell (j := 1) rfl
              have bq_z := bq.frozen
              have bq_l := bq.lt
              have bR_0 := bR.cell (j := 0) rfl
              have bR_1 := bR.cell (j := 1) rfl
              have bR_z := bR.frozen
              have bR_l := bR.lt
              have bs__0 := bs_.cell (j := 0) rfl
              have bs__1 := bs_.cell (j := 1) rfl
              have bs__2 := bs_.cell (j := 2) rfl
              have bs__z := bs_.frozen
              have bs__l := bs_.lt
              go_upto_region 13 with fail
              clear bq_0 bq_1 bq_z bq_l bR_0 bR_1 bR_z bR_l bs__0 bs__1 bs__2 bs__z bs__l
              clear f0 f1 f2
              refine wp_region_held_drew (S := fun W => Box W (w.heap.size) 27 [.slice (some ⟨bs, os, none⟩) n0 d0, .slice A1 n1 d1] ∧ Box W (g5) 76 [(.int .i64 0), (.int .i64 0), (.int .i64 0)]) (by kernel_rfl) (show (fun (W : World) => Box W (w.heap.size) 27 [.slice (some ⟨bs, os, none⟩) n0 d0, .slice A1 n1 d1] ∧ Box W (g5) 76 [(.int .i64 0), (.int .i64 0), (.int .i64 0)]) w5.drew from ⟨bq, bs_⟩) (fun hHeld => ?_)
              refine wpAnyH_take (i := 0) (v := .pointer (some ⟨w.heap.size, 0, none⟩)) rfl (by kernel_rfl) (by kernel_rfl) (by kernel_rfl) (fun _ _ _ h => h) (Or.inl ⟨by rfl, by intro w hSw; obtain ⟨hS0, hS1⟩ := hSw; have y00 := hS0.cell (j := 0) rfl; have y01 := hS0.cell (j := 1) rfl; have y10 := hS1.cell (j := 0) rfl; have y11 := hS1.cell (j := 1) rfl; have y12 := hS1.cell (j := 2) rfl; go_simp⟩) hHeld ?_
              refine wpAnyH_take (i := 1) (v := .slice (some ⟨bs, os, none⟩) n0 d0) rfl (by kernel_rfl) (by kernel_rfl) (by kernel_rfl) (fun _ _ _ h => h) (Or.inl ⟨by rfl, by intro w hSw; obtain ⟨hS0, hS1⟩ := hSw; have y00 := hS0.cell (j := 0) rfl; have y01 := hS0.cell (j := 1) rfl; have y10 := hS1.cell (j := 0) rfl; have y11 := hS1.cell (j := 1) rfl; have y12 := hS1.cell (j := 2) rfl; go_simp⟩) hHeld ?_
              refine wpAnyH_take (i := 2) (v := .int .i64 q) rfl (by kernel_rfl) (by kernel_rfl) (by kernel_rfl) (fun _ _ _ h => h) (Or.inl ⟨by rfl, by intro w hSw; obtain ⟨hS0, hS1⟩ := hSw; have y00 := hS0.cell (j := 0) rfl; have y01 := hS0.cell (j := 1) rfl; have y10 := hS1.cell (j := 0) rfl; have y11 := hS1.cell (j := 1) rfl; have y12 := hS1.cell (j := 2) rfl; go_simp⟩) hHeld ?_
              refine wpAnyH_take (i := 3) (v := .agg #[.int .i64 0, .int .i64 0, .int .i64 0]) rfl (by kernel_rfl) (by kernel_rfl) (by kernel_rfl) (fun _ _ _ h => h) (Or.inl ⟨by rfl, by intro w hSw; obtain ⟨hS0, hS1⟩ := hSw; have y00 := hS0.cell (j := 0) rfl; have y01 := hS0.cell (j := 1) rfl; have y10 := hS1.cell (j := 0) rfl; have y11 := hS1.cell (j := 1) rfl; have y12 := hS1.cell (j := 2) rfl; go_simp⟩) hHeld ?_
              refine wpAnyH_take (i := 5) (v := .pointer (some ⟨w.heap.size, 1, none⟩)) rfl (by kernel_rfl) (by kernel_rfl) (by kernel_rfl) (fun _ _ _ h => h) (Or.inl ⟨by rfl, by intro w hSw; obtain ⟨hS0, hS1⟩ := hSw; have y00 := hS0.cell (j := 0) rfl; have y01 := hS0.cell (j := 1) rfl; have y10 := hS1.cell (j := 0) rfl; have y11 := hS1.cell (j := 1) rfl; have y12 := hS1.cell (j := 2) rfl; go_simp⟩) hHeld ?_
              refine wpAnyH_take (i := 6) (v := .slice A1 n1 d1) rfl (by kernel_rfl) (by kernel_rfl) (by kernel_rfl) (fun _ _ _ h => h) (Or.inl ⟨by rfl, by intro w hSw; obtain ⟨hS0, hS1⟩ := hSw; have y00 := hS0.cell (j := 0) rfl; have y01 := hS0.cell (j := 1) rfl; have y10 := hS1.cell (j := 0) rfl; have y11 := hS1.cell (j := 1) rfl; have y12 := hS1.cell (j := 2) rfl; go_simp⟩) hHeld ?_
              clear hHeld
              refine held_gen (F := fun W' => Below w5.heap.size w5 W') (Below.refl w5.heap.size w5).drew ?_
              rintro w7 b_7
              replace bq := bq.below b_7 bq.lt
              replace bR := bR.below b_7 bR.lt
              replace bs_ := bs_.below b_7 bs_.lt
              replace hs := hs.below b_7 (by omega)
              replace hw := hw.below b_7 (by omega)
              have z_8 := b_7.size
              replace b0 := b0.trans (b_7.mono (by omega))
              clear b_7
              refine wpAnyH_ready (rs := [4]) (by kernel_rfl) (by decide) ?_
              refine AllReadyH.cons rfl (fun K9 hK9 => ?_) AllReadyH.nil
              go_simp
              refine (specWith_any _ ls q ⟨0, 0, 0⟩ w7 hs (by omega) hql (by have := HL.out; omega)).mono ?_; rintro q_ w10 ⟨v3, rfl, o3, b_10⟩
              replace bq := bq.below b_10 bq.lt
              replace bR := bR.below b_10 bR.lt
              replace bs_ := bs_.below b_10 bs_.lt
              replace hs := hs.below b_10 (by omega)
              replace hw := hw.below b_10 (by omega)
              have z_11 := b_10.size
              replace b0 := b0.trans (b_10.mono (by omega))
              clear b_10
              obtain ⟨A3, n3, d3, rfl, _, _, _⟩ := o3.rd.form
              refine hK9.out _ _ ⟨bq, bs_⟩ (fun _ => ?_)
              refine wpAnyH_ready (rs := [7]) (by kernel_rfl) (by decide) ?_
              refine AllReadyH.cons rfl (fun K12 hK12 => ?_) AllReadyH.nil
              go_simp
              refine hK12.out _ _ ⟨bq, bs_⟩ (fun _ => ?_)
              refine wpAnyH_ready (rs := [8]) (by kernel_rfl) (by decide) ?_
              refine AllReadyH.cons rfl (fun K13 hK13 => ?_) AllReadyH.nil
              go_simp
              refine (specSettle_any _ _ (ls.set q ⟨0, 0, 0⟩) lw w10 o3.rd hw (by omega) (by omega) HP2.out).mono ?_; rintro q_ w14 ⟨v5, v6, rfl, o5, o6, b_14⟩
              replace bq := bq.below b_14 bq.lt
              replace bR := bR.below b_14 bR.lt
              replace bs_ := bs_.below b_14 bs_.lt
              replace hs := hs.below b_14 (by omega)
              replace hw := hw.below b_14 (by omega)
              replace o3 := o3.below b_14 (by omega)
              have z_15 := b_14.size
              replace b0 := b0.trans (b_14.mono (by omega))
              clear b_14
              obtain ⟨A5, n5, d5, rfl, _, _, _⟩ := o5.rd.form
              obtain ⟨A6, n6, d6, rfl, _, _, _⟩ := o6.rd.form
              refine hK13.out _ _ ⟨bq, bs_⟩ (fun _ => ?_)
              refine wpAnyH_ready (rs := [9]) (by kernel_rfl) (by decide) ?_
              refine AllReadyH.cons rfl (fun K16 hK16 => ?_) AllReadyH.nil
              have bq_0 := bq.cell (j := 0) rfl
              have bq_1 := bq.cell (j := 1) rfl
              have bq_z := bq.frozen
              have bq_l := bq.lt
              have bR_0 := bR.cell (j := 0) rfl
              have bR_1 := bR.cell (j := 1) rfl
              have bR_z := bR.frozen
              have bR_l := bR.lt
              have bs__0 := bs_.cell (j := 0) rfl
              have bs__1 := bs_.cell (j := 1) rfl
              have bs__2 := bs_.cell (j := 2) rfl
              have bs__z := bs_.frozen
              have bs__l := bs_.lt
              go_simp
              clear bq_0 bq_1 bq_z bq_l bR_0 bR_1 bR_z bR_l bs__0 bs__1 bs__2 bs__z bs__l
              generalize hwz : World.setCell (World.setCell _ _ _) _ _ = wz_
              obtain rfl : wz_ = setL w14 (w.heap.size + 1) 0 [.slice A5 n5 d5, .slice A6 n6 d6] := hwz.symm
              clear hwz
              replace bq := bq.other (b := w.heap.size + 1) (by omega) 0 [.slice A5 n5 d5, .slice A6 n6 d6]
              replace bs_ := bs_.other (b := w.heap.size + 1) (by omega) 0 [.slice A5 n5 d5, .slice A6 n6 d6]
              replace hs := hs.away (g := w.heap.size + 1) (by omega) 0 [.slice A5 n5 d5, .slice A6 n6 d6]
              replace hw := hw.away (g := w.heap.size + 1) (by omega) 0 [.slice A5 n5 d5, .slice A6 n6 d6]
              replace o3 := o3.box (g := w.heap.size + 1) bR (by decide) 0 [.slice A5 n5 d5, .slice A6 n6 d6]
              replace o5 := o5.box (g := w.heap.size + 1) bR (by decide) 0 [.slice A5 n5 d5, .slice A6 n6 d6]
              replace o6 := o6.box (g := w.heap.size + 1) bR (by decide) 0 [.slice A5 n5 d5, .slice A6 n6 d6]
              replace b0 := setL_below b0 [.slice A5 n5 d5, .slice A6 n6 d6] (w.heap.size + 1) 0 (by omega)
              have zs_17 : (setL w14 (w.heap.size + 1) 0 [.slice A5 n5 d5, .slice A6 n6 d6]).heap.size = w14.heap.size := setL_size _ _ _ _
              replace bR := bR.setAll [.slice A5 n5 d5, .slice A6 n6 d6] rfl
              generalize setL w14 _ 0 _ = w17 at *
              refine hK16.out _ _ ⟨bq, bs_⟩ (fun _ => ?_)
              refine wpAnyH_ready (rs := [10]) (by kernel_rfl) (by decide) ?_
              refine AllReadyH.cons rfl (fun K18 hK18 => ?_) AllReadyH.nil
              go_simp
              refine hK18.out _ _ ⟨bq, bs_⟩ (fun _ => ?_)
              refine ⟨by kernel_rfl, ?_⟩
              have bq_0 := bq.cell (j := 0) rfl
              have bq_1 := bq.cell (j := 1) rfl
              have bq_z := bq.frozen
              have bq_l := bq.lt
              have bR_0 := bR.cell (j := 0) rfl
              have bR_1 := bR.cell (j := 1) rfl
              have bR_z := bR.frozen
              have bR_l := bR.lt
              have bs__0 := bs_.cell (j := 0) rfl
              have bs__1 := bs_.cell (j := 1) rfl
              have bs__2 := bs_.cell (j := 2) rfl
              have bs__z := bs_.frozen
              have bs__l := bs_.lt
              go_wp2_with fail
              clear bq_0 bq_1 bq_z bq_l bR_0 bR_1 bR_z bR_l bs__0 bs__1 bs__2 bs__z bs__l
              have u0_ := bR.cell (j := 0) rfl
              have u1_ := bR.cell (j := 1) rfl
              refine bodyPost_ret (by simp only [results, Tryz.results31]; simp [go_sem, u0_, u1_]; rfl) rfl ?_
              exact ⟨_, _, by rw [HF.out.1], by rw [HF.out.2.1, Qu.wiP, HW.out, HD.out]; exact o5.mono (by omega) (by omega), by rw [HF.out.2.2, Qu.wiP, HW.out, HD.out]; exact o6.mono (by omega) (by omega), b0⟩
      · have hWH := Qu.wi_had (ls := ls) hf
        have HP2 := Lib.hid (Qu.wi_parts hp hWH.1)
        have HF := Lib.hid (Qu.wi_yes (ls := ls) (lw := lw) (i := i) (by rw [Qu.wiOk, hEG, hWH.1]; rfl))
        have HW := Lib.hid hWH.2
        have HB := Lib.hid (Qu.wi_had_st HG.out hf)
        rw [hWH.2] at HP2
        have HFX := Lib.hid hf
        have hN := hw.n_eq
        have hjn : j < n1 := by omega
        have hjd : n1 ≤ d1 := hN.2.1
        have hjn8 : n1 ≤ 8 := by have := HL.out; omega
        clear hf hWH hN hp hEG ht hpt
        have hfx := HFX.out
        obtain ⟨i1, hi1, hz0, hz1, hz2⟩ := info_parts Wt.info
        obtain ⟨bw, ow, t', rfl, _, hbw0, hbw, _, _⟩ := Wt.get hw hjn (Below.refl wA.heap.size wA) (by omega)
        go_enter Tryz.func31, Tryz.ntmps31
        have bq_0 := bq.cell (j := 0) rfl
        have bq_1 := bq.cell (j := 1) rfl
        have bq_z := bq.frozen
        have bq_l := bq.lt
        have bR_0 := bR.cell (j := 0) rfl
        have bR_1 := bR.cell (j := 1) rfl
        have bR_z := bR.frozen
        have bR_l := bR.lt
        go_wp2_with fail
        clear hwA
        clear bq_0 bq_1 bq_z bq_l bR_0 bR_1 bR_z bR_l
        refine (c1).mono ?_; rintro q_ w1 ⟨rfl, b_1⟩
        replace bq := bq.below b_1 bq.lt
        replace bR := bR.below b_1 bR.lt
        replace hs := hs.below b_1 (by omega)
        replace hw := hw.below b_1 (by omega)
        have z_2 := b_1.size
        replace b0 := b0.trans (b_1.mono (by omega))
        clear b_1
        have bq_0 := bq.cell (j := 0) rfl
        have bq_1 := bq.cell (j := 1) rfl
        have bq_z := bq.frozen
        have bq_l := bq.lt
        have bR_0 := bR.cell (j := 0) rfl
        have bR_1 := bR.cell (j := 1) rfl
        have bR_z := bR.frozen
        have bR_l := bR.lt
        go_wp2_with fail
        clear bq_0 bq_1 bq_z bq_l bR_0 bR_1 bR_z bR_l
        refine (c2 _).mono ?_; rintro q_ w_ ⟨rfl, rfl⟩
        have bq_0 := bq.cell (j := 0) rfl
        have bq_1 := bq.cell (j := 1) rfl
        have bq_z := bq.frozen
        have bq_l := bq.lt
        have bR_0 := bR.cell (j := 0) rfl
        have bR_1 := bR.cell (j := 1) rfl
        have bR_z := bR.frozen
        have bR_l := bR.lt
        go_wp2_with fail
        clear bq_0 bq_1 bq_z bq_l bR_0 bR_1 bR_z bR_l
        have c3 := l9Has_any _ lw i w1 hw (by omega)
        rw [hfx] at c3
        refine (c3).mono ?_; rintro q_ w_ ⟨rfl, rfl⟩
        clear hfx
        have bq_0 := bq.cell (j := 0) rfl
        have bq_1 := bq.cell (j := 1) rfl
        have bq_z := bq.frozen
        have bq_l := bq.lt
        have bR_0 := bR.cell (j := 0) rfl
        have bR_1 := bR.cell (j := 1) rfl
        have bR_z := bR.frozen
        have bR_l := bR.lt
        go_upto_region 5 with fail
        clear bq_0 bq_1 bq_z bq_l bR_0 bR_1 bR_z bR_l
        have hjc : j ≤ d1 := by omega
        have hj1 : j + 1 ≤ n1 := by omega
        have hj1d : j + 1 ≤ d1 := by omega
        have h01 : (0 : Int) ≤ (j : Int) + 1 := by omega
        have hj1w : IntKind.i64.wrap ((j : Int) + 1) = (j : Int) + 1 := by rw [IntKind.wrap_i64]; omega
        have hj1i : (j : Int) + 1 ≤ (n1 : Int) := by omega
        have hkrd := hw.take_ (k := j) (by omega)
        have hdrd := hw.dropn (k := j + 1) (by omega)
        rw [dropA_some] at hdrd
        generalize hB1 : (if d1 = j + 1 then (some ⟨bw, ow, none⟩ : Option Addr) else some ⟨bw, ow + (j + 1) * 2, none⟩) = B1 at hdrd
        have HB1 := Lib.hid hB1
        clear hB1
        refine wp_region_held_drew (S := fun W => Box W (w.heap.size) 27 [.slice A0 n0 d0, .slice (some ⟨bw, ow, none⟩) n1 d1]) (by kernel_rfl) (show (fun (W : World) => Box W (w.heap.size) 27 [.slice A0 n0 d0, .slice (some ⟨bw, ow, none⟩) n1 d1]) w1.drew from bq) (fun hHeld => ?_)
        refine wpAnyH_take (i := 0) (v := .pointer (some ⟨w.heap.size, 0, none⟩)) rfl (by kernel_rfl) (by kernel_rfl) (by kernel_rfl) (fun _ _ _ h => h) (Or.inl ⟨by rfl, by intro w hSw; have hS0 := hSw; have y00 := hS0.cell (j := 0) rfl; have y01 := hS0.cell (j := 1) rfl; go_simp; (try exact HB1.out)⟩) hHeld ?_
        refine wpAnyH_take (i := 1) (v := .slice A0 n0 d0) rfl (by kernel_rfl) (by kernel_rfl) (by kernel_rfl) (fun _ _ _ h => h) (Or.inl ⟨by rfl, by intro w hSw; have hS0 := hSw; have y00 := hS0.cell (j := 0) rfl; have y01 := hS0.cell (j := 1) rfl; go_simp; (try exact HB1.out)⟩) hHeld ?_
        refine wpAnyH_take (i := 3) (v := .pointer (some ⟨w.heap.size, 1, none⟩)) rfl (by kernel_rfl) (by kernel_rfl) (by kernel_rfl) (fun _ _ _ h => h) (Or.inl ⟨by rfl, by intro w hSw; have hS0 := hSw; have y00 := hS0.cell (j := 0) rfl; have y01 := hS0.cell (j := 1) rfl; go_simp; (try exact HB1.out)⟩) hHeld ?_
        refine wpAnyH_take (i := 4) (v := .slice (some ⟨bw, ow, none⟩) n1 d1) rfl (by kernel_rfl) (by kernel_rfl) (by kernel_rfl) (fun _ _ _ h => h) (Or.inl ⟨by rfl, by intro w hSw; have hS0 := hSw; have y00 := hS0.cell (j := 0) rfl; have y01 := hS0.cell (j := 1) rfl; go_simp; (try exact HB1.out)⟩) hHeld ?_
        refine wpAnyH_take (i := 5) (v := .int .i64 j) rfl (by kernel_rfl) (by kernel_rfl) (by kernel_rfl) (fun _ _ _ h => h) (Or.inl ⟨by rfl, by intro w hSw; have hS0 := hSw; have y00 := hS0.cell (j := 0) rfl; have y01 := hS0.cell (j := 1) rfl; go_simp; (try exact HB1.out)⟩) hHeld ?_
        refine wpAnyH_take (i := 6) (v := .slice (some ⟨bw, ow, none⟩) j d1) rfl (by kernel_rfl) (by kernel_rfl) (by kernel_rfl) (fun _ _ _ h => h) (Or.inl ⟨by rfl, by intro w hSw; have hS0 := hSw; have y00 := hS0.cell (j := 0) rfl; have y01 := hS0.cell (j := 1) rfl; go_simp; (try exact HB1.out)⟩) hHeld ?_
        refine wpAnyH_take (i := 8) (v := .pointer (some ⟨w.heap.size, 1, none⟩)) rfl (by kernel_rfl) (by kernel_rfl) (by kernel_rfl) (fun _ _ _ h => h) (Or.inl ⟨by rfl, by intro w hSw; have hS0 := hSw; have y00 := hS0.cell (j := 0) rfl; have y01 := hS0.cell (j := 1) rfl; go_simp; (try exact HB1.out)⟩) hHeld ?_
        refine wpAnyH_take (i := 9) (v := .slice (some ⟨bw, ow, none⟩) n1 d1) rfl (by kernel_rfl) (by kernel_rfl) (by kernel_rfl) (fun _ _ _ h => h) (Or.inl ⟨by rfl, by intro w hSw; have hS0 := hSw; have y00 := hS0.cell (j := 0) rfl; have y01 := hS0.cell (j := 1) rfl; go_simp; (try exact HB1.out)⟩) hHeld ?_
        refine wpAnyH_take (i := 10) (v := .int .i64 j) rfl (by kernel_rfl) (by kernel_rfl) (by kernel_rfl) (fun _ _ _ h => h) (Or.inl ⟨by rfl, by intro w hSw; have hS0 := hSw; have y00 := hS0.cell (j := 0) rfl; have y01 := hS0.cell (j := 1) rfl; go_simp; (try exact HB1.out)⟩) hHeld ?_
        refine wpAnyH_take (i := 11) (v := .int .i64 ((j : Int) + 1)) rfl (by kernel_rfl) (by kernel_rfl) (by kernel_rfl) (fun _ _ _ h => h) (Or.inl ⟨by rfl, by intro w hSw; have hS0 := hSw; have y00 := hS0.cell (j := 0) rfl; have y01 := hS0.cell (j := 1) rfl; go_simp; (try exact HB1.out)⟩) hHeld ?_
        refine wpAnyH_take (i := 12) (v := .slice B1 (n1 - (j + 1)) (d1 - (j + 1))) rfl (by kernel_rfl) (by kernel_rfl) (by kernel_rfl) (fun _ _ _ h => h) (Or.inl ⟨by rfl, by intro w hSw; have hS0 := hSw; have y00 := hS0.cell (j := 0) rfl; have y01 := hS0.cell (j := 1) rfl; go_simp; (try exact HB1.out)⟩) hHeld ?_
        clear hHeld
        refine held_gen (F := fun W' => Below w1.heap.size w1 W') (Below.refl w1.heap.size w1).drew ?_
        rintro w3 b_3
        replace bq := bq.below b_3 bq.lt
        replace bR := bR.below b_3 bR.lt
        replace hs := hs.below b_3 (by omega)
        replace hw := hw.below b_3 (by omega)
        replace hkrd := hkrd.below b_3 (by omega)
        replace hdrd := hdrd.below b_3 (by omega)
        have z_4 := b_3.size
        replace b0 := b0.trans (b_3.mono (by omega))
        clear b_3
        refine wpAnyH_ready (rs := [2]) (by kernel_rfl) (by decide) ?_
        refine AllReadyH.cons rfl (fun K5 hK5 => ?_) AllReadyH.nil
        go_simp
        have o4 := own_empty w3 (base := w3.heap.size) 67 2 (Nat.le_refl _)
        have b_6 := (Below.refl w3.heap.size w3).alloc (Nat.le_refl _) (.cells #[] 67)
        obtain ⟨gS, hgS⟩ : ∃ g, g = w3.heap.size := ⟨_, rfl⟩
        simp only [← hgS] at o4 ⊢
        have hzS := hgS
        replace bq := bq.below b_6 bq.lt
        replace bR := bR.below b_6 bR.lt
        replace hs := hs.below b_6 (by omega)
        replace hw := hw.below b_6 (by omega)
        replace hkrd := hkrd.below b_6 (by omega)
        replace hdrd := hdrd.below b_6 (by omega)
        have z_7 := b_6.size
        replace b0 := b0.trans (b_6.mono (by omega))
        clear b_6
        generalize w3.alloc _ = w6 at *
        refine hK5.out _ _ bq (fun _ => ?_)
        refine wpAnyH_ready (rs := [7]) (by kernel_rfl) (by decide) ?_
        refine AllReadyH.cons rfl (fun K8 hK8 => ?_) AllReadyH.nil
        refine step_app_rd rfl _ _ 25 rfl gS 67 i1 _ 2 _ Tryz.underlying25 hi1 hz0 hz1 hz2 rfl (by omega) Wt.cells_len Wt.one (.slice (some ⟨gS, 0, none⟩) 0 0) 0 [] rfl o4 (A := some ⟨bw, ow, none⟩) (m := j) (c := d1) (l := lw.take j) rfl hkrd (by unfold maxLen; omega) (by omega) (by omega) ?_
        intro v4 w9 o4' g4
        have b_9 : Below gS w6 w9 := (Below.refl gS w6).grown g4 (by omega) (own_ge o4)
        clear o4 g4
        have o4 := o4'; clear o4'
        replace bq := bq.below b_9 (by omega)
        replace bR := bR.below b_9 (by omega)
        replace hs := hs.below b_9 (by omega)
        replace hw := hw.below b_9 (by omega)
        replace hkrd := hkrd.below b_9 (by omega)
        replace hdrd := hdrd.below b_9 (by omega)
        have z_9 := b_9.size
        replace b0 := b0.trans (b_9.mono (by omega))
        clear b_9
        refine hK8.out _ _ bq (fun _ => ?_)
        refine wpAnyH_ready (rs := [13]) (by kernel_rfl) (by decide) ?_
        refine AllReadyH.cons rfl (fun K10 hK10 => ?_) AllReadyH.nil
        refine step_app_rd rfl _ _ 25 rfl gS 67 i1 _ 2 _ Tryz.underlying25 hi1 hz0 hz1 hz2 rfl (by omega) Wt.cells_len Wt.one v4 (0 + j) ([] ++ (lw.take j).flatMap Wt.cells) rfl o4 (A := B1) (m := n1 - (j + 1)) (c := d1 - (j + 1)) (l := lw.drop (j + 1)) rfl hdrd (by unfold maxLen; omega) (by omega) (by omega) ?_
        intro v3 w11 o3' g4
        have b_11 : Below gS w9 w11 := (Below.refl gS w9).grown g4 (by omega) (own_ge o4)
        clear o4 g4
        have o3 := Ow.of_own Wt.cells_len o3' (l := lw.eraseIdx j) (by rw [eraseIdx_two]; simp) (by rw [List.length_eraseIdx]; have := hw.n_eq; split <;> omega)
        clear o3'
        replace bq := bq.below b_11 (by omega)
        replace bR := bR.below b_11 (by omega)
        replace hs := hs.below b_11 (by omega)
        replace hw := hw.below b_11 (by omega)
        replace hkrd := hkrd.below b_11 (by omega)
        replace hdrd := hdrd.below b_11 (by omega)
        have z_11 := b_11.size
        replace b0 := b0.trans (b_11.mono (by omega))
        clear b_11
        obtain ⟨A3, n3, d3, rfl, _, _, _⟩ := o3.rd.form
        refine hK10.out _ _ bq (fun _ => ?_)
        refine wpAnyH_ready (rs := [14]) (by kernel_rfl) (by decide) ?_
        refine AllReadyH.cons rfl (fun K12 hK12 => ?_) AllReadyH.nil
        go_simp
        refine hK12.out _ _ bq (fun _ => ?_)
        refine wpAnyH_ready (rs := [15]) (by kernel_rfl) (by decide) ?_
        refine AllReadyH.cons rfl (fun K13 hK13 => ?_) AllReadyH.nil
        go_simp
        refine (specSettle_any _ _ ls (lw.eraseIdx j) w11 hs o3.rd (by omega) (by omega) HP2.out).mono ?_; rintro q_ w14 ⟨v5, v6, rfl, o5, o6, b_14⟩
        replace bq := bq.below b_14 bq.lt
        replace bR := bR.below b_14 bR.lt
        replace hs := hs.below b_14 (by omega)
        replace hw := hw.below b_14 (by omega)
        replace hkrd := hkrd.below b_14 (by omega)
        replace hdrd := hdrd.below b_14 (by omega)
        replace o3 := o3.below b_14 (by omega)
        have z_15 := b_14.size
        replace b0 := b0.trans (b_14.mono (by omega))
        clear b_14
        obtain ⟨A5, n5, d5, rfl, _, _, _⟩ := o5.rd.form
        obtain ⟨A6, n6, d6, rfl, _, _, _⟩ := o6.rd.form
        refine hK13.out _ _ bq (fun _ => ?_)
        refine wpAnyH_ready (rs := [16]) (by kernel_rfl) (by decide) ?_
        refine AllReadyH.cons rfl (fun K16 hK16 => ?_) AllReadyH.nil
        have bq_0 := bq.cell (j := 0) rfl
        have bq_1 := bq.cell (j := 1) rfl
        have bq_z := bq.frozen
        have bq_l := bq.lt
        have bR_0 := bR.cell (j := 0) rfl
        have bR_1 := bR.cell (j := 1) rfl
        have bR_z := bR.frozen
        have bR_l := bR.lt
        go_simp
        clear bq_0 bq_1 bq_z bq_l bR_0 bR_1 bR_z bR_l
        generalize hwz : World.setCell (World.setCell _ _ _) _ _ = wz_
        obtain rfl : wz_ = setL w14 (w.heap.size + 1) 0 [.slice A5 n5 d5, .slice A6 n6 d6] := hwz.symm
        clear hwz
        replace bq := bq.other (b := w.heap.size + 1) (by omega) 0 [.slice A5 n5 d5, .slice A6 n6 d6]
        replace hs := hs.away (g := w.heap.size + 1) (by omega) 0 [.slice A5 n5 d5, .slice A6 n6 d6]
        replace hw := hw.away (g := w.heap.size + 1) (by omega) 0 [.slice A5 n5 d5, .slice A6 n6 d6]
        replace hkrd := hkrd.away (g := w.heap.size + 1) (by omega) 0 [.slice A5 n5 d5, .slice A6 n6 d6]
        replace hdrd := hdrd.away (g := w.heap.size + 1) (by omega) 0 [.slice A5 n5 d5, .slice A6 n6 d6]
        replace o3 := o3.box (g := w.heap.size + 1) bR (by decide) 0 [.slice A5 n5 d5, .slice A6 n6 d6]
        replace o5 := o5.box (g := w.heap.size + 1) bR (by decide) 0 [.slice A5 n5 d5, .slice A6 n6 d6]
        replace o6 := o6.box (g := w.heap.size + 1) bR (by decide) 0 [.slice A5 n5 d5, .slice A6 n6 d6]
        replace b0 := setL_below b0 [.slice A5 n5 d5, .slice A6 n6 d6] (w.heap.size + 1) 0 (by omega)
        have zs_17 : (setL w14 (w.heap.size + 1) 0 [.slice A5 n5 d5, .slice A6 n6 d6]).heap.size = w14.heap.size := setL_size _ _ _ _
        replace bR := bR.setAll [.slice A5 n5 d5, .slice A6 n6 d6] rfl
        generalize setL w14 _ 0 _ = w17 at *
        refine hK16.out _ _ bq (fun _ => ?_)
        refine wpAnyH_ready (rs := [17]) (by kernel_rfl) (by decide) ?_
        refine AllReadyH.cons rfl (fun K18 hK18 => ?_) AllReadyH.nil
        go_simp
        refine hK18.out _ _ bq (fun _ => ?_)
        refine ⟨by kernel_rfl, ?_⟩
        have bq_0 := bq.cell (j := 0) rfl
        have bq_1 := bq.cell (j := 1) rfl
        have bq_z := bq.frozen
        have bq_l := bq.lt
        have bR_0 := bR.cell (j := 0) rfl
        have bR_1 := bR.cell (j := 1) rfl
        have bR_z := bR.frozen
        have bR_l := bR.lt
        go_wp2_with fail
        clear bq_0 bq_1 bq_z bq_l bR_0 bR_1 bR_z bR_l
        have u0_ := bR.cell (j := 0) rfl
        have u1_ := bR.cell (j := 1) rfl
        refine bodyPost_ret (by simp only [results, Tryz.results31]; simp [go_sem, u0_, u1_]; rfl) rfl ?_
        exact ⟨_, _, by rw [HF.out.1], by rw [HF.out.2.1, Qu.wiP, HW.out]; exact o5.mono (by omega) (by omega), by rw [HF.out.2.2, Qu.wiP, HW.out]; exact o6.mono (by omega) (by omega), b0⟩
set_option maxHeartbeats 8000000 in
theorem implWithdrawIrq_any (vs vw : Value) (ls : List Sl) (lw : List Wt) (i : Int) (w : World) {lo hi lo2 hi2 : Nat} (h : Rd Sl.cells 3 w lo hi vs ls) (h2 : Rd Wt.cells 2 w lo2 hi2 vw lw) (hh : hi ≤ w.heap.size) (hh2 : hi2 ≤ w.heap.size) :
    Calls Tryz.prog 30 #[.agg #[vs, vw], .int .i64 i] w fun e w' => ∃ v1 v2, e = .returned (.tuple #[.agg #[v1, v2], .bool (Qu.wiOk ls lw i)]) ∧ Ow Sl.cells 3 76 w' w.heap.size w'.heap.size v1 (Qu.wiS ls lw i) ∧ Ow Wt.cells 2 67 w' w.heap.size w'.heap.size v2 (Qu.wiW ls lw i) ∧ Below w.heap.size w w' := by
  have b0 : Below w.heap.size w ((w.alloc (.cells #[vs, vw] 27)).alloc (.cells #[.slice none 0 0, .slice none 0 0] 27)) := ((Below.refl w.heap.size w).alloc (Nat.le_refl _) _).alloc (by simp) _
  have z0 : ((w.alloc (.cells #[vs, vw] 27)).alloc (.cells #[.slice none 0 0, .slice none 0 0] 27)).heap.size = w.heap.size + 2 := by simp
  have bq := Box.new w #[vs, vw] 27 rfl
  have bR := Box.new (g := w.heap.size + 1) (w.alloc (.cells #[vs, vw] 27)) #[.slice none 0 0, .slice none 0 0] 27 (by simp)
  replace bq := bq.below ((Below.refl _ (w.alloc (.cells #[vs, vw] 27))).alloc (Nat.le_refl _) (.cells #[.slice none 0 0, .slice none 0 0] 27)) bq.lt
  have hs := h.below b0 hh
  have hw := h2.below b0 hh2
  have hv_ := h.form
  have hv2_ := h2.form
  clear h h2
  generalize hwA : ((w.alloc (.cells #[vs, vw] 27)).alloc (.cells #[.slice none 0 0, .slice none 0 0] 27)) = wA at *
  obtain ⟨A0, n0, d0, rfl, _, _, _⟩ := hv_
  obtain ⟨A1, n1, d1, rfl, _, _, _⟩ := hv2_
  have c1 := implIsQueue_any _ _ ls lw _ hs hw (by omega) (by omega)
  have c2 := fun W => isIrq_any i W
  cases hg : Qu.good ls lw
  · have HF := Lib.hid (Qu.wi_no (ls := ls) (lw := lw) (i := i) (by simp [Qu.wiOk, Qu.enG, hg]))
    rw [hg] at c1
    clear hg
    go_enter Tryz.func30, Tryz.ntmps30
    have bq_0 := bq.cell (j := 0) rfl
    have bq_1 := bq.cell (j := 1) rfl
    have bq_z := bq.frozen
    have bq_l := bq.lt
    have bR_0 := bR.cell (j := 0) rfl
    have bR_1 := bR.cell (j := 1) rfl
    have bR_z := bR.frozen
    have bR_l := bR.lt
    go_wp2_with fail
    clear hwA
    clear bq_0 bq_1 bq_z bq_l bR_0 bR_1 bR_z bR_l
    refine (c1).mono ?_; rintro q_ w1 ⟨rfl, b_1⟩
    replace bq := bq.below b_1 bq.lt
    replace bR := bR.below b_1 bR.lt
    replace hs := hs.below b_1 (by omega)
    replace hw := hw.below b_1 (by omega)
    have z_2 := b_1.size
    replace b0 := b0.trans (b_1.mono (by omega))
    clear b_1
    have bq_0 := bq.cell (j := 0) rfl
    have bq_1 := bq.cell (j := 1) rfl
    have bq_z := bq.frozen
    have bq_l := bq.lt
    have bR_0 := bR.cell (j := 0) rfl
    have bR_1 := bR.cell (j := 1) rfl
    have bR_z := bR.frozen
    have bR_l := bR.lt
    go_wp2_with fail
    clear bq_0 bq_1 bq_z bq_l bR_0 bR_1 bR_z bR_l
    generalize hwz : World.setCell (World.setCell _ _ _) _ _ = wz_
    obtain rfl : wz_ = setL w1 (w.heap.size + 1) 0 [.slice none 0 0, .slice none 0 0] := hwz.symm
    clear hwz
    replace bq := bq.other (b := w.heap.size + 1) (by omega) 0 [.slice none 0 0, .slice none 0 0]
    replace hs := hs.away (g := w.heap.size + 1) (by omega) 0 [.slice none 0 0, .slice none 0 0]
    replace hw := hw.away (g := w.heap.size + 1) (by omega) 0 [.slice none 0 0, .slice none 0 0]
    replace b0 := setL_below b0 [.slice none 0 0, .slice none 0 0] (w.heap.size + 1) 0 (by omega)
    have zs_3 : (setL w1 (w.heap.size + 1) 0 [.slice none 0 0, .slice none 0 0]).heap.size = w1.heap.size := setL_size _ _ _ _
    replace bR := bR.setAll [.slice none 0 0, .slice none 0 0] rfl
    generalize setL w1 _ 0 _ = w3 at *
    have u0_ := bR.cell (j := 0) rfl
    have u1_ := bR.cell (j := 1) rfl
    refine bodyPost_ret (by simp only [results, Tryz.results30]; simp [go_sem, u0_, u1_]; rfl) rfl ?_
    exact ⟨_, _, by rw [HF.out.1], by rw [HF.out.2.1]; exact Ow.nil_, by rw [HF.out.2.2]; exact Ow.nil_, b0⟩
  · cases hi_ : inB i 0 7
    · have HF := Lib.hid (Qu.wi_no (ls := ls) (lw := lw) (i := i) (by simp [Qu.wiOk, Qu.enG, hi_]))
      rw [hg] at c1
      rw [hi_] at c2
      clear hg hi_
      go_enter Tryz.func30, Tryz.ntmps30
      have bq_0 := bq.cell (j := 0) rfl
      have bq_1 := bq.cell (j := 1) rfl
      have bq_z := bq.frozen
      have bq_l := bq.lt
      have bR_0 := bR.cell (j := 0) rfl
      have bR_1 := bR.cell (j := 1) rfl
      have bR_z := bR.frozen
      have bR_l := bR.lt
      go_wp2_with fail
      clear hwA
      clear bq_0 bq_1 bq_z bq_l bR_0 bR_1 bR_z bR_l
      refine (c1).mono ?_; rintro q_ w1 ⟨rfl, b_1⟩
      replace bq := bq.below b_1 bq.lt
      replace bR := bR.below b_1 bR.lt
      replace hs := hs.below b_1 (by omega)
      replace hw := hw.below b_1 (by omega)
      have z_2 := b_1.size
      replace b0 := b0.trans (b_1.mono (by omega))
      clear b_1
      have bq_0 := bq.cell (j := 0) rfl
      have bq_1 := bq.cell (j := 1) rfl
      have bq_z := bq.frozen
      have bq_l := bq.lt
      have bR_0 := bR.cell (j := 0) rfl
      have bR_1 := bR.cell (j := 1) rfl
      have bR_z := bR.frozen
      have bR_l := bR.lt
      go_wp2_with fail
      clear bq_0 bq_1 bq_z bq_l bR_0 bR_1 bR_z bR_l
      refine (c2 _).mono ?_; rintro q_ w_ ⟨rfl, rfl⟩
      have bq_0 := bq.cell (j := 0) rfl
      have bq_1 := bq.cell (j := 1) rfl
      have bq_z := bq.frozen
      have bq_l := bq.lt
      have bR_0 := bR.cell (j := 0) rfl
      have bR_1 := bR.cell (j := 1) rfl
      have bR_z := bR.frozen
      have bR_l := bR.lt
      go_wp2_with fail
      clear bq_0 bq_1 bq_z bq_l bR_0 bR_1 bR_z bR_l
      generalize hwz : World.setCell (World.setCell _ _ _) _ _ = wz_
      obtain rfl : wz_ = setL w1 (w.heap.size + 1) 0 [.slice none 0 0, .slice none 0 0] := hwz.symm
      clear hwz
      replace bq := bq.other (b := w.heap.size + 1) (by omega) 0 [.slice none 0 0, .slice none 0 0]
      replace hs := hs.away (g := w.heap.size + 1) (by omega) 0 [.slice none 0 0, .slice none 0 0]
      replace hw := hw.away (g := w.heap.size + 1) (by omega) 0 [.slice none 0 0, .slice none 0 0]
      replace b0 := setL_below b0 [.slice none 0 0, .slice none 0 0] (w.heap.size + 1) 0 (by omega)
      have zs_3 : (setL w1 (w.heap.size + 1) 0 [.slice none 0 0, .slice none 0 0]).heap.size = w1.heap.size := setL_size _ _ _ _
      replace bR := bR.setAll [.slice none 0 0, .slice none 0 0] rfl
      generalize setL w1 _ 0 _ = w3 at *
      have u0_ := bR.cell (j := 0) rfl
      have u1_ := bR.cell (j := 1) rfl
      refine bodyPost_ret (by simp only [results, Tryz.results30]; simp [go_sem, u0_, u1_]; rfl) rfl ?_
      exact ⟨_, _, by rw [HF.out.1], by rw [HF.out.2.1]; exact Ow.nil_, by rw [HF.out.2.2]; exact Ow.nil_, b0⟩
    · have hp := (Qu.good_parts hg).1
      have hsg := (Qu.parts_get hp).1
      have hl1 := Sl.good_len hsg
      have hl2 := Qu.parts_len hp
      have hEG : Qu.enG ls lw i = true := by simp [Qu.enG, hg, hi_]
      have HG := Lib.hid hg
      have HS := Lib.hid hsg
      have HL := Lib.hid (show ls.length = 4 ∧ lw.length ≤ 8 from ⟨hl1, hl2⟩)
      rw [hg] at c1
      rw [hi_] at c2
      have c0 := fun W hs hw hh hh2 => implOwn_any (.slice A0 n0 d0) (.slice A1 n1 d1) ls lw W (lo := lo) (hi := hi) (lo2 := lo2) (hi2 := hi2) hs hw hh hh2 (by omega) (by omega)
      clear hg hi_ hsg hl1 hl2
      rcases find_cases (Wt.isI i) lw with ⟨hf, ha⟩ | ⟨j, t, hf, hj, ht, hpt⟩
      · have hix := Sl.ix_neg (ls := ls) (i := i)
        have HA := Lib.hid ha
        by_cases hx : Sl.ix ls i < 0
        · have HF := Lib.hid (Qu.wi_no (ls := ls) (lw := lw) (i := i) (by rw [Qu.wiOk, Qu.wi_none ha hx, Bool.and_false]))
          have hd : decide (Sl.ix ls i < 0) = true := decide_eq_true hx
          have c4 := fun W hs hh => implFind_b (.slice A0 n0 d0) ls i W (lo := lo) (hi := hi) hs hh
          generalize Sl.ix ls i = z at c4 hd
          clear hx ha hix hp hEG
          have HFX := Lib.hid hf
          clear hf
          have hfx := HFX.out
          go_enter Tryz.func30, Tryz.ntmps30
          have bq_0 := bq.cell (j := 0) rfl
          have bq_1 := bq.cell (j := 1) rfl
          have bq_z := bq.frozen
          have bq_l := bq.lt
          have bR_0 := bR.cell (j := 0) rfl
          have bR_1 := bR.cell (j := 1) rfl
          have bR_z := bR.frozen
          have bR_l := bR.lt
          go_wp2_with fail
          clear hwA
          clear bq_0 bq_1 bq_z bq_l bR_0 bR_1 bR_z bR_l
          refine (c1).mono ?_; rintro q_ w1 ⟨rfl, b_1⟩
          replace bq := bq.below b_1 bq.lt
          replace bR := bR.below b_1 bR.lt
          replace hs := hs.below b_1 (by omega)
          replace hw := hw.below b_1 (by omega)
          have z_2 := b_1.size
          replace b0 := b0.trans (b_1.mono (by omega))
          clear b_1
          have bq_0 := bq.cell (j := 0) rfl
          have bq_1 := bq.cell (j := 1) rfl
          have bq_z := bq.frozen
          have bq_l := bq.lt
          have bR_0 := bR.cell (j := 0) rfl
          have bR_1 := bR.cell (j := 1) rfl
          have bR_z := bR.frozen
          have bR_l := bR.lt
          go_wp2_with fail
          clear bq_0 bq_1 bq_z bq_l bR_0 bR_1 bR_z bR_l
          refine (c2 _).mono ?_; rintro q_ w_ ⟨rfl, rfl⟩
          have bq_0 := bq.cell (j := 0) rfl
          have bq_1 := bq.cell (j := 1) rfl
          have bq_z := bq.frozen
          have bq_l := bq.lt
          have bR_0 := bR.cell (j := 0) rfl
          have bR_1 := bR.cell (j := 1) rfl
          have bR_z := bR.frozen
          have bR_l := bR.lt
          go_wp2_with fail
          clear bq_0 bq_1 bq_z bq_l bR_0 bR_1 bR_z bR_l
          refine (c0 w1 hs hw (by omega) (by omega)).mono ?_; rintro q_ w3 ⟨v7, v8, rfl, o7, o8, b_3⟩
          replace bq := bq.below b_3 bq.lt
          replace bR := bR.below b_3 bR.lt
          replace hs := hs.below b_3 (by omega)
          replace hw := hw.below b_3 (by omega)
          have z_4 := b_3.size
          replace b0 := b0.trans (b_3.mono (by omega))
          clear b_3
          obtain ⟨A7, n7, d7, rfl, _, _, _⟩ := o7.rd.form
          obtain ⟨A8, n8, d8, rfl, _, _, _⟩ := o8.rd.form
          have bq_0 := bq.cell (j := 0) rfl
          have bq_1 := bq.cell (j := 1) rfl
          have bq_z := bq.frozen
          have bq_l := bq.lt
          have bR_0 := bR.cell (j := 0) rfl
          have bR_1 := bR.cell (j := 1) rfl
          have bR_z := bR.frozen
          have bR_l := bR.lt
          go_upto_region 4 with fail
          clear bq_0 bq_1 bq_z bq_l bR_0 bR_1 bR_z bR_l
          have b_5 := (Below.refl w3.heap.size w3).alloc (Nat.le_refl _) (.cells #[.slice A7 n7 d7, .slice A8 n8 d8] 27)
          have bo := Box.new w3 #[.slice A7 n7 d7, .slice A8 n8 d8] 27 rfl
          replace bq := bq.below b_5 bq.lt
          replace bR := bR.below b_5 bR.lt
          replace hs := hs.below b_5 (by omega)
          replace hw := hw.below b_5 (by omega)
          replace o7 := o7.below b_5 (by omega)
          replace o8 := o8.below b_5 (by omega)
          have z_6 := b_5.size
          replace b0 := b0.trans (b_5.mono (by omega))
          clear b_5
          generalize w3.alloc _ = w5 at *
          generalize w3.heap.size = g5 at *
          have bq_0 := bq.cell (j := 0) rfl
          have bq_1 := bq.cell (j := 1) rfl
          have bq_z := bq.frozen
          have bq_l := bq.lt
          have bR_0 := bR.cell (j := 0) rfl
          have bR_1 := bR.cell (j := 1) rfl
          have bR_z := bR.frozen
          have bR_l := bR.lt
          have bo_0 := bo.cell (j := 0) rfl
          have bo_1 := bo.cell (j := 1) rfl
          have bo_z := bo.frozen
          have bo_l := bo.lt
          go_wp2_with fail
          clear bq_0 bq_1 bq_z bq_l bR_0 bR_1 bR_z bR_l bo_0 bo_1 bo_z bo_l
          have c3 := waiterIndex_any _ lw i w5 hw (by omega)
          rw [hfx] at c3
          refine (c3).mono ?_; rintro q_ w7 ⟨rfl, b_7⟩
          replace bq := bq.below b_7 bq.lt
          replace bR := bR.below b_7 bR.lt
          replace bo := bo.below b_7 bo.lt
          replace hs := hs.below b_7 (by omega)
          replace hw := hw.below b_7 (by omega)
          replace o7 := o7.below b_7 (by omega)
          replace o8 := o8.below b_7 (by omega)
          have z_8 := b_7.size
          replace b0 := b0.trans (b_7.mono (by omega))
          clear b_7
          clear hfx
          have bq_0 := bq.cell (j := 0) rfl
          have bq_1 := bq.cell (j := 1) rfl
          have bq_z := bq.frozen
          have bq_l := bq.lt
          have bR_0 := bR.cell (j := 0) rfl
          have bR_1 := bR.cell (j := 1) rfl
          have bR_z := bR.frozen
          have bR_l := bR.lt
          have bo_0 := bo.cell (j := 0) rfl
          have bo_1 := bo.cell (j := 1) rfl
          have bo_z := bo.frozen
          have bo_l := bo.lt
          go_wp2_with fail
          clear bq_0 bq_1 bq_z bq_l bR_0 bR_1 bR_z bR_l bo_0 bo_1 bo_z bo_l
          refine (c4 w7 hs (by omega)).mono ?_; rintro q_ w9 ⟨rfl, b_9⟩
          replace bq := bq.below b_9 bq.lt
          replace bR := bR.below b_9 bR.lt
          replace bo := bo.below b_9 bo.lt
          replace hs := hs.below b_9 (by omega)
          replace hw := hw.below b_9 (by omega)
          replace o7 := o7.below b_9 (by omega)
          replace o8 := o8.below b_9 (by omega)
          have z_10 := b_9.size
          replace b0 := b0.trans (b_9.mono (by omega))
          clear b_9
          have bq_0 := bq.cell (j := 0) rfl
          have bq_1 := bq.cell (j := 1) rfl
          have bq_z := bq.frozen
          have bq_l := bq.lt
          have bR_0 := bR.cell (j := 0) rfl
          have bR_1 := bR.cell (j := 1) rfl
          have bR_z := bR.frozen
          have bR_l := bR.lt
          have bo_0 := bo.cell (j := 0) rfl
          have bo_1 := bo.cell (j := 1) rfl
          have bo_z := bo.frozen
          have bo_l := bo.lt
          go_wp2_with fail
          clear bq_0 bq_1 bq_z bq_l bR_0 bR_1 bR_z bR_l bo_0 bo_1 bo_z bo_l
          generalize hwz : World.setCell (World.setCell _ _ _) _ _ = wz_
          obtain rfl : wz_ = setL w9 (w.heap.size + 1) 0 [.slice none 0 0, .slice none 0 0] := hwz.symm
          clear hwz
          replace bq := bq.other (b := w.heap.size + 1) (by omega) 0 [.slice none 0 0, .slice none 0 0]
          replace bo := bo.other (b := w.heap.size + 1) (by omega) 0 [.slice none 0 0, .slice none 0 0]
          replace hs := hs.away (g := w.heap.size + 1) (by omega) 0 [.slice none 0 0, .slice none 0 0]
          replace hw := hw.away (g := w.heap.size + 1) (by omega) 0 [.slice none 0 0, .slice none 0 0]
          replace o7 := o7.box (g := w.heap.size + 1) bR (by decide) 0 [.slice none 0 0, .slice none 0 0]
          replace o8 := o8.box (g := w.heap.size + 1) bR (by decide) 0 [.slice none 0 0, .slice none 0 0]
          replace b0 := setL_below b0 [.slice none 0 0, .slice none 0 0] (w.heap.size + 1) 0 (by omega)
          have zs_11 : (setL w9 (w.heap.size + 1) 0 [.slice none 0 0, .slice none 0 0]).heap.size = w9.heap.size := setL_size _ _ _ _
          replace bR := bR.setAll [.slice none 0 0, .slice none 0 0] rfl
          generalize setL w9 _ 0 _ = w11 at *
          have u0_ := bR.cell (j := 0) rfl
          have u1_ := bR.cell (j := 1) rfl
          refine bodyPost_ret (by simp only [results, Tryz.results30]; simp [go_sem, u0_, u1_]; rfl) rfl ?_
          exact ⟨_, _, by rw [HF.out.1], by rw [HF.out.2.1]; exact Ow.nil_, by rw [HF.out.2.2]; exact Ow.nil_, b0⟩
        · obtain ⟨q, s, hq, hql, hqs, hq0, hqi⟩ := Sl.ix_hit (ls := ls) (i := i) (by omega)
          have HQ := Lib.hid hqs
          have c4 := fun W hs hh => implFind_b (.slice A0 n0 d0) ls i W (lo := lo) (hi := hi) hs hh
          simp only [hq] at c4
          have hqd : decide ((q : Int) < 0) = false := by simp
          have hWS := Qu.wi_slot ha hq hqs
          have hN := hs.n_eq
          have hqn : q < n0 := by omega
          have hqn2 : (q : Int) < (n0 : Int) := by omega
          clear hN
          by_cases hs2 : s.state = 2
          · have HF := Lib.hid (Qu.wi_no (ls := ls) (lw := lw) (i := i) (by rw [Qu.wiOk, hWS.1, hs2]; simp))
            clear hWS hq hqs hq0 hqi hx ha hix hp hEG
            obtain ⟨bs, os, s', e_, hs', hbs0, hbs, _, _, _⟩ := Sl.get hs hqn (Below.refl wA.heap.size wA) (by omega)
            obtain rfl : s = s' := Option.some.inj (HQ.out.symm.trans hs'.out)
            clear hs'
            subst e_
            have HFX := Lib.hid hf
            clear hf
            have hfx := HFX.out
            go_enter Tryz.func30, Tryz.ntmps30
            have bq_0 := bq.cell (j := 0) rfl
            have bq_1 := bq.cell (j := 1) rfl
            have bq_z := bq.frozen
            have bq_l := bq.lt
            have bR_0 := bR.cell (j := 0) rfl
            have bR_1 := bR.cell (j := 1) rfl
            have bR_z := bR.frozen
            have bR_l := bR.lt
            go_wp2_with fail
            clear hwA
            clear bq_0 bq_1 bq_z bq_l bR_0 bR_1 bR_z bR_l
            refine (c1).mono ?_; rintro q_ w1 ⟨rfl, b_1⟩
            replace bq := bq.below b_1 bq.lt
            replace bR := bR.below b_1 bR.lt
            replace hs := hs.below b_1 (by omega)
            replace hw := hw.below b_1 (by omega)
            have z_2 := b_1.size
            replace b0 := b0.trans (b_1.mono (by omega))
            clear b_1
            have bq_0 := bq.cell (j := 0) rfl
            have bq_1 := bq.cell (j := 1) rfl
            have bq_z := bq.frozen
            have bq_l := bq.lt
            have bR_0 := bR.cell (j := 0) rfl
            have bR_1 := bR.cell (j := 1) rfl
            have bR_z := bR.frozen
            have bR_l := bR.lt
            go_wp2_with fail
            clear bq_0 bq_1 bq_z bq_l bR_0 bR_1 bR_z bR_l
            refine (c2 _).mono ?_; rintro q_ w_ ⟨rfl, rfl⟩
            have bq_0 := bq.cell (j := 0) rfl
            have bq_1 := bq.cell (j := 1) rfl
            have bq_z := bq.frozen
            have bq_l := bq.lt
            have bR_0 := bR.cell (j := 0) rfl
            have bR_1 := bR.cell (j := 1) rfl
            have bR_z := bR.frozen
            have bR_l := bR.lt
            go_wp2_with fail
            clear bq_0 bq_1 bq_z bq_l bR_0 bR_1 bR_z bR_l
            refine (c0 w1 hs hw (by omega) (by omega)).mono ?_; rintro q_ w3 ⟨v7, v8, rfl, o7, o8, b_3⟩
            replace bq := bq.below b_3 bq.lt
            replace bR := bR.below b_3 bR.lt
            replace hs := hs.below b_3 (by omega)
            replace hw := hw.below b_3 (by omega)
            have z_4 := b_3.size
            replace b0 := b0.trans (b_3.mono (by omega))
            clear b_3
            obtain ⟨A7, n7, d7, rfl, _, _, _⟩ := o7.rd.form
            obtain ⟨A8, n8, d8, rfl, _, _, _⟩ := o8.rd.form
            have bq_0 := bq.cell (j := 0) rfl
            have bq_1 := bq.cell (j := 1) rfl
            have bq_z := bq.frozen
            have bq_l := bq.lt
            have bR_0 := bR.cell (j := 0) rfl
            have bR_1 := bR.cell (j := 1) rfl
            have bR_z := bR.frozen
            have bR_l := bR.lt
            go_upto_region 4 with fail
            clear bq_0 bq_1 bq_z bq_l bR_0 bR_1 bR_z bR_l
            have b_5 := (Below.refl w3.heap.size w3).alloc (Nat.le_refl _) (.cells #[.slice A7 n7 d7, .slice A8 n8 d8] 27)
            have bo := Box.new w3 #[.slice A7 n7 d7, .slice A8 n8 d8] 27 rfl
            replace bq := bq.below b_5 bq.lt
            replace bR := bR.below b_5 bR.lt
            replace hs := hs.below b_5 (by omega)
            replace hw := hw.below b_5 (by omega)
            replace o7 := o7.below b_5 (by omega)
            replace o8 := o8.below b_5 (by omega)
            have z_6 := b_5.size
            replace b0 := b0.trans (b_5.mono (by omega))
            clear b_5
            generalize w3.alloc _ = w5 at *
            generalize w3.heap.size = g5 at *
            have bq_0 := bq.cell (j := 0) rfl
            have bq_1 := bq.cell (j := 1) rfl
            have bq_z := bq.frozen
            have bq_l := bq.lt
            have bR_0 := bR.cell (j := 0) rfl
            have bR_1 := bR.cell (j := 1) rfl
            have bR_z := bR.frozen
            have bR_l := bR.lt
            have bo_0 := bo.cell (j := 0) rfl
            have bo_1 := bo.cell (j := 1) rfl
            have bo_z := bo.frozen
            have bo_l := bo.lt
            go_wp2_with fail
            clear bq_0 bq_1 bq_z bq_l bR_0 bR_1 bR_z bR_l bo_0 bo_1 bo_z bo_l
            have c3 := waiterIndex_any _ lw i w5 hw (by omega)
            rw [hfx] at c3
            refine (c3).mono ?_; rintro q_ w7 ⟨rfl, b_7⟩
            replace bq := bq.below b_7 bq.lt
            replace bR := bR.below b_7 bR.lt
            replace bo := bo.below b_7 bo.lt
            replace hs := hs.below b_7 (by omega)
            replace hw := hw.below b_7 (by omega)
            replace o7 := o7.below b_7 (by omega)
            replace o8 := o8.below b_7 (by omega)
            have z_8 := b_7.size
            replace b0 := b0.trans (b_7.mono (by omega))
            clear b_7
            clear hfx
            have bq_0 := bq.cell (j := 0) rfl
            have bq_1 := bq.cell (j := 1) rfl
            have bq_z := bq.frozen
            have bq_l := bq.lt
            have bR_0 := bR.cell (j := 0) rfl
            have bR_1 := bR.cell (j := 1) rfl
            have bR_z := bR.frozen
            have bR_l := bR.lt
            have bo_0 := bo.cell (j := 0) rfl
            have bo_1 := bo.cell (j := 1) rfl
            have bo_z := bo.frozen
            have bo_l := bo.lt
            go_wp2_with fail
            clear bq_0 bq_1 bq_z bq_l bR_0 bR_1 bR_z bR_l bo_0 bo_1 bo_z bo_l
            refine (c4 w7 hs (by omega)).mono ?_; rintro q_ w9 ⟨rfl, b_9⟩
            replace bq := bq.below b_9 bq.lt
            replace bR := bR.below b_9 bR.lt
            replace bo := bo.below b_9 bo.lt
            replace hs := hs.below b_9 (by omega)
            replace hw := hw.below b_9 (by omega)
            replace o7 := o7.below b_9 (by omega)
            replace o8 := o8.below b_9 (by omega)
            have z_10 := b_9.size
            replace b0 := b0.trans (b_9.mono (by omega))
            clear b_9
            obtain ⟨_, _, s', e_, hs', _, _, f0, f1, f2⟩ := Sl.get hs hqn (Below.refl w9.heap.size w9) (by omega)
            injection e_ with e_
            injection e_ with e1_ e2_
            subst e1_; subst e2_
            obtain rfl : s = s' := Option.some.inj (HQ.out.symm.trans hs'.out)
            clear hs'
            rw [hs2] at f0
            clear hs2
            have bq_0 := bq.cell (j := 0) rfl
            have bq_1 := bq.cell (j := 1) rfl
            have bq_z := bq.frozen
            have bq_l := bq.lt
            have bR_0 := bR.cell (j := 0) rfl
            have bR_1 := bR.cell (j := 1) rfl
            have bR_z := bR.frozen
            have bR_l := bR.lt
            have bo_0 := bo.cell (j := 0) rfl
            have bo_1 := bo.cell (j := 1) rfl
            have bo_z := bo.frozen
            have bo_l := bo.lt
            go_wp2_with fail
            clear bq_0 bq_1 bq_z bq_l bR_0 bR_1 bR_z bR_l bo_0 bo_1 bo_z bo_l
            generalize hwz : World.setCell (World.setCell _ _ _) _ _ = wz_
            obtain rfl : wz_ = setL w9 (w.heap.size + 1) 0 [.slice none 0 0, .slice none 0 0] := hwz.symm
            clear hwz
            replace bq := bq.other (b := w.heap.size + 1) (by omega) 0 [.slice none 0 0, .slice none 0 0]
            replace bo := bo.other (b := w.heap.size + 1) (by omega) 0 [.slice none 0 0, .slice none 0 0]
            replace hs := hs.away (g := w.heap.size + 1) (by omega) 0 [.slice none 0 0, .slice none 0 0]
            replace hw := hw.away (g := w.heap.size + 1) (by omega) 0 [.slice none 0 0, .slice none 0 0]
            replace o7 := o7.box (g := w.heap.size + 1) bR (by decide) 0 [.slice none 0 0, .slice none 0 0]
            replace o8 := o8.box (g := w.heap.size + 1) bR (by decide) 0 [.slice none 0 0, .slice none 0 0]
            replace b0 := setL_below b0 [.slice none 0 0, .slice none 0 0] (w.heap.size + 1) 0 (by omega)
            have zs_11 : (setL w9 (w.heap.size + 1) 0 [.slice none 0 0, .slice none 0 0]).heap.size = w9.heap.size := setL_size _ _ _ _
            replace bR := bR.setAll [.slice none 0 0, .slice none 0 0] rfl
            generalize setL w9 _ 0 _ = w11 at *
            have u0_ := bR.cell (j := 0) rfl
            have u1_ := bR.cell (j := 1) rfl
            refine bodyPost_ret (by simp only [results, Tryz.results30]; simp [go_sem, u0_, u1_]; rfl) rfl ?_
            exact ⟨_, _, by rw [HF.out.1], by rw [HF.out.2.1]; exact Ow.nil_, by rw [HF.out.2.2]; exact Ow.nil_, b0⟩
          · have HP2 := Lib.hid (Qu.wi_parts hp (show Qu.wiOk0 ls lw i = true by rw [hWS.1]; simpa using hs2))
            have HF := Lib.hid (Qu.wi_yes (ls := ls) (lw := lw) (i := i) (by rw [Qu.wiOk, hEG, hWS.1]; simpa using hs2))
            have HW := Lib.hid hWS.2
            rw [hWS.2] at HP2
            have hb2 : (s.state == 2) = false := by simpa using hs2
            by_cases hs3 : s.state = 3
            · have HD := Lib.hid (Sl.drop_both hs3)
              have HB := Lib.hid (Qu.wi_both_st HG.out ha hq hqs hs3)
              have HK3 := Lib.hid hs3
              rw [HD.out] at HP2
              clear hWS hq hqs hq0 hqi hx ha hix hp hEG hs2
              obtain ⟨bs, os, s', e_, hs', hbs0, hbs, _, _, _⟩ := Sl.get hs hqn (Below.refl wA.heap.size wA) (by omega)
              obtain rfl : s = s' := Option.some.inj (HQ.out.symm.trans hs'.out)
              clear hs'
              subst e_
              have HFX := Lib.hid hf
              clear hf
              have hfx := HFX.out
              go_enter Tryz.func30, Tryz.ntmps30
              have bq_0 := bq.cell (j := 0) rfl
              have bq_1 := bq.cell (j := 1) rfl
              have bq_z := bq.frozen
              have bq_l := bq.lt
              have bR_0 := bR.cell (j := 0) rfl
              have bR_1 := bR.cell (j := 1) rfl
              have bR_z := bR.frozen
              have bR_l := bR.lt
              go_wp2_with fail
              clear hwA
              clear bq_0 bq_1 bq_z bq_l bR_0 bR_1 bR_z bR_l
              refine (c1).mono ?_; rintro q_ w1 ⟨rfl, b_1⟩
              replace bq := bq.below b_1 bq.lt
              replace bR := bR.below b_1 bR.lt
              replace hs := hs.below b_1 (by omega)
              replace hw := hw.below b_1 (by omega)
              have z_2 := b_1.size
              replace b0 := b0.trans (b_1.mono (by omega))
              clear b_1
              have bq_0 := bq.cell (j := 0) rfl
              have bq_1 := bq.cell (j := 1) rfl
              have bq_z := bq.frozen
              have bq_l := bq.lt
              have bR_0 := bR.cell (j := 0) rfl
              have bR_1 := bR.cell (j := 1) rfl
              have bR_z := bR.frozen
              have bR_l := bR.lt
              go_wp2_with fail
              clear bq_0 bq_1 bq_z bq_l bR_0 bR_1 bR_z bR_l
              refine (c2 _).mono ?_; rintro q_ w_ ⟨rfl, rfl⟩
              have bq_0 := bq.cell (j := 0) rfl
              have bq_1 := bq.cell (j := 1) rfl
              have bq_z := bq.frozen
              have bq_l := bq.lt
              have bR_0 := bR.cell (j := 0) rfl
              have bR_1 := bR.cell (j := 1) rfl
              have bR_z := bR.frozen
              have bR_l := bR.lt
              go_wp2_with fail
              clear bq_0 bq_1 bq_z bq_l bR_0 bR_1 bR_z bR_l
              refine (c0 w1 hs hw (by omega) (by omega)).mono ?_; rintro q_ w3 ⟨v7, v8, rfl, o7, o8, b_3⟩
              replace bq := bq.below b_3 bq.lt
              replace bR := bR.below b_3 bR.lt
              replace hs := hs.below b_3 (by omega)
              replace hw := hw.below b_3 (by omega)
              have z_4 := b_3.size
              replace b0 := b0.trans (b_3.mono (by omega))
              clear b_3
              obtain ⟨A7, n7, d7, rfl, _, _, _⟩ := o7.rd.form
              obtain ⟨A8, n8, d8, rfl, _, _, _⟩ := o8.rd.form
              have bq_0 := bq.cell (j := 0) rfl
              have bq_1 := bq.cell (j := 1) rfl
              have bq_z := bq.frozen
              have bq_l := bq.lt
              have bR_0 := bR.cell (j := 0) rfl
              have bR_1 := bR.cell (j := 1) rfl
              have bR_z := bR.frozen
              have bR_l := bR.lt
              go_upto_region 4 with fail
              clear bq_0 bq_1 bq_z bq_l bR_0 bR_1 bR_z bR_l
              have b_5 := (Below.refl w3.heap.size w3).alloc (Nat.le_refl _) (.cells #[.slice A7 n7 d7, .slice A8 n8 d8] 27)
              have bo := Box.new w3 #[.slice A7 n7 d7, .slice A8 n8 d8] 27 rfl
              replace bq := bq.below b_5 bq.lt
              replace bR := bR.below b_5 bR.lt
              replace hs := hs.below b_5 (by omega)
              replace hw := hw.below b_5 (by omega)
              replace o7 := o7.below b_5 (by omega)
              replace o8 := o8.below b_5 (by omega)
              have z_6 := b_5.size
              replace b0 := b0.trans (b_5.mono (by omega))
              clear b_5
              generalize w3.alloc _ = w5 at *
              generalize w3.heap.size = g5 at *
              have bq_0 := bq.cell (j := 0) rfl
              have bq_1 := bq.cell (j := 1) rfl
              have bq_z := bq.frozen
              have bq_l := bq.lt
              have bR_0 := bR.cell (j := 0) rfl
              have bR_1 := bR.cell (j := 1) rfl
              have bR_z := bR.frozen
              have bR_l := bR.lt
              have bo_0 := bo.cell (j := 0) rfl
              have bo_1 := bo.cell (j := 1) rfl
              have bo_z := bo.frozen
              have bo_l := bo.lt
              go_wp2_with fail
              clear bq_0 bq_1 bq_z bq_l bR_0 bR_1 bR_z bR_l bo_0 bo_1 bo_z bo_l
              have c3 := waiterIndex_any _ lw i w5 hw (by omega)
              rw [hfx] at c3
              refine (c3).mono ?_; rintro q_ w7 ⟨rfl, b_7⟩
              replace bq := bq.below b_7 bq.lt
              replace bR := bR.below b_7 bR.lt
              replace bo := bo.below b_7 bo.lt
              replace hs := hs.below b_7 (by omega)
              replace hw := hw.below b_7 (by omega)
              replace o7 := o7.below b_7 (by omega)
              replace o8 := o8.below b_7 (by omega)
              have z_8 := b_7.size
              replace b0 := b0.trans (b_7.mono (by omega))
              clear b_7
              clear hfx
              have bq_0 := bq.cell (j := 0) rfl
              have bq_1 := bq.cell (j := 1) rfl
              have bq_z := bq.frozen
              have bq_l := bq.lt
              have bR_0 := bR.cell (j := 0) rfl
              have bR_1 := bR.cell (j := 1) rfl
              have bR_z := bR.frozen
              have bR_l := bR.lt
              have bo_0 := bo.cell (j := 0) rfl
              have bo_1 := bo.cell (j := 1) rfl
              have bo_z := bo.frozen
              have bo_l := bo.lt
              go_wp2_with fail
              clear bq_0 bq_1 bq_z bq_l bR_0 bR_1 bR_z bR_l bo_0 bo_1 bo_z bo_l
              refine (c4 w7 hs (by omega)).mono ?_; rintro q_ w9 ⟨rfl, b_9⟩
              replace bq := bq.below b_9 bq.lt
              replace bR := bR.below b_9 bR.lt
              replace bo := bo.below b_9 bo.lt
              replace hs := hs.below b_9 (by omega)
              replace hw := hw.below b_9 (by omega)
              replace o7 := o7.below b_9 (by omega)
              replace o8 := o8.below b_9 (by omega)
              have z_10 := b_9.size
              replace b0 := b0.trans (b_9.mono (by omega))
              clear b_9
              obtain ⟨_, _, s', e_, hs', _, _, f0, f1, f2⟩ := Sl.get hs hqn (Below.refl w9.heap.size w9) (by omega)
              injection e_ with e_
              injection e_ with e1_ e2_
              subst e1_; subst e2_
              obtain rfl : s = s' := Option.some.inj (HQ.out.symm.trans hs'.out)
              clear hs'
              rw [HK3.out] at f0
              clear hs3 hb2
              have bq_0 := bq.cell (j := 0) rfl
              have bq_1 := bq.cell (j := 1) rfl
              have bq_z := bq.frozen
              have bq_l := bq.lt
              have bR_0 := bR.cell (j := 0) rfl
              have bR_1 := bR.cell (j := 1) rfl
              have bR_z := bR.frozen
              have bR_l := bR.lt
              have bo_0 := bo.cell (j := 0) rfl
              have bo_1 := bo.cell (j := 1) rfl
              have bo_z := bo.frozen
              have bo_l := bo.lt
              go_upto_region 12 with fail
              clear bq_0 bq_1 bq_z bq_l bR_0 bR_1 bR_z bR_l bo_0 bo_1 bo_z bo_l
              clear f0 f1 f2
              have hN7 := o7.rd.n_eq
              have hqn7 : q < n7 := by have := HL.out; omega
              have hqi7 : (q : Int) < (n7 : Int) := by omega
              clear hN7
              obtain ⟨b7, x7, s', rfl, hs', hb70, hb7, f0, f1, f2⟩ := Sl.get o7.rd hqn7 (Below.refl w9.heap.size w9) (by omega)
              obtain rfl : s = s' := Option.some.inj (HQ.out.symm.trans hs'.out)
              clear hs'
              have fz := o7.frozen (by omega)
              have bq_0 := bq.cell (j := 0) rfl
              have bq_1 := bq.cell (j := 1) rfl
              have bq_z := bq.frozen
              have bq_l := bq.lt
              have bR_0 := bR.cell (j := 0) rfl
              have bR_1 := bR.cell (j := 1) rfl
              have bR_z := bR.frozen
              have bR_l := bR.lt
              have bo_0 := bo.cell (j := 0) rfl
              have bo_1 := bo.cell (j := 1) rfl
              have bo_z := bo.frozen
              have bo_l := bo.lt
              go_upto_region 13 with fail
              clear bq_0 bq_1 bq_z bq_l bR_0 bR_1 bR_z bR_l bo_0 bo_1 bo_z bo_l
              generalize hwz : World.setCell _ _ _ = wz_
              obtain rfl : wz_ = setL w9 b7 (x7 + q * 3) [.int .i64 2] := hwz.symm
              clear hwz f0 f1 f2 fz
              replace bq := bq.row o7 (by omega) (by decide) (x7 + q * 3) [.int .i64 2]
              replace bR := bR.row o7 (by omega) (by decide) (x7 + q * 3) [.int .i64 2]
              replace bo := bo.row o7 (by omega) (by decide) (x7 + q * 3) [.int .i64 2]
              replace hs := hs.away (g := b7) (by omega) (x7 + q * 3) [.int .i64 2]
              replace hw := hw.away (g := b7) (by omega) (x7 + q * 3) [.int .i64 2]
              replace o8 := o8.row_type o7 (by omega) (by decide) (x7 + q * 3) [.int .i64 2]
              replace b0 := setL_below b0 [.int .i64 2] b7 (x7 + q * 3) (by omega)
              have zs_11 : (setL w9 b7 (x7 + q * 3) [.int .i64 2]).heap.size = w9.heap.size := setL_size _ _ _ _
              have hu : Upd 76 3 w9 (setL w9 b7 (x7 + q * 3) [.int .i64 2]) b7 (x7 + q * 3) (Sl.cells s) (Sl.cells ⟨2, s.irq, s.prio⟩) := by
                have := Upd.of_setL (E := 76) (sz := 3) (w := w9) (b := b7) (o := x7 + q * 3) (xs := Sl.cells s) (ys' := Sl.cells ⟨2, s.irq, s.prio⟩) (ys := [.int .i64 2]) 0 rfl rfl (by simp)
                simpa using this
              replace o7 := o7.upd Sl.cells_len (by omega) HQ.out hu
              clear hu
              generalize setL w9 b7 _ _ = w11 at *
              have bq_0 := bq.cell (j := 0) rfl
              have bq_1 := bq.cell (j := 1) rfl
              have bq_z := bq.frozen
              have bq_l := bq.lt
              have bR_0 := bR.cell (j := 0) rfl
              have bR_1 := bR.cell (j := 1) rfl
              have bR_z := bR.frozen
              have bR_l := bR.lt
              have bo_0 := bo.cell (j := 0) rfl
              have bo_1 := bo.cell (j := 1) rfl
              have bo_z := bo.frozen
              have bo_l := bo.lt
              go_wp2_with fail
              clear bq_0 bq_1 bq_z bq_l bR_0 bR_1 bR_z bR_l bo_0 bo_1 bo_z bo_l
              generalize hwz : World.setCell (World.setCell _ _ _) _ _ = wz_
              obtain rfl : wz_ = setL w11 (w.heap.size + 1) 0 [.slice (some ⟨b7, x7, none⟩) n7 d7, .slice A8 n8 d8] := hwz.symm
              clear hwz
              replace bq := bq.other (b := w.heap.size + 1) (by omega) 0 [.slice (some ⟨b7, x7, none⟩) n7 d7, .slice A8 n8 d8]
              replace bo := bo.other (b := w.heap.size + 1) (by omega) 0 [.slice (some ⟨b7, x7, none⟩) n7 d7, .slice A8 n8 d8]
              replace hs := hs.away (g := w.heap.size + 1) (by omega) 0 [.slice (some ⟨b7, x7, none⟩) n7 d7, .slice A8 n8 d8]
              replace hw := hw.away (g := w.heap.size + 1) (by omega) 0 [.slice (some ⟨b7, x7, none⟩) n7 d7, .slice A8 n8 d8]
              replace o7 := o7.box (g := w.heap.size + 1) bR (by decide) 0 [.slice (some ⟨b7, x7, none⟩) n7 d7, .slice A8 n8 d8]
              replace o8 := o8.box (g := w.heap.size + 1) bR (by decide) 0 [.slice (some ⟨b7, x7, none⟩) n7 d7, .slice A8 n8 d8]
              replace b0 := setL_below b0 [.slice (some ⟨b7, x7, none⟩) n7 d7, .slice A8 n8 d8] (w.heap.size + 1) 0 (by omega)
              have zs_12 : (setL w11 (w.heap.size + 1) 0 [.slice (some ⟨b7, x7, none⟩) n7 d7, .slice A8 n8 d8]).heap.size = w11.heap.size := setL_size _ _ _ _
              replace bR := bR.setAll [.slice (some ⟨b7, x7, none⟩) n7 d7, .slice A8 n8 d8] rfl
              generalize setL w11 _ 0 _ = w12 at *
              have u0_ := bR.cell (j := 0) rfl
              have u1_ := bR.cell (j := 1) rfl
              refine bodyPost_ret (by simp only [results, Tryz.results30]; simp [go_sem, u0_, u1_]; rfl) rfl ?_
              exact ⟨_, _, by rw [HF.out.1], by rw [HF.out.2.1, HB.out]; exact o7.mono (by omega) (by omega), by rw [HF.out.2.2, HB.out]; exact o8.mono (by omega) (by omega), b0⟩
            · have HD := Lib.hid (Sl.drop_one hs3)
              have hb3 : (s.state == 3) = false := by simpa using hs3
              rw [HD.out] at HP2
              clear hWS hq hqs hq0 hqi hx ha hix hp hEG hs2
              obtain ⟨bs, os, s', e_, hs', hbs0, hbs, _, _, _⟩ := Sl.get hs hqn (Below.refl wA.heap.size wA) (by omega)
              obtain rfl : s = s' := Option.some.inj (HQ.out.symm.trans hs'.out)
              clear hs'
              subst e_
              have HFX := Lib.hid hf
              clear hf
              have hfx := HFX.out
              go_enter Tryz.func30, Tryz.ntmps30
              have bq_0 := bq.cell (j := 0) rfl
              have bq_1 := bq.cell (j := 1) rfl
              have bq_z := bq.frozen
              have bq_l := bq.lt
              have bR_0 := bR.cell (j := 0) rfl
              have bR_1 := bR.cell (j := 1) rfl
              have bR_z := bR.frozen
              have bR_l := bR.lt
              go_wp2_with fail
              clear hwA
              clear bq_0 bq_1 bq_z bq_l bR_0 bR_1 bR_z bR_l
              refine (c1).mono ?_; rintro q_ w1 ⟨rfl, b_1⟩
              replace bq := bq.below b_1 bq.lt
              replace bR := bR.below b_1 bR.lt
              replace hs := hs.below b_1 (by omega)
              replace hw := hw.below b_1 (by omega)
              have z_2 := b_1.size
              replace b0 := b0.trans (b_1.mono (by omega))
              clear b_1
              have bq_0 := bq.cell (j := 0) rfl
              have bq_1 := bq.cell (j := 1) rfl
              have bq_z := bq.frozen
              have bq_l := bq.lt
              have bR_0 := bR.cell (j := 0) rfl
              have bR_1 := bR.cell (j := 1) rfl
              have bR_z := bR.frozen
              have bR_l := bR.lt
              go_wp2_with fail
              clear bq_0 bq_1 bq_z bq_l bR_0 bR_1 bR_z bR_l
              refine (c2 _).mono ?_; rintro q_ w_ ⟨rfl, rfl⟩
              have bq_0 := bq.cell (j := 0) rfl
              have bq_1 := bq.cell (j := 1) rfl
              have bq_z := bq.frozen
              have bq_l := bq.lt
              have bR_0 := bR.cell (j := 0) rfl
              have bR_1 := bR.cell (j := 1) rfl
              have bR_z := bR.frozen
              have bR_l := bR.lt
              go_wp2_with fail
              clear bq_0 bq_1 bq_z bq_l bR_0 bR_1 bR_z bR_l
              refine (c0 w1 hs hw (by omega) (by omega)).mono ?_; rintro q_ w3 ⟨v7, v8, rfl, o7, o8, b_3⟩
              replace bq := bq.below b_3 bq.lt
              replace bR := bR.below b_3 bR.lt
              replace hs := hs.below b_3 (by omega)
              replace hw := hw.below b_3 (by omega)
              have z_4 := b_3.size
              replace b0 := b0.trans (b_3.mono (by omega))
              clear b_3
              obtain ⟨A7, n7, d7, rfl, _, _, _⟩ := o7.rd.form
              obtain ⟨A8, n8, d8, rfl, _, _, _⟩ := o8.rd.form
              have bq_0 := bq.cell (j := 0) rfl
              have bq_1 := bq.cell (j := 1) rfl
              have bq_z := bq.frozen
              have bq_l := bq.lt
              have bR_0 := bR.cell (j := 0) rfl
              have bR_1 := bR.cell (j := 1) rfl
              have bR_z := bR.frozen
              have bR_l := bR.lt
              go_upto_region 4 with fail
              clear bq_0 bq_1 bq_z bq_l bR_0 bR_1 bR_z bR_l
              have b_5 := (Below.refl w3.heap.size w3).alloc (Nat.le_refl _) (.cells #[.slice A7 n7 d7, .slice A8 n8 d8] 27)
              have bo := Box.new w3 #[.slice A7 n7 d7, .slice A8 n8 d8] 27 rfl
              replace bq := bq.below b_5 bq.lt
              replace bR := bR.below b_5 bR.lt
              replace hs := hs.below b_5 (by omega)
              replace hw := hw.below b_5 (by omega)
              replace o7 := o7.below b_5 (by omega)
              replace o8 := o8.below b_5 (by omega)
              have z_6 := b_5.size
              replace b0 := b0.trans (b_5.mono (by omega))
              clear b_5
              generalize w3.alloc _ = w5 at *
              generalize w3.heap.size = g5 at *
              have bq_0 := bq.cell (j := 0) rfl
              have bq_1 := bq.cell (j := 1) rfl
              have bq_z := bq.frozen
              have bq_l := bq.lt
              have bR_0 := bR.cell (j := 0) rfl
              have bR_1 := bR.cell (j := 1) rfl
              have bR_z := bR.frozen
              have bR_l := bR.lt
              have bo_0 := bo.cell (j := 0) rfl
              have bo_1 := bo.cell (j := 1) rfl
              have bo_z := bo.frozen
              have bo_l := bo.lt
              go_wp2_with fail
              clear bq_0 bq_1 bq_z bq_l bR_0 bR_1 bR_z bR_l bo_0 bo_1 bo_z bo_l
              have c3 := waiterIndex_any _ lw i w5 hw (by omega)
              rw [hfx] at c3
              refine (c3).mono ?_; rintro q_ w7 ⟨rfl, b_7⟩
              replace bq := bq.below b_7 bq.lt
              replace bR := bR.below b_7 bR.lt
              replace bo := bo.below b_7 bo.lt
              replace hs := hs.below b_7 (by omega)
              replace hw := hw.below b_7 (by omega)
              replace o7 := o7.below b_7 (by omega)
              replace o8 := o8.below b_7 (by omega)
              have z_8 := b_7.size
              replace b0 := b0.trans (b_7.mono (by omega))
              clear b_7
              clear hfx
              have bq_0 := bq.cell (j := 0) rfl
              have bq_1 := bq.cell (j := 1) rfl
              have bq_z := bq.frozen
              have bq_l := bq.lt
              have bR_0 := bR.cell (j := 0) rfl
              have bR_1 := bR.cell (j := 1) rfl
              have bR_z := bR.frozen
              have bR_l := bR.lt
              have bo_0 := bo.cell (j := 0) rfl
              have bo_1 := bo.cell (j := 1) rfl
              have bo_z := bo.frozen
              have bo_l := bo.lt
              go_wp2_with fail
              clear bq_0 bq_1 bq_z bq_l bR_0 bR_1 bR_z bR_l bo_0 bo_1 bo_z bo_l
              refine (c4 w7 hs (by omega)).mono ?_; rintro q_ w9 ⟨rfl, b_9⟩
              replace bq := bq.below b_9 bq.lt
              replace bR := bR.below b_9 bR.lt
              replace bo := bo.below b_9 bo.lt
              replace hs := hs.below b_9 (by omega)
              replace hw := hw.below b_9 (by omega)
              replace o7 := o7.below b_9 (by omega)
              replace o8 := o8.below b_9 (by omega)
              have z_10 := b_9.size
              replace b0 := b0.trans (b_9.mono (by omega))
              clear b_9
              obtain ⟨_, _, s', e_, hs', _, _, f0, f1, f2⟩ := Sl.get hs hqn (Below.refl w9.heap.size w9) (by omega)
              injection e_ with e_
              injection e_ with e1_ e2_
              subst e1_; subst e2_
              obtain rfl : s = s' := Option.some.inj (HQ.out.symm.trans hs'.out)
              clear hs'
              clear hs3
              have bq_0 := bq.cell (j := 0) rfl
              have bq_1 := bq.cell (j := 1) rfl
              have bq_z := bq.frozen
              have bq_l := bq.lt
              have bR_0 := bR.cell (j := 0) rfl
              have bR_1 := bR.cell (j := 1) rfl
              have bR_z := bR.frozen
              have bR_l := bR.lt
              have bo_0 := bo.cell (j := 0) rfl
              have bo_1 := bo.cell (j := 1) rfl
              have bo_z := bo.frozen
              have bo_l := bo.lt
              go_upto_region 14 with fail
              clear bq_0 bq_1 bq_z bq_l bR_0 bR_1 bR_z bR_l bo_0 bo_1 bo_z bo_l
              clear f0 f1 f2
              have hN7 := o7.rd.n_eq
              have hqn7 : q < n7 := by have := HL.out; omega
              have hqi7 : (q : Int) < (n7 : Int) := by omega
              clear hN7
              obtain ⟨b7, x7, s', rfl, hs', hb70, hb7, f0, f1, f2⟩ := Sl.get o7.rd hqn7 (Below.refl w9.heap.size w9) (by omega)
              obtain rfl : s = s' := Option.some.inj (HQ.out.symm.trans hs'.out)
              clear hs'
              have fz := o7.frozen (by omega)
              have bq_0 := bq.cell (j := 0) rfl
              have bq_1 := bq.cell (j := 1) rfl
              have bq_z := bq.frozen
              have bq_l := bq.lt
              have bR_0 := bR.cell (j := 0) rfl
              have bR_1 := bR.cell (j := 1) rfl
              have bR_z := bR.frozen
              have bR_l := bR.lt
              have bo_0 := bo.cell (j := 0) rfl
              have bo_1 := bo.cell (j := 1) rfl
              have bo_z := bo.frozen
              have bo_l := bo.lt
              go_upto_region 15 with fail
              clear bq_0 bq_1 bq_z bq_l bR_0 bR_1 bR_z bR_l bo_0 bo_1 bo_z bo_l
              generalize hwz : World.setCell (World.setCell (World.setCell _ _ _) _ _) _ _ = wz_
              obtain rfl : wz_ = setL w9 b7 (x7 + q * 3) [.int .i64 0, .int .i64 0, .int .i64 0] := hwz.symm
              clear hwz f0 f1 f2 fz
              replace bq := bq.row o7 (by omega) (by decide) (x7 + q * 3) [.int .i64 0, .int .i64 0, .int .i64 0]
              replace bR := bR.row o7 (by omega) (by decide) (x7 + q * 3) [.int .i64 0, .int .i64 0, .int .i64 0]
              replace bo := bo.row o7 (by omega) (by decide) (x7 + q * 3) [.int .i64 0, .int .i64 0, .int .i64 0]
              replace hs := hs.away (g := b7) (by omega) (x7 + q * 3) [.int .i64 0, .int .i64 0, .int .i64 0]
              replace hw := hw.away (g := b7) (by omega) (x7 + q * 3) [.int .i64 0, .int .i64 0, .int .i64 0]
              replace o8 := o8.row_type o7 (by omega) (by decide) (x7 + q * 3) [.int .i64 0, .int .i64 0, .int .i64 0]
              replace b0 := setL_below b0 [.int .i64 0, .int .i64 0, .int .i64 0] b7 (x7 + q * 3) (by omega)
              have zs_11 : (setL w9 b7 (x7 + q * 3) [.int .i64 0, .int .i64 0, .int .i64 0]).heap.size = w9.heap.size := setL_size _ _ _ _
              have hu : Upd 76 3 w9 (setL w9 b7 (x7 + q * 3) [.int .i64 0, .int .i64 0, .int .i64 0]) b7 (x7 + q * 3) (Sl.cells s) (Sl.cells ⟨0, 0, 0⟩) := by
                have := Upd.of_setL (E := 76) (sz := 3) (w := w9) (b := b7) (o := x7 + q * 3) (xs := Sl.cells s) (ys' := Sl.cells ⟨0, 0, 0⟩) (ys := [.int .i64 0, .int .i64 0, .int .i64 0]) 0 rfl rfl (by simp)
                simpa using this
              replace o7 := o7.upd Sl.cells_len (by omega) HQ.out hu
              clear hu
              generalize setL w9 b7 _ _ = w11 at *
              have bq_0 := bq.cell (j := 0) rfl
              have bq_1 := bq.cell (j := 1) rfl
              have bq_z := bq.frozen
              have bq_l := bq.lt
              have bR_0 := bR.cell (j := 0) rfl
              have bR_1 := bR.cell (j := 1) rfl
              have bR_z := bR.frozen
              have bR_l := bR.lt
              have bo_0 := bo.cell (j := 0) rfl
              have bo_1 := bo.cell (j := 1) rfl
              have bo_z := bo.frozen
              have bo_l := bo.lt
              go_wp2_with fail
              clear bq_0 bq_1 bq_z bq_l bR_0 bR_1 bR_z bR_l bo_0 bo_1 bo_z bo_l
              refine (implSettle_any _ _ (ls.set q ⟨0, 0, 0⟩) lw w11 o7.rd o8.rd (by omega) (by omega) HP2.out).mono ?_; rintro q_ w12 ⟨v5, v6, rfl, o5, o6, b_12⟩
              replace bq := bq.below b_12 bq.lt
              replace bR := bR.below b_12 bR.lt
              replace bo := bo.below b_12 bo.lt
              replace hs := hs.below b_12 (by omega)
              replace hw := hw.below b_12 (by omega)
              replace o7 := o7.below b_12 (by omega)
              replace o8 := o8.below b_12 (by omega)
              have z_13 := b_12.size
              replace b0 := b0.trans (b_12.mono (by omega))
              clear b_12
              obtain ⟨A5, n5, d5, rfl, _, _, _⟩ := o5.rd.form
              obtain ⟨A6, n6, d6, rfl, _, _, _⟩ := o6.rd.form
              have bq_0 := bq.cell (j := 0) rfl
              have bq_1 := bq.cell (j := 1) rfl
              have bq_z := bq.frozen
              have bq_l := bq.lt
              have bR_0 := bR.cell (j := 0) rfl
              have bR_1 := bR.cell (j := 1) rfl
              have bR_z := bR.frozen
              have bR_l := bR.lt
              have bo_0 := bo.cell (j := 0) rfl
              have bo_1 := bo.cell (j := 1) rfl
              have bo_z := bo.frozen
              have bo_l := bo.lt
              go_wp2_with fail
              clear bq_0 bq_1 bq_z bq_l bR_0 bR_1 bR_z bR_l bo_0 bo_1 bo_z bo_l
              generalize hwz : World.setCell (World.setCell _ _ _) _ _ = wz_
              obtain rfl : wz_ = setL w12 (w.heap.size + 1) 0 [.slice A5 n5 d5, .slice A6 n6 d6] := hwz.symm
              clear hwz
              replace bq := bq.other (b := w.heap.size + 1) (by omega) 0 [.slice A5 n5 d5, .slice A6 n6 d6]
              replace bo := bo.other (b := w.heap.size + 1) (by omega) 0 [.slice A5 n5 d5, .slice A6 n6 d6]
              replace hs := hs.away (g := w.heap.size + 1) (by omega) 0 [.slice A5 n5 d5, .slice A6 n6 d6]
              replace hw := hw.away (g := w.heap.size + 1) (by omega) 0 [.slice A5 n5 d5, .slice A6 n6 d6]
              replace o7 := o7.box (g := w.heap.size + 1) bR (by decide) 0 [.slice A5 n5 d5, .slice A6 n6 d6]
              replace o8 := o8.box (g := w.heap.size + 1) bR (by decide) 0 [.slice A5 n5 d5, .slice A6 n6 d6]
              replace o5 := o5.box (g := w.heap.size + 1) bR (by decide) 0 [.slice A5 n5 d5, .slice A6 n6 d6]
              replace o6 := o6.box (g := w.heap.size + 1) bR (by decide) 0 [.slice A5 n5 d5, .slice A6 n6 d6]
              replace b0 := setL_below b0 [.slice A5 n5 d5, .slice A6 n6 d6] (w.heap.size + 1) 0 (by omega)
              have zs_14 : (setL w12 (w.heap.size + 1) 0 [.slice A5 n5 d5, .slice A6 n6 d6]).heap.size = w12.heap.size := setL_size _ _ _ _
              replace bR := bR.setAll [.slice A5 n5 d5, .slice A6 n6 d6] rfl
              generalize setL w12 _ 0 _ = w14 at *
              have u0_ := bR.cell (j := 0) rfl
              have u1_ := bR.cell (j := 1) rfl
              refine bodyPost_ret (by simp only [results, Tryz.results30]; simp [go_sem, u0_, u1_]; rfl) rfl ?_
              exact ⟨_, _, by rw [HF.out.1], by rw [HF.out.2.1, Qu.wiP, HW.out, HD.out]; exact o5.mono (by omega) (by omega), by rw [HF.out.2.2, Qu.wiP, HW.out, HD.out]; exact o6.mono (by omega) (by omega), b0⟩
      · have hWH := Qu.wi_had (ls := ls) hf
        have HP2 := Lib.hid (Qu.wi_parts hp hWH.1)
        have HF := Lib.hid (Qu.wi_yes (ls := ls) (lw := lw) (i := i) (by rw [Qu.wiOk, hEG, hWH.1]; rfl))
        have HW := Lib.hid hWH.2
        have HB := Lib.hid (Qu.wi_had_st HG.out hf)
        rw [hWH.2] at HP2
        have HFX := Lib.hid hf
        have hN := hw.n_eq
        have hjn : j < n1 := by omega
        have hjd : n1 ≤ d1 := hN.2.1
        have hjn8 : n1 ≤ 8 := by have := HL.out; omega
        clear hf hWH hN hp hEG ht hpt
        have hfx := HFX.out
        go_enter Tryz.func30, Tryz.ntmps30
        have bq_0 := bq.cell (j := 0) rfl
        have bq_1 := bq.cell (j := 1) rfl
        have bq_z := bq.frozen
        have bq_l := bq.lt
        have bR_0 := bR.cell (j := 0) rfl
        have bR_1 := bR.cell (j := 1) rfl
        have bR_z := bR.frozen
        have bR_l := bR.lt
        go_wp2_with fail
        clear hwA
        clear bq_0 bq_1 bq_z bq_l bR_0 bR_1 bR_z bR_l
        refine (c1).mono ?_; rintro q_ w1 ⟨rfl, b_1⟩
        replace bq := bq.below b_1 bq.lt
        replace bR := bR.below b_1 bR.lt
        replace hs := hs.below b_1 (by omega)
        replace hw := hw.below b_1 (by omega)
        have z_2 := b_1.size
        replace b0 := b0.trans (b_1.mono (by omega))
        clear b_1
        have bq_0 := bq.cell (j := 0) rfl
        have bq_1 := bq.cell (j := 1) rfl
        have bq_z := bq.frozen
        have bq_l := bq.lt
        have bR_0 := bR.cell (j := 0) rfl
        have bR_1 := bR.cell (j := 1) rfl
        have bR_z := bR.frozen
        have bR_l := bR.lt
        go_wp2_with fail
        clear bq_0 bq_1 bq_z bq_l bR_0 bR_1 bR_z bR_l
        refine (c2 _).mono ?_; rintro q_ w_ ⟨rfl, rfl⟩
        have bq_0 := bq.cell (j := 0) rfl
        have bq_1 := bq.cell (j := 1) rfl
        have bq_z := bq.frozen
        have bq_l := bq.lt
        have bR_0 := bR.cell (j := 0) rfl
        have bR_1 := bR.cell (j := 1) rfl
        have bR_z := bR.frozen
        have bR_l := bR.lt
        go_wp2_with fail
        clear bq_0 bq_1 bq_z bq_l bR_0 bR_1 bR_z bR_l
        refine (c0 w1 hs hw (by omega) (by omega)).mono ?_; rintro q_ w3 ⟨v7, v8, rfl, o7, o8, b_3⟩
        replace bq := bq.below b_3 bq.lt
        replace bR := bR.below b_3 bR.lt
        replace hs := hs.below b_3 (by omega)
        replace hw := hw.below b_3 (by omega)
        have z_4 := b_3.size
        replace b0 := b0.trans (b_3.mono (by omega))
        clear b_3
        obtain ⟨A7, n7, d7, rfl, _, _, _⟩ := o7.rd.form
        obtain ⟨A8, n8, d8, rfl, _, _, _⟩ := o8.rd.form
        have bq_0 := bq.cell (j := 0) rfl
        have bq_1 := bq.cell (j := 1) rfl
        have bq_z := bq.frozen
        have bq_l := bq.lt
        have bR_0 := bR.cell (j := 0) rfl
        have bR_1 := bR.cell (j := 1) rfl
        have bR_z := bR.frozen
        have bR_l := bR.lt
        go_upto_region 4 with fail
        clear bq_0 bq_1 bq_z bq_l bR_0 bR_1 bR_z bR_l
        have b_5 := (Below.refl w3.heap.size w3).alloc (Nat.le_refl _) (.cells #[.slice A7 n7 d7, .slice A8 n8 d8] 27)
        have bo := Box.new w3 #[.slice A7 n7 d7, .slice A8 n8 d8] 27 rfl
        replace bq := bq.below b_5 bq.lt
        replace bR := bR.below b_5 bR.lt
        replace hs := hs.below b_5 (by omega)
        replace hw := hw.below b_5 (by omega)
        replace o7 := o7.below b_5 (by omega)
        replace o8 := o8.below b_5 (by omega)
        have z_6 := b_5.size
        replace b0 := b0.trans (b_5.mono (by omega))
        clear b_5
        generalize w3.alloc _ = w5 at *
        generalize w3.heap.size = g5 at *
        have bq_0 := bq.cell (j := 0) rfl
        have bq_1 := bq.cell (j := 1) rfl
        have bq_z := bq.frozen
        have bq_l := bq.lt
        have bR_0 := bR.cell (j := 0) rfl
        have bR_1 := bR.cell (j := 1) rfl
        have bR_z := bR.frozen
        have bR_l := bR.lt
        have bo_0 := bo.cell (j := 0) rfl
        have bo_1 := bo.cell (j := 1) rfl
        have bo_z := bo.frozen
        have bo_l := bo.lt
        go_wp2_with fail
        clear bq_0 bq_1 bq_z bq_l bR_0 bR_1 bR_z bR_l bo_0 bo_1 bo_z bo_l
        have c3 := waiterIndex_any _ lw i w5 hw (by omega)
        rw [hfx] at c3
        refine (c3).mono ?_; rintro q_ w7 ⟨rfl, b_7⟩
        replace bq := bq.below b_7 bq.lt
        replace bR := bR.below b_7 bR.lt
        replace bo := bo.below b_7 bo.lt
        replace hs := hs.below b_7 (by omega)
        replace hw := hw.below b_7 (by omega)
        replace o7 := o7.below b_7 (by omega)
        replace o8 := o8.below b_7 (by omega)
        have z_8 := b_7.size
        replace b0 := b0.trans (b_7.mono (by omega))
        clear b_7
        clear hfx
        have hN8 := o8.rd.n_eq
        have hj8 : j < n8 := by have := hw.n_eq; omega
        have hn8 : n8 ≤ 1048576 := by have := HL.out; omega
        clear hN8
        have bq_0 := bq.cell (j := 0) rfl
        have bq_1 := bq.cell (j := 1) rfl
        have bq_z := bq.frozen
        have bq_l := bq.lt
        have bR_0 := bR.cell (j := 0) rfl
        have bR_1 := bR.cell (j := 1) rfl
        have bR_z := bR.frozen
        have bR_l := bR.lt
        have bo_0 := bo.cell (j := 0) rfl
        have bo_1 := bo.cell (j := 1) rfl
        have bo_z := bo.frozen
        have bo_l := bo.lt
        go_wp2_with fail
        clear bq_0 bq_1 bq_z bq_l bR_0 bR_1 bR_z bR_l bo_0 bo_1 bo_z bo_l
        refine (Wt.delete_any A8 n8 d8 lw j w7 o8 (by omega) hj8 hn8).mono ?_; rintro q_ w9 ⟨v9, rfl, o9, ht9⟩
        have z_9 := ht9.size
        replace bq := bq.turned o8 ht9 (by decide)
        replace bR := bR.turned o8 ht9 (by decide)
        replace bo := bo.turned o8 ht9 (by decide)
        replace hs := hs.turned o8 ht9 (by omega) (by omega)
        replace hw := hw.turned o8 ht9 (by omega) (by omega)
        replace o7 := o7.turned_type o8 ht9 (by decide)
        replace b0 := Below.turned b0 o8 ht9 (by omega) (by omega)
        clear o8 ht9
        obtain ⟨A9, n9, d9, rfl, _, _, _⟩ := o9.rd.form
        have bq_0 := bq.cell (j := 0) rfl
        have bq_1 := bq.cell (j := 1) rfl
        have bq_z := bq.frozen
        have bq_l := bq.lt
        have bR_0 := bR.cell (j := 0) rfl
        have bR_1 := bR.cell (j := 1) rfl
        have bR_z := bR.frozen
        have bR_l := bR.lt
        have bo_0 := bo.cell (j := 0) rfl
        have bo_1 := bo.cell (j := 1) rfl
        have bo_z := bo.frozen
        have bo_l := bo.lt
        go_upto_region 7 with fail
        clear bq_0 bq_1 bq_z bq_l bR_0 bR_1 bR_z bR_l bo_0 bo_1 bo_z bo_l
        generalize hwz : World.setCell _ _ _ = wz_
        obtain rfl : wz_ = setL w9 (g5) 1 [.slice A9 n9 d9] := hwz.symm
        clear hwz
        replace bq := bq.other (b := g5) (by omega) 1 [.slice A9 n9 d9]
        replace bR := bR.other (b := g5) (by omega) 1 [.slice A9 n9 d9]
        replace hs := hs.away (g := g5) (by omega) 1 [.slice A9 n9 d9]
        replace hw := hw.away (g := g5) (by omega) 1 [.slice A9 n9 d9]
        replace o7 := o7.box (g := g5) bo (by decide) 1 [.slice A9 n9 d9]
        replace o9 := o9.box (g := g5) bo (by decide) 1 [.slice A9 n9 d9]
        replace b0 := setL_below b0 [.slice A9 n9 d9] (g5) 1 (by omega)
        have zs_10 : (setL w9 (g5) 1 [.slice A9 n9 d9]).heap.size = w9.heap.size := setL_size _ _ _ _
        replace bo := bo.set1 (j := 1) (.slice A9 n9 d9) (by simp)
        generalize setL w9 _ 1 _ = w10 at *
        have bq_0 := bq.cell (j := 0) rfl
        have bq_1 := bq.cell (j := 1) rfl
        have bq_z := bq.frozen
        have bq_l := bq.lt
        have bR_0 := bR.cell (j := 0) rfl
        have bR_1 := bR.cell (j := 1) rfl
        have bR_z := bR.frozen
        have bR_l := bR.lt
        have bo_0 := bo.cell (j := 0) rfl
        have bo_1 := bo.cell (j := 1) rfl
        have bo_z := bo.frozen
        have bo_l := bo.lt
        go_wp2_with fail
        clear bq_0 bq_1 bq_z bq_l bR_0 bR_1 bR_z bR_l bo_0 bo_1 bo_z bo_l
        generalize hwz : World.setCell (World.setCell _ _ _) _ _ = wz_
        obtain rfl : wz_ = setL w10 (w.heap.size + 1) 0 [.slice A7 n7 d7, .slice A9 n9 d9] := hwz.symm
        clear hwz
        replace bq := bq.other (b := w.heap.size + 1) (by omega) 0 [.slice A7 n7 d7, .slice A9 n9 d9]
        replace bo := bo.other (b := w.heap.size + 1) (by omega) 0 [.slice A7 n7 d7, .slice A9 n9 d9]
        replace hs := hs.away (g := w.heap.size + 1) (by omega) 0 [.slice A7 n7 d7, .slice A9 n9 d9]
        replace hw := hw.away (g := w.heap.size + 1) (by omega) 0 [.slice A7 n7 d7, .slice A9 n9 d9]
        replace o7 := o7.box (g := w.heap.size + 1) bR (by decide) 0 [.slice A7 n7 d7, .slice A9 n9 d9]
        replace o9 := o9.box (g := w.heap.size + 1) bR (by decide) 0 [.slice A7 n7 d7, .slice A9 n9 d9]
        replace b0 := setL_below b0 [.slice A7 n7 d7, .slice A9 n9 d9] (w.heap.size + 1) 0 (by omega)
        have zs_11 : (setL w10 (w.heap.size + 1) 0 [.slice A7 n7 d7, .slice A9 n9 d9]).heap.size = w10.heap.size := setL_size _ _ _ _
        replace bR := bR.setAll [.slice A7 n7 d7, .slice A9 n9 d9] rfl
        generalize setL w10 _ 0 _ = w11 at *
        have u0_ := bR.cell (j := 0) rfl
        have u1_ := bR.cell (j := 1) rfl
        refine bodyPost_ret (by simp only [results, Tryz.results30]; simp [go_sem, u0_, u1_]; rfl) rfl ?_
        exact ⟨_, _, by rw [HF.out.1], by rw [HF.out.2.1, HB.out]; exact o7.mono (by omega) (by omega), by rw [HF.out.2.2, HB.out]; exact o9.mono (by omega) (by omega), b0⟩

end Go.Proofs.YtfpaafmckeeecaaGreat
