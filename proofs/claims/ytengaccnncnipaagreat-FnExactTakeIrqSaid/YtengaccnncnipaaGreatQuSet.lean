/- Whether a queue is settled and valid, in the program and in the reference. Condition (the program's inner function): valid slots. -/
import Derived.Test.YtengaccnncnipaaGreatQuWait
namespace Go.Proofs.YtengaccnncnipaaGreat
open Go.RowKit Go.ChangeShapes Go.WideShapes Go.Deep

def Sl.bn (l : List Sl) : Int := Sl.best false l l.length
theorem Sl.bn_cases (l : List Sl) : Sl.bn l = -1 ∨ ∃ (k : Nat) (s : Sl), Sl.bn l = k ∧ k < l.length ∧ l[k]? = some s ∧ s.state = 1 :=
  (Sl.best_bd false l l.length (Nat.le_refl _)).imp id fun ⟨k, s, h1, h2, h3, h4⟩ => ⟨k, s, h1, h2, h3, h4⟩
def Qu.settled (ls : List Sl) (lw : List Wt) : Bool := match lw with
  | [] => true
  | w0 :: _ => decide (Sl.fx ls < 0) && (decide (Sl.bn ls < 0) || (Sl.at_ ls (Sl.bn ls)).wt.lt w0)
theorem Qu.settled_at {ls : List Sl} {lw : List Wt} {w0 : Wt} (h : lw[0]? = some w0) : Qu.settled ls lw = (decide (Sl.fx ls < 0) && (decide (Sl.bn ls < 0) || (Sl.at_ ls (Sl.bn ls)).wt.lt w0)) := by
  cases lw with
  | nil => cases h
  | cons x l => simp at h; subst h; rfl
def Qu.good (ls : List Sl) (lw : List Wt) : Bool := Qu.parts ls lw && Qu.settled ls lw

set_option maxHeartbeats 2000000 in
theorem l9Settled_any (vs vw : Value) (ls : List Sl) (lw : List Wt) (w : World) {lo hi lo2 hi2 : Nat} (h : Rd Sl.cells 3 w lo hi vs ls) (h2 : Rd Wt.cells 2 w lo2 hi2 vw lw) (hh : hi ≤ w.heap.size) (hh2 : hi2 ≤ w.heap.size) :
    Calls Tryz.prog 133 #[.agg #[vs, vw]] w fun e w' => e = .returned (.bool (Qu.settled ls lw)) ∧ Below w.heap.size w w' := by
  have b0 := (Below.refl w.heap.size w).alloc (Nat.le_refl _) (.cells #[vs, vw] 33)
  have z0 : (w.alloc (.cells #[vs, vw] 33)).heap.size = w.heap.size + 1 := by simp
  have k0 : (w.alloc (.cells #[vs, vw] 33)).cell? ⟨w.heap.size, 0, none⟩ = some vs := by simp
  have k1 : (w.alloc (.cells #[vs, vw] 33)).cell? ⟨w.heap.size, 1, none⟩ = some vw := by simp
  have hs := h.below b0 hh
  have hw := h2.below b0 hh2
  have hv := h.form
  have hv2 := h2.form
  clear h h2
  obtain ⟨A0, n0, d0, rfl, H0, hd0, hm0⟩ := hv
  obtain ⟨A, n, c, rfl, H, hc, hm⟩ := hv2
  by_cases hn0 : n = 0
  · have HF := Lib.hid (show Qu.settled ls lw = true from by
      have : lw = [] := List.eq_nil_of_length_eq_zero (by rw [← H.out, hn0])
      subst this; rfl)
    subst hn0
    go_enter Tryz.func133, Tryz.ntmps133
    go_wp2_with fail
    go_ret
    exact ⟨ret_bool HF.out.symm, b0⟩
  · have hnd : ((n : Int) == 0) = false := by simp; omega
    have hn1 : (0 : Int) < (n : Int) := by omega
    go_enter Tryz.func133, Tryz.ntmps133
    go_wp2_with fail
    generalize w.alloc _ = w0 at *
    have zh : hi ≤ w0.heap.size := by omega
    have zh2 : hi2 ≤ w0.heap.size := by omega
    have c1 := specFree_b _ ls w0 hs zh
    rcases find_cases Sl.free ls with ⟨hf, _⟩ | ⟨k, s, hf, _, _, _⟩
    · change Sl.fx ls = -1 at hf
      obtain ⟨b, off, t, rfl, ht, _, hbl, _, _⟩ := Wt.get hw (k := 0) (by omega) (Below.refl w0.heap.size w0) zh2
      have hS := Qu.settled_at (ls := ls) ht.out
      rw [hf] at c1
      refine c1.mono ?_; rintro q_ w1 ⟨rfl, b1⟩
      have zw1 := b1.size
      have hb1 := b0.trans (b1.mono (by omega))
      replace k0 := (b1.cell (p := ⟨w.heap.size, 0, none⟩) (by show w.heap.size < _; omega)).trans k0
      replace k1 := (b1.cell (p := ⟨w.heap.size, 1, none⟩) (by show w.heap.size < _; omega)).trans k1
      have hs1 := hs.below b1 zh
      have hw1 := hw.below b1 zh2
      have c2 := l8Best_any _ ls false w1 hs1 (by omega)
      change Calls _ _ _ _ (fun e w' => e = .returned (.int .i64 (Sl.bn ls)) ∧ Below w1.heap.size w1 w') at c2
      clear hs hw c1 b1
      rcases Sl.bn_cases ls with hb | ⟨k, s, hb, hk, hsk, _⟩
      · have HF := Lib.hid (show Qu.settled ls lw = true from by rw [hS, hf, hb]; rfl)
        rw [hb] at c2
        clear hS hf hb
        go_wp2_with fail
        refine c2.mono ?_; rintro q_ w2 ⟨rfl, b2⟩
        replace k0 := (b2.cell (p := ⟨w.heap.size, 0, none⟩) (by show w.heap.size < _; omega)).trans k0
        replace k1 := (b2.cell (p := ⟨w.heap.size, 1, none⟩) (by show w.heap.size < _; omega)).trans k1
        go_wp2_with fail
        go_quiet (fail)
        go_wp2_with fail
        go_ret
        exact ⟨ret_bool HF.out.symm, below_drewN (hb1.trans (b2.mono (by omega))) _⟩
      · have hS2 : Qu.settled ls lw = Wt.lt ⟨s.irq, s.prio⟩ ⟨t.irq, t.prio⟩ := by
          have h3 : decide ((k : Int) < 0) = false := by simp
          rw [hS, hf, hb, Sl.at_get hsk, h3]
          rfl
        have HF := Lib.hid hS2
        have HT := Lib.hid hsk
        have hkn : k < n0 := by rw [H0.out]; exact hk
        have hkd : decide ((k : Int) < 0) = false := by simp
        have hki : (k : Int) < (n0 : Int) := by omega
        rw [hb] at c2
        clear hS hf hb hS2 hk hsk
        have c6 := fun W => l8Less_any s.prio s.irq t.prio t.irq W
        generalize Wt.lt ⟨s.irq, s.prio⟩ ⟨t.irq, t.prio⟩ = y at c6 HF
        go_wp2_with fail
        refine c2.mono ?_; rintro q_ w2 ⟨rfl, b2⟩
        have zw2 := b2.size
        have hb2 := hb1.trans (b2.mono (by omega))
        replace k0 := (b2.cell (p := ⟨w.heap.size, 0, none⟩) (by show w.heap.size < _; omega)).trans k0
        replace k1 := (b2.cell (p := ⟨w.heap.size, 1, none⟩) (by show w.heap.size < _; omega)).trans k1
        obtain ⟨b', off', s', rfl, hs', _, _, f0, f1, f2⟩ := Sl.get hs1 hkn b2 (by omega)
        obtain rfl := Option.some.inj (HT.out.symm.trans hs'.out)
        obtain ⟨_, _, t', e, ht', _, _, g0, g1⟩ := Wt.get hw1 (k := 0) (by omega) b2 (by omega)
        injection e with e
        injection e with e1 e2
        subst e1; subst e2
        obtain rfl := Option.some.inj (ht.out.symm.trans ht'.out)
        simp only [Nat.zero_mul, Nat.add_zero] at g0 g1
        clear c2 b2
        go_wp2_with fail
        go_quiet ((go_at_call 171; refine Calls.quiet_of_same ((c6 _).mono fun _ _ h => ⟨h.1, h.2.symm⟩)))
        go_wp2_with fail
        go_ret
        exact ⟨ret_bool HF.out.symm, below_drewN hb2 _⟩
    · change Sl.fx ls = k at hf
      obtain ⟨t, ht⟩ : ∃ t, lw[0]? = some t := ⟨_, List.getElem?_eq_getElem (by rw [← H.out]; omega)⟩
      have HF := Lib.hid (show Qu.settled ls lw = false from by rw [Qu.settled_at ht, hf, show decide ((k : Int) < 0) = false from by simp]; rfl)
      rw [hf] at c1
      clear hf ht
      refine c1.mono ?_; rintro q_ w1 ⟨rfl, b1⟩
      go_wp2_with fail
      go_ret
      exact ⟨ret_bool HF.out.symm, b0.trans (b1.mono (by omega))⟩

set_option maxHeartbeats 4000000 in
theorem isSettled_any (vs vw : Value) (ls : List Sl) (lw : List Wt) (w : World) {lo hi lo2 hi2 : Nat} (h : Rd Sl.cells 3 w lo hi vs ls) (h2 : Rd Wt.cells 2 w lo2 hi2 vw lw) (hh : hi ≤ w.heap.size) (hh2 : hi2 ≤ w.heap.size) (hg : Sl.good ls = true) :
    Calls Tryz.prog 125 #[.agg #[vs, vw]] w fun e w' => e = .returned (.bool (Qu.settled ls lw)) ∧ Below w.heap.size w w' := by
  have b0 := (Below.refl w.heap.size w).alloc (Nat.le_refl _) (.cells #[vs, vw] 33)
  have z0 : (w.alloc (.cells #[vs, vw] 33)).heap.size = w.heap.size + 1 := by simp
  have k0 : (w.alloc (.cells #[vs, vw] 33)).cell? ⟨w.heap.size, 0, none⟩ = some vs := by simp
  have k1 : (w.alloc (.cells #[vs, vw] 33)).cell? ⟨w.heap.size, 1, none⟩ = some vw := by simp
  have hs := h.below b0 hh
  have hw := h2.below b0 hh2
  have hv := h.form
  have hv2 := h2.form
  clear h h2
  obtain ⟨A0, n0, d0, rfl, H0, hd0, hm0⟩ := hv
  obtain ⟨A, n, c, rfl, H, hc, hm⟩ := hv2
  by_cases hn0 : n = 0
  · have HF := Lib.hid (show Qu.settled ls lw = true from by
      have : lw = [] := List.eq_nil_of_length_eq_zero (by rw [← H.out, hn0])
      subst this; rfl)
    subst hn0
    go_enter Tryz.func125, Tryz.ntmps125
    go_wp2_with fail
    go_ret
    exact ⟨ret_bool HF.out.symm, b0⟩
  · have hnd : ((n : Int) == 0) = false := by simp; omega
    have hn1 : (0 : Int) < (n : Int) := by omega
    go_enter Tryz.func125, Tryz.ntmps125
    go_wp2_with fail
    generalize w.alloc _ = w0 at *
    have zh : hi ≤ w0.heap.size := by omega
    have zh2 : hi2 ≤ w0.heap.size := by omega
    have c2 := pendingSlot_any _ ls false w0 hs zh hg
    change Calls _ _ _ _ (fun e w' => e = .returned (.int .i64 (Sl.bn ls)) ∧ Below w0.heap.size w0 w') at c2
    clear hg
    obtain ⟨b, off, t, rfl, ht, _, hbl, _, _⟩ := Wt.get hw (k := 0) (by omega) (Below.refl w0.heap.size w0) zh2
    have hS := Qu.settled_at (ls := ls) ht.out
    have hbn := Sl.bn_cases ls
    have hfx : Sl.fx ls = -1 ∨ ∃ k : Nat, Sl.fx ls = k := by
      rcases find_cases Sl.free ls with ⟨hf, _⟩ | ⟨k, s, hf, _⟩
      · exact .inl hf
      · exact .inr ⟨k, hf⟩
    have HS := Lib.hid hS
    have HB := Lib.hid hbn
    have HX := Lib.hid hfx
    clear hS hbn hfx
    rcases HB.out with hb | ⟨k, s, hb, hk, hsk, _⟩
    · rw [hb] at c2
      refine c2.mono ?_; rintro q_ w1 ⟨rfl, b1⟩
      have zw1 := b1.size
      have hb1 := b0.trans (b1.mono (by omega))
      replace k0 := (b1.cell (p := ⟨w.heap.size, 0, none⟩) (by show w.heap.size < _; omega)).trans k0
      replace k1 := (b1.cell (p := ⟨w.heap.size, 1, none⟩) (by show w.heap.size < _; omega)).trans k1
      have hs1 := hs.below b1 zh
      have c1 := fun p => implFree_b _ ls (ext w1 p) (hs1.below (below_ext w1 p) (by omega)) (Nat.le_trans (show hi ≤ w1.heap.size by omega) (below_ext w1 p).size)
      have hbv := hb
      clear hs hw c2 b1 hb
      rcases HX.out with hf | ⟨k, hf⟩
      · have HF := Lib.hid (show Qu.settled ls lw = true from by rw [HS.out, hf, hbv]; rfl)
        rw [hf] at c1
        clear hf hbv
        go_wp2_with fail
        have e0 := cell_ext k0; have e1 := cell_ext k1
        refine wp_region_ext_all (by kernel_rfl) (by kernel_rfl) ?_
        repeat (go_big_quiet_step ((go_at_call 155; exact calls_ext (c1 _))))
        refine wpQuiet_nil ?_
        intro w3 b3
        clear e0 e1
        go_wp2_with fail
        go_ret
        exact ⟨ret_bool HF.out.symm, hb1.trans (b3.mono (by omega))⟩
      · have HF := Lib.hid (show Qu.settled ls lw = false from by rw [HS.out, hf, show decide ((k : Int) < 0) = false from by simp]; rfl)
        have hkd : decide ((k : Int) < 0) = false := by simp
        rw [hf] at c1
        clear hf hbv
        go_wp2_with fail
        have e0 := cell_ext k0; have e1 := cell_ext k1
        refine wp_region_ext_all (by kernel_rfl) (by kernel_rfl) ?_
        repeat (go_big_quiet_step ((go_at_call 155; exact calls_ext (c1 _))))
        refine wpQuiet_nil ?_
        intro w3 b3
        clear e0 e1
        go_wp2_with fail
        go_ret
        exact ⟨ret_bool HF.out.symm, hb1.trans (b3.mono (by omega))⟩
    · have hkn : k < n0 := by rw [H0.out]; exact hk
      have hkd : decide ((k : Int) < 0) = false := by simp
      have hki : (k : Int) < (n0 : Int) := by omega
      have HT := Lib.hid hsk
      rw [hb] at c2
      refine c2.mono ?_; rintro q_ w1 ⟨rfl, b1⟩
      have zw1 := b1.size
      have hb1 := b0.trans (b1.mono (by omega))
      replace k0 := (b1.cell (p := ⟨w.heap.size, 0, none⟩) (by show w.heap.size < _; omega)).trans k0
      replace k1 := (b1.cell (p := ⟨w.heap.size, 1, none⟩) (by show w.heap.size < _; omega)).trans k1
      have hs1 := hs.below b1 zh
      have c1 := fun p => implFree_b _ ls (ext w1 p) (hs1.below (below_ext w1 p) (by omega)) (Nat.le_trans (show hi ≤ w1.heap.size by omega) (below_ext w1 p).size)
      obtain ⟨b', off', s', rfl, hs', _, _, f0, f1, f2⟩ := Sl.get hs hkn b1 zh
      obtain rfl := Option.some.inj (HT.out.symm.trans hs'.out)
      obtain ⟨_, _, t', e, ht', _, _, g0, g1⟩ := Wt.get hw (k := 0) (by omega) b1 zh2
      injection e with e
      injection e with e1 e2
      subst e1; subst e2
      obtain rfl := Option.some.inj (ht.out.symm.trans ht'.out)
      simp only [Nat.zero_mul, Nat.add_zero] at g0 g1
      have hat := Sl.at_get HT.out
      have HV := Lib.hid hb
      have HA := Lib.hid hat
      clear hs hw c2 b1 hb hat hk hsk
      have e0 := cell_ext k0; have e1 := cell_ext k1; have e2 := cell_ext f0; have e3 := cell_ext f1; have e4 := cell_ext f2; have e5 := cell_ext g0; have e6 := cell_ext g1
      rcases HX.out with hf | ⟨k2, hf⟩
      · have hlt := urg_pos ⟨t.irq, t.prio⟩ ⟨s.irq, s.prio⟩
        have HF := Lib.hid (show Qu.settled ls lw = Wt.lt ⟨s.irq, s.prio⟩ ⟨t.irq, t.prio⟩ from by rw [HS.out, hf, HV.out, HA.out, show decide ((k : Int) < 0) = false from by simp]; rfl)
        have hd : decide ((0 : Int) < urg ⟨t.irq, t.prio⟩ ⟨s.irq, s.prio⟩) = Wt.lt ⟨s.irq, s.prio⟩ ⟨t.irq, t.prio⟩ := by
          cases hq : Wt.lt ⟨s.irq, s.prio⟩ ⟨t.irq, t.prio⟩
          · rw [hq] at hlt; exact decide_eq_false (fun h => by simpa using hlt.1 h)
          · exact decide_eq_true (hlt.2 hq)
        rw [hf] at c1
        clear hf hlt
        go_wp2_with fail
        refine wp_region_ext_all (by kernel_rfl) (by kernel_rfl) ?_
        repeat (go_big_quiet_step (first | (go_at_call 155; exact calls_ext (c1 _)) | (go_at_call 156; exact calls_ext (waiterOf_at _ _ _ _)) | (go_at_call 153; exact calls_ext (compareUrgency_at _ _ _ _ _))))
        refine wpQuiet_nil ?_
        intro w3 b3
        clear e0 e1 e2 e3 e4 e5 e6
        go_wp2_with fail
        go_ret
        exact ⟨ret_bool (by rw [HF.out]), hb1.trans (b3.mono (by omega))⟩
      · have HF := Lib.hid (show Qu.settled ls lw = false from by rw [HS.out, hf, show decide ((k2 : Int) < 0) = false from by simp]; rfl)
        have hkd2 : decide ((k2 : Int) < 0) = false := by simp
        rw [hf] at c1
        clear hf
        go_wp2_with fail
        refine wp_region_ext_all (by kernel_rfl) (by kernel_rfl) ?_
        repeat (go_big_quiet_step ((go_at_call 155; exact calls_ext (c1 _))))
        refine wpQuiet_nil ?_
        intro w3 b3
        clear e0 e1 e2 e3 e4 e5 e6
        go_wp2_with fail
        go_ret
        exact ⟨ret_bool HF.out.symm, hb1.trans (b3.mono (by omega))⟩

theorem l9Good_any (vs vw : Value) (ls : List Sl) (lw : List Wt) (w : World) {lo hi lo2 hi2 : Nat} (h : Rd Sl.cells 3 w lo hi vs ls) (h2 : Rd Wt.cells 2 w lo2 hi2 vw lw) (hh : hi ≤ w.heap.size) (hh2 : hi2 ≤ w.heap.size) :
    Calls Tryz.prog 98 #[.agg #[vs, vw]] w fun e w' => e = .returned (.bool (Qu.good ls lw)) ∧ Below w.heap.size w w' := by
  have b0 := (Below.refl w.heap.size w).alloc (Nat.le_refl _) (.cells #[vs, vw] 33)
  have z0 : (w.alloc (.cells #[vs, vw] 33)).heap.size = w.heap.size + 1 := by simp
  have k0 : (w.alloc (.cells #[vs, vw] 33)).cell? ⟨w.heap.size, 0, none⟩ = some vs := by simp
  have k1 : (w.alloc (.cells #[vs, vw] 33)).cell? ⟨w.heap.size, 1, none⟩ = some vw := by simp
  have hs := h.below b0 hh
  have hw := h2.below b0 hh2
  have hv := h.form
  have hv2 := h2.form
  clear h h2
  obtain ⟨A0, n0, d0, rfl, H0, hd0, hm0⟩ := hv
  obtain ⟨A, n, c, rfl, H, hc, hm⟩ := hv2
  go_enter Tryz.func98, Tryz.ntmps98
  go_wp2_with fail
  generalize w.alloc _ = w0 at *
  have c1 := l9Waiting_any _ _ ls lw w0 hs hw (by omega) (by omega)
  have c2 := fun (W : World) (kb : Below w0.heap.size w0 W) => l9Settled_any _ _ ls lw W (hs.below kb (by omega)) (hw.below kb (by omega)) (by have := kb.size; omega) (by have := kb.size; omega)
  have HG := Lib.hid (show Qu.good ls lw = (Qu.parts ls lw && Qu.settled ls lw) from rfl)
  generalize Qu.parts ls lw = p at c1 HG
  generalize Qu.settled ls lw = q at c2 HG
  cases p
  · refine c1.mono ?_; rintro q_ w1 ⟨rfl, b1⟩
    replace k0 := (b1.cell (p := ⟨w.heap.size, 0, none⟩) (by show w.heap.size < _; omega)).trans k0
    replace k1 := (b1.cell (p := ⟨w.heap.size, 1, none⟩) (by show w.heap.size < _; omega)).trans k1
    go_wp2_with fail
    go_ret
    exact ⟨ret_bool (by rw [HG.out]; rfl), b0.trans (b1.mono (by omega))⟩
  · refine c1.mono ?_; rintro q_ w1 ⟨rfl, b1⟩
    replace k0 := (b1.cell (p := ⟨w.heap.size, 0, none⟩) (by show w.heap.size < _; omega)).trans k0
    replace k1 := (b1.cell (p := ⟨w.heap.size, 1, none⟩) (by show w.heap.size < _; omega)).trans k1
    go_wp2_with fail
    refine (c2 _ b1).mono ?_; rintro q_ w2 ⟨rfl, b2⟩
    go_wp2_with fail
    go_ret
    exact ⟨ret_bool (by rw [HG.out]; rfl), b0.trans ((b1.trans (b2.mono b1.size)).mono (by omega))⟩
theorem implIsQueue_any (vs vw : Value) (ls : List Sl) (lw : List Wt) (w : World) {lo hi lo2 hi2 : Nat} (h : Rd Sl.cells 3 w lo hi vs ls) (h2 : Rd Wt.cells 2 w lo2 hi2 vw lw) (hh : hi ≤ w.heap.size) (hh2 : hi2 ≤ w.heap.size) :
    Calls Tryz.prog 81 #[.agg #[vs, vw]] w fun e w' => e = .returned (.bool (Qu.good ls lw)) ∧ Below w.heap.size w w' := by
  have b0 := (Below.refl w.heap.size w).alloc (Nat.le_refl _) (.cells #[vs, vw] 33)
  have z0 : (w.alloc (.cells #[vs, vw] 33)).heap.size = w.heap.size + 1 := by simp
  have k0 : (w.alloc (.cells #[vs, vw] 33)).cell? ⟨w.heap.size, 0, none⟩ = some vs := by simp
  have k1 : (w.alloc (.cells #[vs, vw] 33)).cell? ⟨w.heap.size, 1, none⟩ = some vw := by simp
  have hs := h.below b0 hh
  have hw := h2.below b0 hh2
  have hv := h.form
  have hv2 := h2.form
  clear h h2
  obtain ⟨A0, n0, d0, rfl, H0, hd0, hm0⟩ := hv
  obtain ⟨A, n, c, rfl, H, hc, hm⟩ := hv2
  go_enter Tryz.func81, Tryz.ntmps81
  go_wp2_with fail
  generalize w.alloc _ = w0 at *
  have c1 := areParts_any _ _ ls lw w0 hs hw (by omega) (by omega)
  have c2 := fun (hg : Sl.good ls = true) (W : World) (kb : Below w0.heap.size w0 W) => isSettled_any _ _ ls lw W (hs.below kb (by omega)) (hw.below kb (by omega)) (by have := kb.size; omega) (by have := kb.size; omega) hg
  have HG := Lib.hid (show Qu.good ls lw = (Qu.parts ls lw && Qu.settled ls lw) from rfl)
  cases hp : Qu.parts ls lw
  · rw [hp] at c1 HG
    clear hp c2
    refine c1.mono ?_; rintro q_ w1 ⟨rfl, b1⟩
    replace k0 := (b1.cell (p := ⟨w.heap.size, 0, none⟩) (by show w.heap.size < _; omega)).trans k0
    replace k1 := (b1.cell (p := ⟨w.heap.size, 1, none⟩) (by show w.heap.size < _; omega)).trans k1
    go_wp2_with fail
    go_ret
    exact ⟨ret_bool (by rw [HG.out]; rfl), b0.trans (b1.mono (by omega))⟩
  · have c2 := c2 (Qu.parts_get hp).1
    rw [hp] at c1 HG
    clear hp
    generalize Qu.settled ls lw = q at c2 HG
    refine c1.mono ?_; rintro q_ w1 ⟨rfl, b1⟩
    replace k0 := (b1.cell (p := ⟨w.heap.size, 0, none⟩) (by show w.heap.size < _; omega)).trans k0
    replace k1 := (b1.cell (p := ⟨w.heap.size, 1, none⟩) (by show w.heap.size < _; omega)).trans k1
    go_wp2_with fail
    refine (c2 _ b1).mono ?_; rintro q_ w2 ⟨rfl, b2⟩
    go_wp2_with fail
    go_ret
    exact ⟨ret_bool (by rw [HG.out]; rfl), b0.trans ((b1.trans (b2.mono b1.size)).mono (by omega))⟩

end Go.Proofs.YtengaccnncnipaaGreat
