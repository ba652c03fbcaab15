/- Lemmas and walks that the last text of this claim leans on, part 2. No condition. -/
import Derived.Test.YtengaccnncnipaaGreatMcRunOpsA
/- Whether a queue is settled and valid, in the program and in the reference. Condition (the program's inner function): valid slots. -/
namespace Go.Proofs.YtengaccnncnipaaGreat
open Go.RowKit Go.ChangeShapes Go.WideShapes Go.Deep

def Sl.bn (l : List Sl) : Int := Sl.best false l l.length
theorem Sl.bn_cases (l : List Sl) : Sl.bn l = -1 ∨ ∃ (k : Nat) (s : Sl), Sl.bn l = k ∧ k < l.length ∧ l[k]? = some s ∧ s.state = 1 :=
  (Sl.best_bd false l l.length (Nat.le_refl _)).imp id fun ⟨k, s, h1, h2, h3, h4⟩ => ⟨k, s, h1, h2, h3, h4⟩
def Qu.settled (ls : List Sl) (lw : List Wt) : Bool := match lw with
  | [] => true
  | w0 :: _ => decide (Sl.fx ls < 0) && (decide (Sl.bn ls < 0) || (Sl.at_ ls (Sl.bn ls)).wt.lt w0)
theorem Qu.settled_at {ls : List Sl} {lw : List Wt} {w0 : Wt} (h : lw[0]? = some w0) : Qu.settled ls lw = (decide (Sl.fx ls < 0) && (decide (Sl.bn ls < 0) || (Sl.at_ ls (Sl.bn ls)).wt.lt w0)) := by
  cases lw with
  | nil => cases h
  | cons x l => simp at h; subst h; rfl
def Qu.good (ls : List Sl) (lw : List Wt) : Bool := Qu.parts ls lw && Qu.settled ls lw

set_option maxHeartbeats 2000000 in
theorem l9Settled_any (vs vw : Value) (ls : List Sl) (lw : List Wt) (w : World) {lo hi lo2 hi2 : Nat} (h : Rd Sl.cells 3 w lo hi vs ls) (h2 : Rd Wt.cells 2 w lo2 hi2 vw lw) (hh : hi ≤ w.heap.size) (hh2 : hi2 ≤ w.heap.size) :
    Calls Tryz.prog 133 #[.agg #[vs, vw]] w fun e w' => e = .returned (.bool (Qu.settled ls lw)) ∧ Below w.heap.size w w' := by
  have b0 := (Below.refl w.heap.size w).alloc (Nat.le_refl _) (.cells #[vs, vw] 33)
  have z0 : (w.alloc (.cells #[vs, vw] 33)).heap.size = w.heap.size + 1 := by simp
  have k0 : (w.alloc (.cells #[vs, vw] 33)).cell? ⟨w.heap.size, 0, none⟩ = some vs := by simp
  have k1 : (w.alloc (.cells #[vs, vw] 33)).cell? ⟨w.heap.size, 1, none⟩ = some vw := by simp
  have hs := h.below b0 hh
  have hw := h2.below b0 hh2
  have hv := h.form
  have hv2 := h2.form
  clear h h2
  obtain ⟨A0, n0, d0, rfl, H0, hd0, hm0⟩ := hv
  obtain ⟨A, n, c, rfl, H, hc, hm⟩ := hv2
  by_cases hn0 : n = 0
  · have HF := Lib.hid (show Qu.settled ls lw = true from by
      have : lw = [] := List.eq_nil_of_length_eq_zero (by rw [← H.out, hn0])
      subst this; rfl)
    subst hn0
    go_enter Tryz.func133, Tryz.ntmps133
    go_wp2_with fail
    go_ret
    exact ⟨ret_bool HF.out.symm, b0⟩
  · have hnd : ((n : Int) == 0) = false := by simp; omega
    have hn1 : (0 : Int) < (n : Int) := by omega
    go_enter Tryz.func133, Tryz.ntmps133
    go_wp2_with fail
    generalize w.alloc _ = w0 at *
    have zh : hi ≤ w0.heap.size := by omega
    have zh2 : hi2 ≤ w0.heap.size := by omega
    have c1 := specFree_b _ ls w0 hs zh
    rcases find_cases Sl.free ls with ⟨hf, _⟩ | ⟨k, s, hf, _, _, _⟩
    · change Sl.fx ls = -1 at hf
      obtain ⟨b, off, t, rfl, ht, _, hbl, _, _⟩ := Wt.get hw (k := 0) (by omega) (Below.refl w0.heap.size w0) zh2
      have hS := Qu.settled_at (ls := ls) ht.out
      rw [hf] at c1
      refine c1.mono ?_; rintro q_ w1 ⟨rfl, b1⟩
      have zw1 := b1.size
      have hb1 := b0.trans (b1.mono (by omega))
      replace k0 := (b1.cell (p := ⟨w.heap.size, 0, none⟩) (by show w.heap.size < _; omega)).trans k0
      replace k1 := (b1.cell (p := ⟨w.heap.size, 1, none⟩) (by show w.heap.size < _; omega)).trans k1
      have hs1 := hs.below b1 zh
      have hw1 := hw.below b1 zh2
      have c2 := l8Best_any _ ls false w1 hs1 (by omega)
      change Calls _ _ _ _ (fun e w' => e = .returned (.int .i64 (Sl.bn ls)) ∧ Below w1.heap.size w1 w') at c2
      clear hs hw c1 b1
      rcases Sl.bn_cases ls with hb | ⟨k, s, hb, hk, hsk, _⟩
      · have HF := Lib.hid (show Qu.settled ls lw = true from by rw [hS, hf, hb]; rfl)
        rw [hb] at c2
        clear hS hf hb
        go_wp2_with fail
        refine c2.mono ?_; rintro q_ w2 ⟨rfl, b2⟩
        replace k0 := (b2.cell (p := ⟨w.heap.size, 0, none⟩) (by show w.heap.size < _; omega)).trans k0
        replace k1 := (b2.cell (p := ⟨w.heap.size, 1, none⟩) (by show w.heap.size < _; omega)).trans k1
        go_wp2_with fail
        go_quiet (fail)
        go_wp2_with fail
        go_ret
        exact ⟨ret_bool HF.out.symm, below_drewN (hb1.trans (b2.mono (by omega))) _⟩
      · have hS2 : Qu.settled ls lw = Wt.lt ⟨s.irq, s.prio⟩ ⟨t.irq, t.prio⟩ := by
          have h3 : decide ((k : Int) < 0) = false := by simp
          rw [hS, hf, hb, Sl.at_get hsk, h3]
          rfl
        have HF := Lib.hid hS2
        have HT := Lib.hid hsk
        have hkn : k < n0 := by rw [H0.out]; exact hk
        have hkd : decide ((k : Int) < 0) = false := by simp
        have hki : (k : Int) < (n0 : Int) := by omega
        rw [hb] at c2
        clear hS hf hb hS2 hk hsk
        have c6 := fun W => l8Less_any s.prio s.irq t.prio t.irq W
        generalize Wt.lt ⟨s.irq, s.prio⟩ ⟨t.irq, t.prio⟩ = y at c6 HF
        go_wp2_with fail
        refine c2.mono ?_; rintro q_ w2 ⟨rfl, b2⟩
        have zw2 := b2.size
        have hb2 := hb1.trans (b2.mono (by omega))
        replace k0 := (b2.cell (p := ⟨w.heap.size, 0, none⟩) (by show w.heap.size < _; omega)).trans k0
        replace k1 := (b2.cell (p := ⟨w.heap.size, 1, none⟩) (by show w.heap.size < _; omega)).trans k1
        obtain ⟨b', off', s', rfl, hs', _, _, f0, f1, f2⟩ := Sl.get hs1 hkn b2 (by omega)
        obtain rfl := Option.some.inj (HT.out.symm.trans hs'.out)
        obtain ⟨_, _, t', e, ht', _, _, g0, g1⟩ := Wt.get hw1 (k := 0) (by omega) b2 (by omega)
        injection e with e
        injection e with e1 e2
        subst e1; subst e2
        obtain rfl := Option.some.inj (ht.out.symm.trans ht'.out)
        simp only [Nat.zero_mul, Nat.add_zero] at g0 g1
        clear c2 b2
        go_wp2_with fail
        go_quiet ((go_at_call 171; refine Calls.quiet_of_same ((c6 _).mono fun _ _ h => ⟨h.1, h.2.symm⟩)))
        go_wp2_with fail
        go_ret
        exact ⟨ret_bool HF.out.symm, below_drewN hb2 _⟩
    · change Sl.fx ls = k at hf
      obtain ⟨t, ht⟩ : ∃ t, lw[0]? = some t := ⟨_, List.getElem?_eq_getElem (by rw [← H.out]; omega)⟩
      have HF := Lib.hid (show Qu.settled ls lw = false from by rw [Qu.settled_at ht, hf, show decide ((k : Int) < 0) = false from by simp]; rfl)
      rw [hf] at c1
      clear hf ht
      refine c1.mono ?_; rintro q_ w1 ⟨rfl, b1⟩
      go_wp2_with fail
      go_ret
      exact ⟨ret_bool HF.out.symm, b0.trans (b1.mono (by omega))⟩

set_option maxHeartbeats 4000000 in
theorem isSettled_any (vs vw : Value) (ls : List Sl) (lw : List Wt) (w : World) {lo hi lo2 hi2 : Nat} (h : Rd Sl.cells 3 w lo hi vs ls) (h2 : Rd Wt.cells 2 w lo2 hi2 vw lw) (hh : hi ≤ w.heap.size) (hh2 : hi2 ≤ w.heap.size) (hg : Sl.good ls = true) :
    Calls Tryz.prog 125 #[.agg #[vs, vw]] w fun e w' => e = .returned (.bool (Qu.settled ls lw)) ∧ Below w.heap.size w w' := by
  have b0 := (Below.refl w.heap.size w).alloc (Nat.le_refl _) (.cells #[vs, vw] 33)
  have z0 : (w.alloc (.cells #[vs, vw] 33)).heap.size = w.heap.size + 1 := by simp
  have k0 : (w.alloc (.cells #[vs, vw] 33)).cell? ⟨w.heap.size, 0, none⟩ = some vs := by simp
  have k1 : (w.alloc (.cells #[vs, vw] 33)).cell? ⟨w.heap.size, 1, none⟩ = some vw := by simp
  have hs := h.below b0 hh
  have hw := h2.below b0 hh2
  have hv := h.form
  have hv2 := h2.form
  clear h h2
  obtain ⟨A0, n0, d0, rfl, H0, hd0, hm0⟩ := hv
  obtain ⟨A, n, c, rfl, H, hc, hm⟩ := hv2
  by_cases hn0 : n = 0
  · have HF := Lib.hid (show Qu.settled ls lw = true from by
      have : lw = [] := List.eq_nil_of_length_eq_zero (by rw [← H.out, hn0])
      subst this; rfl)
    subst hn0
    go_enter Tryz.func125, Tryz.ntmps125
    go_wp2_with fail
    go_ret
    exact ⟨ret_bool HF.out.symm, b0⟩
  · have hnd : ((n : Int) == 0) = false := by simp; omega
    have hn1 : (0 : Int) < (n : Int) := by omega
    go_enter Tryz.func125, Tryz.ntmps125
    go_wp2_with fail
    generalize w.alloc _ = w0 at *
    have zh : hi ≤ w0.heap.size := by omega
    have zh2 : hi2 ≤ w0.heap.size := by omega
    have c2 := pendingSlot_any _ ls false w0 hs zh hg
    change Calls _ _ _ _ (fun e w' => e = .returned (.int .i64 (Sl.bn ls)) ∧ Below w0.heap.size w0 w') at c2
    clear hg
    obtain ⟨b, off, t, rfl, ht, _, hbl, _, _⟩ := Wt.get hw (k := 0) (by omega) (Below.refl w0.heap.size w0) zh2
    have hS := Qu.settled_at (ls := ls) ht.out
    have hbn := Sl.bn_cases ls
    have hfx : Sl.fx ls = -1 ∨ ∃ k : Nat, Sl.fx ls = k := by
      rcases find_cases Sl.free ls with ⟨hf, _⟩ | ⟨k, s, hf, _⟩
      · exact .inl hf
      · exact .inr ⟨k, hf⟩
    have HS := Lib.hid hS
    have HB := Lib.hid hbn
    have HX := Lib.hid hfx
    clear hS hbn hfx
    rcases HB.out with hb | ⟨k, s, hb, hk, hsk, _⟩
    · rw [hb] at c2
      refine c2.mono ?_; rintro q_ w1 ⟨rfl, b1⟩
      have zw1 := b1.size
      have hb1 := b0.trans (b1.mono (by omega))
      replace k0 := (b1.cell (p := ⟨w.heap.size, 0, none⟩) (by show w.heap.size < _; omega)).trans k0
      replace k1 := (b1.cell (p := ⟨w.heap.size, 1, none⟩) (by show w.heap.size < _; omega)).trans k1
      have hs1 := hs.below b1 zh
      have c1 := fun p => implFree_b _ ls (ext w1 p) (hs1.below (below_ext w1 p) (by omega)) (Nat.le_trans (show hi ≤ w1.heap.size by omega) (below_ext w1 p).size)
      have hbv := hb
      clear hs hw c2 b1 hb
      rcases HX.out with hf | ⟨k, hf⟩
      · have HF := Lib.hid (show Qu.settled ls lw = true from by rw [HS.out, hf, hbv]; rfl)
        rw [hf] at c1
        clear hf hbv
        go_wp2_with fail
        have e0 := cell_ext k0; have e1 := cell_ext k1
        refine wp_region_ext_all (by kernel_rfl) (by kernel_rfl) ?_
        repeat (go_big_quiet_step ((go_at_call 155; exact calls_ext (c1 _))))
        refine wpQuiet_nil ?_
        intro w3 b3
        clear e0 e1
        go_wp2_with fail
        go_ret
        exact ⟨ret_bool HF.out.symm, hb1.trans (b3.mono (by omega))⟩
      · have HF := Lib.hid (show Qu.settled ls lw = false from by rw [HS.out, hf, show decide ((k : Int) < 0) = false from by simp]; rfl)
        have hkd : decide ((k : Int) < 0) = false := by simp
        rw [hf] at c1
        clear hf hbv
        go_wp2_with fail
        have e0 := cell_ext k0; have e1 := cell_ext k1
        refine wp_region_ext_all (by kernel_rfl) (by kernel_rfl) ?_
        repeat (go_big_quiet_step ((go_at_call 155; exact calls_ext (c1 _))))
        refine wpQuiet_nil ?_
        intro w3 b3
        clear e0 e1
        go_wp2_with fail
        go_ret
        exact ⟨ret_bool HF.out.symm, hb1.trans (b3.mono (by omega))⟩
    · have hkn : k < n0 := by rw [H0.out]; exact hk
      have hkd : decide ((k : Int) < 0) = false := by simp
      have hki : (k : Int) < (n0 : Int) := by omega
      have HT := Lib.hid hsk
      rw [hb] at c2
      refine c2.mono ?_; rintro q_ w1 ⟨rfl, b1⟩
      have zw1 := b1.size
      have hb1 := b0.trans (b1.mono (by omega))
      replace k0 := (b1.cell (p := ⟨w.heap.size, 0, none⟩) (by show w.heap.size < _; omega)).trans k0
      replace k1 := (b1.cell (p := ⟨w.heap.size, 1, none⟩) (by show w.heap.size < _; omega)).trans k1
      have hs1 := hs.below b1 zh
      have c1 := fun p => implFree_b _ ls (ext w1 p) (hs1.below (below_ext w1 p) (by omega)) (Nat.le_trans (show hi ≤ w1.heap.size by omega) (below_ext w1 p).size)
      obtain ⟨b', off', s', rfl, hs', _, _, f0, f1, f2⟩ := Sl.get hs hkn b1 zh
      obtain rfl := Option.some.inj (HT.out.symm.trans hs'.out)
      obtain ⟨_, _, t', e, ht', _, _, g0, g1⟩ := Wt.get hw (k := 0) (by omega) b1 zh2
      injection e with e
      injection e with e1 e2
      subst e1; subst e2
      obtain rfl := Option.some.inj (ht.out.symm.trans ht'.out)
      simp only [Nat.zero_mul, Nat.add_zero] at g0 g1
      have hat := Sl.at_get HT.out
      have HV := Lib.hid hb
      have HA := Lib.hid hat
      clear hs hw c2 b1 hb hat hk hsk
      have e0 := cell_ext k0; have e1 := cell_ext k1; have e2 := cell_ext f0; have e3 := cell_ext f1; have e4 := cell_ext f2; have e5 := cell_ext g0; have e6 := cell_ext g1
      rcases HX.out with hf | ⟨k2, hf⟩
      · have hlt := urg_pos ⟨t.irq, t.prio⟩ ⟨s.irq, s.prio⟩
        have HF := Lib.hid (show Qu.settled ls lw = Wt.lt ⟨s.irq, s.prio⟩ ⟨t.irq, t.prio⟩ from by rw [HS.out, hf, HV.out, HA.out, show decide ((k : Int) < 0) = false from by simp]; rfl)
        have hd : decide ((0 : Int) < urg ⟨t.irq, t.prio⟩ ⟨s.irq, s.prio⟩) = Wt.lt ⟨s.irq, s.prio⟩ ⟨t.irq, t.prio⟩ := by
          cases hq : Wt.lt ⟨s.irq, s.prio⟩ ⟨t.irq, t.prio⟩
          · rw [hq] at hlt; exact decide_eq_false (fun h => by simpa using hlt.1 h)
          · exact decide_eq_true (hlt.2 hq)
        rw [hf] at c1
        clear hf hlt
        go_wp2_with fail
        refine wp_region_ext_all (by kernel_rfl) (by kernel_rfl) ?_
        repeat (go_big_quiet_step (first | (go_at_call 155; exact calls_ext (c1 _)) | (go_at_call 156; exact calls_ext (waiterOf_at _ _ _ _)) | (go_at_call 153; exact calls_ext (compareUrgency_at _ _ _ _ _))))
        refine wpQuiet_nil ?_
        intro w3 b3
        clear e0 e1 e2 e3 e4 e5 e6
        go_wp2_with fail
        go_ret
        exact ⟨ret_bool (by rw [HF.out]), hb1.trans (b3.mono (by omega))⟩
      · have HF := Lib.hid (show Qu.settled ls lw = false from by rw [HS.out, hf, show decide ((k2 : Int) < 0) = false from by simp]; rfl)
        have hkd2 : decide ((k2 : Int) < 0) = false := by simp
        rw [hf] at c1
        clear hf
        go_wp2_with fail
        refine wp_region_ext_all (by kernel_rfl) (by kernel_rfl) ?_
        repeat (go_big_quiet_step ((go_at_call 155; exact calls_ext (c1 _))))
        refine wpQuiet_nil ?_
        intro w3 b3
        clear e0 e1 e2 e3 e4 e5 e6
        go_wp2_with fail
        go_ret
        exact ⟨ret_bool HF.out.symm, hb1.trans (b3.mono (by omega))⟩

theorem l9Good_any (vs vw : Value) (ls : List Sl) (lw : List Wt) (w : World) {lo hi lo2 hi2 : Nat} (h : Rd Sl.cells 3 w lo hi vs ls) (h2 : Rd Wt.cells 2 w lo2 hi2 vw lw) (hh : hi ≤ w.heap.size) (hh2 : hi2 ≤ w.heap.size) :
    Calls Tryz.prog 98 #[.agg #[vs, vw]] w fun e w' => e = .returned (.bool (Qu.good ls lw)) ∧ Below w.heap.size w w' := by
  have b0 := (Below.refl w.heap.size w).alloc (Nat.le_refl _) (.cells #[vs, vw] 33)
  have z0 : (w.alloc (.cells #[vs, vw] 33)).heap.size = w.heap.size + 1 := by simp
  have k0 : (w.alloc (.cells #[vs, vw] 33)).cell? ⟨w.heap.size, 0, none⟩ = some vs := by simp
  have k1 : (w.alloc (.cells #[vs, vw] 33)).cell? ⟨w.heap.size, 1, none⟩ = some vw := by simp
  have hs := h.below b0 hh
  have hw := h2.below b0 hh2
  have hv := h.form
  have hv2 := h2.form
  clear h h2
  obtain ⟨A0, n0, d0, rfl, H0, hd0, hm0⟩ := hv
  obtain ⟨A, n, c, rfl, H, hc, hm⟩ := hv2
  go_enter Tryz.func98, Tryz.ntmps98
  go_wp2_with fail
  generalize w.alloc _ = w0 at *
  have c1 := l9Waiting_any _ _ ls lw w0 hs hw (by omega) (by omega)
  have c2 := fun (W : World) (kb : Below w0.heap.size w0 W) => l9Settled_any _ _ ls lw W (hs.below kb (by omega)) (hw.below kb (by omega)) (by have := kb.size; omega) (by have := kb.size; omega)
  have HG := Lib.hid (show Qu.good ls lw = (Qu.parts ls lw && Qu.settled ls lw) from rfl)
  generalize Qu.parts ls lw = p at c1 HG
  generalize Qu.settled ls lw = q at c2 HG
  cases p
  · refine c1.mono ?_; rintro q_ w1 ⟨rfl, b1⟩
    replace k0 := (b1.cell (p := ⟨w.heap.size, 0, none⟩) (by show w.heap.size < _; omega)).trans k0
    replace k1 := (b1.cell (p := ⟨w.heap.size, 1, none⟩) (by show w.heap.size < _; omega)).trans k1
    go_wp2_with fail
    go_ret
    exact ⟨ret_bool (by rw [HG.out]; rfl), b0.trans (b1.mono (by omega))⟩
  · refine c1.mono ?_; rintro q_ w1 ⟨rfl, b1⟩
    replace k0 := (b1.cell (p := ⟨w.heap.size, 0, none⟩) (by show w.heap.size < _; omega)).trans k0
    replace k1 := (b1.cell (p := ⟨w.heap.size, 1, none⟩) (by show w.heap.size < _; omega)).trans k1
    go_wp2_with fail
    refine (c2 _ b1).mono ?_; rintro q_ w2 ⟨rfl, b2⟩
    go_wp2_with fail
    go_ret
    exact ⟨ret_bool (by rw [HG.out]; rfl), b0.trans ((b1.trans (b2.mono b1.size)).mono (by omega))⟩
theorem implIsQueue_any (vs vw : Value) (ls : List Sl) (lw : List Wt) (w : World) {lo hi lo2 hi2 : Nat} (h : Rd Sl.cells 3 w lo hi vs ls) (h2 : Rd Wt.cells 2 w lo2 hi2 vw lw) (hh : hi ≤ w.heap.size) (hh2 : hi2 ≤ w.heap.size) :
    Calls Tryz.prog 81 #[.agg #[vs, vw]] w fun e w' => e = .returned (.bool (Qu.good ls lw)) ∧ Below w.heap.size w w' := by
  have b0 := (Below.refl w.heap.size w).alloc (Nat.le_refl _) (.cells #[vs, vw] 33)
  have z0 : (w.alloc (.cells #[vs, vw] 33)).heap.size = w.heap.size + 1 := by simp
  have k0 : (w.alloc (.cells #[vs, vw] 33)).cell? ⟨w.heap.size, 0, none⟩ = some vs := by simp
  have k1 : (w.alloc (.cells #[vs, vw] 33)).cell? ⟨w.heap.size, 1, none⟩ = some vw := by simp
  have hs := h.below b0 hh
  have hw := h2.below b0 hh2
  have hv := h.form
  have hv2 := h2.form
  clear h h2
  obtain ⟨A0, n0, d0, rfl, H0, hd0, hm0⟩ := hv
  obtain ⟨A, n, c, rfl, H, hc, hm⟩ := hv2
  go_enter Tryz.func81, Tryz.ntmps81
  go_wp2_with fail
  generalize w.alloc _ = w0 at *
  have c1 := areParts_any _ _ ls lw w0 hs hw (by omega) (by omega)
  have c2 := fun (hg : Sl.good ls = true) (W : World) (kb : Below w0.heap.size w0 W) => isSettled_any _ _ ls lw W (hs.below kb (by omega)) (hw.below kb (by omega)) (by have := kb.size; omega) (by have := kb.size; omega) hg
  have HG := Lib.hid (show Qu.good ls lw = (Qu.parts ls lw && Qu.settled ls lw) from rfl)
  cases hp : Qu.parts ls lw
  · rw [hp] at c1 HG
    clear hp c2
    refine c1.mono ?_; rintro q_ w1 ⟨rfl, b1⟩
    replace k0 := (b1.cell (p := ⟨w.heap.size, 0, none⟩) (by show w.heap.size < _; omega)).trans k0
    replace k1 := (b1.cell (p := ⟨w.heap.size, 1, none⟩) (by show w.heap.size < _; omega)).trans k1
    go_wp2_with fail
    go_ret
    exact ⟨ret_bool (by rw [HG.out]; rfl), b0.trans (b1.mono (by omega))⟩
  · have c2 := c2 (Qu.parts_get hp).1
    rw [hp] at c1 HG
    clear hp
    generalize Qu.settled ls lw = q at c2 HG
    refine c1.mono ?_; rintro q_ w1 ⟨rfl, b1⟩
    replace k0 := (b1.cell (p := ⟨w.heap.size, 0, none⟩) (by show w.heap.size < _; omega)).trans k0
    replace k1 := (b1.cell (p := ⟨w.heap.size, 1, none⟩) (by show w.heap.size < _; omega)).trans k1
    go_wp2_with fail
    refine (c2 _ b1).mono ?_; rintro q_ w2 ⟨rfl, b2⟩
    go_wp2_with fail
    go_ret
    exact ⟨ret_bool (by rw [HG.out]; rfl), b0.trans ((b1.trans (b2.mono b1.size)).mono (by omega))⟩

end Go.Proofs.YtengaccnncnipaaGreat

/- Where a waiting interrupt comes to stand among others: plain lemmas. No condition. -/
namespace Go.Proofs.YtengaccnncnipaaGreat

/-- where x comes to stand: behind all leading ones that are more urgent -/
def Wt.pos (x : Wt) : List Wt → Nat
  | [] => 0
  | y :: l => if y.lt x then Wt.pos x l + 1 else 0
def Wt.ins (l : List Wt) (x : Wt) : List Wt := l.take (Wt.pos x l) ++ x :: l.drop (Wt.pos x l)
theorem Wt.pos_le (x : Wt) : ∀ l : List Wt, Wt.pos x l ≤ l.length
  | [] => Nat.le_refl _
  | y :: l => by have := Wt.pos_le x l; simp only [Wt.pos, List.length_cons]; split <;> omega
theorem Wt.pos_eq (x : Wt) : ∀ (l : List Wt) (k : Nat), k ≤ l.length → (∀ (j : Nat) (y : Wt), j < k → l[j]? = some y → y.lt x = true) → (∀ y : Wt, l[k]? = some y → y.lt x = false) → Wt.pos x l = k
  | [], k, hk, _, _ => by simp at hk; simp [Wt.pos, hk]
  | z :: l, 0, _, _, h2 => by simp [Wt.pos, h2 z (by simp)]
  | z :: l, k + 1, hk, h1, h2 => by
    have := Wt.pos_eq x l k (by simpa using hk) (fun j y hj hy => h1 (j + 1) y (by omega) (by simpa using hy)) (fun y hy => h2 y (by simpa using hy))
    simp [Wt.pos, h1 0 z (by omega) (by simp), this]
theorem Wt.ins_len (l : List Wt) (x : Wt) : (Wt.ins l x).length = l.length + 1 := by
  have := Wt.pos_le x l
  simp only [Wt.ins, List.length_append, List.length_take, List.length_cons, List.length_drop]; omega

theorem Wt.ins_nil (x : Wt) : Wt.ins [] x = [x] := rfl
theorem Wt.ins_cons (y x : Wt) (l : List Wt) : Wt.ins (y :: l) x = if y.lt x then y :: Wt.ins l x else x :: y :: l := by
  unfold Wt.ins; rw [Wt.pos]
  by_cases h : y.lt x = true
  · simp [h]
  · simp [h]
theorem Wt.ins_mem {y x : Wt} : ∀ {l : List Wt}, y ∈ Wt.ins l x ↔ y = x ∨ y ∈ l
  | [] => by simp [Wt.ins_nil]
  | z :: l => by
    have ih := Wt.ins_mem (y := y) (x := x) (l := l)
    rw [Wt.ins_cons]
    split
    · rw [List.mem_cons, ih, List.mem_cons]
      constructor
      · rintro (h | h | h)
        · exact .inr (.inl h)
        · exact .inl h
        · exact .inr (.inr h)
      · rintro (h | h | h)
        · exact .inr (.inl h)
        · exact .inl h
        · exact .inr (.inr h)
    · simp
theorem Wt.lt_iff (x y : Wt) : x.lt y = true ↔ x.prio < y.prio ∨ x.prio = y.prio ∧ x.irq < y.irq := by simp [Wt.lt]
theorem Wt.lt_trans {x y z : Wt} (h : x.lt y = true) (k : y.lt z = true) : x.lt z = true := by rw [Wt.lt_iff] at *; omega
theorem Wt.lt_irrefl (x : Wt) : x.lt x = false := by rw [Bool.eq_false_iff, ne_eq, Wt.lt_iff]; omega
theorem Wt.lt_other {x y : Wt} (h : ¬ x.lt y = true) (hi : x.irq ≠ y.irq) : y.lt x = true := by rw [Wt.lt_iff] at *; omega
theorem Wt.ins_sorted {x : Wt} : ∀ {l : List Wt}, l.Pairwise (fun a b => a.lt b = true) → (∀ y ∈ l, y.irq ≠ x.irq) → (Wt.ins l x).Pairwise (fun a b => a.lt b = true)
  | [], _, _ => by simp [Wt.ins_nil]
  | y :: l, h, hx => by
    rw [List.pairwise_cons] at h
    rw [Wt.ins_cons]
    split
    · rename_i hq
      rw [List.pairwise_cons]
      refine ⟨fun z hz => ?_, Wt.ins_sorted h.2 (fun z hz => hx z (List.mem_cons_of_mem _ hz))⟩
      rcases Wt.ins_mem.1 hz with rfl | hz
      · exact hq
      · exact h.1 z hz
    · rename_i hq
      have hxy : x.lt y = true := Wt.lt_other hq (hx y (by simp))
      rw [List.pairwise_cons]
      refine ⟨fun z hz => ?_, List.pairwise_cons.2 h⟩
      rcases List.mem_cons.1 hz with rfl | hz
      · exact hxy
      · exact Wt.lt_trans hxy (h.1 z hz)
theorem Wt.ins_irqs {x : Wt} : ∀ {l : List Wt}, l.Pairwise (fun a b => a.irq ≠ b.irq) → (∀ y ∈ l, y.irq ≠ x.irq) → (Wt.ins l x).Pairwise (fun a b => a.irq ≠ b.irq)
  | [], _, _ => by simp [Wt.ins_nil]
  | y :: l, h, hx => by
    rw [List.pairwise_cons] at h
    rw [Wt.ins_cons]
    split
    · rw [List.pairwise_cons]
      refine ⟨fun z hz => ?_, Wt.ins_irqs h.2 (fun z hz => hx z (List.mem_cons_of_mem _ hz))⟩
      rcases Wt.ins_mem.1 hz with rfl | hz
      · exact hx y (by simp)
      · exact h.1 z hz
    · rw [List.pairwise_cons]
      exact ⟨fun z hz => (hx z hz).symm, List.pairwise_cons.2 h⟩

end Go.Proofs.YtengaccnncnipaaGreat

/- Queues in plain terms: what valid parts are, how settling goes on, and that it ends. No condition. -/
namespace Go.Proofs.YtengaccnncnipaaGreat

theorem any_take_false {α : Type} {p : α → Bool} {l : List α} {i : Nat} : (l.take i).any p = false ↔ ∀ (j : Nat) (u : α), j < i → l[j]? = some u → p u = false := by
  rw [List.any_eq_false]
  constructor
  · intro h j u hj hu
    have := h u (List.mem_of_getElem? (i := j) (by rw [List.getElem?_take, if_pos hj]; exact hu))
    simpa using this
  · intro h x hx
    obtain ⟨j, hj⟩ := List.getElem?_of_mem hx
    rw [List.getElem?_take] at hj
    split at hj
    · rename_i hji
      simpa using h j x hji hj
    · cases hj

def Sl.fine (s : Sl) : Prop := if s.state = 0 then s.irq = 0 ∧ s.prio = 0 else (1 ≤ s.state ∧ s.state ≤ 3) ∧ (0 ≤ s.irq ∧ s.irq ≤ 7) ∧ (0 ≤ s.prio ∧ s.prio ≤ 15)
def Wt.fine (w : Wt) : Prop := (0 ≤ w.irq ∧ w.irq ≤ 7) ∧ (0 ≤ w.prio ∧ w.prio ≤ 15)
theorem Sl.okAt_iff {l : List Sl} {i : Nat} {s : Sl} : Sl.okAt l i s = true ↔ s.fine ∧ (¬ s.state = 0 → ∀ (j : Nat) (u : Sl), j < i → l[j]? = some u → ¬ u.state = 0 → u.irq ≠ s.irq) := by
  unfold Sl.okAt Sl.fine
  split
  · rename_i h0
    simp [h0]
  · rename_i h0
    simp only [Bool.and_eq_true, Bool.not_eq_true', inB_iff, any_take_false]
    constructor
    · rintro ⟨h1, h2, h3, h4⟩
      refine ⟨⟨h1, h2, h3⟩, fun _ j u hj hu hu0 e => ?_⟩
      have := h4 j u hj hu
      simp [Sl.has, hu0, e] at this
    · rintro ⟨⟨h1, h2, h3⟩, h4⟩
      refine ⟨h1, h2, h3, fun j u hj hu => ?_⟩
      by_cases hu0 : u.state = 0
      · simp [Sl.has, hu0]
      · have := h4 h0 j u hj hu hu0
        simp [Sl.has, this]
theorem Sl.upTo_iff {l : List Sl} : ∀ {k : Nat}, Sl.upTo l k = true ↔ ∀ (j : Nat) (s : Sl), j < k → l[j]? = some s → Sl.okAt l j s = true
  | 0 => by simp [Sl.upTo]
  | k + 1 => by
    have ih := Sl.upTo_iff (l := l) (k := k)
    rw [Sl.upTo, Bool.and_eq_true, ih]
    constructor
    · rintro ⟨h1, h2⟩ j s hj hs
      by_cases hjk : j = k
      · subst hjk; rw [hs] at h2; exact h2
      · exact h1 j s (by omega) hs
    · intro h
      refine ⟨fun j s hj hs => h j s (by omega) hs, ?_⟩
      cases hk : l[k]? with
      | none => rfl
      | some s => exact h k s (by omega) hk
theorem Sl.good_iff {l : List Sl} : Sl.good l = true ↔ l.length = 4 ∧ (∀ (k : Nat) (s : Sl), l[k]? = some s → s.fine) ∧ (∀ (j k : Nat) (u s : Sl), j < k → l[j]? = some u → l[k]? = some s → ¬ u.state = 0 → ¬ s.state = 0 → u.irq ≠ s.irq) := by
  simp only [Sl.good, Bool.and_eq_true, decide_eq_true_eq, Sl.upTo_iff, Sl.okAt_iff]
  constructor
  · rintro ⟨h1, h2⟩
    refine ⟨by omega, fun k s hs => (h2 k s (List.getElem?_eq_some_iff.1 hs).1 hs).1, fun j k u s hjk hu hs hu0 hs0 => (h2 k s (List.getElem?_eq_some_iff.1 hs).1 hs).2 hs0 j u hjk hu hu0⟩
  · rintro ⟨h1, h2, h3⟩
    exact ⟨by omega, fun k s _ hs => ⟨h2 k s hs, fun hs0 j u hj hu hu0 => h3 j k u s hj hu hs hu0 hs0⟩⟩
theorem Sl.good_fine {l : List Sl} (h : Sl.good l = true) {k : Nat} {s : Sl} (hs : l[k]? = some s) : s.fine := (Sl.good_iff.1 h).2.1 k s hs
theorem Sl.good_two {l : List Sl} (h : Sl.good l = true) {j k : Nat} {u s : Sl} (hjk : j ≠ k) (hu : l[j]? = some u) (hs : l[k]? = some s) (h1 : ¬ u.state = 0) (h2 : ¬ s.state = 0) : u.irq ≠ s.irq := by
  rcases Nat.lt_or_gt_of_ne hjk with h' | h'
  · exact (Sl.good_iff.1 h).2.2 j k u s h' hu hs h1 h2
  · exact ((Sl.good_iff.1 h).2.2 k j s u h' hs hu h2 h1).symm
theorem Sl.good_set {l : List Sl} (h : Sl.good l = true) {k : Nat} {x : Sl} (hx : x.fine) (hd : ¬ x.state = 0 → ∀ (j : Nat) (u : Sl), j ≠ k → l[j]? = some u → ¬ u.state = 0 → u.irq ≠ x.irq) : Sl.good (l.set k x) = true := by
  obtain ⟨h1, h2, h3⟩ := Sl.good_iff.1 h
  refine Sl.good_iff.2 ⟨by rw [List.length_set]; exact h1, fun j s hs => ?_, fun i j u s hij hu hs hu0 hs0 => ?_⟩
  · rw [List.getElem?_set] at hs
    split at hs
    · split at hs
      · injection hs with hs; subst hs; exact hx
      · cases hs
    · exact h2 j s hs
  · rw [List.getElem?_set] at hu hs
    split at hu
    · rename_i hki
      split at hu
      · injection hu with hu; subst hu; subst hki
        rw [if_neg (by omega)] at hs
        exact (hd hu0 j s (by omega) hs hs0).symm
      · cases hu
    · rename_i hki
      split at hs
      · rename_i hkj
        split at hs
        · injection hs with hs; subst hs; subst hkj
          exact hd hs0 i u (by omega) hu hu0
        · cases hs
      · exact h3 i j u s hij hu hs hu0 hs0

theorem Wt.upTo_iff {ls : List Sl} {lw : List Wt} : ∀ {k : Nat}, Wt.upTo ls lw k = true ↔ ∀ (j : Nat) (w : Wt), j < k → lw[j]? = some w → Wt.okAt ls lw j w = true
  | 0 => by simp [Wt.upTo]
  | k + 1 => by
    have ih := Wt.upTo_iff (ls := ls) (lw := lw) (k := k)
    rw [Wt.upTo, Bool.and_eq_true, ih]
    constructor
    · rintro ⟨h1, h2⟩ j s hj hs
      by_cases hjk : j = k
      · subst hjk; rw [hs] at h2; exact h2
      · exact h1 j s (by omega) hs
    · intro h
      refine ⟨fun j s hj hs => h j s (by omega) hs, ?_⟩
      cases hk : lw[k]? with
      | none => rfl
      | some s => exact h k s (by omega) hk
theorem Sl.ix_neg {ls : List Sl} {i : Int} : Sl.ix ls i < 0 ↔ ∀ s ∈ ls, ¬ s.state = 0 → s.irq ≠ i := by
  have h := findIx_nonneg (Sl.has i) ls
  unfold Sl.ix
  constructor
  · intro hlt s hs hs0 e
    have : ls.any (Sl.has i) = false := by rw [← h]; exact decide_eq_false (by omega)
    have := List.any_eq_false.1 this s hs
    simp [Sl.has, hs0, e] at this
  · intro hall
    have : ls.any (Sl.has i) = false := by
      rw [List.any_eq_false]
      intro s hs hp
      simp only [Sl.has, Bool.and_eq_true, Bool.not_eq_true', beq_eq_false_iff_ne, beq_iff_eq] at hp
      exact hall s hs hp.1 hp.2
    rw [this] at h
    have := of_decide_eq_false h
    omega
/-- no slot in use holds i -/
def Sl.lacks (ls : List Sl) (i : Int) : Prop := ∀ s ∈ ls, ¬ s.state = 0 → s.irq ≠ i
theorem Qu.parts_iff {ls : List Sl} {lw : List Wt} : Qu.parts ls lw = true ↔ Sl.good ls = true ∧ (∀ w ∈ lw, w.fine) ∧ (∀ w ∈ lw, Sl.lacks ls w.irq) ∧ lw.Pairwise (fun x y => x.lt y = true) ∧ lw.Pairwise (fun x y => x.irq ≠ y.irq) := by
  have hfine : ∀ w : Wt, w.fine ↔ inB w.irq 0 7 = true ∧ inB w.prio 0 15 = true := fun w => by simp [Wt.fine, inB_iff]
  rw [Qu.parts, Bool.and_eq_true, Wt.upTo_iff]
  refine and_congr_right fun hg => ?_
  constructor
  · intro h
    have hx : ∀ (j : Nat) (w : Wt), lw[j]? = some w → w.fine ∧ Sl.lacks ls w.irq ∧ (lw.take j).any (Wt.isI w.irq) = false ∧ Wt.prevOk lw w j = true := fun j w hw => by
      have := h j w (List.getElem?_eq_some_iff.1 hw).1 hw
      simp only [Wt.okAt, Bool.and_eq_true, Bool.not_eq_true', decide_eq_true_eq] at this
      exact ⟨(hfine w).2 ⟨this.1, this.2.1⟩, Sl.ix_neg.1 this.2.2.1, this.2.2.2.1, this.2.2.2.2⟩
    refine ⟨fun w hw => ?_, fun w hw => ?_, ?_, ?_⟩
    · obtain ⟨j, hj⟩ := List.getElem?_of_mem hw
      exact (hx j w hj).1
    · obtain ⟨j, hj⟩ := List.getElem?_of_mem hw
      exact (hx j w hj).2.1
    · have key : ∀ (d i : Nat) (a b : Wt), lw[i]? = some a → lw[i + d + 1]? = some b → a.lt b = true := by
        intro d
        induction d with
        | zero =>
          intro i a b ha hb
          have := (hx _ b hb).2.2.2
          simp only [Wt.prevOk, List.getD_eq_getElem?_getD, ha, Option.getD_some] at this
          exact this
        | succ d ih =>
          intro i a b ha hb
          have hlt := (List.getElem?_eq_some_iff.1 hb).1
          have hm : lw[i + d + 1]? = some lw[i + d + 1] := List.getElem?_eq_getElem (by omega)
          have h2 := (hx _ b hb).2.2.2
          rw [show i + (d + 1) + 1 = (i + d + 1) + 1 by omega] at h2
          simp only [Wt.prevOk, List.getD_eq_getElem?_getD, hm, Option.getD_some] at h2
          exact Wt.lt_trans (ih i a _ ha hm) h2
      rw [List.pairwise_iff_getElem]
      intro i j hi hj hij
      exact key (j - i - 1) i _ _ (List.getElem?_eq_getElem hi) (by rw [show i + (j - i - 1) + 1 = j by omega]; exact List.getElem?_eq_getElem hj)
    · rw [List.pairwise_iff_getElem]
      intro i j hi hj hij e
      have := any_take_false.1 (hx j _ (List.getElem?_eq_getElem hj)).2.2.1 i _ hij (List.getElem?_eq_getElem hi)
      simp [Wt.isI, e] at this
  · rintro ⟨h1, h2, h3, h4⟩ j w hj hw
    have hm := List.mem_of_getElem? hw
    have hf := (hfine w).1 (h1 w hm)
    simp only [Wt.okAt, Bool.and_eq_true, Bool.not_eq_true', decide_eq_true_eq]
    refine ⟨hf.1, hf.2, Sl.ix_neg.2 (h2 w hm), any_take_false.2 fun i u hi hu => ?_, ?_⟩
    · have := (List.pairwise_iff_getElem.1 h4) i j (by omega) hj hi
      obtain ⟨_, e1⟩ := List.getElem?_eq_some_iff.1 hu
      obtain ⟨_, e2⟩ := List.getElem?_eq_some_iff.1 hw
      rw [e1, e2] at this
      simp [Wt.isI, this]
    · cases j with
      | zero => rfl
      | succ j =>
        have hj' : lw[j]? = some lw[j] := List.getElem?_eq_getElem (by omega)
        have := (List.pairwise_iff_getElem.1 h3) j (j + 1) (by omega) hj (by omega)
        obtain ⟨_, e2⟩ := List.getElem?_eq_some_iff.1 hw
        rw [e2] at this
        simp only [Wt.prevOk, List.getD_eq_getElem?_getD, hj', Option.getD_some]
        exact this

/-! ### one step of settling -/
def Sl.pend (t : Wt) : Sl := ⟨1, t.irq, t.prio⟩
def Qu.step (ls : List Sl) : List Wt → List Sl × List Wt
  | [] => (ls, [])
  | t :: rest => if 0 ≤ Sl.fx ls then (ls.set (Sl.fx ls).toNat (Sl.pend t), rest) else (ls.set (Sl.bn ls).toNat (Sl.pend t), Wt.ins rest (Sl.at_ ls (Sl.bn ls)).wt)
theorem Qu.step_free {ls : List Sl} {t : Wt} {rest : List Wt} {k : Nat} (h : Sl.fx ls = k) : Qu.step ls (t :: rest) = (ls.set k (Sl.pend t), rest) := by
  rw [Qu.step, h, if_pos (by omega)]; rfl
theorem Qu.step_full {ls : List Sl} {t : Wt} {rest : List Wt} {k : Nat} {s : Sl} (h : Sl.fx ls = -1) (hb : Sl.bn ls = k) (hs : ls[k]? = some s) : Qu.step ls (t :: rest) = (ls.set k (Sl.pend t), Wt.ins rest s.wt) := by
  rw [Qu.step, h, if_neg (by omega), hb, Sl.at_get hs]; rfl
/-- what 'not settled' says -/
theorem Qu.unsettled {ls : List Sl} {lw : List Wt} (h : Qu.settled ls lw = false) : ∃ t rest, lw = t :: rest ∧ ((∃ (k : Nat) (s : Sl), Sl.fx ls = k ∧ k < ls.length ∧ ls[k]? = some s ∧ s.state = 0) ∨ (Sl.fx ls = -1 ∧ ∃ (k : Nat) (s : Sl), Sl.bn ls = k ∧ k < ls.length ∧ ls[k]? = some s ∧ s.state = 1 ∧ ¬ s.wt.lt t = true)) := by
  cases lw with
  | nil => simp [Qu.settled] at h
  | cons t rest =>
    refine ⟨t, rest, rfl, ?_⟩
    rcases find_cases Sl.free ls with ⟨hf, _⟩ | ⟨k, s, hf, hk, hs, h0⟩
    · right
      change Sl.fx ls = -1 at hf
      refine ⟨hf, ?_⟩
      rw [Qu.settled, hf] at h
      rcases Sl.bn_cases ls with hb | ⟨k, s, hb, hk, hs, h1⟩
      · rw [hb] at h; simp at h
      · refine ⟨k, s, hb, hk, hs, h1, ?_⟩
        rw [hb, Sl.at_get hs] at h
        simp only [show decide ((-1 : Int) < 0) = true from rfl, show decide ((k : Int) < 0) = false from by simp, Bool.true_and, Bool.false_or] at h
        rw [h]; simp
    · left
      exact ⟨k, s, hf, hk, hs, by simpa [Sl.free] using h0⟩
theorem mem_set_or {l : List Sl} {k : Nat} {x s : Sl} (h : s ∈ l.set k x) : s = x ∨ ∃ j, j ≠ k ∧ l[j]? = some s := by
  obtain ⟨j, hj⟩ := List.getElem?_of_mem h
  rw [List.getElem?_set] at hj
  split at hj
  · split at hj
    · injection hj with hj; exact .inl hj.symm
    · cases hj
  · rename_i hne
    exact .inr ⟨j, fun e => hne e.symm, hj⟩
theorem Sl.fine_pend {t : Wt} (h : t.fine) : (Sl.pend t).fine := by
  unfold Sl.fine Sl.pend
  rw [if_neg (by simp)]
  exact ⟨by simp, h.1, h.2⟩
theorem Sl.fine_wt {s : Sl} (h : s.fine) (h0 : ¬ s.state = 0) : s.wt.fine := by
  unfold Sl.fine at h
  rw [if_neg h0] at h
  exact ⟨h.2.1, h.2.2⟩
/-- the pieces of valid parts with a head -/
theorem Qu.parts_head {ls : List Sl} {t : Wt} {rest : List Wt} (h : Qu.parts ls (t :: rest) = true) : Sl.good ls = true ∧ t.fine ∧ Sl.lacks ls t.irq ∧ (∀ y ∈ rest, t.lt y = true ∧ t.irq ≠ y.irq ∧ y.fine ∧ Sl.lacks ls y.irq) ∧ rest.Pairwise (fun x y => x.lt y = true) ∧ rest.Pairwise (fun x y => x.irq ≠ y.irq) := by
  obtain ⟨hg, h1, h2, h3, h4⟩ := Qu.parts_iff.1 h
  rw [List.pairwise_cons] at h3 h4
  exact ⟨hg, h1 t (by simp), h2 t (by simp), fun y hy => ⟨h3.1 y hy, h4.1 y hy, h1 y (by simp [hy]), h2 y (by simp [hy])⟩, h3.2, h4.2⟩
theorem Qu.step_parts {ls : List Sl} {lw : List Wt} (h : Qu.parts ls lw = true) (hs : Qu.settled ls lw = false) : Qu.parts (Qu.step ls lw).1 (Qu.step ls lw).2 = true := by
  obtain ⟨t, rest, rfl, hc⟩ := Qu.unsettled hs
  obtain ⟨hg, tf, tl, hr, hs1, hs2⟩ := Qu.parts_head h
  have hset : ∀ k, Sl.good (ls.set k (Sl.pend t)) = true := fun k => Sl.good_set hg (Sl.fine_pend tf) (fun _ j u _ hu hu0 => tl u (List.mem_of_getElem? hu) hu0)
  have hlack : ∀ k y, y ∈ rest → Sl.lacks (ls.set k (Sl.pend t)) y.irq := fun k y hy s hs hs0 => by
    rcases mem_set_or hs with rfl | ⟨j, _, hj⟩
    · exact (hr y hy).2.1
    · exact (hr y hy).2.2.2 s (List.mem_of_getElem? hj) hs0
  rcases hc with ⟨k, s, hk, _, _, _⟩ | ⟨hf, k, s, hk, _, hsk, h1, _⟩
  · rw [Qu.step_free hk]
    exact Qu.parts_iff.2 ⟨hset k, fun y hy => (hr y hy).2.2.1, fun y hy => hlack k y hy, hs1, hs2⟩
  · rw [Qu.step_full hf hk hsk]
    have hs0 : ¬ s.state = 0 := by omega
    have hsm := List.mem_of_getElem? hsk
    have hne : ∀ y ∈ rest, y.irq ≠ s.wt.irq := fun y hy e => (hr y hy).2.2.2 s hsm hs0 e.symm
    refine Qu.parts_iff.2 ⟨hset k, fun y hy => ?_, fun y hy => ?_, Wt.ins_sorted hs1 hne, Wt.ins_irqs hs2 hne⟩
    · rcases Wt.ins_mem.1 hy with rfl | hy
      · exact Sl.fine_wt (Sl.good_fine hg hsk) hs0
      · exact (hr y hy).2.2.1
    · rcases Wt.ins_mem.1 hy with rfl | hy
      · intro u hu hu0
        rcases mem_set_or hu with rfl | ⟨j, hjk, hj⟩
        · exact fun e => tl s hsm hs0 e.symm
        · exact Sl.good_two hg hjk hj hsk hu0 hs0
      · exact hlack k y hy

/-! ### the measure -/
def Sl.rk (s : Sl) : Nat := if s.state = 0 then 128 else if s.state = 1 then (s.prio * 8 + s.irq).toNat else 0
def Qu.meas (ls : List Sl) : Nat := (ls.map Sl.rk).sum
theorem Sl.rk_le {s : Sl} (h : s.fine) : s.rk ≤ 128 := by
  unfold Sl.rk
  unfold Sl.fine at h
  split at h
  · rename_i h0; rw [if_pos h0]; omega
  · rename_i h0
    rw [if_neg h0]
    split
    · omega
    · omega
theorem Qu.meas_set : ∀ {ls : List Sl} {k : Nat} {s x : Sl}, ls[k]? = some s → Qu.meas (ls.set k x) + s.rk = Qu.meas ls + x.rk
  | [], k, s, x, h => by simp at h
  | y :: ls, 0, s, x, h => by
    simp at h; subst h
    simp [Qu.meas]; omega
  | y :: ls, k + 1, s, x, h => by
    have ih := Qu.meas_set (ls := ls) (k := k) (s := s) (x := x) (by simpa using h)
    simp only [Qu.meas, List.set_cons_succ, List.map_cons, List.sum_cons] at *
    omega
theorem Qu.meas_le {ls : List Sl} (h : Sl.good ls = true) : Qu.meas ls ≤ 512 := by
  have key : ∀ l : List Sl, (∀ s ∈ l, s.fine) → Qu.meas l ≤ 128 * l.length := by
    intro l
    induction l with
    | nil => intro _; simp [Qu.meas]
    | cons x l ih =>
      intro hl
      have h1 := Sl.rk_le (hl x (by simp))
      have h2 := ih (fun s hs => hl s (by simp [hs]))
      simp only [Qu.meas, List.map_cons, List.sum_cons, List.length_cons] at *
      omega
  have := key ls (fun s hs => by obtain ⟨j, hj⟩ := List.getElem?_of_mem hs; exact Sl.good_fine h hj)
  rw [(Sl.good_iff.1 h).1] at this
  omega
theorem Qu.step_meas {ls : List Sl} {lw : List Wt} (h : Qu.parts ls lw = true) (hs : Qu.settled ls lw = false) : Qu.meas (Qu.step ls lw).1 < Qu.meas ls := by
  obtain ⟨t, rest, rfl, hc⟩ := Qu.unsettled hs
  obtain ⟨hg, tf, tl, hr, hs1, hs2⟩ := Qu.parts_head h
  have htr : (Sl.pend t).rk = (t.prio * 8 + t.irq).toNat := by simp [Sl.rk, Sl.pend]
  unfold Wt.fine at tf
  rcases hc with ⟨k, s, hk, _, hsk, h0⟩ | ⟨hf, k, s, hk, _, hsk, h1, hlt⟩
  · rw [Qu.step_free hk]
    have := Qu.meas_set (x := Sl.pend t) hsk
    have hsr : s.rk = 128 := by simp [Sl.rk, h0]
    show Qu.meas (ls.set k (Sl.pend t)) < _
    omega
  · rw [Qu.step_full hf hk hsk]
    have := Qu.meas_set (x := Sl.pend t) hsk
    have hs0 : ¬ s.state = 0 := by omega
    have hsf := Sl.fine_wt (Sl.good_fine hg hsk) hs0
    have hne : s.irq ≠ t.irq := tl s (List.mem_of_getElem? hsk) hs0
    have hl2 := Wt.lt_other hlt hne
    rw [Wt.lt_iff] at hl2
    have hsr : s.rk = (s.prio * 8 + s.irq).toNat := by simp [Sl.rk, h1]
    simp only [Sl.wt] at hl2
    unfold Wt.fine Sl.wt at hsf
    show Qu.meas (ls.set k (Sl.pend t)) < _
    simp only at hsf
    omega

/-! ### settling -/
def Qu.run : Nat → List Sl → List Wt → List Sl × List Wt
  | 0, ls, lw => (ls, lw)
  | n + 1, ls, lw => if Qu.settled ls lw then (ls, lw) else Qu.run n (Qu.step ls lw).1 (Qu.step ls lw).2
theorem Qu.run_more : ∀ (n m : Nat) {ls : List Sl} {lw : List Wt}, Qu.parts ls lw = true → Qu.meas ls ≤ n → Qu.meas ls ≤ m → Qu.run n ls lw = Qu.run m ls lw
  | n, m, ls, lw, h, hn, hm => by
    cases hs : Qu.settled ls lw
    · have h1 := Qu.step_meas h hs
      have h2 := Qu.step_parts h hs
      obtain ⟨n', rfl⟩ : ∃ n', n = n' + 1 := ⟨n - 1, by omega⟩
      obtain ⟨m', rfl⟩ : ∃ m', m = m' + 1 := ⟨m - 1, by omega⟩
      rw [Qu.run, Qu.run, hs]
      simp only [Bool.false_eq_true, if_false]
      exact Qu.run_more n' m' h2 (by omega) (by omega)
    · cases n <;> cases m <;> simp [Qu.run, hs]
termination_by n => n
def Qu.st (ls : List Sl) (lw : List Wt) : List Sl × List Wt := Qu.run 1000 ls lw
theorem Qu.st_done {ls : List Sl} {lw : List Wt} (h : Qu.settled ls lw = true) : Qu.st ls lw = (ls, lw) := by simp [Qu.st, Qu.run, h]
theorem Qu.st_step {ls : List Sl} {lw : List Wt} (h : Qu.parts ls lw = true) (hs : Qu.settled ls lw = false) : Qu.st ls lw = Qu.st (Qu.step ls lw).1 (Qu.step ls lw).2 := by
  have h1 := Qu.step_meas h hs
  have h2 := Qu.meas_le (Qu.parts_get h).1
  unfold Qu.st
  rw [show (1000 : Nat) = 999 + 1 from rfl, Qu.run, hs]
  simp only [Bool.false_eq_true, if_false]
  exact Qu.run_more 999 (999 + 1) (Qu.step_parts h hs) (by omega) (by omega)
theorem Qu.run_good : ∀ (n : Nat) {ls : List Sl} {lw : List Wt}, Qu.parts ls lw = true → Qu.meas ls ≤ n → Qu.good (Qu.run n ls lw).1 (Qu.run n ls lw).2 = true
  | n, ls, lw, h, hn => by
    cases hs : Qu.settled ls lw
    · have h1 := Qu.step_meas h hs
      obtain ⟨n', rfl⟩ : ∃ n', n = n' + 1 := ⟨n - 1, by omega⟩
      rw [Qu.run, hs]
      simp only [Bool.false_eq_true, if_false]
      exact Qu.run_good n' (Qu.step_parts h hs) (by omega)
    · cases n <;> simp [Qu.run, hs, Qu.good, h]
termination_by n => n
theorem Qu.st_good {ls : List Sl} {lw : List Wt} (h : Qu.parts ls lw = true) : Qu.good (Qu.st ls lw).1 (Qu.st ls lw).2 = true := Qu.run_good 1000 h (by have := Qu.meas_le (Qu.parts_get h).1; omega)
theorem Qu.good_parts {ls : List Sl} {lw : List Wt} (h : Qu.good ls lw = true) : Qu.parts ls lw = true ∧ Qu.settled ls lw = true := by simpa [Qu.good] using h
end Go.Proofs.YtengaccnncnipaaGreat

/- Taking the most urgent pending interrupt, in the program and in the reference. Condition (the inner functions): valid slots. -/
namespace Go.Proofs.YtengaccnncnipaaGreat
open Go.RowKit Go.ChangeShapes Go.WideShapes Go.Deep

def Sl.bx (l : List Sl) : Int := Sl.best true l l.length
def Sl.act (s : Sl) : Sl := ⟨2, s.irq, s.prio⟩
def Sl.tkOk (l : List Sl) (m : Int) : Bool := decide (0 ≤ Sl.bx l) && decide ((Sl.at_ l (Sl.bx l)).prio < m)
def Sl.tkS (l : List Sl) : List Sl := l.set (Sl.bx l).toNat (Sl.act (Sl.at_ l (Sl.bx l)))
def Sl.tkI (l : List Sl) : Int := (Sl.at_ l (Sl.bx l)).irq
def Sl.tkR (l : List Sl) (m : Int) : List Sl := if Sl.tkOk l m then Sl.tkS l else []
def Sl.tkV (l : List Sl) (m : Int) : Int := if Sl.tkOk l m then Sl.tkI l else 0
/-- as the reference's inner function returns them -/
def Sl.tkL (l : List Sl) (m : Int) : List Sl := if Sl.tkOk l m then Sl.tkS l else l
def Sl.tkW (l : List Sl) (m : Int) : Int := if Sl.tkOk l m then Sl.tkI l else -1
theorem Sl.bx_cases (l : List Sl) : Sl.bx l = -1 ∨ ∃ (k : Nat) (s : Sl), Sl.bx l = k ∧ k < l.length ∧ l[k]? = some s ∧ s.state = 1 :=
  (Sl.best_bd true l l.length (Nat.le_refl _)).imp id fun ⟨k, s, h1, h2, h3, h4⟩ => ⟨k, s, h1, h2, h3, h4⟩
theorem Sl.tk_no {l : List Sl} {m : Int} (h : Sl.tkOk l m = false) : Sl.tkOk l m = false ∧ Sl.tkR l m = [] ∧ Sl.tkV l m = 0 ∧ Sl.tkL l m = l ∧ Sl.tkW l m = -1 := by
  simp [Sl.tkR, Sl.tkV, Sl.tkL, Sl.tkW, h]
theorem Sl.tk_yes {l : List Sl} {m : Int} {k : Nat} {s : Sl} (h : Sl.bx l = k) (hs : l[k]? = some s) (hp : s.prio < m) : Sl.tkOk l m = true ∧ Sl.tkR l m = l.set k (Sl.act s) ∧ Sl.tkV l m = s.irq ∧ Sl.tkL l m = l.set k (Sl.act s) ∧ Sl.tkW l m = s.irq := by
  have h1 : Sl.tkOk l m = true := by simp [Sl.tkOk, h, Sl.at_get hs, hp]
  simp [Sl.tkR, Sl.tkV, Sl.tkL, Sl.tkW, h1, Sl.tkS, Sl.tkI, h, Sl.at_get hs]
theorem Sl.tk_irq {l : List Sl} (hg : Sl.good l = true) {m : Int} (h : Sl.tkOk l m = true) : 0 ≤ Sl.tkI l := by
  rcases Sl.bx_cases l with hb | ⟨k, s, hb, _, hs, h1⟩
  · simp [Sl.tkOk, hb] at h
  · have := Sl.good_one hg hs
    have h0 : ¬ s.state = 0 := by omega
    simp only [Sl.okAt, if_neg h0, Bool.and_eq_true] at this
    have := inB_true this.2.1
    rw [Sl.tkI, hb, Sl.at_get hs]
    exact this.1
theorem Sl.tkS_len (l : List Sl) : (Sl.tkS l).length = l.length := by simp [Sl.tkS]
set_option maxHeartbeats 1000000 in
theorem specTake_in (v : Value) (l : List Sl) (m : Int) (w : World) {lo hi : Nat} (h : Rd Sl.cells 3 w lo hi v l) (hh : hi ≤ w.heap.size) (hg : Sl.good l = true) :
    Calls Tryz.prog 140 #[v, .int .i64 m] w fun r w' => ∃ v', r = .returned (.tuple #[v', .int .i64 (Sl.tkW l m)]) ∧ Rd Sl.cells 3 w' 0 w'.heap.size v' (Sl.tkL l m) ∧ Below w.heap.size w w' := by
  have hl : l.length ≤ 1048576 := by rw [Sl.good_len hg]; decide
  have c1 := l8Best_any v l true w h hh
  change Calls _ _ _ _ (fun e w' => e = .returned (.int .i64 (Sl.bx l)) ∧ Below w.heap.size w w') at c1
  have c3 := fun (W : World) (kb : Below w.heap.size w W) (k : Nat) (s : Sl) (hk : k < l.length) => specWith_any v l k s W (h.below kb hh) (Nat.le_trans hh kb.size) hk hl
  have hrd := h
  obtain ⟨A, n, c, rfl, H, hc, hm⟩ := h.form
  clear hg
  rcases Sl.bx_cases l with hf | ⟨k, s, hf, hk, hs, _⟩
  · rw [hf] at c1
    have HF := Lib.hid (Sl.tk_no (l := l) (m := m) (by simp [Sl.tkOk, hf]))
    clear hf c3
    go_enter Tryz.func140, Tryz.ntmps140
    go_wp2_with fail
    refine c1.mono ?_; rintro q_ w1 ⟨rfl, b1⟩
    go_wp2_with fail
    go_ret2
    exact ⟨_, by rw [HF.out.2.2.2.2]; rfl, by rw [HF.out.2.2.2.1]; exact (hrd.below b1 hh).mono (Nat.zero_le _) (Nat.le_trans hh b1.size), b1⟩
  · rw [hf] at c1
    have hkn : k < n := by rw [H.out]; exact hk
    have HT := Lib.hid hs
    have hj0 : decide ((k : Int) < 0) = false := by simp
    by_cases hp : s.prio < m
    · have HF := Lib.hid (Sl.tk_yes hf hs hp)
      have hd : decide (m ≤ s.prio) = false := decide_eq_false (by omega)
      have c3 := fun W kb => c3 W kb k (Sl.act s) hk
      unfold Sl.act Sl.val at c3
      simp only at c3
      unfold Sl.act at HF
      clear hf hs hp
      go_enter Tryz.func140, Tryz.ntmps140
      go_wp2_with fail
      refine c1.mono ?_; rintro q_ w1 ⟨rfl, b1⟩
      obtain ⟨b, off, t, rfl, ht, _, hbl, f0, f1, f2⟩ := Sl.get hrd hkn b1 hh
      obtain rfl := Option.some.inj (HT.out.symm.trans ht.out)
      have hbw1 : b < w1.heap.size := by have := b1.size; omega
      go_wp2_with fail
      have k0 : (w1.alloc (.cells #[.int .i64 2, .int .i64 s.irq, .int .i64 s.prio] 127)).cell? ⟨w1.heap.size, 0, none⟩ = some (.int .i64 2) := by simp
      have k1 : (w1.alloc (.cells #[.int .i64 2, .int .i64 s.irq, .int .i64 s.prio] 127)).cell? ⟨w1.heap.size, 1, none⟩ = some (.int .i64 s.irq) := by simp
      have k2 : (w1.alloc (.cells #[.int .i64 2, .int .i64 s.irq, .int .i64 s.prio] 127)).cell? ⟨w1.heap.size, 2, none⟩ = some (.int .i64 s.prio) := by simp
      have bx := b1.alloc b1.size (.cells #[.int .i64 2, .int .i64 s.irq, .int .i64 s.prio] 127)
      have z2 : w1.heap.size < (w1.alloc (.cells #[.int .i64 2, .int .i64 s.irq, .int .i64 s.prio] 127)).heap.size := by simp
      have zz := bx.size
      clear f0 f1 f2
      generalize w1.alloc _ = w2 at bx k0 k1 k2 z2 zz ⊢
      have c5 := c3 w2.drew (bx.drew)
      go_region_with (go_at_call 175; refine c5.mono ?_; rintro q_ w3 ⟨v', rfl, o1, b3⟩; (try simp only [World.size_drew] at b3 o1); (have k3 := (b3.cell (p := ⟨w1.heap.size, 1, none⟩) z2).trans k1))
      all_goals
        have bx := bx.drew
        go_wp2_with fail
        go_ret2
        exact ⟨v', by rw [HF.out.2.2.2.2]; rfl, by rw [HF.out.2.2.2.1]; exact o1.rd.mono (Nat.zero_le _) (Nat.le_refl _), bx.trans (b3.mono zz)⟩
    · have HF := Lib.hid (Sl.tk_no (l := l) (m := m) (by simp [Sl.tkOk, hf, Sl.at_get hs, hp]))
      have hd : decide (m ≤ s.prio) = true := decide_eq_true (by omega)
      clear hf hs hp c3
      go_enter Tryz.func140, Tryz.ntmps140
      go_wp2_with fail
      refine c1.mono ?_; rintro q_ w1 ⟨rfl, b1⟩
      have hrd2 := hrd
      obtain ⟨b, off, t, rfl, ht, _, hbl, f0, f1, f2⟩ := Sl.get hrd hkn b1 hh
      obtain rfl := Option.some.inj (HT.out.symm.trans ht.out)
      have hbw1 : b < w1.heap.size := by have := b1.size; omega
      go_wp2_with fail
      go_ret2
      exact ⟨_, by rw [HF.out.2.2.2.2]; rfl, by rw [HF.out.2.2.2.1]; exact (hrd.below b1 hh).mono (Nat.zero_le _) (Nat.le_trans hh b1.size), b1⟩
set_option maxHeartbeats 1000000 in
theorem implTake_in (v : Value) (l : List Sl) (m : Int) (w : World) {lo hi : Nat} (h : Rd Sl.cells 3 w lo hi v l) (hh : hi ≤ w.heap.size) (hg : Sl.good l = true) :
    Calls Tryz.prog 141 #[v, .int .i64 m] w fun r w' => ∃ v', r = .returned (.tuple #[v', .int .i64 (Sl.tkV l m), .bool (Sl.tkOk l m)]) ∧ Ow Sl.cells 3 127 w' w.heap.size w'.heap.size v' (Sl.tkR l m) ∧ Below w.heap.size w w' := by
  have hl : l.length ≤ 1048576 := by rw [Sl.good_len hg]; decide
  have c1 := pendingSlot_any v l true w h hh hg
  change Calls _ _ _ _ (fun e w' => e = .returned (.int .i64 (Sl.bx l)) ∧ Below w.heap.size w w') at c1
  have c3 := fun (W : World) (kb : Below w.heap.size w W) (k : Nat) (s : Sl) (hk : k < l.length) => implWith_any v l k s W (h.below kb hh) (Nat.le_trans hh kb.size) hk hl
  have hrd := h
  obtain ⟨A, n, c, rfl, H, hc, hm⟩ := h.form
  clear hg
  rcases Sl.bx_cases l with hf | ⟨k, s, hf, hk, hs, _⟩
  · rw [hf] at c1
    have HF := Lib.hid (Sl.tk_no (l := l) (m := m) (by simp [Sl.tkOk, hf]))
    clear hf c3
    go_enter Tryz.func141, Tryz.ntmps141
    go_wp2_with fail
    refine c1.mono ?_; rintro q_ w1 ⟨rfl, b1⟩
    go_wp2_with fail
    go_ret3
    exact ⟨_, by rw [HF.out.1, HF.out.2.2.1]; rfl, by rw [HF.out.2.1]; exact Ow.nil_, b1⟩
  · rw [hf] at c1
    have hkn : k < n := by rw [H.out]; exact hk
    have HT := Lib.hid hs
    have hj0 : decide ((k : Int) < 0) = false := by simp
    by_cases hp : s.prio < m
    · have HF := Lib.hid (Sl.tk_yes hf hs hp)
      have hd : decide (m ≤ s.prio) = false := decide_eq_false (by omega)
      have c3 := fun W kb => c3 W kb k (Sl.act s) hk
      unfold Sl.act Sl.val at c3
      simp only at c3
      unfold Sl.act at HF
      clear hf hs hp
      go_enter Tryz.func141, Tryz.ntmps141
      go_wp2_with fail
      refine c1.mono ?_; rintro q_ w1 ⟨rfl, b1⟩
      obtain ⟨b, off, t, rfl, ht, _, hbl, f0, f1, f2⟩ := Sl.get hrd hkn b1 hh
      obtain rfl := Option.some.inj (HT.out.symm.trans ht.out)
      have hbw1 : b < w1.heap.size := by have := b1.size; omega
      go_wp2_with fail
      have k0 : (w1.alloc (.cells #[.int .i64 2, .int .i64 s.irq, .int .i64 s.prio] 127)).cell? ⟨w1.heap.size, 0, none⟩ = some (.int .i64 2) := by simp
      have k1 : (w1.alloc (.cells #[.int .i64 2, .int .i64 s.irq, .int .i64 s.prio] 127)).cell? ⟨w1.heap.size, 1, none⟩ = some (.int .i64 s.irq) := by simp
      have k2 : (w1.alloc (.cells #[.int .i64 2, .int .i64 s.irq, .int .i64 s.prio] 127)).cell? ⟨w1.heap.size, 2, none⟩ = some (.int .i64 s.prio) := by simp
      have bx := b1.alloc b1.size (.cells #[.int .i64 2, .int .i64 s.irq, .int .i64 s.prio] 127)
      have z2 : w1.heap.size < (w1.alloc (.cells #[.int .i64 2, .int .i64 s.irq, .int .i64 s.prio] 127)).heap.size := by simp
      have zz := bx.size
      clear f0 f1 f2
      generalize w1.alloc _ = w2 at bx k0 k1 k2 z2 zz ⊢
      have c5 := c3 w2.drew (bx.drew)
      go_region_with (go_at_call 176; refine c5.mono ?_; rintro q_ w3 ⟨v', rfl, o1, b3⟩; (try simp only [World.size_drew] at b3 o1); (have k3 := (b3.cell (p := ⟨w1.heap.size, 1, none⟩) z2).trans k1))
      all_goals
        have bx := bx.drew
        go_wp2_with fail
        go_ret3
        exact ⟨v', by rw [HF.out.1, HF.out.2.2.1]; rfl, by rw [HF.out.2.1]; exact o1.mono zz (Nat.le_refl _), bx.trans (b3.mono zz)⟩
    · have HF := Lib.hid (Sl.tk_no (l := l) (m := m) (by simp [Sl.tkOk, hf, Sl.at_get hs, hp]))
      have hd : decide (m ≤ s.prio) = true := decide_eq_true (by omega)
      clear hf hs hp c3
      go_enter Tryz.func141, Tryz.ntmps141
      go_wp2_with fail
      refine c1.mono ?_; rintro q_ w1 ⟨rfl, b1⟩
      have hrd2 := hrd
      obtain ⟨b, off, t, rfl, ht, _, hbl, f0, f1, f2⟩ := Sl.get hrd hkn b1 hh
      obtain rfl := Option.some.inj (HT.out.symm.trans ht.out)
      have hbw1 : b < w1.heap.size := by have := b1.size; omega
      go_wp2_with fail
      go_ret3
      exact ⟨_, by rw [HF.out.1, HF.out.2.2.1]; rfl, by rw [HF.out.2.1]; exact Ow.nil_, b1⟩

end Go.Proofs.YtengaccnncnipaaGreat

/- Offering, ending, withdrawing, taking in turn: what becomes of a queue, in plain terms. No condition. -/
namespace Go.Proofs.YtengaccnncnipaaGreat

theorem Qu.parts_set {ls : List Sl} {lw : List Wt} {k : Nat} {s x : Sl} (h : Qu.parts ls lw = true) (hs : ls[k]? = some s) (h0 : ¬ s.state = 0) (hx : x.fine) (hi : ¬ x.state = 0 → x.irq = s.irq) : Qu.parts (ls.set k x) lw = true := by
  obtain ⟨hg, h1, h2, h3, h4⟩ := Qu.parts_iff.1 h
  refine Qu.parts_iff.2 ⟨Sl.good_set hg hx (fun hx0 j u hj hu hu0 => by rw [hi hx0]; exact Sl.good_two hg hj hu hs hu0 h0), h1, fun w hw u hu hu0 => ?_, h3, h4⟩
  rcases mem_set_or hu with rfl | ⟨j, _, hj⟩
  · rw [hi hu0]; exact h2 w hw s (List.mem_of_getElem? hs) h0
  · exact h2 w hw u (List.mem_of_getElem? hj) hu0
theorem Qu.parts_ins {ls : List Sl} {lw : List Wt} {x : Wt} (h : Qu.parts ls lw = true) (hx : x.fine) (hl : Sl.lacks ls x.irq) (hn : ∀ y ∈ lw, y.irq ≠ x.irq) : Qu.parts ls (Wt.ins lw x) = true := by
  obtain ⟨hg, h1, h2, h3, h4⟩ := Qu.parts_iff.1 h
  refine Qu.parts_iff.2 ⟨hg, fun w hw => ?_, fun w hw => ?_, Wt.ins_sorted h3 hn, Wt.ins_irqs h4 hn⟩
  · rcases Wt.ins_mem.1 hw with rfl | hw
    · exact hx
    · exact h1 w hw
  · rcases Wt.ins_mem.1 hw with rfl | hw
    · exact hl
    · exact h2 w hw
theorem Sl.ix_hit {ls : List Sl} {i : Int} (h : 0 ≤ Sl.ix ls i) : ∃ (k : Nat) (s : Sl), Sl.ix ls i = k ∧ k < ls.length ∧ ls[k]? = some s ∧ ¬ s.state = 0 ∧ s.irq = i := by
  rcases find_cases (Sl.has i) ls with ⟨hf, _⟩ | ⟨k, s, hf, hk, hs, hp⟩
  · unfold Sl.ix at h; omega
  · refine ⟨k, s, hf, hk, hs, ?_⟩
    simpa [Sl.has] using hp
theorem Sl.fine_both {s : Sl} (h : s.fine) (h0 : ¬ s.state = 0) : (Sl.both s).fine ∧ ¬ (Sl.both s).state = 0 ∧ (Sl.both s).irq = s.irq := by
  unfold Sl.both
  split
  · refine ⟨?_, by simp, rfl⟩
    unfold Sl.fine at *
    rw [if_neg h0] at h
    rw [if_neg (by simp)]
    exact ⟨by simp, h.2⟩
  · exact ⟨h, h0, rfl⟩
theorem Sl.fine_zero : (⟨0, 0, 0⟩ : Sl).fine := by simp [Sl.fine]
theorem Sl.fine_ended {s : Sl} (h : s.fine) (h0 : ¬ s.state = 0) : (Sl.ended s).fine ∧ (¬ (Sl.ended s).state = 0 → (Sl.ended s).irq = s.irq) := by
  unfold Sl.ended
  split
  · exact ⟨Sl.fine_zero, fun h => absurd rfl h⟩
  · refine ⟨?_, fun _ => rfl⟩
    unfold Sl.fine at *
    rw [if_neg h0] at h
    rw [if_neg (by simp)]
    exact ⟨by simp, h.2⟩
theorem Sl.fine_act {s : Sl} (h : s.fine) (h0 : ¬ s.state = 0) : (Sl.act s).fine ∧ (¬ (Sl.act s).state = 0 → (Sl.act s).irq = s.irq) := by
  refine ⟨?_, fun _ => rfl⟩
  unfold Sl.fine Sl.act at *
  rw [if_neg h0] at h
  rw [if_neg (by simp)]
  exact ⟨by simp, h.2⟩

/-! ### offering -/
def Qu.ofOk (ls : List Sl) (lw : List Wt) (i p : Int) : Bool := Qu.good ls lw && (inB i 0 7 && inB p 0 15)
def Qu.of0 (ls : List Sl) (lw : List Wt) (i p : Int) : List Sl × List Wt := if 0 ≤ Sl.ix ls i then (Sl.putR ls i p, lw) else if lw.any (Wt.isI i) then (ls, lw) else (ls, Wt.ins lw ⟨i, p⟩)
def Qu.ofP (ls : List Sl) (lw : List Wt) (i p : Int) : List Sl × List Wt := Qu.st (Qu.of0 ls lw i p).1 (Qu.of0 ls lw i p).2
theorem Qu.of_hit {ls : List Sl} {lw : List Wt} {i p : Int} (h : 0 ≤ Sl.ix ls i) : Qu.of0 ls lw i p = (Sl.putR ls i p, lw) := by simp [Qu.of0, h]
theorem Qu.of_had {ls : List Sl} {lw : List Wt} {i p : Int} (h : Sl.ix ls i < 0) (h2 : lw.any (Wt.isI i) = true) : Qu.of0 ls lw i p = (ls, lw) := by simp [Qu.of0, h2, show ¬ 0 ≤ Sl.ix ls i by omega]
theorem Qu.of_new {ls : List Sl} {lw : List Wt} {i p : Int} (h : Sl.ix ls i < 0) (h2 : lw.any (Wt.isI i) = false) : Qu.of0 ls lw i p = (ls, Wt.ins lw ⟨i, p⟩) := by simp [Qu.of0, h2, show ¬ 0 ≤ Sl.ix ls i by omega]
theorem Qu.any_isI {lw : List Wt} {i : Int} (h : lw.any (Wt.isI i) = false) : ∀ y ∈ lw, y.irq ≠ i := fun y hy e => by
  have := List.any_eq_false.1 h y hy
  simp [Wt.isI, e] at this
theorem Qu.of_parts {ls : List Sl} {lw : List Wt} {i p : Int} (h : Qu.parts ls lw = true) (hi : inB i 0 7 = true) (hp : inB p 0 15 = true) : Qu.parts (Qu.of0 ls lw i p).1 (Qu.of0 ls lw i p).2 = true := by
  have hg := (Qu.parts_get h).1
  by_cases h1 : 0 ≤ Sl.ix ls i
  · rw [Qu.of_hit h1]
    obtain ⟨k, s, hk, _, hs, h0, _⟩ := Sl.ix_hit h1
    have hf := Sl.fine_both (Sl.good_fine hg hs) h0
    show Qu.parts (Sl.putR ls i p) lw = true
    rw [(Sl.put_hit (p := p) hk hs).2]
    exact Qu.parts_set h hs h0 hf.1 (fun _ => hf.2.2)
  · have h1' : Sl.ix ls i < 0 := by omega
    cases h2 : lw.any (Wt.isI i)
    · rw [Qu.of_new h1' h2]
      exact Qu.parts_ins h ⟨inB_true hi, inB_true hp⟩ (Sl.ix_neg.1 h1') (Qu.any_isI h2)
    · rw [Qu.of_had h1' h2]; exact h
theorem Qu.ofOk_get {ls : List Sl} {lw : List Wt} {i p : Int} (h : Qu.ofOk ls lw i p = true) : Qu.good ls lw = true ∧ inB i 0 7 = true ∧ inB p 0 15 = true := by simpa [Qu.ofOk] using h
theorem Qu.ofP_good {ls : List Sl} {lw : List Wt} {i p : Int} (h : Qu.ofOk ls lw i p = true) : Qu.good (Qu.ofP ls lw i p).1 (Qu.ofP ls lw i p).2 = true := by
  obtain ⟨h1, h2, h3⟩ := Qu.ofOk_get h
  exact Qu.st_good (Qu.of_parts (Qu.good_parts h1).1 h2 h3)
theorem Qu.good_len2 {ls : List Sl} {lw : List Wt} (h : Qu.good ls lw = true) : ls.length = 4 ∧ lw.length ≤ 8 := by
  have := (Qu.good_parts h).1
  exact ⟨Sl.good_len (Qu.parts_get this).1, Qu.parts_len this⟩
/-! ### settling given parts -/
/-! ### ending -/
def Qu.enP (ls : List Sl) (lw : List Wt) (i : Int) : List Sl × List Wt := Qu.st (Sl.endR ls i) lw
/-- what the inner function gives: nothing if there is nothing to end -/
def Qu.eiS (ls : List Sl) (lw : List Wt) (i : Int) : List Sl := if Sl.endOk ls i then (Qu.enP ls lw i).1 else []
def Qu.eiW (ls : List Sl) (lw : List Wt) (i : Int) : List Wt := if Sl.endOk ls i then (Qu.enP ls lw i).2 else []
theorem Qu.ei_no {ls : List Sl} {i : Int} (h : Sl.endOk ls i = false) (lw : List Wt) : Qu.eiS ls lw i = [] ∧ Qu.eiW ls lw i = [] := by simp [Qu.eiS, Qu.eiW, h]
theorem Qu.ei_yes {ls : List Sl} {i : Int} (h : Sl.endOk ls i = true) (lw : List Wt) : Qu.eiS ls lw i = (Qu.enP ls lw i).1 ∧ Qu.eiW ls lw i = (Qu.enP ls lw i).2 := by simp [Qu.eiS, Qu.eiW, h]
theorem Sl.endOk_hit {ls : List Sl} {i : Int} (h : Sl.endOk ls i = true) : ∃ (k : Nat) (s : Sl), Sl.ix ls i = k ∧ k < ls.length ∧ ls[k]? = some s ∧ ¬ s.state = 0 ∧ s.irq = i ∧ ¬ s.state = 1 ∧ Sl.endR ls i = ls.set k (Sl.ended s) := by
  have h' := h
  simp only [Sl.endOk, Bool.and_eq_true, decide_eq_true_eq] at h
  obtain ⟨k, s, hk, hlt, hs, h0, hi⟩ := Sl.ix_hit h.1
  have h2 := h.2
  rw [hk, Sl.at_get hs] at h2
  have h1 : ¬ s.state = 1 := by simpa using h2
  exact ⟨k, s, hk, hlt, hs, h0, hi, h1, (Sl.end_hit hk hs h1).2⟩
theorem Qu.en_parts {ls : List Sl} {lw : List Wt} {i : Int} (h : Qu.parts ls lw = true) (hk : Sl.endOk ls i = true) : Qu.parts (Sl.endR ls i) lw = true := by
  obtain ⟨k, s, _, _, hs, h0, _, _, e⟩ := Sl.endOk_hit hk
  have hf := Sl.fine_ended (Sl.good_fine (Qu.parts_get h).1 hs) h0
  rw [e]
  exact Qu.parts_set h hs h0 hf.1 hf.2
theorem Qu.eiP_good {ls : List Sl} {lw : List Wt} {i : Int} (h : Qu.parts ls lw = true) (hk : Sl.endOk ls i = true) : Qu.good (Qu.enP ls lw i).1 (Qu.enP ls lw i).2 = true := Qu.st_good (Qu.en_parts h hk)
/-! ### withdrawing -/
def Sl.drop (s : Sl) : Sl := if s.state = 3 then ⟨2, s.irq, s.prio⟩ else ⟨0, 0, 0⟩
/-! ### serving in turn -/
theorem Sl.tkOk_hit {ls : List Sl} {m : Int} (h : Sl.tkOk ls m = true) : ∃ (k : Nat) (s : Sl), Sl.bx ls = k ∧ k < ls.length ∧ ls[k]? = some s ∧ s.state = 1 ∧ s.prio < m ∧ Sl.tkS ls = ls.set k (Sl.act s) ∧ Sl.tkI ls = s.irq := by
  simp only [Sl.tkOk, Bool.and_eq_true, decide_eq_true_eq] at h
  rcases Sl.bx_cases ls with hb | ⟨k, s, hb, hk, hs, h1⟩
  · omega
  · have h2 := h.2
    rw [hb, Sl.at_get hs] at h2
    refine ⟨k, s, hb, hk, hs, h1, h2, ?_, ?_⟩
    · rw [Sl.tkS, hb, Sl.at_get hs]; rfl
    · rw [Sl.tkI, hb, Sl.at_get hs]
theorem Sl.ix_of {ls : List Sl} (h : Sl.good ls = true) {k : Nat} {s : Sl} (hs : ls[k]? = some s) (h0 : ¬ s.state = 0) : Sl.ix ls s.irq = k := by
  have hlt := (List.getElem?_eq_some_iff.1 hs).1
  refine findIx_hit (any_take_false.2 fun j u hj hu => ?_) hs (by simp [Sl.has, h0])
  by_cases hu0 : u.state = 0
  · simp [Sl.has, hu0]
  · have := Sl.good_two h (by omega : j ≠ k) hu hs hu0 h0
    simp [Sl.has, this]
theorem Qu.tk_parts {ls : List Sl} {lw : List Wt} {m : Int} (h : Qu.parts ls lw = true) (hk : Sl.tkOk ls m = true) : Qu.parts (Sl.tkS ls) lw = true := by
  obtain ⟨k, s, _, _, hs, h1, _, e, _⟩ := Sl.tkOk_hit hk
  have hf := Sl.fine_act (Sl.good_fine (Qu.parts_get h).1 hs) (by omega)
  rw [e]
  exact Qu.parts_set h hs (by omega) hf.1 hf.2
/-! ### all that is pending -/
def Sl.isPend (s : Sl) : Bool := s.state == 1 || s.state == 3
def Sl.pends (ls : List Sl) : List Wt := (ls.filter Sl.isPend).map Sl.wt
def Qu.all (ls : List Sl) (lw : List Wt) : List Wt := (Sl.pends ls).foldl Wt.ins lw
end Go.Proofs.YtengaccnncnipaaGreat

/- Is a number in a list, in the reference. No condition. -/
namespace Go.Proofs.YtengaccnncnipaaGreat
open Go.RowKit Go.ChangeShapes Go.WideShapes Go.Deep

theorem l1Has_any (v : Value) (l : List Int) (x : Int) (w : World) {lo hi : Nat} (h : Rd Nm.cells 1 w lo hi v l) (hh : hi ≤ w.heap.size) :
    Calls Tryz.prog 100 #[v, .int .i64 x] w fun e w' => e = .returned (.bool (l.contains x)) ∧ w = w' := by
  obtain ⟨A, n, c, rfl, H, hc, hm⟩ := h.form
  go_enter Tryz.func100, Tryz.ntmps100
  go_wp2_with fail
  go_loop [5] (fun j => ∃ m : Nat, m ≤ n ∧ j = .int .i64 m ∧ (l.take m).contains x = false) (fun j => n - (intOf j).toNat)
  case atStart => exact ⟨0, Nat.zero_le _, rfl, by simp⟩
  case round =>
    obtain ⟨m, hk, rfl, hs⟩ := hrel
    have HS := Lib.hid hs
    clear hs
    by_cases hlt : m < n
    · obtain ⟨b, off, y, rfl, hy, _, hbl, f0⟩ := Nm.get h hlt (Below.refl w.heap.size w) hh
      by_cases hxy : y = x
      · have HF := Lib.hid (show l.contains x = true from by rw [List.contains_iff_mem]; rw [← hxy]; exact List.mem_of_getElem? hy.out)
        rw [hxy] at f0
        clear hxy
        go_wp2_with fail
        go_ret
        have := HF.out
        rw [List.contains_eq_mem] at this
        exact ⟨ret_bool this.symm, rfl⟩
      · have HF := Lib.hid (show (l.take (m + 1)).contains x = false from by
          rw [List.take_add_one, hy.out]
          have := HS.out
          simp only [List.contains_eq_mem, decide_eq_false_iff_not] at this ⊢
          simp [this, Ne.symm hxy])
        go_wp2_with fail
        go_round
        case rel => exact ⟨m + 1, by omega, by go_num, HF.out⟩
        case measure => simp [intOf]; omega
    · go_wp2_with fail
      go_ret
      have := HS.out
      rw [List.take_of_length_le (by rw [← H.out]; omega), List.contains_eq_mem] at this
      exact ⟨ret_bool this.symm, rfl⟩

end Go.Proofs.YtengaccnncnipaaGreat

/- As Region, for a region whose first operations (worldless ones, which the tail does not wait for) are taken first. No condition. -/
namespace Go.Proofs.YtengaccnncnipaaGreat
open Go.RowKit Go.ChangeShapes Go.WideShapes Go.Deep

section
variable {P : Program} {ops : Array Oper} {md : Region.Mode} {C : World → Prop}
def sinkB1 (md : Region.Mode) (ops : Array Oper) (m n : Nat) : Bool :=
  (List.range n).all fun i => decide (i < m) || (List.range (n + 1)).any fun j => decide (i < j) && Region.waitsFor md ops j i
theorem tail_waits1 {m n : Nat} {listed : Array Bool} (hs : sinkB1 md ops m n = true) (hc : Region.chainB md ops n = true) (hn : n < ops.size) (inv : HeadInv md ops n listed) (hl0 : ∀ i, i < m → listed.getD i false = true) :
    ∀ (d i : Nat), n - i = d → i < n → listed.getD i true = false → ∀ t, n ≤ t → t ∉ Region.ready md ops listed := by
  intro d
  induction d using Nat.strongRecOn with
  | _ d ih =>
    intro i hd hi hun t ht hr
    obtain ⟨_, ot, hot, hall⟩ := mem_ready.1 hr
    have htlt : t < ops.size := (Array.getElem?_eq_some_iff.1 hot).1
    have him : ¬ i < m := fun h => by have := hl0 i h; rw [getD_both hun] at this; cases this
    by_cases htn : t = n
    · subst htn
      have h1 := List.all_eq_true.1 hs i (List.mem_range.2 hi)
      simp only [him, decide_false, Bool.false_or] at h1
      obtain ⟨j, hj, hj2⟩ := List.any_eq_true.1 h1
      simp only [Bool.and_eq_true, decide_eq_true_eq] at hj2
      obtain ⟨oj, hoj, e, he, hb, hon⟩ := Region.waitsFor_spec hj2.2
      have hjle : j ≤ t := by have := List.mem_range.1 hj; omega
      by_cases hjt : j = t
      · subst hjt
        have : oj = ot := Option.some.inj (hoj.symm.trans hot)
        subst this
        have h2 := hall e he hb
        rw [hon, getD_both hun] at h2
        cases h2
      · cases hl : listed.getD j false with
        | true =>
          have h2 := inv.closed j oj hoj hl e he hb
          rw [hon, getD_both hun] at h2
          cases h2
        | false =>
          have hjs : j < listed.size := by rw [inv.size]; omega
          exact ih (t - j) (by omega) j rfl (by omega) (getD_in hjs hl) t (Nat.le_refl _) hr
    · have h1 := List.all_eq_true.1 hc t (List.mem_range.2 htlt)
      simp only [Bool.or_eq_true, decide_eq_true_eq] at h1
      rcases h1 with h1 | h1
      · omega
      · obtain ⟨o', ho', e, he, hb, hon⟩ := Region.waitsFor_spec h1
        have : o' = ot := Option.some.inj (ho'.symm.trans hot)
        subst this
        have h2 := hall e he hb
        rw [hon, getD_both (inv.tail (t - 1) (by omega) (by omega))] at h2
        cases h2

theorem anyC_first1 {m n i : Nat} {oi : Oper} {v : Value} {L : Array Bool → Act → Prop} (hi : ops[i]? = some oi) (hsel : ∀ (j : Nat) (o : Oper) cs b, ops[j]? = some o → o.op ≠ .select cs b)
    (hs : sinkB1 md ops m n = true) (hc : Region.chainB md ops n = true) (hn : n < ops.size) (hin : i < n)
    (hdone : ∀ listed a, L listed a → ∀ j ∈ Region.ready md ops listed, n ≤ j) :
    ∀ (f : Nat) (listed : Array Bool) (a : Act), HeadInv md ops n listed → (∀ i, i < m → listed.getD i false = true) →
      (∀ j oj, ops[j]? = some oj → j ≠ i → listed.getD j true = false → (∀ e ∈ oj.after, Region.binds md e = true → e.on ≠ i) → oi.apart ops oj = true) →
      i ∈ Region.ready md ops listed → YieldsIn P ops C oi v a →
      anyC P md ops C n L f (listed.setIfInBounds i true) (a.put oi.dst v) → anyC P md ops C n L (f + 1) listed a := by
  intro f
  induction f with
  | zero =>
    intro listed a inv hl0 _ hr hy H
    have hun := (mem_ready.1 hr).1
    refine ⟨fun h => (by rw [h] at hr; cases hr), fun j hj => ?_⟩
    have hjn : j < n := by
      rcases Nat.lt_or_ge j n with h | h
      · exact h
      · exact absurd hj (tail_waits1 hs hc hn inv hl0 _ i rfl hin hun j h)
    refine ⟨hjn, ?_⟩
    by_cases hji : j = i
    · subst hji; exact hy.qOp hi H
    · have := hdone _ _ H j (ready_mono hj hji)
      omega
  | succ f ih =>
    intro listed a inv hl0 hfree hr hy H
    have hun := (mem_ready.1 hr).1
    refine ⟨fun h => (by rw [h] at hr; cases hr), fun j hj => ?_⟩
    have hjn : j < n := by
      rcases Nat.lt_or_ge j n with h | h
      · exact h
      · exact absurd hj (tail_waits1 hs hc hn inv hl0 _ i rfl hin hun j h)
    refine ⟨hjn, ?_⟩
    by_cases hji : j = i
    · subst hji; exact hy.qOp hi H
    · have h1 := (H.2 j (ready_mono hj hji)).2
      obtain ⟨hjun, oj, hoj, hall⟩ := mem_ready.1 hj
      have hnot : ∀ e ∈ oj.after, Region.binds md e = true → e.on ≠ i := fun e he hb heq => by
        have h1 := hall e he hb
        rw [heq, getD_both hun] at h1
        cases h1
      have h2 := qOp_put hoj (hfree j oj hoj hji hjun hnot) (fun cs b => hsel i oi cs b hi) (fun cs b => hsel j oj cs b hoj) hy h1
      have hfree' : ∀ k ok, ops[k]? = some ok → k ≠ i → (listed.setIfInBounds j true).getD k true = false →
          (∀ e ∈ ok.after, Region.binds md e = true → e.on ≠ i) → oi.apart ops ok = true := fun k ok hk hki hun hno => by
        refine hfree k ok hk hki ?_ hno
        by_cases hjk : j = k
        · subst hjk; exact hjun
        · rw [getD_set_ne true hjk] at hun; exact hun
      refine qOp_mono (fun a' h3 => ih (listed.setIfInBounds j true) a' (inv.set hj hjn) (fun i hi => getD_set_true (hl0 i hi)) hfree' (ready_mono hr (Ne.symm hji)) h3.1 ?_) h2
      rw [Array.setIfInBounds_comm _ _ hji]
      exact h3.2

theorem anyC_lex1 {m n g : Nat} {Lq : Act → Prop} (hsel : Region.noSelect ops = true) (hs : sinkB1 md ops m n = true) (hc : Region.chainB md ops n = true) (hn : n < ops.size) :
    ∀ (l : List Oper) (k : Nat) (listed : Array Bool) (a : Act), (∀ j, j < l.length → l[j]? = ops[k + j]?) → k + l.length = n → HeadInv md ops n listed → (∀ i, i < m → listed.getD i false = true) →
    Region.lexHead md ops g l.length k listed = true → wpQuiet P ops C Lq l a →
    anyC P md ops C n (fun listed' a' => Region.seqB md ops g n listed' = true ∧ Lq a') l.length listed a
  | [], k, listed, a, _, hk, _, _, hB, h => by
    have : k = n := by simpa using hk
    subst this
    exact ⟨by simpa [Region.lexHead] using hB, h⟩
  | o :: l, k, listed, a, hl, hk, inv, hl0, hB, h => by
    have h0 : ops[k]? = some o := by simpa using (hl 0 (by simp)).symm
    simp only [List.length_cons, Region.lexHead, Bool.and_eq_true] at hB
    obtain ⟨⟨hr, hf⟩, hB'⟩ := hB
    have hkn : k < n := by simp only [List.length_cons] at hk; omega
    have hr' : k ∈ Region.ready md ops listed := by simpa using hr
    have hst : qOp P ops C k (wpQuiet P ops C Lq l) a := by unfold qOp; simp only [h0]; exact h
    obtain ⟨v, hy, hK⟩ := yieldsIn_of_qOp h0 hst
    exact anyC_first1 h0 (Region.noSelect_spec hsel) hs hc hn hkn (fun listed' a' hL => seqB_ready hL.1) l.length listed a inv hl0 (Region.free_spec h0 hf) hr' hy
      (anyC_lex1 hsel hs hc hn l (k + 1) _ _ (fun j hj => by have := hl (j + 1) (by simp; omega); simpa [Nat.add_assoc, Nat.add_comm 1 j] using this) (by simp only [List.length_cons] at hk; omega) (inv.set hr' hkn) (fun i hi => getD_set_true (hl0 i hi)) hB' hK)

def lexB1 (md : Region.Mode) (ops : Array Oper) (n : Nat) (listed : Array Bool) : Bool :=
  Region.noSelect ops && (decide (n < ops.size) && (sinkB1 md ops 1 n && (Region.chainB md ops n && Region.lexHead md ops (ops.size - n) (n - 1) 1 listed)))
end

/-- the first operation has been taken; the last ones (from the n-th on) come last, one behind the other; those between are quiet -/
theorem wpAny_ext1 {P : Program} {Q : Exit → Act → World → Prop} {a : Act} {w : World} {o : Oper} {l : List Oper} (n : Nat) (hn1 : 1 ≤ n) (hready : 0 ∈ Region.ready .any (o :: l).toArray (Array.replicate (o :: l).toArray.size false))
    (hB : lexB1 .any (o :: l).toArray n ((Array.replicate (o :: l).toArray.size false).setIfInBounds 0 true) = true)
    (h : wpQuiet P (o :: l).toArray (fun w' => ∃ p : Ex, w' = ext w p) (fun a' => ∀ w1, Below w.heap.size w w1 → wpList P (o :: l).toArray Q ((o :: l).drop n) a' w1) (l.take (n - 1)) a) :
    wpAny P .any (o :: l).toArray Q l.length ((Array.replicate (o :: l).toArray.size false).setIfInBounds 0 true) a { w with drawn := w.drawn + 1 } := by
  simp only [lexB1, Bool.and_eq_true, decide_eq_true_eq] at hB
  obtain ⟨hsel, hn, hs, hc, hlex⟩ := hB
  have hn' : n < l.length + 1 := by simpa using hn
  have htl : (l.take (n - 1)).length = n - 1 := by simp; omega
  have hdl : ((o :: l).drop n).length = (o :: l).toArray.size - n := by simp
  have inv00 : HeadInv .any (o :: l).toArray n (Array.replicate (o :: l).toArray.size false) :=
    ⟨by simp, fun j oj _ hl => (by rw [getD_replicate_false] at hl; cases hl), fun t _ ht => getD_in (by simpa using ht) (getD_replicate_false _ _)⟩
  have inv0 := inv00.set hready hn1
  have hl0 : ∀ i, i < 1 → ((Array.replicate (o :: l).toArray.size false).setIfInBounds 0 true).getD i false = true := by
    intro i hi
    obtain rfl : i = 0 := by omega
    simp
  have H := anyC_lex1 (md := .any) (m := 1) (g := (o :: l).toArray.size - n) hsel hs hc hn (l.take (n - 1)) 1 _ a (fun j hj => by
    have hj' : j < n - 1 := by rw [htl] at hj; exact hj
    simp [hj', Nat.add_comm 1 j]) (by rw [htl]; omega) inv0 hl0 (by rw [htl]; exact hlex) h
  have := any_of_headC (C := fun w' => ∃ p : Ex, w' = ext w p) (Q' := Q) (g := (o :: l).toArray.size - n) (fun listed a' w' hw' hL => by
    obtain ⟨p, rfl⟩ := hw'
    have := wpAny_of_seq (md := .any) (Q' := Q) ((o :: l).drop n) n listed a' (ext w p) (fun j => by simp [List.getElem?_drop]) (by rw [hdl]; exact hL.1) (hL.2 _ (below_ext w p))
    rwa [hdl] at this) _ _ _ { w with drawn := w.drawn + 1 } ⟨⟨w.drawn + 1, #[]⟩, by simp [ext]⟩ H
  rw [htl, show n - 1 + ((o :: l).toArray.size - n) = l.length by simp; omega] at this
  exact this

theorem wp_region_ext1 {P : Program} {id : Nat} {Q : Exit → Act → World → Prop} {a : Act} {w : World} {o : Oper} {l : List Oper} (n : Nat) (v : Value) (hn1 : 1 ≤ n) (hm : P.follows .mixedOrders = true)
    (hr : (Region.ready .any (o :: l).toArray (Array.replicate (o :: l).toArray.size false)).contains 0 = true) (hf : Region.free .any (o :: l).toArray (Array.replicate (o :: l).toArray.size false) 0 = true)
    (hB : lexB1 .any (o :: l).toArray n ((Array.replicate (o :: l).toArray.size false).setIfInBounds 0 true) = true)
    (hQ : ∀ c a w, Q (.panic c) (a.put o.dst v) w → Q (.panic c) a w) (hy : Yields P (o :: l).toArray o v a)
    (h : wpQuiet P (o :: l).toArray (fun w' => ∃ p : Ex, w' = ext w p) (fun a' => ∀ w1, Below w.heap.size w w1 → wpList P (o :: l).toArray Q ((o :: l).drop n) a' w1) (l.take (n - 1)) (a.put o.dst v)) :
    (Code.region id (o :: l).toArray true).wp P Q a w := by
  have hsel : Region.noSelect (o :: l).toArray = true := by simp only [lexB1, Bool.and_eq_true] at hB; exact hB.1
  refine wp_region_any hm ?_
  exact wpAny_take (fuel := l.length) (i := 0) (by simp) hsel hf hr hQ hy (wpAny_ext1 n hn1 (by simpa using hr) hB h)

end Go.Proofs.YtengaccnncnipaaGreat

/- Putting a number that is not there yet into a rising list, in the reference: condition: the number is not in the list, and the list has at most 1048576 elements. -/
namespace Go.Proofs.YtengaccnncnipaaGreat
open Go.RowKit Go.ChangeShapes Go.WideShapes Go.Deep

/-- how many leading numbers are below x -/
def lead (x : Int) : List Int → Nat
  | [] => 0
  | y :: l => if y < x then lead x l + 1 else 0
theorem lead_le (x : Int) : ∀ l : List Int, lead x l ≤ l.length
  | [] => Nat.le_refl _
  | y :: l => by have := lead_le x l; simp only [lead, List.length_cons]; split <;> omega
theorem lead_at (x : Int) : ∀ (l : List Int) (k : Nat) (y : Int), k ≤ lead x l → l[k]? = some y → (y < x ↔ k < lead x l)
  | [], k, y, _, h => by simp at h
  | z :: l, 0, y, _, h => by
    simp at h; subst h
    simp only [lead]; split <;> simp_all
  | z :: l, k + 1, y, hk, h => by
    simp only [lead] at hk ⊢
    split at hk
    · rename_i hz
      rw [if_pos hz]
      have := lead_at x l k y (by omega) (by simpa using h)
      omega
    · omega
def putL (x : Int) (l : List Int) : List Int := l.take (lead x l) ++ x :: l.drop (lead x l)
theorem putL_len (x : Int) (l : List Int) : (putL x l).length = l.length + 1 := by
  have := lead_le x l
  simp only [putL, List.length_append, List.length_take, List.length_cons, List.length_drop]; omega

set_option maxHeartbeats 1000000 in
theorem l1Put_any (v : Value) (l : List Int) (x : Int) (w : World) {lo hi : Nat} (h : Rd Nm.cells 1 w lo hi v l) (hh : hi ≤ w.heap.size) (hx : x ∉ l) (hlen : l.length ≤ 1048576) :
    Calls Tryz.prog 134 #[v, .int .i64 x] w fun e w' => ∃ v', e = .returned v' ∧ Ow Nm.cells 1 3 w' w.heap.size w'.heap.size v' (putL x l) ∧ Below w.heap.size w w' := by
  have hrd := h
  obtain ⟨A, n, c, rfl, H, hc, hm⟩ := h.form
  rw [← H.out] at hlen
  have HX := Lib.hid hx
  have hll := lead_le x l
  rw [← H.out] at hll
  clear hx
  go_enter Tryz.func134, Tryz.ntmps134
  go_wp2_with fail
  go_loop [5] (fun j => ∃ k : Nat, k ≤ lead x l ∧ j = .int .i64 k) (fun j => n - (intOf j).toNat)
  case atStart => exact ⟨0, Nat.zero_le _, rfl⟩
  case round =>
    obtain ⟨k, hk, rfl⟩ := hrel
    by_cases hlt : k < n
    · obtain ⟨b, off, y, rfl, hy, _, hbl, f0⟩ := Nm.get h hlt (Below.refl w.heap.size w) hh
      have hat := lead_at x l k y hk hy.out
      have hne : y ≠ x := fun e => HX.out (e ▸ List.mem_of_getElem? hy.out)
      by_cases hyx : y < x
      · have hk1 := hat.1 hyx
        clear hat
        go_wp2_with fail
        go_round
        case rel => exact ⟨k + 1, by omega, by go_num⟩
        case measure => simp [intOf]; omega
      · have HKL := Lib.hid (show k = lead x l from by have := mt hat.2 hyx; omega)
        clear hat
        go_wp2_with fail
        have hkc : k ≤ c := by omega
        have hkn : k ≤ n := by omega
        have hdrd := hrd.drop1p hkn
        refine wp_region_any (by kernel_rfl) ?_
        refine wpAny_take (i := 1) (v := .slice (some ⟨b, off, none⟩) n c) rfl (by kernel_rfl) (by kernel_rfl) (by kernel_rfl) (fun _ _ _ h => h) (Or.inl ⟨by rfl, by intro w; go_simp⟩) ?_
        refine wpAny_take (i := 2) (v := .int .i64 k) rfl (by kernel_rfl) (by kernel_rfl) (by kernel_rfl) (fun _ _ _ h => h) (Or.inl ⟨by rfl, by intro w; go_simp⟩) ?_
        refine wpAny_take (i := 3) (v := .slice (some ⟨b, off, none⟩) k c) rfl (by kernel_rfl) (by kernel_rfl) (by kernel_rfl) (fun _ _ _ h => h) (Or.inl ⟨by rfl, by intro w; go_simp⟩) ?_
        refine wpAny_take (i := 5) (v := .int .i64 x) rfl (by kernel_rfl) (by kernel_rfl) (by kernel_rfl) (fun _ _ _ h => h) (Or.inl ⟨by rfl, by intro w; go_simp⟩) ?_
        refine wpAny_take (i := 8) (v := .slice (some ⟨b, off, none⟩) n c) rfl (by kernel_rfl) (by kernel_rfl) (by kernel_rfl) (fun _ _ _ h => h) (Or.inl ⟨by rfl, by intro w; go_simp⟩) ?_
        refine wpAny_take (i := 9) (v := .int .i64 k) rfl (by kernel_rfl) (by kernel_rfl) (by kernel_rfl) (fun _ _ _ h => h) (Or.inl ⟨by rfl, by intro w; go_simp⟩) ?_
        refine wpAny_take (i := 10) (v := .slice (if c = k then some ⟨b, off, none⟩ else some ⟨b, off + k, none⟩) (n - k) (c - k)) rfl (by kernel_rfl) (by kernel_rfl) (by kernel_rfl) (fun _ _ _ h => h) (Or.inl ⟨by rfl, by intro w; go_simp⟩) ?_
        generalize (if c = k then (some ⟨b, off, none⟩ : Option Addr) else some ⟨b, off + k, none⟩) = B0 at hdrd ⊢
        refine wpAny_ready (rs := [0, 6]) (by kernel_rfl) (by decide) ?_
        have hm63 : n ≤ maxLen := by unfold maxLen; omega
        obtain ⟨i0, hi0, hz0, hz1, hz2⟩ := info_parts Nm.info
        have hkrd := hrd.take_ hkn
        have hx1 : ∀ (j : Nat) (u : Value), (Nm.cells x)[j]? = some u → #[Value.int .i64 x][j]? = some u := fun j u hu => by simpa [Nm.cells] using hu
        refine AllReady.cons rfl (fun K hK => ?_) (AllReady.cons rfl (fun K hK => ?_) AllReady.nil)
        · go_simp
          refine hK _ _ ?_
          have bA : Below w.heap.size w (w.alloc (.cells #[] 3)).drew := ((Below.refl w.heap.size w).alloc (Nat.le_refl _) _).drew
          refine wpAny_ready (rs := [4, 6]) (by kernel_rfl) (by decide) ?_
          refine AllReady.cons rfl (fun K2 hK2 => ?_) (AllReady.cons rfl (fun K2 hK2 => ?_) AllReady.nil)
          · refine step_app_rd rfl _ _ 22 rfl w.heap.size 3 i0 _ 1 _ Tryz.underlying22 hi0 hz0 hz1 hz2 rfl (by omega) Nm.cells_len Nm.one (.slice (some ⟨w.heap.size, 0, none⟩) 0 0) 0 [] rfl (own_empty w (base := w.heap.size) 3 1 (Nat.le_refl _)) (lo := lo) (hi' := hi) (A := some ⟨b, off, none⟩) (m := k) (c := c) (l := l.take k) rfl (hkrd.below bA hh) (by unfold maxLen; omega) (by omega) (by simp) ?_
            intro v4 w4 h4 g4
            have b4 : Below w.heap.size w w4 := bA.grown g4 bA.size (by intro j hj; simp [Value.ownBlock] at hj; omega)
            refine hK2 _ _ ?_
            have b6 : Below w.heap.size w (w4.alloc (.cells #[.int .i64 x] 3)) := b4.alloc b4.size _
            have c6 : ∀ (j : Nat) (u : Value), (Nm.cells x)[j]? = some u → (w4.alloc (.cells #[.int .i64 x] 3)).cell? ⟨w4.heap.size, j, none⟩ = some u := fun j u hu => cell_new w4 _ _ rfl (hx1 j u hu)
            have r6 := h4.alloc (.cells #[.int .i64 x] 3)
            clear h4 b4
            refine wpAny_ready (rs := [6]) (by kernel_rfl) (by decide) ?_
            refine AllReady.cons rfl (fun K3 hK3 => ?_) AllReady.nil
            go_simp
            refine hK3 _ _ ?_
            refine wpAny_ready (rs := [7]) (by kernel_rfl) (by decide) ?_
            refine AllReady.cons rfl (fun K7 hK7 => ?_) AllReady.nil
            refine step_app_rd rfl _ _ 22 rfl w.heap.size 3 i0 _ 1 _ Tryz.underlying22 hi0 hz0 hz1 hz2 rfl (by omega) Nm.cells_len Nm.one v4 _ _ rfl r6 (A := some ⟨_, 0, none⟩) (m := 1) (c := 1) (l := [x]) rfl (rd_one c6) (by unfold maxLen; omega) (by omega) b6.size ?_
            intro v7 w7 h7 g7
            refine hK7 _ _ ?_
            have b7 : Below w.heap.size w w7 := b6.grown g7 b6.size (own_ge r6)
            clear g7 r6 c6 b6
            refine wpAny_ready (rs := [11]) (by kernel_rfl) (by decide) ?_
            refine AllReady.cons rfl (fun K11 hK11 => ?_) AllReady.nil
            refine step_app_rd rfl _ _ 22 rfl w.heap.size 3 i0 _ 1 _ Tryz.underlying22 hi0 hz0 hz1 hz2 rfl (by omega) Nm.cells_len Nm.one v7 _ _ rfl h7 (A := _) (m := n - k) (c := c - k) (l := l.drop k) rfl (hdrd.below b7 hh) (by unfold maxLen; omega) (by omega) b7.size ?_
            intro v8 w8 h8 g8
            refine hK11 _ _ ?_
            have b8 : Below w.heap.size w w8 := b7.grown g8 b7.size (own_ge h7)
            refine wpAny_ready (rs := [12]) (by kernel_rfl) (by decide) ?_
            refine AllReady.cons rfl (fun K12 hK12 => ?_) AllReady.nil
            go_simp
            refine hK12 _ _ ?_
            refine ⟨by kernel_rfl, ?_⟩
            go_wp2_with fail
            go_ret
            exact ⟨v8, rfl, Ow.of_own Nm.cells_len h8 (l := putL x l) (by simp [putL, ← HKL.out]) (by rw [putL_len]; have := H.out; omega), b8⟩
          · go_simp
            refine hK2 _ _ ?_
            have bB : Below w.heap.size w ((w.alloc (.cells #[] 3)).drew.alloc (.cells #[.int .i64 x] 3)) := bA.alloc bA.size _
            have cB : ∀ (j : Nat) (u : Value), (Nm.cells x)[j]? = some u → ((w.alloc (.cells #[] 3)).drew.alloc (.cells #[.int .i64 x] 3)).cell? ⟨w.heap.size + 1, j, none⟩ = some u := fun j u hu => cell_new _ _ _ (by simp) (hx1 j u hu)
            refine wpAny_ready (rs := [4]) (by kernel_rfl) (by decide) ?_
            refine AllReady.cons rfl (fun K3 hK3 => ?_) AllReady.nil
            refine step_app_rd rfl _ _ 22 rfl w.heap.size 3 i0 _ 1 _ Tryz.underlying22 hi0 hz0 hz1 hz2 rfl (by omega) Nm.cells_len Nm.one (.slice (some ⟨w.heap.size, 0, none⟩) 0 0) 0 [] rfl ((own_empty w (base := w.heap.size) 3 1 (Nat.le_refl _)).alloc (.cells #[.int .i64 x] 3)) (lo := lo) (hi' := hi) (A := some ⟨b, off, none⟩) (m := k) (c := c) (l := l.take k) rfl (hkrd.below bB hh) (by unfold maxLen; omega) (by omega) (by simp; omega) ?_
            intro v4 w4 h4 g4
            have b4 : Below w.heap.size w w4 := bB.grown g4 bB.size (by intro j hj; simp [Value.ownBlock] at hj; omega)
            refine hK3 _ _ ?_
            have b6 := b4
            have c6 : ∀ (j : Nat) (u : Value), (Nm.cells x)[j]? = some u → w4.cell? ⟨w.heap.size + 1, j, none⟩ = some u := fun j u hu => g4.cell (cB j u hu) (by simp [Value.ownBlock])
            have r6 := h4
            clear h4 b4
            refine wpAny_ready (rs := [7]) (by kernel_rfl) (by decide) ?_
            refine AllReady.cons rfl (fun K7 hK7 => ?_) AllReady.nil
            refine step_app_rd rfl _ _ 22 rfl w.heap.size 3 i0 _ 1 _ Tryz.underlying22 hi0 hz0 hz1 hz2 rfl (by omega) Nm.cells_len Nm.one v4 _ _ rfl r6 (A := some ⟨_, 0, none⟩) (m := 1) (c := 1) (l := [x]) rfl (rd_one c6) (by unfold maxLen; omega) (by omega) b6.size ?_
            intro v7 w7 h7 g7
            refine hK7 _ _ ?_
            have b7 : Below w.heap.size w w7 := b6.grown g7 b6.size (own_ge r6)
            clear g7 r6 c6 b6
            refine wpAny_ready (rs := [11]) (by kernel_rfl) (by decide) ?_
            refine AllReady.cons rfl (fun K11 hK11 => ?_) AllReady.nil
            refine step_app_rd rfl _ _ 22 rfl w.heap.size 3 i0 _ 1 _ Tryz.underlying22 hi0 hz0 hz1 hz2 rfl (by omega) Nm.cells_len Nm.one v7 _ _ rfl h7 (A := _) (m := n - k) (c := c - k) (l := l.drop k) rfl (hdrd.below b7 hh) (by unfold maxLen; omega) (by omega) b7.size ?_
            intro v8 w8 h8 g8
            refine hK11 _ _ ?_
            have b8 : Below w.heap.size w w8 := b7.grown g8 b7.size (own_ge h7)
            refine wpAny_ready (rs := [12]) (by kernel_rfl) (by decide) ?_
            refine AllReady.cons rfl (fun K12 hK12 => ?_) AllReady.nil
            go_simp
            refine hK12 _ _ ?_
            refine ⟨by kernel_rfl, ?_⟩
            go_wp2_with fail
            go_ret
            exact ⟨v8, rfl, Ow.of_own Nm.cells_len h8 (l := putL x l) (by simp [putL, ← HKL.out]) (by rw [putL_len]; have := H.out; omega), b8⟩
        · go_simp
          refine hK _ _ ?_
          have bC1 : Below w.heap.size w (w.alloc (.cells #[.int .i64 x] 3)).drew := ((Below.refl w.heap.size w).alloc (Nat.le_refl _) _).drew
          have cC1 : ∀ (j : Nat) (u : Value), (Nm.cells x)[j]? = some u → (w.alloc (.cells #[.int .i64 x] 3)).drew.cell? ⟨w.heap.size, j, none⟩ = some u := fun j u hu => cell_new w _ _ rfl (hx1 j u hu)
          refine wpAny_ready (rs := [0]) (by kernel_rfl) (by decide) ?_
          refine AllReady.cons rfl (fun K2 hK2 => ?_) AllReady.nil
          go_simp
          refine hK2 _ _ ?_
          have bC := bC1.alloc bC1.size (.cells #[] 3)
          have cC : ∀ (j : Nat) (u : Value), (Nm.cells x)[j]? = some u → ((w.alloc (.cells #[.int .i64 x] 3)).drew.alloc (.cells #[] 3)).cell? ⟨w.heap.size, j, none⟩ = some u := fun j u hu => by rw [World.cell?_alloc_lt _ _ _ (by simp)]; exact cC1 j u hu
          refine wpAny_ready (rs := [4]) (by kernel_rfl) (by decide) ?_
          refine AllReady.cons rfl (fun K3 hK3 => ?_) AllReady.nil
          refine step_app_rd rfl _ _ 22 rfl w.heap.size 3 i0 _ 1 _ Tryz.underlying22 hi0 hz0 hz1 hz2 rfl (by omega) Nm.cells_len Nm.one (.slice (some ⟨w.heap.size + 1, 0, none⟩) 0 0) 0 [] rfl (own_empty_at (w.alloc (.cells #[.int .i64 x] 3)) (base := w.heap.size) (g := w.heap.size + 1) 3 1 (by simp) (by simp)) (lo := lo) (hi' := hi) (A := some ⟨b, off, none⟩) (m := k) (c := c) (l := l.take k) rfl (hkrd.below bC hh) (by unfold maxLen; omega) (by omega) (by simp; omega) ?_
          intro v4 w4 h4 g4
          have b4 : Below w.heap.size w w4 := bC.grown g4 bC.size (by intro j hj; simp [Value.ownBlock] at hj; omega)
          refine hK3 _ _ ?_
          have b6 := b4
          have c6 : ∀ (j : Nat) (u : Value), (Nm.cells x)[j]? = some u → w4.cell? ⟨w.heap.size, j, none⟩ = some u := fun j u hu => g4.cell (cC j u hu) (by simp [Value.ownBlock])
          have r6 := h4
          clear h4 b4
          refine wpAny_ready (rs := [7]) (by kernel_rfl) (by decide) ?_
          refine AllReady.cons rfl (fun K7 hK7 => ?_) AllReady.nil
          refine step_app_rd rfl _ _ 22 rfl w.heap.size 3 i0 _ 1 _ Tryz.underlying22 hi0 hz0 hz1 hz2 rfl (by omega) Nm.cells_len Nm.one v4 _ _ rfl r6 (A := some ⟨_, 0, none⟩) (m := 1) (c := 1) (l := [x]) rfl (rd_one c6) (by unfold maxLen; omega) (by omega) b6.size ?_
          intro v7 w7 h7 g7
          refine hK7 _ _ ?_
          have b7 : Below w.heap.size w w7 := b6.grown g7 b6.size (own_ge r6)
          clear g7 r6 c6 b6
          refine wpAny_ready (rs := [11]) (by kernel_rfl) (by decide) ?_
          refine AllReady.cons rfl (fun K11 hK11 => ?_) AllReady.nil
          refine step_app_rd rfl _ _ 22 rfl w.heap.size 3 i0 _ 1 _ Tryz.underlying22 hi0 hz0 hz1 hz2 rfl (by omega) Nm.cells_len Nm.one v7 _ _ rfl h7 (A := _) (m := n - k) (c := c - k) (l := l.drop k) rfl (hdrd.below b7 hh) (by unfold maxLen; omega) (by omega) b7.size ?_
          intro v8 w8 h8 g8
          refine hK11 _ _ ?_
          have b8 : Below w.heap.size w w8 := b7.grown g8 b7.size (own_ge h7)
          refine wpAny_ready (rs := [12]) (by kernel_rfl) (by decide) ?_
          refine AllReady.cons rfl (fun K12 hK12 => ?_) AllReady.nil
          go_simp
          refine hK12 _ _ ?_
          refine ⟨by kernel_rfl, ?_⟩
          go_wp2_with fail
          go_ret
          exact ⟨v8, rfl, Ow.of_own Nm.cells_len h8 (l := putL x l) (by simp [putL, ← HKL.out]) (by rw [putL_len]; have := H.out; omega), b8⟩

    · have HKL := Lib.hid (show k = lead x l by omega)
      go_wp2_with fail
      have hkc : k ≤ c := by omega
      have hkn : k ≤ n := by omega
      have hdrd := hrd.drop1 hkn
      refine wp_region_any (by kernel_rfl) ?_
      refine wpAny_take (i := 1) (v := .slice A n c) rfl (by kernel_rfl) (by kernel_rfl) (by kernel_rfl) (fun _ _ _ h => h) (Or.inl ⟨by rfl, by intro w; go_simp⟩) ?_
      refine wpAny_take (i := 2) (v := .int .i64 k) rfl (by kernel_rfl) (by kernel_rfl) (by kernel_rfl) (fun _ _ _ h => h) (Or.inl ⟨by rfl, by intro w; go_simp⟩) ?_
      refine wpAny_take (i := 3) (v := .slice A k c) rfl (by kernel_rfl) (by kernel_rfl) (by kernel_rfl) (fun _ _ _ h => h) (Or.inl ⟨by rfl, by intro w; go_simp⟩) ?_
      refine wpAny_take (i := 5) (v := .int .i64 x) rfl (by kernel_rfl) (by kernel_rfl) (by kernel_rfl) (fun _ _ _ h => h) (Or.inl ⟨by rfl, by intro w; go_simp⟩) ?_
      refine wpAny_take (i := 8) (v := .slice A n c) rfl (by kernel_rfl) (by kernel_rfl) (by kernel_rfl) (fun _ _ _ h => h) (Or.inl ⟨by rfl, by intro w; go_simp⟩) ?_
      refine wpAny_take (i := 9) (v := .int .i64 k) rfl (by kernel_rfl) (by kernel_rfl) (by kernel_rfl) (fun _ _ _ h => h) (Or.inl ⟨by rfl, by intro w; go_simp⟩) ?_
      refine wpAny_take (i := 10) (v := .slice (if c = k then A else Option.map (fun x => x.add k) A) (n - k) (c - k)) rfl (by kernel_rfl) (by kernel_rfl) (by kernel_rfl) (fun _ _ _ h => h) (Or.inl ⟨by rfl, by intro w; go_simp⟩) ?_
      generalize (if c = k then A else Option.map (fun x => x.add k) A) = B0 at hdrd ⊢
      refine wpAny_ready (rs := [0, 6]) (by kernel_rfl) (by decide) ?_
      have hm63 : n ≤ maxLen := by unfold maxLen; omega
      obtain ⟨i0, hi0, hz0, hz1, hz2⟩ := info_parts Nm.info
      have hkrd := hrd.take_ hkn
      have hx1 : ∀ (j : Nat) (u : Value), (Nm.cells x)[j]? = some u → #[Value.int .i64 x][j]? = some u := fun j u hu => by simpa [Nm.cells] using hu
      refine AllReady.cons rfl (fun K hK => ?_) (AllReady.cons rfl (fun K hK => ?_) AllReady.nil)
      · go_simp
        refine hK _ _ ?_
        have bA : Below w.heap.size w (w.alloc (.cells #[] 3)).drew := ((Below.refl w.heap.size w).alloc (Nat.le_refl _) _).drew
        refine wpAny_ready (rs := [4, 6]) (by kernel_rfl) (by decide) ?_
        refine AllReady.cons rfl (fun K2 hK2 => ?_) (AllReady.cons rfl (fun K2 hK2 => ?_) AllReady.nil)
        · refine step_app_rd rfl _ _ 22 rfl w.heap.size 3 i0 _ 1 _ Tryz.underlying22 hi0 hz0 hz1 hz2 rfl (by omega) Nm.cells_len Nm.one (.slice (some ⟨w.heap.size, 0, none⟩) 0 0) 0 [] rfl (own_empty w (base := w.heap.size) 3 1 (Nat.le_refl _)) (lo := lo) (hi' := hi) (A := A) (m := k) (c := c) (l := l.take k) rfl (hkrd.below bA hh) (by unfold maxLen; omega) (by omega) (by simp) ?_
          intro v4 w4 h4 g4
          have b4 : Below w.heap.size w w4 := bA.grown g4 bA.size (by intro j hj; simp [Value.ownBlock] at hj; omega)
          refine hK2 _ _ ?_
          have b6 : Below w.heap.size w (w4.alloc (.cells #[.int .i64 x] 3)) := b4.alloc b4.size _
          have c6 : ∀ (j : Nat) (u : Value), (Nm.cells x)[j]? = some u → (w4.alloc (.cells #[.int .i64 x] 3)).cell? ⟨w4.heap.size, j, none⟩ = some u := fun j u hu => cell_new w4 _ _ rfl (hx1 j u hu)
          have r6 := h4.alloc (.cells #[.int .i64 x] 3)
          clear h4 b4
          refine wpAny_ready (rs := [6]) (by kernel_rfl) (by decide) ?_
          refine AllReady.cons rfl (fun K3 hK3 => ?_) AllReady.nil
          go_simp
          refine hK3 _ _ ?_
          refine wpAny_ready (rs := [7]) (by kernel_rfl) (by decide) ?_
          refine AllReady.cons rfl (fun K7 hK7 => ?_) AllReady.nil
          refine step_app_rd rfl _ _ 22 rfl w.heap.size 3 i0 _ 1 _ Tryz.underlying22 hi0 hz0 hz1 hz2 rfl (by omega) Nm.cells_len Nm.one v4 _ _ rfl r6 (A := some ⟨_, 0, none⟩) (m := 1) (c := 1) (l := [x]) rfl (rd_one c6) (by unfold maxLen; omega) (by omega) b6.size ?_
          intro v7 w7 h7 g7
          refine hK7 _ _ ?_
          have b7 : Below w.heap.size w w7 := b6.grown g7 b6.size (own_ge r6)
          clear g7 r6 c6 b6
          refine wpAny_ready (rs := [11]) (by kernel_rfl) (by decide) ?_
          refine AllReady.cons rfl (fun K11 hK11 => ?_) AllReady.nil
          refine step_app_rd rfl _ _ 22 rfl w.heap.size 3 i0 _ 1 _ Tryz.underlying22 hi0 hz0 hz1 hz2 rfl (by omega) Nm.cells_len Nm.one v7 _ _ rfl h7 (A := _) (m := n - k) (c := c - k) (l := l.drop k) rfl (hdrd.below b7 hh) (by unfold maxLen; omega) (by omega) b7.size ?_
          intro v8 w8 h8 g8
          refine hK11 _ _ ?_
          have b8 : Below w.heap.size w w8 := b7.grown g8 b7.size (own_ge h7)
          refine wpAny_ready (rs := [12]) (by kernel_rfl) (by decide) ?_
          refine AllReady.cons rfl (fun K12 hK12 => ?_) AllReady.nil
          go_simp
          refine hK12 _ _ ?_
          refine ⟨by kernel_rfl, ?_⟩
          go_wp2_with fail
          go_ret
          exact ⟨v8, rfl, Ow.of_own Nm.cells_len h8 (l := putL x l) (by simp [putL, ← HKL.out]) (by rw [putL_len]; have := H.out; omega), b8⟩
        · go_simp
          refine hK2 _ _ ?_
          have bB : Below w.heap.size w ((w.alloc (.cells #[] 3)).drew.alloc (.cells #[.int .i64 x] 3)) := bA.alloc bA.size _
          have cB : ∀ (j : Nat) (u : Value), (Nm.cells x)[j]? = some u → ((w.alloc (.cells #[] 3)).drew.alloc (.cells #[.int .i64 x] 3)).cell? ⟨w.heap.size + 1, j, none⟩ = some u := fun j u hu => cell_new _ _ _ (by simp) (hx1 j u hu)
          refine wpAny_ready (rs := [4]) (by kernel_rfl) (by decide) ?_
          refine AllReady.cons rfl (fun K3 hK3 => ?_) AllReady.nil
          refine step_app_rd rfl _ _ 22 rfl w.heap.size 3 i0 _ 1 _ Tryz.underlying22 hi0 hz0 hz1 hz2 rfl (by omega) Nm.cells_len Nm.one (.slice (some ⟨w.heap.size, 0, none⟩) 0 0) 0 [] rfl ((own_empty w (base := w.heap.size) 3 1 (Nat.le_refl _)).alloc (.cells #[.int .i64 x] 3)) (lo := lo) (hi' := hi) (A := A) (m := k) (c := c) (l := l.take k) rfl (hkrd.below bB hh) (by unfold maxLen; omega) (by omega) (by simp; omega) ?_
          intro v4 w4 h4 g4
          have b4 : Below w.heap.size w w4 := bB.grown g4 bB.size (by intro j hj; simp [Value.ownBlock] at hj; omega)
          refine hK3 _ _ ?_
          have b6 := b4
          have c6 : ∀ (j : Nat) (u : Value), (Nm.cells x)[j]? = some u → w4.cell? ⟨w.heap.size + 1, j, none⟩ = some u := fun j u hu => g4.cell (cB j u hu) (by simp [Value.ownBlock])
          have r6 := h4
          clear h4 b4
          refine wpAny_ready (rs := [7]) (by kernel_rfl) (by decide) ?_
          refine AllReady.cons rfl (fun K7 hK7 => ?_) AllReady.nil
          refine step_app_rd rfl _ _ 22 rfl w.heap.size 3 i0 _ 1 _ Tryz.underlying22 hi0 hz0 hz1 hz2 rfl (by omega) Nm.cells_len Nm.one v4 _ _ rfl r6 (A := some ⟨_, 0, none⟩) (m := 1) (c := 1) (l := [x]) rfl (rd_one c6) (by unfold maxLen; omega) (by omega) b6.size ?_
          intro v7 w7 h7 g7
          refine hK7 _ _ ?_
          have b7 : Below w.heap.size w w7 := b6.grown g7 b6.size (own_ge r6)
          clear g7 r6 c6 b6
          refine wpAny_ready (rs := [11]) (by kernel_rfl) (by decide) ?_
          refine AllReady.cons rfl (fun K11 hK11 => ?_) AllReady.nil
          refine step_app_rd rfl _ _ 22 rfl w.heap.size 3 i0 _ 1 _ Tryz.underlying22 hi0 hz0 hz1 hz2 rfl (by omega) Nm.cells_len Nm.one v7 _ _ rfl h7 (A := _) (m := n - k) (c := c - k) (l := l.drop k) rfl (hdrd.below b7 hh) (by unfold maxLen; omega) (by omega) b7.size ?_
          intro v8 w8 h8 g8
          refine hK11 _ _ ?_
          have b8 : Below w.heap.size w w8 := b7.grown g8 b7.size (own_ge h7)
          refine wpAny_ready (rs := [12]) (by kernel_rfl) (by decide) ?_
          refine AllReady.cons rfl (fun K12 hK12 => ?_) AllReady.nil
          go_simp
          refine hK12 _ _ ?_
          refine ⟨by kernel_rfl, ?_⟩
          go_wp2_with fail
          go_ret
          exact ⟨v8, rfl, Ow.of_own Nm.cells_len h8 (l := putL x l) (by simp [putL, ← HKL.out]) (by rw [putL_len]; have := H.out; omega), b8⟩
      · go_simp
        refine hK _ _ ?_
        have bC1 : Below w.heap.size w (w.alloc (.cells #[.int .i64 x] 3)).drew := ((Below.refl w.heap.size w).alloc (Nat.le_refl _) _).drew
        have cC1 : ∀ (j : Nat) (u : Value), (Nm.cells x)[j]? = some u → (w.alloc (.cells #[.int .i64 x] 3)).drew.cell? ⟨w.heap.size, j, none⟩ = some u := fun j u hu => cell_new w _ _ rfl (hx1 j u hu)
        refine wpAny_ready (rs := [0]) (by kernel_rfl) (by decide) ?_
        refine AllReady.cons rfl (fun K2 hK2 => ?_) AllReady.nil
        go_simp
        refine hK2 _ _ ?_
        have bC := bC1.alloc bC1.size (.cells #[] 3)
        have cC : ∀ (j : Nat) (u : Value), (Nm.cells x)[j]? = some u → ((w.alloc (.cells #[.int .i64 x] 3)).drew.alloc (.cells #[] 3)).cell? ⟨w.heap.size, j, none⟩ = some u := fun j u hu => by rw [World.cell?_alloc_lt _ _ _ (by simp)]; exact cC1 j u hu
        refine wpAny_ready (rs := [4]) (by kernel_rfl) (by decide) ?_
        refine AllReady.cons rfl (fun K3 hK3 => ?_) AllReady.nil
        refine step_app_rd rfl _ _ 22 rfl w.heap.size 3 i0 _ 1 _ Tryz.underlying22 hi0 hz0 hz1 hz2 rfl (by omega) Nm.cells_len Nm.one (.slice (some ⟨w.heap.size + 1, 0, none⟩) 0 0) 0 [] rfl (own_empty_at (w.alloc (.cells #[.int .i64 x] 3)) (base := w.heap.size) (g := w.heap.size + 1) 3 1 (by simp) (by simp)) (lo := lo) (hi' := hi) (A := A) (m := k) (c := c) (l := l.take k) rfl (hkrd.below bC hh) (by unfold maxLen; omega) (by omega) (by simp; omega) ?_
        intro v4 w4 h4 g4
        have b4 : Below w.heap.size w w4 := bC.grown g4 bC.size (by intro j hj; simp [Value.ownBlock] at hj; omega)
        refine hK3 _ _ ?_
        have b6 := b4
        have c6 : ∀ (j : Nat) (u : Value), (Nm.cells x)[j]? = some u → w4.cell? ⟨w.heap.size, j, none⟩ = some u := fun j u hu => g4.cell (cC j u hu) (by simp [Value.ownBlock])
        have r6 := h4
        clear h4 b4
        refine wpAny_ready (rs := [7]) (by kernel_rfl) (by decide) ?_
        refine AllReady.cons rfl (fun K7 hK7 => ?_) AllReady.nil
        refine step_app_rd rfl _ _ 22 rfl w.heap.size 3 i0 _ 1 _ Tryz.underlying22 hi0 hz0 hz1 hz2 rfl (by omega) Nm.cells_len Nm.one v4 _ _ rfl r6 (A := some ⟨_, 0, none⟩) (m := 1) (c := 1) (l := [x]) rfl (rd_one c6) (by unfold maxLen; omega) (by omega) b6.size ?_
        intro v7 w7 h7 g7
        refine hK7 _ _ ?_
        have b7 : Below w.heap.size w w7 := b6.grown g7 b6.size (own_ge r6)
        clear g7 r6 c6 b6
        refine wpAny_ready (rs := [11]) (by kernel_rfl) (by decide) ?_
        refine AllReady.cons rfl (fun K11 hK11 => ?_) AllReady.nil
        refine step_app_rd rfl _ _ 22 rfl w.heap.size 3 i0 _ 1 _ Tryz.underlying22 hi0 hz0 hz1 hz2 rfl (by omega) Nm.cells_len Nm.one v7 _ _ rfl h7 (A := _) (m := n - k) (c := c - k) (l := l.drop k) rfl (hdrd.below b7 hh) (by unfold maxLen; omega) (by omega) b7.size ?_
        intro v8 w8 h8 g8
        refine hK11 _ _ ?_
        have b8 : Below w.heap.size w w8 := b7.grown g8 b7.size (own_ge h7)
        refine wpAny_ready (rs := [12]) (by kernel_rfl) (by decide) ?_
        refine AllReady.cons rfl (fun K12 hK12 => ?_) AllReady.nil
        go_simp
        refine hK12 _ _ ?_
        refine ⟨by kernel_rfl, ?_⟩
        go_wp2_with fail
        go_ret
        exact ⟨v8, rfl, Ow.of_own Nm.cells_len h8 (l := putL x l) (by simp [putL, ← HKL.out]) (by rw [putL_len]; have := H.out; omega), b8⟩

end Go.Proofs.YtengaccnncnipaaGreat

/- Strictly ascending lists of numbers: plain law. No condition. -/
namespace Go.Proofs.YtengaccnncnipaaGreat

theorem asc_ext : ∀ (a b : List Int), a.Pairwise (· < ·) → b.Pairwise (· < ·) → (∀ x, x ∈ a ↔ x ∈ b) → a = b
  | [], [], _, _, _ => rfl
  | [], y :: b, _, _, h => by have := (h y).2 (by simp); simp at this
  | x :: a, [], _, _, h => by have := (h x).1 (by simp); simp at this
  | x :: a, y :: b, ha, hb, h => by
    rw [List.pairwise_cons] at ha hb
    have h1 := (h x).1 (by simp)
    have h2 := (h y).2 (by simp)
    simp only [List.mem_cons] at h1 h2
    have hxy : x = y := by
      rcases h1 with h1 | h1
      · exact h1
      · rcases h2 with h2 | h2
        · exact h2.symm
        · have := hb.1 x h1; have := ha.1 y h2; omega
    subst hxy
    congr 1
    refine asc_ext a b ha.2 hb.2 (fun z => ⟨fun hz => ?_, fun hz => ?_⟩)
    · have h3 := (h z).1 (List.mem_cons_of_mem _ hz)
      rcases List.mem_cons.1 h3 with h3 | h3
      · have := ha.1 z hz; omega
      · exact h3
    · have h3 := (h z).2 (List.mem_cons_of_mem _ hz)
      rcases List.mem_cons.1 h3 with h3 | h3
      · have := hb.1 z hz; omega
      · exact h3

theorem putL_cons (x y : Int) (l : List Int) : putL x (y :: l) = if y < x then y :: putL x l else x :: y :: l := by
  simp only [putL, lead]
  split <;> simp
theorem mem_putL (x y : Int) : ∀ l : List Int, y ∈ putL x l ↔ y = x ∨ y ∈ l
  | [] => by simp [putL]
  | z :: l => by
    rw [putL_cons]
    split
    · simp only [List.mem_cons, mem_putL x y l]
      constructor
      · rintro (h | h | h)
        · exact .inr (.inl h)
        · exact .inl h
        · exact .inr (.inr h)
      · rintro (h | h | h)
        · exact .inr (.inl h)
        · exact .inl h
        · exact .inr (.inr h)
    · simp
theorem putL_asc (x : Int) : ∀ l : List Int, l.Pairwise (· < ·) → x ∉ l → (putL x l).Pairwise (· < ·)
  | [], _, _ => by simp [putL]
  | y :: l, h, hx => by
    rw [List.pairwise_cons] at h
    simp only [List.mem_cons, not_or] at hx
    rw [putL_cons]
    split
    · rename_i hy
      rw [List.pairwise_cons]
      refine ⟨fun z hz => ?_, putL_asc x l h.2 hx.2⟩
      rcases (mem_putL x z l).1 hz with rfl | hz
      · exact hy
      · exact h.1 z hz
    · rename_i hy
      rw [List.pairwise_cons]
      refine ⟨fun z hz => ?_, List.pairwise_cons.2 h⟩
      rcases List.mem_cons.1 hz with rfl | hz
      · omega
      · have := h.1 z hz; omega
/-- the numbers f of those elements that p holds of, put in one by one, each once -/
def accS {α : Type} (p : α → Bool) (f : α → Int) (acc : List Int) (x : α) : List Int := if p x && !acc.contains (f x) then putL (f x) acc else acc
def accL {α : Type} (p : α → Bool) (f : α → Int) (l : List α) : List Int := l.foldl (accS p f) []
section
variable {α : Type} (p : α → Bool) (f : α → Int)
theorem accL_pre {l : List α} {k : Nat} {x : α} (h : l[k]? = some x) : accL p f (l.take (k + 1)) = if p x && !(accL p f (l.take k)).contains (f x) then putL (f x) (accL p f (l.take k)) else accL p f (l.take k) := by
  rw [List.take_add_one, h]
  simp only [accL, Option.toList_some, List.foldl_append, List.foldl_cons, List.foldl_nil]
  rfl
theorem accG : ∀ (l : List α) (acc : List Int), acc.Pairwise (· < ·) →
    (l.foldl (accS p f) acc).Pairwise (· < ·) ∧ (∀ y, y ∈ l.foldl (accS p f) acc ↔ (∃ x ∈ l, p x = true ∧ f x = y) ∨ y ∈ acc) ∧ (l.foldl (accS p f) acc).length ≤ l.length + acc.length
  | [], acc, h => ⟨h, by simp, by simp⟩
  | x :: l, acc, h => by
    simp only [List.foldl_cons]
    cases hc : p x && !acc.contains (f x)
    · have hs : accS p f acc x = acc := by simp only [accS, hc]; rfl
      rw [hs]
      have := accG l acc h
      refine ⟨this.1, fun y => ?_, by have := this.2.2; rw [List.length_cons]; omega⟩
      rw [this.2.1 y]
      simp only [Bool.and_eq_false_iff, Bool.not_eq_false', List.contains_iff_mem] at hc
      constructor
      · rintro (⟨z, hz, h3⟩ | h3)
        · exact .inl ⟨z, List.mem_cons_of_mem _ hz, h3⟩
        · exact .inr h3
      · rintro (⟨z, hz, h3, h4⟩ | h3)
        · rcases List.mem_cons.1 hz with rfl | hz
          · rcases hc with hc | hc
            · rw [hc] at h3; cases h3
            · exact .inr (h4 ▸ hc)
          · exact .inl ⟨z, hz, h3, h4⟩
        · exact .inr h3
    · have hs : accS p f acc x = putL (f x) acc := by simp only [accS, hc]; rfl
      rw [hs]
      simp only [Bool.and_eq_true, Bool.not_eq_true', List.contains_eq_mem, decide_eq_false_iff_not] at hc
      have := accG l (putL (f x) acc) (putL_asc _ _ h hc.2)
      refine ⟨this.1, fun y => ?_, by have := this.2.2; rw [putL_len] at this; rw [List.length_cons]; omega⟩
      rw [this.2.1 y, mem_putL]
      constructor
      · rintro (⟨z, hz, h3⟩ | h3 | h3)
        · exact .inl ⟨z, List.mem_cons_of_mem _ hz, h3⟩
        · exact .inl ⟨x, by simp, hc.1, h3.symm⟩
        · exact .inr h3
      · rintro (⟨z, hz, h3, h4⟩ | h3)
        · rcases List.mem_cons.1 hz with rfl | hz
          · exact .inr (.inl h4.symm)
          · exact .inl ⟨z, hz, h3, h4⟩
        · exact .inr (.inr h3)
theorem accL_asc (l : List α) : (accL p f l).Pairwise (· < ·) := (accG p f l [] List.Pairwise.nil).1
theorem accL_mem (l : List α) (y : Int) : y ∈ accL p f l ↔ ∃ x ∈ l, p x = true ∧ f x = y := by
  have := (accG p f l [] List.Pairwise.nil).2.1 y
  rw [accL, this]; simp
theorem accL_len (l : List α) : (accL p f l).length ≤ l.length := by
  have := (accG p f l [] List.Pairwise.nil).2.2
  exact this
end

end Go.Proofs.YtengaccnncnipaaGreat

/- Insertion into a list from its end, and sorting by it: plain law. No condition. -/
namespace Go.Proofs.YtengaccnncnipaaGreat

section
variable {α : Type} (lt : α → α → Bool)
/-- where x comes to stand in l, walked from the end: behind the last element that x is not before -/
def bk (x : α) : List α → Nat
  | [] => 0
  | y :: l => if bk x l = 0 && lt x y then 0 else bk x l + 1
/-- x, inserted into l from the end -/
def insK (l : List α) (x : α) : List α := l.take (bk lt x l) ++ x :: l.drop (bk lt x l)
/-- sorting by insertion: elements that are alike keep their order -/
def sortK (l : List α) : List α := l.foldl (insK lt) []
variable {lt}
theorem bk_le (x : α) : ∀ l : List α, bk lt x l ≤ l.length
  | [] => Nat.le_refl _
  | y :: l => by have := bk_le x l; simp only [bk, List.length_cons]; split <;> omega
theorem bk_eq (x : α) : ∀ (l : List α) (k : Nat), k ≤ l.length → (∀ (j : Nat) (y : α), k ≤ j → l[j]? = some y → lt x y = true) → (∀ (j : Nat) (y : α), k = j + 1 → l[j]? = some y → lt x y = false) → bk lt x l = k
  | [], k, hk, _, _ => by simp at hk; simp [bk, hk]
  | z :: l, 0, _, h1, _ => by
    have := bk_eq x l 0 (Nat.zero_le _) (fun j y _ hj => h1 (j + 1) y (Nat.zero_le _) (by simpa using hj)) (fun j y h => by omega)
    simp [bk, this, h1 0 z (Nat.le_refl _) (by simp)]
  | z :: l, k + 1, hk, h1, h2 => by
    have hk' : k ≤ l.length := by simpa using hk
    have := bk_eq x l k hk' (fun j y hj hy => h1 (j + 1) y (by omega) (by simpa using hy)) (fun j y hj hy => h2 (j + 1) y (by omega) (by simpa using hy))
    simp only [bk, this]
    by_cases h0 : k = 0
    · subst h0
      simp [h2 0 z rfl (by simp)]
    · simp [h0]
theorem insK_len (l : List α) (x : α) : (insK lt l x).length = l.length + 1 := by
  have := bk_le (lt := lt) x l
  simp only [insK, List.length_append, List.length_take, List.length_cons, List.length_drop]; omega
theorem insK_mem {l : List α} {x y : α} (h : y ∈ insK lt l x) : y = x ∨ y ∈ l := by
  simp only [insK, List.mem_append, List.mem_cons] at h
  rcases h with h | h | h
  · exact .inr (List.mem_of_mem_take h)
  · exact .inl h
  · exact .inr (List.mem_of_mem_drop h)
theorem mem_insK {l : List α} {x y : α} (h : y = x ∨ y ∈ l) : y ∈ insK lt l x := by
  simp only [insK, List.mem_append, List.mem_cons]
  rcases h with h | h
  · exact .inr (.inl h)
  · rw [← List.take_append_drop (bk lt x l) l, List.mem_append] at h
    rcases h with h | h
    · exact .inl h
    · exact .inr (.inr h)
theorem foldIns_mem {y : α} : ∀ (l acc : List α), y ∈ l.foldl (insK lt) acc ↔ y ∈ l ∨ y ∈ acc
  | [], acc => by simp
  | x :: l, acc => by
    simp only [List.foldl_cons, foldIns_mem l, List.mem_cons]
    constructor
    · rintro (h | h)
      · exact .inl (.inr h)
      · rcases insK_mem h with h | h
        · exact .inl (.inl h)
        · exact .inr h
    · rintro ((h | h) | h)
      · exact .inr (mem_insK (.inl h))
      · exact .inl h
      · exact .inr (mem_insK (.inr h))
theorem foldIns_len : ∀ (l acc : List α), (l.foldl (insK lt) acc).length = l.length + acc.length
  | [], acc => by simp
  | x :: l, acc => by simp only [List.foldl_cons, foldIns_len l, insK_len, List.length_cons]; omega
theorem sortK_mem {l : List α} {y : α} : y ∈ sortK lt l ↔ y ∈ l := by simp [sortK, foldIns_mem]
theorem sortK_len (l : List α) : (sortK lt l).length = l.length := by simp [sortK, foldIns_len]
theorem sortK_snoc (l : List α) (x : α) : sortK lt (l ++ [x]) = insK lt (sortK lt l) x := by simp [sortK]
theorem sortK_pre {l : List α} {k : Nat} {x : α} (h : l[k]? = some x) : sortK lt (l.take (k + 1)) = insK lt (sortK lt (l.take k)) x := by
  rw [List.take_add_one, h]; exact sortK_snoc _ _

/-- while x walks forward: x stands at place j of the first ones -/
def walkK (l : List α) (x : α) (j : Nat) : List α := l.take j ++ x :: l.drop j
theorem walkK_end (l : List α) (x : α) : walkK l x l.length = l ++ [x] := by simp [walkK]
theorem walkK_at {l : List α} {x : α} {j : Nat} (hj : j ≤ l.length) : (walkK l x j)[j]? = some x := by
  have hl : (l.take j).length = j := by rw [List.length_take]; omega
  rw [walkK, List.getElem?_append_right (by omega), hl, Nat.sub_self]; rfl
theorem walkK_before {l : List α} {x : α} {j : Nat} (hj : j < l.length) : (walkK l x (j + 1))[j]? = l[j]? := by
  have hl : (l.take (j + 1)).length = j + 1 := by rw [List.length_take]; omega
  rw [walkK, List.getElem?_append_left (by omega), List.getElem?_take, if_pos (by omega)]
theorem walkK_step {l rest : List α} {x y : α} {j : Nat} (hy : l[j]? = some y) : (((walkK l x (j + 1) ++ rest).set (j + 1) y).set j x) = walkK l x j ++ rest := by
  obtain ⟨hj, rfl⟩ := List.getElem?_eq_some_iff.1 hy
  have hl : (l.take j).length = j := by rw [List.length_take]; omega
  have h1 : walkK l x (j + 1) ++ rest = l.take j ++ (l[j] :: x :: (l.drop (j + 1) ++ rest)) := by
    rw [walkK, List.take_succ_eq_append_getElem hj]; simp only [List.append_assoc, List.cons_append, List.nil_append]
  have h2 : walkK l x j ++ rest = l.take j ++ (x :: l[j] :: (l.drop (j + 1) ++ rest)) := by
    rw [walkK, List.drop_eq_getElem_cons hj]; simp only [List.append_assoc, List.cons_append]
  rw [h1, h2, List.set_append_right _ _ (by omega), hl, show j + 1 - j = 1 by omega, List.set_append_right _ _ (by omega), hl, Nat.sub_self]
  rfl
theorem walkK_ins {l : List α} {x : α} {j : Nat} (h : bk lt x l = j) : walkK l x j = insK lt l x := by subst h; rfl
end

end Go.Proofs.YtengaccnncnipaaGreat

/- Sorting a short list of numbers by insertion, as the library does it. No condition on the numbers. -/
namespace Go.Proofs.YtengaccnncnipaaGreat
open Go.RowKit Go.ChangeShapes Go.WideShapes Go.Deep

def ltI (x y : Int) : Bool := decide (x < y)
theorem less_any (x y : Int) (w : World) : Calls Tryz.prog 163 #[.int .i64 x, .int .i64 y] w fun e w' => e = .returned (.bool (ltI x y)) ∧ w' = w := by
  by_cases h : x < y
  · have HE := Lib.hid (show ltI x y = true from decide_eq_true h)
    go_enter Tryz.func163, Tryz.ntmps163
    go_wp2
    go_ret
    exact ⟨ret_bool (by rw [HE.out]), rfl⟩
  · have HE := Lib.hid (show ltI x y = false from decide_eq_false h)
    go_enter Tryz.func163, Tryz.ntmps163
    go_wp2
    go_ret
    exact ⟨ret_bool (by rw [HE.out]), rfl⟩

set_option maxHeartbeats 1000000 in
theorem isortO_any (w0 : World) (v : Value) (l : List Int) (n : Nat) (hn : n = l.length) (w : World) {hi : Nat} (hb0 : Below w0.heap.size w0 w)
    (h : Ow Nm.cells 1 3 w w0.heap.size hi v l) (hh : hi ≤ w.heap.size) :
    Calls Tryz.prog 157 #[v, .int .i64 0, .int .i64 n] w fun e w' => e = .returned (.tuple #[]) ∧ Ow Nm.cells 1 3 w' w0.heap.size hi v (sortK ltI l) ∧ hi ≤ w'.heap.size ∧ Below w0.heap.size w0 w' := by
  obtain ⟨A, n', c, rfl, H, hc, hm⟩ := h.rd.form
  obtain rfl : n' = n := H.out.trans hn.symm
  clear hn
  go_enter Tryz.func157, Tryz.ntmps157
  go_wp2_with fail
  go_loopw [6] (fun i wr => ∃ (k : Nat) (ik : Int), i = .int .i64 ik ∧ Hid (ik = k + 1) ∧ k ≤ n' ∧ Below w0.heap.size w0 wr ∧ hi ≤ wr.heap.size ∧ Ow Nm.cells 1 3 wr w0.heap.size hi (.slice A n' c) (sortK ltI (l.take (k + 1)) ++ l.drop (k + 1))) (fun i _ => n' + 1 - (intOf i).toNat)
  case atStart =>
    refine ⟨0, 1, rfl, Lib.hid (by simp), Nat.zero_le _, hb0, hh, ?_⟩
    have : sortK ltI (l.take 1) ++ l.drop 1 = l := by
      cases l with
      | nil => rfl
      | cons x l => simp [sortK, insK, bk]
    rw [this]; exact h
  case round =>
    obtain ⟨k, ik, rfl, HI, hk, hb, hh2, ow⟩ := hrel
    clear hb0 h hh
    have hik0 : 0 < ik := by have := HI.out; omega
    by_cases hlt : ik < (n' : Int)
    · have hlt1 : k + 1 < n' := by have := HI.out; omega
      have hd0 : decide (ik < (n' : Int)) = true := decide_eq_true hlt
      have hkl : k + 1 < l.length := by rw [← H.out]; exact hlt1
      have HS := Lib.hid (show ∀ y, y ∈ sortK ltI (l.take (k + 1)) → y ∈ l from fun y hy => List.mem_of_mem_take (sortK_mem.1 hy))
      have hSl : (sortK ltI (l.take (k + 1))).length = k + 1 := by rw [sortK_len, List.length_take]; omega
      have HX := Lib.hid (show sortK ltI (l.take (k + 1 + 1)) = insK ltI (sortK ltI (l.take (k + 1))) (l[k + 1]) from sortK_pre (List.getElem?_eq_getElem hkl))
      have HM := Lib.hid (show l[k + 1] ∈ l from List.getElem_mem hkl)
      rw [List.drop_eq_getElem_cons hkl] at ow
      generalize sortK ltI (l.take (k + 1)) = S at *
      generalize l[k + 1] = x at *
      obtain ⟨rest, HR⟩ : ∃ rest, Hid (l.drop (k + 1 + 1) = rest) := ⟨_, Lib.hid rfl⟩
      rw [HR.out] at ow
      have ow2 : Ow Nm.cells 1 3 wr w0.heap.size hi (.slice A n' c) (walkK S x (k + 1) ++ rest) := by
        rw [← hSl, walkK_end]; simpa using ow
      clear ow
      go_wp2_with fail
      go_loopw [7] (fun j w2 => ∃ m : Nat, j = .int .i64 m ∧ m ≤ k + 1 ∧ Below w0.heap.size w0 w2 ∧ hi ≤ w2.heap.size ∧ Ow Nm.cells 1 3 w2 w0.heap.size hi (.slice A n' c) (walkK S x m ++ rest) ∧ Hid (∀ (j : Nat) (y : Int), m ≤ j → S[j]? = some y → ltI x y = true)) (fun j _ => (intOf j).toNat)
      case atStart => exact ⟨k + 1, by rw [HI.out]; rfl, Nat.le_refl _, hb, hh2, ow2, Lib.hid (fun j y hj hy => by rw [List.getElem?_eq_none (by omega)] at hy; cases hy)⟩
      case round =>
        obtain ⟨m, rfl, hm2, hb3, hh3, ow3, HJ⟩ := hrel
        clear hb hh2 ow2
        by_cases hm0 : m = 0
        · subst hm0
          have HQ := Lib.hid (show walkK S x 0 = insK ltI S x from walkK_ins (bk_eq x S 0 (Nat.zero_le _) HJ.out (fun j y h => by omega)))
          have hd : decide ((0 : Int) < ((0 : Nat) : Int)) = false := by simp
          go_wp2_with fail
          go_quiet (fail)
          go_wp2_with fail
          go_roundw
          case rel => exact ⟨k + 1, ik + 1, by go_num, Lib.hid (by rw [HI.out]; simp), by omega, below_drewN hb3 _, hh3, by rw [HX.out, ← HQ.out, HR.out]; exact ow3.drewN _⟩
          case measure => simp [intOf] <;> omega
        · obtain ⟨m', rfl⟩ : ∃ m', m = m' + 1 := ⟨m - 1, by omega⟩
          clear hm0
          have hmS : m' < S.length := by omega
          have hyS : S[m']? = some S[m'] := List.getElem?_eq_getElem hmS
          have hyl := HS.out _ (List.getElem_mem hmS)
          generalize S[m'] = y at hyS hyl
          obtain ⟨b, off, x1, rfl, hx1, _, hbl, f0⟩ := Nm.get ow3.rd (k := m' + 1) (by omega) (Below.refl wr.heap.size wr) hh3
          obtain ⟨_, _, y1, e, hy1, _, _, f1⟩ := Nm.get ow3.rd (k := m') (by omega) (Below.refl wr.heap.size wr) hh3
          injection e with e
          injection e with e1 e2
          subst e1; subst e2
          have hwl : (walkK S x (m' + 1)).length = k + 2 := by simp [walkK, hSl]; omega
          obtain rfl : x1 = x := by
            have := hx1.out
            rw [List.getElem?_append_left (by omega), walkK_at (by omega)] at this
            exact (Option.some.inj this).symm
          obtain rfl : y1 = y := by
            have := hy1.out
            rw [List.getElem?_append_left (by omega), walkK_before hmS, hyS] at this
            exact (Option.some.inj this).symm
          have hz := ow3.frozen (by omega)
          have c1 := fun n => less_any x1 y1 (wr.drewN n)
          have hd : decide ((0 : Int) < ((m' + 1 : Nat) : Int)) = true := by simp
          have hi1 : ((m' + 1 : Nat) : Int) < (n' : Int) := by omega
          by_cases hq : ltI x1 y1 = true
          · rw [hq] at c1
            have HW := Lib.hid (walkK_step (rest := rest) (x := x1) hyS)
            have HJ2 := Lib.hid (show ∀ (j : Nat) (y : Int), m' ≤ j → S[j]? = some y → ltI x1 y = true from fun j y hj hy => by
              by_cases hjm : j = m'
              · subst hjm; rw [hyS] at hy; exact (Option.some.inj hy) ▸ hq
              · exact HJ.out j y (by omega) hy)
            clear hq hyS HJ
            go_wp2_with fail
            go_quiet ((go_at_call 163; refine Calls.quiet_of_same (c1 _)))
            go_wp2_with fail
            go_region
            generalize hw : World.setCell (World.setCell _ _ _) _ _ = w3
            obtain rfl : w3 = setL (setL (wr.drewN (nq + 1)) b (off + (m' + 1)) [.int .i64 y1]) b (off + m') [.int .i64 x1] := hw.symm
            clear hw
            have o1 := ow3.drewN (nq + 1)
            have u1 : Upd 3 1 (wr.drewN (nq + 1)) (setL (wr.drewN (nq + 1)) b (off + (m' + 1)) [.int .i64 y1]) b (off + (m' + 1) * 1) (Nm.cells x1) (Nm.cells y1) := by
              have := Upd.of_setL (E := 3) (sz := 1) (w := wr.drewN (nq + 1)) (b := b) (o := off + (m' + 1)) (xs := Nm.cells x1) (ys' := Nm.cells y1) (ys := [.int .i64 y1]) 0 rfl rfl (by simp)
              simpa using this
            have o2 := o1.upd Nm.cells_len (by omega) hx1.out u1
            have u2 : Upd 3 1 (setL (wr.drewN (nq + 1)) b (off + (m' + 1)) [.int .i64 y1]) (setL (setL (wr.drewN (nq + 1)) b (off + (m' + 1)) [.int .i64 y1]) b (off + m') [.int .i64 x1]) b (off + m' * 1) (Nm.cells y1) (Nm.cells x1) := by
              have := Upd.of_setL (E := 3) (sz := 1) (w := setL (wr.drewN (nq + 1)) b (off + (m' + 1)) [.int .i64 y1]) (b := b) (o := off + m') (xs := Nm.cells y1) (ys' := Nm.cells x1) (ys := [.int .i64 x1]) 0 rfl rfl (by simp)
              simpa using this
            have o3 := o2.upd Nm.cells_len (by omega) (by rw [List.getElem?_set_ne (by omega)]; exact hy1.out) u2
            rw [HW.out] at o3
            have bb := setL_below (setL_below (below_drewN hb3 (nq + 1)) [.int .i64 y1] b (off + (m' + 1)) (by omega)) [.int .i64 x1] b (off + m') (by omega)
            have hs3 : hi ≤ (setL (setL (wr.drewN (nq + 1)) b (off + (m' + 1)) [.int .i64 y1]) b (off + m') [.int .i64 x1]).heap.size := by rw [setL_size, setL_size]; exact hh3
            go_wp2_with fail
            go_roundw
            case rel => exact ⟨m', by go_num, by omega, bb, hs3, o3, HJ2⟩
            case measure => simp [intOf] <;> omega
          · have hq2 : ltI x1 y1 = false := Bool.eq_false_iff.2 hq
            rw [hq2] at c1
            have hJ : ∀ (j : Nat) (y : Int), m' + 1 = j + 1 → S[j]? = some y → ltI x1 y = false := fun j y hj hy => by
              obtain rfl : j = m' := by omega
              rw [hyS] at hy
              obtain rfl := Option.some.inj hy
              exact Bool.eq_false_iff.2 hq
            have HQ := Lib.hid (show walkK S x1 (m' + 1) = insK ltI S x1 from walkK_ins (bk_eq x1 S (m' + 1) (by omega) HJ.out hJ))
            clear hJ
            clear hq hq2 hyS hx1 hy1 HJ
            go_wp2_with fail
            go_quiet ((go_at_call 163; refine Calls.quiet_of_same (c1 _)))
            go_wp2_with fail
            go_roundw
            case rel => exact ⟨k + 1, ik + 1, by go_num, Lib.hid (by rw [HI.out]; simp), by omega, below_drewN hb3 _, hh3, by rw [HX.out, ← HQ.out, HR.out]; exact ow3.drewN _⟩
            case measure => simp [intOf] <;> omega
    · have h1 : l.take (k + 1) = l := List.take_of_length_le (by have := HI.out; rw [← H.out]; omega)
      have h2 : l.drop (k + 1) = [] := List.drop_of_length_le (by have := HI.out; rw [← H.out]; omega)
      rw [h1, h2, List.append_nil] at ow
      go_wp2_with fail
      go_end0
      exact ⟨rfl, ow, hh2, hb⟩

end Go.Proofs.YtengaccnncnipaaGreat

/- The library's count of bits, at small numbers. Condition: at most 255. -/
namespace Go.Proofs.YtengaccnncnipaaGreat
open Go.RowKit Go.ChangeShapes Go.WideShapes Go.Deep

set_option maxHeartbeats 4000000 in
set_option maxRecDepth 100000 in
theorem len64_small (x : Int) (w : World) (h0 : 0 ≤ x) (h1 : x ≤ 255) : Calls Tryz.prog 167 #[.int .u64 x] w fun e w' => (∃ r, e = .returned (.int .i64 r)) ∧ w' = w := by
  have d1 : decide ((4294967296 : Int) ≤ x) = false := decide_eq_false (by omega)
  have d2 : decide ((65536 : Int) ≤ x) = false := decide_eq_false (by omega)
  have d3 : decide ((256 : Int) ≤ x) = false := decide_eq_false (by omega)
  go_enter Tryz.func167, Tryz.ntmps167
  go_wp2
  all_goals (go_ret; exact ⟨⟨_, rfl⟩, rfl⟩)
theorem len_small (x : Int) (w : World) (h0 : 0 ≤ x) (h1 : x ≤ 255) : Calls Tryz.prog 127 #[.int .u64 x] w fun e w' => (∃ r, e = .returned (.int .i64 r)) ∧ w' = w := by
  go_enter Tryz.func127, Tryz.ntmps127
  go_wp2_with (go_at_call 167; refine (len64_small x _ h0 h1).mono ?_; rintro e w' ⟨⟨r, rfl⟩, rfl⟩)
  go_ret
  exact ⟨⟨r, rfl⟩, rfl⟩

end Go.Proofs.YtengaccnncnipaaGreat

/- The library's sort of at most 12 numbers. Condition: at most 12 numbers. -/
namespace Go.Proofs.YtengaccnncnipaaGreat
open Go.RowKit Go.ChangeShapes Go.WideShapes Go.Deep


set_option maxHeartbeats 4000000 in
theorem pdqO_any (w0 : World) (v : Value) (l : List Int) (n : Nat) (hn : n = l.length) (hn12 : n ≤ 12) (r : Int) (w : World) {hi : Nat} (hb0 : Below w0.heap.size w0 w) (h : Ow Nm.cells 1 3 w w0.heap.size hi v l) (hh : hi ≤ w.heap.size) :
    Calls Tryz.prog 126 #[v, .int .i64 0, .int .i64 n, .int .i64 r] w fun e w' => e = .returned (.tuple #[]) ∧ Ow Nm.cells 1 3 w' w0.heap.size hi v (sortK ltI l) ∧ hi ≤ w'.heap.size ∧ Below w0.heap.size w0 w' := by
  have c1 := isortO_any w0 v l n hn w hb0 h hh
  have hd : decide ((n : Int) ≤ 12) = true := decide_eq_true (by omega)
  clear hn
  go_enter Tryz.func126, Tryz.ntmps126
  go_wp2_with fail
  go_loopw [1, 2, 3, 8, 9] (fun a b c d e wr => wr = w ∧ a = .int .i64 0 ∧ b = .int .i64 n) (fun _ _ _ _ _ _ => 0)
  case atStart => exact ⟨rfl, rfl, rfl⟩
  case round =>
    obtain ⟨rfl, rfl, rfl⟩ := hrel
    go_wp2_with fail
    refine c1.mono ?_
    rintro e w1 ⟨rfl, o1, hh1, b1⟩
    go_wp2_with fail
    (try simp only [Exit.inBlock, Exit.then]); refine bodyPost_ret (results_none rfl _ _ _) rfl ?_
    exact ⟨rfl, o1, hh1, b1⟩

theorem sortInts_any (w0 : World) (v : Value) (l : List Int) (hl : l.length ≤ 12) (w : World) {hi : Nat} (hb0 : Below w0.heap.size w0 w) (h : Ow Nm.cells 1 3 w w0.heap.size hi v l) (hh : hi ≤ w.heap.size) :
    Calls Tryz.prog 83 #[v] w fun e w' => e = .returned (.tuple #[]) ∧ Ow Nm.cells 1 3 w' w0.heap.size hi v (sortK ltI l) ∧ hi ≤ w'.heap.size ∧ Below w0.heap.size w0 w' := by
  obtain ⟨A, n, c, rfl, H, hc, hm⟩ := h.rd.form
  rw [← H.out] at hl
  have c1 := fun r => pdqO_any w0 _ l n H.out hl r w hb0 h hh
  have c2 := fun W => len_small n W (by omega) (by omega)
  clear h
  go_enter Tryz.func83, Tryz.ntmps83
  go_wp2_with fail
  refine (c2 _).mono ?_; rintro e w' ⟨⟨r, rfl⟩, rfl⟩
  go_wp2_with fail
  refine (c1 r).mono ?_; rintro e w1 ⟨rfl, o1, hh1, b1⟩
  go_wp2_with fail
  go_end0
  exact ⟨rfl, o1, hh1, b1⟩

end Go.Proofs.YtengaccnncnipaaGreat

/- The active interrupts, in the program and in the reference. No condition. -/
namespace Go.Proofs.YtengaccnncnipaaGreat
open Go.RowKit Go.ChangeShapes Go.WideShapes Go.Deep

theorem asc_at {l : List Int} (h : l.Pairwise (· < ·)) {i j : Nat} {a b : Int} (hi : l[i]? = some a) (hj : l[j]? = some b) (hij : i < j) : a < b := by
  obtain ⟨h1, rfl⟩ := List.getElem?_eq_some_iff.1 hi
  obtain ⟨h2, rfl⟩ := List.getElem?_eq_some_iff.1 hj
  exact List.pairwise_iff_getElem.1 h i j h1 h2 hij
theorem insK_put {l : List Int} {x : Int} (h : l.Pairwise (· < ·)) (hx : x ∉ l) : insK ltI l x = putL x l := by
  have hle := lead_le x l
  have hbk : bk ltI x l = lead x l := bk_eq x l (lead x l) hle (fun j y hj hy => by
    have hne : y ≠ x := fun e => hx (e ▸ List.mem_of_getElem? hy)
    have h0 : l[lead x l]? = some (l[lead x l]'(by have := (List.getElem?_eq_some_iff.1 hy).1; omega)) := List.getElem?_eq_getElem _
    have hne0 : l[lead x l]'(by have := (List.getElem?_eq_some_iff.1 hy).1; omega) ≠ x := fun e => hx (e ▸ List.getElem_mem _)
    have h1 := lead_at x l _ _ (Nat.le_refl _) h0
    rw [ltI, decide_eq_true_eq]
    rcases Nat.eq_or_lt_of_le hj with h2 | h2
    · subst h2
      have := Option.some.inj (h0.symm.trans hy)
      omega
    · have := asc_at h h0 hy h2
      omega) (fun j y hj hy => by
    have := (lead_at x l j y (by omega) hy).2 (by omega)
    rw [ltI, decide_eq_false_iff_not]; omega)
  rw [insK, hbk, putL]
theorem foldIns_asc : ∀ (xs acc : List Int), acc.Pairwise (· < ·) → xs.Nodup → (∀ x ∈ xs, x ∉ acc) → (xs.foldl (insK ltI) acc).Pairwise (· < ·)
  | [], acc, h, _, _ => h
  | x :: xs, acc, h, hn, hd => by
    rw [List.nodup_cons] at hn
    have hx := hd x (by simp)
    rw [List.foldl_cons, insK_put h hx]
    refine foldIns_asc xs _ (putL_asc x acc h hx) hn.2 (fun y hy hm => ?_)
    rcases (mem_putL x y acc).1 hm with rfl | hm
    · exact hn.1 hy
    · exact hd y (List.mem_cons_of_mem _ hy) hm
theorem sortK_asc {xs : List Int} (h : xs.Nodup) : (sortK ltI xs).Pairwise (· < ·) := foldIns_asc xs [] List.Pairwise.nil h (fun _ _ h => by simp at h)

def Sl.isAct (s : Sl) : Bool := s.state == 2 || s.state == 3
def Sl.acts (l : List Sl) : List Int := (l.filter Sl.isAct).map Sl.irq
def Sl.active (l : List Sl) : List Int := accL Sl.isAct Sl.irq l
theorem Sl.acts_pre {l : List Sl} {k : Nat} {s : Sl} (h : l[k]? = some s) : Sl.acts (l.take (k + 1)) = Sl.acts (l.take k) ++ if Sl.isAct s then [s.irq] else [] := by
  rw [List.take_add_one, h, Sl.acts, Sl.acts, List.filter_append, List.map_append]
  congr 1
  cases hq : Sl.isAct s <;> simp [hq]
theorem Sl.acts_nodup {l : List Sl} (hg : Sl.good l = true) : (Sl.acts l).Nodup := by
  unfold Sl.acts List.Nodup
  rw [List.pairwise_map, List.pairwise_filter]
  rw [List.pairwise_iff_getElem]
  intro i j hi hj hij ha hb
  refine Sl.good_ne hg hij (List.getElem?_eq_getElem hi) (List.getElem?_eq_getElem hj) ?_ ?_
  · intro h0; simp [Sl.isAct, h0] at ha
  · intro h0; simp [Sl.isAct, h0] at hb
theorem Sl.active_eq {l : List Sl} (hg : Sl.good l = true) : sortK ltI (Sl.acts l) = Sl.active l := by
  refine asc_ext _ _ (sortK_asc (Sl.acts_nodup hg)) (accL_asc _ _ _) (fun x => ?_)
  rw [sortK_mem, Sl.active, accL_mem]
  simp [Sl.acts, and_assoc]
theorem Sl.active_new {l : List Sl} (hg : Sl.good l = true) {k : Nat} {s : Sl} (h : l[k]? = some s) (ha : Sl.isAct s = true) : s.irq ∉ Sl.active (l.take k) := by
  intro hm
  rw [Sl.active, accL_mem] at hm
  obtain ⟨u, hu, h1, h2⟩ := hm
  obtain ⟨j, hj⟩ := List.getElem?_of_mem hu
  rw [List.getElem?_take] at hj
  split at hj
  · rename_i hjk
    refine Sl.good_ne hg hjk hj h ?_ ?_ h2
    · intro h0; simp [Sl.isAct, h0] at h1
    · intro h0; simp [Sl.isAct, h0] at ha
  · cases hj
set_option maxHeartbeats 1000000 in
theorem l8Active_any (v : Value) (l : List Sl) (w : World) {lo hi : Nat} (h : Rd Sl.cells 3 w lo hi v l) (hh : hi ≤ w.heap.size) (hg : Sl.good l = true) :
    Calls Tryz.prog 99 #[v] w fun e w' => ∃ v', e = .returned v' ∧ Rd Nm.cells 1 w' w.heap.size w'.heap.size v' (Sl.active l) ∧ Below w.heap.size w w' := by
  have hrd := h
  obtain ⟨A, n, c, rfl, H, hc, hm⟩ := h.form
  have hn4 : n ≤ 4 := by rw [H.out, Sl.good_len hg]; decide
  have HG := Lib.hid hg
  clear hg h
  go_enter Tryz.func99, Tryz.ntmps99
  go_wp2_with fail
  have hb0 := (Below.refl w.heap.size w).alloc (Nat.le_refl _) (.cells #[] 3)
  have hf0 : Rd Nm.cells 1 (w.alloc (.cells #[] 3)) w.heap.size (w.alloc (.cells #[] 3)).heap.size (.slice (some ⟨w.heap.size, 0, none⟩) 0 0) [] := Rd.empty (by decide)
  generalize w.alloc _ = w1 at hf0 hb0 ⊢
  go_loopw [3, 4] (fun q i wr => ∃ k : Nat, k ≤ n ∧ i = .int .i64 k ∧ Below w.heap.size w wr ∧ Rd Nm.cells 1 wr w.heap.size wr.heap.size q (Sl.active (l.take k))) (fun _ i _ => n - (intOf i).toNat)
  case atStart => exact ⟨0, Nat.zero_le _, rfl, hb0, hf0⟩
  case round =>
    clear hf0 hb0
    obtain ⟨k, hk, rfl, hb, hf⟩ := hrel
    by_cases hlt : k < n
    · obtain ⟨b, off, s, rfl, hs, _, hbl, f0, f1, f2⟩ := Sl.get hrd hlt hb hh
      have hP : Sl.active (l.take (k + 1)) = if Sl.isAct s && !(Sl.active (l.take k)).contains s.irq then putL s.irq (Sl.active (l.take k)) else Sl.active (l.take k) := accL_pre Sl.isAct Sl.irq hs.out
      have hl6 : (Sl.active (l.take k)).length ≤ 1048576 := by
        have := accL_len Sl.isAct Sl.irq (l.take k)
        rw [List.length_take] at this
        unfold Sl.active; omega
      have hstep : Sl.isAct s = true → Hid (Sl.active (l.take (k + 1)) = putL s.irq (Sl.active (l.take k))) ∧ (Calls Tryz.prog 134 #[u3, .int .i64 s.irq] wr fun e w' => ∃ v', e = .returned v' ∧ Ow Nm.cells 1 3 w' wr.heap.size w'.heap.size v' (putL s.irq (Sl.active (l.take k))) ∧ Below wr.heap.size wr w') := fun ha => by
        have hn := Sl.active_new HG.out hs.out ha
        exact ⟨Lib.hid (by rw [hP, ha]; simp [hn]), l1Put_any u3 _ s.irq wr hf (Nat.le_refl _) hn hl6⟩
      by_cases h2 : s.state = 2
      · obtain ⟨HF, c1⟩ := hstep (by simp [Sl.isAct, h2])
        rw [h2] at f0
        clear h2 hP hstep
        go_wp2_with fail
        refine c1.mono ?_; rintro e w2 ⟨v', rfl, o1, b1⟩
        go_wp2_with fail
        go_roundw
        case rel => exact ⟨k + 1, by omega, by go_num, hb.trans (b1.mono hb.size), by rw [HF.out]; exact o1.rd.mono hb.size (Nat.le_refl _)⟩
        case measure => simp [intOf]; omega
      · by_cases h3 : s.state = 3
        · obtain ⟨HF, c1⟩ := hstep (by simp [Sl.isAct, h3])
          rw [h3] at f0
          clear h2 h3 hP hstep
          go_wp2_with fail
          refine c1.mono ?_; rintro e w2 ⟨v', rfl, o1, b1⟩
          go_wp2_with fail
          go_roundw
          case rel => exact ⟨k + 1, by omega, by go_num, hb.trans (b1.mono hb.size), by rw [HF.out]; exact o1.rd.mono hb.size (Nat.le_refl _)⟩
          case measure => simp [intOf]; omega
        · have HF := Lib.hid (show Sl.active (l.take (k + 1)) = Sl.active (l.take k) from by rw [hP]; simp [Sl.isAct, h2, h3])
          clear hP hstep
          go_wp2_with fail
          go_roundw
          case rel => exact ⟨k + 1, by omega, by go_num, hb, by rw [HF.out]; exact hf⟩
          case measure => simp [intOf]; omega
    · have hkl : l.take k = l := List.take_of_length_le (by rw [← H.out]; omega)
      rw [hkl] at hf
      go_wp2_with fail
      go_ret
      exact ⟨_, rfl, hf, hb⟩
set_option maxHeartbeats 1000000 in
theorem activeIrqs_any (v : Value) (l : List Sl) (w : World) {lo hi : Nat} (h : Rd Sl.cells 3 w lo hi v l) (hh : hi ≤ w.heap.size) (hg : Sl.good l = true) :
    Calls Tryz.prog 85 #[v] w fun e w' => ∃ v', e = .returned v' ∧ Ow Nm.cells 1 3 w' w.heap.size w'.heap.size v' (Sl.active l) ∧ Below w.heap.size w w' := by
  have hrd := h
  obtain ⟨A, n, c, rfl, H, hc, hm⟩ := h.form
  have hn4 : n ≤ 4 := by rw [H.out, Sl.good_len hg]; decide
  have HE := Lib.hid (Sl.active_eq hg)
  clear hg h
  go_enter Tryz.func85, Tryz.ntmps85
  go_wp2_with fail
  have hb0 := (Below.refl w.heap.size w).alloc (Nat.le_refl _) (.cells #[] 3)
  have hf0 := own_empty w (base := w.heap.size) 3 1 (Nat.le_refl _)
  generalize w.alloc _ = w1 at hf0 hb0 ⊢
  go_loopw [3, 9] (fun q i wr => ∃ (k m : Nat), k ≤ n ∧ i = .int .i64 k ∧ Hid (m = (Sl.acts (l.take k)).length) ∧ m ≤ k ∧ Below w.heap.size w wr ∧ wr.ownsRow w.heap.size 3 1 q m ((Sl.acts (l.take k)).flatMap Nm.cells)) (fun _ i _ => n - (intOf i).toNat)
  case atStart => exact ⟨0, 0, Nat.zero_le _, rfl, Lib.hid rfl, Nat.le_refl _, hb0, hf0⟩
  case round =>
    clear hf0 hb0
    obtain ⟨k, m, hk, rfl, HM, hmk, hb, hf⟩ := hrel
    have hbs := hb.size
    by_cases hlt : k < n
    · obtain ⟨b, off, s, rfl, hs, _, hbl, f0, f1, f2⟩ := Sl.get hrd hlt hb hh
      have hP := Sl.acts_pre hs.out
      have c1 := fun W => isActive_at s.state s.irq s.prio W
      have hrfl : Sl.isAct s = (s.state == 2 || s.state == 3) := rfl
      rw [← hrfl] at c1
      clear hrfl
      cases hq : Sl.isAct s
      · have HF := Lib.hid (show Sl.acts (l.take (k + 1)) = Sl.acts (l.take k) from by rw [hP, hq]; simp)
        rw [hq] at c1
        clear hP hq
        go_wp2_with fail
        refine (c1 _).mono ?_; rintro e w2 ⟨rfl, b2⟩
        have hf2 := (hf.alloc (.cells #[.int .i64 s.state, .int .i64 s.irq, .int .i64 s.prio] 127)).kept (World.grownBy.mk b2.os b2.tape b2.output b2.size (fun k hk _ => b2.block k hk) : (wr.alloc (.cells #[.int .i64 s.state, .int .i64 s.irq, .int .i64 s.prio] 127)).grownBy w2 none) (by cases hv : u3.ownBlock <;> simp)
        have hb2 := (hb.alloc hb.size (.cells #[.int .i64 s.state, .int .i64 s.irq, .int .i64 s.prio] 127)).trans (b2.mono (by simp; omega))
        go_wp2_with fail
        go_roundw
        case rel => exact ⟨k + 1, m, by omega, by go_num, Lib.hid (by rw [HF.out, HM.out]), by omega, hb2, by rw [HF.out]; exact hf2⟩
        case measure => simp [intOf]; omega
      · have HF := Lib.hid (show Sl.acts (l.take (k + 1)) = Sl.acts (l.take k) ++ [s.irq] from by rw [hP, hq]; simp)
        rw [hq] at c1
        clear hP hq
        go_wp2_with fail
        refine (c1 _).mono ?_; rintro e w2 ⟨rfl, b2⟩
        have g1 : w2.cell? ⟨wr.heap.size, 1, none⟩ = some (.int .i64 s.irq) := (b2.cell (p := ⟨wr.heap.size, 1, none⟩) (by simp)).trans (by simp)
        have hf2 := (hf.alloc (.cells #[.int .i64 s.state, .int .i64 s.irq, .int .i64 s.prio] 127)).kept (World.grownBy.mk b2.os b2.tape b2.output b2.size (fun k hk _ => b2.block k hk) : (wr.alloc (.cells #[.int .i64 s.state, .int .i64 s.irq, .int .i64 s.prio] 127)).grownBy w2 none) (by cases hv : u3.ownBlock <;> simp)
        have hb2 := (hb.alloc hb.size (.cells #[.int .i64 s.state, .int .i64 s.irq, .int .i64 s.prio] 127)).trans (b2.mono (by simp; omega))
        have hz2 := hb2.size
        clear b2 c1
        go_wp2_with (at_builtin; (refine Nm.app_one rfl _ _ rfl w.heap.size u3 m _ rfl (hf2.alloc _) (g := w2.heap.size) (c := 1) s.irq rfl ?hc0 (by omega) (by simp <;> omega) ?_); (rotate_left); (intro v3 w3 hf3 hg3))
        go_roundw
        case rel =>
          refine ⟨k + 1, m + 1, by omega, by go_num, Lib.hid (by rw [HF.out, List.length_append, HM.out]; rfl), by omega, (hb2.alloc hb2.size _).grown hg3 (by simp <;> omega) (fun j hj => (hf2.lt j hj).1), ?_⟩
          rw [HF.out, List.flatMap_append]
          exact hf3
        case measure => simp [intOf]; omega
        case hc0 =>
          intro j u hu
          simpa [Nm.cells] using hu
    · have hkl : l.take k = l := List.take_of_length_le (by rw [← H.out]; omega)
      rw [hkl] at hf HM
      have ow := Ow.of_own Nm.cells_len hf rfl HM.out
      have c2 := sortInts_any w u3 _ (by rw [← HM.out]; omega) wr hb ow (Nat.le_refl _)
      rw [HE.out] at c2
      go_wp2_with fail
      refine c2.mono ?_; rintro e w2 ⟨rfl, o2, hh2, b2⟩
      go_wp2_with fail
      go_ret
      exact ⟨_, rfl, o2.mono (Nat.le_refl _) hh2, b2⟩

end Go.Proofs.YtengaccnncnipaaGreat

/- What 'best' finds among slots, when a queue is settled, and that taking keeps it so, in plain terms. No condition. -/
namespace Go.Proofs.YtengaccnncnipaaGreat

theorem Sl.bt_trans {most : Bool} {a b c : Sl} (h : Sl.bt most a b = true) (k : Sl.bt most b c = true) : Sl.bt most a c = true := by
  cases most
  · simp [Sl.bt] at *
    exact Wt.lt_trans k h
  · simp [Sl.bt] at *
    exact Wt.lt_trans h k
theorem Sl.bt_irrefl (most : Bool) (a : Sl) : Sl.bt most a a = false := by cases most <;> simp [Sl.bt, Wt.lt_irrefl]
theorem Sl.best_none (most : Bool) (l : List Sl) : ∀ k : Nat, k ≤ l.length → Sl.best most l k = -1 → ∀ (j : Nat) (u : Sl), j < k → l[j]? = some u → ¬ u.state = 1
  | 0, _, _, j, u, hj, _ => absurd hj (by omega)
  | k + 1, hk, h, j, u, hj, hu => by
    obtain ⟨s, hs⟩ : ∃ s, l[k]? = some s := ⟨_, List.getElem?_eq_getElem (show k < l.length by omega)⟩
    rw [Sl.best_succ hs] at h
    by_cases hb : Sl.bestIf most l (Sl.best most l k) s = true
    · rw [if_pos hb] at h; omega
    · rw [if_neg hb] at h
      have ih := Sl.best_none most l k (by omega) h
      rcases Nat.lt_or_ge j k with hjk | hjk
      · exact ih j u hjk hu
      · obtain rfl : j = k := by omega
        rw [hs] at hu
        injection hu with hu
        subst hu
        intro e
        apply hb
        simp [Sl.bestIf, e, h]
theorem Sl.best_top (most : Bool) (l : List Sl) : ∀ k : Nat, k ≤ l.length → ∀ (i : Nat) (s : Sl), Sl.best most l k = i → l[i]? = some s → ∀ (j : Nat) (u : Sl), j < k → l[j]? = some u → u.state = 1 → Sl.bt most u s = false
  | 0, _, _, _, _, _, j, u, hj, _, _ => absurd hj (by omega)
  | k + 1, hk, i, x, h, hx, j, u, hj, hu, hst => by
    obtain ⟨s, hs⟩ : ∃ s, l[k]? = some s := ⟨_, List.getElem?_eq_getElem (show k < l.length by omega)⟩
    rw [Sl.best_succ hs] at h
    have ih := Sl.best_top most l k (by omega)
    by_cases hb : Sl.bestIf most l (Sl.best most l k) s = true
    · rw [if_pos hb] at h
      obtain rfl : i = k := by omega
      rw [hs] at hx
      injection hx with hx
      subst hx
      rcases Nat.lt_or_ge j i with hji | hji
      · rcases Sl.best_bd most l i (by omega) with h1 | ⟨j1, u1, h1, h2, h3, h4⟩
        · exact absurd hst (Sl.best_none most l i (by omega) h1 j u hji hu)
        · have h5 := ih j1 u1 h1 h3 j u hji hu hst
          simp only [Sl.bestIf, h1, Bool.and_eq_true, Bool.or_eq_true, decide_eq_true_eq] at hb
          obtain ⟨_, h6 | h6⟩ := hb
          · omega
          · rw [show l.getD (j1 : Int).toNat default = u1 from by simp [h3]] at h6
            cases h7 : Sl.bt most u s
            · rfl
            · rw [Sl.bt_trans h7 h6] at h5; exact absurd h5 (by decide)
      · obtain rfl : j = i := by omega
        rw [hs] at hu
        injection hu with hu
        subst hu
        exact Sl.bt_irrefl most s
    · rw [if_neg hb] at h
      rcases Nat.lt_or_ge j k with hjk | hjk
      · exact ih i x h hx j u hjk hu hst
      · obtain rfl : j = k := by omega
        rw [hs] at hu
        injection hu with hu
        subst hu
        cases h7 : Sl.bt most s x
        · rfl
        · exfalso
          apply hb
          simp [Sl.bestIf, hst, h, hx, h7]
theorem Sl.bn_none {l : List Sl} (h : Sl.bn l = -1) {s : Sl} (hs : s ∈ l) : ¬ s.state = 1 := by
  obtain ⟨j, hj⟩ := List.getElem?_of_mem hs
  exact Sl.best_none false l l.length (Nat.le_refl _) h j s (List.getElem?_eq_some_iff.1 hj).1 hj
theorem Sl.bn_top {l : List Sl} {k : Nat} {s u : Sl} (h : Sl.bn l = k) (hs : l[k]? = some s) (hu : u ∈ l) (h1 : u.state = 1) : s.wt.lt u.wt = false := by
  obtain ⟨j, hj⟩ := List.getElem?_of_mem hu
  have := Sl.best_top false l l.length (Nat.le_refl _) k s h hs j u (List.getElem?_eq_some_iff.1 hj).1 hj h1
  simpa [Sl.bt] using this
theorem Sl.fx_neg {l : List Sl} : Sl.fx l < 0 ↔ ∀ s ∈ l, ¬ s.state = 0 := by
  rcases find_cases Sl.free l with ⟨h1, h2⟩ | ⟨k, s, h1, h2, h3, h4⟩
  · rw [Sl.fx, h1]
    rw [List.any_eq_false] at h2
    exact ⟨fun _ s hs => by simpa [Sl.free] using h2 s hs, fun _ => by omega⟩
  · rw [Sl.fx, h1]
    refine ⟨fun h => absurd h (by omega), fun h => absurd (by simpa [Sl.free] using h4) (h s (List.mem_of_getElem? h3))⟩
theorem Wt.lt_le {x y z : Wt} (h : y.lt x = false) (k : y.lt z = true) : x.lt z = true := by
  rw [Bool.eq_false_iff, ne_eq, Wt.lt_iff] at h
  rw [Wt.lt_iff] at *
  omega
theorem Qu.settled_iff {ls : List Sl} {lw : List Wt} : Qu.settled ls lw = true ↔ ∀ t, lw[0]? = some t → (∀ s ∈ ls, ¬ s.state = 0) ∧ ∀ s ∈ ls, s.state = 1 → s.wt.lt t = true := by
  cases lw with
  | nil => simp [Qu.settled]
  | cons t rest =>
    have h0 : (t :: rest)[0]? = some t := rfl
    rw [Qu.settled_at h0, Bool.and_eq_true, decide_eq_true_eq, Sl.fx_neg, Bool.or_eq_true, decide_eq_true_eq]
    constructor
    · rintro ⟨h1, h2⟩ t' ht'
      rw [h0] at ht'
      injection ht' with ht'
      subst ht'
      refine ⟨h1, fun s hs hst => ?_⟩
      rcases Sl.bn_cases ls with hb | ⟨k, u, hb, _, hu, _⟩
      · exact absurd hst (Sl.bn_none hb hs)
      · rcases h2 with h2 | h2
        · omega
        · rw [hb, Sl.at_get hu] at h2
          exact Wt.lt_le (Sl.bn_top hb hu hs hst) h2
    · intro h
      obtain ⟨h1, h2⟩ := h t h0
      refine ⟨h1, ?_⟩
      rcases Sl.bn_cases ls with hb | ⟨k, u, hb, _, hu, hst⟩
      · left; omega
      · right
        rw [hb, Sl.at_get hu]
        exact h2 u (List.mem_of_getElem? hu) hst
theorem Sl.tkOk_get {ls : List Sl} {m : Int} (h : Sl.tkOk ls m = true) : ∃ (k : Nat) (s : Sl), Sl.bx ls = k ∧ k < ls.length ∧ ls[k]? = some s ∧ s.state = 1 ∧ s.prio < m ∧ Sl.tkS ls = ls.set k (Sl.act s) ∧ Sl.tkI ls = s.irq := by
  simp only [Sl.tkOk, Bool.and_eq_true, decide_eq_true_eq] at h
  obtain ⟨h1, h2⟩ := h
  rcases Sl.bx_cases ls with hb | ⟨k, s, hb, hk, hs, hst⟩
  · omega
  · rw [hb, Sl.at_get hs] at h2
    exact ⟨k, s, hb, hk, hs, hst, h2, by rw [Sl.tkS, hb, Sl.at_get hs]; rfl, by rw [Sl.tkI, hb, Sl.at_get hs]⟩
theorem Qu.tk_good {ls : List Sl} {lw : List Wt} {m : Int} (h : Qu.good ls lw = true) (hk : Sl.tkOk ls m = true) : Qu.good (Sl.tkS ls) lw = true := by
  obtain ⟨hp, hs⟩ := Qu.good_parts h
  have hp2 := Qu.tk_parts hp hk
  simp only [Qu.good, hp2, Bool.true_and]
  obtain ⟨k, s, _, _, hks, _, _, e, _⟩ := Sl.tkOk_get hk
  rw [Qu.settled_iff] at hs ⊢
  intro t ht
  obtain ⟨h1, h2⟩ := hs t ht
  rw [e]
  refine ⟨fun u hu => ?_, fun u hu hst => ?_⟩
  · rcases mem_set_or hu with rfl | ⟨j, _, hj⟩
    · simp [Sl.act]
    · exact h1 u (List.mem_of_getElem? hj)
  · rcases mem_set_or hu with rfl | ⟨j, _, hj⟩
    · simp [Sl.act] at hst
    · exact h2 u (List.mem_of_getElem? hj) hst

end Go.Proofs.YtengaccnncnipaaGreat

/- Processor interfaces in plain terms: when one is valid, and that what is done to it keeps it so. No condition. -/
namespace Go.Proofs.YtengaccnncnipaaGreat

theorem sortI_perm (l : List Int) : (l.mergeSort fun x y => decide (x ≤ y)).Perm l := List.mergeSort_perm l _
theorem sortI_asc (l : List Int) : (l.mergeSort fun x y => decide (x ≤ y)).Pairwise (fun a b => a ≤ b) := by
  have := List.pairwise_mergeSort (le := fun x y : Int => decide (x ≤ y)) (fun a b c h1 h2 => by simp at *; omega) (fun a b => by simp; omega) l
  exact this.imp (fun h => by simpa using h)
theorem asc_sub : ∀ (b a : List Int), a.Pairwise (· < ·) → b.Pairwise (· < ·) → (∀ x ∈ a, x ∈ b) → a.Sublist b
  | [], a, _, _, h => by
    cases a with
    | nil => exact List.Sublist.refl _
    | cons x a => exact absurd (h x (by simp)) (by simp)
  | y :: b, [], _, _, _ => List.nil_sublist _
  | y :: b, x :: a, ha, hb, h => by
    rw [List.pairwise_cons] at ha hb
    by_cases e : x = y
    · subst e
      refine List.Sublist.cons_cons x (asc_sub b a ha.2 hb.2 fun z hz => ?_)
      rcases List.mem_cons.1 (h z (by simp [hz])) with rfl | hz'
      · exact absurd (ha.1 z hz) (by omega)
      · exact hz'
    · have hx : x ∈ b := by
        rcases List.mem_cons.1 (h x (by simp)) with h' | h'
        · exact absurd h' e
        · exact h'
      have hyx := hb.1 x hx
      refine List.Sublist.cons y (asc_sub b (x :: a) (List.pairwise_cons.2 ha) hb.2 fun z hz => ?_)
      rcases List.mem_cons.1 (h z hz) with rfl | hz'
      · rcases List.mem_cons.1 hz with rfl | hz2
        · exact absurd rfl e
        · exact absurd (ha.1 z hz2) (by omega)
      · exact hz'
theorem asc_nodup {l : List Int} (h : l.Pairwise (· < ·)) : l.Nodup := h.imp (fun h e => by omega)
theorem nodup_asc {l : List Int} (h : l.Pairwise (· ≤ ·)) (hn : l.Nodup) : l.Pairwise (· < ·) := by
  have := h.and hn
  exact this.imp (fun ⟨h1, h2⟩ => by
    have : ¬ _ = _ := h2
    omega)

theorem set_self {α : Type} {l : List α} {k : Nat} {s : α} (h : l[k]? = some s) : l.set k s = l := by
  apply List.ext_getElem?
  intro j
  rw [List.getElem?_set]
  split
  · rename_i e
    subst e
    rw [if_pos (List.getElem?_eq_some_iff.1 h).1, h]
  · rfl

/-! ### validity -/
def Sl.lvl (ls : List Sl) (i : Int) : Int := (Sl.at_ ls (Sl.ix ls i)).prio
def Fa.descAt (ls : List Sl) (st : List Int) : Nat → Bool
  | 0 => true
  | j + 1 => decide (Sl.lvl ls (st.getD (j + 1) 0) < Sl.lvl ls (st.getD j 0))
def Fa.descTo (ls : List Sl) (st : List Int) : Nat → Bool
  | 0 => true
  | k + 1 => Fa.descTo ls st k && Fa.descAt ls st k
def Fa.same (st : List Int) (ls : List Sl) : Bool := (st.mergeSort fun x y => decide (x ≤ y)) == Sl.active ls
def Fa.good (m : Int) (st : List Int) (ls : List Sl) (lw : List Wt) : Bool := (inB m 0 16 && Qu.good ls lw) && (Fa.same st ls && Fa.descTo ls st st.length)
def Fa.okAt (ls : List Sl) (st : List Int) (i : Nat) (x : Int) : Bool := ((Sl.active ls).contains x && !(st.take i).contains x) && Fa.descAt ls st i
def Fa.okTo (ls : List Sl) (st : List Int) : Nat → Bool
  | 0 => true
  | k + 1 => Fa.okTo ls st k && (match st[k]? with | some x => Fa.okAt ls st k x | none => true)
theorem Fa.okTo_succ {ls : List Sl} {st : List Int} {k : Nat} {x : Int} (h : st[k]? = some x) : Fa.okTo ls st (k + 1) = (Fa.okTo ls st k && Fa.okAt ls st k x) := by simp [Fa.okTo, h]
theorem Fa.okTo_iff {ls : List Sl} {st : List Int} : ∀ {k : Nat}, Fa.okTo ls st k = true ↔ ∀ (j : Nat) (x : Int), j < k → st[j]? = some x → Fa.okAt ls st j x = true
  | 0 => by simp [Fa.okTo]
  | k + 1 => by
    have ih := Fa.okTo_iff (ls := ls) (st := st) (k := k)
    rw [Fa.okTo, Bool.and_eq_true, ih]
    constructor
    · rintro ⟨h1, h2⟩ j s hj hs
      by_cases hjk : j = k
      · subst hjk; rw [hs] at h2; exact h2
      · exact h1 j s (by omega) hs
    · intro h
      refine ⟨fun j s hj hs => h j s (by omega) hs, ?_⟩
      cases hk : st[k]? with
      | none => rfl
      | some s => exact h k s (by omega) hk
theorem Fa.descTo_iff {ls : List Sl} {st : List Int} : ∀ {k : Nat}, Fa.descTo ls st k = true ↔ ∀ j, j < k → Fa.descAt ls st j = true
  | 0 => by simp [Fa.descTo]
  | k + 1 => by
    have ih := Fa.descTo_iff (ls := ls) (st := st) (k := k)
    rw [Fa.descTo, Bool.and_eq_true, ih]
    constructor
    · rintro ⟨h1, h2⟩ j hj
      by_cases hjk : j = k
      · subst hjk; exact h2
      · exact h1 j (by omega)
    · exact fun h => ⟨fun j hj => h j (by omega), h k (by omega)⟩
theorem Sl.active_asc (ls : List Sl) : (Sl.active ls).Pairwise (· < ·) := accL_asc _ _ ls
theorem Sl.active_mem {ls : List Sl} {i : Int} : i ∈ Sl.active ls ↔ ∃ s ∈ ls, Sl.isAct s = true ∧ s.irq = i := accL_mem _ _ ls i
theorem Sl.active_len (ls : List Sl) : (Sl.active ls).length ≤ ls.length := accL_len _ _ ls
theorem Fa.same_iff {st : List Int} {ls : List Sl} : Fa.same st ls = true ↔ st.Nodup ∧ ∀ i, i ∈ st ↔ i ∈ Sl.active ls := by
  rw [Fa.same, beq_iff_eq]
  have hp := sortI_perm st
  constructor
  · intro h
    rw [h] at hp
    exact ⟨hp.nodup_iff.1 (asc_nodup (Sl.active_asc ls)), fun i => hp.mem_iff.symm⟩
  · rintro ⟨hn, hm⟩
    have h1 := nodup_asc (sortI_asc st) (hp.nodup_iff.2 hn)
    have h2 := asc_sub _ _ h1 (Sl.active_asc ls) (fun x hx => (hm x).1 (hp.mem_iff.1 hx))
    have h3 := asc_sub _ _ (Sl.active_asc ls) h1 (fun x hx => hp.mem_iff.2 ((hm x).2 hx))
    exact h2.eq_of_length (Nat.le_antisymm h2.length_le h3.length_le)
/-- the reference's own test -/
theorem Fa.ok_eq (st : List Int) (ls : List Sl) : (Fa.okTo ls st st.length && decide (st.length = (Sl.active ls).length)) = (Fa.same st ls && Fa.descTo ls st st.length) := by
  rw [Bool.eq_iff_iff]
  simp only [Bool.and_eq_true, decide_eq_true_eq, Fa.okTo_iff, Fa.same_iff, Fa.descTo_iff]
  constructor
  · rintro ⟨h1, h2⟩
    have hx : ∀ (j : Nat) (x : Int), st[j]? = some x → x ∈ Sl.active ls ∧ x ∉ st.take j ∧ Fa.descAt ls st j = true := fun j x hj => by
      have := h1 j x (List.getElem?_eq_some_iff.1 hj).1 hj
      simp only [Fa.okAt, Bool.and_eq_true, Bool.not_eq_true', List.contains_eq_mem, decide_eq_true_eq, decide_eq_false_iff_not] at this
      exact ⟨this.1.1, this.1.2, this.2⟩
    have hn : st.Nodup := by
      unfold List.Nodup
      rw [List.pairwise_iff_getElem]
      intro i j hi hj hij e
      refine (hx j _ (List.getElem?_eq_getElem hj)).2.1 ?_
      rw [← e, List.mem_take_iff_getElem]
      exact ⟨i, by omega, rfl⟩
    have hs : ∀ x ∈ st, x ∈ Sl.active ls := fun x hxm => by
      obtain ⟨j, hj⟩ := List.getElem?_of_mem hxm
      exact (hx j x hj).1
    have hp := sortI_perm st
    have hl := (asc_sub _ _ (nodup_asc (sortI_asc st) (hp.nodup_iff.2 hn)) (Sl.active_asc ls) (fun x hx => hs x (hp.mem_iff.1 hx))).eq_of_length (by rw [hp.length_eq]; exact h2)
    refine ⟨⟨hn, fun i => ?_⟩, fun j hj => (hx j _ (List.getElem?_eq_getElem hj)).2.2⟩
    rw [← hl]; exact hp.mem_iff.symm
  · rintro ⟨⟨hn, hm⟩, hd⟩
    refine ⟨fun j x hj hx => ?_, ?_⟩
    · simp only [Fa.okAt, Bool.and_eq_true, Bool.not_eq_true', List.contains_eq_mem, decide_eq_true_eq, decide_eq_false_iff_not]
      refine ⟨⟨(hm x).1 (List.mem_of_getElem? hx), fun hc => ?_⟩, hd j hj⟩
      rw [List.mem_take_iff_getElem] at hc
      obtain ⟨i, hi, e⟩ := hc
      obtain ⟨_, e2⟩ := List.getElem?_eq_some_iff.1 hx
      exact (List.pairwise_iff_getElem.1 hn) i j (by omega) hj (by omega) (by rw [e, e2])
    · have hp := sortI_perm st
      have h1 := nodup_asc (sortI_asc st) (hp.nodup_iff.2 hn)
      have h2 := asc_sub _ _ h1 (Sl.active_asc ls) (fun x hx => (hm x).1 (hp.mem_iff.1 hx))
      have h3 := asc_sub _ _ (Sl.active_asc ls) h1 (fun x hx => hp.mem_iff.2 ((hm x).2 hx))
      rw [← hp.length_eq]
      exact Nat.le_antisymm h2.length_le h3.length_le

/-! ### in words -/
/-- i is active, at priority p -/
def Sl.Act (ls : List Sl) (i p : Int) : Prop := ∃ s ∈ ls, Sl.isAct s = true ∧ s.irq = i ∧ s.prio = p
theorem Sl.isAct_used {s : Sl} (h : Sl.isAct s = true) : ¬ s.state = 0 := by intro e; simp [Sl.isAct, e] at h
theorem Sl.lvl_of {ls : List Sl} (hg : Sl.good ls = true) {k : Nat} {s : Sl} (hs : ls[k]? = some s) (h0 : ¬ s.state = 0) : Sl.ix ls s.irq = k ∧ Sl.lvl ls s.irq = s.prio := by
  have h := Sl.ix_of hg hs h0
  exact ⟨h, by rw [Sl.lvl, h, Sl.at_get hs]⟩
theorem Sl.act_lvl {ls : List Sl} (hg : Sl.good ls = true) {i p : Int} (h : Sl.Act ls i p) : Sl.lvl ls i = p := by
  obtain ⟨s, hs, ha, rfl, rfl⟩ := h
  obtain ⟨k, hk⟩ := List.getElem?_of_mem hs
  exact (Sl.lvl_of hg hk (Sl.isAct_used ha)).2
theorem Sl.act_active {ls : List Sl} {i : Int} : i ∈ Sl.active ls ↔ ∃ p, Sl.Act ls i p := by
  rw [Sl.active_mem]
  constructor
  · rintro ⟨s, hs, ha, hi⟩; exact ⟨s.prio, s, hs, ha, hi, rfl⟩
  · rintro ⟨p, s, hs, ha, hi, _⟩; exact ⟨s, hs, ha, hi⟩
/-- a valid stack beside slots -/
def Fa.Ok (st : List Int) (ls : List Sl) : Prop := st.Nodup ∧ (∀ i, i ∈ st ↔ ∃ p, Sl.Act ls i p) ∧ st.Pairwise (fun a b => Sl.lvl ls b < Sl.lvl ls a)
theorem Fa.desc_iff {ls : List Sl} {st : List Int} : Fa.descTo ls st st.length = true ↔ st.Pairwise (fun a b => Sl.lvl ls b < Sl.lvl ls a) := by
  rw [Fa.descTo_iff]
  constructor
  · intro h
    have key : ∀ (d i : Nat) (a b : Int), st[i]? = some a → st[i + d + 1]? = some b → Sl.lvl ls b < Sl.lvl ls a := by
      intro d
      induction d with
      | zero =>
        intro i a b ha hb
        have := h (i + 1) (List.getElem?_eq_some_iff.1 hb).1
        simp only [Nat.add_zero] at hb
        simp only [Fa.descAt, decide_eq_true_eq, List.getD_eq_getElem?_getD, ha, hb, Option.getD_some] at this
        exact this
      | succ d ih =>
        intro i a b ha hb
        have hlt := (List.getElem?_eq_some_iff.1 hb).1
        have hm : st[i + d + 1]? = some st[i + d + 1] := List.getElem?_eq_getElem (by omega)
        have h2 := h (i + d + 1 + 1) (by omega)
        rw [show i + (d + 1) + 1 = i + d + 1 + 1 by omega] at hb
        simp only [Fa.descAt, decide_eq_true_eq, List.getD_eq_getElem?_getD, hm, hb, Option.getD_some] at h2
        have := ih i a _ ha hm
        omega
    rw [List.pairwise_iff_getElem]
    intro i j hi hj hij
    exact key (j - i - 1) i _ _ (List.getElem?_eq_getElem hi) (by rw [show i + (j - i - 1) + 1 = j by omega]; exact List.getElem?_eq_getElem hj)
  · intro h j hj
    cases j with
    | zero => rfl
    | succ j =>
      have := (List.pairwise_iff_getElem.1 h) j (j + 1) (by omega) hj (by omega)
      simp only [Fa.descAt, decide_eq_true_eq, List.getD_eq_getElem?_getD, List.getElem?_eq_getElem (show j < st.length by omega), List.getElem?_eq_getElem hj, Option.getD_some]
      exact this
theorem Fa.good_iff {m : Int} {st : List Int} {ls : List Sl} {lw : List Wt} : Fa.good m st ls lw = true ↔ inB m 0 16 = true ∧ Qu.good ls lw = true ∧ Fa.Ok st ls := by
  simp only [Fa.good, Bool.and_eq_true, Fa.same_iff, Fa.desc_iff, Fa.Ok, Sl.act_active, and_assoc]
theorem Fa.ok_len {st : List Int} {ls : List Sl} (h : Fa.Ok st ls) : st.length ≤ ls.length := by
  have hp := sortI_perm st
  have h1 := nodup_asc (sortI_asc st) (hp.nodup_iff.2 h.1)
  have h2 := asc_sub _ _ h1 (Sl.active_asc ls) (fun x hx => Sl.act_active.2 ((h.2.1 x).1 (hp.mem_iff.1 hx)))
  have := h2.length_le
  rw [hp.length_eq] at this
  have := Sl.active_len ls
  omega
/-- an element of a valid stack lies in a slot -/
theorem Fa.ok_slot {st : List Int} {ls : List Sl} (hg : Sl.good ls = true) (h : Fa.Ok st ls) {i : Int} (hi : i ∈ st) : ∃ (k : Nat) (s : Sl), ls[k]? = some s ∧ Sl.isAct s = true ∧ s.irq = i ∧ Sl.ix ls i = k ∧ Sl.lvl ls i = s.prio := by
  obtain ⟨p, s, hs, ha, rfl, _⟩ := (h.2.1 i).1 hi
  obtain ⟨k, hk⟩ := List.getElem?_of_mem hs
  have := Sl.lvl_of hg hk (Sl.isAct_used ha)
  exact ⟨k, s, hk, ha, rfl, this.1, this.2⟩
/-- slots with the same active interrupts bear the same stacks -/
theorem Fa.ok_act {st : List Int} {ls ls' : List Sl} (hg : Sl.good ls = true) (hg' : Sl.good ls' = true) (h : Fa.Ok st ls) (ha : ∀ i p, Sl.Act ls' i p ↔ Sl.Act ls i p) : Fa.Ok st ls' := by
  have hl : ∀ i ∈ st, Sl.lvl ls' i = Sl.lvl ls i := fun i hi => by
    obtain ⟨p, hp⟩ := (h.2.1 i).1 hi
    rw [Sl.act_lvl hg hp, Sl.act_lvl hg' ((ha i p).2 hp)]
  refine ⟨h.1, fun i => ?_, ?_⟩
  · rw [h.2.1 i]
    exact ⟨fun ⟨p, hp⟩ => ⟨p, (ha i p).2 hp⟩, fun ⟨p, hp⟩ => ⟨p, (ha i p).1 hp⟩⟩
  · rw [List.pairwise_iff_getElem] at *
    intro i j hi hj hij
    rw [hl _ (List.getElem_mem hi), hl _ (List.getElem_mem hj)]
    exact (List.pairwise_iff_getElem.1 h.2.2) i j hi hj hij
theorem Sl.act_set {ls : List Sl} {k : Nat} {s x : Sl} (hs : ls[k]? = some s) (i p : Int) : Sl.Act (ls.set k x) i p ↔ (Sl.isAct x = true ∧ x.irq = i ∧ x.prio = p) ∨ ∃ j u, j ≠ k ∧ ls[j]? = some u ∧ Sl.isAct u = true ∧ u.irq = i ∧ u.prio = p := by
  constructor
  · rintro ⟨u, hu, h⟩
    rcases mem_set_or hu with rfl | ⟨j, hj, hu⟩
    · exact .inl h
    · exact .inr ⟨j, u, hj, hu, h⟩
  · rintro (h | ⟨j, u, hj, hu, h⟩)
    · exact ⟨x, List.mem_of_getElem? (i := k) (by rw [List.getElem?_set, if_pos rfl, if_pos (List.getElem?_eq_some_iff.1 hs).1]), h⟩
    · exact ⟨u, List.mem_of_getElem? (i := j) (by rw [List.getElem?_set, if_neg (by omega)]; exact hu), h⟩
theorem Sl.act_at {ls : List Sl} {k : Nat} {s : Sl} (hs : ls[k]? = some s) (i p : Int) : Sl.Act ls i p ↔ (Sl.isAct s = true ∧ s.irq = i ∧ s.prio = p) ∨ ∃ j u, j ≠ k ∧ ls[j]? = some u ∧ Sl.isAct u = true ∧ u.irq = i ∧ u.prio = p := by
  have := Sl.act_set (x := s) hs i p
  rwa [set_self hs] at this
/-- setting a slot leaves the active ones if what stood there and what stands there are alike in that -/
theorem Sl.act_same {ls : List Sl} {k : Nat} {s x : Sl} (hs : ls[k]? = some s) (h : (Sl.isAct x = true ↔ Sl.isAct s = true) ∧ (Sl.isAct s = true → x.irq = s.irq ∧ x.prio = s.prio)) (i p : Int) : Sl.Act (ls.set k x) i p ↔ Sl.Act ls i p := by
  rw [Sl.act_set hs, Sl.act_at hs]
  refine or_congr ?_ Iff.rfl
  constructor
  · rintro ⟨h1, h2, h3⟩
    have h4 := h.1.1 h1
    have := h.2 h4
    exact ⟨h4, by rw [← this.1]; exact h2, by rw [← this.2]; exact h3⟩
  · rintro ⟨h1, h2, h3⟩
    have := h.2 h1
    exact ⟨h.1.2 h1, by rw [this.1]; exact h2, by rw [this.2]; exact h3⟩
theorem Qu.step_act {ls : List Sl} {lw : List Wt} (hs : Qu.settled ls lw = false) (i p : Int) : Sl.Act (Qu.step ls lw).1 i p ↔ Sl.Act ls i p := by
  obtain ⟨t, rest, rfl, hc⟩ := Qu.unsettled hs
  rcases hc with ⟨k, s, hk, _, hsk, h0⟩ | ⟨hf, k, s, hk, _, hsk, h1, _⟩
  · rw [Qu.step_free hk]
    exact Sl.act_same hsk ⟨by simp [Sl.isAct, Sl.pend, h0], fun h => by simp [Sl.isAct, h0] at h⟩ i p
  · rw [Qu.step_full hf hk hsk]
    exact Sl.act_same hsk ⟨by simp [Sl.isAct, Sl.pend, h1], fun h => by simp [Sl.isAct, h1] at h⟩ i p
theorem Qu.run_act : ∀ (n : Nat) (ls : List Sl) (lw : List Wt) (i p : Int), Sl.Act (Qu.run n ls lw).1 i p ↔ Sl.Act ls i p
  | 0, _, _, _, _ => Iff.rfl
  | n + 1, ls, lw, i, p => by
    cases hs : Qu.settled ls lw
    · rw [Qu.run, hs]
      simp only [Bool.false_eq_true, if_false]
      exact (Qu.run_act n _ _ i p).trans (Qu.step_act hs i p)
    · simp [Qu.run, hs]
theorem Qu.st_act (ls : List Sl) (lw : List Wt) (i p : Int) : Sl.Act (Qu.st ls lw).1 i p ↔ Sl.Act ls i p := Qu.run_act 1000 ls lw i p

/-! ### raising -/
theorem Qu.of_act {ls : List Sl} {lw : List Wt} {i p : Int} (hp : Qu.parts ls lw = true) (j q : Int) : Sl.Act (Qu.ofP ls lw i p).1 j q ↔ Sl.Act ls j q := by
  rw [Qu.ofP, Qu.st_act]
  have hg := (Qu.parts_get hp).1
  by_cases h1 : 0 ≤ Sl.ix ls i
  · rw [Qu.of_hit h1]
    obtain ⟨k, s, hk, _, hs, h0, _⟩ := Sl.ix_hit h1
    show Sl.Act (Sl.putR ls i p) j q ↔ _
    rw [(Sl.put_hit (p := p) hk hs).2]
    refine Sl.act_same hs ?_ j q
    unfold Sl.both
    split
    · rename_i h2; simp [Sl.isAct, h2]
    · simp
  · have h1' : Sl.ix ls i < 0 := by omega
    cases h2 : lw.any (Wt.isI i)
    · rw [Qu.of_new h1' h2]
    · rw [Qu.of_had h1' h2]
theorem Fa.raise_ok {st : List Int} {ls : List Sl} {lw : List Wt} {i p : Int} (hq : Qu.good ls lw = true) (hi : inB i 0 7 = true) (hpr : inB p 0 15 = true) (h : Fa.Ok st ls) : Fa.Ok st (Qu.ofP ls lw i p).1 := by
  have hp := (Qu.good_parts hq).1
  have hg2 := (Qu.parts_get (Qu.good_parts (Qu.ofP_good (ls := ls) (lw := lw) (i := i) (p := p) (by simp [Qu.ofOk, hq, hi, hpr]))).1).1
  exact Fa.ok_act (Qu.parts_get hp).1 hg2 h (fun j q => Qu.of_act hp j q)

/-! ### the running priority, taking -/
def Fa.run (st : List Int) (ls : List Sl) : Int := match st.getLast? with
  | some i => Sl.lvl ls i
  | none => 16
theorem Fa.run_last {st : List Int} {ls : List Sl} {i : Int} (h : st.getLast? = some i) : Fa.run st ls = Sl.lvl ls i := by simp [Fa.run, h]
def minI (a b : Int) : Int := if a < b then a else b
theorem Qu.tk_act {ls : List Sl} {m : Int} (hk : Sl.tkOk ls m = true) (j q : Int) : Sl.Act (Sl.tkS ls) j q ↔ (j = Sl.tkI ls ∧ q = (Sl.at_ ls (Sl.bx ls)).prio) ∨ Sl.Act ls j q := by
  obtain ⟨k, s, hb, _, hs, h1, _, e, e2⟩ := Sl.tkOk_hit hk
  rw [e, Sl.act_set hs, Sl.act_at hs, e2, hb, Sl.at_get hs]
  have hn : ¬ Sl.isAct s = true := by simp [Sl.isAct, h1]
  constructor
  · rintro (⟨_, h2, h3⟩ | h)
    · exact .inl ⟨h2.symm, h3.symm⟩
    · exact .inr (.inr h)
  · rintro (⟨rfl, rfl⟩ | ⟨h, _⟩ | h)
    · exact .inl ⟨rfl, rfl, rfl⟩
    · exact absurd h hn
    · exact .inr h
theorem Fa.last_least {st : List Int} {ls : List Sl} (h : st.Pairwise (fun a b => Sl.lvl ls b < Sl.lvl ls a)) {x : Int} (hx : x ∈ st) : Fa.run st ls ≤ Sl.lvl ls x := by
  obtain ⟨i, hi⟩ : ∃ i, st.getLast? = some i := by
    cases hl : st.getLast? with
    | none => rw [List.getLast?_eq_none_iff] at hl; subst hl; simp at hx
    | some i => exact ⟨i, rfl⟩
  rw [Fa.run_last hi]
  obtain ⟨j, hj, e⟩ := List.getElem_of_mem hx
  have hlast : st[st.length - 1]? = some i := by rw [← List.getLast?_eq_getElem?]; exact hi
  obtain ⟨hlt, e2⟩ := List.getElem?_eq_some_iff.1 hlast
  by_cases hjl : j = st.length - 1
  · subst hjl; rw [e] at e2; rw [e2]; exact Int.le_refl _
  · have := (List.pairwise_iff_getElem.1 h) j (st.length - 1) hj hlt (by omega)
    rw [e, e2] at this
    omega
theorem Fa.take_ok {st : List Int} {ls : List Sl} {lw : List Wt} {m : Int} (hp : Qu.parts ls lw = true) (h : Fa.Ok st ls) (hk : Sl.tkOk ls m = true) (hm : m ≤ Fa.run st ls) : Fa.Ok (st ++ [Sl.tkI ls]) (Sl.tkS ls) := by
  have hg := (Qu.parts_get hp).1
  have hg2 := (Qu.parts_get (Qu.tk_parts hp hk)).1
  have hact := Qu.tk_act hk
  obtain ⟨k, s, hb, hlt, hs, h1, hpm, e, e2⟩ := Sl.tkOk_hit hk
  have hnew : Sl.tkI ls ∉ st := fun hi => by
    obtain ⟨k2, s2, hs2, ha, hi2, hx, _⟩ := Fa.ok_slot hg h hi
    have h3 := (Sl.lvl_of hg hs (by omega)).1
    rw [e2] at hx
    rw [hx] at h3
    have : k2 = k := by omega
    subst this
    rw [hs] at hs2; injection hs2 with hs2; subst hs2
    simp [Sl.isAct, h1] at ha
  have hl : ∀ i ∈ st, Sl.lvl (Sl.tkS ls) i = Sl.lvl ls i := fun i hi => by
    obtain ⟨p, hpa⟩ := (h.2.1 i).1 hi
    rw [Sl.act_lvl hg hpa, Sl.act_lvl hg2 ((hact i p).2 (.inr hpa))]
  have hl2 : Sl.lvl (Sl.tkS ls) (Sl.tkI ls) = s.prio := by
    refine Sl.act_lvl hg2 ((hact _ _).2 (.inl ⟨rfl, ?_⟩))
    rw [hb, Sl.at_get hs]
  refine ⟨?_, fun i => ?_, ?_⟩
  · unfold List.Nodup
    rw [List.pairwise_append]
    exact ⟨h.1, by simp, fun a ha b hb => by simp at hb; subst hb; exact fun e => hnew (e ▸ ha)⟩
  · rw [List.mem_append, List.mem_singleton, h.2.1 i]
    constructor
    · rintro (⟨p, hpa⟩ | rfl)
      · exact ⟨p, (hact i p).2 (.inr hpa)⟩
      · exact ⟨_, (hact _ _).2 (.inl ⟨rfl, rfl⟩)⟩
    · rintro ⟨p, hpa⟩
      rcases (hact i p).1 hpa with ⟨rfl, _⟩ | hpa
      · exact .inr rfl
      · exact .inl ⟨p, hpa⟩
  · rw [List.pairwise_append]
    refine ⟨?_, by simp, fun a ha b hb => ?_⟩
    · rw [List.pairwise_iff_getElem]
      intro i j hi hj hij
      rw [hl _ (List.getElem_mem hi), hl _ (List.getElem_mem hj)]
      exact (List.pairwise_iff_getElem.1 h.2.2) i j hi hj hij
    · simp at hb; subst hb
      rw [hl2, hl a ha]
      have := Fa.last_least h.2.2 ha
      omega

/-! ### leaving -/
theorem Sl.end_act {ls : List Sl} (hg : Sl.good ls = true) {i : Int} (hk : Sl.endOk ls i = true) (j q : Int) : Sl.Act (Sl.endR ls i) j q ↔ Sl.Act ls j q ∧ j ≠ i := by
  obtain ⟨k, s, hx, _, hs, h0, hi, h1, e⟩ := Sl.endOk_hit hk
  rw [e, Sl.act_set hs, Sl.act_at hs]
  have hn : ¬ Sl.isAct (Sl.ended s) = true := by
    unfold Sl.ended; split <;> simp [Sl.isAct]
  constructor
  · rintro (⟨h, _⟩ | ⟨j', u, hj, hu, ha, h2, h3⟩)
    · exact absurd h hn
    · refine ⟨.inr ⟨j', u, hj, hu, ha, h2, h3⟩, ?_⟩
      rw [← h2, ← hi]
      exact Sl.good_two hg hj hu hs (Sl.isAct_used ha) h0
  · rintro ⟨⟨_, h2, _⟩ | h, hne⟩
    · exact absurd (h2.symm.trans hi) hne
    · exact .inr h
theorem Sl.act_endOk {ls : List Sl} (hg : Sl.good ls = true) {i p : Int} (h : Sl.Act ls i p) : Sl.endOk ls i = true := by
  obtain ⟨s, hs, ha, rfl, _⟩ := h
  obtain ⟨k, hk⟩ := List.getElem?_of_mem hs
  have hx := (Sl.lvl_of hg hk (Sl.isAct_used ha)).1
  exact (Sl.end_hit hx hk (fun e => by simp [Sl.isAct, e] at ha)).1
theorem Fa.leave_ok {st : List Int} {ls : List Sl} {lw : List Wt} {i : Int} (hp : Qu.parts ls lw = true) (h : Fa.Ok (st ++ [i]) ls) : Sl.endOk ls i = true ∧ Fa.Ok st (Qu.enP ls lw i).1 := by
  have hg := (Qu.parts_get hp).1
  obtain ⟨p0, hpa0⟩ := (h.2.1 i).1 (by simp)
  have hk := Sl.act_endOk hg hpa0
  have hg2 := (Qu.parts_get (Qu.good_parts (Qu.eiP_good hp hk)).1).1
  have hact : ∀ j q, Sl.Act (Qu.enP ls lw i).1 j q ↔ Sl.Act ls j q ∧ j ≠ i := fun j q => by rw [Qu.enP, Qu.st_act]; exact Sl.end_act hg hk j q
  obtain ⟨hn, hm, hd⟩ := h
  unfold List.Nodup at hn
  rw [List.pairwise_append] at hn hd
  have hni : ∀ x ∈ st, x ≠ i := fun x hx => hn.2.2 x hx i (by simp)
  have hl : ∀ x ∈ st, Sl.lvl (Qu.enP ls lw i).1 x = Sl.lvl ls x := fun x hx => by
    obtain ⟨p, hpa⟩ := (hm x).1 (by simp [hx])
    rw [Sl.act_lvl hg hpa, Sl.act_lvl hg2 ((hact x p).2 ⟨hpa, hni x hx⟩)]
  refine ⟨hk, hn.1, fun x => ?_, ?_⟩
  · constructor
    · intro hx
      obtain ⟨p, hpa⟩ := (hm x).1 (by simp [hx])
      exact ⟨p, (hact x p).2 ⟨hpa, hni x hx⟩⟩
    · rintro ⟨p, hpa⟩
      obtain ⟨hpa, hne⟩ := (hact x p).1 hpa
      rcases List.mem_append.1 ((hm x).2 ⟨p, hpa⟩) with hx | hx
      · exact hx
      · exact absurd (by simpa using hx) hne
  · rw [List.pairwise_iff_getElem]
    intro a b ha hb hab
    rw [hl _ (List.getElem_mem ha), hl _ (List.getElem_mem hb)]
    exact (List.pairwise_iff_getElem.1 hd.1) a b ha hb hab

end Go.Proofs.YtengaccnncnipaaGreat

/- Boxes of the call's own memory: a block whose cells are all known. No condition. -/
namespace Go.Proofs.YtengaccnncnipaaGreat
open Go.RowKit Go.ChangeShapes Go.WideShapes Go.Deep

/-- block g holds the cells cs, of type E, and nobody has frozen it -/
def Box (w : World) (g : Nat) (E : TypeId) (cs : List Value) : Prop := w.heap[g]? = some (.cells cs.toArray E (0, 0))
section
variable {w w' : World} {g b lo hi : Nat} {E E2 : TypeId} {cs : List Value}
theorem Box.lt (h : Box w g E cs) : g < w.heap.size := (Array.getElem?_eq_some_iff.1 h).1
theorem Box.cell (h : Box w g E cs) {j : Nat} {u : Value} (hu : cs[j]? = some u) : w.cell? ⟨g, j, none⟩ = some u := by
  rw [cell_of_row w g j _ E (0, 0) h]; simpa using hu
theorem Box.frozen (h : Box w g E cs) (j : Nat) : w.frozen? ⟨g, j, none⟩ = false := frozen_of_row w g j _ E h
theorem Box.keep (h : Box w g E cs) (hk : w'.heap[g]? = w.heap[g]?) : Box w' g E cs := hk.trans h
theorem Box.below {B : Nat} (h : Box w g E cs) (hb : Below B w w') (hB : g < B) : Box w' g E cs := h.keep (hb.block g hB)
theorem Box.drew (h : Box w g E cs) : Box w.drew g E cs := h
theorem Box.drewN (h : Box w g E cs) (n : Nat) : Box (w.drewN n) g E cs := h
theorem Box.new (w : World) (cs : Array Value) (E : TypeId) (hg : g = w.heap.size) : Box (w.alloc (.cells cs E)) g E cs.toList := by
  subst hg; unfold Box; rw [heap_alloc_new]
theorem Box.other (h : Box w g E cs) (hne : g ≠ b) (off : Nat) (vs : List Value) : Box (setL w b off vs) g E cs := h.keep (setL_other vs w b off g hne)
theorem Box.setAll (h : Box w g E cs) (vs : List Value) (hl : vs.length = cs.length) : Box (setL w g 0 vs) g E vs := by
  obtain ⟨cur', e1, e2, e3, _⟩ := setL_row E vs w g 0 cs.toArray h (by simp [hl])
  have : cur' = vs.toArray := by
    apply Array.ext_getElem?
    intro j
    by_cases hj : j < vs.length
    · have h1 := e3 j _ (List.getElem?_eq_getElem hj)
      rw [Nat.zero_add] at h1
      rw [h1]; simp [hj]
    · rw [Array.getElem?_eq_none (by rw [e2]; simp; omega), Array.getElem?_eq_none (by simp; omega)]
  rw [this] at e1
  exact e1
theorem Box.set1 (h : Box w g E cs) {j : Nat} (v : Value) (hj : j < cs.length) : Box (setL w g j [v]) g E (cs.set j v) := by
  obtain ⟨cur', e1, e2, e3, e4⟩ := setL_row E [v] w g j cs.toArray h (by simp; omega)
  have : cur' = (cs.set j v).toArray := by
    apply Array.ext_getElem?
    intro i
    by_cases hi : i = j
    · subst hi
      have h1 := e3 0 v rfl
      rw [Nat.add_zero] at h1
      rw [h1]; simp [hj]
    · have h2 := e4 i (by simp; omega)
      rw [h2]
      simp only [List.getElem?_toArray, List.getElem?_set, if_neg (Ne.symm hi)]
  rw [this] at e1
  exact e1
/-- a row of another element type is kept where a box is written -/
theorem Ow.box {α : Type} {cells : α → List Value} {sz : Nat} {v : Value} {l : List α} (h : Ow cells sz E w lo hi v l) (hb : Box w g E2 cs) (hne : E ≠ E2) (off : Nat) (vs : List Value) : Ow cells sz E (setL w g off vs) lo hi v l := by
  obtain ⟨A, c, hv, hc, hm, h⟩ := h
  refine ⟨A, c, hv, hc, hm, fun hn => ?_⟩
  obtain ⟨b, o, cur, hA, h1, h2, hh, hx⟩ := h hn
  refine ⟨b, o, cur, hA, h1, h2, (setL_other vs w g off b (fun e => ?_)).trans hh, hx⟩
  subst e
  unfold Box at hb
  rw [hh] at hb
  injection hb with hb
  injection hb with _ h4
  exact hne h4
/-- a box is kept where a row of another element type is written -/
theorem Box.row {α : Type} {cells : α → List Value} {sz off n c : Nat} {l : List α} (h : Box w g E2 cs) (ho : Ow cells sz E w lo hi (.slice (some ⟨b, off, none⟩) n c) l) (hn : 0 < n) (hne : E ≠ E2) (o : Nat) (vs : List Value) : Box (setL w b o vs) g E2 cs := by
  refine h.other (fun e => ?_) o vs
  obtain ⟨A, c', hv, _, _, hx⟩ := ho
  injection hv with e1 e2 e3
  subst e1; subst e2
  obtain ⟨b', off', cur, hA, _, _, hh, _⟩ := hx hn
  injection hA with hA
  injection hA with e4 e5
  subst e4; subst e
  unfold Box at h
  rw [hh] at h
  injection h with h
  injection h with _ h4
  exact hne h4
theorem Rd.away {α : Type} {cells : α → List Value} {sz : Nat} {v : Value} {l : List α} (h : Rd cells sz w lo hi v l) (hg : g < lo ∨ hi ≤ g) (off : Nat) (vs : List Value) : Rd cells sz (setL w g off vs) lo hi v l :=
  h.keep fun b o h1 h2 => World.cell?_of_block (a := ⟨b, o, none⟩) (setL_other vs w g off b (by omega))
/-- a row is kept where a row of another element type is written -/
theorem Ow.row_type {α β : Type} {cells : α → List Value} {cells2 : β → List Value} {sz sz2 off n c lo2 hi2 : Nat} {v : Value} {l : List α} {l2 : List β} (h : Ow cells2 sz2 E2 w lo2 hi2 v l2) (ho : Ow cells sz E w lo hi (.slice (some ⟨b, off, none⟩) n c) l) (hn : 0 < n) (hne : E ≠ E2) (o : Nat) (vs : List Value) : Ow cells2 sz2 E2 (setL w b o vs) lo2 hi2 v l2 := by
  have hl : n = l.length := by obtain ⟨_, _, hv, _⟩ := ho; injection hv
  exact h.turned_type ho ⟨some b, setL_grown vs w b o, fun g e => ⟨by omega, by simpa [Value.ownBlock] using e⟩⟩ hne
theorem Ow.dropn {α : Type} {cells : α → List Value} {sz n c : Nat} {A : Option Addr} {l : List α} (h : Ow cells sz E w lo hi (.slice A n c) l) {k : Nat} (hk : k ≤ n) : Ow cells sz E w lo hi (.slice (if c = k then A else Option.map (fun x => x.add (k * sz)) A) (n - k) (c - k)) (l.drop k) := by
  obtain ⟨A', c', hv, h1, h2, h3⟩ := h
  injection hv with e1 e2 e3
  subst e1; subst e2; subst e3
  have hl : (l.drop k).length = l.length - k := by rw [List.length_drop]
  refine ⟨_, c - k, by rw [hl], by omega, by omega, fun hn => ?_⟩
  obtain ⟨b, off, cur, hA, hb1, hb2, hh, hx⟩ := h3 (by omega)
  refine ⟨b, off + k * sz, cur, by rw [if_neg (by omega), hA]; simp [Go.WideShapes.add_plain], hb1, hb2, hh, fun i x hi j u hu => ?_⟩
  rw [List.getElem?_drop] at hi
  have := hx (k + i) x hi j u hu
  rwa [show off + (k + i) * sz + j = off + k * sz + i * sz + j by rw [Nat.add_mul]; omega] at this
/-- an own row is kept where only new blocks have come -/
theorem own_below {base sz n : Nat} {v : Value} {xs : List Value} (h : w.ownsRow base E sz v n xs) (hb : Below w.heap.size w w') : w'.ownsRow base E sz v n xs :=
  h.kept (World.grownBy.mk hb.os hb.tape hb.output hb.size (fun k hk _ => hb.block k hk) : w.grownBy w' none) (by cases hv : v.ownBlock <;> simp)
theorem own_box_ne {base sz n : Nat} {v : Value} {xs : List Value} (h : w.ownsRow base E sz v n xs) (hb : Box w g E2 cs) (hne : E ≠ E2) : v.ownBlock ≠ some g := by
  intro e
  rcases h.2 with ⟨rfl, _⟩ | ⟨g', cap, cur, rfl, _, hh, _⟩
  · simp [Value.ownBlock] at e
  · simp only [Value.ownBlock, Option.some.injEq] at e
    subst e
    unfold Box at hb
    rw [hh] at hb
    injection hb with hb
    injection hb with _ h4
    exact hne h4
/-- an own row is kept where a box of another type is written -/
theorem own_box {base sz n : Nat} {v : Value} {xs : List Value} (h : w.ownsRow base E sz v n xs) (hb : Box w g E2 cs) (hne : E ≠ E2) (off : Nat) (vs : List Value) : (setL w g off vs).ownsRow base E sz v n xs :=
  h.kept (setL_grown vs w g off) (.inr (own_box_ne h hb hne))
/-- a box is kept where an own row of another type has grown -/
theorem Box.grown_own {base sz n : Nat} {v : Value} {xs : List Value} (h : Box w g E2 cs) (hr : w.ownsRow base E sz v n xs) (hg : w.grownBy w' v.ownBlock) (hne : E ≠ E2) : Box w' g E2 cs :=
  h.keep (hg.block g h.lt (fun e => own_box_ne hr h hne e.symm))
/-- a box is kept where a row of another type has turned -/
theorem Box.turned {α : Type} {cells : α → List Value} {sz : Nat} {v : Value} {l : List α} (h : Box w g E2 cs) (ho : Ow cells sz E w lo hi v l) (ht : Turned w w' v l.length) (hne : E ≠ E2) : Box w' g E2 cs := by
  obtain ⟨row, hg, hw⟩ := ho.turned_in ht
  refine h.keep (hg.block g h.lt (fun e => ?_))
  obtain ⟨_, _, cur, hh⟩ := hw g e.symm
  unfold Box at h
  rw [hh] at h
  injection h with h
  injection h with _ h4
  exact hne h4
theorem Rd.n_eq {α : Type} {cells : α → List Value} {sz n c : Nat} {A : Option Addr} {l : List α} (h : Rd cells sz w lo hi (.slice A n c) l) : n = l.length ∧ n ≤ c ∧ c ≤ maxLen := by
  obtain ⟨A', c', hv, h1, h2, _⟩ := h
  injection hv with e1 e2 e3
  subst e2; subst e3
  exact ⟨rfl, h1, h2⟩
end

end Go.Proofs.YtengaccnncnipaaGreat

/- Small functions that processor interfaces lean on, in the program and in the reference. Conditions: at most 1048576 numbers; the interrupt lies in a slot. -/
namespace Go.Proofs.YtengaccnncnipaaGreat
open Go.RowKit Go.ChangeShapes Go.WideShapes Go.Deep

theorem l1Own_any (v : Value) (l : List Int) (w : World) {lo hi : Nat} (h : Rd Nm.cells 1 w lo hi v l) (hh : hi ≤ w.heap.size) (hl : l.length ≤ 1048576) :
    Calls Tryz.prog 102 #[v] w fun e w' => ∃ v', e = .returned v' ∧ Ow Nm.cells 1 3 w' w.heap.size w'.heap.size v' l ∧ Below w.heap.size w w' := by
  have o4 := own_empty w (base := w.heap.size) 3 1 (Nat.le_refl _)
  have b4 := (Below.refl w.heap.size w).alloc (Nat.le_refl _) (.cells #[] 3)
  have h4 := h.below b4 hh
  obtain ⟨A, n, c, rfl, H, hc, hm⟩ := h.form
  rw [← H.out] at hl
  go_enter Tryz.func102, Tryz.ntmps102
  go_wp2_with (at_builtin; (refine Nm.app_rd rfl _ _ rfl w.heap.size (.slice (some ⟨w.heap.size, 0, none⟩) 0 0) 0 [] rfl o4 rfl h4 (by omega) (by simp) ?_); (intro v3 w3 o3 g3))
  have oR := Ow.of_own Nm.cells_len o3 (l := l) (by simp) (by rw [← H.out]; omega)
  have b3 : Below w.heap.size w w3 := b4.grown g3 (by simp) (own_ge o4)
  obtain ⟨A3, n3, d3, rfl, _, _, _⟩ := oR.rd.form
  go_ret
  exact ⟨.slice A3 n3 d3, rfl, oR, b3⟩
theorem copyInts_any (v : Value) (l : List Int) (w : World) {lo hi : Nat} (h : Rd Nm.cells 1 w lo hi v l) (hh : hi ≤ w.heap.size) (hl : l.length ≤ 1048576) :
    Calls Tryz.prog 82 #[v] w fun e w' => ∃ v', e = .returned v' ∧ Ow Nm.cells 1 3 w' w.heap.size w'.heap.size v' l ∧ Below w.heap.size w w' := by
  have o4 := own_empty w (base := w.heap.size) 3 1 (Nat.le_refl _)
  have b4 := (Below.refl w.heap.size w).alloc (Nat.le_refl _) (.cells #[] 3)
  have h4 := h.below b4 hh
  obtain ⟨A, n, c, rfl, H, hc, hm⟩ := h.form
  rw [← H.out] at hl
  go_enter Tryz.func82, Tryz.ntmps82
  go_wp2_with (at_builtin; (refine Nm.app_rd rfl _ _ rfl w.heap.size (.slice (some ⟨w.heap.size, 0, none⟩) 0 0) 0 [] rfl o4 rfl h4 (by omega) (by simp) ?_); (intro v3 w3 o3 g3))
  have oR := Ow.of_own Nm.cells_len o3 (l := l) (by simp) (by rw [← H.out]; omega)
  have b3 : Below w.heap.size w w3 := b4.grown g3 (by simp) (own_ge o4)
  obtain ⟨A3, n3, d3, rfl, _, _, _⟩ := oR.rd.form
  go_ret
  exact ⟨.slice A3 n3 d3, rfl, oR, b3⟩
theorem l1Least_any (a b : Int) (w : World) : Calls Tryz.prog 114 #[.int .i64 a, .int .i64 b] w fun e w' => e = .returned (.int .i64 (minI a b)) ∧ w = w' := by
  by_cases h : a < b
  · have HF := Lib.hid (show minI a b = a from if_pos h)
    go_enter Tryz.func114, Tryz.ntmps114
    go_wp2_with fail
    go_ret
    exact ⟨ret_int HF.out.symm, rfl⟩
  · have HF := Lib.hid (show minI a b = b from if_neg h)
    go_enter Tryz.func114, Tryz.ntmps114
    go_wp2_with fail
    go_ret
    exact ⟨ret_int HF.out.symm, rfl⟩
theorem equalInts_any (v1 v2 : Value) (l1 l2 : List Int) (w : World) {lo1 hi1 lo2 hi2 : Nat} (h1 : Rd Nm.cells 1 w lo1 hi1 v1 l1) (h2 : Rd Nm.cells 1 w lo2 hi2 v2 l2) (hh1 : hi1 ≤ w.heap.size) (hh2 : hi2 ≤ w.heap.size) :
    Calls Tryz.prog 84 #[v1, v2] w fun e w' => e = .returned (.bool (l1 == l2)) ∧ Below w.heap.size w w' := by
  obtain ⟨A, n, c, rfl, H, hc, hm⟩ := h1.form
  obtain ⟨A2, n2, c2, rfl, H2, hc2, hm2⟩ := h2.form
  by_cases hn : n = n2
  · subst hn
    have hnd : ((n : Int) != (n : Int)) = false := by simp
    go_enter Tryz.func84, Tryz.ntmps84
    go_wp2_with fail
    go_loopw [13] (fun i wr => ∃ k : Nat, k ≤ n ∧ i = .int .i64 k ∧ Below w.heap.size w wr ∧ Hid (l1.take k = l2.take k)) (fun i _ => n - (intOf i).toNat)
    case atStart => exact ⟨0, Nat.zero_le _, rfl, Below.refl _ _, Lib.hid rfl⟩
    case round =>
      obtain ⟨k, hk, rfl, hb, HE⟩ := hrel
      by_cases hlt : k < n
      · obtain ⟨b, off, x, rfl, hx, _, _, f0⟩ := Nm.get h1 hlt hb hh1
        obtain ⟨b2, off2, y, rfl, hy, _, _, g0⟩ := Nm.get h2 hlt hb hh2
        have hki : (k : Int) < (n : Int) := by omega
        by_cases hq : x = y
        · subst hq
          have HE2 := Lib.hid (show l1.take (k + 1) = l2.take (k + 1) from by rw [List.take_add_one, List.take_add_one, HE.out, hx.out, hy.out])
          have hqd : (x != x) = false := by simp
          clear HE
          go_wp2_with fail
          go_quiet (fail)
          go_wp2_with fail
          go_roundw
          case rel => exact ⟨k + 1, by omega, by go_num, below_drewN hb _, HE2⟩
          case measure => simp [intOf]; omega
        · have HF := Lib.hid (show (l1 == l2) = false from by
            rw [beq_eq_false_iff_ne]
            intro e
            have h3 := hx.out
            rw [e, hy.out] at h3
            exact hq (Option.some.inj h3).symm)
          have hqd : (x != y) = true := by simpa using hq
          go_wp2_with fail
          go_quiet (fail)
          go_wp2_with fail
          go_ret
          exact ⟨ret_bool HF.out.symm, below_drewN hb _⟩
      · have HF := Lib.hid (show (l1 == l2) = true from by
          have hkn : k = n := by omega
          have h3 := HE.out
          rw [List.take_of_length_le (by rw [← H.out]; omega), List.take_of_length_le (by rw [← H2.out]; omega)] at h3
          simpa using h3)
        go_wp2_with fail
        go_ret
        exact ⟨ret_bool HF.out.symm, hb⟩
  · have HF := Lib.hid (show (l1 == l2) = false from by
      rw [beq_eq_false_iff_ne]
      intro e
      apply hn
      rw [H.out, H2.out, e])
    have hnd : ((n : Int) != (n2 : Int)) = true := by rw [bne_iff_ne]; omega
    go_enter Tryz.func84, Tryz.ntmps84
    go_wp2_with fail
    go_ret
    exact ⟨ret_bool HF.out.symm, Below.refl _ _⟩
theorem priorityIn_any (v : Value) (ls : List Sl) (i : Int) (w : World) {lo hi : Nat} (h : Rd Sl.cells 3 w lo hi v ls) (hh : hi ≤ w.heap.size) {k : Nat} (hk : Sl.ix ls i = k) (hkl : k < ls.length) :
    Calls Tryz.prog 86 #[v, .int .i64 i] w fun e w' => e = .returned (.int .i64 (Sl.lvl ls i)) ∧ Below w.heap.size w w' := by
  have c1 := implFind_b v ls i w h hh
  obtain ⟨A, n, c, rfl, H, hc, hm⟩ := h.form
  have hkn : k < n := by rw [H.out]; exact hkl
  have hki : (k : Int) < (n : Int) := by omega
  have hs := List.getElem?_eq_getElem hkl
  have HF := Lib.hid (show Sl.lvl ls i = (ls[k]).prio from by rw [Sl.lvl, hk, Sl.at_get hs])
  have HS := Lib.hid hs
  rw [hk] at c1
  clear hk hs
  generalize ls[k] = s at HF HS
  go_enter Tryz.func86, Tryz.ntmps86
  go_wp2_with fail
  refine c1.mono ?_; rintro q_ w1 ⟨rfl, b1⟩
  obtain ⟨b, off, s', rfl, hs', _, _, f0, f1, f2⟩ := Sl.get h hkn b1 hh
  obtain rfl : s = s' := Option.some.inj (HS.out.symm.trans hs'.out)
  clear hs'
  go_wp2_with fail
  go_ret
  exact ⟨ret_int HF.out.symm, b1⟩
set_option maxHeartbeats 2000000 in
theorem l10Level_any (vs vw : Value) (ls : List Sl) (i : Int) (w : World) {lo hi : Nat} (h : Rd Sl.cells 3 w lo hi vs ls) (hh : hi ≤ w.heap.size) {k : Nat} (hk : Sl.ix ls i = k) (hkl : k < ls.length) :
    Calls Tryz.prog 101 #[.agg #[vs, vw], .int .i64 i] w fun e w' => e = .returned (.int .i64 (Sl.lvl ls i)) ∧ Below w.heap.size w w' := by
  have b0 := (Below.refl w.heap.size w).alloc (Nat.le_refl _) (.cells #[vs, vw] 33)
  have z0 : (w.alloc (.cells #[vs, vw] 33)).heap.size = w.heap.size + 1 := by simp
  have bq := Box.new w #[vs, vw] 33 rfl
  have h' := h.below b0 hh
  obtain ⟨A, n, c, rfl, H, hc, hm⟩ := h.form
  clear h
  have hkn : k < n := by rw [H.out]; exact hkl
  have hki : (k : Int) < (n : Int) := by omega
  have hs := List.getElem?_eq_getElem hkl
  have HF := Lib.hid (show Sl.lvl ls i = (ls[k]).prio from by rw [Sl.lvl, hk, Sl.at_get hs])
  have HS := Lib.hid hs
  have HK := Lib.hid hk
  clear hk hs
  generalize ls[k] = s at HF HS
  go_enter Tryz.func101, Tryz.ntmps101
  go_wp2_with fail
  generalize w.alloc _ = w0 at *
  have x0 := bq.cell (j := 0) rfl
  obtain ⟨b, off, s', rfl, hs', _, hb1, f0, f1, f2⟩ := Sl.get h' hkn (Below.refl w0.heap.size w0) (by omega)
  obtain rfl : s = s' := Option.some.inj (HS.out.symm.trans hs'.out)
  clear hs'
  have c1 := fun W hs hh => (l8Find_any (.slice (some ⟨b, off, none⟩) n c) ls i W (lo := lo) (hi := hi) hs hh).mono (R' := fun e w' => e = .returned (.int .i64 k) ∧ w' = W) (fun e w' h => ⟨h.1.trans (ret_int HK.out), h.2.symm⟩)
  go_quiet ((go_at_call 135; refine Calls.quiet_of_same (c1 _ (h'.drewN _) (by simp; omega))))
  go_wp2_with fail
  go_ret
  exact ⟨ret_int HF.out.symm, below_drewN b0 _⟩

end Go.Proofs.YtengaccnncnipaaGreat

/- slices.Delete of one waiting interrupt from a row of the call's own. Condition: the place lies in the row. -/
namespace Go.Proofs.YtengaccnncnipaaGreat
open Go.RowKit Go.ChangeShapes Go.WideShapes Go.Deep

theorem setCells_setL2 (b : Nat) : ∀ (vs : List Value) (w : World) (o : Nat), w.setCells b o vs = setL w b o vs
  | [], _, _ => rfl
  | v :: vs, w, o => by unfold World.setCells setL; exact setCells_setL2 b vs _ (o + 1)

/-- one element less: what stood behind it has moved down, the last place is whatever -/
theorem Ow.erase {α : Type} {cells : α → List Value} {sz : Nat} {E : TypeId} {w : World} {lo hi b off n c k : Nat} {l : List α} (hs : ∀ y, (cells y).length = sz) (hsz : 0 < sz) (h : Ow cells sz E w lo hi (.slice (some ⟨b, off, none⟩) n c) l) (hk : k < n) (vs : List Value) (hv : vs.length = sz) :
    Ow cells sz E (setL (setL w b (off + k * sz) ((l.drop (k + 1)).flatMap cells)) b (off + (n - 1) * sz) vs) lo hi (.slice (some ⟨b, off, none⟩) (n - 1) c) (l.eraseIdx k) := by
  obtain ⟨A', c', hv', hc, hm, h⟩ := h
  injection hv' with e1 e2 e3
  subst e1; subst e2; subst e3
  obtain ⟨b', off', cur, hA, hb1, hb2, hh, hx⟩ := h (by omega)
  injection hA with hA
  injection hA with e1 e2
  subst e1; subst e2
  have hlast : off + l.length * sz ≤ cur.size := by
    have hl : l[l.length - 1]? = some (l[l.length - 1]'(by omega)) := List.getElem?_eq_getElem _
    have hj : (cells (l[l.length - 1]'(by omega)))[sz - 1]? = some ((cells (l[l.length - 1]'(by omega)))[sz - 1]'(by rw [hs]; omega)) := List.getElem?_eq_getElem _
    have := (Array.getElem?_eq_some_iff.1 (hx _ _ hl _ _ hj)).1
    have e : l.length * sz = (l.length - 1) * sz + sz := by rw [← Nat.succ_mul]; congr 1; omega
    omega
  have hdl : (l.drop (k + 1)).length = l.length - (k + 1) := List.length_drop
  have hfl : ((l.drop (k + 1)).flatMap cells).length = (l.length - (k + 1)) * sz := by rw [flat_len hs, hdl]
  have hmul : k * sz + (l.length - (k + 1)) * sz + sz = l.length * sz := by
    rw [← Nat.add_mul, ← Nat.succ_mul]; congr 1; omega
  have hm1 : (l.length - 1) * sz + sz = l.length * sz := by rw [← Nat.succ_mul]; congr 1; omega
  obtain ⟨c1, f1, f2, f3, f4⟩ := setL_row E ((l.drop (k + 1)).flatMap cells) w b (off + k * sz) cur hh (by rw [hfl]; omega)
  obtain ⟨c2, g1, g2, g3, g4⟩ := setL_row E vs (setL w b (off + k * sz) ((l.drop (k + 1)).flatMap cells)) b (off + (l.length - 1) * sz) c1 f1 (by rw [hv]; omega)
  have hel : (l.eraseIdx k).length = l.length - 1 := by rw [List.length_eraseIdx, if_pos hk]
  refine ⟨_, c, by rw [hel], by omega, hm, fun hn => ⟨b, off, c2, rfl, hb1, hb2, g1, fun i x hi j u hu => ?_⟩⟩
  have hj : j < sz := by rw [← hs x]; exact (List.getElem?_eq_some_iff.1 hu).1
  have hil : i < l.length - 1 := by rw [← hel]; exact (List.getElem?_eq_some_iff.1 hi).1
  have hmi : (i + 1) * sz ≤ (l.length - 1) * sz := Nat.mul_le_mul_right _ (by omega)
  rw [Nat.succ_mul] at hmi
  rw [g4 _ (by omega)]
  rw [List.getElem?_eraseIdx] at hi
  split at hi
  · rename_i hik
    have hmk : (i + 1) * sz ≤ k * sz := Nat.mul_le_mul_right _ (by omega)
    rw [Nat.succ_mul] at hmk
    rw [f4 _ (by omega)]
    exact hx i x hi j u hu
  · rename_i hik
    have h1 : (l.drop (k + 1))[i - k]? = some x := by rw [List.getElem?_drop, show k + 1 + (i - k) = i + 1 by omega]; exact hi
    have h2 := f3 _ u (flat_get hs _ _ x j u h1 hu)
    have hmul2 : k * sz + (i - k) * sz = i * sz := by rw [← Nat.add_mul]; congr 1; omega
    rw [show off + k * sz + ((i - k) * sz + j) = off + i * sz + j by omega] at h2
    exact h2


end Go.Proofs.YtengaccnncnipaaGreat

/- The library's sort of numbers, of any length, by the kit's contract: the library's functions of this program are those of the contract, number by number. Condition: at most 1048576 numbers. -/
namespace Go.Proofs.YtengaccnncnipaaGreat
open Go.RowKit Go.ChangeShapes Go.WideShapes Go.Deep

def laysSort_ren : Go.Shelf.Ren := ⟨fun | 189 => 83 | 125 => 127 | 257 => 126 | 128 => 166 | 129 => 167 | 294 => 157 | 295 => 158 | 296 => 159 | 297 => 160 | 298 => 161 | 299 => 162 | 216 => 163 | 300 => 164 | 301 => 165 | 328 => 183 | 329 => 184 | 330 => 185 | 331 => 186 | 332 => 187 | 215 => 188 | 343 => 191 | n => n, fun | 28 => 22 | 3 => 3 | 46 => 125 | 0 => 0 | 51 => 161 | 53 => 96 | 4 => 4 | 183 => 154 | 182 => 153 | 131 => 64 | 5 => 5 | 9 => 9 | 218 => 171 | 222 => 175 | 228 => 178 | 229 => 179 | n => n, fun | n => n⟩
theorem laysSort : Go.Proofs.Lays.n189 Tryz.prog laysSort_ren where
  mixed := by kernel_rfl
  f125 := Tryz.func127.trans (congrArg some (by kernel_rfl))
  f128 := Tryz.func166.trans (congrArg some (by kernel_rfl))
  f129 := Tryz.func167.trans (congrArg some (by kernel_rfl))
  f189 := Tryz.func83.trans (congrArg some (by kernel_rfl))
  f215 := Tryz.func188.trans (congrArg some (by kernel_rfl))
  f216 := Tryz.func163.trans (congrArg some (by kernel_rfl))
  f257 := Tryz.func126.trans (congrArg some (by kernel_rfl))
  f294 := Tryz.func157.trans (congrArg some (by kernel_rfl))
  f295 := Tryz.func158.trans (congrArg some (by kernel_rfl))
  f296 := Tryz.func159.trans (congrArg some (by kernel_rfl))
  f297 := Tryz.func160.trans (congrArg some (by kernel_rfl))
  f298 := Tryz.func161.trans (congrArg some (by kernel_rfl))
  f299 := Tryz.func162.trans (congrArg some (by kernel_rfl))
  f300 := Tryz.func164.trans (congrArg some (by kernel_rfl))
  f301 := Tryz.func165.trans (congrArg some (by kernel_rfl))
  f328 := Tryz.func183.trans (congrArg some (by kernel_rfl))
  f329 := Tryz.func184.trans (congrArg some (by kernel_rfl))
  f330 := Tryz.func185.trans (congrArg some (by kernel_rfl))
  f331 := Tryz.func186.trans (congrArg some (by kernel_rfl))
  f332 := Tryz.func187.trans (congrArg some (by kernel_rfl))
  f343 := Tryz.func191.trans (congrArg some (by kernel_rfl))
  t0 := Tryz.underlying0
  a0 := Tryz.isAgg0
  z0 := Tryz.sizeOf0
  v0 := Tryz.zeroValue0
  t3 := Tryz.underlying3
  a3 := Tryz.isAgg3
  z3 := Tryz.sizeOf3
  v3 := Tryz.zeroValue3
  t4 := Tryz.underlying4
  a4 := Tryz.isAgg4
  z4 := Tryz.sizeOf4
  v4 := Tryz.zeroValue4
  t5 := Tryz.underlying5
  a5 := Tryz.isAgg5
  z5 := Tryz.sizeOf5
  v5 := Tryz.zeroValue5
  t9 := Tryz.underlying9
  a9 := Tryz.isAgg9
  z9 := Tryz.sizeOf9
  v9 := Tryz.zeroValue9
  t28 := Tryz.underlying22
  a28 := Tryz.isAgg22
  z28 := Tryz.sizeOf22
  v28 := Tryz.zeroValue22
  t46 := Tryz.underlying125
  a46 := Tryz.isAgg125
  z46 := Tryz.sizeOf125
  v46 := Tryz.zeroValue125
  t51 := Tryz.underlying161
  a51 := Tryz.isAgg161
  z51 := Tryz.sizeOf161
  v51 := Tryz.zeroValue161
  t53 := Tryz.underlying96
  a53 := Tryz.isAgg96
  z53 := Tryz.sizeOf96
  v53 := Tryz.zeroValue96
  t131 := Tryz.underlying64
  a131 := Tryz.isAgg64
  z131 := Tryz.sizeOf64
  v131 := Tryz.zeroValue64
  t182 := Tryz.underlying153
  a182 := Tryz.isAgg153
  z182 := Tryz.sizeOf153
  v182 := Tryz.zeroValue153
  t183 := Tryz.underlying154
  a183 := Tryz.isAgg154
  z183 := Tryz.sizeOf154
  v183 := Tryz.zeroValue154
  t218 := Tryz.underlying171
  a218 := Tryz.isAgg171
  z218 := Tryz.sizeOf171
  v218 := Tryz.zeroValue171
  t222 := Tryz.underlying175
  a222 := Tryz.isAgg175
  z222 := Tryz.sizeOf175
  v222 := Tryz.zeroValue175
  t228 := Tryz.underlying178
  a228 := Tryz.isAgg178
  z228 := Tryz.sizeOf178
  v228 := Tryz.zeroValue178
  t229 := Tryz.underlying179
  a229 := Tryz.isAgg179
  z229 := Tryz.sizeOf179
  v229 := Tryz.zeroValue179

theorem sortI_any (w0 : World) (A : Option Addr) (n c : Nat) (l : List Int) (hl : l.length ≤ 1048576) (w : World) {hi : Nat} (hb0 : Below w0.heap.size w0 w) (h : Ow Nm.cells 1 3 w w0.heap.size hi (.slice A n c) l) (hh : hi ≤ w.heap.size) :
    Calls Tryz.prog 83 #[.slice A n c] w fun e w' => e = .returned (.tuple #[]) ∧ Ow Nm.cells 1 3 w' w0.heap.size hi (.slice A n c) (l.mergeSort fun x y => decide (x ≤ y)) ∧ hi ≤ w'.heap.size ∧ Below w0.heap.size w0 w' := by
  have hn := h.rd.n_eq
  rcases Nat.eq_zero_or_pos l.length with h0 | h0
  · have : l = [] := List.eq_nil_of_length_eq_zero h0
    subst this
    have := sortInts_any w0 _ [] (by simp) w hb0 h hh
    simpa [sortK, List.mergeSort] using this
  · have hpos : 0 < n := by omega
    obtain ⟨b, off, x, rfl, _, hb1, hb2, _⟩ := Nm.get h.rd hpos (Below.refl w.heap.size w) hh
    have hcell : ∀ j, j < l.length → w.cell? ⟨b, off + j, none⟩ = some (.int .i64 (l.getD j 0)) := fun j hj => by
      obtain ⟨_, _, y, e, hy, _, _, f0⟩ := Nm.get h.rd (k := j) (by omega) (Below.refl w.heap.size w) hh
      injection e with e
      injection e with e1 e2
      subst e1; subst e2
      rw [f0, List.getD_eq_getElem?_getD, hy.out]; rfl
    have hfz := h.frozen hpos
    have hH := Lib.holds_of_ints (n := n) (zs := l) (w := w) (b := b) (off := off) (by omega) hcell (fun j _ => hfz _)
    have hlt : l.take n = l := List.take_of_length_le (by omega)
    rw [hlt] at hH
    have hcon := Any.slices_Sort_int laysSort b off c l w hH (by omega) (by omega)
    rw [← hn.1] at hcon
    refine hcon.mono ?_
    rintro e w' ⟨rfl, q, os, hw⟩
    have hw2 := hw.trans (Lib.sorted_world _ w b off q _ _ os hH (by simp))
    rw [setCells_setL2] at hw2
    have hml : (l.mergeSort fun x y => decide (x ≤ y)).length = l.length := List.length_mergeSort _
    have hg : (w.drewN q).grownBy w' (some b) := by
      rw [hw2]
      have h1 := setL_grown ((l.mergeSort fun x y => decide (x ≤ y)).map (Value.int .i64)) (w.drewN q) b off
      exact ⟨h1.os, h1.tape, h1.output, Nat.le_trans h1.size (by simp [Go.Sort.grow]), fun i hi hne => by
        rw [← h1.block i hi hne]
        simp only [Go.Sort.grow, Array.getElem?_append]
        rw [if_pos (by have := h1.size; omega)]⟩
    have hsz : w.heap.size ≤ w'.heap.size := hg.size
    refine ⟨rfl, ?_, by omega, (below_drewN hb0 q).grown hg (by have := hb0.size; exact this) (fun j hj => by injection hj with hj; omega)⟩
    obtain ⟨A', c', hv, hc, hm, hx⟩ := h
    injection hv with e1 e2 e3
    subst e1; subst e2; subst e3
    refine ⟨_, c, by rw [hml], by omega, hm, fun _ => ?_⟩
    obtain ⟨b', off', cur, hA, h1, h2, hh', hx⟩ := hx h0
    injection hA with hA
    injection hA with e1 e2
    subst e1; subst e2
    have hsize : off + l.length ≤ cur.size := by
      have hl2 : l[l.length - 1]? = some (l[l.length - 1]'(by omega)) := List.getElem?_eq_getElem _
      have := (Array.getElem?_eq_some_iff.1 (hx _ _ hl2 0 _ rfl)).1
      omega
    obtain ⟨cur', f1, f2, f3, _⟩ := setL_row 3 ((l.mergeSort fun x y => decide (x ≤ y)).map (Value.int .i64)) (w.drewN q) b off cur hh' (by rw [List.length_map, hml]; exact hsize)
    refine ⟨b, off, cur', rfl, h1, h2, ?_, fun k x hk j u hu => ?_⟩
    · rw [hw2]
      simp only [Go.Sort.grow, Array.getElem?_append]
      rw [if_pos (by have := (Array.getElem?_eq_some_iff.1 f1).1; exact this)]
      exact f1
    · have hj : j = 0 := by have := (List.getElem?_eq_some_iff.1 hu).1; simp [Nm.cells] at this; omega
      subst hj
      simp only [Nm.cells, List.getElem?_cons_zero, Option.some.injEq] at hu
      subst hu
      have := f3 k (.int .i64 x) (by rw [List.getElem?_map, hk]; rfl)
      rwa [Nat.mul_one, Nat.add_zero]

end Go.Proofs.YtengaccnncnipaaGreat

/- Whether a processor interface is valid, in the program and in the reference. Condition: at most 1048576 numbers on the stack. -/
namespace Go.Proofs.YtengaccnncnipaaGreat
open Go.RowKit Go.ChangeShapes Go.WideShapes Go.Deep

theorem Fa.good_no1 {m : Int} {st : List Int} {ls : List Sl} {lw : List Wt} (h : inB m 0 16 = false) : Fa.good m st ls lw = false := by simp [Fa.good, h]
theorem Fa.good_no2 {m : Int} {st : List Int} {ls : List Sl} {lw : List Wt} (h : Qu.good ls lw = false) : Fa.good m st ls lw = false := by simp [Fa.good, h]
theorem Fa.good_at {m : Int} {st : List Int} {ls : List Sl} {lw : List Wt} (h : inB m 0 16 = true) (h2 : Qu.good ls lw = true) : Fa.good m st ls lw = (Fa.same st ls && Fa.descTo ls st st.length) := by simp [Fa.good, h, h2]
theorem Fa.desc_mono {ls : List Sl} {st : List Int} {k n : Nat} (hk : k ≤ n) (h : Fa.descTo ls st n = true) : Fa.descTo ls st k = true := Fa.descTo_iff.2 fun j hj => Fa.descTo_iff.1 h j (by omega)
/-- an active interrupt lies in a slot -/
theorem Sl.active_ix {ls : List Sl} (hg : Sl.good ls = true) {i : Int} (h : i ∈ Sl.active ls) : ∃ k : Nat, Sl.ix ls i = k ∧ k < ls.length := by
  obtain ⟨p, s, hs, ha, rfl, _⟩ := Sl.act_active.1 h
  obtain ⟨k, hk⟩ := List.getElem?_of_mem hs
  exact ⟨k, (Sl.lvl_of hg hk (Sl.isAct_used ha)).1, (List.getElem?_eq_some_iff.1 hk).1⟩

set_option maxHeartbeats 1600000 in
theorem implIsInterface_any (m : Int) (vt vs vw : Value) (st : List Int) (ls : List Sl) (lw : List Wt) (w : World) {lo hi lo2 hi2 lo3 hi3 : Nat} (h0 : Rd Nm.cells 1 w lo3 hi3 vt st) (h : Rd Sl.cells 3 w lo hi vs ls) (h2 : Rd Wt.cells 2 w lo2 hi2 vw lw) (hh0 : hi3 ≤ w.heap.size) (hh : hi ≤ w.heap.size) (hh2 : hi2 ≤ w.heap.size) (hl : st.length ≤ 1048576) :
    Calls Tryz.prog 35 #[.agg #[.int .i64 m, vt, vs, vw]] w fun e w' => e = .returned (.bool (Fa.good m st ls lw)) ∧ Below w.heap.size w w' := by
  have b0 := (Below.refl w.heap.size w).alloc (Nat.le_refl _) (.cells #[.int .i64 m, vt, vs, vw] 35)
  have z0 : (w.alloc (.cells #[.int .i64 m, vt, vs, vw] 35)).heap.size = w.heap.size + 1 := by simp
  have bx := Box.new w #[.int .i64 m, vt, vs, vw] 35 rfl
  have ht := h0.below b0 hh0
  have hs := h.below b0 hh
  have hw := h2.below b0 hh2
  have hv0 := h0.form
  have hv := h.form
  have hv2 := h2.form
  clear h0 h h2
  generalize hwA : w.alloc (.cells #[.int .i64 m, vt, vs, vw] 35) = wA at *
  obtain ⟨At, nt, dt, rfl, Ht, hdt, hmt⟩ := hv0
  obtain ⟨A0, n0, d0, rfl, H0, hd0, hm0⟩ := hv
  obtain ⟨A1, n1, d1, rfl, H1, hd1, hm1⟩ := hv2
  have c1 := fun W => isMask_any m W
  have c2 := implIsQueue_any _ _ ls lw wA hs hw (by omega) (by omega)
  have x0 := bx.cell (j := 0) rfl
  have x1 := bx.cell (j := 1) rfl
  have x2 := bx.cell (j := 2) rfl
  have x3 := bx.cell (j := 3) rfl
  cases hm : inB m 0 16
  · have HF := Lib.hid (Fa.good_no1 (st := st) (ls := ls) (lw := lw) hm)
    rw [hm] at c1
    clear hm
    go_enter Tryz.func35, Tryz.ntmps35
    go_wp2_with fail
    refine (c1 _).mono ?_; rintro q_ w_ ⟨rfl, rfl⟩
    go_wp2_with fail
    go_ret
    exact ⟨ret_bool HF.out.symm, b0⟩
  rw [hm] at c1
  cases hq : Qu.good ls lw
  · have HF := Lib.hid (Fa.good_no2 (m := m) (st := st) hq)
    rw [hq] at c2
    clear hm hq
    go_enter Tryz.func35, Tryz.ntmps35
    go_wp2_with fail
    refine (c1 _).mono ?_; rintro q_ w_ ⟨rfl, rfl⟩
    go_wp2_with fail
    refine c2.mono ?_; rintro q_ w1 ⟨rfl, b1⟩
    go_wp2_with fail
    go_ret
    exact ⟨ret_bool HF.out.symm, b0.trans (b1.mono (by omega))⟩
  rw [hq] at c2
  have HG := Lib.hid (Qu.parts_get (Qu.good_parts hq).1).1
  have HA := Lib.hid (Fa.good_at (st := st) hm hq)
  clear hm hq
  go_enter Tryz.func35, Tryz.ntmps35
  go_wp2_with fail
  clear hwA
  refine (c1 _).mono ?_; rintro q_ w_ ⟨rfl, rfl⟩
  go_wp2_with fail
  refine c2.mono ?_; rintro q_ w1 ⟨rfl, b1⟩
  replace bx := bx.below b1 bx.lt
  have z1 := b1.size
  replace ht := ht.below b1 (by omega)
  replace hs := hs.below b1 (by omega)
  replace b0 := b0.trans (b1.mono (by omega))
  clear b1 x0 x1 x2 x3 hw c1 c2
  have x1 := bx.cell (j := 1) rfl
  go_wp2_with fail
  refine (copyInts_any _ st w1 ht (by omega) hl).mono ?_; rintro q_ w2 ⟨v3, rfl, o3, b2⟩
  obtain ⟨A3, n3, d3, rfl, _, _, _⟩ := o3.rd.form
  clear x1
  have x1 := bx.below b2 bx.lt
  go_wp2_with fail
  refine (sortI_any w1 A3 n3 d3 st hl w2 b2 o3 (Nat.le_refl _)).mono ?_; rintro q_ w3 ⟨rfl, o4, hh4, b3⟩
  have z2 := b2.size
  have z3 := b3.size
  replace bx := bx.below b3 bx.lt
  replace ht := ht.below b3 (by omega)
  replace hs := hs.below b3 (by omega)
  replace b0 := b0.trans (b3.mono (by omega))
  clear b2 b3 x1 o3
  have x1 := bx.cell (j := 1) rfl
  have x2 := bx.cell (j := 2) rfl
  have x3 := bx.cell (j := 3) rfl
  go_wp2_with fail
  refine (activeIrqs_any _ ls w3 hs (by omega) HG.out).mono ?_; rintro q_ w4 ⟨v5, rfl, o5, b4⟩
  have z4 := b4.size
  replace bx := bx.below b4 bx.lt
  replace ht := ht.below b4 (by omega)
  replace hs := hs.below b4 (by omega)
  replace o4 := o4.below b4 (by omega)
  replace b0 := b0.trans (b4.mono (by omega))
  obtain ⟨A5, n5, d5, rfl, _, _, _⟩ := o5.rd.form
  have c3 := equalInts_any _ _ _ _ w4 o4.rd o5.rd (by omega) (by omega)
  clear b4 x1 x2 x3
  cases he : ((st.mergeSort fun x y => decide (x ≤ y)) == Sl.active ls)
  · have HF := Lib.hid (HA.out.trans (show (Fa.same st ls && Fa.descTo ls st st.length) = false from by simp [Fa.same, he]))
    rw [he] at c3
    clear he HA HG
    go_wp2_with fail
    refine c3.mono ?_; rintro q_ w5 ⟨rfl, b5⟩
    replace b0 := b0.trans (b5.mono (by omega))
    go_wp2_with fail
    go_ret
    exact ⟨ret_bool HF.out.symm, b0⟩
  have HS := Lib.hid (show Fa.same st ls = true from he)
  replace HA := Lib.hid (HA.out.trans (show (Fa.same st ls && Fa.descTo ls st st.length) = Fa.descTo ls st st.length from by simp [HS.out]))
  rw [he] at c3
  clear he
  go_wp2_with fail
  refine c3.mono ?_; rintro q_ w5 ⟨rfl, b5⟩
  have z5 := b5.size
  replace bx := bx.below b5 bx.lt
  replace ht := ht.below b5 (by omega)
  replace hs := hs.below b5 (by omega)
  replace b0 := b0.trans (b5.mono (by omega))
  clear b5 o4 o5 hh4 c3
  have hn := ht.n_eq.1
  have hc := ht.n_eq.2
  have hix : ∀ (j : Nat) (x : Int), st[j]? = some x → ∃ k : Nat, Sl.ix ls x = k ∧ k < ls.length := fun j x hx => Sl.active_ix HG.out (((Fa.same_iff.1 HS.out).2 x).1 (List.mem_of_getElem? hx))
  have zq : hi ≤ w5.heap.size := by omega
  have zq3 : hi3 ≤ w5.heap.size := by omega
  clear hh hh0 hh2 z0 z1 z2 z3 z4 z5 HG HS
  go_wp2_with fail
  go_loopw [4] (fun i wr => ∃ k : Nat, 1 ≤ k ∧ k ≤ nt + 1 ∧ i = .int .i64 k ∧ Below w5.heap.size w5 wr ∧ Hid (Fa.descTo ls st k = true)) (fun i _ => nt + 1 - (intOf i).toNat)
  case atStart => exact ⟨1, Nat.le_refl _, by omega, rfl, Below.refl _ _, Lib.hid rfl⟩
  case round =>
    obtain ⟨k, h1k, hk, rfl, hb, HD⟩ := hrel
    have bxr := bx.below hb bx.lt
    have x1 := bxr.cell (j := 1) rfl
    have x2 := bxr.cell (j := 2) rfl
    by_cases hlt : k < nt
    · obtain ⟨j, rfl⟩ : ∃ j, k = j + 1 := ⟨k - 1, by omega⟩
      obtain ⟨b, off, x, rfl, hx, _, _, f0⟩ := Nm.get ht hlt hb zq3
      obtain ⟨_, _, y, e, hy, _, _, g0⟩ := Nm.get ht (k := j) (by omega) hb zq3
      injection e with e
      injection e with e1 e2
      subst e1; subst e2
      have hki : ((j + 1 : Nat) : Int) < (nt : Int) := by omega
      have hj : (j : Int) < (nt : Int) := by omega
      have hsr := hs.below hb zq
      have zr := Nat.le_trans zq hb.size
      have cP := fun p i (H : Hid (∃ k : Nat, Sl.ix ls i = k ∧ k < ls.length)) => priorityIn_any _ ls i (ext wr p) (hsr.below (below_ext wr p) zr) (Nat.le_trans zr (below_ext wr p).size) H.out.choose_spec.1 H.out.choose_spec.2
      have HX := Lib.hid (hix _ _ hx.out)
      have HY := Lib.hid (hix _ _ hy.out)
      have hda : Fa.descAt ls st (j + 1) = decide (Sl.lvl ls x < Sl.lvl ls y) := by simp [Fa.descAt, List.getD_eq_getElem?_getD, hx.out, hy.out]
      have hbw := Nat.le_trans bx.lt hb.size
      clear hx hy
      have e0 := cell_ext f0; have e1 := cell_ext g0; have e2 := cell_ext x1; have e3 := cell_ext x2
      generalize Sl.lvl ls = L at cP hda
      by_cases hq : L x < L y
      · have HD2 := Lib.hid (show Fa.descTo ls st (j + 1 + 1) = true from by rw [Fa.descTo, HD.out, hda]; simpa using hq)
        have hd : decide (L y ≤ L x) = false := decide_eq_false (by omega)
        clear HD hda hq
        go_wp2_with fail
        refine wp_region_ext_all (by kernel_rfl) (by kernel_rfl) ?_
        repeat (go_big_quiet_step ((go_at_call 86; exact calls_ext (cP _ _ (by assumption)))))
        refine wpQuiet_nil ?_
        intro w6 b6
        clear e0 e1 e2 e3
        replace hb := hb.trans (b6.mono hb.size)
        go_wp2_with fail
        go_roundw
        case rel => exact ⟨j + 1 + 1, by omega, by omega, by go_num, hb, HD2⟩
        case measure => simp [intOf]; omega
      · have HF := Lib.hid (HA.out.trans (show Fa.descTo ls st st.length = false from by
          rw [← Bool.not_eq_true]
          intro h
          have := Fa.descTo_iff.1 h (j + 1) (by omega)
          rw [hda] at this
          exact hq (by simpa using this)))
        have hd : decide (L y ≤ L x) = true := decide_eq_true (by omega)
        clear HD hda hq HA
        go_wp2_with fail
        refine wp_region_ext_all (by kernel_rfl) (by kernel_rfl) ?_
        repeat (go_big_quiet_step ((go_at_call 86; exact calls_ext (cP _ _ (by assumption)))))
        refine wpQuiet_nil ?_
        intro w6 b6
        clear e0 e1 e2 e3
        replace hb := hb.trans (b6.mono hb.size)
        go_wp2_with fail
        go_ret
        exact ⟨ret_bool HF.out.symm, b0.trans (hb.mono b0.size)⟩
    · have HF := Lib.hid (HA.out.trans (Fa.desc_mono (by omega) HD.out))
      clear HA HD
      go_wp2_with fail
      go_ret
      exact ⟨ret_bool HF.out.symm, b0.trans (hb.mono b0.size)⟩

end Go.Proofs.YtengaccnncnipaaGreat

/- Whether a processor interface is valid, in the reference; the exported functions. No condition but room. -/
namespace Go.Proofs.YtengaccnncnipaaGreat
open Go.RowKit Go.ChangeShapes Go.WideShapes Go.Deep

/-- the value v holds a row in which x lies, or not -/
def Fa.HasB (w : World) (v : Value) (x : Int) (b : Bool) : Prop := ∃ (l : List Int) (lo hi : Nat), Rd Nm.cells 1 w lo hi v l ∧ hi ≤ w.heap.size ∧ l.contains x = b
theorem Fa.okAt_no1 {ls : List Sl} {st : List Int} {i : Nat} {x : Int} (h : (Sl.active ls).contains x = false) : Fa.okAt ls st i x = false := by unfold Fa.okAt; rw [h]; rfl
theorem Fa.okAt_no2 {ls : List Sl} {st : List Int} {i : Nat} {x : Int} (h : (st.take i).contains x = true) : Fa.okAt ls st i x = false := by unfold Fa.okAt; rw [h]; simp
theorem Fa.okAt_at {ls : List Sl} {st : List Int} {i : Nat} {x : Int} (h : (Sl.active ls).contains x = true) (h2 : (st.take i).contains x = false) : Fa.okAt ls st i x = Fa.descAt ls st i := by unfold Fa.okAt; rw [h, h2]; simp
theorem Fa.okAt_has {ls : List Sl} {st : List Int} {i : Nat} {x : Int} (h : Fa.okAt ls st i x = true) : x ∈ Sl.active ls := by
  simp only [Fa.okAt, Bool.and_eq_true, List.contains_eq_mem, decide_eq_true_eq] at h; exact h.1.1
theorem Fa.okTo_no {ls : List Sl} {st : List Int} {i : Nat} {x : Int} (hx : st[i]? = some x) (h : Fa.okAt ls st i x = false) : Fa.okTo ls st st.length = false := by
  rw [← Bool.not_eq_true]
  intro e
  rw [Fa.okTo_iff.1 e i x (List.getElem?_eq_some_iff.1 hx).1 hx] at h
  simp at h

set_option maxHeartbeats 4000000 in
theorem l10Good_any (m : Int) (vt vs vw : Value) (st : List Int) (ls : List Sl) (lw : List Wt) (w : World) {lo hi lo2 hi2 lo3 hi3 : Nat} (h0 : Rd Nm.cells 1 w lo3 hi3 vt st) (h : Rd Sl.cells 3 w lo hi vs ls) (h2 : Rd Wt.cells 2 w lo2 hi2 vw lw) (hh0 : hi3 ≤ w.heap.size) (hh : hi ≤ w.heap.size) (hh2 : hi2 ≤ w.heap.size) :
    Calls Tryz.prog 52 #[.agg #[.int .i64 m, vt, vs, vw]] w fun e w' => e = .returned (.bool (Fa.good m st ls lw)) ∧ Below w.heap.size w w' := by
  have b0 := (Below.refl w.heap.size w).alloc (Nat.le_refl _) (.cells #[.int .i64 m, vt, vs, vw] 35)
  have z0 : (w.alloc (.cells #[.int .i64 m, vt, vs, vw] 35)).heap.size = w.heap.size + 1 := by simp
  have bx := Box.new w #[.int .i64 m, vt, vs, vw] 35 rfl
  have ht := h0.below b0 hh0
  have hs := h.below b0 hh
  have hw := h2.below b0 hh2
  have hv0 := h0.form
  have hv := h.form
  have hv2 := h2.form
  clear h0 h h2
  generalize hwA : w.alloc (.cells #[.int .i64 m, vt, vs, vw] 35) = wA at *
  obtain ⟨At, nt, dt, rfl, Ht, hdt, hmt⟩ := hv0
  obtain ⟨A0, n0, d0, rfl, H0, hd0, hm0⟩ := hv
  obtain ⟨A1, n1, d1, rfl, H1, hd1, hm1⟩ := hv2
  have c1 := fun W => l1In_any m 0 16 W
  have c2 := l9Good_any _ _ ls lw wA hs hw (by omega) (by omega)
  have x0 := bx.cell (j := 0) rfl
  have x1 := bx.cell (j := 1) rfl
  have x2 := bx.cell (j := 2) rfl
  have x3 := bx.cell (j := 3) rfl
  cases hm : inB m 0 16
  · have HF := Lib.hid (Fa.good_no1 (st := st) (ls := ls) (lw := lw) hm)
    rw [hm] at c1
    clear hm
    go_enter Tryz.func52, Tryz.ntmps52
    go_wp2_with fail
    refine (c1 _).mono ?_; rintro q_ w_ ⟨rfl, rfl⟩
    go_wp2_with fail
    go_ret
    exact ⟨ret_bool HF.out.symm, b0⟩
  rw [hm] at c1
  cases hq : Qu.good ls lw
  · have HF := Lib.hid (Fa.good_no2 (m := m) (st := st) hq)
    rw [hq] at c2
    clear hm hq
    go_enter Tryz.func52, Tryz.ntmps52
    go_wp2_with fail
    refine (c1 _).mono ?_; rintro q_ w_ ⟨rfl, rfl⟩
    go_wp2_with fail
    refine c2.mono ?_; rintro q_ w1 ⟨rfl, b1⟩
    go_wp2_with fail
    go_ret
    exact ⟨ret_bool HF.out.symm, b0.trans (b1.mono (by omega))⟩
  rw [hq] at c2
  have HG := Lib.hid (Qu.parts_get (Qu.good_parts hq).1).1
  have HA := Lib.hid ((Fa.good_at (st := st) hm hq).trans (Fa.ok_eq st ls).symm)
  clear hm hq
  go_enter Tryz.func52, Tryz.ntmps52
  go_wp2_with fail
  clear hwA
  refine (c1 _).mono ?_; rintro q_ w_ ⟨rfl, rfl⟩
  go_wp2_with fail
  refine c2.mono ?_; rintro q_ w1 ⟨rfl, b1⟩
  replace bx := bx.below b1 bx.lt
  have z1 := b1.size
  replace ht := ht.below b1 (by omega)
  replace hs := hs.below b1 (by omega)
  replace b0 := b0.trans (b1.mono (by omega))
  clear b1 x0 x1 x2 x3 hw c1 c2
  have x1 := bx.cell (j := 1) rfl
  have x2 := bx.cell (j := 2) rfl
  have x3 := bx.cell (j := 3) rfl
  go_wp2_with fail
  refine (l8Active_any _ ls w1 hs (by omega) HG.out).mono ?_; rintro q_ w4 ⟨v5, rfl, o5, b4⟩
  have z4 := b4.size
  replace bx := bx.below b4 bx.lt
  replace ht := ht.below b4 (by omega)
  replace hs := hs.below b4 (by omega)
  replace b0 := b0.trans (b4.mono (by omega))
  obtain ⟨A5, n5, d5, rfl, _, _, _⟩ := o5.form
  clear b4 x1 x2 x3
  have hn := Nat.le_of_eq ht.n_eq.1
  have hn' := Nat.le_of_eq ht.n_eq.1.symm
  have hc := ht.n_eq.2
  have hn5 := Nat.le_of_eq o5.n_eq.1
  have hn5' := Nat.le_of_eq o5.n_eq.1.symm
  have zq : hi ≤ w4.heap.size := by omega
  have zq3 : hi3 ≤ w4.heap.size := by omega
  clear hh hh0 hh2 z0 z1 z4
  go_wp2_with fail
  go_loopw [4] (fun i wr => ∃ k : Nat, k ≤ nt ∧ i = .int .i64 k ∧ Below w4.heap.size w4 wr ∧ Hid (Fa.okTo ls st k = true)) (fun i _ => nt - (intOf i).toNat)
  case atStart => exact ⟨0, Nat.zero_le _, rfl, Below.refl _ _, Lib.hid rfl⟩
  case round =>
    obtain ⟨k, hk, rfl, hb, HD⟩ := hrel
    have bxr := bx.below hb bx.lt
    have x1 := bxr.cell (j := 1) rfl
    have x2 := bxr.cell (j := 2) rfl
    have x3 := bxr.cell (j := 3) rfl
    by_cases hlt : k < nt
    · obtain ⟨b, off, x, rfl, hx, _, hbh, f0⟩ := Nm.get ht hlt hb zq3
      have hki : (k : Int) < (nt : Int) := by omega
      have hkn : k ≤ nt := by omega
      have hkc : k ≤ dt := by omega
      have htr := ht.below hb zq3
      have hsr := hs.below hb zq
      have zr := Nat.le_trans zq hb.size
      have zr3 := Nat.le_trans zq3 hb.size
      have hac : ∀ p, Fa.HasB (ext wr p) (.slice A5 n5 d5) x ((Sl.active ls).contains x) := fun p => ⟨_, _, _, (o5.below hb (Nat.le_refl _)).below (below_ext wr p) hb.size, Nat.le_trans hb.size (below_ext wr p).size, rfl⟩
      have htc : ∀ p, Fa.HasB (ext wr p) (.slice (some ⟨b, off, none⟩) k dt) x ((st.take k).contains x) := fun p => ⟨_, _, _, (htr.take_ hkn).below (below_ext wr p) zr3, Nat.le_trans zr3 (below_ext wr p).size, rfl⟩
      have cH := fun p v x b (H : ∀ p, Fa.HasB (ext wr p) v x b) => (l1Has_any v _ x (ext wr p) (H p).choose_spec.choose_spec.choose_spec.1 (H p).choose_spec.choose_spec.choose_spec.2.1).mono (R' := fun e w' => e = .returned (.bool b) ∧ ext wr p = w') (fun e w' h => ⟨h.1.trans (ret_bool (H p).choose_spec.choose_spec.choose_spec.2.2), h.2⟩)
      have e0 := cell_ext f0; have e1 := cell_ext x1; have e2 := cell_ext x2; have e3 := cell_ext x3
      cases h1 : (Sl.active ls).contains x
      · have HF := Lib.hid (HA.out.trans (show _ = false from by rw [Fa.okTo_no hx.out (Fa.okAt_no1 h1)]; rfl))
        rw [h1] at hac
        clear h1 hx htc
        go_wp2_with fail
        refine wp_region_ext_all (by kernel_rfl) (by kernel_rfl) ?_
        repeat (go_big_quiet_step ((go_at_call 100; exact calls_ext0 (cH _ _ _ _ (by assumption)))))
        refine wpQuiet_nil ?_
        intro w6 b6
        clear e0 e1 e2 e3
        replace hb := hb.trans (b6.mono hb.size)
        go_wp2_with fail
        go_ret
        exact ⟨ret_bool HF.out.symm, b0.trans (hb.mono b0.size)⟩
      rw [h1] at hac
      cases h2 : (st.take k).contains x
      rotate_left
      · have HF := Lib.hid (HA.out.trans (show _ = false from by rw [Fa.okTo_no hx.out (Fa.okAt_no2 h2)]; rfl))
        rw [h2] at htc
        clear h1 h2 hx
        go_wp2_with fail
        refine wp_region_ext_all (by kernel_rfl) (by kernel_rfl) ?_
        repeat (go_big_quiet_step ((go_at_call 100; exact calls_ext0 (cH _ _ _ _ (by assumption)))))
        refine wpQuiet_nil ?_
        intro w6 b6
        clear e0 e1 e2 e3
        replace hb := hb.trans (b6.mono hb.size)
        go_wp2_with fail
        go_ret
        exact ⟨ret_bool HF.out.symm, b0.trans (hb.mono b0.size)⟩
      rw [h2] at htc
      have hat := Fa.okAt_at h1 h2
      have hxa : x ∈ Sl.active ls := by simpa using h1
      have HX := Lib.hid (Sl.active_ix HG.out hxa)
      clear h1 h2 hxa
      rcases Nat.eq_zero_or_pos k with hk0 | hk0
      · obtain rfl : k = 0 := by omega
        simp only [Nat.add_zero] at e0
        have HD2 := Lib.hid (show Fa.okTo ls st (0 + 1) = true from by rw [Fa.okTo_succ hx.out, HD.out, hat]; rfl)
        clear HD hat hx hk0
        go_wp2_with fail
        refine wp_region_ext_all (by kernel_rfl) (by kernel_rfl) ?_
        repeat (go_big_quiet_step ((go_at_call 100; exact calls_ext0 (cH _ _ _ _ (by assumption)))))
        refine wpQuiet_nil ?_
        intro w6 b6
        clear e0 e1 e2 e3 f0 x1 x2 x3
        replace hb := hb.trans (b6.mono hb.size)
        clear b6
        go_wp2_with fail
        refine wp_region_ext_all (by kernel_rfl) (by kernel_rfl) ?_
        repeat (go_big_quiet_step (fail))
        refine wpQuiet_nil ?_
        intro w7 b7
        replace hb := hb.trans (b7.mono hb.size)
        go_wp2_with fail
        go_roundw
        case rel => exact ⟨0 + 1, by omega, by go_num, hb, HD2⟩
        case measure => simp [intOf]; omega
      obtain ⟨j, rfl⟩ : ∃ j, k = j + 1 := ⟨k - 1, by omega⟩
      obtain ⟨_, _, y, e, hy, _, _, g0⟩ := Nm.get ht (k := j) (by omega) hb zq3
      injection e with e
      injection e with e1 e2
      subst e1; subst e2
      have hd : decide ((0 : Int) < ((j + 1 : Nat) : Int)) = true := decide_eq_true (by omega)
      have hj : (j : Int) < (nt : Int) := by omega
      have HY := Lib.hid (Sl.active_ix HG.out (Fa.okAt_has (Fa.okTo_iff.1 HD.out j y (by omega) hy.out)))
      have hda : Fa.descAt ls st (j + 1) = decide (Sl.lvl ls x < Sl.lvl ls y) := by simp [Fa.descAt, List.getD_eq_getElem?_getD, hx.out, hy.out]
      rw [hda] at hat
      have HT := Lib.hid (show Fa.okTo ls st (j + 1 + 1) = Fa.okAt ls st (j + 1) x from by rw [Fa.okTo_succ hx.out, HD.out]; rfl)
      have HTN := Lib.hid (fun h => Fa.okTo_no (ls := ls) hx.out h)
      have LV := Lib.hid (show ∃ L, L = Sl.lvl ls from ⟨_, rfl⟩)
      obtain ⟨L, hL⟩ := LV.out
      clear LV
      rw [← hL] at hat
      have HL := Lib.hid hL
      clear hL hx hy hda HD
      by_cases hq : L x < L y
      · have HD2 := Lib.hid (show Fa.okTo ls st (j + 1 + 1) = true from by rw [HT.out, hat]; simpa using hq)
        have hd2 : decide (L y ≤ L x) = false := decide_eq_false (by omega)
        clear HT HTN hat hq
        go_wp2_with fail
        refine wp_region_ext_all (by kernel_rfl) (by kernel_rfl) ?_
        repeat (go_big_quiet_step ((go_at_call 100; exact calls_ext0 (cH _ _ _ _ (by assumption)))))
        refine wpQuiet_nil ?_
        intro w6 b6
        clear e0 e1 e2 e3 cH
        have f0' := ((bcell b6).1 _ _ (by omega)).trans f0
        have g0' := ((bcell b6).1 _ _ (by omega)).trans g0
        have y1 := ((bcell b6).1 _ _ bxr.lt).trans x1
        have y2 := ((bcell b6).1 _ _ bxr.lt).trans x2
        have y3 := ((bcell b6).1 _ _ bxr.lt).trans x3
        replace hsr := hsr.below b6 zr
        replace zr := Nat.le_trans zr b6.size
        replace hb := hb.trans (b6.mono hb.size)
        clear f0 g0 x1 x2 x3 b6 htr
        have cL := fun p i (H : Hid (∃ k : Nat, Sl.ix ls i = k ∧ k < ls.length)) => (l10Level_any _ (.slice A1 n1 d1) ls i (ext w6 p) (hsr.below (below_ext w6 p) zr) (Nat.le_trans zr (below_ext w6 p).size) H.out.choose_spec.1 H.out.choose_spec.2).mono (R' := fun e w' => e = .returned (.int .i64 (L i)) ∧ Below (ext w6 p).heap.size (ext w6 p) w') (fun e w' h => ⟨h.1.trans (ret_int (congrFun HL.out i).symm), h.2⟩)
        have e0 := cell_ext f0'; have e1 := cell_ext g0'; have e2 := cell_ext y1; have e3 := cell_ext y2; have e4 := cell_ext y3
        go_wp2_with fail
        refine wp_region_ext_all (by kernel_rfl) (by kernel_rfl) ?_
        repeat (go_big_quiet_step ((go_at_call 101; exact calls_ext (cL _ _ (by assumption)))))
        refine wpQuiet_nil ?_
        intro w7 b7
        clear e0 e1 e2 e3 e4
        replace hb := hb.trans (b7.mono hb.size)
        go_wp2_with fail
        go_roundw
        case rel => exact ⟨j + 1 + 1, by omega, by go_num, hb, HD2⟩
        case measure => simp [intOf]; omega
      · have HF := Lib.hid (HA.out.trans (show _ = false from by rw [HTN.out (by rw [hat]; simpa using hq)]; rfl))
        have hd2 : decide (L y ≤ L x) = true := decide_eq_true (by omega)
        clear HT HTN hat hq
        go_wp2_with fail
        refine wp_region_ext_all (by kernel_rfl) (by kernel_rfl) ?_
        repeat (go_big_quiet_step ((go_at_call 100; exact calls_ext0 (cH _ _ _ _ (by assumption)))))
        refine wpQuiet_nil ?_
        intro w6 b6
        clear e0 e1 e2 e3 cH
        have f0' := ((bcell b6).1 _ _ (by omega)).trans f0
        have g0' := ((bcell b6).1 _ _ (by omega)).trans g0
        have y1 := ((bcell b6).1 _ _ bxr.lt).trans x1
        have y2 := ((bcell b6).1 _ _ bxr.lt).trans x2
        have y3 := ((bcell b6).1 _ _ bxr.lt).trans x3
        replace hsr := hsr.below b6 zr
        replace zr := Nat.le_trans zr b6.size
        replace hb := hb.trans (b6.mono hb.size)
        clear f0 g0 x1 x2 x3 b6 htr
        have cL := fun p i (H : Hid (∃ k : Nat, Sl.ix ls i = k ∧ k < ls.length)) => (l10Level_any _ (.slice A1 n1 d1) ls i (ext w6 p) (hsr.below (below_ext w6 p) zr) (Nat.le_trans zr (below_ext w6 p).size) H.out.choose_spec.1 H.out.choose_spec.2).mono (R' := fun e w' => e = .returned (.int .i64 (L i)) ∧ Below (ext w6 p).heap.size (ext w6 p) w') (fun e w' h => ⟨h.1.trans (ret_int (congrFun HL.out i).symm), h.2⟩)
        have e0 := cell_ext f0'; have e1 := cell_ext g0'; have e2 := cell_ext y1; have e3 := cell_ext y2; have e4 := cell_ext y3
        go_wp2_with fail
        refine wp_region_ext_all (by kernel_rfl) (by kernel_rfl) ?_
        repeat (go_big_quiet_step ((go_at_call 101; exact calls_ext (cL _ _ (by assumption)))))
        refine wpQuiet_nil ?_
        intro w7 b7
        clear e0 e1 e2 e3 e4
        replace hb := hb.trans (b7.mono hb.size)
        go_wp2_with fail
        go_ret
        exact ⟨ret_bool HF.out.symm, b0.trans (hb.mono b0.size)⟩
    · have HD2 := Lib.hid (show Fa.okTo ls st st.length = true from by have := HD.out; rwa [show k = st.length from by omega] at this)
      by_cases hnn : nt = n5
      · have HF := Lib.hid (HA.out.trans (show _ = true from by rw [HD2.out, decide_eq_true (by omega)]; rfl))
        have hnd : ((nt : Int) == (n5 : Int)) = true := by rw [hnn]; simp
        clear HD HD2 HA hnn hn hn5 hn' hn5'
        go_wp2_with fail
        go_ret
        exact ⟨ret_bool HF.out.symm, b0.trans (hb.mono b0.size)⟩
      · have HF := Lib.hid (HA.out.trans (show _ = false from by rw [HD2.out, decide_eq_false (by omega)]; rfl))
        have hnd : ((nt : Int) == (n5 : Int)) = false := by rw [beq_eq_false_iff_ne]; omega
        clear HD HD2 HA hnn hn hn5 hn' hn5'
        go_wp2_with fail
        go_ret
        exact ⟨ret_bool HF.out.symm, b0.trans (hb.mono b0.size)⟩

end Go.Proofs.YtengaccnncnipaaGreat

/- The type 'Queue' of the law text and of the program: what the law text's own helpers do with it. No condition. -/
namespace Go.Proofs.YtengaccnncnipaaGreat
open Go.RowKit Go.ChangeShapes Go.WideShapes Go.Deep

def Qc (x : Value × Value) : List Value := [x.1, x.2]
theorem Qc.box {w : World} {g lo hi : Nat} {a b : Value} (h : Rd Qc 2 w lo hi (.slice (some ⟨g, 0, none⟩) 1 1) [(a, b)]) : w.cell? ⟨g, 0, none⟩ = some a ∧ w.cell? ⟨g, 1, none⟩ = some b := by
  obtain ⟨A, c, hv, _, _, h⟩ := h
  injection hv with e1 e2 e3
  subst e1
  obtain ⟨g', off, hA, _, _, h⟩ := h (by simp)
  injection hA with hA
  injection hA with e4 e5
  subst e4; subst e5
  exact ⟨by simpa using h 0 (a, b) rfl 0 _ rfl, by simpa using h 0 (a, b) rfl 1 _ rfl⟩

theorem cell_a1 (w : World) (cs : Array Value) (E : TypeId) (o2 o3 : Obj) {j : Nat} {u : Value} (h : cs[j]? = some u) : (((w.alloc (.cells cs E)).alloc o2).alloc o3).cell? ⟨w.heap.size, j, none⟩ = some u := by
  rw [World.cell?_alloc_lt _ _ _ (by simp; omega), World.cell?_alloc_lt _ _ _ (by simp)]
  exact cell_new w cs E rfl h
theorem cell_a2 (w : World) (cs : Array Value) (E : TypeId) (o1 o3 : Obj) {j : Nat} {u : Value} (h : cs[j]? = some u) : (((w.alloc o1).alloc (.cells cs E)).alloc o3).cell? ⟨w.heap.size + 1, j, none⟩ = some u := by
  rw [World.cell?_alloc_lt _ _ _ (by simp)]
  exact cell_new _ cs E (by simp) h
theorem cell_a3 (w : World) (cs : Array Value) (E : TypeId) (o1 o2 : Obj) {j : Nat} {u : Value} (h : cs[j]? = some u) : (((w.alloc o1).alloc o2).alloc (.cells cs E)).cell? ⟨w.heap.size + 2, j, none⟩ = some u := cell_new _ cs E (by simp) h
theorem froz_new (w : World) (cs : Array Value) (E : TypeId) {g : Nat} (hg : g = w.heap.size) (j : Nat) : (w.alloc (.cells cs E)).frozen? ⟨g, j, none⟩ = false := by
  subst hg
  exact frozen_of_row _ _ j cs E (heap_alloc_new w _)
theorem froz_a3 (w : World) (cs : Array Value) (E : TypeId) (o1 o2 : Obj) (j : Nat) : (((w.alloc o1).alloc o2).alloc (.cells cs E)).frozen? ⟨w.heap.size + 2, j, none⟩ = false := froz_new _ cs E (by simp) j
theorem froz_a2 (w : World) (cs : Array Value) (E : TypeId) (o1 o3 : Obj) (j : Nat) : (((w.alloc o1).alloc (.cells cs E)).alloc o3).frozen? ⟨w.heap.size + 1, j, none⟩ = false := by
  have hb := (Below.refl ((w.alloc o1).alloc (.cells cs E)).heap.size ((w.alloc o1).alloc (.cells cs E))).alloc (Nat.le_refl _) o3
  rw [(bcell hb).2 (w.heap.size + 1) j (by simp)]
  exact froz_new _ cs E (by simp) j

def szQ (left : Int) (n m : Nat) : Int := if szL left n < 0 then -1 else if szL (szL left n) m < 0 then -1 else szL (szL left n) m

theorem szQueue_any (vs vw : Value) (ls : List Sl) (lw : List Wt) (w : World) {lo hi lo2 hi2 : Nat} (h : Rd Sl.cells 3 w lo hi vs ls) (h2 : Rd Wt.cells 2 w lo2 hi2 vw lw) (hh : hi ≤ w.heap.size) (hh2 : hi2 ≤ w.heap.size) (left : Int) (h0 : 0 ≤ left) (h1 : left ≤ 1048576) :
    Calls Tryz.prog 51 #[.agg #[vs, vw], .int .i64 left] w fun e w' => e = .returned (.int .i64 (szQ left ls.length lw.length)) ∧ Below w.heap.size w w' := by
  have b0 := (Below.refl w.heap.size w).alloc (Nat.le_refl _) (.cells #[vs, vw] 26)
  have c1 := Sl.szS_any vs ls _ (h.below b0 hh) left h0 h1
  have hz : szL left ls.length = -1 ∨ (0 ≤ szL left ls.length ∧ szL left ls.length ≤ 1048576) := by unfold szL; split <;> omega
  have c2 := fun h0 h1 => Wt.szS_any vw lw _ (h2.below b0 hh2) (szL left ls.length) h0 h1
  have HE := Lib.hid (show szQ left ls.length lw.length = if szL left ls.length < 0 then -1 else if szL (szL left ls.length) lw.length < 0 then -1 else szL (szL left ls.length) lw.length from rfl)
  generalize szL left ls.length = z at *
  rcases hz with rfl | ⟨hz0, hz1⟩
  · clear c2
    go_enter Tryz.func51, Tryz.ntmps51
    go_wp2_with fail
    refine c1.mono ?_; rintro e w1 ⟨rfl, rfl⟩
    go_wp2_with fail
    go_ret
    exact ⟨ret_int (by rw [HE.out]; rfl), b0⟩
  · have c2 := c2 hz0 hz1
    have hz2 : szL z lw.length = -1 ∨ 0 ≤ szL z lw.length := by unfold szL; split <;> omega
    have hzd : decide (z < 0) = false := decide_eq_false (by omega)
    have HE2 := Lib.hid (show szQ left ls.length lw.length = if szL z lw.length < 0 then -1 else szL z lw.length from by rw [HE.out, if_neg (by omega)])
    generalize szL z lw.length = y at *
    clear HE
    rcases hz2 with rfl | hy
    · go_enter Tryz.func51, Tryz.ntmps51
      go_wp2_with fail
      refine c1.mono ?_; rintro e w1 ⟨rfl, rfl⟩
      go_wp2_with fail
      refine c2.mono ?_; rintro e w1 ⟨rfl, rfl⟩
      go_wp2_with fail
      go_ret
      exact ⟨ret_int (by rw [HE2.out]; rfl), b0⟩
    · have hyd : decide (y < 0) = false := decide_eq_false (by omega)
      have HE3 := Lib.hid (show szQ left ls.length lw.length = y from by rw [HE2.out, if_neg (by omega)])
      go_enter Tryz.func51, Tryz.ntmps51
      go_wp2_with fail
      refine c1.mono ?_; rintro e w1 ⟨rfl, rfl⟩
      go_wp2_with fail
      refine c2.mono ?_; rintro e w1 ⟨rfl, rfl⟩
      go_wp2_with fail
      go_ret
      exact ⟨ret_int HE3.out.symm, b0⟩

set_option maxHeartbeats 1000000 in
theorem eqQueue_same (a1 a2 b1 b2 : Value) (ls : List Sl) (lw : List Wt) (w : World) {l1 h1 l2 h2 l3 h3 l4 h4 : Nat} (k1 : Rd Sl.cells 3 w l1 h1 a1 ls) (k2 : Rd Wt.cells 2 w l2 h2 a2 lw) (k3 : Rd Sl.cells 3 w l3 h3 b1 ls) (k4 : Rd Wt.cells 2 w l4 h4 b2 lw)
    (z1 : h1 ≤ w.heap.size) (z2 : h2 ≤ w.heap.size) (z3 : h3 ≤ w.heap.size) (z4 : h4 ≤ w.heap.size) :
    Calls Tryz.prog 59 #[.agg #[a1, a2], .agg #[b1, b2]] w fun e w' => e = .returned (.bool true) ∧ Below w.heap.size w w' := by
  have b0 : Below w.heap.size w ((w.alloc (.cells #[a1, a2] 33)).alloc (.cells #[b1, b2] 33)) := ((Below.refl w.heap.size w).alloc (Nat.le_refl _) _).alloc (by simp) _
  have z0 : ((w.alloc (.cells #[a1, a2] 33)).alloc (.cells #[b1, b2] 33)).heap.size = w.heap.size + 2 := by simp
  have e0 : ((w.alloc (.cells #[a1, a2] 33)).alloc (.cells #[b1, b2] 33)).cell? ⟨w.heap.size, 1, none⟩ = some a2 := by simp
  have e1 : ((w.alloc (.cells #[a1, a2] 33)).alloc (.cells #[b1, b2] 33)).cell? ⟨w.heap.size + 1, 1, none⟩ = some b2 := by simp
  have c1 := Sl.eqS_same a1 b1 ls _ (k1.below b0 z1) (k3.below b0 z3) (by omega) (by omega)
  have k2' := k2.below b0 z2
  have k4' := k4.below b0 z4
  clear k1 k2 k3 k4
  go_enter Tryz.func59, Tryz.ntmps59
  go_wp2_with fail
  generalize (w.alloc _).alloc _ = w0 at *
  refine c1.mono ?_; rintro e w1 ⟨rfl, b1⟩
  replace e0 := (b1.cell (p := ⟨w.heap.size, 1, none⟩) (by show w.heap.size < _; omega)).trans e0
  replace e1 := (b1.cell (p := ⟨w.heap.size + 1, 1, none⟩) (by show w.heap.size + 1 < _; omega)).trans e1
  have zz := b1.size
  have c2 := Wt.eqS_same a2 b2 lw w1 (k2'.below b1 (by omega)) (k4'.below b1 (by omega)) (by omega) (by omega)
  go_wp2_with fail
  refine c2.mono ?_; rintro e w2 ⟨rfl, b2⟩
  go_wp2_with fail
  go_ret
  exact ⟨rfl, b0.trans ((b1.mono (by omega)).trans (b2.mono (by omega)))⟩

set_option maxHeartbeats 1000000 in
theorem toQueue_any (vs vw : Value) (ls : List Sl) (lw : List Wt) (w : World) {lo hi lo2 hi2 : Nat} (h : Rd Sl.cells 3 w lo hi vs ls) (h2 : Rd Wt.cells 2 w lo2 hi2 vw lw) (hh : hi ≤ w.heap.size) (hh2 : hi2 ≤ w.heap.size) (hl : ls.length ≤ 1048576) (hl2 : lw.length ≤ 1048576) :
    Calls Tryz.prog 56 #[.agg #[vs, vw]] w fun e w' => ∃ v1 v2, e = .returned (.agg #[v1, v2]) ∧ Ow Sl.cells 3 127 w' w.heap.size w'.heap.size v1 ls ∧ Ow Wt.cells 2 134 w' w.heap.size w'.heap.size v2 lw ∧ Below w.heap.size w w' := by
  have b0 : Below w.heap.size w (((w.alloc (.cells #[vs, vw] 26)).alloc (.cells #[.slice none 0 0, .slice none 0 0] 33)).alloc (.cells #[.slice none 0 0, .slice none 0 0] 33)) := (((Below.refl w.heap.size w).alloc (Nat.le_refl _) _).alloc (by simp) _).alloc (by simp; omega) _
  have z0 : (((w.alloc (.cells #[vs, vw] 26)).alloc (.cells #[.slice none 0 0, .slice none 0 0] 33)).alloc (.cells #[.slice none 0 0, .slice none 0 0] 33)).heap.size = w.heap.size + 3 := by simp
  have a1 : (((w.alloc (.cells #[vs, vw] 26)).alloc (.cells #[.slice none 0 0, .slice none 0 0] 33)).alloc (.cells #[.slice none 0 0, .slice none 0 0] 33)).cell? ⟨w.heap.size, 1, none⟩ = some vw := cell_a1 w _ _ _ _ rfl
  have q0 : (((w.alloc (.cells #[vs, vw] 26)).alloc (.cells #[.slice none 0 0, .slice none 0 0] 33)).alloc (.cells #[.slice none 0 0, .slice none 0 0] 33)).cell? ⟨w.heap.size + 1, 0, none⟩ = some (.slice none 0 0) := cell_a2 w _ _ _ _ rfl
  have q1 : (((w.alloc (.cells #[vs, vw] 26)).alloc (.cells #[.slice none 0 0, .slice none 0 0] 33)).alloc (.cells #[.slice none 0 0, .slice none 0 0] 33)).cell? ⟨w.heap.size + 1, 1, none⟩ = some (.slice none 0 0) := cell_a2 w _ _ _ _ rfl
  have r0 : (((w.alloc (.cells #[vs, vw] 26)).alloc (.cells #[.slice none 0 0, .slice none 0 0] 33)).alloc (.cells #[.slice none 0 0, .slice none 0 0] 33)).cell? ⟨w.heap.size + 2, 0, none⟩ = some (.slice none 0 0) := cell_a3 w _ _ _ _ rfl
  have r1 : (((w.alloc (.cells #[vs, vw] 26)).alloc (.cells #[.slice none 0 0, .slice none 0 0] 33)).alloc (.cells #[.slice none 0 0, .slice none 0 0] 33)).cell? ⟨w.heap.size + 2, 1, none⟩ = some (.slice none 0 0) := cell_a3 w _ _ _ _ rfl
  have qz : ∀ j, (((w.alloc (.cells #[vs, vw] 26)).alloc (.cells #[.slice none 0 0, .slice none 0 0] 33)).alloc (.cells #[.slice none 0 0, .slice none 0 0] 33)).frozen? ⟨w.heap.size + 1, j, none⟩ = false := fun j => froz_a2 w _ _ _ _ j
  have rz : ∀ j, (((w.alloc (.cells #[vs, vw] 26)).alloc (.cells #[.slice none 0 0, .slice none 0 0] 33)).alloc (.cells #[.slice none 0 0, .slice none 0 0] 33)).frozen? ⟨w.heap.size + 2, j, none⟩ = false := fun j => froz_a3 w _ _ _ _ j
  have c1 := Sl.toS_any vs ls _ (h.below b0 hh) (by omega) hl
  have h2' := h2.below b0 hh2
  clear h h2
  go_enter Tryz.func56, Tryz.ntmps56
  go_wp2_with fail
  generalize ((w.alloc _).alloc _).alloc _ = w0 at *
  refine c1.mono ?_; rintro e w1 ⟨v1, rfl, o1, b1⟩
  obtain ⟨hc1, hf1⟩ := bcell b1
  replace a1 := (hc1 _ 1 (by omega)).trans a1
  replace q0 := (hc1 _ 0 (by omega)).trans q0
  replace q1 := (hc1 _ 1 (by omega)).trans q1
  replace r0 := (hc1 _ 0 (by omega)).trans r0
  replace r1 := (hc1 _ 1 (by omega)).trans r1
  replace qz := fun j => (hf1 _ j (by omega)).trans (qz j)
  replace rz := fun j => (hf1 _ j (by omega)).trans (rz j)
  have h3 := h2'.below b1 (by omega)
  have zz1 := b1.size
  have hb1 := b0.trans (b1.mono (by omega))
  clear hc1 hf1 c1 h2' b1
  obtain ⟨A1, n1, d1, rfl, _, _, _⟩ := o1.rd.form
  have s1 : (setL w1 (w.heap.size + 2) 0 [.slice A1 n1 d1]).heap.size = w1.heap.size := setL_size _ _ _ _
  have g1 : w1.grownBy (setL w1 (w.heap.size + 2) 0 [.slice A1 n1 d1]) (some (w.heap.size + 2)) := setL_grown _ _ _ _
  have bs1 := setL_below hb1 [.slice A1 n1 d1] (w.heap.size + 2) 0 (by omega)
  have x0 : (setL w1 (w.heap.size + 2) 0 [.slice A1 n1 d1]).cell? ⟨w.heap.size + 2, 0, none⟩ = some (.slice A1 n1 d1) := by simp [setL, go_sem, r0]
  have x1 : (setL w1 (w.heap.size + 2) 0 [.slice A1 n1 d1]).cell? ⟨w.heap.size + 2, 1, none⟩ = some (.slice none 0 0) := by simp [setL, go_sem, r1]
  have y0 : (setL w1 (w.heap.size + 2) 0 [.slice A1 n1 d1]).cell? ⟨w.heap.size + 1, 0, none⟩ = some (.slice none 0 0) := by simp [setL, go_sem, q0]
  have y1 : (setL w1 (w.heap.size + 2) 0 [.slice A1 n1 d1]).cell? ⟨w.heap.size + 1, 1, none⟩ = some (.slice none 0 0) := by simp [setL, go_sem, q1]
  have t1 : (setL w1 (w.heap.size + 2) 0 [.slice A1 n1 d1]).cell? ⟨w.heap.size, 1, none⟩ = some vw := by simp [setL, go_sem, a1]
  have fz : ∀ b j, w1.frozen? ⟨b, j, none⟩ = false → (setL w1 (w.heap.size + 2) 0 [.slice A1 n1 d1]).frozen? ⟨b, j, none⟩ = false := fun b j hq => by simpa [setL, go_sem] using hq
  have yz := fun j => fz _ _ (qz j)
  have xz := fun j => fz _ _ (rz j)
  have h4 : Rd Wt.cells 2 (setL w1 (w.heap.size + 2) 0 [.slice A1 n1 d1]) lo2 hi2 vw lw := h3.grown g1 (by omega) (fun g hg => by injection hg with hg; omega)
  have o2 : Ow Sl.cells 3 127 (setL w1 (w.heap.size + 2) 0 [.slice A1 n1 d1]) w0.heap.size w1.heap.size (.slice A1 n1 d1) ls := o1.keep fun q hq _ _ => setL_other _ _ _ _ q (by omega)
  have c2 := Wt.toS_any vw lw (setL w1 (w.heap.size + 2) 0 [.slice A1 n1 d1]) h4 (by omega) hl2
  go_wp2_with fail
  change Calls _ _ _ (setL w1 (w.heap.size + 2) 0 [.slice A1 n1 d1]) _
  clear a1 q0 q1 r0 r1 qz rz g1 fz h3 h4 hb1 o1
  generalize setL w1 (w.heap.size + 2) 0 [.slice A1 n1 d1] = w2 at *
  refine c2.mono ?_; rintro e w3 ⟨v2, rfl, o3, b3⟩
  obtain ⟨hc3, hf3⟩ := bcell b3
  replace x0 := (hc3 _ 0 (by omega)).trans x0
  replace x1 := (hc3 _ 1 (by omega)).trans x1
  replace y0 := (hc3 _ 0 (by omega)).trans y0
  replace y1 := (hc3 _ 1 (by omega)).trans y1
  replace yz := fun j => (hf3 _ j (by omega)).trans (yz j)
  replace xz := fun j => (hf3 _ j (by omega)).trans (xz j)
  have o4 := o2.below b3 (by omega)
  have zz3 := b3.size
  have hb3 := bs1.trans (b3.mono (by omega))
  clear hc3 hf3 c2 b3 o2 t1
  obtain ⟨A2, n2, d2, rfl, _, _, _⟩ := o3.rd.form
  go_wp2_with fail
  generalize hw : World.setCell (World.setCell (World.setCell _ _ _) _ _) _ _ = w4
  have u0 : w4.cell? ⟨w.heap.size + 1, 0, none⟩ = some (.slice A1 n1 d1) := by rw [← hw]; simp [go_sem, y0]
  have u1 : w4.cell? ⟨w.heap.size + 1, 1, none⟩ = some (.slice A2 n2 d2) := by rw [← hw]; simp [go_sem, y1]
  obtain rfl : w4 = setL (setL w3 (w.heap.size + 2) 1 [.slice A2 n2 d2]) (w.heap.size + 1) 0 [.slice A1 n1 d1, .slice A2 n2 d2] := hw.symm
  have hb4 := setL_below (setL_below hb3 [.slice A2 n2 d2] (w.heap.size + 2) 1 (by omega)) [.slice A1 n1 d1, .slice A2 n2 d2] (w.heap.size + 1) 0 (by omega)
  have s4 : (setL (setL w3 (w.heap.size + 2) 1 [.slice A2 n2 d2]) (w.heap.size + 1) 0 [.slice A1 n1 d1, .slice A2 n2 d2]).heap.size = w3.heap.size := by rw [setL_size, setL_size]
  have kk : ∀ q, w.heap.size + 3 ≤ q → (setL (setL w3 (w.heap.size + 2) 1 [.slice A2 n2 d2]) (w.heap.size + 1) 0 [.slice A1 n1 d1, .slice A2 n2 d2]).heap[q]? = w3.heap[q]? := fun q hq => by rw [setL_other _ _ _ _ q (by omega), setL_other _ _ _ _ q (by omega)]
  have o5 := o4.keep (w' := setL (setL w3 (w.heap.size + 2) 1 [.slice A2 n2 d2]) (w.heap.size + 1) 0 [.slice A1 n1 d1, .slice A2 n2 d2]) (fun q hq _ _ => kk q (by omega))
  have o6 := o3.keep (w' := setL (setL w3 (w.heap.size + 2) 1 [.slice A2 n2 d2]) (w.heap.size + 1) 0 [.slice A1 n1 d1, .slice A2 n2 d2]) (fun q hq _ _ => kk q (by omega))
  clear hw kk
  generalize setL (setL w3 (w.heap.size + 2) 1 [.slice A2 n2 d2]) (w.heap.size + 1) 0 [.slice A1 n1 d1, .slice A2 n2 d2] = w4 at *
  refine bodyPost_ret (by simp only [results, Tryz.results56]; simp [go_sem, u0, u1]; rfl) rfl ?_
  exact ⟨_, _, rfl, o5.mono (by omega) (by omega), o6.mono (by omega) (by omega), hb4⟩

set_option maxHeartbeats 1000000 in
theorem markQueue_any (vs vw : Value) (ls : List Sl) (lw : List Wt) (w : World) {lo hi lo2 hi2 : Nat} (h : Ow Sl.cells 3 127 w lo hi vs ls) (h2 : Ow Wt.cells 2 134 w lo2 hi2 vw lw) (hh : hi ≤ w.heap.size) (hh2 : hi2 ≤ w.heap.size) (hl : ls.length ≤ 1048576) (hl2 : lw.length ≤ 1048576) (k0 : Int) (h0 : 0 ≤ k0) (h1 : k0 ≤ 1000000000) :
    Calls Tryz.prog 60 #[.agg #[vs, vw], .int .i64 k0] w fun e w' => ∃ wa wb, e = .returned (.int .i64 (k0 + 3 * ls.length + 2 * lw.length)) ∧ Below w.heap.size w wa ∧ Ow Sl.cells 3 127 wb lo hi vs (Sl.markL k0 ls.length) ∧ Turned wa wb vs ls.length ∧ Ow Wt.cells 2 134 w' lo2 hi2 vw (Wt.markL (k0 + 3 * ls.length) lw.length) ∧ Turned wb w' vw lw.length ∧ Ow Wt.cells 2 134 wb lo2 hi2 vw lw := by
  have b0 := (Below.refl w.heap.size w).alloc (Nat.le_refl _) (.cells #[vs, vw] 33)
  have z0 : (w.alloc (.cells #[vs, vw] 33)).heap.size = w.heap.size + 1 := by simp
  have a1 : (w.alloc (.cells #[vs, vw] 33)).cell? ⟨w.heap.size, 1, none⟩ = some vw := by simp
  have o1 := h.below b0 hh
  have o2 := h2.below b0 hh2
  have c1 := Sl.markS_any vs ls _ o1 k0 h0 (by omega) hl
  clear h h2
  go_enter Tryz.func60, Tryz.ntmps60
  go_wp2_with fail
  generalize w.alloc _ = w0 at *
  refine c1.mono ?_; rintro e w1 ⟨rfl, p1, t1⟩
  obtain ⟨row, hg, hr⟩ := o1.turned_in t1
  have a2 : w1.cell? ⟨w.heap.size, 1, none⟩ = some vw := by
    rw [← a1]
    exact World.cell?_of_block (a := ⟨w.heap.size, 1, none⟩) (hg.block _ (by show w.heap.size < _; omega) (fun e => by have := hr _ e.symm; simp at this; omega))
  have o3 := o2.turned_type o1 t1 (by decide)
  have c2 := Wt.markS_any vw lw w1 o3 (k0 + 3 * ls.length) (by omega) (by omega) hl2
  clear a1 hg hr
  go_wp2_with fail
  refine c2.mono ?_; rintro e w2 ⟨rfl, p2, t2⟩
  go_wp2_with fail
  go_ret
  exact ⟨w0, w1, rfl, b0, p1, t1, p2, t2, o3⟩

set_option maxHeartbeats 1000000 in
theorem heldQueue_any (vs vw : Value) (n m : Nat) (w : World) {lo hi lo2 hi2 : Nat} {k0 : Int} (h : Rd Sl.cells 3 w lo hi vs (Sl.markL k0 n)) (h2 : Rd Wt.cells 2 w lo2 hi2 vw (Wt.markL (k0 + 3 * n) m)) (hh : hi ≤ w.heap.size) (hh2 : hi2 ≤ w.heap.size) (hl : n ≤ 1048576) (hl2 : m ≤ 1048576) (h0 : 0 ≤ k0) (h1 : k0 ≤ 1000000000) :
    Calls Tryz.prog 61 #[.agg #[vs, vw], .int .i64 k0] w fun e w' => e = .returned (.int .i64 (k0 + 3 * n + 2 * m)) ∧ Below w.heap.size w w' := by
  have b0 := (Below.refl w.heap.size w).alloc (Nat.le_refl _) (.cells #[vs, vw] 33)
  have a1 : (w.alloc (.cells #[vs, vw] 33)).cell? ⟨w.heap.size, 1, none⟩ = some vw := by simp
  have c1 := Sl.heldS_any vs _ (h.below b0 hh) h0 (by omega) hl
  have c2 := Wt.heldS_any vw _ (h2.below b0 hh2) (by omega) (by omega) hl2
  have d1 : decide (k0 + 3 * (n : Int) < 0) = false := decide_eq_false (by omega)
  have d2 : decide (k0 + 3 * (n : Int) + 2 * (m : Int) < 0) = false := decide_eq_false (by omega)
  go_enter Tryz.func61, Tryz.ntmps61
  go_wp2_with fail
  refine c1.mono ?_; rintro e w1 ⟨rfl, rfl⟩
  go_wp2_with fail
  refine c2.mono ?_; rintro e w1 ⟨rfl, rfl⟩
  go_wp2_with fail
  go_ret
  exact ⟨rfl, b0⟩

end Go.Proofs.YtengaccnncnipaaGreat
