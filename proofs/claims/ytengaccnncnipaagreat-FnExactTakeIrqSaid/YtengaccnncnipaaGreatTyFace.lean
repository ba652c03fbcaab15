/- The type 'Interface' of the law text and of the program: what the law text's own helpers do with it; opening one that came in. No condition but room. -/
import Derived.Test.YtengaccnncnipaaGreatQuOpen
import Derived.Test.YtengaccnncnipaaGreatTyInt
import Derived.Test.YtengaccnncnipaaGreatBox
import Derived.Deep.DeepCutAuto
namespace Go.Proofs.YtengaccnncnipaaGreat
open Go.RowKit Go.ChangeShapes Go.WideShapes Go.Deep

theorem szFace_any (m : Int) (vt vs vw : Value) (st : List Int) (ls : List Sl) (lw : List Wt) (w : World) {lo hi lo2 hi2 lo3 hi3 : Nat} (h0 : Rd Nm.cells 1 w lo3 hi3 vt st) (h : Rd Sl.cells 3 w lo hi vs ls) (h2 : Rd Wt.cells 2 w lo2 hi2 vw lw) (hh0 : hi3 ≤ w.heap.size) (hh : hi ≤ w.heap.size) (hh2 : hi2 ≤ w.heap.size) :
    Calls Tryz.prog 10 #[.agg #[.int .i64 m, vt, vs, vw], .int .i64 1048576] w fun e w' => ∃ q : Int, e = .returned (.int .i64 q) ∧ (q = -1 ∨ (0 ≤ q ∧ st.length + ls.length + lw.length ≤ 1048576)) ∧ Below w.heap.size w w' := by
  have b0 := (Below.refl w.heap.size w).alloc (Nat.le_refl _) (.cells #[.int .i64 m, vt, vs, vw] 28)
  have z0 : (w.alloc (.cells #[.int .i64 m, vt, vs, vw] 28)).heap.size = w.heap.size + 1 := by simp
  have bx := Box.new w #[.int .i64 m, vt, vs, vw] 28 rfl
  have ht := h0.below b0 hh0
  have hs := h.below b0 hh
  have hw := h2.below b0 hh2
  clear h0 h h2
  generalize hwA : w.alloc (.cells #[.int .i64 m, vt, vs, vw] 28) = wA at *
  have x1 := bx.cell (j := 1) rfl
  have x2 := bx.cell (j := 2) rfl
  have x3 := bx.cell (j := 3) rfl
  have c1 := Nm.szS_any vt st wA ht 1048576 (by omega) (by omega)
  by_cases hst : (st.length : Int) ≤ 1048576
  · rw [szL_yes hst] at c1
    obtain ⟨q1, hq1, hq1u⟩ : ∃ q1 : Int, q1 = 1048576 - (st.length : Int) ∧ 0 ≤ q1 := ⟨_, rfl, by omega⟩
    rw [← hq1] at c1
    have c2 := szQueue_any vs vw ls lw wA hs hw (by omega) (by omega) q1 hq1u (by omega)
    have hqd : decide (q1 < 0) = false := decide_eq_false (by omega)
    have HY := Lib.hid (show szQ q1 ls.length lw.length = -1 ∨ (0 ≤ szQ q1 ls.length lw.length ∧ st.length + ls.length + lw.length ≤ 1048576) from by
      unfold szQ szL
      split <;> split <;> omega)
    clear hq1
    generalize szQ q1 ls.length lw.length = y at c2 HY
    by_cases hy : y < 0
    · have hyd : decide (y < 0) = true := decide_eq_true hy
      go_enter Tryz.func10, Tryz.ntmps10
      go_wp2_with fail
      clear hwA
      refine c1.mono ?_; rintro q_ w_ ⟨rfl, rfl⟩
      go_wp2_with fail
      refine c2.mono ?_; rintro q_ w2 ⟨rfl, b2⟩
      go_wp2_with fail
      go_ret
      exact ⟨-1, rfl, .inl rfl, b0.trans (b2.mono (by omega))⟩
    · have hyd : decide (y < 0) = false := decide_eq_false hy
      go_enter Tryz.func10, Tryz.ntmps10
      go_wp2_with fail
      clear hwA
      refine c1.mono ?_; rintro q_ w_ ⟨rfl, rfl⟩
      go_wp2_with fail
      refine c2.mono ?_; rintro q_ w2 ⟨rfl, b2⟩
      go_wp2_with fail
      go_ret
      exact ⟨y, rfl, HY.out, b0.trans (b2.mono (by omega))⟩
  · rw [szL_no (by omega)] at c1
    go_enter Tryz.func10, Tryz.ntmps10
    go_wp2_with fail
    refine c1.mono ?_; rintro q_ w_ ⟨rfl, rfl⟩
    go_wp2_with fail
    go_ret
    exact ⟨-1, rfl, .inl rfl, b0⟩

set_option maxHeartbeats 2000000 in
theorem toFace_any (m : Int) (vt vs vw : Value) (st : List Int) (ls : List Sl) (lw : List Wt) (w : World) {lo hi lo2 hi2 lo3 hi3 : Nat} (h0 : Rd Nm.cells 1 w lo3 hi3 vt st) (h : Rd Sl.cells 3 w lo hi vs ls) (h2 : Rd Wt.cells 2 w lo2 hi2 vw lw) (hh0 : hi3 ≤ w.heap.size) (hh : hi ≤ w.heap.size) (hh2 : hi2 ≤ w.heap.size) (hl0 : st.length ≤ 1048576) (hl : ls.length ≤ 1048576) (hl2 : lw.length ≤ 1048576) :
    Calls Tryz.prog 12 #[.agg #[.int .i64 m, vt, vs, vw]] w fun e w' => ∃ v0 v1 v2, e = .returned (.agg #[.int .i64 m, v0, v1, v2]) ∧ Ow Nm.cells 1 3 w' w.heap.size w'.heap.size v0 st ∧ Ow Sl.cells 3 127 w' w.heap.size w'.heap.size v1 ls ∧ Ow Wt.cells 2 134 w' w.heap.size w'.heap.size v2 lw ∧ Below w.heap.size w w' := by
  have b0 : Below w.heap.size w (((w.alloc (.cells #[.int .i64 m, vt, vs, vw] 28)).alloc (.cells #[.int .i64 0, .slice none 0 0, .slice none 0 0, .slice none 0 0] 35)).alloc (.cells #[.int .i64 0, .slice none 0 0, .slice none 0 0, .slice none 0 0] 35)) := (((Below.refl w.heap.size w).alloc (Nat.le_refl _) _).alloc (by simp) _).alloc (by simp; omega) _
  have z0 : (((w.alloc (.cells #[.int .i64 m, vt, vs, vw] 28)).alloc (.cells #[.int .i64 0, .slice none 0 0, .slice none 0 0, .slice none 0 0] 35)).alloc (.cells #[.int .i64 0, .slice none 0 0, .slice none 0 0, .slice none 0 0] 35)).heap.size = w.heap.size + 3 := by simp
  have bx := Box.new w #[.int .i64 m, vt, vs, vw] 28 rfl
  have bR := Box.new (g := w.heap.size + 1) (w.alloc (.cells #[.int .i64 m, vt, vs, vw] 28)) #[.int .i64 0, .slice none 0 0, .slice none 0 0, .slice none 0 0] 35 (by simp)
  replace bx := bx.below ((Below.refl _ (w.alloc (.cells #[.int .i64 m, vt, vs, vw] 28))).alloc (Nat.le_refl _) (.cells #[.int .i64 0, .slice none 0 0, .slice none 0 0, .slice none 0 0] 35)) bx.lt
  have bO := Box.new (g := w.heap.size + 1 + 1) ((w.alloc (.cells #[.int .i64 m, vt, vs, vw] 28)).alloc (.cells #[.int .i64 0, .slice none 0 0, .slice none 0 0, .slice none 0 0] 35)) #[.int .i64 0, .slice none 0 0, .slice none 0 0, .slice none 0 0] 35 (by simp)
  replace bx := bx.below ((Below.refl _ ((w.alloc (.cells #[.int .i64 m, vt, vs, vw] 28)).alloc (.cells #[.int .i64 0, .slice none 0 0, .slice none 0 0, .slice none 0 0] 35))).alloc (Nat.le_refl _) (.cells #[.int .i64 0, .slice none 0 0, .slice none 0 0, .slice none 0 0] 35)) bx.lt
  replace bR := bR.below ((Below.refl _ ((w.alloc (.cells #[.int .i64 m, vt, vs, vw] 28)).alloc (.cells #[.int .i64 0, .slice none 0 0, .slice none 0 0, .slice none 0 0] 35))).alloc (Nat.le_refl _) (.cells #[.int .i64 0, .slice none 0 0, .slice none 0 0, .slice none 0 0] 35)) bR.lt
  have ht := h0.below b0 hh0
  have hs := h.below b0 hh
  have hw := h2.below b0 hh2
  have hv0_ := h0.form
  have hv_ := h.form
  have hv2_ := h2.form
  clear h0 h h2
  generalize hwA : ((w.alloc (.cells #[.int .i64 m, vt, vs, vw] 28)).alloc (.cells #[.int .i64 0, .slice none 0 0, .slice none 0 0, .slice none 0 0] 35)).alloc (.cells #[.int .i64 0, .slice none 0 0, .slice none 0 0, .slice none 0 0] 35) = wA at *
  obtain ⟨At, nt, dt, rfl, _, _, _⟩ := hv0_
  obtain ⟨A0, n0, d0, rfl, _, _, _⟩ := hv_
  obtain ⟨A1, n1, d1, rfl, _, _, _⟩ := hv2_
  go_enter Tryz.func12, Tryz.ntmps12
  have bx_0 := bx.cell (j := 0) rfl
  have bx_1 := bx.cell (j := 1) rfl
  have bx_2 := bx.cell (j := 2) rfl
  have bx_3 := bx.cell (j := 3) rfl
  have bx_z := bx.frozen
  have bx_l := bx.lt
  have bR_0 := bR.cell (j := 0) rfl
  have bR_1 := bR.cell (j := 1) rfl
  have bR_2 := bR.cell (j := 2) rfl
  have bR_3 := bR.cell (j := 3) rfl
  have bR_z := bR.frozen
  have bR_l := bR.lt
  have bO_0 := bO.cell (j := 0) rfl
  have bO_1 := bO.cell (j := 1) rfl
  have bO_2 := bO.cell (j := 2) rfl
  have bO_3 := bO.cell (j := 3) rfl
  have bO_z := bO.frozen
  have bO_l := bO.lt
  go_upto_region 2 with fail
  clear hwA
  clear bx_0 bx_1 bx_2 bx_3 bx_z bx_l bR_0 bR_1 bR_2 bR_3 bR_z bR_l bO_0 bO_1 bO_2 bO_3 bO_z bO_l
  have bx_0 := bx.cell (j := 0) rfl
  have bx_1 := bx.cell (j := 1) rfl
  have bx_2 := bx.cell (j := 2) rfl
  have bx_3 := bx.cell (j := 3) rfl
  have bx_z := bx.frozen
  have bx_l := bx.lt
  have bR_0 := bR.cell (j := 0) rfl
  have bR_1 := bR.cell (j := 1) rfl
  have bR_2 := bR.cell (j := 2) rfl
  have bR_3 := bR.cell (j := 3) rfl
  have bR_z := bR.frozen
  have bR_l := bR.lt
  have bO_0 := bO.cell (j := 0) rfl
  have bO_1 := bO.cell (j := 1) rfl
  have bO_2 := bO.cell (j := 2) rfl
  have bO_3 := bO.cell (j := 3) rfl
  have bO_z := bO.frozen
  have bO_l := bO.lt
  go_wp2_with fail
  clear bx_0 bx_1 bx_2 bx_3 bx_z bx_l bR_0 bR_1 bR_2 bR_3 bR_z bR_l bO_0 bO_1 bO_2 bO_3 bO_z bO_l
  generalize hwz : World.setCell _ _ _ = wz_
  obtain rfl : wz_ = setL wA (w.heap.size + 1 + 1) 0 [.int .i64 m] := hwz.symm
  clear hwz
  replace bx := bx.other (b := w.heap.size + 1 + 1) (by omega) 0 [.int .i64 m]
  replace bR := bR.other (b := w.heap.size + 1 + 1) (by omega) 0 [.int .i64 m]
  replace ht := ht.away (g := w.heap.size + 1 + 1) (by omega) 0 [.int .i64 m]
  replace hs := hs.away (g := w.heap.size + 1 + 1) (by omega) 0 [.int .i64 m]
  replace hw := hw.away (g := w.heap.size + 1 + 1) (by omega) 0 [.int .i64 m]
  replace b0 := setL_below b0 [.int .i64 m] (w.heap.size + 1 + 1) 0 (by omega)
  have zs_1 : (setL wA (w.heap.size + 1 + 1) 0 [.int .i64 m]).heap.size = wA.heap.size := setL_size _ _ _ _
  replace bO := bO.set1 (j := 0) (.int .i64 m) (by simp)
  generalize setL wA _ 0 _ = w1 at *
  refine (Nm.toS_any _ st w1 ht (by omega) hl0).mono ?_; rintro q_ w2 ⟨v1, rfl, o1, b_2⟩
  replace bx := bx.below b_2 bx.lt
  replace bR := bR.below b_2 bR.lt
  replace bO := bO.below b_2 bO.lt
  replace ht := ht.below b_2 (by omega)
  replace hs := hs.below b_2 (by omega)
  replace hw := hw.below b_2 (by omega)
  have z_3 := b_2.size
  replace b0 := b0.trans (b_2.mono (by omega))
  clear b_2
  obtain ⟨A3, n3, d3, rfl, _, _, _⟩ := o1.rd.form
  have bx_0 := bx.cell (j := 0) rfl
  have bx_1 := bx.cell (j := 1) rfl
  have bx_2 := bx.cell (j := 2) rfl
  have bx_3 := bx.cell (j := 3) rfl
  have bx_z := bx.frozen
  have bx_l := bx.lt
  have bR_0 := bR.cell (j := 0) rfl
  have bR_1 := bR.cell (j := 1) rfl
  have bR_2 := bR.cell (j := 2) rfl
  have bR_3 := bR.cell (j := 3) rfl
  have bR_z := bR.frozen
  have bR_l := bR.lt
  have bO_0 := bO.cell (j := 0) rfl
  have bO_1 := bO.cell (j := 1) rfl
  have bO_2 := bO.cell (j := 2) rfl
  have bO_3 := bO.cell (j := 3) rfl
  have bO_z := bO.frozen
  have bO_l := bO.lt
  go_wp2_with fail
  clear bx_0 bx_1 bx_2 bx_3 bx_z bx_l bR_0 bR_1 bR_2 bR_3 bR_z bR_l bO_0 bO_1 bO_2 bO_3 bO_z bO_l
  generalize hwz : World.setCell _ _ _ = wz_
  obtain rfl : wz_ = setL w2 (w.heap.size + 1 + 1) 1 [.slice A3 n3 d3] := hwz.symm
  clear hwz
  replace bx := bx.other (b := w.heap.size + 1 + 1) (by omega) 1 [.slice A3 n3 d3]
  replace bR := bR.other (b := w.heap.size + 1 + 1) (by omega) 1 [.slice A3 n3 d3]
  replace ht := ht.away (g := w.heap.size + 1 + 1) (by omega) 1 [.slice A3 n3 d3]
  replace hs := hs.away (g := w.heap.size + 1 + 1) (by omega) 1 [.slice A3 n3 d3]
  replace hw := hw.away (g := w.heap.size + 1 + 1) (by omega) 1 [.slice A3 n3 d3]
  replace o1 := o1.box (g := w.heap.size + 1 + 1) bO (by decide) 1 [.slice A3 n3 d3]
  replace b0 := setL_below b0 [.slice A3 n3 d3] (w.heap.size + 1 + 1) 1 (by omega)
  have zs_4 : (setL w2 (w.heap.size + 1 + 1) 1 [.slice A3 n3 d3]).heap.size = w2.heap.size := setL_size _ _ _ _
  replace bO := bO.set1 (j := 1) (.slice A3 n3 d3) (by simp)
  generalize setL w2 _ 1 _ = w4 at *
  refine (toQueue_any _ _ ls lw w4 hs hw (by omega) (by omega) hl hl2).mono ?_; rintro q_ w5 ⟨v5, v6, rfl, o5, o6, b_5⟩
  replace bx := bx.below b_5 bx.lt
  replace bR := bR.below b_5 bR.lt
  replace bO := bO.below b_5 bO.lt
  replace ht := ht.below b_5 (by omega)
  replace hs := hs.below b_5 (by omega)
  replace hw := hw.below b_5 (by omega)
  replace o1 := o1.below b_5 (by omega)
  have z_6 := b_5.size
  replace b0 := b0.trans (b_5.mono (by omega))
  clear b_5
  obtain ⟨A5, n5, d5, rfl, _, _, _⟩ := o5.rd.form
  obtain ⟨A6, n6, d6, rfl, _, _, _⟩ := o6.rd.form
  have bx_0 := bx.cell (j := 0) rfl
  have bx_1 := bx.cell (j := 1) rfl
  have bx_2 := bx.cell (j := 2) rfl
  have bx_3 := bx.cell (j := 3) rfl
  have bx_z := bx.frozen
  have bx_l := bx.lt
  have bR_0 := bR.cell (j := 0) rfl
  have bR_1 := bR.cell (j := 1) rfl
  have bR_2 := bR.cell (j := 2) rfl
  have bR_3 := bR.cell (j := 3) rfl
  have bR_z := bR.frozen
  have bR_l := bR.lt
  have bO_0 := bO.cell (j := 0) rfl
  have bO_1 := bO.cell (j := 1) rfl
  have bO_2 := bO.cell (j := 2) rfl
  have bO_3 := bO.cell (j := 3) rfl
  have bO_z := bO.frozen
  have bO_l := bO.lt
  go_upto_region 5 with fail
  clear bx_0 bx_1 bx_2 bx_3 bx_z bx_l bR_0 bR_1 bR_2 bR_3 bR_z bR_l bO_0 bO_1 bO_2 bO_3 bO_z bO_l
  generalize hwz : World.setCell (World.setCell _ _ _) _ _ = wz_
  obtain rfl : wz_ = setL w5 (w.heap.size + 1 + 1) 2 [.slice A5 n5 d5, .slice A6 n6 d6] := hwz.symm
  clear hwz
  replace bx := bx.other (b := w.heap.size + 1 + 1) (by omega) 2 [.slice A5 n5 d5, .slice A6 n6 d6]
  replace bR := bR.other (b := w.heap.size + 1 + 1) (by omega) 2 [.slice A5 n5 d5, .slice A6 n6 d6]
  replace ht := ht.away (g := w.heap.size + 1 + 1) (by omega) 2 [.slice A5 n5 d5, .slice A6 n6 d6]
  replace hs := hs.away (g := w.heap.size + 1 + 1) (by omega) 2 [.slice A5 n5 d5, .slice A6 n6 d6]
  replace hw := hw.away (g := w.heap.size + 1 + 1) (by omega) 2 [.slice A5 n5 d5, .slice A6 n6 d6]
  replace o1 := o1.box (g := w.heap.size + 1 + 1) bO (by decide) 2 [.slice A5 n5 d5, .slice A6 n6 d6]
  replace o5 := o5.box (g := w.heap.size + 1 + 1) bO (by decide) 2 [.slice A5 n5 d5, .slice A6 n6 d6]
  replace o6 := o6.box (g := w.heap.size + 1 + 1) bO (by decide) 2 [.slice A5 n5 d5, .slice A6 n6 d6]
  replace b0 := setL_below b0 [.slice A5 n5 d5, .slice A6 n6 d6] (w.heap.size + 1 + 1) 2 (by omega)
  have zs_7 : (setL w5 (w.heap.size + 1 + 1) 2 [.slice A5 n5 d5, .slice A6 n6 d6]).heap.size = w5.heap.size := setL_size _ _ _ _
  replace bO : Box (setL w5 (w.heap.size + 1 + 1) 2 [.slice A5 n5 d5, .slice A6 n6 d6]) (w.heap.size + 1 + 1) 35 _ := ((bO.set1 (j := 2) (.slice A5 n5 d5) (by simp)).set1 (j := 3) (.slice A6 n6 d6) (by simp))
  generalize setL w5 _ 2 _ = w7 at *
  have bx_0 := bx.cell (j := 0) rfl
  have bx_1 := bx.cell (j := 1) rfl
  have bx_2 := bx.cell (j := 2) rfl
  have bx_3 := bx.cell (j := 3) rfl
  have bx_z := bx.frozen
  have bx_l := bx.lt
  have bR_0 := bR.cell (j := 0) rfl
  have bR_1 := bR.cell (j := 1) rfl
  have bR_2 := bR.cell (j := 2) rfl
  have bR_3 := bR.cell (j := 3) rfl
  have bR_z := bR.frozen
  have bR_l := bR.lt
  have bO_0 := bO.cell (j := 0) rfl
  have bO_1 := bO.cell (j := 1) rfl
  have bO_2 := bO.cell (j := 2) rfl
  have bO_3 := bO.cell (j := 3) rfl
  have bO_z := bO.frozen
  have bO_l := bO.lt
  go_wp2_with fail
  clear bx_0 bx_1 bx_2 bx_3 bx_z bx_l bR_0 bR_1 bR_2 bR_3 bR_z bR_l bO_0 bO_1 bO_2 bO_3 bO_z bO_l
  generalize hwz : World.setCell (World.setCell (World.setCell (World.setCell _ _ _) _ _) _ _) _ _ = wz_
  obtain rfl : wz_ = setL w7 (w.heap.size + 1) 0 [.int .i64 m, .slice A3 n3 d3, .slice A5 n5 d5, .slice A6 n6 d6] := hwz.symm
  clear hwz
  replace bx := bx.other (b := w.heap.size + 1) (by omega) 0 [.int .i64 m, .slice A3 n3 d3, .slice A5 n5 d5, .slice A6 n6 d6]
  replace bO := bO.other (b := w.heap.size + 1) (by omega) 0 [.int .i64 m, .slice A3 n3 d3, .slice A5 n5 d5, .slice A6 n6 d6]
  replace ht := ht.away (g := w.heap.size + 1) (by omega) 0 [.int .i64 m, .slice A3 n3 d3, .slice A5 n5 d5, .slice A6 n6 d6]
  replace hs := hs.away (g := w.heap.size + 1) (by omega) 0 [.int .i64 m, .slice A3 n3 d3, .slice A5 n5 d5, .slice A6 n6 d6]
  replace hw := hw.away (g := w.heap.size + 1) (by omega) 0 [.int .i64 m, .slice A3 n3 d3, .slice A5 n5 d5, .slice A6 n6 d6]
  replace o1 := o1.box (g := w.heap.size + 1) bR (by decide) 0 [.int .i64 m, .slice A3 n3 d3, .slice A5 n5 d5, .slice A6 n6 d6]
  replace o5 := o5.box (g := w.heap.size + 1) bR (by decide) 0 [.int .i64 m, .slice A3 n3 d3, .slice A5 n5 d5, .slice A6 n6 d6]
  replace o6 := o6.box (g := w.heap.size + 1) bR (by decide) 0 [.int .i64 m, .slice A3 n3 d3, .slice A5 n5 d5, .slice A6 n6 d6]
  replace b0 := setL_below b0 [.int .i64 m, .slice A3 n3 d3, .slice A5 n5 d5, .slice A6 n6 d6] (w.heap.size + 1) 0 (by omega)
  have zs_8 : (setL w7 (w.heap.size + 1) 0 [.int .i64 m, .slice A3 n3 d3, .slice A5 n5 d5, .slice A6 n6 d6]).heap.size = w7.heap.size := setL_size _ _ _ _
  replace bR := bR.setAll [.int .i64 m, .slice A3 n3 d3, .slice A5 n5 d5, .slice A6 n6 d6] rfl
  generalize setL w7 _ 0 _ = w8 at *
  have u0_ := bR.cell (j := 0) rfl
  have u1_ := bR.cell (j := 1) rfl
  have u2_ := bR.cell (j := 2) rfl
  have u3_ := bR.cell (j := 3) rfl
  refine bodyPost_ret (by simp only [results, Tryz.results12]; simp [go_sem, u0_, u1_, u2_, u3_]; rfl) rfl ?_
  exact ⟨_, _, _, rfl, o1.mono (by omega) (by omega), o5.mono (by omega) (by omega), o6.mono (by omega) (by omega), b0⟩

set_option maxHeartbeats 2000000 in
theorem eqFace_same (m : Int) (a0 a1 a2 b0 b1 b2 : Value) (st : List Int) (ls : List Sl) (lw : List Wt) (w : World) {l0 h0 l1 h1 l2 h2 l3 h3 l4 h4 l5 h5 : Nat} (k0 : Rd Nm.cells 1 w l0 h0 a0 st) (k1 : Rd Sl.cells 3 w l1 h1 a1 ls) (k2 : Rd Wt.cells 2 w l2 h2 a2 lw) (k3 : Rd Nm.cells 1 w l3 h3 b0 st) (k4 : Rd Sl.cells 3 w l4 h4 b1 ls) (k5 : Rd Wt.cells 2 w l5 h5 b2 lw)
    (q0 : h0 ≤ w.heap.size) (q1 : h1 ≤ w.heap.size) (q2 : h2 ≤ w.heap.size) (q3 : h3 ≤ w.heap.size) (q4 : h4 ≤ w.heap.size) (q5 : h5 ≤ w.heap.size) :
    Calls Tryz.prog 14 #[.agg #[.int .i64 m, a0, a1, a2], .agg #[.int .i64 m, b0, b1, b2]] w fun e w' => e = .returned (.bool true) ∧ Below w.heap.size w w' := by
  have hB : Below w.heap.size w ((w.alloc (.cells #[.int .i64 m, a0, a1, a2] 35)).alloc (.cells #[.int .i64 m, b0, b1, b2] 35)) := ((Below.refl w.heap.size w).alloc (Nat.le_refl _) _).alloc (by simp) _
  have z0 : ((w.alloc (.cells #[.int .i64 m, a0, a1, a2] 35)).alloc (.cells #[.int .i64 m, b0, b1, b2] 35)).heap.size = w.heap.size + 2 := by simp
  have ba := Box.new w #[.int .i64 m, a0, a1, a2] 35 rfl
  have bb := Box.new (g := w.heap.size + 1) (w.alloc (.cells #[.int .i64 m, a0, a1, a2] 35)) #[.int .i64 m, b0, b1, b2] 35 (by simp)
  replace ba := ba.below ((Below.refl _ (w.alloc (.cells #[.int .i64 m, a0, a1, a2] 35))).alloc (Nat.le_refl _) (.cells #[.int .i64 m, b0, b1, b2] 35)) ba.lt
  replace k0 := k0.below hB q0
  replace k1 := k1.below hB q1
  replace k2 := k2.below hB q2
  replace k3 := k3.below hB q3
  replace k4 := k4.below hB q4
  replace k5 := k5.below hB q5
  have hmd : (m != m) = false := by simp
  generalize hwA : (w.alloc (.cells #[.int .i64 m, a0, a1, a2] 35)).alloc (.cells #[.int .i64 m, b0, b1, b2] 35) = wA at *
  go_enter Tryz.func14, Tryz.ntmps14
  have ba_0 := ba.cell (j := 0) rfl
  have ba_1 := ba.cell (j := 1) rfl
  have ba_2 := ba.cell (j := 2) rfl
  have ba_3 := ba.cell (j := 3) rfl
  have ba_z := ba.frozen
  have ba_l := ba.lt
  have bb_0 := bb.cell (j := 0) rfl
  have bb_1 := bb.cell (j := 1) rfl
  have bb_2 := bb.cell (j := 2) rfl
  have bb_3 := bb.cell (j := 3) rfl
  have bb_z := bb.frozen
  have bb_l := bb.lt
  go_wp2_with fail
  clear hwA
  clear ba_0 ba_1 ba_2 ba_3 ba_z ba_l bb_0 bb_1 bb_2 bb_3 bb_z bb_l
  refine (Nm.eqS_same _ _ st wA k0 k3 (by omega) (by omega)).mono ?_; rintro q_ w1 ⟨rfl, b_1⟩
  replace ba := ba.below b_1 ba.lt
  replace bb := bb.below b_1 bb.lt
  replace k0 := k0.below b_1 (by omega)
  replace k1 := k1.below b_1 (by omega)
  replace k2 := k2.below b_1 (by omega)
  replace k3 := k3.below b_1 (by omega)
  replace k4 := k4.below b_1 (by omega)
  replace k5 := k5.below b_1 (by omega)
  have z_2 := b_1.size
  replace hB := hB.trans (b_1.mono (by omega))
  clear b_1
  have ba_0 := ba.cell (j := 0) rfl
  have ba_1 := ba.cell (j := 1) rfl
  have ba_2 := ba.cell (j := 2) rfl
  have ba_3 := ba.cell (j := 3) rfl
  have ba_z := ba.frozen
  have ba_l := ba.lt
  have bb_0 := bb.cell (j := 0) rfl
  have bb_1 := bb.cell (j := 1) rfl
  have bb_2 := bb.cell (j := 2) rfl
  have bb_3 := bb.cell (j := 3) rfl
  have bb_z := bb.frozen
  have bb_l := bb.lt
  go_wp2_with fail
  clear ba_0 ba_1 ba_2 ba_3 ba_z ba_l bb_0 bb_1 bb_2 bb_3 bb_z bb_l
  refine (eqQueue_same _ _ _ _ ls lw w1 k1 k2 k4 k5 (by omega) (by omega) (by omega) (by omega)).mono ?_; rintro q_ w3 ⟨rfl, b_3⟩
  replace ba := ba.below b_3 ba.lt
  replace bb := bb.below b_3 bb.lt
  replace k0 := k0.below b_3 (by omega)
  replace k1 := k1.below b_3 (by omega)
  replace k2 := k2.below b_3 (by omega)
  replace k3 := k3.below b_3 (by omega)
  replace k4 := k4.below b_3 (by omega)
  replace k5 := k5.below b_3 (by omega)
  have z_4 := b_3.size
  replace hB := hB.trans (b_3.mono (by omega))
  clear b_3
  have ba_0 := ba.cell (j := 0) rfl
  have ba_1 := ba.cell (j := 1) rfl
  have ba_2 := ba.cell (j := 2) rfl
  have ba_3 := ba.cell (j := 3) rfl
  have ba_z := ba.frozen
  have ba_l := ba.lt
  have bb_0 := bb.cell (j := 0) rfl
  have bb_1 := bb.cell (j := 1) rfl
  have bb_2 := bb.cell (j := 2) rfl
  have bb_3 := bb.cell (j := 3) rfl
  have bb_z := bb.frozen
  have bb_l := bb.lt
  go_wp2_with fail
  clear ba_0 ba_1 ba_2 ba_3 ba_z ba_l bb_0 bb_1 bb_2 bb_3 bb_z bb_l
  go_ret
  exact ⟨rfl, hB⟩

set_option maxHeartbeats 2000000 in
theorem markFace_any (m : Int) (v0 v1 v2 : Value) (st : List Int) (ls : List Sl) (lw : List Wt) (w : World) {lo hi lo2 hi2 lo3 hi3 : Nat} (h0 : Ow Nm.cells 1 3 w lo3 hi3 v0 st) (h : Ow Sl.cells 3 127 w lo hi v1 ls) (h2 : Ow Wt.cells 2 134 w lo2 hi2 v2 lw) (hh0 : hi3 ≤ w.heap.size) (hh : hi ≤ w.heap.size) (hh2 : hi2 ≤ w.heap.size) (hl0 : st.length ≤ 1048576) (hl : ls.length ≤ 1048576) (hl2 : lw.length ≤ 1048576) (k0 : Int) (k1 : 0 ≤ k0) (k2 : k0 ≤ 1000) :
    Calls Tryz.prog 15 #[.agg #[.int .i64 m, v0, v1, v2], .int .i64 k0] w fun e w' => ∃ wa wb wc wd, e = .returned (.int .i64 (k0 + st.length + 3 * ls.length + 2 * lw.length)) ∧ Below w.heap.size w wa ∧ Ow Nm.cells 1 3 wb lo3 hi3 v0 (Nm.markL k0 st.length) ∧ Turned wa wb v0 st.length ∧ Below wb.heap.size wb wc ∧ Ow Sl.cells 3 127 wd lo hi v1 (Sl.markL (k0 + st.length) ls.length) ∧ Turned wc wd v1 ls.length ∧ Ow Wt.cells 2 134 w' lo2 hi2 v2 (Wt.markL (k0 + st.length + 3 * ls.length) lw.length) ∧ Turned wd w' v2 lw.length ∧ Ow Wt.cells 2 134 wd lo2 hi2 v2 lw := by
  have b0 := (Below.refl w.heap.size w).alloc (Nat.le_refl _) (.cells #[.int .i64 m, v0, v1, v2] 35)
  have z0 : (w.alloc (.cells #[.int .i64 m, v0, v1, v2] 35)).heap.size = w.heap.size + 1 := by simp
  have bx := Box.new w #[.int .i64 m, v0, v1, v2] 35 rfl
  have o0 := h0.below b0 hh0
  have o1 := h.below b0 hh
  have o2 := h2.below b0 hh2
  clear h0 h h2
  generalize hwA : w.alloc (.cells #[.int .i64 m, v0, v1, v2] 35) = wA at *
  have c1 := Nm.markS_any v0 st wA o0 k0 k1 (by omega) hl0
  have x1 := bx.cell (j := 1) rfl
  go_enter Tryz.func15, Tryz.ntmps15
  go_wp2_with fail
  clear hwA x1
  refine c1.mono ?_; rintro q_ w1 ⟨rfl, p1, t1⟩
  have z1 := t1.size
  have bx' := bx.turned o0 t1 (by decide)
  have o1' := o1.turned_type o0 t1 (by decide)
  have o2' := o2.turned_type o0 t1 (by decide)
  have x2 := bx'.cell (j := 2) rfl
  have x3 := bx'.cell (j := 3) rfl
  go_wp2_with fail
  refine (markQueue_any v1 v2 ls lw w1 o1' o2' (by omega) (by omega) hl hl2 (k0 + st.length) (by omega) (by omega)).mono ?_; rintro q_ w2 ⟨wa, wb, rfl, b2, p2, t2, p3, t3, o3⟩
  go_wp2_with fail
  go_ret
  exact ⟨wA, w1, wa, wb, rfl, b0, p1, t1, b2, p2, t2, p3, t3, o3⟩

theorem heldFace_any (m : Int) (v0 v1 v2 : Value) (n n1 n2 : Nat) (w : World) {lo hi lo2 hi2 lo3 hi3 : Nat} {k0 : Int} (h0 : Rd Nm.cells 1 w lo3 hi3 v0 (Nm.markL k0 n)) (h : Rd Sl.cells 3 w lo hi v1 (Sl.markL (k0 + n) n1)) (h2 : Rd Wt.cells 2 w lo2 hi2 v2 (Wt.markL (k0 + n + 3 * n1) n2)) (hh0 : hi3 ≤ w.heap.size) (hh : hi ≤ w.heap.size) (hh2 : hi2 ≤ w.heap.size) (hl0 : n ≤ 1048576) (hl : n1 ≤ 1048576) (hl2 : n2 ≤ 1048576) (k1 : 0 ≤ k0) (k2 : k0 ≤ 1000) :
    Calls Tryz.prog 16 #[.agg #[.int .i64 m, v0, v1, v2], .int .i64 k0] w fun e w' => e = .returned (.int .i64 (k0 + n + 3 * n1 + 2 * n2)) ∧ Below w.heap.size w w' := by
  have b0 := (Below.refl w.heap.size w).alloc (Nat.le_refl _) (.cells #[.int .i64 m, v0, v1, v2] 35)
  have z0 : (w.alloc (.cells #[.int .i64 m, v0, v1, v2] 35)).heap.size = w.heap.size + 1 := by simp
  have bx := Box.new w #[.int .i64 m, v0, v1, v2] 35 rfl
  have r0 := h0.below b0 hh0
  have r1 := h.below b0 hh
  have r2 := h2.below b0 hh2
  clear h0 h h2
  generalize hwA : w.alloc (.cells #[.int .i64 m, v0, v1, v2] 35) = wA at *
  have c1 := Nm.heldS_any v0 wA r0 k1 (by omega) hl0
  have c2 := heldQueue_any v1 v2 n1 n2 wA r1 r2 (by omega) (by omega) hl hl2 (by omega) (by omega)
  have x1 := bx.cell (j := 1) rfl
  have x2 := bx.cell (j := 2) rfl
  have x3 := bx.cell (j := 3) rfl
  have d1 : decide (k0 + (n : Int) < 0) = false := decide_eq_false (by omega)
  have d2 : decide (k0 + (n : Int) + 3 * (n1 : Int) + 2 * (n2 : Int) < 0) = false := decide_eq_false (by omega)
  go_enter Tryz.func16, Tryz.ntmps16
  go_wp2_with fail
  clear hwA
  refine c1.mono ?_; rintro q_ w_ ⟨rfl, rfl⟩
  go_wp2_with fail
  refine c2.mono ?_; rintro q_ w2 ⟨rfl, b2⟩
  go_wp2_with fail
  go_ret
  exact ⟨rfl, b0.trans (b2.mono (by omega))⟩

set_option maxRecDepth 8000 in
theorem Nm.openF {H : Type} {enc : TypeId × Value → H} {w : World} {base : Nat} {spare : Nat → Bool} {held : Bool} {v : Value} {fuel : Nat} {y : DataW H × List MemPlace}
    (h : DataW.trod enc Tryz.prog w base spare held fuel 22 [v] = some y) : ∃ l : List Int, Rd Nm.cells 1 w 0 w.heap.size v l := by
  rcases open_slice Tryz.underlying22 h with ⟨h0, _⟩ | ⟨a, len, cap, m, n, D, Pl, hcs, _, hl, hm, hmm, _, hi⟩
  · simp only [List.cons.injEq, and_true] at h0
    rw [h0]
    exact ⟨[], Rd.nil_⟩
  · simp only [List.cons.injEq, and_true] at hcs
    rw [hcs]
    refine rd_of_cells (by omega) Nm.cells_len hl hm fun i hil => ?_
    obtain ⟨cs', hc, ht'⟩ := hi i (by rw [hmm]; split <;> omega)
    rw [show Tryz.prog.cellsOf 3 = 1 from by kernel_rfl] at hc
    obtain ⟨_, hcl, hat⟩ := World.cells?_some hc
    obtain ⟨a0, e0, _⟩ := DataW.trod_int Tryz.underlying3 ht'
    refine ⟨a0, fun j u hu => ?_⟩
    have hj : j < 1 := (List.getElem?_eq_some_iff.1 hu).1
    obtain rfl : j = 0 := by omega
    have := hat 0 (by omega)
    simp only [Nm.cells, List.getElem?_cons_zero, Option.some.injEq] at hu
    subst hu
    rw [e0] at this
    rw [← Go.Deep.add_add, this]
    rfl
theorem Fa.cellsOfLaw : Tryz.prog.cellsOf 28 = 4 := by kernel_rfl
set_option maxRecDepth 8000 in
theorem Fa.open_ {H : Type} {enc : TypeId × Value → H} {w : World} {base : Nat} {spare : Nat → Bool} {held : Bool} {r : Reach} {b0 : Nat} {v : Value} {d : DataW H} {p : List MemPlace}
    (hv : Value.okWide Tryz.prog w r b0 28 v) (h : DataW.Trod enc Tryz.prog w base spare held 28 v d p) : ∃ (m : Int) (vt vs vw : Value) (st : List Int) (ls : List Sl) (lw : List Wt), v = .agg #[.int .i64 m, vt, vs, vw] ∧ Rd Nm.cells 1 w 0 w.heap.size vt st ∧ Rd Sl.cells 3 w 0 w.heap.size vs ls ∧ Rd Wt.cells 2 w 0 w.heap.size vw lw := by
  obtain ⟨cs, rfl, hsz⟩ := okWide_struct Tryz.underlying28 hv
  obtain ⟨c0, c1, c2, c3, rfl⟩ := Go.Joins.array4 (hsz.trans Fa.cellsOfLaw)
  obtain ⟨fuel, hf⟩ := h
  obtain ⟨y0, y1, y2, n, hx, _, h0, h1, h2⟩ := trod_struct3 Tryz.underlying28 hf
  have q0 : DataW.trod enc Tryz.prog w base spare held n 3 [c0] = some y0 := h0
  have q1 : DataW.trod enc Tryz.prog w base spare held n 22 [c1] = some y1 := h1
  have q2 : DataW.trod enc Tryz.prog w base spare held n 26 [c2, c3] = some y2 := h2
  obtain ⟨a0, e0, _⟩ := DataW.trod_int Tryz.underlying3 q0
  simp only [List.cons.injEq, and_true] at e0
  subst e0
  obtain ⟨st, k0⟩ := Nm.openF q1
  obtain ⟨z0, z1, n', _, _, g0, g1⟩ := trod_struct2 Tryz.underlying26 q2
  obtain ⟨ls, k1⟩ := Sl.openF (show DataW.trod enc Tryz.prog w base spare held n' 23 [c2] = some z0 from g0)
  obtain ⟨lw, k2⟩ := Wt.openF (show DataW.trod enc Tryz.prog w base spare held n' 24 [c3] = some z1 from g1)
  exact ⟨a0, c1, c2, c3, st, ls, lw, rfl, k0, k1, k2⟩

end Go.Proofs.YtengaccnncnipaaGreat
