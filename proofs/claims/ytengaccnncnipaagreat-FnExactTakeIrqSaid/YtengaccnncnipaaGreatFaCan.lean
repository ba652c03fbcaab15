/- Whether an interface can take an interrupt, in the program and in the reference. Condition: at most 1048576 numbers on the stack and waiters. -/
import Derived.Test.YtengaccnncnipaaGreatFaTakeI
namespace Go.Proofs.YtengaccnncnipaaGreat
open Go.RowKit Go.ChangeShapes Go.WideShapes Go.Deep

def Fa.ctR (m : Int) (st : List Int) (ls : List Sl) (lw : List Wt) : Bool := Fa.good m st ls lw && Sl.tkOk ls (minI m (Fa.run st ls))
theorem Fa.good_sl {m : Int} {st : List Int} {ls : List Sl} {lw : List Wt} (h : Fa.good m st ls lw = true) : Sl.good ls = true := by
  obtain ⟨_, hq, _⟩ := Fa.good_iff.1 h
  exact (Qu.parts_get (Qu.good_parts hq).1).1
theorem Sl.tkW_nonneg {ls : List Sl} (hg : Sl.good ls = true) (m : Int) : decide (0 ≤ Sl.tkW ls m) = Sl.tkOk ls m := by
  cases h : Sl.tkOk ls m
  · simp [Sl.tkW, h]
  · have := Sl.tk_irq hg h
    simpa [Sl.tkW, h] using this
set_option maxHeartbeats 2000000 in
theorem specCanTake_any (m : Int) (vt vs vw : Value) (st : List Int) (ls : List Sl) (lw : List Wt) (w : World) {lo hi lo2 hi2 lo3 hi3 : Nat} (h0 : Rd Nm.cells 1 w lo3 hi3 vt st) (h : Rd Sl.cells 3 w lo hi vs ls) (h2 : Rd Wt.cells 2 w lo2 hi2 vw lw) (hh0 : hi3 ≤ w.heap.size) (hh : hi ≤ w.heap.size) (hh2 : hi2 ≤ w.heap.size) (hl : st.length ≤ 1048576) (hl2 : lw.length ≤ 1048576) :
    Calls Tryz.prog 38 #[.agg #[.int .i64 m, vt, vs, vw]] w fun e w' => e = .returned (.tuple #[.bool (Fa.ctR m st ls lw), .bool (Fa.good m st ls lw)]) ∧ Below w.heap.size w w' := by
  have b0 : Below w.heap.size w (w.alloc (.cells #[.int .i64 m, vt, vs, vw] 35)) := (Below.refl w.heap.size w).alloc (Nat.le_refl _) _
  have z0 : (w.alloc (.cells #[.int .i64 m, vt, vs, vw] 35)).heap.size = w.heap.size + 1 := by simp
  have bx := Box.new w #[.int .i64 m, vt, vs, vw] 35 rfl
  have ht := h0.below b0 hh0
  have hs := h.below b0 hh
  have hw := h2.below b0 hh2
  have hv0_ := h0.form
  have hv_ := h.form
  have hv2_ := h2.form
  clear h0 h h2
  generalize hwA : w.alloc (.cells #[.int .i64 m, vt, vs, vw] 35) = wA at *
  obtain ⟨At, nt, dt, rfl, _, _, _⟩ := hv0_
  obtain ⟨A0, n0, d0, rfl, _, _, _⟩ := hv_
  obtain ⟨A1, n1, d1, rfl, _, _, _⟩ := hv2_
  have c1 := l10Good_any m _ _ _ st ls lw wA ht hs hw (by omega) (by omega) (by omega)
  cases hg : Fa.good m st ls lw
  · have HF := Lib.hid (show Fa.ctR m st ls lw = false from by simp [Fa.ctR, hg])
    rw [hg] at c1
    clear hg
    go_enter Tryz.func38, Tryz.ntmps38
    have bx_0 := bx.cell (j := 0) rfl
    have bx_1 := bx.cell (j := 1) rfl
    have bx_2 := bx.cell (j := 2) rfl
    have bx_3 := bx.cell (j := 3) rfl
    have bx_z := bx.frozen
    have bx_l := bx.lt
    go_wp2_with fail
    clear hwA
    clear bx_0 bx_1 bx_2 bx_3 bx_z bx_l
    refine (c1).mono ?_; rintro q_ w1 ⟨rfl, b_1⟩
    replace bx := bx.below b_1 bx.lt
    replace ht := ht.below b_1 (by omega)
    replace hs := hs.below b_1 (by omega)
    replace hw := hw.below b_1 (by omega)
    have z_2 := b_1.size
    replace b0 := b0.trans (b_1.mono (by omega))
    clear b_1
    have bx_0 := bx.cell (j := 0) rfl
    have bx_1 := bx.cell (j := 1) rfl
    have bx_2 := bx.cell (j := 2) rfl
    have bx_3 := bx.cell (j := 3) rfl
    have bx_z := bx.frozen
    have bx_l := bx.lt
    go_wp2_with fail
    clear bx_0 bx_1 bx_2 bx_3 bx_z bx_l
    go_ret2
    exact ⟨by rw [HF.out]; rfl, b0⟩
  · have HF := Lib.hid (show Fa.ctR m st ls lw = Sl.tkOk ls (minI m (Fa.run st ls)) from by simp [Fa.ctR, hg])
    have HX := Lib.hid (Fa.slots hg)
    have HG := Lib.hid (Fa.good_sl hg)
    rw [hg] at c1
    clear hg
    go_enter Tryz.func38, Tryz.ntmps38
    have bx_0 := bx.cell (j := 0) rfl
    have bx_1 := bx.cell (j := 1) rfl
    have bx_2 := bx.cell (j := 2) rfl
    have bx_3 := bx.cell (j := 3) rfl
    have bx_z := bx.frozen
    have bx_l := bx.lt
    go_wp2_with fail
    clear hwA
    clear bx_0 bx_1 bx_2 bx_3 bx_z bx_l
    refine (c1).mono ?_; rintro q_ w1 ⟨rfl, b_1⟩
    replace bx := bx.below b_1 bx.lt
    replace ht := ht.below b_1 (by omega)
    replace hs := hs.below b_1 (by omega)
    replace hw := hw.below b_1 (by omega)
    have z_2 := b_1.size
    replace b0 := b0.trans (b_1.mono (by omega))
    clear b_1
    have bx_0 := bx.cell (j := 0) rfl
    have bx_1 := bx.cell (j := 1) rfl
    have bx_2 := bx.cell (j := 2) rfl
    have bx_3 := bx.cell (j := 3) rfl
    have bx_z := bx.frozen
    have bx_l := bx.lt
    go_wp2_with fail
    clear bx_0 bx_1 bx_2 bx_3 bx_z bx_l
    refine (specTakeF_in m _ _ _ st ls lw w1 ht hs hw (by omega) (by omega) (by omega) HG.out HX.out hl hl2).mono ?_; rintro q_ w3 ⟨v3, v4, v5, rfl, o3, o4, o5, b_3⟩
    replace bx := bx.below b_3 bx.lt
    replace ht := ht.below b_3 (by omega)
    replace hs := hs.below b_3 (by omega)
    replace hw := hw.below b_3 (by omega)
    have z_4 := b_3.size
    replace b0 := b0.trans (b_3.mono (by omega))
    clear b_3
    obtain ⟨A3, n3, d3, rfl, _, _, _⟩ := o3.rd.form
    obtain ⟨A4, n4, d4, rfl, _, _, _⟩ := o4.rd.form
    obtain ⟨A5, n5, d5, rfl, _, _, _⟩ := o5.rd.form
    have bx_0 := bx.cell (j := 0) rfl
    have bx_1 := bx.cell (j := 1) rfl
    have bx_2 := bx.cell (j := 2) rfl
    have bx_3 := bx.cell (j := 3) rfl
    have bx_z := bx.frozen
    have bx_l := bx.lt
    go_wp2_with fail
    clear bx_0 bx_1 bx_2 bx_3 bx_z bx_l
    have bL := (Below.refl w3.heap.size w3).alloc (Nat.le_refl _) (.cells #[.int .i64 m, .slice A3 n3 d3, .slice A4 n4 d4, .slice A5 n5 d5] 35)
    replace b0 := b0.trans (bL.mono (by omega))
    go_ret2
    exact ⟨by rw [HF.out, ← Sl.tkW_nonneg HG.out]; rfl, b0⟩
set_option maxHeartbeats 2000000 in
theorem implCanTake_any (m : Int) (vt vs vw : Value) (st : List Int) (ls : List Sl) (lw : List Wt) (w : World) {lo hi lo2 hi2 lo3 hi3 : Nat} (h0 : Rd Nm.cells 1 w lo3 hi3 vt st) (h : Rd Sl.cells 3 w lo hi vs ls) (h2 : Rd Wt.cells 2 w lo2 hi2 vw lw) (hh0 : hi3 ≤ w.heap.size) (hh : hi ≤ w.heap.size) (hh2 : hi2 ≤ w.heap.size) (hl : st.length ≤ 1048576) (hl2 : lw.length ≤ 1048576) :
    Calls Tryz.prog 37 #[.agg #[.int .i64 m, vt, vs, vw]] w fun e w' => e = .returned (.tuple #[.bool (Fa.ctR m st ls lw), .bool (Fa.good m st ls lw)]) ∧ Below w.heap.size w w' := by
  have b0 : Below w.heap.size w (w.alloc (.cells #[.int .i64 m, vt, vs, vw] 35)) := (Below.refl w.heap.size w).alloc (Nat.le_refl _) _
  have z0 : (w.alloc (.cells #[.int .i64 m, vt, vs, vw] 35)).heap.size = w.heap.size + 1 := by simp
  have bx := Box.new w #[.int .i64 m, vt, vs, vw] 35 rfl
  have ht := h0.below b0 hh0
  have hs := h.below b0 hh
  have hw := h2.below b0 hh2
  have hv0_ := h0.form
  have hv_ := h.form
  have hv2_ := h2.form
  clear h0 h h2
  generalize hwA : w.alloc (.cells #[.int .i64 m, vt, vs, vw] 35) = wA at *
  obtain ⟨At, nt, dt, rfl, _, _, _⟩ := hv0_
  obtain ⟨A0, n0, d0, rfl, _, _, _⟩ := hv_
  obtain ⟨A1, n1, d1, rfl, _, _, _⟩ := hv2_
  have c1 := implIsInterface_any m _ _ _ st ls lw wA ht hs hw (by omega) (by omega) (by omega) hl
  cases hg : Fa.good m st ls lw
  · have HF := Lib.hid (show Fa.ctR m st ls lw = false from by simp [Fa.ctR, hg])
    rw [hg] at c1
    clear hg
    go_enter Tryz.func37, Tryz.ntmps37
    have bx_0 := bx.cell (j := 0) rfl
    have bx_1 := bx.cell (j := 1) rfl
    have bx_2 := bx.cell (j := 2) rfl
    have bx_3 := bx.cell (j := 3) rfl
    have bx_z := bx.frozen
    have bx_l := bx.lt
    go_wp2_with fail
    clear hwA
    clear bx_0 bx_1 bx_2 bx_3 bx_z bx_l
    refine (c1).mono ?_; rintro q_ w1 ⟨rfl, b_1⟩
    replace bx := bx.below b_1 bx.lt
    replace ht := ht.below b_1 (by omega)
    replace hs := hs.below b_1 (by omega)
    replace hw := hw.below b_1 (by omega)
    have z_2 := b_1.size
    replace b0 := b0.trans (b_1.mono (by omega))
    clear b_1
    have bx_0 := bx.cell (j := 0) rfl
    have bx_1 := bx.cell (j := 1) rfl
    have bx_2 := bx.cell (j := 2) rfl
    have bx_3 := bx.cell (j := 3) rfl
    have bx_z := bx.frozen
    have bx_l := bx.lt
    go_wp2_with fail
    clear bx_0 bx_1 bx_2 bx_3 bx_z bx_l
    go_ret2
    exact ⟨by rw [HF.out]; rfl, b0⟩
  · have HF := Lib.hid (show Fa.ctR m st ls lw = Sl.tkOk ls (minI m (Fa.run st ls)) from by simp [Fa.ctR, hg])
    have HX := Lib.hid (Fa.slots hg)
    have HG := Lib.hid (Fa.good_sl hg)
    rw [hg] at c1
    clear hg
    go_enter Tryz.func37, Tryz.ntmps37
    have bx_0 := bx.cell (j := 0) rfl
    have bx_1 := bx.cell (j := 1) rfl
    have bx_2 := bx.cell (j := 2) rfl
    have bx_3 := bx.cell (j := 3) rfl
    have bx_z := bx.frozen
    have bx_l := bx.lt
    go_wp2_with fail
    clear hwA
    clear bx_0 bx_1 bx_2 bx_3 bx_z bx_l
    refine (c1).mono ?_; rintro q_ w1 ⟨rfl, b_1⟩
    replace bx := bx.below b_1 bx.lt
    replace ht := ht.below b_1 (by omega)
    replace hs := hs.below b_1 (by omega)
    replace hw := hw.below b_1 (by omega)
    have z_2 := b_1.size
    replace b0 := b0.trans (b_1.mono (by omega))
    clear b_1
    have bx_0 := bx.cell (j := 0) rfl
    have bx_1 := bx.cell (j := 1) rfl
    have bx_2 := bx.cell (j := 2) rfl
    have bx_3 := bx.cell (j := 3) rfl
    have bx_z := bx.frozen
    have bx_l := bx.lt
    go_wp2_with fail
    clear bx_0 bx_1 bx_2 bx_3 bx_z bx_l
    refine (implTakeF_in m _ _ _ st ls lw w1 ht hs hw (by omega) (by omega) (by omega) HG.out HX.out hl hl2).mono ?_; rintro q_ w3 ⟨v3, v4, v5, rfl, o3, o4, o5, b_3⟩
    replace bx := bx.below b_3 bx.lt
    replace ht := ht.below b_3 (by omega)
    replace hs := hs.below b_3 (by omega)
    replace hw := hw.below b_3 (by omega)
    have z_4 := b_3.size
    replace b0 := b0.trans (b_3.mono (by omega))
    clear b_3
    obtain ⟨A3, n3, d3, rfl, _, _, _⟩ := o3.rd.form
    obtain ⟨A4, n4, d4, rfl, _, _, _⟩ := o4.rd.form
    obtain ⟨A5, n5, d5, rfl, _, _, _⟩ := o5.rd.form
    have bx_0 := bx.cell (j := 0) rfl
    have bx_1 := bx.cell (j := 1) rfl
    have bx_2 := bx.cell (j := 2) rfl
    have bx_3 := bx.cell (j := 3) rfl
    have bx_z := bx.frozen
    have bx_l := bx.lt
    go_wp2_with fail
    clear bx_0 bx_1 bx_2 bx_3 bx_z bx_l
    have bL := (Below.refl w3.heap.size w3).alloc (Nat.le_refl _) (.cells #[.int .i64 (Fa.tkM m ls (minI m (Fa.run st ls))), .slice A3 n3 d3, .slice A4 n4 d4, .slice A5 n5 d5] 35)
    replace b0 := b0.trans (bL.mono (by omega))
    go_ret2
    exact ⟨by rw [HF.out]; rfl, b0⟩

end Go.Proofs.YtengaccnncnipaaGreat
