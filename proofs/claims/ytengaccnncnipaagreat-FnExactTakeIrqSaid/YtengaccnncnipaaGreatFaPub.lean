/- The depth and the running priority of an interface, in the program and in the reference. Condition: at most 1048576 numbers on the stack. -/
import Derived.Test.YtengaccnncnipaaGreatFaGood2
namespace Go.Proofs.YtengaccnncnipaaGreat
open Go.RowKit Go.ChangeShapes Go.WideShapes Go.Deep

def Fa.deR (m : Int) (st : List Int) (ls : List Sl) (lw : List Wt) : Int := if Fa.good m st ls lw = true then (st.length : Int) else 0
def Fa.rpR (m : Int) (st : List Int) (ls : List Sl) (lw : List Wt) : Int := if Fa.good m st ls lw = true then Fa.run st ls else 0
theorem Fa.slots {m : Int} {st : List Int} {ls : List Sl} {lw : List Wt} (h : Fa.good m st ls lw = true) : ∀ i ∈ st, ∃ k : Nat, Sl.ix ls i = k ∧ k < ls.length := fun i hi => by
  obtain ⟨_, hq, ho⟩ := Fa.good_iff.1 h
  obtain ⟨k, s, hs, _, _, hx, _⟩ := Fa.ok_slot (Qu.parts_get (Qu.good_parts hq).1).1 ho hi
  exact ⟨k, hx, (List.getElem?_eq_some_iff.1 hs).1⟩
theorem Fa.run_at {st : List Int} {ls : List Sl} {i : Int} {j : Nat} (hj : j + 1 = st.length) (h : st[j]? = some i) : Fa.run st ls = Sl.lvl ls i :=
  Fa.run_last (by rw [List.getLast?_eq_getElem?, ← hj]; exact h)
theorem Fa.run_zero {st : List Int} {ls : List Sl} (h : st.length = 0) : Fa.run st ls = 16 := by rw [List.eq_nil_of_length_eq_zero h]; rfl

theorem specIsInterface_any (m : Int) (vt vs vw : Value) (st : List Int) (ls : List Sl) (lw : List Wt) (w : World) {lo hi lo2 hi2 lo3 hi3 : Nat} (h0 : Rd Nm.cells 1 w lo3 hi3 vt st) (h : Rd Sl.cells 3 w lo hi vs ls) (h2 : Rd Wt.cells 2 w lo2 hi2 vw lw) (hh0 : hi3 ≤ w.heap.size) (hh : hi ≤ w.heap.size) (hh2 : hi2 ≤ w.heap.size) :
    Calls Tryz.prog 36 #[.agg #[.int .i64 m, vt, vs, vw]] w fun e w' => e = .returned (.bool (Fa.good m st ls lw)) ∧ Below w.heap.size w w' := by
  have b0 : Below w.heap.size w (w.alloc (.cells #[.int .i64 m, vt, vs, vw] 35)) := (Below.refl w.heap.size w).alloc (Nat.le_refl _) _
  have z0 : (w.alloc (.cells #[.int .i64 m, vt, vs, vw] 35)).heap.size = w.heap.size + 1 := by simp
  have bx := Box.new w #[.int .i64 m, vt, vs, vw] 35 rfl
  have ht := h0.below b0 hh0
  have hs := h.below b0 hh
  have hw := h2.below b0 hh2
  have hv0_ := h0.form
  have hv_ := h.form
  have hv2_ := h2.form
  clear h0 h h2
  generalize hwA : w.alloc (.cells #[.int .i64 m, vt, vs, vw] 35) = wA at *
  obtain ⟨At, nt, dt, rfl, _, _, _⟩ := hv0_
  obtain ⟨A0, n0, d0, rfl, _, _, _⟩ := hv_
  obtain ⟨A1, n1, d1, rfl, _, _, _⟩ := hv2_
  have c1 := l10Good_any m _ _ _ st ls lw wA ht hs hw (by omega) (by omega) (by omega)
  go_enter Tryz.func36, Tryz.ntmps36
  have bx_0 := bx.cell (j := 0) rfl
  have bx_1 := bx.cell (j := 1) rfl
  have bx_2 := bx.cell (j := 2) rfl
  have bx_3 := bx.cell (j := 3) rfl
  have bx_z := bx.frozen
  have bx_l := bx.lt
  go_wp2_with fail
  clear hwA
  clear bx_0 bx_1 bx_2 bx_3 bx_z bx_l
  refine (c1).mono ?_; rintro q_ w1 ⟨rfl, b_1⟩
  replace bx := bx.below b_1 bx.lt
  replace ht := ht.below b_1 (by omega)
  replace hs := hs.below b_1 (by omega)
  replace hw := hw.below b_1 (by omega)
  have z_2 := b_1.size
  replace b0 := b0.trans (b_1.mono (by omega))
  clear b_1
  have bx_0 := bx.cell (j := 0) rfl
  have bx_1 := bx.cell (j := 1) rfl
  have bx_2 := bx.cell (j := 2) rfl
  have bx_3 := bx.cell (j := 3) rfl
  have bx_z := bx.frozen
  have bx_l := bx.lt
  go_wp2_with fail
  clear bx_0 bx_1 bx_2 bx_3 bx_z bx_l
  go_ret
  exact ⟨rfl, b0⟩
set_option maxHeartbeats 2000000 in
theorem specRunning_in (m : Int) (vt vs vw : Value) (st : List Int) (ls : List Sl) (lw : List Wt) (w : World) {lo hi lo2 hi2 lo3 hi3 : Nat} (h0 : Rd Nm.cells 1 w lo3 hi3 vt st) (h : Rd Sl.cells 3 w lo hi vs ls) (h2 : Rd Wt.cells 2 w lo2 hi2 vw lw) (hh0 : hi3 ≤ w.heap.size) (hh : hi ≤ w.heap.size) (hh2 : hi2 ≤ w.heap.size) (hix : ∀ i ∈ st, ∃ k : Nat, Sl.ix ls i = k ∧ k < ls.length) :
    Calls Tryz.prog 95 #[.agg #[.int .i64 m, vt, vs, vw]] w fun e w' => e = .returned (.int .i64 (Fa.run st ls)) ∧ Below w.heap.size w w' := by
  have b0 : Below w.heap.size w (w.alloc (.cells #[.int .i64 m, vt, vs, vw] 35)) := (Below.refl w.heap.size w).alloc (Nat.le_refl _) _
  have z0 : (w.alloc (.cells #[.int .i64 m, vt, vs, vw] 35)).heap.size = w.heap.size + 1 := by simp
  have bx := Box.new w #[.int .i64 m, vt, vs, vw] 35 rfl
  have ht := h0.below b0 hh0
  have hs := h.below b0 hh
  have hw := h2.below b0 hh2
  have hv0_ := h0.form
  have hv_ := h.form
  have hv2_ := h2.form
  clear h0 h h2
  generalize hwA : w.alloc (.cells #[.int .i64 m, vt, vs, vw] 35) = wA at *
  obtain ⟨At, nt, dt, rfl, _, _, _⟩ := hv0_
  obtain ⟨A0, n0, d0, rfl, _, _, _⟩ := hv_
  obtain ⟨A1, n1, d1, rfl, _, _, _⟩ := hv2_
  have hn := Nat.le_of_eq ht.n_eq.1
  have hn' := Nat.le_of_eq ht.n_eq.1.symm
  have hc := ht.n_eq.2
  rcases Nat.eq_zero_or_pos nt with hz | hz
  · have HF := Lib.hid (Fa.run_zero (st := st) (ls := ls) (by omega))
    obtain rfl : nt = 0 := hz
    clear hn hn'
    go_enter Tryz.func95, Tryz.ntmps95
    have bx_0 := bx.cell (j := 0) rfl
    have bx_1 := bx.cell (j := 1) rfl
    have bx_2 := bx.cell (j := 2) rfl
    have bx_3 := bx.cell (j := 3) rfl
    have bx_z := bx.frozen
    have bx_l := bx.lt
    go_wp2_with fail
    clear hwA
    clear bx_0 bx_1 bx_2 bx_3 bx_z bx_l
    go_ret
    exact ⟨ret_int HF.out.symm, b0⟩
  · obtain ⟨j, hj⟩ : ∃ j, nt = j + 1 := ⟨nt - 1, by omega⟩
    have hj1 : j < nt := by omega
    obtain ⟨b, off, x, rfl, hx, _, hbh, f0⟩ := Nm.get ht hj1 (Below.refl wA.heap.size wA) (by omega)
    have HF := Lib.hid (Fa.run_at (ls := ls) (show j + 1 = st.length by omega) hx.out)
    obtain ⟨k, hk, hkl⟩ := hix x (List.mem_of_getElem? hx.out)
    have HK := Lib.hid (show ∃ k : Nat, Sl.ix ls x = k ∧ k < ls.length from ⟨k, hk, hkl⟩)
    have hje : (nt : Int) - 1 = (j : Int) := by omega
    have hjn : (j : Int) < (nt : Int) := by omega
    have hzd : decide ((0 : Int) < (nt : Int)) = true := decide_eq_true (by omega)
    have hzd2 : ((nt : Int) == 0) = false := by rw [beq_eq_false_iff_ne]; omega
    clear hk hkl hx hz hn hn' hj
    go_enter Tryz.func95, Tryz.ntmps95
    have bx_0 := bx.cell (j := 0) rfl
    have bx_1 := bx.cell (j := 1) rfl
    have bx_2 := bx.cell (j := 2) rfl
    have bx_3 := bx.cell (j := 3) rfl
    have bx_z := bx.frozen
    have bx_l := bx.lt
    go_wp2_with fail
    clear hwA
    have zr : hi ≤ wA.heap.size := by omega
    have c1 := fun p => l10Level_any _ (.slice A1 n1 d1) ls x (ext wA p) (hs.below (below_ext wA p) zr) (Nat.le_trans zr (below_ext wA p).size) HK.out.choose_spec.1 HK.out.choose_spec.2
    have e0 := cell_ext f0; have e1 := cell_ext bx_1; have e2 := cell_ext bx_2; have e3 := cell_ext bx_3
    refine wp_region_ext_all (by kernel_rfl) (by kernel_rfl) ?_
    repeat (go_big_quiet_step ((go_at_call 101; exact calls_ext (c1 _))))
    refine wpQuiet_nil ?_
    intro w6 b6
    clear e0 e1 e2 e3
    replace b0 := b0.trans (b6.mono (by omega))
    go_wp2_with fail
    go_ret
    exact ⟨ret_int HF.out.symm, b0⟩
set_option maxHeartbeats 2000000 in
theorem implRunning_in (m : Int) (vt vs vw : Value) (st : List Int) (ls : List Sl) (lw : List Wt) (w : World) {lo hi lo2 hi2 lo3 hi3 : Nat} (h0 : Rd Nm.cells 1 w lo3 hi3 vt st) (h : Rd Sl.cells 3 w lo hi vs ls) (h2 : Rd Wt.cells 2 w lo2 hi2 vw lw) (hh0 : hi3 ≤ w.heap.size) (hh : hi ≤ w.heap.size) (hh2 : hi2 ≤ w.heap.size) (hix : ∀ i ∈ st, ∃ k : Nat, Sl.ix ls i = k ∧ k < ls.length) :
    Calls Tryz.prog 87 #[.agg #[.int .i64 m, vt, vs, vw]] w fun e w' => e = .returned (.int .i64 (Fa.run st ls)) ∧ Below w.heap.size w w' := by
  have b0 : Below w.heap.size w (w.alloc (.cells #[.int .i64 m, vt, vs, vw] 35)) := (Below.refl w.heap.size w).alloc (Nat.le_refl _) _
  have z0 : (w.alloc (.cells #[.int .i64 m, vt, vs, vw] 35)).heap.size = w.heap.size + 1 := by simp
  have bx := Box.new w #[.int .i64 m, vt, vs, vw] 35 rfl
  have ht := h0.below b0 hh0
  have hs := h.below b0 hh
  have hw := h2.below b0 hh2
  have hv0_ := h0.form
  have hv_ := h.form
  have hv2_ := h2.form
  clear h0 h h2
  generalize hwA : w.alloc (.cells #[.int .i64 m, vt, vs, vw] 35) = wA at *
  obtain ⟨At, nt, dt, rfl, _, _, _⟩ := hv0_
  obtain ⟨A0, n0, d0, rfl, _, _, _⟩ := hv_
  obtain ⟨A1, n1, d1, rfl, _, _, _⟩ := hv2_
  have hn := Nat.le_of_eq ht.n_eq.1
  have hn' := Nat.le_of_eq ht.n_eq.1.symm
  have hc := ht.n_eq.2
  rcases Nat.eq_zero_or_pos nt with hz | hz
  · have HF := Lib.hid (Fa.run_zero (st := st) (ls := ls) (by omega))
    obtain rfl : nt = 0 := hz
    clear hn hn'
    go_enter Tryz.func87, Tryz.ntmps87
    have bx_0 := bx.cell (j := 0) rfl
    have bx_1 := bx.cell (j := 1) rfl
    have bx_2 := bx.cell (j := 2) rfl
    have bx_3 := bx.cell (j := 3) rfl
    have bx_z := bx.frozen
    have bx_l := bx.lt
    go_wp2_with fail
    clear hwA
    clear bx_0 bx_1 bx_2 bx_3 bx_z bx_l
    go_ret
    exact ⟨ret_int HF.out.symm, b0⟩
  · obtain ⟨j, hj⟩ : ∃ j, nt = j + 1 := ⟨nt - 1, by omega⟩
    have hj1 : j < nt := by omega
    obtain ⟨b, off, x, rfl, hx, _, hbh, f0⟩ := Nm.get ht hj1 (Below.refl wA.heap.size wA) (by omega)
    have HF := Lib.hid (Fa.run_at (ls := ls) (show j + 1 = st.length by omega) hx.out)
    obtain ⟨k, hk, hkl⟩ := hix x (List.mem_of_getElem? hx.out)
    have HK := Lib.hid (show ∃ k : Nat, Sl.ix ls x = k ∧ k < ls.length from ⟨k, hk, hkl⟩)
    have hje : (nt : Int) - 1 = (j : Int) := by omega
    have hjn : (j : Int) < (nt : Int) := by omega
    have hzd : decide ((0 : Int) < (nt : Int)) = true := decide_eq_true (by omega)
    have hzd2 : ((nt : Int) == 0) = false := by rw [beq_eq_false_iff_ne]; omega
    clear hk hkl hx hz hn hn' hj
    go_enter Tryz.func87, Tryz.ntmps87
    have bx_0 := bx.cell (j := 0) rfl
    have bx_1 := bx.cell (j := 1) rfl
    have bx_2 := bx.cell (j := 2) rfl
    have bx_3 := bx.cell (j := 3) rfl
    have bx_z := bx.frozen
    have bx_l := bx.lt
    go_wp2_with fail
    clear hwA
    have zr : hi ≤ wA.heap.size := by omega
    have c1 := fun p => priorityIn_any _ ls x (ext wA p) (hs.below (below_ext wA p) zr) (Nat.le_trans zr (below_ext wA p).size) HK.out.choose_spec.1 HK.out.choose_spec.2
    have e0 := cell_ext f0; have e1 := cell_ext bx_1; have e2 := cell_ext bx_2; have e3 := cell_ext bx_3
    refine wp_region_ext_all (by kernel_rfl) (by kernel_rfl) ?_
    repeat (go_big_quiet_step ((go_at_call 86; exact calls_ext (c1 _))))
    refine wpQuiet_nil ?_
    intro w6 b6
    clear e0 e1 e2 e3
    replace b0 := b0.trans (b6.mono (by omega))
    go_wp2_with fail
    go_ret
    exact ⟨ret_int HF.out.symm, b0⟩
set_option maxHeartbeats 2000000 in
theorem specDepthOf_any (m : Int) (vt vs vw : Value) (st : List Int) (ls : List Sl) (lw : List Wt) (w : World) {lo hi lo2 hi2 lo3 hi3 : Nat} (h0 : Rd Nm.cells 1 w lo3 hi3 vt st) (h : Rd Sl.cells 3 w lo hi vs ls) (h2 : Rd Wt.cells 2 w lo2 hi2 vw lw) (hh0 : hi3 ≤ w.heap.size) (hh : hi ≤ w.heap.size) (hh2 : hi2 ≤ w.heap.size) (hl : st.length ≤ 1048576) :
    Calls Tryz.prog 49 #[.agg #[.int .i64 m, vt, vs, vw]] w fun e w' => e = .returned (.tuple #[.int .i64 (Fa.deR m st ls lw), .bool (Fa.good m st ls lw)]) ∧ Below w.heap.size w w' := by
  have b0 : Below w.heap.size w (w.alloc (.cells #[.int .i64 m, vt, vs, vw] 35)) := (Below.refl w.heap.size w).alloc (Nat.le_refl _) _
  have z0 : (w.alloc (.cells #[.int .i64 m, vt, vs, vw] 35)).heap.size = w.heap.size + 1 := by simp
  have bx := Box.new w #[.int .i64 m, vt, vs, vw] 35 rfl
  have ht := h0.below b0 hh0
  have hs := h.below b0 hh
  have hw := h2.below b0 hh2
  have hv0_ := h0.form
  have hv_ := h.form
  have hv2_ := h2.form
  clear h0 h h2
  generalize hwA : w.alloc (.cells #[.int .i64 m, vt, vs, vw] 35) = wA at *
  obtain ⟨At, nt, dt, rfl, _, _, _⟩ := hv0_
  obtain ⟨A0, n0, d0, rfl, _, _, _⟩ := hv_
  obtain ⟨A1, n1, d1, rfl, _, _, _⟩ := hv2_
  have c1 := l10Good_any m _ _ _ st ls lw wA ht hs hw (by omega) (by omega) (by omega)
  have HN := Lib.hid ht.n_eq.1
  cases hg : Fa.good m st ls lw
  · have HF := Lib.hid (show Fa.deR m st ls lw = 0 from by rw [Fa.deR, if_neg (by rw [hg]; decide)])
    rw [hg] at c1
    clear hg
    go_enter Tryz.func49, Tryz.ntmps49
    have bx_0 := bx.cell (j := 0) rfl
    have bx_1 := bx.cell (j := 1) rfl
    have bx_2 := bx.cell (j := 2) rfl
    have bx_3 := bx.cell (j := 3) rfl
    have bx_z := bx.frozen
    have bx_l := bx.lt
    go_wp2_with fail
    clear hwA
    clear bx_0 bx_1 bx_2 bx_3 bx_z bx_l
    refine (c1).mono ?_; rintro q_ w1 ⟨rfl, b_1⟩
    replace bx := bx.below b_1 bx.lt
    replace ht := ht.below b_1 (by omega)
    replace hs := hs.below b_1 (by omega)
    replace hw := hw.below b_1 (by omega)
    have z_2 := b_1.size
    replace b0 := b0.trans (b_1.mono (by omega))
    clear b_1
    have bx_0 := bx.cell (j := 0) rfl
    have bx_1 := bx.cell (j := 1) rfl
    have bx_2 := bx.cell (j := 2) rfl
    have bx_3 := bx.cell (j := 3) rfl
    have bx_z := bx.frozen
    have bx_l := bx.lt
    go_wp2_with fail
    clear bx_0 bx_1 bx_2 bx_3 bx_z bx_l
    go_ret2
    exact ⟨by rw [HF.out]; rfl, b0⟩
  · have HF := Lib.hid (show Fa.deR m st ls lw = st.length from by rw [Fa.deR, if_pos hg])
    have HX := Lib.hid (Fa.slots hg)
    rw [hg] at c1
    clear hg
    go_enter Tryz.func49, Tryz.ntmps49
    have bx_0 := bx.cell (j := 0) rfl
    have bx_1 := bx.cell (j := 1) rfl
    have bx_2 := bx.cell (j := 2) rfl
    have bx_3 := bx.cell (j := 3) rfl
    have bx_z := bx.frozen
    have bx_l := bx.lt
    go_wp2_with fail
    clear hwA
    clear bx_0 bx_1 bx_2 bx_3 bx_z bx_l
    refine (c1).mono ?_; rintro q_ w1 ⟨rfl, b_1⟩
    replace bx := bx.below b_1 bx.lt
    replace ht := ht.below b_1 (by omega)
    replace hs := hs.below b_1 (by omega)
    replace hw := hw.below b_1 (by omega)
    have z_2 := b_1.size
    replace b0 := b0.trans (b_1.mono (by omega))
    clear b_1
    have bx_0 := bx.cell (j := 0) rfl
    have bx_1 := bx.cell (j := 1) rfl
    have bx_2 := bx.cell (j := 2) rfl
    have bx_3 := bx.cell (j := 3) rfl
    have bx_z := bx.frozen
    have bx_l := bx.lt
    go_wp2_with fail
    clear bx_0 bx_1 bx_2 bx_3 bx_z bx_l
    go_ret2
    exact ⟨by rw [HF.out, HN.out]; rfl, b0⟩
set_option maxHeartbeats 2000000 in
theorem specRunningPriority_any (m : Int) (vt vs vw : Value) (st : List Int) (ls : List Sl) (lw : List Wt) (w : World) {lo hi lo2 hi2 lo3 hi3 : Nat} (h0 : Rd Nm.cells 1 w lo3 hi3 vt st) (h : Rd Sl.cells 3 w lo hi vs ls) (h2 : Rd Wt.cells 2 w lo2 hi2 vw lw) (hh0 : hi3 ≤ w.heap.size) (hh : hi ≤ w.heap.size) (hh2 : hi2 ≤ w.heap.size) (hl : st.length ≤ 1048576) :
    Calls Tryz.prog 47 #[.agg #[.int .i64 m, vt, vs, vw]] w fun e w' => e = .returned (.tuple #[.int .i64 (Fa.rpR m st ls lw), .bool (Fa.good m st ls lw)]) ∧ Below w.heap.size w w' := by
  have b0 : Below w.heap.size w (w.alloc (.cells #[.int .i64 m, vt, vs, vw] 35)) := (Below.refl w.heap.size w).alloc (Nat.le_refl _) _
  have z0 : (w.alloc (.cells #[.int .i64 m, vt, vs, vw] 35)).heap.size = w.heap.size + 1 := by simp
  have bx := Box.new w #[.int .i64 m, vt, vs, vw] 35 rfl
  have ht := h0.below b0 hh0
  have hs := h.below b0 hh
  have hw := h2.below b0 hh2
  have hv0_ := h0.form
  have hv_ := h.form
  have hv2_ := h2.form
  clear h0 h h2
  generalize hwA : w.alloc (.cells #[.int .i64 m, vt, vs, vw] 35) = wA at *
  obtain ⟨At, nt, dt, rfl, _, _, _⟩ := hv0_
  obtain ⟨A0, n0, d0, rfl, _, _, _⟩ := hv_
  obtain ⟨A1, n1, d1, rfl, _, _, _⟩ := hv2_
  have c1 := l10Good_any m _ _ _ st ls lw wA ht hs hw (by omega) (by omega) (by omega)
  have HN := Lib.hid ht.n_eq.1
  cases hg : Fa.good m st ls lw
  · have HF := Lib.hid (show Fa.rpR m st ls lw = 0 from by rw [Fa.rpR, if_neg (by rw [hg]; decide)])
    rw [hg] at c1
    clear hg
    go_enter Tryz.func47, Tryz.ntmps47
    have bx_0 := bx.cell (j := 0) rfl
    have bx_1 := bx.cell (j := 1) rfl
    have bx_2 := bx.cell (j := 2) rfl
    have bx_3 := bx.cell (j := 3) rfl
    have bx_z := bx.frozen
    have bx_l := bx.lt
    go_wp2_with fail
    clear hwA
    clear bx_0 bx_1 bx_2 bx_3 bx_z bx_l
    refine (c1).mono ?_; rintro q_ w1 ⟨rfl, b_1⟩
    replace bx := bx.below b_1 bx.lt
    replace ht := ht.below b_1 (by omega)
    replace hs := hs.below b_1 (by omega)
    replace hw := hw.below b_1 (by omega)
    have z_2 := b_1.size
    replace b0 := b0.trans (b_1.mono (by omega))
    clear b_1
    have bx_0 := bx.cell (j := 0) rfl
    have bx_1 := bx.cell (j := 1) rfl
    have bx_2 := bx.cell (j := 2) rfl
    have bx_3 := bx.cell (j := 3) rfl
    have bx_z := bx.frozen
    have bx_l := bx.lt
    go_wp2_with fail
    clear bx_0 bx_1 bx_2 bx_3 bx_z bx_l
    go_ret2
    exact ⟨by rw [HF.out]; rfl, b0⟩
  · have HF := Lib.hid (show Fa.rpR m st ls lw = Fa.run st ls from by rw [Fa.rpR, if_pos hg])
    have HX := Lib.hid (Fa.slots hg)
    rw [hg] at c1
    clear hg
    go_enter Tryz.func47, Tryz.ntmps47
    have bx_0 := bx.cell (j := 0) rfl
    have bx_1 := bx.cell (j := 1) rfl
    have bx_2 := bx.cell (j := 2) rfl
    have bx_3 := bx.cell (j := 3) rfl
    have bx_z := bx.frozen
    have bx_l := bx.lt
    go_wp2_with fail
    clear hwA
    clear bx_0 bx_1 bx_2 bx_3 bx_z bx_l
    refine (c1).mono ?_; rintro q_ w1 ⟨rfl, b_1⟩
    replace bx := bx.below b_1 bx.lt
    replace ht := ht.below b_1 (by omega)
    replace hs := hs.below b_1 (by omega)
    replace hw := hw.below b_1 (by omega)
    have z_2 := b_1.size
    replace b0 := b0.trans (b_1.mono (by omega))
    clear b_1
    have bx_0 := bx.cell (j := 0) rfl
    have bx_1 := bx.cell (j := 1) rfl
    have bx_2 := bx.cell (j := 2) rfl
    have bx_3 := bx.cell (j := 3) rfl
    have bx_z := bx.frozen
    have bx_l := bx.lt
    go_wp2_with fail
    clear bx_0 bx_1 bx_2 bx_3 bx_z bx_l
    refine (specRunning_in m _ _ _ st ls lw w1 ht hs hw (by omega) (by omega) (by omega) HX.out).mono ?_; rintro q_ w3 ⟨rfl, b_3⟩
    replace bx := bx.below b_3 bx.lt
    replace ht := ht.below b_3 (by omega)
    replace hs := hs.below b_3 (by omega)
    replace hw := hw.below b_3 (by omega)
    have z_4 := b_3.size
    replace b0 := b0.trans (b_3.mono (by omega))
    clear b_3
    have bx_0 := bx.cell (j := 0) rfl
    have bx_1 := bx.cell (j := 1) rfl
    have bx_2 := bx.cell (j := 2) rfl
    have bx_3 := bx.cell (j := 3) rfl
    have bx_z := bx.frozen
    have bx_l := bx.lt
    go_wp2_with fail
    clear bx_0 bx_1 bx_2 bx_3 bx_z bx_l
    go_ret2
    exact ⟨by rw [HF.out]; rfl, b0⟩
set_option maxHeartbeats 2000000 in
theorem implDepthOf_any (m : Int) (vt vs vw : Value) (st : List Int) (ls : List Sl) (lw : List Wt) (w : World) {lo hi lo2 hi2 lo3 hi3 : Nat} (h0 : Rd Nm.cells 1 w lo3 hi3 vt st) (h : Rd Sl.cells 3 w lo hi vs ls) (h2 : Rd Wt.cells 2 w lo2 hi2 vw lw) (hh0 : hi3 ≤ w.heap.size) (hh : hi ≤ w.heap.size) (hh2 : hi2 ≤ w.heap.size) (hl : st.length ≤ 1048576) :
    Calls Tryz.prog 40 #[.agg #[.int .i64 m, vt, vs, vw]] w fun e w' => e = .returned (.tuple #[.int .i64 (Fa.deR m st ls lw), .bool (Fa.good m st ls lw)]) ∧ Below w.heap.size w w' := by
  have b0 : Below w.heap.size w (w.alloc (.cells #[.int .i64 m, vt, vs, vw] 35)) := (Below.refl w.heap.size w).alloc (Nat.le_refl _) _
  have z0 : (w.alloc (.cells #[.int .i64 m, vt, vs, vw] 35)).heap.size = w.heap.size + 1 := by simp
  have bx := Box.new w #[.int .i64 m, vt, vs, vw] 35 rfl
  have ht := h0.below b0 hh0
  have hs := h.below b0 hh
  have hw := h2.below b0 hh2
  have hv0_ := h0.form
  have hv_ := h.form
  have hv2_ := h2.form
  clear h0 h h2
  generalize hwA : w.alloc (.cells #[.int .i64 m, vt, vs, vw] 35) = wA at *
  obtain ⟨At, nt, dt, rfl, _, _, _⟩ := hv0_
  obtain ⟨A0, n0, d0, rfl, _, _, _⟩ := hv_
  obtain ⟨A1, n1, d1, rfl, _, _, _⟩ := hv2_
  have c1 := implIsInterface_any m _ _ _ st ls lw wA ht hs hw (by omega) (by omega) (by omega) hl
  have HN := Lib.hid ht.n_eq.1
  cases hg : Fa.good m st ls lw
  · have HF := Lib.hid (show Fa.deR m st ls lw = 0 from by rw [Fa.deR, if_neg (by rw [hg]; decide)])
    rw [hg] at c1
    clear hg
    go_enter Tryz.func40, Tryz.ntmps40
    have bx_0 := bx.cell (j := 0) rfl
    have bx_1 := bx.cell (j := 1) rfl
    have bx_2 := bx.cell (j := 2) rfl
    have bx_3 := bx.cell (j := 3) rfl
    have bx_z := bx.frozen
    have bx_l := bx.lt
    go_wp2_with fail
    clear hwA
    clear bx_0 bx_1 bx_2 bx_3 bx_z bx_l
    refine (c1).mono ?_; rintro q_ w1 ⟨rfl, b_1⟩
    replace bx := bx.below b_1 bx.lt
    replace ht := ht.below b_1 (by omega)
    replace hs := hs.below b_1 (by omega)
    replace hw := hw.below b_1 (by omega)
    have z_2 := b_1.size
    replace b0 := b0.trans (b_1.mono (by omega))
    clear b_1
    have bx_0 := bx.cell (j := 0) rfl
    have bx_1 := bx.cell (j := 1) rfl
    have bx_2 := bx.cell (j := 2) rfl
    have bx_3 := bx.cell (j := 3) rfl
    have bx_z := bx.frozen
    have bx_l := bx.lt
    go_wp2_with fail
    clear bx_0 bx_1 bx_2 bx_3 bx_z bx_l
    go_ret2
    exact ⟨by rw [HF.out]; rfl, b0⟩
  · have HF := Lib.hid (show Fa.deR m st ls lw = st.length from by rw [Fa.deR, if_pos hg])
    have HX := Lib.hid (Fa.slots hg)
    rw [hg] at c1
    clear hg
    go_enter Tryz.func40, Tryz.ntmps40
    have bx_0 := bx.cell (j := 0) rfl
    have bx_1 := bx.cell (j := 1) rfl
    have bx_2 := bx.cell (j := 2) rfl
    have bx_3 := bx.cell (j := 3) rfl
    have bx_z := bx.frozen
    have bx_l := bx.lt
    go_wp2_with fail
    clear hwA
    clear bx_0 bx_1 bx_2 bx_3 bx_z bx_l
    refine (c1).mono ?_; rintro q_ w1 ⟨rfl, b_1⟩
    replace bx := bx.below b_1 bx.lt
    replace ht := ht.below b_1 (by omega)
    replace hs := hs.below b_1 (by omega)
    replace hw := hw.below b_1 (by omega)
    have z_2 := b_1.size
    replace b0 := b0.trans (b_1.mono (by omega))
    clear b_1
    have bx_0 := bx.cell (j := 0) rfl
    have bx_1 := bx.cell (j := 1) rfl
    have bx_2 := bx.cell (j := 2) rfl
    have bx_3 := bx.cell (j := 3) rfl
    have bx_z := bx.frozen
    have bx_l := bx.lt
    go_wp2_with fail
    clear bx_0 bx_1 bx_2 bx_3 bx_z bx_l
    go_ret2
    exact ⟨by rw [HF.out, HN.out]; rfl, b0⟩
set_option maxHeartbeats 2000000 in
theorem implRunningPriority_any (m : Int) (vt vs vw : Value) (st : List Int) (ls : List Sl) (lw : List Wt) (w : World) {lo hi lo2 hi2 lo3 hi3 : Nat} (h0 : Rd Nm.cells 1 w lo3 hi3 vt st) (h : Rd Sl.cells 3 w lo hi vs ls) (h2 : Rd Wt.cells 2 w lo2 hi2 vw lw) (hh0 : hi3 ≤ w.heap.size) (hh : hi ≤ w.heap.size) (hh2 : hi2 ≤ w.heap.size) (hl : st.length ≤ 1048576) :
    Calls Tryz.prog 39 #[.agg #[.int .i64 m, vt, vs, vw]] w fun e w' => e = .returned (.tuple #[.int .i64 (Fa.rpR m st ls lw), .bool (Fa.good m st ls lw)]) ∧ Below w.heap.size w w' := by
  have b0 : Below w.heap.size w (w.alloc (.cells #[.int .i64 m, vt, vs, vw] 35)) := (Below.refl w.heap.size w).alloc (Nat.le_refl _) _
  have z0 : (w.alloc (.cells #[.int .i64 m, vt, vs, vw] 35)).heap.size = w.heap.size + 1 := by simp
  have bx := Box.new w #[.int .i64 m, vt, vs, vw] 35 rfl
  have ht := h0.below b0 hh0
  have hs := h.below b0 hh
  have hw := h2.below b0 hh2
  have hv0_ := h0.form
  have hv_ := h.form
  have hv2_ := h2.form
  clear h0 h h2
  generalize hwA : w.alloc (.cells #[.int .i64 m, vt, vs, vw] 35) = wA at *
  obtain ⟨At, nt, dt, rfl, _, _, _⟩ := hv0_
  obtain ⟨A0, n0, d0, rfl, _, _, _⟩ := hv_
  obtain ⟨A1, n1, d1, rfl, _, _, _⟩ := hv2_
  have c1 := implIsInterface_any m _ _ _ st ls lw wA ht hs hw (by omega) (by omega) (by omega) hl
  have HN := Lib.hid ht.n_eq.1
  cases hg : Fa.good m st ls lw
  · have HF := Lib.hid (show Fa.rpR m st ls lw = 0 from by rw [Fa.rpR, if_neg (by rw [hg]; decide)])
    rw [hg] at c1
    clear hg
    go_enter Tryz.func39, Tryz.ntmps39
    have bx_0 := bx.cell (j := 0) rfl
    have bx_1 := bx.cell (j := 1) rfl
    have bx_2 := bx.cell (j := 2) rfl
    have bx_3 := bx.cell (j := 3) rfl
    have bx_z := bx.frozen
    have bx_l := bx.lt
    go_wp2_with fail
    clear hwA
    clear bx_0 bx_1 bx_2 bx_3 bx_z bx_l
    refine (c1).mono ?_; rintro q_ w1 ⟨rfl, b_1⟩
    replace bx := bx.below b_1 bx.lt
    replace ht := ht.below b_1 (by omega)
    replace hs := hs.below b_1 (by omega)
    replace hw := hw.below b_1 (by omega)
    have z_2 := b_1.size
    replace b0 := b0.trans (b_1.mono (by omega))
    clear b_1
    have bx_0 := bx.cell (j := 0) rfl
    have bx_1 := bx.cell (j := 1) rfl
    have bx_2 := bx.cell (j := 2) rfl
    have bx_3 := bx.cell (j := 3) rfl
    have bx_z := bx.frozen
    have bx_l := bx.lt
    go_wp2_with fail
    clear bx_0 bx_1 bx_2 bx_3 bx_z bx_l
    go_ret2
    exact ⟨by rw [HF.out]; rfl, b0⟩
  · have HF := Lib.hid (show Fa.rpR m st ls lw = Fa.run st ls from by rw [Fa.rpR, if_pos hg])
    have HX := Lib.hid (Fa.slots hg)
    rw [hg] at c1
    clear hg
    go_enter Tryz.func39, Tryz.ntmps39
    have bx_0 := bx.cell (j := 0) rfl
    have bx_1 := bx.cell (j := 1) rfl
    have bx_2 := bx.cell (j := 2) rfl
    have bx_3 := bx.cell (j := 3) rfl
    have bx_z := bx.frozen
    have bx_l := bx.lt
    go_wp2_with fail
    clear hwA
    clear bx_0 bx_1 bx_2 bx_3 bx_z bx_l
    refine (c1).mono ?_; rintro q_ w1 ⟨rfl, b_1⟩
    replace bx := bx.below b_1 bx.lt
    replace ht := ht.below b_1 (by omega)
    replace hs := hs.below b_1 (by omega)
    replace hw := hw.below b_1 (by omega)
    have z_2 := b_1.size
    replace b0 := b0.trans (b_1.mono (by omega))
    clear b_1
    have bx_0 := bx.cell (j := 0) rfl
    have bx_1 := bx.cell (j := 1) rfl
    have bx_2 := bx.cell (j := 2) rfl
    have bx_3 := bx.cell (j := 3) rfl
    have bx_z := bx.frozen
    have bx_l := bx.lt
    go_wp2_with fail
    clear bx_0 bx_1 bx_2 bx_3 bx_z bx_l
    refine (implRunning_in m _ _ _ st ls lw w1 ht hs hw (by omega) (by omega) (by omega) HX.out).mono ?_; rintro q_ w3 ⟨rfl, b_3⟩
    replace bx := bx.below b_3 bx.lt
    replace ht := ht.below b_3 (by omega)
    replace hs := hs.below b_3 (by omega)
    replace hw := hw.below b_3 (by omega)
    have z_4 := b_3.size
    replace b0 := b0.trans (b_3.mono (by omega))
    clear b_3
    have bx_0 := bx.cell (j := 0) rfl
    have bx_1 := bx.cell (j := 1) rfl
    have bx_2 := bx.cell (j := 2) rfl
    have bx_3 := bx.cell (j := 3) rfl
    have bx_z := bx.frozen
    have bx_l := bx.lt
    go_wp2_with fail
    clear bx_0 bx_1 bx_2 bx_3 bx_z bx_l
    go_ret2
    exact ⟨by rw [HF.out]; rfl, b0⟩

end Go.Proofs.YtengaccnncnipaaGreat
