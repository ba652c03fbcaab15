/- Lemmas and walks that the last text of this claim leans on, part 6. No condition. -/
import Derived.Test.YtengaccnncnipaaGreatMcRunOpsE
/- Running ops on a processor interface, in the program. Condition: at most 1048576 numbers, slots and waiters each. -/
namespace Go.Proofs.YtengaccnncnipaaGreat
open Go.RowKit Go.ChangeShapes Go.WideShapes Go.Deep

set_option maxRecDepth 8000 in
set_option maxHeartbeats 8000000 in
theorem implRunOps_any (m : Int) (vt vs vw : Value) (st : List Int) (ls : List Sl) (lw : List Wt) (w : World) {lo hi lo2 hi2 lo3 hi3 : Nat} (h0 : Rd Nm.cells 1 w lo3 hi3 vt st) (h : Rd Sl.cells 3 w lo hi vs ls) (h2 : Rd Wt.cells 2 w lo2 hi2 vw lw) (hh0 : hi3 ≤ w.heap.size) (hh : hi ≤ w.heap.size) (hh2 : hi2 ≤ w.heap.size) (vo : Value) (ops : List Op_) {lo4 hi4 : Nat} (h4 : Rd Op_.cells 3 w lo4 hi4 vo ops) (hh4 : hi4 ≤ w.heap.size) (hl : st.length ≤ 1048576) (hl1 : ls.length ≤ 1048576) (hl2 : lw.length ≤ 1048576) :
    Calls Tryz.prog 26 #[.agg #[.int .i64 m, vt, vs, vw], vo] w fun e w' => ∃ v0 v1 v2 v3, ∃ q0 q1 q2 q3 : Nat, e = .returned (.tuple #[.agg #[.int .i64 (FS.roS ⟨m, st, ls, lw⟩ ops).m, v0, v1, v2], v3, .bool (FS.roOk ⟨m, st, ls, lw⟩ ops)]) ∧ Ow Nm.cells 1 3 w' q0 q1 v0 (FS.roS ⟨m, st, ls, lw⟩ ops).st ∧ Ow Sl.cells 3 127 w' q0 q1 v1 (FS.roS ⟨m, st, ls, lw⟩ ops).ls ∧ Ow Wt.cells 2 134 w' q0 q1 v2 (FS.roS ⟨m, st, ls, lw⟩ ops).lw ∧ Ow Nm.cells 1 3 w' q2 q3 v3 (FS.roT ⟨m, st, ls, lw⟩ ops) ∧ w.heap.size ≤ q0 ∧ q1 ≤ w'.heap.size ∧ w.heap.size ≤ q2 ∧ q3 ≤ w'.heap.size ∧ (q1 ≤ q2 ∨ q3 ≤ q0) ∧ Below w.heap.size w w' := by
  have b0 : Below w.heap.size w ((w.alloc (.cells #[.int .i64 m, vt, vs, vw] 35)).alloc (.cells #[.int .i64 0, .slice none 0 0, .slice none 0 0, .slice none 0 0] 35)) := ((Below.refl w.heap.size w).alloc (Nat.le_refl _) _).alloc (by simp) _
  have z0 : ((w.alloc (.cells #[.int .i64 m, vt, vs, vw] 35)).alloc (.cells #[.int .i64 0, .slice none 0 0, .slice none 0 0, .slice none 0 0] 35)).heap.size = w.heap.size + 2 := by simp
  have bx := Box.new w #[.int .i64 m, vt, vs, vw] 35 rfl
  have bR := Box.new (g := w.heap.size + 1) (w.alloc (.cells #[.int .i64 m, vt, vs, vw] 35)) #[.int .i64 0, .slice none 0 0, .slice none 0 0, .slice none 0 0] 35 (by simp)
  replace bx := bx.below ((Below.refl _ (w.alloc (.cells #[.int .i64 m, vt, vs, vw] 35))).alloc (Nat.le_refl _) (.cells #[.int .i64 0, .slice none 0 0, .slice none 0 0, .slice none 0 0] 35)) bx.lt
  have ht := h0.below b0 hh0
  have hs := h.below b0 hh
  have hw := h2.below b0 hh2
  have hv0_ := h0.form
  have hv_ := h.form
  have hv2_ := h2.form
  have ho4 := h4.below b0 hh4
  have hv4_ := h4.form
  clear h0 h h2 h4
  generalize hwA : (w.alloc (.cells #[.int .i64 m, vt, vs, vw] 35)).alloc (.cells #[.int .i64 0, .slice none 0 0, .slice none 0 0, .slice none 0 0] 35) = wA at *
  obtain ⟨At, nt, dt, rfl, _, _, _⟩ := hv0_
  obtain ⟨A0, n0, d0, rfl, _, _, _⟩ := hv_
  obtain ⟨A1, n1, d1, rfl, _, _, _⟩ := hv2_
  obtain ⟨A6, n6, d6, rfl, H6, hd6, hm6⟩ := hv4_
  have hn6 : n6 ≤ ops.length := Nat.le_of_eq H6.out
  cases hg : FS.good ⟨m, st, ls, lw⟩
  · have HF := Lib.hid (FS.ro_no (s := ⟨m, st, ls, lw⟩) (l := ops) (by simp [FS.roOk, hg]))
    have HG := Lib.hid (show Fa.good m st ls lw = false from hg)
    clear hg
    go_enter Tryz.func26, Tryz.ntmps26
    have bx_0 := bx.cell (j := 0) rfl
    have bx_1 := bx.cell (j := 1) rfl
    have bx_2 := bx.cell (j := 2) rfl
    have bx_3 := bx.cell (j := 3) rfl
    have bx_z := bx.frozen
    have bx_l := bx.lt
    have bR_0 := bR.cell (j := 0) rfl
    have bR_1 := bR.cell (j := 1) rfl
    have bR_2 := bR.cell (j := 2) rfl
    have bR_3 := bR.cell (j := 3) rfl
    have bR_z := bR.frozen
    have bR_l := bR.lt
    go_wp2_with fail
    clear hwA
    clear bx_0 bx_1 bx_2 bx_3 bx_z bx_l bR_0 bR_1 bR_2 bR_3 bR_z bR_l
    have c1 := implIsInterface_any m _ _ _ st ls lw wA ht hs hw (by omega) (by omega) (by omega) hl
    rw [HG.out] at c1
    refine (c1).mono ?_; rintro q_ w1 ⟨rfl, b_1⟩
    replace bx := bx.below b_1 bx.lt
    replace bR := bR.below b_1 bR.lt
    replace ht := ht.below b_1 (by omega)
    replace hs := hs.below b_1 (by omega)
    replace hw := hw.below b_1 (by omega)
    replace ho4 := ho4.below b_1 (by omega)
    have z_2 := b_1.size
    replace b0 := b0.trans (b_1.mono (by omega))
    clear b_1
    have bx_0 := bx.cell (j := 0) rfl
    have bx_1 := bx.cell (j := 1) rfl
    have bx_2 := bx.cell (j := 2) rfl
    have bx_3 := bx.cell (j := 3) rfl
    have bx_z := bx.frozen
    have bx_l := bx.lt
    have bR_0 := bR.cell (j := 0) rfl
    have bR_1 := bR.cell (j := 1) rfl
    have bR_2 := bR.cell (j := 2) rfl
    have bR_3 := bR.cell (j := 3) rfl
    have bR_z := bR.frozen
    have bR_l := bR.lt
    go_wp2_with fail
    clear bx_0 bx_1 bx_2 bx_3 bx_z bx_l bR_0 bR_1 bR_2 bR_3 bR_z bR_l
    generalize hwz : World.setCell (World.setCell (World.setCell (World.setCell _ _ _) _ _) _ _) _ _ = wz_
    obtain rfl : wz_ = setL w1 (w.heap.size + 1) 0 [.int .i64 0, .slice none 0 0, .slice none 0 0, .slice none 0 0] := hwz.symm
    clear hwz
    replace bx := bx.other (b := w.heap.size + 1) (by omega) 0 [.int .i64 0, .slice none 0 0, .slice none 0 0, .slice none 0 0]
    replace ht := ht.away (g := w.heap.size + 1) (by omega) 0 [.int .i64 0, .slice none 0 0, .slice none 0 0, .slice none 0 0]
    replace hs := hs.away (g := w.heap.size + 1) (by omega) 0 [.int .i64 0, .slice none 0 0, .slice none 0 0, .slice none 0 0]
    replace hw := hw.away (g := w.heap.size + 1) (by omega) 0 [.int .i64 0, .slice none 0 0, .slice none 0 0, .slice none 0 0]
    replace ho4 := ho4.away (g := w.heap.size + 1) (by omega) 0 [.int .i64 0, .slice none 0 0, .slice none 0 0, .slice none 0 0]
    replace b0 := setL_below b0 [.int .i64 0, .slice none 0 0, .slice none 0 0, .slice none 0 0] (w.heap.size + 1) 0 (by omega)
    have zs_3 : (setL w1 (w.heap.size + 1) 0 [.int .i64 0, .slice none 0 0, .slice none 0 0, .slice none 0 0]).heap.size = w1.heap.size := setL_size _ _ _ _
    replace bR := bR.setAll [.int .i64 0, .slice none 0 0, .slice none 0 0, .slice none 0 0] rfl
    generalize setL w1 _ 0 _ = w3 at *
    have u0_ := bR.cell (j := 0) rfl
    have u1_ := bR.cell (j := 1) rfl
    have u2_ := bR.cell (j := 2) rfl
    have u3_ := bR.cell (j := 3) rfl
    refine bodyPost_ret (by simp only [results, Tryz.results26]; simp [go_sem, u0_, u1_, u2_, u3_]; rfl) rfl ?_
    exact ⟨_, _, _, _, w.heap.size, w.heap.size, w.heap.size, w.heap.size, by rw [HF.out.1, HF.out.2.1], by rw [HF.out.2.1]; exact Ow.nil_, by rw [HF.out.2.1]; exact Ow.nil_, by rw [HF.out.2.1]; exact Ow.nil_, by rw [HF.out.2.2]; exact Ow.nil_, Nat.le_refl _, b0.size, Nat.le_refl _, b0.size, Or.inl (Nat.le_refl _), b0⟩
  · by_cases h20 : 20 < n6
    · have HF := Lib.hid (FS.ro_no (s := ⟨m, st, ls, lw⟩) (l := ops) (by simp [FS.roOk]; intro _ _; omega))
      have h20d : decide ((20 : Int) < (n6 : Int)) = true := decide_eq_true (by omega)
      clear h20
      have HG := Lib.hid (show Fa.good m st ls lw = true from hg)
      clear hg
      go_enter Tryz.func26, Tryz.ntmps26
      have bx_0 := bx.cell (j := 0) rfl
      have bx_1 := bx.cell (j := 1) rfl
      have bx_2 := bx.cell (j := 2) rfl
      have bx_3 := bx.cell (j := 3) rfl
      have bx_z := bx.frozen
      have bx_l := bx.lt
      have bR_0 := bR.cell (j := 0) rfl
      have bR_1 := bR.cell (j := 1) rfl
      have bR_2 := bR.cell (j := 2) rfl
      have bR_3 := bR.cell (j := 3) rfl
      have bR_z := bR.frozen
      have bR_l := bR.lt
      go_wp2_with fail
      clear hwA
      clear bx_0 bx_1 bx_2 bx_3 bx_z bx_l bR_0 bR_1 bR_2 bR_3 bR_z bR_l
      have c1 := implIsInterface_any m _ _ _ st ls lw wA ht hs hw (by omega) (by omega) (by omega) hl
      rw [HG.out] at c1
      refine (c1).mono ?_; rintro q_ w1 ⟨rfl, b_1⟩
      replace bx := bx.below b_1 bx.lt
      replace bR := bR.below b_1 bR.lt
      replace ht := ht.below b_1 (by omega)
      replace hs := hs.below b_1 (by omega)
      replace hw := hw.below b_1 (by omega)
      replace ho4 := ho4.below b_1 (by omega)
      have z_2 := b_1.size
      replace b0 := b0.trans (b_1.mono (by omega))
      clear b_1
      have bx_0 := bx.cell (j := 0) rfl
      have bx_1 := bx.cell (j := 1) rfl
      have bx_2 := bx.cell (j := 2) rfl
      have bx_3 := bx.cell (j := 3) rfl
      have bx_z := bx.frozen
      have bx_l := bx.lt
      have bR_0 := bR.cell (j := 0) rfl
      have bR_1 := bR.cell (j := 1) rfl
      have bR_2 := bR.cell (j := 2) rfl
      have bR_3 := bR.cell (j := 3) rfl
      have bR_z := bR.frozen
      have bR_l := bR.lt
      go_wp2_with fail
      clear bx_0 bx_1 bx_2 bx_3 bx_z bx_l bR_0 bR_1 bR_2 bR_3 bR_z bR_l
      generalize hwz : World.setCell (World.setCell (World.setCell (World.setCell _ _ _) _ _) _ _) _ _ = wz_
      obtain rfl : wz_ = setL w1 (w.heap.size + 1) 0 [.int .i64 0, .slice none 0 0, .slice none 0 0, .slice none 0 0] := hwz.symm
      clear hwz
      replace bx := bx.other (b := w.heap.size + 1) (by omega) 0 [.int .i64 0, .slice none 0 0, .slice none 0 0, .slice none 0 0]
      replace ht := ht.away (g := w.heap.size + 1) (by omega) 0 [.int .i64 0, .slice none 0 0, .slice none 0 0, .slice none 0 0]
      replace hs := hs.away (g := w.heap.size + 1) (by omega) 0 [.int .i64 0, .slice none 0 0, .slice none 0 0, .slice none 0 0]
      replace hw := hw.away (g := w.heap.size + 1) (by omega) 0 [.int .i64 0, .slice none 0 0, .slice none 0 0, .slice none 0 0]
      replace ho4 := ho4.away (g := w.heap.size + 1) (by omega) 0 [.int .i64 0, .slice none 0 0, .slice none 0 0, .slice none 0 0]
      replace b0 := setL_below b0 [.int .i64 0, .slice none 0 0, .slice none 0 0, .slice none 0 0] (w.heap.size + 1) 0 (by omega)
      have zs_3 : (setL w1 (w.heap.size + 1) 0 [.int .i64 0, .slice none 0 0, .slice none 0 0, .slice none 0 0]).heap.size = w1.heap.size := setL_size _ _ _ _
      replace bR := bR.setAll [.int .i64 0, .slice none 0 0, .slice none 0 0, .slice none 0 0] rfl
      generalize setL w1 _ 0 _ = w3 at *
      have u0_ := bR.cell (j := 0) rfl
      have u1_ := bR.cell (j := 1) rfl
      have u2_ := bR.cell (j := 2) rfl
      have u3_ := bR.cell (j := 3) rfl
      refine bodyPost_ret (by simp only [results, Tryz.results26]; simp [go_sem, u0_, u1_, u2_, u3_]; rfl) rfl ?_
      exact ⟨_, _, _, _, w.heap.size, w.heap.size, w.heap.size, w.heap.size, by rw [HF.out.1, HF.out.2.1], by rw [HF.out.2.1]; exact Ow.nil_, by rw [HF.out.2.1]; exact Ow.nil_, by rw [HF.out.2.1]; exact Ow.nil_, by rw [HF.out.2.2]; exact Ow.nil_, Nat.le_refl _, b0.size, Nat.le_refl _, b0.size, Or.inl (Nat.le_refl _), b0⟩
    · have HG0 := Lib.hid hg
      have h20d : decide ((20 : Int) < (n6 : Int)) = false := decide_eq_false (by omega)
      cases hA : ops.all Op_.ok
      · have HF := Lib.hid (FS.ro_no (s := ⟨m, st, ls, lw⟩) (l := ops) (by simp [FS.roOk, hA]))
        have HN := Lib.hid (show (ops.any fun t => !t.ok) = true from by rw [Op_.any_bad, hA]; rfl)
        clear hA
        have HG := Lib.hid (show Fa.good m st ls lw = true from hg)
        clear hg
        go_enter Tryz.func26, Tryz.ntmps26
        have bx_0 := bx.cell (j := 0) rfl
        have bx_1 := bx.cell (j := 1) rfl
        have bx_2 := bx.cell (j := 2) rfl
        have bx_3 := bx.cell (j := 3) rfl
        have bx_z := bx.frozen
        have bx_l := bx.lt
        have bR_0 := bR.cell (j := 0) rfl
        have bR_1 := bR.cell (j := 1) rfl
        have bR_2 := bR.cell (j := 2) rfl
        have bR_3 := bR.cell (j := 3) rfl
        have bR_z := bR.frozen
        have bR_l := bR.lt
        go_wp2_with fail
        clear hwA
        clear bx_0 bx_1 bx_2 bx_3 bx_z bx_l bR_0 bR_1 bR_2 bR_3 bR_z bR_l
        have c1 := implIsInterface_any m _ _ _ st ls lw wA ht hs hw (by omega) (by omega) (by omega) hl
        rw [HG.out] at c1
        refine (c1).mono ?_; rintro q_ w1 ⟨rfl, b_1⟩
        replace bx := bx.below b_1 bx.lt
        replace bR := bR.below b_1 bR.lt
        replace ht := ht.below b_1 (by omega)
        replace hs := hs.below b_1 (by omega)
        replace hw := hw.below b_1 (by omega)
        replace ho4 := ho4.below b_1 (by omega)
        have z_2 := b_1.size
        replace b0 := b0.trans (b_1.mono (by omega))
        clear b_1
        have bx_0 := bx.cell (j := 0) rfl
        have bx_1 := bx.cell (j := 1) rfl
        have bx_2 := bx.cell (j := 2) rfl
        have bx_3 := bx.cell (j := 3) rfl
        have bx_z := bx.frozen
        have bx_l := bx.lt
        have bR_0 := bR.cell (j := 0) rfl
        have bR_1 := bR.cell (j := 1) rfl
        have bR_2 := bR.cell (j := 2) rfl
        have bR_3 := bR.cell (j := 3) rfl
        have bR_z := bR.frozen
        have bR_l := bR.lt
        go_wp2_with fail
        clear bx_0 bx_1 bx_2 bx_3 bx_z bx_l bR_0 bR_1 bR_2 bR_3 bR_z bR_l
        have c3 := Op_.contains_any 75 #[] (fun t => !t.ok) _ ops w1 ho4 (by omega) (enters Tryz.func75 (by kernel_rfl) rfl) (fun t W _ _ => badOp_any t W)
        rw [HN.out] at c3
        refine (c3).mono ?_; rintro q_ w3 ⟨rfl, b_3⟩
        replace bx := bx.below b_3 bx.lt
        replace bR := bR.below b_3 bR.lt
        replace ht := ht.below b_3 (by omega)
        replace hs := hs.below b_3 (by omega)
        replace hw := hw.below b_3 (by omega)
        replace ho4 := ho4.below b_3 (by omega)
        have z_4 := b_3.size
        replace b0 := b0.trans (b_3.mono (by omega))
        clear b_3
        have bx_0 := bx.cell (j := 0) rfl
        have bx_1 := bx.cell (j := 1) rfl
        have bx_2 := bx.cell (j := 2) rfl
        have bx_3 := bx.cell (j := 3) rfl
        have bx_z := bx.frozen
        have bx_l := bx.lt
        have bR_0 := bR.cell (j := 0) rfl
        have bR_1 := bR.cell (j := 1) rfl
        have bR_2 := bR.cell (j := 2) rfl
        have bR_3 := bR.cell (j := 3) rfl
        have bR_z := bR.frozen
        have bR_l := bR.lt
        go_wp2_with fail
        clear bx_0 bx_1 bx_2 bx_3 bx_z bx_l bR_0 bR_1 bR_2 bR_3 bR_z bR_l
        generalize hwz : World.setCell (World.setCell (World.setCell (World.setCell _ _ _) _ _) _ _) _ _ = wz_
        obtain rfl : wz_ = setL w3 (w.heap.size + 1) 0 [.int .i64 0, .slice none 0 0, .slice none 0 0, .slice none 0 0] := hwz.symm
        clear hwz
        replace bx := bx.other (b := w.heap.size + 1) (by omega) 0 [.int .i64 0, .slice none 0 0, .slice none 0 0, .slice none 0 0]
        replace ht := ht.away (g := w.heap.size + 1) (by omega) 0 [.int .i64 0, .slice none 0 0, .slice none 0 0, .slice none 0 0]
        replace hs := hs.away (g := w.heap.size + 1) (by omega) 0 [.int .i64 0, .slice none 0 0, .slice none 0 0, .slice none 0 0]
        replace hw := hw.away (g := w.heap.size + 1) (by omega) 0 [.int .i64 0, .slice none 0 0, .slice none 0 0, .slice none 0 0]
        replace ho4 := ho4.away (g := w.heap.size + 1) (by omega) 0 [.int .i64 0, .slice none 0 0, .slice none 0 0, .slice none 0 0]
        replace b0 := setL_below b0 [.int .i64 0, .slice none 0 0, .slice none 0 0, .slice none 0 0] (w.heap.size + 1) 0 (by omega)
        have zs_5 : (setL w3 (w.heap.size + 1) 0 [.int .i64 0, .slice none 0 0, .slice none 0 0, .slice none 0 0]).heap.size = w3.heap.size := setL_size _ _ _ _
        replace bR := bR.setAll [.int .i64 0, .slice none 0 0, .slice none 0 0, .slice none 0 0] rfl
        generalize setL w3 _ 0 _ = w5 at *
        have u0_ := bR.cell (j := 0) rfl
        have u1_ := bR.cell (j := 1) rfl
        have u2_ := bR.cell (j := 2) rfl
        have u3_ := bR.cell (j := 3) rfl
        refine bodyPost_ret (by simp only [results, Tryz.results26]; simp [go_sem, u0_, u1_, u2_, u3_]; rfl) rfl ?_
        exact ⟨_, _, _, _, w.heap.size, w.heap.size, w.heap.size, w.heap.size, by rw [HF.out.1, HF.out.2.1], by rw [HF.out.2.1]; exact Ow.nil_, by rw [HF.out.2.1]; exact Ow.nil_, by rw [HF.out.2.1]; exact Ow.nil_, by rw [HF.out.2.2]; exact Ow.nil_, Nat.le_refl _, b0.size, Nat.le_refl _, b0.size, Or.inl (Nat.le_refl _), b0⟩
      · have HF := Lib.hid (FS.ro_yes (s := ⟨m, st, ls, lw⟩) (l := ops) (by have h6 := H6.out; simp [FS.roOk, hg, hA]; omega))
        have HN := Lib.hid (show (ops.any fun t => !t.ok) = false from by rw [Op_.any_bad, hA]; rfl)
        have HA := Lib.hid hA
        clear hA
        have HG := Lib.hid (show Fa.good m st ls lw = true from hg)
        clear hg
        go_enter Tryz.func26, Tryz.ntmps26
        have bx_0 := bx.cell (j := 0) rfl
        have bx_1 := bx.cell (j := 1) rfl
        have bx_2 := bx.cell (j := 2) rfl
        have bx_3 := bx.cell (j := 3) rfl
        have bx_z := bx.frozen
        have bx_l := bx.lt
        have bR_0 := bR.cell (j := 0) rfl
        have bR_1 := bR.cell (j := 1) rfl
        have bR_2 := bR.cell (j := 2) rfl
        have bR_3 := bR.cell (j := 3) rfl
        have bR_z := bR.frozen
        have bR_l := bR.lt
        go_wp2_with fail
        clear hwA
        clear bx_0 bx_1 bx_2 bx_3 bx_z bx_l bR_0 bR_1 bR_2 bR_3 bR_z bR_l
        have c1 := implIsInterface_any m _ _ _ st ls lw wA ht hs hw (by omega) (by omega) (by omega) hl
        rw [HG.out] at c1
        refine (c1).mono ?_; rintro q_ w1 ⟨rfl, b_1⟩
        replace bx := bx.below b_1 bx.lt
        replace bR := bR.below b_1 bR.lt
        replace ht := ht.below b_1 (by omega)
        replace hs := hs.below b_1 (by omega)
        replace hw := hw.below b_1 (by omega)
        replace ho4 := ho4.below b_1 (by omega)
        have z_2 := b_1.size
        replace b0 := b0.trans (b_1.mono (by omega))
        clear b_1
        have bx_0 := bx.cell (j := 0) rfl
        have bx_1 := bx.cell (j := 1) rfl
        have bx_2 := bx.cell (j := 2) rfl
        have bx_3 := bx.cell (j := 3) rfl
        have bx_z := bx.frozen
        have bx_l := bx.lt
        have bR_0 := bR.cell (j := 0) rfl
        have bR_1 := bR.cell (j := 1) rfl
        have bR_2 := bR.cell (j := 2) rfl
        have bR_3 := bR.cell (j := 3) rfl
        have bR_z := bR.frozen
        have bR_l := bR.lt
        go_wp2_with fail
        clear bx_0 bx_1 bx_2 bx_3 bx_z bx_l bR_0 bR_1 bR_2 bR_3 bR_z bR_l
        have c3 := Op_.contains_any 75 #[] (fun t => !t.ok) _ ops w1 ho4 (by omega) (enters Tryz.func75 (by kernel_rfl) rfl) (fun t W _ _ => badOp_any t W)
        rw [HN.out] at c3
        refine (c3).mono ?_; rintro q_ w3 ⟨rfl, b_3⟩
        replace bx := bx.below b_3 bx.lt
        replace bR := bR.below b_3 bR.lt
        replace ht := ht.below b_3 (by omega)
        replace hs := hs.below b_3 (by omega)
        replace hw := hw.below b_3 (by omega)
        replace ho4 := ho4.below b_3 (by omega)
        have z_4 := b_3.size
        replace b0 := b0.trans (b_3.mono (by omega))
        clear b_3
        have bx_0 := bx.cell (j := 0) rfl
        have bx_1 := bx.cell (j := 1) rfl
        have bx_2 := bx.cell (j := 2) rfl
        have bx_3 := bx.cell (j := 3) rfl
        have bx_z := bx.frozen
        have bx_l := bx.lt
        have bR_0 := bR.cell (j := 0) rfl
        have bR_1 := bR.cell (j := 1) rfl
        have bR_2 := bR.cell (j := 2) rfl
        have bR_3 := bR.cell (j := 3) rfl
        have bR_z := bR.frozen
        have bR_l := bR.lt
        go_wp2_with fail
        clear bx_0 bx_1 bx_2 bx_3 bx_z bx_l bR_0 bR_1 bR_2 bR_3 bR_z bR_l
        refine (implOwnF_any m _ _ _ st ls lw w3 ht hs hw (by omega) (by omega) (by omega) hl hl1 hl2).mono ?_; rintro q_ w5 ⟨v3, v4, v5, rfl, o3, o4, o5, b_5⟩
        replace bx := bx.below b_5 bx.lt
        replace bR := bR.below b_5 bR.lt
        replace ht := ht.below b_5 (by omega)
        replace hs := hs.below b_5 (by omega)
        replace hw := hw.below b_5 (by omega)
        replace ho4 := ho4.below b_5 (by omega)
        have z_6 := b_5.size
        replace b0 := b0.trans (b_5.mono (by omega))
        clear b_5
        obtain ⟨B3, m3, e3, rfl, _, _, _⟩ := o3.rd.form
        obtain ⟨B4, m4, e4, rfl, _, _, _⟩ := o4.rd.form
        obtain ⟨B5, m5, e5, rfl, _, _, _⟩ := o5.rd.form
        have bx_0 := bx.cell (j := 0) rfl
        have bx_1 := bx.cell (j := 1) rfl
        have bx_2 := bx.cell (j := 2) rfl
        have bx_3 := bx.cell (j := 3) rfl
        have bx_z := bx.frozen
        have bx_l := bx.lt
        have bR_0 := bR.cell (j := 0) rfl
        have bR_1 := bR.cell (j := 1) rfl
        have bR_2 := bR.cell (j := 2) rfl
        have bR_3 := bR.cell (j := 3) rfl
        have bR_z := bR.frozen
        have bR_l := bR.lt
        go_upto_region 4 with fail
        clear bx_0 bx_1 bx_2 bx_3 bx_z bx_l bR_0 bR_1 bR_2 bR_3 bR_z bR_l
        have oK := own_empty w5 (base := w.heap.size + 2) 3 1 (by omega)
        have bE := (Below.refl w5.heap.size w5).alloc (Nat.le_refl _) (.cells #[] 3)
        have zE : (w5.alloc (.cells #[] 3)).heap.size = w5.heap.size + 1 := by simp
        replace bx := bx.below bE bx.lt
        replace bR := bR.below bE bR.lt
        replace ht := ht.below bE (by omega)
        replace hs := hs.below bE (by omega)
        replace hw := hw.below bE (by omega)
        replace ho4 := ho4.below bE (by omega)
        replace o3 := o3.below bE (by omega)
        replace o4 := o4.below bE (by omega)
        replace o5 := o5.below bE (by omega)
        have z_7 := bE.size
        replace b0 := b0.trans (bE.mono (by omega))
        clear bE
        generalize w5.alloc _ = wK at *
        have bF := (Below.refl wK.heap.size wK).alloc (Nat.le_refl _) (.cells #[.int .i64 m, .slice B3 m3 e3, .slice B4 m4 e4, .slice B5 m5 e5] 35)
        have bO := Box.new (g := w5.heap.size + 1) wK #[.int .i64 m, .slice B3 m3 e3, .slice B4 m4 e4, .slice B5 m5 e5] 35 zE.symm
        have zF : (wK.alloc (.cells #[.int .i64 m, .slice B3 m3 e3, .slice B4 m4 e4, .slice B5 m5 e5] 35)).heap.size = wK.heap.size + 1 := by simp
        replace bx := bx.below bF bx.lt
        replace bR := bR.below bF bR.lt
        replace ht := ht.below bF (by omega)
        replace hs := hs.below bF (by omega)
        replace hw := hw.below bF (by omega)
        replace ho4 := ho4.below bF (by omega)
        replace o3 := o3.below bF (by omega)
        replace o4 := o4.below bF (by omega)
        replace o5 := o5.below bF (by omega)
        replace oK := own_below oK bF
        have z_8 := bF.size
        replace b0 := b0.trans (bF.mono (by omega))
        clear bF
        generalize wK.alloc _ = wL at *
        clear bx ht hs hw
        have zgO : w.heap.size + 2 ≤ w5.heap.size + 1 := by omega
        generalize hgO : w5.heap.size + 1 = gO at *
        clear hgO
        have bR_0 := bR.cell (j := 0) rfl
        have bR_1 := bR.cell (j := 1) rfl
        have bR_2 := bR.cell (j := 2) rfl
        have bR_3 := bR.cell (j := 3) rfl
        have bR_z := bR.frozen
        have bR_l := bR.lt
        have bO_0 := bO.cell (j := 0) rfl
        have bO_1 := bO.cell (j := 1) rfl
        have bO_2 := bO.cell (j := 2) rfl
        have bO_3 := bO.cell (j := 3) rfl
        have bO_z := bO.frozen
        have bO_l := bO.lt
        go_wp2_with fail
        clear bR_0 bR_1 bR_2 bR_3 bR_z bR_l bO_0 bO_1 bO_2 bO_3 bO_z bO_l
        go_loopw [8, 35] (fun u8 u35 wr => ∃ (k j : Nat) (S : FS) (xs : List Int) (At A0 A1 : Option Addr) (nt dt n0 d0 n1 d1 lo hi : Nat), k ≤ n6 ∧ u35 = .int .i64 k ∧ Hid (FS.runs (⟨m, st, ls, lw⟩, []) (ops.take k) = (S, xs)) ∧ Hid (S.good = true) ∧ Hid (j = xs.length) ∧ j ≤ k ∧ Below w.heap.size w wr ∧ w.heap.size + 2 ≤ wr.heap.size ∧ Box wr gO 35 [.int .i64 S.m, .slice At nt dt, .slice A0 n0 d0, .slice A1 n1 d1] ∧ Box wr (w.heap.size + 1) 35 [.int .i64 0, .slice none 0 0, .slice none 0 0, .slice none 0 0] ∧ Ow Nm.cells 1 3 wr lo hi (.slice At nt dt) S.st ∧ Ow Sl.cells 3 127 wr lo hi (.slice A0 n0 d0) S.ls ∧ Ow Wt.cells 2 134 wr lo hi (.slice A1 n1 d1) S.lw ∧ w.heap.size ≤ lo ∧ hi ≤ wr.heap.size ∧ (∀ g, u8.ownBlock = some g → g < lo ∨ hi ≤ g) ∧ wr.ownsRow (w.heap.size + 2) 3 1 u8 j (xs.flatMap Nm.cells) ∧ Rd Op_.cells 3 wr lo4 hi4 (.slice A6 n6 d6) ops) (fun _ u35 _ => n6 - (intOf u35).toNat)
        case atStart => exact ⟨0, 0, ⟨m, st, ls, lw⟩, [], _, _, _, _, _, _, _, _, _, _, _, Nat.zero_le _, rfl, Lib.hid rfl, HG0, Lib.hid rfl, Nat.le_refl _, b0, by omega, bO, bR, o3, o4, o5, by omega, by omega, (by intro g hg; simp [Value.ownBlock] at hg; omega), oK, ho4⟩
        case round =>
          clear b0 bO bR o3 o4 o5 oK ho4
          obtain ⟨k, j, S, xs, At, A0, A1, nt, dt, n0, d0, n1, d1, lo', hi', hk, rfl, HR, HS, HJ, hj, hB, zw, bO, bR, ot, os, ow, zl, zh, hu, oK, ho4⟩ := hrel
          by_cases hlt : k < n6
          · obtain ⟨b, off, o, rfl, HO, _, hbh, f0, f1, f2⟩ := Op_.get ho4 hlt (Below.refl wr.heap.size wr) (by omega)
            have hki : (k : Int) < (n6 : Int) := by omega
            have HV := Lib.hid (List.all_eq_true.1 HA.out o (List.mem_of_getElem? HO.out))
            have hS4 := FS.good_len HS.out
            have hSp : Qu.parts S.ls S.lw = true := (Qu.good_parts (FS.good_iff.1 HS.out).2.1).1
            have huL : ∀ g, u8.ownBlock = some g → g < wr.heap.size := fun g hg => own_lt oK g hg
            have hvk := (Op_.ok_iff o).1 HV.out
            by_cases h1 : o.kind = 1
            · have HI := Lib.hid (show inB o.irq 0 7 = true from by rcases hvk with h | h | h <;> simp_all <;> omega)
              have HP := Lib.hid (show inB o.prio 0 15 = true from by rcases hvk with h | h | h <;> simp_all <;> omega)
              have HS2 := Lib.hid (FS.rose_good HS.out HI.out HP.out)
              have HQ := Lib.hid hSp
              have HR2 := Lib.hid (show FS.runs (⟨m, st, ls, lw⟩, []) (ops.take (k + 1)) = (S.rose o.irq o.prio, xs) from (FS.runs_pre HO.out).trans (by rw [HR.out]; exact FS.next_rose h1))
              rw [h1] at f0
              clear h1 hvk hSp HV
              have bO_0 := bO.cell (j := 0) rfl
              have bO_1 := bO.cell (j := 1) rfl
              have bO_2 := bO.cell (j := 2) rfl
              have bO_3 := bO.cell (j := 3) rfl
              have bO_z := bO.frozen
              have bO_l := bO.lt
              have bR_0 := bR.cell (j := 0) rfl
              have bR_1 := bR.cell (j := 1) rfl
              have bR_2 := bR.cell (j := 2) rfl
              have bR_3 := bR.cell (j := 3) rfl
              have bR_z := bR.frozen
              have bR_l := bR.lt
              go_upto_region 7 with fail
              clear bO_0 bO_1 bO_2 bO_3 bO_z bO_l bR_0 bR_1 bR_2 bR_3 bR_z bR_l
              have b_201 := (Below.refl wr.heap.size wr).alloc (Nat.le_refl _) (.cells #[.int .i64 1, .int .i64 o.irq, .int .i64 o.prio] 73)
              have bP := Box.new wr #[.int .i64 1, .int .i64 o.irq, .int .i64 o.prio] 73 rfl
              replace bO := bO.below b_201 bO.lt
              replace bR := bR.below b_201 bR.lt
              replace ot := ot.below b_201 (by omega)
              replace os := os.below b_201 (by omega)
              replace ow := ow.below b_201 (by omega)
              replace ho4 := ho4.below b_201 (by omega)
              replace oK := own_below oK b_201
              have z_202 := b_201.size
              replace hB := hB.trans (b_201.mono (by omega))
              clear b_201
              generalize wr.alloc _ = w201 at *
              generalize wr.heap.size = g201 at *
              have bO_0 := bO.cell (j := 0) rfl
              have bO_1 := bO.cell (j := 1) rfl
              have bO_2 := bO.cell (j := 2) rfl
              have bO_3 := bO.cell (j := 3) rfl
              have bO_z := bO.frozen
              have bO_l := bO.lt
              have bR_0 := bR.cell (j := 0) rfl
              have bR_1 := bR.cell (j := 1) rfl
              have bR_2 := bR.cell (j := 2) rfl
              have bR_3 := bR.cell (j := 3) rfl
              have bR_z := bR.frozen
              have bR_l := bR.lt
              have bP_0 := bP.cell (j := 0) rfl
              have bP_1 := bP.cell (j := 1) rfl
              have bP_2 := bP.cell (j := 2) rfl
              have bP_z := bP.frozen
              have bP_l := bP.lt
              go_wp2_with fail
              clear bO_0 bO_1 bO_2 bO_3 bO_z bO_l bR_0 bR_1 bR_2 bR_3 bR_z bR_l bP_0 bP_1 bP_2 bP_z bP_l
              have huC : ∀ g, u8.ownBlock = some g → g < w201.heap.size := fun g hg => by have := huL g hg; omega
              refine (implRaise_in S.m _ _ _ S.st S.ls S.lw w201 ot.rd os.rd ow.rd (by omega) (by omega) (by omega) o.irq o.prio (by omega) HQ.out HI.out HP.out).mono ?_; rintro q_ w203 ⟨v3, v4, v5, rfl, o3, o4, o5, b_203⟩
              replace bO := bO.below b_203 bO.lt
              replace bR := bR.below b_203 bR.lt
              replace bP := bP.below b_203 bP.lt
              replace ot := ot.below b_203 (by omega)
              replace os := os.below b_203 (by omega)
              replace ow := ow.below b_203 (by omega)
              replace ho4 := ho4.below b_203 (by omega)
              replace oK := own_below oK b_203
              have z_204 := b_203.size
              replace hB := hB.trans (b_203.mono (by omega))
              clear b_203
              obtain ⟨B3, m3, e3, rfl, _, _, _⟩ := o3.rd.form
              obtain ⟨B4, m4, e4, rfl, _, _, _⟩ := o4.rd.form
              obtain ⟨B5, m5, e5, rfl, _, _, _⟩ := o5.rd.form
              clear ot os ow f0 f1 f2
              have bO_0 := bO.cell (j := 0) rfl
              have bO_1 := bO.cell (j := 1) rfl
              have bO_2 := bO.cell (j := 2) rfl
              have bO_3 := bO.cell (j := 3) rfl
              have bO_z := bO.frozen
              have bO_l := bO.lt
              have bR_0 := bR.cell (j := 0) rfl
              have bR_1 := bR.cell (j := 1) rfl
              have bR_2 := bR.cell (j := 2) rfl
              have bR_3 := bR.cell (j := 3) rfl
              have bR_z := bR.frozen
              have bR_l := bR.lt
              have bP_0 := bP.cell (j := 0) rfl
              have bP_1 := bP.cell (j := 1) rfl
              have bP_2 := bP.cell (j := 2) rfl
              have bP_z := bP.frozen
              have bP_l := bP.lt
              go_wp2_with fail
              clear bO_0 bO_1 bO_2 bO_3 bO_z bO_l bR_0 bR_1 bR_2 bR_3 bR_z bR_l bP_0 bP_1 bP_2 bP_z bP_l
              go_roundw
              case rel =>
                clear bP
                generalize hwz : World.setCell (World.setCell (World.setCell (World.setCell _ _ _) _ _) _ _) _ _ = wz_
                obtain rfl : wz_ = setL w203 (gO) 0 [.int .i64 S.m, .slice B3 m3 e3, .slice B4 m4 e4, .slice B5 m5 e5] := hwz.symm
                clear hwz
                replace bR := bR.other (b := gO) (by omega) 0 [.int .i64 S.m, .slice B3 m3 e3, .slice B4 m4 e4, .slice B5 m5 e5]
                replace ho4 := ho4.away (g := gO) (by omega) 0 [.int .i64 S.m, .slice B3 m3 e3, .slice B4 m4 e4, .slice B5 m5 e5]
                replace o3 := o3.box (g := gO) bO (by decide) 0 [.int .i64 S.m, .slice B3 m3 e3, .slice B4 m4 e4, .slice B5 m5 e5]
                replace o4 := o4.box (g := gO) bO (by decide) 0 [.int .i64 S.m, .slice B3 m3 e3, .slice B4 m4 e4, .slice B5 m5 e5]
                replace o5 := o5.box (g := gO) bO (by decide) 0 [.int .i64 S.m, .slice B3 m3 e3, .slice B4 m4 e4, .slice B5 m5 e5]
                replace oK := own_box oK bO (by decide) 0 [.int .i64 S.m, .slice B3 m3 e3, .slice B4 m4 e4, .slice B5 m5 e5]
                replace hB := setL_below hB [.int .i64 S.m, .slice B3 m3 e3, .slice B4 m4 e4, .slice B5 m5 e5] (gO) 0 (by omega)
                have zs_205 : (setL w203 (gO) 0 [.int .i64 S.m, .slice B3 m3 e3, .slice B4 m4 e4, .slice B5 m5 e5]).heap.size = w203.heap.size := setL_size _ _ _ _
                replace bO := bO.setAll [.int .i64 S.m, .slice B3 m3 e3, .slice B4 m4 e4, .slice B5 m5 e5] rfl
                generalize setL w203 _ 0 _ = w205 at *
                exact ⟨k + 1, j, S.rose o.irq o.prio, xs, _, _, _, _, _, _, _, _, _, _, _, by omega, by go_num, HR2, HS2, Lib.hid HJ.out, by omega, hB, by omega, bO, bR, o3, o4, o5, by omega, by omega, (fun g hg => by have := huC g hg; omega), oK, ho4⟩
              case measure => simp [intOf]; omega
            by_cases h4 : o.kind = 4
            · have hM : inB o.prio 0 16 = true := by rcases hvk with h | h | h <;> simp_all <;> omega
              have HS2 := Lib.hid (FS.masked_good HS.out hM)
              clear hM
              have HR2 := Lib.hid (show FS.runs (⟨m, st, ls, lw⟩, []) (ops.take (k + 1)) = (S.masked o.prio, xs) from (FS.runs_pre HO.out).trans (by rw [HR.out]; exact FS.next_mask h4))
              rw [h4] at f0
              clear h1 h4 hvk hSp HV
              have bO_0 := bO.cell (j := 0) rfl
              have bO_1 := bO.cell (j := 1) rfl
              have bO_2 := bO.cell (j := 2) rfl
              have bO_3 := bO.cell (j := 3) rfl
              have bO_z := bO.frozen
              have bO_l := bO.lt
              have bR_0 := bR.cell (j := 0) rfl
              have bR_1 := bR.cell (j := 1) rfl
              have bR_2 := bR.cell (j := 2) rfl
              have bR_3 := bR.cell (j := 3) rfl
              have bR_z := bR.frozen
              have bR_l := bR.lt
              go_upto_region 7 with fail
              clear bO_0 bO_1 bO_2 bO_3 bO_z bO_l bR_0 bR_1 bR_2 bR_3 bR_z bR_l
              have b_201 := (Below.refl wr.heap.size wr).alloc (Nat.le_refl _) (.cells #[.int .i64 4, .int .i64 o.irq, .int .i64 o.prio] 73)
              have bP := Box.new wr #[.int .i64 4, .int .i64 o.irq, .int .i64 o.prio] 73 rfl
              replace bO := bO.below b_201 bO.lt
              replace bR := bR.below b_201 bR.lt
              replace ot := ot.below b_201 (by omega)
              replace os := os.below b_201 (by omega)
              replace ow := ow.below b_201 (by omega)
              replace ho4 := ho4.below b_201 (by omega)
              replace oK := own_below oK b_201
              have z_202 := b_201.size
              replace hB := hB.trans (b_201.mono (by omega))
              clear b_201
              generalize wr.alloc _ = w201 at *
              generalize wr.heap.size = g201 at *
              have bO_0 := bO.cell (j := 0) rfl
              have bO_1 := bO.cell (j := 1) rfl
              have bO_2 := bO.cell (j := 2) rfl
              have bO_3 := bO.cell (j := 3) rfl
              have bO_z := bO.frozen
              have bO_l := bO.lt
              have bR_0 := bR.cell (j := 0) rfl
              have bR_1 := bR.cell (j := 1) rfl
              have bR_2 := bR.cell (j := 2) rfl
              have bR_3 := bR.cell (j := 3) rfl
              have bR_z := bR.frozen
              have bR_l := bR.lt
              have bP_0 := bP.cell (j := 0) rfl
              have bP_1 := bP.cell (j := 1) rfl
              have bP_2 := bP.cell (j := 2) rfl
              have bP_z := bP.frozen
              have bP_l := bP.lt
              go_wp2_with fail
              clear bO_0 bO_1 bO_2 bO_3 bO_z bO_l bR_0 bR_1 bR_2 bR_3 bR_z bR_l bP_0 bP_1 bP_2 bP_z bP_l
              have huC : ∀ g, u8.ownBlock = some g → g < w201.heap.size := fun g hg => by have := huL g hg; omega
              refine (implSetF_any S.m _ _ _ S.st S.ls S.lw w201 ot.rd os.rd ow.rd (by omega) (by omega) (by omega) o.prio (by omega) (by omega) (by omega)).mono ?_; rintro q_ w203 ⟨v3, v4, v5, rfl, o3, o4, o5, b_203⟩
              replace bO := bO.below b_203 bO.lt
              replace bR := bR.below b_203 bR.lt
              replace bP := bP.below b_203 bP.lt
              replace ot := ot.below b_203 (by omega)
              replace os := os.below b_203 (by omega)
              replace ow := ow.below b_203 (by omega)
              replace ho4 := ho4.below b_203 (by omega)
              replace oK := own_below oK b_203
              have z_204 := b_203.size
              replace hB := hB.trans (b_203.mono (by omega))
              clear b_203
              obtain ⟨B3, m3, e3, rfl, _, _, _⟩ := o3.rd.form
              obtain ⟨B4, m4, e4, rfl, _, _, _⟩ := o4.rd.form
              obtain ⟨B5, m5, e5, rfl, _, _, _⟩ := o5.rd.form
              clear ot os ow f0 f1 f2
              have bO_0 := bO.cell (j := 0) rfl
              have bO_1 := bO.cell (j := 1) rfl
              have bO_2 := bO.cell (j := 2) rfl
              have bO_3 := bO.cell (j := 3) rfl
              have bO_z := bO.frozen
              have bO_l := bO.lt
              have bR_0 := bR.cell (j := 0) rfl
              have bR_1 := bR.cell (j := 1) rfl
              have bR_2 := bR.cell (j := 2) rfl
              have bR_3 := bR.cell (j := 3) rfl
              have bR_z := bR.frozen
              have bR_l := bR.lt
              have bP_0 := bP.cell (j := 0) rfl
              have bP_1 := bP.cell (j := 1) rfl
              have bP_2 := bP.cell (j := 2) rfl
              have bP_z := bP.frozen
              have bP_l := bP.lt
              go_wp2_with fail
              clear bO_0 bO_1 bO_2 bO_3 bO_z bO_l bR_0 bR_1 bR_2 bR_3 bR_z bR_l bP_0 bP_1 bP_2 bP_z bP_l
              go_roundw
              case rel =>
                clear bP
                generalize hwz : World.setCell (World.setCell (World.setCell (World.setCell _ _ _) _ _) _ _) _ _ = wz_
                obtain rfl : wz_ = setL w203 (gO) 0 [.int .i64 o.prio, .slice B3 m3 e3, .slice B4 m4 e4, .slice B5 m5 e5] := hwz.symm
                clear hwz
                replace bR := bR.other (b := gO) (by omega) 0 [.int .i64 o.prio, .slice B3 m3 e3, .slice B4 m4 e4, .slice B5 m5 e5]
                replace ho4 := ho4.away (g := gO) (by omega) 0 [.int .i64 o.prio, .slice B3 m3 e3, .slice B4 m4 e4, .slice B5 m5 e5]
                replace o3 := o3.box (g := gO) bO (by decide) 0 [.int .i64 o.prio, .slice B3 m3 e3, .slice B4 m4 e4, .slice B5 m5 e5]
                replace o4 := o4.box (g := gO) bO (by decide) 0 [.int .i64 o.prio, .slice B3 m3 e3, .slice B4 m4 e4, .slice B5 m5 e5]
                replace o5 := o5.box (g := gO) bO (by decide) 0 [.int .i64 o.prio, .slice B3 m3 e3, .slice B4 m4 e4, .slice B5 m5 e5]
                replace oK := own_box oK bO (by decide) 0 [.int .i64 o.prio, .slice B3 m3 e3, .slice B4 m4 e4, .slice B5 m5 e5]
                replace hB := setL_below hB [.int .i64 o.prio, .slice B3 m3 e3, .slice B4 m4 e4, .slice B5 m5 e5] (gO) 0 (by omega)
                have zs_205 : (setL w203 (gO) 0 [.int .i64 o.prio, .slice B3 m3 e3, .slice B4 m4 e4, .slice B5 m5 e5]).heap.size = w203.heap.size := setL_size _ _ _ _
                replace bO := bO.setAll [.int .i64 o.prio, .slice B3 m3 e3, .slice B4 m4 e4, .slice B5 m5 e5] rfl
                generalize setL w203 _ 0 _ = w205 at *
                exact ⟨k + 1, j, S.masked o.prio, xs, _, _, _, _, _, _, _, _, _, _, _, by omega, by go_num, HR2, HS2, Lib.hid HJ.out, by omega, hB, by omega, bO, bR, o3, o4, o5, by omega, by omega, (fun g hg => by have := huC g hg; omega), oK, ho4⟩
              case measure => simp [intOf]; omega
            by_cases h2 : o.kind = 2
            · clear h1
              have HX := Lib.hid (Fa.slots HS.out)
              have HGs := Lib.hid (Fa.good_sl HS.out)
              rw [h2] at f0
              cases hk : S.tk
              · have HS2 := HS
                have HR2 := Lib.hid (show FS.runs (⟨m, st, ls, lw⟩, []) (ops.take (k + 1)) = (S, xs) from (FS.runs_pre HO.out).trans (by rw [HR.out]; exact FS.next_none h2 hk))
                have HK := Lib.hid (show Fa.tkM S.m S.ls (minI S.m (Fa.run S.st S.ls)) = 0 ∧ Fa.tkU S.st S.ls (minI S.m (Fa.run S.st S.ls)) = [] ∧ Sl.tkR S.ls (minI S.m (Fa.run S.st S.ls)) = [] ∧ Qu.tkK S.ls (minI S.m (Fa.run S.st S.ls)) S.lw = [] ∧ Sl.tkV S.ls (minI S.m (Fa.run S.st S.ls)) = 0 ∧ Sl.tkOk S.ls (minI S.m (Fa.run S.st S.ls)) = false from by unfold FS.tk at hk; simp [Fa.tkM, Fa.tkU, Sl.tkR, Qu.tkK, Sl.tkV, hk])
                clear h2 hk hvk hSp HV
                have bO_0 := bO.cell (j := 0) rfl
                have bO_1 := bO.cell (j := 1) rfl
                have bO_2 := bO.cell (j := 2) rfl
                have bO_3 := bO.cell (j := 3) rfl
                have bO_z := bO.frozen
                have bO_l := bO.lt
                have bR_0 := bR.cell (j := 0) rfl
                have bR_1 := bR.cell (j := 1) rfl
                have bR_2 := bR.cell (j := 2) rfl
                have bR_3 := bR.cell (j := 3) rfl
                have bR_z := bR.frozen
                have bR_l := bR.lt
                go_upto_region 7 with fail
                clear bO_0 bO_1 bO_2 bO_3 bO_z bO_l bR_0 bR_1 bR_2 bR_3 bR_z bR_l
                have b_201 := (Below.refl wr.heap.size wr).alloc (Nat.le_refl _) (.cells #[.int .i64 2, .int .i64 o.irq, .int .i64 o.prio] 73)
                have bP := Box.new wr #[.int .i64 2, .int .i64 o.irq, .int .i64 o.prio] 73 rfl
                replace bO := bO.below b_201 bO.lt
                replace bR := bR.below b_201 bR.lt
                replace ot := ot.below b_201 (by omega)
                replace os := os.below b_201 (by omega)
                replace ow := ow.below b_201 (by omega)
                replace ho4 := ho4.below b_201 (by omega)
                replace oK := own_below oK b_201
                have z_202 := b_201.size
                replace hB := hB.trans (b_201.mono (by omega))
                clear b_201
                generalize wr.alloc _ = w201 at *
                generalize wr.heap.size = g201 at *
                have bO_0 := bO.cell (j := 0) rfl
                have bO_1 := bO.cell (j := 1) rfl
                have bO_2 := bO.cell (j := 2) rfl
                have bO_3 := bO.cell (j := 3) rfl
                have bO_z := bO.frozen
                have bO_l := bO.lt
                have bR_0 := bR.cell (j := 0) rfl
                have bR_1 := bR.cell (j := 1) rfl
                have bR_2 := bR.cell (j := 2) rfl
                have bR_3 := bR.cell (j := 3) rfl
                have bR_z := bR.frozen
                have bR_l := bR.lt
                have bP_0 := bP.cell (j := 0) rfl
                have bP_1 := bP.cell (j := 1) rfl
                have bP_2 := bP.cell (j := 2) rfl
                have bP_z := bP.frozen
                have bP_l := bP.lt
                go_wp2_with fail
                clear bO_0 bO_1 bO_2 bO_3 bO_z bO_l bR_0 bR_1 bR_2 bR_3 bR_z bR_l bP_0 bP_1 bP_2 bP_z bP_l
                have c2 := implTakeF_in S.m _ _ _ S.st S.ls S.lw w201 ot.rd os.rd ow.rd (by omega) (by omega) (by omega) HGs.out HX.out (by omega) (by omega)
                rw [HK.out.1, HK.out.2.1, HK.out.2.2.1, HK.out.2.2.2.1, HK.out.2.2.2.2.1, HK.out.2.2.2.2.2] at c2
                have huC : ∀ g, u8.ownBlock = some g → g < w201.heap.size := fun g hg => by have := huL g hg; omega
                refine (c2).mono ?_; rintro q_ w203 ⟨v3, v4, v5, rfl, o3, o4, o5, b_203⟩
                replace bO := bO.below b_203 bO.lt
                replace bR := bR.below b_203 bR.lt
                replace bP := bP.below b_203 bP.lt
                replace ot := ot.below b_203 (by omega)
                replace os := os.below b_203 (by omega)
                replace ow := ow.below b_203 (by omega)
                replace ho4 := ho4.below b_203 (by omega)
                replace oK := own_below oK b_203
                have z_204 := b_203.size
                replace hB := hB.trans (b_203.mono (by omega))
                clear b_203
                obtain ⟨B3, m3, e3, rfl, _, _, _⟩ := o3.rd.form
                obtain ⟨B4, m4, e4, rfl, _, _, _⟩ := o4.rd.form
                obtain ⟨B5, m5, e5, rfl, _, _, _⟩ := o5.rd.form
                clear f0 f1 f2
                have bO_0 := bO.cell (j := 0) rfl
                have bO_1 := bO.cell (j := 1) rfl
                have bO_2 := bO.cell (j := 2) rfl
                have bO_3 := bO.cell (j := 3) rfl
                have bO_z := bO.frozen
                have bO_l := bO.lt
                have bR_0 := bR.cell (j := 0) rfl
                have bR_1 := bR.cell (j := 1) rfl
                have bR_2 := bR.cell (j := 2) rfl
                have bR_3 := bR.cell (j := 3) rfl
                have bR_z := bR.frozen
                have bR_l := bR.lt
                have bP_0 := bP.cell (j := 0) rfl
                have bP_1 := bP.cell (j := 1) rfl
                have bP_2 := bP.cell (j := 2) rfl
                have bP_z := bP.frozen
                have bP_l := bP.lt
                go_upto_region 14 with fail
                clear bO_0 bO_1 bO_2 bO_3 bO_z bO_l bR_0 bR_1 bR_2 bR_3 bR_z bR_l bP_0 bP_1 bP_2 bP_z bP_l
                have b_205 := (Below.refl w203.heap.size w203).alloc (Nat.le_refl _) (.cells #[.int .i64 0, .slice B3 m3 e3, .slice B4 m4 e4, .slice B5 m5 e5] 35)
                have bN := Box.new w203 #[.int .i64 0, .slice B3 m3 e3, .slice B4 m4 e4, .slice B5 m5 e5] 35 rfl
                replace bO := bO.below b_205 bO.lt
                replace bR := bR.below b_205 bR.lt
                replace bP := bP.below b_205 bP.lt
                replace ot := ot.below b_205 (by omega)
                replace os := os.below b_205 (by omega)
                replace ow := ow.below b_205 (by omega)
                replace ho4 := ho4.below b_205 (by omega)
                replace o3 := o3.below b_205 (by omega)
                replace o4 := o4.below b_205 (by omega)
                replace o5 := o5.below b_205 (by omega)
                replace oK := own_below oK b_205
                have z_206 := b_205.size
                replace hB := hB.trans (b_205.mono (by omega))
                clear b_205
                generalize w203.alloc _ = w205 at *
                generalize w203.heap.size = g205 at *
                have bO_0 := bO.cell (j := 0) rfl
                have bO_1 := bO.cell (j := 1) rfl
                have bO_2 := bO.cell (j := 2) rfl
                have bO_3 := bO.cell (j := 3) rfl
                have bO_z := bO.frozen
                have bO_l := bO.lt
                have bR_0 := bR.cell (j := 0) rfl
                have bR_1 := bR.cell (j := 1) rfl
                have bR_2 := bR.cell (j := 2) rfl
                have bR_3 := bR.cell (j := 3) rfl
                have bR_z := bR.frozen
                have bR_l := bR.lt
                have bP_0 := bP.cell (j := 0) rfl
                have bP_1 := bP.cell (j := 1) rfl
                have bP_2 := bP.cell (j := 2) rfl
                have bP_z := bP.frozen
                have bP_l := bP.lt
                have bN_0 := bN.cell (j := 0) rfl
                have bN_1 := bN.cell (j := 1) rfl
                have bN_2 := bN.cell (j := 2) rfl
                have bN_3 := bN.cell (j := 3) rfl
                have bN_z := bN.frozen
                have bN_l := bN.lt
                go_wp2_with fail
                clear bO_0 bO_1 bO_2 bO_3 bO_z bO_l bR_0 bR_1 bR_2 bR_3 bR_z bR_l bP_0 bP_1 bP_2 bP_z bP_l bN_0 bN_1 bN_2 bN_3 bN_z bN_l
                go_roundw
                case rel =>
                  clear bN
                  clear bP
                  exact ⟨k + 1, j, S, xs, _, _, _, _, _, _, _, _, _, _, _, by omega, by go_num, HR2, HS2, Lib.hid HJ.out, by omega, hB, by omega, bO, bR, ot, os, ow, by omega, by omega, (fun g hg => hu g hg), oK, ho4⟩
                case measure => simp [intOf]; omega
              · have HS2 := Lib.hid (FS.took_good HS.out hk)
                have HR2 := Lib.hid (show FS.runs (⟨m, st, ls, lw⟩, []) (ops.take (k + 1)) = (S.took, xs ++ [Sl.tkI S.ls]) from (FS.runs_pre HO.out).trans (by rw [HR.out]; exact FS.next_took h2 hk))
                have hI := Sl.tk_irq HGs.out hk
                have hId : decide ((0 : Int) ≤ Sl.tkI S.ls) = true := decide_eq_true (by omega)
                have HK := Lib.hid (show Fa.tkM S.m S.ls (minI S.m (Fa.run S.st S.ls)) = S.m ∧ Fa.tkU S.st S.ls (minI S.m (Fa.run S.st S.ls)) = S.st ++ [Sl.tkI S.ls] ∧ Sl.tkR S.ls (minI S.m (Fa.run S.st S.ls)) = Sl.tkS S.ls ∧ Qu.tkK S.ls (minI S.m (Fa.run S.st S.ls)) S.lw = S.lw ∧ Sl.tkV S.ls (minI S.m (Fa.run S.st S.ls)) = Sl.tkI S.ls ∧ Sl.tkOk S.ls (minI S.m (Fa.run S.st S.ls)) = true from by unfold FS.tk at hk; simp [Fa.tkM, Fa.tkU, Sl.tkR, Qu.tkK, Sl.tkV, hk])
                clear h2 hk hvk hSp HV
                have bO_0 := bO.cell (j := 0) rfl
                have bO_1 := bO.cell (j := 1) rfl
                have bO_2 := bO.cell (j := 2) rfl
                have bO_3 := bO.cell (j := 3) rfl
                have bO_z := bO.frozen
                have bO_l := bO.lt
                have bR_0 := bR.cell (j := 0) rfl
                have bR_1 := bR.cell (j := 1) rfl
                have bR_2 := bR.cell (j := 2) rfl
                have bR_3 := bR.cell (j := 3) rfl
                have bR_z := bR.frozen
                have bR_l := bR.lt
                go_upto_region 7 with fail
                clear bO_0 bO_1 bO_2 bO_3 bO_z bO_l bR_0 bR_1 bR_2 bR_3 bR_z bR_l
                have b_201 := (Below.refl wr.heap.size wr).alloc (Nat.le_refl _) (.cells #[.int .i64 2, .int .i64 o.irq, .int .i64 o.prio] 73)
                have bP := Box.new wr #[.int .i64 2, .int .i64 o.irq, .int .i64 o.prio] 73 rfl
                replace bO := bO.below b_201 bO.lt
                replace bR := bR.below b_201 bR.lt
                replace ot := ot.below b_201 (by omega)
                replace os := os.below b_201 (by omega)
                replace ow := ow.below b_201 (by omega)
                replace ho4 := ho4.below b_201 (by omega)
                replace oK := own_below oK b_201
                have z_202 := b_201.size
                replace hB := hB.trans (b_201.mono (by omega))
                clear b_201
                generalize wr.alloc _ = w201 at *
                generalize wr.heap.size = g201 at *
                have bO_0 := bO.cell (j := 0) rfl
                have bO_1 := bO.cell (j := 1) rfl
                have bO_2 := bO.cell (j := 2) rfl
                have bO_3 := bO.cell (j := 3) rfl
                have bO_z := bO.frozen
                have bO_l := bO.lt
                have bR_0 := bR.cell (j := 0) rfl
                have bR_1 := bR.cell (j := 1) rfl
                have bR_2 := bR.cell (j := 2) rfl
                have bR_3 := bR.cell (j := 3) rfl
                have bR_z := bR.frozen
                have bR_l := bR.lt
                have bP_0 := bP.cell (j := 0) rfl
                have bP_1 := bP.cell (j := 1) rfl
                have bP_2 := bP.cell (j := 2) rfl
                have bP_z := bP.frozen
                have bP_l := bP.lt
                go_wp2_with fail
                clear bO_0 bO_1 bO_2 bO_3 bO_z bO_l bR_0 bR_1 bR_2 bR_3 bR_z bR_l bP_0 bP_1 bP_2 bP_z bP_l
                have c2 := implTakeF_in S.m _ _ _ S.st S.ls S.lw w201 ot.rd os.rd ow.rd (by omega) (by omega) (by omega) HGs.out HX.out (by omega) (by omega)
                rw [HK.out.1, HK.out.2.1, HK.out.2.2.1, HK.out.2.2.2.1, HK.out.2.2.2.2.1, HK.out.2.2.2.2.2] at c2
                have huC : ∀ g, u8.ownBlock = some g → g < w201.heap.size := fun g hg => by have := huL g hg; omega
                refine (c2).mono ?_; rintro q_ w203 ⟨v3, v4, v5, rfl, o3, o4, o5, b_203⟩
                replace bO := bO.below b_203 bO.lt
                replace bR := bR.below b_203 bR.lt
                replace bP := bP.below b_203 bP.lt
                replace ot := ot.below b_203 (by omega)
                replace os := os.below b_203 (by omega)
                replace ow := ow.below b_203 (by omega)
                replace ho4 := ho4.below b_203 (by omega)
                replace oK := own_below oK b_203
                have z_204 := b_203.size
                replace hB := hB.trans (b_203.mono (by omega))
                clear b_203
                obtain ⟨B3, m3, e3, rfl, _, _, _⟩ := o3.rd.form
                obtain ⟨B4, m4, e4, rfl, _, _, _⟩ := o4.rd.form
                obtain ⟨B5, m5, e5, rfl, _, _, _⟩ := o5.rd.form
                clear ot os ow f0 f1 f2
                have bO_0 := bO.cell (j := 0) rfl
                have bO_1 := bO.cell (j := 1) rfl
                have bO_2 := bO.cell (j := 2) rfl
                have bO_3 := bO.cell (j := 3) rfl
                have bO_z := bO.frozen
                have bO_l := bO.lt
                have bR_0 := bR.cell (j := 0) rfl
                have bR_1 := bR.cell (j := 1) rfl
                have bR_2 := bR.cell (j := 2) rfl
                have bR_3 := bR.cell (j := 3) rfl
                have bR_z := bR.frozen
                have bR_l := bR.lt
                have bP_0 := bP.cell (j := 0) rfl
                have bP_1 := bP.cell (j := 1) rfl
                have bP_2 := bP.cell (j := 2) rfl
                have bP_z := bP.frozen
                have bP_l := bP.lt
                go_upto_region 14 with fail
                clear bO_0 bO_1 bO_2 bO_3 bO_z bO_l bR_0 bR_1 bR_2 bR_3 bR_z bR_l bP_0 bP_1 bP_2 bP_z bP_l
                have b_205 := (Below.refl w203.heap.size w203).alloc (Nat.le_refl _) (.cells #[.int .i64 S.m, .slice B3 m3 e3, .slice B4 m4 e4, .slice B5 m5 e5] 35)
                have bN := Box.new w203 #[.int .i64 S.m, .slice B3 m3 e3, .slice B4 m4 e4, .slice B5 m5 e5] 35 rfl
                replace bO := bO.below b_205 bO.lt
                replace bR := bR.below b_205 bR.lt
                replace bP := bP.below b_205 bP.lt
                replace ho4 := ho4.below b_205 (by omega)
                replace o3 := o3.below b_205 (by omega)
                replace o4 := o4.below b_205 (by omega)
                replace o5 := o5.below b_205 (by omega)
                replace oK := own_below oK b_205
                have z_206 := b_205.size
                replace hB := hB.trans (b_205.mono (by omega))
                clear b_205
                generalize w203.alloc _ = w205 at *
                generalize w203.heap.size = g205 at *
                have bO_0 := bO.cell (j := 0) rfl
                have bO_1 := bO.cell (j := 1) rfl
                have bO_2 := bO.cell (j := 2) rfl
                have bO_3 := bO.cell (j := 3) rfl
                have bO_z := bO.frozen
                have bO_l := bO.lt
                have bR_0 := bR.cell (j := 0) rfl
                have bR_1 := bR.cell (j := 1) rfl
                have bR_2 := bR.cell (j := 2) rfl
                have bR_3 := bR.cell (j := 3) rfl
                have bR_z := bR.frozen
                have bR_l := bR.lt
                have bP_0 := bP.cell (j := 0) rfl
                have bP_1 := bP.cell (j := 1) rfl
                have bP_2 := bP.cell (j := 2) rfl
                have bP_z := bP.frozen
                have bP_l := bP.lt
                have bN_0 := bN.cell (j := 0) rfl
                have bN_1 := bN.cell (j := 1) rfl
                have bN_2 := bN.cell (j := 2) rfl
                have bN_3 := bN.cell (j := 3) rfl
                have bN_z := bN.frozen
                have bN_l := bN.lt
                go_upto_region 16 with fail
                clear bO_0 bO_1 bO_2 bO_3 bO_z bO_l bR_0 bR_1 bR_2 bR_3 bR_z bR_l bP_0 bP_1 bP_2 bP_z bP_l bN_0 bN_1 bN_2 bN_3 bN_z bN_l
                clear bN bP
                generalize hwz : World.setCell (World.setCell (World.setCell (World.setCell _ _ _) _ _) _ _) _ _ = wz_
                obtain rfl : wz_ = setL w205 (gO) 0 [.int .i64 S.m, .slice B3 m3 e3, .slice B4 m4 e4, .slice B5 m5 e5] := hwz.symm
                clear hwz
                replace bR := bR.other (b := gO) (by omega) 0 [.int .i64 S.m, .slice B3 m3 e3, .slice B4 m4 e4, .slice B5 m5 e5]
                replace ho4 := ho4.away (g := gO) (by omega) 0 [.int .i64 S.m, .slice B3 m3 e3, .slice B4 m4 e4, .slice B5 m5 e5]
                replace o3 := o3.box (g := gO) bO (by decide) 0 [.int .i64 S.m, .slice B3 m3 e3, .slice B4 m4 e4, .slice B5 m5 e5]
                replace o4 := o4.box (g := gO) bO (by decide) 0 [.int .i64 S.m, .slice B3 m3 e3, .slice B4 m4 e4, .slice B5 m5 e5]
                replace o5 := o5.box (g := gO) bO (by decide) 0 [.int .i64 S.m, .slice B3 m3 e3, .slice B4 m4 e4, .slice B5 m5 e5]
                replace oK := own_box oK bO (by decide) 0 [.int .i64 S.m, .slice B3 m3 e3, .slice B4 m4 e4, .slice B5 m5 e5]
                replace hB := setL_below hB [.int .i64 S.m, .slice B3 m3 e3, .slice B4 m4 e4, .slice B5 m5 e5] (gO) 0 (by omega)
                have zs_207 : (setL w205 (gO) 0 [.int .i64 S.m, .slice B3 m3 e3, .slice B4 m4 e4, .slice B5 m5 e5]).heap.size = w205.heap.size := setL_size _ _ _ _
                replace bO := bO.setAll [.int .i64 S.m, .slice B3 m3 e3, .slice B4 m4 e4, .slice B5 m5 e5] rfl
                generalize setL w205 _ 0 _ = w207 at *
                have zs_a := Nat.le_of_eq zs_207
                have zs_b := Nat.le_of_eq zs_207.symm
                clear zs_207
                have bL := (Below.refl w207.heap.size w207).alloc (Nat.le_refl _) (.cells #[.int .i64 (Sl.tkI S.ls)] 3)
                have zL : (w207.alloc (.cells #[.int .i64 (Sl.tkI S.ls)] 3)).heap.size = w207.heap.size + 1 := by simp
                have oKL := oK.alloc (.cells #[.int .i64 (Sl.tkI S.ls)] 3)
                go_wp2_with (at_builtin; (refine Nm.app_one2 rfl _ _ rfl (w.heap.size + 2) u8 j _ rfl oKL (g := w207.heap.size) (c := 1) (Sl.tkI S.ls) rfl (fun j u hu => cell_new _ _ _ rfl (by simpa [Nm.cells] using hu)) (by omega) (by omega) ?_); (intro v8 w8 oK8 g8 d8))
                replace bO := (bO.below bL bO.lt).grown_own oKL g8 (by decide)
                replace bR := (bR.below bL bR.lt).grown_own oKL g8 (by decide)
                replace ho4 := (ho4.below bL (by omega)).grown g8 (by omega) (fun g hg => by have := own_ge oKL g hg; omega)
                replace o3 := (o3.below bL (by omega)).grown_off g8 (fun g hg => by have := huC g hg; omega)
                replace o4 := (o4.below bL (by omega)).grown_own oKL g8 (by decide)
                replace o5 := (o5.below bL (by omega)).grown_own oKL g8 (by decide)
                replace hB := (hB.trans (bL.mono (by omega))).grown g8 (by omega) (fun g hg => by have := own_ge oKL g hg; omega)
                have z8 := g8.size
                rw [zL] at d8
                have oK8' : w8.ownsRow (w.heap.size + 2) 3 1 v8 (j + 1) ((xs ++ [(Sl.tkI S.ls)]).flatMap Nm.cells) := by rw [List.flatMap_append]; simpa using oK8
                clear oK8 oKL oK g8
                have oK8 := oK8'
                clear oK8' bL
                go_roundw
                case rel =>
                  exact ⟨k + 1, j + 1, S.took, xs ++ [Sl.tkI S.ls], _, _, _, _, _, _, _, _, _, _, _, by omega, by go_num, HR2, HS2, Lib.hid (by rw [List.length_append, HJ.out]; rfl), by omega, hB, by omega, bO, bR, o3, o4, o5, by omega, by omega, (fun g hg => by rcases d8 with e | e <;> rw [e] at hg <;> first | (have := huC g hg; omega) | (simp at hg; omega)), oK8, ho4⟩
                case measure => simp [intOf]; omega
            have h3 : o.kind = 3 := Op_.kind3 HV.out h1 h2 h4
            clear h1 h2
            rw [h3] at f0
            by_cases hz : S.st.length = 0
            · have HS2 := HS
              have HR2 := Lib.hid (show FS.runs (⟨m, st, ls, lw⟩, []) (ops.take (k + 1)) = (S, xs) from (FS.runs_pre HO.out).trans (by rw [HR.out]; exact FS.next_nil h3 hz))
              have hzn : S.st = [] := List.eq_nil_of_length_eq_zero hz
              clear h3 hz hvk hSp HV
              have bO_0 := bO.cell (j := 0) rfl
              have bO_1 := bO.cell (j := 1) rfl
              have bO_2 := bO.cell (j := 2) rfl
              have bO_3 := bO.cell (j := 3) rfl
              have bO_z := bO.frozen
              have bO_l := bO.lt
              have bR_0 := bR.cell (j := 0) rfl
              have bR_1 := bR.cell (j := 1) rfl
              have bR_2 := bR.cell (j := 2) rfl
              have bR_3 := bR.cell (j := 3) rfl
              have bR_z := bR.frozen
              have bR_l := bR.lt
              go_upto_region 7 with fail
              clear bO_0 bO_1 bO_2 bO_3 bO_z bO_l bR_0 bR_1 bR_2 bR_3 bR_z bR_l
              have b_201 := (Below.refl wr.heap.size wr).alloc (Nat.le_refl _) (.cells #[.int .i64 3, .int .i64 o.irq, .int .i64 o.prio] 73)
              have bP := Box.new wr #[.int .i64 3, .int .i64 o.irq, .int .i64 o.prio] 73 rfl
              replace bO := bO.below b_201 bO.lt
              replace bR := bR.below b_201 bR.lt
              replace ot := ot.below b_201 (by omega)
              replace os := os.below b_201 (by omega)
              replace ow := ow.below b_201 (by omega)
              replace ho4 := ho4.below b_201 (by omega)
              replace oK := own_below oK b_201
              have z_202 := b_201.size
              replace hB := hB.trans (b_201.mono (by omega))
              clear b_201
              generalize wr.alloc _ = w201 at *
              generalize wr.heap.size = g201 at *
              have bO_0 := bO.cell (j := 0) rfl
              have bO_1 := bO.cell (j := 1) rfl
              have bO_2 := bO.cell (j := 2) rfl
              have bO_3 := bO.cell (j := 3) rfl
              have bO_z := bO.frozen
              have bO_l := bO.lt
              have bR_0 := bR.cell (j := 0) rfl
              have bR_1 := bR.cell (j := 1) rfl
              have bR_2 := bR.cell (j := 2) rfl
              have bR_3 := bR.cell (j := 3) rfl
              have bR_z := bR.frozen
              have bR_l := bR.lt
              have bP_0 := bP.cell (j := 0) rfl
              have bP_1 := bP.cell (j := 1) rfl
              have bP_2 := bP.cell (j := 2) rfl
              have bP_z := bP.frozen
              have bP_l := bP.lt
              go_wp2_with fail
              clear bO_0 bO_1 bO_2 bO_3 bO_z bO_l bR_0 bR_1 bR_2 bR_3 bR_z bR_l bP_0 bP_1 bP_2 bP_z bP_l
              refine (implLeave_nil S.m _ _ _ S.st S.ls S.lw w201 ot.rd os.rd ow.rd (by omega) (by omega) (by omega) hzn).mono ?_; rintro q_ w203 ⟨rfl, b_203⟩
              replace bO := bO.below b_203 bO.lt
              replace bR := bR.below b_203 bR.lt
              replace bP := bP.below b_203 bP.lt
              replace ot := ot.below b_203 (by omega)
              replace os := os.below b_203 (by omega)
              replace ow := ow.below b_203 (by omega)
              replace ho4 := ho4.below b_203 (by omega)
              replace oK := own_below oK b_203
              have z_204 := b_203.size
              replace hB := hB.trans (b_203.mono (by omega))
              clear b_203
              clear f0 f1 f2 hzn
              have bO_0 := bO.cell (j := 0) rfl
              have bO_1 := bO.cell (j := 1) rfl
              have bO_2 := bO.cell (j := 2) rfl
              have bO_3 := bO.cell (j := 3) rfl
              have bO_z := bO.frozen
              have bO_l := bO.lt
              have bR_0 := bR.cell (j := 0) rfl
              have bR_1 := bR.cell (j := 1) rfl
              have bR_2 := bR.cell (j := 2) rfl
              have bR_3 := bR.cell (j := 3) rfl
              have bR_z := bR.frozen
              have bR_l := bR.lt
              have bP_0 := bP.cell (j := 0) rfl
              have bP_1 := bP.cell (j := 1) rfl
              have bP_2 := bP.cell (j := 2) rfl
              have bP_z := bP.frozen
              have bP_l := bP.lt
              go_upto_region 19 with fail
              clear bO_0 bO_1 bO_2 bO_3 bO_z bO_l bR_0 bR_1 bR_2 bR_3 bR_z bR_l bP_0 bP_1 bP_2 bP_z bP_l
              have b_205 := (Below.refl w203.heap.size w203).alloc (Nat.le_refl _) (.cells #[.int .i64 0, .slice none 0 0, .slice none 0 0, .slice none 0 0] 35)
              have bN := Box.new w203 #[.int .i64 0, .slice none 0 0, .slice none 0 0, .slice none 0 0] 35 rfl
              replace bO := bO.below b_205 bO.lt
              replace bR := bR.below b_205 bR.lt
              replace bP := bP.below b_205 bP.lt
              replace ot := ot.below b_205 (by omega)
              replace os := os.below b_205 (by omega)
              replace ow := ow.below b_205 (by omega)
              replace ho4 := ho4.below b_205 (by omega)
              replace oK := own_below oK b_205
              have z_206 := b_205.size
              replace hB := hB.trans (b_205.mono (by omega))
              clear b_205
              generalize w203.alloc _ = w205 at *
              generalize w203.heap.size = g205 at *
              have bO_0 := bO.cell (j := 0) rfl
              have bO_1 := bO.cell (j := 1) rfl
              have bO_2 := bO.cell (j := 2) rfl
              have bO_3 := bO.cell (j := 3) rfl
              have bO_z := bO.frozen
              have bO_l := bO.lt
              have bR_0 := bR.cell (j := 0) rfl
              have bR_1 := bR.cell (j := 1) rfl
              have bR_2 := bR.cell (j := 2) rfl
              have bR_3 := bR.cell (j := 3) rfl
              have bR_z := bR.frozen
              have bR_l := bR.lt
              have bP_0 := bP.cell (j := 0) rfl
              have bP_1 := bP.cell (j := 1) rfl
              have bP_2 := bP.cell (j := 2) rfl
              have bP_z := bP.frozen
              have bP_l := bP.lt
              have bN_0 := bN.cell (j := 0) rfl
              have bN_1 := bN.cell (j := 1) rfl
              have bN_2 := bN.cell (j := 2) rfl
              have bN_3 := bN.cell (j := 3) rfl
              have bN_z := bN.frozen
              have bN_l := bN.lt
              go_wp2_with fail
              clear bO_0 bO_1 bO_2 bO_3 bO_z bO_l bR_0 bR_1 bR_2 bR_3 bR_z bR_l bP_0 bP_1 bP_2 bP_z bP_l bN_0 bN_1 bN_2 bN_3 bN_z bN_l
              go_roundw
              case rel =>
                clear bN
                clear bP
                exact ⟨k + 1, j, S, xs, _, _, _, _, _, _, _, _, _, _, _, by omega, by go_num, HR2, HS2, Lib.hid HJ.out, by omega, hB, by omega, bO, bR, ot, os, ow, by omega, by omega, (fun g hg => hu g hg), oK, ho4⟩
              case measure => simp [intOf]; omega
            · obtain ⟨i, hi_⟩ : ∃ i, i + 1 = S.st.length := ⟨S.st.length - 1, by omega⟩
              obtain ⟨y, hy⟩ : ∃ y, S.st[i]? = some y := ⟨_, List.getElem?_eq_getElem (show i < S.st.length by omega)⟩
              have HS2 := Lib.hid (FS.left_good HS.out hz)
              have HR2 := Lib.hid (show FS.runs (⟨m, st, ls, lw⟩, []) (ops.take (k + 1)) = (S.left, xs) from (FS.runs_pre HO.out).trans (by rw [HR.out]; exact FS.next_left h3 hz))
              have HY := Lib.hid hy
              have HII := Lib.hid hi_
              have HQ := Lib.hid hSp
              have HT := Lib.hid (Fa.top_at hi_ hy)
              have HKL := Lib.hid (Fa.lv_end HS.out hi_ hy).1
              clear h3 hz hvk hSp HV hy hi_
              have bO_0 := bO.cell (j := 0) rfl
              have bO_1 := bO.cell (j := 1) rfl
              have bO_2 := bO.cell (j := 2) rfl
              have bO_3 := bO.cell (j := 3) rfl
              have bO_z := bO.frozen
              have bO_l := bO.lt
              have bR_0 := bR.cell (j := 0) rfl
              have bR_1 := bR.cell (j := 1) rfl
              have bR_2 := bR.cell (j := 2) rfl
              have bR_3 := bR.cell (j := 3) rfl
              have bR_z := bR.frozen
              have bR_l := bR.lt
              go_upto_region 7 with fail
              clear bO_0 bO_1 bO_2 bO_3 bO_z bO_l bR_0 bR_1 bR_2 bR_3 bR_z bR_l
              have b_201 := (Below.refl wr.heap.size wr).alloc (Nat.le_refl _) (.cells #[.int .i64 3, .int .i64 o.irq, .int .i64 o.prio] 73)
              have bP := Box.new wr #[.int .i64 3, .int .i64 o.irq, .int .i64 o.prio] 73 rfl
              replace bO := bO.below b_201 bO.lt
              replace bR := bR.below b_201 bR.lt
              replace ot := ot.below b_201 (by omega)
              replace os := os.below b_201 (by omega)
              replace ow := ow.below b_201 (by omega)
              replace ho4 := ho4.below b_201 (by omega)
              replace oK := own_below oK b_201
              have z_202 := b_201.size
              replace hB := hB.trans (b_201.mono (by omega))
              clear b_201
              generalize wr.alloc _ = w201 at *
              generalize wr.heap.size = g201 at *
              have bO_0 := bO.cell (j := 0) rfl
              have bO_1 := bO.cell (j := 1) rfl
              have bO_2 := bO.cell (j := 2) rfl
              have bO_3 := bO.cell (j := 3) rfl
              have bO_z := bO.frozen
              have bO_l := bO.lt
              have bR_0 := bR.cell (j := 0) rfl
              have bR_1 := bR.cell (j := 1) rfl
              have bR_2 := bR.cell (j := 2) rfl
              have bR_3 := bR.cell (j := 3) rfl
              have bR_z := bR.frozen
              have bR_l := bR.lt
              have bP_0 := bP.cell (j := 0) rfl
              have bP_1 := bP.cell (j := 1) rfl
              have bP_2 := bP.cell (j := 2) rfl
              have bP_z := bP.frozen
              have bP_l := bP.lt
              go_wp2_with fail
              clear bO_0 bO_1 bO_2 bO_3 bO_z bO_l bR_0 bR_1 bR_2 bR_3 bR_z bR_l bP_0 bP_1 bP_2 bP_z bP_l
              have huC : ∀ g, u8.ownBlock = some g → g < w201.heap.size := fun g hg => by have := huL g hg; omega
              refine (implLeave_in S.m _ _ _ S.st S.ls S.lw w201 ot.rd os.rd ow.rd (by omega) (by omega) (by omega) (by omega) HQ.out HII.out HY.out HKL.out).mono ?_; rintro q_ w203 ⟨v3, v4, v5, rfl, o3, o4, o5, b_203⟩
              replace bO := bO.below b_203 bO.lt
              replace bR := bR.below b_203 bR.lt
              replace bP := bP.below b_203 bP.lt
              replace ot := ot.below b_203 (by omega)
              replace os := os.below b_203 (by omega)
              replace ow := ow.below b_203 (by omega)
              replace ho4 := ho4.below b_203 (by omega)
              replace oK := own_below oK b_203
              have z_204 := b_203.size
              replace hB := hB.trans (b_203.mono (by omega))
              clear b_203
              rw [← HT.out.2.1] at o3
              have e4 := HT.out.2.2
              rw [← e4] at o4 o5
              clear e4
              obtain ⟨B3, m3, e3, rfl, _, _, _⟩ := o3.rd.form
              obtain ⟨B4, m4, e4, rfl, _, _, _⟩ := o4.rd.form
              obtain ⟨B5, m5, e5, rfl, _, _, _⟩ := o5.rd.form
              clear ot os ow f0 f1 f2
              have bO_0 := bO.cell (j := 0) rfl
              have bO_1 := bO.cell (j := 1) rfl
              have bO_2 := bO.cell (j := 2) rfl
              have bO_3 := bO.cell (j := 3) rfl
              have bO_z := bO.frozen
              have bO_l := bO.lt
              have bR_0 := bR.cell (j := 0) rfl
              have bR_1 := bR.cell (j := 1) rfl
              have bR_2 := bR.cell (j := 2) rfl
              have bR_3 := bR.cell (j := 3) rfl
              have bR_z := bR.frozen
              have bR_l := bR.lt
              have bP_0 := bP.cell (j := 0) rfl
              have bP_1 := bP.cell (j := 1) rfl
              have bP_2 := bP.cell (j := 2) rfl
              have bP_z := bP.frozen
              have bP_l := bP.lt
              go_upto_region 19 with fail
              clear bO_0 bO_1 bO_2 bO_3 bO_z bO_l bR_0 bR_1 bR_2 bR_3 bR_z bR_l bP_0 bP_1 bP_2 bP_z bP_l
              have b_205 := (Below.refl w203.heap.size w203).alloc (Nat.le_refl _) (.cells #[.int .i64 S.m, .slice B3 m3 e3, .slice B4 m4 e4, .slice B5 m5 e5] 35)
              have bN := Box.new w203 #[.int .i64 S.m, .slice B3 m3 e3, .slice B4 m4 e4, .slice B5 m5 e5] 35 rfl
              replace bO := bO.below b_205 bO.lt
              replace bR := bR.below b_205 bR.lt
              replace bP := bP.below b_205 bP.lt
              replace ho4 := ho4.below b_205 (by omega)
              replace o3 := o3.below b_205 (by omega)
              replace o4 := o4.below b_205 (by omega)
              replace o5 := o5.below b_205 (by omega)
              replace oK := own_below oK b_205
              have z_206 := b_205.size
              replace hB := hB.trans (b_205.mono (by omega))
              clear b_205
              generalize w203.alloc _ = w205 at *
              generalize w203.heap.size = g205 at *
              have bO_0 := bO.cell (j := 0) rfl
              have bO_1 := bO.cell (j := 1) rfl
              have bO_2 := bO.cell (j := 2) rfl
              have bO_3 := bO.cell (j := 3) rfl
              have bO_z := bO.frozen
              have bO_l := bO.lt
              have bR_0 := bR.cell (j := 0) rfl
              have bR_1 := bR.cell (j := 1) rfl
              have bR_2 := bR.cell (j := 2) rfl
              have bR_3 := bR.cell (j := 3) rfl
              have bR_z := bR.frozen
              have bR_l := bR.lt
              have bP_0 := bP.cell (j := 0) rfl
              have bP_1 := bP.cell (j := 1) rfl
              have bP_2 := bP.cell (j := 2) rfl
              have bP_z := bP.frozen
              have bP_l := bP.lt
              have bN_0 := bN.cell (j := 0) rfl
              have bN_1 := bN.cell (j := 1) rfl
              have bN_2 := bN.cell (j := 2) rfl
              have bN_3 := bN.cell (j := 3) rfl
              have bN_z := bN.frozen
              have bN_l := bN.lt
              go_wp2_with fail
              clear bO_0 bO_1 bO_2 bO_3 bO_z bO_l bR_0 bR_1 bR_2 bR_3 bR_z bR_l bP_0 bP_1 bP_2 bP_z bP_l bN_0 bN_1 bN_2 bN_3 bN_z bN_l
              go_roundw
              case rel =>
                clear bN
                clear bP
                generalize hwz : World.setCell (World.setCell (World.setCell (World.setCell _ _ _) _ _) _ _) _ _ = wz_
                obtain rfl : wz_ = setL w205 (gO) 0 [.int .i64 S.m, .slice B3 m3 e3, .slice B4 m4 e4, .slice B5 m5 e5] := hwz.symm
                clear hwz
                replace bR := bR.other (b := gO) (by omega) 0 [.int .i64 S.m, .slice B3 m3 e3, .slice B4 m4 e4, .slice B5 m5 e5]
                replace ho4 := ho4.away (g := gO) (by omega) 0 [.int .i64 S.m, .slice B3 m3 e3, .slice B4 m4 e4, .slice B5 m5 e5]
                replace o3 := o3.box (g := gO) bO (by decide) 0 [.int .i64 S.m, .slice B3 m3 e3, .slice B4 m4 e4, .slice B5 m5 e5]
                replace o4 := o4.box (g := gO) bO (by decide) 0 [.int .i64 S.m, .slice B3 m3 e3, .slice B4 m4 e4, .slice B5 m5 e5]
                replace o5 := o5.box (g := gO) bO (by decide) 0 [.int .i64 S.m, .slice B3 m3 e3, .slice B4 m4 e4, .slice B5 m5 e5]
                replace oK := own_box oK bO (by decide) 0 [.int .i64 S.m, .slice B3 m3 e3, .slice B4 m4 e4, .slice B5 m5 e5]
                replace hB := setL_below hB [.int .i64 S.m, .slice B3 m3 e3, .slice B4 m4 e4, .slice B5 m5 e5] (gO) 0 (by omega)
                have zs_207 : (setL w205 (gO) 0 [.int .i64 S.m, .slice B3 m3 e3, .slice B4 m4 e4, .slice B5 m5 e5]).heap.size = w205.heap.size := setL_size _ _ _ _
                replace bO := bO.setAll [.int .i64 S.m, .slice B3 m3 e3, .slice B4 m4 e4, .slice B5 m5 e5] rfl
                generalize setL w205 _ 0 _ = w207 at *
                exact ⟨k + 1, j, S.left, xs, _, _, _, _, _, _, _, _, _, _, _, by omega, by go_num, HR2, HS2, Lib.hid HJ.out, by omega, hB, by omega, bO, bR, o3, o4, o5, by omega, by omega, (fun g hg => by have := huC g hg; omega), oK, ho4⟩
              case measure => simp [intOf]; omega
          · have HE := Lib.hid (show FS.runs (⟨m, st, ls, lw⟩, []) ops = (S, xs) from by rw [← HR.out, List.take_of_length_le (by rw [← H6.out]; omega)])
            have oT := Ow.of_own Nm.cells_len oK rfl HJ.out
            obtain ⟨a9, b9, q1, q2, q3, oT⟩ := oT.narrow hu
            clear oK hu
            obtain ⟨B9, m9, e9, rfl, _, _, _⟩ := oT.rd.form
            have bO_0 := bO.cell (j := 0) rfl
            have bO_1 := bO.cell (j := 1) rfl
            have bO_2 := bO.cell (j := 2) rfl
            have bO_3 := bO.cell (j := 3) rfl
            have bO_z := bO.frozen
            have bO_l := bO.lt
            have bR_0 := bR.cell (j := 0) rfl
            have bR_1 := bR.cell (j := 1) rfl
            have bR_2 := bR.cell (j := 2) rfl
            have bR_3 := bR.cell (j := 3) rfl
            have bR_z := bR.frozen
            have bR_l := bR.lt
            go_wp2_with fail
            clear bO_0 bO_1 bO_2 bO_3 bO_z bO_l bR_0 bR_1 bR_2 bR_3 bR_z bR_l
            generalize hwz : World.setCell (World.setCell (World.setCell (World.setCell _ _ _) _ _) _ _) _ _ = wz_
            obtain rfl : wz_ = setL wr (w.heap.size + 1) 0 [.int .i64 S.m, .slice At nt dt, .slice A0 n0 d0, .slice A1 n1 d1] := hwz.symm
            clear hwz
            replace bO := bO.other (b := w.heap.size + 1) (by omega) 0 [.int .i64 S.m, .slice At nt dt, .slice A0 n0 d0, .slice A1 n1 d1]
            replace ot := ot.box (g := w.heap.size + 1) bR (by decide) 0 [.int .i64 S.m, .slice At nt dt, .slice A0 n0 d0, .slice A1 n1 d1]
            replace os := os.box (g := w.heap.size + 1) bR (by decide) 0 [.int .i64 S.m, .slice At nt dt, .slice A0 n0 d0, .slice A1 n1 d1]
            replace ow := ow.box (g := w.heap.size + 1) bR (by decide) 0 [.int .i64 S.m, .slice At nt dt, .slice A0 n0 d0, .slice A1 n1 d1]
            replace ho4 := ho4.away (g := w.heap.size + 1) (by omega) 0 [.int .i64 S.m, .slice At nt dt, .slice A0 n0 d0, .slice A1 n1 d1]
            replace oT := oT.box (g := w.heap.size + 1) bR (by decide) 0 [.int .i64 S.m, .slice At nt dt, .slice A0 n0 d0, .slice A1 n1 d1]
            replace hB := setL_below hB [.int .i64 S.m, .slice At nt dt, .slice A0 n0 d0, .slice A1 n1 d1] (w.heap.size + 1) 0 (by omega)
            have zs_201 : (setL wr (w.heap.size + 1) 0 [.int .i64 S.m, .slice At nt dt, .slice A0 n0 d0, .slice A1 n1 d1]).heap.size = wr.heap.size := setL_size _ _ _ _
            replace bR := bR.setAll [.int .i64 S.m, .slice At nt dt, .slice A0 n0 d0, .slice A1 n1 d1] rfl
            generalize setL wr _ 0 _ = w201 at *
            have u0_ := bR.cell (j := 0) rfl
            have u1_ := bR.cell (j := 1) rfl
            have u2_ := bR.cell (j := 2) rfl
            have u3_ := bR.cell (j := 3) rfl
            refine bodyPost_ret (by simp only [results, Tryz.results26]; simp [go_sem, u0_, u1_, u2_, u3_]; rfl) rfl ?_
            exact ⟨_, _, _, _, lo', hi', a9, b9, by rw [HF.out.1, HF.out.2.1, HE.out], by rw [HF.out.2.1, HE.out]; exact ot, by rw [HF.out.2.1, HE.out]; exact os, by rw [HF.out.2.1, HE.out]; exact ow, by rw [HF.out.2.2, HE.out]; exact oT, by omega, by omega, by omega, by omega, by omega, hB⟩

end Go.Proofs.YtengaccnncnipaaGreat

/- Opening a queue that came in. No condition. -/
namespace Go.Proofs.YtengaccnncnipaaGreat
open Go.RowKit Go.ChangeShapes Go.WideShapes Go.Deep

section
variable {H : Type} {enc : TypeId × Value → H} {P : Program} {w : World} {base : Nat} {spare : Nat → Bool} {held : Bool}
theorem open_rd2 {α : Type} [Inhabited α] {cells : α → List Value} {sz : Nat} (hsz : 0 < sz) (hlen : ∀ x, (cells x).length = sz) {t e : TypeId} {fs : Array Field} {v : Value} {fuel : Nat} {y0 : DataW H × List MemPlace} (ht : P.underlying t = some (.slice e)) (he : P.underlying e = some (.struct fs))
    (hone : oneCellFields P fs = true) (hC : P.cellsOf e = fs.size) (hfs : fs.size = sz)
    (helem : ∀ V : Nat → Value, (∀ j f, fs[j]? = some f → ∃ n y, DataW.trod enc P w base spare held n f.type [V j] = some y) → ∃ x : α, ∀ j u, (cells x)[j]? = some u → u = V j)
    (hf : DataW.trod enc P w base spare held fuel t [v] = some y0) : ∃ l : List α, Rd cells sz w 0 w.heap.size v l := by
  rcases open_slice ht hf with ⟨h0, _⟩ | ⟨a, len, cap, m, n, D, Pl, hcs, _, hl, hm, hmm, _, hi⟩
  · simp only [List.cons.injEq, and_true] at h0
    rw [h0]
    exact ⟨[], Rd.nil_⟩
  · simp only [List.cons.injEq, and_true] at hcs
    rw [hcs]
    refine rd_of_cells hsz hlen hl hm fun i hil => ?_
    obtain ⟨cs', hc, ht'⟩ := hi i (by rw [hmm]; split <;> omega)
    rw [hC, hfs] at hc
    obtain ⟨ys, n', _, _, hl', _, hg⟩ := DataW.trod_struct he ht'
    obtain ⟨_, hcl, hat⟩ := World.cells?_some hc
    obtain ⟨x, hx⟩ := helem (fun j => cs'.getD j undef) (fun j f hj => by
      obtain ⟨ho, hk⟩ := hone_of hone j f hj
      have hjl : j < fs.size := (Array.getElem?_eq_some_iff.1 hj).1
      have h1 := hg j f hj
      rw [ho, hk, take1_drop _ _ undef (by omega)] at h1
      cases hys : ys[j]? with
      | none => exact absurd (List.getElem?_eq_none_iff.1 hys) (by omega)
      | some y => exact ⟨_, _, h1.trans hys⟩)
    refine ⟨x, fun j u hu => ?_⟩
    have hj : j < sz := by rw [← hlen x]; exact (List.getElem?_eq_some_iff.1 hu).1
    rw [← Go.Deep.add_add, hat j hj, hx j u hu, List.getD_eq_getElem?_getD, List.getElem?_eq_getElem (by omega)]
    rfl
end

set_option maxRecDepth 8000 in
theorem Sl.openF {H : Type} {enc : TypeId × Value → H} {w : World} {base : Nat} {spare : Nat → Bool} {held : Bool} {v : Value} {fuel : Nat} {y : DataW H × List MemPlace}
    (h : DataW.trod enc Tryz.prog w base spare held fuel 23 [v] = some y) : ∃ l : List Sl, Rd Sl.cells 3 w 0 w.heap.size v l :=
  open_rd2 (by omega) Sl.cells_len Tryz.underlying23 Tryz.underlying132 (by kernel_rfl) Sl.cellsOfLaw rfl (fun V hV => by
    obtain ⟨n0, y0, h0⟩ := hV 0 _ rfl
    obtain ⟨a0, e0, _⟩ := DataW.trod_int Tryz.underlying3 h0
    simp only [List.cons.injEq, and_true] at e0
    obtain ⟨n1, y1, h1⟩ := hV 1 _ rfl
    obtain ⟨a1, e1, _⟩ := DataW.trod_int Tryz.underlying3 h1
    simp only [List.cons.injEq, and_true] at e1
    obtain ⟨n2, y2, h2⟩ := hV 2 _ rfl
    obtain ⟨a2, e2, _⟩ := DataW.trod_int Tryz.underlying3 h2
    simp only [List.cons.injEq, and_true] at e2
    refine ⟨⟨a0, a1, a2⟩, fun j u hu => ?_⟩
    match j with
    | 0 => rw [e0]; exact (Option.some.inj hu).symm
    | 1 => rw [e1]; exact (Option.some.inj hu).symm
    | 2 => rw [e2]; exact (Option.some.inj hu).symm
    | j + 3 => simp [Sl.cells] at hu) h
set_option maxRecDepth 8000 in
theorem Wt.openF {H : Type} {enc : TypeId × Value → H} {w : World} {base : Nat} {spare : Nat → Bool} {held : Bool} {v : Value} {fuel : Nat} {y : DataW H × List MemPlace}
    (h : DataW.trod enc Tryz.prog w base spare held fuel 24 [v] = some y) : ∃ l : List Wt, Rd Wt.cells 2 w 0 w.heap.size v l :=
  open_rd2 (by omega) Wt.cells_len Tryz.underlying24 Tryz.underlying136 (by kernel_rfl) Wt.cellsOfLaw rfl (fun V hV => by
    obtain ⟨n0, y0, h0⟩ := hV 0 _ rfl
    obtain ⟨a0, e0, _⟩ := DataW.trod_int Tryz.underlying3 h0
    simp only [List.cons.injEq, and_true] at e0
    obtain ⟨n1, y1, h1⟩ := hV 1 _ rfl
    obtain ⟨a1, e1, _⟩ := DataW.trod_int Tryz.underlying3 h1
    simp only [List.cons.injEq, and_true] at e1
    refine ⟨⟨a0, a1⟩, fun j u hu => ?_⟩
    match j with
    | 0 => rw [e0]; exact (Option.some.inj hu).symm
    | 1 => rw [e1]; exact (Option.some.inj hu).symm
    | j + 2 => simp [Wt.cells] at hu) h
end Go.Proofs.YtengaccnncnipaaGreat

/- The type 'Interface' of the law text and of the program: what the law text's own helpers do with it; opening one that came in. No condition but room. -/
namespace Go.Proofs.YtengaccnncnipaaGreat
open Go.RowKit Go.ChangeShapes Go.WideShapes Go.Deep

theorem szFace_any (m : Int) (vt vs vw : Value) (st : List Int) (ls : List Sl) (lw : List Wt) (w : World) {lo hi lo2 hi2 lo3 hi3 : Nat} (h0 : Rd Nm.cells 1 w lo3 hi3 vt st) (h : Rd Sl.cells 3 w lo hi vs ls) (h2 : Rd Wt.cells 2 w lo2 hi2 vw lw) (hh0 : hi3 ≤ w.heap.size) (hh : hi ≤ w.heap.size) (hh2 : hi2 ≤ w.heap.size) :
    Calls Tryz.prog 10 #[.agg #[.int .i64 m, vt, vs, vw], .int .i64 1048576] w fun e w' => ∃ q : Int, e = .returned (.int .i64 q) ∧ (q = -1 ∨ (0 ≤ q ∧ st.length + ls.length + lw.length ≤ 1048576 ∧ q ≤ 1048576)) ∧ Below w.heap.size w w' := by
  have b0 := (Below.refl w.heap.size w).alloc (Nat.le_refl _) (.cells #[.int .i64 m, vt, vs, vw] 28)
  have z0 : (w.alloc (.cells #[.int .i64 m, vt, vs, vw] 28)).heap.size = w.heap.size + 1 := by simp
  have bx := Box.new w #[.int .i64 m, vt, vs, vw] 28 rfl
  have ht := h0.below b0 hh0
  have hs := h.below b0 hh
  have hw := h2.below b0 hh2
  clear h0 h h2
  generalize hwA : w.alloc (.cells #[.int .i64 m, vt, vs, vw] 28) = wA at *
  have x1 := bx.cell (j := 1) rfl
  have x2 := bx.cell (j := 2) rfl
  have x3 := bx.cell (j := 3) rfl
  have c1 := Nm.szS_any vt st wA ht 1048576 (by omega) (by omega)
  by_cases hst : (st.length : Int) ≤ 1048576
  · rw [szL_yes hst] at c1
    obtain ⟨q1, hq1, hq1u⟩ : ∃ q1 : Int, q1 = 1048576 - (st.length : Int) ∧ 0 ≤ q1 := ⟨_, rfl, by omega⟩
    rw [← hq1] at c1
    have c2 := szQueue_any vs vw ls lw wA hs hw (by omega) (by omega) q1 hq1u (by omega)
    have hqd : decide (q1 < 0) = false := decide_eq_false (by omega)
    have HY := Lib.hid (show szQ q1 ls.length lw.length = -1 ∨ (0 ≤ szQ q1 ls.length lw.length ∧ st.length + ls.length + lw.length ≤ 1048576 ∧ szQ q1 ls.length lw.length ≤ 1048576) from by
      unfold szQ szL
      split <;> split <;> omega)
    clear hq1
    generalize szQ q1 ls.length lw.length = y at c2 HY
    by_cases hy : y < 0
    · have hyd : decide (y < 0) = true := decide_eq_true hy
      go_enter Tryz.func10, Tryz.ntmps10
      go_wp2_with fail
      clear hwA
      refine c1.mono ?_; rintro q_ w_ ⟨rfl, rfl⟩
      go_wp2_with fail
      refine c2.mono ?_; rintro q_ w2 ⟨rfl, b2⟩
      go_wp2_with fail
      go_ret
      exact ⟨-1, rfl, .inl rfl, b0.trans (b2.mono (by omega))⟩
    · have hyd : decide (y < 0) = false := decide_eq_false hy
      go_enter Tryz.func10, Tryz.ntmps10
      go_wp2_with fail
      clear hwA
      refine c1.mono ?_; rintro q_ w_ ⟨rfl, rfl⟩
      go_wp2_with fail
      refine c2.mono ?_; rintro q_ w2 ⟨rfl, b2⟩
      go_wp2_with fail
      go_ret
      exact ⟨y, rfl, HY.out, b0.trans (b2.mono (by omega))⟩
  · rw [szL_no (by omega)] at c1
    go_enter Tryz.func10, Tryz.ntmps10
    go_wp2_with fail
    refine c1.mono ?_; rintro q_ w_ ⟨rfl, rfl⟩
    go_wp2_with fail
    go_ret
    exact ⟨-1, rfl, .inl rfl, b0⟩

set_option maxHeartbeats 2000000 in
theorem toFace_any (m : Int) (vt vs vw : Value) (st : List Int) (ls : List Sl) (lw : List Wt) (w : World) {lo hi lo2 hi2 lo3 hi3 : Nat} (h0 : Rd Nm.cells 1 w lo3 hi3 vt st) (h : Rd Sl.cells 3 w lo hi vs ls) (h2 : Rd Wt.cells 2 w lo2 hi2 vw lw) (hh0 : hi3 ≤ w.heap.size) (hh : hi ≤ w.heap.size) (hh2 : hi2 ≤ w.heap.size) (hl0 : st.length ≤ 1048576) (hl : ls.length ≤ 1048576) (hl2 : lw.length ≤ 1048576) :
    Calls Tryz.prog 12 #[.agg #[.int .i64 m, vt, vs, vw]] w fun e w' => ∃ v0 v1 v2, e = .returned (.agg #[.int .i64 m, v0, v1, v2]) ∧ Ow Nm.cells 1 3 w' w.heap.size w'.heap.size v0 st ∧ Ow Sl.cells 3 127 w' w.heap.size w'.heap.size v1 ls ∧ Ow Wt.cells 2 134 w' w.heap.size w'.heap.size v2 lw ∧ Below w.heap.size w w' := by
  have b0 : Below w.heap.size w (((w.alloc (.cells #[.int .i64 m, vt, vs, vw] 28)).alloc (.cells #[.int .i64 0, .slice none 0 0, .slice none 0 0, .slice none 0 0] 35)).alloc (.cells #[.int .i64 0, .slice none 0 0, .slice none 0 0, .slice none 0 0] 35)) := (((Below.refl w.heap.size w).alloc (Nat.le_refl _) _).alloc (by simp) _).alloc (by simp; omega) _
  have z0 : (((w.alloc (.cells #[.int .i64 m, vt, vs, vw] 28)).alloc (.cells #[.int .i64 0, .slice none 0 0, .slice none 0 0, .slice none 0 0] 35)).alloc (.cells #[.int .i64 0, .slice none 0 0, .slice none 0 0, .slice none 0 0] 35)).heap.size = w.heap.size + 3 := by simp
  have bx := Box.new w #[.int .i64 m, vt, vs, vw] 28 rfl
  have bR := Box.new (g := w.heap.size + 1) (w.alloc (.cells #[.int .i64 m, vt, vs, vw] 28)) #[.int .i64 0, .slice none 0 0, .slice none 0 0, .slice none 0 0] 35 (by simp)
  replace bx := bx.below ((Below.refl _ (w.alloc (.cells #[.int .i64 m, vt, vs, vw] 28))).alloc (Nat.le_refl _) (.cells #[.int .i64 0, .slice none 0 0, .slice none 0 0, .slice none 0 0] 35)) bx.lt
  have bO := Box.new (g := w.heap.size + 1 + 1) ((w.alloc (.cells #[.int .i64 m, vt, vs, vw] 28)).alloc (.cells #[.int .i64 0, .slice none 0 0, .slice none 0 0, .slice none 0 0] 35)) #[.int .i64 0, .slice none 0 0, .slice none 0 0, .slice none 0 0] 35 (by simp)
  replace bx := bx.below ((Below.refl _ ((w.alloc (.cells #[.int .i64 m, vt, vs, vw] 28)).alloc (.cells #[.int .i64 0, .slice none 0 0, .slice none 0 0, .slice none 0 0] 35))).alloc (Nat.le_refl _) (.cells #[.int .i64 0, .slice none 0 0, .slice none 0 0, .slice none 0 0] 35)) bx.lt
  replace bR := bR.below ((Below.refl _ ((w.alloc (.cells #[.int .i64 m, vt, vs, vw] 28)).alloc (.cells #[.int .i64 0, .slice none 0 0, .slice none 0 0, .slice none 0 0] 35))).alloc (Nat.le_refl _) (.cells #[.int .i64 0, .slice none 0 0, .slice none 0 0, .slice none 0 0] 35)) bR.lt
  have ht := h0.below b0 hh0
  have hs := h.below b0 hh
  have hw := h2.below b0 hh2
  have hv0_ := h0.form
  have hv_ := h.form
  have hv2_ := h2.form
  clear h0 h h2
  generalize hwA : ((w.alloc (.cells #[.int .i64 m, vt, vs, vw] 28)).alloc (.cells #[.int .i64 0, .slice none 0 0, .slice none 0 0, .slice none 0 0] 35)).alloc (.cells #[.int .i64 0, .slice none 0 0, .slice none 0 0, .slice none 0 0] 35) = wA at *
  obtain ⟨At, nt, dt, rfl, _, _, _⟩ := hv0_
  obtain ⟨A0, n0, d0, rfl, _, _, _⟩ := hv_
  obtain ⟨A1, n1, d1, rfl, _, _, _⟩ := hv2_
  go_enter Tryz.func12, Tryz.ntmps12
  have bx_0 := bx.cell (j := 0) rfl
  have bx_1 := bx.cell (j := 1) rfl
  have bx_2 := bx.cell (j := 2) rfl
  have bx_3 := bx.cell (j := 3) rfl
  have bx_z := bx.frozen
  have bx_l := bx.lt
  have bR_0 := bR.cell (j := 0) rfl
  have bR_1 := bR.cell (j := 1) rfl
  have bR_2 := bR.cell (j := 2) rfl
  have bR_3 := bR.cell (j := 3) rfl
  have bR_z := bR.frozen
  have bR_l := bR.lt
  have bO_0 := bO.cell (j := 0) rfl
  have bO_1 := bO.cell (j := 1) rfl
  have bO_2 := bO.cell (j := 2) rfl
  have bO_3 := bO.cell (j := 3) rfl
  have bO_z := bO.frozen
  have bO_l := bO.lt
  go_upto_region 2 with fail
  clear hwA
  clear bx_0 bx_1 bx_2 bx_3 bx_z bx_l bR_0 bR_1 bR_2 bR_3 bR_z bR_l bO_0 bO_1 bO_2 bO_3 bO_z bO_l
  have bx_0 := bx.cell (j := 0) rfl
  have bx_1 := bx.cell (j := 1) rfl
  have bx_2 := bx.cell (j := 2) rfl
  have bx_3 := bx.cell (j := 3) rfl
  have bx_z := bx.frozen
  have bx_l := bx.lt
  have bR_0 := bR.cell (j := 0) rfl
  have bR_1 := bR.cell (j := 1) rfl
  have bR_2 := bR.cell (j := 2) rfl
  have bR_3 := bR.cell (j := 3) rfl
  have bR_z := bR.frozen
  have bR_l := bR.lt
  have bO_0 := bO.cell (j := 0) rfl
  have bO_1 := bO.cell (j := 1) rfl
  have bO_2 := bO.cell (j := 2) rfl
  have bO_3 := bO.cell (j := 3) rfl
  have bO_z := bO.frozen
  have bO_l := bO.lt
  go_wp2_with fail
  clear bx_0 bx_1 bx_2 bx_3 bx_z bx_l bR_0 bR_1 bR_2 bR_3 bR_z bR_l bO_0 bO_1 bO_2 bO_3 bO_z bO_l
  generalize hwz : World.setCell _ _ _ = wz_
  obtain rfl : wz_ = setL wA (w.heap.size + 1 + 1) 0 [.int .i64 m] := hwz.symm
  clear hwz
  replace bx := bx.other (b := w.heap.size + 1 + 1) (by omega) 0 [.int .i64 m]
  replace bR := bR.other (b := w.heap.size + 1 + 1) (by omega) 0 [.int .i64 m]
  replace ht := ht.away (g := w.heap.size + 1 + 1) (by omega) 0 [.int .i64 m]
  replace hs := hs.away (g := w.heap.size + 1 + 1) (by omega) 0 [.int .i64 m]
  replace hw := hw.away (g := w.heap.size + 1 + 1) (by omega) 0 [.int .i64 m]
  replace b0 := setL_below b0 [.int .i64 m] (w.heap.size + 1 + 1) 0 (by omega)
  have zs_1 : (setL wA (w.heap.size + 1 + 1) 0 [.int .i64 m]).heap.size = wA.heap.size := setL_size _ _ _ _
  replace bO := bO.set1 (j := 0) (.int .i64 m) (by simp)
  generalize setL wA _ 0 _ = w1 at *
  refine (Nm.toS_any _ st w1 ht (by omega) hl0).mono ?_; rintro q_ w2 ⟨v1, rfl, o1, b_2⟩
  replace bx := bx.below b_2 bx.lt
  replace bR := bR.below b_2 bR.lt
  replace bO := bO.below b_2 bO.lt
  replace ht := ht.below b_2 (by omega)
  replace hs := hs.below b_2 (by omega)
  replace hw := hw.below b_2 (by omega)
  have z_3 := b_2.size
  replace b0 := b0.trans (b_2.mono (by omega))
  clear b_2
  obtain ⟨A3, n3, d3, rfl, _, _, _⟩ := o1.rd.form
  have bx_0 := bx.cell (j := 0) rfl
  have bx_1 := bx.cell (j := 1) rfl
  have bx_2 := bx.cell (j := 2) rfl
  have bx_3 := bx.cell (j := 3) rfl
  have bx_z := bx.frozen
  have bx_l := bx.lt
  have bR_0 := bR.cell (j := 0) rfl
  have bR_1 := bR.cell (j := 1) rfl
  have bR_2 := bR.cell (j := 2) rfl
  have bR_3 := bR.cell (j := 3) rfl
  have bR_z := bR.frozen
  have bR_l := bR.lt
  have bO_0 := bO.cell (j := 0) rfl
  have bO_1 := bO.cell (j := 1) rfl
  have bO_2 := bO.cell (j := 2) rfl
  have bO_3 := bO.cell (j := 3) rfl
  have bO_z := bO.frozen
  have bO_l := bO.lt
  go_wp2_with fail
  clear bx_0 bx_1 bx_2 bx_3 bx_z bx_l bR_0 bR_1 bR_2 bR_3 bR_z bR_l bO_0 bO_1 bO_2 bO_3 bO_z bO_l
  generalize hwz : World.setCell _ _ _ = wz_
  obtain rfl : wz_ = setL w2 (w.heap.size + 1 + 1) 1 [.slice A3 n3 d3] := hwz.symm
  clear hwz
  replace bx := bx.other (b := w.heap.size + 1 + 1) (by omega) 1 [.slice A3 n3 d3]
  replace bR := bR.other (b := w.heap.size + 1 + 1) (by omega) 1 [.slice A3 n3 d3]
  replace ht := ht.away (g := w.heap.size + 1 + 1) (by omega) 1 [.slice A3 n3 d3]
  replace hs := hs.away (g := w.heap.size + 1 + 1) (by omega) 1 [.slice A3 n3 d3]
  replace hw := hw.away (g := w.heap.size + 1 + 1) (by omega) 1 [.slice A3 n3 d3]
  replace o1 := o1.box (g := w.heap.size + 1 + 1) bO (by decide) 1 [.slice A3 n3 d3]
  replace b0 := setL_below b0 [.slice A3 n3 d3] (w.heap.size + 1 + 1) 1 (by omega)
  have zs_4 : (setL w2 (w.heap.size + 1 + 1) 1 [.slice A3 n3 d3]).heap.size = w2.heap.size := setL_size _ _ _ _
  replace bO := bO.set1 (j := 1) (.slice A3 n3 d3) (by simp)
  generalize setL w2 _ 1 _ = w4 at *
  refine (toQueue_any _ _ ls lw w4 hs hw (by omega) (by omega) hl hl2).mono ?_; rintro q_ w5 ⟨v5, v6, rfl, o5, o6, b_5⟩
  replace bx := bx.below b_5 bx.lt
  replace bR := bR.below b_5 bR.lt
  replace bO := bO.below b_5 bO.lt
  replace ht := ht.below b_5 (by omega)
  replace hs := hs.below b_5 (by omega)
  replace hw := hw.below b_5 (by omega)
  replace o1 := o1.below b_5 (by omega)
  have z_6 := b_5.size
  replace b0 := b0.trans (b_5.mono (by omega))
  clear b_5
  obtain ⟨A5, n5, d5, rfl, _, _, _⟩ := o5.rd.form
  obtain ⟨A6, n6, d6, rfl, _, _, _⟩ := o6.rd.form
  have bx_0 := bx.cell (j := 0) rfl
  have bx_1 := bx.cell (j := 1) rfl
  have bx_2 := bx.cell (j := 2) rfl
  have bx_3 := bx.cell (j := 3) rfl
  have bx_z := bx.frozen
  have bx_l := bx.lt
  have bR_0 := bR.cell (j := 0) rfl
  have bR_1 := bR.cell (j := 1) rfl
  have bR_2 := bR.cell (j := 2) rfl
  have bR_3 := bR.cell (j := 3) rfl
  have bR_z := bR.frozen
  have bR_l := bR.lt
  have bO_0 := bO.cell (j := 0) rfl
  have bO_1 := bO.cell (j := 1) rfl
  have bO_2 := bO.cell (j := 2) rfl
  have bO_3 := bO.cell (j := 3) rfl
  have bO_z := bO.frozen
  have bO_l := bO.lt
  go_upto_region 5 with fail
  clear bx_0 bx_1 bx_2 bx_3 bx_z bx_l bR_0 bR_1 bR_2 bR_3 bR_z bR_l bO_0 bO_1 bO_2 bO_3 bO_z bO_l
  generalize hwz : World.setCell (World.setCell _ _ _) _ _ = wz_
  obtain rfl : wz_ = setL w5 (w.heap.size + 1 + 1) 2 [.slice A5 n5 d5, .slice A6 n6 d6] := hwz.symm
  clear hwz
  replace bx := bx.other (b := w.heap.size + 1 + 1) (by omega) 2 [.slice A5 n5 d5, .slice A6 n6 d6]
  replace bR := bR.other (b := w.heap.size + 1 + 1) (by omega) 2 [.slice A5 n5 d5, .slice A6 n6 d6]
  replace ht := ht.away (g := w.heap.size + 1 + 1) (by omega) 2 [.slice A5 n5 d5, .slice A6 n6 d6]
  replace hs := hs.away (g := w.heap.size + 1 + 1) (by omega) 2 [.slice A5 n5 d5, .slice A6 n6 d6]
  replace hw := hw.away (g := w.heap.size + 1 + 1) (by omega) 2 [.slice A5 n5 d5, .slice A6 n6 d6]
  replace o1 := o1.box (g := w.heap.size + 1 + 1) bO (by decide) 2 [.slice A5 n5 d5, .slice A6 n6 d6]
  replace o5 := o5.box (g := w.heap.size + 1 + 1) bO (by decide) 2 [.slice A5 n5 d5, .slice A6 n6 d6]
  replace o6 := o6.box (g := w.heap.size + 1 + 1) bO (by decide) 2 [.slice A5 n5 d5, .slice A6 n6 d6]
  replace b0 := setL_below b0 [.slice A5 n5 d5, .slice A6 n6 d6] (w.heap.size + 1 + 1) 2 (by omega)
  have zs_7 : (setL w5 (w.heap.size + 1 + 1) 2 [.slice A5 n5 d5, .slice A6 n6 d6]).heap.size = w5.heap.size := setL_size _ _ _ _
  replace bO : Box (setL w5 (w.heap.size + 1 + 1) 2 [.slice A5 n5 d5, .slice A6 n6 d6]) (w.heap.size + 1 + 1) 35 _ := ((bO.set1 (j := 2) (.slice A5 n5 d5) (by simp)).set1 (j := 3) (.slice A6 n6 d6) (by simp))
  generalize setL w5 _ 2 _ = w7 at *
  have bx_0 := bx.cell (j := 0) rfl
  have bx_1 := bx.cell (j := 1) rfl
  have bx_2 := bx.cell (j := 2) rfl
  have bx_3 := bx.cell (j := 3) rfl
  have bx_z := bx.frozen
  have bx_l := bx.lt
  have bR_0 := bR.cell (j := 0) rfl
  have bR_1 := bR.cell (j := 1) rfl
  have bR_2 := bR.cell (j := 2) rfl
  have bR_3 := bR.cell (j := 3) rfl
  have bR_z := bR.frozen
  have bR_l := bR.lt
  have bO_0 := bO.cell (j := 0) rfl
  have bO_1 := bO.cell (j := 1) rfl
  have bO_2 := bO.cell (j := 2) rfl
  have bO_3 := bO.cell (j := 3) rfl
  have bO_z := bO.frozen
  have bO_l := bO.lt
  go_wp2_with fail
  clear bx_0 bx_1 bx_2 bx_3 bx_z bx_l bR_0 bR_1 bR_2 bR_3 bR_z bR_l bO_0 bO_1 bO_2 bO_3 bO_z bO_l
  generalize hwz : World.setCell (World.setCell (World.setCell (World.setCell _ _ _) _ _) _ _) _ _ = wz_
  obtain rfl : wz_ = setL w7 (w.heap.size + 1) 0 [.int .i64 m, .slice A3 n3 d3, .slice A5 n5 d5, .slice A6 n6 d6] := hwz.symm
  clear hwz
  replace bx := bx.other (b := w.heap.size + 1) (by omega) 0 [.int .i64 m, .slice A3 n3 d3, .slice A5 n5 d5, .slice A6 n6 d6]
  replace bO := bO.other (b := w.heap.size + 1) (by omega) 0 [.int .i64 m, .slice A3 n3 d3, .slice A5 n5 d5, .slice A6 n6 d6]
  replace ht := ht.away (g := w.heap.size + 1) (by omega) 0 [.int .i64 m, .slice A3 n3 d3, .slice A5 n5 d5, .slice A6 n6 d6]
  replace hs := hs.away (g := w.heap.size + 1) (by omega) 0 [.int .i64 m, .slice A3 n3 d3, .slice A5 n5 d5, .slice A6 n6 d6]
  replace hw := hw.away (g := w.heap.size + 1) (by omega) 0 [.int .i64 m, .slice A3 n3 d3, .slice A5 n5 d5, .slice A6 n6 d6]
  replace o1 := o1.box (g := w.heap.size + 1) bR (by decide) 0 [.int .i64 m, .slice A3 n3 d3, .slice A5 n5 d5, .slice A6 n6 d6]
  replace o5 := o5.box (g := w.heap.size + 1) bR (by decide) 0 [.int .i64 m, .slice A3 n3 d3, .slice A5 n5 d5, .slice A6 n6 d6]
  replace o6 := o6.box (g := w.heap.size + 1) bR (by decide) 0 [.int .i64 m, .slice A3 n3 d3, .slice A5 n5 d5, .slice A6 n6 d6]
  replace b0 := setL_below b0 [.int .i64 m, .slice A3 n3 d3, .slice A5 n5 d5, .slice A6 n6 d6] (w.heap.size + 1) 0 (by omega)
  have zs_8 : (setL w7 (w.heap.size + 1) 0 [.int .i64 m, .slice A3 n3 d3, .slice A5 n5 d5, .slice A6 n6 d6]).heap.size = w7.heap.size := setL_size _ _ _ _
  replace bR := bR.setAll [.int .i64 m, .slice A3 n3 d3, .slice A5 n5 d5, .slice A6 n6 d6] rfl
  generalize setL w7 _ 0 _ = w8 at *
  have u0_ := bR.cell (j := 0) rfl
  have u1_ := bR.cell (j := 1) rfl
  have u2_ := bR.cell (j := 2) rfl
  have u3_ := bR.cell (j := 3) rfl
  refine bodyPost_ret (by simp only [results, Tryz.results12]; simp [go_sem, u0_, u1_, u2_, u3_]; rfl) rfl ?_
  exact ⟨_, _, _, rfl, o1.mono (by omega) (by omega), o5.mono (by omega) (by omega), o6.mono (by omega) (by omega), b0⟩

set_option maxHeartbeats 2000000 in
theorem eqFace_same (m : Int) (a0 a1 a2 b0 b1 b2 : Value) (st : List Int) (ls : List Sl) (lw : List Wt) (w : World) {l0 h0 l1 h1 l2 h2 l3 h3 l4 h4 l5 h5 : Nat} (k0 : Rd Nm.cells 1 w l0 h0 a0 st) (k1 : Rd Sl.cells 3 w l1 h1 a1 ls) (k2 : Rd Wt.cells 2 w l2 h2 a2 lw) (k3 : Rd Nm.cells 1 w l3 h3 b0 st) (k4 : Rd Sl.cells 3 w l4 h4 b1 ls) (k5 : Rd Wt.cells 2 w l5 h5 b2 lw)
    (q0 : h0 ≤ w.heap.size) (q1 : h1 ≤ w.heap.size) (q2 : h2 ≤ w.heap.size) (q3 : h3 ≤ w.heap.size) (q4 : h4 ≤ w.heap.size) (q5 : h5 ≤ w.heap.size) :
    Calls Tryz.prog 14 #[.agg #[.int .i64 m, a0, a1, a2], .agg #[.int .i64 m, b0, b1, b2]] w fun e w' => e = .returned (.bool true) ∧ Below w.heap.size w w' := by
  have hB : Below w.heap.size w ((w.alloc (.cells #[.int .i64 m, a0, a1, a2] 35)).alloc (.cells #[.int .i64 m, b0, b1, b2] 35)) := ((Below.refl w.heap.size w).alloc (Nat.le_refl _) _).alloc (by simp) _
  have z0 : ((w.alloc (.cells #[.int .i64 m, a0, a1, a2] 35)).alloc (.cells #[.int .i64 m, b0, b1, b2] 35)).heap.size = w.heap.size + 2 := by simp
  have ba := Box.new w #[.int .i64 m, a0, a1, a2] 35 rfl
  have bb := Box.new (g := w.heap.size + 1) (w.alloc (.cells #[.int .i64 m, a0, a1, a2] 35)) #[.int .i64 m, b0, b1, b2] 35 (by simp)
  replace ba := ba.below ((Below.refl _ (w.alloc (.cells #[.int .i64 m, a0, a1, a2] 35))).alloc (Nat.le_refl _) (.cells #[.int .i64 m, b0, b1, b2] 35)) ba.lt
  replace k0 := k0.below hB q0
  replace k1 := k1.below hB q1
  replace k2 := k2.below hB q2
  replace k3 := k3.below hB q3
  replace k4 := k4.below hB q4
  replace k5 := k5.below hB q5
  have hmd : (m != m) = false := by simp
  generalize hwA : (w.alloc (.cells #[.int .i64 m, a0, a1, a2] 35)).alloc (.cells #[.int .i64 m, b0, b1, b2] 35) = wA at *
  go_enter Tryz.func14, Tryz.ntmps14
  have ba_0 := ba.cell (j := 0) rfl
  have ba_1 := ba.cell (j := 1) rfl
  have ba_2 := ba.cell (j := 2) rfl
  have ba_3 := ba.cell (j := 3) rfl
  have ba_z := ba.frozen
  have ba_l := ba.lt
  have bb_0 := bb.cell (j := 0) rfl
  have bb_1 := bb.cell (j := 1) rfl
  have bb_2 := bb.cell (j := 2) rfl
  have bb_3 := bb.cell (j := 3) rfl
  have bb_z := bb.frozen
  have bb_l := bb.lt
  go_wp2_with fail
  clear hwA
  clear ba_0 ba_1 ba_2 ba_3 ba_z ba_l bb_0 bb_1 bb_2 bb_3 bb_z bb_l
  refine (Nm.eqS_same _ _ st wA k0 k3 (by omega) (by omega)).mono ?_; rintro q_ w1 ⟨rfl, b_1⟩
  replace ba := ba.below b_1 ba.lt
  replace bb := bb.below b_1 bb.lt
  replace k0 := k0.below b_1 (by omega)
  replace k1 := k1.below b_1 (by omega)
  replace k2 := k2.below b_1 (by omega)
  replace k3 := k3.below b_1 (by omega)
  replace k4 := k4.below b_1 (by omega)
  replace k5 := k5.below b_1 (by omega)
  have z_2 := b_1.size
  replace hB := hB.trans (b_1.mono (by omega))
  clear b_1
  have ba_0 := ba.cell (j := 0) rfl
  have ba_1 := ba.cell (j := 1) rfl
  have ba_2 := ba.cell (j := 2) rfl
  have ba_3 := ba.cell (j := 3) rfl
  have ba_z := ba.frozen
  have ba_l := ba.lt
  have bb_0 := bb.cell (j := 0) rfl
  have bb_1 := bb.cell (j := 1) rfl
  have bb_2 := bb.cell (j := 2) rfl
  have bb_3 := bb.cell (j := 3) rfl
  have bb_z := bb.frozen
  have bb_l := bb.lt
  go_wp2_with fail
  clear ba_0 ba_1 ba_2 ba_3 ba_z ba_l bb_0 bb_1 bb_2 bb_3 bb_z bb_l
  refine (eqQueue_same _ _ _ _ ls lw w1 k1 k2 k4 k5 (by omega) (by omega) (by omega) (by omega)).mono ?_; rintro q_ w3 ⟨rfl, b_3⟩
  replace ba := ba.below b_3 ba.lt
  replace bb := bb.below b_3 bb.lt
  replace k0 := k0.below b_3 (by omega)
  replace k1 := k1.below b_3 (by omega)
  replace k2 := k2.below b_3 (by omega)
  replace k3 := k3.below b_3 (by omega)
  replace k4 := k4.below b_3 (by omega)
  replace k5 := k5.below b_3 (by omega)
  have z_4 := b_3.size
  replace hB := hB.trans (b_3.mono (by omega))
  clear b_3
  have ba_0 := ba.cell (j := 0) rfl
  have ba_1 := ba.cell (j := 1) rfl
  have ba_2 := ba.cell (j := 2) rfl
  have ba_3 := ba.cell (j := 3) rfl
  have ba_z := ba.frozen
  have ba_l := ba.lt
  have bb_0 := bb.cell (j := 0) rfl
  have bb_1 := bb.cell (j := 1) rfl
  have bb_2 := bb.cell (j := 2) rfl
  have bb_3 := bb.cell (j := 3) rfl
  have bb_z := bb.frozen
  have bb_l := bb.lt
  go_wp2_with fail
  clear ba_0 ba_1 ba_2 ba_3 ba_z ba_l bb_0 bb_1 bb_2 bb_3 bb_z bb_l
  go_ret
  exact ⟨rfl, hB⟩

set_option maxHeartbeats 2000000 in
theorem markFace_any (m : Int) (v0 v1 v2 : Value) (st : List Int) (ls : List Sl) (lw : List Wt) (w : World) {lo hi lo2 hi2 lo3 hi3 : Nat} (h0 : Ow Nm.cells 1 3 w lo3 hi3 v0 st) (h : Ow Sl.cells 3 127 w lo hi v1 ls) (h2 : Ow Wt.cells 2 134 w lo2 hi2 v2 lw) (hh0 : hi3 ≤ w.heap.size) (hh : hi ≤ w.heap.size) (hh2 : hi2 ≤ w.heap.size) (hl0 : st.length ≤ 1048576) (hl : ls.length ≤ 1048576) (hl2 : lw.length ≤ 1048576) (k0 : Int) (k1 : 0 ≤ k0) (k2 : k0 ≤ 1000) :
    Calls Tryz.prog 15 #[.agg #[.int .i64 m, v0, v1, v2], .int .i64 k0] w fun e w' => ∃ wa wb wc wd, e = .returned (.int .i64 (k0 + st.length + 3 * ls.length + 2 * lw.length)) ∧ Below w.heap.size w wa ∧ Ow Nm.cells 1 3 wb lo3 hi3 v0 (Nm.markL k0 st.length) ∧ Turned wa wb v0 st.length ∧ Below wb.heap.size wb wc ∧ Ow Sl.cells 3 127 wd lo hi v1 (Sl.markL (k0 + st.length) ls.length) ∧ Turned wc wd v1 ls.length ∧ Ow Wt.cells 2 134 w' lo2 hi2 v2 (Wt.markL (k0 + st.length + 3 * ls.length) lw.length) ∧ Turned wd w' v2 lw.length ∧ Ow Wt.cells 2 134 wd lo2 hi2 v2 lw := by
  have b0 := (Below.refl w.heap.size w).alloc (Nat.le_refl _) (.cells #[.int .i64 m, v0, v1, v2] 35)
  have z0 : (w.alloc (.cells #[.int .i64 m, v0, v1, v2] 35)).heap.size = w.heap.size + 1 := by simp
  have bx := Box.new w #[.int .i64 m, v0, v1, v2] 35 rfl
  have o0 := h0.below b0 hh0
  have o1 := h.below b0 hh
  have o2 := h2.below b0 hh2
  clear h0 h h2
  generalize hwA : w.alloc (.cells #[.int .i64 m, v0, v1, v2] 35) = wA at *
  have c1 := Nm.markS_any v0 st wA o0 k0 k1 (by omega) hl0
  have x1 := bx.cell (j := 1) rfl
  go_enter Tryz.func15, Tryz.ntmps15
  go_wp2_with fail
  clear hwA x1
  refine c1.mono ?_; rintro q_ w1 ⟨rfl, p1, t1⟩
  have z1 := t1.size
  have bx' := bx.turned o0 t1 (by decide)
  have o1' := o1.turned_type o0 t1 (by decide)
  have o2' := o2.turned_type o0 t1 (by decide)
  have x2 := bx'.cell (j := 2) rfl
  have x3 := bx'.cell (j := 3) rfl
  go_wp2_with fail
  refine (markQueue_any v1 v2 ls lw w1 o1' o2' (by omega) (by omega) hl hl2 (k0 + st.length) (by omega) (by omega)).mono ?_; rintro q_ w2 ⟨wa, wb, rfl, b2, p2, t2, p3, t3, o3⟩
  go_wp2_with fail
  go_ret
  exact ⟨wA, w1, wa, wb, rfl, b0, p1, t1, b2, p2, t2, p3, t3, o3⟩

theorem heldFace_any (m : Int) (v0 v1 v2 : Value) (n n1 n2 : Nat) (w : World) {lo hi lo2 hi2 lo3 hi3 : Nat} {k0 : Int} (h0 : Rd Nm.cells 1 w lo3 hi3 v0 (Nm.markL k0 n)) (h : Rd Sl.cells 3 w lo hi v1 (Sl.markL (k0 + n) n1)) (h2 : Rd Wt.cells 2 w lo2 hi2 v2 (Wt.markL (k0 + n + 3 * n1) n2)) (hh0 : hi3 ≤ w.heap.size) (hh : hi ≤ w.heap.size) (hh2 : hi2 ≤ w.heap.size) (hl0 : n ≤ 1048576) (hl : n1 ≤ 1048576) (hl2 : n2 ≤ 1048576) (k1 : 0 ≤ k0) (k2 : k0 ≤ 1000) :
    Calls Tryz.prog 16 #[.agg #[.int .i64 m, v0, v1, v2], .int .i64 k0] w fun e w' => e = .returned (.int .i64 (k0 + n + 3 * n1 + 2 * n2)) ∧ Below w.heap.size w w' := by
  have b0 := (Below.refl w.heap.size w).alloc (Nat.le_refl _) (.cells #[.int .i64 m, v0, v1, v2] 35)
  have z0 : (w.alloc (.cells #[.int .i64 m, v0, v1, v2] 35)).heap.size = w.heap.size + 1 := by simp
  have bx := Box.new w #[.int .i64 m, v0, v1, v2] 35 rfl
  have r0 := h0.below b0 hh0
  have r1 := h.below b0 hh
  have r2 := h2.below b0 hh2
  clear h0 h h2
  generalize hwA : w.alloc (.cells #[.int .i64 m, v0, v1, v2] 35) = wA at *
  have c1 := Nm.heldS_any v0 wA r0 k1 (by omega) hl0
  have c2 := heldQueue_any v1 v2 n1 n2 wA r1 r2 (by omega) (by omega) hl hl2 (by omega) (by omega)
  have x1 := bx.cell (j := 1) rfl
  have x2 := bx.cell (j := 2) rfl
  have x3 := bx.cell (j := 3) rfl
  have d1 : decide (k0 + (n : Int) < 0) = false := decide_eq_false (by omega)
  have d2 : decide (k0 + (n : Int) + 3 * (n1 : Int) + 2 * (n2 : Int) < 0) = false := decide_eq_false (by omega)
  go_enter Tryz.func16, Tryz.ntmps16
  go_wp2_with fail
  clear hwA
  refine c1.mono ?_; rintro q_ w_ ⟨rfl, rfl⟩
  go_wp2_with fail
  refine c2.mono ?_; rintro q_ w2 ⟨rfl, b2⟩
  go_wp2_with fail
  go_ret
  exact ⟨rfl, b0.trans (b2.mono (by omega))⟩

set_option maxRecDepth 8000 in
theorem Nm.openF {H : Type} {enc : TypeId × Value → H} {w : World} {base : Nat} {spare : Nat → Bool} {held : Bool} {v : Value} {fuel : Nat} {y : DataW H × List MemPlace}
    (h : DataW.trod enc Tryz.prog w base spare held fuel 22 [v] = some y) : ∃ l : List Int, Rd Nm.cells 1 w 0 w.heap.size v l := by
  rcases open_slice Tryz.underlying22 h with ⟨h0, _⟩ | ⟨a, len, cap, m, n, D, Pl, hcs, _, hl, hm, hmm, _, hi⟩
  · simp only [List.cons.injEq, and_true] at h0
    rw [h0]
    exact ⟨[], Rd.nil_⟩
  · simp only [List.cons.injEq, and_true] at hcs
    rw [hcs]
    refine rd_of_cells (by omega) Nm.cells_len hl hm fun i hil => ?_
    obtain ⟨cs', hc, ht'⟩ := hi i (by rw [hmm]; split <;> omega)
    rw [show Tryz.prog.cellsOf 3 = 1 from by kernel_rfl] at hc
    obtain ⟨_, hcl, hat⟩ := World.cells?_some hc
    obtain ⟨a0, e0, _⟩ := DataW.trod_int Tryz.underlying3 ht'
    refine ⟨a0, fun j u hu => ?_⟩
    have hj : j < 1 := (List.getElem?_eq_some_iff.1 hu).1
    obtain rfl : j = 0 := by omega
    have := hat 0 (by omega)
    simp only [Nm.cells, List.getElem?_cons_zero, Option.some.injEq] at hu
    subst hu
    rw [e0] at this
    rw [← Go.Deep.add_add, this]
    rfl
theorem Fa.cellsOfLaw : Tryz.prog.cellsOf 28 = 4 := by kernel_rfl
set_option maxRecDepth 8000 in
theorem Fa.open_ {H : Type} {enc : TypeId × Value → H} {w : World} {base : Nat} {spare : Nat → Bool} {held : Bool} {r : Reach} {b0 : Nat} {v : Value} {d : DataW H} {p : List MemPlace}
    (hv : Value.okWide Tryz.prog w r b0 28 v) (h : DataW.Trod enc Tryz.prog w base spare held 28 v d p) : ∃ (m : Int) (vt vs vw : Value) (st : List Int) (ls : List Sl) (lw : List Wt), v = .agg #[.int .i64 m, vt, vs, vw] ∧ Rd Nm.cells 1 w 0 w.heap.size vt st ∧ Rd Sl.cells 3 w 0 w.heap.size vs ls ∧ Rd Wt.cells 2 w 0 w.heap.size vw lw := by
  obtain ⟨cs, rfl, hsz⟩ := okWide_struct Tryz.underlying28 hv
  obtain ⟨c0, c1, c2, c3, rfl⟩ := Go.Joins.array4 (hsz.trans Fa.cellsOfLaw)
  obtain ⟨fuel, hf⟩ := h
  obtain ⟨y0, y1, y2, n, hx, _, h0, h1, h2⟩ := trod_struct3 Tryz.underlying28 hf
  have q0 : DataW.trod enc Tryz.prog w base spare held n 3 [c0] = some y0 := h0
  have q1 : DataW.trod enc Tryz.prog w base spare held n 22 [c1] = some y1 := h1
  have q2 : DataW.trod enc Tryz.prog w base spare held n 26 [c2, c3] = some y2 := h2
  obtain ⟨a0, e0, _⟩ := DataW.trod_int Tryz.underlying3 q0
  simp only [List.cons.injEq, and_true] at e0
  subst e0
  obtain ⟨st, k0⟩ := Nm.openF q1
  obtain ⟨z0, z1, n', _, _, g0, g1⟩ := trod_struct2 Tryz.underlying26 q2
  obtain ⟨ls, k1⟩ := Sl.openF (show DataW.trod enc Tryz.prog w base spare held n' 23 [c2] = some z0 from g0)
  obtain ⟨lw, k2⟩ := Wt.openF (show DataW.trod enc Tryz.prog w base spare held n' 24 [c3] = some z1 from g1)
  exact ⟨a0, c1, c2, c3, st, ls, lw, rfl, k0, k1, k2⟩

end Go.Proofs.YtengaccnncnipaaGreat
