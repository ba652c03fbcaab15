/- Serving a queue, in the program and in the reference. No condition. -/
import Derived.Test.YtghfdoibabaadaaQuPub
import Derived.Test.YtghfdoibabaadaaQuTake
namespace Go.Proofs.Ytghfdoibabaadaa
open Go.RowKit Go.ChangeShapes Go.WideShapes Go.Deep

theorem Sl.tkW_no {ls : List Sl} {m : Int} (h : Sl.tkOk ls m = false) : Sl.tkW ls m = -1 := by simp [Sl.tkW, h]
theorem Sl.tk_both {ls : List Sl} {m : Int} (h : Sl.tkOk ls m = true) : Sl.tkW ls m = Sl.tkI ls ∧ Sl.tkL ls m = Sl.tkS ls ∧ Sl.tkV ls m = Sl.tkI ls ∧ Sl.tkR ls m = Sl.tkS ls := by simp [Sl.tkW, Sl.tkL, Sl.tkV, Sl.tkR, h]

set_option maxHeartbeats 8000000 in
theorem specServeQueue_any (vs vw : Value) (ls : List Sl) (lw : List Wt) (w : World) {lo hi lo2 hi2 : Nat} (h : Rd Sl.cells 3 w lo hi vs ls) (h2 : Rd Wt.cells 2 w lo2 hi2 vw lw) (hh : hi ≤ w.heap.size) (hh2 : hi2 ≤ w.heap.size) :
    Calls Try.prog 36 #[.agg #[vs, vw]] w fun e w' => ∃ v', e = .returned (.tuple #[v', .bool (Qu.good ls lw)]) ∧ Ow Nm.cells 1 3 w' w.heap.size w'.heap.size v' (Qu.svL ls lw) ∧ Below w.heap.size w w' := by
  have b0 : Below w.heap.size w (w.alloc (.cells #[vs, vw] 31)) := (Below.refl w.heap.size w).alloc (Nat.le_refl _) _
  have z0 : (w.alloc (.cells #[vs, vw] 31)).heap.size = w.heap.size + 1 := by simp
  have bq := Box.new w #[vs, vw] 31 rfl
  have hs := h.below b0 hh
  have hw := h2.below b0 hh2
  have hv := h.form
  have hv2 := h2.form
  clear h h2
  generalize hwA : w.alloc (.cells #[vs, vw] 31) = wA at *
  obtain ⟨A0, n0, d0, rfl, _, _, _⟩ := hv
  obtain ⟨A1, n1, d1, rfl, _, _, _⟩ := hv2
  have o4 := own_empty_at wA (base := w.heap.size) (g := w.heap.size + 1) 3 1 z0.symm (by omega)
  have b4 := (Below.refl wA.heap.size wA).alloc (Nat.le_refl _) (.cells #[] 3)
  have c1 := l9Good_any _ _ ls lw (wA.alloc (.cells #[] 3)) (hs.below b4 (by omega)) (hw.below b4 (by omega)) (by have := b4.size; omega) (by have := b4.size; omega)
  cases hg : Qu.good ls lw
  · have HF := Lib.hid (Qu.sv_no hg)
    rw [hg] at c1
    clear hg
    have x0 := bq.cell (j := 0) rfl
    have x1 := bq.cell (j := 1) rfl
    have z := bq.lt
    go_enter Try.func36, Try.ntmps36
    go_wp2_with fail
    refine c1.mono ?_; rintro q_ w1 ⟨rfl, b1⟩
    go_wp2_with fail
    go_ret2
    exact ⟨_, rfl, by rw [HF.out]; exact Ow.lit0, b0.trans ((b4.trans (b1.mono b4.size)).mono (by omega))⟩
  · have HF := Lib.hid (Qu.sv_yes hg)
    have HG := Lib.hid hg
    rw [hg] at c1
    clear hg
    have x0 := bq.cell (j := 0) rfl
    have x1 := bq.cell (j := 1) rfl
    have z := bq.lt
    go_enter Try.func36, Try.ntmps36
    go_wp2_with fail
    clear hwA
    refine c1.mono ?_; rintro q_ w1 ⟨rfl, b1⟩
    clear x0 x1 z
    have o1 := own_below o4 b1
    have b5 := b4.trans (b1.mono b4.size)
    replace bq := bq.below b5 bq.lt
    have zz5 := b5.size
    replace hs := hs.below b5 (by omega)
    replace hw := hw.below b5 (by omega)
    replace b0 := b0.trans (b5.mono (by omega))
    clear o4 b4 b1 b5
    have x0 := bq.cell (j := 0) rfl
    have x1 := bq.cell (j := 1) rfl
    go_wp2_with fail
    clear x0 x1
    go_loopg [4] (Qu.pc ls lw) (fun gk v4 wr => ∃ (ls' : List Sl) (lw' : List Wt) (xs : List Int) (j : Nat) (A0 A1 : Option Addr) (n0 d0 n1 d1 lo hi lo2 hi2 : Nat), Hid (Qu.good ls' lw' = true) ∧ Hid (Qu.serve ls lw = xs ++ Qu.serve ls' lw') ∧ Hid (Qu.pc ls' lw' ≤ gk) ∧ Hid (j = xs.length) ∧ j + gk ≤ 12 ∧ Below w.heap.size w wr ∧ Box wr w.heap.size 31 [.slice A0 n0 d0, .slice A1 n1 d1] ∧ Rd Sl.cells 3 wr lo hi (.slice A0 n0 d0) ls' ∧ Rd Wt.cells 2 wr lo2 hi2 (.slice A1 n1 d1) lw' ∧ hi ≤ wr.heap.size ∧ hi2 ≤ wr.heap.size ∧ wr.ownsRow w.heap.size 3 1 v4 j (xs.flatMap Nm.cells))
    case atStart => exact ⟨ls, lw, [], 0, _, _, _, _, _, _, _, _, _, _, HG, Lib.hid rfl, Lib.hid (Nat.le_refl _), Lib.hid rfl, by have := Qu.pc_le (Qu.good_parts HG.out).1; omega, b0, bq, hs, hw, by omega, by omega, o1⟩
    case round =>
      clear b0 bq hs hw o1 HG
      obtain ⟨ls', lw', xs, j, A0, A1, n0, d0, n1, d1, lo, hi, lo2, hi2, HG, HS, HM, HJ, hj, hB, bq, hs, hw, hh, hh2, ho⟩ := hrel
      have hp := (Qu.good_parts HG.out).1
      have hsg := (Qu.parts_get hp).1
      have hl2 := Qu.parts_len hp
      have c1 := specTakeQ_in _ _ ls' lw' 16 wr hs hw hh hh2 hsg (by omega)
      have x0 := bq.cell (j := 0) rfl
      have x1 := bq.cell (j := 1) rfl
      have z := bq.lt
      cases hk : Sl.tkOk ls' 16
      · have HE := Lib.hid (show Qu.serve ls lw = xs from by rw [HS.out, Qu.serve_no hk, List.append_nil])
        rw [Sl.tkW_no hk] at c1
        clear hk hp hsg hl2
        go_wp2_with fail
        refine c1.mono ?_; rintro q_ w3 ⟨v5, v6, rfl, o5, o6, b3⟩
        obtain ⟨A5, n5, d5, rfl, _, _, _⟩ := o5.rd.form
        obtain ⟨A6, n6, d6, rfl, _, _, _⟩ := o6.rd.form
        replace ho := own_below ho b3
        replace hB := hB.trans (b3.mono hB.size)
        have oR := Ow.of_own Nm.cells_len ho rfl HJ.out
        have b6 := (Below.refl w3.heap.size w3).alloc (Nat.le_refl _) (.cells #[.slice A5 n5 d5, .slice A6 n6 d6] 31)
        obtain ⟨A9, n9, d9, rfl, _, _, _⟩ := oR.rd.form
        go_wp2_with fail
        go_ret2
        exact ⟨_, rfl, by rw [HF.out, HE.out]; exact (oR.below b6 (Nat.le_refl _)).mono (Nat.le_refl _) b6.size, hB.trans (b6.mono hB.size)⟩
      · have HT := Lib.hid (Qu.tk_end hp hk).1
        have HP2 := Lib.hid (Qu.tk_parts hp hk)
        have HG2 := Lib.hid (Qu.nx_good hp hk)
        have HS2 := Lib.hid (show Qu.serve ls lw = (xs ++ [Sl.tkI ls']) ++ Qu.serve (Qu.nx ls' lw').1 (Qu.nx ls' lw').2 from by rw [HS.out, Qu.serve_yes hp hk, List.append_assoc]; rfl)
        have hpc := Qu.nx_pc hp hk
        obtain ⟨m, rfl⟩ : ∃ m, gk = m + 1 := ⟨gk - 1, by have := HM.out; omega⟩
        have HM2 := Lib.hid (show Qu.pc (Qu.nx ls' lw').1 (Qu.nx ls' lw').2 ≤ m by have := HM.out; omega)
        have HX := Lib.hid (Qu.ei_yes HT.out lw')
        have hd : decide (Sl.tkI ls' < 0) = false := decide_eq_false (by have := Sl.tk_irq hsg hk; omega)
        rw [(Sl.tk_both hk).1, (Sl.tk_both hk).2.1] at c1
        clear hk hp hsg hl2 hpc HM HS
        go_wp2_with fail
        refine c1.mono ?_; rintro q_ w3 ⟨v5, v6, rfl, o5, o6, b3⟩
        obtain ⟨A5, n5, d5, rfl, _, _, _⟩ := o5.rd.form
        obtain ⟨A6, n6, d6, rfl, _, _, _⟩ := o6.rd.form
        replace ho := own_below ho b3
        replace bq := bq.below b3 bq.lt
        have zz3 := b3.size
        replace hB := hB.trans (b3.mono hB.size)
        clear b3 x0 x1 z hs hw c1
        generalize hgI : Sl.tkI ls' = ir at *
        have HI := Lib.hid hgI
        clear hgI
        have b6 := (Below.refl w3.heap.size w3).alloc (Nat.le_refl _) (.cells #[.slice A5 n5 d5, .slice A6 n6 d6] 31)
        have bn := Box.new w3 #[.slice A5 n5 d5, .slice A6 n6 d6] 31 rfl
        go_upto_region 7 with fail
        replace o5 := o5.below b6 (Nat.le_refl _)
        replace o6 := o6.below b6 (Nat.le_refl _)
        replace ho := own_below ho b6
        replace bq := bq.below b6 bq.lt
        have zz6 := b6.size
        have zz7 : w3.heap.size < (w3.alloc (.cells #[.slice A5 n5 d5, .slice A6 n6 d6] 31)).heap.size := by simp
        replace hB := hB.trans (b6.mono hB.size)
        clear b6
        generalize w3.alloc _ = w4 at *
        generalize w3.heap.size = gN at *
        have b7 := (Below.refl w4.heap.size w4).alloc (Nat.le_refl _) (.cells #[.int .i64 ir] 3)
        have ho7 := ho.alloc (.cells #[.int .i64 ir] 3)
        go_upto_region 8 with (at_builtin; (refine Nm.app_one rfl _ _ rfl w.heap.size u4 j _ rfl ho7 (g := w4.heap.size) (c := 1) ir rfl (fun j u hu => cell_new _ _ _ rfl (by simpa [Nm.cells] using hu)) (by omega) (by have := hB.size; simp; omega) ?_); (intro v8 w8 ho8 g8))
        have b8 : Below w.heap.size w w8 := (hB.alloc hB.size _).grown g8 (by have := hB.size; simp; omega) (own_ge ho7)
        replace bq := (bq.below b7 bq.lt).grown_own ho7 g8 (by decide)
        replace bn := (bn.below b7 bn.lt).grown_own ho7 g8 (by decide)
        replace o5 := (o5.below b7 (by omega)).grown_own ho7 g8 (by decide)
        replace o6 := (o6.below b7 (by omega)).grown_own ho7 g8 (by decide)
        have zz8 := g8.size
        have zz9 := b7.size
        clear ho7 b7 g8 ho hB
        have y0 := bn.cell (j := 0) rfl
        have y1 := bn.cell (j := 1) rfl
        have zn := bn.lt
        go_wp2_with fail
        refine (specEndQ_in _ _ (Sl.tkS ls') lw' ir w8 o5.rd o6.rd (by omega) (by omega) HP2.out).mono ?_; rintro q_ w9 ⟨v9, v10, rfl, o9, o10, b9⟩
        rw [HX.out.1, ← HI.out] at o9
        rw [HX.out.2, ← HI.out] at o10
        obtain ⟨A9, n9, d9, rfl, _, _, _⟩ := o9.rd.form
        obtain ⟨A10, n10, d10, rfl, _, _, _⟩ := o10.rd.form
        replace bq := bq.below b9 bq.lt
        replace ho8 := own_below ho8 b9
        have zz10 := b9.size
        replace b8 := b8.trans (b9.mono b8.size)
        clear b9 y0 y1 bn o5 o6 zn
        have x0 := bq.cell (j := 0) rfl
        have x1 := bq.cell (j := 1) rfl
        have xz := bq.frozen
        have z := bq.lt
        go_wp2_with fail
        go_roundg m
        case rel =>
          generalize hwz : World.setCell (World.setCell _ _ _) _ _ = wz
          obtain rfl : wz = setL w9 w.heap.size 0 [.slice A9 n9 d9, .slice A10 n10 d10] := hwz.symm
          clear hwz
          have sz : (setL w9 w.heap.size 0 [.slice A9 n9 d9, .slice A10 n10 d10]).heap.size = w9.heap.size := setL_size _ _ _ _
          refine ⟨(Qu.nx ls' lw').1, (Qu.nx ls' lw').2, xs ++ [ir], j + 1, _, _, _, _, _, _, _, _, _, _, HG2, HS2, HM2, Lib.hid (by rw [List.length_append, HJ.out]; rfl), by omega, setL_below b8 _ _ 0 (Nat.le_refl _), bq.setAll _ rfl, (o9.box bq (by decide) 0 _).rd, (o10.box bq (by decide) 0 _).rd, by omega, by omega, ?_⟩
          rw [List.flatMap_append]
          have := own_box ho8 bq (by decide) 0 [.slice A9 n9 d9, .slice A10 n10 d10]
          simpa using this
        case measure => exact Nat.lt_succ_self _
set_option maxHeartbeats 8000000 in
theorem implServeQueue_any (vs vw : Value) (ls : List Sl) (lw : List Wt) (w : World) {lo hi lo2 hi2 : Nat} (h : Rd Sl.cells 3 w lo hi vs ls) (h2 : Rd Wt.cells 2 w lo2 hi2 vw lw) (hh : hi ≤ w.heap.size) (hh2 : hi2 ≤ w.heap.size) :
    Calls Try.prog 37 #[.agg #[vs, vw]] w fun e w' => ∃ v', e = .returned (.tuple #[v', .bool (Qu.good ls lw)]) ∧ Ow Nm.cells 1 3 w' w.heap.size w'.heap.size v' (Qu.svL ls lw) ∧ Below w.heap.size w w' := by
  have b0 : Below w.heap.size w (w.alloc (.cells #[vs, vw] 31)) := (Below.refl w.heap.size w).alloc (Nat.le_refl _) _
  have z0 : (w.alloc (.cells #[vs, vw] 31)).heap.size = w.heap.size + 1 := by simp
  have bq := Box.new w #[vs, vw] 31 rfl
  have hs := h.below b0 hh
  have hw := h2.below b0 hh2
  have hv := h.form
  have hv2 := h2.form
  clear h h2
  generalize hwA : w.alloc (.cells #[vs, vw] 31) = wA at *
  obtain ⟨A0, n0, d0, rfl, _, _, _⟩ := hv
  obtain ⟨A1, n1, d1, rfl, _, _, _⟩ := hv2
  have c1 := implIsQueue_any _ _ ls lw wA hs hw (by omega) (by omega)
  cases hg : Qu.good ls lw
  · have HF := Lib.hid (Qu.sv_no hg)
    rw [hg] at c1
    clear hg
    have x0 := bq.cell (j := 0) rfl
    have x1 := bq.cell (j := 1) rfl
    have z := bq.lt
    go_enter Try.func37, Try.ntmps37
    go_wp2_with fail
    refine c1.mono ?_; rintro q_ w1 ⟨rfl, b1⟩
    go_wp2_with fail
    go_ret2
    exact ⟨_, rfl, by rw [HF.out]; exact Ow.lit0, b0.trans (b1.mono (by omega))⟩
  · have HF := Lib.hid (Qu.sv_yes hg)
    have HG := Lib.hid hg
    rw [hg] at c1
    clear hg
    have x0 := bq.cell (j := 0) rfl
    have x1 := bq.cell (j := 1) rfl
    have z := bq.lt
    go_enter Try.func37, Try.ntmps37
    go_wp2_with fail
    clear hwA
    refine c1.mono ?_; rintro q_ w1 ⟨rfl, b1⟩
    clear x0 x1 z
    replace bq := bq.below b1 bq.lt
    have zz1 := b1.size
    replace hs := hs.below b1 (by omega)
    replace hw := hw.below b1 (by omega)
    replace b0 := b0.trans (b1.mono (by omega))
    clear b1
    have x0 := bq.cell (j := 0) rfl
    have x1 := bq.cell (j := 1) rfl
    have o1 := own_empty w1 (base := w.heap.size) 3 1 b0.size
    have b4 := (Below.refl w1.heap.size w1).alloc (Nat.le_refl _) (.cells #[] 3)
    go_wp2_with fail
    clear x0 x1
    replace bq := bq.below b4 bq.lt
    have zz5 := b4.size
    replace hs := hs.below b4 (by omega)
    replace hw := hw.below b4 (by omega)
    replace b0 := b0.trans (b4.mono (by omega))
    clear b4
    generalize w1.alloc _ = w1 at *
    go_loopg [4] (Qu.pc ls lw) (fun gk v4 wr => ∃ (ls' : List Sl) (lw' : List Wt) (xs : List Int) (j : Nat) (A0 A1 : Option Addr) (n0 d0 n1 d1 lo hi lo2 hi2 : Nat), Hid (Qu.good ls' lw' = true) ∧ Hid (Qu.serve ls lw = xs ++ Qu.serve ls' lw') ∧ Hid (Qu.pc ls' lw' ≤ gk) ∧ Hid (j = xs.length) ∧ j + gk ≤ 12 ∧ Below w.heap.size w wr ∧ Box wr w.heap.size 31 [.slice A0 n0 d0, .slice A1 n1 d1] ∧ Rd Sl.cells 3 wr lo hi (.slice A0 n0 d0) ls' ∧ Rd Wt.cells 2 wr lo2 hi2 (.slice A1 n1 d1) lw' ∧ hi ≤ wr.heap.size ∧ hi2 ≤ wr.heap.size ∧ wr.ownsRow w.heap.size 3 1 v4 j (xs.flatMap Nm.cells))
    case atStart => exact ⟨ls, lw, [], 0, _, _, _, _, _, _, _, _, _, _, HG, Lib.hid rfl, Lib.hid (Nat.le_refl _), Lib.hid rfl, by have := Qu.pc_le (Qu.good_parts HG.out).1; omega, b0, bq, hs, hw, by omega, by omega, o1⟩
    case round =>
      clear b0 bq hs hw o1 HG
      obtain ⟨ls', lw', xs, j, A0, A1, n0, d0, n1, d1, lo, hi, lo2, hi2, HG, HS, HM, HJ, hj, hB, bq, hs, hw, hh, hh2, ho⟩ := hrel
      have hp := (Qu.good_parts HG.out).1
      have hsg := (Qu.parts_get hp).1
      have hl2 := Qu.parts_len hp
      have c1 := implTakeQ_in _ _ ls' lw' 16 wr hs hw hh hh2 hsg (by omega)
      have x0 := bq.cell (j := 0) rfl
      have x1 := bq.cell (j := 1) rfl
      have z := bq.lt
      cases hk : Sl.tkOk ls' 16
      · have HE := Lib.hid (show Qu.serve ls lw = xs from by rw [HS.out, Qu.serve_no hk, List.append_nil])
        rw [hk, (Sl.tk_no hk).2.2.1] at c1
        clear hk hp hsg hl2
        go_wp2_with fail
        refine c1.mono ?_; rintro q_ w3 ⟨v5, v6, rfl, o5, o6, b3⟩
        obtain ⟨A5, n5, d5, rfl, _, _, _⟩ := o5.rd.form
        obtain ⟨A6, n6, d6, rfl, _, _, _⟩ := o6.rd.form
        replace ho := own_below ho b3
        replace hB := hB.trans (b3.mono hB.size)
        have oR := Ow.of_own Nm.cells_len ho rfl HJ.out
        have b6 := (Below.refl w3.heap.size w3).alloc (Nat.le_refl _) (.cells #[.slice A5 n5 d5, .slice A6 n6 d6] 31)
        obtain ⟨A9, n9, d9, rfl, _, _, _⟩ := oR.rd.form
        go_wp2_with fail
        go_ret2
        exact ⟨_, rfl, by rw [HF.out, HE.out]; exact (oR.below b6 (Nat.le_refl _)).mono (Nat.le_refl _) b6.size, hB.trans (b6.mono hB.size)⟩
      · have HT := Lib.hid (Qu.tk_end hp hk).1
        have HP2 := Lib.hid (Qu.tk_parts hp hk)
        have HG2 := Lib.hid (Qu.nx_good hp hk)
        have HS2 := Lib.hid (show Qu.serve ls lw = (xs ++ [Sl.tkI ls']) ++ Qu.serve (Qu.nx ls' lw').1 (Qu.nx ls' lw').2 from by rw [HS.out, Qu.serve_yes hp hk, List.append_assoc]; rfl)
        have hpc := Qu.nx_pc hp hk
        obtain ⟨m, rfl⟩ : ∃ m, gk = m + 1 := ⟨gk - 1, by have := HM.out; omega⟩
        have HM2 := Lib.hid (show Qu.pc (Qu.nx ls' lw').1 (Qu.nx ls' lw').2 ≤ m by have := HM.out; omega)
        have HX := Lib.hid (Qu.ei_yes HT.out lw')
        rw [hk, (Sl.tk_both hk).2.2.1, (Sl.tk_both hk).2.2.2, show Qu.tkK ls' 16 lw' = lw' from by simp [Qu.tkK, hk]] at c1
        clear hk hp hsg hl2 hpc HM HS
        go_wp2_with fail
        refine c1.mono ?_; rintro q_ w3 ⟨v5, v6, rfl, o5, o6, b3⟩
        obtain ⟨A5, n5, d5, rfl, _, _, _⟩ := o5.rd.form
        obtain ⟨A6, n6, d6, rfl, _, _, _⟩ := o6.rd.form
        replace ho := own_below ho b3
        replace bq := bq.below b3 bq.lt
        have zz3 := b3.size
        replace hB := hB.trans (b3.mono hB.size)
        clear b3 x0 x1 z hs hw c1
        generalize hgI : Sl.tkI ls' = ir at *
        have HI := Lib.hid hgI
        clear hgI
        have b6 := (Below.refl w3.heap.size w3).alloc (Nat.le_refl _) (.cells #[.slice A5 n5 d5, .slice A6 n6 d6] 31)
        have bn := Box.new w3 #[.slice A5 n5 d5, .slice A6 n6 d6] 31 rfl
        go_upto_region 7 with fail
        replace o5 := o5.below b6 (Nat.le_refl _)
        replace o6 := o6.below b6 (Nat.le_refl _)
        replace ho := own_below ho b6
        replace bq := bq.below b6 bq.lt
        have zz6 := b6.size
        have zz7 : w3.heap.size < (w3.alloc (.cells #[.slice A5 n5 d5, .slice A6 n6 d6] 31)).heap.size := by simp
        replace hB := hB.trans (b6.mono hB.size)
        clear b6
        generalize w3.alloc _ = w4 at *
        generalize w3.heap.size = gN at *
        have b7 := (Below.refl w4.heap.size w4).alloc (Nat.le_refl _) (.cells #[.int .i64 ir] 3)
        have ho7 := ho.alloc (.cells #[.int .i64 ir] 3)
        go_upto_region 8 with (at_builtin; (refine Nm.app_one rfl _ _ rfl w.heap.size u4 j _ rfl ho7 (g := w4.heap.size) (c := 1) ir rfl (fun j u hu => cell_new _ _ _ rfl (by simpa [Nm.cells] using hu)) (by omega) (by have := hB.size; simp; omega) ?_); (intro v8 w8 ho8 g8))
        have b8 : Below w.heap.size w w8 := (hB.alloc hB.size _).grown g8 (by have := hB.size; simp; omega) (own_ge ho7)
        replace bq := (bq.below b7 bq.lt).grown_own ho7 g8 (by decide)
        replace bn := (bn.below b7 bn.lt).grown_own ho7 g8 (by decide)
        replace o5 := (o5.below b7 (by omega)).grown_own ho7 g8 (by decide)
        replace o6 := (o6.below b7 (by omega)).grown_own ho7 g8 (by decide)
        have zz8 := g8.size
        have zz9 := b7.size
        clear ho7 b7 g8 ho hB
        have y0 := bn.cell (j := 0) rfl
        have y1 := bn.cell (j := 1) rfl
        have zn := bn.lt
        go_wp2_with fail
        refine (implEndQ_in _ _ (Sl.tkS ls') lw' ir w8 o5.rd o6.rd (by omega) (by omega) HP2.out).mono ?_; rintro q_ w9 ⟨v9, v10, rfl, o9, o10, b9⟩
        rw [HX.out.1, ← HI.out] at o9
        rw [HX.out.2, ← HI.out] at o10
        obtain ⟨A9, n9, d9, rfl, _, _, _⟩ := o9.rd.form
        obtain ⟨A10, n10, d10, rfl, _, _, _⟩ := o10.rd.form
        replace bq := bq.below b9 bq.lt
        replace ho8 := own_below ho8 b9
        have zz10 := b9.size
        replace b8 := b8.trans (b9.mono b8.size)
        clear b9 y0 y1 bn o5 o6 zn
        have x0 := bq.cell (j := 0) rfl
        have x1 := bq.cell (j := 1) rfl
        have xz := bq.frozen
        have z := bq.lt
        go_wp2_with fail
        go_roundg m
        case rel =>
          generalize hwz : World.setCell (World.setCell _ _ _) _ _ = wz
          obtain rfl : wz = setL w9 w.heap.size 0 [.slice A9 n9 d9, .slice A10 n10 d10] := hwz.symm
          clear hwz
          have sz : (setL w9 w.heap.size 0 [.slice A9 n9 d9, .slice A10 n10 d10]).heap.size = w9.heap.size := setL_size _ _ _ _
          refine ⟨(Qu.nx ls' lw').1, (Qu.nx ls' lw').2, xs ++ [ir], j + 1, _, _, _, _, _, _, _, _, _, _, HG2, HS2, HM2, Lib.hid (by rw [List.length_append, HJ.out]; rfl), by omega, setL_below b8 _ _ 0 (Nat.le_refl _), bq.setAll _ rfl, (o9.box bq (by decide) 0 _).rd, (o10.box bq (by decide) 0 _).rd, by omega, by omega, ?_⟩
          rw [List.flatMap_append]
          have := own_box ho8 bq (by decide) 0 [.slice A9 n9 d9, .slice A10 n10 d10]
          simpa using this
        case measure => exact Nat.lt_succ_self _

end Go.Proofs.Ytghfdoibabaadaa
