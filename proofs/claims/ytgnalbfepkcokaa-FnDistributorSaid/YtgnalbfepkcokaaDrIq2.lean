/- The reference's Draw functions of the distributor's laws: they return something, in new memory. No condition. -/
import Derived.Test.YtgnalbfepkcokaaDrIq
namespace Go.Proofs.Ytgnalbfepkcokaa
open Go.RowKit Go.ChangeShapes Go.WideShapes Go.Deep

set_option maxRecDepth 8000 in
set_option maxHeartbeats 2000000 in
theorem DrawSetPending_any (cv : Value) (l : List UInt8) (w : World) {lo hi : Nat} (h : Rd By.cells 1 w lo hi cv l) (hh : hi ≤ w.heap.size) :
    Calls Try.prog 44 #[cv] w fun e w' => ∃ v, ∃ ls : List Iq, ∃ x : Int, ∃ p : Bool, e = .returned (.tuple #[v, .int .i64 x, .bool p]) ∧ Ow Iq.cells 5 62 w' w.heap.size w'.heap.size v ls ∧ Below w.heap.size w w' := by
  obtain ⟨Ac, nc, cc, rfl, _, _, _⟩ := h.form
  go_enter Try.func44, Try.ntmps44
  go_wp2_with fail
  have bx := Box.new w #[.slice Ac nc cc, .int .i64 0, .int .u64 0] 80 rfl
  have hB := (Below.refl w.heap.size w).alloc (Nat.le_refl _) (.cells #[.slice Ac nc cc, .int .i64 0, .int .u64 0] 80)
  have za : (w.alloc (.cells #[.slice Ac nc cc, .int .i64 0, .int .u64 0] 80)).heap.size = w.heap.size + 1 := by simp
  have hc : Cur (w.alloc (.cells #[.slice Ac nc cc, .int .i64 0, .int .u64 0] 80)) w.heap.size (.slice Ac nc cc) 0 := ⟨0, 0, Nat.le_refl _, Lib.hid (by unfold U64; omega), bx⟩
  have hg : w.heap.size < lo ∨ hi ≤ w.heap.size := .inr hh
  replace h := h.below hB hh
  clear bx
  generalize w.alloc _ = w0 at *
  generalize hgg : w.heap.size = g at *
  have HG := Lib.hid hgg
  clear hgg
  refine (irqs_any g _ _ l w0 h (by omega) hg hc (by omega)).mono ?_; rintro q_ w1 ⟨v1, l1, rfl, n1, o1, gg1, kk1⟩
  clear hc
  replace h := h.grown gg1 (by omega) (fun q e => by injection e with e; omega)
  replace hB := hB.grown gg1 (by omega) (fun q e => by injection e with e; omega)
  have z_2 := gg1.size
  clear gg1
  go_wp2_with fail
  refine (irq_any g _ _ l w1 h (by omega) hg kk1 (by omega)).mono ?_; rintro q_ w3 ⟨x2, rfl, gg3, kk3⟩
  clear kk1
  replace h := h.grown gg3 (by omega) (fun q e => by injection e with e; omega)
  replace o1 := o1.apart gg3 (fun q e => by injection e with e; omega)
  replace hB := hB.grown gg3 (by omega) (fun q e => by injection e with e; omega)
  have z_4 := gg3.size
  clear gg3
  go_wp2_with fail
  refine (one_any g _ _ l 2 w3 h (by omega) hg kk3 (by omega) (by omega)).mono ?_; rintro q_ w5 ⟨b3, rfl, gg5, kk5⟩
  clear kk3
  replace h := h.grown gg5 (by omega) (fun q e => by injection e with e; omega)
  replace o1 := o1.apart gg5 (fun q e => by injection e with e; omega)
  replace hB := hB.grown gg5 (by omega) (fun q e => by injection e with e; omega)
  have z_6 := gg5.size
  clear gg5
  go_wp2_with fail
  go_ret3
  rw [HG.out]
  exact ⟨_, l1, _, _, rfl, o1.mono (by omega) (by omega), hB⟩
set_option maxRecDepth 8000 in
set_option maxHeartbeats 2000000 in
theorem DrawRouteIrq_any (cv : Value) (l : List UInt8) (w : World) {lo hi : Nat} (h : Rd By.cells 1 w lo hi cv l) (hh : hi ≤ w.heap.size) :
    Calls Try.prog 49 #[cv] w fun e w' => ∃ v, ∃ ls : List Iq, ∃ x p q : Int, e = .returned (.tuple #[v, .int .i64 x, .int .i64 p, .int .i64 q]) ∧ Ow Iq.cells 5 62 w' w.heap.size w'.heap.size v ls ∧ Below w.heap.size w w' := by
  obtain ⟨Ac, nc, cc, rfl, _, _, _⟩ := h.form
  go_enter Try.func49, Try.ntmps49
  go_wp2_with fail
  have bx := Box.new w #[.slice Ac nc cc, .int .i64 0, .int .u64 0] 80 rfl
  have hB := (Below.refl w.heap.size w).alloc (Nat.le_refl _) (.cells #[.slice Ac nc cc, .int .i64 0, .int .u64 0] 80)
  have za : (w.alloc (.cells #[.slice Ac nc cc, .int .i64 0, .int .u64 0] 80)).heap.size = w.heap.size + 1 := by simp
  have hc : Cur (w.alloc (.cells #[.slice Ac nc cc, .int .i64 0, .int .u64 0] 80)) w.heap.size (.slice Ac nc cc) 0 := ⟨0, 0, Nat.le_refl _, Lib.hid (by unfold U64; omega), bx⟩
  have hg : w.heap.size < lo ∨ hi ≤ w.heap.size := .inr hh
  replace h := h.below hB hh
  clear bx
  generalize w.alloc _ = w0 at *
  generalize hgg : w.heap.size = g at *
  have HG := Lib.hid hgg
  clear hgg
  refine (irqs_any g _ _ l w0 h (by omega) hg hc (by omega)).mono ?_; rintro q_ w1 ⟨v1, l1, rfl, n1, o1, gg1, kk1⟩
  clear hc
  replace h := h.grown gg1 (by omega) (fun q e => by injection e with e; omega)
  replace hB := hB.grown gg1 (by omega) (fun q e => by injection e with e; omega)
  have z_2 := gg1.size
  clear gg1
  go_wp2_with fail
  refine (irq_any g _ _ l w1 h (by omega) hg kk1 (by omega)).mono ?_; rintro q_ w3 ⟨x2, rfl, gg3, kk3⟩
  clear kk1
  replace h := h.grown gg3 (by omega) (fun q e => by injection e with e; omega)
  replace o1 := o1.apart gg3 (fun q e => by injection e with e; omega)
  replace hB := hB.grown gg3 (by omega) (fun q e => by injection e with e; omega)
  have z_4 := gg3.size
  clear gg3
  go_wp2_with fail
  refine (prio_any g _ _ l w3 h (by omega) hg kk3 (by omega)).mono ?_; rintro q_ w5 ⟨x3, rfl, gg5, kk5⟩
  clear kk3
  replace h := h.grown gg5 (by omega) (fun q e => by injection e with e; omega)
  replace o1 := o1.apart gg5 (fun q e => by injection e with e; omega)
  replace hB := hB.grown gg5 (by omega) (fun q e => by injection e with e; omega)
  have z_6 := gg5.size
  clear gg5
  go_wp2_with fail
  refine (cpu_any g _ _ l w5 h (by omega) hg kk5 (by omega)).mono ?_; rintro q_ w7 ⟨x4, rfl, gg7, kk7⟩
  clear kk5
  replace h := h.grown gg7 (by omega) (fun q e => by injection e with e; omega)
  replace o1 := o1.apart gg7 (fun q e => by injection e with e; omega)
  replace hB := hB.grown gg7 (by omega) (fun q e => by injection e with e; omega)
  have z_8 := gg7.size
  clear gg7
  go_wp2_with fail
  go_returns
  rw [HG.out]
  exact ⟨_, l1, _, _, _, rfl, o1.mono (by omega) (by omega), hB⟩
set_option maxRecDepth 8000 in
set_option maxHeartbeats 2000000 in
theorem DrawReadyIrqs_any (cv : Value) (l : List UInt8) (w : World) {lo hi : Nat} (h : Rd By.cells 1 w lo hi cv l) (hh : hi ≤ w.heap.size) :
    Calls Try.prog 52 #[cv] w fun e w' => ∃ v, ∃ ls : List Iq, ∃ x : Int, e = .returned (.tuple #[v, .int .i64 x]) ∧ Ow Iq.cells 5 62 w' w.heap.size w'.heap.size v ls ∧ Below w.heap.size w w' := by
  obtain ⟨Ac, nc, cc, rfl, _, _, _⟩ := h.form
  go_enter Try.func52, Try.ntmps52
  go_wp2_with fail
  have bx := Box.new w #[.slice Ac nc cc, .int .i64 0, .int .u64 0] 80 rfl
  have hB := (Below.refl w.heap.size w).alloc (Nat.le_refl _) (.cells #[.slice Ac nc cc, .int .i64 0, .int .u64 0] 80)
  have za : (w.alloc (.cells #[.slice Ac nc cc, .int .i64 0, .int .u64 0] 80)).heap.size = w.heap.size + 1 := by simp
  have hc : Cur (w.alloc (.cells #[.slice Ac nc cc, .int .i64 0, .int .u64 0] 80)) w.heap.size (.slice Ac nc cc) 0 := ⟨0, 0, Nat.le_refl _, Lib.hid (by unfold U64; omega), bx⟩
  have hg : w.heap.size < lo ∨ hi ≤ w.heap.size := .inr hh
  replace h := h.below hB hh
  clear bx
  generalize w.alloc _ = w0 at *
  generalize hgg : w.heap.size = g at *
  have HG := Lib.hid hgg
  clear hgg
  refine (irqs_any g _ _ l w0 h (by omega) hg hc (by omega)).mono ?_; rintro q_ w1 ⟨v1, l1, rfl, n1, o1, gg1, kk1⟩
  clear hc
  replace h := h.grown gg1 (by omega) (fun q e => by injection e with e; omega)
  replace hB := hB.grown gg1 (by omega) (fun q e => by injection e with e; omega)
  have z_2 := gg1.size
  clear gg1
  go_wp2_with fail
  refine (cpu_any g _ _ l w1 h (by omega) hg kk1 (by omega)).mono ?_; rintro q_ w3 ⟨x2, rfl, gg3, kk3⟩
  clear kk1
  replace h := h.grown gg3 (by omega) (fun q e => by injection e with e; omega)
  replace o1 := o1.apart gg3 (fun q e => by injection e with e; omega)
  replace hB := hB.grown gg3 (by omega) (fun q e => by injection e with e; omega)
  have z_4 := gg3.size
  clear gg3
  go_wp2_with fail
  go_ret2
  rw [HG.out]
  exact ⟨_, l1, _, rfl, o1.mono (by omega) (by omega), hB⟩
set_option maxRecDepth 8000 in
set_option maxHeartbeats 2000000 in
theorem DrawPriorityMask_any (cv : Value) (l : List UInt8) (w : World) {lo hi : Nat} (h : Rd By.cells 1 w lo hi cv l) (hh : hi ≤ w.heap.size) :
    Calls Try.prog 63 #[cv] w fun e w' => ∃ v, ∃ ls : List Iq, ∃ x m : Int, e = .returned (.tuple #[v, .int .i64 x, .int .i64 m]) ∧ Ow Iq.cells 5 62 w' w.heap.size w'.heap.size v ls ∧ Below w.heap.size w w' := by
  obtain ⟨Ac, nc, cc, rfl, _, _, _⟩ := h.form
  go_enter Try.func63, Try.ntmps63
  go_wp2_with fail
  have bx := Box.new w #[.slice Ac nc cc, .int .i64 0, .int .u64 0] 80 rfl
  have hB := (Below.refl w.heap.size w).alloc (Nat.le_refl _) (.cells #[.slice Ac nc cc, .int .i64 0, .int .u64 0] 80)
  have za : (w.alloc (.cells #[.slice Ac nc cc, .int .i64 0, .int .u64 0] 80)).heap.size = w.heap.size + 1 := by simp
  have hc : Cur (w.alloc (.cells #[.slice Ac nc cc, .int .i64 0, .int .u64 0] 80)) w.heap.size (.slice Ac nc cc) 0 := ⟨0, 0, Nat.le_refl _, Lib.hid (by unfold U64; omega), bx⟩
  have hg : w.heap.size < lo ∨ hi ≤ w.heap.size := .inr hh
  replace h := h.below hB hh
  clear bx
  generalize w.alloc _ = w0 at *
  generalize hgg : w.heap.size = g at *
  have HG := Lib.hid hgg
  clear hgg
  refine (irqs_any g _ _ l w0 h (by omega) hg hc (by omega)).mono ?_; rintro q_ w1 ⟨v1, l1, rfl, n1, o1, gg1, kk1⟩
  clear hc
  replace h := h.grown gg1 (by omega) (fun q e => by injection e with e; omega)
  replace hB := hB.grown gg1 (by omega) (fun q e => by injection e with e; omega)
  have z_2 := gg1.size
  clear gg1
  go_wp2_with fail
  refine (cpu_any g _ _ l w1 h (by omega) hg kk1 (by omega)).mono ?_; rintro q_ w3 ⟨x2, rfl, gg3, kk3⟩
  clear kk1
  replace h := h.grown gg3 (by omega) (fun q e => by injection e with e; omega)
  replace o1 := o1.apart gg3 (fun q e => by injection e with e; omega)
  replace hB := hB.grown gg3 (by omega) (fun q e => by injection e with e; omega)
  have z_4 := gg3.size
  clear gg3
  go_wp2_with fail
  have rl := lit_ints w3 [0, 1, 3, 4, 8, 15, 16, 17, -1, 5] #[.int .i64 0, .int .i64 1, .int .i64 3, .int .i64 4, .int .i64 8, .int .i64 15, .int .i64 16, .int .i64 17, .int .i64 (-1), .int .i64 5] 10 rfl rfl (by decide)
  have ga5 := grown_alloc w3 (.cells #[.int .i64 0, .int .i64 1, .int .i64 3, .int .i64 4, .int .i64 8, .int .i64 15, .int .i64 16, .int .i64 17, .int .i64 (-1), .int .i64 5] 3)
  have za5 : (w3.alloc (.cells #[.int .i64 0, .int .i64 1, .int .i64 3, .int .i64 4, .int .i64 8, .int .i64 15, .int .i64 16, .int .i64 17, .int .i64 (-1), .int .i64 5] 3)).heap.size = w3.heap.size + 1 := by simp
  replace kk3 := kk3.grown0 ga5
  replace h := h.grown ga5 (by omega) (fun q e => by cases e)
  replace o1 := o1.apart ga5 (fun q e => by cases e)
  replace hB := hB.grown ga5 (by omega) (fun q e => by cases e)
  have z_6 := ga5.size
  clear ga5
  generalize w3.alloc _ = w5 at *
  generalize hgz6 : w3.heap.size = gz6 at *
  clear hgz6
  refine (among_any g _ _ _ l [0, 1, 3, 4, 8, 15, 16, 17, -1, 5] w5 h (by omega) hg rl (by omega) (by omega) (by decide) (by decide) kk3 (by omega)).mono ?_; rintro q_ w7 ⟨x3, rfl, gg7, kk7⟩
  clear kk3
  replace h := h.grown gg7 (by omega) (fun q e => by injection e with e; omega)
  replace o1 := o1.apart gg7 (fun q e => by injection e with e; omega)
  replace hB := hB.grown gg7 (by omega) (fun q e => by injection e with e; omega)
  have z_8 := gg7.size
  clear gg7
  clear rl
  go_wp2_with fail
  go_ret3
  rw [HG.out]
  exact ⟨_, l1, _, _, rfl, o1.mono (by omega) (by omega), hB⟩
set_option maxRecDepth 8000 in
set_option maxHeartbeats 2000000 in
theorem DrawBeginIrq_any (cv : Value) (l : List UInt8) (w : World) {lo hi : Nat} (h : Rd By.cells 1 w lo hi cv l) (hh : hi ≤ w.heap.size) :
    Calls Try.prog 36 #[cv] w fun e w' => ∃ v, ∃ ls : List Iq, ∃ x : Int, e = .returned (.tuple #[v, .int .i64 x]) ∧ Ow Iq.cells 5 62 w' w.heap.size w'.heap.size v ls ∧ Below w.heap.size w w' := by
  obtain ⟨Ac, nc, cc, rfl, _, _, _⟩ := h.form
  go_enter Try.func36, Try.ntmps36
  go_wp2_with fail
  have bx := Box.new w #[.slice Ac nc cc, .int .i64 0, .int .u64 0] 80 rfl
  have hB := (Below.refl w.heap.size w).alloc (Nat.le_refl _) (.cells #[.slice Ac nc cc, .int .i64 0, .int .u64 0] 80)
  have za : (w.alloc (.cells #[.slice Ac nc cc, .int .i64 0, .int .u64 0] 80)).heap.size = w.heap.size + 1 := by simp
  have hc : Cur (w.alloc (.cells #[.slice Ac nc cc, .int .i64 0, .int .u64 0] 80)) w.heap.size (.slice Ac nc cc) 0 := ⟨0, 0, Nat.le_refl _, Lib.hid (by unfold U64; omega), bx⟩
  have hg : w.heap.size < lo ∨ hi ≤ w.heap.size := .inr hh
  replace h := h.below hB hh
  clear bx
  generalize w.alloc _ = w0 at *
  generalize hgg : w.heap.size = g at *
  have HG := Lib.hid hgg
  clear hgg
  refine (irqs_any g _ _ l w0 h (by omega) hg hc (by omega)).mono ?_; rintro q_ w1 ⟨v1, l1, rfl, n1, o1, gg1, kk1⟩
  clear hc
  replace h := h.grown gg1 (by omega) (fun q e => by injection e with e; omega)
  replace hB := hB.grown gg1 (by omega) (fun q e => by injection e with e; omega)
  have z_2 := gg1.size
  clear gg1
  go_wp2_with fail
  refine (irq_any g _ _ l w1 h (by omega) hg kk1 (by omega)).mono ?_; rintro q_ w3 ⟨x2, rfl, gg3, kk3⟩
  clear kk1
  replace h := h.grown gg3 (by omega) (fun q e => by injection e with e; omega)
  replace o1 := o1.apart gg3 (fun q e => by injection e with e; omega)
  replace hB := hB.grown gg3 (by omega) (fun q e => by injection e with e; omega)
  have z_4 := gg3.size
  clear gg3
  obtain ⟨A, n, c, rfl, H, hnc, hm⟩ := o1.rd.form
  have hn9 : n ≤ 9 := by rw [H.out]; exact n1
  by_cases h0 : 0 ≤ x2
  rotate_left
  · have h0d : decide ((0 : Int) ≤ x2) = false := decide_eq_false h0
    go_wp2_with fail
    go_ret2
    rw [HG.out]
    exact ⟨_, l1, _, rfl, o1.mono (by omega) (by omega), hB⟩
  obtain ⟨j, rfl⟩ : ∃ j : Nat, x2 = j := ⟨x2.toNat, by omega⟩
  by_cases hj : j < n
  rotate_left
  · have hjd : decide ((j : Int) < (n : Int)) = false := decide_eq_false (by omega)
    go_wp2_with fail
    go_ret2
    rw [HG.out]
    exact ⟨_, l1, _, rfl, o1.mono (by omega) (by omega), hB⟩
  have hji : (j : Int) < (n : Int) := by omega
  go_wp2_with fail
  refine (one_any g _ _ l 2 w3 h (by omega) hg kk3 (by omega) (by omega)).mono ?_; rintro q_ w5 ⟨b3, rfl, gg5, kk5⟩
  clear kk3
  replace h := h.grown gg5 (by omega) (fun q e => by injection e with e; omega)
  replace o1 := o1.apart gg5 (fun q e => by injection e with e; omega)
  replace hB := hB.grown gg5 (by omega) (fun q e => by injection e with e; omega)
  have z_6 := gg5.size
  clear gg5
  cases b3
  · go_wp2_with fail
    go_ret2
    rw [HG.out]
    exact ⟨_, l1, _, rfl, o1.mono (by omega) (by omega), hB⟩
  obtain ⟨b, off, t, rfl, HT, hb1, hb2, f0, f1, f2, f3, f4⟩ := Iq.get o1.rd hj (Below.refl w5.heap.size w5) (by omega)
  have hfz := o1.frozen (by omega)
  have hbW : b < w5.heap.size := by omega
  clear H
  go_wp2_with fail
  generalize hwz : World.setCell (World.setCell (World.setCell (World.setCell (World.setCell _ _ _) _ _) _ _) _ _) _ _ = wz_
  obtain rfl : wz_ = setL w5 b (off + j * 5) [.bool true, .bool true, .bool t.active, .int .i64 t.prio, .int .i64 t.target] := hwz.symm
  clear hwz
  have oS := o1.upd Iq.cells_len (by omega) HT.out (t' := ⟨true, true, t.active, t.prio, t.target⟩) (Upd.of_setL (ys := [.bool true, .bool true, .bool t.active, .int .i64 t.prio, .int .i64 t.target]) 0 rfl rfl (by simp))
  have gS := setL_grown [.bool true, .bool true, .bool t.active, .int .i64 t.prio, .int .i64 t.target] w5 b (off + j * 5)
  have zS := setL_size [.bool true, .bool true, .bool t.active, .int .i64 t.prio, .int .i64 t.target] w5 b (off + j * 5)
  replace hB := hB.grown gS (by omega) (fun q e => by injection e with e; omega)
  generalize setL w5 b _ _ = w8 at *
  have bZ := (Below.refl w8.heap.size w8).alloc (Nat.le_refl _) (.cells #[.bool true, .bool true, .bool t.active, .int .i64 t.prio, .int .i64 t.target] 62)
  have zZ := bZ.size
  go_ret2
  rw [HG.out]
  exact ⟨_, _, _, rfl, (oS.below bZ (by omega)).mono (by omega) (by omega), hB.trans (bZ.mono (by omega))⟩
set_option maxRecDepth 8000 in
set_option maxHeartbeats 2000000 in
theorem DrawEndIrq_any (cv : Value) (l : List UInt8) (w : World) {lo hi : Nat} (h : Rd By.cells 1 w lo hi cv l) (hh : hi ≤ w.heap.size) :
    Calls Try.prog 42 #[cv] w fun e w' => ∃ v, ∃ ls : List Iq, ∃ x : Int, e = .returned (.tuple #[v, .int .i64 x]) ∧ Ow Iq.cells 5 62 w' w.heap.size w'.heap.size v ls ∧ Below w.heap.size w w' := by
  obtain ⟨Ac, nc, cc, rfl, _, _, _⟩ := h.form
  go_enter Try.func42, Try.ntmps42
  go_wp2_with fail
  have bx := Box.new w #[.slice Ac nc cc, .int .i64 0, .int .u64 0] 80 rfl
  have hB := (Below.refl w.heap.size w).alloc (Nat.le_refl _) (.cells #[.slice Ac nc cc, .int .i64 0, .int .u64 0] 80)
  have za : (w.alloc (.cells #[.slice Ac nc cc, .int .i64 0, .int .u64 0] 80)).heap.size = w.heap.size + 1 := by simp
  have hc : Cur (w.alloc (.cells #[.slice Ac nc cc, .int .i64 0, .int .u64 0] 80)) w.heap.size (.slice Ac nc cc) 0 := ⟨0, 0, Nat.le_refl _, Lib.hid (by unfold U64; omega), bx⟩
  have hg : w.heap.size < lo ∨ hi ≤ w.heap.size := .inr hh
  replace h := h.below hB hh
  clear bx
  generalize w.alloc _ = w0 at *
  generalize hgg : w.heap.size = g at *
  have HG := Lib.hid hgg
  clear hgg
  refine (irqs_any g _ _ l w0 h (by omega) hg hc (by omega)).mono ?_; rintro q_ w1 ⟨v1, l1, rfl, n1, o1, gg1, kk1⟩
  clear hc
  replace h := h.grown gg1 (by omega) (fun q e => by injection e with e; omega)
  replace hB := hB.grown gg1 (by omega) (fun q e => by injection e with e; omega)
  have z_2 := gg1.size
  clear gg1
  go_wp2_with fail
  refine (irq_any g _ _ l w1 h (by omega) hg kk1 (by omega)).mono ?_; rintro q_ w3 ⟨x2, rfl, gg3, kk3⟩
  clear kk1
  replace h := h.grown gg3 (by omega) (fun q e => by injection e with e; omega)
  replace o1 := o1.apart gg3 (fun q e => by injection e with e; omega)
  replace hB := hB.grown gg3 (by omega) (fun q e => by injection e with e; omega)
  have z_4 := gg3.size
  clear gg3
  obtain ⟨A, n, c, rfl, H, hnc, hm⟩ := o1.rd.form
  have hn9 : n ≤ 9 := by rw [H.out]; exact n1
  by_cases h0 : 0 ≤ x2
  rotate_left
  · have h0d : decide ((0 : Int) ≤ x2) = false := decide_eq_false h0
    go_wp2_with fail
    go_ret2
    rw [HG.out]
    exact ⟨_, l1, _, rfl, o1.mono (by omega) (by omega), hB⟩
  obtain ⟨j, rfl⟩ : ∃ j : Nat, x2 = j := ⟨x2.toNat, by omega⟩
  by_cases hj : j < n
  rotate_left
  · have hjd : decide ((j : Int) < (n : Int)) = false := decide_eq_false (by omega)
    go_wp2_with fail
    go_ret2
    rw [HG.out]
    exact ⟨_, l1, _, rfl, o1.mono (by omega) (by omega), hB⟩
  have hji : (j : Int) < (n : Int) := by omega
  go_wp2_with fail
  refine (one_any g _ _ l 2 w3 h (by omega) hg kk3 (by omega) (by omega)).mono ?_; rintro q_ w5 ⟨b3, rfl, gg5, kk5⟩
  clear kk3
  replace h := h.grown gg5 (by omega) (fun q e => by injection e with e; omega)
  replace o1 := o1.apart gg5 (fun q e => by injection e with e; omega)
  replace hB := hB.grown gg5 (by omega) (fun q e => by injection e with e; omega)
  have z_6 := gg5.size
  clear gg5
  cases b3
  · go_wp2_with fail
    go_ret2
    rw [HG.out]
    exact ⟨_, l1, _, rfl, o1.mono (by omega) (by omega), hB⟩
  obtain ⟨b, off, t, rfl, HT, hb1, hb2, f0, f1, f2, f3, f4⟩ := Iq.get o1.rd hj (Below.refl w5.heap.size w5) (by omega)
  have hfz := o1.frozen (by omega)
  have hbW : b < w5.heap.size := by omega
  clear H
  go_wp2_with fail
  generalize hwz : World.setCell (World.setCell (World.setCell (World.setCell (World.setCell _ _ _) _ _) _ _) _ _) _ _ = wz_
  obtain rfl : wz_ = setL w5 b (off + j * 5) [.bool t.enabled, .bool t.pending, .bool true, .int .i64 t.prio, .int .i64 t.target] := hwz.symm
  clear hwz
  have oS := o1.upd Iq.cells_len (by omega) HT.out (t' := ⟨t.enabled, t.pending, true, t.prio, t.target⟩) (Upd.of_setL (ys := [.bool t.enabled, .bool t.pending, .bool true, .int .i64 t.prio, .int .i64 t.target]) 0 rfl rfl (by simp))
  have gS := setL_grown [.bool t.enabled, .bool t.pending, .bool true, .int .i64 t.prio, .int .i64 t.target] w5 b (off + j * 5)
  have zS := setL_size [.bool t.enabled, .bool t.pending, .bool true, .int .i64 t.prio, .int .i64 t.target] w5 b (off + j * 5)
  replace hB := hB.grown gS (by omega) (fun q e => by injection e with e; omega)
  generalize setL w5 b _ _ = w8 at *
  have bZ := (Below.refl w8.heap.size w8).alloc (Nat.le_refl _) (.cells #[.bool t.enabled, .bool t.pending, .bool true, .int .i64 t.prio, .int .i64 t.target] 62)
  have zZ := bZ.size
  go_ret2
  rw [HG.out]
  exact ⟨_, _, _, rfl, (oS.below bZ (by omega)).mono (by omega) (by omega), hB.trans (bZ.mono (by omega))⟩
theorem DrawEnableIrq_any (cv : Value) (l : List UInt8) (w : World) {lo hi : Nat} (h : Rd By.cells 1 w lo hi cv l) (hh : hi ≤ w.heap.size) :
    Calls Try.prog 46 #[cv] w fun e w' => ∃ v, ∃ ls : List Iq, ∃ x : Int, ∃ p : Bool, e = .returned (.tuple #[v, .int .i64 x, .bool p]) ∧ Ow Iq.cells 5 62 w' w.heap.size w'.heap.size v ls ∧ Below w.heap.size w w' := by
  have c1 := DrawSetPending_any cv l w h hh
  go_enter Try.func46, Try.ntmps46
  go_wp2_with fail
  refine c1.mono ?_; rintro q_ w1 ⟨v1, l1, x0, x1, rfl, o1, b1⟩
  go_wp2_with fail
  go_ret3
  exact ⟨_, l1, _, _, rfl, o1, b1⟩
theorem DrawServeAll_any (cv : Value) (l : List UInt8) (w : World) {lo hi : Nat} (h : Rd By.cells 1 w lo hi cv l) (hh : hi ≤ w.heap.size) :
    Calls Try.prog 61 #[cv] w fun e w' => ∃ v, ∃ ls : List Iq, ∃ x : Int, e = .returned (.tuple #[v, .int .i64 x]) ∧ Ow Iq.cells 5 62 w' w.heap.size w'.heap.size v ls ∧ Below w.heap.size w w' := by
  have c1 := DrawReadyIrqs_any cv l w h hh
  go_enter Try.func61, Try.ntmps61
  go_wp2_with fail
  refine c1.mono ?_; rintro q_ w1 ⟨v1, l1, x0, rfl, o1, b1⟩
  go_wp2_with fail
  go_ret2
  exact ⟨_, l1, _, rfl, o1, b1⟩

end Go.Proofs.Ytgnalbfepkcokaa
