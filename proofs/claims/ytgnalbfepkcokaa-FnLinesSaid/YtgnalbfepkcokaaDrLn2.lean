/- The reference's Draw functions of the lines' laws: they return something, in new memory. No condition. -/
import Derived.Test.YtgnalbfepkcokaaDrLn
import Derived.Test.YtgnalbfepkcokaaTyBool
namespace Go.Proofs.Ytgnalbfepkcokaa
open Go.RowKit Go.ChangeShapes Go.WideShapes Go.Deep

set_option maxRecDepth 8000 in
set_option maxHeartbeats 2000000 in
theorem DrawAreLines_any (cv : Value) (l : List UInt8) (w : World) {lo hi : Nat} (h : Rd By.cells 1 w lo hi cv l) (hh : hi ≤ w.heap.size) :
    Calls Try.prog 91 #[cv] w fun e w' => ∃ v, ∃ ls : List Ln, e = .returned (v) ∧ Ow Ln.cells 4 25 w' w.heap.size w'.heap.size v ls ∧ Below w.heap.size w w' := by
  obtain ⟨Ac, nc, cc, rfl, _, _, _⟩ := h.form
  go_enter Try.func91, Try.ntmps91
  go_wp2_with fail
  have bx := Box.new w #[.slice Ac nc cc, .int .i64 0, .int .u64 0] 80 rfl
  have hB := (Below.refl w.heap.size w).alloc (Nat.le_refl _) (.cells #[.slice Ac nc cc, .int .i64 0, .int .u64 0] 80)
  have za : (w.alloc (.cells #[.slice Ac nc cc, .int .i64 0, .int .u64 0] 80)).heap.size = w.heap.size + 1 := by simp
  have hc : Cur (w.alloc (.cells #[.slice Ac nc cc, .int .i64 0, .int .u64 0] 80)) w.heap.size (.slice Ac nc cc) 0 := ⟨0, 0, Nat.le_refl _, Lib.hid (by unfold U64; omega), bx⟩
  have hg : w.heap.size < lo ∨ hi ≤ w.heap.size := .inr hh
  replace h := h.below hB hh
  clear bx
  generalize w.alloc _ = w0 at *
  generalize hgg : w.heap.size = g at *
  have HG := Lib.hid hgg
  clear hgg
  refine (lines7_any g _ _ l w0 h (by omega) hg hc (by omega)).mono ?_; rintro q_ w1 ⟨v1, l1, rfl, n1, o1, gg1, kk1⟩
  clear hc
  replace h := h.grown gg1 (by omega) (fun q e => by injection e with e; omega)
  replace hB := hB.grown gg1 (by omega) (fun q e => by injection e with e; omega)
  have z_2 := gg1.size
  clear gg1
  go_wp2_with fail
  go_ret
  rw [HG.out]
  exact ⟨_, l1, rfl, o1.mono (by omega) (by omega), hB⟩
set_option maxRecDepth 8000 in
set_option maxHeartbeats 2000000 in
theorem DrawTakeLines_any (cv : Value) (l : List UInt8) (w : World) {lo hi : Nat} (h : Rd By.cells 1 w lo hi cv l) (hh : hi ≤ w.heap.size) :
    Calls Try.prog 22 #[cv] w fun e w' => ∃ v, ∃ ls : List Ln, ∃ x : Int, e = .returned (.tuple #[v, .int .i64 x]) ∧ Ow Ln.cells 4 25 w' w.heap.size w'.heap.size v ls ∧ Below w.heap.size w w' := by
  obtain ⟨Ac, nc, cc, rfl, _, _, _⟩ := h.form
  go_enter Try.func22, Try.ntmps22
  go_wp2_with fail
  have bx := Box.new w #[.slice Ac nc cc, .int .i64 0, .int .u64 0] 80 rfl
  have hB := (Below.refl w.heap.size w).alloc (Nat.le_refl _) (.cells #[.slice Ac nc cc, .int .i64 0, .int .u64 0] 80)
  have za : (w.alloc (.cells #[.slice Ac nc cc, .int .i64 0, .int .u64 0] 80)).heap.size = w.heap.size + 1 := by simp
  have hc : Cur (w.alloc (.cells #[.slice Ac nc cc, .int .i64 0, .int .u64 0] 80)) w.heap.size (.slice Ac nc cc) 0 := ⟨0, 0, Nat.le_refl _, Lib.hid (by unfold U64; omega), bx⟩
  have hg : w.heap.size < lo ∨ hi ≤ w.heap.size := .inr hh
  replace h := h.below hB hh
  clear bx
  generalize w.alloc _ = w0 at *
  generalize hgg : w.heap.size = g at *
  have HG := Lib.hid hgg
  clear hgg
  refine (lines7_any g _ _ l w0 h (by omega) hg hc (by omega)).mono ?_; rintro q_ w1 ⟨v1, l1, rfl, n1, o1, gg1, kk1⟩
  clear hc
  replace h := h.grown gg1 (by omega) (fun q e => by injection e with e; omega)
  replace hB := hB.grown gg1 (by omega) (fun q e => by injection e with e; omega)
  have z_2 := gg1.size
  clear gg1
  go_wp2_with fail
  have rl := lit_ints w1 [0, 1, 2, 3, 7, -1, 8] #[.int .i64 0, .int .i64 1, .int .i64 2, .int .i64 3, .int .i64 7, .int .i64 (-1), .int .i64 8] 7 rfl rfl (by decide)
  have ga3 := grown_alloc w1 (.cells #[.int .i64 0, .int .i64 1, .int .i64 2, .int .i64 3, .int .i64 7, .int .i64 (-1), .int .i64 8] 3)
  have za3 : (w1.alloc (.cells #[.int .i64 0, .int .i64 1, .int .i64 2, .int .i64 3, .int .i64 7, .int .i64 (-1), .int .i64 8] 3)).heap.size = w1.heap.size + 1 := by simp
  replace kk1 := kk1.grown0 ga3
  replace h := h.grown ga3 (by omega) (fun q e => by cases e)
  replace o1 := o1.apart ga3 (fun q e => by cases e)
  replace hB := hB.grown ga3 (by omega) (fun q e => by cases e)
  have z_4 := ga3.size
  clear ga3
  generalize w1.alloc _ = w3 at *
  generalize hgz4 : w1.heap.size = gz4 at *
  clear hgz4
  refine (pick_any g _ _ l 24 w3 h (by omega) hg kk1 (by omega) (by omega)).mono ?_; rintro q_ w5 ⟨x2, rfl, x2_0, x2_1, gg5, kk5⟩
  clear kk1
  replace h := h.grown gg5 (by omega) (fun q e => by injection e with e; omega)
  replace rl := rl.grown gg5 (by omega) (fun q e => by injection e with e; omega)
  replace o1 := o1.apart gg5 (fun q e => by injection e with e; omega)
  replace hB := hB.grown gg5 (by omega) (fun q e => by injection e with e; omega)
  have z_6 := gg5.size
  clear gg5
  go_wp2_with fail
  have hk5 : (5 + x2 / 11).toNat ≤ 7 := by omega
  have hk6 : 0 < (5 + x2 / 11).toNat := by omega
  replace rl := rl.take_ hk5
  refine (among_any g _ _ _ l _ w5 h (by omega) hg rl (by omega) (by omega) (by simp; omega) (by simp; omega) kk5 (by omega)).mono ?_; rintro q_ w7 ⟨x3, rfl, gg7, kk7⟩
  clear kk5
  replace h := h.grown gg7 (by omega) (fun q e => by injection e with e; omega)
  replace rl := rl.grown gg7 (by omega) (fun q e => by injection e with e; omega)
  replace o1 := o1.apart gg7 (fun q e => by injection e with e; omega)
  replace hB := hB.grown gg7 (by omega) (fun q e => by injection e with e; omega)
  have z_8 := gg7.size
  clear gg7
  go_wp2_with fail
  go_ret2
  rw [HG.out]
  exact ⟨_, l1, _, rfl, o1.mono (by omega) (by omega), hB⟩
set_option maxRecDepth 8000 in
set_option maxHeartbeats 2000000 in
theorem DrawPulseLine_any (cv : Value) (l : List UInt8) (w : World) {lo hi : Nat} (h : Rd By.cells 1 w lo hi cv l) (hh : hi ≤ w.heap.size) :
    Calls Try.prog 19 #[cv] w fun e w' => ∃ v, ∃ ls : List Ln, ∃ x y : Int, e = .returned (.tuple #[v, .int .i64 x, .int .i64 y]) ∧ Ow Ln.cells 4 25 w' w.heap.size w'.heap.size v ls ∧ Below w.heap.size w w' := by
  obtain ⟨Ac, nc, cc, rfl, _, _, _⟩ := h.form
  go_enter Try.func19, Try.ntmps19
  go_wp2_with fail
  have bx := Box.new w #[.slice Ac nc cc, .int .i64 0, .int .u64 0] 80 rfl
  have hB := (Below.refl w.heap.size w).alloc (Nat.le_refl _) (.cells #[.slice Ac nc cc, .int .i64 0, .int .u64 0] 80)
  have za : (w.alloc (.cells #[.slice Ac nc cc, .int .i64 0, .int .u64 0] 80)).heap.size = w.heap.size + 1 := by simp
  have hc : Cur (w.alloc (.cells #[.slice Ac nc cc, .int .i64 0, .int .u64 0] 80)) w.heap.size (.slice Ac nc cc) 0 := ⟨0, 0, Nat.le_refl _, Lib.hid (by unfold U64; omega), bx⟩
  have hg : w.heap.size < lo ∨ hi ≤ w.heap.size := .inr hh
  replace h := h.below hB hh
  clear bx
  generalize w.alloc _ = w0 at *
  generalize hgg : w.heap.size = g at *
  have HG := Lib.hid hgg
  clear hgg
  refine (lines7_any g _ _ l w0 h (by omega) hg hc (by omega)).mono ?_; rintro q_ w1 ⟨v1, l1, rfl, n1, o1, gg1, kk1⟩
  clear hc
  replace h := h.grown gg1 (by omega) (fun q e => by injection e with e; omega)
  replace hB := hB.grown gg1 (by omega) (fun q e => by injection e with e; omega)
  have z_2 := gg1.size
  clear gg1
  obtain ⟨A, n, c, rfl, H, hnc, hm⟩ := o1.rd.form
  have hn10 : n ≤ 10 := by rw [H.out]; exact n1
  go_wp2_with fail
  refine (pick_any g _ _ l ((n : Int) + 1) w1 h (by omega) hg kk1 (by omega) (by omega)).mono ?_; rintro q_ w3 ⟨x2, rfl, x2_0, x2_1, gg3, kk3⟩
  clear kk1
  replace h := h.grown gg3 (by omega) (fun q e => by injection e with e; omega)
  replace o1 := o1.apart gg3 (fun q e => by injection e with e; omega)
  replace hB := hB.grown gg3 (by omega) (fun q e => by injection e with e; omega)
  have z_4 := gg3.size
  clear gg3
  go_wp2_with fail
  refine (pick_any g _ _ l 20 w3 h (by omega) hg kk3 (by omega) (by omega)).mono ?_; rintro q_ w5 ⟨x3, rfl, x3_0, x3_1, gg5, kk5⟩
  clear kk3
  replace h := h.grown gg5 (by omega) (fun q e => by injection e with e; omega)
  replace o1 := o1.apart gg5 (fun q e => by injection e with e; omega)
  replace hB := hB.grown gg5 (by omega) (fun q e => by injection e with e; omega)
  have z_6 := gg5.size
  clear gg5
  go_wp2_with fail
  have rl := lit_ints w5 [0, 1, 2, 100, -1, 101] #[.int .i64 0, .int .i64 1, .int .i64 2, .int .i64 100, .int .i64 (-1), .int .i64 101] 6 rfl rfl (by decide)
  have ga7 := grown_alloc w5 (.cells #[.int .i64 0, .int .i64 1, .int .i64 2, .int .i64 100, .int .i64 (-1), .int .i64 101] 3)
  have za7 : (w5.alloc (.cells #[.int .i64 0, .int .i64 1, .int .i64 2, .int .i64 100, .int .i64 (-1), .int .i64 101] 3)).heap.size = w5.heap.size + 1 := by simp
  replace kk5 := kk5.grown0 ga7
  replace h := h.grown ga7 (by omega) (fun q e => by cases e)
  replace o1 := o1.apart ga7 (fun q e => by cases e)
  replace hB := hB.grown ga7 (by omega) (fun q e => by cases e)
  have z_8 := ga7.size
  clear ga7
  generalize w5.alloc _ = w7 at *
  generalize hgz8 : w5.heap.size = gz8 at *
  clear hgz8
  refine (pick_any g _ _ l 24 w7 h (by omega) hg kk5 (by omega) (by omega)).mono ?_; rintro q_ w9 ⟨x4, rfl, x4_0, x4_1, gg9, kk9⟩
  clear kk5
  replace h := h.grown gg9 (by omega) (fun q e => by injection e with e; omega)
  replace rl := rl.grown gg9 (by omega) (fun q e => by injection e with e; omega)
  replace o1 := o1.apart gg9 (fun q e => by injection e with e; omega)
  replace hB := hB.grown gg9 (by omega) (fun q e => by injection e with e; omega)
  have z_10 := gg9.size
  clear gg9
  go_wp2_with fail
  have hk5 : (4 + x4 / 11).toNat ≤ 6 := by omega
  have hk6 : 0 < (4 + x4 / 11).toNat := by omega
  replace rl := rl.take_ hk5
  refine (among_any g _ _ _ l _ w9 h (by omega) hg rl (by omega) (by omega) (by simp; omega) (by simp; omega) kk9 (by omega)).mono ?_; rintro q_ w11 ⟨x5, rfl, gg11, kk11⟩
  clear kk9
  replace h := h.grown gg11 (by omega) (fun q e => by injection e with e; omega)
  replace rl := rl.grown gg11 (by omega) (fun q e => by injection e with e; omega)
  replace o1 := o1.apart gg11 (fun q e => by injection e with e; omega)
  replace hB := hB.grown gg11 (by omega) (fun q e => by injection e with e; omega)
  have z_12 := gg11.size
  clear gg11
  go_wp2_with fail
  go_ret3
  rw [HG.out]
  exact ⟨_, l1, _, _, rfl, o1.mono (by omega) (by omega), hB⟩
theorem DrawMixedIrqs_any (cv : Value) (l : List UInt8) (w : World) {lo hi : Nat} (h : Rd By.cells 1 w lo hi cv l) (hh : hi ≤ w.heap.size) :
    Calls Try.prog 30 #[cv] w fun e w' => ∃ v, ∃ ls : List Ln, e = .returned v ∧ Ow Ln.cells 4 25 w' w.heap.size w'.heap.size v ls ∧ Below w.heap.size w w' := by
  have c1 := DrawAreLines_any cv l w h hh
  go_enter Try.func30, Try.ntmps30
  go_wp2_with fail
  refine c1.mono ?_; rintro q_ w1 ⟨v1, l1, rfl, o1, b1⟩
  go_wp2_with fail
  go_ret
  exact ⟨_, l1, rfl, o1, b1⟩

end Go.Proofs.Ytgnalbfepkcokaa
