/- The reference's Draw functions of the slots' laws: they return something, in new memory. No condition. -/
import Derived.Test.YtaggjadgbmmjoaaDrSl
namespace Go.Proofs.Ytaggjadgbmmjoaa
open Go.RowKit Go.ChangeShapes Go.WideShapes Go.Deep

set_option maxRecDepth 8000 in
set_option maxHeartbeats 4000000 in
theorem DrawAreSlots_any (cv : Value) (l : List UInt8) (w : World) {lo hi : Nat} (h : Rd By.cells 1 w lo hi cv l) (hh : hi ≤ w.heap.size) :
    Calls Try.prog 35 #[cv] w fun e w' => ∃ v, ∃ ls : List Sl, e = .returned (v) ∧ Ow Sl.cells 3 33 w' w.heap.size w'.heap.size v ls ∧ Below w.heap.size w w' := by
  obtain ⟨Ac, nc, cc, rfl, _, _, _⟩ := h.form
  go_enter Try.func35, Try.ntmps35
  go_wp2_with fail
  have bx := Box.new w #[.slice Ac nc cc, .int .i64 0, .int .u64 0] 46 rfl
  have hB := (Below.refl w.heap.size w).alloc (Nat.le_refl _) (.cells #[.slice Ac nc cc, .int .i64 0, .int .u64 0] 46)
  have za : (w.alloc (.cells #[.slice Ac nc cc, .int .i64 0, .int .u64 0] 46)).heap.size = w.heap.size + 1 := by simp
  have hc : Cur (w.alloc (.cells #[.slice Ac nc cc, .int .i64 0, .int .u64 0] 46)) w.heap.size (.slice Ac nc cc) 0 := ⟨0, 0, Nat.le_refl _, Lib.hid (by unfold U64; omega), bx⟩
  have hg : w.heap.size < lo ∨ hi ≤ w.heap.size := .inr hh
  replace h := h.below hB hh
  clear bx
  generalize w.alloc _ = w0 at *
  generalize hgg : w.heap.size = g at *
  have HG := Lib.hid hgg
  clear hgg
  refine (slots_any g _ _ l w0 h (by omega) hg hc (by omega)).mono ?_; rintro q_ w1 ⟨v1, l1, rfl, n1, d1, o1, gg1, kk1⟩
  clear hc
  replace h := h.grown gg1 (by omega) (fun q e => by injection e with e; omega)
  replace hB := hB.grown gg1 (by omega) (fun q e => by injection e with e; omega)
  have z_2 := gg1.size
  clear gg1
  go_wp2_with fail
  go_ret
  rw [HG.out]
  exact ⟨_, l1, rfl, o1.mono (by omega) (by omega), hB⟩
theorem DrawEmptySlots_any (cv : Value) (l : List UInt8) (w : World) {lo hi : Nat} (h : Rd By.cells 1 w lo hi cv l) (hh : hi ≤ w.heap.size) :
    Calls Try.prog 15 #[cv] w fun e w' => ∃ v, ∃ ls : List Sl, e = .returned v ∧ Ow Sl.cells 3 33 w' w.heap.size w'.heap.size v ls ∧ Below w.heap.size w w' := by
  have c1 := DrawAreSlots_any cv l w h hh
  go_enter Try.func15, Try.ntmps15
  go_wp2_with fail
  refine c1.mono ?_; rintro q_ w1 ⟨v1, l1, rfl, o1, b1⟩
  go_wp2_with fail
  go_ret
  exact ⟨_, l1, rfl, o1, b1⟩
theorem DrawEvictSlot_any (cv : Value) (l : List UInt8) (w : World) {lo hi : Nat} (h : Rd By.cells 1 w lo hi cv l) (hh : hi ≤ w.heap.size) :
    Calls Try.prog 10 #[cv] w fun e w' => ∃ v, ∃ ls : List Sl, e = .returned v ∧ Ow Sl.cells 3 33 w' w.heap.size w'.heap.size v ls ∧ Below w.heap.size w w' := by
  have c1 := DrawAreSlots_any cv l w h hh
  go_enter Try.func10, Try.ntmps10
  go_wp2_with fail
  refine c1.mono ?_; rintro q_ w1 ⟨v1, l1, rfl, o1, b1⟩
  go_wp2_with fail
  go_ret
  exact ⟨_, l1, rfl, o1, b1⟩
theorem DrawActiveIrqs_any (cv : Value) (l : List UInt8) (w : World) {lo hi : Nat} (h : Rd By.cells 1 w lo hi cv l) (hh : hi ≤ w.heap.size) :
    Calls Try.prog 17 #[cv] w fun e w' => ∃ v, ∃ ls : List Sl, e = .returned v ∧ Ow Sl.cells 3 33 w' w.heap.size w'.heap.size v ls ∧ Below w.heap.size w w' := by
  have c1 := DrawAreSlots_any cv l w h hh
  go_enter Try.func17, Try.ntmps17
  go_wp2_with fail
  refine c1.mono ?_; rintro q_ w1 ⟨v1, l1, rfl, o1, b1⟩
  go_wp2_with fail
  go_ret
  exact ⟨_, l1, rfl, o1, b1⟩
set_option maxRecDepth 8000 in
set_option maxHeartbeats 4000000 in
theorem DrawEndSlot_any (cv : Value) (l : List UInt8) (w : World) {lo hi : Nat} (h : Rd By.cells 1 w lo hi cv l) (hh : hi ≤ w.heap.size) :
    Calls Try.prog 5 #[cv] w fun e w' => ∃ v, ∃ ls : List Sl, ∃ x : Int, e = .returned (.tuple #[v, .int .i64 x]) ∧ Ow Sl.cells 3 33 w' w.heap.size w'.heap.size v ls ∧ Below w.heap.size w w' := by
  obtain ⟨Ac, nc, cc, rfl, _, _, _⟩ := h.form
  go_enter Try.func5, Try.ntmps5
  go_wp2_with fail
  have bx := Box.new w #[.slice Ac nc cc, .int .i64 0, .int .u64 0] 46 rfl
  have hB := (Below.refl w.heap.size w).alloc (Nat.le_refl _) (.cells #[.slice Ac nc cc, .int .i64 0, .int .u64 0] 46)
  have za : (w.alloc (.cells #[.slice Ac nc cc, .int .i64 0, .int .u64 0] 46)).heap.size = w.heap.size + 1 := by simp
  have hc : Cur (w.alloc (.cells #[.slice Ac nc cc, .int .i64 0, .int .u64 0] 46)) w.heap.size (.slice Ac nc cc) 0 := ⟨0, 0, Nat.le_refl _, Lib.hid (by unfold U64; omega), bx⟩
  have hg : w.heap.size < lo ∨ hi ≤ w.heap.size := .inr hh
  replace h := h.below hB hh
  clear bx
  generalize w.alloc _ = w0 at *
  generalize hgg : w.heap.size = g at *
  have HG := Lib.hid hgg
  clear hgg
  refine (slots_any g _ _ l w0 h (by omega) hg hc (by omega)).mono ?_; rintro q_ w1 ⟨v1, l1, rfl, n1, d1, o1, gg1, kk1⟩
  clear hc
  replace h := h.grown gg1 (by omega) (fun q e => by injection e with e; omega)
  replace hB := hB.grown gg1 (by omega) (fun q e => by injection e with e; omega)
  have z_2 := gg1.size
  clear gg1
  go_wp2_with fail
  refine (l8Active_dis _ l1 w1 o1.rd (by omega) d1 (by omega)).mono ?_; rintro q_ w3 ⟨v3, rfl, r3, bb3⟩
  have gb3 := grown_below bb3
  clear bb3
  replace kk1 := kk1.grown0 gb3
  replace h := h.grown gb3 (by omega) (fun q e => by cases e)
  replace o1 := o1.apart gb3 (fun q e => by cases e)
  replace hB := hB.grown gb3 (by omega) (fun q e => by cases e)
  have z_4 := gb3.size
  clear gb3
  obtain ⟨A3, n3, c3, rfl, H3, hnc3, hm3⟩ := r3.form
  have hn3 : n3 ≤ 5 := by have := accL_len Sl.isAct Sl.irq l1; rw [H3.out]; unfold Sl.active; omega
  clear H3
  rcases Nat.eq_zero_or_pos n3 with hn30 | hn30
  · subst hn30
    go_wp2_with fail
    refine (irq_any g _ _ l w3 h (by omega) hg kk1 (by omega)).mono ?_; rintro q_ w5 ⟨x4, rfl, gg5, kk5⟩
    clear kk1
    replace h := h.grown gg5 (by omega) (fun q e => by injection e with e; omega)
    replace r3 := r3.grown gg5 (by omega) (fun q e => by injection e with e; omega)
    replace o1 := o1.apart gg5 (fun q e => by injection e with e; omega)
    replace hB := hB.grown gg5 (by omega) (fun q e => by injection e with e; omega)
    have z_6 := gg5.size
    clear gg5
    go_wp2_with fail
    go_ret2
    rw [HG.out]
    exact ⟨_, l1, _, rfl, o1.mono (by omega) (by omega), hB⟩
  · have hnd : decide ((0 : Int) < (n3 : Int)) = true := decide_eq_true (by omega)
    go_wp2_with fail
    refine (one_any g _ _ l 2 w3 h (by omega) hg kk1 (by omega) (by omega)).mono ?_; rintro q_ w5 ⟨x4, rfl, gg5, kk5⟩
    clear kk1
    replace h := h.grown gg5 (by omega) (fun q e => by injection e with e; omega)
    replace r3 := r3.grown gg5 (by omega) (fun q e => by injection e with e; omega)
    replace o1 := o1.apart gg5 (fun q e => by injection e with e; omega)
    replace hB := hB.grown gg5 (by omega) (fun q e => by injection e with e; omega)
    have z_6 := gg5.size
    clear gg5
    cases x4
    · go_wp2_with fail
      refine (irq_any g _ _ l w5 h (by omega) hg kk5 (by omega)).mono ?_; rintro q_ w7 ⟨x5, rfl, gg7, kk7⟩
      clear kk5
      replace h := h.grown gg7 (by omega) (fun q e => by injection e with e; omega)
      replace r3 := r3.grown gg7 (by omega) (fun q e => by injection e with e; omega)
      replace o1 := o1.apart gg7 (fun q e => by injection e with e; omega)
      replace hB := hB.grown gg7 (by omega) (fun q e => by injection e with e; omega)
      have z_8 := gg7.size
      clear gg7
      go_wp2_with fail
      go_ret2
      rw [HG.out]
      exact ⟨_, l1, _, rfl, o1.mono (by omega) (by omega), hB⟩
    · go_wp2_with fail
      obtain ⟨b3, off3, y3, rfl, _, hb31, hb32, _⟩ := Nm.get r3 hn30 (Below.refl w5.heap.size w5) (by omega)
      have hcell : ∀ j : Nat, j < n3 → ∃ y : Int, w5.drew.cell? ⟨b3, off3 + j, none⟩ = some (.int .i64 y) := fun j hj => by
        obtain ⟨b4, off4, y, hAA, _, _, _, f0⟩ := Nm.get r3 hj ((Below.refl w5.heap.size w5).drew) (by omega)
        injection hAA with hAA
        injection hAA with e1 e2
        subst e1; subst e2
        exact ⟨y, f0⟩
      have HCell := Lib.hid hcell
      clear hcell
      have gd := grown_below (Below.refl w5.heap.size w5).drew
      replace kk5 := kk5.grown0 gd
      replace h := h.grown gd (by omega) (fun q e => by cases e)
      replace hB := hB.grown gd (by omega) (fun q e => by cases e)
      replace o1 := o1.apart gd (fun q e => by cases e)
      have zd := gd.size
      clear gd
      have cK := pick_any g _ _ l ((n3 : Int)) w5.drew h (by omega) hg kk5 (by omega) (by omega)
      go_region_with (go_at_call 26; refine cK.mono ?_; rintro q_ wK ⟨xK, rfl, xK0, xK1, ggK, kkK⟩; (obtain ⟨jK, rfl⟩ : ∃ j : Nat, xK = j := ⟨xK.toNat, by omega⟩); (have hjK : jK < n3 := by omega); (have hjKi : (jK : Int) < (n3 : Int) := by omega); (obtain ⟨yK, fK⟩ := HCell.out jK hjK); (replace fK := ggK.cell (a := ⟨b3, off3 + jK, none⟩) fK (by intro e; injection e with e; simp at e; omega)); (clear xK0 xK1))
      all_goals
        replace o1 := o1.apart ggK (fun q e => by injection e with e; omega)
        replace hB := hB.grown ggK (by omega) (fun q e => by injection e with e; omega)
        have zK := ggK.size
        go_wp2_with fail
        go_ret2
        rw [HG.out]
        exact ⟨_, l1, _, rfl, o1.mono (by omega) (by omega), hB⟩
theorem DrawFindSlot_any (cv : Value) (l : List UInt8) (w : World) {lo hi : Nat} (h : Rd By.cells 1 w lo hi cv l) (hh : hi ≤ w.heap.size) :
    Calls Try.prog 21 #[cv] w fun e w' => ∃ v, ∃ ls : List Sl, ∃ x : Int, e = .returned (.tuple #[v, .int .i64 x]) ∧ Ow Sl.cells 3 33 w' w.heap.size w'.heap.size v ls ∧ Below w.heap.size w w' := by
  have c1 := DrawEndSlot_any cv l w h hh
  go_enter Try.func21, Try.ntmps21
  go_wp2_with fail
  refine c1.mono ?_; rintro q_ w1 ⟨v1, l1, x1, rfl, o1, b1⟩
  go_wp2_with fail
  go_ret2
  exact ⟨_, l1, _, rfl, o1, b1⟩

end Go.Proofs.Ytaggjadgbmmjoaa
