/- Whether slots and waiting interrupts are those of a queue, in the program. No condition. -/
import Derived.Test.YtengaccnncnipaaGreatQu
import Derived.BigQuiet
import Derived.Deep.QuietTactic
namespace Go.Proofs.YtengaccnncnipaaGreat
open Go.RowKit Go.ChangeShapes Go.WideShapes Go.Deep

theorem findIx_neg {α : Type} (p : α → Bool) (l : List α) : decide (findIx p l < 0) = !l.any p := by
  have := findIx_nonneg p l
  rw [← this]
  by_cases h : 0 ≤ findIx p l <;> simp [h] <;> omega

set_option maxHeartbeats 8000000 in
theorem areParts_any (vs vw : Value) (ls : List Sl) (lw : List Wt) (w : World) {lo hi lo2 hi2 : Nat} (h : Rd Sl.cells 3 w lo hi vs ls) (h2 : Rd Wt.cells 2 w lo2 hi2 vw lw) (hh : hi ≤ w.heap.size) (hh2 : hi2 ≤ w.heap.size) :
    Calls Tryz.prog 124 #[vs, vw] w fun e w' => e = .returned (.bool (Qu.parts ls lw)) ∧ Below w.heap.size w w' := by
  have c0 := implAreSlots_any vs ls w h hh
  have hs := h
  have hw := h2
  obtain ⟨A0, n0, d0, rfl, H0, hd0, hm0⟩ := h.form
  obtain ⟨A, n, c, rfl, H, hc, hm⟩ := h2.form
  clear h h2
  cases hg : Sl.good ls
  · have HF := Lib.hid (show Qu.parts ls lw = false from by simp [Qu.parts, hg])
    rw [hg] at c0
    clear hg
    go_enter Tryz.func124, Tryz.ntmps124
    go_wp2_with fail
    refine c0.mono ?_; rintro q_ w1 ⟨rfl, b1⟩
    go_wp2_with fail
    go_ret
    exact ⟨ret_bool HF.out.symm, b1⟩
  · have HG := Lib.hid hg
    rw [hg] at c0
    clear hg
    have c1 := fun x W => isIrq_any x W
    have c2 := fun x W => isPriority_any x W
    go_enter Tryz.func124, Tryz.ntmps124
    go_wp2_with fail
    refine c0.mono ?_; rintro q_ w1 ⟨rfl, b1⟩
    go_wp2_with fail
    go_loopw [12] (fun i wr => ∃ k : Nat, k ≤ n ∧ i = .int .i64 k ∧ Below w.heap.size w wr ∧ Wt.upTo ls lw k = true) (fun i _ => n - (intOf i).toNat)
    case atStart => exact ⟨0, Nat.zero_le _, rfl, b1, rfl⟩
    case round =>
      clear b1 c0
      obtain ⟨k, hk, rfl, hb, he⟩ := hrel
      have HE := Lib.hid he
      clear he
      have hbs := hb.size
      by_cases hlt : k < n
      · obtain ⟨b, off, s, rfl, ht, _, hbl, f0, f1⟩ := Wt.get hw hlt hb hh2
        have hb2 := hb.alloc hb.size (.cells #[.int .i64 s.irq, .int .i64 s.prio] 134)
        have HN := Lib.hid (fun hq => Qu.parts_no (ls := ls) (k := k) (w := s) (by rw [← H.out]; exact hlt) ht.out hq)
        have HY := Lib.hid (fun (hq : Wt.okAt ls lw k s = true) => show Wt.upTo ls lw (k + 1) = true from by rw [Wt.upTo_succ ht.out, HE.out, hq]; rfl)
        have hbw : b < wr.heap.size := by omega
        have c1 := c1 s.irq
        have c2 := c2 s.prio
        have hkn : k ≤ n := by omega
        have hkc : k ≤ c := by omega
        cases h1 : inB s.irq 0 7
        · have HF := Lib.hid (HN.out (by simp [Wt.okAt, h1]))
          rw [h1] at c1
          clear h1 HN HY c2
          go_wp2_with fail
          have k0 : (wr.alloc (.cells #[.int .i64 s.irq, .int .i64 s.prio] 134)).cell? ⟨wr.heap.size, 0, none⟩ = some (.int .i64 s.irq) := by simp
          have k1 : (wr.alloc (.cells #[.int .i64 s.irq, .int .i64 s.prio] 134)).cell? ⟨wr.heap.size, 1, none⟩ = some (.int .i64 s.prio) := by simp
          clear f0 f1
          have hs2 := hs.below hb2 hh
          have hw2 := hw.below hb2 hh2
          have hz1 := Nat.le_trans hh hb2.size
          have hz2 := Nat.le_trans hh2 hb2.size
          generalize wr.alloc _ = w2 at hb2 k0 k1 hs2 hw2 hz1 hz2 ⊢
          have e0 := cell_ext k0; have e1 := cell_ext k1
          refine wp_region_ext_all (by kernel_rfl) (by kernel_rfl) ?_
          repeat (go_big_quiet_step ((go_at_call 69; exact calls_ext0 (c1 _))))
          refine wpQuiet_nil ?_
          intro w3 b3
          clear e0 e1
          have hb3 := hb2.trans (b3.mono hb2.size)
          go_wp2_with fail
          go_ret
          exact ⟨ret_bool HF.out.symm, hb3⟩
        · cases h2 : inB s.prio 0 15
          · have HF := Lib.hid (HN.out (by simp [Wt.okAt, h2]))
            rw [h1] at c1
            rw [h2] at c2
            clear h1 h2 HN HY
            go_wp2_with fail
            have k0 : (wr.alloc (.cells #[.int .i64 s.irq, .int .i64 s.prio] 134)).cell? ⟨wr.heap.size, 0, none⟩ = some (.int .i64 s.irq) := by simp
            have k1 : (wr.alloc (.cells #[.int .i64 s.irq, .int .i64 s.prio] 134)).cell? ⟨wr.heap.size, 1, none⟩ = some (.int .i64 s.prio) := by simp
            clear f0 f1
            have hs2 := hs.below hb2 hh
            have hw2 := hw.below hb2 hh2
            have hz1 := Nat.le_trans hh hb2.size
            have hz2 := Nat.le_trans hh2 hb2.size
            generalize wr.alloc _ = w2 at hb2 k0 k1 hs2 hw2 hz1 hz2 ⊢
            have e0 := cell_ext k0; have e1 := cell_ext k1
            refine wp_region_ext_all (by kernel_rfl) (by kernel_rfl) ?_
            repeat (go_big_quiet_step (first | (go_at_call 69; exact calls_ext0 (c1 _)) | (go_at_call 70; exact calls_ext0 (c2 _))))
            refine wpQuiet_nil ?_
            intro w3 b3
            clear e0 e1
            have hb3 := hb2.trans (b3.mono hb2.size)
            go_wp2_with fail
            go_ret
            exact ⟨ret_bool HF.out.symm, hb3⟩
          · cases h3 : decide (Sl.ix ls s.irq < 0)
            · have HF := Lib.hid (HN.out (by simp [Wt.okAt, h3]))
              have hz0 : decide ((0 : Int) ≤ Sl.ix ls s.irq) = true := decide_eq_true (by have := of_decide_eq_false h3; omega)
              rw [h1] at c1
              rw [h2] at c2
              clear h1 h2 h3 HN HY
              go_wp2_with fail
              have k0 : (wr.alloc (.cells #[.int .i64 s.irq, .int .i64 s.prio] 134)).cell? ⟨wr.heap.size, 0, none⟩ = some (.int .i64 s.irq) := by simp
              have k1 : (wr.alloc (.cells #[.int .i64 s.irq, .int .i64 s.prio] 134)).cell? ⟨wr.heap.size, 1, none⟩ = some (.int .i64 s.prio) := by simp
              clear f0 f1
              have hs2 := hs.below hb2 hh
              have hw2 := hw.below hb2 hh2
              have hz1 := Nat.le_trans hh hb2.size
              have hz2 := Nat.le_trans hh2 hb2.size
              generalize wr.alloc _ = w2 at hb2 k0 k1 hs2 hw2 hz1 hz2 ⊢
              have e0 := cell_ext k0; have e1 := cell_ext k1
              have c4 := fun p => implFind_b _ _ s.irq (ext w2 p) (hs2.below (below_ext w2 p) hz1) (Nat.le_trans hz1 (below_ext w2 p).size)
              generalize Sl.ix ls s.irq = z at c4 hz0
              refine wp_region_ext_all (by kernel_rfl) (by kernel_rfl) ?_
              repeat (go_big_quiet_step (first | (go_at_call 69; exact calls_ext0 (c1 _)) | (go_at_call 70; exact calls_ext0 (c2 _)) | (go_at_call 129; exact calls_ext (c4 _))))
              refine wpQuiet_nil ?_
              intro w3 b3
              clear e0 e1
              have hb3 := hb2.trans (b3.mono hb2.size)
              go_wp2_with fail
              go_ret
              exact ⟨ret_bool HF.out.symm, hb3⟩
            · have hz0 : decide ((0 : Int) ≤ Sl.ix ls s.irq) = false := decide_eq_false (by have := of_decide_eq_true h3; omega)
              cases h4 : (lw.take k).any (Wt.isI s.irq)
              rotate_left
              · have HF := Lib.hid (HN.out (by simp only [Wt.okAt, h4]; simp))
                have hy0 : decide ((0 : Int) ≤ findIx (Wt.isI s.irq) (lw.take k)) = true := by rw [findIx_nonneg, h4]
                rw [h1] at c1
                rw [h2] at c2
                clear h1 h2 h3 h4 HN HY
                go_wp2_with fail
                have k0 : (wr.alloc (.cells #[.int .i64 s.irq, .int .i64 s.prio] 134)).cell? ⟨wr.heap.size, 0, none⟩ = some (.int .i64 s.irq) := by simp
                have k1 : (wr.alloc (.cells #[.int .i64 s.irq, .int .i64 s.prio] 134)).cell? ⟨wr.heap.size, 1, none⟩ = some (.int .i64 s.prio) := by simp
                clear f0 f1
                have hs2 := hs.below hb2 hh
                have hw2 := hw.below hb2 hh2
                have hz1 := Nat.le_trans hh hb2.size
                have hz2 := Nat.le_trans hh2 hb2.size
                generalize wr.alloc _ = w2 at hb2 k0 k1 hs2 hw2 hz1 hz2 ⊢
                have e0 := cell_ext k0; have e1 := cell_ext k1
                have c4 := fun p => implFind_b _ _ s.irq (ext w2 p) (hs2.below (below_ext w2 p) hz1) (Nat.le_trans hz1 (below_ext w2 p).size)
                have c5 := fun p => waiterIndex_any _ _ s.irq (ext w2 p) ((hw2.take_ hkn).below (below_ext w2 p) hz2) (Nat.le_trans hz2 (below_ext w2 p).size)
                generalize Sl.ix ls s.irq = z at c4 hz0
                generalize findIx (Wt.isI s.irq) (lw.take k) = y at c5 hy0
                refine wp_region_ext_all (by kernel_rfl) (by kernel_rfl) ?_
                repeat (go_big_quiet_step (first | (go_at_call 69; exact calls_ext0 (c1 _)) | (go_at_call 70; exact calls_ext0 (c2 _)) | (go_at_call 129; exact calls_ext (c4 _)) | (go_at_call 150; exact calls_ext (c5 _))))
                refine wpQuiet_nil ?_
                intro w3 b3
                clear e0 e1
                have hb3 := hb2.trans (b3.mono hb2.size)
                go_wp2_with fail
                go_ret
                exact ⟨ret_bool HF.out.symm, hb3⟩
              · have hy0 : decide ((0 : Int) ≤ findIx (Wt.isI s.irq) (lw.take k)) = false := by rw [findIx_nonneg, h4]
                by_cases hk0 : k = 0
                · have HF := Lib.hid (HY.out (by subst hk0; simp only [Wt.okAt, h1, h2, h3, h4]; rfl))
                  have hd : decide ((0 : Int) < (k : Int)) = false := by subst hk0; simp
                  have hd' : decide (0 < k) = false := by subst hk0; simp
                  rw [h1] at c1
                  rw [h2] at c2
                  clear h1 h2 h3 h4 HN HY hk0
                  go_wp2_with fail
                  have k0 : (wr.alloc (.cells #[.int .i64 s.irq, .int .i64 s.prio] 134)).cell? ⟨wr.heap.size, 0, none⟩ = some (.int .i64 s.irq) := by simp
                  have k1 : (wr.alloc (.cells #[.int .i64 s.irq, .int .i64 s.prio] 134)).cell? ⟨wr.heap.size, 1, none⟩ = some (.int .i64 s.prio) := by simp
                  clear f0 f1
                  have hs2 := hs.below hb2 hh
                  have hw2 := hw.below hb2 hh2
                  have hz1 := Nat.le_trans hh hb2.size
                  have hz2 := Nat.le_trans hh2 hb2.size
                  generalize wr.alloc _ = w2 at hb2 k0 k1 hs2 hw2 hz1 hz2 ⊢
                  have e0 := cell_ext k0; have e1 := cell_ext k1
                  have c4 := fun p => implFind_b _ _ s.irq (ext w2 p) (hs2.below (below_ext w2 p) hz1) (Nat.le_trans hz1 (below_ext w2 p).size)
                  have c5 := fun p => waiterIndex_any _ _ s.irq (ext w2 p) ((hw2.take_ hkn).below (below_ext w2 p) hz2) (Nat.le_trans hz2 (below_ext w2 p).size)
                  generalize Sl.ix ls s.irq = z at c4 hz0
                  generalize findIx (Wt.isI s.irq) (lw.take k) = y at c5 hy0
                  refine wp_region_ext_all (by kernel_rfl) (by kernel_rfl) ?_
                  repeat (go_big_quiet_step (first | (go_at_call 69; exact calls_ext0 (c1 _)) | (go_at_call 70; exact calls_ext0 (c2 _)) | (go_at_call 129; exact calls_ext (c4 _)) | (go_at_call 150; exact calls_ext (c5 _))))
                  refine wpQuiet_nil ?_
                  intro w3 b3
                  clear e0 e1
                  have hb3 := hb2.trans (b3.mono hb2.size)
                  go_wp2_with fail
                  go_roundw
                  case rel => exact ⟨k + 1, by omega, by go_num, hb3, HF.out⟩
                  case measure => simp [intOf]; omega
                · obtain ⟨j, rfl⟩ : ∃ j, k = j + 1 := ⟨k - 1, by omega⟩
                  obtain ⟨_, _, u, e, hu, _, _, g0, g1⟩ := Wt.get hw (k := j) (by omega) hb hh2
                  injection e with e
                  injection e with e1 e2
                  subst e1; subst e2
                  have hjn : (j : Int) < (n : Int) := by omega
                  have hd : decide ((0 : Int) < ((j + 1 : Nat) : Int)) = true := by simp
                  have hur := urg_neg u s
                  have hpv : Wt.prevOk lw s (j + 1) = u.lt s := by simp [Wt.prevOk, hu.out]
                  cases hq : u.lt s
                  · have HF := Lib.hid (HN.out (by simp only [Wt.okAt, hpv, hq]; simp))
                    have hd2 : decide ((0 : Int) ≤ urg ⟨u.irq, u.prio⟩ ⟨s.irq, s.prio⟩) = true := decide_eq_true (by rw [hq] at hur; have := mt hur.1 (by simp); change 0 ≤ urg u s; omega)
                    rw [h1] at c1
                    rw [h2] at c2
                    clear h1 h2 h3 h4 HN HY hk0 hur hq hpv hu
                    go_wp2_with fail
                    have k0 : (wr.alloc (.cells #[.int .i64 s.irq, .int .i64 s.prio] 134)).cell? ⟨wr.heap.size, 0, none⟩ = some (.int .i64 s.irq) := by simp
                    have k1 : (wr.alloc (.cells #[.int .i64 s.irq, .int .i64 s.prio] 134)).cell? ⟨wr.heap.size, 1, none⟩ = some (.int .i64 s.prio) := by simp
                    have k2 : (wr.alloc (.cells #[.int .i64 s.irq, .int .i64 s.prio] 134)).cell? ⟨b, off + j * 2, none⟩ = some (.int .i64 u.irq) := by rw [World.cell?_alloc_lt _ _ _ hbw]; exact g0
                    have k3 : (wr.alloc (.cells #[.int .i64 s.irq, .int .i64 s.prio] 134)).cell? ⟨b, off + j * 2 + 1, none⟩ = some (.int .i64 u.prio) := by rw [World.cell?_alloc_lt _ _ _ hbw]; exact g1
                    clear g0 g1
                    clear f0 f1
                    have hs2 := hs.below hb2 hh
                    have hw2 := hw.below hb2 hh2
                    have hz1 := Nat.le_trans hh hb2.size
                    have hz2 := Nat.le_trans hh2 hb2.size
                    generalize wr.alloc _ = w2 at hb2 k0 k1 k2 k3 hs2 hw2 hz1 hz2 ⊢
                    have e0 := cell_ext k0; have e1 := cell_ext k1; have e2 := cell_ext k2; have e3 := cell_ext k3
                    have c4 := fun p => implFind_b _ _ s.irq (ext w2 p) (hs2.below (below_ext w2 p) hz1) (Nat.le_trans hz1 (below_ext w2 p).size)
                    have c5 := fun p => waiterIndex_any _ _ s.irq (ext w2 p) ((hw2.take_ hkn).below (below_ext w2 p) hz2) (Nat.le_trans hz2 (below_ext w2 p).size)
                    generalize Sl.ix ls s.irq = z at c4 hz0
                    generalize findIx (Wt.isI s.irq) (lw.take (j + 1)) = y at c5 hy0
                    refine wp_region_ext_all (by kernel_rfl) (by kernel_rfl) ?_
                    repeat (go_big_quiet_step (first | (go_at_call 69; exact calls_ext0 (c1 _)) | (go_at_call 70; exact calls_ext0 (c2 _)) | (go_at_call 129; exact calls_ext (c4 _)) | (go_at_call 150; exact calls_ext (c5 _)) | (go_at_call 153; exact calls_ext (compareUrgency_at _ _ _ _ _))))
                    refine wpQuiet_nil ?_
                    intro w3 b3
                    clear e0 e1 e2 e3
                    have hb3 := hb2.trans (b3.mono hb2.size)
                    go_wp2_with fail
                    go_ret
                    exact ⟨ret_bool HF.out.symm, hb3⟩
                  · have HF := Lib.hid (HY.out (by simp only [Wt.okAt, h1, h2, h3, h4, hpv, hq]; rfl))
                    have hd2 : decide ((0 : Int) ≤ urg ⟨u.irq, u.prio⟩ ⟨s.irq, s.prio⟩) = false := decide_eq_false (by have := hur.2 hq; change ¬ 0 ≤ urg u s; omega)
                    rw [h1] at c1
                    rw [h2] at c2
                    clear h1 h2 h3 h4 HN HY hk0 hur hq hpv hu
                    go_wp2_with fail
                    have k0 : (wr.alloc (.cells #[.int .i64 s.irq, .int .i64 s.prio] 134)).cell? ⟨wr.heap.size, 0, none⟩ = some (.int .i64 s.irq) := by simp
                    have k1 : (wr.alloc (.cells #[.int .i64 s.irq, .int .i64 s.prio] 134)).cell? ⟨wr.heap.size, 1, none⟩ = some (.int .i64 s.prio) := by simp
                    have k2 : (wr.alloc (.cells #[.int .i64 s.irq, .int .i64 s.prio] 134)).cell? ⟨b, off + j * 2, none⟩ = some (.int .i64 u.irq) := by rw [World.cell?_alloc_lt _ _ _ hbw]; exact g0
                    have k3 : (wr.alloc (.cells #[.int .i64 s.irq, .int .i64 s.prio] 134)).cell? ⟨b, off + j * 2 + 1, none⟩ = some (.int .i64 u.prio) := by rw [World.cell?_alloc_lt _ _ _ hbw]; exact g1
                    clear g0 g1
                    clear f0 f1
                    have hs2 := hs.below hb2 hh
                    have hw2 := hw.below hb2 hh2
                    have hz1 := Nat.le_trans hh hb2.size
                    have hz2 := Nat.le_trans hh2 hb2.size
                    generalize wr.alloc _ = w2 at hb2 k0 k1 k2 k3 hs2 hw2 hz1 hz2 ⊢
                    have e0 := cell_ext k0; have e1 := cell_ext k1; have e2 := cell_ext k2; have e3 := cell_ext k3
                    have c4 := fun p => implFind_b _ _ s.irq (ext w2 p) (hs2.below (below_ext w2 p) hz1) (Nat.le_trans hz1 (below_ext w2 p).size)
                    have c5 := fun p => waiterIndex_any _ _ s.irq (ext w2 p) ((hw2.take_ hkn).below (below_ext w2 p) hz2) (Nat.le_trans hz2 (below_ext w2 p).size)
                    generalize Sl.ix ls s.irq = z at c4 hz0
                    generalize findIx (Wt.isI s.irq) (lw.take (j + 1)) = y at c5 hy0
                    refine wp_region_ext_all (by kernel_rfl) (by kernel_rfl) ?_
                    repeat (go_big_quiet_step (first | (go_at_call 69; exact calls_ext0 (c1 _)) | (go_at_call 70; exact calls_ext0 (c2 _)) | (go_at_call 129; exact calls_ext (c4 _)) | (go_at_call 150; exact calls_ext (c5 _)) | (go_at_call 153; exact calls_ext (compareUrgency_at _ _ _ _ _))))
                    refine wpQuiet_nil ?_
                    intro w3 b3
                    clear e0 e1 e2 e3
                    have hb3 := hb2.trans (b3.mono hb2.size)
                    go_wp2_with fail
                    go_roundw
                    case rel => exact ⟨j + 1 + 1, by omega, by go_num, hb3, HF.out⟩
                    case measure => simp [intOf]; omega
      · have HF := Lib.hid (show Qu.parts ls lw = true from by rw [Qu.parts, HG.out, Wt.upTo_mono (by rw [← H.out]; omega) HE.out]; rfl)
        go_wp2_with fail
        go_ret
        exact ⟨ret_bool HF.out.symm, hb⟩

end Go.Proofs.YtengaccnncnipaaGreat
