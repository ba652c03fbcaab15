/- Whether slots are valid, in the program. No condition. -/
import Derived.Test.YtaggjadgbmmjoaaDoorSlGood
import Derived.BigQuiet
import Derived.Deep.QuietTactic
namespace Go.Proofs.YtaggjadgbmmjoaaDoor
open Go.RowKit Go.ChangeShapes Go.WideShapes Go.Deep

set_option maxHeartbeats 2000000 in
theorem implAreSlots_any (v : Value) (l : List Sl) (w : World) {lo hi : Nat} (h : Rd Sl.cells 3 w lo hi v l) (hh : hi ≤ w.heap.size) : Calls Tryd.prog 17 #[v] w fun e w' => e = .returned (.bool (Sl.good l)) ∧ Below w.heap.size w w' := by
  have hrd := h
  obtain ⟨A, n, c, rfl, H, hc, hm⟩ := h.form
  by_cases h4 : n = 4
  · have c1 := fun x W => inside_any x 1 3 W
    have c2 := fun x W => isIrq_any x W
    have c3 := fun x W => isPriority_any x W
    have hn4 : n ≤ 4 := by omega
    have HG := Lib.hid (show Sl.good l = Sl.upTo l l.length from by have := H.out; simp only [Sl.good]; rw [← this, h4]; simp)
    have h4' : (n : Int) = 4 := by omega
    have hd4 : ((n : Int) == 4) = true := by rw [h4']; rfl
    clear h4 h4'
    go_enter Tryd.func17, Tryd.ntmps17
    go_wp2_with fail
    go_loopw [10] (fun i wr => ∃ k : Nat, k ≤ n ∧ i = .int .i64 k ∧ Below w.heap.size w wr ∧ Sl.upTo l k = true) (fun i _ => n - (intOf i).toNat)
    case atStart => exact ⟨0, Nat.zero_le _, rfl, Below.refl _ _, rfl⟩
    case round =>
      obtain ⟨k, hk, rfl, hb, he⟩ := hrel
      have HE := Lib.hid he
      clear he
      have hbs := hb.size
      by_cases hlt : k < n
      · obtain ⟨b, off, s, rfl, hs, _, hbl, f0, f1, f2⟩ := Sl.get h hlt hb hh
        have hb2 := hb.alloc hb.size (.cells #[.int .i64 s.state, .int .i64 s.irq, .int .i64 s.prio] 37)
        have HN := Lib.hid (fun hq => Sl.upTo_no (l := l) (k := k) (s := s) (by rw [← H.out]; exact hlt) hs.out hq)
        have HY := Lib.hid (fun (hq : Sl.okAt l k s = true) => show Sl.upTo l (k + 1) = true from by rw [Sl.upTo_succ hs.out, HE.out, hq]; rfl)
        by_cases h0 : s.state = 0
        · by_cases hi0 : s.irq = 0
          · by_cases hp0 : s.prio = 0
            · have HF := Lib.hid (HY.out (by simp [Sl.okAt, h0, hi0, hp0]))
              rw [h0] at f0
              rw [hi0] at f1
              rw [hp0] at f2
              rw [h0, hi0, hp0] at hb2
              clear h0 hi0 hp0 HN HY
              go_wp2_with fail
              go_roundw
              case rel => exact ⟨k + 1, by omega, by go_num, hb2, HF.out⟩
              case measure => simp [intOf]; omega
            · have HF := Lib.hid (HN.out (by simp [Sl.okAt, h0, hp0]))
              rw [h0] at f0
              rw [hi0] at f1
              rw [h0, hi0] at hb2
              clear h0 hi0 HN HY
              go_wp2_with fail
              go_ret
              exact ⟨ret_bool (by rw [HG.out, ← HF.out, HG.out]), hb2⟩
          · have HF := Lib.hid (HN.out (by simp [Sl.okAt, h0, hi0]))
            rw [h0] at f0
            rw [h0] at hb2
            clear h0 HN HY
            go_wp2_with fail
            go_ret
            exact ⟨ret_bool (by rw [HG.out, ← HF.out, HG.out]), hb2⟩
        · have HI := Lib.hid (Sl.find_at hs.out h0)
          have c1 := c1 s.state
          have c2 := c2 s.irq
          have c3 := c3 s.prio
          have hkn : k ≤ n := by omega
          have hkc : k ≤ c := by omega
          cases h1 : inB s.state 1 3
          · have HF := Lib.hid (HN.out (by simp [Sl.okAt, h0, h1]))
            rw [h1] at c1
            clear h1 HN HY HI c2 c3
            go_wp2_with fail
            have k0 : (wr.alloc (.cells #[.int .i64 s.state, .int .i64 s.irq, .int .i64 s.prio] 37)).cell? ⟨wr.heap.size, 0, none⟩ = some (.int .i64 s.state) := by simp
            have k1 : (wr.alloc (.cells #[.int .i64 s.state, .int .i64 s.irq, .int .i64 s.prio] 37)).cell? ⟨wr.heap.size, 1, none⟩ = some (.int .i64 s.irq) := by simp
            have k2 : (wr.alloc (.cells #[.int .i64 s.state, .int .i64 s.irq, .int .i64 s.prio] 37)).cell? ⟨wr.heap.size, 2, none⟩ = some (.int .i64 s.prio) := by simp
            clear f0 f1 f2
            have hr2 := hrd.below hb2 hh
            have hh2 := Nat.le_trans hh hb2.size
            generalize wr.alloc _ = w2 at hb2 k0 k1 k2 hr2 hh2 ⊢
            have e0 := cell_ext k0; have e1 := cell_ext k1; have e2 := cell_ext k2
            have c4 := fun p => findSlot_any _ _ s.irq (ext w2 p) ((hr2.take_ hkn).below (below_ext w2 p) hh2) (Nat.le_trans hh2 (below_ext w2 p).size)
            refine wp_region_ext_all (by kernel_rfl) (by kernel_rfl) ?_
            repeat (go_big_quiet_step (first | (go_at_call 31; exact calls_ext0 ((c1 _).mono (fun _ _ h => ⟨h.1, h.2⟩))) | (go_at_call 34; exact calls_ext (c4 _))))
            refine wpQuiet_nil ?_
            intro w3 b3
            clear e0 e1 e2
            have hb3 := hb2.trans (b3.mono hb2.size)
            go_wp2_with fail
            go_ret
            exact ⟨ret_bool (by rw [HG.out, ← HF.out, HG.out]), hb3⟩
          · cases h2 : inB s.irq 0 7
            · have HF := Lib.hid (HN.out (by simp [Sl.okAt, h0, h2]))
              rw [h1] at c1
              rw [h2] at c2
              clear h1 h2 HN HY HI c3
              go_wp2_with fail
              have k0 : (wr.alloc (.cells #[.int .i64 s.state, .int .i64 s.irq, .int .i64 s.prio] 37)).cell? ⟨wr.heap.size, 0, none⟩ = some (.int .i64 s.state) := by simp
              have k1 : (wr.alloc (.cells #[.int .i64 s.state, .int .i64 s.irq, .int .i64 s.prio] 37)).cell? ⟨wr.heap.size, 1, none⟩ = some (.int .i64 s.irq) := by simp
              have k2 : (wr.alloc (.cells #[.int .i64 s.state, .int .i64 s.irq, .int .i64 s.prio] 37)).cell? ⟨wr.heap.size, 2, none⟩ = some (.int .i64 s.prio) := by simp
              clear f0 f1 f2
              have hr2 := hrd.below hb2 hh
              have hh2 := Nat.le_trans hh hb2.size
              generalize wr.alloc _ = w2 at hb2 k0 k1 k2 hr2 hh2 ⊢
              have e0 := cell_ext k0; have e1 := cell_ext k1; have e2 := cell_ext k2
              have c4 := fun p => findSlot_any _ _ s.irq (ext w2 p) ((hr2.take_ hkn).below (below_ext w2 p) hh2) (Nat.le_trans hh2 (below_ext w2 p).size)
              refine wp_region_ext_all (by kernel_rfl) (by kernel_rfl) ?_
              repeat (go_big_quiet_step (first | (go_at_call 31; exact calls_ext0 ((c1 _).mono (fun _ _ h => ⟨h.1, h.2⟩))) | (go_at_call 32; exact calls_ext0 (c2 _)) | (go_at_call 34; exact calls_ext (c4 _))))
              refine wpQuiet_nil ?_
              intro w3 b3
              clear e0 e1 e2
              have hb3 := hb2.trans (b3.mono hb2.size)
              go_wp2_with fail
              go_ret
              exact ⟨ret_bool (by rw [HG.out, ← HF.out, HG.out]), hb3⟩
            · cases h3 : inB s.prio 0 15
              · have HF := Lib.hid (HN.out (by simp [Sl.okAt, h0, h3]))
                rw [h1] at c1
                rw [h2] at c2
                rw [h3] at c3
                clear h1 h2 h3 HN HY HI
                go_wp2_with fail
                have k0 : (wr.alloc (.cells #[.int .i64 s.state, .int .i64 s.irq, .int .i64 s.prio] 37)).cell? ⟨wr.heap.size, 0, none⟩ = some (.int .i64 s.state) := by simp
                have k1 : (wr.alloc (.cells #[.int .i64 s.state, .int .i64 s.irq, .int .i64 s.prio] 37)).cell? ⟨wr.heap.size, 1, none⟩ = some (.int .i64 s.irq) := by simp
                have k2 : (wr.alloc (.cells #[.int .i64 s.state, .int .i64 s.irq, .int .i64 s.prio] 37)).cell? ⟨wr.heap.size, 2, none⟩ = some (.int .i64 s.prio) := by simp
                clear f0 f1 f2
                have hr2 := hrd.below hb2 hh
                have hh2 := Nat.le_trans hh hb2.size
                generalize wr.alloc _ = w2 at hb2 k0 k1 k2 hr2 hh2 ⊢
                have e0 := cell_ext k0; have e1 := cell_ext k1; have e2 := cell_ext k2
                have c4 := fun p => findSlot_any _ _ s.irq (ext w2 p) ((hr2.take_ hkn).below (below_ext w2 p) hh2) (Nat.le_trans hh2 (below_ext w2 p).size)
                refine wp_region_ext_all (by kernel_rfl) (by kernel_rfl) ?_
                repeat (go_big_quiet_step (first | (go_at_call 31; exact calls_ext0 ((c1 _).mono (fun _ _ h => ⟨h.1, h.2⟩))) | (go_at_call 32; exact calls_ext0 (c2 _)) | (go_at_call 33; exact calls_ext0 (c3 _)) | (go_at_call 34; exact calls_ext (c4 _))))
                refine wpQuiet_nil ?_
                intro w3 b3
                clear e0 e1 e2
                have hb3 := hb2.trans (b3.mono hb2.size)
                go_wp2_with fail
                go_ret
                exact ⟨ret_bool (by rw [HG.out, ← HF.out, HG.out]), hb3⟩
              · cases hq : (l.take k).any (Sl.has s.irq)
                · have HF := Lib.hid (HY.out (by simp only [Sl.okAt, if_neg h0, h1, h2, h3, hq]; rfl))
                  rw [h1] at c1
                  rw [h2] at c2
                  rw [h3] at c3
                  have hz0 : decide ((0 : Int) ≤ findIx (Sl.has s.irq) (l.take k)) = false := by rw [findIx_nonneg, hq]
                  clear h1 h2 h3 hq HN HY HI
                  go_wp2_with fail
                  have k0 : (wr.alloc (.cells #[.int .i64 s.state, .int .i64 s.irq, .int .i64 s.prio] 37)).cell? ⟨wr.heap.size, 0, none⟩ = some (.int .i64 s.state) := by simp
                  have k1 : (wr.alloc (.cells #[.int .i64 s.state, .int .i64 s.irq, .int .i64 s.prio] 37)).cell? ⟨wr.heap.size, 1, none⟩ = some (.int .i64 s.irq) := by simp
                  have k2 : (wr.alloc (.cells #[.int .i64 s.state, .int .i64 s.irq, .int .i64 s.prio] 37)).cell? ⟨wr.heap.size, 2, none⟩ = some (.int .i64 s.prio) := by simp
                  clear f0 f1 f2
                  have hr2 := hrd.below hb2 hh
                  have hh2 := Nat.le_trans hh hb2.size
                  generalize wr.alloc _ = w2 at hb2 k0 k1 k2 hr2 hh2 ⊢
                  have e0 := cell_ext k0; have e1 := cell_ext k1; have e2 := cell_ext k2
                  have c4 := fun p => findSlot_any _ _ s.irq (ext w2 p) ((hr2.take_ hkn).below (below_ext w2 p) hh2) (Nat.le_trans hh2 (below_ext w2 p).size)
                  generalize findIx (Sl.has s.irq) (l.take k) = z at c4 hz0
                  refine wp_region_ext_all (by kernel_rfl) (by kernel_rfl) ?_
                  repeat (go_big_quiet_step (first | (go_at_call 31; exact calls_ext0 ((c1 _).mono (fun _ _ h => ⟨h.1, h.2⟩))) | (go_at_call 32; exact calls_ext0 (c2 _)) | (go_at_call 33; exact calls_ext0 (c3 _)) | (go_at_call 34; exact calls_ext (c4 _))))
                  refine wpQuiet_nil ?_
                  intro w3 b3
                  clear e0 e1 e2
                  have hb3 := hb2.trans (b3.mono hb2.size)
                  go_wp2_with fail
                  go_roundw
                  case rel => exact ⟨k + 1, by omega, by go_num, hb3, HF.out⟩
                  case measure => simp [intOf]; omega
                · have HF := Lib.hid (HN.out (by simp only [Sl.okAt, if_neg h0, hq]; simp))
                  rw [h1] at c1
                  rw [h2] at c2
                  rw [h3] at c3
                  have hz0 : decide ((0 : Int) ≤ findIx (Sl.has s.irq) (l.take k)) = true := by rw [findIx_nonneg, hq]
                  clear h1 h2 h3 hq HN HY HI
                  go_wp2_with fail
                  have k0 : (wr.alloc (.cells #[.int .i64 s.state, .int .i64 s.irq, .int .i64 s.prio] 37)).cell? ⟨wr.heap.size, 0, none⟩ = some (.int .i64 s.state) := by simp
                  have k1 : (wr.alloc (.cells #[.int .i64 s.state, .int .i64 s.irq, .int .i64 s.prio] 37)).cell? ⟨wr.heap.size, 1, none⟩ = some (.int .i64 s.irq) := by simp
                  have k2 : (wr.alloc (.cells #[.int .i64 s.state, .int .i64 s.irq, .int .i64 s.prio] 37)).cell? ⟨wr.heap.size, 2, none⟩ = some (.int .i64 s.prio) := by simp
                  clear f0 f1 f2
                  have hr2 := hrd.below hb2 hh
                  have hh2 := Nat.le_trans hh hb2.size
                  generalize wr.alloc _ = w2 at hb2 k0 k1 k2 hr2 hh2 ⊢
                  have e0 := cell_ext k0; have e1 := cell_ext k1; have e2 := cell_ext k2
                  have c4 := fun p => findSlot_any _ _ s.irq (ext w2 p) ((hr2.take_ hkn).below (below_ext w2 p) hh2) (Nat.le_trans hh2 (below_ext w2 p).size)
                  generalize findIx (Sl.has s.irq) (l.take k) = z at c4 hz0
                  refine wp_region_ext_all (by kernel_rfl) (by kernel_rfl) ?_
                  repeat (go_big_quiet_step (first | (go_at_call 31; exact calls_ext0 ((c1 _).mono (fun _ _ h => ⟨h.1, h.2⟩))) | (go_at_call 32; exact calls_ext0 (c2 _)) | (go_at_call 33; exact calls_ext0 (c3 _)) | (go_at_call 34; exact calls_ext (c4 _))))
                  refine wpQuiet_nil ?_
                  intro w3 b3
                  clear e0 e1 e2
                  have hb3 := hb2.trans (b3.mono hb2.size)
                  go_wp2_with fail
                  go_ret
                  exact ⟨ret_bool (by rw [HG.out, ← HF.out, HG.out]), hb3⟩
      · have hkl : l.length ≤ k := by rw [← H.out]; omega
        have HF := Lib.hid (show Sl.good l = true from by rw [HG.out]; exact Sl.upTo_mono (by rw [← H.out]; omega) HE.out)
        go_wp2_with fail
        go_ret
        exact ⟨ret_bool HF.out.symm, hb⟩
  · have HF := Lib.hid (show Sl.good l = false from by have := H.out; simp only [Sl.good, Bool.and_eq_false_iff, decide_eq_false_iff_not]; left; omega)
    have h4' : ¬ (n : Int) = 4 := by omega
    go_enter Tryd.func17, Tryd.ntmps17
    go_wp2_with fail
    go_ret
    exact ⟨ret_bool HF.out.symm, Below.refl _ _⟩

end Go.Proofs.YtaggjadgbmmjoaaDoor
