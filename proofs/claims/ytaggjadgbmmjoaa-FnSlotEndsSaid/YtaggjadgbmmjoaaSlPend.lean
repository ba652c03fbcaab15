/- The pending slot with the most or the least urgent interrupt, in the program. Condition: the slots are valid. -/
import Derived.Test.YtaggjadgbmmjoaaSlBest
namespace Go.Proofs.Ytaggjadgbmmjoaa
open Go.RowKit Go.ChangeShapes Go.WideShapes Go.Deep

set_option maxHeartbeats 8000000 in
theorem pendingSlot_any (v : Value) (l : List Sl) (most : Bool) (w : World) {lo hi : Nat} (h : Rd Sl.cells 3 w lo hi v l) (hh : hi ≤ w.heap.size) (hg : Sl.good l = true) : Calls Try.prog 36 #[v, .bool most] w fun e w' => e = .returned (.int .i64 (Sl.best most l l.length)) ∧ Below w.heap.size w w' := by
  have hrd := h
  have HG := Lib.hid hg
  obtain ⟨A, n, c, rfl, H, hc, hm⟩ := h.form
  clear h hg
  go_enter Try.func36, Try.ntmps36
  go_wp2_with fail
  go_loopw [5, 10] (fun q i wr => ∃ k : Nat, k ≤ n ∧ i = .int .i64 k ∧ q = .int .i64 (Sl.best most l k) ∧ Below w.heap.size w wr) (fun _ i _ => n - (intOf i).toNat)
  case atStart => exact ⟨0, Nat.zero_le _, rfl, rfl, Below.refl _ _⟩
  case round =>
    obtain ⟨k, hk, rfl, rfl, hb⟩ := hrel
    by_cases hlt : k < n
    · obtain ⟨b, off, s, rfl, hs, _, hbl, f0, f1, f2⟩ := Sl.get hrd hlt hb hh
      have hbs := hb.size
      have hbw : b < wr.heap.size := by omega
      have hb2 := hb.alloc hb.size (.cells #[.int .i64 s.state, .int .i64 s.irq, .int .i64 s.prio] 33)
      have hN := Sl.best_succ (most := most) hs.out
      by_cases h1 : s.state = 1
      · rcases Sl.best_bd most l k (by have := H.out; omega) with hbd | ⟨j, u, hbd, hj, hu, hu1⟩
        · have HN := Lib.hid (show Sl.best most l (k + 1) = k from by rw [hN, hbd]; simp [Sl.bestIf, h1])
          rw [h1] at f0 hb2
          rw [hbd]
          clear hN hbd h1
          go_wp2_with fail
          go_quiet (fail)
          go_wp2_with fail
          go_roundw
          case rel => exact ⟨k + 1, by omega, by go_num, by rw [HN.out], below_drewN hb2 _⟩
          case measure => simp [intOf]; omega
        · obtain ⟨_, _, u', e, hu', _, _, g0, g1, g2⟩ := Sl.get hrd (k := j) (by omega) hb hh
          injection e with e
          injection e with e1 e2
          subst e1; subst e2
          obtain rfl : u = u' := Option.some.inj (hu.symm.trans hu'.out)
          have hj0 : decide ((j : Int) < 0) = false := by simp
          have hjn : (j : Int) < (n : Int) := by omega
          have hne := Sl.good_ne HG.out hj hu hs.out (by omega) (by omega)
          have hln : s.wt.lt u.wt = !u.wt.lt s.wt := by
            unfold Wt.lt Sl.wt
            rw [Bool.eq_iff_iff]
            simp only [Bool.or_eq_true, Bool.and_eq_true, Bool.not_eq_true', Bool.or_eq_false_iff, Bool.and_eq_false_iff, decide_eq_true_eq, decide_eq_false_iff_not]
            omega
          have HN := Lib.hid (show Sl.best most l (k + 1) = if (s.wt.lt u.wt == most) then (k : Int) else j from by
            have hj1 : ¬ (j : Int) < 0 := by omega
            rw [hN, hbd]
            cases most <;> simp [Sl.bestIf, h1, hu, hj1, Sl.bt, hln])
          rw [hbd]
          rw [h1] at f0 hb2
          have hur := urg_neg s.wt u.wt
          clear hN hbd h1 hu hu' hu1 hne hln
          unfold Sl.wt at hur HN
          cases hq : Wt.lt ⟨s.irq, s.prio⟩ ⟨u.irq, u.prio⟩
          · have hd : decide (urg ⟨s.irq, s.prio⟩ ⟨u.irq, u.prio⟩ < 0) = false := decide_eq_false (fun h => by rw [hq] at hur; simpa using hur.1 h)
            rw [hq] at HN
            clear hq hur
            cases most
            all_goals
              go_wp2_with fail
              have k0 : (wr.alloc (.cells #[.int .i64 1, .int .i64 s.irq, .int .i64 s.prio] 33)).cell? ⟨wr.heap.size, 0, none⟩ = some (.int .i64 1) := by simp
              have k1 : (wr.alloc (.cells #[.int .i64 1, .int .i64 s.irq, .int .i64 s.prio] 33)).cell? ⟨wr.heap.size, 1, none⟩ = some (.int .i64 s.irq) := by simp
              have k2 : (wr.alloc (.cells #[.int .i64 1, .int .i64 s.irq, .int .i64 s.prio] 33)).cell? ⟨wr.heap.size, 2, none⟩ = some (.int .i64 s.prio) := by simp
              have k3 : (wr.alloc (.cells #[.int .i64 1, .int .i64 s.irq, .int .i64 s.prio] 33)).cell? ⟨b, off + j * 3, none⟩ = some (.int .i64 u.state) := by rw [World.cell?_alloc_lt _ _ _ hbw]; exact g0
              have k4 : (wr.alloc (.cells #[.int .i64 1, .int .i64 s.irq, .int .i64 s.prio] 33)).cell? ⟨b, off + j * 3 + 1, none⟩ = some (.int .i64 u.irq) := by rw [World.cell?_alloc_lt _ _ _ hbw]; exact g1
              have k5 : (wr.alloc (.cells #[.int .i64 1, .int .i64 s.irq, .int .i64 s.prio] 33)).cell? ⟨b, off + j * 3 + 2, none⟩ = some (.int .i64 u.prio) := by rw [World.cell?_alloc_lt _ _ _ hbw]; exact g2
              clear f0 f1 f2 g0 g1 g2
              generalize wr.alloc _ = w2 at hb2 k0 k1 k2 k3 k4 k5 ⊢
              have e0 := cell_ext k0; have e1 := cell_ext k1; have e2 := cell_ext k2; have e3 := cell_ext k3; have e4 := cell_ext k4; have e5 := cell_ext k5
              refine wp_region_ext_all (by kernel_rfl) (by kernel_rfl) ?_
              repeat (go_big_quiet_step (first | (go_at_call 56; exact calls_ext (waiterOf_at _ _ _ _)) | (go_at_call 55; exact calls_ext (compareUrgency_at _ _ _ _ _))))
              refine wpQuiet_nil ?_
              intro w3 b3
              clear e0 e1 e2 e3 e4 e5
              go_wp2_with fail
              go_roundw
              case rel => exact ⟨k + 1, by omega, by go_num, by rw [HN.out]; rfl, hb2.trans (b3.mono hb2.size)⟩
              case measure => simp [intOf]; omega
          · have hd : decide (urg ⟨s.irq, s.prio⟩ ⟨u.irq, u.prio⟩ < 0) = true := decide_eq_true (hur.2 hq)
            rw [hq] at HN
            clear hq hur
            cases most
            all_goals
              go_wp2_with fail
              have k0 : (wr.alloc (.cells #[.int .i64 1, .int .i64 s.irq, .int .i64 s.prio] 33)).cell? ⟨wr.heap.size, 0, none⟩ = some (.int .i64 1) := by simp
              have k1 : (wr.alloc (.cells #[.int .i64 1, .int .i64 s.irq, .int .i64 s.prio] 33)).cell? ⟨wr.heap.size, 1, none⟩ = some (.int .i64 s.irq) := by simp
              have k2 : (wr.alloc (.cells #[.int .i64 1, .int .i64 s.irq, .int .i64 s.prio] 33)).cell? ⟨wr.heap.size, 2, none⟩ = some (.int .i64 s.prio) := by simp
              have k3 : (wr.alloc (.cells #[.int .i64 1, .int .i64 s.irq, .int .i64 s.prio] 33)).cell? ⟨b, off + j * 3, none⟩ = some (.int .i64 u.state) := by rw [World.cell?_alloc_lt _ _ _ hbw]; exact g0
              have k4 : (wr.alloc (.cells #[.int .i64 1, .int .i64 s.irq, .int .i64 s.prio] 33)).cell? ⟨b, off + j * 3 + 1, none⟩ = some (.int .i64 u.irq) := by rw [World.cell?_alloc_lt _ _ _ hbw]; exact g1
              have k5 : (wr.alloc (.cells #[.int .i64 1, .int .i64 s.irq, .int .i64 s.prio] 33)).cell? ⟨b, off + j * 3 + 2, none⟩ = some (.int .i64 u.prio) := by rw [World.cell?_alloc_lt _ _ _ hbw]; exact g2
              clear f0 f1 f2 g0 g1 g2
              generalize wr.alloc _ = w2 at hb2 k0 k1 k2 k3 k4 k5 ⊢
              have e0 := cell_ext k0; have e1 := cell_ext k1; have e2 := cell_ext k2; have e3 := cell_ext k3; have e4 := cell_ext k4; have e5 := cell_ext k5
              refine wp_region_ext_all (by kernel_rfl) (by kernel_rfl) ?_
              repeat (go_big_quiet_step (first | (go_at_call 56; exact calls_ext (waiterOf_at _ _ _ _)) | (go_at_call 55; exact calls_ext (compareUrgency_at _ _ _ _ _))))
              refine wpQuiet_nil ?_
              intro w3 b3
              clear e0 e1 e2 e3 e4 e5
              go_wp2_with fail
              go_roundw
              case rel => exact ⟨k + 1, by omega, by go_num, by rw [HN.out]; rfl, hb2.trans (b3.mono hb2.size)⟩
              case measure => simp [intOf]; omega
      · have HN := Lib.hid (show Sl.best most l (k + 1) = Sl.best most l k from by rw [hN]; simp [Sl.bestIf, h1])
        have hd : (s.state == 1) = false := by simp [h1]
        clear hN h1
        generalize Sl.best most l k = q at *
        go_wp2_with fail
        go_quiet (fail)
        go_wp2_with fail
        go_roundw
        case rel => exact ⟨k + 1, by omega, by go_num, by rw [HN.out], below_drewN hb2 _⟩
        case measure => simp [intOf]; omega
    · have hkn : k = n := by omega
      have HE := Lib.hid (show Sl.best most l k = Sl.best most l l.length from by rw [hkn, H.out])
      go_wp2_with fail
      go_ret
      exact ⟨ret_int HE.out, hb⟩

end Go.Proofs.Ytaggjadgbmmjoaa
