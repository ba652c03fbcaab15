/- Whether slots and waiting interrupts are those of a queue, in the reference. No condition. -/
import Derived.Test.YtengaccnncnipaaGreatQuArea
namespace Go.Proofs.YtengaccnncnipaaGreat
open Go.RowKit Go.ChangeShapes Go.WideShapes Go.Deep

theorem specFind_w (v : Value) (l : List Sl) (i : Int) (w : World) {lo hi : Nat} (h : Rd Sl.cells 3 w lo hi v l) (hh : hi ≤ w.heap.size) : Calls Tryz.prog 135 #[v, .int .i64 i] w fun e w' => e = .returned (.int .i64 (Sl.ix l i)) ∧ w = w' := l8Find_any v l i w h hh

set_option maxHeartbeats 8000000 in
theorem l9Waiting_any (vs vw : Value) (ls : List Sl) (lw : List Wt) (w : World) {lo hi lo2 hi2 : Nat} (h : Rd Sl.cells 3 w lo hi vs ls) (h2 : Rd Wt.cells 2 w lo2 hi2 vw lw) (hh : hi ≤ w.heap.size) (hh2 : hi2 ≤ w.heap.size) :
    Calls Tryz.prog 132 #[vs, vw] w fun e w' => e = .returned (.bool (Qu.parts ls lw)) ∧ Below w.heap.size w w' := by
  have c0 := fun (W : World) (kb : Below w.heap.size w W) => l8Good_any vs ls W (h.below kb hh) (Nat.le_trans hh kb.size)
  have hs := h
  have hw := h2
  obtain ⟨A0, n0, d0, rfl, H0, hd0, hm0⟩ := h.form
  obtain ⟨A, n, c, rfl, H, hc, hm⟩ := h2.form
  clear h h2
  have c1 := fun x W => l6Irq_any x W
  have c2 := fun x W => l6Prio_any x W
  go_enter Tryz.func132, Tryz.ntmps132
  go_wp2_with fail
  go_loopw [5] (fun i wr => ∃ k : Nat, k ≤ n ∧ k ≤ 9 ∧ i = .int .i64 k ∧ Below w.heap.size w wr ∧ Wt.upTo ls lw k = true) (fun i _ => n - (intOf i).toNat)
  case atStart => exact ⟨0, Nat.zero_le _, by omega, rfl, Below.refl _ _, rfl⟩
  case round =>
    obtain ⟨k, hk, hk9, rfl, hb, he⟩ := hrel
    have HE := Lib.hid he
    clear he
    have hbs := hb.size
    have c0 := c0 wr hb
    by_cases hlt : k < n
    · have hdn : decide ((k : Int) < (n : Int)) = true := decide_eq_true (by omega)
      by_cases hk8 : k ≤ 8
      · have hd8 : decide ((k : Int) ≤ 8) = true := decide_eq_true (by omega)
        obtain ⟨b, off, s, rfl, ht, _, hbl, f0, f1⟩ := Wt.get hw hlt hb hh2
        have hb2 := hb.alloc hb.size (.cells #[.int .i64 s.irq, .int .i64 s.prio] 134)
        have HN := Lib.hid (fun hq => Qu.parts_no (ls := ls) (k := k) (w := s) (by rw [← H.out]; exact hlt) ht.out hq)
        have HY := Lib.hid (fun (hq : Wt.okAt ls lw k s = true) => show Wt.upTo ls lw (k + 1) = true from by rw [Wt.upTo_succ ht.out, HE.out, hq]; rfl)
        have hbw : b < wr.heap.size := by omega
        have c1 := c1 s.irq
        have c2 := c2 s.prio
        have c4 := specFind_w _ ls s.irq _ (hs.below hb2 hh) (Nat.le_trans hh hb2.size)
        clear c0
        cases h1 : inB s.irq 0 7
        · have HF := Lib.hid (HN.out (by simp [Wt.okAt, h1]))
          rw [h1] at c1
          clear h1 HN HY
          go_wp2_with fail
          refine (c1 _).mono ?_; rintro q_ w' ⟨rfl, rfl⟩
          go_wp2_with fail
          go_ret
          exact ⟨ret_bool HF.out.symm, hb2⟩
        · cases h2 : inB s.prio 0 15
          · have HF := Lib.hid (HN.out (by simp [Wt.okAt, h2]))
            rw [h1] at c1
            rw [h2] at c2
            clear h1 h2 HN HY
            go_wp2_with fail
            refine (c1 _).mono ?_; rintro q_ w' ⟨rfl, rfl⟩
            go_wp2_with fail
            refine (c2 _).mono ?_; rintro q_ w' ⟨rfl, rfl⟩
            go_wp2_with fail
            go_ret
            exact ⟨ret_bool HF.out.symm, hb2⟩
          · cases h3 : decide (Sl.ix ls s.irq < 0)
            · have HF := Lib.hid (HN.out (by simp [Wt.okAt, h3]))
              have hz0 : decide ((0 : Int) ≤ Sl.ix ls s.irq) = true := decide_eq_true (by have := of_decide_eq_false h3; omega)
              generalize Sl.ix ls s.irq = z at c4 hz0
              rw [h1] at c1
              rw [h2] at c2
              clear h1 h2 h3 HN HY
              go_wp2_with fail
              refine (c1 _).mono ?_; rintro q_ w' ⟨rfl, rfl⟩
              go_wp2_with fail
              refine (c2 _).mono ?_; rintro q_ w' ⟨rfl, rfl⟩
              go_wp2_with fail
              refine c4.mono ?_; rintro q_ w' ⟨rfl, rfl⟩
              go_wp2_with fail
              go_ret
              exact ⟨ret_bool HF.out.symm, hb2⟩
            · have hz0 : decide ((0 : Int) ≤ Sl.ix ls s.irq) = false := decide_eq_false (by have := of_decide_eq_true h3; omega)
              rw [h1] at c1
              rw [h2] at c2
              generalize hix : Sl.ix ls s.irq = z at c4 hz0 h3
              have h3' : decide (Sl.ix ls s.irq < 0) = true := by rw [hix]; exact h3
              clear h3 hix
              have h3 := Lib.hid h3'
              have h1 := Lib.hid h1
              have h2 := Lib.hid h2
              clear h3'
              by_cases hk0 : k = 0
              · have HP := Lib.hid (show Wt.prevOk lw s k = true from by subst hk0; rfl)
                have hd : decide ((0 : Int) < (k : Int)) = false := by subst hk0; simp
                have hd' : decide (0 < k) = false := by subst hk0; simp
                clear hk0
                go_wp2_with fail
                refine (c1 _).mono ?_; rintro q_ w' ⟨rfl, rfl⟩
                go_wp2_with fail
                refine (c2 _).mono ?_; rintro q_ w' ⟨rfl, rfl⟩
                go_wp2_with fail
                refine c4.mono ?_; rintro q_ w' ⟨rfl, rfl⟩
                go_wp2_with fail
                go_quiet (fail)
                go_wp2_with fail
                have hbI := below_drewN hb2 nq
                have k0 : ((wr.alloc (.cells #[.int .i64 s.irq, .int .i64 s.prio] 134)).drewN nq).cell? ⟨wr.heap.size, 0, none⟩ = some (.int .i64 s.irq) := by simp
                clear f0 f1
                generalize (wr.alloc (.cells #[.int .i64 s.irq, .int .i64 s.prio] 134)).drewN nq = w2 at hbI k0 ⊢
                have zw2 : wr.heap.size < w2.heap.size := World.block_lt_of_cell? w2 _ k0
                generalize wr.heap.size = B at k0 zw2 ⊢
                go_loopw [7] (fun j wz => ∃ m : Nat, m ≤ k ∧ j = .int .i64 m ∧ Below w2.heap.size w2 wz ∧ (lw.take m).any (Wt.isI s.irq) = false) (fun j _ => k - (intOf j).toNat)
                case atStart => exact ⟨0, Nat.zero_le _, rfl, Below.refl _ _, by simp⟩
                case round =>
                  obtain ⟨m, hm1, rfl, hbm, hme⟩ := hrel
                  have HA := Lib.hid hme
                  clear hme
                  have hbz := hbI.trans (hbm.mono hbI.size)
                  have k2 := (hbm.cell (p := ⟨B, 0, none⟩) zw2).trans k0
                  by_cases hmk : m < k
                  · have hdm : decide ((m : Int) < (k : Int)) = true := decide_eq_true (by omega)
                    have hmn : (m : Int) < (n : Int) := by omega
                    obtain ⟨_, _, u, e, hu, _, _, g0, g1⟩ := Wt.get hw (k := m) (by omega) hbz hh2
                    injection e with e
                    injection e with e1 e2
                    subst e1; subst e2
                    by_cases hq : u.irq = s.irq
                    · have HF := Lib.hid (HN.out (by
                        have : (lw.take k).any (Wt.isI s.irq) = true := List.any_eq_true.2 ⟨u, List.mem_of_getElem? (by rw [List.getElem?_take, if_pos hmk]; exact hu.out), by simp [Wt.isI, hq]⟩
                        simp only [Wt.okAt, this]; simp))
                      rw [hq] at g0
                      clear hq
                      go_wp2_with fail
                      go_quiet (fail)
                      go_wp2_with fail
                      go_ret
                      exact ⟨ret_bool HF.out.symm, below_drewN hbz _⟩
                    · have hqd : (u.irq == s.irq) = false := by simp [hq]
                      have HF := Lib.hid (show (lw.take (m + 1)).any (Wt.isI s.irq) = false from by rw [List.take_add_one, List.any_append, HA.out, hu.out]; simp [Wt.isI, hq])
                      clear hq
                      go_wp2_with fail
                      go_quiet (fail)
                      go_wp2_with fail
                      go_roundw
                      case rel => exact ⟨m + 1, by omega, by go_num, below_drewN hbm _, HF.out⟩
                      case measure => simp [intOf]; omega
                  · have hdm : decide ((m : Int) < (k : Int)) = false := decide_eq_false (by omega)
                    have hmk2 : m = k := by omega
                    have HM2 := Lib.hid hmk2
                    clear hmk2
                    have HF := Lib.hid (HY.out (by rw [HM2.out] at HA; have ha := HA.out; have hp := HP.out; simp only [Wt.okAt, h1.out, h2.out, h3.out, ha, hp]; rfl))
                    go_wp2_with fail
                    go_roundw
                    case rel => exact ⟨k + 1, by omega, by omega, by go_num, hbz, HF.out⟩
                    case measure => simp [intOf]; omega
              · obtain ⟨j, hkj⟩ : ∃ j : Nat, k = j + 1 := ⟨k - 1, by omega⟩
                obtain ⟨_, _, u, e, hu, _, _, g0, g1⟩ := Wt.get hw (k := j) (by omega) hb hh2
                injection e with e
                injection e with e1 e2
                subst e1; subst e2
                have hpv : Wt.prevOk lw s k = u.lt s := by subst hkj; simp [Wt.prevOk, hu.out]
                have hjn : (j : Int) < (n : Int) := by omega
                have hkm : (k : Int) - 1 = (j : Int) := by omega
                have hd : decide ((0 : Int) < (k : Int)) = true := decide_eq_true (by omega)
                have hd' : decide (0 < k) = true := decide_eq_true (by omega)
                have c6 := fun W => l8Less_any u.prio u.irq s.prio s.irq W
                clear hkj hk0
                cases hq : Wt.lt ⟨u.irq, u.prio⟩ ⟨s.irq, s.prio⟩
                · have HF := Lib.hid (HN.out (by have hq2 : u.lt s = false := hq; simp only [Wt.okAt, hpv, hq2]; simp))
                  rw [hq] at c6
                  clear hq hpv hu
                  go_wp2_with fail
                  refine (c1 _).mono ?_; rintro q_ w' ⟨rfl, rfl⟩
                  go_wp2_with fail
                  refine (c2 _).mono ?_; rintro q_ w' ⟨rfl, rfl⟩
                  go_wp2_with fail
                  refine c4.mono ?_; rintro q_ w' ⟨rfl, rfl⟩
                  go_wp2_with fail
                  go_quiet ((go_at_call 171; refine Calls.quiet_of_same ((c6 _).mono fun _ _ h => ⟨h.1, h.2.symm⟩)))
                  go_wp2_with fail
                  go_ret
                  exact ⟨ret_bool HF.out.symm, below_drewN hb2 _⟩
                · have HP := Lib.hid (show Wt.prevOk lw s k = true from by rw [hpv]; exact hq)
                  rw [hq] at c6
                  clear hq hpv hu
                  go_wp2_with fail
                  refine (c1 _).mono ?_; rintro q_ w' ⟨rfl, rfl⟩
                  go_wp2_with fail
                  refine (c2 _).mono ?_; rintro q_ w' ⟨rfl, rfl⟩
                  go_wp2_with fail
                  refine c4.mono ?_; rintro q_ w' ⟨rfl, rfl⟩
                  go_wp2_with fail
                  go_quiet ((go_at_call 171; refine Calls.quiet_of_same ((c6 _).mono fun _ _ h => ⟨h.1, h.2.symm⟩)))
                  go_wp2_with fail
                  clear hkm g0 g1
                  have hbI := below_drewN hb2 nq
                  have k0 : ((wr.alloc (.cells #[.int .i64 s.irq, .int .i64 s.prio] 134)).drewN nq).cell? ⟨wr.heap.size, 0, none⟩ = some (.int .i64 s.irq) := by simp
                  clear f0 f1
                  generalize (wr.alloc (.cells #[.int .i64 s.irq, .int .i64 s.prio] 134)).drewN nq = w2 at hbI k0 ⊢
                  have zw2 : wr.heap.size < w2.heap.size := World.block_lt_of_cell? w2 _ k0
                  generalize wr.heap.size = B at k0 zw2 ⊢
                  go_loopw [7] (fun j wz => ∃ m : Nat, m ≤ k ∧ j = .int .i64 m ∧ Below w2.heap.size w2 wz ∧ (lw.take m).any (Wt.isI s.irq) = false) (fun j _ => k - (intOf j).toNat)
                  case atStart => exact ⟨0, Nat.zero_le _, rfl, Below.refl _ _, by simp⟩
                  case round =>
                    obtain ⟨m, hm1, rfl, hbm, hme⟩ := hrel
                    have HA := Lib.hid hme
                    clear hme
                    have hbz := hbI.trans (hbm.mono hbI.size)
                    have k2 := (hbm.cell (p := ⟨B, 0, none⟩) zw2).trans k0
                    by_cases hmk : m < k
                    · have hdm : decide ((m : Int) < (k : Int)) = true := decide_eq_true (by omega)
                      have hmn : (m : Int) < (n : Int) := by omega
                      obtain ⟨_, _, u, e, hu, _, _, g0, g1⟩ := Wt.get hw (k := m) (by omega) hbz hh2
                      injection e with e
                      injection e with e1 e2
                      subst e1; subst e2
                      by_cases hq : u.irq = s.irq
                      · have HF := Lib.hid (HN.out (by
                          have : (lw.take k).any (Wt.isI s.irq) = true := List.any_eq_true.2 ⟨u, List.mem_of_getElem? (by rw [List.getElem?_take, if_pos hmk]; exact hu.out), by simp [Wt.isI, hq]⟩
                          simp only [Wt.okAt, this]; simp))
                        rw [hq] at g0
                        clear hq
                        go_wp2_with fail
                        go_quiet (fail)
                        go_wp2_with fail
                        go_ret
                        exact ⟨ret_bool HF.out.symm, below_drewN hbz _⟩
                      · have hqd : (u.irq == s.irq) = false := by simp [hq]
                        have HF := Lib.hid (show (lw.take (m + 1)).any (Wt.isI s.irq) = false from by rw [List.take_add_one, List.any_append, HA.out, hu.out]; simp [Wt.isI, hq])
                        clear hq
                        go_wp2_with fail
                        go_quiet (fail)
                        go_wp2_with fail
                        go_roundw
                        case rel => exact ⟨m + 1, by omega, by go_num, below_drewN hbm _, HF.out⟩
                        case measure => simp [intOf]; omega
                    · have hdm : decide ((m : Int) < (k : Int)) = false := decide_eq_false (by omega)
                      have hmk2 : m = k := by omega
                      have HM2 := Lib.hid hmk2
                      clear hmk2
                      have HF := Lib.hid (HY.out (by rw [HM2.out] at HA; have ha := HA.out; have hp := HP.out; simp only [Wt.okAt, h1.out, h2.out, h3.out, ha, hp]; rfl))
                      go_wp2_with fail
                      go_roundw
                      case rel => exact ⟨k + 1, by omega, by omega, by go_num, hbz, HF.out⟩
                      case measure => simp [intOf]; omega
      · have hd8 : decide ((k : Int) ≤ 8) = false := decide_eq_false (by omega)
        have HF := Lib.hid (show Qu.parts ls lw = false from by
          cases hq : Qu.parts ls lw
          · rfl
          · have := Qu.parts_len hq; have := H.out; omega)
        have hn8 : decide ((n : Int) ≤ 8) = false := decide_eq_false (by omega)
        generalize Sl.good ls = g at c0
        cases g
        all_goals
          go_wp2_with fail
          refine c0.mono ?_; rintro q_ w1 ⟨rfl, b1⟩
          go_wp2_with fail
          go_ret
          exact ⟨ret_bool HF.out.symm, hb.trans (b1.mono hb.size)⟩
    · have hdn : decide ((k : Int) < (n : Int)) = false := decide_eq_false (by omega)
      have hu : Wt.upTo ls lw lw.length = true := Wt.upTo_mono (by rw [← H.out]; omega) HE.out
      have hl8 := Wt.upTo_len hu
      have hn8 : decide ((n : Int) ≤ 8) = true := decide_eq_true (by rw [H.out]; omega)
      have HF := Lib.hid (show Qu.parts ls lw = Sl.good ls from by rw [Qu.parts, hu, Bool.and_true])
      generalize Sl.good ls = g at c0 HF
      clear hu hl8
      cases g
      all_goals
        go_wp2_with fail
        refine c0.mono ?_; rintro q_ w1 ⟨rfl, b1⟩
        go_wp2_with fail
        go_ret
        exact ⟨ret_bool HF.out.symm, hb.trans (b1.mono hb.size)⟩

end Go.Proofs.YtengaccnncnipaaGreat
