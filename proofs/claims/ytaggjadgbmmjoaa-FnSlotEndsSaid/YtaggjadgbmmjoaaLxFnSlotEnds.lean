/- Ending what is active and pending leaves it pending, and the slot that is evicted has the least urgent interrupt: the law 'FnSlotEnds' says so of every code. No condition. -/
import Derived.Test.YtaggjadgbmmjoaaDrSl2
import Derived.Test.YtaggjadgbmmjoaaVSl
import Derived.Test.YtaggjadgbmmjoaaVNm
import Derived.Test.YtaggjadgbmmjoaaSlMath
namespace Go.Proofs.Ytaggjadgbmmjoaa
open Go.RowKit Go.ChangeShapes Go.WideShapes Go.Deep

set_option maxRecDepth 8000 in
set_option maxHeartbeats 16000000 in
theorem FnSlotEnds_walk (cv : Value) (l : List UInt8) (w : World) (h : Rd By.cells 1 w 0 w.heap.size cv l) :
    Calls Try.prog 3 #[cv] w fun e w' => e = .returned (.bool true) ∧ Below w.heap.size w w' := by
  have hB := Below.refl w.heap.size w
  have z_0 : w.heap.size ≤ w.heap.size := Nat.le_refl _
  have c0 := vBig_any cv l w h
  by_cases hz : 65536 < l.length
  · rw [decide_eq_true hz] at c0
    go_enter Try.func3, Try.ntmps3
    go_wp2_with fail
    refine (c0).mono ?_; rintro q_ w_ ⟨rfl, rfl⟩
    go_wp2_with fail
    go_ret
    exact ⟨rfl, hB⟩
  rw [decide_eq_false hz] at c0
  go_enter Try.func3, Try.ntmps3
  go_wp2_with fail
  refine (c0).mono ?_; rintro q_ w_ ⟨rfl, rfl⟩
  clear c0
  go_wp2_with fail
  refine (DrawEndSlot_any cv l w h (by omega)).mono ?_; rintro q_ w1 ⟨v1, l1, x1, rfl, o1, b_1⟩
  replace h := h.below b_1 (by omega)
  have z_2 := b_1.size
  replace hB := hB.trans (b_1.mono (by omega))
  clear b_1
  cases hk : Sl.eOk l1 x1
  · go_wp2_with fail
    have c1 := implEndSlot_any v1 l1 x1 w1 o1.rd (by omega)
    rw [hk] at c1
    refine (c1).mono ?_; rintro q_ w3 ⟨u1, rfl, p1, _, b_3⟩
    replace h := h.below b_3 (by omega)
    replace o1 := o1.below b_3 (by omega)
    have z_4 := b_3.size
    replace hB := hB.trans (b_3.mono (by omega))
    clear b_3
    clear c1
    go_wp2_with fail
    have c2 := specEndSlot_any v1 l1 x1 w3 o1.rd (by omega)
    rw [hk] at c2
    refine (c2).mono ?_; rintro q_ w5 ⟨t1, rfl, s1, b_5⟩
    replace h := h.below b_5 (by omega)
    replace o1 := o1.below b_5 (by omega)
    replace p1 := p1.below b_5 (by omega)
    have z_6 := b_5.size
    replace hB := hB.trans (b_5.mono (by omega))
    clear b_5
    clear c2 hk
    go_wp2_with fail
    refine (Sl.v_same _ _ _ w5 p1.rd s1 (by omega) (by omega)).mono ?_; rintro q_ w7 ⟨rfl, b_7⟩
    replace h := h.below b_7 (by omega)
    replace o1 := o1.below b_7 (by omega)
    replace p1 := p1.below b_7 (by omega)
    replace s1 := s1.below b_7 (by omega)
    have z_8 := b_7.size
    replace hB := hB.trans (b_7.mono (by omega))
    clear b_7
    clear p1 s1 o1
    go_wp2_with fail
    refine (DrawEvictSlot_any cv l w7 h (by omega)).mono ?_; rintro q_ w9 ⟨v2, l2, rfl, o2, b_9⟩
    replace h := h.below b_9 (by omega)
    have z_10 := b_9.size
    replace hB := hB.trans (b_9.mono (by omega))
    clear b_9
    cases hq : Sl.evOk l2
    · have e1 := Sl.ev_no hq
      go_wp2_with fail
      have c1 := implEvictSlot_any v2 l2 w9 o2.rd (by omega)
      rw [e1.1, e1.2.1, e1.2.2] at c1
      dsimp only at c1
      refine (c1).mono ?_; rintro q_ w11 ⟨u2, rfl, p2, _, b_11⟩
      replace h := h.below b_11 (by omega)
      replace o2 := o2.below b_11 (by omega)
      have z_12 := b_11.size
      replace hB := hB.trans (b_11.mono (by omega))
      clear b_11
      clear c1
      go_wp2_with fail
      have b_13 := (Below.refl w11.heap.size w11).alloc (Nat.le_refl _) (.cells #[.int .i64 0, .int .i64 0, .int .i64 0] 33)
      have bE := Box.new w11 #[.int .i64 0, .int .i64 0, .int .i64 0] 33 rfl
      replace h := h.below b_13 (by omega)
      replace o2 := o2.below b_13 (by omega)
      replace p2 := p2.below b_13 (by omega)
      have z_14 := b_13.size
      replace hB := hB.trans (b_13.mono (by omega))
      clear b_13
      generalize w11.alloc _ = w13 at *
      generalize w11.heap.size = g13 at *
      have c2 := specEvictSlot_any v2 l2 w13 o2.rd (by omega)
      rw [e1.1, e1.2.1, e1.2.2] at c2
      dsimp only at c2
      refine (c2).mono ?_; rintro q_ w15 ⟨t2, rfl, s2, b_15⟩
      replace bE := bE.below b_15 bE.lt
      replace h := h.below b_15 (by omega)
      replace o2 := o2.below b_15 (by omega)
      replace p2 := p2.below b_15 (by omega)
      have z_16 := b_15.size
      replace hB := hB.trans (b_15.mono (by omega))
      clear b_15
      clear c2 e1 hq
      have bE_0 := bE.cell (j := 0) rfl
      have bE_1 := bE.cell (j := 1) rfl
      have bE_2 := bE.cell (j := 2) rfl
      have bE_z := bE.frozen
      have bE_l := bE.lt
      go_wp2_with fail
      clear bE_0 bE_1 bE_2 bE_z bE_l
      have b_17 := (Below.refl w15.heap.size w15).alloc (Nat.le_refl _) (.cells #[.int .i64 0, .int .i64 0, .int .i64 0] 33)
      have bF := Box.new w15 #[.int .i64 0, .int .i64 0, .int .i64 0] 33 rfl
      replace bE := bE.below b_17 bE.lt
      replace h := h.below b_17 (by omega)
      replace o2 := o2.below b_17 (by omega)
      replace p2 := p2.below b_17 (by omega)
      replace s2 := s2.below b_17 (by omega)
      have z_18 := b_17.size
      replace hB := hB.trans (b_17.mono (by omega))
      clear b_17
      generalize w15.alloc _ = w17 at *
      generalize w15.heap.size = g17 at *
      refine (Sl.v_same _ _ _ w17 p2.rd s2 (by omega) (by omega)).mono ?_; rintro q_ w19 ⟨rfl, b_19⟩
      replace bE := bE.below b_19 bE.lt
      replace bF := bF.below b_19 bF.lt
      replace h := h.below b_19 (by omega)
      replace o2 := o2.below b_19 (by omega)
      replace p2 := p2.below b_19 (by omega)
      replace s2 := s2.below b_19 (by omega)
      have z_20 := b_19.size
      replace hB := hB.trans (b_19.mono (by omega))
      clear b_19
      clear p2 s2 o2 bE bF
      go_wp2_with fail
      refine (DrawEmptySlots_any cv l w19 h (by omega)).mono ?_; rintro q_ w21 ⟨v3, l3, rfl, o3, b_21⟩
      replace h := h.below b_21 (by omega)
      have z_22 := b_21.size
      replace hB := hB.trans (b_21.mono (by omega))
      clear b_21
      go_wp2_with fail
      refine (implEmptySlots_any v3 l3 w21 o3.rd (by omega)).mono ?_; rintro q_ w23 ⟨rfl, b_23⟩
      replace h := h.below b_23 (by omega)
      replace o3 := o3.below b_23 (by omega)
      have z_24 := b_23.size
      replace hB := hB.trans (b_23.mono (by omega))
      clear b_23
      go_wp2_with fail
      refine (specEmptySlots_any v3 l3 w23 o3.rd (by omega)).mono ?_; rintro q_ w25 ⟨rfl, b_25⟩
      replace h := h.below b_25 (by omega)
      replace o3 := o3.below b_25 (by omega)
      have z_26 := b_25.size
      replace hB := hB.trans (b_25.mono (by omega))
      clear b_25
      clear o3
      generalize Sl.emp l3 = e3
      generalize Sl.good l3 = g3
      go_wp2_with fail
      refine (DrawActiveIrqs_any cv l w25 h (by omega)).mono ?_; rintro q_ w27 ⟨v4, l4, rfl, o4, b_27⟩
      replace h := h.below b_27 (by omega)
      have z_28 := b_27.size
      replace hB := hB.trans (b_27.mono (by omega))
      clear b_27
      go_wp2_with fail
      refine (implActiveIrqs_any v4 l4 w27 o4.rd (by omega)).mono ?_; rintro q_ w29 ⟨u4, rfl, p4, _, b_29⟩
      replace h := h.below b_29 (by omega)
      replace o4 := o4.below b_29 (by omega)
      have z_30 := b_29.size
      replace hB := hB.trans (b_29.mono (by omega))
      clear b_29
      go_wp2_with fail
      refine (specActiveIrqs_any v4 l4 w29 o4.rd (by omega)).mono ?_; rintro q_ w31 ⟨t4, rfl, s4, b_31⟩
      replace h := h.below b_31 (by omega)
      replace o4 := o4.below b_31 (by omega)
      replace p4 := p4.below b_31 (by omega)
      have z_32 := b_31.size
      replace hB := hB.trans (b_31.mono (by omega))
      clear b_31
      go_wp2_with fail
      refine (vInts_same _ _ _ w31 p4.rd s4 (by omega) (by omega)).mono ?_; rintro q_ w33 ⟨rfl, b_33⟩
      replace h := h.below b_33 (by omega)
      replace o4 := o4.below b_33 (by omega)
      replace p4 := p4.below b_33 (by omega)
      replace s4 := s4.below b_33 (by omega)
      have z_34 := b_33.size
      replace hB := hB.trans (b_33.mono (by omega))
      clear b_33
      clear p4 s4 o4
      go_wp2_with fail
      refine (DrawFindSlot_any cv l w33 h (by omega)).mono ?_; rintro q_ w35 ⟨v5, l5, x5, rfl, o5, b_35⟩
      replace h := h.below b_35 (by omega)
      have z_36 := b_35.size
      replace hB := hB.trans (b_35.mono (by omega))
      clear b_35
      go_wp2_with fail
      refine (implFindSlot_any v5 l5 x5 w35 o5.rd (by omega)).mono ?_; rintro q_ w37 ⟨rfl, b_37⟩
      replace h := h.below b_37 (by omega)
      replace o5 := o5.below b_37 (by omega)
      have z_38 := b_37.size
      replace hB := hB.trans (b_37.mono (by omega))
      clear b_37
      go_wp2_with fail
      refine (specFindSlot_any v5 l5 x5 w37 o5.rd (by omega)).mono ?_; rintro q_ w39 ⟨rfl, b_39⟩
      replace h := h.below b_39 (by omega)
      replace o5 := o5.below b_39 (by omega)
      have z_40 := b_39.size
      replace hB := hB.trans (b_39.mono (by omega))
      clear b_39
      clear o5
      generalize Sl.fsV l5 x5 = e5
      generalize Sl.fsOk l5 x5 = g5
      go_wp2_with fail
      go_ret
      exact ⟨by simp, hB⟩
    · obtain ⟨k, s, hkl, hs, hst, hg, e1, e2, htop, hp1, hp2, hp3⟩ := Sl.evOk_get hq
      go_wp2_with fail
      have c1 := implEvictSlot_any v2 l2 w9 o2.rd (by omega)
      rw [hq, e1, e2] at c1
      refine (c1).mono ?_; rintro q_ w11 ⟨u2, rfl, p2, _, b_11⟩
      replace h := h.below b_11 (by omega)
      replace o2 := o2.below b_11 (by omega)
      have z_12 := b_11.size
      replace hB := hB.trans (b_11.mono (by omega))
      clear b_11
      clear c1
      go_wp2_with fail
      have b_13 := (Below.refl w11.heap.size w11).alloc (Nat.le_refl _) (.cells #[.int .i64 1, .int .i64 s.irq, .int .i64 s.prio] 33)
      have bE := Box.new w11 #[.int .i64 1, .int .i64 s.irq, .int .i64 s.prio] 33 rfl
      replace h := h.below b_13 (by omega)
      replace o2 := o2.below b_13 (by omega)
      replace p2 := p2.below b_13 (by omega)
      have z_14 := b_13.size
      replace hB := hB.trans (b_13.mono (by omega))
      clear b_13
      generalize w11.alloc _ = w13 at *
      generalize w11.heap.size = g13 at *
      have c2 := specEvictSlot_any v2 l2 w13 o2.rd (by omega)
      rw [hq, e1, e2] at c2
      refine (c2).mono ?_; rintro q_ w15 ⟨t2, rfl, s2, b_15⟩
      replace bE := bE.below b_15 bE.lt
      replace h := h.below b_15 (by omega)
      replace o2 := o2.below b_15 (by omega)
      replace p2 := p2.below b_15 (by omega)
      have z_16 := b_15.size
      replace hB := hB.trans (b_15.mono (by omega))
      clear b_15
      clear c2 e1 e2 hq
      have bE_0 := bE.cell (j := 0) rfl
      have bE_1 := bE.cell (j := 1) rfl
      have bE_2 := bE.cell (j := 2) rfl
      have bE_z := bE.frozen
      have bE_l := bE.lt
      go_wp2_with fail
      clear bE_0 bE_1 bE_2 bE_z bE_l
      have b_17 := (Below.refl w15.heap.size w15).alloc (Nat.le_refl _) (.cells #[.int .i64 1, .int .i64 s.irq, .int .i64 s.prio] 33)
      have bF := Box.new w15 #[.int .i64 1, .int .i64 s.irq, .int .i64 s.prio] 33 rfl
      replace bE := bE.below b_17 bE.lt
      replace h := h.below b_17 (by omega)
      replace o2 := o2.below b_17 (by omega)
      replace p2 := p2.below b_17 (by omega)
      replace s2 := s2.below b_17 (by omega)
      have z_18 := b_17.size
      replace hB := hB.trans (b_17.mono (by omega))
      clear b_17
      generalize w15.alloc _ = w17 at *
      generalize w15.heap.size = g17 at *
      have c3 := Sl.v_same _ _ _ w17 p2.rd s2 (by omega) (by omega)
      have HT := Lib.hid htop
      have HP := Lib.hid (And.intro hp1 (And.intro hp2 hp3))
      have HG := Lib.hid hg
      clear htop hp1 hp2 hp3 hg hs hkl hst
      refine (c3).mono ?_; rintro q_ w19 ⟨rfl, b_19⟩
      replace bE := bE.below b_19 bE.lt
      replace bF := bF.below b_19 bF.lt
      replace h := h.below b_19 (by omega)
      replace o2 := o2.below b_19 (by omega)
      replace p2 := p2.below b_19 (by omega)
      replace s2 := s2.below b_19 (by omega)
      have z_20 := b_19.size
      replace hB := hB.trans (b_19.mono (by omega))
      clear b_19
      clear s2 bF
      clear c3
      obtain ⟨A, n, c, rfl, H, hnc, hm⟩ := o2.rd.form
      obtain ⟨A', n', c', rfl, H', hnc', hm'⟩ := p2.rd.form
      have bE_0 := bE.cell (j := 0) rfl
      have bE_1 := bE.cell (j := 1) rfl
      have bE_2 := bE.cell (j := 2) rfl
      have bE_z := bE.frozen
      have bE_l := bE.lt
      go_wp2_with fail
      clear bE_0 bE_1 bE_2 bE_z bE_l
      go_loopw [18] (fun i wr => ∃ k : Nat, i = .int .i64 k ∧ Below w19.heap.size w19 wr) (fun i _ => n - (intOf i).toNat)
      case atStart => exact ⟨0, rfl, Below.refl _ _⟩
      case round =>
        obtain ⟨j, rfl, hb⟩ := hrel
        have hb0 := hb
        replace bE := bE.below hb bE.lt
        replace h := h.below hb (by omega)
        replace o2 := o2.below hb (by omega)
        replace p2 := p2.below hb (by omega)
        have z_21 := hb.size
        replace hB := hB.trans (hb.mono (by omega))
        clear hb
        by_cases hlt : j < n
        · obtain ⟨b, off, y, rfl, hy, _, hb2, f0, f1, f2⟩ := Sl.get o2.rd hlt (Below.refl wr.heap.size wr) (by omega)
          have hji : (j : Int) < (n : Int) := by omega
          have hty := HT.out y (List.mem_of_getElem? hy.out)
          clear hy
          by_cases hy1 : y.state = 1
          · have hty := hty hy1
            rw [hy1] at f0
            have hlt2 : ¬ (s.prio < y.prio ∨ s.prio = y.prio ∧ s.irq < y.irq) := fun hc => by rw [Bool.eq_false_iff] at hty; exact hty ((Wt.lt_iff s.wt y.wt).2 hc)
            clear hty hy1
            by_cases hpp : y.prio = s.prio
            · have m1 : decide (s.prio < y.prio) = false := decide_eq_false (by omega)
              have m2 : (y.prio == s.prio) = true := by rw [beq_iff_eq]; exact hpp
              have m3 : decide (s.irq < y.irq) = false := decide_eq_false (by omega)
              clear hpp hlt2
              have bE_0 := bE.cell (j := 0) rfl
              have bE_1 := bE.cell (j := 1) rfl
              have bE_2 := bE.cell (j := 2) rfl
              have bE_z := bE.frozen
              have bE_l := bE.lt
              go_wp2_with fail
              go_quiet (fail)
              go_wp2_with fail
              clear bE_0 bE_1 bE_2 bE_z bE_l
              go_roundw
              case rel => exact ⟨j + 1, by go_num, below_drewN hb0 _⟩
              case measure => simp [intOf]; omega
            · have m1 : decide (s.prio < y.prio) = false := decide_eq_false (by omega)
              have m2 : (y.prio == s.prio) = false := by rw [beq_eq_false_iff_ne]; exact hpp
              clear hpp hlt2
              have bE_0 := bE.cell (j := 0) rfl
              have bE_1 := bE.cell (j := 1) rfl
              have bE_2 := bE.cell (j := 2) rfl
              have bE_z := bE.frozen
              have bE_l := bE.lt
              go_wp2_with fail
              go_quiet (fail)
              go_wp2_with fail
              clear bE_0 bE_1 bE_2 bE_z bE_l
              go_roundw
              case rel => exact ⟨j + 1, by go_num, below_drewN hb0 _⟩
              case measure => simp [intOf]; omega
          · have hy1b : (y.state == 1) = false := by rw [beq_eq_false_iff_ne]; exact hy1
            clear hty hy1
            have bE_0 := bE.cell (j := 0) rfl
            have bE_1 := bE.cell (j := 1) rfl
            have bE_2 := bE.cell (j := 2) rfl
            have bE_z := bE.frozen
            have bE_l := bE.lt
            go_wp2_with fail
            go_quiet (fail)
            go_wp2_with fail
            clear bE_0 bE_1 bE_2 bE_z bE_l
            go_roundw
            case rel => exact ⟨j + 1, by go_num, below_drewN hb0 _⟩
            case measure => simp [intOf]; omega
        · clear hb0
          have hjd : decide ((j : Int) < (n : Int)) = false := decide_eq_false (by omega)
          have bE_0 := bE.cell (j := 0) rfl
          have bE_1 := bE.cell (j := 1) rfl
          have bE_2 := bE.cell (j := 2) rfl
          have bE_z := bE.frozen
          have bE_l := bE.lt
          go_wp2_with fail
          clear bE_0 bE_1 bE_2 bE_z bE_l
          have c1 := implPutIrq_any _ _ s.irq s.prio wr p2.rd (by omega)
          rw [HP.out.1] at c1
          refine (c1).mono ?_; rintro q_ w22 ⟨u6, rfl, p6, _, b_22⟩
          replace bE := bE.below b_22 bE.lt
          replace h := h.below b_22 (by omega)
          replace o2 := o2.below b_22 (by omega)
          replace p2 := p2.below b_22 (by omega)
          have z_23 := b_22.size
          replace hB := hB.trans (b_22.mono (by omega))
          clear b_22
          clear c1
          have bE_0 := bE.cell (j := 0) rfl
          have bE_1 := bE.cell (j := 1) rfl
          have bE_2 := bE.cell (j := 2) rfl
          have bE_z := bE.frozen
          have bE_l := bE.lt
          go_wp2_with fail
          clear bE_0 bE_1 bE_2 bE_z bE_l
          have c1 := implEmptySlots_any _ _ w22 p6.rd (by omega)
          rw [HP.out.2.1, HP.out.2.2] at c1
          refine (c1).mono ?_; rintro q_ w24 ⟨rfl, b_24⟩
          replace bE := bE.below b_24 bE.lt
          replace h := h.below b_24 (by omega)
          replace o2 := o2.below b_24 (by omega)
          replace p2 := p2.below b_24 (by omega)
          replace p6 := p6.below b_24 (by omega)
          have z_25 := b_24.size
          replace hB := hB.trans (b_24.mono (by omega))
          clear b_24
          clear c1
          have bE_0 := bE.cell (j := 0) rfl
          have bE_1 := bE.cell (j := 1) rfl
          have bE_2 := bE.cell (j := 2) rfl
          have bE_z := bE.frozen
          have bE_l := bE.lt
          go_wp2_with fail
          clear bE_0 bE_1 bE_2 bE_z bE_l
          have c1 := implEmptySlots_any _ l2 w24 o2.rd (by omega)
          rw [HG.out] at c1
          refine (c1).mono ?_; rintro q_ w26 ⟨rfl, b_26⟩
          replace bE := bE.below b_26 bE.lt
          replace h := h.below b_26 (by omega)
          replace o2 := o2.below b_26 (by omega)
          replace p2 := p2.below b_26 (by omega)
          replace p6 := p6.below b_26 (by omega)
          have z_27 := b_26.size
          replace hB := hB.trans (b_26.mono (by omega))
          clear b_26
          clear p6 p2 o2 bE
          clear c1 HP HG HT H H'
          generalize Sl.emp l2 = e2
          go_wp2_with fail
          refine (DrawEmptySlots_any cv l w26 h (by omega)).mono ?_; rintro q_ w28 ⟨v3, l3, rfl, o3, b_28⟩
          replace h := h.below b_28 (by omega)
          have z_29 := b_28.size
          replace hB := hB.trans (b_28.mono (by omega))
          clear b_28
          go_wp2_with fail
          refine (implEmptySlots_any v3 l3 w28 o3.rd (by omega)).mono ?_; rintro q_ w30 ⟨rfl, b_30⟩
          replace h := h.below b_30 (by omega)
          replace o3 := o3.below b_30 (by omega)
          have z_31 := b_30.size
          replace hB := hB.trans (b_30.mono (by omega))
          clear b_30
          go_wp2_with fail
          refine (specEmptySlots_any v3 l3 w30 o3.rd (by omega)).mono ?_; rintro q_ w32 ⟨rfl, b_32⟩
          replace h := h.below b_32 (by omega)
          replace o3 := o3.below b_32 (by omega)
          have z_33 := b_32.size
          replace hB := hB.trans (b_32.mono (by omega))
          clear b_32
          clear o3
          generalize Sl.emp l3 = e3
          generalize Sl.good l3 = g3
          go_wp2_with fail
          refine (DrawActiveIrqs_any cv l w32 h (by omega)).mono ?_; rintro q_ w34 ⟨v4, l4, rfl, o4, b_34⟩
          replace h := h.below b_34 (by omega)
          have z_35 := b_34.size
          replace hB := hB.trans (b_34.mono (by omega))
          clear b_34
          go_wp2_with fail
          refine (implActiveIrqs_any v4 l4 w34 o4.rd (by omega)).mono ?_; rintro q_ w36 ⟨u4, rfl, p4, _, b_36⟩
          replace h := h.below b_36 (by omega)
          replace o4 := o4.below b_36 (by omega)
          have z_37 := b_36.size
          replace hB := hB.trans (b_36.mono (by omega))
          clear b_36
          go_wp2_with fail
          refine (specActiveIrqs_any v4 l4 w36 o4.rd (by omega)).mono ?_; rintro q_ w38 ⟨t4, rfl, s4, b_38⟩
          replace h := h.below b_38 (by omega)
          replace o4 := o4.below b_38 (by omega)
          replace p4 := p4.below b_38 (by omega)
          have z_39 := b_38.size
          replace hB := hB.trans (b_38.mono (by omega))
          clear b_38
          go_wp2_with fail
          refine (vInts_same _ _ _ w38 p4.rd s4 (by omega) (by omega)).mono ?_; rintro q_ w40 ⟨rfl, b_40⟩
          replace h := h.below b_40 (by omega)
          replace o4 := o4.below b_40 (by omega)
          replace p4 := p4.below b_40 (by omega)
          replace s4 := s4.below b_40 (by omega)
          have z_41 := b_40.size
          replace hB := hB.trans (b_40.mono (by omega))
          clear b_40
          clear p4 s4 o4
          go_wp2_with fail
          refine (DrawFindSlot_any cv l w40 h (by omega)).mono ?_; rintro q_ w42 ⟨v5, l5, x5, rfl, o5, b_42⟩
          replace h := h.below b_42 (by omega)
          have z_43 := b_42.size
          replace hB := hB.trans (b_42.mono (by omega))
          clear b_42
          go_wp2_with fail
          refine (implFindSlot_any v5 l5 x5 w42 o5.rd (by omega)).mono ?_; rintro q_ w44 ⟨rfl, b_44⟩
          replace h := h.below b_44 (by omega)
          replace o5 := o5.below b_44 (by omega)
          have z_45 := b_44.size
          replace hB := hB.trans (b_44.mono (by omega))
          clear b_44
          go_wp2_with fail
          refine (specFindSlot_any v5 l5 x5 w44 o5.rd (by omega)).mono ?_; rintro q_ w46 ⟨rfl, b_46⟩
          replace h := h.below b_46 (by omega)
          replace o5 := o5.below b_46 (by omega)
          have z_47 := b_46.size
          replace hB := hB.trans (b_46.mono (by omega))
          clear b_46
          clear o5
          generalize Sl.fsV l5 x5 = e5
          generalize Sl.fsOk l5 x5 = g5
          go_wp2_with fail
          go_ret
          exact ⟨by simp, hB⟩
  · obtain ⟨k, s, hkl, hs, hi, hg, e1, e2, e3, hst⟩ := Sl.eOk_get hk
    go_wp2_with fail
    have c1 := implEndSlot_any v1 l1 x1 w1 o1.rd (by omega)
    rw [hk, e1] at c1
    refine (c1).mono ?_; rintro q_ w3 ⟨u1, rfl, p1, _, b_3⟩
    replace h := h.below b_3 (by omega)
    replace o1 := o1.below b_3 (by omega)
    have z_4 := b_3.size
    replace hB := hB.trans (b_3.mono (by omega))
    clear b_3
    clear c1
    go_wp2_with fail
    have c2 := specEndSlot_any v1 l1 x1 w3 o1.rd (by omega)
    rw [hk, e1] at c2
    refine (c2).mono ?_; rintro q_ w5 ⟨t1, rfl, s1, b_5⟩
    replace h := h.below b_5 (by omega)
    replace o1 := o1.below b_5 (by omega)
    replace p1 := p1.below b_5 (by omega)
    have z_6 := b_5.size
    replace hB := hB.trans (b_5.mono (by omega))
    clear b_5
    clear c2 hk e1 hg hi
    have c3 := Sl.v_same _ _ _ w5 p1.rd s1 (by omega) (by omega)
    have HS := Lib.hid hs
    have HQ := Lib.hid (Sl.set_get hkl (Sl.ended s))
    have HE := Lib.hid (And.intro e2 e3)
    obtain ⟨A, n, c, rfl, H, hnc, hm⟩ := o1.rd.form
    obtain ⟨A', n', c', rfl, H', hnc', hm'⟩ := p1.rd.form
    have hkn : k < n := by rw [H.out]; exact hkl
    have hkn' : k < n' := by rw [H'.out, List.length_set]; exact hkl
    have hki : (k : Int) < (n : Int) := by omega
    have hki' : (k : Int) < (n' : Int) := by omega
    have hgn : decide ((n : Int) ≤ (k : Int)) = false := decide_eq_false (by omega)
    have hgn' : decide ((n' : Int) ≤ (k : Int)) = false := decide_eq_false (by omega)
    have hgk : ¬ n ≤ k := by omega
    have hgk' : ¬ n' ≤ k := by omega
    clear hs hkl e2 e3 H H'
    go_wp2_with fail
    refine (c3).mono ?_; rintro q_ w7 ⟨rfl, b_7⟩
    replace h := h.below b_7 (by omega)
    replace o1 := o1.below b_7 (by omega)
    replace p1 := p1.below b_7 (by omega)
    replace s1 := s1.below b_7 (by omega)
    have z_8 := b_7.size
    replace hB := hB.trans (b_7.mono (by omega))
    clear b_7
    clear s1
    clear c3
    go_wp2_with fail
    have c1 := implFindSlot_any _ l1 x1 w7 o1.rd (by omega)
    rw [HE.out.1, HE.out.2] at c1
    refine (c1).mono ?_; rintro q_ w9 ⟨rfl, b_9⟩
    replace h := h.below b_9 (by omega)
    replace o1 := o1.below b_9 (by omega)
    replace p1 := p1.below b_9 (by omega)
    have z_10 := b_9.size
    replace hB := hB.trans (b_9.mono (by omega))
    clear b_9
    clear c1 HE
    obtain ⟨b, off, t, rfl, ht, _, hb2, f0, f1, f2⟩ := Sl.get o1.rd hkn (Below.refl w9.heap.size w9) (by omega)
    obtain rfl := Option.some.inj (ht.out.symm.trans HS.out)
    obtain ⟨b', off', t', rfl, ht', _, hb3, g0, g1, g2⟩ := Sl.get p1.rd hkn' (Below.refl w9.heap.size w9) (by omega)
    obtain rfl := Option.some.inj (ht'.out.symm.trans HQ.out)
    clear HS HQ ht ht'
    rcases hst with ⟨h2, h3⟩ | ⟨h2, h3⟩
    · rw [h2] at f0
      rw [h3] at g0
      clear h2 h3 f1 f2 g1 g2
      go_wp2_with fail
      clear f0 g0
      clear p1 o1
      refine (DrawEvictSlot_any cv l w9 h (by omega)).mono ?_; rintro q_ w11 ⟨v2, l2, rfl, o2, b_11⟩
      replace h := h.below b_11 (by omega)
      have z_12 := b_11.size
      replace hB := hB.trans (b_11.mono (by omega))
      clear b_11
      cases hq : Sl.evOk l2
      · have e1 := Sl.ev_no hq
        go_wp2_with fail
        have c1 := implEvictSlot_any v2 l2 w11 o2.rd (by omega)
        rw [e1.1, e1.2.1, e1.2.2] at c1
        dsimp only at c1
        refine (c1).mono ?_; rintro q_ w13 ⟨u2, rfl, p2, _, b_13⟩
        replace h := h.below b_13 (by omega)
        replace o2 := o2.below b_13 (by omega)
        have z_14 := b_13.size
        replace hB := hB.trans (b_13.mono (by omega))
        clear b_13
        clear c1
        go_wp2_with fail
        have b_15 := (Below.refl w13.heap.size w13).alloc (Nat.le_refl _) (.cells #[.int .i64 0, .int .i64 0, .int .i64 0] 33)
        have bE := Box.new w13 #[.int .i64 0, .int .i64 0, .int .i64 0] 33 rfl
        replace h := h.below b_15 (by omega)
        replace o2 := o2.below b_15 (by omega)
        replace p2 := p2.below b_15 (by omega)
        have z_16 := b_15.size
        replace hB := hB.trans (b_15.mono (by omega))
        clear b_15
        generalize w13.alloc _ = w15 at *
        generalize w13.heap.size = g15 at *
        have c2 := specEvictSlot_any v2 l2 w15 o2.rd (by omega)
        rw [e1.1, e1.2.1, e1.2.2] at c2
        dsimp only at c2
        refine (c2).mono ?_; rintro q_ w17 ⟨t2, rfl, s2, b_17⟩
        replace bE := bE.below b_17 bE.lt
        replace h := h.below b_17 (by omega)
        replace o2 := o2.below b_17 (by omega)
        replace p2 := p2.below b_17 (by omega)
        have z_18 := b_17.size
        replace hB := hB.trans (b_17.mono (by omega))
        clear b_17
        clear c2 e1 hq
        have bE_0 := bE.cell (j := 0) rfl
        have bE_1 := bE.cell (j := 1) rfl
        have bE_2 := bE.cell (j := 2) rfl
        have bE_z := bE.frozen
        have bE_l := bE.lt
        go_wp2_with fail
        clear bE_0 bE_1 bE_2 bE_z bE_l
        have b_19 := (Below.refl w17.heap.size w17).alloc (Nat.le_refl _) (.cells #[.int .i64 0, .int .i64 0, .int .i64 0] 33)
        have bF := Box.new w17 #[.int .i64 0, .int .i64 0, .int .i64 0] 33 rfl
        replace bE := bE.below b_19 bE.lt
        replace h := h.below b_19 (by omega)
        replace o2 := o2.below b_19 (by omega)
        replace p2 := p2.below b_19 (by omega)
        replace s2 := s2.below b_19 (by omega)
        have z_20 := b_19.size
        replace hB := hB.trans (b_19.mono (by omega))
        clear b_19
        generalize w17.alloc _ = w19 at *
        generalize w17.heap.size = g19 at *
        refine (Sl.v_same _ _ _ w19 p2.rd s2 (by omega) (by omega)).mono ?_; rintro q_ w21 ⟨rfl, b_21⟩
        replace bE := bE.below b_21 bE.lt
        replace bF := bF.below b_21 bF.lt
        replace h := h.below b_21 (by omega)
        replace o2 := o2.below b_21 (by omega)
        replace p2 := p2.below b_21 (by omega)
        replace s2 := s2.below b_21 (by omega)
        have z_22 := b_21.size
        replace hB := hB.trans (b_21.mono (by omega))
        clear b_21
        clear p2 s2 o2 bE bF
        go_wp2_with fail
        refine (DrawEmptySlots_any cv l w21 h (by omega)).mono ?_; rintro q_ w23 ⟨v3, l3, rfl, o3, b_23⟩
        replace h := h.below b_23 (by omega)
        have z_24 := b_23.size
        replace hB := hB.trans (b_23.mono (by omega))
        clear b_23
        go_wp2_with fail
        refine (implEmptySlots_any v3 l3 w23 o3.rd (by omega)).mono ?_; rintro q_ w25 ⟨rfl, b_25⟩
        replace h := h.below b_25 (by omega)
        replace o3 := o3.below b_25 (by omega)
        have z_26 := b_25.size
        replace hB := hB.trans (b_25.mono (by omega))
        clear b_25
        go_wp2_with fail
        refine (specEmptySlots_any v3 l3 w25 o3.rd (by omega)).mono ?_; rintro q_ w27 ⟨rfl, b_27⟩
        replace h := h.below b_27 (by omega)
        replace o3 := o3.below b_27 (by omega)
        have z_28 := b_27.size
        replace hB := hB.trans (b_27.mono (by omega))
        clear b_27
        clear o3
        generalize Sl.emp l3 = e3
        generalize Sl.good l3 = g3
        go_wp2_with fail
        refine (DrawActiveIrqs_any cv l w27 h (by omega)).mono ?_; rintro q_ w29 ⟨v4, l4, rfl, o4, b_29⟩
        replace h := h.below b_29 (by omega)
        have z_30 := b_29.size
        replace hB := hB.trans (b_29.mono (by omega))
        clear b_29
        go_wp2_with fail
        refine (implActiveIrqs_any v4 l4 w29 o4.rd (by omega)).mono ?_; rintro q_ w31 ⟨u4, rfl, p4, _, b_31⟩
        replace h := h.below b_31 (by omega)
        replace o4 := o4.below b_31 (by omega)
        have z_32 := b_31.size
        replace hB := hB.trans (b_31.mono (by omega))
        clear b_31
        go_wp2_with fail
        refine (specActiveIrqs_any v4 l4 w31 o4.rd (by omega)).mono ?_; rintro q_ w33 ⟨t4, rfl, s4, b_33⟩
        replace h := h.below b_33 (by omega)
        replace o4 := o4.below b_33 (by omega)
        replace p4 := p4.below b_33 (by omega)
        have z_34 := b_33.size
        replace hB := hB.trans (b_33.mono (by omega))
        clear b_33
        go_wp2_with fail
        refine (vInts_same _ _ _ w33 p4.rd s4 (by omega) (by omega)).mono ?_; rintro q_ w35 ⟨rfl, b_35⟩
        replace h := h.below b_35 (by omega)
        replace o4 := o4.below b_35 (by omega)
        replace p4 := p4.below b_35 (by omega)
        replace s4 := s4.below b_35 (by omega)
        have z_36 := b_35.size
        replace hB := hB.trans (b_35.mono (by omega))
        clear b_35
        clear p4 s4 o4
        go_wp2_with fail
        refine (DrawFindSlot_any cv l w35 h (by omega)).mono ?_; rintro q_ w37 ⟨v5, l5, x5, rfl, o5, b_37⟩
        replace h := h.below b_37 (by omega)
        have z_38 := b_37.size
        replace hB := hB.trans (b_37.mono (by omega))
        clear b_37
        go_wp2_with fail
        refine (implFindSlot_any v5 l5 x5 w37 o5.rd (by omega)).mono ?_; rintro q_ w39 ⟨rfl, b_39⟩
        replace h := h.below b_39 (by omega)
        replace o5 := o5.below b_39 (by omega)
        have z_40 := b_39.size
        replace hB := hB.trans (b_39.mono (by omega))
        clear b_39
        go_wp2_with fail
        refine (specFindSlot_any v5 l5 x5 w39 o5.rd (by omega)).mono ?_; rintro q_ w41 ⟨rfl, b_41⟩
        replace h := h.below b_41 (by omega)
        replace o5 := o5.below b_41 (by omega)
        have z_42 := b_41.size
        replace hB := hB.trans (b_41.mono (by omega))
        clear b_41
        clear o5
        generalize Sl.fsV l5 x5 = e5
        generalize Sl.fsOk l5 x5 = g5
        go_wp2_with fail
        go_ret
        exact ⟨by simp, hB⟩
      · obtain ⟨k, s, hkl, hs, hst, hg, e1, e2, htop, hp1, hp2, hp3⟩ := Sl.evOk_get hq
        go_wp2_with fail
        have c1 := implEvictSlot_any v2 l2 w11 o2.rd (by omega)
        rw [hq, e1, e2] at c1
        refine (c1).mono ?_; rintro q_ w13 ⟨u2, rfl, p2, _, b_13⟩
        replace h := h.below b_13 (by omega)
        replace o2 := o2.below b_13 (by omega)
        have z_14 := b_13.size
        replace hB := hB.trans (b_13.mono (by omega))
        clear b_13
        clear c1
        go_wp2_with fail
        have b_15 := (Below.refl w13.heap.size w13).alloc (Nat.le_refl _) (.cells #[.int .i64 1, .int .i64 s.irq, .int .i64 s.prio] 33)
        have bE := Box.new w13 #[.int .i64 1, .int .i64 s.irq, .int .i64 s.prio] 33 rfl
        replace h := h.below b_15 (by omega)
        replace o2 := o2.below b_15 (by omega)
        replace p2 := p2.below b_15 (by omega)
        have z_16 := b_15.size
        replace hB := hB.trans (b_15.mono (by omega))
        clear b_15
        generalize w13.alloc _ = w15 at *
        generalize w13.heap.size = g15 at *
        have c2 := specEvictSlot_any v2 l2 w15 o2.rd (by omega)
        rw [hq, e1, e2] at c2
        refine (c2).mono ?_; rintro q_ w17 ⟨t2, rfl, s2, b_17⟩
        replace bE := bE.below b_17 bE.lt
        replace h := h.below b_17 (by omega)
        replace o2 := o2.below b_17 (by omega)
        replace p2 := p2.below b_17 (by omega)
        have z_18 := b_17.size
        replace hB := hB.trans (b_17.mono (by omega))
        clear b_17
        clear c2 e1 e2 hq
        have bE_0 := bE.cell (j := 0) rfl
        have bE_1 := bE.cell (j := 1) rfl
        have bE_2 := bE.cell (j := 2) rfl
        have bE_z := bE.frozen
        have bE_l := bE.lt
        go_wp2_with fail
        clear bE_0 bE_1 bE_2 bE_z bE_l
        have b_19 := (Below.refl w17.heap.size w17).alloc (Nat.le_refl _) (.cells #[.int .i64 1, .int .i64 s.irq, .int .i64 s.prio] 33)
        have bF := Box.new w17 #[.int .i64 1, .int .i64 s.irq, .int .i64 s.prio] 33 rfl
        replace bE := bE.below b_19 bE.lt
        replace h := h.below b_19 (by omega)
        replace o2 := o2.below b_19 (by omega)
        replace p2 := p2.below b_19 (by omega)
        replace s2 := s2.below b_19 (by omega)
        have z_20 := b_19.size
        replace hB := hB.trans (b_19.mono (by omega))
        clear b_19
        generalize w17.alloc _ = w19 at *
        generalize w17.heap.size = g19 at *
        have c3 := Sl.v_same _ _ _ w19 p2.rd s2 (by omega) (by omega)
        have HT := Lib.hid htop
        have HP := Lib.hid (And.intro hp1 (And.intro hp2 hp3))
        have HG := Lib.hid hg
        clear htop hp1 hp2 hp3 hg hs hkl hst
        refine (c3).mono ?_; rintro q_ w21 ⟨rfl, b_21⟩
        replace bE := bE.below b_21 bE.lt
        replace bF := bF.below b_21 bF.lt
        replace h := h.below b_21 (by omega)
        replace o2 := o2.below b_21 (by omega)
        replace p2 := p2.below b_21 (by omega)
        replace s2 := s2.below b_21 (by omega)
        have z_22 := b_21.size
        replace hB := hB.trans (b_21.mono (by omega))
        clear b_21
        clear s2 bF
        clear c3
        obtain ⟨A, n, c, rfl, H, hnc, hm⟩ := o2.rd.form
        obtain ⟨A', n', c', rfl, H', hnc', hm'⟩ := p2.rd.form
        have bE_0 := bE.cell (j := 0) rfl
        have bE_1 := bE.cell (j := 1) rfl
        have bE_2 := bE.cell (j := 2) rfl
        have bE_z := bE.frozen
        have bE_l := bE.lt
        go_wp2_with fail
        clear bE_0 bE_1 bE_2 bE_z bE_l
        go_loopw [18] (fun i wr => ∃ k : Nat, i = .int .i64 k ∧ Below w21.heap.size w21 wr) (fun i _ => n - (intOf i).toNat)
        case atStart => exact ⟨0, rfl, Below.refl _ _⟩
        case round =>
          obtain ⟨j, rfl, hb⟩ := hrel
          have hb0 := hb
          replace bE := bE.below hb bE.lt
          replace h := h.below hb (by omega)
          replace o2 := o2.below hb (by omega)
          replace p2 := p2.below hb (by omega)
          have z_23 := hb.size
          replace hB := hB.trans (hb.mono (by omega))
          clear hb
          by_cases hlt : j < n
          · obtain ⟨b, off, y, rfl, hy, _, hb2, f0, f1, f2⟩ := Sl.get o2.rd hlt (Below.refl wr.heap.size wr) (by omega)
            have hji : (j : Int) < (n : Int) := by omega
            have hty := HT.out y (List.mem_of_getElem? hy.out)
            clear hy
            by_cases hy1 : y.state = 1
            · have hty := hty hy1
              rw [hy1] at f0
              have hlt2 : ¬ (s.prio < y.prio ∨ s.prio = y.prio ∧ s.irq < y.irq) := fun hc => by rw [Bool.eq_false_iff] at hty; exact hty ((Wt.lt_iff s.wt y.wt).2 hc)
              clear hty hy1
              by_cases hpp : y.prio = s.prio
              · have m1 : decide (s.prio < y.prio) = false := decide_eq_false (by omega)
                have m2 : (y.prio == s.prio) = true := by rw [beq_iff_eq]; exact hpp
                have m3 : decide (s.irq < y.irq) = false := decide_eq_false (by omega)
                clear hpp hlt2
                have bE_0 := bE.cell (j := 0) rfl
                have bE_1 := bE.cell (j := 1) rfl
                have bE_2 := bE.cell (j := 2) rfl
                have bE_z := bE.frozen
                have bE_l := bE.lt
                go_wp2_with fail
                go_quiet (fail)
                go_wp2_with fail
                clear bE_0 bE_1 bE_2 bE_z bE_l
                go_roundw
                case rel => exact ⟨j + 1, by go_num, below_drewN hb0 _⟩
                case measure => simp [intOf]; omega
              · have m1 : decide (s.prio < y.prio) = false := decide_eq_false (by omega)
                have m2 : (y.prio == s.prio) = false := by rw [beq_eq_false_iff_ne]; exact hpp
                clear hpp hlt2
                have bE_0 := bE.cell (j := 0) rfl
                have bE_1 := bE.cell (j := 1) rfl
                have bE_2 := bE.cell (j := 2) rfl
                have bE_z := bE.frozen
                have bE_l := bE.lt
                go_wp2_with fail
                go_quiet (fail)
                go_wp2_with fail
                clear bE_0 bE_1 bE_2 bE_z bE_l
                go_roundw
                case rel => exact ⟨j + 1, by go_num, below_drewN hb0 _⟩
                case measure => simp [intOf]; omega
            · have hy1b : (y.state == 1) = false := by rw [beq_eq_false_iff_ne]; exact hy1
              clear hty hy1
              have bE_0 := bE.cell (j := 0) rfl
              have bE_1 := bE.cell (j := 1) rfl
              have bE_2 := bE.cell (j := 2) rfl
              have bE_z := bE.frozen
              have bE_l := bE.lt
              go_wp2_with fail
              go_quiet (fail)
              go_wp2_with fail
              clear bE_0 bE_1 bE_2 bE_z bE_l
              go_roundw
              case rel => exact ⟨j + 1, by go_num, below_drewN hb0 _⟩
              case measure => simp [intOf]; omega
          · clear hb0
            have hjd : decide ((j : Int) < (n : Int)) = false := decide_eq_false (by omega)
            have bE_0 := bE.cell (j := 0) rfl
            have bE_1 := bE.cell (j := 1) rfl
            have bE_2 := bE.cell (j := 2) rfl
            have bE_z := bE.frozen
            have bE_l := bE.lt
            go_wp2_with fail
            clear bE_0 bE_1 bE_2 bE_z bE_l
            have c1 := implPutIrq_any _ _ s.irq s.prio wr p2.rd (by omega)
            rw [HP.out.1] at c1
            refine (c1).mono ?_; rintro q_ w24 ⟨u6, rfl, p6, _, b_24⟩
            replace bE := bE.below b_24 bE.lt
            replace h := h.below b_24 (by omega)
            replace o2 := o2.below b_24 (by omega)
            replace p2 := p2.below b_24 (by omega)
            have z_25 := b_24.size
            replace hB := hB.trans (b_24.mono (by omega))
            clear b_24
            clear c1
            have bE_0 := bE.cell (j := 0) rfl
            have bE_1 := bE.cell (j := 1) rfl
            have bE_2 := bE.cell (j := 2) rfl
            have bE_z := bE.frozen
            have bE_l := bE.lt
            go_wp2_with fail
            clear bE_0 bE_1 bE_2 bE_z bE_l
            have c1 := implEmptySlots_any _ _ w24 p6.rd (by omega)
            rw [HP.out.2.1, HP.out.2.2] at c1
            refine (c1).mono ?_; rintro q_ w26 ⟨rfl, b_26⟩
            replace bE := bE.below b_26 bE.lt
            replace h := h.below b_26 (by omega)
            replace o2 := o2.below b_26 (by omega)
            replace p2 := p2.below b_26 (by omega)
            replace p6 := p6.below b_26 (by omega)
            have z_27 := b_26.size
            replace hB := hB.trans (b_26.mono (by omega))
            clear b_26
            clear c1
            have bE_0 := bE.cell (j := 0) rfl
            have bE_1 := bE.cell (j := 1) rfl
            have bE_2 := bE.cell (j := 2) rfl
            have bE_z := bE.frozen
            have bE_l := bE.lt
            go_wp2_with fail
            clear bE_0 bE_1 bE_2 bE_z bE_l
            have c1 := implEmptySlots_any _ l2 w26 o2.rd (by omega)
            rw [HG.out] at c1
            refine (c1).mono ?_; rintro q_ w28 ⟨rfl, b_28⟩
            replace bE := bE.below b_28 bE.lt
            replace h := h.below b_28 (by omega)
            replace o2 := o2.below b_28 (by omega)
            replace p2 := p2.below b_28 (by omega)
            replace p6 := p6.below b_28 (by omega)
            have z_29 := b_28.size
            replace hB := hB.trans (b_28.mono (by omega))
            clear b_28
            clear p6 p2 o2 bE
            clear c1 HP HG HT H H'
            generalize Sl.emp l2 = e2
            go_wp2_with fail
            refine (DrawEmptySlots_any cv l w28 h (by omega)).mono ?_; rintro q_ w30 ⟨v3, l3, rfl, o3, b_30⟩
            replace h := h.below b_30 (by omega)
            have z_31 := b_30.size
            replace hB := hB.trans (b_30.mono (by omega))
            clear b_30
            go_wp2_with fail
            refine (implEmptySlots_any v3 l3 w30 o3.rd (by omega)).mono ?_; rintro q_ w32 ⟨rfl, b_32⟩
            replace h := h.below b_32 (by omega)
            replace o3 := o3.below b_32 (by omega)
            have z_33 := b_32.size
            replace hB := hB.trans (b_32.mono (by omega))
            clear b_32
            go_wp2_with fail
            refine (specEmptySlots_any v3 l3 w32 o3.rd (by omega)).mono ?_; rintro q_ w34 ⟨rfl, b_34⟩
            replace h := h.below b_34 (by omega)
            replace o3 := o3.below b_34 (by omega)
            have z_35 := b_34.size
            replace hB := hB.trans (b_34.mono (by omega))
            clear b_34
            clear o3
            generalize Sl.emp l3 = e3
            generalize Sl.good l3 = g3
            go_wp2_with fail
            refine (DrawActiveIrqs_any cv l w34 h (by omega)).mono ?_; rintro q_ w36 ⟨v4, l4, rfl, o4, b_36⟩
            replace h := h.below b_36 (by omega)
            have z_37 := b_36.size
            replace hB := hB.trans (b_36.mono (by omega))
            clear b_36
            go_wp2_with fail
            refine (implActiveIrqs_any v4 l4 w36 o4.rd (by omega)).mono ?_; rintro q_ w38 ⟨u4, rfl, p4, _, b_38⟩
            replace h := h.below b_38 (by omega)
            replace o4 := o4.below b_38 (by omega)
            have z_39 := b_38.size
            replace hB := hB.trans (b_38.mono (by omega))
            clear b_38
            go_wp2_with fail
            refine (specActiveIrqs_any v4 l4 w38 o4.rd (by omega)).mono ?_; rintro q_ w40 ⟨t4, rfl, s4, b_40⟩
            replace h := h.below b_40 (by omega)
            replace o4 := o4.below b_40 (by omega)
            replace p4 := p4.below b_40 (by omega)
            have z_41 := b_40.size
            replace hB := hB.trans (b_40.mono (by omega))
            clear b_40
            go_wp2_with fail
            refine (vInts_same _ _ _ w40 p4.rd s4 (by omega) (by omega)).mono ?_; rintro q_ w42 ⟨rfl, b_42⟩
            replace h := h.below b_42 (by omega)
            replace o4 := o4.below b_42 (by omega)
            replace p4 := p4.below b_42 (by omega)
            replace s4 := s4.below b_42 (by omega)
            have z_43 := b_42.size
            replace hB := hB.trans (b_42.mono (by omega))
            clear b_42
            clear p4 s4 o4
            go_wp2_with fail
            refine (DrawFindSlot_any cv l w42 h (by omega)).mono ?_; rintro q_ w44 ⟨v5, l5, x5, rfl, o5, b_44⟩
            replace h := h.below b_44 (by omega)
            have z_45 := b_44.size
            replace hB := hB.trans (b_44.mono (by omega))
            clear b_44
            go_wp2_with fail
            refine (implFindSlot_any v5 l5 x5 w44 o5.rd (by omega)).mono ?_; rintro q_ w46 ⟨rfl, b_46⟩
            replace h := h.below b_46 (by omega)
            replace o5 := o5.below b_46 (by omega)
            have z_47 := b_46.size
            replace hB := hB.trans (b_46.mono (by omega))
            clear b_46
            go_wp2_with fail
            refine (specFindSlot_any v5 l5 x5 w46 o5.rd (by omega)).mono ?_; rintro q_ w48 ⟨rfl, b_48⟩
            replace h := h.below b_48 (by omega)
            replace o5 := o5.below b_48 (by omega)
            have z_49 := b_48.size
            replace hB := hB.trans (b_48.mono (by omega))
            clear b_48
            clear o5
            generalize Sl.fsV l5 x5 = e5
            generalize Sl.fsOk l5 x5 = g5
            go_wp2_with fail
            go_ret
            exact ⟨by simp, hB⟩
    · rw [h2] at f0
      rw [h3] at g0
      clear h2 h3 f1 f2 g1 g2
      go_wp2_with fail
      clear f0 g0
      clear p1 o1
      refine (DrawEvictSlot_any cv l w9 h (by omega)).mono ?_; rintro q_ w11 ⟨v2, l2, rfl, o2, b_11⟩
      replace h := h.below b_11 (by omega)
      have z_12 := b_11.size
      replace hB := hB.trans (b_11.mono (by omega))
      clear b_11
      cases hq : Sl.evOk l2
      · have e1 := Sl.ev_no hq
        go_wp2_with fail
        have c1 := implEvictSlot_any v2 l2 w11 o2.rd (by omega)
        rw [e1.1, e1.2.1, e1.2.2] at c1
        dsimp only at c1
        refine (c1).mono ?_; rintro q_ w13 ⟨u2, rfl, p2, _, b_13⟩
        replace h := h.below b_13 (by omega)
        replace o2 := o2.below b_13 (by omega)
        have z_14 := b_13.size
        replace hB := hB.trans (b_13.mono (by omega))
        clear b_13
        clear c1
        go_wp2_with fail
        have b_15 := (Below.refl w13.heap.size w13).alloc (Nat.le_refl _) (.cells #[.int .i64 0, .int .i64 0, .int .i64 0] 33)
        have bE := Box.new w13 #[.int .i64 0, .int .i64 0, .int .i64 0] 33 rfl
        replace h := h.below b_15 (by omega)
        replace o2 := o2.below b_15 (by omega)
        replace p2 := p2.below b_15 (by omega)
        have z_16 := b_15.size
        replace hB := hB.trans (b_15.mono (by omega))
        clear b_15
        generalize w13.alloc _ = w15 at *
        generalize w13.heap.size = g15 at *
        have c2 := specEvictSlot_any v2 l2 w15 o2.rd (by omega)
        rw [e1.1, e1.2.1, e1.2.2] at c2
        dsimp only at c2
        refine (c2).mono ?_; rintro q_ w17 ⟨t2, rfl, s2, b_17⟩
        replace bE := bE.below b_17 bE.lt
        replace h := h.below b_17 (by omega)
        replace o2 := o2.below b_17 (by omega)
        replace p2 := p2.below b_17 (by omega)
        have z_18 := b_17.size
        replace hB := hB.trans (b_17.mono (by omega))
        clear b_17
        clear c2 e1 hq
        have bE_0 := bE.cell (j := 0) rfl
        have bE_1 := bE.cell (j := 1) rfl
        have bE_2 := bE.cell (j := 2) rfl
        have bE_z := bE.frozen
        have bE_l := bE.lt
        go_wp2_with fail
        clear bE_0 bE_1 bE_2 bE_z bE_l
        have b_19 := (Below.refl w17.heap.size w17).alloc (Nat.le_refl _) (.cells #[.int .i64 0, .int .i64 0, .int .i64 0] 33)
        have bF := Box.new w17 #[.int .i64 0, .int .i64 0, .int .i64 0] 33 rfl
        replace bE := bE.below b_19 bE.lt
        replace h := h.below b_19 (by omega)
        replace o2 := o2.below b_19 (by omega)
        replace p2 := p2.below b_19 (by omega)
        replace s2 := s2.below b_19 (by omega)
        have z_20 := b_19.size
        replace hB := hB.trans (b_19.mono (by omega))
        clear b_19
        generalize w17.alloc _ = w19 at *
        generalize w17.heap.size = g19 at *
        refine (Sl.v_same _ _ _ w19 p2.rd s2 (by omega) (by omega)).mono ?_; rintro q_ w21 ⟨rfl, b_21⟩
        replace bE := bE.below b_21 bE.lt
        replace bF := bF.below b_21 bF.lt
        replace h := h.below b_21 (by omega)
        replace o2 := o2.below b_21 (by omega)
        replace p2 := p2.below b_21 (by omega)
        replace s2 := s2.below b_21 (by omega)
        have z_22 := b_21.size
        replace hB := hB.trans (b_21.mono (by omega))
        clear b_21
        clear p2 s2 o2 bE bF
        go_wp2_with fail
        refine (DrawEmptySlots_any cv l w21 h (by omega)).mono ?_; rintro q_ w23 ⟨v3, l3, rfl, o3, b_23⟩
        replace h := h.below b_23 (by omega)
        have z_24 := b_23.size
        replace hB := hB.trans (b_23.mono (by omega))
        clear b_23
        go_wp2_with fail
        refine (implEmptySlots_any v3 l3 w23 o3.rd (by omega)).mono ?_; rintro q_ w25 ⟨rfl, b_25⟩
        replace h := h.below b_25 (by omega)
        replace o3 := o3.below b_25 (by omega)
        have z_26 := b_25.size
        replace hB := hB.trans (b_25.mono (by omega))
        clear b_25
        go_wp2_with fail
        refine (specEmptySlots_any v3 l3 w25 o3.rd (by omega)).mono ?_; rintro q_ w27 ⟨rfl, b_27⟩
        replace h := h.below b_27 (by omega)
        replace o3 := o3.below b_27 (by omega)
        have z_28 := b_27.size
        replace hB := hB.trans (b_27.mono (by omega))
        clear b_27
        clear o3
        generalize Sl.emp l3 = e3
        generalize Sl.good l3 = g3
        go_wp2_with fail
        refine (DrawActiveIrqs_any cv l w27 h (by omega)).mono ?_; rintro q_ w29 ⟨v4, l4, rfl, o4, b_29⟩
        replace h := h.below b_29 (by omega)
        have z_30 := b_29.size
        replace hB := hB.trans (b_29.mono (by omega))
        clear b_29
        go_wp2_with fail
        refine (implActiveIrqs_any v4 l4 w29 o4.rd (by omega)).mono ?_; rintro q_ w31 ⟨u4, rfl, p4, _, b_31⟩
        replace h := h.below b_31 (by omega)
        replace o4 := o4.below b_31 (by omega)
        have z_32 := b_31.size
        replace hB := hB.trans (b_31.mono (by omega))
        clear b_31
        go_wp2_with fail
        refine (specActiveIrqs_any v4 l4 w31 o4.rd (by omega)).mono ?_; rintro q_ w33 ⟨t4, rfl, s4, b_33⟩
        replace h := h.below b_33 (by omega)
        replace o4 := o4.below b_33 (by omega)
        replace p4 := p4.below b_33 (by omega)
        have z_34 := b_33.size
        replace hB := hB.trans (b_33.mono (by omega))
        clear b_33
        go_wp2_with fail
        refine (vInts_same _ _ _ w33 p4.rd s4 (by omega) (by omega)).mono ?_; rintro q_ w35 ⟨rfl, b_35⟩
        replace h := h.below b_35 (by omega)
        replace o4 := o4.below b_35 (by omega)
        replace p4 := p4.below b_35 (by omega)
        replace s4 := s4.below b_35 (by omega)
        have z_36 := b_35.size
        replace hB := hB.trans (b_35.mono (by omega))
        clear b_35
        clear p4 s4 o4
        go_wp2_with fail
        refine (DrawFindSlot_any cv l w35 h (by omega)).mono ?_; rintro q_ w37 ⟨v5, l5, x5, rfl, o5, b_37⟩
        replace h := h.below b_37 (by omega)
        have z_38 := b_37.size
        replace hB := hB.trans (b_37.mono (by omega))
        clear b_37
        go_wp2_with fail
        refine (implFindSlot_any v5 l5 x5 w37 o5.rd (by omega)).mono ?_; rintro q_ w39 ⟨rfl, b_39⟩
        replace h := h.below b_39 (by omega)
        replace o5 := o5.below b_39 (by omega)
        have z_40 := b_39.size
        replace hB := hB.trans (b_39.mono (by omega))
        clear b_39
        go_wp2_with fail
        refine (specFindSlot_any v5 l5 x5 w39 o5.rd (by omega)).mono ?_; rintro q_ w41 ⟨rfl, b_41⟩
        replace h := h.below b_41 (by omega)
        replace o5 := o5.below b_41 (by omega)
        have z_42 := b_41.size
        replace hB := hB.trans (b_41.mono (by omega))
        clear b_41
        clear o5
        generalize Sl.fsV l5 x5 = e5
        generalize Sl.fsOk l5 x5 = g5
        go_wp2_with fail
        go_ret
        exact ⟨by simp, hB⟩
      · obtain ⟨k, s, hkl, hs, hst, hg, e1, e2, htop, hp1, hp2, hp3⟩ := Sl.evOk_get hq
        go_wp2_with fail
        have c1 := implEvictSlot_any v2 l2 w11 o2.rd (by omega)
        rw [hq, e1, e2] at c1
        refine (c1).mono ?_; rintro q_ w13 ⟨u2, rfl, p2, _, b_13⟩
        replace h := h.below b_13 (by omega)
        replace o2 := o2.below b_13 (by omega)
        have z_14 := b_13.size
        replace hB := hB.trans (b_13.mono (by omega))
        clear b_13
        clear c1
        go_wp2_with fail
        have b_15 := (Below.refl w13.heap.size w13).alloc (Nat.le_refl _) (.cells #[.int .i64 1, .int .i64 s.irq, .int .i64 s.prio] 33)
        have bE := Box.new w13 #[.int .i64 1, .int .i64 s.irq, .int .i64 s.prio] 33 rfl
        replace h := h.below b_15 (by omega)
        replace o2 := o2.below b_15 (by omega)
        replace p2 := p2.below b_15 (by omega)
        have z_16 := b_15.size
        replace hB := hB.trans (b_15.mono (by omega))
        clear b_15
        generalize w13.alloc _ = w15 at *
        generalize w13.heap.size = g15 at *
        have c2 := specEvictSlot_any v2 l2 w15 o2.rd (by omega)
        rw [hq, e1, e2] at c2
        refine (c2).mono ?_; rintro q_ w17 ⟨t2, rfl, s2, b_17⟩
        replace bE := bE.below b_17 bE.lt
        replace h := h.below b_17 (by omega)
        replace o2 := o2.below b_17 (by omega)
        replace p2 := p2.below b_17 (by omega)
        have z_18 := b_17.size
        replace hB := hB.trans (b_17.mono (by omega))
        clear b_17
        clear c2 e1 e2 hq
        have bE_0 := bE.cell (j := 0) rfl
        have bE_1 := bE.cell (j := 1) rfl
        have bE_2 := bE.cell (j := 2) rfl
        have bE_z := bE.frozen
        have bE_l := bE.lt
        go_wp2_with fail
        clear bE_0 bE_1 bE_2 bE_z bE_l
        have b_19 := (Below.refl w17.heap.size w17).alloc (Nat.le_refl _) (.cells #[.int .i64 1, .int .i64 s.irq, .int .i64 s.prio] 33)
        have bF := Box.new w17 #[.int .i64 1, .int .i64 s.irq, .int .i64 s.prio] 33 rfl
        replace bE := bE.below b_19 bE.lt
        replace h := h.below b_19 (by omega)
        replace o2 := o2.below b_19 (by omega)
        replace p2 := p2.below b_19 (by omega)
        replace s2 := s2.below b_19 (by omega)
        have z_20 := b_19.size
        replace hB := hB.trans (b_19.mono (by omega))
        clear b_19
        generalize w17.alloc _ = w19 at *
        generalize w17.heap.size = g19 at *
        have c3 := Sl.v_same _ _ _ w19 p2.rd s2 (by omega) (by omega)
        have HT := Lib.hid htop
        have HP := Lib.hid (And.intro hp1 (And.intro hp2 hp3))
        have HG := Lib.hid hg
        clear htop hp1 hp2 hp3 hg hs hkl hst
        refine (c3).mono ?_; rintro q_ w21 ⟨rfl, b_21⟩
        replace bE := bE.below b_21 bE.lt
        replace bF := bF.below b_21 bF.lt
        replace h := h.below b_21 (by omega)
        replace o2 := o2.below b_21 (by omega)
        replace p2 := p2.below b_21 (by omega)
        replace s2 := s2.below b_21 (by omega)
        have z_22 := b_21.size
        replace hB := hB.trans (b_21.mono (by omega))
        clear b_21
        clear s2 bF
        clear c3
        obtain ⟨A, n, c, rfl, H, hnc, hm⟩ := o2.rd.form
        obtain ⟨A', n', c', rfl, H', hnc', hm'⟩ := p2.rd.form
        have bE_0 := bE.cell (j := 0) rfl
        have bE_1 := bE.cell (j := 1) rfl
        have bE_2 := bE.cell (j := 2) rfl
        have bE_z := bE.frozen
        have bE_l := bE.lt
        go_wp2_with fail
        clear bE_0 bE_1 bE_2 bE_z bE_l
        go_loopw [18] (fun i wr => ∃ k : Nat, i = .int .i64 k ∧ Below w21.heap.size w21 wr) (fun i _ => n - (intOf i).toNat)
        case atStart => exact ⟨0, rfl, Below.refl _ _⟩
        case round =>
          obtain ⟨j, rfl, hb⟩ := hrel
          have hb0 := hb
          replace bE := bE.below hb bE.lt
          replace h := h.below hb (by omega)
          replace o2 := o2.below hb (by omega)
          replace p2 := p2.below hb (by omega)
          have z_23 := hb.size
          replace hB := hB.trans (hb.mono (by omega))
          clear hb
          by_cases hlt : j < n
          · obtain ⟨b, off, y, rfl, hy, _, hb2, f0, f1, f2⟩ := Sl.get o2.rd hlt (Below.refl wr.heap.size wr) (by omega)
            have hji : (j : Int) < (n : Int) := by omega
            have hty := HT.out y (List.mem_of_getElem? hy.out)
            clear hy
            by_cases hy1 : y.state = 1
            · have hty := hty hy1
              rw [hy1] at f0
              have hlt2 : ¬ (s.prio < y.prio ∨ s.prio = y.prio ∧ s.irq < y.irq) := fun hc => by rw [Bool.eq_false_iff] at hty; exact hty ((Wt.lt_iff s.wt y.wt).2 hc)
              clear hty hy1
              by_cases hpp : y.prio = s.prio
              · have m1 : decide (s.prio < y.prio) = false := decide_eq_false (by omega)
                have m2 : (y.prio == s.prio) = true := by rw [beq_iff_eq]; exact hpp
                have m3 : decide (s.irq < y.irq) = false := decide_eq_false (by omega)
                clear hpp hlt2
                have bE_0 := bE.cell (j := 0) rfl
                have bE_1 := bE.cell (j := 1) rfl
                have bE_2 := bE.cell (j := 2) rfl
                have bE_z := bE.frozen
                have bE_l := bE.lt
                go_wp2_with fail
                go_quiet (fail)
                go_wp2_with fail
                clear bE_0 bE_1 bE_2 bE_z bE_l
                go_roundw
                case rel => exact ⟨j + 1, by go_num, below_drewN hb0 _⟩
                case measure => simp [intOf]; omega
              · have m1 : decide (s.prio < y.prio) = false := decide_eq_false (by omega)
                have m2 : (y.prio == s.prio) = false := by rw [beq_eq_false_iff_ne]; exact hpp
                clear hpp hlt2
                have bE_0 := bE.cell (j := 0) rfl
                have bE_1 := bE.cell (j := 1) rfl
                have bE_2 := bE.cell (j := 2) rfl
                have bE_z := bE.frozen
                have bE_l := bE.lt
                go_wp2_with fail
                go_quiet (fail)
                go_wp2_with fail
                clear bE_0 bE_1 bE_2 bE_z bE_l
                go_roundw
                case rel => exact ⟨j + 1, by go_num, below_drewN hb0 _⟩
                case measure => simp [intOf]; omega
            · have hy1b : (y.state == 1) = false := by rw [beq_eq_false_iff_ne]; exact hy1
              clear hty hy1
              have bE_0 := bE.cell (j := 0) rfl
              have bE_1 := bE.cell (j := 1) rfl
              have bE_2 := bE.cell (j := 2) rfl
              have bE_z := bE.frozen
              have bE_l := bE.lt
              go_wp2_with fail
              go_quiet (fail)
              go_wp2_with fail
              clear bE_0 bE_1 bE_2 bE_z bE_l
              go_roundw
              case rel => exact ⟨j + 1, by go_num, below_drewN hb0 _⟩
              case measure => simp [intOf]; omega
          · clear hb0
            have hjd : decide ((j : Int) < (n : Int)) = false := decide_eq_false (by omega)
            have bE_0 := bE.cell (j := 0) rfl
            have bE_1 := bE.cell (j := 1) rfl
            have bE_2 := bE.cell (j := 2) rfl
            have bE_z := bE.frozen
            have bE_l := bE.lt
            go_wp2_with fail
            clear bE_0 bE_1 bE_2 bE_z bE_l
            have c1 := implPutIrq_any _ _ s.irq s.prio wr p2.rd (by omega)
            rw [HP.out.1] at c1
            refine (c1).mono ?_; rintro q_ w24 ⟨u6, rfl, p6, _, b_24⟩
            replace bE := bE.below b_24 bE.lt
            replace h := h.below b_24 (by omega)
            replace o2 := o2.below b_24 (by omega)
            replace p2 := p2.below b_24 (by omega)
            have z_25 := b_24.size
            replace hB := hB.trans (b_24.mono (by omega))
            clear b_24
            clear c1
            have bE_0 := bE.cell (j := 0) rfl
            have bE_1 := bE.cell (j := 1) rfl
            have bE_2 := bE.cell (j := 2) rfl
            have bE_z := bE.frozen
            have bE_l := bE.lt
            go_wp2_with fail
            clear bE_0 bE_1 bE_2 bE_z bE_l
            have c1 := implEmptySlots_any _ _ w24 p6.rd (by omega)
            rw [HP.out.2.1, HP.out.2.2] at c1
            refine (c1).mono ?_; rintro q_ w26 ⟨rfl, b_26⟩
            replace bE := bE.below b_26 bE.lt
            replace h := h.below b_26 (by omega)
            replace o2 := o2.below b_26 (by omega)
            replace p2 := p2.below b_26 (by omega)
            replace p6 := p6.below b_26 (by omega)
            have z_27 := b_26.size
            replace hB := hB.trans (b_26.mono (by omega))
            clear b_26
            clear c1
            have bE_0 := bE.cell (j := 0) rfl
            have bE_1 := bE.cell (j := 1) rfl
            have bE_2 := bE.cell (j := 2) rfl
            have bE_z := bE.frozen
            have bE_l := bE.lt
            go_wp2_with fail
            clear bE_0 bE_1 bE_2 bE_z bE_l
            have c1 := implEmptySlots_any _ l2 w26 o2.rd (by omega)
            rw [HG.out] at c1
            refine (c1).mono ?_; rintro q_ w28 ⟨rfl, b_28⟩
            replace bE := bE.below b_28 bE.lt
            replace h := h.below b_28 (by omega)
            replace o2 := o2.below b_28 (by omega)
            replace p2 := p2.below b_28 (by omega)
            replace p6 := p6.below b_28 (by omega)
            have z_29 := b_28.size
            replace hB := hB.trans (b_28.mono (by omega))
            clear b_28
            clear p6 p2 o2 bE
            clear c1 HP HG HT H H'
            generalize Sl.emp l2 = e2
            go_wp2_with fail
            refine (DrawEmptySlots_any cv l w28 h (by omega)).mono ?_; rintro q_ w30 ⟨v3, l3, rfl, o3, b_30⟩
            replace h := h.below b_30 (by omega)
            have z_31 := b_30.size
            replace hB := hB.trans (b_30.mono (by omega))
            clear b_30
            go_wp2_with fail
            refine (implEmptySlots_any v3 l3 w30 o3.rd (by omega)).mono ?_; rintro q_ w32 ⟨rfl, b_32⟩
            replace h := h.below b_32 (by omega)
            replace o3 := o3.below b_32 (by omega)
            have z_33 := b_32.size
            replace hB := hB.trans (b_32.mono (by omega))
            clear b_32
            go_wp2_with fail
            refine (specEmptySlots_any v3 l3 w32 o3.rd (by omega)).mono ?_; rintro q_ w34 ⟨rfl, b_34⟩
            replace h := h.below b_34 (by omega)
            replace o3 := o3.below b_34 (by omega)
            have z_35 := b_34.size
            replace hB := hB.trans (b_34.mono (by omega))
            clear b_34
            clear o3
            generalize Sl.emp l3 = e3
            generalize Sl.good l3 = g3
            go_wp2_with fail
            refine (DrawActiveIrqs_any cv l w34 h (by omega)).mono ?_; rintro q_ w36 ⟨v4, l4, rfl, o4, b_36⟩
            replace h := h.below b_36 (by omega)
            have z_37 := b_36.size
            replace hB := hB.trans (b_36.mono (by omega))
            clear b_36
            go_wp2_with fail
            refine (implActiveIrqs_any v4 l4 w36 o4.rd (by omega)).mono ?_; rintro q_ w38 ⟨u4, rfl, p4, _, b_38⟩
            replace h := h.below b_38 (by omega)
            replace o4 := o4.below b_38 (by omega)
            have z_39 := b_38.size
            replace hB := hB.trans (b_38.mono (by omega))
            clear b_38
            go_wp2_with fail
            refine (specActiveIrqs_any v4 l4 w38 o4.rd (by omega)).mono ?_; rintro q_ w40 ⟨t4, rfl, s4, b_40⟩
            replace h := h.below b_40 (by omega)
            replace o4 := o4.below b_40 (by omega)
            replace p4 := p4.below b_40 (by omega)
            have z_41 := b_40.size
            replace hB := hB.trans (b_40.mono (by omega))
            clear b_40
            go_wp2_with fail
            refine (vInts_same _ _ _ w40 p4.rd s4 (by omega) (by omega)).mono ?_; rintro q_ w42 ⟨rfl, b_42⟩
            replace h := h.below b_42 (by omega)
            replace o4 := o4.below b_42 (by omega)
            replace p4 := p4.below b_42 (by omega)
            replace s4 := s4.below b_42 (by omega)
            have z_43 := b_42.size
            replace hB := hB.trans (b_42.mono (by omega))
            clear b_42
            clear p4 s4 o4
            go_wp2_with fail
            refine (DrawFindSlot_any cv l w42 h (by omega)).mono ?_; rintro q_ w44 ⟨v5, l5, x5, rfl, o5, b_44⟩
            replace h := h.below b_44 (by omega)
            have z_45 := b_44.size
            replace hB := hB.trans (b_44.mono (by omega))
            clear b_44
            go_wp2_with fail
            refine (implFindSlot_any v5 l5 x5 w44 o5.rd (by omega)).mono ?_; rintro q_ w46 ⟨rfl, b_46⟩
            replace h := h.below b_46 (by omega)
            replace o5 := o5.below b_46 (by omega)
            have z_47 := b_46.size
            replace hB := hB.trans (b_46.mono (by omega))
            clear b_46
            go_wp2_with fail
            refine (specFindSlot_any v5 l5 x5 w46 o5.rd (by omega)).mono ?_; rintro q_ w48 ⟨rfl, b_48⟩
            replace h := h.below b_48 (by omega)
            replace o5 := o5.below b_48 (by omega)
            have z_49 := b_48.size
            replace hB := hB.trans (b_48.mono (by omega))
            clear b_48
            clear o5
            generalize Sl.fsV l5 x5 = e5
            generalize Sl.fsOk l5 x5 = g5
            go_wp2_with fail
            go_ret
            exact ⟨by simp, hB⟩

set_option maxRecDepth 100000 in
theorem FnSlotEnds_holds : Rows.FnSlotEndsSaid :=
  OpenClaim.holds_of_wide 3 Try.f3 rfl rfl rfl rfl rfl rfl rfl ⟨rfl, rfl, rfl, rfl, rfl⟩ rfl rfl rfl rfl rfl (by kernel_rfl) Try.func3 (by kernel_rfl)
    (of_decide_eq_true (by kernel_rfl)) (by unfold Func.isWrapper; first | (rw [if_pos (by decide +kernel)]; kernel_rfl) | (rw [if_neg (by decide +kernel)]; exact ⟨rfl, rfl⟩))
    (fun os started H enc _ => law_lifted (C := Try.checked) (s := Rows.fnSlotEndsSpec) own started (by kernel_rfl) Try.func3
      (ChangeSpec.witness6 (enc := enc) (C := Try.checked) false ⟨#[], #[.slice none 0 0], []⟩ 8 (by kernel_rfl) (by kernel_rfl) (by kernel_rfl) (by kernel_rfl))
      laidOut (by kernel_rfl) rfl rfl Try.underlying4 (fun ds h => by match ds, h with | [_], _ => rfl)
      (fun W base args ds p hval0 hA0 => by
        have hval : ∀ (j : Nat) t v, Try.f3.params[j]? = some t → args[j]? = some v → Value.okWide Try.prog W .any base t v := hval0
        have hA : DataW.TrodAll enc Try.prog W 0 (fun _ => true) true Try.f3.params.toList args.toList ds p := hA0
        rw [Try.params3] at hA hval
        obtain ⟨v0, vs0, d0, ds0, p0, q0, hargs, rfl, rfl, h0, r0⟩ := trodAll_cons hA
        obtain ⟨rfl, rfl, rfl⟩ := trodAll_nil r0
        obtain rfl : args = #[v0] := by cases args; simp_all
        obtain ⟨l, k0⟩ := By.openS (hval 0 22 v0 rfl rfl) h0
        exact FnSlotEnds_walk v0 l W k0))

end Go.Proofs.Ytaggjadgbmmjoaa
