/- An interrupt that is put and taken is active in exactly one slot until it is ended, and slots are recovered from their texts: the law 'FnSlots' says so of every code. Condition: the library's variables read as their own initialisers lay them, which the card ties to the program's text. -/
import Derived.Test.YtaggjadgbmmjoaaGreatDoorMcSlB
namespace Go.Proofs.YtaggjadgbmmjoaaGreatDoor
open Go.RowKit Go.ChangeShapes Go.WideShapes Go.Deep

set_option maxRecDepth 8000 in
set_option maxHeartbeats 16000000 in
theorem FnSlots_walk (cv : Value) (l : List UInt8) (w : World) (h : Rd By.cells 1 w 0 w.heap.size cv l) (hE : Tx.Env w) :
    Calls Tryz.prog 3 #[cv] w fun e w' => e = .returned (.bool true) ∧ Below w.heap.size w w' := by
  have hB := Below.refl w.heap.size w
  have z_0 : w.heap.size ≤ w.heap.size := Nat.le_refl _
  have c0 := vBig_any cv l w h
  by_cases hz : 65536 < l.length
  · rw [decide_eq_true hz] at c0
    go_enter Tryz.func3, Tryz.ntmps3
    go_wp2_with fail
    refine (c0).mono ?_; rintro q_ w_ ⟨rfl, rfl⟩
    go_wp2_with fail
    go_ret
    exact ⟨rfl, hB⟩
  rw [decide_eq_false hz] at c0
  go_enter Tryz.func3, Tryz.ntmps3
  go_wp2_with fail
  refine (c0).mono ?_; rintro q_ w_ ⟨rfl, rfl⟩
  clear c0
  go_wp2_with fail
  refine (DrawPutIrq_any cv l w h (by omega)).mono ?_; rintro q_ w1 ⟨v1, l1, x1, y1, rfl, o1, b_1⟩
  replace h := h.below b_1 (by omega)
  have z_2 := b_1.size
  replace hB := hB.trans (b_1.mono (by omega))
  clear b_1
  obtain ⟨ok1, hz_⟩ : ∃ o, Sl.pOk l1 x1 y1 = o := ⟨_, rfl⟩
  have Hok1 := Lib.hid hz_
  clear hz_
  have nok1 : (ok1 != ok1) = false := by simp
  obtain ⟨R1, hz_⟩ : ∃ o, Sl.pR l1 x1 y1 = o := ⟨_, rfl⟩
  have HR1 := Lib.hid hz_
  clear hz_
  obtain ⟨gd1, hz_⟩ : ∃ o, Sl.good l1 = o := ⟨_, rfl⟩
  have Hgd1 := Lib.hid hz_
  clear hz_
  have ngd1 : (gd1 != gd1) = false := by simp
  go_wp2_with fail
  have c1 := implPutIrq_any v1 l1 x1 y1 w1 o1.rd (by omega)
  rw [Hok1.out, HR1.out] at c1
  refine (c1).mono ?_; rintro q_ w3 ⟨u1, rfl, p1, _, b_3⟩
  replace h := h.below b_3 (by omega)
  replace o1 := o1.below b_3 (by omega)
  have z_4 := b_3.size
  replace hB := hB.trans (b_3.mono (by omega))
  clear b_3
  clear c1
  go_wp2_with fail
  have c2 := specPutIrq_any v1 l1 x1 y1 w3 o1.rd (by omega)
  rw [Hok1.out, HR1.out] at c2
  refine (c2).mono ?_; rintro q_ w5 ⟨t1, rfl, s1, b_5⟩
  replace h := h.below b_5 (by omega)
  replace o1 := o1.below b_5 (by omega)
  replace p1 := p1.below b_5 (by omega)
  have z_6 := b_5.size
  replace hB := hB.trans (b_5.mono (by omega))
  clear b_5
  clear c2
  go_wp2_with fail
  refine (Sl.v_same _ _ _ w5 p1.rd s1 (by omega) (by omega)).mono ?_; rintro q_ w7 ⟨rfl, b_7⟩
  replace h := h.below b_7 (by omega)
  replace o1 := o1.below b_7 (by omega)
  replace p1 := p1.below b_7 (by omega)
  replace s1 := s1.below b_7 (by omega)
  have z_8 := b_7.size
  replace hB := hB.trans (b_7.mono (by omega))
  clear b_7
  clear s1
  go_wp2_with fail
  have c1 := implAreSlots_any v1 l1 w7 o1.rd (by omega)
  rw [Hgd1.out] at c1
  refine (c1).mono ?_; rintro q_ w9 ⟨rfl, b_9⟩
  replace h := h.below b_9 (by omega)
  replace o1 := o1.below b_9 (by omega)
  replace p1 := p1.below b_9 (by omega)
  have z_10 := b_9.size
  replace hB := hB.trans (b_9.mono (by omega))
  clear b_9
  clear c1
  go_wp2_with fail
  have c1 := specAreSlots_any v1 l1 w9 o1.rd (by omega)
  rw [Hgd1.out] at c1
  refine (c1).mono ?_; rintro q_ w11 ⟨rfl, b_11⟩
  replace h := h.below b_11 (by omega)
  replace o1 := o1.below b_11 (by omega)
  replace p1 := p1.below b_11 (by omega)
  have z_12 := b_11.size
  replace hB := hB.trans (b_11.mono (by omega))
  clear b_11
  clear c1
  clear o1
  go_upto_if 83 with fail
  go_cut [10, 11] from 84 to 117 (fun _s10 _s11 wx => Below w11.heap.size w11 wx)
  case first =>
    as_aux_lemma =>
      have hBf := Below.refl w11.heap.size w11
      cases ok1
      · go_wp2_with fail
        go_meet
        exact hBf
      · have hP := Sl.pOk_get Hok1.out
        rw [HR1.out] at hP
        obtain ⟨k, s, hk, hs, hst, e1, e2⟩ := hP
        have HE := Lib.hid (And.intro e1 e2)
        have HS := Lib.hid hs
        obtain ⟨A', n', c', rfl, H', hnc', hm'⟩ := p1.rd.form
        have hkn' : k < n' := by rw [H'.out]; exact hk
        have hki' : (k : Int) < (n' : Int) := by omega
        have hgn' : decide ((n' : Int) ≤ (k : Int)) = false := decide_eq_false (by omega)
        have hgk' : ¬ n' ≤ k := by omega
        clear hk hs e1 e2 H'
        go_wp2_with fail
        have c1 := implFindSlot_any _ R1 x1 w11 p1.rd (by omega)
        rw [HE.out.1, HE.out.2] at c1
        refine (c1).mono ?_; rintro q_ w13 ⟨rfl, b_13⟩
        replace h := h.below b_13 (by omega)
        replace p1 := p1.below b_13 (by omega)
        have z_14 := b_13.size
        replace hBf := hBf.trans (b_13.mono (by omega))
        clear b_13
        clear c1 HE
        obtain ⟨b', off', t', rfl, ht', _, hb3, g0, g1, g2⟩ := Sl.get p1.rd hkn' (Below.refl w13.heap.size w13) (by omega)
        obtain rfl := Option.some.inj (ht'.out.symm.trans HS.out)
        clear HS ht'
        rcases hst with h2 | h2
        · rw [h2] at g0
          clear h2 g1 g2
          go_wp2_with fail
          go_meet
          exact hBf
        · rw [h2] at g0
          clear h2 g1 g2
          go_wp2_with fail
          go_meet
          exact hBf
  case rest =>
    have hb := hcut
    replace h := h.below hb (by omega)
    replace p1 := p1.below hb (by omega)
    have z_13 := hb.size
    replace hB := hB.trans (hb.mono (by omega))
    clear hb
    clear p1
    clear Hok1 HR1 Hgd1 ngd1 nok1
    go_wp2_with fail
    refine (DrawTakeSlot_any cv l wc h (by omega)).mono ?_; rintro q_ w14 ⟨v2, l2, m2, rfl, o2, b_14⟩
    replace h := h.below b_14 (by omega)
    have z_15 := b_14.size
    replace hB := hB.trans (b_14.mono (by omega))
    clear b_14
    obtain ⟨ok2, hz_⟩ : ∃ o, Sl.ttOk l2 m2 = o := ⟨_, rfl⟩
    have Hok2 := Lib.hid hz_
    clear hz_
    have nok2 : (ok2 != ok2) = false := by simp
    obtain ⟨R2, hz_⟩ : ∃ o, Sl.ttR l2 m2 = o := ⟨_, rfl⟩
    have HR2 := Lib.hid hz_
    clear hz_
    obtain ⟨i2, hz_⟩ : ∃ o, Sl.ttV l2 m2 = o := ⟨_, rfl⟩
    have Hi2 := Lib.hid hz_
    clear hz_
    have ni2 : (i2 != i2) = false := by simp
    go_wp2_with fail
    have c1 := implTakeSlot_any v2 l2 m2 w14 o2.rd (by omega)
    rw [Hok2.out, HR2.out, Hi2.out] at c1
    refine (c1).mono ?_; rintro q_ w16 ⟨u2, rfl, p2, _, b_16⟩
    replace h := h.below b_16 (by omega)
    replace o2 := o2.below b_16 (by omega)
    have z_17 := b_16.size
    replace hB := hB.trans (b_16.mono (by omega))
    clear b_16
    clear c1
    go_wp2_with fail
    have c1 := specTakeSlot_any v2 l2 m2 w16 o2.rd (by omega)
    rw [Hok2.out, HR2.out, Hi2.out] at c1
    refine (c1).mono ?_; rintro q_ w18 ⟨t2, rfl, s2, b_18⟩
    replace h := h.below b_18 (by omega)
    replace o2 := o2.below b_18 (by omega)
    replace p2 := p2.below b_18 (by omega)
    have z_19 := b_18.size
    replace hB := hB.trans (b_18.mono (by omega))
    clear b_18
    clear c1
    go_wp2_with fail
    refine (Sl.v_same _ _ _ w18 p2.rd s2 (by omega) (by omega)).mono ?_; rintro q_ w20 ⟨rfl, b_20⟩
    replace h := h.below b_20 (by omega)
    replace o2 := o2.below b_20 (by omega)
    replace p2 := p2.below b_20 (by omega)
    replace s2 := s2.below b_20 (by omega)
    have z_21 := b_20.size
    replace hB := hB.trans (b_20.mono (by omega))
    clear b_20
    clear s2
    cases ok2
    · as_aux_lemma =>
        clear p2 o2
        clear Hok2 HR2 Hi2 nok2 ni2
        go_wp2_with fail
        refine (DrawSlotsText_any cv l w20 h (by omega)).mono ?_; rintro q_ w22 ⟨v3, l3, rfl, o3, b_22⟩
        replace h := h.below b_22 (by omega)
        have z_23 := b_22.size
        replace hB := hB.trans (b_22.mono (by omega))
        clear b_22
        have hT3 := Tx.txR_size l3
        obtain ⟨T3, hz_⟩ : ∃ o, Tx.txR l3 = o := ⟨_, rfl⟩
        have HT3 := Lib.hid hz_
        clear hz_
        rw [HT3.out] at hT3
        have nT3 : (T3.toList != T3.toList) = false := by simp
        obtain ⟨gd3, hz_⟩ : ∃ o, Sl.good l3 = o := ⟨_, rfl⟩
        have Hgd3 := Lib.hid hz_
        clear hz_
        have ngd3 : (gd3 != gd3) = false := by simp
        go_wp2_with fail
        have c1 := implSlotsText_any v3 l3 w22 o3.rd (by omega)
        rw [HT3.out, Hgd3.out] at c1
        refine (c1).mono ?_; rintro q_ w24 ⟨rfl, b_24⟩
        replace h := h.below b_24 (by omega)
        replace o3 := o3.below b_24 (by omega)
        have z_25 := b_24.size
        replace hB := hB.trans (b_24.mono (by omega))
        clear b_24
        clear c1
        go_wp2_with fail
        refine (implParseSlots_any T3 w24 (by omega) (hE.below hB)).mono ?_; rintro q_ w26 ⟨⟨vP, lP, okP, rfl, hpP, oP⟩, b_26⟩
        replace h := h.below b_26 (by omega)
        replace o3 := o3.below b_26 (by omega)
        have z_27 := b_26.size
        replace hB := hB.trans (b_26.mono (by omega))
        clear b_26
        have HP := Lib.hid hpP
        clear hpP
        go_wp2_with fail
        have c1 := specSlotsText_any v3 l3 w26 o3.rd (by omega)
        rw [HT3.out, Hgd3.out] at c1
        refine (c1).mono ?_; rintro q_ w28 ⟨rfl, b_28⟩
        replace h := h.below b_28 (by omega)
        replace o3 := o3.below b_28 (by omega)
        replace oP := oP.below b_28 (by omega)
        have z_29 := b_28.size
        replace hB := hB.trans (b_28.mono (by omega))
        clear b_28
        clear c1
        cases gd3
        · clear HP
          clear oP o3
          go_wp2_with fail
          refine (DrawParseSlots_any cv l w28 h (by omega)).mono ?_; rintro q_ w30 ⟨T4, rfl, hT4, b_30⟩
          replace h := h.below b_30 (by omega)
          have z_31 := b_30.size
          replace hB := hB.trans (b_30.mono (by omega))
          clear b_30
          go_wp2_with fail
          refine (implParseSlots_any T4 w30 hT4 (hE.below hB)).mono ?_; rintro q_ w32 ⟨⟨vQ, lQ, okQ, rfl, hpQ, oQ⟩, b_32⟩
          replace h := h.below b_32 (by omega)
          have z_33 := b_32.size
          replace hB := hB.trans (b_32.mono (by omega))
          clear b_32
          go_wp2_with fail
          refine (specParseSlots_any T4 w32 hT4).mono ?_; rintro q_ w34 ⟨⟨vR, lR, okR, rfl, hpR, oR⟩, b_34⟩
          replace h := h.below b_34 (by omega)
          replace oQ := oQ.below b_34 (by omega)
          have z_35 := b_34.size
          replace hB := hB.trans (b_34.mono (by omega))
          clear b_34
          obtain ⟨rfl, rfl⟩ := hpQ.same hpR
          clear hpQ hpR
          have nok : (okQ == okQ) = true := by simp
          go_wp2_with fail
          refine (Sl.v_same _ _ _ w34 oQ.rd oR.rd (by omega) (by omega)).mono ?_; rintro q_ w36 ⟨rfl, b_36⟩
          replace h := h.below b_36 (by omega)
          replace oQ := oQ.below b_36 (by omega)
          replace oR := oR.below b_36 (by omega)
          have z_37 := b_36.size
          replace hB := hB.trans (b_36.mono (by omega))
          clear b_36
          go_wp2_with fail
          go_ret
          exact ⟨by simp, hB⟩
        · obtain ⟨rfl, rfl⟩ := HP.out.back Hgd3.out (by rw [← HT3.out, Tx.tx_yes Hgd3.out])
          clear HP HT3 Hgd3
          go_wp2_with fail
          refine (Sl.v_same _ _ _ w28 oP.rd o3.rd (by omega) (by omega)).mono ?_; rintro q_ w30 ⟨rfl, b_30⟩
          replace h := h.below b_30 (by omega)
          replace o3 := o3.below b_30 (by omega)
          replace oP := oP.below b_30 (by omega)
          have z_31 := b_30.size
          replace hB := hB.trans (b_30.mono (by omega))
          clear b_30
          clear oP o3
          go_wp2_with fail
          refine (DrawParseSlots_any cv l w30 h (by omega)).mono ?_; rintro q_ w32 ⟨T4, rfl, hT4, b_32⟩
          replace h := h.below b_32 (by omega)
          have z_33 := b_32.size
          replace hB := hB.trans (b_32.mono (by omega))
          clear b_32
          go_wp2_with fail
          refine (implParseSlots_any T4 w32 hT4 (hE.below hB)).mono ?_; rintro q_ w34 ⟨⟨vQ, lQ, okQ, rfl, hpQ, oQ⟩, b_34⟩
          replace h := h.below b_34 (by omega)
          have z_35 := b_34.size
          replace hB := hB.trans (b_34.mono (by omega))
          clear b_34
          go_wp2_with fail
          refine (specParseSlots_any T4 w34 hT4).mono ?_; rintro q_ w36 ⟨⟨vR, lR, okR, rfl, hpR, oR⟩, b_36⟩
          replace h := h.below b_36 (by omega)
          replace oQ := oQ.below b_36 (by omega)
          have z_37 := b_36.size
          replace hB := hB.trans (b_36.mono (by omega))
          clear b_36
          obtain ⟨rfl, rfl⟩ := hpQ.same hpR
          clear hpQ hpR
          have nok : (okQ == okQ) = true := by simp
          go_wp2_with fail
          refine (Sl.v_same _ _ _ w36 oQ.rd oR.rd (by omega) (by omega)).mono ?_; rintro q_ w38 ⟨rfl, b_38⟩
          replace h := h.below b_38 (by omega)
          replace oQ := oQ.below b_38 (by omega)
          replace oR := oR.below b_38 (by omega)
          have z_39 := b_38.size
          replace hB := hB.trans (b_38.mono (by omega))
          clear b_38
          go_wp2_with fail
          go_ret
          exact ⟨by simp, hB⟩
    · obtain ⟨k, s, hk, hs, hst, hg, eR, eV, hp, htop, q1, q2, q3, q4, q5, q6, q7, q8⟩ := Sl.ttOk_get Hok2.out
      rw [← eR, HR2.out] at q1 q2 q3 q4 q5 q6 q7 q8
      rw [← eV, Hi2.out] at q2 q3 q4 q6 q7 q8
      have hget : R2[k]? = some (Sl.act s) := by rw [← HR2.out, eR]; exact Sl.set_get hk _
      have hlen2 : R2.length = l2.length := by rw [← HR2.out, eR, List.length_set]
      have hsi : s.irq = i2 := by rw [← eV, Hi2.out]
      have HQ1 := Lib.hid q1
      have HQ2 := Lib.hid (And.intro q2 q3)
      have HQ4 := Lib.hid (show (Sl.actR R2).contains i2 = true by simpa using q4)
      have HQ5 := Lib.hid q5
      have HQ6 := Lib.hid q6
      have HQ7 := Lib.hid (And.intro q7 q8)
      have HG := Lib.hid hg
      have HT := Lib.hid htop
      have HGet := Lib.hid hget
      have HSI := Lib.hid hsi
      obtain ⟨A, n, c, rfl, H, hnc, hm⟩ := o2.rd.form
      obtain ⟨A', n', c', rfl, H', hnc', hm'⟩ := p2.rd.form
      have hkn' : k < n' := by rw [H'.out, hlen2]; exact hk
      have hki' : (k : Int) < (n' : Int) := by omega
      have hgn' : decide ((n' : Int) ≤ (k : Int)) = false := decide_eq_false (by omega)
      have hgk' : ¬ n' ≤ k := by omega
      have hpm : decide (m2 ≤ s.prio) = false := decide_eq_false (by omega)
      have he4 : 0 ≤ Sl.emp l2 ∧ Sl.emp l2 ≤ 4 := by
        have h1 := Sl.good_len hg
        have h2 : l2.countP Sl.free ≤ l2.length := List.countP_le_length
        rw [Sl.emp, if_pos hg]; omega
      have hna : (Sl.actR l2).length ≤ 4 := by
        have h1 := Sl.good_len hg
        have h2 := accL_len (p := Sl.isAct) (f := Sl.irq) l2
        rw [Sl.actR, if_pos hg]
        exact Nat.le_trans h2 (by omega)
      clear hk hs hst hg eR eV hp htop q1 q2 q3 q4 q5 q6 q7 q8 hget hlen2 hsi H H'
      go_wp2_with fail
      have c1 := implActiveIrqs_any _ R2 w20 p2.rd (by omega)
      rw [HQ1.out] at c1
      refine (c1).mono ?_; rintro q_ w22 ⟨ua, rfl, oa, _, b_22⟩
      replace h := h.below b_22 (by omega)
      replace o2 := o2.below b_22 (by omega)
      replace p2 := p2.below b_22 (by omega)
      have z_23 := b_22.size
      replace hB := hB.trans (b_22.mono (by omega))
      clear b_22
      clear c1
      go_wp2_with fail
      have c1 := implActiveIrqs_any _ l2 w22 o2.rd (by omega)
      rw [HG.out] at c1
      refine (c1).mono ?_; rintro q_ w24 ⟨ub, rfl, ob, _, b_24⟩
      replace h := h.below b_24 (by omega)
      replace o2 := o2.below b_24 (by omega)
      replace p2 := p2.below b_24 (by omega)
      replace oa := oa.below b_24 (by omega)
      have z_25 := b_24.size
      replace hB := hB.trans (b_24.mono (by omega))
      clear b_24
      clear c1
      go_wp2_with fail
      have c1 := implFindSlot_any _ R2 i2 w24 p2.rd (by omega)
      rw [HQ2.out.1, HQ2.out.2] at c1
      refine (c1).mono ?_; rintro q_ w26 ⟨rfl, b_26⟩
      replace h := h.below b_26 (by omega)
      replace o2 := o2.below b_26 (by omega)
      replace p2 := p2.below b_26 (by omega)
      replace oa := oa.below b_26 (by omega)
      replace ob := ob.below b_26 (by omega)
      have z_27 := b_26.size
      replace hB := hB.trans (b_26.mono (by omega))
      clear b_26
      clear c1 HQ2
      obtain ⟨Aa, na, ca, rfl, Ha, hnca, hma⟩ := oa.rd.form
      obtain ⟨Ab, nb, cb, rfl, Hb, hncb, hmb⟩ := ob.rd.form
      have hnb4 : nb ≤ 4 := by rw [Hb.out]; exact hna
      have hw1 : IntKind.i64.wrap ((nb : Int) + 1) = (nb : Int) + 1 := IntWalk.i64_in _ (by omega)
      have hnn : ((na : Int) != (nb : Int) + 1) = false := by
        rw [bne_eq_false_iff_eq, Ha.out, HQ5.out, Hb.out]; rfl
      have hnn2 : (na != nb + 1) = false := by
        rw [bne_eq_false_iff_eq, Ha.out, HQ5.out, Hb.out]
      clear Ha Hb HQ5 hna
      obtain ⟨b', off', t', rfl, ht', _, hb3, g0, g1, g2⟩ := Sl.get p2.rd hkn' (Below.refl w26.heap.size w26) (by omega)
      obtain rfl := Option.some.inj (ht'.out.symm.trans HGet.out)
      clear ht' g1
      replace g0 : w26.cell? ⟨b', off' + k * 3, none⟩ = some (.int .i64 2) := g0
      replace g2 : w26.cell? ⟨b', off' + k * 3 + 2, none⟩ = some (.int .i64 s.prio) := g2
      go_wp2_with fail
      have c1 := vHas_any _ _ i2 w26 oa.rd (by omega)
      rw [HQ4.out] at c1
      refine (c1).mono ?_; rintro q_ w_ ⟨rfl, rfl⟩
      clear c1 HQ4
      go_wp2_with fail
      clear oa ob
      clear g0 g2 hnn hnn2 hw1 hnca hma hncb hmb
      go_loopw [26] (fun i wr => ∃ j : Nat, i = .int .i64 j ∧ Below w26.heap.size w26 wr) (fun i _ => n - (intOf i).toNat)
      case atStart => exact ⟨0, rfl, Below.refl _ _⟩
      case round =>
        obtain ⟨j, rfl, hb⟩ := hrel
        have hb0 := hb
        replace h := h.below hb (by omega)
        replace o2 := o2.below hb (by omega)
        replace p2 := p2.below hb (by omega)
        have z_28 := hb.size
        replace hB := hB.trans (hb.mono (by omega))
        clear hb
        by_cases hlt : j < n
        · obtain ⟨b, off, y, rfl, hy, _, hb2, f0, f1, f2⟩ := Sl.get o2.rd hlt (Below.refl wr.heap.size wr) (by omega)
          obtain ⟨b9, off9, t9, hA9, ht9, _, hb9, g0, g1, g2⟩ := Sl.get p2.rd hkn' (Below.refl wr.heap.size wr) (by omega)
          injection hA9 with hA9
          injection hA9 with e1 e2
          subst e1; subst e2
          obtain rfl := Option.some.inj (ht9.out.symm.trans HGet.out)
          replace g2 : wr.cell? ⟨b', off' + k * 3 + 2, none⟩ = some (.int .i64 s.prio) := g2
          clear ht9 g0 g1
          have hji : (j : Int) < (n : Int) := by omega
          have hty := HT.out y (List.mem_of_getElem? hy.out)
          clear hy
          by_cases hy1 : y.state = 1
          · have hty := hty hy1
            rw [hy1] at f0
            have hlt2 : ¬ (y.prio < s.prio ∨ y.prio = s.prio ∧ y.irq < s.irq) := fun hc => by rw [Bool.eq_false_iff] at hty; exact hty ((Wt.lt_iff y.wt s.wt).2 hc)
            rw [HSI.out] at hlt2
            clear hty hy1
            have m1 : decide (y.prio < s.prio) = false := decide_eq_false (by omega)
            by_cases hpp : y.prio = s.prio
            · as_aux_lemma =>
                have m2 : (y.prio == s.prio) = true := by rw [beq_iff_eq]; exact hpp
                have m3 : decide (y.irq < i2) = false := decide_eq_false (by omega)
                clear hpp hlt2
                go_wp2_with fail
                go_quiet (fail)
                go_wp2_with fail
                go_roundw
                case rel => exact ⟨j + 1, by go_num, below_drewN hb0 _⟩
                case measure => simp [intOf]; omega
            · as_aux_lemma =>
                have m2 : (y.prio == s.prio) = false := by rw [beq_eq_false_iff_ne]; exact hpp
                clear hpp hlt2
                go_wp2_with fail
                go_quiet (fail)
                go_wp2_with fail
                go_roundw
                case rel => exact ⟨j + 1, by go_num, below_drewN hb0 _⟩
                case measure => simp [intOf]; omega
          · as_aux_lemma =>
              have hy1b : (y.state == 1) = false := by rw [beq_eq_false_iff_ne]; exact hy1
              clear hty hy1
              go_wp2_with fail
              go_quiet (fail)
              go_wp2_with fail
              go_roundw
              case rel => exact ⟨j + 1, by go_num, below_drewN hb0 _⟩
              case measure => simp [intOf]; omega
        · as_aux_lemma =>
            clear hb0
            have hjd : decide ((j : Int) < (n : Int)) = false := decide_eq_false (by omega)
            go_wp2_with fail
            have c1 := implEndSlot_any _ R2 i2 wr p2.rd (by omega)
            rw [HQ6.out] at c1
            refine (c1).mono ?_; rintro q_ w29 ⟨u6, rfl, p6, _, b_29⟩
            replace h := h.below b_29 (by omega)
            replace o2 := o2.below b_29 (by omega)
            replace p2 := p2.below b_29 (by omega)
            have z_30 := b_29.size
            replace hB := hB.trans (b_29.mono (by omega))
            clear b_29
            clear c1
            obtain ⟨E, hE_⟩ : ∃ E, Sl.emp l2 = E := ⟨_, rfl⟩
            have HEE := Lib.hid hE_
            rw [hE_] at he4
            clear hE_
            obtain ⟨he41, he42⟩ := he4
            have hw2 : IntKind.i64.wrap (E + 1) = E + 1 := IntWalk.i64_in _ (by omega)
            have hee : ((E + 1) != (E + 1)) = false := by simp
            go_wp2_with fail
            have c1 := implEmptySlots_any _ l2 w29 o2.rd (by omega)
            rw [HG.out, HEE.out] at c1
            refine (c1).mono ?_; rintro q_ w31 ⟨rfl, b_31⟩
            replace h := h.below b_31 (by omega)
            replace o2 := o2.below b_31 (by omega)
            replace p2 := p2.below b_31 (by omega)
            replace p6 := p6.below b_31 (by omega)
            have z_32 := b_31.size
            replace hB := hB.trans (b_31.mono (by omega))
            clear b_31
            clear c1
            go_wp2_with fail
            have c1 := implEmptySlots_any _ _ w31 p6.rd (by omega)
            rw [HQ7.out.1, HQ7.out.2, HEE.out] at c1
            refine (c1).mono ?_; rintro q_ w33 ⟨rfl, b_33⟩
            replace h := h.below b_33 (by omega)
            replace o2 := o2.below b_33 (by omega)
            replace p2 := p2.below b_33 (by omega)
            replace p6 := p6.below b_33 (by omega)
            have z_34 := b_33.size
            replace hB := hB.trans (b_33.mono (by omega))
            clear b_33
            clear c1
            clear p6 p2 o2
            go_wp2_with fail
            refine (DrawSlotsText_any cv l w33 h (by omega)).mono ?_; rintro q_ w35 ⟨v3, l3, rfl, o3, b_35⟩
            replace h := h.below b_35 (by omega)
            have z_36 := b_35.size
            replace hB := hB.trans (b_35.mono (by omega))
            clear b_35
            have hT3 := Tx.txR_size l3
            obtain ⟨T3, hz_⟩ : ∃ o, Tx.txR l3 = o := ⟨_, rfl⟩
            have HT3 := Lib.hid hz_
            clear hz_
            rw [HT3.out] at hT3
            have nT3 : (T3.toList != T3.toList) = false := by simp
            obtain ⟨gd3, hz_⟩ : ∃ o, Sl.good l3 = o := ⟨_, rfl⟩
            have Hgd3 := Lib.hid hz_
            clear hz_
            have ngd3 : (gd3 != gd3) = false := by simp
            go_wp2_with fail
            have c1 := implSlotsText_any v3 l3 w35 o3.rd (by omega)
            rw [HT3.out, Hgd3.out] at c1
            refine (c1).mono ?_; rintro q_ w37 ⟨rfl, b_37⟩
            replace h := h.below b_37 (by omega)
            replace o3 := o3.below b_37 (by omega)
            have z_38 := b_37.size
            replace hB := hB.trans (b_37.mono (by omega))
            clear b_37
            clear c1
            go_wp2_with fail
            refine (implParseSlots_any T3 w37 (by omega) (hE.below hB)).mono ?_; rintro q_ w39 ⟨⟨vP, lP, okP, rfl, hpP, oP⟩, b_39⟩
            replace h := h.below b_39 (by omega)
            replace o3 := o3.below b_39 (by omega)
            have z_40 := b_39.size
            replace hB := hB.trans (b_39.mono (by omega))
            clear b_39
            have HP := Lib.hid hpP
            clear hpP
            go_wp2_with fail
            have c1 := specSlotsText_any v3 l3 w39 o3.rd (by omega)
            rw [HT3.out, Hgd3.out] at c1
            refine (c1).mono ?_; rintro q_ w41 ⟨rfl, b_41⟩
            replace h := h.below b_41 (by omega)
            replace o3 := o3.below b_41 (by omega)
            replace oP := oP.below b_41 (by omega)
            have z_42 := b_41.size
            replace hB := hB.trans (b_41.mono (by omega))
            clear b_41
            clear c1
            cases gd3
            · clear HP
              clear oP o3
              go_wp2_with fail
              refine (DrawParseSlots_any cv l w41 h (by omega)).mono ?_; rintro q_ w43 ⟨T4, rfl, hT4, b_43⟩
              replace h := h.below b_43 (by omega)
              have z_44 := b_43.size
              replace hB := hB.trans (b_43.mono (by omega))
              clear b_43
              go_wp2_with fail
              refine (implParseSlots_any T4 w43 hT4 (hE.below hB)).mono ?_; rintro q_ w45 ⟨⟨vQ, lQ, okQ, rfl, hpQ, oQ⟩, b_45⟩
              replace h := h.below b_45 (by omega)
              have z_46 := b_45.size
              replace hB := hB.trans (b_45.mono (by omega))
              clear b_45
              go_wp2_with fail
              refine (specParseSlots_any T4 w45 hT4).mono ?_; rintro q_ w47 ⟨⟨vR, lR, okR, rfl, hpR, oR⟩, b_47⟩
              replace h := h.below b_47 (by omega)
              replace oQ := oQ.below b_47 (by omega)
              have z_48 := b_47.size
              replace hB := hB.trans (b_47.mono (by omega))
              clear b_47
              obtain ⟨rfl, rfl⟩ := hpQ.same hpR
              clear hpQ hpR
              have nok : (okQ == okQ) = true := by simp
              go_wp2_with fail
              refine (Sl.v_same _ _ _ w47 oQ.rd oR.rd (by omega) (by omega)).mono ?_; rintro q_ w49 ⟨rfl, b_49⟩
              replace h := h.below b_49 (by omega)
              replace oQ := oQ.below b_49 (by omega)
              replace oR := oR.below b_49 (by omega)
              have z_50 := b_49.size
              replace hB := hB.trans (b_49.mono (by omega))
              clear b_49
              go_wp2_with fail
              go_ret
              exact ⟨by simp, hB⟩
            · obtain ⟨rfl, rfl⟩ := HP.out.back Hgd3.out (by rw [← HT3.out, Tx.tx_yes Hgd3.out])
              clear HP HT3 Hgd3
              go_wp2_with fail
              refine (Sl.v_same _ _ _ w41 oP.rd o3.rd (by omega) (by omega)).mono ?_; rintro q_ w43 ⟨rfl, b_43⟩
              replace h := h.below b_43 (by omega)
              replace o3 := o3.below b_43 (by omega)
              replace oP := oP.below b_43 (by omega)
              have z_44 := b_43.size
              replace hB := hB.trans (b_43.mono (by omega))
              clear b_43
              clear oP o3
              go_wp2_with fail
              refine (DrawParseSlots_any cv l w43 h (by omega)).mono ?_; rintro q_ w45 ⟨T4, rfl, hT4, b_45⟩
              replace h := h.below b_45 (by omega)
              have z_46 := b_45.size
              replace hB := hB.trans (b_45.mono (by omega))
              clear b_45
              go_wp2_with fail
              refine (implParseSlots_any T4 w45 hT4 (hE.below hB)).mono ?_; rintro q_ w47 ⟨⟨vQ, lQ, okQ, rfl, hpQ, oQ⟩, b_47⟩
              replace h := h.below b_47 (by omega)
              have z_48 := b_47.size
              replace hB := hB.trans (b_47.mono (by omega))
              clear b_47
              go_wp2_with fail
              refine (specParseSlots_any T4 w47 hT4).mono ?_; rintro q_ w49 ⟨⟨vR, lR, okR, rfl, hpR, oR⟩, b_49⟩
              replace h := h.below b_49 (by omega)
              replace oQ := oQ.below b_49 (by omega)
              have z_50 := b_49.size
              replace hB := hB.trans (b_49.mono (by omega))
              clear b_49
              obtain ⟨rfl, rfl⟩ := hpQ.same hpR
              clear hpQ hpR
              have nok : (okQ == okQ) = true := by simp
              go_wp2_with fail
              refine (Sl.v_same _ _ _ w49 oQ.rd oR.rd (by omega) (by omega)).mono ?_; rintro q_ w51 ⟨rfl, b_51⟩
              replace h := h.below b_51 (by omega)
              replace oQ := oQ.below b_51 (by omega)
              replace oR := oR.below b_51 (by omega)
              have z_52 := b_51.size
              replace hB := hB.trans (b_51.mono (by omega))
              clear b_51
              go_wp2_with fail
              go_ret
              exact ⟨by simp, hB⟩

set_option maxRecDepth 100000 in
theorem FnSlots_lifted (os : Os) (started : os.Started) (H : Type) (enc : TypeId × Value → H) :
    ReturnsInHanded {} Tryz.checked os 3 .any (fun w args => (Rows.fnSlotsSpec.pre enc Tryz.prog Tryz.f3 [] false w args ∧ laidMetH Tryz.prog Rows.fnSlotsRow.laid w) ∧ sizedMet enc Tryz.prog Tryz.f3 (OpenSpec.ofChange Rows.fnSlotsSpec) false w args)
      (Rows.fnSlotsSpec.post enc Tryz.prog Tryz.f3 false true false false) :=
  law_laid (C := Tryz.checked) (s := Rows.fnSlotsSpec) own started (by kernel_rfl) Tryz.func3
    (ChangeSpec.witness_shaped (enc := enc) (C := Tryz.checked) (os := os) (X := fun w _ => laidMetH Tryz.prog Rows.fnSlotsRow.laid w) false (World.laidAll Tryz.prog os Rows.fnSlotsRow.laid) #[.slice none 0 0] 8 (World.laidAll_os _ _ _)
      (World.shaped_of_ZipB (by kernel_rfl) (by kernel_rfl)) (by kernel_rfl) (by kernel_rfl) (by kernel_rfl)
      (by rw [MakeChecks.laidMetH_plain _ _ _ (by kernel_rfl)]; exact laidMet_laidAll _ (by kernel_rfl) (by kernel_rfl)))
    (by kernel_rfl) laidOut (by kernel_rfl) rfl rfl Tryz.underlying4 (fun ds h => by match ds, h with | [_], _ => rfl)
    (fun W base args ds p hval0 hA0 hL hS => by
      have hval : ∀ (j : Nat) t v, Tryz.f3.params[j]? = some t → args[j]? = some v → Value.okWide Tryz.prog W .any base t v := hval0
      have hA : DataW.TrodAll enc Tryz.prog W 0 (fun _ => true) true Tryz.f3.params.toList args.toList ds p := hA0
      rw [Tryz.params3] at hA hval
      obtain ⟨v0, vs0, d0, ds0, p0, q0, hargs, rfl, rfl, h0, r0⟩ := trodAll_cons hA
      obtain ⟨rfl, rfl, rfl⟩ := trodAll_nil r0
      obtain rfl : args = #[v0] := by cases args; simp_all
      obtain ⟨l, k0⟩ := By.openS (hval 0 22 v0 rfl rfl) h0
      exact FnSlots_walk v0 l W k0 (Tx.env_laid hS hL))

theorem FnSlots_row : Rows.FnSlotsSaid :=
  OpenClaim.holds_of_wide 3 Tryz.f3 rfl rfl rfl rfl rfl rfl rfl ⟨rfl, rfl, rfl, rfl, rfl⟩ rfl rfl rfl rfl rfl (by kernel_rfl) Tryz.func3 (by kernel_rfl)
    (of_decide_eq_true (by kernel_rfl)) (by unfold Func.isWrapper; first | (rw [if_pos (by decide +kernel)]; kernel_rfl) | (rw [if_neg (by decide +kernel)]; exact ⟨rfl, rfl⟩))
    (fun os started H enc _ => FnSlots_lifted os started H enc)

theorem FnSlots_holds : Rows.FnSlotsCardSaid :=
  Claim7.holds_tied_plain_at .later [] [.data, .data, .data, .data, .sentinel, .sentinel, .pinned] true Rows.fnSlotsCard.stood.harness Rows.fnSlotsCard.stood.looks FnSlots_row (fun _ h => by cases h) (by kernel_rfl) (fun _ h => by cases h) fnSlots_row_tie rfl ⟨rfl, rfl⟩ (by kernel_rfl) rfl
    (fun f fn hf hfn => by
      obtain rfl : f = 3 := Option.some.inj ((show Tryz.prog.funcNamed "loop.example/g00843/laws.FnSlots" = some 3 by kernel_rfl).symm.trans hf) |>.symm
      obtain rfl : fn = Tryz.f3 := (Option.some.inj (Tryz.func3.symm.trans hfn)).symm
      exact ⟨by kernel_rfl, fun j t ht => by
        rw [Tryz.params3] at ht
        have hm : t ∈ [22] := by simpa using Array.mem_of_getElem? ht
        have hall : ([22].all fun u => !Tryz.prog.wantsStandIn u) = true := by kernel_rfl
        exact (show Tryz.prog.wantsStandIn t = false by simpa using List.all_eq_true.1 hall t hm)⟩)
    (by kernel_rfl)

end Go.Proofs.YtaggjadgbmmjoaaGreatDoor
