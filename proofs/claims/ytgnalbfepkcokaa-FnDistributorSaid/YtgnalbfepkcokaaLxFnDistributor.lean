/- Of all ready interrupts the most urgent one is served first, and it is ready no more when it has begun: the law 'FnDistributor' says so of every code. No condition. -/
import Derived.Test.YtgnalbfepkcokaaDrIq2
import Derived.Test.YtgnalbfepkcokaaVIq
import Derived.Test.YtgnalbfepkcokaaVNm
import Derived.Test.YtgnalbfepkcokaaIqLaw
import Derived.Test.YtgnalbfepkcokaaIqMask
import Derived.Test.YtgnalbfepkcokaaIqMost
namespace Go.Proofs.Ytgnalbfepkcokaa
open Go.RowKit Go.ChangeShapes Go.WideShapes Go.Deep

theorem AreIrqs_any (v : Value) (l : List Iq) (w : World) {lo hi : Nat} (h : Rd Iq.cells 5 w lo hi v l) (hh : hi ≤ w.heap.size) : Calls Try.prog 57 #[v] w fun e w' => e = .returned (.bool (Iq.good l)) ∧ Below w.heap.size w w' := by
  have c1 := l6Good_any v l w h hh
  go_enter Try.func57, Try.ntmps57
  go_wp2_with fail
  refine c1.mono ?_; rintro q_ w1 ⟨rfl, b1⟩
  go_wp2_with fail
  go_ret
  exact ⟨rfl, b1⟩

set_option maxRecDepth 8000 in
set_option maxHeartbeats 16000000 in
theorem FnDistributor_walk (cv : Value) (l : List UInt8) (w : World) (h : Rd By.cells 1 w 0 w.heap.size cv l) :
    Calls Try.prog 6 #[cv] w fun e w' => e = .returned (.bool true) ∧ Below w.heap.size w w' := by
  have hB := Below.refl w.heap.size w
  have z_0 : w.heap.size ≤ w.heap.size := Nat.le_refl _
  have c0 := vBig_any cv l w h
  by_cases hz : 65536 < l.length
  · rw [decide_eq_true hz] at c0
    go_enter Try.func6, Try.ntmps6
    go_wp2_with fail
    refine (c0).mono ?_; rintro q_ w_ ⟨rfl, rfl⟩
    go_wp2_with fail
    go_ret
    exact ⟨rfl, hB⟩
  rw [decide_eq_false hz] at c0
  go_enter Try.func6, Try.ntmps6
  go_wp2_with fail
  refine (c0).mono ?_; rintro q_ w_ ⟨rfl, rfl⟩
  clear c0
  go_wp2_with fail
  refine (DrawReadyIrqs_any cv l w h (by omega)).mono ?_; rintro q_ w1 ⟨v1, l1, x1, rfl, o1, b_1⟩
  replace h := h.below b_1 (by omega)
  have z_2 := b_1.size
  replace hB := hB.trans (b_1.mono (by omega))
  clear b_1
  cases hk : Iq.rdOk l1 x1
  · have e1 := (Iq.rd_no hk).2
    have e2 := Iq.most_no hk
    go_wp2_with fail
    have c1 := implReadyIrqs_any v1 l1 x1 w1 o1.rd (by omega)
    rw [hk, e1] at c1
    refine (c1).mono ?_; rintro q_ w3 ⟨u1, rfl, p1, _, b_3⟩
    replace h := h.below b_3 (by omega)
    replace o1 := o1.below b_3 (by omega)
    have z_4 := b_3.size
    replace hB := hB.trans (b_3.mono (by omega))
    clear b_3
    go_wp2_with fail
    have c2 := specReadyIrqs_any v1 l1 x1 w3 o1.rd (by omega)
    rw [hk, e1] at c2
    refine (c2).mono ?_; rintro q_ w5 ⟨t1, rfl, s1, b_5⟩
    replace h := h.below b_5 (by omega)
    replace o1 := o1.below b_5 (by omega)
    replace p1 := p1.below b_5 (by omega)
    have z_6 := b_5.size
    replace hB := hB.trans (b_5.mono (by omega))
    clear b_5
    clear c1 c2
    go_wp2_with fail
    refine (vInts_same _ _ _ w5 p1.rd s1 (by omega) (by omega)).mono ?_; rintro q_ w7 ⟨rfl, b_7⟩
    replace h := h.below b_7 (by omega)
    replace o1 := o1.below b_7 (by omega)
    replace p1 := p1.below b_7 (by omega)
    replace s1 := s1.below b_7 (by omega)
    have z_8 := b_7.size
    replace hB := hB.trans (b_7.mono (by omega))
    clear b_7
    clear s1
    go_wp2_with fail
    refine (implAreIrqs_any _ l1 w7 o1.rd (by omega)).mono ?_; rintro q_ w9 ⟨rfl, b_9⟩
    replace h := h.below b_9 (by omega)
    replace o1 := o1.below b_9 (by omega)
    replace p1 := p1.below b_9 (by omega)
    have z_10 := b_9.size
    replace hB := hB.trans (b_9.mono (by omega))
    clear b_9
    go_wp2_with fail
    refine (AreIrqs_any _ l1 w9 o1.rd (by omega)).mono ?_; rintro q_ w11 ⟨rfl, b_11⟩
    replace h := h.below b_11 (by omega)
    replace o1 := o1.below b_11 (by omega)
    replace p1 := p1.below b_11 (by omega)
    have z_12 := b_11.size
    replace hB := hB.trans (b_11.mono (by omega))
    clear b_11
    go_wp2_with fail
    have c1 := implMostUrgent_any v1 l1 x1 w11 o1.rd (by omega)
    rw [hk, e2] at c1
    refine (c1).mono ?_; rintro q_ w13 ⟨rfl, b_13⟩
    replace h := h.below b_13 (by omega)
    replace o1 := o1.below b_13 (by omega)
    replace p1 := p1.below b_13 (by omega)
    have z_14 := b_13.size
    replace hB := hB.trans (b_13.mono (by omega))
    clear b_13
    go_wp2_with fail
    have c2 := specMostUrgent_any v1 l1 x1 w13 o1.rd (by omega)
    rw [hk, e2] at c2
    refine (c2).mono ?_; rintro q_ w15 ⟨rfl, b_15⟩
    replace h := h.below b_15 (by omega)
    replace o1 := o1.below b_15 (by omega)
    replace p1 := p1.below b_15 (by omega)
    have z_16 := b_15.size
    replace hB := hB.trans (b_15.mono (by omega))
    clear b_15
    clear c1 c2
    clear p1 o1
    clear hk e1 e2
    go_wp2_with fail
    refine (DrawServeAll_any cv l w15 h (by omega)).mono ?_; rintro q_ w17 ⟨v5, l5, x5, rfl, o5, b_17⟩
    replace h := h.below b_17 (by omega)
    have z_18 := b_17.size
    replace hB := hB.trans (b_17.mono (by omega))
    clear b_17
    go_wp2_with fail
    refine (implServeAll_any v5 l5 x5 w17 o5.rd (by omega)).mono ?_; rintro q_ w19 ⟨u5, y5, rfl, p5, q5, _, _, b_19⟩
    replace h := h.below b_19 (by omega)
    replace o5 := o5.below b_19 (by omega)
    have z_20 := b_19.size
    replace hB := hB.trans (b_19.mono (by omega))
    clear b_19
    go_wp2_with fail
    refine (specServeAll_any v5 l5 x5 w19 o5.rd (by omega)).mono ?_; rintro q_ w21 ⟨t5, s5, rfl, a5, b5, b_21⟩
    replace h := h.below b_21 (by omega)
    replace o5 := o5.below b_21 (by omega)
    replace p5 := p5.below b_21 (by omega)
    replace q5 := q5.below b_21 (by omega)
    have z_22 := b_21.size
    replace hB := hB.trans (b_21.mono (by omega))
    clear b_21
    go_wp2_with fail
    refine (vInts_same _ _ _ w21 p5.rd a5 (by omega) (by omega)).mono ?_; rintro q_ w23 ⟨rfl, b_23⟩
    replace h := h.below b_23 (by omega)
    replace o5 := o5.below b_23 (by omega)
    replace p5 := p5.below b_23 (by omega)
    replace q5 := q5.below b_23 (by omega)
    replace a5 := a5.below b_23 (by omega)
    replace b5 := b5.below b_23 (by omega)
    have z_24 := b_23.size
    replace hB := hB.trans (b_23.mono (by omega))
    clear b_23
    go_wp2_with fail
    refine (Iq.v_same _ _ _ w23 q5.rd b5 (by omega) (by omega)).mono ?_; rintro q_ w25 ⟨rfl, b_25⟩
    replace h := h.below b_25 (by omega)
    replace o5 := o5.below b_25 (by omega)
    replace p5 := p5.below b_25 (by omega)
    replace q5 := q5.below b_25 (by omega)
    replace a5 := a5.below b_25 (by omega)
    replace b5 := b5.below b_25 (by omega)
    have z_26 := b_25.size
    replace hB := hB.trans (b_25.mono (by omega))
    clear b_25
    clear p5 q5 a5 b5 o5
    go_wp2_with fail
    refine (DrawPriorityMask_any cv l w25 h (by omega)).mono ?_; rintro q_ w27 ⟨v6, l6, x6, m6, rfl, o6, b_27⟩
    replace h := h.below b_27 (by omega)
    have z_28 := b_27.size
    replace hB := hB.trans (b_27.mono (by omega))
    clear b_27
    go_wp2_with fail
    refine (implPriorityMask_any v6 l6 x6 m6 w27 o6.rd (by omega)).mono ?_; rintro q_ w29 ⟨u6, rfl, p6, _, b_29⟩
    replace h := h.below b_29 (by omega)
    replace o6 := o6.below b_29 (by omega)
    have z_30 := b_29.size
    replace hB := hB.trans (b_29.mono (by omega))
    clear b_29
    go_wp2_with fail
    refine (specPriorityMask_any v6 l6 x6 m6 w29 o6.rd (by omega)).mono ?_; rintro q_ w31 ⟨t6, rfl, s6, b_31⟩
    replace h := h.below b_31 (by omega)
    replace o6 := o6.below b_31 (by omega)
    replace p6 := p6.below b_31 (by omega)
    have z_32 := b_31.size
    replace hB := hB.trans (b_31.mono (by omega))
    clear b_31
    go_wp2_with fail
    refine (vInts_same _ _ _ w31 p6.rd s6 (by omega) (by omega)).mono ?_; rintro q_ w33 ⟨rfl, b_33⟩
    replace h := h.below b_33 (by omega)
    replace o6 := o6.below b_33 (by omega)
    replace p6 := p6.below b_33 (by omega)
    replace s6 := s6.below b_33 (by omega)
    have z_34 := b_33.size
    replace hB := hB.trans (b_33.mono (by omega))
    clear b_33
    go_wp2_with fail
    go_ret
    exact ⟨rfl, hB⟩
  have e1 := (Iq.rd_yes hk).2
  cases ha : Iq.all l1 x1 with
  | nil =>
    have e2 := Iq.most_nil hk ha
    rw [ha] at e1
    go_wp2_with fail
    have c1 := implReadyIrqs_any v1 l1 x1 w1 o1.rd (by omega)
    rw [hk, e1] at c1
    refine (c1).mono ?_; rintro q_ w3 ⟨u1, rfl, p1, _, b_3⟩
    replace h := h.below b_3 (by omega)
    replace o1 := o1.below b_3 (by omega)
    have z_4 := b_3.size
    replace hB := hB.trans (b_3.mono (by omega))
    clear b_3
    go_wp2_with fail
    have c2 := specReadyIrqs_any v1 l1 x1 w3 o1.rd (by omega)
    rw [hk, e1] at c2
    refine (c2).mono ?_; rintro q_ w5 ⟨t1, rfl, s1, b_5⟩
    replace h := h.below b_5 (by omega)
    replace o1 := o1.below b_5 (by omega)
    replace p1 := p1.below b_5 (by omega)
    have z_6 := b_5.size
    replace hB := hB.trans (b_5.mono (by omega))
    clear b_5
    clear c1 c2
    go_wp2_with fail
    refine (vInts_same _ _ _ w5 p1.rd s1 (by omega) (by omega)).mono ?_; rintro q_ w7 ⟨rfl, b_7⟩
    replace h := h.below b_7 (by omega)
    replace o1 := o1.below b_7 (by omega)
    replace p1 := p1.below b_7 (by omega)
    replace s1 := s1.below b_7 (by omega)
    have z_8 := b_7.size
    replace hB := hB.trans (b_7.mono (by omega))
    clear b_7
    clear s1
    go_wp2_with fail
    refine (implAreIrqs_any _ l1 w7 o1.rd (by omega)).mono ?_; rintro q_ w9 ⟨rfl, b_9⟩
    replace h := h.below b_9 (by omega)
    replace o1 := o1.below b_9 (by omega)
    replace p1 := p1.below b_9 (by omega)
    have z_10 := b_9.size
    replace hB := hB.trans (b_9.mono (by omega))
    clear b_9
    go_wp2_with fail
    refine (AreIrqs_any _ l1 w9 o1.rd (by omega)).mono ?_; rintro q_ w11 ⟨rfl, b_11⟩
    replace h := h.below b_11 (by omega)
    replace o1 := o1.below b_11 (by omega)
    replace p1 := p1.below b_11 (by omega)
    have z_12 := b_11.size
    replace hB := hB.trans (b_11.mono (by omega))
    clear b_11
    go_wp2_with fail
    have c1 := implMostUrgent_any v1 l1 x1 w11 o1.rd (by omega)
    rw [hk, e2] at c1
    refine (c1).mono ?_; rintro q_ w13 ⟨rfl, b_13⟩
    replace h := h.below b_13 (by omega)
    replace o1 := o1.below b_13 (by omega)
    replace p1 := p1.below b_13 (by omega)
    have z_14 := b_13.size
    replace hB := hB.trans (b_13.mono (by omega))
    clear b_13
    go_wp2_with fail
    have c2 := specMostUrgent_any v1 l1 x1 w13 o1.rd (by omega)
    rw [hk, e2] at c2
    refine (c2).mono ?_; rintro q_ w15 ⟨rfl, b_15⟩
    replace h := h.below b_15 (by omega)
    replace o1 := o1.below b_15 (by omega)
    replace p1 := p1.below b_15 (by omega)
    have z_16 := b_15.size
    replace hB := hB.trans (b_15.mono (by omega))
    clear b_15
    clear c1 c2
    obtain ⟨A, n, c, rfl, H, hnc, hm⟩ := p1.rd.form
    obtain rfl : n = 0 := H.out
    clear H e2
    go_wp2_with fail
    go_loopw [13] (fun i wr => ∃ k : Nat, i = .int .i64 k ∧ 1 ≤ k ∧ Below w15.heap.size w15 wr) (fun i _ => 1 - (intOf i).toNat)
    case atStart => exact ⟨1, rfl, Nat.le_refl _, Below.refl _ _⟩
    case round =>
      obtain ⟨k, rfl, hk1, hb⟩ := hrel
      replace h := h.below hb (by omega)
      replace o1 := o1.below hb (by omega)
      replace p1 := p1.below hb (by omega)
      have z_17 := hb.size
      replace hB := hB.trans (hb.mono (by omega))
      clear hb
      have hkd : decide ((k : Int) < 0) = false := decide_eq_false (by omega)
      go_wp2_with fail
      have c1 := implServeAll_any _ l1 x1 wr o1.rd (by omega)
      rw [hk, e1] at c1
      refine (c1).mono ?_; rintro q_ w18 ⟨u3, y3, rfl, p3, q3, _, _, b_18⟩
      replace h := h.below b_18 (by omega)
      replace o1 := o1.below b_18 (by omega)
      replace p1 := p1.below b_18 (by omega)
      have z_19 := b_18.size
      replace hB := hB.trans (b_18.mono (by omega))
      clear b_18
      clear c1
      go_wp2_with fail
      have c1 := implMostUrgent_any y3 _ x1 w18 q3.rd (by omega)
      rw [(Iq.served_none hk).1, (Iq.served_none hk).2] at c1
      refine (c1).mono ?_; rintro q_ w20 ⟨rfl, b_20⟩
      replace h := h.below b_20 (by omega)
      replace o1 := o1.below b_20 (by omega)
      replace p1 := p1.below b_20 (by omega)
      replace p3 := p3.below b_20 (by omega)
      replace q3 := q3.below b_20 (by omega)
      have z_21 := b_20.size
      replace hB := hB.trans (b_20.mono (by omega))
      clear b_20
      clear c1
      go_wp2_with fail
      refine (vInts_same _ _ _ w20 p3.rd p1.rd (by omega) (by omega)).mono ?_; rintro q_ w22 ⟨rfl, b_22⟩
      replace h := h.below b_22 (by omega)
      replace o1 := o1.below b_22 (by omega)
      replace p1 := p1.below b_22 (by omega)
      replace p3 := p3.below b_22 (by omega)
      replace q3 := q3.below b_22 (by omega)
      have z_23 := b_22.size
      replace hB := hB.trans (b_22.mono (by omega))
      clear b_22
      clear p3 q3 p1 o1
      clear hk e1 ha
      go_wp2_with fail
      refine (DrawServeAll_any cv l w22 h (by omega)).mono ?_; rintro q_ w24 ⟨v5, l5, x5, rfl, o5, b_24⟩
      replace h := h.below b_24 (by omega)
      have z_25 := b_24.size
      replace hB := hB.trans (b_24.mono (by omega))
      clear b_24
      go_wp2_with fail
      refine (implServeAll_any v5 l5 x5 w24 o5.rd (by omega)).mono ?_; rintro q_ w26 ⟨u5, y5, rfl, p5, q5, _, _, b_26⟩
      replace h := h.below b_26 (by omega)
      replace o5 := o5.below b_26 (by omega)
      have z_27 := b_26.size
      replace hB := hB.trans (b_26.mono (by omega))
      clear b_26
      go_wp2_with fail
      refine (specServeAll_any v5 l5 x5 w26 o5.rd (by omega)).mono ?_; rintro q_ w28 ⟨t5, s5, rfl, a5, b5, b_28⟩
      replace h := h.below b_28 (by omega)
      replace o5 := o5.below b_28 (by omega)
      replace p5 := p5.below b_28 (by omega)
      replace q5 := q5.below b_28 (by omega)
      have z_29 := b_28.size
      replace hB := hB.trans (b_28.mono (by omega))
      clear b_28
      go_wp2_with fail
      refine (vInts_same _ _ _ w28 p5.rd a5 (by omega) (by omega)).mono ?_; rintro q_ w30 ⟨rfl, b_30⟩
      replace h := h.below b_30 (by omega)
      replace o5 := o5.below b_30 (by omega)
      replace p5 := p5.below b_30 (by omega)
      replace q5 := q5.below b_30 (by omega)
      replace a5 := a5.below b_30 (by omega)
      replace b5 := b5.below b_30 (by omega)
      have z_31 := b_30.size
      replace hB := hB.trans (b_30.mono (by omega))
      clear b_30
      go_wp2_with fail
      refine (Iq.v_same _ _ _ w30 q5.rd b5 (by omega) (by omega)).mono ?_; rintro q_ w32 ⟨rfl, b_32⟩
      replace h := h.below b_32 (by omega)
      replace o5 := o5.below b_32 (by omega)
      replace p5 := p5.below b_32 (by omega)
      replace q5 := q5.below b_32 (by omega)
      replace a5 := a5.below b_32 (by omega)
      replace b5 := b5.below b_32 (by omega)
      have z_33 := b_32.size
      replace hB := hB.trans (b_32.mono (by omega))
      clear b_32
      clear p5 q5 a5 b5 o5
      go_wp2_with fail
      refine (DrawPriorityMask_any cv l w32 h (by omega)).mono ?_; rintro q_ w34 ⟨v6, l6, x6, m6, rfl, o6, b_34⟩
      replace h := h.below b_34 (by omega)
      have z_35 := b_34.size
      replace hB := hB.trans (b_34.mono (by omega))
      clear b_34
      go_wp2_with fail
      refine (implPriorityMask_any v6 l6 x6 m6 w34 o6.rd (by omega)).mono ?_; rintro q_ w36 ⟨u6, rfl, p6, _, b_36⟩
      replace h := h.below b_36 (by omega)
      replace o6 := o6.below b_36 (by omega)
      have z_37 := b_36.size
      replace hB := hB.trans (b_36.mono (by omega))
      clear b_36
      go_wp2_with fail
      refine (specPriorityMask_any v6 l6 x6 m6 w36 o6.rd (by omega)).mono ?_; rintro q_ w38 ⟨t6, rfl, s6, b_38⟩
      replace h := h.below b_38 (by omega)
      replace o6 := o6.below b_38 (by omega)
      replace p6 := p6.below b_38 (by omega)
      have z_39 := b_38.size
      replace hB := hB.trans (b_38.mono (by omega))
      clear b_38
      go_wp2_with fail
      refine (vInts_same _ _ _ w38 p6.rd s6 (by omega) (by omega)).mono ?_; rintro q_ w40 ⟨rfl, b_40⟩
      replace h := h.below b_40 (by omega)
      replace o6 := o6.below b_40 (by omega)
      replace p6 := p6.below b_40 (by omega)
      replace s6 := s6.below b_40 (by omega)
      have z_41 := b_40.size
      replace hB := hB.trans (b_40.mono (by omega))
      clear b_40
      go_wp2_with fail
      go_ret
      exact ⟨rfl, hB⟩
  | cons x tl =>
    have e2 : Iq.most l1 x1 = x := Iq.most_at hk (by rw [ha]; rfl)
    obtain ⟨k0, t0, rfl, hk7, ht0, _, hd, hdr, hg2, ha2⟩ := Iq.head_begin (Iq.rd_get hk).1 ha
    have hrs := Iq.all_R l1 x1
    have hat := fun y (hy : y ∈ Iq.all l1 x1) => Iq.all_at hy
    rw [ha] at e1 hrs hat
    have hln : ((k0 : Int) :: tl).length ≤ 8 := by have h1 := Iq.all_len l1 x1; have h2 := Iq.good_len (Iq.rd_get hk).1; rw [ha] at h1; omega
    go_wp2_with fail
    have c1 := implReadyIrqs_any v1 l1 x1 w1 o1.rd (by omega)
    rw [hk, e1] at c1
    refine (c1).mono ?_; rintro q_ w3 ⟨u1, rfl, p1, _, b_3⟩
    replace h := h.below b_3 (by omega)
    replace o1 := o1.below b_3 (by omega)
    have z_4 := b_3.size
    replace hB := hB.trans (b_3.mono (by omega))
    clear b_3
    go_wp2_with fail
    have c2 := specReadyIrqs_any v1 l1 x1 w3 o1.rd (by omega)
    rw [hk, e1] at c2
    refine (c2).mono ?_; rintro q_ w5 ⟨t1, rfl, s1, b_5⟩
    replace h := h.below b_5 (by omega)
    replace o1 := o1.below b_5 (by omega)
    replace p1 := p1.below b_5 (by omega)
    have z_6 := b_5.size
    replace hB := hB.trans (b_5.mono (by omega))
    clear b_5
    clear c1 c2
    go_wp2_with fail
    refine (vInts_same _ _ _ w5 p1.rd s1 (by omega) (by omega)).mono ?_; rintro q_ w7 ⟨rfl, b_7⟩
    replace h := h.below b_7 (by omega)
    replace o1 := o1.below b_7 (by omega)
    replace p1 := p1.below b_7 (by omega)
    replace s1 := s1.below b_7 (by omega)
    have z_8 := b_7.size
    replace hB := hB.trans (b_7.mono (by omega))
    clear b_7
    clear s1
    go_wp2_with fail
    refine (implAreIrqs_any _ l1 w7 o1.rd (by omega)).mono ?_; rintro q_ w9 ⟨rfl, b_9⟩
    replace h := h.below b_9 (by omega)
    replace o1 := o1.below b_9 (by omega)
    replace p1 := p1.below b_9 (by omega)
    have z_10 := b_9.size
    replace hB := hB.trans (b_9.mono (by omega))
    clear b_9
    go_wp2_with fail
    refine (AreIrqs_any _ l1 w9 o1.rd (by omega)).mono ?_; rintro q_ w11 ⟨rfl, b_11⟩
    replace h := h.below b_11 (by omega)
    replace o1 := o1.below b_11 (by omega)
    replace p1 := p1.below b_11 (by omega)
    have z_12 := b_11.size
    replace hB := hB.trans (b_11.mono (by omega))
    clear b_11
    go_wp2_with fail
    have c1 := implMostUrgent_any v1 l1 x1 w11 o1.rd (by omega)
    rw [hk, e2] at c1
    refine (c1).mono ?_; rintro q_ w13 ⟨rfl, b_13⟩
    replace h := h.below b_13 (by omega)
    replace o1 := o1.below b_13 (by omega)
    replace p1 := p1.below b_13 (by omega)
    have z_14 := b_13.size
    replace hB := hB.trans (b_13.mono (by omega))
    clear b_13
    go_wp2_with fail
    have c2 := specMostUrgent_any v1 l1 x1 w13 o1.rd (by omega)
    rw [hk, e2] at c2
    refine (c2).mono ?_; rintro q_ w15 ⟨rfl, b_15⟩
    replace h := h.below b_15 (by omega)
    replace o1 := o1.below b_15 (by omega)
    replace p1 := p1.below b_15 (by omega)
    have z_16 := b_15.size
    replace hB := hB.trans (b_15.mono (by omega))
    clear b_15
    clear c1 c2
    obtain ⟨A, n, c, rfl, H, hnc, hm⟩ := p1.rd.form
    obtain ⟨A1, n1, c1_, rfl, H1, hnc1, hm1⟩ := o1.rd.form
    have hn0 : 0 < n := by rw [H.out]; simp
    have hn8 : n ≤ 8 := by rw [H.out]; exact hln
    have HL := Lib.hid (show n = tl.length + 1 from H.out)
    have HS := Lib.hid hrs
    have HA := Lib.hid hat
    have HD := Lib.hid hd
    have HR := Lib.hid hdr
    have HG := Lib.hid hg2
    have HA2 := Lib.hid ha2
    have HK := Lib.hid hk
    have HE := Lib.hid e1
    have hnn : Hid (n1 = l1.length) := H1
    clear H H1 e2 hrs hat hd hdr hg2 ha2 ht0 hk e1 ha hln
    go_wp2_with fail
    go_loopw [13] (fun i wr => ∃ k : Nat, i = .int .i64 k ∧ 1 ≤ k ∧ Below w15.heap.size w15 wr) (fun i _ => n - (intOf i).toNat)
    case atStart => exact ⟨1, rfl, Nat.le_refl _, Below.refl _ _⟩
    case round =>
      obtain ⟨k, rfl, hk1, hb⟩ := hrel
      have hb0 := hb
      replace h := h.below hb (by omega)
      replace o1 := o1.below hb (by omega)
      replace p1 := p1.below hb (by omega)
      have z_17 := hb.size
      replace hB := hB.trans (hb.mono (by omega))
      clear hb
      by_cases hlt : k < n
      · obtain ⟨j, rfl⟩ : ∃ j, k = j + 1 := ⟨k - 1, by omega⟩
        have hjn : j < n := by omega
        obtain ⟨b, off, y, rfl, hy, _, hb2, f0⟩ := Nm.get p1.rd hjn (Below.refl wr.heap.size wr) (by omega)
        have p1' := p1.rd
        obtain ⟨b', off', z, hAA, hz, _, hb3, g0⟩ := Nm.get p1' hlt (Below.refl wr.heap.size wr) (by omega)
        obtain ⟨e3, e4⟩ : b = b' ∧ off = off' := by injection hAA with hAA; injection hAA with e3 e4; exact ⟨e3, e4⟩
        subst e3; subst e4
        clear p1' hAA
        obtain ⟨i1, t1, rfl, hi1, ht1, hp1⟩ := HA.out y (List.mem_of_getElem? hy.out)
        obtain ⟨i2, t2, rfl, hi2, ht2, hp2⟩ := HA.out z (List.mem_of_getElem? hz.out)
        have hR : Iq.R l1 i1 i2 := by
          obtain ⟨h1, e1⟩ := List.getElem?_eq_some_iff.1 hy.out
          obtain ⟨h2, e2⟩ := List.getElem?_eq_some_iff.1 hz.out
          have := (List.pairwise_iff_getElem.1 HS.out) j (j + 1) h1 h2 (by omega)
          rw [e1, e2] at this
          exact this
        have hi1' : i1 < n1 := by rw [hnn.out]; exact hi1
        have hi2' : i2 < n1 := by rw [hnn.out]; exact hi2
        obtain ⟨c0, d0, t1', hAB, h1', _, hc2, q0, q1, q2, q3, q4⟩ := Iq.get o1.rd hi1' (Below.refl wr.heap.size wr) (by omega)
        subst hAB
        obtain ⟨c0', d0', t2', hAB, h2', _, hc3, r0, r1, r2, r3, r4⟩ := Iq.get o1.rd hi2' (Below.refl wr.heap.size wr) (by omega)
        obtain ⟨e3, e4⟩ : c0 = c0' ∧ d0 = d0' := by injection hAB with hAB; injection hAB with e3 e4; exact ⟨e3, e4⟩
        subst e3; subst e4
        obtain rfl := Option.some.inj (ht1.symm.trans h1'.out)
        obtain rfl := Option.some.inj (ht2.symm.trans h2'.out)
        unfold Iq.R at hR
        rw [hp1, hp2] at hR
        have hii1 : (i1 : Int) < (n1 : Int) := by omega
        have hii2 : (i2 : Int) < (n1 : Int) := by omega
        have hjw : IntKind.i64.wrap (j : Int) = (j : Int) := IntWalk.i64_in _ (by omega)
        have hje : ((j + 1 : Nat) : Int) - 1 = (j : Int) := by omega
        have hj1 : ((j + 1 : Nat) : Int) < (n : Int) := by omega
        have hj2 : (j : Int) < (n : Int) := by omega
        clear hy hz hAB ht1 ht2 h1' h2' hp1 hp2 hi1 hi2 q0 q1 q2 q4 r0 r1 r2 r4
        rcases hR with hR | hR
        · have m1 : decide (t1.prio > t2.prio) = false := decide_eq_false (by omega)
          have m1' : decide (t2.prio < t1.prio) = false := decide_eq_false (by omega)
          have m2 : (t1.prio == t2.prio) = false := by rw [beq_eq_false_iff_ne]; omega
          clear hR
          go_wp2_with fail
          go_quiet (fail)
          go_wp2_with fail
          go_quiet (fail)
          go_wp2_with fail
          go_roundw
          case rel => exact ⟨j + 1 + 1, by go_num, by omega, below_drewN hb0 _⟩
          case measure => simp [intOf]; omega
        · have m1 : decide (t2.prio < t1.prio) = false := decide_eq_false (by omega)
          have m2 : (t1.prio == t2.prio) = true := by rw [beq_iff_eq]; omega
          have m3 : decide ((i2 : Int) ≤ (i1 : Int)) = false := decide_eq_false (by omega)
          have m4 : decide (i2 ≤ i1) = false := decide_eq_false (by omega)
          have m5 : ¬ i2 ≤ i1 := by omega
          clear hR
          go_wp2_with fail
          go_quiet (fail)
          go_wp2_with fail
          go_quiet (fail)
          go_wp2_with fail
          go_roundw
          case rel => exact ⟨j + 1 + 1, by go_num, by omega, below_drewN hb0 _⟩
          case measure => simp [intOf]; omega
      · clear hb0
        have hkd : decide ((k : Int) < (n : Int)) = false := decide_eq_false (by omega)
        have hn0z : ((n : Int) == 0) = false := by rw [beq_eq_false_iff_ne]; omega
        have hn0d : decide ((0 : Int) < (n : Int)) = true := decide_eq_true (by omega)
        have hk0n : ((k0 : Int) == -1) = false := by rw [beq_eq_false_iff_ne]; omega
        obtain ⟨b, off, x, rfl, hx, _, hb2, f0⟩ := Nm.get p1.rd hn0 (Below.refl wr.heap.size wr) (by omega)
        obtain rfl : x = (k0 : Int) := Option.some.inj (hx.out.symm.trans rfl)
        simp only [Nat.add_zero] at f0
        clear hx
        go_wp2_with fail
        have c1 := implBeginIrq_any _ l1 (k0 : Int) wr o1.rd (by omega)
        rw [HD.out, HR.out] at c1
        refine (c1).mono ?_; rintro q_ w18 ⟨u2, rfl, p2, _, b_18⟩
        replace h := h.below b_18 (by omega)
        replace o1 := o1.below b_18 (by omega)
        replace p1 := p1.below b_18 (by omega)
        have z_19 := b_18.size
        replace hB := hB.trans (b_18.mono (by omega))
        clear b_18
        clear c1
        go_wp2_with fail
        have c1 := implReadyIrqs_any _ _ x1 w18 p2.rd (by omega)
        have hq : Iq.rdOk (l1.set k0 t0.begun) x1 = true := by simp [Iq.rdOk, HG.out, (Iq.rd_get HK.out).2]
        rw [hq, (Iq.rd_yes hq).2, HA2.out] at c1
        clear hq
        refine (c1).mono ?_; rintro q_ w20 ⟨u4, rfl, p4, _, b_20⟩
        replace h := h.below b_20 (by omega)
        replace o1 := o1.below b_20 (by omega)
        replace p1 := p1.below b_20 (by omega)
        replace p2 := p2.below b_20 (by omega)
        have z_21 := b_20.size
        replace hB := hB.trans (b_20.mono (by omega))
        clear b_20
        clear c1
        have rd1 := p1.rd.drop1p (k := 1) (by omega)
        have hd1 : ((k0 : Int) :: tl).drop 1 = tl := rfl
        rw [hd1] at rd1
        clear hd1
        by_cases hc1 : c = 1
        · subst hc1
          obtain rfl : n = 1 := by omega
          rw [if_pos rfl] at rd1
          simp only [Nat.sub_self] at rd1
          go_wp2_with fail
          refine (vInts_same _ _ _ w20 p4.rd rd1 (by omega) (by omega)).mono ?_; rintro q_ w22 ⟨rfl, b_22⟩
          replace h := h.below b_22 (by omega)
          replace o1 := o1.below b_22 (by omega)
          replace p1 := p1.below b_22 (by omega)
          replace p2 := p2.below b_22 (by omega)
          replace p4 := p4.below b_22 (by omega)
          replace rd1 := rd1.below b_22 (by omega)
          have z_23 := b_22.size
          replace hB := hB.trans (b_22.mono (by omega))
          clear b_22
          clear p4 p2 rd1
          have hk := HK.out
          have e1 := HE.out
          go_wp2_with fail
          have c1 := implServeAll_any _ l1 x1 w22 o1.rd (by omega)
          rw [hk, e1] at c1
          refine (c1).mono ?_; rintro q_ w24 ⟨u3, y3, rfl, p3, q3, _, _, b_24⟩
          replace h := h.below b_24 (by omega)
          replace o1 := o1.below b_24 (by omega)
          replace p1 := p1.below b_24 (by omega)
          have z_25 := b_24.size
          replace hB := hB.trans (b_24.mono (by omega))
          clear b_24
          clear c1
          go_wp2_with fail
          have c1 := implMostUrgent_any y3 _ x1 w24 q3.rd (by omega)
          rw [(Iq.served_none hk).1, (Iq.served_none hk).2] at c1
          refine (c1).mono ?_; rintro q_ w26 ⟨rfl, b_26⟩
          replace h := h.below b_26 (by omega)
          replace o1 := o1.below b_26 (by omega)
          replace p1 := p1.below b_26 (by omega)
          replace p3 := p3.below b_26 (by omega)
          replace q3 := q3.below b_26 (by omega)
          have z_27 := b_26.size
          replace hB := hB.trans (b_26.mono (by omega))
          clear b_26
          clear c1
          go_wp2_with fail
          refine (vInts_same _ _ _ w26 p3.rd p1.rd (by omega) (by omega)).mono ?_; rintro q_ w28 ⟨rfl, b_28⟩
          replace h := h.below b_28 (by omega)
          replace o1 := o1.below b_28 (by omega)
          replace p1 := p1.below b_28 (by omega)
          replace p3 := p3.below b_28 (by omega)
          replace q3 := q3.below b_28 (by omega)
          have z_29 := b_28.size
          replace hB := hB.trans (b_28.mono (by omega))
          clear b_28
          clear p3 q3 p1 o1
          clear hk e1 HS HA HD HR HG HA2 HK HE HL
          go_wp2_with fail
          refine (DrawServeAll_any cv l w28 h (by omega)).mono ?_; rintro q_ w30 ⟨v5, l5, x5, rfl, o5, b_30⟩
          replace h := h.below b_30 (by omega)
          have z_31 := b_30.size
          replace hB := hB.trans (b_30.mono (by omega))
          clear b_30
          go_wp2_with fail
          refine (implServeAll_any v5 l5 x5 w30 o5.rd (by omega)).mono ?_; rintro q_ w32 ⟨u5, y5, rfl, p5, q5, _, _, b_32⟩
          replace h := h.below b_32 (by omega)
          replace o5 := o5.below b_32 (by omega)
          have z_33 := b_32.size
          replace hB := hB.trans (b_32.mono (by omega))
          clear b_32
          go_wp2_with fail
          refine (specServeAll_any v5 l5 x5 w32 o5.rd (by omega)).mono ?_; rintro q_ w34 ⟨t5, s5, rfl, a5, b5, b_34⟩
          replace h := h.below b_34 (by omega)
          replace o5 := o5.below b_34 (by omega)
          replace p5 := p5.below b_34 (by omega)
          replace q5 := q5.below b_34 (by omega)
          have z_35 := b_34.size
          replace hB := hB.trans (b_34.mono (by omega))
          clear b_34
          go_wp2_with fail
          refine (vInts_same _ _ _ w34 p5.rd a5 (by omega) (by omega)).mono ?_; rintro q_ w36 ⟨rfl, b_36⟩
          replace h := h.below b_36 (by omega)
          replace o5 := o5.below b_36 (by omega)
          replace p5 := p5.below b_36 (by omega)
          replace q5 := q5.below b_36 (by omega)
          replace a5 := a5.below b_36 (by omega)
          replace b5 := b5.below b_36 (by omega)
          have z_37 := b_36.size
          replace hB := hB.trans (b_36.mono (by omega))
          clear b_36
          go_wp2_with fail
          refine (Iq.v_same _ _ _ w36 q5.rd b5 (by omega) (by omega)).mono ?_; rintro q_ w38 ⟨rfl, b_38⟩
          replace h := h.below b_38 (by omega)
          replace o5 := o5.below b_38 (by omega)
          replace p5 := p5.below b_38 (by omega)
          replace q5 := q5.below b_38 (by omega)
          replace a5 := a5.below b_38 (by omega)
          replace b5 := b5.below b_38 (by omega)
          have z_39 := b_38.size
          replace hB := hB.trans (b_38.mono (by omega))
          clear b_38
          clear p5 q5 a5 b5 o5
          go_wp2_with fail
          refine (DrawPriorityMask_any cv l w38 h (by omega)).mono ?_; rintro q_ w40 ⟨v6, l6, x6, m6, rfl, o6, b_40⟩
          replace h := h.below b_40 (by omega)
          have z_41 := b_40.size
          replace hB := hB.trans (b_40.mono (by omega))
          clear b_40
          go_wp2_with fail
          refine (implPriorityMask_any v6 l6 x6 m6 w40 o6.rd (by omega)).mono ?_; rintro q_ w42 ⟨u6, rfl, p6, _, b_42⟩
          replace h := h.below b_42 (by omega)
          replace o6 := o6.below b_42 (by omega)
          have z_43 := b_42.size
          replace hB := hB.trans (b_42.mono (by omega))
          clear b_42
          go_wp2_with fail
          refine (specPriorityMask_any v6 l6 x6 m6 w42 o6.rd (by omega)).mono ?_; rintro q_ w44 ⟨t6, rfl, s6, b_44⟩
          replace h := h.below b_44 (by omega)
          replace o6 := o6.below b_44 (by omega)
          replace p6 := p6.below b_44 (by omega)
          have z_45 := b_44.size
          replace hB := hB.trans (b_44.mono (by omega))
          clear b_44
          go_wp2_with fail
          refine (vInts_same _ _ _ w44 p6.rd s6 (by omega) (by omega)).mono ?_; rintro q_ w46 ⟨rfl, b_46⟩
          replace h := h.below b_46 (by omega)
          replace o6 := o6.below b_46 (by omega)
          replace p6 := p6.below b_46 (by omega)
          replace s6 := s6.below b_46 (by omega)
          have z_47 := b_46.size
          replace hB := hB.trans (b_46.mono (by omega))
          clear b_46
          go_wp2_with fail
          go_ret
          exact ⟨rfl, hB⟩
        · rw [if_neg hc1] at rd1
          go_wp2_with fail
          refine (vInts_same _ _ _ w20 p4.rd rd1 (by omega) (by omega)).mono ?_; rintro q_ w22 ⟨rfl, b_22⟩
          replace h := h.below b_22 (by omega)
          replace o1 := o1.below b_22 (by omega)
          replace p1 := p1.below b_22 (by omega)
          replace p2 := p2.below b_22 (by omega)
          replace p4 := p4.below b_22 (by omega)
          replace rd1 := rd1.below b_22 (by omega)
          have z_23 := b_22.size
          replace hB := hB.trans (b_22.mono (by omega))
          clear b_22
          clear p4 p2 rd1
          have hk := HK.out
          have e1 := HE.out
          go_wp2_with fail
          have c1 := implServeAll_any _ l1 x1 w22 o1.rd (by omega)
          rw [hk, e1] at c1
          refine (c1).mono ?_; rintro q_ w24 ⟨u3, y3, rfl, p3, q3, _, _, b_24⟩
          replace h := h.below b_24 (by omega)
          replace o1 := o1.below b_24 (by omega)
          replace p1 := p1.below b_24 (by omega)
          have z_25 := b_24.size
          replace hB := hB.trans (b_24.mono (by omega))
          clear b_24
          clear c1
          go_wp2_with fail
          have c1 := implMostUrgent_any y3 _ x1 w24 q3.rd (by omega)
          rw [(Iq.served_none hk).1, (Iq.served_none hk).2] at c1
          refine (c1).mono ?_; rintro q_ w26 ⟨rfl, b_26⟩
          replace h := h.below b_26 (by omega)
          replace o1 := o1.below b_26 (by omega)
          replace p1 := p1.below b_26 (by omega)
          replace p3 := p3.below b_26 (by omega)
          replace q3 := q3.below b_26 (by omega)
          have z_27 := b_26.size
          replace hB := hB.trans (b_26.mono (by omega))
          clear b_26
          clear c1
          go_wp2_with fail
          refine (vInts_same _ _ _ w26 p3.rd p1.rd (by omega) (by omega)).mono ?_; rintro q_ w28 ⟨rfl, b_28⟩
          replace h := h.below b_28 (by omega)
          replace o1 := o1.below b_28 (by omega)
          replace p1 := p1.below b_28 (by omega)
          replace p3 := p3.below b_28 (by omega)
          replace q3 := q3.below b_28 (by omega)
          have z_29 := b_28.size
          replace hB := hB.trans (b_28.mono (by omega))
          clear b_28
          clear p3 q3 p1 o1
          clear hk e1 HS HA HD HR HG HA2 HK HE HL
          go_wp2_with fail
          refine (DrawServeAll_any cv l w28 h (by omega)).mono ?_; rintro q_ w30 ⟨v5, l5, x5, rfl, o5, b_30⟩
          replace h := h.below b_30 (by omega)
          have z_31 := b_30.size
          replace hB := hB.trans (b_30.mono (by omega))
          clear b_30
          go_wp2_with fail
          refine (implServeAll_any v5 l5 x5 w30 o5.rd (by omega)).mono ?_; rintro q_ w32 ⟨u5, y5, rfl, p5, q5, _, _, b_32⟩
          replace h := h.below b_32 (by omega)
          replace o5 := o5.below b_32 (by omega)
          have z_33 := b_32.size
          replace hB := hB.trans (b_32.mono (by omega))
          clear b_32
          go_wp2_with fail
          refine (specServeAll_any v5 l5 x5 w32 o5.rd (by omega)).mono ?_; rintro q_ w34 ⟨t5, s5, rfl, a5, b5, b_34⟩
          replace h := h.below b_34 (by omega)
          replace o5 := o5.below b_34 (by omega)
          replace p5 := p5.below b_34 (by omega)
          replace q5 := q5.below b_34 (by omega)
          have z_35 := b_34.size
          replace hB := hB.trans (b_34.mono (by omega))
          clear b_34
          go_wp2_with fail
          refine (vInts_same _ _ _ w34 p5.rd a5 (by omega) (by omega)).mono ?_; rintro q_ w36 ⟨rfl, b_36⟩
          replace h := h.below b_36 (by omega)
          replace o5 := o5.below b_36 (by omega)
          replace p5 := p5.below b_36 (by omega)
          replace q5 := q5.below b_36 (by omega)
          replace a5 := a5.below b_36 (by omega)
          replace b5 := b5.below b_36 (by omega)
          have z_37 := b_36.size
          replace hB := hB.trans (b_36.mono (by omega))
          clear b_36
          go_wp2_with fail
          refine (Iq.v_same _ _ _ w36 q5.rd b5 (by omega) (by omega)).mono ?_; rintro q_ w38 ⟨rfl, b_38⟩
          replace h := h.below b_38 (by omega)
          replace o5 := o5.below b_38 (by omega)
          replace p5 := p5.below b_38 (by omega)
          replace q5 := q5.below b_38 (by omega)
          replace a5 := a5.below b_38 (by omega)
          replace b5 := b5.below b_38 (by omega)
          have z_39 := b_38.size
          replace hB := hB.trans (b_38.mono (by omega))
          clear b_38
          clear p5 q5 a5 b5 o5
          go_wp2_with fail
          refine (DrawPriorityMask_any cv l w38 h (by omega)).mono ?_; rintro q_ w40 ⟨v6, l6, x6, m6, rfl, o6, b_40⟩
          replace h := h.below b_40 (by omega)
          have z_41 := b_40.size
          replace hB := hB.trans (b_40.mono (by omega))
          clear b_40
          go_wp2_with fail
          refine (implPriorityMask_any v6 l6 x6 m6 w40 o6.rd (by omega)).mono ?_; rintro q_ w42 ⟨u6, rfl, p6, _, b_42⟩
          replace h := h.below b_42 (by omega)
          replace o6 := o6.below b_42 (by omega)
          have z_43 := b_42.size
          replace hB := hB.trans (b_42.mono (by omega))
          clear b_42
          go_wp2_with fail
          refine (specPriorityMask_any v6 l6 x6 m6 w42 o6.rd (by omega)).mono ?_; rintro q_ w44 ⟨t6, rfl, s6, b_44⟩
          replace h := h.below b_44 (by omega)
          replace o6 := o6.below b_44 (by omega)
          replace p6 := p6.below b_44 (by omega)
          have z_45 := b_44.size
          replace hB := hB.trans (b_44.mono (by omega))
          clear b_44
          go_wp2_with fail
          refine (vInts_same _ _ _ w44 p6.rd s6 (by omega) (by omega)).mono ?_; rintro q_ w46 ⟨rfl, b_46⟩
          replace h := h.below b_46 (by omega)
          replace o6 := o6.below b_46 (by omega)
          replace p6 := p6.below b_46 (by omega)
          replace s6 := s6.below b_46 (by omega)
          have z_47 := b_46.size
          replace hB := hB.trans (b_46.mono (by omega))
          clear b_46
          go_wp2_with fail
          go_ret
          exact ⟨rfl, hB⟩

set_option maxRecDepth 100000 in
theorem FnDistributor_holds : Rows.FnDistributorSaid :=
  OpenClaim.holds_of_wide 6 Try.f6 rfl rfl rfl rfl rfl rfl rfl ⟨rfl, rfl, rfl, rfl, rfl⟩ rfl rfl rfl rfl rfl (by kernel_rfl) Try.func6 (by kernel_rfl)
    (of_decide_eq_true (by kernel_rfl)) (by unfold Func.isWrapper; first | (rw [if_pos (by decide +kernel)]; kernel_rfl) | (rw [if_neg (by decide +kernel)]; exact ⟨rfl, rfl⟩))
    (fun os started H enc _ => law_lifted (C := Try.checked) (s := Rows.fnDistributorSpec) own started (by kernel_rfl) Try.func6
      (ChangeSpec.witness6 (enc := enc) (C := Try.checked) false ⟨#[], #[.slice none 0 0], []⟩ 8 (by kernel_rfl) (by kernel_rfl) (by kernel_rfl) (by kernel_rfl))
      laidOut (by kernel_rfl) rfl rfl Try.underlying4 (fun ds h => by match ds, h with | [_], _ => rfl)
      (fun W base args ds p hval0 hA0 => by
        have hval : ∀ (j : Nat) t v, Try.f6.params[j]? = some t → args[j]? = some v → Value.okWide Try.prog W .any base t v := hval0
        have hA : DataW.TrodAll enc Try.prog W 0 (fun _ => true) true Try.f6.params.toList args.toList ds p := hA0
        rw [Try.params6] at hA hval
        obtain ⟨v0, vs0, d0, ds0, p0, q0, hargs, rfl, rfl, h0, r0⟩ := trodAll_cons hA
        obtain ⟨rfl, rfl, rfl⟩ := trodAll_nil r0
        obtain rfl : args = #[v0] := by cases args; simp_all
        obtain ⟨l, k0⟩ := By.openS (hval 0 22 v0 rfl rfl) h0
        exact FnDistributor_walk v0 l W k0))

end Go.Proofs.Ytgnalbfepkcokaa
