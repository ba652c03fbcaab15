/- An interrupt that has begun is active until it ends, and only what is asked for changes: the law 'FnIrqStates' says so of every code. No condition. -/
import Derived.Test.YtgnalbfepkcokaaDrIq2
import Derived.Test.YtgnalbfepkcokaaVIq
import Derived.Test.YtgnalbfepkcokaaVNm
import Derived.Test.YtgnalbfepkcokaaIqOps
namespace Go.Proofs.Ytgnalbfepkcokaa
open Go.RowKit Go.ChangeShapes Go.WideShapes Go.Deep

theorem Iq.doOk_get {l : List Iq} {i : Int} {g : Iq → Bool} {f : Iq → Iq} (h : Iq.doOk l i g f = true) : ∃ (k : Nat) (t : Iq), i = k ∧ k < l.length ∧ k ≤ 7 ∧ l[k]? = some t ∧ Iq.good l = true ∧ g t = true ∧ (f t).ok = true ∧ Iq.doR l i g f = l.set k (f t) := by
  have h0 := h
  simp only [Iq.doOk, Bool.and_eq_true] at h
  obtain ⟨h1, h2, h3⟩ := h
  obtain ⟨k, t, rfl, hk7, hk, ht, hg⟩ := Iq.asked_get h1
  rw [Iq.at_get ht] at h2 h3
  exact ⟨k, t, rfl, hk, hk7, ht, hg, h2, h3, (Iq.do_yes ht h0).2⟩
theorem Iq.do_at {l : List Iq} {k : Nat} {t : Iq} {g : Iq → Bool} {f : Iq → Iq} (hg : Iq.good l = true) (hk : k ≤ 7) (ht : l[k]? = some t) : Iq.doOk l k g f = (g t && (f t).ok) := by
  have : inB (k : Int) 0 7 = true := by rw [inB_iff]; omega
  simp [Iq.doOk, Iq.asked, hg, this, Iq.at_get ht]
theorem Iq.begin_all {l : List Iq} {i : Int} (h : Iq.doOk l i Iq.rdy Iq.begun = true) : ∃ (k : Nat) (t : Iq), i = k ∧ k < l.length ∧ (l.set k t.begun)[k]? = some t.begun ∧ Iq.doR l i Iq.rdy Iq.begun = l.set k t.begun ∧
    Iq.doOk (l.set k t.begun) k Iq.active Iq.ended = true ∧ Iq.doR (l.set k t.begun) k Iq.active Iq.ended = l.set k t.begun.ended ∧
    Iq.doOk (l.set k t.begun.ended) k Iq.yes (Iq.setP true) = true ∧ Iq.doR (l.set k t.begun.ended) k Iq.yes (Iq.setP true) = l ∧ Iq.doOk (l.set k t.begun) k Iq.rdy Iq.begun = false := by
  obtain ⟨k, t, rfl, hk, hk7, ht, hg, h1, h2, h3⟩ := Iq.doOk_get h
  have hb : (l.set k t.begun)[k]? = some t.begun := by rw [List.getElem?_set, if_pos rfl, if_pos hk]
  have hb2 : (l.set k t.begun.ended)[k]? = some t.begun.ended := by rw [List.getElem?_set, if_pos rfl, if_pos hk]
  have hgb : Iq.good (l.set k t.begun) = true := by rw [Iq.good_set _ hg hk]; exact h2
  have hge : Iq.good (l.set k t.begun.ended) = true := by rw [Iq.good_set _ hg hk]; exact h2
  have e1 : Iq.doOk (l.set k t.begun) k Iq.active Iq.ended = true := by rw [Iq.do_at hgb hk7 hb]; simp [Iq.begun]; exact h2
  have e2 : Iq.doOk (l.set k t.begun.ended) k Iq.yes (Iq.setP true) = true := by rw [Iq.do_at hge hk7 hb2]; simp [Iq.yes]; exact h2
  have ht2 : Iq.setP true t.begun.ended = t := by
    simp only [Iq.rdy, Bool.and_eq_true, Bool.not_eq_true'] at h1
    obtain ⟨a1, a2, a3⟩ := h1
    cases t
    simp_all [Iq.setP, Iq.ended, Iq.begun]
  refine ⟨k, t, rfl, hk, hb, h3, e1, ?_, e2, ?_, ?_⟩
  · rw [(Iq.do_yes hb e1).2, List.set_set]
  · rw [(Iq.do_yes hb2 e2).2, List.set_set, ht2]
    apply List.ext_getElem?
    intro j
    rw [List.getElem?_set]
    split
    · rename_i e; subst e; first | exact ht.symm | (rw [if_pos hk]; exact ht.symm)
    · rfl
  · rw [Iq.do_at hgb hk7 hb]; simp [Iq.rdy, Iq.begun]
theorem Iq.route_at {l : List Iq} {i p q : Int} (h : Iq.doOk l i Iq.idle (Iq.routed p q) = true) : ∃ (k : Nat) (t : Iq), i = k ∧ k < (Iq.doR l i Iq.idle (Iq.routed p q)).length ∧ (Iq.doR l i Iq.idle (Iq.routed p q))[k]? = some (t.routed p q) := by
  obtain ⟨k, t, rfl, hk, hk7, ht, hg, h1, h2, h3⟩ := Iq.doOk_get h
  refine ⟨k, t, rfl, ?_, ?_⟩
  · rw [h3, List.length_set]; exact hk
  · rw [h3, List.getElem?_set, if_pos rfl, if_pos hk]

set_option maxRecDepth 8000 in
set_option maxHeartbeats 8000000 in
theorem FnIrqStates_walk (cv : Value) (l : List UInt8) (w : World) (h : Rd By.cells 1 w 0 w.heap.size cv l) :
    Calls Try.prog 5 #[cv] w fun e w' => e = .returned (.bool true) ∧ Below w.heap.size w w' := by
  have hB := Below.refl w.heap.size w
  have z_0 : w.heap.size ≤ w.heap.size := Nat.le_refl _
  have c0 := vBig_any cv l w h
  by_cases hz : 65536 < l.length
  · rw [decide_eq_true hz] at c0
    go_enter Try.func5, Try.ntmps5
    go_wp2_with fail
    refine (c0).mono ?_; rintro q_ w_ ⟨rfl, rfl⟩
    go_wp2_with fail
    go_ret
    exact ⟨rfl, hB⟩
  rw [decide_eq_false hz] at c0
  go_enter Try.func5, Try.ntmps5
  go_wp2_with fail
  refine (c0).mono ?_; rintro q_ w_ ⟨rfl, rfl⟩
  clear c0
  go_wp2_with fail
  refine (DrawBeginIrq_any cv l w h (by omega)).mono ?_; rintro q_ w1 ⟨v1, l1, x1, rfl, o1, b_1⟩
  replace h := h.below b_1 (by omega)
  have z_2 := b_1.size
  replace hB := hB.trans (b_1.mono (by omega))
  clear b_1
  cases hk : Iq.doOk l1 x1 Iq.rdy Iq.begun
  · go_wp2_with fail
    have c1 := implBeginIrq_any v1 l1 x1 w1 o1.rd (by omega)
    rw [hk] at c1
    refine (c1).mono ?_; rintro q_ w3 ⟨u1, rfl, p1, _, b_3⟩
    replace h := h.below b_3 (by omega)
    replace o1 := o1.below b_3 (by omega)
    have z_4 := b_3.size
    replace hB := hB.trans (b_3.mono (by omega))
    clear b_3
    go_wp2_with fail
    have c2 := specBeginIrq_any v1 l1 x1 w3 o1.rd (by omega)
    rw [hk] at c2
    refine (c2).mono ?_; rintro q_ w5 ⟨t1, rfl, s1, b_5⟩
    replace h := h.below b_5 (by omega)
    replace o1 := o1.below b_5 (by omega)
    replace p1 := p1.below b_5 (by omega)
    have z_6 := b_5.size
    replace hB := hB.trans (b_5.mono (by omega))
    clear b_5
    clear hk c1 c2
    go_wp2_with fail
    refine (Iq.v_same _ _ _ w5 p1.rd s1 (by omega) (by omega)).mono ?_; rintro q_ w7 ⟨rfl, b_7⟩
    replace h := h.below b_7 (by omega)
    replace o1 := o1.below b_7 (by omega)
    replace p1 := p1.below b_7 (by omega)
    replace s1 := s1.below b_7 (by omega)
    have z_8 := b_7.size
    replace hB := hB.trans (b_7.mono (by omega))
    clear b_7
    clear p1 s1 o1
    go_wp2_with fail
    refine (DrawEndIrq_any cv l w7 h (by omega)).mono ?_; rintro q_ w9 ⟨v2, l2, x2, rfl, o2, b_9⟩
    replace h := h.below b_9 (by omega)
    have z_10 := b_9.size
    replace hB := hB.trans (b_9.mono (by omega))
    clear b_9
    go_wp2_with fail
    refine (implEndIrq_any _ l2 x2 w9 o2.rd (by omega)).mono ?_; rintro q_ w11 ⟨u2, rfl, p2, _, b_11⟩
    replace h := h.below b_11 (by omega)
    replace o2 := o2.below b_11 (by omega)
    have z_12 := b_11.size
    replace hB := hB.trans (b_11.mono (by omega))
    clear b_11
    go_wp2_with fail
    refine (specEndIrq_any _ l2 x2 w11 o2.rd (by omega)).mono ?_; rintro q_ w13 ⟨t2, rfl, s2, b_13⟩
    replace h := h.below b_13 (by omega)
    replace o2 := o2.below b_13 (by omega)
    replace p2 := p2.below b_13 (by omega)
    have z_14 := b_13.size
    replace hB := hB.trans (b_13.mono (by omega))
    clear b_13
    go_wp2_with fail
    refine (Iq.v_same _ _ _ w13 p2.rd s2 (by omega) (by omega)).mono ?_; rintro q_ w15 ⟨rfl, b_15⟩
    replace h := h.below b_15 (by omega)
    replace o2 := o2.below b_15 (by omega)
    replace p2 := p2.below b_15 (by omega)
    replace s2 := s2.below b_15 (by omega)
    have z_16 := b_15.size
    replace hB := hB.trans (b_15.mono (by omega))
    clear b_15
    clear p2 s2
    clear o2
    go_wp2_with fail
    refine (DrawSetPending_any cv l w15 h (by omega)).mono ?_; rintro q_ w17 ⟨v3, l3, x3, y3, rfl, o3, b_17⟩
    replace h := h.below b_17 (by omega)
    have z_18 := b_17.size
    replace hB := hB.trans (b_17.mono (by omega))
    clear b_17
    go_wp2_with fail
    refine (implSetPending_any _ l3 x3 y3 w17 o3.rd (by omega)).mono ?_; rintro q_ w19 ⟨u3, rfl, p3, _, b_19⟩
    replace h := h.below b_19 (by omega)
    replace o3 := o3.below b_19 (by omega)
    have z_20 := b_19.size
    replace hB := hB.trans (b_19.mono (by omega))
    clear b_19
    go_wp2_with fail
    refine (specSetPending_any _ l3 x3 y3 w19 o3.rd (by omega)).mono ?_; rintro q_ w21 ⟨t3, rfl, s3, b_21⟩
    replace h := h.below b_21 (by omega)
    replace o3 := o3.below b_21 (by omega)
    replace p3 := p3.below b_21 (by omega)
    have z_22 := b_21.size
    replace hB := hB.trans (b_21.mono (by omega))
    clear b_21
    go_wp2_with fail
    refine (Iq.v_same _ _ _ w21 p3.rd s3 (by omega) (by omega)).mono ?_; rintro q_ w23 ⟨rfl, b_23⟩
    replace h := h.below b_23 (by omega)
    replace o3 := o3.below b_23 (by omega)
    replace p3 := p3.below b_23 (by omega)
    replace s3 := s3.below b_23 (by omega)
    have z_24 := b_23.size
    replace hB := hB.trans (b_23.mono (by omega))
    clear b_23
    clear p3 s3
    clear o3
    go_wp2_with fail
    refine (DrawEnableIrq_any cv l w23 h (by omega)).mono ?_; rintro q_ w25 ⟨v4, l4, x4, y4, rfl, o4, b_25⟩
    replace h := h.below b_25 (by omega)
    have z_26 := b_25.size
    replace hB := hB.trans (b_25.mono (by omega))
    clear b_25
    go_wp2_with fail
    refine (implEnableIrq_any _ l4 x4 y4 w25 o4.rd (by omega)).mono ?_; rintro q_ w27 ⟨u4, rfl, p4, _, b_27⟩
    replace h := h.below b_27 (by omega)
    replace o4 := o4.below b_27 (by omega)
    have z_28 := b_27.size
    replace hB := hB.trans (b_27.mono (by omega))
    clear b_27
    go_wp2_with fail
    refine (specEnableIrq_any _ l4 x4 y4 w27 o4.rd (by omega)).mono ?_; rintro q_ w29 ⟨t4, rfl, s4, b_29⟩
    replace h := h.below b_29 (by omega)
    replace o4 := o4.below b_29 (by omega)
    replace p4 := p4.below b_29 (by omega)
    have z_30 := b_29.size
    replace hB := hB.trans (b_29.mono (by omega))
    clear b_29
    go_wp2_with fail
    refine (Iq.v_same _ _ _ w29 p4.rd s4 (by omega) (by omega)).mono ?_; rintro q_ w31 ⟨rfl, b_31⟩
    replace h := h.below b_31 (by omega)
    replace o4 := o4.below b_31 (by omega)
    replace p4 := p4.below b_31 (by omega)
    replace s4 := s4.below b_31 (by omega)
    have z_32 := b_31.size
    replace hB := hB.trans (b_31.mono (by omega))
    clear b_31
    clear p4 s4
    clear o4
    go_wp2_with fail
    refine (DrawRouteIrq_any cv l w31 h (by omega)).mono ?_; rintro q_ w33 ⟨v5, l5, x5, y5, z5, rfl, o5, b_33⟩
    replace h := h.below b_33 (by omega)
    have z_34 := b_33.size
    replace hB := hB.trans (b_33.mono (by omega))
    clear b_33
    cases hr : Iq.doOk l5 x5 Iq.idle (Iq.routed y5 z5)
    · go_wp2_with fail
      refine (implRouteIrq_any _ l5 x5 y5 z5 w33 o5.rd (by omega)).mono ?_; rintro q_ w35 ⟨u5, rfl, p5, _, b_35⟩
      replace h := h.below b_35 (by omega)
      replace o5 := o5.below b_35 (by omega)
      have z_36 := b_35.size
      replace hB := hB.trans (b_35.mono (by omega))
      clear b_35
      go_wp2_with fail
      refine (specRouteIrq_any _ l5 x5 y5 z5 w35 o5.rd (by omega)).mono ?_; rintro q_ w37 ⟨t5, rfl, s5, b_37⟩
      replace h := h.below b_37 (by omega)
      replace o5 := o5.below b_37 (by omega)
      replace p5 := p5.below b_37 (by omega)
      have z_38 := b_37.size
      replace hB := hB.trans (b_37.mono (by omega))
      clear b_37
      have HR := Lib.hid hr
      go_wp2_with fail
      refine (Iq.v_same _ _ _ w37 p5.rd s5 (by omega) (by omega)).mono ?_; rintro q_ w39 ⟨rfl, b_39⟩
      replace h := h.below b_39 (by omega)
      replace o5 := o5.below b_39 (by omega)
      replace p5 := p5.below b_39 (by omega)
      replace s5 := s5.below b_39 (by omega)
      have z_40 := b_39.size
      replace hB := hB.trans (b_39.mono (by omega))
      clear b_39
      go_wp2_with fail
      go_ret
      exact ⟨rfl, hB⟩
    · go_wp2_with fail
      refine (implRouteIrq_any _ l5 x5 y5 z5 w33 o5.rd (by omega)).mono ?_; rintro q_ w35 ⟨u5, rfl, p5, _, b_35⟩
      replace h := h.below b_35 (by omega)
      replace o5 := o5.below b_35 (by omega)
      have z_36 := b_35.size
      replace hB := hB.trans (b_35.mono (by omega))
      clear b_35
      go_wp2_with fail
      refine (specRouteIrq_any _ l5 x5 y5 z5 w35 o5.rd (by omega)).mono ?_; rintro q_ w37 ⟨t5, rfl, s5, b_37⟩
      replace h := h.below b_37 (by omega)
      replace o5 := o5.below b_37 (by omega)
      replace p5 := p5.below b_37 (by omega)
      have z_38 := b_37.size
      replace hB := hB.trans (b_37.mono (by omega))
      clear b_37
      obtain ⟨k, t, rfl, hk, ht⟩ := Iq.route_at hr
      obtain ⟨A, n, c, rfl, H, hnc, hm⟩ := p5.rd.form
      have hkn : k < n := by rw [H.out]; exact hk
      have hki : (k : Int) < (n : Int) := by omega
      have HT := Lib.hid ht
      clear hk ht
      have HR := Lib.hid hr
      go_wp2_with fail
      refine (Iq.v_same _ _ _ w37 p5.rd s5 (by omega) (by omega)).mono ?_; rintro q_ w39 ⟨rfl, b_39⟩
      replace h := h.below b_39 (by omega)
      replace o5 := o5.below b_39 (by omega)
      replace p5 := p5.below b_39 (by omega)
      replace s5 := s5.below b_39 (by omega)
      have z_40 := b_39.size
      replace hB := hB.trans (b_39.mono (by omega))
      clear b_39
      obtain ⟨b, off, t', rfl, HT', _, hb2, f0, f1, f2, f3, f4⟩ := Iq.get p5.rd hkn (Below.refl w39.heap.size w39) (by omega)
      obtain rfl := Option.some.inj (HT'.out.symm.trans HT.out)
      have e3 : (Iq.routed y5 z5 t).prio = y5 := rfl
      have e4 : (Iq.routed y5 z5 t).target = z5 := rfl
      rw [e3] at f3
      rw [e4] at f4
      clear e3 e4 HT HT' H
      go_wp2_with fail
      go_ret
      exact ⟨rfl, hB⟩
  · obtain ⟨k, t, rfl, hkl, hb, e1, e2, e3, e4, e5, e6⟩ := Iq.begin_all hk
    go_wp2_with fail
    have c1 := implBeginIrq_any v1 l1 (k : Int) w1 o1.rd (by omega)
    rw [hk, e1] at c1
    refine (c1).mono ?_; rintro q_ w3 ⟨u1, rfl, p1, _, b_3⟩
    replace h := h.below b_3 (by omega)
    replace o1 := o1.below b_3 (by omega)
    have z_4 := b_3.size
    replace hB := hB.trans (b_3.mono (by omega))
    clear b_3
    go_wp2_with fail
    have c2 := specBeginIrq_any v1 l1 (k : Int) w3 o1.rd (by omega)
    rw [hk, e1] at c2
    refine (c2).mono ?_; rintro q_ w5 ⟨t1, rfl, s1, b_5⟩
    replace h := h.below b_5 (by omega)
    replace o1 := o1.below b_5 (by omega)
    replace p1 := p1.below b_5 (by omega)
    have z_6 := b_5.size
    replace hB := hB.trans (b_5.mono (by omega))
    clear b_5
    clear hk c1 c2 e1
    go_wp2_with fail
    refine (Iq.v_same _ _ _ w5 p1.rd s1 (by omega) (by omega)).mono ?_; rintro q_ w7 ⟨rfl, b_7⟩
    replace h := h.below b_7 (by omega)
    replace o1 := o1.below b_7 (by omega)
    replace p1 := p1.below b_7 (by omega)
    replace s1 := s1.below b_7 (by omega)
    have z_8 := b_7.size
    replace hB := hB.trans (b_7.mono (by omega))
    clear b_7
    clear s1
    obtain ⟨A, n, c, rfl, H, hnc, hm⟩ := p1.rd.form
    have hkn : k < n := by rw [H.out, List.length_set]; exact hkl
    have hki : (k : Int) < (n : Int) := by omega
    have HT := Lib.hid hb
    clear hb hkl H
    go_wp2_with fail
    have c1 := implEndIrq_any _ _ (k : Int) w7 p1.rd (by omega)
    rw [e2, e3] at c1
    refine (c1).mono ?_; rintro q_ w9 ⟨u2, rfl, p2, _, b_9⟩
    replace h := h.below b_9 (by omega)
    replace o1 := o1.below b_9 (by omega)
    replace p1 := p1.below b_9 (by omega)
    have z_10 := b_9.size
    replace hB := hB.trans (b_9.mono (by omega))
    clear b_9
    clear c1 e2 e3
    go_wp2_with fail
    have c1 := implSetPending_any _ _ (k : Int) true w9 p2.rd (by omega)
    rw [e4, e5] at c1
    refine (c1).mono ?_; rintro q_ w11 ⟨u3, rfl, p3, _, b_11⟩
    replace h := h.below b_11 (by omega)
    replace o1 := o1.below b_11 (by omega)
    replace p1 := p1.below b_11 (by omega)
    replace p2 := p2.below b_11 (by omega)
    have z_12 := b_11.size
    replace hB := hB.trans (b_11.mono (by omega))
    clear b_11
    clear c1 e4 e5
    obtain ⟨b, off, t', rfl, HT', _, hb2, f0, f1, f2, f3, f4⟩ := Iq.get p1.rd hkn (Below.refl w11.heap.size w11) (by omega)
    obtain rfl := Option.some.inj (HT'.out.symm.trans HT.out)
    have e3 : t.begun.active = true := rfl
    have e4 : t.begun.pending = false := rfl
    rw [e3] at f2
    rw [e4] at f1
    clear e3 e4 HT HT'
    go_wp2_with fail
    refine (Iq.v_same _ _ _ w11 p3.rd o1.rd (by omega) (by omega)).mono ?_; rintro q_ w13 ⟨rfl, b_13⟩
    replace h := h.below b_13 (by omega)
    replace o1 := o1.below b_13 (by omega)
    replace p1 := p1.below b_13 (by omega)
    replace p2 := p2.below b_13 (by omega)
    replace p3 := p3.below b_13 (by omega)
    have z_14 := b_13.size
    replace hB := hB.trans (b_13.mono (by omega))
    clear b_13
    clear p3 p2 o1
    clear f0 f1 f2 f3 f4
    go_wp2_with fail
    have c1 := implBeginIrq_any _ _ (k : Int) w13 p1.rd (by omega)
    rw [e6] at c1
    refine (c1).mono ?_; rintro q_ w15 ⟨u4, rfl, p4, _, b_15⟩
    replace h := h.below b_15 (by omega)
    replace p1 := p1.below b_15 (by omega)
    have z_16 := b_15.size
    replace hB := hB.trans (b_15.mono (by omega))
    clear b_15
    clear c1 e6
    clear p4 p1
    go_wp2_with fail
    refine (DrawEndIrq_any cv l w15 h (by omega)).mono ?_; rintro q_ w17 ⟨v2, l2, x2, rfl, o2, b_17⟩
    replace h := h.below b_17 (by omega)
    have z_18 := b_17.size
    replace hB := hB.trans (b_17.mono (by omega))
    clear b_17
    go_wp2_with fail
    refine (implEndIrq_any _ l2 x2 w17 o2.rd (by omega)).mono ?_; rintro q_ w19 ⟨u2, rfl, p2, _, b_19⟩
    replace h := h.below b_19 (by omega)
    replace o2 := o2.below b_19 (by omega)
    have z_20 := b_19.size
    replace hB := hB.trans (b_19.mono (by omega))
    clear b_19
    go_wp2_with fail
    refine (specEndIrq_any _ l2 x2 w19 o2.rd (by omega)).mono ?_; rintro q_ w21 ⟨t2, rfl, s2, b_21⟩
    replace h := h.below b_21 (by omega)
    replace o2 := o2.below b_21 (by omega)
    replace p2 := p2.below b_21 (by omega)
    have z_22 := b_21.size
    replace hB := hB.trans (b_21.mono (by omega))
    clear b_21
    go_wp2_with fail
    refine (Iq.v_same _ _ _ w21 p2.rd s2 (by omega) (by omega)).mono ?_; rintro q_ w23 ⟨rfl, b_23⟩
    replace h := h.below b_23 (by omega)
    replace o2 := o2.below b_23 (by omega)
    replace p2 := p2.below b_23 (by omega)
    replace s2 := s2.below b_23 (by omega)
    have z_24 := b_23.size
    replace hB := hB.trans (b_23.mono (by omega))
    clear b_23
    clear p2 s2
    clear o2
    go_wp2_with fail
    refine (DrawSetPending_any cv l w23 h (by omega)).mono ?_; rintro q_ w25 ⟨v3, l3, x3, y3, rfl, o3, b_25⟩
    replace h := h.below b_25 (by omega)
    have z_26 := b_25.size
    replace hB := hB.trans (b_25.mono (by omega))
    clear b_25
    go_wp2_with fail
    refine (implSetPending_any _ l3 x3 y3 w25 o3.rd (by omega)).mono ?_; rintro q_ w27 ⟨u3, rfl, p3, _, b_27⟩
    replace h := h.below b_27 (by omega)
    replace o3 := o3.below b_27 (by omega)
    have z_28 := b_27.size
    replace hB := hB.trans (b_27.mono (by omega))
    clear b_27
    go_wp2_with fail
    refine (specSetPending_any _ l3 x3 y3 w27 o3.rd (by omega)).mono ?_; rintro q_ w29 ⟨t3, rfl, s3, b_29⟩
    replace h := h.below b_29 (by omega)
    replace o3 := o3.below b_29 (by omega)
    replace p3 := p3.below b_29 (by omega)
    have z_30 := b_29.size
    replace hB := hB.trans (b_29.mono (by omega))
    clear b_29
    go_wp2_with fail
    refine (Iq.v_same _ _ _ w29 p3.rd s3 (by omega) (by omega)).mono ?_; rintro q_ w31 ⟨rfl, b_31⟩
    replace h := h.below b_31 (by omega)
    replace o3 := o3.below b_31 (by omega)
    replace p3 := p3.below b_31 (by omega)
    replace s3 := s3.below b_31 (by omega)
    have z_32 := b_31.size
    replace hB := hB.trans (b_31.mono (by omega))
    clear b_31
    clear p3 s3
    clear o3
    go_wp2_with fail
    refine (DrawEnableIrq_any cv l w31 h (by omega)).mono ?_; rintro q_ w33 ⟨v4, l4, x4, y4, rfl, o4, b_33⟩
    replace h := h.below b_33 (by omega)
    have z_34 := b_33.size
    replace hB := hB.trans (b_33.mono (by omega))
    clear b_33
    go_wp2_with fail
    refine (implEnableIrq_any _ l4 x4 y4 w33 o4.rd (by omega)).mono ?_; rintro q_ w35 ⟨u4, rfl, p4, _, b_35⟩
    replace h := h.below b_35 (by omega)
    replace o4 := o4.below b_35 (by omega)
    have z_36 := b_35.size
    replace hB := hB.trans (b_35.mono (by omega))
    clear b_35
    go_wp2_with fail
    refine (specEnableIrq_any _ l4 x4 y4 w35 o4.rd (by omega)).mono ?_; rintro q_ w37 ⟨t4, rfl, s4, b_37⟩
    replace h := h.below b_37 (by omega)
    replace o4 := o4.below b_37 (by omega)
    replace p4 := p4.below b_37 (by omega)
    have z_38 := b_37.size
    replace hB := hB.trans (b_37.mono (by omega))
    clear b_37
    go_wp2_with fail
    refine (Iq.v_same _ _ _ w37 p4.rd s4 (by omega) (by omega)).mono ?_; rintro q_ w39 ⟨rfl, b_39⟩
    replace h := h.below b_39 (by omega)
    replace o4 := o4.below b_39 (by omega)
    replace p4 := p4.below b_39 (by omega)
    replace s4 := s4.below b_39 (by omega)
    have z_40 := b_39.size
    replace hB := hB.trans (b_39.mono (by omega))
    clear b_39
    clear p4 s4
    clear o4
    go_wp2_with fail
    refine (DrawRouteIrq_any cv l w39 h (by omega)).mono ?_; rintro q_ w41 ⟨v5, l5, x5, y5, z5, rfl, o5, b_41⟩
    replace h := h.below b_41 (by omega)
    have z_42 := b_41.size
    replace hB := hB.trans (b_41.mono (by omega))
    clear b_41
    cases hr : Iq.doOk l5 x5 Iq.idle (Iq.routed y5 z5)
    · go_wp2_with fail
      refine (implRouteIrq_any _ l5 x5 y5 z5 w41 o5.rd (by omega)).mono ?_; rintro q_ w43 ⟨u5, rfl, p5, _, b_43⟩
      replace h := h.below b_43 (by omega)
      replace o5 := o5.below b_43 (by omega)
      have z_44 := b_43.size
      replace hB := hB.trans (b_43.mono (by omega))
      clear b_43
      go_wp2_with fail
      refine (specRouteIrq_any _ l5 x5 y5 z5 w43 o5.rd (by omega)).mono ?_; rintro q_ w45 ⟨t5, rfl, s5, b_45⟩
      replace h := h.below b_45 (by omega)
      replace o5 := o5.below b_45 (by omega)
      replace p5 := p5.below b_45 (by omega)
      have z_46 := b_45.size
      replace hB := hB.trans (b_45.mono (by omega))
      clear b_45
      have HR := Lib.hid hr
      go_wp2_with fail
      refine (Iq.v_same _ _ _ w45 p5.rd s5 (by omega) (by omega)).mono ?_; rintro q_ w47 ⟨rfl, b_47⟩
      replace h := h.below b_47 (by omega)
      replace o5 := o5.below b_47 (by omega)
      replace p5 := p5.below b_47 (by omega)
      replace s5 := s5.below b_47 (by omega)
      have z_48 := b_47.size
      replace hB := hB.trans (b_47.mono (by omega))
      clear b_47
      go_wp2_with fail
      go_ret
      exact ⟨rfl, hB⟩
    · go_wp2_with fail
      refine (implRouteIrq_any _ l5 x5 y5 z5 w41 o5.rd (by omega)).mono ?_; rintro q_ w43 ⟨u5, rfl, p5, _, b_43⟩
      replace h := h.below b_43 (by omega)
      replace o5 := o5.below b_43 (by omega)
      have z_44 := b_43.size
      replace hB := hB.trans (b_43.mono (by omega))
      clear b_43
      go_wp2_with fail
      refine (specRouteIrq_any _ l5 x5 y5 z5 w43 o5.rd (by omega)).mono ?_; rintro q_ w45 ⟨t5, rfl, s5, b_45⟩
      replace h := h.below b_45 (by omega)
      replace o5 := o5.below b_45 (by omega)
      replace p5 := p5.below b_45 (by omega)
      have z_46 := b_45.size
      replace hB := hB.trans (b_45.mono (by omega))
      clear b_45
      obtain ⟨k, t, rfl, hk, ht⟩ := Iq.route_at hr
      obtain ⟨A, n, c, rfl, H, hnc, hm⟩ := p5.rd.form
      have hkn : k < n := by rw [H.out]; exact hk
      have hki : (k : Int) < (n : Int) := by omega
      have HT := Lib.hid ht
      clear hk ht
      have HR := Lib.hid hr
      go_wp2_with fail
      refine (Iq.v_same _ _ _ w45 p5.rd s5 (by omega) (by omega)).mono ?_; rintro q_ w47 ⟨rfl, b_47⟩
      replace h := h.below b_47 (by omega)
      replace o5 := o5.below b_47 (by omega)
      replace p5 := p5.below b_47 (by omega)
      replace s5 := s5.below b_47 (by omega)
      have z_48 := b_47.size
      replace hB := hB.trans (b_47.mono (by omega))
      clear b_47
      obtain ⟨b, off, t', rfl, HT', _, hb2, f0, f1, f2, f3, f4⟩ := Iq.get p5.rd hkn (Below.refl w47.heap.size w47) (by omega)
      obtain rfl := Option.some.inj (HT'.out.symm.trans HT.out)
      have e3 : (Iq.routed y5 z5 t).prio = y5 := rfl
      have e4 : (Iq.routed y5 z5 t).target = z5 := rfl
      rw [e3] at f3
      rw [e4] at f4
      clear e3 e4 HT HT' H
      go_wp2_with fail
      go_ret
      exact ⟨rfl, hB⟩

set_option maxRecDepth 100000 in
theorem FnIrqStates_holds : Rows.FnIrqStatesSaid :=
  OpenClaim.holds_of_wide 5 Try.f5 rfl rfl rfl rfl rfl rfl rfl ⟨rfl, rfl, rfl, rfl, rfl⟩ rfl rfl rfl rfl rfl (by kernel_rfl) Try.func5 (by kernel_rfl)
    (of_decide_eq_true (by kernel_rfl)) (by unfold Func.isWrapper; first | (rw [if_pos (by decide +kernel)]; kernel_rfl) | (rw [if_neg (by decide +kernel)]; exact ⟨rfl, rfl⟩))
    (fun os started H enc _ => law_lifted (C := Try.checked) (s := Rows.fnIrqStatesSpec) own started (by kernel_rfl) Try.func5
      (ChangeSpec.witness6 (enc := enc) (C := Try.checked) false ⟨#[], #[.slice none 0 0], []⟩ 8 (by kernel_rfl) (by kernel_rfl) (by kernel_rfl) (by kernel_rfl))
      laidOut (by kernel_rfl) rfl rfl Try.underlying4 (fun ds h => by match ds, h with | [_], _ => rfl)
      (fun W base args ds p hval0 hA0 => by
        have hval : ∀ (j : Nat) t v, Try.f5.params[j]? = some t → args[j]? = some v → Value.okWide Try.prog W .any base t v := hval0
        have hA : DataW.TrodAll enc Try.prog W 0 (fun _ => true) true Try.f5.params.toList args.toList ds p := hA0
        rw [Try.params5] at hA hval
        obtain ⟨v0, vs0, d0, ds0, p0, q0, hargs, rfl, rfl, h0, r0⟩ := trodAll_cons hA
        obtain ⟨rfl, rfl, rfl⟩ := trodAll_nil r0
        obtain rfl : args = #[v0] := by cases args; simp_all
        obtain ⟨l, k0⟩ := By.openS (hval 0 22 v0 rfl rfl) h0
        exact FnIrqStates_walk v0 l W k0))

end Go.Proofs.Ytgnalbfepkcokaa
