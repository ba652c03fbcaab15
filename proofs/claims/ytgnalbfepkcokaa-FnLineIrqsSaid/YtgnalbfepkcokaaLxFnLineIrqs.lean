/- Interrupts that are taken are no longer raised by edges, and mixed interrupts are shared: the law 'FnLineIrqs' says so of every code. No condition. -/
import Derived.Test.YtgnalbfepkcokaaDrLn3
import Derived.Test.YtgnalbfepkcokaaVLn
import Derived.Test.YtgnalbfepkcokaaVNm
import Derived.Test.YtgnalbfepkcokaaLnTake
import Derived.Test.YtgnalbfepkcokaaLnSpec
import Derived.Test.YtgnalbfepkcokaaLnRaised
namespace Go.Proofs.Ytgnalbfepkcokaa
open Go.RowKit Go.ChangeShapes Go.WideShapes Go.Deep

def Ln.lvlP (i : Int) (x : Ln) : Bool := x.irq == i && (x.kind == 1 && x.raised)
theorem contains_iff_any (l : List Int) (x : Int) : l.contains x = decide (x ∈ l) := by simp
theorem Ln.tk_get {l : List Ln} {i : Int} (h : Ln.tkOk l i = true) : Ln.good l = true ∧ ∃ k : Nat, i = k ∧ k < 8 := by
  simp only [Ln.tkOk, Bool.and_eq_true] at h
  have := inB_true h.2
  exact ⟨h.1, i.toNat, by omega, by omega⟩
theorem Ln.raised_has {l : List Ln} (h : Ln.good l = true) {k : Nat} (hk : k < 8) : (Ln.irqsR Ln.raisedP l).contains (k : Int) = l.any (Ln.atR k) := by
  rw [contains_iff_any, Ln.irqsR, if_pos h]
  cases ha : l.any (Ln.atR k)
  · rw [decide_eq_false_iff_not, irqsL_mem]
    rintro ⟨i, _, h1, h2⟩
    obtain rfl : i = k := by omega
    simp only [Ln.raisedP, decide_eq_true_eq, List.countP_pos_iff] at h1
    obtain ⟨t, ht, h3⟩ := h1
    exact absurd h3 (List.any_eq_false.1 ha t ht)
  · rw [decide_eq_true_eq, irqsL_mem]
    obtain ⟨t, ht, h3⟩ := List.any_eq_true.1 ha
    exact ⟨k, hk, by simp only [Ln.raisedP, decide_eq_true_eq, List.countP_pos_iff]; exact ⟨t, ht, h3⟩, rfl⟩
theorem Ln.take_ok {t : Ln} (h : t.ok = true) (i : Int) : (Ln.takeIf i t).ok = true := by
  unfold Ln.takeIf
  split
  · obtain ⟨k, q, a, r⟩ := t
    simp only [Ln.ok, Bool.and_eq_true, Bool.or_eq_true, beq_iff_eq] at h
    simp only [Ln.ok, Ln.take, Bool.and_eq_true, Bool.or_eq_true, beq_iff_eq]
    refine ⟨h.1, ?_⟩
    rcases h.2 with h2 | ⟨h2, h3⟩
    · exact .inl h2
    · refine .inr ⟨h2, ?_⟩
      subst h2; simp [h3]
  · exact h
theorem Ln.tk_all {l : List Ln} {k : Nat} (h : Ln.tkOk l k = true) (hk : k < 8) : Ln.good (Ln.tkR l k) = true ∧ (Ln.irqsR Ln.raisedP (Ln.tkR l k)).contains (k : Int) = l.any (Ln.lvlP k) ∧ (Ln.irqsR Ln.raisedP l).contains (k : Int) = decide (0 < Ln.tkN l k) := by
  have hg := (Ln.tk_get h).1
  have hr : Ln.tkR l k = l.map (Ln.takeIf k) := by rw [Ln.tkR, if_pos h]
  have hg2 : Ln.good (Ln.tkR l k) = true := by
    rw [hr]
    have := Ln.good_len hg
    simp only [Ln.good, Bool.and_eq_true, decide_eq_true_eq, List.length_map]
    refine ⟨by omega, List.all_eq_true.2 fun t ht => ?_⟩
    obtain ⟨u, hu, rfl⟩ := List.mem_map.1 ht
    exact Ln.take_ok (List.all_eq_true.1 (Ln.good_all hg) u hu) _
  refine ⟨hg2, ?_, ?_⟩
  · rw [Ln.raised_has hg2 hk, hr, List.any_map]
    have key : ∀ m : List Ln, m.all Ln.ok = true → m.any (Ln.atR k ∘ Ln.takeIf k) = m.any (Ln.lvlP k) := by
      intro m hm
      induction m with
      | nil => rfl
      | cons t m ih =>
        simp only [List.all_cons, Bool.and_eq_true] at hm
        rw [List.any_cons, List.any_cons, ih hm.2]
        congr 1
        simp only [Function.comp_apply, Ln.atR, Ln.takeIf, Ln.lvlP]
        by_cases hq : t.irq = (k : Int)
        · rcases Ln.ok_kind hm.1 with h0 | h0 <;> simp [hq, Ln.take, h0]
        · have hb : (t.irq == (k : Int)) = false := by rw [beq_eq_false_iff_ne]; exact hq
          rw [if_neg hq, hb]; rfl
    exact key l (Ln.good_all hg)
  · rw [Ln.raised_has hg hk, Ln.tkN, if_pos h]
    cases ha : l.any (Ln.atR k)
    · have : l.countP (Ln.atR k) = 0 := by
        rw [List.countP_eq_zero]
        exact fun t ht => List.any_eq_false.1 ha t ht
      simp [this]
    · have : 0 < l.countP (Ln.atR k) := by
        obtain ⟨t, ht, h3⟩ := List.any_eq_true.1 ha
        exact List.countP_pos_iff.2 ⟨t, ht, h3⟩
      symm; rw [decide_eq_true_eq]; omega
theorem Ln.mixed_shared {l : List Ln} {x : Int} (h : x ∈ Ln.irqsR Ln.mixedP l) : (Ln.irqsR Ln.sharedP l).contains x = true := by
  rw [contains_iff_any, decide_eq_true_eq]
  unfold Ln.irqsR at *
  split at h
  · rename_i hg
    rw [if_pos hg]
    rw [irqsL_mem] at *
    obtain ⟨i, hi, h1, h2⟩ := h
    refine ⟨i, hi, ?_, h2⟩
    simp only [Ln.mixedP, Bool.and_eq_true, decide_eq_true_eq] at h1
    simp only [Ln.sharedP, decide_eq_true_eq]
    omega
  · simp at h
theorem Ln.any_pre {l : List Ln} {j : Nat} {t : Ln} (h : l[j]? = some t) (i : Int) : (l.take (j + 1)).any (Ln.lvlP i) = ((l.take j).any (Ln.lvlP i) || Ln.lvlP i t) := by
  rw [List.take_add_one, h, List.any_append]; simp

set_option maxRecDepth 8000 in
set_option maxHeartbeats 16000000 in
theorem FnLineIrqs_walk (cv : Value) (l : List UInt8) (w : World) (h : Rd By.cells 1 w 0 w.heap.size cv l) :
    Calls Try.prog 4 #[cv] w fun e w' => e = .returned (.bool true) ∧ Below w.heap.size w w' := by
  have hB := Below.refl w.heap.size w
  have z_0 : w.heap.size ≤ w.heap.size := Nat.le_refl _
  have c0 := rBig_any cv l w h
  by_cases hz : 65536 < l.length
  · rw [decide_eq_true hz] at c0
    go_enter Try.func4, Try.ntmps4
    go_wp2_with fail
    refine (c0).mono ?_; rintro q_ w_ ⟨rfl, rfl⟩
    go_wp2_with fail
    go_ret
    exact ⟨rfl, hB⟩
  rw [decide_eq_false hz] at c0
  go_enter Try.func4, Try.ntmps4
  go_wp2_with fail
  refine (c0).mono ?_; rintro q_ w_ ⟨rfl, rfl⟩
  clear c0
  go_wp2_with fail
  refine (DrawTakeLines_any cv l w h (by omega)).mono ?_; rintro q_ w1 ⟨v1, l1, x1, rfl, o1, b_1⟩
  replace h := h.below b_1 (by omega)
  have z_2 := b_1.size
  replace hB := hB.trans (b_1.mono (by omega))
  clear b_1
  cases hk : Ln.tkOk l1 x1
  · go_wp2_with fail
    have c1 := implTakeLines_any v1 l1 x1 w1 o1.rd (by omega)
    rw [hk] at c1
    refine (c1).mono ?_; rintro q_ w3 ⟨u1, rfl, p1, _, b_3⟩
    replace h := h.below b_3 (by omega)
    replace o1 := o1.below b_3 (by omega)
    have z_4 := b_3.size
    replace hB := hB.trans (b_3.mono (by omega))
    clear b_3
    clear c1
    go_wp2_with fail
    have c2 := specTakeLines_any v1 l1 x1 w3 o1.rd (by omega)
    rw [hk] at c2
    refine (c2).mono ?_; rintro q_ w5 ⟨t1, rfl, s1, b_5⟩
    replace h := h.below b_5 (by omega)
    replace o1 := o1.below b_5 (by omega)
    replace p1 := p1.below b_5 (by omega)
    have z_6 := b_5.size
    replace hB := hB.trans (b_5.mono (by omega))
    clear b_5
    clear c2 hk
    have c3 := Ln.v_same _ _ _ w5 p1.rd s1 (by omega) (by omega)
    generalize Ln.tkN l1 x1 = nn at *
    go_wp2_with fail
    refine (c3).mono ?_; rintro q_ w7 ⟨rfl, b_7⟩
    replace h := h.below b_7 (by omega)
    replace o1 := o1.below b_7 (by omega)
    replace p1 := p1.below b_7 (by omega)
    replace s1 := s1.below b_7 (by omega)
    have z_8 := b_7.size
    replace hB := hB.trans (b_7.mono (by omega))
    clear b_7
    clear s1
    clear c3
    go_wp2_with fail
    refine (implRaisedIrqs_any v1 l1 w7 o1.rd (by omega)).mono ?_; rintro q_ w9 ⟨u2, rfl, p2, _, b_9⟩
    replace h := h.below b_9 (by omega)
    replace o1 := o1.below b_9 (by omega)
    replace p1 := p1.below b_9 (by omega)
    have z_10 := b_9.size
    replace hB := hB.trans (b_9.mono (by omega))
    clear b_9
    go_wp2_with fail
    refine (specRaisedIrqs_any v1 l1 w9 o1.rd (by omega)).mono ?_; rintro q_ w11 ⟨t2, rfl, s2, b_11⟩
    replace h := h.below b_11 (by omega)
    replace o1 := o1.below b_11 (by omega)
    replace p1 := p1.below b_11 (by omega)
    replace p2 := p2.below b_11 (by omega)
    have z_12 := b_11.size
    replace hB := hB.trans (b_11.mono (by omega))
    clear b_11
    go_wp2_with fail
    refine (rInts_same _ _ _ w11 p2.rd s2 (by omega) (by omega)).mono ?_; rintro q_ w13 ⟨rfl, b_13⟩
    replace h := h.below b_13 (by omega)
    replace o1 := o1.below b_13 (by omega)
    replace p1 := p1.below b_13 (by omega)
    replace p2 := p2.below b_13 (by omega)
    replace s2 := s2.below b_13 (by omega)
    have z_14 := b_13.size
    replace hB := hB.trans (b_13.mono (by omega))
    clear b_13
    clear s2
    clear p1 p2 o1
    go_wp2_with fail
    refine (DrawMixedIrqs_any cv l w13 h (by omega)).mono ?_; rintro q_ w15 ⟨v3, l3, rfl, o3, b_15⟩
    replace h := h.below b_15 (by omega)
    have z_16 := b_15.size
    replace hB := hB.trans (b_15.mono (by omega))
    clear b_15
    go_wp2_with fail
    refine (implMixedIrqs_any v3 l3 w15 o3.rd (by omega)).mono ?_; rintro q_ w17 ⟨u3, rfl, p3, _, b_17⟩
    replace h := h.below b_17 (by omega)
    replace o3 := o3.below b_17 (by omega)
    have z_18 := b_17.size
    replace hB := hB.trans (b_17.mono (by omega))
    clear b_17
    go_wp2_with fail
    refine (implSharedIrqs_any v3 l3 w17 o3.rd (by omega)).mono ?_; rintro q_ w19 ⟨u4, rfl, p4, _, b_19⟩
    replace h := h.below b_19 (by omega)
    replace o3 := o3.below b_19 (by omega)
    replace p3 := p3.below b_19 (by omega)
    have z_20 := b_19.size
    replace hB := hB.trans (b_19.mono (by omega))
    clear b_19
    go_wp2_with fail
    refine (specMixedIrqs_any v3 l3 w19 o3.rd (by omega)).mono ?_; rintro q_ w21 ⟨t3, rfl, s3, b_21⟩
    replace h := h.below b_21 (by omega)
    replace o3 := o3.below b_21 (by omega)
    replace p3 := p3.below b_21 (by omega)
    replace p4 := p4.below b_21 (by omega)
    have z_22 := b_21.size
    replace hB := hB.trans (b_21.mono (by omega))
    clear b_21
    go_wp2_with fail
    refine (rInts_same _ _ _ w21 p3.rd s3 (by omega) (by omega)).mono ?_; rintro q_ w23 ⟨rfl, b_23⟩
    replace h := h.below b_23 (by omega)
    replace o3 := o3.below b_23 (by omega)
    replace p3 := p3.below b_23 (by omega)
    replace p4 := p4.below b_23 (by omega)
    replace s3 := s3.below b_23 (by omega)
    have z_24 := b_23.size
    replace hB := hB.trans (b_23.mono (by omega))
    clear b_23
    clear s3
    obtain ⟨A3, n3, c3, rfl, H3, hnc3, hm3⟩ := p3.rd.form
    go_wp2_with fail
    go_loopw [26] (fun i wr => ∃ k : Nat, i = .int .i64 k ∧ Below w23.heap.size w23 wr) (fun i _ => n3 - (intOf i).toNat)
    case atStart => exact ⟨0, rfl, Below.refl _ _⟩
    case round =>
      obtain ⟨j, rfl, hb⟩ := hrel
      have hb0 := hb
      replace h := h.below hb (by omega)
      replace o3 := o3.below hb (by omega)
      replace p3 := p3.below hb (by omega)
      replace p4 := p4.below hb (by omega)
      have z_25 := hb.size
      replace hB := hB.trans (hb.mono (by omega))
      clear hb
      by_cases hlt : j < n3
      · obtain ⟨b, off, y, rfl, hy, _, hb2, f0⟩ := Nm.get p3.rd hlt (Below.refl wr.heap.size wr) (by omega)
        have hji : decide ((j : Int) < (n3 : Int)) = true := decide_eq_true (by omega)
        have hys := Ln.mixed_shared (List.mem_of_getElem? hy.out)
        clear hy
        go_wp2_with fail
        have c1 := rHas_any _ _ y wr p4.rd (by omega)
        rw [hys] at c1
        clear hys
        refine (c1).mono ?_; rintro q_ w_ ⟨rfl, rfl⟩
        clear c1
        go_wp2_with fail
        go_roundw
        case rel => exact ⟨j + 1, by go_num, hb0⟩
        case measure => simp [intOf]; omega
      · clear hb0
        have hji : decide ((j : Int) < (n3 : Int)) = false := decide_eq_false (by omega)
        go_wp2_with fail
        refine (specSharedIrqs_any v3 l3 wr o3.rd (by omega)).mono ?_; rintro q_ w26 ⟨t4, rfl, s4, b_26⟩
        replace h := h.below b_26 (by omega)
        replace o3 := o3.below b_26 (by omega)
        replace p3 := p3.below b_26 (by omega)
        replace p4 := p4.below b_26 (by omega)
        have z_27 := b_26.size
        replace hB := hB.trans (b_26.mono (by omega))
        clear b_26
        go_wp2_with fail
        refine (rInts_same _ _ _ w26 p4.rd s4 (by omega) (by omega)).mono ?_; rintro q_ w28 ⟨rfl, b_28⟩
        replace h := h.below b_28 (by omega)
        replace o3 := o3.below b_28 (by omega)
        replace p3 := p3.below b_28 (by omega)
        replace p4 := p4.below b_28 (by omega)
        replace s4 := s4.below b_28 (by omega)
        have z_29 := b_28.size
        replace hB := hB.trans (b_28.mono (by omega))
        clear b_28
        go_wp2_with fail
        go_ret
        exact ⟨rfl, hB⟩
  · obtain ⟨hg, k, rfl, hk8⟩ := Ln.tk_get hk
    obtain ⟨e1, e2, e3⟩ := Ln.tk_all hk hk8
    have E1 := Lib.hid e1
    have E2 := Lib.hid e2
    have E3 := Lib.hid e3
    have HG := Lib.hid hg
    clear e1 e2 e3 hg
    go_wp2_with fail
    have c1 := implTakeLines_any v1 l1 (k : Int) w1 o1.rd (by omega)
    rw [hk] at c1
    refine (c1).mono ?_; rintro q_ w3 ⟨u1, rfl, p1, _, b_3⟩
    replace h := h.below b_3 (by omega)
    replace o1 := o1.below b_3 (by omega)
    have z_4 := b_3.size
    replace hB := hB.trans (b_3.mono (by omega))
    clear b_3
    clear c1
    go_wp2_with fail
    have c2 := specTakeLines_any v1 l1 (k : Int) w3 o1.rd (by omega)
    rw [hk] at c2
    refine (c2).mono ?_; rintro q_ w5 ⟨t1, rfl, s1, b_5⟩
    replace h := h.below b_5 (by omega)
    replace o1 := o1.below b_5 (by omega)
    replace p1 := p1.below b_5 (by omega)
    have z_6 := b_5.size
    replace hB := hB.trans (b_5.mono (by omega))
    clear b_5
    clear c2 hk
    have c3 := Ln.v_same _ _ _ w5 p1.rd s1 (by omega) (by omega)
    generalize Ln.tkN l1 (k : Int) = nn at *
    go_wp2_with fail
    refine (c3).mono ?_; rintro q_ w7 ⟨rfl, b_7⟩
    replace h := h.below b_7 (by omega)
    replace o1 := o1.below b_7 (by omega)
    replace p1 := p1.below b_7 (by omega)
    replace s1 := s1.below b_7 (by omega)
    have z_8 := b_7.size
    replace hB := hB.trans (b_7.mono (by omega))
    clear b_7
    clear s1
    clear c3
    go_wp2_with fail
    refine (implRaisedIrqs_any v1 l1 w7 o1.rd (by omega)).mono ?_; rintro q_ w9 ⟨u2, rfl, p2, _, b_9⟩
    replace h := h.below b_9 (by omega)
    replace o1 := o1.below b_9 (by omega)
    replace p1 := p1.below b_9 (by omega)
    have z_10 := b_9.size
    replace hB := hB.trans (b_9.mono (by omega))
    clear b_9
    go_wp2_with fail
    refine (specRaisedIrqs_any v1 l1 w9 o1.rd (by omega)).mono ?_; rintro q_ w11 ⟨t2, rfl, s2, b_11⟩
    replace h := h.below b_11 (by omega)
    replace o1 := o1.below b_11 (by omega)
    replace p1 := p1.below b_11 (by omega)
    replace p2 := p2.below b_11 (by omega)
    have z_12 := b_11.size
    replace hB := hB.trans (b_11.mono (by omega))
    clear b_11
    go_wp2_with fail
    refine (rInts_same _ _ _ w11 p2.rd s2 (by omega) (by omega)).mono ?_; rintro q_ w13 ⟨rfl, b_13⟩
    replace h := h.below b_13 (by omega)
    replace o1 := o1.below b_13 (by omega)
    replace p1 := p1.below b_13 (by omega)
    replace p2 := p2.below b_13 (by omega)
    replace s2 := s2.below b_13 (by omega)
    have z_14 := b_13.size
    replace hB := hB.trans (b_13.mono (by omega))
    clear b_13
    clear s2
    go_wp2_with fail
    have c1 := rHas_any _ _ (k : Int) w13 p2.rd (by omega)
    rw [E3.out] at c1
    clear E3
    refine (c1).mono ?_; rintro q_ w_ ⟨rfl, rfl⟩
    clear c1
    clear p2
    go_wp2_with fail
    refine (implRaisedIrqs_any _ _ w13 p1.rd (by omega)).mono ?_; rintro q_ w15 ⟨u5, rfl, p5, _, b_15⟩
    replace h := h.below b_15 (by omega)
    replace o1 := o1.below b_15 (by omega)
    replace p1 := p1.below b_15 (by omega)
    have z_16 := b_15.size
    replace hB := hB.trans (b_15.mono (by omega))
    clear b_15
    rw [E1.out]
    obtain ⟨A, n, c, rfl, H, hnc, hm⟩ := o1.rd.form
    go_wp2_with fail
    go_loopw [17, 18] (fun q i wr => ∃ j : Nat, j ≤ n ∧ i = .int .i64 j ∧ q = .bool ((l1.take j).any (Ln.lvlP k)) ∧ Below w15.heap.size w15 wr) (fun _ i _ => n - (intOf i).toNat)
    case atStart => exact ⟨0, Nat.zero_le _, rfl, by simp, Below.refl _ _⟩
    case round =>
      obtain ⟨j, hjn, rfl, rfl, hb⟩ := hrel
      have hb0 := hb
      replace h := h.below hb (by omega)
      replace o1 := o1.below hb (by omega)
      replace p1 := p1.below hb (by omega)
      replace p5 := p5.below hb (by omega)
      have z_17 := hb.size
      replace hB := hB.trans (hb.mono (by omega))
      clear hb
      by_cases hlt : j < n
      · obtain ⟨b, off, y, rfl, hy, _, hb2, f0, f1, f2, f3⟩ := Ln.get o1.rd hlt (Below.refl wr.heap.size wr) (by omega)
        have hji : (j : Int) < (n : Int) := by omega
        have HP := Lib.hid (Ln.any_pre hy.out (k : Int))
        clear hy
        generalize (l1.take j).any (Ln.lvlP k) = lv at *
        cases lv
        · by_cases h1 : y.irq = (k : Int)
          · have h1b : (y.irq == (k : Int)) = true := by rw [beq_iff_eq]; exact h1
            by_cases h2 : y.kind = 1
            · have h2b : (y.kind == 1) = true := by rw [beq_iff_eq]; exact h2
              go_wp2_with fail
              go_roundw
              case rel => exact ⟨j + 1, by omega, by go_num, by rw [HP.out]; simp [Ln.lvlP, h1b, h2b], hb0⟩
              case measure => simp [intOf]; omega
            · have h2b : (y.kind == 1) = false := by rw [beq_eq_false_iff_ne]; exact h2
              go_wp2_with fail
              go_roundw
              case rel => exact ⟨j + 1, by omega, by go_num, by rw [HP.out]; simp [Ln.lvlP, h1b, h2b], hb0⟩
              case measure => simp [intOf]; omega
          · have h1b : (y.irq == (k : Int)) = false := by rw [beq_eq_false_iff_ne]; exact h1
            go_wp2_with fail
            go_roundw
            case rel => exact ⟨j + 1, by omega, by go_num, by rw [HP.out]; simp [Ln.lvlP, h1b], hb0⟩
            case measure => simp [intOf]; omega
        · go_wp2_with fail
          go_roundw
          case rel => exact ⟨j + 1, by omega, by go_num, by rw [HP.out]; simp [Ln.lvlP], hb0⟩
          case measure => simp [intOf]; omega
      · clear hb0
        have hjd : decide ((j : Int) < (n : Int)) = false := decide_eq_false (by omega)
        have hjl : l1.take j = l1 := List.take_of_length_le (by rw [← H.out]; omega)
        rw [hjl]
        clear hjl
        go_wp2_with fail
        have c1 := rHas_any _ _ (k : Int) wr p5.rd (by omega)
        rw [E2.out] at c1
        generalize l1.any (Ln.lvlP k) = lv at *
        refine (c1).mono ?_; rintro q_ w_ ⟨rfl, rfl⟩
        clear c1 E2
        clear p5
        go_wp2_with fail
        have c1 := implAreLines_any _ _ wr p1.rd (by omega)
        rw [E1.out] at c1
        refine (c1).mono ?_; rintro q_ w18 ⟨rfl, b_18⟩
        replace h := h.below b_18 (by omega)
        replace o1 := o1.below b_18 (by omega)
        replace p1 := p1.below b_18 (by omega)
        have z_19 := b_18.size
        replace hB := hB.trans (b_18.mono (by omega))
        clear b_18
        clear c1 E1 HG H
        clear p1 o1
        go_wp2_with fail
        refine (DrawMixedIrqs_any cv l w18 h (by omega)).mono ?_; rintro q_ w20 ⟨v3, l3, rfl, o3, b_20⟩
        replace h := h.below b_20 (by omega)
        have z_21 := b_20.size
        replace hB := hB.trans (b_20.mono (by omega))
        clear b_20
        go_wp2_with fail
        refine (implMixedIrqs_any v3 l3 w20 o3.rd (by omega)).mono ?_; rintro q_ w22 ⟨u3, rfl, p3, _, b_22⟩
        replace h := h.below b_22 (by omega)
        replace o3 := o3.below b_22 (by omega)
        have z_23 := b_22.size
        replace hB := hB.trans (b_22.mono (by omega))
        clear b_22
        go_wp2_with fail
        refine (implSharedIrqs_any v3 l3 w22 o3.rd (by omega)).mono ?_; rintro q_ w24 ⟨u4, rfl, p4, _, b_24⟩
        replace h := h.below b_24 (by omega)
        replace o3 := o3.below b_24 (by omega)
        replace p3 := p3.below b_24 (by omega)
        have z_25 := b_24.size
        replace hB := hB.trans (b_24.mono (by omega))
        clear b_24
        go_wp2_with fail
        refine (specMixedIrqs_any v3 l3 w24 o3.rd (by omega)).mono ?_; rintro q_ w26 ⟨t3, rfl, s3, b_26⟩
        replace h := h.below b_26 (by omega)
        replace o3 := o3.below b_26 (by omega)
        replace p3 := p3.below b_26 (by omega)
        replace p4 := p4.below b_26 (by omega)
        have z_27 := b_26.size
        replace hB := hB.trans (b_26.mono (by omega))
        clear b_26
        go_wp2_with fail
        refine (rInts_same _ _ _ w26 p3.rd s3 (by omega) (by omega)).mono ?_; rintro q_ w28 ⟨rfl, b_28⟩
        replace h := h.below b_28 (by omega)
        replace o3 := o3.below b_28 (by omega)
        replace p3 := p3.below b_28 (by omega)
        replace p4 := p4.below b_28 (by omega)
        replace s3 := s3.below b_28 (by omega)
        have z_29 := b_28.size
        replace hB := hB.trans (b_28.mono (by omega))
        clear b_28
        clear s3
        obtain ⟨A3, n3, c3, rfl, H3, hnc3, hm3⟩ := p3.rd.form
        go_wp2_with fail
        go_loopw [26] (fun i wr => ∃ k : Nat, i = .int .i64 k ∧ Below w28.heap.size w28 wr) (fun i _ => n3 - (intOf i).toNat)
        case atStart => exact ⟨0, rfl, Below.refl _ _⟩
        case round =>
          obtain ⟨j, rfl, hb⟩ := hrel
          have hb0 := hb
          replace h := h.below hb (by omega)
          replace o3 := o3.below hb (by omega)
          replace p3 := p3.below hb (by omega)
          replace p4 := p4.below hb (by omega)
          have z_30 := hb.size
          replace hB := hB.trans (hb.mono (by omega))
          clear hb
          by_cases hlt : j < n3
          · obtain ⟨b, off, y, rfl, hy, _, hb2, f0⟩ := Nm.get p3.rd hlt (Below.refl wr.heap.size wr) (by omega)
            have hji : decide ((j : Int) < (n3 : Int)) = true := decide_eq_true (by omega)
            have hys := Ln.mixed_shared (List.mem_of_getElem? hy.out)
            clear hy
            go_wp2_with fail
            have c1 := rHas_any _ _ y wr p4.rd (by omega)
            rw [hys] at c1
            clear hys
            refine (c1).mono ?_; rintro q_ w_ ⟨rfl, rfl⟩
            clear c1
            go_wp2_with fail
            go_roundw
            case rel => exact ⟨j + 1, by go_num, hb0⟩
            case measure => simp [intOf]; omega
          · clear hb0
            have hji : decide ((j : Int) < (n3 : Int)) = false := decide_eq_false (by omega)
            go_wp2_with fail
            refine (specSharedIrqs_any v3 l3 wr o3.rd (by omega)).mono ?_; rintro q_ w31 ⟨t4, rfl, s4, b_31⟩
            replace h := h.below b_31 (by omega)
            replace o3 := o3.below b_31 (by omega)
            replace p3 := p3.below b_31 (by omega)
            replace p4 := p4.below b_31 (by omega)
            have z_32 := b_31.size
            replace hB := hB.trans (b_31.mono (by omega))
            clear b_31
            go_wp2_with fail
            refine (rInts_same _ _ _ w31 p4.rd s4 (by omega) (by omega)).mono ?_; rintro q_ w33 ⟨rfl, b_33⟩
            replace h := h.below b_33 (by omega)
            replace o3 := o3.below b_33 (by omega)
            replace p3 := p3.below b_33 (by omega)
            replace p4 := p4.below b_33 (by omega)
            replace s4 := s4.below b_33 (by omega)
            have z_34 := b_33.size
            replace hB := hB.trans (b_33.mono (by omega))
            clear b_33
            go_wp2_with fail
            go_ret
            exact ⟨rfl, hB⟩

set_option maxRecDepth 100000 in
theorem FnLineIrqs_holds : Rows.FnLineIrqsSaid :=
  OpenClaim.holds_of_wide 4 Try.f4 rfl rfl rfl rfl rfl rfl rfl ⟨rfl, rfl, rfl, rfl, rfl⟩ rfl rfl rfl rfl rfl (by kernel_rfl) Try.func4 (by kernel_rfl)
    (of_decide_eq_true (by kernel_rfl)) (by unfold Func.isWrapper; first | (rw [if_pos (by decide +kernel)]; kernel_rfl) | (rw [if_neg (by decide +kernel)]; exact ⟨rfl, rfl⟩))
    (fun os started H enc _ => law_lifted (C := Try.checked) (s := Rows.fnLineIrqsSpec) own started (by kernel_rfl) Try.func4
      (ChangeSpec.witness6 (enc := enc) (C := Try.checked) false ⟨#[], #[.slice none 0 0], []⟩ 8 (by kernel_rfl) (by kernel_rfl) (by kernel_rfl) (by kernel_rfl))
      laidOut (by kernel_rfl) rfl rfl Try.underlying4 (fun ds h => by match ds, h with | [_], _ => rfl)
      (fun W base args ds p hval0 hA0 => by
        have hval : ∀ (j : Nat) t v, Try.f4.params[j]? = some t → args[j]? = some v → Value.okWide Try.prog W .any base t v := hval0
        have hA : DataW.TrodAll enc Try.prog W 0 (fun _ => true) true Try.f4.params.toList args.toList ds p := hA0
        rw [Try.params4] at hA hval
        obtain ⟨v0, vs0, d0, ds0, p0, q0, hargs, rfl, rfl, h0, r0⟩ := trodAll_cons hA
        obtain ⟨rfl, rfl, rfl⟩ := trodAll_nil r0
        obtain rfl : args = #[v0] := by cases args; simp_all
        obtain ⟨l, k0⟩ := By.openS (hval 0 22 v0 rfl rfl) h0
        exact FnLineIrqs_walk v0 l W k0))

end Go.Proofs.Ytgnalbfepkcokaa
