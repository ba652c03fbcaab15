/- Running ops is making them one after the other, and with the mask 0 nothing is taken: the law 'FnOps' says so of every code. No condition. -/
import Derived.Test.YtndfmkbpdoohfaaGreatMcFoG
namespace Go.Proofs.YtndfmkbpdoohfaaGreat
open Go.RowKit Go.ChangeShapes Go.WideShapes Go.Deep

theorem OP.raise {s : FS} {i p : Int} (h : s.good = true) (hi : inB i 0 7 = true) (hp : inB p 0 15 = true) : Fa.raOk s.m s.st s.ls s.lw i p = true ∧ Fa.raM s.m s.st s.ls s.lw i p = (s.rose i p).m ∧ Fa.raT s.m s.st s.ls s.lw i p = (s.rose i p).st ∧ Fa.raS s.m s.st s.ls s.lw i p = (s.rose i p).ls ∧ Fa.raW s.m s.st s.ls s.lw i p = (s.rose i p).lw := by
 have h1 : Fa.raOk s.m s.st s.ls s.lw i p = true := by simp [Fa.raOk, hi, hp]; exact h
 exact Fa.ra_yes h1
theorem OP.take {s : FS} (h : s.good = true) (hk : s.tk = true) : Fa.ttOk s.m s.st s.ls s.lw = true ∧ Fa.ttM s.m s.st s.ls s.lw = s.took.m ∧ Fa.ttT s.m s.st s.ls s.lw = s.took.st ∧ Fa.ttS s.m s.st s.ls s.lw = s.took.ls ∧ Fa.ttW s.m s.st s.ls s.lw = s.took.lw ∧ Fa.ttV s.m s.st s.ls s.lw = Sl.tkI s.ls ∧ 0 ≤ Sl.tkI s.ls := by
 have h1 : Fa.ttOk s.m s.st s.ls s.lw = true := by unfold Fa.ttOk; rw [show Fa.good s.m s.st s.ls s.lw = true from h]; exact hk
 obtain ⟨a0, a1, a2, a3, a4, a5⟩ := Fa.tt_yes h1
 refine ⟨a0, a1, a2, a3, a4, a5, ?_⟩
 obtain ⟨k, t, _, _, ht, hs, _, _, e⟩ := Sl.tkOk_hit (show Sl.tkOk s.ls _ = true from hk)
 have hg := (Qu.parts_get (Qu.good_parts (Fa.good_iff.1 (show Fa.good s.m s.st s.ls s.lw = true from h)).2.1).1).1
 have := Sl.good_one hg ht
 unfold Sl.okAt at this
 rw [if_neg (by omega)] at this
 simp only [Bool.and_eq_true, inB_iff] at this
 rw [e]; omega
theorem OP.notake {s : FS} (h : s.good = true) (hk : s.tk = false) : Fa.ttOk s.m s.st s.ls s.lw = false ∧ Fa.ttM s.m s.st s.ls s.lw = 0 ∧ Fa.ttV s.m s.st s.ls s.lw = 0 := by
 have h1 : Fa.ttOk s.m s.st s.ls s.lw = false := by unfold Fa.ttOk; rw [show Fa.good s.m s.st s.ls s.lw = true from h]; exact hk
 obtain ⟨a0, a1, _, _, _, a5⟩ := Fa.tt_no h1
 exact ⟨a0, a1, a5⟩
theorem OP.leave {s : FS} (h : s.good = true) (hz : ¬ s.st.length = 0) : Fa.lvOk s.m s.st s.ls s.lw = true ∧ Fa.lvM s.m s.st s.ls s.lw = s.left.m ∧ Fa.lvT s.m s.st s.ls s.lw = s.left.st ∧ Fa.lvS s.m s.st s.ls s.lw = s.left.ls ∧ Fa.lvW s.m s.st s.ls s.lw = s.left.lw := by
 have h1 : Fa.lvOk s.m s.st s.ls s.lw = true := by unfold Fa.lvOk; rw [show Fa.good s.m s.st s.ls s.lw = true from h, Bool.true_and]; exact decide_eq_true (by omega)
 simp [Fa.lvM, Fa.lvT, Fa.lvS, Fa.lvW, h1, FS.left]
theorem OP.noleave {s : FS} (hz : s.st.length = 0) : Fa.lvOk s.m s.st s.ls s.lw = false ∧ Fa.lvM s.m s.st s.ls s.lw = 0 := by
 have h1 : Fa.lvOk s.m s.st s.ls s.lw = false := by simp [Fa.lvOk, hz]
 obtain ⟨a0, a1, _⟩ := Fa.lv_no h1
 exact ⟨a0, a1⟩
theorem OP.mask {s : FS} {k : Int} (h : s.good = true) (hk : inB k 0 16 = true) : Fa.smOk s.m s.st s.ls s.lw k = true ∧ Fa.smM s.m s.st s.ls s.lw k = (s.masked k).m ∧ Fa.smT s.m s.st s.ls s.lw k = (s.masked k).st ∧ Fa.smS s.m s.st s.ls s.lw k = (s.masked k).ls ∧ Fa.smW s.m s.st s.ls s.lw k = (s.masked k).lw := by
 have h1 : Fa.smOk s.m s.st s.ls s.lw k = true := by simp [Fa.smOk, hk]; exact h
 exact Fa.sm_yes h1
/-- with the mask 0 nothing is taken -/
theorem OP.shut {s : FS} (h : s.good = true) : Fa.ctR 0 s.st s.ls s.lw = false ∧ Fa.good 0 s.st s.ls s.lw = true := by
 have hg : Fa.good 0 s.st s.ls s.lw = true := FS.masked_good h (k := 0) rfl
 refine ⟨?_, hg⟩
 cases hk : Fa.ctR 0 s.st s.ls s.lw
 ·rfl
 ·simp only [Fa.ctR, Bool.and_eq_true] at hk
  obtain ⟨k, t, _, _, ht, hs, hp, _, e⟩ := Sl.tkOk_hit hk.2
  have hgs := (Qu.parts_get (Qu.good_parts (Fa.good_iff.1 hg).2.1).1).1
  have := Sl.good_one hgs ht
  unfold Sl.okAt at this
  rw [if_neg (by omega)] at this
  simp only [Bool.and_eq_true, inB_iff] at this
  have hm := (minI_le 0 (Fa.run s.st s.ls)).1
  omega

set_option maxRecDepth 8000 in
set_option maxHeartbeats 16000000 in
theorem FnOps_walk (cv : Value) (l : List UInt8) (w : World) (h : Rd By.cells 1 w 0 w.heap.size cv l) :
  Calls Tryz.prog 4 #[cv] w fun e w' => e = .returned (.bool true) ∧ Below w.heap.size w w' := by
 have hB := Below.refl w.heap.size w
 have z_0 : w.heap.size ≤ w.heap.size := Nat.le_refl _
 have c0 := vBig_any cv l w h
 by_cases hz : 65536 < l.length
 ·rw [decide_eq_true hz] at c0
  go_enter Tryz.func4, Tryz.ntmps4
  go_wp2_with fail
  refine (c0).mono ?_; rintro q_ w_ ⟨rfl, rfl⟩
  go_wp2_with fail
  go_ret
  exact ⟨rfl, hB⟩
 rw [decide_eq_false hz] at c0
 go_enter Tryz.func4, Tryz.ntmps4
 go_wp2_with fail
 refine (c0).mono ?_; rintro q_ w_ ⟨rfl, rfl⟩
 clear c0
 go_wp2_with fail
 refine (DrawRunOps_any cv l w h (by omega)).mono ?_; rintro q_ w1 ⟨m1, vt1, vs1, vw1, vo1, st1, ls1, lw1, os1, rfl, hos, ht1, hl1, hw1, a1, o1, p1, r1, b_1⟩
 replace h := h.below b_1 (by omega)
 have z_2 := b_1.size
 replace hB := hB.trans (b_1.mono (by omega))
 clear b_1
 obtain ⟨T1, n1, d1, rfl, HN1, _, _⟩ := a1.rd.form
 obtain ⟨A1, k1, c1, rfl, _, _, _⟩ := o1.rd.form
 obtain ⟨B1, j1, e1, rfl, _, _, _⟩ := p1.rd.form
 obtain ⟨Tr, nr, cr, rfl, HNr, _, _⟩ := r1.rd.form
 go_wp2_with fail
 have b_3 := (Below.refl w1.heap.size w1).alloc (Nat.le_refl _) (.cells #[.int .i64 m1, .slice T1 n1 d1, .slice A1 k1 c1, .slice B1 j1 e1] 30)
 have bq1 := Box.new w1 #[.int .i64 m1, .slice T1 n1 d1, .slice A1 k1 c1, .slice B1 j1 e1] 30 rfl
 replace h := h.below b_3 (by omega)
 replace a1 := a1.below b_3 (by omega)
 replace o1 := o1.below b_3 (by omega)
 replace p1 := p1.below b_3 (by omega)
 replace r1 := r1.below b_3 (by omega)
 have z_4 := b_3.size
 replace hB := hB.trans (b_3.mono (by omega))
 clear b_3
 generalize w1.alloc _ = w3 at *
 generalize w1.heap.size = g3 at *
 obtain ⟨ok1, hz_⟩ : ∃ o, FS.roOk ⟨m1, st1, ls1, lw1⟩ os1 = o := ⟨_, rfl⟩
 have Hok1 := Lib.hid hz_
 clear hz_
 have nok1 : (ok1 != ok1) = false := by simp
 obtain ⟨S1, hz_⟩ : ∃ o, FS.roS ⟨m1, st1, ls1, lw1⟩ os1 = o := ⟨_, rfl⟩
 have HS1 := Lib.hid hz_
 clear hz_
 obtain ⟨t1, hz_⟩ : ∃ o, FS.roT ⟨m1, st1, ls1, lw1⟩ os1 = o := ⟨_, rfl⟩
 have Ht1 := Lib.hid hz_
 clear hz_
 have c1 := implRunOps_any m1 _ _ _ st1 ls1 lw1 w3 a1.rd o1.rd p1.rd (by omega) (by omega) (by omega) _ os1 r1.rd (by omega) ht1 hl1 hw1
 rw [Hok1.out, HS1.out, Ht1.out] at c1
 refine (c1).mono ?_; rintro q_ w5 ⟨vt2, vs2, vw2, vk2, q20, q21, q22, q23, rfl, a2, o2, p2, t2, _, zq21, _, zq23, _, b_5⟩
 replace bq1 := bq1.below b_5 bq1.lt
 replace h := h.below b_5 (by omega)
 replace a1 := a1.below b_5 (by omega)
 replace o1 := o1.below b_5 (by omega)
 replace p1 := p1.below b_5 (by omega)
 replace r1 := r1.below b_5 (by omega)
 have z_6 := b_5.size
 replace hB := hB.trans (b_5.mono (by omega))
 clear b_5
 obtain ⟨T2, n2, d2, rfl, HN2, _, _⟩ := a2.rd.form
 obtain ⟨A2, k2, c2, rfl, _, _, _⟩ := o2.rd.form
 obtain ⟨B2, j2, e2, rfl, _, _, _⟩ := p2.rd.form
 obtain ⟨Tk2, nk2, dk2, rfl, _, _, _⟩ := t2.rd.form
 clear c1
 have bq1_0 := bq1.c0
 have bq1_1 := bq1.c1
 have bq1_2 := bq1.c2
 have bq1_3 := bq1.c3
 have bq1_z := bq1.frozen
 have bq1_l := bq1.lt
 go_wp2_with fail
 clear bq1_0 bq1_1 bq1_2 bq1_3 bq1_z bq1_l
 have b_7 := (Below.refl w5.heap.size w5).alloc (Nat.le_refl _) (.cells #[.int .i64 S1.m, .slice T2 n2 d2, .slice A2 k2 c2, .slice B2 j2 e2] 30)
 have bq2 := Box.new w5 #[.int .i64 S1.m, .slice T2 n2 d2, .slice A2 k2 c2, .slice B2 j2 e2] 30 rfl
 replace bq1 := bq1.below b_7 bq1.lt
 replace h := h.below b_7 (by omega)
 replace a1 := a1.below b_7 (by omega)
 replace o1 := o1.below b_7 (by omega)
 replace p1 := p1.below b_7 (by omega)
 replace r1 := r1.below b_7 (by omega)
 replace a2 := a2.below b_7 (by omega)
 replace o2 := o2.below b_7 (by omega)
 replace p2 := p2.below b_7 (by omega)
 replace t2 := t2.below b_7 (by omega)
 have z_8 := b_7.size
 replace hB := hB.trans (b_7.mono (by omega))
 clear b_7
 generalize w5.alloc _ = w7 at *
 generalize w5.heap.size = g7 at *
 have c1 := specRunOps_any m1 _ _ _ st1 ls1 lw1 w7 a1.rd o1.rd p1.rd (by omega) (by omega) (by omega) _ os1 r1.rd (by omega) ht1 hl1 hw1
 rw [Hok1.out, HS1.out, Ht1.out] at c1
 refine (c1).mono ?_; rintro q_ w9 ⟨vt3, vs3, vw3, vk3, q30, q31, q32, q33, rfl, a3, o3, p3, t3, _, zq31, _, zq33, _, b_9⟩
 replace bq1 := bq1.below b_9 bq1.lt
 replace bq2 := bq2.below b_9 bq2.lt
 replace h := h.below b_9 (by omega)
 replace a1 := a1.below b_9 (by omega)
 replace o1 := o1.below b_9 (by omega)
 replace p1 := p1.below b_9 (by omega)
 replace r1 := r1.below b_9 (by omega)
 replace a2 := a2.below b_9 (by omega)
 replace o2 := o2.below b_9 (by omega)
 replace p2 := p2.below b_9 (by omega)
 replace t2 := t2.below b_9 (by omega)
 have z_10 := b_9.size
 replace hB := hB.trans (b_9.mono (by omega))
 clear b_9
 obtain ⟨T3, n3, d3, rfl, HN3, _, _⟩ := a3.rd.form
 obtain ⟨A3, k3, c3, rfl, _, _, _⟩ := o3.rd.form
 obtain ⟨B3, j3, e3, rfl, _, _, _⟩ := p3.rd.form
 obtain ⟨Tk3, nk3, dk3, rfl, _, _, _⟩ := t3.rd.form
 clear c1
 have bq1_0 := bq1.c0
 have bq1_1 := bq1.c1
 have bq1_2 := bq1.c2
 have bq1_3 := bq1.c3
 have bq1_z := bq1.frozen
 have bq1_l := bq1.lt
 have bq2_0 := bq2.c0
 have bq2_1 := bq2.c1
 have bq2_2 := bq2.c2
 have bq2_3 := bq2.c3
 have bq2_z := bq2.frozen
 have bq2_l := bq2.lt
 go_wp2_with fail
 clear bq1_0 bq1_1 bq1_2 bq1_3 bq1_z bq1_l bq2_0 bq2_1 bq2_2 bq2_3 bq2_z bq2_l
 have b_11 := (Below.refl w9.heap.size w9).alloc (Nat.le_refl _) (.cells #[.int .i64 S1.m, .slice T3 n3 d3, .slice A3 k3 c3, .slice B3 j3 e3] 30)
 have bq3 := Box.new w9 #[.int .i64 S1.m, .slice T3 n3 d3, .slice A3 k3 c3, .slice B3 j3 e3] 30 rfl
 replace bq1 := bq1.below b_11 bq1.lt
 replace bq2 := bq2.below b_11 bq2.lt
 replace h := h.below b_11 (by omega)
 replace a1 := a1.below b_11 (by omega)
 replace o1 := o1.below b_11 (by omega)
 replace p1 := p1.below b_11 (by omega)
 replace r1 := r1.below b_11 (by omega)
 replace a2 := a2.below b_11 (by omega)
 replace o2 := o2.below b_11 (by omega)
 replace p2 := p2.below b_11 (by omega)
 replace t2 := t2.below b_11 (by omega)
 replace a3 := a3.below b_11 (by omega)
 replace o3 := o3.below b_11 (by omega)
 replace p3 := p3.below b_11 (by omega)
 replace t3 := t3.below b_11 (by omega)
 have z_12 := b_11.size
 replace hB := hB.trans (b_11.mono (by omega))
 clear b_11
 generalize w9.alloc _ = w11 at *
 generalize w9.heap.size = g11 at *
 refine (vInts_same _ _ _ w11 t2.rd t3.rd (by omega) (by omega)).mono ?_; rintro q_ w13 ⟨rfl, b_13⟩
 replace bq1 := bq1.below b_13 bq1.lt
 replace bq2 := bq2.below b_13 bq2.lt
 replace bq3 := bq3.below b_13 bq3.lt
 replace h := h.below b_13 (by omega)
 replace a1 := a1.below b_13 (by omega)
 replace o1 := o1.below b_13 (by omega)
 replace p1 := p1.below b_13 (by omega)
 replace r1 := r1.below b_13 (by omega)
 replace a2 := a2.below b_13 (by omega)
 replace o2 := o2.below b_13 (by omega)
 replace p2 := p2.below b_13 (by omega)
 replace t2 := t2.below b_13 (by omega)
 replace a3 := a3.below b_13 (by omega)
 replace o3 := o3.below b_13 (by omega)
 replace p3 := p3.below b_13 (by omega)
 replace t3 := t3.below b_13 (by omega)
 have z_14 := b_13.size
 replace hB := hB.trans (b_13.mono (by omega))
 clear b_13
 have bq1_0 := bq1.c0
 have bq1_1 := bq1.c1
 have bq1_2 := bq1.c2
 have bq1_3 := bq1.c3
 have bq1_z := bq1.frozen
 have bq1_l := bq1.lt
 have bq2_0 := bq2.c0
 have bq2_1 := bq2.c1
 have bq2_2 := bq2.c2
 have bq2_3 := bq2.c3
 have bq2_z := bq2.frozen
 have bq2_l := bq2.lt
 have bq3_0 := bq3.c0
 have bq3_1 := bq3.c1
 have bq3_2 := bq3.c2
 have bq3_3 := bq3.c3
 have bq3_z := bq3.frozen
 have bq3_l := bq3.lt
 go_wp2_with fail
 clear bq1_0 bq1_1 bq1_2 bq1_3 bq1_z bq1_l bq2_0 bq2_1 bq2_2 bq2_3 bq2_z bq2_l bq3_0 bq3_1 bq3_2 bq3_3 bq3_z bq3_l
 refine (vFace_same _ _ _ _ _ _ _ _ _ _ w13 a2.rd o2.rd p2.rd a3.rd o3.rd p3.rd (by omega) (by omega) (by omega) (by omega) (by omega) (by omega)).mono ?_; rintro q_ w15 ⟨rfl, b_15⟩
 replace bq1 := bq1.below b_15 bq1.lt
 replace bq2 := bq2.below b_15 bq2.lt
 replace bq3 := bq3.below b_15 bq3.lt
 replace h := h.below b_15 (by omega)
 replace a1 := a1.below b_15 (by omega)
 replace o1 := o1.below b_15 (by omega)
 replace p1 := p1.below b_15 (by omega)
 replace r1 := r1.below b_15 (by omega)
 replace a2 := a2.below b_15 (by omega)
 replace o2 := o2.below b_15 (by omega)
 replace p2 := p2.below b_15 (by omega)
 replace t2 := t2.below b_15 (by omega)
 replace a3 := a3.below b_15 (by omega)
 replace o3 := o3.below b_15 (by omega)
 replace p3 := p3.below b_15 (by omega)
 replace t3 := t3.below b_15 (by omega)
 have z_16 := b_15.size
 replace hB := hB.trans (b_15.mono (by omega))
 clear b_15
 clear bq3 a3 o3 p3 t3
 have bq1_0 := bq1.c0
 have bq1_1 := bq1.c1
 have bq1_2 := bq1.c2
 have bq1_3 := bq1.c3
 have bq1_z := bq1.frozen
 have bq1_l := bq1.lt
 have bq2_0 := bq2.c0
 have bq2_1 := bq2.c1
 have bq2_2 := bq2.c2
 have bq2_3 := bq2.c3
 have bq2_z := bq2.frozen
 have bq2_l := bq2.lt
 go_upto_if 67 with fail
 clear bq1_0 bq1_1 bq1_2 bq1_3 bq1_z bq1_l bq2_0 bq2_1 bq2_2 bq2_3 bq2_z bq2_l
 go_cut [] (fun wx => Below w15.heap.size w15 wx)
 case first =>
  ·skip
   have hBf := Below.refl w15.heap.size w15
   cases ok1
   ·have bq1_0 := bq1.c0
    have bq1_1 := bq1.c1
    have bq1_2 := bq1.c2
    have bq1_3 := bq1.c3
    have bq1_z := bq1.frozen
    have bq1_l := bq1.lt
    have bq2_0 := bq2.c0
    have bq2_1 := bq2.c1
    have bq2_2 := bq2.c2
    have bq2_3 := bq2.c3
    have bq2_z := bq2.frozen
    have bq2_l := bq2.lt
    go_wp2_with fail
    clear bq1_0 bq1_1 bq1_2 bq1_3 bq1_z bq1_l bq2_0 bq2_1 bq2_2 bq2_3 bq2_z bq2_l
    go_meet
    exact hBf
   ·obtain ⟨_, e1, e2⟩ := FS.ro_yes Hok1.out
    obtain rfl := e1.symm.trans HS1.out
    obtain rfl := e2.symm.trans Ht1.out
    have hro := Hok1.out
    simp only [FS.roOk, Bool.and_eq_true, decide_eq_true_eq] at hro
    obtain ⟨hg1, h20, hall⟩ := hro
    have hnr : nr ≤ 20 := by rw [HNr.out]; exact h20
    have HG := Lib.hid hg1
    have HA := Lib.hid hall
    clear e1 e2 hg1 h20 hall HS1 Ht1 hos
    have bq1_0 := bq1.c0
    have bq1_1 := bq1.c1
    have bq1_2 := bq1.c2
    have bq1_3 := bq1.c3
    have bq1_z := bq1.frozen
    have bq1_l := bq1.lt
    have bq2_0 := bq2.c0
    have bq2_1 := bq2.c1
    have bq2_2 := bq2.c2
    have bq2_3 := bq2.c3
    have bq2_z := bq2.frozen
    have bq2_l := bq2.lt
    go_wp2_with fail
    clear bq1_0 bq1_1 bq1_2 bq1_3 bq1_z bq1_l bq2_0 bq2_1 bq2_2 bq2_3 bq2_z bq2_l
    have hb0 : Below w15.heap.size w15 ((w15.alloc (.cells #[] 3)).alloc (.cells #[.int .i64 m1, .slice T1 n1 d1, .slice A1 k1 c1, .slice B1 j1 e1] 30)) := ((Below.refl w15.heap.size w15).alloc (Nat.le_refl _) (.cells #[] 3)).alloc (by simp) (.cells #[.int .i64 m1, .slice T1 n1 d1, .slice A1 k1 c1, .slice B1 j1 e1] 30)
    have bN := Box.new (g := w15.heap.size + 1) (w15.alloc (.cells #[] 3)) #[.int .i64 m1, .slice T1 n1 d1, .slice A1 k1 c1, .slice B1 j1 e1] 30 (by simp)
    have oK := (own_empty w15 (base := w15.heap.size) 3 1 (Nat.le_refl _)).alloc (.cells #[.int .i64 m1, .slice T1 n1 d1, .slice A1 k1 c1, .slice B1 j1 e1] 30)
    have zz : w15.heap.size + 2 ≤ ((w15.alloc (.cells #[] 3)).alloc (.cells #[.int .i64 m1, .slice T1 n1 d1, .slice A1 k1 c1, .slice B1 j1 e1] 30)).heap.size := by simp
    have oKb : ∀ q, Value.ownBlock (.slice (some ⟨w15.heap.size, 0, none⟩) 0 0) = some q → w15.heap.size ≤ q := fun q e => by simp [Value.ownBlock] at e; omega
    generalize ((w15.alloc (.cells #[] 3)).alloc (.cells #[.int .i64 m1, .slice T1 n1 d1, .slice A1 k1 c1, .slice B1 j1 e1] 30)) = wq0 at hb0 bN oK zz ⊢
    go_loopw [12, 13] (fun v12 v13 wr => ∃ (k : Nat) (P : FS) (T : List Int) (q0 q1 : Nat) (vt vs vw : Value), k ≤ nr ∧ v13 = .int .i64 k ∧ Hid (FS.runs (⟨m1, st1, ls1, lw1⟩, []) (os1.take k) = (P, T)) ∧ T.length ≤ k ∧ q1 ≤ wr.heap.size ∧ w15.heap.size + 2 ≤ wr.heap.size ∧ Below w15.heap.size w15 wr ∧ Box wr (w15.heap.size + 1) 30 [.int .i64 P.m, vt, vs, vw] ∧ Ow Nm.cells 1 3 wr q0 q1 vt P.st ∧ Ow Sl.cells 3 93 wr q0 q1 vs P.ls ∧ Ow Wt.cells 2 107 wr q0 q1 vw P.lw ∧ wr.ownsRow w15.heap.size 3 1 v12 T.length (T.flatMap Nm.cells) ∧ (∀ q, v12.ownBlock = some q → q < q0 ∨ q1 ≤ q)) (fun _ v13 _ => nr - (intOf v13).toNat)
    case atStart => exact ⟨0, ⟨m1, st1, ls1, lw1⟩, [], 0, w15.heap.size, _, _, _, Nat.zero_le _, rfl, Lib.hid (by simp [FS.runs]), Nat.le_refl _, by omega, zz, hb0, bN, (a1.mono (Nat.zero_le _) (by omega)).below hb0 (Nat.le_refl _), (o1.mono (Nat.zero_le _) (by omega)).below hb0 (Nat.le_refl _), (p1.mono (Nat.zero_le _) (by omega)).below hb0 (Nat.le_refl _), oK, fun q e => .inr (oKb q e)⟩
    case round =>
     clear oK oKb bN hb0 zz
     obtain ⟨k, P, T, q0, q1, vt, vs, vw, hk, rfl, HR, hTk, hq1, zz, hbr, bN, an, on, pn, oK, hK⟩ := hrel
     have hbs := hbr.size
     by_cases hlt : k < nr
     ·obtain ⟨Tn, nn, dn, rfl, HNn, _, _⟩ := an.rd.form
      obtain ⟨An, kn, cn, rfl, _, _, _⟩ := on.rd.form
      obtain ⟨Bn, jn, en, rfl, _, _, _⟩ := pn.rd.form
      obtain ⟨b, off, o, rfl, ho, _, hbl, f0, f1, f2⟩ := Op_.get r1.rd hlt hbr (by omega)
      have hbw : b < wr.heap.size := by omega
      have hok : o.ok = true := List.all_eq_true.1 HA.out o (List.mem_of_getElem? ho.out)
      have hgP : P.good = true := by
       have h1 := FS.runs_good (l := os1.take k) (by rw [List.all_eq_true]; exact fun x hx => List.all_eq_true.1 HA.out x (List.mem_of_mem_take hx)) (p := (⟨m1, st1, ls1, lw1⟩, [])) HG.out
       rw [HR.out] at h1
       exact h1
      have hln := FS.good_len hgP
      have ht : P.st.length ≤ 1048576 := by omega
      have hl : P.ls.length ≤ 1048576 := by omega
      have hw : P.lw.length ≤ 1048576 := by omega
      have HX := Lib.hid (show FS.runs (⟨m1, st1, ls1, lw1⟩, []) (os1.take (k + 1)) = FS.next (P, T) o from by rw [FS.runs_pre ho.out, HR.out])
      have hkk := (Op_.ok_iff o).1 hok
      have hG := Lib.hid hgP
      clear hln HR hok hgP
      have hkinds : (o.kind = 1 ∧ inB o.irq 0 7 = true ∧ inB o.prio 0 15 = true) ∨ o.kind = 2 ∨ o.kind = 3 ∨ (o.kind = 4 ∧ inB o.prio 0 16 = true) := by
       rcases hkk with h | h | h
       ·exact .inl h
       ·rcases h.1 with h | h
        ·exact .inr (.inl h)
        ·exact .inr (.inr (.inl h))
       ·exact .inr (.inr (.inr ⟨h.1, h.2.2⟩))
      clear hkk
      rcases hkinds with ⟨hk1, hi1, hp1⟩ | hk2 | hk3 | ⟨hk4, hp4⟩
      ·rw [hk1] at f0
       have bN_0 := bN.c0
       have bN_1 := bN.c1
       have bN_2 := bN.c2
       have bN_3 := bN.c3
       have bN_z := bN.frozen
       have bN_l := bN.lt
       go_upto_region 17 with fail
       clear bN_0 bN_1 bN_2 bN_3 bN_z bN_l
       have b_17 := (Below.refl wr.heap.size wr).alloc (Nat.le_refl _) (.cells #[.int .i64 P.m, .slice Tn nn dn, .slice An kn cn, .slice Bn jn en] 30)
       have bX := Box.new wr #[.int .i64 P.m, .slice Tn nn dn, .slice An kn cn, .slice Bn jn en] 30 rfl
       replace oK := own_below oK b_17
       replace bN := bN.below b_17 bN.lt
       replace an := an.below b_17 (by omega)
       replace on := on.below b_17 (by omega)
       replace pn := pn.below b_17 (by omega)
       have z_18 := b_17.size
       replace hbr := hbr.trans (b_17.mono (by omega))
       clear b_17
       generalize wr.alloc _ = w17 at *
       generalize wr.heap.size = g17 at *
       obtain ⟨e1, e2, e3, e4, e5⟩ := OP.raise hG.out hi1 hp1
       have HP := Lib.hid (FS.next_rose (p := (P, T)) hk1)
       clear f0 f1 f2
       have hkl := fun q e => (oK.lt q e).2
       have hd := Below.drew (Below.refl w17.heap.size w17)
       have hkI : (0 : Int) ≤ (k : Int) := by omega
       have hkJ : (k : Int) < (nr : Int) := by omega
       have c1 := implRaiseIrq_any P.m _ _ _ P.st P.ls P.lw w17.drew (an.rd.below hd (by omega)) (on.rd.below hd (by omega)) (pn.rd.below hd (by omega)) (by simp; omega) (by simp; omega) (by simp; omega) o.irq o.prio ht
       rw [e1, e2, e3, e4, e5] at c1
       clear e1 e2 e3 e4 e5
       have mkS : ∀ Wx, Below w17.heap.size w17 Wx → Wx.cell? ⟨w15.heap.size + 1, 0, none⟩ = some (.int .i64 P.m) ∧ Wx.cell? ⟨w15.heap.size + 1, 1, none⟩ = some (.slice Tn nn dn) ∧ Wx.cell? ⟨w15.heap.size + 1, 2, none⟩ = some (.slice An kn cn) ∧ Wx.cell? ⟨w15.heap.size + 1, 3, none⟩ = some (.slice Bn jn en) ∧ Wx.cell? ⟨b, off + k * 3, none⟩ = some (.int .i64 o.kind) ∧ Wx.cell? ⟨b, off + k * 3 + 1, none⟩ = some (.int .i64 o.irq) ∧ Wx.cell? ⟨b, off + k * 3 + 2, none⟩ = some (.int .i64 o.prio) := fun Wx hb => ⟨(bN.below hb bN.lt).c0, (bN.below hb bN.lt).c1, (bN.below hb bN.lt).c2, (bN.below hb bN.lt).c3, (Op_.at_ ((r1.rd.below hbr (by omega)).below hb (by omega)) ho.out).1, (Op_.at_ ((r1.rd.below hbr (by omega)).below hb (by omega)) ho.out).2.1, (Op_.at_ ((r1.rd.below hbr (by omega)).below hb (by omega)) ho.out).2.2⟩
       have mkT : ∀ Wx (y0 y1 y2 y3 : Value), Below w17.heap.size w17 Wx → (World.setCell (World.setCell (World.setCell (World.setCell Wx ⟨g17, 0, none⟩ y0) ⟨g17, 1, none⟩ y1) ⟨g17, 2, none⟩ y2) ⟨g17, 3, none⟩ y3).cell? ⟨w15.heap.size + 1, 0, none⟩ = some (.int .i64 P.m) ∧ (World.setCell (World.setCell (World.setCell (World.setCell Wx ⟨g17, 0, none⟩ y0) ⟨g17, 1, none⟩ y1) ⟨g17, 2, none⟩ y2) ⟨g17, 3, none⟩ y3).cell? ⟨w15.heap.size + 1, 1, none⟩ = some (.slice Tn nn dn) ∧ (World.setCell (World.setCell (World.setCell (World.setCell Wx ⟨g17, 0, none⟩ y0) ⟨g17, 1, none⟩ y1) ⟨g17, 2, none⟩ y2) ⟨g17, 3, none⟩ y3).cell? ⟨w15.heap.size + 1, 2, none⟩ = some (.slice An kn cn) ∧ (World.setCell (World.setCell (World.setCell (World.setCell Wx ⟨g17, 0, none⟩ y0) ⟨g17, 1, none⟩ y1) ⟨g17, 2, none⟩ y2) ⟨g17, 3, none⟩ y3).cell? ⟨w15.heap.size + 1, 3, none⟩ = some (.slice Bn jn en) ∧ (World.setCell (World.setCell (World.setCell (World.setCell Wx ⟨g17, 0, none⟩ y0) ⟨g17, 1, none⟩ y1) ⟨g17, 2, none⟩ y2) ⟨g17, 3, none⟩ y3).cell? ⟨b, off + k * 3, none⟩ = some (.int .i64 o.kind) ∧ (World.setCell (World.setCell (World.setCell (World.setCell Wx ⟨g17, 0, none⟩ y0) ⟨g17, 1, none⟩ y1) ⟨g17, 2, none⟩ y2) ⟨g17, 3, none⟩ y3).cell? ⟨b, off + k * 3 + 1, none⟩ = some (.int .i64 o.irq) ∧ (World.setCell (World.setCell (World.setCell (World.setCell Wx ⟨g17, 0, none⟩ y0) ⟨g17, 1, none⟩ y1) ⟨g17, 2, none⟩ y2) ⟨g17, 3, none⟩ y3).cell? ⟨b, off + k * 3 + 2, none⟩ = some (.int .i64 o.prio) := fun Wx y0 y1 y2 y3 hb => by
        have hx : (setL Wx (g17) 0 [y0, y1, y2, y3]).cell? ⟨w15.heap.size + 1, 0, none⟩ = some (.int .i64 P.m) ∧ (setL Wx (g17) 0 [y0, y1, y2, y3]).cell? ⟨w15.heap.size + 1, 1, none⟩ = some (.slice Tn nn dn) ∧ (setL Wx (g17) 0 [y0, y1, y2, y3]).cell? ⟨w15.heap.size + 1, 2, none⟩ = some (.slice An kn cn) ∧ (setL Wx (g17) 0 [y0, y1, y2, y3]).cell? ⟨w15.heap.size + 1, 3, none⟩ = some (.slice Bn jn en) ∧ (setL Wx (g17) 0 [y0, y1, y2, y3]).cell? ⟨b, off + k * 3, none⟩ = some (.int .i64 o.kind) ∧ (setL Wx (g17) 0 [y0, y1, y2, y3]).cell? ⟨b, off + k * 3 + 1, none⟩ = some (.int .i64 o.irq) ∧ (setL Wx (g17) 0 [y0, y1, y2, y3]).cell? ⟨b, off + k * 3 + 2, none⟩ = some (.int .i64 o.prio) := ⟨((bN.below hb bN.lt).other (b := g17) (by omega) 0 [y0, y1, y2, y3]).c0, ((bN.below hb bN.lt).other (b := g17) (by omega) 0 [y0, y1, y2, y3]).c1, ((bN.below hb bN.lt).other (b := g17) (by omega) 0 [y0, y1, y2, y3]).c2, ((bN.below hb bN.lt).other (b := g17) (by omega) 0 [y0, y1, y2, y3]).c3, (Op_.at_ (((r1.rd.below hbr (by omega)).below hb (by omega)).away (g := g17) (by omega) 0 [y0, y1, y2, y3]) ho.out).1, (Op_.at_ (((r1.rd.below hbr (by omega)).below hb (by omega)).away (g := g17) (by omega) 0 [y0, y1, y2, y3]) ho.out).2.1, (Op_.at_ (((r1.rd.below hbr (by omega)).below hb (by omega)).away (g := g17) (by omega) 0 [y0, y1, y2, y3]) ho.out).2.2⟩
        simpa only [setL] using hx
       have hS0 := mkS _ hd
       go_region_held3 (fun Wx => Wx.cell? ⟨w15.heap.size + 1, 0, none⟩ = some (.int .i64 P.m) ∧ Wx.cell? ⟨w15.heap.size + 1, 1, none⟩ = some (.slice Tn nn dn) ∧ Wx.cell? ⟨w15.heap.size + 1, 2, none⟩ = some (.slice An kn cn) ∧ Wx.cell? ⟨w15.heap.size + 1, 3, none⟩ = some (.slice Bn jn en) ∧ Wx.cell? ⟨b, off + k * 3, none⟩ = some (.int .i64 o.kind) ∧ Wx.cell? ⟨b, off + k * 3 + 1, none⟩ = some (.int .i64 o.irq) ∧ Wx.cell? ⟨b, off + k * 3 + 2, none⟩ = some (.int .i64 o.prio)) (first | exact hS0 | assumption | exact hst _ _ _ _) ((go_at_call 21; refine c1.mono ?_; rintro q_ wv ⟨vt4, vs4, vw4, rfl, a4, o4, p4, b4⟩; (simp only [World.size_drew] at a4 o4 p4 b4); (obtain ⟨T4, n4, d4, rfl, HN4, _, _⟩ := a4.rd.form); (obtain ⟨A4, k4, c4, rfl, _, _, _⟩ := o4.rd.form); (obtain ⟨B4, j4, e4, rfl, _, _, _⟩ := p4.rd.form); (have hbv := hd.trans b4); (have hN := mkS _ hbv); (have hst := fun y0 y1 y2 y3 => mkT _ y0 y1 y2 y3 hbv); (have bXv := bX.below hbv bX.lt); (have x0 := bXv.c0); (have x1 := bXv.c1); (have x2 := bXv.c2); (have x3 := bXv.c3); (have xz := bXv.frozen); (have xl := bXv.lt)))
       clear hN hst hS0 mkS mkT bXv x0 x1 x2 x3 xz xl c1 b4 hd hkI hkJ
       replace oK := own_below oK hbv
       replace bN := bN.below hbv bN.lt
       replace bX := bX.below hbv bX.lt
       replace an := an.below hbv (by omega)
       replace on := on.below hbv (by omega)
       replace pn := pn.below hbv (by omega)
       have z_19 := hbv.size
       replace hbr := hbr.trans (hbv.mono (by omega))
       clear hbv
       generalize hwz : World.setCell (World.setCell (World.setCell (World.setCell _ _ _) _ _) _ _) _ _ = wz_
       obtain rfl : wz_ = setL wv (g17) 0 [.int .i64 (P.rose o.irq o.prio).m, .slice T4 n4 d4, .slice A4 k4 c4, .slice B4 j4 e4] := hwz.symm
       clear hwz
       replace bN := bN.other (b := g17) (by omega) 0 [.int .i64 (P.rose o.irq o.prio).m, .slice T4 n4 d4, .slice A4 k4 c4, .slice B4 j4 e4]
       replace an := an.box (g := g17) bX (by decide) 0 [.int .i64 (P.rose o.irq o.prio).m, .slice T4 n4 d4, .slice A4 k4 c4, .slice B4 j4 e4]
       replace on := on.box (g := g17) bX (by decide) 0 [.int .i64 (P.rose o.irq o.prio).m, .slice T4 n4 d4, .slice A4 k4 c4, .slice B4 j4 e4]
       replace pn := pn.box (g := g17) bX (by decide) 0 [.int .i64 (P.rose o.irq o.prio).m, .slice T4 n4 d4, .slice A4 k4 c4, .slice B4 j4 e4]
       replace a4 := a4.box (g := g17) bX (by decide) 0 [.int .i64 (P.rose o.irq o.prio).m, .slice T4 n4 d4, .slice A4 k4 c4, .slice B4 j4 e4]
       replace o4 := o4.box (g := g17) bX (by decide) 0 [.int .i64 (P.rose o.irq o.prio).m, .slice T4 n4 d4, .slice A4 k4 c4, .slice B4 j4 e4]
       replace p4 := p4.box (g := g17) bX (by decide) 0 [.int .i64 (P.rose o.irq o.prio).m, .slice T4 n4 d4, .slice A4 k4 c4, .slice B4 j4 e4]
       replace oK := own_box oK bX (by decide) 0 [.int .i64 (P.rose o.irq o.prio).m, .slice T4 n4 d4, .slice A4 k4 c4, .slice B4 j4 e4]
       replace hbr := setL_below hbr [.int .i64 (P.rose o.irq o.prio).m, .slice T4 n4 d4, .slice A4 k4 c4, .slice B4 j4 e4] (g17) 0 (by omega)
       have zs_20 : (setL wv (g17) 0 [.int .i64 (P.rose o.irq o.prio).m, .slice T4 n4 d4, .slice A4 k4 c4, .slice B4 j4 e4]).heap.size = wv.heap.size := setL_size _ _ _ _
       replace bX := bX.setAll [.int .i64 (P.rose o.irq o.prio).m, .slice T4 n4 d4, .slice A4 k4 c4, .slice B4 j4 e4] rfl
       generalize setL wv (g17) 0 _ = w20 at *
       have zt_20 : wv.heap.size ≤ w20.heap.size := by omega
       have zu_20 : w20.heap.size ≤ wv.heap.size := by omega
       clear zs_20
       have bN_0 := bN.c0
       have bN_1 := bN.c1
       have bN_2 := bN.c2
       have bN_3 := bN.c3
       have bN_z := bN.frozen
       have bN_l := bN.lt
       have bX_0 := bX.c0
       have bX_1 := bX.c1
       have bX_2 := bX.c2
       have bX_3 := bX.c3
       have bX_z := bX.frozen
       have bX_l := bX.lt
       go_upto_region 24 with fail
       clear bN_0 bN_1 bN_2 bN_3 bN_z bN_l bX_0 bX_1 bX_2 bX_3 bX_z bX_l
       generalize hwz : World.setCell (World.setCell (World.setCell (World.setCell _ _ _) _ _) _ _) _ _ = wz_
       obtain rfl : wz_ = setL w20 (w15.heap.size + 1) 0 [.int .i64 (P.rose o.irq o.prio).m, .slice T4 n4 d4, .slice A4 k4 c4, .slice B4 j4 e4] := hwz.symm
       clear hwz
       replace bX := bX.other (b := w15.heap.size + 1) (by omega) 0 [.int .i64 (P.rose o.irq o.prio).m, .slice T4 n4 d4, .slice A4 k4 c4, .slice B4 j4 e4]
       replace an := an.box (g := w15.heap.size + 1) bN (by decide) 0 [.int .i64 (P.rose o.irq o.prio).m, .slice T4 n4 d4, .slice A4 k4 c4, .slice B4 j4 e4]
       replace on := on.box (g := w15.heap.size + 1) bN (by decide) 0 [.int .i64 (P.rose o.irq o.prio).m, .slice T4 n4 d4, .slice A4 k4 c4, .slice B4 j4 e4]
       replace pn := pn.box (g := w15.heap.size + 1) bN (by decide) 0 [.int .i64 (P.rose o.irq o.prio).m, .slice T4 n4 d4, .slice A4 k4 c4, .slice B4 j4 e4]
       replace a4 := a4.box (g := w15.heap.size + 1) bN (by decide) 0 [.int .i64 (P.rose o.irq o.prio).m, .slice T4 n4 d4, .slice A4 k4 c4, .slice B4 j4 e4]
       replace o4 := o4.box (g := w15.heap.size + 1) bN (by decide) 0 [.int .i64 (P.rose o.irq o.prio).m, .slice T4 n4 d4, .slice A4 k4 c4, .slice B4 j4 e4]
       replace p4 := p4.box (g := w15.heap.size + 1) bN (by decide) 0 [.int .i64 (P.rose o.irq o.prio).m, .slice T4 n4 d4, .slice A4 k4 c4, .slice B4 j4 e4]
       replace oK := own_box oK bN (by decide) 0 [.int .i64 (P.rose o.irq o.prio).m, .slice T4 n4 d4, .slice A4 k4 c4, .slice B4 j4 e4]
       replace hbr := setL_below hbr [.int .i64 (P.rose o.irq o.prio).m, .slice T4 n4 d4, .slice A4 k4 c4, .slice B4 j4 e4] (w15.heap.size + 1) 0 (by omega)
       have zs_21 : (setL w20 (w15.heap.size + 1) 0 [.int .i64 (P.rose o.irq o.prio).m, .slice T4 n4 d4, .slice A4 k4 c4, .slice B4 j4 e4]).heap.size = w20.heap.size := setL_size _ _ _ _
       replace bN := bN.setAll [.int .i64 (P.rose o.irq o.prio).m, .slice T4 n4 d4, .slice A4 k4 c4, .slice B4 j4 e4] rfl
       generalize setL w20 (w15.heap.size + 1) 0 _ = w21 at *
       have zt_21 : w20.heap.size ≤ w21.heap.size := by omega
       have zu_21 : w21.heap.size ≤ w20.heap.size := by omega
       clear zs_21
       have bN_0 := bN.c0
       have bN_1 := bN.c1
       have bN_2 := bN.c2
       have bN_3 := bN.c3
       have bN_z := bN.frozen
       have bN_l := bN.lt
       have bX_0 := bX.c0
       have bX_1 := bX.c1
       have bX_2 := bX.c2
       have bX_3 := bX.c3
       have bX_z := bX.frozen
       have bX_l := bX.lt
       go_wp2_with fail
       clear bN_0 bN_1 bN_2 bN_3 bN_z bN_l bX_0 bX_1 bX_2 bX_3 bX_z bX_l
       go_roundw
       case rel => exact ⟨k + 1, P.rose o.irq o.prio, T, _, _, _, _, _, by omega, by go_num, Lib.hid (by rw [HX.out, HP.out]), by omega, by omega, by omega, hbr, bN, a4, o4, p4, oK, fun q e => .inl (hkl q e)⟩
       case measure => simp [intOf]; omega
      ·rw [hk2] at f0
       have bN_0 := bN.c0
       have bN_1 := bN.c1
       have bN_2 := bN.c2
       have bN_3 := bN.c3
       have bN_z := bN.frozen
       have bN_l := bN.lt
       go_wp2_with fail
       clear bN_0 bN_1 bN_2 bN_3 bN_z bN_l
       have b_17 := (Below.refl wr.heap.size wr).alloc (Nat.le_refl _) (.cells #[.int .i64 P.m, .slice Tn nn dn, .slice An kn cn, .slice Bn jn en] 30)
       have bX := Box.new wr #[.int .i64 P.m, .slice Tn nn dn, .slice An kn cn, .slice Bn jn en] 30 rfl
       replace oK := own_below oK b_17
       replace bN := bN.below b_17 bN.lt
       replace an := an.below b_17 (by omega)
       replace on := on.below b_17 (by omega)
       replace pn := pn.below b_17 (by omega)
       have z_18 := b_17.size
       replace hbr := hbr.trans (b_17.mono (by omega))
       clear b_17
       generalize wr.alloc _ = w17 at *
       generalize wr.heap.size = g17 at *
       cases htk : P.tk
       ·obtain ⟨e1, e2, e3⟩ := OP.notake hG.out htk
        have HP := Lib.hid (FS.next_none (p := (P, T)) hk2 htk)
        have c1 := implTakeIrq_any P.m _ _ _ P.st P.ls P.lw w17 an.rd on.rd pn.rd (by omega) (by omega) (by omega) ht hw
        rw [e1, e2, e3] at c1
        clear htk e1 e2 e3
        have hkl := fun q e => (oK.lt q e).2
        have z_b := w17.heap.size
        clear z_b
        refine (c1).mono ?_; rintro q_ w19 ⟨vt4, vs4, vw4, rfl, a4, o4, p4, b_19⟩
        replace oK := own_below oK b_19
        replace bN := bN.below b_19 bN.lt
        replace bX := bX.below b_19 bX.lt
        replace an := an.below b_19 (by omega)
        replace on := on.below b_19 (by omega)
        replace pn := pn.below b_19 (by omega)
        have z_20 := b_19.size
        replace hbr := hbr.trans (b_19.mono (by omega))
        clear b_19
        obtain ⟨T4, n4, d4, rfl, HN4, _, _⟩ := a4.rd.form
        obtain ⟨A4, k4, c4, rfl, _, _, _⟩ := o4.rd.form
        obtain ⟨B4, j4, e4, rfl, _, _, _⟩ := p4.rd.form
        clear c1
        have bN_0 := bN.c0
        have bN_1 := bN.c1
        have bN_2 := bN.c2
        have bN_3 := bN.c3
        have bN_z := bN.frozen
        have bN_l := bN.lt
        have bX_0 := bX.c0
        have bX_1 := bX.c1
        have bX_2 := bX.c2
        have bX_3 := bX.c3
        have bX_z := bX.frozen
        have bX_l := bX.lt
        go_upto_region 22 with fail
        clear bN_0 bN_1 bN_2 bN_3 bN_z bN_l bX_0 bX_1 bX_2 bX_3 bX_z bX_l
        generalize hwz : World.setCell (World.setCell (World.setCell (World.setCell _ _ _) _ _) _ _) _ _ = wz_
        obtain rfl : wz_ = setL w19 (g17) 0 [.int .i64 0, .slice T4 n4 d4, .slice A4 k4 c4, .slice B4 j4 e4] := hwz.symm
        clear hwz
        replace bN := bN.other (b := g17) (by omega) 0 [.int .i64 0, .slice T4 n4 d4, .slice A4 k4 c4, .slice B4 j4 e4]
        replace an := an.box (g := g17) bX (by decide) 0 [.int .i64 0, .slice T4 n4 d4, .slice A4 k4 c4, .slice B4 j4 e4]
        replace on := on.box (g := g17) bX (by decide) 0 [.int .i64 0, .slice T4 n4 d4, .slice A4 k4 c4, .slice B4 j4 e4]
        replace pn := pn.box (g := g17) bX (by decide) 0 [.int .i64 0, .slice T4 n4 d4, .slice A4 k4 c4, .slice B4 j4 e4]
        replace a4 := a4.box (g := g17) bX (by decide) 0 [.int .i64 0, .slice T4 n4 d4, .slice A4 k4 c4, .slice B4 j4 e4]
        replace o4 := o4.box (g := g17) bX (by decide) 0 [.int .i64 0, .slice T4 n4 d4, .slice A4 k4 c4, .slice B4 j4 e4]
        replace p4 := p4.box (g := g17) bX (by decide) 0 [.int .i64 0, .slice T4 n4 d4, .slice A4 k4 c4, .slice B4 j4 e4]
        replace oK := own_box oK bX (by decide) 0 [.int .i64 0, .slice T4 n4 d4, .slice A4 k4 c4, .slice B4 j4 e4]
        replace hbr := setL_below hbr [.int .i64 0, .slice T4 n4 d4, .slice A4 k4 c4, .slice B4 j4 e4] (g17) 0 (by omega)
        have zs_21 : (setL w19 (g17) 0 [.int .i64 0, .slice T4 n4 d4, .slice A4 k4 c4, .slice B4 j4 e4]).heap.size = w19.heap.size := setL_size _ _ _ _
        replace bX := bX.setAll [.int .i64 0, .slice T4 n4 d4, .slice A4 k4 c4, .slice B4 j4 e4] rfl
        generalize setL w19 (g17) 0 _ = w21 at *
        have zt_21 : w19.heap.size ≤ w21.heap.size := by omega
        have zu_21 : w21.heap.size ≤ w19.heap.size := by omega
        clear zs_21
        have bN_0 := bN.c0
        have bN_1 := bN.c1
        have bN_2 := bN.c2
        have bN_3 := bN.c3
        have bN_z := bN.frozen
        have bN_l := bN.lt
        have bX_0 := bX.c0
        have bX_1 := bX.c1
        have bX_2 := bX.c2
        have bX_3 := bX.c3
        have bX_z := bX.frozen
        have bX_l := bX.lt
        go_wp2_with fail
        clear bN_0 bN_1 bN_2 bN_3 bN_z bN_l bX_0 bX_1 bX_2 bX_3 bX_z bX_l
        go_roundw
        case rel => exact ⟨k + 1, P, T, q0, q1, _, _, _, by omega, by go_num, Lib.hid (by rw [HX.out, HP.out]), by omega, by omega, by omega, hbr, bN, an, on, pn, oK, hK⟩
        case measure => simp [intOf]; omega
       ·obtain ⟨e1, e2, e3, e4, e5, e6, e7⟩ := OP.take hG.out htk
        have HP := Lib.hid (FS.next_took (p := (P, T)) hk2 htk)
        have c1 := implTakeIrq_any P.m _ _ _ P.st P.ls P.lw w17 an.rd on.rd pn.rd (by omega) (by omega) (by omega) ht hw
        rw [e1, e2, e3, e4, e5, e6] at c1
        have hne : (Sl.tkI P.ls != -1) = true := by rw [bne_iff_ne]; omega
        clear htk e1 e2 e3 e4 e5 e6 e7
        have hkl := fun q e => (oK.lt q e).2
        have z_b := w17.heap.size
        clear z_b
        refine (c1).mono ?_; rintro q_ w19 ⟨vt4, vs4, vw4, rfl, a4, o4, p4, b_19⟩
        replace oK := own_below oK b_19
        replace bN := bN.below b_19 bN.lt
        replace bX := bX.below b_19 bX.lt
        replace an := an.below b_19 (by omega)
        replace on := on.below b_19 (by omega)
        replace pn := pn.below b_19 (by omega)
        have z_20 := b_19.size
        replace hbr := hbr.trans (b_19.mono (by omega))
        clear b_19
        obtain ⟨T4, n4, d4, rfl, HN4, _, _⟩ := a4.rd.form
        obtain ⟨A4, k4, c4, rfl, _, _, _⟩ := o4.rd.form
        obtain ⟨B4, j4, e4, rfl, _, _, _⟩ := p4.rd.form
        clear c1
        have bN_0 := bN.c0
        have bN_1 := bN.c1
        have bN_2 := bN.c2
        have bN_3 := bN.c3
        have bN_z := bN.frozen
        have bN_l := bN.lt
        have bX_0 := bX.c0
        have bX_1 := bX.c1
        have bX_2 := bX.c2
        have bX_3 := bX.c3
        have bX_z := bX.frozen
        have bX_l := bX.lt
        go_upto_region 22 with fail
        clear bN_0 bN_1 bN_2 bN_3 bN_z bN_l bX_0 bX_1 bX_2 bX_3 bX_z bX_l
        generalize hwz : World.setCell (World.setCell (World.setCell (World.setCell _ _ _) _ _) _ _) _ _ = wz_
        obtain rfl : wz_ = setL w19 (g17) 0 [.int .i64 P.took.m, .slice T4 n4 d4, .slice A4 k4 c4, .slice B4 j4 e4] := hwz.symm
        clear hwz
        replace bN := bN.other (b := g17) (by omega) 0 [.int .i64 P.took.m, .slice T4 n4 d4, .slice A4 k4 c4, .slice B4 j4 e4]
        replace an := an.box (g := g17) bX (by decide) 0 [.int .i64 P.took.m, .slice T4 n4 d4, .slice A4 k4 c4, .slice B4 j4 e4]
        replace on := on.box (g := g17) bX (by decide) 0 [.int .i64 P.took.m, .slice T4 n4 d4, .slice A4 k4 c4, .slice B4 j4 e4]
        replace pn := pn.box (g := g17) bX (by decide) 0 [.int .i64 P.took.m, .slice T4 n4 d4, .slice A4 k4 c4, .slice B4 j4 e4]
        replace a4 := a4.box (g := g17) bX (by decide) 0 [.int .i64 P.took.m, .slice T4 n4 d4, .slice A4 k4 c4, .slice B4 j4 e4]
        replace o4 := o4.box (g := g17) bX (by decide) 0 [.int .i64 P.took.m, .slice T4 n4 d4, .slice A4 k4 c4, .slice B4 j4 e4]
        replace p4 := p4.box (g := g17) bX (by decide) 0 [.int .i64 P.took.m, .slice T4 n4 d4, .slice A4 k4 c4, .slice B4 j4 e4]
        replace oK := own_box oK bX (by decide) 0 [.int .i64 P.took.m, .slice T4 n4 d4, .slice A4 k4 c4, .slice B4 j4 e4]
        replace hbr := setL_below hbr [.int .i64 P.took.m, .slice T4 n4 d4, .slice A4 k4 c4, .slice B4 j4 e4] (g17) 0 (by omega)
        have zs_21 : (setL w19 (g17) 0 [.int .i64 P.took.m, .slice T4 n4 d4, .slice A4 k4 c4, .slice B4 j4 e4]).heap.size = w19.heap.size := setL_size _ _ _ _
        replace bX := bX.setAll [.int .i64 P.took.m, .slice T4 n4 d4, .slice A4 k4 c4, .slice B4 j4 e4] rfl
        generalize setL w19 (g17) 0 _ = w21 at *
        have zt_21 : w19.heap.size ≤ w21.heap.size := by omega
        have zu_21 : w21.heap.size ≤ w19.heap.size := by omega
        clear zs_21
        have bN_0 := bN.c0
        have bN_1 := bN.c1
        have bN_2 := bN.c2
        have bN_3 := bN.c3
        have bN_z := bN.frozen
        have bN_l := bN.lt
        have bX_0 := bX.c0
        have bX_1 := bX.c1
        have bX_2 := bX.c2
        have bX_3 := bX.c3
        have bX_z := bX.frozen
        have bX_l := bX.lt
        go_upto_region 24 with fail
        clear bN_0 bN_1 bN_2 bN_3 bN_z bN_l bX_0 bX_1 bX_2 bX_3 bX_z bX_l
        generalize hwz : World.setCell (World.setCell (World.setCell (World.setCell _ _ _) _ _) _ _) _ _ = wz_
        obtain rfl : wz_ = setL w21 (w15.heap.size + 1) 0 [.int .i64 P.took.m, .slice T4 n4 d4, .slice A4 k4 c4, .slice B4 j4 e4] := hwz.symm
        clear hwz
        replace bX := bX.other (b := w15.heap.size + 1) (by omega) 0 [.int .i64 P.took.m, .slice T4 n4 d4, .slice A4 k4 c4, .slice B4 j4 e4]
        replace an := an.box (g := w15.heap.size + 1) bN (by decide) 0 [.int .i64 P.took.m, .slice T4 n4 d4, .slice A4 k4 c4, .slice B4 j4 e4]
        replace on := on.box (g := w15.heap.size + 1) bN (by decide) 0 [.int .i64 P.took.m, .slice T4 n4 d4, .slice A4 k4 c4, .slice B4 j4 e4]
        replace pn := pn.box (g := w15.heap.size + 1) bN (by decide) 0 [.int .i64 P.took.m, .slice T4 n4 d4, .slice A4 k4 c4, .slice B4 j4 e4]
        replace a4 := a4.box (g := w15.heap.size + 1) bN (by decide) 0 [.int .i64 P.took.m, .slice T4 n4 d4, .slice A4 k4 c4, .slice B4 j4 e4]
        replace o4 := o4.box (g := w15.heap.size + 1) bN (by decide) 0 [.int .i64 P.took.m, .slice T4 n4 d4, .slice A4 k4 c4, .slice B4 j4 e4]
        replace p4 := p4.box (g := w15.heap.size + 1) bN (by decide) 0 [.int .i64 P.took.m, .slice T4 n4 d4, .slice A4 k4 c4, .slice B4 j4 e4]
        replace oK := own_box oK bN (by decide) 0 [.int .i64 P.took.m, .slice T4 n4 d4, .slice A4 k4 c4, .slice B4 j4 e4]
        replace hbr := setL_below hbr [.int .i64 P.took.m, .slice T4 n4 d4, .slice A4 k4 c4, .slice B4 j4 e4] (w15.heap.size + 1) 0 (by omega)
        have zs_22 : (setL w21 (w15.heap.size + 1) 0 [.int .i64 P.took.m, .slice T4 n4 d4, .slice A4 k4 c4, .slice B4 j4 e4]).heap.size = w21.heap.size := setL_size _ _ _ _
        replace bN := bN.setAll [.int .i64 P.took.m, .slice T4 n4 d4, .slice A4 k4 c4, .slice B4 j4 e4] rfl
        generalize setL w21 (w15.heap.size + 1) 0 _ = w22 at *
        have zt_22 : w21.heap.size ≤ w22.heap.size := by omega
        have zu_22 : w22.heap.size ≤ w21.heap.size := by omega
        clear zs_22
        have ga8 := grown_alloc w22 (.cells #[.int .i64 (Sl.tkI P.ls)] 3)
        have za8 : w22.heap.size + 1 ≤ (w22.alloc (.cells #[.int .i64 (Sl.tkI P.ls)] 3)).heap.size := by simp
        have oL := oK.alloc (.cells #[.int .i64 (Sl.tkI P.ls)] 3)
        have bN_0 := bN.c0
        have bN_1 := bN.c1
        have bN_2 := bN.c2
        have bN_3 := bN.c3
        have bN_z := bN.frozen
        have bN_l := bN.lt
        have bX_0 := bX.c0
        have bX_1 := bX.c1
        have bX_2 := bX.c2
        have bX_3 := bX.c3
        have bX_z := bX.frozen
        have bX_l := bX.lt
        go_wp2_with (at_builtin; (refine Nm.app_one2 rfl _ _ rfl w15.heap.size u12 T.length _ rfl oL (g := w22.heap.size) (c := 1) (Sl.tkI P.ls) rfl (fun j u hu => cell_new _ _ _ rfl (by simpa [Nm.cells] using hu)) (by omega) (by omega) ?_); (intro v8 w8 o8 g8 hl8))
        have z8 := g8.size
        replace hbr := (hbr.grown ga8 (by omega) (fun q e => by cases e)).grown g8 (by omega) (fun q e => (oL.lt q e).1)
        replace bN := bN.keep (ga8.block _ bN.lt (by simp))
        replace bN := bN.keep (g8.block _ bN.lt (fun e => own_box_ne oL bN (by decide) e.symm))
        replace a4 := (a4.grown_off ga8 (fun q e => by cases e)).grown_off g8 (fun q e => .inl (hkl q e))
        replace o4 := (o4.grown_off ga8 (fun q e => by cases e)).grown_off g8 (fun q e => .inl (hkl q e))
        replace p4 := (p4.grown_off ga8 (fun q e => by cases e)).grown_off g8 (fun q e => .inl (hkl q e))
        go_roundw
        case rel =>
         refine ⟨k + 1, P.took, T ++ [(Sl.tkI P.ls)], _, _, _, _, _, by omega, by go_num, Lib.hid (by rw [HX.out, HP.out]), by simp; omega, ?hq, by omega, hbr, bN, a4, o4, p4, by rw [List.flatMap_append, List.length_append]; simpa using o8, fun q e => ?_⟩
         case hq => omega
         rcases hl8 with hl8 | hl8
         ·rw [hl8] at e
          exact .inl (hkl q e)
         ·rw [hl8] at e
          injection e with e
          exact .inr (by omega)
        case measure => simp [intOf]; omega
      ·rw [hk3] at f0
       have bN_0 := bN.c0
       have bN_1 := bN.c1
       have bN_2 := bN.c2
       have bN_3 := bN.c3
       have bN_z := bN.frozen
       have bN_l := bN.lt
       go_wp2_with fail
       clear bN_0 bN_1 bN_2 bN_3 bN_z bN_l
       have b_17 := (Below.refl wr.heap.size wr).alloc (Nat.le_refl _) (.cells #[.int .i64 P.m, .slice Tn nn dn, .slice An kn cn, .slice Bn jn en] 30)
       have bX := Box.new wr #[.int .i64 P.m, .slice Tn nn dn, .slice An kn cn, .slice Bn jn en] 30 rfl
       replace oK := own_below oK b_17
       replace bN := bN.below b_17 bN.lt
       replace an := an.below b_17 (by omega)
       replace on := on.below b_17 (by omega)
       replace pn := pn.below b_17 (by omega)
       have z_18 := b_17.size
       replace hbr := hbr.trans (b_17.mono (by omega))
       clear b_17
       generalize wr.alloc _ = w17 at *
       generalize wr.heap.size = g17 at *
       by_cases hz0 : P.st.length = 0
       ·obtain ⟨e1, e2⟩ := OP.noleave hz0
        have HP := Lib.hid (FS.next_nil (p := (P, T)) hk3 hz0)
        have c1 := implLeaveIrq_any P.m _ _ _ P.st P.ls P.lw w17 an.rd on.rd pn.rd (by omega) (by omega) (by omega) ht
        rw [e1, e2] at c1
        clear hz0 e1 e2
        have hkl := fun q e => (oK.lt q e).2
        have z_b := w17.heap.size
        clear z_b
        refine (c1).mono ?_; rintro q_ w19 ⟨vt4, vs4, vw4, rfl, a4, o4, p4, b_19⟩
        replace oK := own_below oK b_19
        replace bN := bN.below b_19 bN.lt
        replace bX := bX.below b_19 bX.lt
        replace an := an.below b_19 (by omega)
        replace on := on.below b_19 (by omega)
        replace pn := pn.below b_19 (by omega)
        have z_20 := b_19.size
        replace hbr := hbr.trans (b_19.mono (by omega))
        clear b_19
        obtain ⟨T4, n4, d4, rfl, HN4, _, _⟩ := a4.rd.form
        obtain ⟨A4, k4, c4, rfl, _, _, _⟩ := o4.rd.form
        obtain ⟨B4, j4, e4, rfl, _, _, _⟩ := p4.rd.form
        clear c1
        have bN_0 := bN.c0
        have bN_1 := bN.c1
        have bN_2 := bN.c2
        have bN_3 := bN.c3
        have bN_z := bN.frozen
        have bN_l := bN.lt
        have bX_0 := bX.c0
        have bX_1 := bX.c1
        have bX_2 := bX.c2
        have bX_3 := bX.c3
        have bX_z := bX.frozen
        have bX_l := bX.lt
        go_upto_region 22 with fail
        clear bN_0 bN_1 bN_2 bN_3 bN_z bN_l bX_0 bX_1 bX_2 bX_3 bX_z bX_l
        generalize hwz : World.setCell (World.setCell (World.setCell (World.setCell _ _ _) _ _) _ _) _ _ = wz_
        obtain rfl : wz_ = setL w19 (g17) 0 [.int .i64 0, .slice T4 n4 d4, .slice A4 k4 c4, .slice B4 j4 e4] := hwz.symm
        clear hwz
        replace bN := bN.other (b := g17) (by omega) 0 [.int .i64 0, .slice T4 n4 d4, .slice A4 k4 c4, .slice B4 j4 e4]
        replace an := an.box (g := g17) bX (by decide) 0 [.int .i64 0, .slice T4 n4 d4, .slice A4 k4 c4, .slice B4 j4 e4]
        replace on := on.box (g := g17) bX (by decide) 0 [.int .i64 0, .slice T4 n4 d4, .slice A4 k4 c4, .slice B4 j4 e4]
        replace pn := pn.box (g := g17) bX (by decide) 0 [.int .i64 0, .slice T4 n4 d4, .slice A4 k4 c4, .slice B4 j4 e4]
        replace a4 := a4.box (g := g17) bX (by decide) 0 [.int .i64 0, .slice T4 n4 d4, .slice A4 k4 c4, .slice B4 j4 e4]
        replace o4 := o4.box (g := g17) bX (by decide) 0 [.int .i64 0, .slice T4 n4 d4, .slice A4 k4 c4, .slice B4 j4 e4]
        replace p4 := p4.box (g := g17) bX (by decide) 0 [.int .i64 0, .slice T4 n4 d4, .slice A4 k4 c4, .slice B4 j4 e4]
        replace oK := own_box oK bX (by decide) 0 [.int .i64 0, .slice T4 n4 d4, .slice A4 k4 c4, .slice B4 j4 e4]
        replace hbr := setL_below hbr [.int .i64 0, .slice T4 n4 d4, .slice A4 k4 c4, .slice B4 j4 e4] (g17) 0 (by omega)
        have zs_21 : (setL w19 (g17) 0 [.int .i64 0, .slice T4 n4 d4, .slice A4 k4 c4, .slice B4 j4 e4]).heap.size = w19.heap.size := setL_size _ _ _ _
        replace bX := bX.setAll [.int .i64 0, .slice T4 n4 d4, .slice A4 k4 c4, .slice B4 j4 e4] rfl
        generalize setL w19 (g17) 0 _ = w21 at *
        have zt_21 : w19.heap.size ≤ w21.heap.size := by omega
        have zu_21 : w21.heap.size ≤ w19.heap.size := by omega
        clear zs_21
        have bN_0 := bN.c0
        have bN_1 := bN.c1
        have bN_2 := bN.c2
        have bN_3 := bN.c3
        have bN_z := bN.frozen
        have bN_l := bN.lt
        have bX_0 := bX.c0
        have bX_1 := bX.c1
        have bX_2 := bX.c2
        have bX_3 := bX.c3
        have bX_z := bX.frozen
        have bX_l := bX.lt
        go_wp2_with fail
        clear bN_0 bN_1 bN_2 bN_3 bN_z bN_l bX_0 bX_1 bX_2 bX_3 bX_z bX_l
        go_roundw
        case rel => exact ⟨k + 1, P, T, q0, q1, _, _, _, by omega, by go_num, Lib.hid (by rw [HX.out, HP.out]), by omega, by omega, by omega, hbr, bN, an, on, pn, oK, hK⟩
        case measure => simp [intOf]; omega
       ·obtain ⟨e1, e2, e3, e4, e5⟩ := OP.leave hG.out hz0
        have HP := Lib.hid (FS.next_left (p := (P, T)) hk3 hz0)
        have c1 := implLeaveIrq_any P.m _ _ _ P.st P.ls P.lw w17 an.rd on.rd pn.rd (by omega) (by omega) (by omega) ht
        rw [e1, e2, e3, e4, e5] at c1
        clear hz0 e1 e2 e3 e4 e5
        have hkl := fun q e => (oK.lt q e).2
        have z_b := w17.heap.size
        clear z_b
        refine (c1).mono ?_; rintro q_ w19 ⟨vt4, vs4, vw4, rfl, a4, o4, p4, b_19⟩
        replace oK := own_below oK b_19
        replace bN := bN.below b_19 bN.lt
        replace bX := bX.below b_19 bX.lt
        replace an := an.below b_19 (by omega)
        replace on := on.below b_19 (by omega)
        replace pn := pn.below b_19 (by omega)
        have z_20 := b_19.size
        replace hbr := hbr.trans (b_19.mono (by omega))
        clear b_19
        obtain ⟨T4, n4, d4, rfl, HN4, _, _⟩ := a4.rd.form
        obtain ⟨A4, k4, c4, rfl, _, _, _⟩ := o4.rd.form
        obtain ⟨B4, j4, e4, rfl, _, _, _⟩ := p4.rd.form
        clear c1
        have bN_0 := bN.c0
        have bN_1 := bN.c1
        have bN_2 := bN.c2
        have bN_3 := bN.c3
        have bN_z := bN.frozen
        have bN_l := bN.lt
        have bX_0 := bX.c0
        have bX_1 := bX.c1
        have bX_2 := bX.c2
        have bX_3 := bX.c3
        have bX_z := bX.frozen
        have bX_l := bX.lt
        go_upto_region 22 with fail
        clear bN_0 bN_1 bN_2 bN_3 bN_z bN_l bX_0 bX_1 bX_2 bX_3 bX_z bX_l
        generalize hwz : World.setCell (World.setCell (World.setCell (World.setCell _ _ _) _ _) _ _) _ _ = wz_
        obtain rfl : wz_ = setL w19 (g17) 0 [.int .i64 P.left.m, .slice T4 n4 d4, .slice A4 k4 c4, .slice B4 j4 e4] := hwz.symm
        clear hwz
        replace bN := bN.other (b := g17) (by omega) 0 [.int .i64 P.left.m, .slice T4 n4 d4, .slice A4 k4 c4, .slice B4 j4 e4]
        replace an := an.box (g := g17) bX (by decide) 0 [.int .i64 P.left.m, .slice T4 n4 d4, .slice A4 k4 c4, .slice B4 j4 e4]
        replace on := on.box (g := g17) bX (by decide) 0 [.int .i64 P.left.m, .slice T4 n4 d4, .slice A4 k4 c4, .slice B4 j4 e4]
        replace pn := pn.box (g := g17) bX (by decide) 0 [.int .i64 P.left.m, .slice T4 n4 d4, .slice A4 k4 c4, .slice B4 j4 e4]
        replace a4 := a4.box (g := g17) bX (by decide) 0 [.int .i64 P.left.m, .slice T4 n4 d4, .slice A4 k4 c4, .slice B4 j4 e4]
        replace o4 := o4.box (g := g17) bX (by decide) 0 [.int .i64 P.left.m, .slice T4 n4 d4, .slice A4 k4 c4, .slice B4 j4 e4]
        replace p4 := p4.box (g := g17) bX (by decide) 0 [.int .i64 P.left.m, .slice T4 n4 d4, .slice A4 k4 c4, .slice B4 j4 e4]
        replace oK := own_box oK bX (by decide) 0 [.int .i64 P.left.m, .slice T4 n4 d4, .slice A4 k4 c4, .slice B4 j4 e4]
        replace hbr := setL_below hbr [.int .i64 P.left.m, .slice T4 n4 d4, .slice A4 k4 c4, .slice B4 j4 e4] (g17) 0 (by omega)
        have zs_21 : (setL w19 (g17) 0 [.int .i64 P.left.m, .slice T4 n4 d4, .slice A4 k4 c4, .slice B4 j4 e4]).heap.size = w19.heap.size := setL_size _ _ _ _
        replace bX := bX.setAll [.int .i64 P.left.m, .slice T4 n4 d4, .slice A4 k4 c4, .slice B4 j4 e4] rfl
        generalize setL w19 (g17) 0 _ = w21 at *
        have zt_21 : w19.heap.size ≤ w21.heap.size := by omega
        have zu_21 : w21.heap.size ≤ w19.heap.size := by omega
        clear zs_21
        have bN_0 := bN.c0
        have bN_1 := bN.c1
        have bN_2 := bN.c2
        have bN_3 := bN.c3
        have bN_z := bN.frozen
        have bN_l := bN.lt
        have bX_0 := bX.c0
        have bX_1 := bX.c1
        have bX_2 := bX.c2
        have bX_3 := bX.c3
        have bX_z := bX.frozen
        have bX_l := bX.lt
        go_upto_region 24 with fail
        clear bN_0 bN_1 bN_2 bN_3 bN_z bN_l bX_0 bX_1 bX_2 bX_3 bX_z bX_l
        generalize hwz : World.setCell (World.setCell (World.setCell (World.setCell _ _ _) _ _) _ _) _ _ = wz_
        obtain rfl : wz_ = setL w21 (w15.heap.size + 1) 0 [.int .i64 P.left.m, .slice T4 n4 d4, .slice A4 k4 c4, .slice B4 j4 e4] := hwz.symm
        clear hwz
        replace bX := bX.other (b := w15.heap.size + 1) (by omega) 0 [.int .i64 P.left.m, .slice T4 n4 d4, .slice A4 k4 c4, .slice B4 j4 e4]
        replace an := an.box (g := w15.heap.size + 1) bN (by decide) 0 [.int .i64 P.left.m, .slice T4 n4 d4, .slice A4 k4 c4, .slice B4 j4 e4]
        replace on := on.box (g := w15.heap.size + 1) bN (by decide) 0 [.int .i64 P.left.m, .slice T4 n4 d4, .slice A4 k4 c4, .slice B4 j4 e4]
        replace pn := pn.box (g := w15.heap.size + 1) bN (by decide) 0 [.int .i64 P.left.m, .slice T4 n4 d4, .slice A4 k4 c4, .slice B4 j4 e4]
        replace a4 := a4.box (g := w15.heap.size + 1) bN (by decide) 0 [.int .i64 P.left.m, .slice T4 n4 d4, .slice A4 k4 c4, .slice B4 j4 e4]
        replace o4 := o4.box (g := w15.heap.size + 1) bN (by decide) 0 [.int .i64 P.left.m, .slice T4 n4 d4, .slice A4 k4 c4, .slice B4 j4 e4]
        replace p4 := p4.box (g := w15.heap.size + 1) bN (by decide) 0 [.int .i64 P.left.m, .slice T4 n4 d4, .slice A4 k4 c4, .slice B4 j4 e4]
        replace oK := own_box oK bN (by decide) 0 [.int .i64 P.left.m, .slice T4 n4 d4, .slice A4 k4 c4, .slice B4 j4 e4]
        replace hbr := setL_below hbr [.int .i64 P.left.m, .slice T4 n4 d4, .slice A4 k4 c4, .slice B4 j4 e4] (w15.heap.size + 1) 0 (by omega)
        have zs_22 : (setL w21 (w15.heap.size + 1) 0 [.int .i64 P.left.m, .slice T4 n4 d4, .slice A4 k4 c4, .slice B4 j4 e4]).heap.size = w21.heap.size := setL_size _ _ _ _
        replace bN := bN.setAll [.int .i64 P.left.m, .slice T4 n4 d4, .slice A4 k4 c4, .slice B4 j4 e4] rfl
        generalize setL w21 (w15.heap.size + 1) 0 _ = w22 at *
        have zt_22 : w21.heap.size ≤ w22.heap.size := by omega
        have zu_22 : w22.heap.size ≤ w21.heap.size := by omega
        clear zs_22
        have bN_0 := bN.c0
        have bN_1 := bN.c1
        have bN_2 := bN.c2
        have bN_3 := bN.c3
        have bN_z := bN.frozen
        have bN_l := bN.lt
        have bX_0 := bX.c0
        have bX_1 := bX.c1
        have bX_2 := bX.c2
        have bX_3 := bX.c3
        have bX_z := bX.frozen
        have bX_l := bX.lt
        go_wp2_with fail
        clear bN_0 bN_1 bN_2 bN_3 bN_z bN_l bX_0 bX_1 bX_2 bX_3 bX_z bX_l
        go_roundw
        case rel => exact ⟨k + 1, P.left, T, _, _, _, _, _, by omega, by go_num, Lib.hid (by rw [HX.out, HP.out]), by omega, by omega, by omega, hbr, bN, a4, o4, p4, oK, fun q e => .inl (hkl q e)⟩
        case measure => simp [intOf]; omega
      ·rw [hk4] at f0
       have bN_0 := bN.c0
       have bN_1 := bN.c1
       have bN_2 := bN.c2
       have bN_3 := bN.c3
       have bN_z := bN.frozen
       have bN_l := bN.lt
       go_upto_region 15 with fail
       clear bN_0 bN_1 bN_2 bN_3 bN_z bN_l
       have b_17 := (Below.refl wr.heap.size wr).alloc (Nat.le_refl _) (.cells #[.int .i64 P.m, .slice Tn nn dn, .slice An kn cn, .slice Bn jn en] 30)
       have bX := Box.new wr #[.int .i64 P.m, .slice Tn nn dn, .slice An kn cn, .slice Bn jn en] 30 rfl
       replace oK := own_below oK b_17
       replace bN := bN.below b_17 bN.lt
       replace an := an.below b_17 (by omega)
       replace on := on.below b_17 (by omega)
       replace pn := pn.below b_17 (by omega)
       have z_18 := b_17.size
       replace hbr := hbr.trans (b_17.mono (by omega))
       clear b_17
       generalize wr.alloc _ = w17 at *
       generalize wr.heap.size = g17 at *
       obtain ⟨e1, e2, e3, e4, e5⟩ := OP.mask (k := o.prio) hG.out hp4
       have HP := Lib.hid (FS.next_mask (p := (P, T)) hk4)
       clear f0 f1 f2
       have hkl := fun q e => (oK.lt q e).2
       have hd := Below.drew (Below.refl w17.heap.size w17)
       have hkI : (0 : Int) ≤ (k : Int) := by omega
       have hkJ : (k : Int) < (nr : Int) := by omega
       have c1 := implSetMask_any P.m _ _ _ P.st P.ls P.lw w17.drew (an.rd.below hd (by omega)) (on.rd.below hd (by omega)) (pn.rd.below hd (by omega)) (by simp; omega) (by simp; omega) (by simp; omega) o.prio ht hl hw
       rw [e1, e2, e3, e4, e5] at c1
       clear e1 e2 e3 e4 e5
       have mkS : ∀ Wx, Below w17.heap.size w17 Wx → Wx.cell? ⟨w15.heap.size + 1, 0, none⟩ = some (.int .i64 P.m) ∧ Wx.cell? ⟨w15.heap.size + 1, 1, none⟩ = some (.slice Tn nn dn) ∧ Wx.cell? ⟨w15.heap.size + 1, 2, none⟩ = some (.slice An kn cn) ∧ Wx.cell? ⟨w15.heap.size + 1, 3, none⟩ = some (.slice Bn jn en) ∧ Wx.cell? ⟨b, off + k * 3, none⟩ = some (.int .i64 o.kind) ∧ Wx.cell? ⟨b, off + k * 3 + 1, none⟩ = some (.int .i64 o.irq) ∧ Wx.cell? ⟨b, off + k * 3 + 2, none⟩ = some (.int .i64 o.prio) := fun Wx hb => ⟨(bN.below hb bN.lt).c0, (bN.below hb bN.lt).c1, (bN.below hb bN.lt).c2, (bN.below hb bN.lt).c3, (Op_.at_ ((r1.rd.below hbr (by omega)).below hb (by omega)) ho.out).1, (Op_.at_ ((r1.rd.below hbr (by omega)).below hb (by omega)) ho.out).2.1, (Op_.at_ ((r1.rd.below hbr (by omega)).below hb (by omega)) ho.out).2.2⟩
       have mkT : ∀ Wx (y0 y1 y2 y3 : Value), Below w17.heap.size w17 Wx → (World.setCell (World.setCell (World.setCell (World.setCell Wx ⟨g17, 0, none⟩ y0) ⟨g17, 1, none⟩ y1) ⟨g17, 2, none⟩ y2) ⟨g17, 3, none⟩ y3).cell? ⟨w15.heap.size + 1, 0, none⟩ = some (.int .i64 P.m) ∧ (World.setCell (World.setCell (World.setCell (World.setCell Wx ⟨g17, 0, none⟩ y0) ⟨g17, 1, none⟩ y1) ⟨g17, 2, none⟩ y2) ⟨g17, 3, none⟩ y3).cell? ⟨w15.heap.size + 1, 1, none⟩ = some (.slice Tn nn dn) ∧ (World.setCell (World.setCell (World.setCell (World.setCell Wx ⟨g17, 0, none⟩ y0) ⟨g17, 1, none⟩ y1) ⟨g17, 2, none⟩ y2) ⟨g17, 3, none⟩ y3).cell? ⟨w15.heap.size + 1, 2, none⟩ = some (.slice An kn cn) ∧ (World.setCell (World.setCell (World.setCell (World.setCell Wx ⟨g17, 0, none⟩ y0) ⟨g17, 1, none⟩ y1) ⟨g17, 2, none⟩ y2) ⟨g17, 3, none⟩ y3).cell? ⟨w15.heap.size + 1, 3, none⟩ = some (.slice Bn jn en) ∧ (World.setCell (World.setCell (World.setCell (World.setCell Wx ⟨g17, 0, none⟩ y0) ⟨g17, 1, none⟩ y1) ⟨g17, 2, none⟩ y2) ⟨g17, 3, none⟩ y3).cell? ⟨b, off + k * 3, none⟩ = some (.int .i64 o.kind) ∧ (World.setCell (World.setCell (World.setCell (World.setCell Wx ⟨g17, 0, none⟩ y0) ⟨g17, 1, none⟩ y1) ⟨g17, 2, none⟩ y2) ⟨g17, 3, none⟩ y3).cell? ⟨b, off + k * 3 + 1, none⟩ = some (.int .i64 o.irq) ∧ (World.setCell (World.setCell (World.setCell (World.setCell Wx ⟨g17, 0, none⟩ y0) ⟨g17, 1, none⟩ y1) ⟨g17, 2, none⟩ y2) ⟨g17, 3, none⟩ y3).cell? ⟨b, off + k * 3 + 2, none⟩ = some (.int .i64 o.prio) := fun Wx y0 y1 y2 y3 hb => by
        have hx : (setL Wx (g17) 0 [y0, y1, y2, y3]).cell? ⟨w15.heap.size + 1, 0, none⟩ = some (.int .i64 P.m) ∧ (setL Wx (g17) 0 [y0, y1, y2, y3]).cell? ⟨w15.heap.size + 1, 1, none⟩ = some (.slice Tn nn dn) ∧ (setL Wx (g17) 0 [y0, y1, y2, y3]).cell? ⟨w15.heap.size + 1, 2, none⟩ = some (.slice An kn cn) ∧ (setL Wx (g17) 0 [y0, y1, y2, y3]).cell? ⟨w15.heap.size + 1, 3, none⟩ = some (.slice Bn jn en) ∧ (setL Wx (g17) 0 [y0, y1, y2, y3]).cell? ⟨b, off + k * 3, none⟩ = some (.int .i64 o.kind) ∧ (setL Wx (g17) 0 [y0, y1, y2, y3]).cell? ⟨b, off + k * 3 + 1, none⟩ = some (.int .i64 o.irq) ∧ (setL Wx (g17) 0 [y0, y1, y2, y3]).cell? ⟨b, off + k * 3 + 2, none⟩ = some (.int .i64 o.prio) := ⟨((bN.below hb bN.lt).other (b := g17) (by omega) 0 [y0, y1, y2, y3]).c0, ((bN.below hb bN.lt).other (b := g17) (by omega) 0 [y0, y1, y2, y3]).c1, ((bN.below hb bN.lt).other (b := g17) (by omega) 0 [y0, y1, y2, y3]).c2, ((bN.below hb bN.lt).other (b := g17) (by omega) 0 [y0, y1, y2, y3]).c3, (Op_.at_ (((r1.rd.below hbr (by omega)).below hb (by omega)).away (g := g17) (by omega) 0 [y0, y1, y2, y3]) ho.out).1, (Op_.at_ (((r1.rd.below hbr (by omega)).below hb (by omega)).away (g := g17) (by omega) 0 [y0, y1, y2, y3]) ho.out).2.1, (Op_.at_ (((r1.rd.below hbr (by omega)).below hb (by omega)).away (g := g17) (by omega) 0 [y0, y1, y2, y3]) ho.out).2.2⟩
        simpa only [setL] using hx
       have hS0 := mkS _ hd
       go_region_held3 (fun Wx => Wx.cell? ⟨w15.heap.size + 1, 0, none⟩ = some (.int .i64 P.m) ∧ Wx.cell? ⟨w15.heap.size + 1, 1, none⟩ = some (.slice Tn nn dn) ∧ Wx.cell? ⟨w15.heap.size + 1, 2, none⟩ = some (.slice An kn cn) ∧ Wx.cell? ⟨w15.heap.size + 1, 3, none⟩ = some (.slice Bn jn en) ∧ Wx.cell? ⟨b, off + k * 3, none⟩ = some (.int .i64 o.kind) ∧ Wx.cell? ⟨b, off + k * 3 + 1, none⟩ = some (.int .i64 o.irq) ∧ Wx.cell? ⟨b, off + k * 3 + 2, none⟩ = some (.int .i64 o.prio)) (first | exact hS0 | assumption | exact hst _ _ _ _) ((go_at_call 24; refine c1.mono ?_; rintro q_ wv ⟨vt4, vs4, vw4, rfl, a4, o4, p4, b4⟩; (simp only [World.size_drew] at a4 o4 p4 b4); (obtain ⟨T4, n4, d4, rfl, HN4, _, _⟩ := a4.rd.form); (obtain ⟨A4, k4, c4, rfl, _, _, _⟩ := o4.rd.form); (obtain ⟨B4, j4, e4, rfl, _, _, _⟩ := p4.rd.form); (have hbv := hd.trans b4); (have hN := mkS _ hbv); (have hst := fun y0 y1 y2 y3 => mkT _ y0 y1 y2 y3 hbv); (have bXv := bX.below hbv bX.lt); (have x0 := bXv.c0); (have x1 := bXv.c1); (have x2 := bXv.c2); (have x3 := bXv.c3); (have xz := bXv.frozen); (have xl := bXv.lt)))
       clear hN hst hS0 mkS mkT bXv x0 x1 x2 x3 xz xl c1 b4 hd hkI hkJ
       replace oK := own_below oK hbv
       replace bN := bN.below hbv bN.lt
       replace bX := bX.below hbv bX.lt
       replace an := an.below hbv (by omega)
       replace on := on.below hbv (by omega)
       replace pn := pn.below hbv (by omega)
       have z_19 := hbv.size
       replace hbr := hbr.trans (hbv.mono (by omega))
       clear hbv
       generalize hwz : World.setCell (World.setCell (World.setCell (World.setCell _ _ _) _ _) _ _) _ _ = wz_
       obtain rfl : wz_ = setL wv (g17) 0 [.int .i64 (P.masked o.prio).m, .slice T4 n4 d4, .slice A4 k4 c4, .slice B4 j4 e4] := hwz.symm
       clear hwz
       replace bN := bN.other (b := g17) (by omega) 0 [.int .i64 (P.masked o.prio).m, .slice T4 n4 d4, .slice A4 k4 c4, .slice B4 j4 e4]
       replace an := an.box (g := g17) bX (by decide) 0 [.int .i64 (P.masked o.prio).m, .slice T4 n4 d4, .slice A4 k4 c4, .slice B4 j4 e4]
       replace on := on.box (g := g17) bX (by decide) 0 [.int .i64 (P.masked o.prio).m, .slice T4 n4 d4, .slice A4 k4 c4, .slice B4 j4 e4]
       replace pn := pn.box (g := g17) bX (by decide) 0 [.int .i64 (P.masked o.prio).m, .slice T4 n4 d4, .slice A4 k4 c4, .slice B4 j4 e4]
       replace a4 := a4.box (g := g17) bX (by decide) 0 [.int .i64 (P.masked o.prio).m, .slice T4 n4 d4, .slice A4 k4 c4, .slice B4 j4 e4]
       replace o4 := o4.box (g := g17) bX (by decide) 0 [.int .i64 (P.masked o.prio).m, .slice T4 n4 d4, .slice A4 k4 c4, .slice B4 j4 e4]
       replace p4 := p4.box (g := g17) bX (by decide) 0 [.int .i64 (P.masked o.prio).m, .slice T4 n4 d4, .slice A4 k4 c4, .slice B4 j4 e4]
       replace oK := own_box oK bX (by decide) 0 [.int .i64 (P.masked o.prio).m, .slice T4 n4 d4, .slice A4 k4 c4, .slice B4 j4 e4]
       replace hbr := setL_below hbr [.int .i64 (P.masked o.prio).m, .slice T4 n4 d4, .slice A4 k4 c4, .slice B4 j4 e4] (g17) 0 (by omega)
       have zs_20 : (setL wv (g17) 0 [.int .i64 (P.masked o.prio).m, .slice T4 n4 d4, .slice A4 k4 c4, .slice B4 j4 e4]).heap.size = wv.heap.size := setL_size _ _ _ _
       replace bX := bX.setAll [.int .i64 (P.masked o.prio).m, .slice T4 n4 d4, .slice A4 k4 c4, .slice B4 j4 e4] rfl
       generalize setL wv (g17) 0 _ = w20 at *
       have zt_20 : wv.heap.size ≤ w20.heap.size := by omega
       have zu_20 : w20.heap.size ≤ wv.heap.size := by omega
       clear zs_20
       have bN_0 := bN.c0
       have bN_1 := bN.c1
       have bN_2 := bN.c2
       have bN_3 := bN.c3
       have bN_z := bN.frozen
       have bN_l := bN.lt
       have bX_0 := bX.c0
       have bX_1 := bX.c1
       have bX_2 := bX.c2
       have bX_3 := bX.c3
       have bX_z := bX.frozen
       have bX_l := bX.lt
       go_upto_region 24 with fail
       clear bN_0 bN_1 bN_2 bN_3 bN_z bN_l bX_0 bX_1 bX_2 bX_3 bX_z bX_l
       generalize hwz : World.setCell (World.setCell (World.setCell (World.setCell _ _ _) _ _) _ _) _ _ = wz_
       obtain rfl : wz_ = setL w20 (w15.heap.size + 1) 0 [.int .i64 (P.masked o.prio).m, .slice T4 n4 d4, .slice A4 k4 c4, .slice B4 j4 e4] := hwz.symm
       clear hwz
       replace bX := bX.other (b := w15.heap.size + 1) (by omega) 0 [.int .i64 (P.masked o.prio).m, .slice T4 n4 d4, .slice A4 k4 c4, .slice B4 j4 e4]
       replace an := an.box (g := w15.heap.size + 1) bN (by decide) 0 [.int .i64 (P.masked o.prio).m, .slice T4 n4 d4, .slice A4 k4 c4, .slice B4 j4 e4]
       replace on := on.box (g := w15.heap.size + 1) bN (by decide) 0 [.int .i64 (P.masked o.prio).m, .slice T4 n4 d4, .slice A4 k4 c4, .slice B4 j4 e4]
       replace pn := pn.box (g := w15.heap.size + 1) bN (by decide) 0 [.int .i64 (P.masked o.prio).m, .slice T4 n4 d4, .slice A4 k4 c4, .slice B4 j4 e4]
       replace a4 := a4.box (g := w15.heap.size + 1) bN (by decide) 0 [.int .i64 (P.masked o.prio).m, .slice T4 n4 d4, .slice A4 k4 c4, .slice B4 j4 e4]
       replace o4 := o4.box (g := w15.heap.size + 1) bN (by decide) 0 [.int .i64 (P.masked o.prio).m, .slice T4 n4 d4, .slice A4 k4 c4, .slice B4 j4 e4]
       replace p4 := p4.box (g := w15.heap.size + 1) bN (by decide) 0 [.int .i64 (P.masked o.prio).m, .slice T4 n4 d4, .slice A4 k4 c4, .slice B4 j4 e4]
       replace oK := own_box oK bN (by decide) 0 [.int .i64 (P.masked o.prio).m, .slice T4 n4 d4, .slice A4 k4 c4, .slice B4 j4 e4]
       replace hbr := setL_below hbr [.int .i64 (P.masked o.prio).m, .slice T4 n4 d4, .slice A4 k4 c4, .slice B4 j4 e4] (w15.heap.size + 1) 0 (by omega)
       have zs_21 : (setL w20 (w15.heap.size + 1) 0 [.int .i64 (P.masked o.prio).m, .slice T4 n4 d4, .slice A4 k4 c4, .slice B4 j4 e4]).heap.size = w20.heap.size := setL_size _ _ _ _
       replace bN := bN.setAll [.int .i64 (P.masked o.prio).m, .slice T4 n4 d4, .slice A4 k4 c4, .slice B4 j4 e4] rfl
       generalize setL w20 (w15.heap.size + 1) 0 _ = w21 at *
       have zt_21 : w20.heap.size ≤ w21.heap.size := by omega
       have zu_21 : w21.heap.size ≤ w20.heap.size := by omega
       clear zs_21
       have bN_0 := bN.c0
       have bN_1 := bN.c1
       have bN_2 := bN.c2
       have bN_3 := bN.c3
       have bN_z := bN.frozen
       have bN_l := bN.lt
       have bX_0 := bX.c0
       have bX_1 := bX.c1
       have bX_2 := bX.c2
       have bX_3 := bX.c3
       have bX_z := bX.frozen
       have bX_l := bX.lt
       go_wp2_with fail
       clear bN_0 bN_1 bN_2 bN_3 bN_z bN_l bX_0 bX_1 bX_2 bX_3 bX_z bX_l
       go_roundw
       case rel => exact ⟨k + 1, P.masked o.prio, T, _, _, _, _, _, by omega, by go_num, Lib.hid (by rw [HX.out, HP.out]), by omega, by omega, by omega, hbr, bN, a4, o4, p4, oK, fun q e => .inl (hkl q e)⟩
       case measure => simp [intOf]; omega
     ·have hkt : os1.take k = os1 := List.take_of_length_le (by rw [← HNr.out]; omega)
      rw [hkt] at HR
      have he := HR.out
      rw [he] at bq2 a2 o2 p2 t2
      simp only at bq2 a2 o2 p2 t2
      have oT := Ow.of_own Nm.cells_len oK rfl rfl
      obtain ⟨Tn, nn, dn, rfl, HNn, _, _⟩ := an.rd.form
      obtain ⟨An, kn, cn, rfl, _, _, _⟩ := on.rd.form
      obtain ⟨Bn, jn, en, rfl, _, _, _⟩ := pn.rd.form
      obtain ⟨To, no, do_, rfl, _, _, _⟩ := oT.rd.form
      clear hkt oK hK
      replace bq1 := bq1.below hbr bq1.lt
      replace bq2 := bq2.below hbr bq2.lt
      replace h := h.below hbr (by omega)
      replace a1 := a1.below hbr (by omega)
      replace o1 := o1.below hbr (by omega)
      replace p1 := p1.below hbr (by omega)
      replace r1 := r1.below hbr (by omega)
      replace a2 := a2.below hbr (by omega)
      replace o2 := o2.below hbr (by omega)
      replace p2 := p2.below hbr (by omega)
      replace t2 := t2.below hbr (by omega)
      have z_17 := hbr.size
      replace hBf := hBf.trans (hbr.mono (by omega))
      clear hbr
      have bq1_0 := bq1.c0
      have bq1_1 := bq1.c1
      have bq1_2 := bq1.c2
      have bq1_3 := bq1.c3
      have bq1_z := bq1.frozen
      have bq1_l := bq1.lt
      have bq2_0 := bq2.c0
      have bq2_1 := bq2.c1
      have bq2_2 := bq2.c2
      have bq2_3 := bq2.c3
      have bq2_z := bq2.frozen
      have bq2_l := bq2.lt
      have bN_0 := bN.c0
      have bN_1 := bN.c1
      have bN_2 := bN.c2
      have bN_3 := bN.c3
      have bN_z := bN.frozen
      have bN_l := bN.lt
      go_wp2_with fail
      clear bq1_0 bq1_1 bq1_2 bq1_3 bq1_z bq1_l bq2_0 bq2_1 bq2_2 bq2_3 bq2_z bq2_l bN_0 bN_1 bN_2 bN_3 bN_z bN_l
      refine (vFace_same P.m _ _ _ _ _ _ _ _ _ wr an.rd on.rd pn.rd a2.rd o2.rd p2.rd (by omega) (by omega) (by omega) (by omega) (by omega) (by omega)).mono ?_; rintro q_ w18 ⟨rfl, b_18⟩
      replace bq1 := bq1.below b_18 bq1.lt
      replace bq2 := bq2.below b_18 bq2.lt
      replace bN := bN.below b_18 bN.lt
      replace h := h.below b_18 (by omega)
      replace a1 := a1.below b_18 (by omega)
      replace o1 := o1.below b_18 (by omega)
      replace p1 := p1.below b_18 (by omega)
      replace r1 := r1.below b_18 (by omega)
      replace a2 := a2.below b_18 (by omega)
      replace o2 := o2.below b_18 (by omega)
      replace p2 := p2.below b_18 (by omega)
      replace t2 := t2.below b_18 (by omega)
      replace an := an.below b_18 (by omega)
      replace on := on.below b_18 (by omega)
      replace pn := pn.below b_18 (by omega)
      replace oT := oT.below b_18 (by omega)
      have z_19 := b_18.size
      replace hBf := hBf.trans (b_18.mono (by omega))
      clear b_18
      have bq1_0 := bq1.c0
      have bq1_1 := bq1.c1
      have bq1_2 := bq1.c2
      have bq1_3 := bq1.c3
      have bq1_z := bq1.frozen
      have bq1_l := bq1.lt
      have bq2_0 := bq2.c0
      have bq2_1 := bq2.c1
      have bq2_2 := bq2.c2
      have bq2_3 := bq2.c3
      have bq2_z := bq2.frozen
      have bq2_l := bq2.lt
      have bN_0 := bN.c0
      have bN_1 := bN.c1
      have bN_2 := bN.c2
      have bN_3 := bN.c3
      have bN_z := bN.frozen
      have bN_l := bN.lt
      go_wp2_with fail
      clear bq1_0 bq1_1 bq1_2 bq1_3 bq1_z bq1_l bq2_0 bq2_1 bq2_2 bq2_3 bq2_z bq2_l bN_0 bN_1 bN_2 bN_3 bN_z bN_l
      refine (vInts_same _ _ _ w18 oT.rd t2.rd (by omega) (by omega)).mono ?_; rintro q_ w20 ⟨rfl, b_20⟩
      replace bq1 := bq1.below b_20 bq1.lt
      replace bq2 := bq2.below b_20 bq2.lt
      replace bN := bN.below b_20 bN.lt
      replace h := h.below b_20 (by omega)
      replace a1 := a1.below b_20 (by omega)
      replace o1 := o1.below b_20 (by omega)
      replace p1 := p1.below b_20 (by omega)
      replace r1 := r1.below b_20 (by omega)
      replace a2 := a2.below b_20 (by omega)
      replace o2 := o2.below b_20 (by omega)
      replace p2 := p2.below b_20 (by omega)
      replace t2 := t2.below b_20 (by omega)
      replace an := an.below b_20 (by omega)
      replace on := on.below b_20 (by omega)
      replace pn := pn.below b_20 (by omega)
      replace oT := oT.below b_20 (by omega)
      have z_21 := b_20.size
      replace hBf := hBf.trans (b_20.mono (by omega))
      clear b_20
      have bq1_0 := bq1.c0
      have bq1_1 := bq1.c1
      have bq1_2 := bq1.c2
      have bq1_3 := bq1.c3
      have bq1_z := bq1.frozen
      have bq1_l := bq1.lt
      have bq2_0 := bq2.c0
      have bq2_1 := bq2.c1
      have bq2_2 := bq2.c2
      have bq2_3 := bq2.c3
      have bq2_z := bq2.frozen
      have bq2_l := bq2.lt
      have bN_0 := bN.c0
      have bN_1 := bN.c1
      have bN_2 := bN.c2
      have bN_3 := bN.c3
      have bN_z := bN.frozen
      have bN_l := bN.lt
      go_wp2_with fail
      clear bq1_0 bq1_1 bq1_2 bq1_3 bq1_z bq1_l bq2_0 bq2_1 bq2_2 bq2_3 bq2_z bq2_l bN_0 bN_1 bN_2 bN_3 bN_z bN_l
      obtain ⟨e1, e2, e3, e4, e5⟩ : Fa.smOk m1 st1 ls1 lw1 0 = true ∧ Fa.smM m1 st1 ls1 lw1 0 = 0 ∧ Fa.smT m1 st1 ls1 lw1 0 = st1 ∧ Fa.smS m1 st1 ls1 lw1 0 = ls1 ∧ Fa.smW m1 st1 ls1 lw1 0 = lw1 := OP.mask (s := ⟨m1, st1, ls1, lw1⟩) HG.out rfl
      have c1 := implSetMask_any m1 _ _ _ st1 ls1 lw1 w20 a1.rd o1.rd p1.rd (by omega) (by omega) (by omega) 0 ht1 hl1 hw1
      rw [e1, e2, e3, e4, e5] at c1
      clear e1 e2 e3 e4 e5
      refine (c1).mono ?_; rintro q_ w22 ⟨vt7, vs7, vw7, rfl, a7, o7, p7, b_22⟩
      replace bq1 := bq1.below b_22 bq1.lt
      replace bq2 := bq2.below b_22 bq2.lt
      replace bN := bN.below b_22 bN.lt
      replace h := h.below b_22 (by omega)
      replace a1 := a1.below b_22 (by omega)
      replace o1 := o1.below b_22 (by omega)
      replace p1 := p1.below b_22 (by omega)
      replace r1 := r1.below b_22 (by omega)
      replace a2 := a2.below b_22 (by omega)
      replace o2 := o2.below b_22 (by omega)
      replace p2 := p2.below b_22 (by omega)
      replace t2 := t2.below b_22 (by omega)
      replace an := an.below b_22 (by omega)
      replace on := on.below b_22 (by omega)
      replace pn := pn.below b_22 (by omega)
      replace oT := oT.below b_22 (by omega)
      have z_23 := b_22.size
      replace hBf := hBf.trans (b_22.mono (by omega))
      clear b_22
      obtain ⟨T7, n7, d7, rfl, HN7, _, _⟩ := a7.rd.form
      obtain ⟨A7, k7, c7, rfl, _, _, _⟩ := o7.rd.form
      obtain ⟨B7, j7, e7, rfl, _, _, _⟩ := p7.rd.form
      clear c1
      have bq1_0 := bq1.c0
      have bq1_1 := bq1.c1
      have bq1_2 := bq1.c2
      have bq1_3 := bq1.c3
      have bq1_z := bq1.frozen
      have bq1_l := bq1.lt
      have bq2_0 := bq2.c0
      have bq2_1 := bq2.c1
      have bq2_2 := bq2.c2
      have bq2_3 := bq2.c3
      have bq2_z := bq2.frozen
      have bq2_l := bq2.lt
      have bN_0 := bN.c0
      have bN_1 := bN.c1
      have bN_2 := bN.c2
      have bN_3 := bN.c3
      have bN_z := bN.frozen
      have bN_l := bN.lt
      go_wp2_with fail
      clear bq1_0 bq1_1 bq1_2 bq1_3 bq1_z bq1_l bq2_0 bq2_1 bq2_2 bq2_3 bq2_z bq2_l bN_0 bN_1 bN_2 bN_3 bN_z bN_l
      have b_24 := (Below.refl w22.heap.size w22).alloc (Nat.le_refl _) (.cells #[.int .i64 0, .slice T7 n7 d7, .slice A7 k7 c7, .slice B7 j7 e7] 30)
      have bq7 := Box.new w22 #[.int .i64 0, .slice T7 n7 d7, .slice A7 k7 c7, .slice B7 j7 e7] 30 rfl
      replace bq1 := bq1.below b_24 bq1.lt
      replace bq2 := bq2.below b_24 bq2.lt
      replace bN := bN.below b_24 bN.lt
      replace h := h.below b_24 (by omega)
      replace a1 := a1.below b_24 (by omega)
      replace o1 := o1.below b_24 (by omega)
      replace p1 := p1.below b_24 (by omega)
      replace r1 := r1.below b_24 (by omega)
      replace a2 := a2.below b_24 (by omega)
      replace o2 := o2.below b_24 (by omega)
      replace p2 := p2.below b_24 (by omega)
      replace t2 := t2.below b_24 (by omega)
      replace an := an.below b_24 (by omega)
      replace on := on.below b_24 (by omega)
      replace pn := pn.below b_24 (by omega)
      replace oT := oT.below b_24 (by omega)
      replace a7 := a7.below b_24 (by omega)
      replace o7 := o7.below b_24 (by omega)
      replace p7 := p7.below b_24 (by omega)
      have z_25 := b_24.size
      replace hBf := hBf.trans (b_24.mono (by omega))
      clear b_24
      generalize w22.alloc _ = w24 at *
      generalize w22.heap.size = g24 at *
      have c1 := implCanTake_any 0 _ _ _ st1 ls1 lw1 w24 a7.rd o7.rd p7.rd (by omega) (by omega) (by omega) ht1 hw1
      rw [(OP.shut (s := ⟨m1, st1, ls1, lw1⟩) HG.out).1, (OP.shut (s := ⟨m1, st1, ls1, lw1⟩) HG.out).2] at c1
      refine (c1).mono ?_; rintro q_ w26 ⟨rfl, b_26⟩
      replace bq1 := bq1.below b_26 bq1.lt
      replace bq2 := bq2.below b_26 bq2.lt
      replace bN := bN.below b_26 bN.lt
      replace bq7 := bq7.below b_26 bq7.lt
      replace h := h.below b_26 (by omega)
      replace a1 := a1.below b_26 (by omega)
      replace o1 := o1.below b_26 (by omega)
      replace p1 := p1.below b_26 (by omega)
      replace r1 := r1.below b_26 (by omega)
      replace a2 := a2.below b_26 (by omega)
      replace o2 := o2.below b_26 (by omega)
      replace p2 := p2.below b_26 (by omega)
      replace t2 := t2.below b_26 (by omega)
      replace an := an.below b_26 (by omega)
      replace on := on.below b_26 (by omega)
      replace pn := pn.below b_26 (by omega)
      replace oT := oT.below b_26 (by omega)
      replace a7 := a7.below b_26 (by omega)
      replace o7 := o7.below b_26 (by omega)
      replace p7 := p7.below b_26 (by omega)
      have z_27 := b_26.size
      replace hBf := hBf.trans (b_26.mono (by omega))
      clear b_26
      clear c1
      have bq1_0 := bq1.c0
      have bq1_1 := bq1.c1
      have bq1_2 := bq1.c2
      have bq1_3 := bq1.c3
      have bq1_z := bq1.frozen
      have bq1_l := bq1.lt
      have bq2_0 := bq2.c0
      have bq2_1 := bq2.c1
      have bq2_2 := bq2.c2
      have bq2_3 := bq2.c3
      have bq2_z := bq2.frozen
      have bq2_l := bq2.lt
      have bN_0 := bN.c0
      have bN_1 := bN.c1
      have bN_2 := bN.c2
      have bN_3 := bN.c3
      have bN_z := bN.frozen
      have bN_l := bN.lt
      have bq7_0 := bq7.c0
      have bq7_1 := bq7.c1
      have bq7_2 := bq7.c2
      have bq7_3 := bq7.c3
      have bq7_z := bq7.frozen
      have bq7_l := bq7.lt
      go_wp2_with fail
      clear bq1_0 bq1_1 bq1_2 bq1_3 bq1_z bq1_l bq2_0 bq2_1 bq2_2 bq2_3 bq2_z bq2_l bN_0 bN_1 bN_2 bN_3 bN_z bN_l bq7_0 bq7_1 bq7_2 bq7_3 bq7_z bq7_l
      go_meet
      exact hBf
 case rest =>
  have hb := hcut
  replace bq1 := bq1.below hb bq1.lt
  replace bq2 := bq2.below hb bq2.lt
  replace h := h.below hb (by omega)
  replace a1 := a1.below hb (by omega)
  replace o1 := o1.below hb (by omega)
  replace p1 := p1.below hb (by omega)
  replace r1 := r1.below hb (by omega)
  replace a2 := a2.below hb (by omega)
  replace o2 := o2.below hb (by omega)
  replace p2 := p2.below hb (by omega)
  replace t2 := t2.below hb (by omega)
  have z_17 := hb.size
  replace hB := hB.trans (hb.mono (by omega))
  clear hb
  clear bq1 bq2 a1 o1 p1 r1 a2 o2 p2 t2
  clear nok1 Hok1 HS1 Ht1
  go_wp2_with fail
  refine (DrawRunningPriority_any cv l wc h (by omega)).mono ?_; rintro q_ w18 ⟨m5, vt5, vs5, vw5, st5, ls5, lw5, rfl, ht5, hl5, hw5, a5, o5, p5, b_18⟩
  replace h := h.below b_18 (by omega)
  have z_19 := b_18.size
  replace hB := hB.trans (b_18.mono (by omega))
  clear b_18
  obtain ⟨T5, n5, d5, rfl, HN5, _, _⟩ := a5.rd.form
  obtain ⟨A5, k5, c5, rfl, _, _, _⟩ := o5.rd.form
  obtain ⟨B5, j5, e5, rfl, _, _, _⟩ := p5.rd.form
  go_wp2_with fail
  have b_20 := (Below.refl w18.heap.size w18).alloc (Nat.le_refl _) (.cells #[.int .i64 m5, .slice T5 n5 d5, .slice A5 k5 c5, .slice B5 j5 e5] 30)
  have bq5 := Box.new w18 #[.int .i64 m5, .slice T5 n5 d5, .slice A5 k5 c5, .slice B5 j5 e5] 30 rfl
  replace h := h.below b_20 (by omega)
  replace a5 := a5.below b_20 (by omega)
  replace o5 := o5.below b_20 (by omega)
  replace p5 := p5.below b_20 (by omega)
  have z_21 := b_20.size
  replace hB := hB.trans (b_20.mono (by omega))
  clear b_20
  generalize w18.alloc _ = w20 at *
  generalize w18.heap.size = g20 at *
  obtain ⟨g5_, hz_⟩ : ∃ o, Fa.good m5 st5 ls5 lw5 = o := ⟨_, rfl⟩
  have Hg5_ := Lib.hid hz_
  clear hz_
  obtain ⟨r5, hz_⟩ : ∃ o, Fa.rpR m5 st5 ls5 lw5 = o := ⟨_, rfl⟩
  have Hr5 := Lib.hid hz_
  clear hz_
  have nr5 : (r5 != r5) = false := by simp
  have ng5_ : (g5_ != g5_) = false := by simp
  have c1 := implRunningPriority_any m5 _ _ _ st5 ls5 lw5 w20 a5.rd o5.rd p5.rd (by omega) (by omega) (by omega) ht5
  rw [Hr5.out, Hg5_.out] at c1
  refine (c1).mono ?_; rintro q_ w22 ⟨rfl, b_22⟩
  replace bq5 := bq5.below b_22 bq5.lt
  replace h := h.below b_22 (by omega)
  replace a5 := a5.below b_22 (by omega)
  replace o5 := o5.below b_22 (by omega)
  replace p5 := p5.below b_22 (by omega)
  have z_23 := b_22.size
  replace hB := hB.trans (b_22.mono (by omega))
  clear b_22
  clear c1
  have bq5_0 := bq5.c0
  have bq5_1 := bq5.c1
  have bq5_2 := bq5.c2
  have bq5_3 := bq5.c3
  have bq5_z := bq5.frozen
  have bq5_l := bq5.lt
  go_wp2_with fail
  clear bq5_0 bq5_1 bq5_2 bq5_3 bq5_z bq5_l
  have c1 := specRunningPriority_any m5 _ _ _ st5 ls5 lw5 w22 a5.rd o5.rd p5.rd (by omega) (by omega) (by omega) ht5
  rw [Hr5.out, Hg5_.out] at c1
  refine (c1).mono ?_; rintro q_ w24 ⟨rfl, b_24⟩
  replace bq5 := bq5.below b_24 bq5.lt
  replace h := h.below b_24 (by omega)
  replace a5 := a5.below b_24 (by omega)
  replace o5 := o5.below b_24 (by omega)
  replace p5 := p5.below b_24 (by omega)
  have z_25 := b_24.size
  replace hB := hB.trans (b_24.mono (by omega))
  clear b_24
  clear c1
  have bq5_0 := bq5.c0
  have bq5_1 := bq5.c1
  have bq5_2 := bq5.c2
  have bq5_3 := bq5.c3
  have bq5_z := bq5.frozen
  have bq5_l := bq5.lt
  go_wp2_with fail
  clear bq5_0 bq5_1 bq5_2 bq5_3 bq5_z bq5_l
  clear bq5 a5 o5 p5
  clear Hr5 nr5 Hg5_ ng5_
  refine (DrawDepthOf_any cv l w24 h (by omega)).mono ?_; rintro q_ w26 ⟨m6, vt6, vs6, vw6, st6, ls6, lw6, rfl, ht6, hl6, hw6, a6, o6, p6, b_26⟩
  replace h := h.below b_26 (by omega)
  have z_27 := b_26.size
  replace hB := hB.trans (b_26.mono (by omega))
  clear b_26
  obtain ⟨T6, n6, d6, rfl, HN6, _, _⟩ := a6.rd.form
  obtain ⟨A6, k6, c6, rfl, _, _, _⟩ := o6.rd.form
  obtain ⟨B6, j6, e6, rfl, _, _, _⟩ := p6.rd.form
  go_wp2_with fail
  have b_28 := (Below.refl w26.heap.size w26).alloc (Nat.le_refl _) (.cells #[.int .i64 m6, .slice T6 n6 d6, .slice A6 k6 c6, .slice B6 j6 e6] 30)
  have bq6 := Box.new w26 #[.int .i64 m6, .slice T6 n6 d6, .slice A6 k6 c6, .slice B6 j6 e6] 30 rfl
  replace h := h.below b_28 (by omega)
  replace a6 := a6.below b_28 (by omega)
  replace o6 := o6.below b_28 (by omega)
  replace p6 := p6.below b_28 (by omega)
  have z_29 := b_28.size
  replace hB := hB.trans (b_28.mono (by omega))
  clear b_28
  generalize w26.alloc _ = w28 at *
  generalize w26.heap.size = g28 at *
  obtain ⟨g6_, hz_⟩ : ∃ o, Fa.good m6 st6 ls6 lw6 = o := ⟨_, rfl⟩
  have Hg6_ := Lib.hid hz_
  clear hz_
  obtain ⟨r6, hz_⟩ : ∃ o, Fa.deR m6 st6 ls6 lw6 = o := ⟨_, rfl⟩
  have Hr6 := Lib.hid hz_
  clear hz_
  have nr6 : (r6 != r6) = false := by simp
  have ng6_ : (g6_ != g6_) = false := by simp
  have HD := Lib.hid (show g6_ = true → r6 = (n6 : Int) from fun e => by rw [← Hr6.out, Fa.deR, Hg6_.out, if_pos e, HN6.out])
  have c1 := implDepthOf_any m6 _ _ _ st6 ls6 lw6 w28 a6.rd o6.rd p6.rd (by omega) (by omega) (by omega) ht6
  rw [Hr6.out, Hg6_.out] at c1
  refine (c1).mono ?_; rintro q_ w30 ⟨rfl, b_30⟩
  replace bq6 := bq6.below b_30 bq6.lt
  replace h := h.below b_30 (by omega)
  replace a6 := a6.below b_30 (by omega)
  replace o6 := o6.below b_30 (by omega)
  replace p6 := p6.below b_30 (by omega)
  have z_31 := b_30.size
  replace hB := hB.trans (b_30.mono (by omega))
  clear b_30
  clear c1
  have bq6_0 := bq6.c0
  have bq6_1 := bq6.c1
  have bq6_2 := bq6.c2
  have bq6_3 := bq6.c3
  have bq6_z := bq6.frozen
  have bq6_l := bq6.lt
  go_wp2_with fail
  clear bq6_0 bq6_1 bq6_2 bq6_3 bq6_z bq6_l
  have c1 := specDepthOf_any m6 _ _ _ st6 ls6 lw6 w30 a6.rd o6.rd p6.rd (by omega) (by omega) (by omega) ht6
  rw [Hr6.out, Hg6_.out] at c1
  refine (c1).mono ?_; rintro q_ w32 ⟨rfl, b_32⟩
  replace bq6 := bq6.below b_32 bq6.lt
  replace h := h.below b_32 (by omega)
  replace a6 := a6.below b_32 (by omega)
  replace o6 := o6.below b_32 (by omega)
  replace p6 := p6.below b_32 (by omega)
  have z_33 := b_32.size
  replace hB := hB.trans (b_32.mono (by omega))
  clear b_32
  clear c1
  clear nr6 ng6_ Hr6 Hg6_
  cases g6_
  ·have bq6_0 := bq6.c0
   have bq6_1 := bq6.c1
   have bq6_2 := bq6.c2
   have bq6_3 := bq6.c3
   have bq6_z := bq6.frozen
   have bq6_l := bq6.lt
   go_wp2_with fail
   clear bq6_0 bq6_1 bq6_2 bq6_3 bq6_z bq6_l
   go_ret
   exact ⟨by simp, hB⟩
  ·obtain rfl : r6 = (n6 : Int) := HD.out rfl
   have bq6_0 := bq6.c0
   have bq6_1 := bq6.c1
   have bq6_2 := bq6.c2
   have bq6_3 := bq6.c3
   have bq6_z := bq6.frozen
   have bq6_l := bq6.lt
   go_wp2_with fail
   clear bq6_0 bq6_1 bq6_2 bq6_3 bq6_z bq6_l
   go_ret
   exact ⟨by simp, hB⟩

set_option maxRecDepth 100000 in
theorem FnOps_holds : Rows.FnOpsSaid :=
 OpenClaim.holds_of_wide 4 Tryz.f4 rfl rfl rfl rfl rfl rfl rfl ⟨rfl, rfl, rfl, rfl, rfl⟩ rfl rfl rfl rfl rfl (by kernel_rfl) Tryz.func4 (by kernel_rfl)
  (of_decide_eq_true (by kernel_rfl)) (by unfold Func.isWrapper; first | (rw [if_pos (by decide +kernel)]; kernel_rfl) | (rw [if_neg (by decide +kernel)]; exact ⟨rfl, rfl⟩))
  (fun os started H enc _ => law_lifted (C := Tryz.checked) (s := Rows.fnOpsSpec) own started (by kernel_rfl) Tryz.func4
   (ChangeSpec.witness6 (enc := enc) (C := Tryz.checked) false ⟨#[], #[.slice none 0 0], []⟩ 8 (by kernel_rfl) (by kernel_rfl) (by kernel_rfl) (by kernel_rfl))
   laidOut (by kernel_rfl) rfl rfl Tryz.underlying4 (fun ds h => by match ds, h with | [_], _ => rfl)
   (fun W base args ds p hval0 hA0 => by
    have hval : ∀ (j : Nat) t v, Tryz.f4.params[j]? = some t → args[j]? = some v → Value.okWide Tryz.prog W .any base t v := hval0
    have hA : DataW.TrodAll enc Tryz.prog W 0 (fun _ => true) true Tryz.f4.params.toList args.toList ds p := hA0
    rw [Tryz.params4] at hA hval
    obtain ⟨v0, vs0, d0, ds0, p0, q0, hargs, rfl, rfl, h0, r0⟩ := trodAll_cons hA
    obtain ⟨rfl, rfl, rfl⟩ := trodAll_nil r0
    obtain rfl : args = #[v0] := by cases args; simp_all
    obtain ⟨l, k0⟩ := By.openS (hval 0 22 v0 rfl rfl) h0
    exact FnOps_walk v0 l W k0))

end Go.Proofs.YtndfmkbpdoohfaaGreat
