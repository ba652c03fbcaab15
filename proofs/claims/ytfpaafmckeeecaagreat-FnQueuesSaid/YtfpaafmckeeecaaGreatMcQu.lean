/- Interrupts are served in the order of their urgency, though only some of them have a slot: the law 'FnQueues' says so of every code. No condition. -/
import Derived.Test.YtfpaafmckeeecaaGreatMcQuD
namespace Go.Proofs.YtfpaafmckeeecaaGreat
open Go.RowKit Go.ChangeShapes Go.WideShapes Go.Deep

theorem Qu.qirqs_len (ls : List Sl) (lw : List Wt) : (Qu.irqs ls lw).length = (Qu.all ls lw).length := by simp [Qu.irqs]
theorem Qu.qpe {ls : List Sl} {lw : List Wt} (h : Qu.good ls lw = true) : Qu.peL ls lw = Qu.irqs ls lw := Qu.pe_yes h
def Qu.nA (ls : List Sl) (i : Int) : Bool := !(Sl.active ls).contains i
theorem filt_pre {l : List Int} {k : Nat} {x : Int} (p : Int → Bool) (h : l[k]? = some x) : (l.take (k + 1)).filter p = (l.take k).filter p ++ if p x then [x] else [] := by
  rw [List.take_add_one, h, List.filter_append]
  cases hp : p x <;> simp [hp]
theorem Qu.of_all {ls : List Sl} {lw : List Wt} {i p : Int} (h : Qu.ofOk ls lw i p = true) : Qu.good ls lw = true ∧ Qu.ofS ls lw i p = (Qu.ofP ls lw i p).1 ∧ Qu.ofW ls lw i p = (Qu.ofP ls lw i p).2 ∧ Qu.good (Qu.ofP ls lw i p).1 (Qu.ofP ls lw i p).2 = true ∧
    (Qu.irqs (Qu.ofP ls lw i p).1 (Qu.ofP ls lw i p).2).contains i = true ∧ (Qu.irqs (Qu.ofP ls lw i p).1 (Qu.ofP ls lw i p).2).length ≤ (Qu.irqs ls lw).length + 1 ∧
    Qu.ofOk (Qu.ofP ls lw i p).1 (Qu.ofP ls lw i p).2 i p = true ∧ Qu.ofS (Qu.ofP ls lw i p).1 (Qu.ofP ls lw i p).2 i p = (Qu.ofP ls lw i p).1 ∧ Qu.ofW (Qu.ofP ls lw i p).1 (Qu.ofP ls lw i p).2 i p = (Qu.ofP ls lw i p).2 := by
  obtain ⟨hq, hi, hp⟩ := Qu.ofOk_get h
  obtain ⟨_, e1, e2⟩ := Qu.of_yes h
  obtain ⟨a1, a2⟩ := Qu.of_after h
  have hg := Qu.ofP_good h
  have hok : Qu.ofOk (Qu.ofP ls lw i p).1 (Qu.ofP ls lw i p).2 i p = true := by simp [Qu.ofOk, hg, hi, hp]
  have ha := Qu.of_again (p := p) hg a1
  obtain ⟨_, f1, f2⟩ := Qu.of_yes hok
  exact ⟨hq, e1, e2, hg, by simp [a1], by rw [Qu.qirqs_len, Qu.qirqs_len]; exact a2, hok, by rw [f1, ha], by rw [f2, ha]⟩
theorem Qu.serve_nA {ls : List Sl} {lw : List Wt} (hq : Qu.good ls lw = true) (ha : (Sl.active ls).length < 4) : Qu.serve ls lw = (Qu.irqs ls lw).filter (Qu.nA ls) := Qu.serve_rest hq ha

set_option maxRecDepth 8000 in
set_option maxHeartbeats 16000000 in
theorem FnQueues_walk (cv : Value) (l : List UInt8) (w : World) (h : Rd By.cells 1 w 0 w.heap.size cv l) :
    Calls Tryz.prog 3 #[cv] w fun e w' => e = .returned (.bool true) ∧ Below w.heap.size w w' := by
  have hB := Below.refl w.heap.size w
  have z_0 : w.heap.size ≤ w.heap.size := Nat.le_refl _
  have c0 := vBig_any cv l w h
  by_cases hz : 65536 < l.length
  · rw [decide_eq_true hz] at c0
    go_enter Tryz.func3, Tryz.ntmps3
    go_wp2_with fail
    refine (c0).mono ?_; rintro q_ w_ ⟨rfl, rfl⟩
    go_wp2_with fail
    go_ret
    exact ⟨rfl, hB⟩
  rw [decide_eq_false hz] at c0
  go_enter Tryz.func3, Tryz.ntmps3
  go_wp2_with fail
  refine (c0).mono ?_; rintro q_ w_ ⟨rfl, rfl⟩
  clear c0
  go_wp2_with fail
  refine (DrawServeQueue_any cv l w h (by omega)).mono ?_; rintro q_ w1 ⟨v1, u1, l1, m1, rfl, hl1, hm1, o1, p1, b_1⟩
  replace h := h.below b_1 (by omega)
  have z_2 := b_1.size
  replace hB := hB.trans (b_1.mono (by omega))
  clear b_1
  obtain ⟨A1, k1, c1, rfl, _, _, _⟩ := o1.rd.form
  obtain ⟨B1, j1, e1, rfl, _, _, _⟩ := p1.rd.form
  go_wp2_with fail
  have b_3 := (Below.refl w1.heap.size w1).alloc (Nat.le_refl _) (.cells #[.slice A1 k1 c1, .slice B1 j1 e1] 27)
  have bq1 := Box.new w1 #[.slice A1 k1 c1, .slice B1 j1 e1] 27 rfl
  replace h := h.below b_3 (by omega)
  replace o1 := o1.below b_3 (by omega)
  replace p1 := p1.below b_3 (by omega)
  have z_4 := b_3.size
  replace hB := hB.trans (b_3.mono (by omega))
  clear b_3
  generalize w1.alloc _ = w3 at *
  generalize w1.heap.size = g3 at *
  obtain ⟨ok1, hk⟩ : ∃ o, Qu.good l1 m1 = o := ⟨_, rfl⟩
  have HK := Lib.hid hk
  clear hk
  have hoo : (ok1 != ok1) = false := by simp
  have c1 := implServeQueue_any _ _ l1 m1 w3 o1.rd p1.rd (by omega) (by omega)
  rw [HK.out] at c1
  refine (c1).mono ?_; rintro q_ w5 ⟨vO, rfl, oO, b_5⟩
  replace bq1 := bq1.below b_5 bq1.lt
  replace h := h.below b_5 (by omega)
  replace o1 := o1.below b_5 (by omega)
  replace p1 := p1.below b_5 (by omega)
  have z_6 := b_5.size
  replace hB := hB.trans (b_5.mono (by omega))
  clear b_5
  clear c1
  have bq1_0 := bq1.cell (j := 0) rfl
  have bq1_1 := bq1.cell (j := 1) rfl
  have bq1_z := bq1.frozen
  have bq1_l := bq1.lt
  go_wp2_with fail
  clear bq1_0 bq1_1 bq1_z bq1_l
  have c1 := specServeQueue_any _ _ l1 m1 w5 o1.rd p1.rd (by omega) (by omega)
  rw [HK.out] at c1
  refine (c1).mono ?_; rintro q_ w7 ⟨vN, rfl, oN, b_7⟩
  replace bq1 := bq1.below b_7 bq1.lt
  replace h := h.below b_7 (by omega)
  replace o1 := o1.below b_7 (by omega)
  replace p1 := p1.below b_7 (by omega)
  replace oO := oO.below b_7 (by omega)
  have z_8 := b_7.size
  replace hB := hB.trans (b_7.mono (by omega))
  clear b_7
  clear c1
  obtain ⟨AO, nO, dO, rfl, HO, hcO, hmO⟩ := oO.rd.form
  obtain ⟨AN, nN, dN, rfl, HN, hcN, hmN⟩ := oN.rd.form
  have bq1_0 := bq1.cell (j := 0) rfl
  have bq1_1 := bq1.cell (j := 1) rfl
  have bq1_z := bq1.frozen
  have bq1_l := bq1.lt
  go_upto_region 6 with fail
  clear bq1_0 bq1_1 bq1_z bq1_l
  go_cut [64] (fun s64 wx => s64 = .bool false ∧ Below w7.heap.size w7 wx)
  case first =>
    as_aux_lemma =>
      have hBf := Below.refl w7.heap.size w7
      have cimpl : ∀ Wx, Below w7.heap.size w7 Wx → Calls Tryz.prog 10 #[.agg #[.slice A1 k1 c1, .slice B1 j1 e1]] Wx fun e w' => e = .returned (.bool ok1) ∧ Below Wx.heap.size Wx w' := fun Wx hb => by
        have zb := hb.size
        have c := implIsQueue_any _ _ _ _ Wx (o1.rd.below hb (by omega)) (p1.rd.below hb (by omega)) (by omega) (by omega)
        rw [HK.out] at c
        exact c
      have cspec : ∀ Wx, Below w7.heap.size w7 Wx → Calls Tryz.prog 11 #[.agg #[.slice A1 k1 c1, .slice B1 j1 e1]] Wx fun e w' => e = .returned (.bool ok1) ∧ Below Wx.heap.size Wx w' := fun Wx hb => by
        have zb := hb.size
        have c := specIsQueue_any _ _ _ _ Wx (o1.rd.below hb (by omega)) (p1.rd.below hb (by omega)) (by omega) (by omega)
        rw [HK.out] at c
        exact c
      have hb6 := Below.drew (Below.refl w7.heap.size w7)
      have zb := hb6.size
      have q0 := (bq1.below hb6 bq1.lt).cell (j := 0) rfl
      have q1 := (bq1.below hb6 bq1.lt).cell (j := 1) rfl
      have qz := (bq1.below hb6 bq1.lt).frozen
      have ql := (bq1.below hb6 bq1.lt).lt
      go_region_with (first | (go_at_call 9; refine (vInts_same _ _ _ _ (oO.rd.below hb6 (by omega)) (oN.rd.below hb6 (by omega)) (by omega) (by omega)).mono ?_; rintro q_ wv ⟨rfl, bb⟩; (replace hb6 := hb6.trans (bb.mono hb6.size)); (have zb := hb6.size); (have q0 := (bq1.below hb6 bq1.lt).cell (j := 0) rfl); (have q1 := (bq1.below hb6 bq1.lt).cell (j := 1) rfl); (have qz := (bq1.below hb6 bq1.lt).frozen); (have ql := (bq1.below hb6 bq1.lt).lt)) | (go_at_call 10; refine (cimpl _ hb6).mono ?_; rintro q_ wi ⟨rfl, bb⟩; (replace hb6 := hb6.trans (bb.mono hb6.size)); (have zb := hb6.size); (have q0 := (bq1.below hb6 bq1.lt).cell (j := 0) rfl); (have q1 := (bq1.below hb6 bq1.lt).cell (j := 1) rfl); (have qz := (bq1.below hb6 bq1.lt).frozen); (have ql := (bq1.below hb6 bq1.lt).lt)) | (go_at_call 11; refine (cspec _ hb6).mono ?_; rintro q_ ws ⟨rfl, bb⟩; (replace hb6 := hb6.trans (bb.mono hb6.size)); (have zb := hb6.size); (have q0 := (bq1.below hb6 bq1.lt).cell (j := 0) rfl); (have q1 := (bq1.below hb6 bq1.lt).cell (j := 1) rfl); (have qz := (bq1.below hb6 bq1.lt).frozen); (have ql := (bq1.below hb6 bq1.lt).lt)))
      all_goals (go_wp2_with fail; go_meet; exact ⟨rfl, hb6⟩)
  case rest =>
    obtain ⟨rfl, hb⟩ := hcut
    replace bq1 := bq1.below hb bq1.lt
    replace h := h.below hb (by omega)
    replace o1 := o1.below hb (by omega)
    replace p1 := p1.below hb (by omega)
    replace oO := oO.below hb (by omega)
    replace oN := oN.below hb (by omega)
    have z_9 := hb.size
    replace hB := hB.trans (hb.mono (by omega))
    clear hb
    clear oN
    have bq1_0 := bq1.cell (j := 0) rfl
    have bq1_1 := bq1.cell (j := 1) rfl
    have bq1_z := bq1.frozen
    have bq1_l := bq1.lt
    go_wp2_with fail
    clear bq1_0 bq1_1 bq1_z bq1_l
    have c1 := implPendingIrqs_any _ _ l1 m1 wc o1.rd p1.rd (by omega) (by omega)
    rw [HK.out] at c1
    refine (c1).mono ?_; rintro q_ w10 ⟨vP, rfl, oP, b_10⟩
    replace bq1 := bq1.below b_10 bq1.lt
    replace h := h.below b_10 (by omega)
    replace o1 := o1.below b_10 (by omega)
    replace p1 := p1.below b_10 (by omega)
    replace oO := oO.below b_10 (by omega)
    have z_11 := b_10.size
    replace hB := hB.trans (b_10.mono (by omega))
    clear b_10
    clear c1
    have bq1_0 := bq1.cell (j := 0) rfl
    have bq1_1 := bq1.cell (j := 1) rfl
    have bq1_z := bq1.frozen
    have bq1_l := bq1.lt
    go_wp2_with fail
    clear bq1_0 bq1_1 bq1_z bq1_l
    have c1 := specPendingIrqs_any _ _ l1 m1 w10 o1.rd p1.rd (by omega) (by omega)
    rw [HK.out] at c1
    refine (c1).mono ?_; rintro q_ w12 ⟨vM, rfl, oM, b_12⟩
    replace bq1 := bq1.below b_12 bq1.lt
    replace h := h.below b_12 (by omega)
    replace o1 := o1.below b_12 (by omega)
    replace p1 := p1.below b_12 (by omega)
    replace oO := oO.below b_12 (by omega)
    replace oP := oP.below b_12 (by omega)
    have z_13 := b_12.size
    replace hB := hB.trans (b_12.mono (by omega))
    clear b_12
    clear c1
    have bq1_0 := bq1.cell (j := 0) rfl
    have bq1_1 := bq1.cell (j := 1) rfl
    have bq1_z := bq1.frozen
    have bq1_l := bq1.lt
    go_wp2_with fail
    clear bq1_0 bq1_1 bq1_z bq1_l
    refine (vInts_same _ _ _ w12 oP.rd oM.rd (by omega) (by omega)).mono ?_; rintro q_ w14 ⟨rfl, b_14⟩
    replace bq1 := bq1.below b_14 bq1.lt
    replace h := h.below b_14 (by omega)
    replace o1 := o1.below b_14 (by omega)
    replace p1 := p1.below b_14 (by omega)
    replace oO := oO.below b_14 (by omega)
    replace oP := oP.below b_14 (by omega)
    replace oM := oM.below b_14 (by omega)
    have z_15 := b_14.size
    replace hB := hB.trans (b_14.mono (by omega))
    clear b_14
    clear oM
    have bq1_0 := bq1.cell (j := 0) rfl
    have bq1_1 := bq1.cell (j := 1) rfl
    have bq1_z := bq1.frozen
    have bq1_l := bq1.lt
    go_upto_if 89 with fail
    clear bq1_0 bq1_1 bq1_z bq1_l
    go_cut [] (fun wx => Below w14.heap.size w14 wx)
    case first =>
      as_aux_lemma =>
        have hBf := Below.refl w14.heap.size w14
        clear hoo HO
        cases ok1
        · have bq1_0 := bq1.cell (j := 0) rfl
          have bq1_1 := bq1.cell (j := 1) rfl
          have bq1_z := bq1.frozen
          have bq1_l := bq1.lt
          go_wp2_with fail
          clear bq1_0 bq1_1 bq1_z bq1_l
          go_meet
          exact hBf
        · have hq := HK.out
          have hsg := (Qu.parts_get (Qu.good_parts hq).1).1
          have HSG := Lib.hid hsg
          have HA4 := Lib.hid (Sl.active_le4 hsg)
          have HRest := Lib.hid (fun ha => Qu.serve_nA hq ha)
          have HFull := Lib.hid (fun ha => Qu.serve_full hq ha)
          rw [Qu.qpe hq] at oP
          rw [Qu.sv_yes hq] at oO
          have hpl := Qu.peL_len l1 m1
          rw [Qu.qpe hq] at hpl
          clear hsg hq
          have bq1_0 := bq1.cell (j := 0) rfl
          have bq1_1 := bq1.cell (j := 1) rfl
          have bq1_z := bq1.frozen
          have bq1_l := bq1.lt
          go_wp2_with fail
          clear bq1_0 bq1_1 bq1_z bq1_l
          have c1 := implActiveIrqs_any _ l1 w14 o1.rd (by omega)
          rw [show Sl.actR l1 = Sl.active l1 by simp [Sl.actR, HSG.out], HSG.out] at c1
          refine (c1).mono ?_; rintro q_ w16 ⟨vA, rfl, oA, hAl, b_16⟩
          replace bq1 := bq1.below b_16 bq1.lt
          replace h := h.below b_16 (by omega)
          replace o1 := o1.below b_16 (by omega)
          replace p1 := p1.below b_16 (by omega)
          replace oO := oO.below b_16 (by omega)
          replace oP := oP.below b_16 (by omega)
          have z_17 := b_16.size
          replace hBf := hBf.trans (b_16.mono (by omega))
          clear b_16
          clear c1
          clear bq1 o1 p1
          obtain ⟨AA, nA, dA, rfl, HAn, hcA, hmA⟩ := oA.rd.form
          obtain ⟨AP, nP, dP, rfl, HPn, hcP, hmP⟩ := oP.rd.form
          have hnP : nP ≤ 1048576 := by rw [HPn.out]; exact hpl
          clear hpl
          have HO := Lib.hid (show nO = (Qu.serve l1 m1).length from by obtain ⟨_, _, _, e0, H0, _, _⟩ := oO.rd.form; injection e0 with _ e1 _; rw [e1]; exact H0.out)
          have hA4 : nA ≤ 4 := by rw [HAn.out]; exact HA4.out
          go_wp2_with fail
          have hb0 := (Below.refl w16.heap.size w16).alloc (Nat.le_refl _) (.cells #[] 3)
          have hf0 := own_empty w16 (base := w16.heap.size) 3 1 (Nat.le_refl _)
          generalize w16.alloc _ = wq0 at hf0 hb0 ⊢
          go_loopw [14, 15] (fun q i wr => ∃ (k m : Nat), k ≤ nP ∧ i = .int .i64 k ∧ Hid (m = (((Qu.irqs l1 m1).take k).filter (Qu.nA l1)).length) ∧ m ≤ k ∧ Below w16.heap.size w16 wr ∧ wr.ownsRow w16.heap.size 3 1 q m ((((Qu.irqs l1 m1).take k).filter (Qu.nA l1)).flatMap Nm.cells)) (fun _ i _ => nP - (intOf i).toNat)
          case atStart => exact ⟨0, 0, Nat.zero_le _, rfl, Lib.hid rfl, Nat.le_refl _, hb0, hf0⟩
          case round =>
            clear hf0 hb0
            obtain ⟨k, m, hk, rfl, HM, hmk, hbr, hf⟩ := hrel
            have hbs := hbr.size
            by_cases hlt : k < nP
            · obtain ⟨b, off, x, rfl, hx, _, hbl, f0⟩ := Nm.get oP.rd hlt hbr (by omega)
              have hP := filt_pre (Qu.nA l1) hx.out
              have c1 := vHas_any _ _ x wr (oA.rd.below hbr (by omega)) (by omega)
              cases hq : (Sl.active l1).contains x
              · have HF := Lib.hid (show ((Qu.irqs l1 m1).take (k + 1)).filter (Qu.nA l1) = ((Qu.irqs l1 m1).take k).filter (Qu.nA l1) ++ [x] from by rw [hP, show Qu.nA l1 x = true from by unfold Qu.nA; rw [hq]; rfl, if_pos rfl])
                rw [hq] at c1
                clear hP hq hx
                go_wp2_with fail
                refine c1.mono ?_; rintro q_ w_ ⟨rfl, rfl⟩
                clear c1
                go_wp2_with (at_builtin; (refine Nm.app_one rfl _ _ rfl w16.heap.size _ m _ rfl (hf.alloc _) (g := wr.heap.size) (c := 1) x rfl ?hc0 (by omega) (by simp <;> omega) ?_); (rotate_left); (intro v3 w3 hf3 hg3))
                go_roundw
                case rel =>
                  refine ⟨k + 1, m + 1, by omega, by go_num, Lib.hid (by rw [HF.out, List.length_append, HM.out]; rfl), by omega, (hbr.alloc hbr.size _).grown hg3 (by simp <;> omega) (fun j hj => (hf.lt j hj).1), ?_⟩
                  rw [HF.out, List.flatMap_append]
                  exact hf3
                case measure => simp [intOf]; omega
                case hc0 =>
                  intro j u hu
                  simpa [Nm.cells] using hu
              · have HF := Lib.hid (show ((Qu.irqs l1 m1).take (k + 1)).filter (Qu.nA l1) = ((Qu.irqs l1 m1).take k).filter (Qu.nA l1) from by rw [hP, show Qu.nA l1 x = false from by unfold Qu.nA; rw [hq]; rfl]; simp)
                rw [hq] at c1
                clear hP hq hx
                go_wp2_with fail
                refine c1.mono ?_; rintro q_ w_ ⟨rfl, rfl⟩
                clear c1
                go_wp2_with fail
                go_roundw
                case rel => exact ⟨k + 1, m, by omega, by go_num, Lib.hid (by rw [HF.out, HM.out]), by omega, hbr, by rw [HF.out]; exact hf⟩
                case measure => simp [intOf]; omega
            · have hkl : (Qu.irqs l1 m1).take k = Qu.irqs l1 m1 := List.take_of_length_le (by rw [← HPn.out]; omega)
              rw [hkl] at hf HM
              have oT := Ow.of_own Nm.cells_len hf rfl HM.out
              clear hf HM hkl
              replace h := h.below hbr (by omega)
              replace oO := oO.below hbr (by omega)
              replace oP := oP.below hbr (by omega)
              replace oA := oA.below hbr (by omega)
              have z_18 := hbr.size
              replace hBf := hBf.trans (hbr.mono (by omega))
              clear hbr
              by_cases hA : nA < 4
              · have hA1 : decide ((nA : Int) < 4) = true := decide_eq_true (by omega)
                have hA2 : ((nA : Int) == 4) = false := beq_eq_false_iff_ne.2 (by omega)
                rw [← HRest.out (by rw [← HAn.out]; exact hA)] at oT
                obtain ⟨AT_, nT, dT, rfl, _, _, _⟩ := oT.rd.form
                go_wp2_with fail
                refine (vInts_same _ _ _ wr oO.rd oT.rd (by omega) (by omega)).mono ?_; rintro q_ w19 ⟨rfl, b_19⟩
                replace h := h.below b_19 (by omega)
                replace oO := oO.below b_19 (by omega)
                replace oP := oP.below b_19 (by omega)
                replace oA := oA.below b_19 (by omega)
                replace oT := oT.below b_19 (by omega)
                have z_20 := b_19.size
                replace hBf := hBf.trans (b_19.mono (by omega))
                clear b_19
                go_wp2_with fail
                go_meet
                exact hBf
              · have hA1 : decide ((nA : Int) < 4) = false := decide_eq_false (by omega)
                have hA2 : ((nA : Int) == 4) = true := beq_iff_eq.2 (by omega)
                obtain rfl : nO = 0 := by rw [HO.out, HFull.out (by rw [← HAn.out]; omega)]; rfl
                go_wp2_with fail
                go_meet
                exact hBf
    case rest =>
      have hb := hcut
      replace bq1 := bq1.below hb bq1.lt
      replace h := h.below hb (by omega)
      replace o1 := o1.below hb (by omega)
      replace p1 := p1.below hb (by omega)
      replace oO := oO.below hb (by omega)
      replace oP := oP.below hb (by omega)
      have z_16 := hb.size
      replace hB := hB.trans (hb.mono (by omega))
      clear hb
      clear bq1 o1 p1 oO oP
      clear HK hoo HO HN
      go_wp2_with fail
      refine (DrawOfferIrq_any cv l wc h (by omega)).mono ?_; rintro q_ w17 ⟨v2, u2, l2, m2, x2, y2, rfl, hl2, hm2, o2, p2, b_17⟩
      replace h := h.below b_17 (by omega)
      have z_18 := b_17.size
      replace hB := hB.trans (b_17.mono (by omega))
      clear b_17
      obtain ⟨A2, k2, c2, rfl, _, _, _⟩ := o2.rd.form
      obtain ⟨B2, j2, e2, rfl, _, _, _⟩ := p2.rd.form
      go_wp2_with fail
      have b_19 := (Below.refl w17.heap.size w17).alloc (Nat.le_refl _) (.cells #[.slice A2 k2 c2, .slice B2 j2 e2] 27)
      have bq2 := Box.new w17 #[.slice A2 k2 c2, .slice B2 j2 e2] 27 rfl
      replace h := h.below b_19 (by omega)
      replace o2 := o2.below b_19 (by omega)
      replace p2 := p2.below b_19 (by omega)
      have z_20 := b_19.size
      replace hB := hB.trans (b_19.mono (by omega))
      clear b_19
      generalize w17.alloc _ = w19 at *
      generalize w17.heap.size = g19 at *
      obtain ⟨ok2, hk⟩ : ∃ o, Qu.ofOk l2 m2 x2 y2 = o := ⟨_, rfl⟩
      have HK := Lib.hid hk
      clear hk
      have hoo : (ok2 != ok2) = false := by simp
      have c1 := implOfferIrq_any _ _ l2 m2 x2 y2 w19 o2.rd p2.rd (by omega) (by omega)
      rw [HK.out] at c1
      refine (c1).mono ?_; rintro q_ w21 ⟨v3, u3, rfl, o3, p3, b_21⟩
      replace bq2 := bq2.below b_21 bq2.lt
      replace h := h.below b_21 (by omega)
      replace o2 := o2.below b_21 (by omega)
      replace p2 := p2.below b_21 (by omega)
      have z_22 := b_21.size
      replace hB := hB.trans (b_21.mono (by omega))
      clear b_21
      obtain ⟨A3, k3, c3, rfl, _, _, _⟩ := o3.rd.form
      obtain ⟨B3, j3, e3, rfl, _, _, _⟩ := p3.rd.form
      clear c1
      have bq2_0 := bq2.cell (j := 0) rfl
      have bq2_1 := bq2.cell (j := 1) rfl
      have bq2_z := bq2.frozen
      have bq2_l := bq2.lt
      go_wp2_with fail
      clear bq2_0 bq2_1 bq2_z bq2_l
      have b_23 := (Below.refl w21.heap.size w21).alloc (Nat.le_refl _) (.cells #[.slice A3 k3 c3, .slice B3 j3 e3] 27)
      have bq3 := Box.new w21 #[.slice A3 k3 c3, .slice B3 j3 e3] 27 rfl
      replace bq2 := bq2.below b_23 bq2.lt
      replace h := h.below b_23 (by omega)
      replace o2 := o2.below b_23 (by omega)
      replace p2 := p2.below b_23 (by omega)
      replace o3 := o3.below b_23 (by omega)
      replace p3 := p3.below b_23 (by omega)
      have z_24 := b_23.size
      replace hB := hB.trans (b_23.mono (by omega))
      clear b_23
      generalize w21.alloc _ = w23 at *
      generalize w21.heap.size = g23 at *
      have c1 := specOfferIrq_any _ _ l2 m2 x2 y2 w23 o2.rd p2.rd (by omega) (by omega)
      rw [HK.out] at c1
      refine (c1).mono ?_; rintro q_ w25 ⟨v4, u4, rfl, o4, p4, b_25⟩
      replace bq2 := bq2.below b_25 bq2.lt
      replace bq3 := bq3.below b_25 bq3.lt
      replace h := h.below b_25 (by omega)
      replace o2 := o2.below b_25 (by omega)
      replace p2 := p2.below b_25 (by omega)
      replace o3 := o3.below b_25 (by omega)
      replace p3 := p3.below b_25 (by omega)
      have z_26 := b_25.size
      replace hB := hB.trans (b_25.mono (by omega))
      clear b_25
      obtain ⟨A4, k4, c4, rfl, _, _, _⟩ := o4.rd.form
      obtain ⟨B4, j4, e4, rfl, _, _, _⟩ := p4.rd.form
      clear c1
      have bq2_0 := bq2.cell (j := 0) rfl
      have bq2_1 := bq2.cell (j := 1) rfl
      have bq2_z := bq2.frozen
      have bq2_l := bq2.lt
      have bq3_0 := bq3.cell (j := 0) rfl
      have bq3_1 := bq3.cell (j := 1) rfl
      have bq3_z := bq3.frozen
      have bq3_l := bq3.lt
      go_upto_region 25 with fail
      clear bq2_0 bq2_1 bq2_z bq2_l bq3_0 bq3_1 bq3_z bq3_l
      have b_27 := (Below.refl w25.heap.size w25).alloc (Nat.le_refl _) (.cells #[.slice A4 k4 c4, .slice B4 j4 e4] 27)
      have bq4 := Box.new w25 #[.slice A4 k4 c4, .slice B4 j4 e4] 27 rfl
      replace bq2 := bq2.below b_27 bq2.lt
      replace bq3 := bq3.below b_27 bq3.lt
      replace h := h.below b_27 (by omega)
      replace o2 := o2.below b_27 (by omega)
      replace p2 := p2.below b_27 (by omega)
      replace o3 := o3.below b_27 (by omega)
      replace p3 := p3.below b_27 (by omega)
      replace o4 := o4.below b_27 (by omega)
      replace p4 := p4.below b_27 (by omega)
      have z_28 := b_27.size
      replace hB := hB.trans (b_27.mono (by omega))
      clear b_27
      generalize w25.alloc _ = w27 at *
      generalize w25.heap.size = g27 at *
      go_cut [176] (fun s176 wx => s176 = .bool false ∧ Below w27.heap.size w27 wx)
      case first =>
        as_aux_lemma =>
          have hBf := Below.refl w27.heap.size w27
          cases ok2
          · have bq2_0 := bq2.cell (j := 0) rfl
            have bq2_1 := bq2.cell (j := 1) rfl
            have bq2_z := bq2.frozen
            have bq2_l := bq2.lt
            have bq3_0 := bq3.cell (j := 0) rfl
            have bq3_1 := bq3.cell (j := 1) rfl
            have bq3_z := bq3.frozen
            have bq3_l := bq3.lt
            have bq4_0 := bq4.cell (j := 0) rfl
            have bq4_1 := bq4.cell (j := 1) rfl
            have bq4_z := bq4.frozen
            have bq4_l := bq4.lt
            go_wp2_with fail
            clear bq2_0 bq2_1 bq2_z bq2_l bq3_0 bq3_1 bq3_z bq3_l bq4_0 bq4_1 bq4_z bq4_l
            refine (vQueue_same _ _ _ _ _ _ w27 o3.rd p3.rd o4.rd p4.rd (by omega) (by omega) (by omega) (by omega)).mono ?_; rintro q_ w29 ⟨rfl, b_29⟩
            replace bq2 := bq2.below b_29 bq2.lt
            replace bq3 := bq3.below b_29 bq3.lt
            replace bq4 := bq4.below b_29 bq4.lt
            replace h := h.below b_29 (by omega)
            replace o2 := o2.below b_29 (by omega)
            replace p2 := p2.below b_29 (by omega)
            replace o3 := o3.below b_29 (by omega)
            replace p3 := p3.below b_29 (by omega)
            replace o4 := o4.below b_29 (by omega)
            replace p4 := p4.below b_29 (by omega)
            have z_30 := b_29.size
            replace hBf := hBf.trans (b_29.mono (by omega))
            clear b_29
            have bq2_0 := bq2.cell (j := 0) rfl
            have bq2_1 := bq2.cell (j := 1) rfl
            have bq2_z := bq2.frozen
            have bq2_l := bq2.lt
            have bq3_0 := bq3.cell (j := 0) rfl
            have bq3_1 := bq3.cell (j := 1) rfl
            have bq3_z := bq3.frozen
            have bq3_l := bq3.lt
            have bq4_0 := bq4.cell (j := 0) rfl
            have bq4_1 := bq4.cell (j := 1) rfl
            have bq4_z := bq4.frozen
            have bq4_l := bq4.lt
            go_wp2_with fail
            clear bq2_0 bq2_1 bq2_z bq2_l bq3_0 bq3_1 bq3_z bq3_l bq4_0 bq4_1 bq4_z bq4_l
            go_meet
            exact ⟨rfl, hBf⟩
          · have bq2_0 := bq2.cell (j := 0) rfl
            have bq2_1 := bq2.cell (j := 1) rfl
            have bq2_z := bq2.frozen
            have bq2_l := bq2.lt
            have bq3_0 := bq3.cell (j := 0) rfl
            have bq3_1 := bq3.cell (j := 1) rfl
            have bq3_z := bq3.frozen
            have bq3_l := bq3.lt
            have bq4_0 := bq4.cell (j := 0) rfl
            have bq4_1 := bq4.cell (j := 1) rfl
            have bq4_z := bq4.frozen
            have bq4_l := bq4.lt
            go_wp2_with fail
            clear bq2_0 bq2_1 bq2_z bq2_l bq3_0 bq3_1 bq3_z bq3_l bq4_0 bq4_1 bq4_z bq4_l
            refine (vQueue_same _ _ _ _ _ _ w27 o3.rd p3.rd o4.rd p4.rd (by omega) (by omega) (by omega) (by omega)).mono ?_; rintro q_ w29 ⟨rfl, b_29⟩
            replace bq2 := bq2.below b_29 bq2.lt
            replace bq3 := bq3.below b_29 bq3.lt
            replace bq4 := bq4.below b_29 bq4.lt
            replace h := h.below b_29 (by omega)
            replace o2 := o2.below b_29 (by omega)
            replace p2 := p2.below b_29 (by omega)
            replace o3 := o3.below b_29 (by omega)
            replace p3 := p3.below b_29 (by omega)
            replace o4 := o4.below b_29 (by omega)
            replace p4 := p4.below b_29 (by omega)
            have z_30 := b_29.size
            replace hBf := hBf.trans (b_29.mono (by omega))
            clear b_29
            have bq2_0 := bq2.cell (j := 0) rfl
            have bq2_1 := bq2.cell (j := 1) rfl
            have bq2_z := bq2.frozen
            have bq2_l := bq2.lt
            have bq3_0 := bq3.cell (j := 0) rfl
            have bq3_1 := bq3.cell (j := 1) rfl
            have bq3_z := bq3.frozen
            have bq3_l := bq3.lt
            have bq4_0 := bq4.cell (j := 0) rfl
            have bq4_1 := bq4.cell (j := 1) rfl
            have bq4_z := bq4.frozen
            have bq4_l := bq4.lt
            go_wp2_with fail
            clear bq2_0 bq2_1 bq2_z bq2_l bq3_0 bq3_1 bq3_z bq3_l bq4_0 bq4_1 bq4_z bq4_l
            have c1 := implIsQueue_any _ _ _ _ w29 o3.rd p3.rd (by omega) (by omega)
            rw [(Qu.of_all HK.out).2.1, (Qu.of_all HK.out).2.2.1, (Qu.of_all HK.out).2.2.2.1] at c1
            refine (c1).mono ?_; rintro q_ w31 ⟨rfl, b_31⟩
            replace bq2 := bq2.below b_31 bq2.lt
            replace bq3 := bq3.below b_31 bq3.lt
            replace bq4 := bq4.below b_31 bq4.lt
            replace h := h.below b_31 (by omega)
            replace o2 := o2.below b_31 (by omega)
            replace p2 := p2.below b_31 (by omega)
            replace o3 := o3.below b_31 (by omega)
            replace p3 := p3.below b_31 (by omega)
            replace o4 := o4.below b_31 (by omega)
            replace p4 := p4.below b_31 (by omega)
            have z_32 := b_31.size
            replace hBf := hBf.trans (b_31.mono (by omega))
            clear b_31
            clear c1
            have bq2_0 := bq2.cell (j := 0) rfl
            have bq2_1 := bq2.cell (j := 1) rfl
            have bq2_z := bq2.frozen
            have bq2_l := bq2.lt
            have bq3_0 := bq3.cell (j := 0) rfl
            have bq3_1 := bq3.cell (j := 1) rfl
            have bq3_z := bq3.frozen
            have bq3_l := bq3.lt
            have bq4_0 := bq4.cell (j := 0) rfl
            have bq4_1 := bq4.cell (j := 1) rfl
            have bq4_z := bq4.frozen
            have bq4_l := bq4.lt
            go_wp2_with fail
            clear bq2_0 bq2_1 bq2_z bq2_l bq3_0 bq3_1 bq3_z bq3_l bq4_0 bq4_1 bq4_z bq4_l
            go_meet
            exact ⟨rfl, hBf⟩
      case rest =>
        obtain ⟨rfl, hb⟩ := hcut
        replace bq2 := bq2.below hb bq2.lt
        replace bq3 := bq3.below hb bq3.lt
        replace bq4 := bq4.below hb bq4.lt
        replace h := h.below hb (by omega)
        replace o2 := o2.below hb (by omega)
        replace p2 := p2.below hb (by omega)
        replace o3 := o3.below hb (by omega)
        replace p3 := p3.below hb (by omega)
        replace o4 := o4.below hb (by omega)
        replace p4 := p4.below hb (by omega)
        have z_29 := hb.size
        replace hB := hB.trans (hb.mono (by omega))
        clear hb
        clear bq4 o4 p4
        clear hoo
        have bq2_0 := bq2.cell (j := 0) rfl
        have bq2_1 := bq2.cell (j := 1) rfl
        have bq2_z := bq2.frozen
        have bq2_l := bq2.lt
        have bq3_0 := bq3.cell (j := 0) rfl
        have bq3_1 := bq3.cell (j := 1) rfl
        have bq3_z := bq3.frozen
        have bq3_l := bq3.lt
        go_upto_if 177 with fail
        clear bq2_0 bq2_1 bq2_z bq2_l bq3_0 bq3_1 bq3_z bq3_l
        go_cut [] (fun wx => Below wc.heap.size wc wx)
        case first =>
          as_aux_lemma =>
            have hBf := Below.refl wc.heap.size wc
            cases ok2
            · have bq2_0 := bq2.cell (j := 0) rfl
              have bq2_1 := bq2.cell (j := 1) rfl
              have bq2_z := bq2.frozen
              have bq2_l := bq2.lt
              have bq3_0 := bq3.cell (j := 0) rfl
              have bq3_1 := bq3.cell (j := 1) rfl
              have bq3_z := bq3.frozen
              have bq3_l := bq3.lt
              go_wp2_with fail
              clear bq2_0 bq2_1 bq2_z bq2_l bq3_0 bq3_1 bq3_z bq3_l
              go_meet
              exact hBf
            · obtain ⟨hq, eS, eW, hgP, hin, hlen, hok2, fS, fW⟩ := Qu.of_all HK.out
              rw [eS] at o3
              rw [eW] at p3
              have G1 := Lib.hid hq
              have G2 := Lib.hid hgP
              have G3 := Lib.hid hin
              have G4 := Lib.hid hlen
              have G5 := Lib.hid hok2
              have G6 := Lib.hid fS
              have G7 := Lib.hid fW
              have hpl := Qu.peL_len l2 m2
              rw [Qu.qpe hq] at hpl
              clear hq hgP hin hlen hok2 fS fW eS eW
              have bq2_0 := bq2.cell (j := 0) rfl
              have bq2_1 := bq2.cell (j := 1) rfl
              have bq2_z := bq2.frozen
              have bq2_l := bq2.lt
              have bq3_0 := bq3.cell (j := 0) rfl
              have bq3_1 := bq3.cell (j := 1) rfl
              have bq3_z := bq3.frozen
              have bq3_l := bq3.lt
              go_wp2_with fail
              clear bq2_0 bq2_1 bq2_z bq2_l bq3_0 bq3_1 bq3_z bq3_l
              have c1 := implPendingIrqs_any _ _ l2 m2 wc o2.rd p2.rd (by omega) (by omega)
              rw [G1.out, Qu.qpe G1.out] at c1
              refine (c1).mono ?_; rintro q_ w30 ⟨vP, rfl, oP, b_30⟩
              replace bq2 := bq2.below b_30 bq2.lt
              replace bq3 := bq3.below b_30 bq3.lt
              replace h := h.below b_30 (by omega)
              replace o2 := o2.below b_30 (by omega)
              replace p2 := p2.below b_30 (by omega)
              replace o3 := o3.below b_30 (by omega)
              replace p3 := p3.below b_30 (by omega)
              have z_31 := b_30.size
              replace hBf := hBf.trans (b_30.mono (by omega))
              clear b_30
              clear c1
              have bq2_0 := bq2.cell (j := 0) rfl
              have bq2_1 := bq2.cell (j := 1) rfl
              have bq2_z := bq2.frozen
              have bq2_l := bq2.lt
              have bq3_0 := bq3.cell (j := 0) rfl
              have bq3_1 := bq3.cell (j := 1) rfl
              have bq3_z := bq3.frozen
              have bq3_l := bq3.lt
              go_wp2_with fail
              clear bq2_0 bq2_1 bq2_z bq2_l bq3_0 bq3_1 bq3_z bq3_l
              have c1 := implPendingIrqs_any _ _ _ _ w30 o3.rd p3.rd (by omega) (by omega)
              rw [G2.out, Qu.qpe G2.out] at c1
              refine (c1).mono ?_; rintro q_ w32 ⟨vR, rfl, oR, b_32⟩
              replace bq2 := bq2.below b_32 bq2.lt
              replace bq3 := bq3.below b_32 bq3.lt
              replace h := h.below b_32 (by omega)
              replace o2 := o2.below b_32 (by omega)
              replace p2 := p2.below b_32 (by omega)
              replace o3 := o3.below b_32 (by omega)
              replace p3 := p3.below b_32 (by omega)
              replace oP := oP.below b_32 (by omega)
              have z_33 := b_32.size
              replace hBf := hBf.trans (b_32.mono (by omega))
              clear b_32
              clear c1
              have bq2_0 := bq2.cell (j := 0) rfl
              have bq2_1 := bq2.cell (j := 1) rfl
              have bq2_z := bq2.frozen
              have bq2_l := bq2.lt
              have bq3_0 := bq3.cell (j := 0) rfl
              have bq3_1 := bq3.cell (j := 1) rfl
              have bq3_z := bq3.frozen
              have bq3_l := bq3.lt
              go_wp2_with fail
              clear bq2_0 bq2_1 bq2_z bq2_l bq3_0 bq3_1 bq3_z bq3_l
              have c1 := implOfferIrq_any _ _ _ _ x2 y2 w32 o3.rd p3.rd (by omega) (by omega)
              rw [G5.out, G6.out, G7.out] at c1
              refine (c1).mono ?_; rintro q_ w34 ⟨v5, u5, rfl, o5, p5, b_34⟩
              replace bq2 := bq2.below b_34 bq2.lt
              replace bq3 := bq3.below b_34 bq3.lt
              replace h := h.below b_34 (by omega)
              replace o2 := o2.below b_34 (by omega)
              replace p2 := p2.below b_34 (by omega)
              replace o3 := o3.below b_34 (by omega)
              replace p3 := p3.below b_34 (by omega)
              replace oP := oP.below b_34 (by omega)
              replace oR := oR.below b_34 (by omega)
              have z_35 := b_34.size
              replace hBf := hBf.trans (b_34.mono (by omega))
              clear b_34
              obtain ⟨A5, k5, c5, rfl, _, _, _⟩ := o5.rd.form
              obtain ⟨B5, j5, e5, rfl, _, _, _⟩ := p5.rd.form
              clear c1
              have bq2_0 := bq2.cell (j := 0) rfl
              have bq2_1 := bq2.cell (j := 1) rfl
              have bq2_z := bq2.frozen
              have bq2_l := bq2.lt
              have bq3_0 := bq3.cell (j := 0) rfl
              have bq3_1 := bq3.cell (j := 1) rfl
              have bq3_z := bq3.frozen
              have bq3_l := bq3.lt
              go_wp2_with fail
              clear bq2_0 bq2_1 bq2_z bq2_l bq3_0 bq3_1 bq3_z bq3_l
              have b_36 := (Below.refl w34.heap.size w34).alloc (Nat.le_refl _) (.cells #[.slice A5 k5 c5, .slice B5 j5 e5] 27)
              have bq5 := Box.new w34 #[.slice A5 k5 c5, .slice B5 j5 e5] 27 rfl
              replace bq2 := bq2.below b_36 bq2.lt
              replace bq3 := bq3.below b_36 bq3.lt
              replace h := h.below b_36 (by omega)
              replace o2 := o2.below b_36 (by omega)
              replace p2 := p2.below b_36 (by omega)
              replace o3 := o3.below b_36 (by omega)
              replace p3 := p3.below b_36 (by omega)
              replace oP := oP.below b_36 (by omega)
              replace oR := oR.below b_36 (by omega)
              replace o5 := o5.below b_36 (by omega)
              replace p5 := p5.below b_36 (by omega)
              have z_37 := b_36.size
              replace hBf := hBf.trans (b_36.mono (by omega))
              clear b_36
              generalize w34.alloc _ = w36 at *
              generalize w34.heap.size = g36 at *
              obtain ⟨AP, nP, dP, rfl, HP, hcP, hmP⟩ := oP.rd.form
              obtain ⟨AR, nR, dR, rfl, HR, hcR, hmR⟩ := oR.rd.form
              have hle : nR ≤ nP + 1 := by rw [HP.out, HR.out]; exact G4.out
              have hnP : nP ≤ 1048576 := by rw [HP.out]; exact hpl
              have hjw : IntKind.i64.wrap ((nP : Int) + 1) = (nP : Int) + 1 := IntWalk.i64_in _ (by omega)
              have hjd : decide ((nP : Int) + 1 < (nR : Int)) = false := decide_eq_false (by omega)
              clear HP HR
              have bq2_0 := bq2.cell (j := 0) rfl
              have bq2_1 := bq2.cell (j := 1) rfl
              have bq2_z := bq2.frozen
              have bq2_l := bq2.lt
              have bq3_0 := bq3.cell (j := 0) rfl
              have bq3_1 := bq3.cell (j := 1) rfl
              have bq3_z := bq3.frozen
              have bq3_l := bq3.lt
              have bq5_0 := bq5.cell (j := 0) rfl
              have bq5_1 := bq5.cell (j := 1) rfl
              have bq5_z := bq5.frozen
              have bq5_l := bq5.lt
              go_wp2_with fail
              clear bq2_0 bq2_1 bq2_z bq2_l bq3_0 bq3_1 bq3_z bq3_l bq5_0 bq5_1 bq5_z bq5_l
              have c1 := vHas_any _ _ x2 w36 oR.rd (by omega)
              rw [G3.out] at c1
              refine (c1).mono ?_; rintro q_ w_ ⟨rfl, rfl⟩
              clear c1
              have bq2_0 := bq2.cell (j := 0) rfl
              have bq2_1 := bq2.cell (j := 1) rfl
              have bq2_z := bq2.frozen
              have bq2_l := bq2.lt
              have bq3_0 := bq3.cell (j := 0) rfl
              have bq3_1 := bq3.cell (j := 1) rfl
              have bq3_z := bq3.frozen
              have bq3_l := bq3.lt
              have bq5_0 := bq5.cell (j := 0) rfl
              have bq5_1 := bq5.cell (j := 1) rfl
              have bq5_z := bq5.frozen
              have bq5_l := bq5.lt
              go_wp2_with fail
              clear bq2_0 bq2_1 bq2_z bq2_l bq3_0 bq3_1 bq3_z bq3_l bq5_0 bq5_1 bq5_z bq5_l
              refine (vQueue_same _ _ _ _ _ _ w36 o5.rd p5.rd o3.rd p3.rd (by omega) (by omega) (by omega) (by omega)).mono ?_; rintro q_ w38 ⟨rfl, b_38⟩
              replace bq2 := bq2.below b_38 bq2.lt
              replace bq3 := bq3.below b_38 bq3.lt
              replace bq5 := bq5.below b_38 bq5.lt
              replace h := h.below b_38 (by omega)
              replace o2 := o2.below b_38 (by omega)
              replace p2 := p2.below b_38 (by omega)
              replace o3 := o3.below b_38 (by omega)
              replace p3 := p3.below b_38 (by omega)
              replace oP := oP.below b_38 (by omega)
              replace oR := oR.below b_38 (by omega)
              replace o5 := o5.below b_38 (by omega)
              replace p5 := p5.below b_38 (by omega)
              have z_39 := b_38.size
              replace hBf := hBf.trans (b_38.mono (by omega))
              clear b_38
              have bq2_0 := bq2.cell (j := 0) rfl
              have bq2_1 := bq2.cell (j := 1) rfl
              have bq2_z := bq2.frozen
              have bq2_l := bq2.lt
              have bq3_0 := bq3.cell (j := 0) rfl
              have bq3_1 := bq3.cell (j := 1) rfl
              have bq3_z := bq3.frozen
              have bq3_l := bq3.lt
              have bq5_0 := bq5.cell (j := 0) rfl
              have bq5_1 := bq5.cell (j := 1) rfl
              have bq5_z := bq5.frozen
              have bq5_l := bq5.lt
              go_wp2_with fail
              clear bq2_0 bq2_1 bq2_z bq2_l bq3_0 bq3_1 bq3_z bq3_l bq5_0 bq5_1 bq5_z bq5_l
              go_meet
              exact hBf
        case rest =>
          have hb := hcut
          replace bq2 := bq2.below hb bq2.lt
          replace bq3 := bq3.below hb bq3.lt
          replace h := h.below hb (by omega)
          replace o2 := o2.below hb (by omega)
          replace p2 := p2.below hb (by omega)
          replace o3 := o3.below hb (by omega)
          replace p3 := p3.below hb (by omega)
          have z_30 := hb.size
          replace hB := hB.trans (hb.mono (by omega))
          clear hb
          clear bq2 bq3 o2 p2 o3 p3
          clear HK
          go_wp2_with fail
          refine (DrawSettleQueue_any cv l wc h (by omega)).mono ?_; rintro q_ w31 ⟨v6, u6, l6, m6, rfl, hl6, hm6, o6, p6, b_31⟩
          replace h := h.below b_31 (by omega)
          have z_32 := b_31.size
          replace hB := hB.trans (b_31.mono (by omega))
          clear b_31
          obtain ⟨A6, k6, c6, rfl, _, _, _⟩ := o6.rd.form
          obtain ⟨B6, j6, e6, rfl, _, _, _⟩ := p6.rd.form
          go_wp2_with fail
          cases hk : Qu.parts l6 m6
          · have c1 := implSettleQueue_any _ l6 _ m6 w31 o6.rd p6.rd (by omega) (by omega)
            rw [hk] at c1
            refine (c1).mono ?_; rintro q_ w33 ⟨v7, u7, rfl, o7, p7, b_33⟩
            replace h := h.below b_33 (by omega)
            replace o6 := o6.below b_33 (by omega)
            replace p6 := p6.below b_33 (by omega)
            have z_34 := b_33.size
            replace hB := hB.trans (b_33.mono (by omega))
            clear b_33
            obtain ⟨A7, k7, c7, rfl, _, _, _⟩ := o7.rd.form
            obtain ⟨B7, j7, e7, rfl, _, _, _⟩ := p7.rd.form
            clear c1
            go_wp2_with fail
            have b_35 := (Below.refl w33.heap.size w33).alloc (Nat.le_refl _) (.cells #[.slice A7 k7 c7, .slice B7 j7 e7] 27)
            have bq7 := Box.new w33 #[.slice A7 k7 c7, .slice B7 j7 e7] 27 rfl
            replace h := h.below b_35 (by omega)
            replace o6 := o6.below b_35 (by omega)
            replace p6 := p6.below b_35 (by omega)
            replace o7 := o7.below b_35 (by omega)
            replace p7 := p7.below b_35 (by omega)
            have z_36 := b_35.size
            replace hB := hB.trans (b_35.mono (by omega))
            clear b_35
            generalize w33.alloc _ = w35 at *
            generalize w33.heap.size = g35 at *
            have c1 := specSettleQueue_any _ l6 _ m6 w35 o6.rd p6.rd (by omega) (by omega)
            rw [hk] at c1
            refine (c1).mono ?_; rintro q_ w37 ⟨v8, u8, rfl, o8, p8, b_37⟩
            replace bq7 := bq7.below b_37 bq7.lt
            replace h := h.below b_37 (by omega)
            replace o6 := o6.below b_37 (by omega)
            replace p6 := p6.below b_37 (by omega)
            replace o7 := o7.below b_37 (by omega)
            replace p7 := p7.below b_37 (by omega)
            have z_38 := b_37.size
            replace hB := hB.trans (b_37.mono (by omega))
            clear b_37
            obtain ⟨A8, k8, c8, rfl, _, _, _⟩ := o8.rd.form
            obtain ⟨B8, j8, e8, rfl, _, _, _⟩ := p8.rd.form
            clear c1 hk
            have bq7_0 := bq7.cell (j := 0) rfl
            have bq7_1 := bq7.cell (j := 1) rfl
            have bq7_z := bq7.frozen
            have bq7_l := bq7.lt
            go_wp2_with fail
            clear bq7_0 bq7_1 bq7_z bq7_l
            have b_39 := (Below.refl w37.heap.size w37).alloc (Nat.le_refl _) (.cells #[.slice A8 k8 c8, .slice B8 j8 e8] 27)
            have bq8 := Box.new w37 #[.slice A8 k8 c8, .slice B8 j8 e8] 27 rfl
            replace bq7 := bq7.below b_39 bq7.lt
            replace h := h.below b_39 (by omega)
            replace o6 := o6.below b_39 (by omega)
            replace p6 := p6.below b_39 (by omega)
            replace o7 := o7.below b_39 (by omega)
            replace p7 := p7.below b_39 (by omega)
            replace o8 := o8.below b_39 (by omega)
            replace p8 := p8.below b_39 (by omega)
            have z_40 := b_39.size
            replace hB := hB.trans (b_39.mono (by omega))
            clear b_39
            generalize w37.alloc _ = w39 at *
            generalize w37.heap.size = g39 at *
            refine (vQueue_same _ _ _ _ _ _ w39 o7.rd p7.rd o8.rd p8.rd (by omega) (by omega) (by omega) (by omega)).mono ?_; rintro q_ w41 ⟨rfl, b_41⟩
            replace bq7 := bq7.below b_41 bq7.lt
            replace bq8 := bq8.below b_41 bq8.lt
            replace h := h.below b_41 (by omega)
            replace o6 := o6.below b_41 (by omega)
            replace p6 := p6.below b_41 (by omega)
            replace o7 := o7.below b_41 (by omega)
            replace p7 := p7.below b_41 (by omega)
            replace o8 := o8.below b_41 (by omega)
            replace p8 := p8.below b_41 (by omega)
            have z_42 := b_41.size
            replace hB := hB.trans (b_41.mono (by omega))
            clear b_41
            have bq7_0 := bq7.cell (j := 0) rfl
            have bq7_1 := bq7.cell (j := 1) rfl
            have bq7_z := bq7.frozen
            have bq7_l := bq7.lt
            have bq8_0 := bq8.cell (j := 0) rfl
            have bq8_1 := bq8.cell (j := 1) rfl
            have bq8_z := bq8.frozen
            have bq8_l := bq8.lt
            go_wp2_with fail
            clear bq7_0 bq7_1 bq7_z bq7_l bq8_0 bq8_1 bq8_z bq8_l
            go_ret
            exact ⟨rfl, hB⟩
          · obtain ⟨eS, eW⟩ := Qu.se_yes hk
            have G1 := Lib.hid (Qu.st_good hk)
            have c1 := implSettleQueue_any _ l6 _ m6 w31 o6.rd p6.rd (by omega) (by omega)
            rw [hk, eS, eW] at c1
            refine (c1).mono ?_; rintro q_ w33 ⟨v7, u7, rfl, o7, p7, b_33⟩
            replace h := h.below b_33 (by omega)
            replace o6 := o6.below b_33 (by omega)
            replace p6 := p6.below b_33 (by omega)
            have z_34 := b_33.size
            replace hB := hB.trans (b_33.mono (by omega))
            clear b_33
            obtain ⟨A7, k7, c7, rfl, _, _, _⟩ := o7.rd.form
            obtain ⟨B7, j7, e7, rfl, _, _, _⟩ := p7.rd.form
            clear c1
            go_wp2_with fail
            have b_35 := (Below.refl w33.heap.size w33).alloc (Nat.le_refl _) (.cells #[.slice A7 k7 c7, .slice B7 j7 e7] 27)
            have bq7 := Box.new w33 #[.slice A7 k7 c7, .slice B7 j7 e7] 27 rfl
            replace h := h.below b_35 (by omega)
            replace o6 := o6.below b_35 (by omega)
            replace p6 := p6.below b_35 (by omega)
            replace o7 := o7.below b_35 (by omega)
            replace p7 := p7.below b_35 (by omega)
            have z_36 := b_35.size
            replace hB := hB.trans (b_35.mono (by omega))
            clear b_35
            generalize w33.alloc _ = w35 at *
            generalize w33.heap.size = g35 at *
            have c1 := specSettleQueue_any _ l6 _ m6 w35 o6.rd p6.rd (by omega) (by omega)
            rw [hk, eS, eW] at c1
            refine (c1).mono ?_; rintro q_ w37 ⟨v8, u8, rfl, o8, p8, b_37⟩
            replace bq7 := bq7.below b_37 bq7.lt
            replace h := h.below b_37 (by omega)
            replace o6 := o6.below b_37 (by omega)
            replace p6 := p6.below b_37 (by omega)
            replace o7 := o7.below b_37 (by omega)
            replace p7 := p7.below b_37 (by omega)
            have z_38 := b_37.size
            replace hB := hB.trans (b_37.mono (by omega))
            clear b_37
            obtain ⟨A8, k8, c8, rfl, _, _, _⟩ := o8.rd.form
            obtain ⟨B8, j8, e8, rfl, _, _, _⟩ := p8.rd.form
            clear c1 hk eS eW
            have bq7_0 := bq7.cell (j := 0) rfl
            have bq7_1 := bq7.cell (j := 1) rfl
            have bq7_z := bq7.frozen
            have bq7_l := bq7.lt
            go_wp2_with fail
            clear bq7_0 bq7_1 bq7_z bq7_l
            have b_39 := (Below.refl w37.heap.size w37).alloc (Nat.le_refl _) (.cells #[.slice A8 k8 c8, .slice B8 j8 e8] 27)
            have bq8 := Box.new w37 #[.slice A8 k8 c8, .slice B8 j8 e8] 27 rfl
            replace bq7 := bq7.below b_39 bq7.lt
            replace h := h.below b_39 (by omega)
            replace o6 := o6.below b_39 (by omega)
            replace p6 := p6.below b_39 (by omega)
            replace o7 := o7.below b_39 (by omega)
            replace p7 := p7.below b_39 (by omega)
            replace o8 := o8.below b_39 (by omega)
            replace p8 := p8.below b_39 (by omega)
            have z_40 := b_39.size
            replace hB := hB.trans (b_39.mono (by omega))
            clear b_39
            generalize w37.alloc _ = w39 at *
            generalize w37.heap.size = g39 at *
            refine (vQueue_same _ _ _ _ _ _ w39 o7.rd p7.rd o8.rd p8.rd (by omega) (by omega) (by omega) (by omega)).mono ?_; rintro q_ w41 ⟨rfl, b_41⟩
            replace bq7 := bq7.below b_41 bq7.lt
            replace bq8 := bq8.below b_41 bq8.lt
            replace h := h.below b_41 (by omega)
            replace o6 := o6.below b_41 (by omega)
            replace p6 := p6.below b_41 (by omega)
            replace o7 := o7.below b_41 (by omega)
            replace p7 := p7.below b_41 (by omega)
            replace o8 := o8.below b_41 (by omega)
            replace p8 := p8.below b_41 (by omega)
            have z_42 := b_41.size
            replace hB := hB.trans (b_41.mono (by omega))
            clear b_41
            have bq7_0 := bq7.cell (j := 0) rfl
            have bq7_1 := bq7.cell (j := 1) rfl
            have bq7_z := bq7.frozen
            have bq7_l := bq7.lt
            have bq8_0 := bq8.cell (j := 0) rfl
            have bq8_1 := bq8.cell (j := 1) rfl
            have bq8_z := bq8.frozen
            have bq8_l := bq8.lt
            go_wp2_with fail
            clear bq7_0 bq7_1 bq7_z bq7_l bq8_0 bq8_1 bq8_z bq8_l
            have c1 := implIsQueue_any _ _ _ _ w41 o7.rd p7.rd (by omega) (by omega)
            rw [G1.out] at c1
            refine (c1).mono ?_; rintro q_ w43 ⟨rfl, b_43⟩
            replace bq7 := bq7.below b_43 bq7.lt
            replace bq8 := bq8.below b_43 bq8.lt
            replace h := h.below b_43 (by omega)
            replace o6 := o6.below b_43 (by omega)
            replace p6 := p6.below b_43 (by omega)
            replace o7 := o7.below b_43 (by omega)
            replace p7 := p7.below b_43 (by omega)
            replace o8 := o8.below b_43 (by omega)
            replace p8 := p8.below b_43 (by omega)
            have z_44 := b_43.size
            replace hB := hB.trans (b_43.mono (by omega))
            clear b_43
            clear c1 G1
            have bq7_0 := bq7.cell (j := 0) rfl
            have bq7_1 := bq7.cell (j := 1) rfl
            have bq7_z := bq7.frozen
            have bq7_l := bq7.lt
            have bq8_0 := bq8.cell (j := 0) rfl
            have bq8_1 := bq8.cell (j := 1) rfl
            have bq8_z := bq8.frozen
            have bq8_l := bq8.lt
            go_wp2_with fail
            clear bq7_0 bq7_1 bq7_z bq7_l bq8_0 bq8_1 bq8_z bq8_l
            go_ret
            exact ⟨rfl, hB⟩

set_option maxRecDepth 100000 in
theorem FnQueues_holds : Rows.FnQueuesSaid :=
  OpenClaim.holds_of_wide 3 Tryz.f3 rfl rfl rfl rfl rfl rfl rfl ⟨rfl, rfl, rfl, rfl, rfl⟩ rfl rfl rfl rfl rfl (by kernel_rfl) Tryz.func3 (by kernel_rfl)
    (of_decide_eq_true (by kernel_rfl)) (by unfold Func.isWrapper; first | (rw [if_pos (by decide +kernel)]; kernel_rfl) | (rw [if_neg (by decide +kernel)]; exact ⟨rfl, rfl⟩))
    (fun os started H enc _ => law_lifted (C := Tryz.checked) (s := Rows.fnQueuesSpec) own started (by kernel_rfl) Tryz.func3
      (ChangeSpec.witness6 (enc := enc) (C := Tryz.checked) false ⟨#[], #[.slice none 0 0], []⟩ 8 (by kernel_rfl) (by kernel_rfl) (by kernel_rfl) (by kernel_rfl))
      laidOut (by kernel_rfl) rfl rfl Tryz.underlying4 (fun ds h => by match ds, h with | [_], _ => rfl)
      (fun W base args ds p hval0 hA0 => by
        have hval : ∀ (j : Nat) t v, Tryz.f3.params[j]? = some t → args[j]? = some v → Value.okWide Tryz.prog W .any base t v := hval0
        have hA : DataW.TrodAll enc Tryz.prog W 0 (fun _ => true) true Tryz.f3.params.toList args.toList ds p := hA0
        rw [Tryz.params3] at hA hval
        obtain ⟨v0, vs0, d0, ds0, p0, q0, hargs, rfl, rfl, h0, r0⟩ := trodAll_cons hA
        obtain ⟨rfl, rfl, rfl⟩ := trodAll_nil r0
        obtain rfl : args = #[v0] := by cases args; simp_all
        obtain ⟨l, k0⟩ := By.openS (hval 0 22 v0 rfl rfl) h0
        exact FnQueues_walk v0 l W k0))

end Go.Proofs.YtfpaafmckeeecaaGreat
