/- Settling a queue, in the program and in the reference. Condition: the parts are valid. -/
import Derived.Test.YtengaccnncnipaaGreatQuIns
import Derived.Test.YtengaccnncnipaaGreatQuMath
import Derived.Test.YtengaccnncnipaaGreatBox
import Derived.Test.YtengaccnncnipaaGreatRegion2
import Derived.Deep.LoopGhost
import Derived.Deep.DeepCutAuto
namespace Go.Proofs.YtengaccnncnipaaGreat
open Go.RowKit Go.ChangeShapes Go.WideShapes Go.Deep

/-- the result's box, the box of 'out', and the two rows that it names -/
structure QI (base : Nat) (W : World) (gR gO : Nat) (vs vw : Value) (ls : List Sl) (lw : List Wt) : Prop where
  res : Box W gR 33 [.slice none 0 0, .slice none 0 0]
  out : Box W gO 33 [vs, vw]
  os : Ow Sl.cells 3 127 W base W.heap.size vs ls
  ow : Ow Wt.cells 2 134 W base W.heap.size vw lw
  ne : gR ≠ gO
theorem QI.below {base gR gO : Nat} {W W' : World} {vs vw : Value} {ls : List Sl} {lw : List Wt} (h : QI base W gR gO vs vw ls lw) (hb : Below W.heap.size W W') : QI base W' gR gO vs vw ls lw :=
  ⟨h.res.below hb h.res.lt, h.out.below hb h.out.lt, (h.os.below hb (Nat.le_refl _)).mono (Nat.le_refl _) hb.size, (h.ow.below hb (Nat.le_refl _)).mono (Nat.le_refl _) hb.size, h.ne⟩

set_option maxHeartbeats 8000000 in
theorem specSettle_any (vs vw : Value) (ls : List Sl) (lw : List Wt) (w : World) {lo hi lo2 hi2 : Nat} (h : Rd Sl.cells 3 w lo hi vs ls) (h2 : Rd Wt.cells 2 w lo2 hi2 vw lw) (hh : hi ≤ w.heap.size) (hh2 : hi2 ≤ w.heap.size) (hp : Qu.parts ls lw = true) :
    Calls Tryz.prog 143 #[.agg #[vs, vw]] w fun e w' => ∃ v1 v2, e = .returned (.agg #[v1, v2]) ∧ Ow Sl.cells 3 127 w' w.heap.size w'.heap.size v1 (Qu.st ls lw).1 ∧ Ow Wt.cells 2 134 w' w.heap.size w'.heap.size v2 (Qu.st ls lw).2 ∧ Below w.heap.size w w' := by
  have b0 : Below w.heap.size w ((w.alloc (.cells #[vs, vw] 33)).alloc (.cells #[.slice none 0 0, .slice none 0 0] 33)) := ((Below.refl w.heap.size w).alloc (Nat.le_refl _) _).alloc (by simp) _
  have z0 : ((w.alloc (.cells #[vs, vw] 33)).alloc (.cells #[.slice none 0 0, .slice none 0 0] 33)).heap.size = w.heap.size + 2 := by simp
  have q0 : ((w.alloc (.cells #[vs, vw] 33)).alloc (.cells #[.slice none 0 0, .slice none 0 0] 33)).cell? ⟨w.heap.size, 0, none⟩ = some vs := by simp
  have q1 : ((w.alloc (.cells #[vs, vw] 33)).alloc (.cells #[.slice none 0 0, .slice none 0 0] 33)).cell? ⟨w.heap.size, 1, none⟩ = some vw := by simp
  have bR := Box.new (g := w.heap.size + 1) (w.alloc (.cells #[vs, vw] 33)) #[.slice none 0 0, .slice none 0 0] 33 (by simp)
  have hs := h.below b0 hh
  have hw := h2.below b0 hh2
  have hv := h.form
  have hv2 := h2.form
  clear h h2
  generalize hwA : (w.alloc (.cells #[vs, vw] 33)).alloc (.cells #[.slice none 0 0, .slice none 0 0] 33) = wA at *
  obtain ⟨A0, n0, d0, rfl, H0, hd0, hm0⟩ := hv
  obtain ⟨A, n, c, rfl, H, hc, hm⟩ := hv2
  have hl1 := Sl.good_len (Qu.parts_get hp).1
  have hl2 := Qu.parts_len hp
  have c1 := specOwn_any _ _ ls lw _ hs hw (by omega) (by omega) (by omega) (by omega)
  have HP := Lib.hid hp
  clear hp hl1 hl2
  go_enter Tryz.func143, Tryz.ntmps143
  go_wp2_with fail
  clear hwA
  refine c1.mono ?_; rintro q_ w1 ⟨v1, v2, rfl, o1, o2, b1⟩
  replace bR := bR.below b1 (by omega)
  have zz1 := b1.size
  replace b0 := b0.trans (b1.mono (by omega))
  clear b1 hs hw q0 q1
  obtain ⟨A5, n5, d5, rfl, _, _, _⟩ := o1.rd.form
  obtain ⟨A6, n6, d6, rfl, _, _, _⟩ := o2.rd.form
  go_wp2_with fail
  have b2 := (Below.refl w1.heap.size w1).alloc (Nat.le_refl _) (.cells #[.slice A5 n5 d5, .slice A6 n6 d6] 33)
  have hQ : QI w.heap.size (w1.alloc (.cells #[.slice A5 n5 d5, .slice A6 n6 d6] 33)) (w.heap.size + 1) w1.heap.size (.slice A5 n5 d5) (.slice A6 n6 d6) ls lw :=
    ⟨bR.below b2 bR.lt, Box.new w1 _ _ rfl, (o1.below b2 (Nat.le_refl _)).mono (by omega) b2.size, (o2.below b2 (Nat.le_refl _)).mono (by omega) b2.size, by omega⟩
  replace b0 := b0.trans (b2.mono (by omega))
  clear b2 o1 o2 bR
  generalize w1.alloc _ = w2 at *
  generalize w1.heap.size = gO at *
  go_loopg [6] (Qu.meas ls) (fun gk v6 wr => ∃ (ls' : List Sl) (lw' : List Wt) (A0 A1 : Option Addr) (n0 d0 n1 d1 : Nat), Hid (Qu.parts ls' lw' = true) ∧ Hid (Qu.st ls' lw' = Qu.st ls lw) ∧ Hid (Qu.meas ls' ≤ gk) ∧ Below w.heap.size w wr ∧ QI w.heap.size wr (w.heap.size + 1) gO (.slice A0 n0 d0) (.slice A1 n1 d1) ls' lw')
  case atStart => exact ⟨ls, lw, _, _, _, _, _, _, HP, Lib.hid rfl, Lib.hid (Nat.le_refl _), b0, hQ⟩
  case round =>
    clear b0 hQ HP
    obtain ⟨ls', lw', A0, A1, n0, d0, n1, d1, HP, HS, HM, hB, hQ⟩ := hrel
    have cz := l9Settled_any _ _ ls' lw' wr hQ.os.rd hQ.ow.rd (Nat.le_refl _) (Nat.le_refl _)
    have x0 := hQ.out.cell (j := 0) rfl
    have x1 := hQ.out.cell (j := 1) rfl
    cases hq : Qu.settled ls' lw'
    · rw [hq] at cz
      go_wp2_with fail
      refine cz.mono ?_; rintro q_ w3 ⟨rfl, b3⟩
      replace hQ := hQ.below b3
      replace hB := hB.trans (b3.mono hB.size)
      clear b3 x0 x1 cz
      have x0 := hQ.out.cell (j := 0) rfl
      have x1 := hQ.out.cell (j := 1) rfl
      obtain ⟨t, rest, hlw, hcase⟩ := Qu.unsettled hq
      have HS2 := Lib.hid ((Qu.st_step HP.out hq).symm.trans HS.out)
      have HP2 := Lib.hid (Qu.step_parts HP.out hq)
      obtain ⟨m, rfl⟩ : ∃ m, gk = m + 1 := ⟨gk - 1, by have := Qu.step_meas HP.out hq; have := HM.out; omega⟩
      have HM2 := Lib.hid (show Qu.meas (Qu.step ls' lw').1 ≤ m by have := Qu.step_meas HP.out hq; have := HM.out; omega)
      have HL := Lib.hid (show ls'.length = 4 ∧ lw'.length ≤ 8 from ⟨Sl.good_len (Qu.parts_get HP.out).1, Qu.parts_len HP.out⟩)
      subst hlw
      have HC := Lib.hid hcase
      clear HM HS hcase hq
      have HN := Lib.hid (hQ.ow.rd.n_eq)
      have hn1 : 0 < n1 := by have := HN.out.1; simp at this; omega
      have hn1d : n1 ≤ d1 := HN.out.2.1
      have hn19 : n1 ≤ 8 := by have := HN.out.1; have := HL.out.2; omega
      obtain ⟨bw, off, t', rfl, ht', _, hbw, f0, f1⟩ := Wt.get hQ.ow.rd hn1 (Below.refl w3.heap.size w3) (Nat.le_refl _)
      obtain rfl : t = t' := Option.some.inj ht'.out
      simp only [Nat.zero_mul, Nat.add_zero] at f0 f1
      have hdr := hQ.ow.rd.dropn (k := 1) (by omega)
      rw [dropA_some, Nat.one_mul, List.drop_succ_cons, List.drop_zero] at hdr
      have zO := hQ.out.lt
      go_upto_region 4 with fail
      have b4 := (Below.refl w3.heap.size w3).alloc (Nat.le_refl _) (.cells #[.int .i64 t.irq, .int .i64 t.prio] 134)
      have bT := Box.new w3 #[.int .i64 t.irq, .int .i64 t.prio] 134 rfl
      replace hQ := hQ.below b4
      replace hdr := hdr.below b4 (Nat.le_refl _)
      replace hB := hB.trans (b4.mono hB.size)
      have zw3 := b4.size
      clear b4 x0 x1 f0 f1 ht'
      generalize w3.alloc _ = w4 at *
      generalize w3.heap.size = gT at *
      have x0 := hQ.out.cell (j := 0) rfl
      have x1 := hQ.out.cell (j := 1) rfl
      have zO := hQ.out.lt
      have e4 := own_empty w4 (base := w4.heap.size) 134 2 (Nat.le_refl _)
      have b5 := (Below.refl w4.heap.size w4).alloc (Nat.le_refl _) (.cells #[] 134)
      go_upto_region 5 with (at_builtin; (refine Wt.app_rd rfl _ _ rfl w4.heap.size (.slice (some ⟨w4.heap.size, 0, none⟩) 0 0) 0 [] rfl e4 rfl (hdr.below b5 (by omega)) (by omega) (by simp) ?_); (intro v5 w5 hv5 g5))
      have b6 : Below w4.heap.size w4 w5 := b5.grown g5 (by simp) (own_ge e4)
      have oR := Ow.of_own Wt.cells_len hv5 (l := rest) (by simp) (by have := HN.out.1; simp at this; omega)
      replace hQ := hQ.below b6
      replace bT := bT.below b6 bT.lt
      replace hB := hB.trans (b6.mono hB.size)
      have zw4 := b6.size
      clear b5 b6 e4 x0 x1 hv5 g5 hdr
      obtain ⟨A9, n9, d9, rfl, _, _, _⟩ := oR.rd.form
      have x0 := hQ.out.cell (j := 0) rfl
      have x1 := hQ.out.cell (j := 1) rfl
      have y0 := bT.cell (j := 0) rfl
      have y1 := bT.cell (j := 1) rfl
      replace zO := hQ.out.lt
      generalize (if d1 = 1 then (some ⟨bw, off, none⟩ : Option Addr) else some ⟨bw, off + 2, none⟩) = B1
      have hgO : w.heap.size ≤ gO := by omega
      have c5 := specFree_b _ ls' w5 hQ.os.rd (Nat.le_refl _)
      rcases HC.out with ⟨k, s, hk, hkl, hsk, h0⟩ | ⟨hf, k, s, hk, hkl, hsk, h1, hlt⟩
      · have HK := Lib.hid hk
        have hkd : decide ((k : Int) < 0) = false := by simp
        rw [hk] at c5
        clear hk hsk h0 HC
        go_wp2_with fail
        refine c5.mono ?_; rintro q_ w6 ⟨rfl, b6⟩
        replace hQ := hQ.below b6
        replace bT := bT.below b6 bT.lt
        replace oR := (oR.below b6 (by omega))
        have zz6 := b6.size
        replace hB := hB.trans (b6.mono hB.size)
        clear b6 x0 x1 y0 y1 c5
        have x0 := hQ.out.cell (j := 0) rfl
        have x1 := hQ.out.cell (j := 1) rfl
        have y0 := bT.cell (j := 0) rfl
        have y1 := bT.cell (j := 1) rfl
        replace zO := hQ.out.lt
        go_wp2_with fail
        refine (specWith_any _ ls' k ⟨1, t.irq, t.prio⟩ w6 hQ.os.rd (Nat.le_refl _) hkl (by have := HL.out.1; omega)).mono ?_; rintro q_ w9 ⟨v9, rfl, o9, b9⟩
        replace hQ := hQ.below b9
        replace oR := oR.below b9 (by omega)
        have zz9 := b9.size
        replace hB := hB.trans (b9.mono hB.size)
        clear b9 x0 x1 y0 y1
        obtain ⟨A8, n8, d8, rfl, _, _, _⟩ := o9.rd.form
        have oz := hQ.out.frozen
        have x0 := hQ.out.cell (j := 0) rfl
        have x1 := hQ.out.cell (j := 1) rfl
        replace zO := hQ.out.lt
        go_wp2_with fail
        go_roundg m
        case rel =>
          generalize hwz : World.setCell (World.setCell _ _ _) _ _ = wz
          obtain rfl : wz = setL w9 gO 0 [.slice A8 n8 d8, .slice A9 n9 d9] := hwz.symm
          clear hwz
          have sz : (setL w9 gO 0 [.slice A8 n8 d8, .slice A9 n9 d9]).heap.size = w9.heap.size := setL_size _ _ _ _
          have zB := hB.size
          have hE := Qu.step_free (ls := ls') (t := t) (rest := rest) HK.out
          rw [hE] at HS2 HP2 HM2
          refine ⟨_, _, _, _, _, _, _, _, HP2, HS2, HM2, setL_below hB _ gO 0 (by omega), ⟨hQ.res.other hQ.ne 0 _, hQ.out.setAll _ rfl, ?_, ?_, hQ.ne⟩⟩
          · exact (o9.box hQ.out (by decide) 0 _).mono (by omega) (by omega)
          · exact (oR.box hQ.out (by decide) 0 _).mono (by omega) (by omega)
        case measure => exact Nat.lt_succ_self _
      · have HK := Lib.hid hk
        have HF := Lib.hid hf
        have HSK := Lib.hid hsk
        have hkd : decide ((k : Int) < 0) = false := by simp
        have c7 := fun W => l8Best_any (.slice A0 n0 d0) ls' false W (lo := w.heap.size) (hi := W.heap.size)
        have hN0 := hQ.os.rd.n_eq
        have hkn : k < n0 := by omega
        have hki : (k : Int) < (n0 : Int) := by omega
        clear hN0
        rw [hf] at c5
        rw [show Sl.best false ls' ls'.length = k from hk] at c7
        clear hk hf hsk h1 hlt HC
        go_wp2_with fail
        refine c5.mono ?_; rintro q_ w6 ⟨rfl, b6⟩
        replace hQ := hQ.below b6
        replace bT := bT.below b6 bT.lt
        replace oR := (oR.below b6 (by omega))
        have zz6 := b6.size
        replace hB := hB.trans (b6.mono hB.size)
        clear b6 x0 x1 y0 y1 c5
        have x0 := hQ.out.cell (j := 0) rfl
        have x1 := hQ.out.cell (j := 1) rfl
        have y0 := bT.cell (j := 0) rfl
        have y1 := bT.cell (j := 1) rfl
        replace zO := hQ.out.lt
        go_wp2_with fail
        refine (c7 w6 hQ.os.rd (Nat.le_refl _)).mono ?_; rintro q_ w7 ⟨rfl, b7⟩
        replace hQ := hQ.below b7
        replace bT := bT.below b7 bT.lt
        replace oR := (oR.below b7 (by omega))
        have zz7 := b7.size
        replace hB := hB.trans (b7.mono hB.size)
        clear b7 x0 x1 y0 y1 c7
        have x0 := hQ.out.cell (j := 0) rfl
        have x1 := hQ.out.cell (j := 1) rfl
        have y0 := bT.cell (j := 0) rfl
        have y1 := bT.cell (j := 1) rfl
        replace zO := hQ.out.lt
        obtain ⟨bs, os, s', rfl, hs', _, hbs, f0, f1, f2⟩ := Sl.get hQ.os.rd hkn (Below.refl w7.heap.size w7) (Nat.le_refl _)
        obtain rfl : s = s' := Option.some.inj (HSK.out.symm.trans hs'.out)
        clear hs'
        go_upto_region 8 with fail
        go_cut [5] (fun s5 wx => ∃ (A7 : Option Addr) (n7 d7 : Nat), s5 = .slice A7 n7 d7 ∧ Below w7.heap.size w7 wx ∧ Ow Wt.cells 2 134 wx w7.heap.size wx.heap.size (.slice A7 n7 d7) (Wt.ins rest ⟨s.irq, s.prio⟩))
        case first =>
          have e0 := cell_ext x0; have e1 := cell_ext f1; have e2 := cell_ext f2
          refine wp_region_ext1 14 (.slice A9 n9 d9) (by omega) (by kernel_rfl) (by kernel_rfl) (by kernel_rfl) (by kernel_rfl) (fun _ _ _ h => h) (Or.inl ⟨rfl, by intro w; go_simp⟩) ?_
          simp only [Nat.reduceSub, List.take_succ_cons, List.take_zero, List.drop_succ_cons, List.drop_zero]
          repeat (quiet_step (fail))
          refine wpQuiet_nil ?_
          intro w8 b8
          clear e0 e1 e2
          have zz8 := b8.size
          go_wp2_with fail
          refine (specWait_any _ rest ⟨s.irq, s.prio⟩ w8 (oR.below b8 (by omega)).rd (by omega) (by have := HL.out.2; simp at this; omega)).mono ?_; rintro q_ w9 ⟨v9, rfl, o9, b9⟩
          obtain ⟨A7, n7, d7, rfl, _, _, _⟩ := o9.rd.form
          go_wp2_with fail
          go_meet
          exact ⟨_, _, _, rfl, b8.trans (b9.mono b8.size), o9.mono b8.size (Nat.le_refl _)⟩
        case rest =>
          obtain ⟨A7, n7, d7, rfl, b8, o7⟩ := hcut
          replace hQ := hQ.below b8
          replace bT := bT.below b8 bT.lt
          have zz8 := b8.size
          replace hB := hB.trans (b8.mono hB.size)
          clear b8 x0 x1 y0 y1 f0 f1 f2
          have x0 := hQ.out.cell (j := 0) rfl
          have x1 := hQ.out.cell (j := 1) rfl
          have y0 := bT.cell (j := 0) rfl
          have y1 := bT.cell (j := 1) rfl
          replace zO := hQ.out.lt
          go_wp2_with fail
          refine (specWith_any _ ls' k ⟨1, t.irq, t.prio⟩ wc hQ.os.rd (Nat.le_refl _) hkl (by have := HL.out.1; omega)).mono ?_; rintro q_ w9 ⟨v9, rfl, o9, b9⟩
          replace hQ := hQ.below b9
          replace o7 := o7.below b9 (by omega)
          have zz9 := b9.size
          replace hB := hB.trans (b9.mono hB.size)
          clear b9 x0 x1 y0 y1
          obtain ⟨A8, n8, d8, rfl, _, _, _⟩ := o9.rd.form
          have oz := hQ.out.frozen
          have x0 := hQ.out.cell (j := 0) rfl
          have x1 := hQ.out.cell (j := 1) rfl
          replace zO := hQ.out.lt
          go_wp2_with fail
          go_roundg m
          case rel =>
            generalize hwz : World.setCell (World.setCell _ _ _) _ _ = wz
            obtain rfl : wz = setL w9 gO 0 [.slice A8 n8 d8, .slice A7 n7 d7] := hwz.symm
            clear hwz
            have sz : (setL w9 gO 0 [.slice A8 n8 d8, .slice A7 n7 d7]).heap.size = w9.heap.size := setL_size _ _ _ _
            have zB := hB.size
            have hE := Qu.step_full (ls := ls') (t := t) (rest := rest) HF.out HK.out HSK.out
            rw [hE] at HS2 HP2 HM2
            refine ⟨_, _, _, _, _, _, _, _, HP2, HS2, HM2, setL_below hB _ gO 0 (by omega), ⟨hQ.res.other hQ.ne 0 _, hQ.out.setAll _ rfl, ?_, ?_, hQ.ne⟩⟩
            · exact (o9.box hQ.out (by decide) 0 _).mono (by omega) (by omega)
            · exact (o7.box hQ.out (by decide) 0 _).mono (by omega) (by omega)
          case measure => exact Nat.lt_succ_self _
    · have HF := Lib.hid ((HS.out).symm.trans (Qu.st_done hq))
      rw [hq] at cz
      clear hq
      go_wp2_with fail
      refine cz.mono ?_; rintro q_ w3 ⟨rfl, b3⟩
      replace hQ := hQ.below b3
      replace hB := hB.trans (b3.mono hB.size)
      clear b3 x0 x1 cz
      have x0 := hQ.out.cell (j := 0) rfl
      have x1 := hQ.out.cell (j := 1) rfl
      have r0 := hQ.res.cell (j := 0) rfl
      have r1 := hQ.res.cell (j := 1) rfl
      have rz := hQ.res.frozen
      have zO := hQ.out.lt
      have zR := hQ.res.lt
      go_wp2_with fail
      generalize hwz : World.setCell (World.setCell _ _ _) _ _ = wz
      obtain rfl : wz = setL w3 (w.heap.size + 1) 0 [.slice A0 n0 d0, .slice A1 n1 d1] := hwz.symm
      have bRz := hQ.res.setAll [.slice A0 n0 d0, .slice A1 n1 d1] rfl
      have u0 := bRz.cell (j := 0) rfl
      have u1 := bRz.cell (j := 1) rfl
      have oS := hQ.os.box hQ.res (by decide) 0 [.slice A0 n0 d0, .slice A1 n1 d1]
      have oW := hQ.ow.box hQ.res (by decide) 0 [.slice A0 n0 d0, .slice A1 n1 d1]
      have hbz := setL_below hB [.slice A0 n0 d0, .slice A1 n1 d1] (w.heap.size + 1) 0 (by omega)
      have sz : (setL w3 (w.heap.size + 1) 0 [.slice A0 n0 d0, .slice A1 n1 d1]).heap.size = w3.heap.size := setL_size _ _ _ _
      clear hwz hQ hB bRz x0 x1 r0 r1 rz
      generalize setL w3 (w.heap.size + 1) 0 [.slice A0 n0 d0, .slice A1 n1 d1] = wz at *
      refine bodyPost_ret (by simp only [results, Tryz.results143]; simp [go_sem, u0, u1]; rfl) rfl ?_
      exact ⟨_, _, rfl, by rw [HF.out]; exact oS.mono (Nat.le_refl _) (by omega), by rw [HF.out]; exact oW.mono (Nat.le_refl _) (by omega), hbz⟩
set_option maxHeartbeats 8000000 in
theorem implSettle_any (vs vw : Value) (ls : List Sl) (lw : List Wt) (w : World) {lo hi lo2 hi2 : Nat} (h : Rd Sl.cells 3 w lo hi vs ls) (h2 : Rd Wt.cells 2 w lo2 hi2 vw lw) (hh : hi ≤ w.heap.size) (hh2 : hi2 ≤ w.heap.size) (hp : Qu.parts ls lw = true) :
    Calls Tryz.prog 145 #[.agg #[vs, vw]] w fun e w' => ∃ v1 v2, e = .returned (.agg #[v1, v2]) ∧ Ow Sl.cells 3 127 w' w.heap.size w'.heap.size v1 (Qu.st ls lw).1 ∧ Ow Wt.cells 2 134 w' w.heap.size w'.heap.size v2 (Qu.st ls lw).2 ∧ Below w.heap.size w w' := by
  have b0 : Below w.heap.size w ((w.alloc (.cells #[vs, vw] 33)).alloc (.cells #[.slice none 0 0, .slice none 0 0] 33)) := ((Below.refl w.heap.size w).alloc (Nat.le_refl _) _).alloc (by simp) _
  have z0 : ((w.alloc (.cells #[vs, vw] 33)).alloc (.cells #[.slice none 0 0, .slice none 0 0] 33)).heap.size = w.heap.size + 2 := by simp
  have q0 : ((w.alloc (.cells #[vs, vw] 33)).alloc (.cells #[.slice none 0 0, .slice none 0 0] 33)).cell? ⟨w.heap.size, 0, none⟩ = some vs := by simp
  have q1 : ((w.alloc (.cells #[vs, vw] 33)).alloc (.cells #[.slice none 0 0, .slice none 0 0] 33)).cell? ⟨w.heap.size, 1, none⟩ = some vw := by simp
  have bR := Box.new (g := w.heap.size + 1) (w.alloc (.cells #[vs, vw] 33)) #[.slice none 0 0, .slice none 0 0] 33 (by simp)
  have hs := h.below b0 hh
  have hw := h2.below b0 hh2
  have hv := h.form
  have hv2 := h2.form
  clear h h2
  generalize hwA : (w.alloc (.cells #[vs, vw] 33)).alloc (.cells #[.slice none 0 0, .slice none 0 0] 33) = wA at *
  obtain ⟨A0, n0, d0, rfl, H0, hd0, hm0⟩ := hv
  obtain ⟨A, n, c, rfl, H, hc, hm⟩ := hv2
  have hl1 := Sl.good_len (Qu.parts_get hp).1
  have hl2 := Qu.parts_len hp
  have c1 := implOwn_any _ _ ls lw _ hs hw (by omega) (by omega) (by omega) (by omega)
  have HP := Lib.hid hp
  clear hp hl1 hl2
  go_enter Tryz.func145, Tryz.ntmps145
  go_wp2_with fail
  clear hwA
  refine c1.mono ?_; rintro q_ w1 ⟨v1, v2, rfl, o1, o2, b1⟩
  replace bR := bR.below b1 (by omega)
  have zz1 := b1.size
  replace b0 := b0.trans (b1.mono (by omega))
  clear b1 hs hw q0 q1
  obtain ⟨A5, n5, d5, rfl, _, _, _⟩ := o1.rd.form
  obtain ⟨A6, n6, d6, rfl, _, _, _⟩ := o2.rd.form
  go_wp2_with fail
  have b2 := (Below.refl w1.heap.size w1).alloc (Nat.le_refl _) (.cells #[.slice A5 n5 d5, .slice A6 n6 d6] 33)
  have hQ : QI w.heap.size (w1.alloc (.cells #[.slice A5 n5 d5, .slice A6 n6 d6] 33)) (w.heap.size + 1) w1.heap.size (.slice A5 n5 d5) (.slice A6 n6 d6) ls lw :=
    ⟨bR.below b2 bR.lt, Box.new w1 _ _ rfl, (o1.below b2 (Nat.le_refl _)).mono (by omega) b2.size, (o2.below b2 (Nat.le_refl _)).mono (by omega) b2.size, by omega⟩
  replace b0 := b0.trans (b2.mono (by omega))
  clear b2 o1 o2 bR
  generalize w1.alloc _ = w2 at *
  generalize w1.heap.size = gO at *
  go_loopg [5] (Qu.meas ls) (fun gk v5 wr => ∃ (ls' : List Sl) (lw' : List Wt) (A0 A1 : Option Addr) (n0 d0 n1 d1 : Nat), Hid (Qu.parts ls' lw' = true) ∧ Hid (Qu.st ls' lw' = Qu.st ls lw) ∧ Hid (Qu.meas ls' ≤ gk) ∧ Below w.heap.size w wr ∧ QI w.heap.size wr (w.heap.size + 1) gO (.slice A0 n0 d0) (.slice A1 n1 d1) ls' lw')
  case atStart => exact ⟨ls, lw, _, _, _, _, _, _, HP, Lib.hid rfl, Lib.hid (Nat.le_refl _), b0, hQ⟩
  case round =>
    clear b0 hQ HP
    obtain ⟨ls', lw', A0, A1, n0, d0, n1, d1, HP, HS, HM, hB, hQ⟩ := hrel
    have cz := isSettled_any _ _ ls' lw' wr hQ.os.rd hQ.ow.rd (Nat.le_refl _) (Nat.le_refl _) (Qu.parts_get HP.out).1
    have x0 := hQ.out.cell (j := 0) rfl
    have x1 := hQ.out.cell (j := 1) rfl
    cases hq : Qu.settled ls' lw'
    · rw [hq] at cz
      go_wp2_with fail
      refine cz.mono ?_; rintro q_ w3 ⟨rfl, b3⟩
      replace hQ := hQ.below b3
      replace hB := hB.trans (b3.mono hB.size)
      clear b3 x0 x1 cz
      have x0 := hQ.out.cell (j := 0) rfl
      have x1 := hQ.out.cell (j := 1) rfl
      obtain ⟨t, rest, hlw, hcase⟩ := Qu.unsettled hq
      have HS2 := Lib.hid ((Qu.st_step HP.out hq).symm.trans HS.out)
      have HP2 := Lib.hid (Qu.step_parts HP.out hq)
      obtain ⟨m, rfl⟩ : ∃ m, gk = m + 1 := ⟨gk - 1, by have := Qu.step_meas HP.out hq; have := HM.out; omega⟩
      have HM2 := Lib.hid (show Qu.meas (Qu.step ls' lw').1 ≤ m by have := Qu.step_meas HP.out hq; have := HM.out; omega)
      have HL := Lib.hid (show ls'.length = 4 ∧ lw'.length ≤ 8 from ⟨Sl.good_len (Qu.parts_get HP.out).1, Qu.parts_len HP.out⟩)
      have HG := Lib.hid (Qu.parts_get HP.out).1
      subst hlw
      have HC := Lib.hid hcase
      clear HM HS hcase hq
      have HN := Lib.hid (hQ.ow.rd.n_eq)
      have hn1 : 0 < n1 := by have := HN.out.1; simp at this; omega
      have hn1d : n1 ≤ d1 := HN.out.2.1
      have hn19 : n1 ≤ 8 := by have := HN.out.1; have := HL.out.2; omega
      obtain ⟨bw, off, t', rfl, ht', _, hbw, f0, f1⟩ := Wt.get hQ.ow.rd hn1 (Below.refl w3.heap.size w3) (Nat.le_refl _)
      obtain rfl : t = t' := Option.some.inj ht'.out
      simp only [Nat.zero_mul, Nat.add_zero] at f0 f1
      have zO := hQ.out.lt
      go_upto_region 3 with fail
      have SH : ∀ W, Below w3.heap.size w3 W → (fun (W : World) => W.cell? ⟨gO, 0, none⟩ = some (.slice A0 n0 d0) ∧ W.cell? ⟨gO, 1, none⟩ = some (.slice (some ⟨bw, off, none⟩) n1 d1) ∧ W.cell? ⟨bw, off, none⟩ = some (.int .i64 t.irq) ∧ W.cell? ⟨bw, off + 1, none⟩ = some (.int .i64 t.prio)) W :=
        fun W hb => ⟨(hb.cell (p := ⟨gO, 0, none⟩) zO).trans x0, (hb.cell (p := ⟨gO, 1, none⟩) zO).trans x1, (hb.cell (p := ⟨bw, off, none⟩) hbw).trans f0, (hb.cell (p := ⟨bw, off + 1, none⟩) hbw).trans f1⟩
      have c5 := fun (W : World) (kb : Below w3.heap.size w3 W) => implFree_b _ ls' W (hQ.os.rd.below kb (Nat.le_refl _)) kb.size
      go_cut [4, 5] (fun s4 s5 wx => ∃ gT : Nat, s4 = .pointer (some ⟨gT, 0, none⟩) ∧ s5 = .int .i64 (Sl.fx ls') ∧ Below w3.heap.size w3 wx ∧ Box wx gT 134 [.int .i64 t.irq, .int .i64 t.prio])
      case first =>
        clear x0 x1 f0 f1
        generalize Sl.fx ls' = z at *
        refine wp_region_held_drew (S := fun W => W.cell? ⟨gO, 0, none⟩ = some (.slice A0 n0 d0) ∧ W.cell? ⟨gO, 1, none⟩ = some (.slice (some ⟨bw, off, none⟩) n1 d1) ∧ W.cell? ⟨bw, off, none⟩ = some (.int .i64 t.irq) ∧ W.cell? ⟨bw, off + 1, none⟩ = some (.int .i64 t.prio)) (by kernel_rfl) (SH _ (Below.refl w3.heap.size w3).drew) (fun hHeld => ?_)
        refine wpAnyH_take (i := 0) (v := .pointer (some ⟨gO, 1, none⟩)) rfl (by kernel_rfl) (by kernel_rfl) (by kernel_rfl) (fun _ _ _ h => h) (Or.inl ⟨by rfl, by intro w hSw; obtain ⟨y0, y1, y2, y3⟩ := hSw; go_simp⟩) hHeld ?_
        refine wpAnyH_take (i := 1) (v := .slice (some ⟨bw, off, none⟩) n1 d1) rfl (by kernel_rfl) (by kernel_rfl) (by kernel_rfl) (fun _ _ _ h => h) (Or.inl ⟨by rfl, by intro w hSw; obtain ⟨y0, y1, y2, y3⟩ := hSw; go_simp⟩) hHeld ?_
        refine wpAnyH_take (i := 2) (v := .pointer (some ⟨bw, off, none⟩)) rfl (by kernel_rfl) (by kernel_rfl) (by kernel_rfl) (fun _ _ _ h => h) (Or.inl ⟨by rfl, by intro w hSw; obtain ⟨y0, y1, y2, y3⟩ := hSw; go_simp⟩) hHeld ?_
        refine wpAnyH_take (i := 3) (v := .agg #[.int .i64 t.irq, .int .i64 t.prio]) rfl (by kernel_rfl) (by kernel_rfl) (by kernel_rfl) (fun _ _ _ h => h) (Or.inl ⟨by rfl, by intro w hSw; obtain ⟨y0, y1, y2, y3⟩ := hSw; go_simp⟩) hHeld ?_
        refine wpAnyH_take (i := 4) (v := .pointer (some ⟨gO, 0, none⟩)) rfl (by kernel_rfl) (by kernel_rfl) (by kernel_rfl) (fun _ _ _ h => h) (Or.inl ⟨by rfl, by intro w hSw; obtain ⟨y0, y1, y2, y3⟩ := hSw; go_simp⟩) hHeld ?_
        refine wpAnyH_take (i := 5) (v := .slice A0 n0 d0) rfl (by kernel_rfl) (by kernel_rfl) (by kernel_rfl) (fun _ _ _ h => h) (Or.inl ⟨by rfl, by intro w hSw; obtain ⟨y0, y1, y2, y3⟩ := hSw; go_simp⟩) hHeld ?_
        clear hHeld
        refine held_gen (F := fun W' => Below w3.heap.size w3 W') (Below.refl w3.heap.size w3).drew ?_
        rintro W0 k0
        refine wpAnyH_ready (rs := [6, 7]) (by kernel_rfl) (by decide) ?_
        refine AllReadyH.cons rfl (fun K0 hK0 => ?_) (AllReadyH.cons rfl (fun K0 hK0 => ?_) AllReadyH.nil)
        · go_simp
          refine (c5 _ k0).mono ?_
          rintro e_ W1 ⟨rfl, k1⟩
          replace k1 := k0.trans (k1.mono k0.size)
          refine hK0.out _ _ (SH _ k1) (fun _ => ?_)
          refine wpAnyH_ready (rs := [7]) (by kernel_rfl) (by decide) ?_
          refine AllReadyH.cons rfl (fun K1 hK1 => ?_) AllReadyH.nil
          go_simp
          refine hK1.out _ _ (SH _ (k1.alloc k1.size (.cells #[.int .i64 0, .int .i64 0] 134))) (fun _ => ?_)
          have bT := Box.new W1 #[.int .i64 0, .int .i64 0] 134 rfl
          have zT := k1.size
          replace k1 := k1.alloc k1.size (.cells #[.int .i64 0, .int .i64 0] 134)
          generalize W1.alloc _ = W2 at *
          generalize W1.heap.size = gT at *
          refine wpAnyH_ready (rs := [8]) (by kernel_rfl) (by decide) ?_
          refine AllReadyH.cons rfl (fun K2 hK2 => ?_) AllReadyH.nil
          have t0 := bT.cell (j := 0) rfl
          have t1 := bT.cell (j := 1) rfl
          have tz := bT.frozen
          go_simp
          generalize hwz : World.setCell (World.setCell _ _ _) _ _ = wz
          obtain rfl : wz = setL W2 gT 0 [.int .i64 t.irq, .int .i64 t.prio] := hwz.symm
          clear hwz
          have k2 := setL_below k1 [.int .i64 t.irq, .int .i64 t.prio] gT 0 zT
          replace bT := bT.setAll [.int .i64 t.irq, .int .i64 t.prio] rfl
          refine hK2.out _ _ (SH _ k2) (fun _ => ?_)
          refine wpAnyH_ready (rs := [9]) (by kernel_rfl) (by decide) ?_
          refine AllReadyH.cons rfl (fun K3 hK3 => ?_) AllReadyH.nil
          go_simp
          refine hK3.out _ _ (SH _ k2) (fun _ => ?_)
          refine ⟨by kernel_rfl, ?_⟩
          go_wp2_with fail
          go_meet
          exact ⟨gT, rfl, rfl, k2, bT⟩
        · go_simp
          refine hK0.out _ _ (SH _ (k0.alloc k0.size (.cells #[.int .i64 0, .int .i64 0] 134))) (fun _ => ?_)
          have bT := Box.new W0 #[.int .i64 0, .int .i64 0] 134 rfl
          have zT := k0.size
          replace k0 := k0.alloc k0.size (.cells #[.int .i64 0, .int .i64 0] 134)
          generalize W0.alloc _ = W1 at *
          generalize W0.heap.size = gT at *
          refine wpAnyH_ready (rs := [6]) (by kernel_rfl) (by decide) ?_
          refine AllReadyH.cons rfl (fun K1 hK1 => ?_) AllReadyH.nil
          go_simp
          refine (c5 _ k0).mono ?_
          rintro e_ W2 ⟨rfl, k1⟩
          replace bT := bT.below k1 bT.lt
          replace k1 := k0.trans (k1.mono k0.size)
          refine hK1.out _ _ (SH _ k1) (fun _ => ?_)
          refine wpAnyH_ready (rs := [8]) (by kernel_rfl) (by decide) ?_
          refine AllReadyH.cons rfl (fun K2 hK2 => ?_) AllReadyH.nil
          have t0 := bT.cell (j := 0) rfl
          have t1 := bT.cell (j := 1) rfl
          have tz := bT.frozen
          go_simp
          generalize hwz : World.setCell (World.setCell _ _ _) _ _ = wz
          obtain rfl : wz = setL W2 gT 0 [.int .i64 t.irq, .int .i64 t.prio] := hwz.symm
          clear hwz
          have k2 := setL_below k1 [.int .i64 t.irq, .int .i64 t.prio] gT 0 zT
          replace bT := bT.setAll [.int .i64 t.irq, .int .i64 t.prio] rfl
          refine hK2.out _ _ (SH _ k2) (fun _ => ?_)
          refine wpAnyH_ready (rs := [9]) (by kernel_rfl) (by decide) ?_
          refine AllReadyH.cons rfl (fun K3 hK3 => ?_) AllReadyH.nil
          go_simp
          refine hK3.out _ _ (SH _ k2) (fun _ => ?_)
          refine ⟨by kernel_rfl, ?_⟩
          go_wp2_with fail
          go_meet
          exact ⟨gT, rfl, rfl, k2, bT⟩
      case rest =>
        obtain ⟨gT, rfl, rfl, b4, bT⟩ := hcut
        replace hQ := hQ.below b4
        replace hB := hB.trans (b4.mono hB.size)
        have zw4 := b4.size
        clear b4 x0 x1 f0 f1 ht'
        have x0 := hQ.out.cell (j := 0) rfl
        have x1 := hQ.out.cell (j := 1) rfl
        have y0 := bT.cell (j := 0) rfl
        have y1 := bT.cell (j := 1) rfl
        replace zO := hQ.out.lt
        have zT := bT.lt
        have oz := hQ.out.frozen
        have hgO : w.heap.size ≤ gO := by omega
        go_upto_region 5 with fail
        generalize hBv : (if d1 = 1 then (some ⟨bw, off, none⟩ : Option Addr) else some ⟨bw, off + 2, none⟩) = B1
        have oD := hQ.ow.dropn (k := 1) (by omega)
        rw [dropA_some, Nat.one_mul, List.drop_succ_cons, List.drop_zero, hBv] at oD
        clear hBv
        generalize hwz : World.setCell _ _ _ = wz
        obtain rfl : wz = setL wc gO 1 [.slice B1 (n1 - 1) (d1 - 1)] := hwz.symm
        clear hwz
        have szc : (setL wc gO 1 [.slice B1 (n1 - 1) (d1 - 1)]).heap.size = wc.heap.size := setL_size _ _ _ _
        replace hB := setL_below hB [.slice B1 (n1 - 1) (d1 - 1)] gO 1 hgO
        have bTn : gT ≠ gO := fun e => by
          subst e
          have h1 := hQ.out; have h2 := bT
          unfold Box at h1 h2
          rw [h1] at h2
          cases h2
        replace bT := bT.other bTn 1 [.slice B1 (n1 - 1) (d1 - 1)]
        replace hQ : QI w.heap.size (setL wc gO 1 [.slice B1 (n1 - 1) (d1 - 1)]) (w.heap.size + 1) gO (.slice A0 n0 d0) (.slice B1 (n1 - 1) (d1 - 1)) ls' rest :=
          ⟨hQ.res.other hQ.ne 1 _, hQ.out.set1 _ (by simp), (hQ.os.box hQ.out (by decide) 1 _).mono (Nat.le_refl _) (by omega), (oD.box hQ.out (by decide) 1 _).mono (Nat.le_refl _) (by omega), hQ.ne⟩
        clear x0 x1 y0 y1 oz oD zT
        generalize setL wc gO 1 [.slice B1 (n1 - 1) (d1 - 1)] = w5 at *
        have x0 := hQ.out.cell (j := 0) rfl
        have x1 := hQ.out.cell (j := 1) rfl
        have y0 := bT.cell (j := 0) rfl
        have y1 := bT.cell (j := 1) rfl
        replace zO := hQ.out.lt
        have zT := bT.lt
        rcases HC.out with ⟨k, s, hk, hkl, hsk, h0⟩ | ⟨hf, k, s, hk, hkl, hsk, h1, hlt⟩
        · have HK := Lib.hid hk
          have hkd : decide ((k : Int) < 0) = false := by simp
          rw [hk]
          clear hk h0 HC
          have HSK := Lib.hid hsk
          have hN0 := hQ.os.rd.n_eq
          have hkn : k < n0 := by omega
          have hki : (k : Int) < (n0 : Int) := by omega
          clear hN0
          obtain ⟨bs, os, s', rfl, hs', hbs0, hbs, f0, f1, f2⟩ := Sl.get hQ.os.rd hkn (Below.refl w5.heap.size w5) (Nat.le_refl _)
          obtain rfl : s = s' := Option.some.inj (HSK.out.symm.trans hs'.out)
          have sz := hQ.os.frozen (by omega)
          clear hs'
          go_wp2_with fail
          go_roundg m
          case rel =>
            generalize hwz : World.setCell (World.setCell (World.setCell _ _ _) _ _) _ _ = wz
            obtain rfl : wz = setL w5 bs (os + k * 3) [.int .i64 1, .int .i64 t.irq, .int .i64 t.prio] := hwz.symm
            clear hwz
            have sz : (setL w5 bs (os + k * 3) [.int .i64 1, .int .i64 t.irq, .int .i64 t.prio]).heap.size = w5.heap.size := setL_size _ _ _ _
            have hE := Qu.step_free (ls := ls') (t := t) (rest := rest) HK.out
            rw [hE] at HS2 HP2 HM2
            have hu : Upd 127 3 w5 (setL w5 bs (os + k * 3) [.int .i64 1, .int .i64 t.irq, .int .i64 t.prio]) bs (os + k * 3) (Sl.cells s) (Sl.cells (Sl.pend t)) := by
              have := Upd.of_setL (E := 127) (sz := 3) (w := w5) (b := bs) (o := os + k * 3) (xs := Sl.cells s) (ys' := Sl.cells (Sl.pend t)) (ys := [.int .i64 1, .int .i64 t.irq, .int .i64 t.prio]) 0 rfl rfl (by simp)
              simpa using this
            refine ⟨_, _, _, _, _, _, _, _, HP2, HS2, HM2, setL_below hB _ bs _ (by omega), ⟨hQ.res.row hQ.os (by omega) (by decide) _ _, hQ.out.row hQ.os (by omega) (by decide) _ _, ?_, ?_, hQ.ne⟩⟩
            · exact (hQ.os.upd Sl.cells_len (by omega) HSK.out hu).mono (Nat.le_refl _) (by omega)
            · exact (hQ.ow.row_type hQ.os (by omega) (by decide) _ _).mono (Nat.le_refl _) (by omega)
          case measure => exact Nat.lt_succ_self _
        · have HK := Lib.hid hk
          have HF := Lib.hid hf
          have hkd : decide ((k : Int) < 0) = false := by simp
          have c7 := pendingSlot_any _ ls' false w5 hQ.os.rd (Nat.le_refl _) HG.out
          rw [hf]
          rw [show Sl.best false ls' ls'.length = k from hk] at c7
          clear hk hf h1 hlt HC
          go_wp2_with fail
          refine c7.mono ?_; rintro q_ w7 ⟨rfl, b7⟩
          replace hQ := hQ.below b7
          replace bT := bT.below b7 bT.lt
          have zb7 := b7.size
          replace hB := hB.trans (b7.mono hB.size)
          clear b7 x0 x1 y0 y1 zT
          clear c7
          have x0 := hQ.out.cell (j := 0) rfl
          have x1 := hQ.out.cell (j := 1) rfl
          have y0 := bT.cell (j := 0) rfl
          have y1 := bT.cell (j := 1) rfl
          replace zO := hQ.out.lt
          have zT := bT.lt
          have HSK2 := Lib.hid hsk
          have hN0 := hQ.os.rd.n_eq
          have hkn2 : k < n0 := by omega
          have hki2 : (k : Int) < (n0 : Int) := by omega
          clear hN0
          obtain ⟨bs, os, s', rfl, hs', hbs0, hbs, f0, f1, f2⟩ := Sl.get hQ.os.rd hkn2 (Below.refl w7.heap.size w7) (Nat.le_refl _)
          obtain rfl : s = s' := Option.some.inj (HSK2.out.symm.trans hs'.out)
          clear hs' hsk
          go_upto_region 7 with fail
          have e0 := cell_ext x0; have e1 := cell_ext x1; have e2 := cell_ext f0; have e3 := cell_ext f1; have e4 := cell_ext f2
          refine wp_region_ext 8 (by kernel_rfl) (by kernel_rfl) ?_
          simp only [List.take_succ_cons, List.take_zero, List.drop_succ_cons, List.drop_zero]
          repeat (quiet_step ((go_at_call 156; exact calls_ext (waiterOf_at _ _ _ _))))
          refine wpQuiet_nil ?_
          intro w8 b8
          clear e0 e1 e2 e3 e4 f0 f1 f2
          replace hQ := hQ.below b8
          replace bT := bT.below b8 bT.lt
          have zb8 := b8.size
          replace hB := hB.trans (b8.mono hB.size)
          clear b8 x0 x1 y0 y1 zT
          have x0 := hQ.out.cell (j := 0) rfl
          have x1 := hQ.out.cell (j := 1) rfl
          have y0 := bT.cell (j := 0) rfl
          have y1 := bT.cell (j := 1) rfl
          replace zO := hQ.out.lt
          have zT := bT.lt
          go_wp2_with fail
          refine (implWait_any _ rest ⟨s.irq, s.prio⟩ w8 hQ.ow.rd (Nat.le_refl _) (by have := HL.out.2; simp at this; omega)).mono ?_; rintro q_ w9 ⟨v9, rfl, o9, b9⟩
          obtain ⟨A7, n7, d7, rfl, _, _, _⟩ := o9.rd.form
          replace hQ := hQ.below b9
          replace bT := bT.below b9 bT.lt
          have zb9 := b9.size
          replace hB := hB.trans (b9.mono hB.size)
          clear b9 x0 x1 y0 y1 zT
          have x0 := hQ.out.cell (j := 0) rfl
          have x1 := hQ.out.cell (j := 1) rfl
          have y0 := bT.cell (j := 0) rfl
          have y1 := bT.cell (j := 1) rfl
          replace zO := hQ.out.lt
          have zT := bT.lt
          have oz := hQ.out.frozen
          go_upto_region 8 with fail
          generalize hwz : World.setCell _ _ _ = wz
          obtain rfl : wz = setL w9 gO 1 [.slice A7 n7 d7] := hwz.symm
          clear hwz
          have szd : (setL w9 gO 1 [.slice A7 n7 d7]).heap.size = w9.heap.size := setL_size _ _ _ _
          replace hB := setL_below hB [.slice A7 n7 d7] gO 1 hgO
          replace bT := bT.other bTn 1 [.slice A7 n7 d7]
          replace hQ : QI w.heap.size (setL w9 gO 1 [.slice A7 n7 d7]) (w.heap.size + 1) gO (.slice (some ⟨bs, os, none⟩) n0 d0) (.slice A7 n7 d7) ls' (Wt.ins rest ⟨s.irq, s.prio⟩) :=
            ⟨hQ.res.other hQ.ne 1 _, hQ.out.set1 _ (by simp), (hQ.os.box hQ.out (by decide) 1 _).mono (Nat.le_refl _) (by omega), (o9.box hQ.out (by decide) 1 _).mono (by omega) (by omega), hQ.ne⟩
          clear x0 x1 y0 y1 oz o9 zT
          generalize setL w9 gO 1 [.slice A7 n7 d7] = wd at *
          have x0 := hQ.out.cell (j := 0) rfl
          have x1 := hQ.out.cell (j := 1) rfl
          have y0 := bT.cell (j := 0) rfl
          have y1 := bT.cell (j := 1) rfl
          replace zO := hQ.out.lt
          have zT := bT.lt
          have hsk := HSK2.out
          have HSK := Lib.hid hsk
          have hN0 := hQ.os.rd.n_eq
          have hkn : k < n0 := by omega
          have hki : (k : Int) < (n0 : Int) := by omega
          clear hN0
          obtain ⟨bs', os', s', e_, hs', hbs0, hbs, f0, f1, f2⟩ := Sl.get hQ.os.rd hkn (Below.refl wd.heap.size wd) (Nat.le_refl _)
          injection e_ with e_
          injection e_ with e1_ e2_
          subst e1_; subst e2_
          obtain rfl : s = s' := Option.some.inj (HSK.out.symm.trans hs'.out)
          have sz := hQ.os.frozen (by omega)
          clear hs'
          go_wp2_with fail
          go_roundg m
          case rel =>
            generalize hwz : World.setCell (World.setCell (World.setCell _ _ _) _ _) _ _ = wz
            obtain rfl : wz = setL wd bs (os + k * 3) [.int .i64 1, .int .i64 t.irq, .int .i64 t.prio] := hwz.symm
            clear hwz
            have sz : (setL wd bs (os + k * 3) [.int .i64 1, .int .i64 t.irq, .int .i64 t.prio]).heap.size = wd.heap.size := setL_size _ _ _ _
            have hE := Qu.step_full (ls := ls') (t := t) (rest := rest) HF.out HK.out HSK.out
            rw [hE] at HS2 HP2 HM2
            have hu : Upd 127 3 wd (setL wd bs (os + k * 3) [.int .i64 1, .int .i64 t.irq, .int .i64 t.prio]) bs (os + k * 3) (Sl.cells s) (Sl.cells (Sl.pend t)) := by
              have := Upd.of_setL (E := 127) (sz := 3) (w := wd) (b := bs) (o := os + k * 3) (xs := Sl.cells s) (ys' := Sl.cells (Sl.pend t)) (ys := [.int .i64 1, .int .i64 t.irq, .int .i64 t.prio]) 0 rfl rfl (by simp)
              simpa using this
            refine ⟨_, _, _, _, _, _, _, _, HP2, HS2, HM2, setL_below hB _ bs _ (by omega), ⟨hQ.res.row hQ.os (by omega) (by decide) _ _, hQ.out.row hQ.os (by omega) (by decide) _ _, ?_, ?_, hQ.ne⟩⟩
            · exact (hQ.os.upd Sl.cells_len (by omega) HSK.out hu).mono (Nat.le_refl _) (by omega)
            · exact (hQ.ow.row_type hQ.os (by omega) (by decide) _ _).mono (Nat.le_refl _) (by omega)
          case measure => exact Nat.lt_succ_self _
    · have HF := Lib.hid ((HS.out).symm.trans (Qu.st_done hq))
      rw [hq] at cz
      clear hq
      go_wp2_with fail
      refine cz.mono ?_; rintro q_ w3 ⟨rfl, b3⟩
      replace hQ := hQ.below b3
      replace hB := hB.trans (b3.mono hB.size)
      clear b3 x0 x1 cz
      have x0 := hQ.out.cell (j := 0) rfl
      have x1 := hQ.out.cell (j := 1) rfl
      have r0 := hQ.res.cell (j := 0) rfl
      have r1 := hQ.res.cell (j := 1) rfl
      have rz := hQ.res.frozen
      have zO := hQ.out.lt
      have zR := hQ.res.lt
      go_wp2_with fail
      generalize hwz : World.setCell (World.setCell _ _ _) _ _ = wz
      obtain rfl : wz = setL w3 (w.heap.size + 1) 0 [.slice A0 n0 d0, .slice A1 n1 d1] := hwz.symm
      have bRz := hQ.res.setAll [.slice A0 n0 d0, .slice A1 n1 d1] rfl
      have u0 := bRz.cell (j := 0) rfl
      have u1 := bRz.cell (j := 1) rfl
      have oS := hQ.os.box hQ.res (by decide) 0 [.slice A0 n0 d0, .slice A1 n1 d1]
      have oW := hQ.ow.box hQ.res (by decide) 0 [.slice A0 n0 d0, .slice A1 n1 d1]
      have hbz := setL_below hB [.slice A0 n0 d0, .slice A1 n1 d1] (w.heap.size + 1) 0 (by omega)
      have sz : (setL w3 (w.heap.size + 1) 0 [.slice A0 n0 d0, .slice A1 n1 d1]).heap.size = w3.heap.size := setL_size _ _ _ _
      clear hwz hQ hB bRz x0 x1 r0 r1 rz
      generalize setL w3 (w.heap.size + 1) 0 [.slice A0 n0 d0, .slice A1 n1 d1] = wz at *
      refine bodyPost_ret (by simp only [results, Tryz.results145]; simp [go_sem, u0, u1]; rfl) rfl ?_
      exact ⟨_, _, rfl, by rw [HF.out]; exact oS.mono (Nat.le_refl _) (by omega), by rw [HF.out]; exact oW.mono (Nat.le_refl _) (by omega), hbz⟩

end Go.Proofs.YtengaccnncnipaaGreat
