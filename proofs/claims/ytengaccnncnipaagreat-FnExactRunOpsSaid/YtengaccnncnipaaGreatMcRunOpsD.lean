/- Lemmas and walks that the last text of this claim leans on, part 4. No condition. -/
import Derived.Test.YtengaccnncnipaaGreatMcRunOpsC
/- Offering an interrupt: the inner functions and the public ones, in the program and in the reference. Conditions: the inner ones want valid parts and a valid interrupt. -/
namespace Go.Proofs.YtengaccnncnipaaGreat
open Go.RowKit Go.ChangeShapes Go.WideShapes Go.Deep

set_option maxHeartbeats 8000000 in
theorem specOffer_in (vs vw : Value) (ls : List Sl) (lw : List Wt) (i p : Int) (w : World) {lo hi lo2 hi2 : Nat} (h : Rd Sl.cells 3 w lo hi vs ls) (h2 : Rd Wt.cells 2 w lo2 hi2 vw lw) (hh : hi ≤ w.heap.size) (hh2 : hi2 ≤ w.heap.size) (hp : Qu.parts ls lw = true) (hir : inB i 0 7 = true) (hpr : inB p 0 15 = true) :
    Calls Tryz.prog 118 #[.agg #[vs, vw], .int .i64 i, .int .i64 p] w fun e w' => ∃ v1 v2, e = .returned (.agg #[v1, v2]) ∧ Ow Sl.cells 3 127 w' w.heap.size w'.heap.size v1 (Qu.ofP ls lw i p).1 ∧ Ow Wt.cells 2 134 w' w.heap.size w'.heap.size v2 (Qu.ofP ls lw i p).2 ∧ Below w.heap.size w w' := by
  have b0 : Below w.heap.size w ((w.alloc (.cells #[vs, vw] 33)).alloc (.cells #[.slice none 0 0, .slice none 0 0] 33)) := ((Below.refl w.heap.size w).alloc (Nat.le_refl _) _).alloc (by simp) _
  have z0 : ((w.alloc (.cells #[vs, vw] 33)).alloc (.cells #[.slice none 0 0, .slice none 0 0] 33)).heap.size = w.heap.size + 2 := by simp
  have bq := Box.new w #[vs, vw] 33 rfl
  have bR := Box.new (g := w.heap.size + 1) (w.alloc (.cells #[vs, vw] 33)) #[.slice none 0 0, .slice none 0 0] 33 (by simp)
  replace bq := bq.below ((Below.refl _ (w.alloc (.cells #[vs, vw] 33))).alloc (Nat.le_refl _) (.cells #[.slice none 0 0, .slice none 0 0] 33)) bq.lt
  have hs := h.below b0 hh
  have hw := h2.below b0 hh2
  have hv_ := h.form
  have hv2_ := h2.form
  clear h h2
  generalize hwA : ((w.alloc (.cells #[vs, vw] 33)).alloc (.cells #[.slice none 0 0, .slice none 0 0] 33)) = wA at *
  obtain ⟨A0, n0, d0, rfl, _, _, _⟩ := hv_
  obtain ⟨A1, n1, d1, rfl, _, _, _⟩ := hv2_
  have hl1 := Sl.good_len (Qu.parts_get hp).1
  have hl2 := Qu.parts_len hp
  have hl : ls.length ≤ 1048576 := by omega
  have HPP := Lib.hid (Qu.of_parts hp hir hpr)
  have c1 := specFind_b _ ls i _ hs (by omega)
  by_cases hx : 0 ≤ Sl.ix ls i
  · have HF := Lib.hid (Qu.of_hit (lw := lw) (p := p) hx)
    rw [HF.out] at HPP
    have hd : decide ((0 : Int) ≤ Sl.ix ls i) = true := decide_eq_true hx
    generalize Sl.ix ls i = z at c1 hd
    clear hx hp hir hpr hl1 hl2
    go_enter Tryz.func118, Tryz.ntmps118
    have bq_0 := bq.cell (j := 0) rfl
    have bq_1 := bq.cell (j := 1) rfl
    have bq_z := bq.frozen
    have bq_l := bq.lt
    have bR_0 := bR.cell (j := 0) rfl
    have bR_1 := bR.cell (j := 1) rfl
    have bR_z := bR.frozen
    have bR_l := bR.lt
    go_wp2_with fail
    clear hwA
    clear bq_0 bq_1 bq_z bq_l bR_0 bR_1 bR_z bR_l
    refine (c1).mono ?_; rintro q_ w1 ⟨rfl, b_1⟩
    replace bq := bq.below b_1 bq.lt
    replace bR := bR.below b_1 bR.lt
    replace hs := hs.below b_1 (by omega)
    replace hw := hw.below b_1 (by omega)
    have z_2 := b_1.size
    replace b0 := b0.trans (b_1.mono (by omega))
    clear b_1
    have bq_0 := bq.cell (j := 0) rfl
    have bq_1 := bq.cell (j := 1) rfl
    have bq_z := bq.frozen
    have bq_l := bq.lt
    have bR_0 := bR.cell (j := 0) rfl
    have bR_1 := bR.cell (j := 1) rfl
    have bR_z := bR.frozen
    have bR_l := bR.lt
    go_wp2_with fail
    clear bq_0 bq_1 bq_z bq_l bR_0 bR_1 bR_z bR_l
    refine (specPut_in _ ls i p w1 hs (by omega) hl).mono ?_; rintro q_ w3 ⟨v3, rfl, o3, b_3⟩
    replace bq := bq.below b_3 bq.lt
    replace bR := bR.below b_3 bR.lt
    replace hs := hs.below b_3 (by omega)
    replace hw := hw.below b_3 (by omega)
    have z_4 := b_3.size
    replace b0 := b0.trans (b_3.mono (by omega))
    clear b_3
    obtain ⟨A3, n3, d3, rfl, _, _, _⟩ := o3.rd.form
    have bq_0 := bq.cell (j := 0) rfl
    have bq_1 := bq.cell (j := 1) rfl
    have bq_z := bq.frozen
    have bq_l := bq.lt
    have bR_0 := bR.cell (j := 0) rfl
    have bR_1 := bR.cell (j := 1) rfl
    have bR_z := bR.frozen
    have bR_l := bR.lt
    go_wp2_with fail
    clear bq_0 bq_1 bq_z bq_l bR_0 bR_1 bR_z bR_l
    refine (specSettle_any _ _ (Sl.putR ls i p) lw w3 o3.rd hw (by omega) (by omega) HPP.out).mono ?_; rintro q_ w5 ⟨v5, v6, rfl, o5, o6, b_5⟩
    replace bq := bq.below b_5 bq.lt
    replace bR := bR.below b_5 bR.lt
    replace hs := hs.below b_5 (by omega)
    replace hw := hw.below b_5 (by omega)
    replace o3 := o3.below b_5 (by omega)
    have z_6 := b_5.size
    replace b0 := b0.trans (b_5.mono (by omega))
    clear b_5
    obtain ⟨A5, n5, d5, rfl, _, _, _⟩ := o5.rd.form
    obtain ⟨A6, n6, d6, rfl, _, _, _⟩ := o6.rd.form
    have bq_0 := bq.cell (j := 0) rfl
    have bq_1 := bq.cell (j := 1) rfl
    have bq_z := bq.frozen
    have bq_l := bq.lt
    have bR_0 := bR.cell (j := 0) rfl
    have bR_1 := bR.cell (j := 1) rfl
    have bR_z := bR.frozen
    have bR_l := bR.lt
    go_wp2_with fail
    clear bq_0 bq_1 bq_z bq_l bR_0 bR_1 bR_z bR_l
    generalize hwz : World.setCell (World.setCell _ _ _) _ _ = wz_
    obtain rfl : wz_ = setL w5 (w.heap.size + 1) 0 [.slice A5 n5 d5, .slice A6 n6 d6] := hwz.symm
    clear hwz
    replace bq := bq.other (b := w.heap.size + 1) (by omega) 0 [.slice A5 n5 d5, .slice A6 n6 d6]
    replace hs := hs.away (g := w.heap.size + 1) (by omega) 0 [.slice A5 n5 d5, .slice A6 n6 d6]
    replace hw := hw.away (g := w.heap.size + 1) (by omega) 0 [.slice A5 n5 d5, .slice A6 n6 d6]
    replace o3 := o3.box (g := w.heap.size + 1) bR (by decide) 0 [.slice A5 n5 d5, .slice A6 n6 d6]
    replace o5 := o5.box (g := w.heap.size + 1) bR (by decide) 0 [.slice A5 n5 d5, .slice A6 n6 d6]
    replace o6 := o6.box (g := w.heap.size + 1) bR (by decide) 0 [.slice A5 n5 d5, .slice A6 n6 d6]
    replace b0 := setL_below b0 [.slice A5 n5 d5, .slice A6 n6 d6] (w.heap.size + 1) 0 (by omega)
    have zs_7 : (setL w5 (w.heap.size + 1) 0 [.slice A5 n5 d5, .slice A6 n6 d6]).heap.size = w5.heap.size := setL_size _ _ _ _
    replace bR := bR.setAll [.slice A5 n5 d5, .slice A6 n6 d6] rfl
    generalize setL w5 _ 0 _ = w7 at *
    have u0_ := bR.cell (j := 0) rfl
    have u1_ := bR.cell (j := 1) rfl
    refine bodyPost_ret (by simp only [results, Tryz.results118]; simp [go_sem, u0_, u1_]; rfl) rfl ?_
    exact ⟨_, _, rfl, by rw [Qu.ofP, HF.out]; exact o5.mono (by omega) (by omega), by rw [Qu.ofP, HF.out]; exact o6.mono (by omega) (by omega), b0⟩
  · have hx2 : Sl.ix ls i < 0 := by omega
    have hd : decide ((0 : Int) ≤ Sl.ix ls i) = false := decide_eq_false hx
    have hy := findIx_nonneg (Wt.isI i) lw
    cases ha : lw.any (Wt.isI i)
    · have HF := Lib.hid (Qu.of_new (p := p) hx2 ha)
      rw [HF.out] at HPP
      rw [ha] at hy
      have HL := Lib.hid hl2
      generalize Sl.ix ls i = z at c1 hd
      clear hx hx2 ha hp hir hpr hl1 hl2
      go_enter Tryz.func118, Tryz.ntmps118
      have bq_0 := bq.cell (j := 0) rfl
      have bq_1 := bq.cell (j := 1) rfl
      have bq_z := bq.frozen
      have bq_l := bq.lt
      have bR_0 := bR.cell (j := 0) rfl
      have bR_1 := bR.cell (j := 1) rfl
      have bR_z := bR.frozen
      have bR_l := bR.lt
      go_wp2_with fail
      clear hwA
      clear bq_0 bq_1 bq_z bq_l bR_0 bR_1 bR_z bR_l
      refine (c1).mono ?_; rintro q_ w1 ⟨rfl, b_1⟩
      replace bq := bq.below b_1 bq.lt
      replace bR := bR.below b_1 bR.lt
      replace hs := hs.below b_1 (by omega)
      replace hw := hw.below b_1 (by omega)
      have z_2 := b_1.size
      replace b0 := b0.trans (b_1.mono (by omega))
      clear b_1
      have bq_0 := bq.cell (j := 0) rfl
      have bq_1 := bq.cell (j := 1) rfl
      have bq_z := bq.frozen
      have bq_l := bq.lt
      have bR_0 := bR.cell (j := 0) rfl
      have bR_1 := bR.cell (j := 1) rfl
      have bR_z := bR.frozen
      have bR_l := bR.lt
      go_wp2_with fail
      clear bq_0 bq_1 bq_z bq_l bR_0 bR_1 bR_z bR_l
      have c2 := l9Has_any _ lw i w1 hw (by omega)
      generalize findIx (Wt.isI i) lw = y at c2 hy
      refine (c2).mono ?_; rintro q_ w_ ⟨rfl, rfl⟩
      have bq_0 := bq.cell (j := 0) rfl
      have bq_1 := bq.cell (j := 1) rfl
      have bq_z := bq.frozen
      have bq_l := bq.lt
      have bR_0 := bR.cell (j := 0) rfl
      have bR_1 := bR.cell (j := 1) rfl
      have bR_z := bR.frozen
      have bR_l := bR.lt
      go_upto_region 6 with fail
      clear bq_0 bq_1 bq_z bq_l bR_0 bR_1 bR_z bR_l
      refine wp_region_held_drew (S := fun W => Box W (w.heap.size) 33 [.slice A0 n0 d0, .slice A1 n1 d1]) (by kernel_rfl) (show (fun (W : World) => Box W (w.heap.size) 33 [.slice A0 n0 d0, .slice A1 n1 d1]) w1.drew from bq) (fun hHeld => ?_)
      refine wpAnyH_take (i := 0) (v := .pointer (some ⟨w.heap.size, 0, none⟩)) rfl (by kernel_rfl) (by kernel_rfl) (by kernel_rfl) (fun _ _ _ h => h) (Or.inl ⟨by rfl, by intro w hSw; have hS0 := hSw; have y00 := hS0.cell (j := 0) rfl; have y01 := hS0.cell (j := 1) rfl; go_simp⟩) hHeld ?_
      refine wpAnyH_take (i := 1) (v := .slice A0 n0 d0) rfl (by kernel_rfl) (by kernel_rfl) (by kernel_rfl) (fun _ _ _ h => h) (Or.inl ⟨by rfl, by intro w hSw; have hS0 := hSw; have y00 := hS0.cell (j := 0) rfl; have y01 := hS0.cell (j := 1) rfl; go_simp⟩) hHeld ?_
      refine wpAnyH_take (i := 2) (v := .pointer (some ⟨w.heap.size, 1, none⟩)) rfl (by kernel_rfl) (by kernel_rfl) (by kernel_rfl) (fun _ _ _ h => h) (Or.inl ⟨by rfl, by intro w hSw; have hS0 := hSw; have y00 := hS0.cell (j := 0) rfl; have y01 := hS0.cell (j := 1) rfl; go_simp⟩) hHeld ?_
      refine wpAnyH_take (i := 3) (v := .slice A1 n1 d1) rfl (by kernel_rfl) (by kernel_rfl) (by kernel_rfl) (fun _ _ _ h => h) (Or.inl ⟨by rfl, by intro w hSw; have hS0 := hSw; have y00 := hS0.cell (j := 0) rfl; have y01 := hS0.cell (j := 1) rfl; go_simp⟩) hHeld ?_
      refine wpAnyH_take (i := 4) (v := .int .i64 i) rfl (by kernel_rfl) (by kernel_rfl) (by kernel_rfl) (fun _ _ _ h => h) (Or.inl ⟨by rfl, by intro w hSw; have hS0 := hSw; have y00 := hS0.cell (j := 0) rfl; have y01 := hS0.cell (j := 1) rfl; go_simp⟩) hHeld ?_
      refine wpAnyH_take (i := 5) (v := .int .i64 p) rfl (by kernel_rfl) (by kernel_rfl) (by kernel_rfl) (fun _ _ _ h => h) (Or.inl ⟨by rfl, by intro w hSw; have hS0 := hSw; have y00 := hS0.cell (j := 0) rfl; have y01 := hS0.cell (j := 1) rfl; go_simp⟩) hHeld ?_
      refine wpAnyH_take (i := 6) (v := .agg #[.int .i64 i, .int .i64 p]) rfl (by kernel_rfl) (by kernel_rfl) (by kernel_rfl) (fun _ _ _ h => h) (Or.inl ⟨by rfl, by intro w hSw; have hS0 := hSw; have y00 := hS0.cell (j := 0) rfl; have y01 := hS0.cell (j := 1) rfl; go_simp⟩) hHeld ?_
      clear hHeld
      refine held_gen (F := fun W' => Below w1.heap.size w1 W') (Below.refl w1.heap.size w1).drew ?_
      rintro w3 b_3
      replace bq := bq.below b_3 bq.lt
      replace bR := bR.below b_3 bR.lt
      replace hs := hs.below b_3 (by omega)
      replace hw := hw.below b_3 (by omega)
      have z_4 := b_3.size
      replace b0 := b0.trans (b_3.mono (by omega))
      clear b_3
      refine wpAnyH_ready (rs := [7]) (by kernel_rfl) (by decide) ?_
      refine AllReadyH.cons rfl (fun K5 hK5 => ?_) AllReadyH.nil
      go_simp
      refine (specWait_any _ lw ⟨i, p⟩ w3 hw (by omega) (by have := HL.out; omega)).mono ?_; rintro q_ w6 ⟨v3, rfl, o3, b_6⟩
      replace bq := bq.below b_6 bq.lt
      replace bR := bR.below b_6 bR.lt
      replace hs := hs.below b_6 (by omega)
      replace hw := hw.below b_6 (by omega)
      have z_7 := b_6.size
      replace b0 := b0.trans (b_6.mono (by omega))
      clear b_6
      obtain ⟨A3, n3, d3, rfl, _, _, _⟩ := o3.rd.form
      refine hK5.out _ _ bq (fun _ => ?_)
      refine wpAnyH_ready (rs := [8]) (by kernel_rfl) (by decide) ?_
      refine AllReadyH.cons rfl (fun K8 hK8 => ?_) AllReadyH.nil
      go_simp
      refine hK8.out _ _ bq (fun _ => ?_)
      refine wpAnyH_ready (rs := [9]) (by kernel_rfl) (by decide) ?_
      refine AllReadyH.cons rfl (fun K9 hK9 => ?_) AllReadyH.nil
      go_simp
      refine (specSettle_any _ _ ls (Wt.ins lw ⟨i, p⟩) w6 hs o3.rd (by omega) (by omega) HPP.out).mono ?_; rintro q_ w10 ⟨v5, v6, rfl, o5, o6, b_10⟩
      replace bq := bq.below b_10 bq.lt
      replace bR := bR.below b_10 bR.lt
      replace hs := hs.below b_10 (by omega)
      replace hw := hw.below b_10 (by omega)
      replace o3 := o3.below b_10 (by omega)
      have z_11 := b_10.size
      replace b0 := b0.trans (b_10.mono (by omega))
      clear b_10
      obtain ⟨A5, n5, d5, rfl, _, _, _⟩ := o5.rd.form
      obtain ⟨A6, n6, d6, rfl, _, _, _⟩ := o6.rd.form
      refine hK9.out _ _ bq (fun _ => ?_)
      refine wpAnyH_ready (rs := [10]) (by kernel_rfl) (by decide) ?_
      refine AllReadyH.cons rfl (fun K12 hK12 => ?_) AllReadyH.nil
      have bq_0 := bq.cell (j := 0) rfl
      have bq_1 := bq.cell (j := 1) rfl
      have bq_z := bq.frozen
      have bq_l := bq.lt
      have bR_0 := bR.cell (j := 0) rfl
      have bR_1 := bR.cell (j := 1) rfl
      have bR_z := bR.frozen
      have bR_l := bR.lt
      go_simp
      clear bq_0 bq_1 bq_z bq_l bR_0 bR_1 bR_z bR_l
      generalize hwz : World.setCell (World.setCell _ _ _) _ _ = wz_
      obtain rfl : wz_ = setL w10 (w.heap.size + 1) 0 [.slice A5 n5 d5, .slice A6 n6 d6] := hwz.symm
      clear hwz
      replace bq := bq.other (b := w.heap.size + 1) (by omega) 0 [.slice A5 n5 d5, .slice A6 n6 d6]
      replace hs := hs.away (g := w.heap.size + 1) (by omega) 0 [.slice A5 n5 d5, .slice A6 n6 d6]
      replace hw := hw.away (g := w.heap.size + 1) (by omega) 0 [.slice A5 n5 d5, .slice A6 n6 d6]
      replace o3 := o3.box (g := w.heap.size + 1) bR (by decide) 0 [.slice A5 n5 d5, .slice A6 n6 d6]
      replace o5 := o5.box (g := w.heap.size + 1) bR (by decide) 0 [.slice A5 n5 d5, .slice A6 n6 d6]
      replace o6 := o6.box (g := w.heap.size + 1) bR (by decide) 0 [.slice A5 n5 d5, .slice A6 n6 d6]
      replace b0 := setL_below b0 [.slice A5 n5 d5, .slice A6 n6 d6] (w.heap.size + 1) 0 (by omega)
      have zs_13 : (setL w10 (w.heap.size + 1) 0 [.slice A5 n5 d5, .slice A6 n6 d6]).heap.size = w10.heap.size := setL_size _ _ _ _
      replace bR := bR.setAll [.slice A5 n5 d5, .slice A6 n6 d6] rfl
      generalize setL w10 _ 0 _ = w13 at *
      refine hK12.out _ _ bq (fun _ => ?_)
      refine ⟨by kernel_rfl, ?_⟩
      have bq_0 := bq.cell (j := 0) rfl
      have bq_1 := bq.cell (j := 1) rfl
      have bq_z := bq.frozen
      have bq_l := bq.lt
      have bR_0 := bR.cell (j := 0) rfl
      have bR_1 := bR.cell (j := 1) rfl
      have bR_z := bR.frozen
      have bR_l := bR.lt
      go_wp2_with fail
      clear bq_0 bq_1 bq_z bq_l bR_0 bR_1 bR_z bR_l
      have u0_ := bR.cell (j := 0) rfl
      have u1_ := bR.cell (j := 1) rfl
      refine bodyPost_ret (by simp only [results, Tryz.results118]; simp [go_sem, u0_, u1_]; rfl) rfl ?_
      exact ⟨_, _, rfl, by rw [Qu.ofP, HF.out]; exact o5.mono (by omega) (by omega), by rw [Qu.ofP, HF.out]; exact o6.mono (by omega) (by omega), b0⟩
    · have HF := Lib.hid (Qu.of_had (p := p) hx2 ha)
      rw [HF.out] at HPP
      rw [ha] at hy
      generalize Sl.ix ls i = z at c1 hd
      clear hx hx2 ha hp hir hpr hl1 hl2
      go_enter Tryz.func118, Tryz.ntmps118
      have bq_0 := bq.cell (j := 0) rfl
      have bq_1 := bq.cell (j := 1) rfl
      have bq_z := bq.frozen
      have bq_l := bq.lt
      have bR_0 := bR.cell (j := 0) rfl
      have bR_1 := bR.cell (j := 1) rfl
      have bR_z := bR.frozen
      have bR_l := bR.lt
      go_wp2_with fail
      clear hwA
      clear bq_0 bq_1 bq_z bq_l bR_0 bR_1 bR_z bR_l
      refine (c1).mono ?_; rintro q_ w1 ⟨rfl, b_1⟩
      replace bq := bq.below b_1 bq.lt
      replace bR := bR.below b_1 bR.lt
      replace hs := hs.below b_1 (by omega)
      replace hw := hw.below b_1 (by omega)
      have z_2 := b_1.size
      replace b0 := b0.trans (b_1.mono (by omega))
      clear b_1
      have bq_0 := bq.cell (j := 0) rfl
      have bq_1 := bq.cell (j := 1) rfl
      have bq_z := bq.frozen
      have bq_l := bq.lt
      have bR_0 := bR.cell (j := 0) rfl
      have bR_1 := bR.cell (j := 1) rfl
      have bR_z := bR.frozen
      have bR_l := bR.lt
      go_wp2_with fail
      clear bq_0 bq_1 bq_z bq_l bR_0 bR_1 bR_z bR_l
      have c2 := l9Has_any _ lw i w1 hw (by omega)
      generalize findIx (Wt.isI i) lw = y at c2 hy
      refine (c2).mono ?_; rintro q_ w_ ⟨rfl, rfl⟩
      have bq_0 := bq.cell (j := 0) rfl
      have bq_1 := bq.cell (j := 1) rfl
      have bq_z := bq.frozen
      have bq_l := bq.lt
      have bR_0 := bR.cell (j := 0) rfl
      have bR_1 := bR.cell (j := 1) rfl
      have bR_z := bR.frozen
      have bR_l := bR.lt
      go_wp2_with fail
      clear bq_0 bq_1 bq_z bq_l bR_0 bR_1 bR_z bR_l
      refine (specSettle_any _ _ ls lw w1 hs hw (by omega) (by omega) HPP.out).mono ?_; rintro q_ w3 ⟨v5, v6, rfl, o5, o6, b_3⟩
      replace bq := bq.below b_3 bq.lt
      replace bR := bR.below b_3 bR.lt
      replace hs := hs.below b_3 (by omega)
      replace hw := hw.below b_3 (by omega)
      have z_4 := b_3.size
      replace b0 := b0.trans (b_3.mono (by omega))
      clear b_3
      obtain ⟨A5, n5, d5, rfl, _, _, _⟩ := o5.rd.form
      obtain ⟨A6, n6, d6, rfl, _, _, _⟩ := o6.rd.form
      have bq_0 := bq.cell (j := 0) rfl
      have bq_1 := bq.cell (j := 1) rfl
      have bq_z := bq.frozen
      have bq_l := bq.lt
      have bR_0 := bR.cell (j := 0) rfl
      have bR_1 := bR.cell (j := 1) rfl
      have bR_z := bR.frozen
      have bR_l := bR.lt
      go_wp2_with fail
      clear bq_0 bq_1 bq_z bq_l bR_0 bR_1 bR_z bR_l
      generalize hwz : World.setCell (World.setCell _ _ _) _ _ = wz_
      obtain rfl : wz_ = setL w3 (w.heap.size + 1) 0 [.slice A5 n5 d5, .slice A6 n6 d6] := hwz.symm
      clear hwz
      replace bq := bq.other (b := w.heap.size + 1) (by omega) 0 [.slice A5 n5 d5, .slice A6 n6 d6]
      replace hs := hs.away (g := w.heap.size + 1) (by omega) 0 [.slice A5 n5 d5, .slice A6 n6 d6]
      replace hw := hw.away (g := w.heap.size + 1) (by omega) 0 [.slice A5 n5 d5, .slice A6 n6 d6]
      replace o5 := o5.box (g := w.heap.size + 1) bR (by decide) 0 [.slice A5 n5 d5, .slice A6 n6 d6]
      replace o6 := o6.box (g := w.heap.size + 1) bR (by decide) 0 [.slice A5 n5 d5, .slice A6 n6 d6]
      replace b0 := setL_below b0 [.slice A5 n5 d5, .slice A6 n6 d6] (w.heap.size + 1) 0 (by omega)
      have zs_5 : (setL w3 (w.heap.size + 1) 0 [.slice A5 n5 d5, .slice A6 n6 d6]).heap.size = w3.heap.size := setL_size _ _ _ _
      replace bR := bR.setAll [.slice A5 n5 d5, .slice A6 n6 d6] rfl
      generalize setL w3 _ 0 _ = w5 at *
      have u0_ := bR.cell (j := 0) rfl
      have u1_ := bR.cell (j := 1) rfl
      refine bodyPost_ret (by simp only [results, Tryz.results118]; simp [go_sem, u0_, u1_]; rfl) rfl ?_
      exact ⟨_, _, rfl, by rw [Qu.ofP, HF.out]; exact o5.mono (by omega) (by omega), by rw [Qu.ofP, HF.out]; exact o6.mono (by omega) (by omega), b0⟩
set_option maxHeartbeats 8000000 in
theorem implOffer_in (vs vw : Value) (ls : List Sl) (lw : List Wt) (i p : Int) (w : World) {lo hi lo2 hi2 : Nat} (h : Rd Sl.cells 3 w lo hi vs ls) (h2 : Rd Wt.cells 2 w lo2 hi2 vw lw) (hh : hi ≤ w.heap.size) (hh2 : hi2 ≤ w.heap.size) (hp : Qu.parts ls lw = true) (hir : inB i 0 7 = true) (hpr : inB p 0 15 = true) :
    Calls Tryz.prog 119 #[.agg #[vs, vw], .int .i64 i, .int .i64 p] w fun e w' => ∃ v1 v2, e = .returned (.agg #[v1, v2]) ∧ Ow Sl.cells 3 127 w' w.heap.size w'.heap.size v1 (Qu.ofP ls lw i p).1 ∧ Ow Wt.cells 2 134 w' w.heap.size w'.heap.size v2 (Qu.ofP ls lw i p).2 ∧ Below w.heap.size w w' := by
  have b0 : Below w.heap.size w ((w.alloc (.cells #[vs, vw] 33)).alloc (.cells #[.slice none 0 0, .slice none 0 0] 33)) := ((Below.refl w.heap.size w).alloc (Nat.le_refl _) _).alloc (by simp) _
  have z0 : ((w.alloc (.cells #[vs, vw] 33)).alloc (.cells #[.slice none 0 0, .slice none 0 0] 33)).heap.size = w.heap.size + 2 := by simp
  have bq := Box.new w #[vs, vw] 33 rfl
  have bR := Box.new (g := w.heap.size + 1) (w.alloc (.cells #[vs, vw] 33)) #[.slice none 0 0, .slice none 0 0] 33 (by simp)
  replace bq := bq.below ((Below.refl _ (w.alloc (.cells #[vs, vw] 33))).alloc (Nat.le_refl _) (.cells #[.slice none 0 0, .slice none 0 0] 33)) bq.lt
  have hs := h.below b0 hh
  have hw := h2.below b0 hh2
  have hv_ := h.form
  have hv2_ := h2.form
  clear h h2
  generalize hwA : ((w.alloc (.cells #[vs, vw] 33)).alloc (.cells #[.slice none 0 0, .slice none 0 0] 33)) = wA at *
  obtain ⟨A0, n0, d0, rfl, _, _, _⟩ := hv_
  obtain ⟨A1, n1, d1, rfl, _, _, _⟩ := hv2_
  have hl1 := Sl.good_len (Qu.parts_get hp).1
  have hl2 := Qu.parts_len hp
  have hl : ls.length ≤ 1048576 := by omega
  have HPP := Lib.hid (Qu.of_parts hp hir hpr)
  have HL := Lib.hid hl2
  have c0 := implOwn_any _ _ ls lw _ hs hw (by omega) (by omega) hl (by omega)
  have hy := findIx_neg (Wt.isI i) lw
  have c1 := fun W hs hh => implFind_b (.slice A0 n0 d0) ls i W (lo := lo) (hi := hi) hs hh
  by_cases hx : 0 ≤ Sl.ix ls i
  · have HF := Lib.hid (Qu.of_hit (lw := lw) (p := p) hx)
    rw [HF.out] at HPP
    have hd : decide ((0 : Int) ≤ Sl.ix ls i) = true := decide_eq_true hx
    generalize Sl.ix ls i = z at c1 hd
    clear hx hp hir hpr hl1 hl2 hy
    go_enter Tryz.func119, Tryz.ntmps119
    have bq_0 := bq.cell (j := 0) rfl
    have bq_1 := bq.cell (j := 1) rfl
    have bq_z := bq.frozen
    have bq_l := bq.lt
    have bR_0 := bR.cell (j := 0) rfl
    have bR_1 := bR.cell (j := 1) rfl
    have bR_z := bR.frozen
    have bR_l := bR.lt
    go_wp2_with fail
    clear hwA
    clear bq_0 bq_1 bq_z bq_l bR_0 bR_1 bR_z bR_l
    refine (c0).mono ?_; rintro q_ w1 ⟨v7, v8, rfl, o7, o8, b_1⟩
    replace bq := bq.below b_1 bq.lt
    replace bR := bR.below b_1 bR.lt
    replace hs := hs.below b_1 (by omega)
    replace hw := hw.below b_1 (by omega)
    have z_2 := b_1.size
    replace b0 := b0.trans (b_1.mono (by omega))
    clear b_1
    obtain ⟨A7, n7, d7, rfl, _, _, _⟩ := o7.rd.form
    obtain ⟨A8, n8, d8, rfl, _, _, _⟩ := o8.rd.form
    have bq_0 := bq.cell (j := 0) rfl
    have bq_1 := bq.cell (j := 1) rfl
    have bq_z := bq.frozen
    have bq_l := bq.lt
    have bR_0 := bR.cell (j := 0) rfl
    have bR_1 := bR.cell (j := 1) rfl
    have bR_z := bR.frozen
    have bR_l := bR.lt
    go_upto_region 2 with fail
    clear bq_0 bq_1 bq_z bq_l bR_0 bR_1 bR_z bR_l
    have b_3 := (Below.refl w1.heap.size w1).alloc (Nat.le_refl _) (.cells #[.slice A7 n7 d7, .slice A8 n8 d8] 33)
    have bo := Box.new w1 #[.slice A7 n7 d7, .slice A8 n8 d8] 33 rfl
    replace bq := bq.below b_3 bq.lt
    replace bR := bR.below b_3 bR.lt
    replace hs := hs.below b_3 (by omega)
    replace hw := hw.below b_3 (by omega)
    replace o7 := o7.below b_3 (by omega)
    replace o8 := o8.below b_3 (by omega)
    have z_4 := b_3.size
    replace b0 := b0.trans (b_3.mono (by omega))
    clear b_3
    generalize w1.alloc _ = w3 at *
    generalize w1.heap.size = g3 at *
    have bq_0 := bq.cell (j := 0) rfl
    have bq_1 := bq.cell (j := 1) rfl
    have bq_z := bq.frozen
    have bq_l := bq.lt
    have bR_0 := bR.cell (j := 0) rfl
    have bR_1 := bR.cell (j := 1) rfl
    have bR_z := bR.frozen
    have bR_l := bR.lt
    have bo_0 := bo.cell (j := 0) rfl
    have bo_1 := bo.cell (j := 1) rfl
    have bo_z := bo.frozen
    have bo_l := bo.lt
    go_wp2_with fail
    clear bq_0 bq_1 bq_z bq_l bR_0 bR_1 bR_z bR_l bo_0 bo_1 bo_z bo_l
    refine (c1 w3 hs (by omega)).mono ?_; rintro q_ w5 ⟨rfl, b_5⟩
    replace bq := bq.below b_5 bq.lt
    replace bR := bR.below b_5 bR.lt
    replace bo := bo.below b_5 bo.lt
    replace hs := hs.below b_5 (by omega)
    replace hw := hw.below b_5 (by omega)
    replace o7 := o7.below b_5 (by omega)
    replace o8 := o8.below b_5 (by omega)
    have z_6 := b_5.size
    replace b0 := b0.trans (b_5.mono (by omega))
    clear b_5
    have bq_0 := bq.cell (j := 0) rfl
    have bq_1 := bq.cell (j := 1) rfl
    have bq_z := bq.frozen
    have bq_l := bq.lt
    have bR_0 := bR.cell (j := 0) rfl
    have bR_1 := bR.cell (j := 1) rfl
    have bR_z := bR.frozen
    have bR_l := bR.lt
    have bo_0 := bo.cell (j := 0) rfl
    have bo_1 := bo.cell (j := 1) rfl
    have bo_z := bo.frozen
    have bo_l := bo.lt
    go_wp2_with fail
    clear bq_0 bq_1 bq_z bq_l bR_0 bR_1 bR_z bR_l bo_0 bo_1 bo_z bo_l
    refine (implPut_in _ ls i p w5 hs (by omega) hl).mono ?_; rintro q_ w7 ⟨v3, rfl, o3, b_7⟩
    replace bq := bq.below b_7 bq.lt
    replace bR := bR.below b_7 bR.lt
    replace bo := bo.below b_7 bo.lt
    replace hs := hs.below b_7 (by omega)
    replace hw := hw.below b_7 (by omega)
    replace o7 := o7.below b_7 (by omega)
    replace o8 := o8.below b_7 (by omega)
    have z_8 := b_7.size
    replace b0 := b0.trans (b_7.mono (by omega))
    clear b_7
    obtain ⟨A3, n3, d3, rfl, _, _, _⟩ := o3.rd.form
    have bq_0 := bq.cell (j := 0) rfl
    have bq_1 := bq.cell (j := 1) rfl
    have bq_z := bq.frozen
    have bq_l := bq.lt
    have bR_0 := bR.cell (j := 0) rfl
    have bR_1 := bR.cell (j := 1) rfl
    have bR_z := bR.frozen
    have bR_l := bR.lt
    have bo_0 := bo.cell (j := 0) rfl
    have bo_1 := bo.cell (j := 1) rfl
    have bo_z := bo.frozen
    have bo_l := bo.lt
    go_upto_region 6 with fail
    clear bq_0 bq_1 bq_z bq_l bR_0 bR_1 bR_z bR_l bo_0 bo_1 bo_z bo_l
    generalize hwz : World.setCell _ _ _ = wz_
    obtain rfl : wz_ = setL w7 (g3) 0 [.slice A3 n3 d3] := hwz.symm
    clear hwz
    replace bq := bq.other (b := g3) (by omega) 0 [.slice A3 n3 d3]
    replace bR := bR.other (b := g3) (by omega) 0 [.slice A3 n3 d3]
    replace hs := hs.away (g := g3) (by omega) 0 [.slice A3 n3 d3]
    replace hw := hw.away (g := g3) (by omega) 0 [.slice A3 n3 d3]
    replace o7 := o7.box (g := g3) bo (by decide) 0 [.slice A3 n3 d3]
    replace o8 := o8.box (g := g3) bo (by decide) 0 [.slice A3 n3 d3]
    replace o3 := o3.box (g := g3) bo (by decide) 0 [.slice A3 n3 d3]
    replace b0 := setL_below b0 [.slice A3 n3 d3] (g3) 0 (by omega)
    have zs_9 : (setL w7 (g3) 0 [.slice A3 n3 d3]).heap.size = w7.heap.size := setL_size _ _ _ _
    replace bo := bo.set1 (j := 0) (.slice A3 n3 d3) (by simp)
    generalize setL w7 _ 0 _ = w9 at *
    have bq_0 := bq.cell (j := 0) rfl
    have bq_1 := bq.cell (j := 1) rfl
    have bq_z := bq.frozen
    have bq_l := bq.lt
    have bR_0 := bR.cell (j := 0) rfl
    have bR_1 := bR.cell (j := 1) rfl
    have bR_z := bR.frozen
    have bR_l := bR.lt
    have bo_0 := bo.cell (j := 0) rfl
    have bo_1 := bo.cell (j := 1) rfl
    have bo_z := bo.frozen
    have bo_l := bo.lt
    go_wp2_with fail
    clear bq_0 bq_1 bq_z bq_l bR_0 bR_1 bR_z bR_l bo_0 bo_1 bo_z bo_l
    refine (implSettle_any _ _ (Sl.putR ls i p) lw w9 o3.rd o8.rd (by omega) (by omega) HPP.out).mono ?_; rintro q_ w10 ⟨v5, v6, rfl, o5, o6, b_10⟩
    replace bq := bq.below b_10 bq.lt
    replace bR := bR.below b_10 bR.lt
    replace bo := bo.below b_10 bo.lt
    replace hs := hs.below b_10 (by omega)
    replace hw := hw.below b_10 (by omega)
    replace o7 := o7.below b_10 (by omega)
    replace o8 := o8.below b_10 (by omega)
    replace o3 := o3.below b_10 (by omega)
    have z_11 := b_10.size
    replace b0 := b0.trans (b_10.mono (by omega))
    clear b_10
    obtain ⟨A5, n5, d5, rfl, _, _, _⟩ := o5.rd.form
    obtain ⟨A6, n6, d6, rfl, _, _, _⟩ := o6.rd.form
    have bq_0 := bq.cell (j := 0) rfl
    have bq_1 := bq.cell (j := 1) rfl
    have bq_z := bq.frozen
    have bq_l := bq.lt
    have bR_0 := bR.cell (j := 0) rfl
    have bR_1 := bR.cell (j := 1) rfl
    have bR_z := bR.frozen
    have bR_l := bR.lt
    have bo_0 := bo.cell (j := 0) rfl
    have bo_1 := bo.cell (j := 1) rfl
    have bo_z := bo.frozen
    have bo_l := bo.lt
    go_wp2_with fail
    clear bq_0 bq_1 bq_z bq_l bR_0 bR_1 bR_z bR_l bo_0 bo_1 bo_z bo_l
    generalize hwz : World.setCell (World.setCell _ _ _) _ _ = wz_
    obtain rfl : wz_ = setL w10 (w.heap.size + 1) 0 [.slice A5 n5 d5, .slice A6 n6 d6] := hwz.symm
    clear hwz
    replace bq := bq.other (b := w.heap.size + 1) (by omega) 0 [.slice A5 n5 d5, .slice A6 n6 d6]
    replace bo := bo.other (b := w.heap.size + 1) (by omega) 0 [.slice A5 n5 d5, .slice A6 n6 d6]
    replace hs := hs.away (g := w.heap.size + 1) (by omega) 0 [.slice A5 n5 d5, .slice A6 n6 d6]
    replace hw := hw.away (g := w.heap.size + 1) (by omega) 0 [.slice A5 n5 d5, .slice A6 n6 d6]
    replace o7 := o7.box (g := w.heap.size + 1) bR (by decide) 0 [.slice A5 n5 d5, .slice A6 n6 d6]
    replace o8 := o8.box (g := w.heap.size + 1) bR (by decide) 0 [.slice A5 n5 d5, .slice A6 n6 d6]
    replace o3 := o3.box (g := w.heap.size + 1) bR (by decide) 0 [.slice A5 n5 d5, .slice A6 n6 d6]
    replace o5 := o5.box (g := w.heap.size + 1) bR (by decide) 0 [.slice A5 n5 d5, .slice A6 n6 d6]
    replace o6 := o6.box (g := w.heap.size + 1) bR (by decide) 0 [.slice A5 n5 d5, .slice A6 n6 d6]
    replace b0 := setL_below b0 [.slice A5 n5 d5, .slice A6 n6 d6] (w.heap.size + 1) 0 (by omega)
    have zs_12 : (setL w10 (w.heap.size + 1) 0 [.slice A5 n5 d5, .slice A6 n6 d6]).heap.size = w10.heap.size := setL_size _ _ _ _
    replace bR := bR.setAll [.slice A5 n5 d5, .slice A6 n6 d6] rfl
    generalize setL w10 _ 0 _ = w12 at *
    have u0_ := bR.cell (j := 0) rfl
    have u1_ := bR.cell (j := 1) rfl
    refine bodyPost_ret (by simp only [results, Tryz.results119]; simp [go_sem, u0_, u1_]; rfl) rfl ?_
    exact ⟨_, _, rfl, by rw [Qu.ofP, HF.out]; exact o5.mono (by omega) (by omega), by rw [Qu.ofP, HF.out]; exact o6.mono (by omega) (by omega), b0⟩
  · have hx2 : Sl.ix ls i < 0 := by omega
    have hd : decide ((0 : Int) ≤ Sl.ix ls i) = false := decide_eq_false hx
    cases ha : lw.any (Wt.isI i)
    · have HF := Lib.hid (Qu.of_new (p := p) hx2 ha)
      rw [HF.out] at HPP
      rw [ha] at hy
      generalize Sl.ix ls i = z at c1 hd
      clear hx hx2 ha hp hir hpr hl1 hl2
      go_enter Tryz.func119, Tryz.ntmps119
      have bq_0 := bq.cell (j := 0) rfl
      have bq_1 := bq.cell (j := 1) rfl
      have bq_z := bq.frozen
      have bq_l := bq.lt
      have bR_0 := bR.cell (j := 0) rfl
      have bR_1 := bR.cell (j := 1) rfl
      have bR_z := bR.frozen
      have bR_l := bR.lt
      go_wp2_with fail
      clear hwA
      clear bq_0 bq_1 bq_z bq_l bR_0 bR_1 bR_z bR_l
      refine (c0).mono ?_; rintro q_ w1 ⟨v7, v8, rfl, o7, o8, b_1⟩
      replace bq := bq.below b_1 bq.lt
      replace bR := bR.below b_1 bR.lt
      replace hs := hs.below b_1 (by omega)
      replace hw := hw.below b_1 (by omega)
      have z_2 := b_1.size
      replace b0 := b0.trans (b_1.mono (by omega))
      clear b_1
      obtain ⟨A7, n7, d7, rfl, _, _, _⟩ := o7.rd.form
      obtain ⟨A8, n8, d8, rfl, _, _, _⟩ := o8.rd.form
      have bq_0 := bq.cell (j := 0) rfl
      have bq_1 := bq.cell (j := 1) rfl
      have bq_z := bq.frozen
      have bq_l := bq.lt
      have bR_0 := bR.cell (j := 0) rfl
      have bR_1 := bR.cell (j := 1) rfl
      have bR_z := bR.frozen
      have bR_l := bR.lt
      go_upto_region 2 with fail
      clear bq_0 bq_1 bq_z bq_l bR_0 bR_1 bR_z bR_l
      have b_3 := (Below.refl w1.heap.size w1).alloc (Nat.le_refl _) (.cells #[.slice A7 n7 d7, .slice A8 n8 d8] 33)
      have bo := Box.new w1 #[.slice A7 n7 d7, .slice A8 n8 d8] 33 rfl
      replace bq := bq.below b_3 bq.lt
      replace bR := bR.below b_3 bR.lt
      replace hs := hs.below b_3 (by omega)
      replace hw := hw.below b_3 (by omega)
      replace o7 := o7.below b_3 (by omega)
      replace o8 := o8.below b_3 (by omega)
      have z_4 := b_3.size
      replace b0 := b0.trans (b_3.mono (by omega))
      clear b_3
      generalize w1.alloc _ = w3 at *
      generalize w1.heap.size = g3 at *
      have bq_0 := bq.cell (j := 0) rfl
      have bq_1 := bq.cell (j := 1) rfl
      have bq_z := bq.frozen
      have bq_l := bq.lt
      have bR_0 := bR.cell (j := 0) rfl
      have bR_1 := bR.cell (j := 1) rfl
      have bR_z := bR.frozen
      have bR_l := bR.lt
      have bo_0 := bo.cell (j := 0) rfl
      have bo_1 := bo.cell (j := 1) rfl
      have bo_z := bo.frozen
      have bo_l := bo.lt
      go_wp2_with fail
      clear bq_0 bq_1 bq_z bq_l bR_0 bR_1 bR_z bR_l bo_0 bo_1 bo_z bo_l
      refine (c1 w3 hs (by omega)).mono ?_; rintro q_ w5 ⟨rfl, b_5⟩
      replace bq := bq.below b_5 bq.lt
      replace bR := bR.below b_5 bR.lt
      replace bo := bo.below b_5 bo.lt
      replace hs := hs.below b_5 (by omega)
      replace hw := hw.below b_5 (by omega)
      replace o7 := o7.below b_5 (by omega)
      replace o8 := o8.below b_5 (by omega)
      have z_6 := b_5.size
      replace b0 := b0.trans (b_5.mono (by omega))
      clear b_5
      have bq_0 := bq.cell (j := 0) rfl
      have bq_1 := bq.cell (j := 1) rfl
      have bq_z := bq.frozen
      have bq_l := bq.lt
      have bR_0 := bR.cell (j := 0) rfl
      have bR_1 := bR.cell (j := 1) rfl
      have bR_z := bR.frozen
      have bR_l := bR.lt
      have bo_0 := bo.cell (j := 0) rfl
      have bo_1 := bo.cell (j := 1) rfl
      have bo_z := bo.frozen
      have bo_l := bo.lt
      go_wp2_with fail
      clear bq_0 bq_1 bq_z bq_l bR_0 bR_1 bR_z bR_l bo_0 bo_1 bo_z bo_l
      have c2 := waiterIndex_any _ lw i w5 hw (by omega)
      generalize findIx (Wt.isI i) lw = y at c2 hy
      refine (c2).mono ?_; rintro q_ w7 ⟨rfl, b_7⟩
      replace bq := bq.below b_7 bq.lt
      replace bR := bR.below b_7 bR.lt
      replace bo := bo.below b_7 bo.lt
      replace hs := hs.below b_7 (by omega)
      replace hw := hw.below b_7 (by omega)
      replace o7 := o7.below b_7 (by omega)
      replace o8 := o8.below b_7 (by omega)
      have z_8 := b_7.size
      replace b0 := b0.trans (b_7.mono (by omega))
      clear b_7
      have bq_0 := bq.cell (j := 0) rfl
      have bq_1 := bq.cell (j := 1) rfl
      have bq_z := bq.frozen
      have bq_l := bq.lt
      have bR_0 := bR.cell (j := 0) rfl
      have bR_1 := bR.cell (j := 1) rfl
      have bR_z := bR.frozen
      have bR_l := bR.lt
      have bo_0 := bo.cell (j := 0) rfl
      have bo_1 := bo.cell (j := 1) rfl
      have bo_z := bo.frozen
      have bo_l := bo.lt
      go_wp2_with fail
      clear bq_0 bq_1 bq_z bq_l bR_0 bR_1 bR_z bR_l bo_0 bo_1 bo_z bo_l
      refine (implWait_any _ lw ⟨i, p⟩ w7 hw (by omega) (by have := HL.out; omega)).mono ?_; rintro q_ w9 ⟨v3, rfl, o3, b_9⟩
      replace bq := bq.below b_9 bq.lt
      replace bR := bR.below b_9 bR.lt
      replace bo := bo.below b_9 bo.lt
      replace hs := hs.below b_9 (by omega)
      replace hw := hw.below b_9 (by omega)
      replace o7 := o7.below b_9 (by omega)
      replace o8 := o8.below b_9 (by omega)
      have z_10 := b_9.size
      replace b0 := b0.trans (b_9.mono (by omega))
      clear b_9
      obtain ⟨A3, n3, d3, rfl, _, _, _⟩ := o3.rd.form
      have bq_0 := bq.cell (j := 0) rfl
      have bq_1 := bq.cell (j := 1) rfl
      have bq_z := bq.frozen
      have bq_l := bq.lt
      have bR_0 := bR.cell (j := 0) rfl
      have bR_1 := bR.cell (j := 1) rfl
      have bR_z := bR.frozen
      have bR_l := bR.lt
      have bo_0 := bo.cell (j := 0) rfl
      have bo_1 := bo.cell (j := 1) rfl
      have bo_z := bo.frozen
      have bo_l := bo.lt
      go_upto_region 6 with fail
      clear bq_0 bq_1 bq_z bq_l bR_0 bR_1 bR_z bR_l bo_0 bo_1 bo_z bo_l
      generalize hwz : World.setCell _ _ _ = wz_
      obtain rfl : wz_ = setL w9 (g3) 1 [.slice A3 n3 d3] := hwz.symm
      clear hwz
      replace bq := bq.other (b := g3) (by omega) 1 [.slice A3 n3 d3]
      replace bR := bR.other (b := g3) (by omega) 1 [.slice A3 n3 d3]
      replace hs := hs.away (g := g3) (by omega) 1 [.slice A3 n3 d3]
      replace hw := hw.away (g := g3) (by omega) 1 [.slice A3 n3 d3]
      replace o7 := o7.box (g := g3) bo (by decide) 1 [.slice A3 n3 d3]
      replace o8 := o8.box (g := g3) bo (by decide) 1 [.slice A3 n3 d3]
      replace o3 := o3.box (g := g3) bo (by decide) 1 [.slice A3 n3 d3]
      replace b0 := setL_below b0 [.slice A3 n3 d3] (g3) 1 (by omega)
      have zs_11 : (setL w9 (g3) 1 [.slice A3 n3 d3]).heap.size = w9.heap.size := setL_size _ _ _ _
      replace bo := bo.set1 (j := 1) (.slice A3 n3 d3) (by simp)
      generalize setL w9 _ 1 _ = w11 at *
      have bq_0 := bq.cell (j := 0) rfl
      have bq_1 := bq.cell (j := 1) rfl
      have bq_z := bq.frozen
      have bq_l := bq.lt
      have bR_0 := bR.cell (j := 0) rfl
      have bR_1 := bR.cell (j := 1) rfl
      have bR_z := bR.frozen
      have bR_l := bR.lt
      have bo_0 := bo.cell (j := 0) rfl
      have bo_1 := bo.cell (j := 1) rfl
      have bo_z := bo.frozen
      have bo_l := bo.lt
      go_wp2_with fail
      clear bq_0 bq_1 bq_z bq_l bR_0 bR_1 bR_z bR_l bo_0 bo_1 bo_z bo_l
      refine (implSettle_any _ _ ls (Wt.ins lw ⟨i, p⟩) w11 o7.rd o3.rd (by omega) (by omega) HPP.out).mono ?_; rintro q_ w12 ⟨v5, v6, rfl, o5, o6, b_12⟩
      replace bq := bq.below b_12 bq.lt
      replace bR := bR.below b_12 bR.lt
      replace bo := bo.below b_12 bo.lt
      replace hs := hs.below b_12 (by omega)
      replace hw := hw.below b_12 (by omega)
      replace o7 := o7.below b_12 (by omega)
      replace o8 := o8.below b_12 (by omega)
      replace o3 := o3.below b_12 (by omega)
      have z_13 := b_12.size
      replace b0 := b0.trans (b_12.mono (by omega))
      clear b_12
      obtain ⟨A5, n5, d5, rfl, _, _, _⟩ := o5.rd.form
      obtain ⟨A6, n6, d6, rfl, _, _, _⟩ := o6.rd.form
      have bq_0 := bq.cell (j := 0) rfl
      have bq_1 := bq.cell (j := 1) rfl
      have bq_z := bq.frozen
      have bq_l := bq.lt
      have bR_0 := bR.cell (j := 0) rfl
      have bR_1 := bR.cell (j := 1) rfl
      have bR_z := bR.frozen
      have bR_l := bR.lt
      have bo_0 := bo.cell (j := 0) rfl
      have bo_1 := bo.cell (j := 1) rfl
      have bo_z := bo.frozen
      have bo_l := bo.lt
      go_wp2_with fail
      clear bq_0 bq_1 bq_z bq_l bR_0 bR_1 bR_z bR_l bo_0 bo_1 bo_z bo_l
      generalize hwz : World.setCell (World.setCell _ _ _) _ _ = wz_
      obtain rfl : wz_ = setL w12 (w.heap.size + 1) 0 [.slice A5 n5 d5, .slice A6 n6 d6] := hwz.symm
      clear hwz
      replace bq := bq.other (b := w.heap.size + 1) (by omega) 0 [.slice A5 n5 d5, .slice A6 n6 d6]
      replace bo := bo.other (b := w.heap.size + 1) (by omega) 0 [.slice A5 n5 d5, .slice A6 n6 d6]
      replace hs := hs.away (g := w.heap.size + 1) (by omega) 0 [.slice A5 n5 d5, .slice A6 n6 d6]
      replace hw := hw.away (g := w.heap.size + 1) (by omega) 0 [.slice A5 n5 d5, .slice A6 n6 d6]
      replace o7 := o7.box (g := w.heap.size + 1) bR (by decide) 0 [.slice A5 n5 d5, .slice A6 n6 d6]
      replace o8 := o8.box (g := w.heap.size + 1) bR (by decide) 0 [.slice A5 n5 d5, .slice A6 n6 d6]
      replace o3 := o3.box (g := w.heap.size + 1) bR (by decide) 0 [.slice A5 n5 d5, .slice A6 n6 d6]
      replace o5 := o5.box (g := w.heap.size + 1) bR (by decide) 0 [.slice A5 n5 d5, .slice A6 n6 d6]
      replace o6 := o6.box (g := w.heap.size + 1) bR (by decide) 0 [.slice A5 n5 d5, .slice A6 n6 d6]
      replace b0 := setL_below b0 [.slice A5 n5 d5, .slice A6 n6 d6] (w.heap.size + 1) 0 (by omega)
      have zs_14 : (setL w12 (w.heap.size + 1) 0 [.slice A5 n5 d5, .slice A6 n6 d6]).heap.size = w12.heap.size := setL_size _ _ _ _
      replace bR := bR.setAll [.slice A5 n5 d5, .slice A6 n6 d6] rfl
      generalize setL w12 _ 0 _ = w14 at *
      have u0_ := bR.cell (j := 0) rfl
      have u1_ := bR.cell (j := 1) rfl
      refine bodyPost_ret (by simp only [results, Tryz.results119]; simp [go_sem, u0_, u1_]; rfl) rfl ?_
      exact ⟨_, _, rfl, by rw [Qu.ofP, HF.out]; exact o5.mono (by omega) (by omega), by rw [Qu.ofP, HF.out]; exact o6.mono (by omega) (by omega), b0⟩
    · have HF := Lib.hid (Qu.of_had (p := p) hx2 ha)
      rw [HF.out] at HPP
      rw [ha] at hy
      generalize Sl.ix ls i = z at c1 hd
      clear hx hx2 ha hp hir hpr hl1 hl2
      go_enter Tryz.func119, Tryz.ntmps119
      have bq_0 := bq.cell (j := 0) rfl
      have bq_1 := bq.cell (j := 1) rfl
      have bq_z := bq.frozen
      have bq_l := bq.lt
      have bR_0 := bR.cell (j := 0) rfl
      have bR_1 := bR.cell (j := 1) rfl
      have bR_z := bR.frozen
      have bR_l := bR.lt
      go_wp2_with fail
      clear hwA
      clear bq_0 bq_1 bq_z bq_l bR_0 bR_1 bR_z bR_l
      refine (c0).mono ?_; rintro q_ w1 ⟨v7, v8, rfl, o7, o8, b_1⟩
      replace bq := bq.below b_1 bq.lt
      replace bR := bR.below b_1 bR.lt
      replace hs := hs.below b_1 (by omega)
      replace hw := hw.below b_1 (by omega)
      have z_2 := b_1.size
      replace b0 := b0.trans (b_1.mono (by omega))
      clear b_1
      obtain ⟨A7, n7, d7, rfl, _, _, _⟩ := o7.rd.form
      obtain ⟨A8, n8, d8, rfl, _, _, _⟩ := o8.rd.form
      have bq_0 := bq.cell (j := 0) rfl
      have bq_1 := bq.cell (j := 1) rfl
      have bq_z := bq.frozen
      have bq_l := bq.lt
      have bR_0 := bR.cell (j := 0) rfl
      have bR_1 := bR.cell (j := 1) rfl
      have bR_z := bR.frozen
      have bR_l := bR.lt
      go_upto_region 2 with fail
      clear bq_0 bq_1 bq_z bq_l bR_0 bR_1 bR_z bR_l
      have b_3 := (Below.refl w1.heap.size w1).alloc (Nat.le_refl _) (.cells #[.slice A7 n7 d7, .slice A8 n8 d8] 33)
      have bo := Box.new w1 #[.slice A7 n7 d7, .slice A8 n8 d8] 33 rfl
      replace bq := bq.below b_3 bq.lt
      replace bR := bR.below b_3 bR.lt
      replace hs := hs.below b_3 (by omega)
      replace hw := hw.below b_3 (by omega)
      replace o7 := o7.below b_3 (by omega)
      replace o8 := o8.below b_3 (by omega)
      have z_4 := b_3.size
      replace b0 := b0.trans (b_3.mono (by omega))
      clear b_3
      generalize w1.alloc _ = w3 at *
      generalize w1.heap.size = g3 at *
      have bq_0 := bq.cell (j := 0) rfl
      have bq_1 := bq.cell (j := 1) rfl
      have bq_z := bq.frozen
      have bq_l := bq.lt
      have bR_0 := bR.cell (j := 0) rfl
      have bR_1 := bR.cell (j := 1) rfl
      have bR_z := bR.frozen
      have bR_l := bR.lt
      have bo_0 := bo.cell (j := 0) rfl
      have bo_1 := bo.cell (j := 1) rfl
      have bo_z := bo.frozen
      have bo_l := bo.lt
      go_wp2_with fail
      clear bq_0 bq_1 bq_z bq_l bR_0 bR_1 bR_z bR_l bo_0 bo_1 bo_z bo_l
      refine (c1 w3 hs (by omega)).mono ?_; rintro q_ w5 ⟨rfl, b_5⟩
      replace bq := bq.below b_5 bq.lt
      replace bR := bR.below b_5 bR.lt
      replace bo := bo.below b_5 bo.lt
      replace hs := hs.below b_5 (by omega)
      replace hw := hw.below b_5 (by omega)
      replace o7 := o7.below b_5 (by omega)
      replace o8 := o8.below b_5 (by omega)
      have z_6 := b_5.size
      replace b0 := b0.trans (b_5.mono (by omega))
      clear b_5
      have bq_0 := bq.cell (j := 0) rfl
      have bq_1 := bq.cell (j := 1) rfl
      have bq_z := bq.frozen
      have bq_l := bq.lt
      have bR_0 := bR.cell (j := 0) rfl
      have bR_1 := bR.cell (j := 1) rfl
      have bR_z := bR.frozen
      have bR_l := bR.lt
      have bo_0 := bo.cell (j := 0) rfl
      have bo_1 := bo.cell (j := 1) rfl
      have bo_z := bo.frozen
      have bo_l := bo.lt
      go_wp2_with fail
      clear bq_0 bq_1 bq_z bq_l bR_0 bR_1 bR_z bR_l bo_0 bo_1 bo_z bo_l
      have c2 := waiterIndex_any _ lw i w5 hw (by omega)
      generalize findIx (Wt.isI i) lw = y at c2 hy
      refine (c2).mono ?_; rintro q_ w7 ⟨rfl, b_7⟩
      replace bq := bq.below b_7 bq.lt
      replace bR := bR.below b_7 bR.lt
      replace bo := bo.below b_7 bo.lt
      replace hs := hs.below b_7 (by omega)
      replace hw := hw.below b_7 (by omega)
      replace o7 := o7.below b_7 (by omega)
      replace o8 := o8.below b_7 (by omega)
      have z_8 := b_7.size
      replace b0 := b0.trans (b_7.mono (by omega))
      clear b_7
      have bq_0 := bq.cell (j := 0) rfl
      have bq_1 := bq.cell (j := 1) rfl
      have bq_z := bq.frozen
      have bq_l := bq.lt
      have bR_0 := bR.cell (j := 0) rfl
      have bR_1 := bR.cell (j := 1) rfl
      have bR_z := bR.frozen
      have bR_l := bR.lt
      have bo_0 := bo.cell (j := 0) rfl
      have bo_1 := bo.cell (j := 1) rfl
      have bo_z := bo.frozen
      have bo_l := bo.lt
      go_wp2_with fail
      clear bq_0 bq_1 bq_z bq_l bR_0 bR_1 bR_z bR_l bo_0 bo_1 bo_z bo_l
      refine (implSettle_any _ _ ls lw w7 o7.rd o8.rd (by omega) (by omega) HPP.out).mono ?_; rintro q_ w9 ⟨v5, v6, rfl, o5, o6, b_9⟩
      replace bq := bq.below b_9 bq.lt
      replace bR := bR.below b_9 bR.lt
      replace bo := bo.below b_9 bo.lt
      replace hs := hs.below b_9 (by omega)
      replace hw := hw.below b_9 (by omega)
      replace o7 := o7.below b_9 (by omega)
      replace o8 := o8.below b_9 (by omega)
      have z_10 := b_9.size
      replace b0 := b0.trans (b_9.mono (by omega))
      clear b_9
      obtain ⟨A5, n5, d5, rfl, _, _, _⟩ := o5.rd.form
      obtain ⟨A6, n6, d6, rfl, _, _, _⟩ := o6.rd.form
      have bq_0 := bq.cell (j := 0) rfl
      have bq_1 := bq.cell (j := 1) rfl
      have bq_z := bq.frozen
      have bq_l := bq.lt
      have bR_0 := bR.cell (j := 0) rfl
      have bR_1 := bR.cell (j := 1) rfl
      have bR_z := bR.frozen
      have bR_l := bR.lt
      have bo_0 := bo.cell (j := 0) rfl
      have bo_1 := bo.cell (j := 1) rfl
      have bo_z := bo.frozen
      have bo_l := bo.lt
      go_wp2_with fail
      clear bq_0 bq_1 bq_z bq_l bR_0 bR_1 bR_z bR_l bo_0 bo_1 bo_z bo_l
      generalize hwz : World.setCell (World.setCell _ _ _) _ _ = wz_
      obtain rfl : wz_ = setL w9 (w.heap.size + 1) 0 [.slice A5 n5 d5, .slice A6 n6 d6] := hwz.symm
      clear hwz
      replace bq := bq.other (b := w.heap.size + 1) (by omega) 0 [.slice A5 n5 d5, .slice A6 n6 d6]
      replace bo := bo.other (b := w.heap.size + 1) (by omega) 0 [.slice A5 n5 d5, .slice A6 n6 d6]
      replace hs := hs.away (g := w.heap.size + 1) (by omega) 0 [.slice A5 n5 d5, .slice A6 n6 d6]
      replace hw := hw.away (g := w.heap.size + 1) (by omega) 0 [.slice A5 n5 d5, .slice A6 n6 d6]
      replace o7 := o7.box (g := w.heap.size + 1) bR (by decide) 0 [.slice A5 n5 d5, .slice A6 n6 d6]
      replace o8 := o8.box (g := w.heap.size + 1) bR (by decide) 0 [.slice A5 n5 d5, .slice A6 n6 d6]
      replace o5 := o5.box (g := w.heap.size + 1) bR (by decide) 0 [.slice A5 n5 d5, .slice A6 n6 d6]
      replace o6 := o6.box (g := w.heap.size + 1) bR (by decide) 0 [.slice A5 n5 d5, .slice A6 n6 d6]
      replace b0 := setL_below b0 [.slice A5 n5 d5, .slice A6 n6 d6] (w.heap.size + 1) 0 (by omega)
      have zs_11 : (setL w9 (w.heap.size + 1) 0 [.slice A5 n5 d5, .slice A6 n6 d6]).heap.size = w9.heap.size := setL_size _ _ _ _
      replace bR := bR.setAll [.slice A5 n5 d5, .slice A6 n6 d6] rfl
      generalize setL w9 _ 0 _ = w11 at *
      have u0_ := bR.cell (j := 0) rfl
      have u1_ := bR.cell (j := 1) rfl
      refine bodyPost_ret (by simp only [results, Tryz.results119]; simp [go_sem, u0_, u1_]; rfl) rfl ?_
      exact ⟨_, _, rfl, by rw [Qu.ofP, HF.out]; exact o5.mono (by omega) (by omega), by rw [Qu.ofP, HF.out]; exact o6.mono (by omega) (by omega), b0⟩

end Go.Proofs.YtengaccnncnipaaGreat

/- Raising an interrupt of an interface, in the program and in the reference. Condition: at most 1048576 numbers, slots and waiters each. -/
namespace Go.Proofs.YtengaccnncnipaaGreat
open Go.RowKit Go.ChangeShapes Go.WideShapes Go.Deep

set_option maxHeartbeats 2000000 in
theorem specRaise_in (m : Int) (vt vs vw : Value) (st : List Int) (ls : List Sl) (lw : List Wt) (w : World) {lo hi lo2 hi2 lo3 hi3 : Nat} (h0 : Rd Nm.cells 1 w lo3 hi3 vt st) (h : Rd Sl.cells 3 w lo hi vs ls) (h2 : Rd Wt.cells 2 w lo2 hi2 vw lw) (hh0 : hi3 ≤ w.heap.size) (hh : hi ≤ w.heap.size) (hh2 : hi2 ≤ w.heap.size) (i p : Int) (hl : st.length ≤ 1048576) (hp : Qu.parts ls lw = true) (hir : inB i 0 7 = true) (hpr : inB p 0 15 = true) :
    Calls Tryz.prog 68 #[.agg #[.int .i64 m, vt, vs, vw], .int .i64 i, .int .i64 p] w fun e w' => ∃ v0 v1 v2, e = .returned (.agg #[.int .i64 m, v0, v1, v2]) ∧ Ow Nm.cells 1 3 w' w.heap.size w'.heap.size v0 (st) ∧ Ow Sl.cells 3 127 w' w.heap.size w'.heap.size v1 ((Qu.ofP ls lw i p).1) ∧ Ow Wt.cells 2 134 w' w.heap.size w'.heap.size v2 ((Qu.ofP ls lw i p).2) ∧ Below w.heap.size w w' := by
  have b0 : Below w.heap.size w ((w.alloc (.cells #[.int .i64 m, vt, vs, vw] 35)).alloc (.cells #[.int .i64 0, .slice none 0 0, .slice none 0 0, .slice none 0 0] 35)) := ((Below.refl w.heap.size w).alloc (Nat.le_refl _) _).alloc (by simp) _
  have z0 : ((w.alloc (.cells #[.int .i64 m, vt, vs, vw] 35)).alloc (.cells #[.int .i64 0, .slice none 0 0, .slice none 0 0, .slice none 0 0] 35)).heap.size = w.heap.size + 2 := by simp
  have bx := Box.new w #[.int .i64 m, vt, vs, vw] 35 rfl
  have bR := Box.new (g := w.heap.size + 1) (w.alloc (.cells #[.int .i64 m, vt, vs, vw] 35)) #[.int .i64 0, .slice none 0 0, .slice none 0 0, .slice none 0 0] 35 (by simp)
  replace bx := bx.below ((Below.refl _ (w.alloc (.cells #[.int .i64 m, vt, vs, vw] 35))).alloc (Nat.le_refl _) (.cells #[.int .i64 0, .slice none 0 0, .slice none 0 0, .slice none 0 0] 35)) bx.lt
  have ht := h0.below b0 hh0
  have hs := h.below b0 hh
  have hw := h2.below b0 hh2
  have hv0_ := h0.form
  have hv_ := h.form
  have hv2_ := h2.form
  clear h0 h h2
  generalize hwA : (w.alloc (.cells #[.int .i64 m, vt, vs, vw] 35)).alloc (.cells #[.int .i64 0, .slice none 0 0, .slice none 0 0, .slice none 0 0] 35) = wA at *
  obtain ⟨At, nt, dt, rfl, _, _, _⟩ := hv0_
  obtain ⟨A0, n0, d0, rfl, _, _, _⟩ := hv_
  obtain ⟨A1, n1, d1, rfl, _, _, _⟩ := hv2_
  have HP := Lib.hid hp
  have HI := Lib.hid hir
  have HR := Lib.hid hpr
  clear hp hir hpr
  go_enter Tryz.func68, Tryz.ntmps68
  have bx_0 := bx.cell (j := 0) rfl
  have bx_1 := bx.cell (j := 1) rfl
  have bx_2 := bx.cell (j := 2) rfl
  have bx_3 := bx.cell (j := 3) rfl
  have bx_z := bx.frozen
  have bx_l := bx.lt
  have bR_0 := bR.cell (j := 0) rfl
  have bR_1 := bR.cell (j := 1) rfl
  have bR_2 := bR.cell (j := 2) rfl
  have bR_3 := bR.cell (j := 3) rfl
  have bR_z := bR.frozen
  have bR_l := bR.lt
  go_upto_region 1 with fail
  clear hwA
  clear bx_0 bx_1 bx_2 bx_3 bx_z bx_l bR_0 bR_1 bR_2 bR_3 bR_z bR_l
  refine wp_region_held_drew (S := fun W => Box W (w.heap.size) 35 [.int .i64 m, .slice At nt dt, .slice A0 n0 d0, .slice A1 n1 d1]) (by kernel_rfl) (show (fun (W : World) => Box W (w.heap.size) 35 [.int .i64 m, .slice At nt dt, .slice A0 n0 d0, .slice A1 n1 d1]) wA.drew from bx) (fun hHeld => ?_)
  refine wpAnyH_take (i := 0) (v := .pointer (some ⟨w.heap.size, 0, none⟩)) rfl (by kernel_rfl) (by kernel_rfl) (by kernel_rfl) (fun _ _ _ h => h) (Or.inl ⟨by rfl, by intro w hSw; have hS0 := hSw; have y00 := hS0.cell (j := 0) rfl; have y01 := hS0.cell (j := 1) rfl; have y02 := hS0.cell (j := 2) rfl; have y03 := hS0.cell (j := 3) rfl; go_simp⟩) hHeld ?_
  refine wpAnyH_take (i := 1) (v := .int .i64 m) rfl (by kernel_rfl) (by kernel_rfl) (by kernel_rfl) (fun _ _ _ h => h) (Or.inl ⟨by rfl, by intro w hSw; have hS0 := hSw; have y00 := hS0.cell (j := 0) rfl; have y01 := hS0.cell (j := 1) rfl; have y02 := hS0.cell (j := 2) rfl; have y03 := hS0.cell (j := 3) rfl; go_simp⟩) hHeld ?_
  refine wpAnyH_take (i := 2) (v := .pointer (some ⟨w.heap.size, 1, none⟩)) rfl (by kernel_rfl) (by kernel_rfl) (by kernel_rfl) (fun _ _ _ h => h) (Or.inl ⟨by rfl, by intro w hSw; have hS0 := hSw; have y00 := hS0.cell (j := 0) rfl; have y01 := hS0.cell (j := 1) rfl; have y02 := hS0.cell (j := 2) rfl; have y03 := hS0.cell (j := 3) rfl; go_simp⟩) hHeld ?_
  refine wpAnyH_take (i := 3) (v := .slice At nt dt) rfl (by kernel_rfl) (by kernel_rfl) (by kernel_rfl) (fun _ _ _ h => h) (Or.inl ⟨by rfl, by intro w hSw; have hS0 := hSw; have y00 := hS0.cell (j := 0) rfl; have y01 := hS0.cell (j := 1) rfl; have y02 := hS0.cell (j := 2) rfl; have y03 := hS0.cell (j := 3) rfl; go_simp⟩) hHeld ?_
  refine wpAnyH_take (i := 5) (v := .pointer (some ⟨w.heap.size, 2, none⟩)) rfl (by kernel_rfl) (by kernel_rfl) (by kernel_rfl) (fun _ _ _ h => h) (Or.inl ⟨by rfl, by intro w hSw; have hS0 := hSw; have y00 := hS0.cell (j := 0) rfl; have y01 := hS0.cell (j := 1) rfl; have y02 := hS0.cell (j := 2) rfl; have y03 := hS0.cell (j := 3) rfl; go_simp⟩) hHeld ?_
  refine wpAnyH_take (i := 6) (v := .agg #[.slice A0 n0 d0, .slice A1 n1 d1]) rfl (by kernel_rfl) (by kernel_rfl) (by kernel_rfl) (fun _ _ _ h => h) (Or.inl ⟨by rfl, by intro w hSw; have hS0 := hSw; have y00 := hS0.cell (j := 0) rfl; have y01 := hS0.cell (j := 1) rfl; have y02 := hS0.cell (j := 2) rfl; have y03 := hS0.cell (j := 3) rfl; go_simp⟩) hHeld ?_
  refine wpAnyH_take (i := 7) (v := .int .i64 i) rfl (by kernel_rfl) (by kernel_rfl) (by kernel_rfl) (fun _ _ _ h => h) (Or.inl ⟨by rfl, by intro w hSw; have hS0 := hSw; have y00 := hS0.cell (j := 0) rfl; have y01 := hS0.cell (j := 1) rfl; have y02 := hS0.cell (j := 2) rfl; have y03 := hS0.cell (j := 3) rfl; go_simp⟩) hHeld ?_
  refine wpAnyH_take (i := 8) (v := .int .i64 p) rfl (by kernel_rfl) (by kernel_rfl) (by kernel_rfl) (fun _ _ _ h => h) (Or.inl ⟨by rfl, by intro w hSw; have hS0 := hSw; have y00 := hS0.cell (j := 0) rfl; have y01 := hS0.cell (j := 1) rfl; have y02 := hS0.cell (j := 2) rfl; have y03 := hS0.cell (j := 3) rfl; go_simp⟩) hHeld ?_
  clear hHeld
  refine held_gen (F := fun W' => Below wA.heap.size wA W') (Below.refl wA.heap.size wA).drew ?_
  rintro w1 b_1
  replace bx := bx.below b_1 bx.lt
  replace bR := bR.below b_1 bR.lt
  replace ht := ht.below b_1 (by omega)
  replace hs := hs.below b_1 (by omega)
  replace hw := hw.below b_1 (by omega)
  have z_2 := b_1.size
  replace b0 := b0.trans (b_1.mono (by omega))
  clear b_1
  refine wpAnyH_ready (rs := [4]) (by kernel_rfl) (by decide) ?_
  refine AllReadyH.cons rfl (fun K3 hK3 => ?_) AllReadyH.nil
  go_simp
  refine (l1Own_any _ st w1 ht (by omega) hl).mono ?_; rintro q_ w4 ⟨v3, rfl, o3, b_4⟩
  replace bx := bx.below b_4 bx.lt
  replace bR := bR.below b_4 bR.lt
  replace ht := ht.below b_4 (by omega)
  replace hs := hs.below b_4 (by omega)
  replace hw := hw.below b_4 (by omega)
  have z_5 := b_4.size
  replace b0 := b0.trans (b_4.mono (by omega))
  clear b_4
  obtain ⟨A3, n3, d3, rfl, _, _, _⟩ := o3.rd.form
  refine hK3.out _ _ bx (fun _ => ?_)
  refine wpAnyH_ready (rs := [9]) (by kernel_rfl) (by decide) ?_
  refine AllReadyH.cons rfl (fun K6 hK6 => ?_) AllReadyH.nil
  go_simp
  refine (specOffer_in _ _ ls lw i p w4 hs hw (by omega) (by omega) HP.out HI.out HR.out).mono ?_; rintro q_ w7 ⟨v4, v5, rfl, o4, o5, b_7⟩
  replace bx := bx.below b_7 bx.lt
  replace bR := bR.below b_7 bR.lt
  replace ht := ht.below b_7 (by omega)
  replace hs := hs.below b_7 (by omega)
  replace hw := hw.below b_7 (by omega)
  replace o3 := o3.below b_7 (by omega)
  have z_8 := b_7.size
  replace b0 := b0.trans (b_7.mono (by omega))
  clear b_7
  obtain ⟨A4, n4, d4, rfl, _, _, _⟩ := o4.rd.form
  obtain ⟨A5, n5, d5, rfl, _, _, _⟩ := o5.rd.form
  refine hK6.out _ _ bx (fun _ => ?_)
  refine wpAnyH_ready (rs := [10]) (by kernel_rfl) (by decide) ?_
  refine AllReadyH.cons rfl (fun K9 hK9 => ?_) AllReadyH.nil
  go_simp
  refine hK9.out _ _ bx (fun _ => ?_)
  refine wpAnyH_ready (rs := [11]) (by kernel_rfl) (by decide) ?_
  refine AllReadyH.cons rfl (fun K10 hK10 => ?_) AllReadyH.nil
  have bx_0 := bx.cell (j := 0) rfl
  have bx_1 := bx.cell (j := 1) rfl
  have bx_2 := bx.cell (j := 2) rfl
  have bx_3 := bx.cell (j := 3) rfl
  have bx_z := bx.frozen
  have bx_l := bx.lt
  have bR_0 := bR.cell (j := 0) rfl
  have bR_1 := bR.cell (j := 1) rfl
  have bR_2 := bR.cell (j := 2) rfl
  have bR_3 := bR.cell (j := 3) rfl
  have bR_z := bR.frozen
  have bR_l := bR.lt
  go_simp
  clear bx_0 bx_1 bx_2 bx_3 bx_z bx_l bR_0 bR_1 bR_2 bR_3 bR_z bR_l
  generalize hwz : World.setCell (World.setCell (World.setCell (World.setCell _ _ _) _ _) _ _) _ _ = wz_
  obtain rfl : wz_ = setL w7 (w.heap.size + 1) 0 [.int .i64 m, .slice A3 n3 d3, .slice A4 n4 d4, .slice A5 n5 d5] := hwz.symm
  clear hwz
  replace bx := bx.other (b := w.heap.size + 1) (by omega) 0 [.int .i64 m, .slice A3 n3 d3, .slice A4 n4 d4, .slice A5 n5 d5]
  replace ht := ht.away (g := w.heap.size + 1) (by omega) 0 [.int .i64 m, .slice A3 n3 d3, .slice A4 n4 d4, .slice A5 n5 d5]
  replace hs := hs.away (g := w.heap.size + 1) (by omega) 0 [.int .i64 m, .slice A3 n3 d3, .slice A4 n4 d4, .slice A5 n5 d5]
  replace hw := hw.away (g := w.heap.size + 1) (by omega) 0 [.int .i64 m, .slice A3 n3 d3, .slice A4 n4 d4, .slice A5 n5 d5]
  replace o3 := o3.box (g := w.heap.size + 1) bR (by decide) 0 [.int .i64 m, .slice A3 n3 d3, .slice A4 n4 d4, .slice A5 n5 d5]
  replace o4 := o4.box (g := w.heap.size + 1) bR (by decide) 0 [.int .i64 m, .slice A3 n3 d3, .slice A4 n4 d4, .slice A5 n5 d5]
  replace o5 := o5.box (g := w.heap.size + 1) bR (by decide) 0 [.int .i64 m, .slice A3 n3 d3, .slice A4 n4 d4, .slice A5 n5 d5]
  replace b0 := setL_below b0 [.int .i64 m, .slice A3 n3 d3, .slice A4 n4 d4, .slice A5 n5 d5] (w.heap.size + 1) 0 (by omega)
  have zs_11 : (setL w7 (w.heap.size + 1) 0 [.int .i64 m, .slice A3 n3 d3, .slice A4 n4 d4, .slice A5 n5 d5]).heap.size = w7.heap.size := setL_size _ _ _ _
  replace bR := bR.setAll [.int .i64 m, .slice A3 n3 d3, .slice A4 n4 d4, .slice A5 n5 d5] rfl
  generalize setL w7 _ 0 _ = w11 at *
  refine hK10.out _ _ bx (fun _ => ?_)
  refine ⟨by kernel_rfl, ?_⟩
  have bx_0 := bx.cell (j := 0) rfl
  have bx_1 := bx.cell (j := 1) rfl
  have bx_2 := bx.cell (j := 2) rfl
  have bx_3 := bx.cell (j := 3) rfl
  have bx_z := bx.frozen
  have bx_l := bx.lt
  have bR_0 := bR.cell (j := 0) rfl
  have bR_1 := bR.cell (j := 1) rfl
  have bR_2 := bR.cell (j := 2) rfl
  have bR_3 := bR.cell (j := 3) rfl
  have bR_z := bR.frozen
  have bR_l := bR.lt
  go_wp2_with fail
  clear bx_0 bx_1 bx_2 bx_3 bx_z bx_l bR_0 bR_1 bR_2 bR_3 bR_z bR_l
  have u0_ := bR.cell (j := 0) rfl
  have u1_ := bR.cell (j := 1) rfl
  have u2_ := bR.cell (j := 2) rfl
  have u3_ := bR.cell (j := 3) rfl
  refine bodyPost_ret (by simp only [results, Tryz.results68]; simp [go_sem, u0_, u1_, u2_, u3_]; rfl) rfl ?_
  exact ⟨_, _, _, rfl, o3.mono (by omega) (by omega), o4.mono (by omega) (by omega), o5.mono (by omega) (by omega), b0⟩
set_option maxHeartbeats 2000000 in
theorem implRaise_in (m : Int) (vt vs vw : Value) (st : List Int) (ls : List Sl) (lw : List Wt) (w : World) {lo hi lo2 hi2 lo3 hi3 : Nat} (h0 : Rd Nm.cells 1 w lo3 hi3 vt st) (h : Rd Sl.cells 3 w lo hi vs ls) (h2 : Rd Wt.cells 2 w lo2 hi2 vw lw) (hh0 : hi3 ≤ w.heap.size) (hh : hi ≤ w.heap.size) (hh2 : hi2 ≤ w.heap.size) (i p : Int) (hl : st.length ≤ 1048576) (hp : Qu.parts ls lw = true) (hir : inB i 0 7 = true) (hpr : inB p 0 15 = true) :
    Calls Tryz.prog 71 #[.agg #[.int .i64 m, vt, vs, vw], .int .i64 i, .int .i64 p] w fun e w' => ∃ v0 v1 v2, e = .returned (.agg #[.int .i64 m, v0, v1, v2]) ∧ Ow Nm.cells 1 3 w' w.heap.size w'.heap.size v0 (st) ∧ Ow Sl.cells 3 127 w' w.heap.size w'.heap.size v1 ((Qu.ofP ls lw i p).1) ∧ Ow Wt.cells 2 134 w' w.heap.size w'.heap.size v2 ((Qu.ofP ls lw i p).2) ∧ Below w.heap.size w w' := by
  have b0 : Below w.heap.size w ((w.alloc (.cells #[.int .i64 m, vt, vs, vw] 35)).alloc (.cells #[.int .i64 0, .slice none 0 0, .slice none 0 0, .slice none 0 0] 35)) := ((Below.refl w.heap.size w).alloc (Nat.le_refl _) _).alloc (by simp) _
  have z0 : ((w.alloc (.cells #[.int .i64 m, vt, vs, vw] 35)).alloc (.cells #[.int .i64 0, .slice none 0 0, .slice none 0 0, .slice none 0 0] 35)).heap.size = w.heap.size + 2 := by simp
  have bx := Box.new w #[.int .i64 m, vt, vs, vw] 35 rfl
  have bR := Box.new (g := w.heap.size + 1) (w.alloc (.cells #[.int .i64 m, vt, vs, vw] 35)) #[.int .i64 0, .slice none 0 0, .slice none 0 0, .slice none 0 0] 35 (by simp)
  replace bx := bx.below ((Below.refl _ (w.alloc (.cells #[.int .i64 m, vt, vs, vw] 35))).alloc (Nat.le_refl _) (.cells #[.int .i64 0, .slice none 0 0, .slice none 0 0, .slice none 0 0] 35)) bx.lt
  have ht := h0.below b0 hh0
  have hs := h.below b0 hh
  have hw := h2.below b0 hh2
  have hv0_ := h0.form
  have hv_ := h.form
  have hv2_ := h2.form
  clear h0 h h2
  generalize hwA : (w.alloc (.cells #[.int .i64 m, vt, vs, vw] 35)).alloc (.cells #[.int .i64 0, .slice none 0 0, .slice none 0 0, .slice none 0 0] 35) = wA at *
  obtain ⟨At, nt, dt, rfl, _, _, _⟩ := hv0_
  obtain ⟨A0, n0, d0, rfl, _, _, _⟩ := hv_
  obtain ⟨A1, n1, d1, rfl, _, _, _⟩ := hv2_
  have HP := Lib.hid hp
  have HI := Lib.hid hir
  have HR := Lib.hid hpr
  have hl1 : ls.length ≤ 1048576 := by have := Sl.good_len (Qu.parts_get hp).1; omega
  have hl2 : lw.length ≤ 1048576 := by have := Qu.parts_len hp; omega
  clear hp hir hpr
  go_enter Tryz.func71, Tryz.ntmps71
  have bx_0 := bx.cell (j := 0) rfl
  have bx_1 := bx.cell (j := 1) rfl
  have bx_2 := bx.cell (j := 2) rfl
  have bx_3 := bx.cell (j := 3) rfl
  have bx_z := bx.frozen
  have bx_l := bx.lt
  have bR_0 := bR.cell (j := 0) rfl
  have bR_1 := bR.cell (j := 1) rfl
  have bR_2 := bR.cell (j := 2) rfl
  have bR_3 := bR.cell (j := 3) rfl
  have bR_z := bR.frozen
  have bR_l := bR.lt
  go_wp2_with fail
  clear hwA
  clear bx_0 bx_1 bx_2 bx_3 bx_z bx_l bR_0 bR_1 bR_2 bR_3 bR_z bR_l
  refine (implOwnF_any m _ _ _ st ls lw wA ht hs hw (by omega) (by omega) (by omega) hl hl1 hl2).mono ?_; rintro q_ w1 ⟨v3, v4, v5, rfl, o3, o4, o5, b_1⟩
  replace bx := bx.below b_1 bx.lt
  replace bR := bR.below b_1 bR.lt
  replace ht := ht.below b_1 (by omega)
  replace hs := hs.below b_1 (by omega)
  replace hw := hw.below b_1 (by omega)
  have z_2 := b_1.size
  replace b0 := b0.trans (b_1.mono (by omega))
  clear b_1
  obtain ⟨A3, n3, d3, rfl, _, _, _⟩ := o3.rd.form
  obtain ⟨A4, n4, d4, rfl, _, _, _⟩ := o4.rd.form
  obtain ⟨A5, n5, d5, rfl, _, _, _⟩ := o5.rd.form
  have bx_0 := bx.cell (j := 0) rfl
  have bx_1 := bx.cell (j := 1) rfl
  have bx_2 := bx.cell (j := 2) rfl
  have bx_3 := bx.cell (j := 3) rfl
  have bx_z := bx.frozen
  have bx_l := bx.lt
  have bR_0 := bR.cell (j := 0) rfl
  have bR_1 := bR.cell (j := 1) rfl
  have bR_2 := bR.cell (j := 2) rfl
  have bR_3 := bR.cell (j := 3) rfl
  have bR_z := bR.frozen
  have bR_l := bR.lt
  go_upto_region 2 with fail
  clear bx_0 bx_1 bx_2 bx_3 bx_z bx_l bR_0 bR_1 bR_2 bR_3 bR_z bR_l
  have b_3 := (Below.refl w1.heap.size w1).alloc (Nat.le_refl _) (.cells #[.int .i64 m, .slice A3 n3 d3, .slice A4 n4 d4, .slice A5 n5 d5] 35)
  have bO := Box.new w1 #[.int .i64 m, .slice A3 n3 d3, .slice A4 n4 d4, .slice A5 n5 d5] 35 rfl
  replace bx := bx.below b_3 bx.lt
  replace bR := bR.below b_3 bR.lt
  replace ht := ht.below b_3 (by omega)
  replace hs := hs.below b_3 (by omega)
  replace hw := hw.below b_3 (by omega)
  replace o3 := o3.below b_3 (by omega)
  replace o4 := o4.below b_3 (by omega)
  replace o5 := o5.below b_3 (by omega)
  have z_4 := b_3.size
  replace b0 := b0.trans (b_3.mono (by omega))
  clear b_3
  generalize w1.alloc _ = w3 at *
  generalize w1.heap.size = g3 at *
  have bx_0 := bx.cell (j := 0) rfl
  have bx_1 := bx.cell (j := 1) rfl
  have bx_2 := bx.cell (j := 2) rfl
  have bx_3 := bx.cell (j := 3) rfl
  have bx_z := bx.frozen
  have bx_l := bx.lt
  have bR_0 := bR.cell (j := 0) rfl
  have bR_1 := bR.cell (j := 1) rfl
  have bR_2 := bR.cell (j := 2) rfl
  have bR_3 := bR.cell (j := 3) rfl
  have bR_z := bR.frozen
  have bR_l := bR.lt
  have bO_0 := bO.cell (j := 0) rfl
  have bO_1 := bO.cell (j := 1) rfl
  have bO_2 := bO.cell (j := 2) rfl
  have bO_3 := bO.cell (j := 3) rfl
  have bO_z := bO.frozen
  have bO_l := bO.lt
  go_wp2_with fail
  clear bx_0 bx_1 bx_2 bx_3 bx_z bx_l bR_0 bR_1 bR_2 bR_3 bR_z bR_l bO_0 bO_1 bO_2 bO_3 bO_z bO_l
  refine (implOffer_in _ _ ls lw i p w3 hs hw (by omega) (by omega) HP.out HI.out HR.out).mono ?_; rintro q_ w5 ⟨v6, v7, rfl, o6, o7, b_5⟩
  replace bx := bx.below b_5 bx.lt
  replace bR := bR.below b_5 bR.lt
  replace bO := bO.below b_5 bO.lt
  replace ht := ht.below b_5 (by omega)
  replace hs := hs.below b_5 (by omega)
  replace hw := hw.below b_5 (by omega)
  replace o3 := o3.below b_5 (by omega)
  replace o4 := o4.below b_5 (by omega)
  replace o5 := o5.below b_5 (by omega)
  have z_6 := b_5.size
  replace b0 := b0.trans (b_5.mono (by omega))
  clear b_5
  obtain ⟨A6, n6, d6, rfl, _, _, _⟩ := o6.rd.form
  obtain ⟨A7, n7, d7, rfl, _, _, _⟩ := o7.rd.form
  have bx_0 := bx.cell (j := 0) rfl
  have bx_1 := bx.cell (j := 1) rfl
  have bx_2 := bx.cell (j := 2) rfl
  have bx_3 := bx.cell (j := 3) rfl
  have bx_z := bx.frozen
  have bx_l := bx.lt
  have bR_0 := bR.cell (j := 0) rfl
  have bR_1 := bR.cell (j := 1) rfl
  have bR_2 := bR.cell (j := 2) rfl
  have bR_3 := bR.cell (j := 3) rfl
  have bR_z := bR.frozen
  have bR_l := bR.lt
  have bO_0 := bO.cell (j := 0) rfl
  have bO_1 := bO.cell (j := 1) rfl
  have bO_2 := bO.cell (j := 2) rfl
  have bO_3 := bO.cell (j := 3) rfl
  have bO_z := bO.frozen
  have bO_l := bO.lt
  go_upto_region 3 with fail
  clear bx_0 bx_1 bx_2 bx_3 bx_z bx_l bR_0 bR_1 bR_2 bR_3 bR_z bR_l bO_0 bO_1 bO_2 bO_3 bO_z bO_l
  generalize hwz : World.setCell (World.setCell _ _ _) _ _ = wz_
  obtain rfl : wz_ = setL w5 (g3) 2 [.slice A6 n6 d6, .slice A7 n7 d7] := hwz.symm
  clear hwz
  replace bx := bx.other (b := g3) (by omega) 2 [.slice A6 n6 d6, .slice A7 n7 d7]
  replace bR := bR.other (b := g3) (by omega) 2 [.slice A6 n6 d6, .slice A7 n7 d7]
  replace ht := ht.away (g := g3) (by omega) 2 [.slice A6 n6 d6, .slice A7 n7 d7]
  replace hs := hs.away (g := g3) (by omega) 2 [.slice A6 n6 d6, .slice A7 n7 d7]
  replace hw := hw.away (g := g3) (by omega) 2 [.slice A6 n6 d6, .slice A7 n7 d7]
  replace o3 := o3.box (g := g3) bO (by decide) 2 [.slice A6 n6 d6, .slice A7 n7 d7]
  replace o4 := o4.box (g := g3) bO (by decide) 2 [.slice A6 n6 d6, .slice A7 n7 d7]
  replace o5 := o5.box (g := g3) bO (by decide) 2 [.slice A6 n6 d6, .slice A7 n7 d7]
  replace o6 := o6.box (g := g3) bO (by decide) 2 [.slice A6 n6 d6, .slice A7 n7 d7]
  replace o7 := o7.box (g := g3) bO (by decide) 2 [.slice A6 n6 d6, .slice A7 n7 d7]
  replace b0 := setL_below b0 [.slice A6 n6 d6, .slice A7 n7 d7] (g3) 2 (by omega)
  have zs_7 : (setL w5 (g3) 2 [.slice A6 n6 d6, .slice A7 n7 d7]).heap.size = w5.heap.size := setL_size _ _ _ _
  replace bO : Box (setL w5 (g3) 2 [.slice A6 n6 d6, .slice A7 n7 d7]) (g3) 35 _ := ((bO.set1 (j := 2) (.slice A6 n6 d6) (by simp)).set1 (j := 3) (.slice A7 n7 d7) (by simp))
  generalize setL w5 _ 2 _ = w7 at *
  have bx_0 := bx.cell (j := 0) rfl
  have bx_1 := bx.cell (j := 1) rfl
  have bx_2 := bx.cell (j := 2) rfl
  have bx_3 := bx.cell (j := 3) rfl
  have bx_z := bx.frozen
  have bx_l := bx.lt
  have bR_0 := bR.cell (j := 0) rfl
  have bR_1 := bR.cell (j := 1) rfl
  have bR_2 := bR.cell (j := 2) rfl
  have bR_3 := bR.cell (j := 3) rfl
  have bR_z := bR.frozen
  have bR_l := bR.lt
  have bO_0 := bO.cell (j := 0) rfl
  have bO_1 := bO.cell (j := 1) rfl
  have bO_2 := bO.cell (j := 2) rfl
  have bO_3 := bO.cell (j := 3) rfl
  have bO_z := bO.frozen
  have bO_l := bO.lt
  go_wp2_with fail
  clear bx_0 bx_1 bx_2 bx_3 bx_z bx_l bR_0 bR_1 bR_2 bR_3 bR_z bR_l bO_0 bO_1 bO_2 bO_3 bO_z bO_l
  generalize hwz : World.setCell (World.setCell (World.setCell (World.setCell _ _ _) _ _) _ _) _ _ = wz_
  obtain rfl : wz_ = setL w7 (w.heap.size + 1) 0 [.int .i64 m, .slice A3 n3 d3, .slice A6 n6 d6, .slice A7 n7 d7] := hwz.symm
  clear hwz
  replace bx := bx.other (b := w.heap.size + 1) (by omega) 0 [.int .i64 m, .slice A3 n3 d3, .slice A6 n6 d6, .slice A7 n7 d7]
  replace bO := bO.other (b := w.heap.size + 1) (by omega) 0 [.int .i64 m, .slice A3 n3 d3, .slice A6 n6 d6, .slice A7 n7 d7]
  replace ht := ht.away (g := w.heap.size + 1) (by omega) 0 [.int .i64 m, .slice A3 n3 d3, .slice A6 n6 d6, .slice A7 n7 d7]
  replace hs := hs.away (g := w.heap.size + 1) (by omega) 0 [.int .i64 m, .slice A3 n3 d3, .slice A6 n6 d6, .slice A7 n7 d7]
  replace hw := hw.away (g := w.heap.size + 1) (by omega) 0 [.int .i64 m, .slice A3 n3 d3, .slice A6 n6 d6, .slice A7 n7 d7]
  replace o3 := o3.box (g := w.heap.size + 1) bR (by decide) 0 [.int .i64 m, .slice A3 n3 d3, .slice A6 n6 d6, .slice A7 n7 d7]
  replace o4 := o4.box (g := w.heap.size + 1) bR (by decide) 0 [.int .i64 m, .slice A3 n3 d3, .slice A6 n6 d6, .slice A7 n7 d7]
  replace o5 := o5.box (g := w.heap.size + 1) bR (by decide) 0 [.int .i64 m, .slice A3 n3 d3, .slice A6 n6 d6, .slice A7 n7 d7]
  replace o6 := o6.box (g := w.heap.size + 1) bR (by decide) 0 [.int .i64 m, .slice A3 n3 d3, .slice A6 n6 d6, .slice A7 n7 d7]
  replace o7 := o7.box (g := w.heap.size + 1) bR (by decide) 0 [.int .i64 m, .slice A3 n3 d3, .slice A6 n6 d6, .slice A7 n7 d7]
  replace b0 := setL_below b0 [.int .i64 m, .slice A3 n3 d3, .slice A6 n6 d6, .slice A7 n7 d7] (w.heap.size + 1) 0 (by omega)
  have zs_8 : (setL w7 (w.heap.size + 1) 0 [.int .i64 m, .slice A3 n3 d3, .slice A6 n6 d6, .slice A7 n7 d7]).heap.size = w7.heap.size := setL_size _ _ _ _
  replace bR := bR.setAll [.int .i64 m, .slice A3 n3 d3, .slice A6 n6 d6, .slice A7 n7 d7] rfl
  generalize setL w7 _ 0 _ = w8 at *
  have u0_ := bR.cell (j := 0) rfl
  have u1_ := bR.cell (j := 1) rfl
  have u2_ := bR.cell (j := 2) rfl
  have u3_ := bR.cell (j := 3) rfl
  refine bodyPost_ret (by simp only [results, Tryz.results71]; simp [go_sem, u0_, u1_, u2_, u3_]; rfl) rfl ?_
  exact ⟨_, _, _, rfl, o3.mono (by omega) (by omega), o6.mono (by omega) (by omega), o7.mono (by omega) (by omega), b0⟩
end Go.Proofs.YtengaccnncnipaaGreat

/- Leaving the last interrupt of an interface's stack, in the program and in the reference. Condition: at most 1048576 numbers on the stack. -/
namespace Go.Proofs.YtengaccnncnipaaGreat
open Go.RowKit Go.ChangeShapes Go.WideShapes Go.Deep

theorem Nm.at_ {w : World} {lo hi b off n c k : Nat} {x : Int} {l : List Int} (h : Rd Nm.cells 1 w lo hi (.slice (some ⟨b, off, none⟩) n c) l) (hx : l[k]? = some x) : w.cell? ⟨b, off + k, none⟩ = some (.int .i64 x) := by
  obtain ⟨A, c', hv, _, _, h3⟩ := h
  injection hv with e1 e2 e3
  subst e1
  obtain ⟨b', off', hA, _, _, h4⟩ := h3 (by have := (List.getElem?_eq_some_iff.1 hx).1; omega)
  injection hA with hA
  injection hA with e4 e5
  subst e4; subst e5
  simpa using h4 k x hx 0 _ rfl
def Fa.top (st : List Int) : Int := st.getLast?.getD 0
theorem Fa.top_at {st : List Int} {j : Nat} {x : Int} (hj : j + 1 = st.length) (hx : st[j]? = some x) : st = st.take j ++ [x] ∧ st.dropLast = st.take j ∧ Fa.top st = x := by
  have e : st = st.take j ++ [x] := by
    conv => lhs; rw [← List.take_length (l := st), ← hj, List.take_add_one, hx]
    rfl
  refine ⟨e, by rw [List.dropLast_eq_take, ← hj]; simp, ?_⟩
  rw [Fa.top, List.getLast?_eq_getElem?, ← hj]
  simp [hx]
theorem Fa.lv_end {m : Int} {st : List Int} {ls : List Sl} {lw : List Wt} {j : Nat} {x : Int} (hg : Fa.good m st ls lw = true) (hj : j + 1 = st.length) (hx : st[j]? = some x) : Sl.endOk ls x = true ∧ Fa.Ok (st.take j) (Qu.enP ls lw x).1 := by
  obtain ⟨_, hq, ho⟩ := Fa.good_iff.1 hg
  rw [(Fa.top_at hj hx).1] at ho
  exact Fa.leave_ok (Qu.good_parts hq).1 ho

set_option maxHeartbeats 2000000 in
theorem specLeave_nil (m : Int) (vt vs vw : Value) (st : List Int) (ls : List Sl) (lw : List Wt) (w : World) {lo hi lo2 hi2 lo3 hi3 : Nat} (h0 : Rd Nm.cells 1 w lo3 hi3 vt st) (h : Rd Sl.cells 3 w lo hi vs ls) (h2 : Rd Wt.cells 2 w lo2 hi2 vw lw) (hh0 : hi3 ≤ w.heap.size) (hh : hi ≤ w.heap.size) (hh2 : hi2 ≤ w.heap.size) (hz : st = []) :
    Calls Tryz.prog 64 #[.agg #[.int .i64 m, vt, vs, vw]] w fun e w' => e = .returned (.tuple #[.agg #[.int .i64 m, vt, vs, vw], .int .i64 (-1)]) ∧ Below w.heap.size w w' := by
  have b0 : Below w.heap.size w ((w.alloc (.cells #[.int .i64 m, vt, vs, vw] 35)).alloc (.cells #[.int .i64 0, .slice none 0 0, .slice none 0 0, .slice none 0 0] 35)) := ((Below.refl w.heap.size w).alloc (Nat.le_refl _) _).alloc (by simp) _
  have z0 : ((w.alloc (.cells #[.int .i64 m, vt, vs, vw] 35)).alloc (.cells #[.int .i64 0, .slice none 0 0, .slice none 0 0, .slice none 0 0] 35)).heap.size = w.heap.size + 2 := by simp
  have bx := Box.new w #[.int .i64 m, vt, vs, vw] 35 rfl
  have bR := Box.new (g := w.heap.size + 1) (w.alloc (.cells #[.int .i64 m, vt, vs, vw] 35)) #[.int .i64 0, .slice none 0 0, .slice none 0 0, .slice none 0 0] 35 (by simp)
  replace bx := bx.below ((Below.refl _ (w.alloc (.cells #[.int .i64 m, vt, vs, vw] 35))).alloc (Nat.le_refl _) (.cells #[.int .i64 0, .slice none 0 0, .slice none 0 0, .slice none 0 0] 35)) bx.lt
  have ht := h0.below b0 hh0
  have hs := h.below b0 hh
  have hw := h2.below b0 hh2
  have hv0_ := h0.form
  have hv_ := h.form
  have hv2_ := h2.form
  clear h0 h h2
  generalize hwA : (w.alloc (.cells #[.int .i64 m, vt, vs, vw] 35)).alloc (.cells #[.int .i64 0, .slice none 0 0, .slice none 0 0, .slice none 0 0] 35) = wA at *
  obtain ⟨At, nt, dt, rfl, _, _, _⟩ := hv0_
  obtain ⟨A0, n0, d0, rfl, _, _, _⟩ := hv_
  obtain ⟨A1, n1, d1, rfl, _, _, _⟩ := hv2_
  obtain ⟨rfl⟩ : nt = 0 := by have := ht.n_eq.1; simpa [hz] using this
  go_enter Tryz.func64, Tryz.ntmps64
  have bx_0 := bx.cell (j := 0) rfl
  have bx_1 := bx.cell (j := 1) rfl
  have bx_2 := bx.cell (j := 2) rfl
  have bx_3 := bx.cell (j := 3) rfl
  have bx_z := bx.frozen
  have bx_l := bx.lt
  have bR_0 := bR.cell (j := 0) rfl
  have bR_1 := bR.cell (j := 1) rfl
  have bR_2 := bR.cell (j := 2) rfl
  have bR_3 := bR.cell (j := 3) rfl
  have bR_z := bR.frozen
  have bR_l := bR.lt
  go_wp2_with fail
  clear hwA
  clear bx_0 bx_1 bx_2 bx_3 bx_z bx_l bR_0 bR_1 bR_2 bR_3 bR_z bR_l
  generalize hwz : World.setCell (World.setCell (World.setCell (World.setCell _ _ _) _ _) _ _) _ _ = wz_
  obtain rfl : wz_ = setL wA (w.heap.size + 1) 0 [.int .i64 m, .slice At 0 dt, .slice A0 n0 d0, .slice A1 n1 d1] := hwz.symm
  clear hwz
  replace bx := bx.other (b := w.heap.size + 1) (by omega) 0 [.int .i64 m, .slice At 0 dt, .slice A0 n0 d0, .slice A1 n1 d1]
  replace ht := ht.away (g := w.heap.size + 1) (by omega) 0 [.int .i64 m, .slice At 0 dt, .slice A0 n0 d0, .slice A1 n1 d1]
  replace hs := hs.away (g := w.heap.size + 1) (by omega) 0 [.int .i64 m, .slice At 0 dt, .slice A0 n0 d0, .slice A1 n1 d1]
  replace hw := hw.away (g := w.heap.size + 1) (by omega) 0 [.int .i64 m, .slice At 0 dt, .slice A0 n0 d0, .slice A1 n1 d1]
  replace b0 := setL_below b0 [.int .i64 m, .slice At 0 dt, .slice A0 n0 d0, .slice A1 n1 d1] (w.heap.size + 1) 0 (by omega)
  have zs_1 : (setL wA (w.heap.size + 1) 0 [.int .i64 m, .slice At 0 dt, .slice A0 n0 d0, .slice A1 n1 d1]).heap.size = wA.heap.size := setL_size _ _ _ _
  replace bR := bR.setAll [.int .i64 m, .slice At 0 dt, .slice A0 n0 d0, .slice A1 n1 d1] rfl
  generalize setL wA _ 0 _ = w1 at *
  have u0_ := bR.cell (j := 0) rfl
  have u1_ := bR.cell (j := 1) rfl
  have u2_ := bR.cell (j := 2) rfl
  have u3_ := bR.cell (j := 3) rfl
  refine bodyPost_ret (by simp only [results, Tryz.results64]; simp [go_sem, u0_, u1_, u2_, u3_]; rfl) rfl ?_
  exact ⟨rfl, b0⟩
set_option maxHeartbeats 4000000 in
theorem specLeave_in (m : Int) (vt vs vw : Value) (st : List Int) (ls : List Sl) (lw : List Wt) (w : World) {lo hi lo2 hi2 lo3 hi3 : Nat} (h0 : Rd Nm.cells 1 w lo3 hi3 vt st) (h : Rd Sl.cells 3 w lo hi vs ls) (h2 : Rd Wt.cells 2 w lo2 hi2 vw lw) (hh0 : hi3 ≤ w.heap.size) (hh : hi ≤ w.heap.size) (hh2 : hi2 ≤ w.heap.size) (hl : st.length ≤ 1048576) (hp : Qu.parts ls lw = true) {j : Nat} {x : Int} (hj : j + 1 = st.length) (hx : st[j]? = some x) (hk : Sl.endOk ls x = true) :
    Calls Tryz.prog 64 #[.agg #[.int .i64 m, vt, vs, vw]] w fun e w' => ∃ v0 v1 v2, e = .returned (.tuple #[.agg #[.int .i64 m, v0, v1, v2], .int .i64 x]) ∧ Ow Nm.cells 1 3 w' w.heap.size w'.heap.size v0 (st.take j) ∧ Ow Sl.cells 3 127 w' w.heap.size w'.heap.size v1 ((Qu.enP ls lw x).1) ∧ Ow Wt.cells 2 134 w' w.heap.size w'.heap.size v2 ((Qu.enP ls lw x).2) ∧ Below w.heap.size w w' := by
  have b0 : Below w.heap.size w ((w.alloc (.cells #[.int .i64 m, vt, vs, vw] 35)).alloc (.cells #[.int .i64 0, .slice none 0 0, .slice none 0 0, .slice none 0 0] 35)) := ((Below.refl w.heap.size w).alloc (Nat.le_refl _) _).alloc (by simp) _
  have z0 : ((w.alloc (.cells #[.int .i64 m, vt, vs, vw] 35)).alloc (.cells #[.int .i64 0, .slice none 0 0, .slice none 0 0, .slice none 0 0] 35)).heap.size = w.heap.size + 2 := by simp
  have bx := Box.new w #[.int .i64 m, vt, vs, vw] 35 rfl
  have bR := Box.new (g := w.heap.size + 1) (w.alloc (.cells #[.int .i64 m, vt, vs, vw] 35)) #[.int .i64 0, .slice none 0 0, .slice none 0 0, .slice none 0 0] 35 (by simp)
  replace bx := bx.below ((Below.refl _ (w.alloc (.cells #[.int .i64 m, vt, vs, vw] 35))).alloc (Nat.le_refl _) (.cells #[.int .i64 0, .slice none 0 0, .slice none 0 0, .slice none 0 0] 35)) bx.lt
  have ht := h0.below b0 hh0
  have hs := h.below b0 hh
  have hw := h2.below b0 hh2
  have hv0_ := h0.form
  have hv_ := h.form
  have hv2_ := h2.form
  clear h0 h h2
  generalize hwA : (w.alloc (.cells #[.int .i64 m, vt, vs, vw] 35)).alloc (.cells #[.int .i64 0, .slice none 0 0, .slice none 0 0, .slice none 0 0] 35) = wA at *
  obtain ⟨At, nt, dt, rfl, _, _, _⟩ := hv0_
  obtain ⟨A0, n0, d0, rfl, _, _, _⟩ := hv_
  obtain ⟨A1, n1, d1, rfl, _, _, _⟩ := hv2_
  have hn := Nat.le_of_eq ht.n_eq.1
  have hn' := Nat.le_of_eq ht.n_eq.1.symm
  have hc := ht.n_eq.2
  have hj1 : j < nt := by omega
  obtain ⟨b, off, x', rfl, hx', _, hbh, f0⟩ := Nm.get ht hj1 (Below.refl wA.heap.size wA) (by omega)
  clear f0 hx' x'
  have HP := Lib.hid hp
  have HX := Lib.hid hx
  have HE := Lib.hid (Qu.ei_yes hk lw)
  have HK := Lib.hid hk
  have hje : (nt : Int) - 1 = (j : Int) := by omega
  have hjn : (j : Int) < (nt : Int) := by omega
  have hjl : (j : Int) ≤ (nt : Int) := by omega
  have hjc : (j : Int) ≤ (dt : Int) := by omega
  have hjm : dt ≤ 9223372036854775807 := by have := hc.2; unfold maxLen at this; omega
  have hzd2 : ((nt : Int) == 0) = false := by rw [beq_eq_false_iff_ne]; omega
  have hjd : decide ((j : Int) < 0) = false := decide_eq_false (by omega)
  have hjw : IntKind.i64.wrap (j : Int) = (j : Int) := IntWalk.i64_in _ (by omega)
  have hjnn : j ≤ nt := by omega
  have hjl2 : (st.take j).length ≤ 1048576 := by rw [List.length_take]; omega
  clear hp hx hk hj hn hn' hc
  go_enter Tryz.func64, Tryz.ntmps64
  have bx_0 := bx.cell (j := 0) rfl
  have bx_1 := bx.cell (j := 1) rfl
  have bx_2 := bx.cell (j := 2) rfl
  have bx_3 := bx.cell (j := 3) rfl
  have bx_z := bx.frozen
  have bx_l := bx.lt
  have bR_0 := bR.cell (j := 0) rfl
  have bR_1 := bR.cell (j := 1) rfl
  have bR_2 := bR.cell (j := 2) rfl
  have bR_3 := bR.cell (j := 3) rfl
  have bR_z := bR.frozen
  have bR_l := bR.lt
  go_upto_region 4 with fail
  clear hwA
  clear bx_0 bx_1 bx_2 bx_3 bx_z bx_l bR_0 bR_1 bR_2 bR_3 bR_z bR_l
  go_cut [5, 6] (fun s5 s6 wx => ∃ (ww : World) (gT : Nat) (v1 v2 : Value), ww = wx ∧ s5 = .pointer (some ⟨gT, 0, none⟩) ∧ s6 = .bool (Sl.endOk ls x) ∧ Below wA.heap.size wA wx ∧ wA.heap.size ≤ gT ∧ Box wx gT 33 [v1, v2] ∧ Ow Sl.cells 3 127 wx wA.heap.size wx.heap.size v1 (Qu.eiS ls lw x) ∧ Ow Wt.cells 2 134 wx wA.heap.size wx.heap.size v2 (Qu.eiW ls lw x))
  case first =>
    have bC := Below.refl wA.heap.size wA
    have zB := b0.size
    refine wp_region_held_drew (S := fun W => Box W (w.heap.size) 35 [.int .i64 m, .slice (some ⟨b, off, none⟩) nt dt, .slice A0 n0 d0, .slice A1 n1 d1] ∧ Rd Nm.cells 1 W lo3 hi3 (.slice (some ⟨b, off, none⟩) nt dt) st) (by kernel_rfl) (show (fun (W : World) => Box W (w.heap.size) 35 [.int .i64 m, .slice (some ⟨b, off, none⟩) nt dt, .slice A0 n0 d0, .slice A1 n1 d1] ∧ Rd Nm.cells 1 W lo3 hi3 (.slice (some ⟨b, off, none⟩) nt dt) st) wA.drew from ⟨bx, ht.drew⟩) (fun hHeld => ?_)
    refine wpAnyH_take (i := 0) (v := .pointer (some ⟨w.heap.size, 2, none⟩)) rfl (by kernel_rfl) (by kernel_rfl) (by kernel_rfl) (fun _ _ _ h => h) (Or.inl ⟨by rfl, by intro w hSw; obtain ⟨hS0, hS1⟩ := hSw; have y00 := hS0.cell (j := 0) rfl; have y01 := hS0.cell (j := 1) rfl; have y02 := hS0.cell (j := 2) rfl; have y03 := hS0.cell (j := 3) rfl; have yx := Nm.at_ hS1 HX.out; go_simp⟩) hHeld ?_
    refine wpAnyH_take (i := 1) (v := .agg #[.slice A0 n0 d0, .slice A1 n1 d1]) rfl (by kernel_rfl) (by kernel_rfl) (by kernel_rfl) (fun _ _ _ h => h) (Or.inl ⟨by rfl, by intro w hSw; obtain ⟨hS0, hS1⟩ := hSw; have y00 := hS0.cell (j := 0) rfl; have y01 := hS0.cell (j := 1) rfl; have y02 := hS0.cell (j := 2) rfl; have y03 := hS0.cell (j := 3) rfl; have yx := Nm.at_ hS1 HX.out; go_simp⟩) hHeld ?_
    refine wpAnyH_take (i := 2) (v := .pointer (some ⟨w.heap.size, 1, none⟩)) rfl (by kernel_rfl) (by kernel_rfl) (by kernel_rfl) (fun _ _ _ h => h) (Or.inl ⟨by rfl, by intro w hSw; obtain ⟨hS0, hS1⟩ := hSw; have y00 := hS0.cell (j := 0) rfl; have y01 := hS0.cell (j := 1) rfl; have y02 := hS0.cell (j := 2) rfl; have y03 := hS0.cell (j := 3) rfl; have yx := Nm.at_ hS1 HX.out; go_simp⟩) hHeld ?_
    refine wpAnyH_take (i := 3) (v := .slice (some ⟨b, off, none⟩) nt dt) rfl (by kernel_rfl) (by kernel_rfl) (by kernel_rfl) (fun _ _ _ h => h) (Or.inl ⟨by rfl, by intro w hSw; obtain ⟨hS0, hS1⟩ := hSw; have y00 := hS0.cell (j := 0) rfl; have y01 := hS0.cell (j := 1) rfl; have y02 := hS0.cell (j := 2) rfl; have y03 := hS0.cell (j := 3) rfl; have yx := Nm.at_ hS1 HX.out; go_simp⟩) hHeld ?_
    refine wpAnyH_take (i := 4) (v := .int .i64 nt) rfl (by kernel_rfl) (by kernel_rfl) (by kernel_rfl) (fun _ _ _ h => h) (Or.inl ⟨by rfl, by intro w hSw; obtain ⟨hS0, hS1⟩ := hSw; have y00 := hS0.cell (j := 0) rfl; have y01 := hS0.cell (j := 1) rfl; have y02 := hS0.cell (j := 2) rfl; have y03 := hS0.cell (j := 3) rfl; have yx := Nm.at_ hS1 HX.out; go_simp⟩) hHeld ?_
    refine wpAnyH_take (i := 5) (v := .int .i64 j) rfl (by kernel_rfl) (by kernel_rfl) (by kernel_rfl) (fun _ _ _ h => h) (Or.inl ⟨by rfl, by intro w hSw; obtain ⟨hS0, hS1⟩ := hSw; have y00 := hS0.cell (j := 0) rfl; have y01 := hS0.cell (j := 1) rfl; have y02 := hS0.cell (j := 2) rfl; have y03 := hS0.cell (j := 3) rfl; have yx := Nm.at_ hS1 HX.out; go_simp⟩) hHeld ?_
    refine wpAnyH_take (i := 6) (v := .pointer (some ⟨b, off + j, none⟩)) rfl (by kernel_rfl) (by kernel_rfl) (by kernel_rfl) (fun _ _ _ h => h) (Or.inl ⟨by rfl, by intro w hSw; obtain ⟨hS0, hS1⟩ := hSw; have y00 := hS0.cell (j := 0) rfl; have y01 := hS0.cell (j := 1) rfl; have y02 := hS0.cell (j := 2) rfl; have y03 := hS0.cell (j := 3) rfl; have yx := Nm.at_ hS1 HX.out; go_simp⟩) hHeld ?_
    refine wpAnyH_take (i := 7) (v := .int .i64 x) rfl (by kernel_rfl) (by kernel_rfl) (by kernel_rfl) (fun _ _ _ h => h) (Or.inl ⟨by rfl, by intro w hSw; obtain ⟨hS0, hS1⟩ := hSw; have y00 := hS0.cell (j := 0) rfl; have y01 := hS0.cell (j := 1) rfl; have y02 := hS0.cell (j := 2) rfl; have y03 := hS0.cell (j := 3) rfl; have yx := Nm.at_ hS1 HX.out; go_simp⟩) hHeld ?_
    clear hHeld
    refine held_gen (F := fun W' => Below wA.heap.size wA W') (Below.refl wA.heap.size wA).drew ?_
    rintro w1 b_1
    replace bx := bx.below b_1 bx.lt
    replace bR := bR.below b_1 bR.lt
    replace ht := ht.below b_1 (by omega)
    replace hs := hs.below b_1 (by omega)
    replace hw := hw.below b_1 (by omega)
    have z_2 := b_1.size
    replace bC := bC.trans (b_1.mono (by omega))
    clear b_1
    refine wpAnyH_ready (rs := [8, 12]) (by kernel_rfl) (by decide) ?_
    refine AllReadyH.cons rfl (fun K3a hK3a => ?_) (AllReadyH.cons rfl (fun K3b hK3b => ?_) AllReadyH.nil)
    · go_simp
      refine (specEndQ_in _ _ ls lw x w1 hs hw (by omega) (by omega) HP.out).mono ?_; rintro q_ w4 ⟨v5, v6, rfl, o5, o6, b_4⟩
      replace bx := bx.below b_4 bx.lt
      replace bR := bR.below b_4 bR.lt
      replace ht := ht.below b_4 (by omega)
      replace hs := hs.below b_4 (by omega)
      replace hw := hw.below b_4 (by omega)
      have z_5 := b_4.size
      replace bC := bC.trans (b_4.mono (by omega))
      clear b_4
      obtain ⟨A5, n5, d5, rfl, _, _, _⟩ := o5.rd.form
      obtain ⟨A6, n6, d6, rfl, _, _, _⟩ := o6.rd.form
      refine hK3a.out _ _ ⟨bx, ht⟩ (fun _ => ?_)
      have hHeld : (fun (W : World) => Box W (w.heap.size) 35 [.int .i64 m, .slice (some ⟨b, off, none⟩) nt dt, .slice A0 n0 d0, .slice A1 n1 d1] ∧ Rd Nm.cells 1 W lo3 hi3 (.slice (some ⟨b, off, none⟩) nt dt) st) w4 := ⟨bx, ht⟩
      refine wpAnyH_take (i := 9) (v := .tuple #[.agg #[.slice A5 n5 d5, .slice A6 n6 d6], .bool (Sl.endOk ls x)]) rfl (by kernel_rfl) (by kernel_rfl) (by kernel_rfl) (fun _ _ _ h => h) (Or.inl ⟨by rfl, by intro w hSw; obtain ⟨hS0, hS1⟩ := hSw; have y00 := hS0.cell (j := 0) rfl; have y01 := hS0.cell (j := 1) rfl; have y02 := hS0.cell (j := 2) rfl; have y03 := hS0.cell (j := 3) rfl; have yx := Nm.at_ hS1 HX.out; go_simp⟩) hHeld ?_
      refine wpAnyH_take (i := 10) (v := .agg #[.slice A5 n5 d5, .slice A6 n6 d6]) rfl (by kernel_rfl) (by kernel_rfl) (by kernel_rfl) (fun _ _ _ h => h) (Or.inl ⟨by rfl, by intro w hSw; obtain ⟨hS0, hS1⟩ := hSw; have y00 := hS0.cell (j := 0) rfl; have y01 := hS0.cell (j := 1) rfl; have y02 := hS0.cell (j := 2) rfl; have y03 := hS0.cell (j := 3) rfl; have yx := Nm.at_ hS1 HX.out; go_simp⟩) hHeld ?_
      refine wpAnyH_take (i := 11) (v := .bool (Sl.endOk ls x)) rfl (by kernel_rfl) (by kernel_rfl) (by kernel_rfl) (fun _ _ _ h => h) (Or.inl ⟨by rfl, by intro w hSw; obtain ⟨hS0, hS1⟩ := hSw; have y00 := hS0.cell (j := 0) rfl; have y01 := hS0.cell (j := 1) rfl; have y02 := hS0.cell (j := 2) rfl; have y03 := hS0.cell (j := 3) rfl; have yx := Nm.at_ hS1 HX.out; go_simp⟩) hHeld ?_
      clear hHeld
      refine wpAnyH_ready (rs := [12]) (by kernel_rfl) (by decide) ?_
      refine AllReadyH.cons rfl (fun K6 hK6 => ?_) AllReadyH.nil
      go_simp
      have b_7 := (Below.refl w4.heap.size w4).alloc (Nat.le_refl _) (.cells #[.slice none 0 0, .slice none 0 0] 33)
      have bT := Box.new w4 #[.slice none 0 0, .slice none 0 0] 33 rfl
      replace bx := bx.below b_7 bx.lt
      replace bR := bR.below b_7 bR.lt
      replace ht := ht.below b_7 (by omega)
      replace hs := hs.below b_7 (by omega)
      replace hw := hw.below b_7 (by omega)
      replace o5 := o5.below b_7 (by omega)
      replace o6 := o6.below b_7 (by omega)
      have z_8 := b_7.size
      replace bC := bC.trans (b_7.mono (by omega))
      clear b_7
      generalize w4.alloc _ = w7 at *
      generalize w4.heap.size = g7 at *
      refine hK6.out _ _ ⟨bx, ht⟩ (fun _ => ?_)
      refine wpAnyH_ready (rs := [13]) (by kernel_rfl) (by decide) ?_
      refine AllReadyH.cons rfl (fun K9 hK9 => ?_) AllReadyH.nil
      have bx_0 := bx.cell (j := 0) rfl
      have bx_1 := bx.cell (j := 1) rfl
      have bx_2 := bx.cell (j := 2) rfl
      have bx_3 := bx.cell (j := 3) rfl
      have bx_z := bx.frozen
      have bx_l := bx.lt
      have bR_0 := bR.cell (j := 0) rfl
      have bR_1 := bR.cell (j := 1) rfl
      have bR_2 := bR.cell (j := 2) rfl
      have bR_3 := bR.cell (j := 3) rfl
      have bR_z := bR.frozen
      have bR_l := bR.lt
      have bT_0 := bT.cell (j := 0) rfl
      have bT_1 := bT.cell (j := 1) rfl
      have bT_z := bT.frozen
      have bT_l := bT.lt
      go_simp
      clear bx_0 bx_1 bx_2 bx_3 bx_z bx_l bR_0 bR_1 bR_2 bR_3 bR_z bR_l bT_0 bT_1 bT_z bT_l
      generalize hwz : World.setCell (World.setCell _ _ _) _ _ = wz_
      obtain rfl : wz_ = setL w7 (g7) 0 [.slice A5 n5 d5, .slice A6 n6 d6] := hwz.symm
      clear hwz
      replace bx := bx.other (b := g7) (by omega) 0 [.slice A5 n5 d5, .slice A6 n6 d6]
      replace bR := bR.other (b := g7) (by omega) 0 [.slice A5 n5 d5, .slice A6 n6 d6]
      replace ht := ht.away (g := g7) (by omega) 0 [.slice A5 n5 d5, .slice A6 n6 d6]
      replace hs := hs.away (g := g7) (by omega) 0 [.slice A5 n5 d5, .slice A6 n6 d6]
      replace hw := hw.away (g := g7) (by omega) 0 [.slice A5 n5 d5, .slice A6 n6 d6]
      replace o5 := o5.box (g := g7) bT (by decide) 0 [.slice A5 n5 d5, .slice A6 n6 d6]
      replace o6 := o6.box (g := g7) bT (by decide) 0 [.slice A5 n5 d5, .slice A6 n6 d6]
      replace bC := setL_below bC [.slice A5 n5 d5, .slice A6 n6 d6] (g7) 0 (by omega)
      have zs_10 : (setL w7 (g7) 0 [.slice A5 n5 d5, .slice A6 n6 d6]).heap.size = w7.heap.size := setL_size _ _ _ _
      replace bT := bT.setAll [.slice A5 n5 d5, .slice A6 n6 d6] rfl
      generalize setL w7 _ 0 _ = w10 at *
      refine hK9.out _ _ ⟨bx, ht⟩ (fun _ => ?_)
      refine wpAnyH_ready (rs := [14]) (by kernel_rfl) (by decide) ?_
      refine AllReadyH.cons rfl (fun K11 hK11 => ?_) AllReadyH.nil
      go_simp
      refine hK11.out _ _ ⟨bx, ht⟩ (fun _ => ?_)
      refine ⟨by kernel_rfl, ?_⟩
      have bx_0 := bx.cell (j := 0) rfl
      have bx_1 := bx.cell (j := 1) rfl
      have bx_2 := bx.cell (j := 2) rfl
      have bx_3 := bx.cell (j := 3) rfl
      have bx_z := bx.frozen
      have bx_l := bx.lt
      have bR_0 := bR.cell (j := 0) rfl
      have bR_1 := bR.cell (j := 1) rfl
      have bR_2 := bR.cell (j := 2) rfl
      have bR_3 := bR.cell (j := 3) rfl
      have bR_z := bR.frozen
      have bR_l := bR.lt
      have bT_0 := bT.cell (j := 0) rfl
      have bT_1 := bT.cell (j := 1) rfl
      have bT_z := bT.frozen
      have bT_l := bT.lt
      go_wp2_with fail
      clear bx_0 bx_1 bx_2 bx_3 bx_z bx_l bR_0 bR_1 bR_2 bR_3 bR_z bR_l bT_0 bT_1 bT_z bT_l
      go_meet
      exact ⟨_, _, _, _, rfl, rfl, rfl, bC, by omega, bT, o5.mono (by omega) (by omega), o6.mono (by omega) (by omega)⟩
    · go_simp
      have b_4 := (Below.refl w1.heap.size w1).alloc (Nat.le_refl _) (.cells #[.slice none 0 0, .slice none 0 0] 33)
      have bT := Box.new w1 #[.slice none 0 0, .slice none 0 0] 33 rfl
      replace bx := bx.below b_4 bx.lt
      replace bR := bR.below b_4 bR.lt
      replace ht := ht.below b_4 (by omega)
      replace hs := hs.below b_4 (by omega)
      replace hw := hw.below b_4 (by omega)
      have z_5 := b_4.size
      replace bC := bC.trans (b_4.mono (by omega))
      clear b_4
      generalize w1.alloc _ = w4 at *
      generalize w1.heap.size = g4 at *
      refine hK3b.out _ _ ⟨bx, ht⟩ (fun _ => ?_)
      refine wpAnyH_ready (rs := [8]) (by kernel_rfl) (by decide) ?_
      refine AllReadyH.cons rfl (fun K6 hK6 => ?_) AllReadyH.nil
      go_simp
      refine (specEndQ_in _ _ ls lw x w4 hs hw (by omega) (by omega) HP.out).mono ?_; rintro q_ w7 ⟨v5, v6, rfl, o5, o6, b_7⟩
      replace bx := bx.below b_7 bx.lt
      replace bR := bR.below b_7 bR.lt
      replace bT := bT.below b_7 bT.lt
      replace ht := ht.below b_7 (by omega)
      replace hs := hs.below b_7 (by omega)
      replace hw := hw.below b_7 (by omega)
      have z_8 := b_7.size
      replace bC := bC.trans (b_7.mono (by omega))
      clear b_7
      obtain ⟨A5, n5, d5, rfl, _, _, _⟩ := o5.rd.form
      obtain ⟨A6, n6, d6, rfl, _, _, _⟩ := o6.rd.form
      refine hK6.out _ _ ⟨bx, ht⟩ (fun _ => ?_)
      have hHeld : (fun (W : World) => Box W (w.heap.size) 35 [.int .i64 m, .slice (some ⟨b, off, none⟩) nt dt, .slice A0 n0 d0, .slice A1 n1 d1] ∧ Rd Nm.cells 1 W lo3 hi3 (.slice (some ⟨b, off, none⟩) nt dt) st) w7 := ⟨bx, ht⟩
      refine wpAnyH_take (i := 9) (v := .tuple #[.agg #[.slice A5 n5 d5, .slice A6 n6 d6], .bool (Sl.endOk ls x)]) rfl (by kernel_rfl) (by kernel_rfl) (by kernel_rfl) (fun _ _ _ h => h) (Or.inl ⟨by rfl, by intro w hSw; obtain ⟨hS0, hS1⟩ := hSw; have y00 := hS0.cell (j := 0) rfl; have y01 := hS0.cell (j := 1) rfl; have y02 := hS0.cell (j := 2) rfl; have y03 := hS0.cell (j := 3) rfl; have yx := Nm.at_ hS1 HX.out; go_simp⟩) hHeld ?_
      refine wpAnyH_take (i := 10) (v := .agg #[.slice A5 n5 d5, .slice A6 n6 d6]) rfl (by kernel_rfl) (by kernel_rfl) (by kernel_rfl) (fun _ _ _ h => h) (Or.inl ⟨by rfl, by intro w hSw; obtain ⟨hS0, hS1⟩ := hSw; have y00 := hS0.cell (j := 0) rfl; have y01 := hS0.cell (j := 1) rfl; have y02 := hS0.cell (j := 2) rfl; have y03 := hS0.cell (j := 3) rfl; have yx := Nm.at_ hS1 HX.out; go_simp⟩) hHeld ?_
      refine wpAnyH_take (i := 11) (v := .bool (Sl.endOk ls x)) rfl (by kernel_rfl) (by kernel_rfl) (by kernel_rfl) (fun _ _ _ h => h) (Or.inl ⟨by rfl, by intro w hSw; obtain ⟨hS0, hS1⟩ := hSw; have y00 := hS0.cell (j := 0) rfl; have y01 := hS0.cell (j := 1) rfl; have y02 := hS0.cell (j := 2) rfl; have y03 := hS0.cell (j := 3) rfl; have yx := Nm.at_ hS1 HX.out; go_simp⟩) hHeld ?_
      clear hHeld
      refine wpAnyH_ready (rs := [13]) (by kernel_rfl) (by decide) ?_
      refine AllReadyH.cons rfl (fun K9 hK9 => ?_) AllReadyH.nil
      have bx_0 := bx.cell (j := 0) rfl
      have bx_1 := bx.cell (j := 1) rfl
      have bx_2 := bx.cell (j := 2) rfl
      have bx_3 := bx.cell (j := 3) rfl
      have bx_z := bx.frozen
      have bx_l := bx.lt
      have bR_0 := bR.cell (j := 0) rfl
      have bR_1 := bR.cell (j := 1) rfl
      have bR_2 := bR.cell (j := 2) rfl
      have bR_3 := bR.cell (j := 3) rfl
      have bR_z := bR.frozen
      have bR_l := bR.lt
      have bT_0 := bT.cell (j := 0) rfl
      have bT_1 := bT.cell (j := 1) rfl
      have bT_z := bT.frozen
      have bT_l := bT.lt
      go_simp
      clear bx_0 bx_1 bx_2 bx_3 bx_z bx_l bR_0 bR_1 bR_2 bR_3 bR_z bR_l bT_0 bT_1 bT_z bT_l
      generalize hwz : World.setCell (World.setCell _ _ _) _ _ = wz_
      obtain rfl : wz_ = setL w7 (g4) 0 [.slice A5 n5 d5, .slice A6 n6 d6] := hwz.symm
      clear hwz
      replace bx := bx.other (b := g4) (by omega) 0 [.slice A5 n5 d5, .slice A6 n6 d6]
      replace bR := bR.other (b := g4) (by omega) 0 [.slice A5 n5 d5, .slice A6 n6 d6]
      replace ht := ht.away (g := g4) (by omega) 0 [.slice A5 n5 d5, .slice A6 n6 d6]
      replace hs := hs.away (g := g4) (by omega) 0 [.slice A5 n5 d5, .slice A6 n6 d6]
      replace hw := hw.away (g := g4) (by omega) 0 [.slice A5 n5 d5, .slice A6 n6 d6]
      replace o5 := o5.box (g := g4) bT (by decide) 0 [.slice A5 n5 d5, .slice A6 n6 d6]
      replace o6 := o6.box (g := g4) bT (by decide) 0 [.slice A5 n5 d5, .slice A6 n6 d6]
      replace bC := setL_below bC [.slice A5 n5 d5, .slice A6 n6 d6] (g4) 0 (by omega)
      have zs_10 : (setL w7 (g4) 0 [.slice A5 n5 d5, .slice A6 n6 d6]).heap.size = w7.heap.size := setL_size _ _ _ _
      replace bT := bT.setAll [.slice A5 n5 d5, .slice A6 n6 d6] rfl
      generalize setL w7 _ 0 _ = w10 at *
      refine hK9.out _ _ ⟨bx, ht⟩ (fun _ => ?_)
      refine wpAnyH_ready (rs := [14]) (by kernel_rfl) (by decide) ?_
      refine AllReadyH.cons rfl (fun K11 hK11 => ?_) AllReadyH.nil
      go_simp
      refine hK11.out _ _ ⟨bx, ht⟩ (fun _ => ?_)
      refine ⟨by kernel_rfl, ?_⟩
      have bx_0 := bx.cell (j := 0) rfl
      have bx_1 := bx.cell (j := 1) rfl
      have bx_2 := bx.cell (j := 2) rfl
      have bx_3 := bx.cell (j := 3) rfl
      have bx_z := bx.frozen
      have bx_l := bx.lt
      have bR_0 := bR.cell (j := 0) rfl
      have bR_1 := bR.cell (j := 1) rfl
      have bR_2 := bR.cell (j := 2) rfl
      have bR_3 := bR.cell (j := 3) rfl
      have bR_z := bR.frozen
      have bR_l := bR.lt
      have bT_0 := bT.cell (j := 0) rfl
      have bT_1 := bT.cell (j := 1) rfl
      have bT_z := bT.frozen
      have bT_l := bT.lt
      go_wp2_with fail
      clear bx_0 bx_1 bx_2 bx_3 bx_z bx_l bR_0 bR_1 bR_2 bR_3 bR_z bR_l bT_0 bT_1 bT_z bT_l
      go_meet
      exact ⟨_, _, _, _, rfl, rfl, rfl, bC, by omega, bT, o5.mono (by omega) (by omega), o6.mono (by omega) (by omega)⟩
  case rest =>
      obtain ⟨wx, gT, v1, v2, rfl, rfl, rfl, bC, zT, bT, o5, o6⟩ := hcut
      replace bx := bx.below bC bx.lt
      replace bR := bR.below bC bR.lt
      replace ht := ht.below bC (by omega)
      replace hs := hs.below bC (by omega)
      replace hw := hw.below bC (by omega)
      have z_51 := bC.size
      replace b0 := b0.trans (bC.mono (by omega))
      clear bC
      obtain ⟨A5, n5, d5, rfl, _, _, _⟩ := o5.rd.form
      obtain ⟨A6, n6, d6, rfl, _, _, _⟩ := o6.rd.form
      have zTl := bT.lt
      have bx_0 := bx.cell (j := 0) rfl
      have bx_1 := bx.cell (j := 1) rfl
      have bx_2 := bx.cell (j := 2) rfl
      have bx_3 := bx.cell (j := 3) rfl
      have bx_z := bx.frozen
      have bx_l := bx.lt
      have bR_0 := bR.cell (j := 0) rfl
      have bR_1 := bR.cell (j := 1) rfl
      have bR_2 := bR.cell (j := 2) rfl
      have bR_3 := bR.cell (j := 3) rfl
      have bR_z := bR.frozen
      have bR_l := bR.lt
      have bT_0 := bT.cell (j := 0) rfl
      have bT_1 := bT.cell (j := 1) rfl
      have bT_z := bT.frozen
      have bT_l := bT.lt
      go_upto_region 5 with fail
      clear bx_0 bx_1 bx_2 bx_3 bx_z bx_l bR_0 bR_1 bR_2 bR_3 bR_z bR_l bT_0 bT_1 bT_z bT_l
      refine wp_region_held_drew (S := fun W => Box W (w.heap.size) 35 [.int .i64 m, .slice (some ⟨b, off, none⟩) nt dt, .slice A0 n0 d0, .slice A1 n1 d1] ∧ Box W (gT) 33 [.slice A5 n5 d5, .slice A6 n6 d6] ∧ Rd Nm.cells 1 W lo3 hi3 (.slice (some ⟨b, off, none⟩) nt dt) st) (by kernel_rfl) (show (fun (W : World) => Box W (w.heap.size) 35 [.int .i64 m, .slice (some ⟨b, off, none⟩) nt dt, .slice A0 n0 d0, .slice A1 n1 d1] ∧ Box W (gT) 33 [.slice A5 n5 d5, .slice A6 n6 d6] ∧ Rd Nm.cells 1 W lo3 hi3 (.slice (some ⟨b, off, none⟩) nt dt) st) wx.drew from ⟨bx, bT, ht.drew⟩) (fun hHeld => ?_)
      refine wpAnyH_take (i := 0) (v := .pointer (some ⟨w.heap.size, 0, none⟩)) rfl (by kernel_rfl) (by kernel_rfl) (by kernel_rfl) (fun _ _ _ h => h) (Or.inl ⟨by rfl, by intro w hSw; obtain ⟨hS0, hS1, hS2⟩ := hSw; have y00 := hS0.cell (j := 0) rfl; have y01 := hS0.cell (j := 1) rfl; have y02 := hS0.cell (j := 2) rfl; have y03 := hS0.cell (j := 3) rfl; have y10 := hS1.cell (j := 0) rfl; have y11 := hS1.cell (j := 1) rfl; have yx := Nm.at_ hS2 HX.out; go_simp⟩) hHeld ?_
      refine wpAnyH_take (i := 1) (v := .int .i64 m) rfl (by kernel_rfl) (by kernel_rfl) (by kernel_rfl) (fun _ _ _ h => h) (Or.inl ⟨by rfl, by intro w hSw; obtain ⟨hS0, hS1, hS2⟩ := hSw; have y00 := hS0.cell (j := 0) rfl; have y01 := hS0.cell (j := 1) rfl; have y02 := hS0.cell (j := 2) rfl; have y03 := hS0.cell (j := 3) rfl; have y10 := hS1.cell (j := 0) rfl; have y11 := hS1.cell (j := 1) rfl; have yx := Nm.at_ hS2 HX.out; go_simp⟩) hHeld ?_
      refine wpAnyH_take (i := 2) (v := .pointer (some ⟨w.heap.size, 1, none⟩)) rfl (by kernel_rfl) (by kernel_rfl) (by kernel_rfl) (fun _ _ _ h => h) (Or.inl ⟨by rfl, by intro w hSw; obtain ⟨hS0, hS1, hS2⟩ := hSw; have y00 := hS0.cell (j := 0) rfl; have y01 := hS0.cell (j := 1) rfl; have y02 := hS0.cell (j := 2) rfl; have y03 := hS0.cell (j := 3) rfl; have y10 := hS1.cell (j := 0) rfl; have y11 := hS1.cell (j := 1) rfl; have yx := Nm.at_ hS2 HX.out; go_simp⟩) hHeld ?_
      refine wpAnyH_take (i := 3) (v := .slice (some ⟨b, off, none⟩) nt dt) rfl (by kernel_rfl) (by kernel_rfl) (by kernel_rfl) (fun _ _ _ h => h) (Or.inl ⟨by rfl, by intro w hSw; obtain ⟨hS0, hS1, hS2⟩ := hSw; have y00 := hS0.cell (j := 0) rfl; have y01 := hS0.cell (j := 1) rfl; have y02 := hS0.cell (j := 2) rfl; have y03 := hS0.cell (j := 3) rfl; have y10 := hS1.cell (j := 0) rfl; have y11 := hS1.cell (j := 1) rfl; have yx := Nm.at_ hS2 HX.out; go_simp⟩) hHeld ?_
      refine wpAnyH_take (i := 4) (v := .int .i64 nt) rfl (by kernel_rfl) (by kernel_rfl) (by kernel_rfl) (fun _ _ _ h => h) (Or.inl ⟨by rfl, by intro w hSw; obtain ⟨hS0, hS1, hS2⟩ := hSw; have y00 := hS0.cell (j := 0) rfl; have y01 := hS0.cell (j := 1) rfl; have y02 := hS0.cell (j := 2) rfl; have y03 := hS0.cell (j := 3) rfl; have y10 := hS1.cell (j := 0) rfl; have y11 := hS1.cell (j := 1) rfl; have yx := Nm.at_ hS2 HX.out; go_simp⟩) hHeld ?_
      refine wpAnyH_take (i := 5) (v := .int .i64 j) rfl (by kernel_rfl) (by kernel_rfl) (by kernel_rfl) (fun _ _ _ h => h) (Or.inl ⟨by rfl, by intro w hSw; obtain ⟨hS0, hS1, hS2⟩ := hSw; have y00 := hS0.cell (j := 0) rfl; have y01 := hS0.cell (j := 1) rfl; have y02 := hS0.cell (j := 2) rfl; have y03 := hS0.cell (j := 3) rfl; have y10 := hS1.cell (j := 0) rfl; have y11 := hS1.cell (j := 1) rfl; have yx := Nm.at_ hS2 HX.out; go_simp⟩) hHeld ?_
      refine wpAnyH_take (i := 6) (v := .slice (some ⟨b, off, none⟩) j dt) rfl (by kernel_rfl) (by kernel_rfl) (by kernel_rfl) (fun _ _ _ h => h) (Or.inl ⟨by rfl, by intro w hSw; obtain ⟨hS0, hS1, hS2⟩ := hSw; have y00 := hS0.cell (j := 0) rfl; have y01 := hS0.cell (j := 1) rfl; have y02 := hS0.cell (j := 2) rfl; have y03 := hS0.cell (j := 3) rfl; have y10 := hS1.cell (j := 0) rfl; have y11 := hS1.cell (j := 1) rfl; have yx := Nm.at_ hS2 HX.out; go_simp⟩) hHeld ?_
      refine wpAnyH_take (i := 8) (v := .agg #[.slice A5 n5 d5, .slice A6 n6 d6]) rfl (by kernel_rfl) (by kernel_rfl) (by kernel_rfl) (fun _ _ _ h => h) (Or.inl ⟨by rfl, by intro w hSw; obtain ⟨hS0, hS1, hS2⟩ := hSw; have y00 := hS0.cell (j := 0) rfl; have y01 := hS0.cell (j := 1) rfl; have y02 := hS0.cell (j := 2) rfl; have y03 := hS0.cell (j := 3) rfl; have y10 := hS1.cell (j := 0) rfl; have y11 := hS1.cell (j := 1) rfl; have yx := Nm.at_ hS2 HX.out; go_simp⟩) hHeld ?_
      refine wpAnyH_take (i := 10) (v := .pointer (some ⟨w.heap.size, 1, none⟩)) rfl (by kernel_rfl) (by kernel_rfl) (by kernel_rfl) (fun _ _ _ h => h) (Or.inl ⟨by rfl, by intro w hSw; obtain ⟨hS0, hS1, hS2⟩ := hSw; have y00 := hS0.cell (j := 0) rfl; have y01 := hS0.cell (j := 1) rfl; have y02 := hS0.cell (j := 2) rfl; have y03 := hS0.cell (j := 3) rfl; have y10 := hS1.cell (j := 0) rfl; have y11 := hS1.cell (j := 1) rfl; have yx := Nm.at_ hS2 HX.out; go_simp⟩) hHeld ?_
      refine wpAnyH_take (i := 11) (v := .slice (some ⟨b, off, none⟩) nt dt) rfl (by kernel_rfl) (by kernel_rfl) (by kernel_rfl) (fun _ _ _ h => h) (Or.inl ⟨by rfl, by intro w hSw; obtain ⟨hS0, hS1, hS2⟩ := hSw; have y00 := hS0.cell (j := 0) rfl; have y01 := hS0.cell (j := 1) rfl; have y02 := hS0.cell (j := 2) rfl; have y03 := hS0.cell (j := 3) rfl; have y10 := hS1.cell (j := 0) rfl; have y11 := hS1.cell (j := 1) rfl; have yx := Nm.at_ hS2 HX.out; go_simp⟩) hHeld ?_
      refine wpAnyH_take (i := 12) (v := .int .i64 nt) rfl (by kernel_rfl) (by kernel_rfl) (by kernel_rfl) (fun _ _ _ h => h) (Or.inl ⟨by rfl, by intro w hSw; obtain ⟨hS0, hS1, hS2⟩ := hSw; have y00 := hS0.cell (j := 0) rfl; have y01 := hS0.cell (j := 1) rfl; have y02 := hS0.cell (j := 2) rfl; have y03 := hS0.cell (j := 3) rfl; have y10 := hS1.cell (j := 0) rfl; have y11 := hS1.cell (j := 1) rfl; have yx := Nm.at_ hS2 HX.out; go_simp⟩) hHeld ?_
      refine wpAnyH_take (i := 13) (v := .int .i64 j) rfl (by kernel_rfl) (by kernel_rfl) (by kernel_rfl) (fun _ _ _ h => h) (Or.inl ⟨by rfl, by intro w hSw; obtain ⟨hS0, hS1, hS2⟩ := hSw; have y00 := hS0.cell (j := 0) rfl; have y01 := hS0.cell (j := 1) rfl; have y02 := hS0.cell (j := 2) rfl; have y03 := hS0.cell (j := 3) rfl; have y10 := hS1.cell (j := 0) rfl; have y11 := hS1.cell (j := 1) rfl; have yx := Nm.at_ hS2 HX.out; go_simp⟩) hHeld ?_
      refine wpAnyH_take (i := 14) (v := .pointer (some ⟨b, off + j, none⟩)) rfl (by kernel_rfl) (by kernel_rfl) (by kernel_rfl) (fun _ _ _ h => h) (Or.inl ⟨by rfl, by intro w hSw; obtain ⟨hS0, hS1, hS2⟩ := hSw; have y00 := hS0.cell (j := 0) rfl; have y01 := hS0.cell (j := 1) rfl; have y02 := hS0.cell (j := 2) rfl; have y03 := hS0.cell (j := 3) rfl; have y10 := hS1.cell (j := 0) rfl; have y11 := hS1.cell (j := 1) rfl; have yx := Nm.at_ hS2 HX.out; go_simp⟩) hHeld ?_
      refine wpAnyH_take (i := 15) (v := .int .i64 x) rfl (by kernel_rfl) (by kernel_rfl) (by kernel_rfl) (fun _ _ _ h => h) (Or.inl ⟨by rfl, by intro w hSw; obtain ⟨hS0, hS1, hS2⟩ := hSw; have y00 := hS0.cell (j := 0) rfl; have y01 := hS0.cell (j := 1) rfl; have y02 := hS0.cell (j := 2) rfl; have y03 := hS0.cell (j := 3) rfl; have y10 := hS1.cell (j := 0) rfl; have y11 := hS1.cell (j := 1) rfl; have yx := Nm.at_ hS2 HX.out; go_simp⟩) hHeld ?_
      clear hHeld
      refine held_gen (F := fun W' => Below wx.heap.size wx W') (Below.refl wx.heap.size wx).drew ?_
      rintro w52 b_52
      replace bx := bx.below b_52 bx.lt
      replace bR := bR.below b_52 bR.lt
      replace bT := bT.below b_52 bT.lt
      replace ht := ht.below b_52 (by omega)
      replace hs := hs.below b_52 (by omega)
      replace hw := hw.below b_52 (by omega)
      replace o5 := o5.below b_52 (by omega)
      replace o6 := o6.below b_52 (by omega)
      have z_53 := b_52.size
      replace b0 := b0.trans (b_52.mono (by omega))
      clear b_52
      refine wpAnyH_ready (rs := [7]) (by kernel_rfl) (by decide) ?_
      refine AllReadyH.cons rfl (fun K54 hK54 => ?_) AllReadyH.nil
      go_simp
      refine (l1Own_any _ (st.take j) w52 (ht.take_ hjnn) (by omega) hjl2).mono ?_; rintro q_ w55 ⟨v3, rfl, o3, b_55⟩
      replace bx := bx.below b_55 bx.lt
      replace bR := bR.below b_55 bR.lt
      replace bT := bT.below b_55 bT.lt
      replace ht := ht.below b_55 (by omega)
      replace hs := hs.below b_55 (by omega)
      replace hw := hw.below b_55 (by omega)
      replace o5 := o5.below b_55 (by omega)
      replace o6 := o6.below b_55 (by omega)
      have z_56 := b_55.size
      replace b0 := b0.trans (b_55.mono (by omega))
      clear b_55
      obtain ⟨A3, n3, d3, rfl, _, _, _⟩ := o3.rd.form
      refine hK54.out _ _ ⟨bx, bT, ht⟩ (fun _ => ?_)
      have hHeld : (fun (W : World) => Box W (w.heap.size) 35 [.int .i64 m, .slice (some ⟨b, off, none⟩) nt dt, .slice A0 n0 d0, .slice A1 n1 d1] ∧ Box W (gT) 33 [.slice A5 n5 d5, .slice A6 n6 d6] ∧ Rd Nm.cells 1 W lo3 hi3 (.slice (some ⟨b, off, none⟩) nt dt) st) w55 := ⟨bx, bT, ht⟩
      refine wpAnyH_take (i := 9) (v := .agg #[.int .i64 m, .slice A3 n3 d3, .slice A5 n5 d5, .slice A6 n6 d6]) rfl (by kernel_rfl) (by kernel_rfl) (by kernel_rfl) (fun _ _ _ h => h) (Or.inl ⟨by rfl, by intro w hSw; obtain ⟨hS0, hS1, hS2⟩ := hSw; have y00 := hS0.cell (j := 0) rfl; have y01 := hS0.cell (j := 1) rfl; have y02 := hS0.cell (j := 2) rfl; have y03 := hS0.cell (j := 3) rfl; have y10 := hS1.cell (j := 0) rfl; have y11 := hS1.cell (j := 1) rfl; have yx := Nm.at_ hS2 HX.out; go_simp⟩) hHeld ?_
      clear hHeld
      refine wpAnyH_ready (rs := [16]) (by kernel_rfl) (by decide) ?_
      refine AllReadyH.cons rfl (fun K57 hK57 => ?_) AllReadyH.nil
      have bx_0 := bx.cell (j := 0) rfl
      have bx_1 := bx.cell (j := 1) rfl
      have bx_2 := bx.cell (j := 2) rfl
      have bx_3 := bx.cell (j := 3) rfl
      have bx_z := bx.frozen
      have bx_l := bx.lt
      have bR_0 := bR.cell (j := 0) rfl
      have bR_1 := bR.cell (j := 1) rfl
      have bR_2 := bR.cell (j := 2) rfl
      have bR_3 := bR.cell (j := 3) rfl
      have bR_z := bR.frozen
      have bR_l := bR.lt
      have bT_0 := bT.cell (j := 0) rfl
      have bT_1 := bT.cell (j := 1) rfl
      have bT_z := bT.frozen
      have bT_l := bT.lt
      go_simp
      clear bx_0 bx_1 bx_2 bx_3 bx_z bx_l bR_0 bR_1 bR_2 bR_3 bR_z bR_l bT_0 bT_1 bT_z bT_l
      generalize hwz : World.setCell (World.setCell (World.setCell (World.setCell _ _ _) _ _) _ _) _ _ = wz_
      obtain rfl : wz_ = setL w55 (w.heap.size + 1) 0 [.int .i64 m, .slice A3 n3 d3, .slice A5 n5 d5, .slice A6 n6 d6] := hwz.symm
      clear hwz
      replace bx := bx.other (b := w.heap.size + 1) (by omega) 0 [.int .i64 m, .slice A3 n3 d3, .slice A5 n5 d5, .slice A6 n6 d6]
      replace bT := bT.other (b := w.heap.size + 1) (by omega) 0 [.int .i64 m, .slice A3 n3 d3, .slice A5 n5 d5, .slice A6 n6 d6]
      replace ht := ht.away (g := w.heap.size + 1) (by omega) 0 [.int .i64 m, .slice A3 n3 d3, .slice A5 n5 d5, .slice A6 n6 d6]
      replace hs := hs.away (g := w.heap.size + 1) (by omega) 0 [.int .i64 m, .slice A3 n3 d3, .slice A5 n5 d5, .slice A6 n6 d6]
      replace hw := hw.away (g := w.heap.size + 1) (by omega) 0 [.int .i64 m, .slice A3 n3 d3, .slice A5 n5 d5, .slice A6 n6 d6]
      replace o5 := o5.box (g := w.heap.size + 1) bR (by decide) 0 [.int .i64 m, .slice A3 n3 d3, .slice A5 n5 d5, .slice A6 n6 d6]
      replace o6 := o6.box (g := w.heap.size + 1) bR (by decide) 0 [.int .i64 m, .slice A3 n3 d3, .slice A5 n5 d5, .slice A6 n6 d6]
      replace o3 := o3.box (g := w.heap.size + 1) bR (by decide) 0 [.int .i64 m, .slice A3 n3 d3, .slice A5 n5 d5, .slice A6 n6 d6]
      replace b0 := setL_below b0 [.int .i64 m, .slice A3 n3 d3, .slice A5 n5 d5, .slice A6 n6 d6] (w.heap.size + 1) 0 (by omega)
      have zs_58 : (setL w55 (w.heap.size + 1) 0 [.int .i64 m, .slice A3 n3 d3, .slice A5 n5 d5, .slice A6 n6 d6]).heap.size = w55.heap.size := setL_size _ _ _ _
      replace bR := bR.setAll [.int .i64 m, .slice A3 n3 d3, .slice A5 n5 d5, .slice A6 n6 d6] rfl
      generalize setL w55 _ 0 _ = w58 at *
      refine hK57.out _ _ ⟨bx, bT, ht⟩ (fun _ => ?_)
      refine wpAnyH_ready (rs := [17]) (by kernel_rfl) (by decide) ?_
      refine AllReadyH.cons rfl (fun K59 hK59 => ?_) AllReadyH.nil
      go_simp
      refine hK59.out _ _ ⟨bx, bT, ht⟩ (fun _ => ?_)
      refine ⟨by kernel_rfl, ?_⟩
      have bx_0 := bx.cell (j := 0) rfl
      have bx_1 := bx.cell (j := 1) rfl
      have bx_2 := bx.cell (j := 2) rfl
      have bx_3 := bx.cell (j := 3) rfl
      have bx_z := bx.frozen
      have bx_l := bx.lt
      have bR_0 := bR.cell (j := 0) rfl
      have bR_1 := bR.cell (j := 1) rfl
      have bR_2 := bR.cell (j := 2) rfl
      have bR_3 := bR.cell (j := 3) rfl
      have bR_z := bR.frozen
      have bR_l := bR.lt
      have bT_0 := bT.cell (j := 0) rfl
      have bT_1 := bT.cell (j := 1) rfl
      have bT_z := bT.frozen
      have bT_l := bT.lt
      go_wp2_with fail
      clear bx_0 bx_1 bx_2 bx_3 bx_z bx_l bR_0 bR_1 bR_2 bR_3 bR_z bR_l bT_0 bT_1 bT_z bT_l
      have u0_ := bR.cell (j := 0) rfl
      have u1_ := bR.cell (j := 1) rfl
      have u2_ := bR.cell (j := 2) rfl
      have u3_ := bR.cell (j := 3) rfl
      refine bodyPost_ret (by simp only [results, Tryz.results64]; simp [go_sem, u0_, u1_, u2_, u3_]; rfl) rfl ?_
      exact ⟨_, _, _, rfl, o3.mono (by omega) (by omega), by rw [← HE.out.1]; exact o5.mono (by omega) (by omega), by rw [← HE.out.2]; exact o6.mono (by omega) (by omega), b0⟩
set_option maxHeartbeats 2000000 in
theorem implLeave_nil (m : Int) (vt vs vw : Value) (st : List Int) (ls : List Sl) (lw : List Wt) (w : World) {lo hi lo2 hi2 lo3 hi3 : Nat} (h0 : Rd Nm.cells 1 w lo3 hi3 vt st) (h : Rd Sl.cells 3 w lo hi vs ls) (h2 : Rd Wt.cells 2 w lo2 hi2 vw lw) (hh0 : hi3 ≤ w.heap.size) (hh : hi ≤ w.heap.size) (hh2 : hi2 ≤ w.heap.size) (hz : st = []) :
    Calls Tryz.prog 65 #[.agg #[.int .i64 m, vt, vs, vw]] w fun e w' => e = .returned (.tuple #[.agg #[.int .i64 0, .slice none 0 0, .slice none 0 0, .slice none 0 0], .int .i64 0, .bool false]) ∧ Below w.heap.size w w' := by
  have b0 : Below w.heap.size w ((w.alloc (.cells #[.int .i64 m, vt, vs, vw] 35)).alloc (.cells #[.int .i64 0, .slice none 0 0, .slice none 0 0, .slice none 0 0] 35)) := ((Below.refl w.heap.size w).alloc (Nat.le_refl _) _).alloc (by simp) _
  have z0 : ((w.alloc (.cells #[.int .i64 m, vt, vs, vw] 35)).alloc (.cells #[.int .i64 0, .slice none 0 0, .slice none 0 0, .slice none 0 0] 35)).heap.size = w.heap.size + 2 := by simp
  have bx := Box.new w #[.int .i64 m, vt, vs, vw] 35 rfl
  have bR := Box.new (g := w.heap.size + 1) (w.alloc (.cells #[.int .i64 m, vt, vs, vw] 35)) #[.int .i64 0, .slice none 0 0, .slice none 0 0, .slice none 0 0] 35 (by simp)
  replace bx := bx.below ((Below.refl _ (w.alloc (.cells #[.int .i64 m, vt, vs, vw] 35))).alloc (Nat.le_refl _) (.cells #[.int .i64 0, .slice none 0 0, .slice none 0 0, .slice none 0 0] 35)) bx.lt
  have ht := h0.below b0 hh0
  have hs := h.below b0 hh
  have hw := h2.below b0 hh2
  have hv0_ := h0.form
  have hv_ := h.form
  have hv2_ := h2.form
  clear h0 h h2
  generalize hwA : (w.alloc (.cells #[.int .i64 m, vt, vs, vw] 35)).alloc (.cells #[.int .i64 0, .slice none 0 0, .slice none 0 0, .slice none 0 0] 35) = wA at *
  obtain ⟨At, nt, dt, rfl, _, _, _⟩ := hv0_
  obtain ⟨A0, n0, d0, rfl, _, _, _⟩ := hv_
  obtain ⟨A1, n1, d1, rfl, _, _, _⟩ := hv2_
  obtain ⟨rfl⟩ : nt = 0 := by have := ht.n_eq.1; simpa [hz] using this
  go_enter Tryz.func65, Tryz.ntmps65
  have bx_0 := bx.cell (j := 0) rfl
  have bx_1 := bx.cell (j := 1) rfl
  have bx_2 := bx.cell (j := 2) rfl
  have bx_3 := bx.cell (j := 3) rfl
  have bx_z := bx.frozen
  have bx_l := bx.lt
  have bR_0 := bR.cell (j := 0) rfl
  have bR_1 := bR.cell (j := 1) rfl
  have bR_2 := bR.cell (j := 2) rfl
  have bR_3 := bR.cell (j := 3) rfl
  have bR_z := bR.frozen
  have bR_l := bR.lt
  go_wp2_with fail
  clear hwA
  clear bx_0 bx_1 bx_2 bx_3 bx_z bx_l bR_0 bR_1 bR_2 bR_3 bR_z bR_l
  generalize hwz : World.setCell (World.setCell (World.setCell (World.setCell _ _ _) _ _) _ _) _ _ = wz_
  obtain rfl : wz_ = setL wA (w.heap.size + 1) 0 [.int .i64 0, .slice none 0 0, .slice none 0 0, .slice none 0 0] := hwz.symm
  clear hwz
  replace bx := bx.other (b := w.heap.size + 1) (by omega) 0 [.int .i64 0, .slice none 0 0, .slice none 0 0, .slice none 0 0]
  replace ht := ht.away (g := w.heap.size + 1) (by omega) 0 [.int .i64 0, .slice none 0 0, .slice none 0 0, .slice none 0 0]
  replace hs := hs.away (g := w.heap.size + 1) (by omega) 0 [.int .i64 0, .slice none 0 0, .slice none 0 0, .slice none 0 0]
  replace hw := hw.away (g := w.heap.size + 1) (by omega) 0 [.int .i64 0, .slice none 0 0, .slice none 0 0, .slice none 0 0]
  replace b0 := setL_below b0 [.int .i64 0, .slice none 0 0, .slice none 0 0, .slice none 0 0] (w.heap.size + 1) 0 (by omega)
  have zs_1 : (setL wA (w.heap.size + 1) 0 [.int .i64 0, .slice none 0 0, .slice none 0 0, .slice none 0 0]).heap.size = wA.heap.size := setL_size _ _ _ _
  replace bR := bR.setAll [.int .i64 0, .slice none 0 0, .slice none 0 0, .slice none 0 0] rfl
  generalize setL wA _ 0 _ = w1 at *
  have u0_ := bR.cell (j := 0) rfl
  have u1_ := bR.cell (j := 1) rfl
  have u2_ := bR.cell (j := 2) rfl
  have u3_ := bR.cell (j := 3) rfl
  refine bodyPost_ret (by simp only [results, Tryz.results65]; simp [go_sem, u0_, u1_, u2_, u3_]; rfl) rfl ?_
  exact ⟨rfl, b0⟩
set_option maxHeartbeats 4000000 in
theorem implLeave_in (m : Int) (vt vs vw : Value) (st : List Int) (ls : List Sl) (lw : List Wt) (w : World) {lo hi lo2 hi2 lo3 hi3 : Nat} (h0 : Rd Nm.cells 1 w lo3 hi3 vt st) (h : Rd Sl.cells 3 w lo hi vs ls) (h2 : Rd Wt.cells 2 w lo2 hi2 vw lw) (hh0 : hi3 ≤ w.heap.size) (hh : hi ≤ w.heap.size) (hh2 : hi2 ≤ w.heap.size) (hl : st.length ≤ 1048576) (hp : Qu.parts ls lw = true) {j : Nat} {x : Int} (hj : j + 1 = st.length) (hx : st[j]? = some x) (hk : Sl.endOk ls x = true) :
    Calls Tryz.prog 65 #[.agg #[.int .i64 m, vt, vs, vw]] w fun e w' => ∃ v0 v1 v2, e = .returned (.tuple #[.agg #[.int .i64 m, v0, v1, v2], .int .i64 x, .bool true]) ∧ Ow Nm.cells 1 3 w' w.heap.size w'.heap.size v0 (st.take j) ∧ Ow Sl.cells 3 127 w' w.heap.size w'.heap.size v1 ((Qu.enP ls lw x).1) ∧ Ow Wt.cells 2 134 w' w.heap.size w'.heap.size v2 ((Qu.enP ls lw x).2) ∧ Below w.heap.size w w' := by
  have b0 : Below w.heap.size w ((w.alloc (.cells #[.int .i64 m, vt, vs, vw] 35)).alloc (.cells #[.int .i64 0, .slice none 0 0, .slice none 0 0, .slice none 0 0] 35)) := ((Below.refl w.heap.size w).alloc (Nat.le_refl _) _).alloc (by simp) _
  have z0 : ((w.alloc (.cells #[.int .i64 m, vt, vs, vw] 35)).alloc (.cells #[.int .i64 0, .slice none 0 0, .slice none 0 0, .slice none 0 0] 35)).heap.size = w.heap.size + 2 := by simp
  have bx := Box.new w #[.int .i64 m, vt, vs, vw] 35 rfl
  have bR := Box.new (g := w.heap.size + 1) (w.alloc (.cells #[.int .i64 m, vt, vs, vw] 35)) #[.int .i64 0, .slice none 0 0, .slice none 0 0, .slice none 0 0] 35 (by simp)
  replace bx := bx.below ((Below.refl _ (w.alloc (.cells #[.int .i64 m, vt, vs, vw] 35))).alloc (Nat.le_refl _) (.cells #[.int .i64 0, .slice none 0 0, .slice none 0 0, .slice none 0 0] 35)) bx.lt
  have ht := h0.below b0 hh0
  have hs := h.below b0 hh
  have hw := h2.below b0 hh2
  have hv0_ := h0.form
  have hv_ := h.form
  have hv2_ := h2.form
  clear h0 h h2
  generalize hwA : (w.alloc (.cells #[.int .i64 m, vt, vs, vw] 35)).alloc (.cells #[.int .i64 0, .slice none 0 0, .slice none 0 0, .slice none 0 0] 35) = wA at *
  obtain ⟨At, nt, dt, rfl, _, _, _⟩ := hv0_
  obtain ⟨A0, n0, d0, rfl, _, _, _⟩ := hv_
  obtain ⟨A1, n1, d1, rfl, _, _, _⟩ := hv2_
  have hn := Nat.le_of_eq ht.n_eq.1
  have hn' := Nat.le_of_eq ht.n_eq.1.symm
  have hc := ht.n_eq.2
  have hj1 : j < nt := by omega
  obtain ⟨b, off, x', rfl, hx', _, hbh, f0⟩ := Nm.get ht hj1 (Below.refl wA.heap.size wA) (by omega)
  clear f0 hx' x'
  have HP := Lib.hid hp
  have HX := Lib.hid hx
  have HE := Lib.hid (Qu.ei_yes hk lw)
  have HK := Lib.hid hk
  have hje : (nt : Int) - 1 = (j : Int) := by omega
  have hjn : (j : Int) < (nt : Int) := by omega
  have hjl : (j : Int) ≤ (nt : Int) := by omega
  have hjc : (j : Int) ≤ (dt : Int) := by omega
  have hjm : dt ≤ 9223372036854775807 := by have := hc.2; unfold maxLen at this; omega
  have hzd2 : ((nt : Int) == 0) = false := by rw [beq_eq_false_iff_ne]; omega
  have hjd : decide ((j : Int) < 0) = false := decide_eq_false (by omega)
  have hjw : IntKind.i64.wrap (j : Int) = (j : Int) := IntWalk.i64_in _ (by omega)
  have hjnn : j ≤ nt := by omega
  have hjl2 : (st.take j).length ≤ 1048576 := by rw [List.length_take]; omega
  clear hp hx hk hj hn hn' hc
  go_enter Tryz.func65, Tryz.ntmps65
  have bx_0 := bx.cell (j := 0) rfl
  have bx_1 := bx.cell (j := 1) rfl
  have bx_2 := bx.cell (j := 2) rfl
  have bx_3 := bx.cell (j := 3) rfl
  have bx_z := bx.frozen
  have bx_l := bx.lt
  have bR_0 := bR.cell (j := 0) rfl
  have bR_1 := bR.cell (j := 1) rfl
  have bR_2 := bR.cell (j := 2) rfl
  have bR_3 := bR.cell (j := 3) rfl
  have bR_z := bR.frozen
  have bR_l := bR.lt
  go_upto_region 4 with fail
  clear hwA
  clear bx_0 bx_1 bx_2 bx_3 bx_z bx_l bR_0 bR_1 bR_2 bR_3 bR_z bR_l
  go_cut [6, 7] (fun s6 s7 wx => ∃ (ww : World) (gT : Nat) (v1 v2 : Value), ww = wx ∧ s6 = .pointer (some ⟨gT, 0, none⟩) ∧ s7 = .bool (Sl.endOk ls x) ∧ Below wA.heap.size wA wx ∧ wA.heap.size ≤ gT ∧ Box wx gT 33 [v1, v2] ∧ Ow Sl.cells 3 127 wx wA.heap.size wx.heap.size v1 (Qu.eiS ls lw x) ∧ Ow Wt.cells 2 134 wx wA.heap.size wx.heap.size v2 (Qu.eiW ls lw x))
  case first =>
    have bC := Below.refl wA.heap.size wA
    have zB := b0.size
    refine wp_region_held_drew (S := fun W => Box W (w.heap.size) 35 [.int .i64 m, .slice (some ⟨b, off, none⟩) nt dt, .slice A0 n0 d0, .slice A1 n1 d1] ∧ Rd Nm.cells 1 W lo3 hi3 (.slice (some ⟨b, off, none⟩) nt dt) st) (by kernel_rfl) (show (fun (W : World) => Box W (w.heap.size) 35 [.int .i64 m, .slice (some ⟨b, off, none⟩) nt dt, .slice A0 n0 d0, .slice A1 n1 d1] ∧ Rd Nm.cells 1 W lo3 hi3 (.slice (some ⟨b, off, none⟩) nt dt) st) wA.drew from ⟨bx, ht.drew⟩) (fun hHeld => ?_)
    refine wpAnyH_take (i := 0) (v := .pointer (some ⟨w.heap.size, 2, none⟩)) rfl (by kernel_rfl) (by kernel_rfl) (by kernel_rfl) (fun _ _ _ h => h) (Or.inl ⟨by rfl, by intro w hSw; obtain ⟨hS0, hS1⟩ := hSw; have y00 := hS0.cell (j := 0) rfl; have y01 := hS0.cell (j := 1) rfl; have y02 := hS0.cell (j := 2) rfl; have y03 := hS0.cell (j := 3) rfl; have yx := Nm.at_ hS1 HX.out; go_simp⟩) hHeld ?_
    refine wpAnyH_take (i := 1) (v := .agg #[.slice A0 n0 d0, .slice A1 n1 d1]) rfl (by kernel_rfl) (by kernel_rfl) (by kernel_rfl) (fun _ _ _ h => h) (Or.inl ⟨by rfl, by intro w hSw; obtain ⟨hS0, hS1⟩ := hSw; have y00 := hS0.cell (j := 0) rfl; have y01 := hS0.cell (j := 1) rfl; have y02 := hS0.cell (j := 2) rfl; have y03 := hS0.cell (j := 3) rfl; have yx := Nm.at_ hS1 HX.out; go_simp⟩) hHeld ?_
    refine wpAnyH_take (i := 2) (v := .pointer (some ⟨w.heap.size, 1, none⟩)) rfl (by kernel_rfl) (by kernel_rfl) (by kernel_rfl) (fun _ _ _ h => h) (Or.inl ⟨by rfl, by intro w hSw; obtain ⟨hS0, hS1⟩ := hSw; have y00 := hS0.cell (j := 0) rfl; have y01 := hS0.cell (j := 1) rfl; have y02 := hS0.cell (j := 2) rfl; have y03 := hS0.cell (j := 3) rfl; have yx := Nm.at_ hS1 HX.out; go_simp⟩) hHeld ?_
    refine wpAnyH_take (i := 3) (v := .slice (some ⟨b, off, none⟩) nt dt) rfl (by kernel_rfl) (by kernel_rfl) (by kernel_rfl) (fun _ _ _ h => h) (Or.inl ⟨by rfl, by intro w hSw; obtain ⟨hS0, hS1⟩ := hSw; have y00 := hS0.cell (j := 0) rfl; have y01 := hS0.cell (j := 1) rfl; have y02 := hS0.cell (j := 2) rfl; have y03 := hS0.cell (j := 3) rfl; have yx := Nm.at_ hS1 HX.out; go_simp⟩) hHeld ?_
    refine wpAnyH_take (i := 4) (v := .int .i64 j) rfl (by kernel_rfl) (by kernel_rfl) (by kernel_rfl) (fun _ _ _ h => h) (Or.inl ⟨by rfl, by intro w hSw; obtain ⟨hS0, hS1⟩ := hSw; have y00 := hS0.cell (j := 0) rfl; have y01 := hS0.cell (j := 1) rfl; have y02 := hS0.cell (j := 2) rfl; have y03 := hS0.cell (j := 3) rfl; have yx := Nm.at_ hS1 HX.out; go_simp⟩) hHeld ?_
    refine wpAnyH_take (i := 5) (v := .pointer (some ⟨b, off + j, none⟩)) rfl (by kernel_rfl) (by kernel_rfl) (by kernel_rfl) (fun _ _ _ h => h) (Or.inl ⟨by rfl, by intro w hSw; obtain ⟨hS0, hS1⟩ := hSw; have y00 := hS0.cell (j := 0) rfl; have y01 := hS0.cell (j := 1) rfl; have y02 := hS0.cell (j := 2) rfl; have y03 := hS0.cell (j := 3) rfl; have yx := Nm.at_ hS1 HX.out; go_simp⟩) hHeld ?_
    refine wpAnyH_take (i := 6) (v := .int .i64 x) rfl (by kernel_rfl) (by kernel_rfl) (by kernel_rfl) (fun _ _ _ h => h) (Or.inl ⟨by rfl, by intro w hSw; obtain ⟨hS0, hS1⟩ := hSw; have y00 := hS0.cell (j := 0) rfl; have y01 := hS0.cell (j := 1) rfl; have y02 := hS0.cell (j := 2) rfl; have y03 := hS0.cell (j := 3) rfl; have yx := Nm.at_ hS1 HX.out; go_simp⟩) hHeld ?_
    clear hHeld
    refine held_gen (F := fun W' => Below wA.heap.size wA W') (Below.refl wA.heap.size wA).drew ?_
    rintro w1 b_1
    replace bx := bx.below b_1 bx.lt
    replace bR := bR.below b_1 bR.lt
    replace ht := ht.below b_1 (by omega)
    replace hs := hs.below b_1 (by omega)
    replace hw := hw.below b_1 (by omega)
    have z_2 := b_1.size
    replace bC := bC.trans (b_1.mono (by omega))
    clear b_1
    refine wpAnyH_ready (rs := [7, 11]) (by kernel_rfl) (by decide) ?_
    refine AllReadyH.cons rfl (fun K3a hK3a => ?_) (AllReadyH.cons rfl (fun K3b hK3b => ?_) AllReadyH.nil)
    · go_simp
      refine (implEndQ_in _ _ ls lw x w1 hs hw (by omega) (by omega) HP.out).mono ?_; rintro q_ w4 ⟨v5, v6, rfl, o5, o6, b_4⟩
      replace bx := bx.below b_4 bx.lt
      replace bR := bR.below b_4 bR.lt
      replace ht := ht.below b_4 (by omega)
      replace hs := hs.below b_4 (by omega)
      replace hw := hw.below b_4 (by omega)
      have z_5 := b_4.size
      replace bC := bC.trans (b_4.mono (by omega))
      clear b_4
      obtain ⟨A5, n5, d5, rfl, _, _, _⟩ := o5.rd.form
      obtain ⟨A6, n6, d6, rfl, _, _, _⟩ := o6.rd.form
      refine hK3a.out _ _ ⟨bx, ht⟩ (fun _ => ?_)
      have hHeld : (fun (W : World) => Box W (w.heap.size) 35 [.int .i64 m, .slice (some ⟨b, off, none⟩) nt dt, .slice A0 n0 d0, .slice A1 n1 d1] ∧ Rd Nm.cells 1 W lo3 hi3 (.slice (some ⟨b, off, none⟩) nt dt) st) w4 := ⟨bx, ht⟩
      refine wpAnyH_take (i := 8) (v := .tuple #[.agg #[.slice A5 n5 d5, .slice A6 n6 d6], .bool (Sl.endOk ls x)]) rfl (by kernel_rfl) (by kernel_rfl) (by kernel_rfl) (fun _ _ _ h => h) (Or.inl ⟨by rfl, by intro w hSw; obtain ⟨hS0, hS1⟩ := hSw; have y00 := hS0.cell (j := 0) rfl; have y01 := hS0.cell (j := 1) rfl; have y02 := hS0.cell (j := 2) rfl; have y03 := hS0.cell (j := 3) rfl; have yx := Nm.at_ hS1 HX.out; go_simp⟩) hHeld ?_
      refine wpAnyH_take (i := 9) (v := .agg #[.slice A5 n5 d5, .slice A6 n6 d6]) rfl (by kernel_rfl) (by kernel_rfl) (by kernel_rfl) (fun _ _ _ h => h) (Or.inl ⟨by rfl, by intro w hSw; obtain ⟨hS0, hS1⟩ := hSw; have y00 := hS0.cell (j := 0) rfl; have y01 := hS0.cell (j := 1) rfl; have y02 := hS0.cell (j := 2) rfl; have y03 := hS0.cell (j := 3) rfl; have yx := Nm.at_ hS1 HX.out; go_simp⟩) hHeld ?_
      refine wpAnyH_take (i := 10) (v := .bool (Sl.endOk ls x)) rfl (by kernel_rfl) (by kernel_rfl) (by kernel_rfl) (fun _ _ _ h => h) (Or.inl ⟨by rfl, by intro w hSw; obtain ⟨hS0, hS1⟩ := hSw; have y00 := hS0.cell (j := 0) rfl; have y01 := hS0.cell (j := 1) rfl; have y02 := hS0.cell (j := 2) rfl; have y03 := hS0.cell (j := 3) rfl; have yx := Nm.at_ hS1 HX.out; go_simp⟩) hHeld ?_
      clear hHeld
      refine wpAnyH_ready (rs := [11]) (by kernel_rfl) (by decide) ?_
      refine AllReadyH.cons rfl (fun K6 hK6 => ?_) AllReadyH.nil
      go_simp
      have b_7 := (Below.refl w4.heap.size w4).alloc (Nat.le_refl _) (.cells #[.slice none 0 0, .slice none 0 0] 33)
      have bT := Box.new w4 #[.slice none 0 0, .slice none 0 0] 33 rfl
      replace bx := bx.below b_7 bx.lt
      replace bR := bR.below b_7 bR.lt
      replace ht := ht.below b_7 (by omega)
      replace hs := hs.below b_7 (by omega)
      replace hw := hw.below b_7 (by omega)
      replace o5 := o5.below b_7 (by omega)
      replace o6 := o6.below b_7 (by omega)
      have z_8 := b_7.size
      replace bC := bC.trans (b_7.mono (by omega))
      clear b_7
      generalize w4.alloc _ = w7 at *
      generalize w4.heap.size = g7 at *
      refine hK6.out _ _ ⟨bx, ht⟩ (fun _ => ?_)
      refine wpAnyH_ready (rs := [12]) (by kernel_rfl) (by decide) ?_
      refine AllReadyH.cons rfl (fun K9 hK9 => ?_) AllReadyH.nil
      have bx_0 := bx.cell (j := 0) rfl
      have bx_1 := bx.cell (j := 1) rfl
      have bx_2 := bx.cell (j := 2) rfl
      have bx_3 := bx.cell (j := 3) rfl
      have bx_z := bx.frozen
      have bx_l := bx.lt
      have bR_0 := bR.cell (j := 0) rfl
      have bR_1 := bR.cell (j := 1) rfl
      have bR_2 := bR.cell (j := 2) rfl
      have bR_3 := bR.cell (j := 3) rfl
      have bR_z := bR.frozen
      have bR_l := bR.lt
      have bT_0 := bT.cell (j := 0) rfl
      have bT_1 := bT.cell (j := 1) rfl
      have bT_z := bT.frozen
      have bT_l := bT.lt
      go_simp
      clear bx_0 bx_1 bx_2 bx_3 bx_z bx_l bR_0 bR_1 bR_2 bR_3 bR_z bR_l bT_0 bT_1 bT_z bT_l
      generalize hwz : World.setCell (World.setCell _ _ _) _ _ = wz_
      obtain rfl : wz_ = setL w7 (g7) 0 [.slice A5 n5 d5, .slice A6 n6 d6] := hwz.symm
      clear hwz
      replace bx := bx.other (b := g7) (by omega) 0 [.slice A5 n5 d5, .slice A6 n6 d6]
      replace bR := bR.other (b := g7) (by omega) 0 [.slice A5 n5 d5, .slice A6 n6 d6]
      replace ht := ht.away (g := g7) (by omega) 0 [.slice A5 n5 d5, .slice A6 n6 d6]
      replace hs := hs.away (g := g7) (by omega) 0 [.slice A5 n5 d5, .slice A6 n6 d6]
      replace hw := hw.away (g := g7) (by omega) 0 [.slice A5 n5 d5, .slice A6 n6 d6]
      replace o5 := o5.box (g := g7) bT (by decide) 0 [.slice A5 n5 d5, .slice A6 n6 d6]
      replace o6 := o6.box (g := g7) bT (by decide) 0 [.slice A5 n5 d5, .slice A6 n6 d6]
      replace bC := setL_below bC [.slice A5 n5 d5, .slice A6 n6 d6] (g7) 0 (by omega)
      have zs_10 : (setL w7 (g7) 0 [.slice A5 n5 d5, .slice A6 n6 d6]).heap.size = w7.heap.size := setL_size _ _ _ _
      replace bT := bT.setAll [.slice A5 n5 d5, .slice A6 n6 d6] rfl
      generalize setL w7 _ 0 _ = w10 at *
      refine hK9.out _ _ ⟨bx, ht⟩ (fun _ => ?_)
      refine wpAnyH_ready (rs := [13]) (by kernel_rfl) (by decide) ?_
      refine AllReadyH.cons rfl (fun K11 hK11 => ?_) AllReadyH.nil
      go_simp
      refine hK11.out _ _ ⟨bx, ht⟩ (fun _ => ?_)
      refine ⟨by kernel_rfl, ?_⟩
      have bx_0 := bx.cell (j := 0) rfl
      have bx_1 := bx.cell (j := 1) rfl
      have bx_2 := bx.cell (j := 2) rfl
      have bx_3 := bx.cell (j := 3) rfl
      have bx_z := bx.frozen
      have bx_l := bx.lt
      have bR_0 := bR.cell (j := 0) rfl
      have bR_1 := bR.cell (j := 1) rfl
      have bR_2 := bR.cell (j := 2) rfl
      have bR_3 := bR.cell (j := 3) rfl
      have bR_z := bR.frozen
      have bR_l := bR.lt
      have bT_0 := bT.cell (j := 0) rfl
      have bT_1 := bT.cell (j := 1) rfl
      have bT_z := bT.frozen
      have bT_l := bT.lt
      go_wp2_with fail
      clear bx_0 bx_1 bx_2 bx_3 bx_z bx_l bR_0 bR_1 bR_2 bR_3 bR_z bR_l bT_0 bT_1 bT_z bT_l
      go_meet
      exact ⟨_, _, _, _, rfl, rfl, rfl, bC, by omega, bT, o5.mono (by omega) (by omega), o6.mono (by omega) (by omega)⟩
    · go_simp
      have b_4 := (Below.refl w1.heap.size w1).alloc (Nat.le_refl _) (.cells #[.slice none 0 0, .slice none 0 0] 33)
      have bT := Box.new w1 #[.slice none 0 0, .slice none 0 0] 33 rfl
      replace bx := bx.below b_4 bx.lt
      replace bR := bR.below b_4 bR.lt
      replace ht := ht.below b_4 (by omega)
      replace hs := hs.below b_4 (by omega)
      replace hw := hw.below b_4 (by omega)
      have z_5 := b_4.size
      replace bC := bC.trans (b_4.mono (by omega))
      clear b_4
      generalize w1.alloc _ = w4 at *
      generalize w1.heap.size = g4 at *
      refine hK3b.out _ _ ⟨bx, ht⟩ (fun _ => ?_)
      refine wpAnyH_ready (rs := [7]) (by kernel_rfl) (by decide) ?_
      refine AllReadyH.cons rfl (fun K6 hK6 => ?_) AllReadyH.nil
      go_simp
      refine (implEndQ_in _ _ ls lw x w4 hs hw (by omega) (by omega) HP.out).mono ?_; rintro q_ w7 ⟨v5, v6, rfl, o5, o6, b_7⟩
      replace bx := bx.below b_7 bx.lt
      replace bR := bR.below b_7 bR.lt
      replace bT := bT.below b_7 bT.lt
      replace ht := ht.below b_7 (by omega)
      replace hs := hs.below b_7 (by omega)
      replace hw := hw.below b_7 (by omega)
      have z_8 := b_7.size
      replace bC := bC.trans (b_7.mono (by omega))
      clear b_7
      obtain ⟨A5, n5, d5, rfl, _, _, _⟩ := o5.rd.form
      obtain ⟨A6, n6, d6, rfl, _, _, _⟩ := o6.rd.form
      refine hK6.out _ _ ⟨bx, ht⟩ (fun _ => ?_)
      have hHeld : (fun (W : World) => Box W (w.heap.size) 35 [.int .i64 m, .slice (some ⟨b, off, none⟩) nt dt, .slice A0 n0 d0, .slice A1 n1 d1] ∧ Rd Nm.cells 1 W lo3 hi3 (.slice (some ⟨b, off, none⟩) nt dt) st) w7 := ⟨bx, ht⟩
      refine wpAnyH_take (i := 8) (v := .tuple #[.agg #[.slice A5 n5 d5, .slice A6 n6 d6], .bool (Sl.endOk ls x)]) rfl (by kernel_rfl) (by kernel_rfl) (by kernel_rfl) (fun _ _ _ h => h) (Or.inl ⟨by rfl, by intro w hSw; obtain ⟨hS0, hS1⟩ := hSw; have y00 := hS0.cell (j := 0) rfl; have y01 := hS0.cell (j := 1) rfl; have y02 := hS0.cell (j := 2) rfl; have y03 := hS0.cell (j := 3) rfl; have yx := Nm.at_ hS1 HX.out; go_simp⟩) hHeld ?_
      refine wpAnyH_take (i := 9) (v := .agg #[.slice A5 n5 d5, .slice A6 n6 d6]) rfl (by kernel_rfl) (by kernel_rfl) (by kernel_rfl) (fun _ _ _ h => h) (Or.inl ⟨by rfl, by intro w hSw; obtain ⟨hS0, hS1⟩ := hSw; have y00 := hS0.cell (j := 0) rfl; have y01 := hS0.cell (j := 1) rfl; have y02 := hS0.cell (j := 2) rfl; have y03 := hS0.cell (j := 3) rfl; have yx := Nm.at_ hS1 HX.out; go_simp⟩) hHeld ?_
      refine wpAnyH_take (i := 10) (v := .bool (Sl.endOk ls x)) rfl (by kernel_rfl) (by kernel_rfl) (by kernel_rfl) (fun _ _ _ h => h) (Or.inl ⟨by rfl, by intro w hSw; obtain ⟨hS0, hS1⟩ := hSw; have y00 := hS0.cell (j := 0) rfl; have y01 := hS0.cell (j := 1) rfl; have y02 := hS0.cell (j := 2) rfl; have y03 := hS0.cell (j := 3) rfl; have yx := Nm.at_ hS1 HX.out; go_simp⟩) hHeld ?_
      clear hHeld
      refine wpAnyH_ready (rs := [12]) (by kernel_rfl) (by decide) ?_
      refine AllReadyH.cons rfl (fun K9 hK9 => ?_) AllReadyH.nil
      have bx_0 := bx.cell (j := 0) rfl
      have bx_1 := bx.cell (j := 1) rfl
      have bx_2 := bx.cell (j := 2) rfl
      have bx_3 := bx.cell (j := 3) rfl
      have bx_z := bx.frozen
      have bx_l := bx.lt
      have bR_0 := bR.cell (j := 0) rfl
      have bR_1 := bR.cell (j := 1) rfl
      have bR_2 := bR.cell (j := 2) rfl
      have bR_3 := bR.cell (j := 3) rfl
      have bR_z := bR.frozen
      have bR_l := bR.lt
      have bT_0 := bT.cell (j := 0) rfl
      have bT_1 := bT.cell (j := 1) rfl
      have bT_z := bT.frozen
      have bT_l := bT.lt
      go_simp
      clear bx_0 bx_1 bx_2 bx_3 bx_z bx_l bR_0 bR_1 bR_2 bR_3 bR_z bR_l bT_0 bT_1 bT_z bT_l
      generalize hwz : World.setCell (World.setCell _ _ _) _ _ = wz_
      obtain rfl : wz_ = setL w7 (g4) 0 [.slice A5 n5 d5, .slice A6 n6 d6] := hwz.symm
      clear hwz
      replace bx := bx.other (b := g4) (by omega) 0 [.slice A5 n5 d5, .slice A6 n6 d6]
      replace bR := bR.other (b := g4) (by omega) 0 [.slice A5 n5 d5, .slice A6 n6 d6]
      replace ht := ht.away (g := g4) (by omega) 0 [.slice A5 n5 d5, .slice A6 n6 d6]
      replace hs := hs.away (g := g4) (by omega) 0 [.slice A5 n5 d5, .slice A6 n6 d6]
      replace hw := hw.away (g := g4) (by omega) 0 [.slice A5 n5 d5, .slice A6 n6 d6]
      replace o5 := o5.box (g := g4) bT (by decide) 0 [.slice A5 n5 d5, .slice A6 n6 d6]
      replace o6 := o6.box (g := g4) bT (by decide) 0 [.slice A5 n5 d5, .slice A6 n6 d6]
      replace bC := setL_below bC [.slice A5 n5 d5, .slice A6 n6 d6] (g4) 0 (by omega)
      have zs_10 : (setL w7 (g4) 0 [.slice A5 n5 d5, .slice A6 n6 d6]).heap.size = w7.heap.size := setL_size _ _ _ _
      replace bT := bT.setAll [.slice A5 n5 d5, .slice A6 n6 d6] rfl
      generalize setL w7 _ 0 _ = w10 at *
      refine hK9.out _ _ ⟨bx, ht⟩ (fun _ => ?_)
      refine wpAnyH_ready (rs := [13]) (by kernel_rfl) (by decide) ?_
      refine AllReadyH.cons rfl (fun K11 hK11 => ?_) AllReadyH.nil
      go_simp
      refine hK11.out _ _ ⟨bx, ht⟩ (fun _ => ?_)
      refine ⟨by kernel_rfl, ?_⟩
      have bx_0 := bx.cell (j := 0) rfl
      have bx_1 := bx.cell (j := 1) rfl
      have bx_2 := bx.cell (j := 2) rfl
      have bx_3 := bx.cell (j := 3) rfl
      have bx_z := bx.frozen
      have bx_l := bx.lt
      have bR_0 := bR.cell (j := 0) rfl
      have bR_1 := bR.cell (j := 1) rfl
      have bR_2 := bR.cell (j := 2) rfl
      have bR_3 := bR.cell (j := 3) rfl
      have bR_z := bR.frozen
      have bR_l := bR.lt
      have bT_0 := bT.cell (j := 0) rfl
      have bT_1 := bT.cell (j := 1) rfl
      have bT_z := bT.frozen
      have bT_l := bT.lt
      go_wp2_with fail
      clear bx_0 bx_1 bx_2 bx_3 bx_z bx_l bR_0 bR_1 bR_2 bR_3 bR_z bR_l bT_0 bT_1 bT_z bT_l
      go_meet
      exact ⟨_, _, _, _, rfl, rfl, rfl, bC, by omega, bT, o5.mono (by omega) (by omega), o6.mono (by omega) (by omega)⟩
  case rest =>
      obtain ⟨wx, gT, v1, v2, rfl, rfl, rfl, bC, zT, bT, o5, o6⟩ := hcut
      replace bx := bx.below bC bx.lt
      replace bR := bR.below bC bR.lt
      replace ht := ht.below bC (by omega)
      replace hs := hs.below bC (by omega)
      replace hw := hw.below bC (by omega)
      have z_51 := bC.size
      replace b0 := b0.trans (bC.mono (by omega))
      clear bC
      obtain ⟨A5, n5, d5, rfl, _, _, _⟩ := o5.rd.form
      obtain ⟨A6, n6, d6, rfl, _, _, _⟩ := o6.rd.form
      have zTl := bT.lt
      have bx_0 := bx.cell (j := 0) rfl
      have bx_1 := bx.cell (j := 1) rfl
      have bx_2 := bx.cell (j := 2) rfl
      have bx_3 := bx.cell (j := 3) rfl
      have bx_z := bx.frozen
      have bx_l := bx.lt
      have bR_0 := bR.cell (j := 0) rfl
      have bR_1 := bR.cell (j := 1) rfl
      have bR_2 := bR.cell (j := 2) rfl
      have bR_3 := bR.cell (j := 3) rfl
      have bR_z := bR.frozen
      have bR_l := bR.lt
      have bT_0 := bT.cell (j := 0) rfl
      have bT_1 := bT.cell (j := 1) rfl
      have bT_z := bT.frozen
      have bT_l := bT.lt
      go_upto_region 5 with fail
      clear bx_0 bx_1 bx_2 bx_3 bx_z bx_l bR_0 bR_1 bR_2 bR_3 bR_z bR_l bT_0 bT_1 bT_z bT_l
      refine wp_region_held_drew (S := fun W => Box W (w.heap.size) 35 [.int .i64 m, .slice (some ⟨b, off, none⟩) nt dt, .slice A0 n0 d0, .slice A1 n1 d1] ∧ Box W (gT) 33 [.slice A5 n5 d5, .slice A6 n6 d6] ∧ Rd Nm.cells 1 W lo3 hi3 (.slice (some ⟨b, off, none⟩) nt dt) st) (by kernel_rfl) (show (fun (W : World) => Box W (w.heap.size) 35 [.int .i64 m, .slice (some ⟨b, off, none⟩) nt dt, .slice A0 n0 d0, .slice A1 n1 d1] ∧ Box W (gT) 33 [.slice A5 n5 d5, .slice A6 n6 d6] ∧ Rd Nm.cells 1 W lo3 hi3 (.slice (some ⟨b, off, none⟩) nt dt) st) wx.drew from ⟨bx, bT, ht.drew⟩) (fun hHeld => ?_)
      refine wpAnyH_take (i := 0) (v := .pointer (some ⟨w.heap.size, 0, none⟩)) rfl (by kernel_rfl) (by kernel_rfl) (by kernel_rfl) (fun _ _ _ h => h) (Or.inl ⟨by rfl, by intro w hSw; obtain ⟨hS0, hS1, hS2⟩ := hSw; have y00 := hS0.cell (j := 0) rfl; have y01 := hS0.cell (j := 1) rfl; have y02 := hS0.cell (j := 2) rfl; have y03 := hS0.cell (j := 3) rfl; have y10 := hS1.cell (j := 0) rfl; have y11 := hS1.cell (j := 1) rfl; have yx := Nm.at_ hS2 HX.out; go_simp⟩) hHeld ?_
      refine wpAnyH_take (i := 1) (v := .int .i64 m) rfl (by kernel_rfl) (by kernel_rfl) (by kernel_rfl) (fun _ _ _ h => h) (Or.inl ⟨by rfl, by intro w hSw; obtain ⟨hS0, hS1, hS2⟩ := hSw; have y00 := hS0.cell (j := 0) rfl; have y01 := hS0.cell (j := 1) rfl; have y02 := hS0.cell (j := 2) rfl; have y03 := hS0.cell (j := 3) rfl; have y10 := hS1.cell (j := 0) rfl; have y11 := hS1.cell (j := 1) rfl; have yx := Nm.at_ hS2 HX.out; go_simp⟩) hHeld ?_
      refine wpAnyH_take (i := 2) (v := .pointer (some ⟨w.heap.size, 1, none⟩)) rfl (by kernel_rfl) (by kernel_rfl) (by kernel_rfl) (fun _ _ _ h => h) (Or.inl ⟨by rfl, by intro w hSw; obtain ⟨hS0, hS1, hS2⟩ := hSw; have y00 := hS0.cell (j := 0) rfl; have y01 := hS0.cell (j := 1) rfl; have y02 := hS0.cell (j := 2) rfl; have y03 := hS0.cell (j := 3) rfl; have y10 := hS1.cell (j := 0) rfl; have y11 := hS1.cell (j := 1) rfl; have yx := Nm.at_ hS2 HX.out; go_simp⟩) hHeld ?_
      refine wpAnyH_take (i := 3) (v := .slice (some ⟨b, off, none⟩) nt dt) rfl (by kernel_rfl) (by kernel_rfl) (by kernel_rfl) (fun _ _ _ h => h) (Or.inl ⟨by rfl, by intro w hSw; obtain ⟨hS0, hS1, hS2⟩ := hSw; have y00 := hS0.cell (j := 0) rfl; have y01 := hS0.cell (j := 1) rfl; have y02 := hS0.cell (j := 2) rfl; have y03 := hS0.cell (j := 3) rfl; have y10 := hS1.cell (j := 0) rfl; have y11 := hS1.cell (j := 1) rfl; have yx := Nm.at_ hS2 HX.out; go_simp⟩) hHeld ?_
      refine wpAnyH_take (i := 4) (v := .int .i64 j) rfl (by kernel_rfl) (by kernel_rfl) (by kernel_rfl) (fun _ _ _ h => h) (Or.inl ⟨by rfl, by intro w hSw; obtain ⟨hS0, hS1, hS2⟩ := hSw; have y00 := hS0.cell (j := 0) rfl; have y01 := hS0.cell (j := 1) rfl; have y02 := hS0.cell (j := 2) rfl; have y03 := hS0.cell (j := 3) rfl; have y10 := hS1.cell (j := 0) rfl; have y11 := hS1.cell (j := 1) rfl; have yx := Nm.at_ hS2 HX.out; go_simp⟩) hHeld ?_
      refine wpAnyH_take (i := 5) (v := .slice (some ⟨b, off, none⟩) j dt) rfl (by kernel_rfl) (by kernel_rfl) (by kernel_rfl) (fun _ _ _ h => h) (Or.inl ⟨by rfl, by intro w hSw; obtain ⟨hS0, hS1, hS2⟩ := hSw; have y00 := hS0.cell (j := 0) rfl; have y01 := hS0.cell (j := 1) rfl; have y02 := hS0.cell (j := 2) rfl; have y03 := hS0.cell (j := 3) rfl; have y10 := hS1.cell (j := 0) rfl; have y11 := hS1.cell (j := 1) rfl; have yx := Nm.at_ hS2 HX.out; go_simp⟩) hHeld ?_
      refine wpAnyH_take (i := 7) (v := .agg #[.slice A5 n5 d5, .slice A6 n6 d6]) rfl (by kernel_rfl) (by kernel_rfl) (by kernel_rfl) (fun _ _ _ h => h) (Or.inl ⟨by rfl, by intro w hSw; obtain ⟨hS0, hS1, hS2⟩ := hSw; have y00 := hS0.cell (j := 0) rfl; have y01 := hS0.cell (j := 1) rfl; have y02 := hS0.cell (j := 2) rfl; have y03 := hS0.cell (j := 3) rfl; have y10 := hS1.cell (j := 0) rfl; have y11 := hS1.cell (j := 1) rfl; have yx := Nm.at_ hS2 HX.out; go_simp⟩) hHeld ?_
      refine wpAnyH_take (i := 9) (v := .pointer (some ⟨w.heap.size, 1, none⟩)) rfl (by kernel_rfl) (by kernel_rfl) (by kernel_rfl) (fun _ _ _ h => h) (Or.inl ⟨by rfl, by intro w hSw; obtain ⟨hS0, hS1, hS2⟩ := hSw; have y00 := hS0.cell (j := 0) rfl; have y01 := hS0.cell (j := 1) rfl; have y02 := hS0.cell (j := 2) rfl; have y03 := hS0.cell (j := 3) rfl; have y10 := hS1.cell (j := 0) rfl; have y11 := hS1.cell (j := 1) rfl; have yx := Nm.at_ hS2 HX.out; go_simp⟩) hHeld ?_
      refine wpAnyH_take (i := 10) (v := .slice (some ⟨b, off, none⟩) nt dt) rfl (by kernel_rfl) (by kernel_rfl) (by kernel_rfl) (fun _ _ _ h => h) (Or.inl ⟨by rfl, by intro w hSw; obtain ⟨hS0, hS1, hS2⟩ := hSw; have y00 := hS0.cell (j := 0) rfl; have y01 := hS0.cell (j := 1) rfl; have y02 := hS0.cell (j := 2) rfl; have y03 := hS0.cell (j := 3) rfl; have y10 := hS1.cell (j := 0) rfl; have y11 := hS1.cell (j := 1) rfl; have yx := Nm.at_ hS2 HX.out; go_simp⟩) hHeld ?_
      refine wpAnyH_take (i := 11) (v := .int .i64 j) rfl (by kernel_rfl) (by kernel_rfl) (by kernel_rfl) (fun _ _ _ h => h) (Or.inl ⟨by rfl, by intro w hSw; obtain ⟨hS0, hS1, hS2⟩ := hSw; have y00 := hS0.cell (j := 0) rfl; have y01 := hS0.cell (j := 1) rfl; have y02 := hS0.cell (j := 2) rfl; have y03 := hS0.cell (j := 3) rfl; have y10 := hS1.cell (j := 0) rfl; have y11 := hS1.cell (j := 1) rfl; have yx := Nm.at_ hS2 HX.out; go_simp⟩) hHeld ?_
      refine wpAnyH_take (i := 12) (v := .pointer (some ⟨b, off + j, none⟩)) rfl (by kernel_rfl) (by kernel_rfl) (by kernel_rfl) (fun _ _ _ h => h) (Or.inl ⟨by rfl, by intro w hSw; obtain ⟨hS0, hS1, hS2⟩ := hSw; have y00 := hS0.cell (j := 0) rfl; have y01 := hS0.cell (j := 1) rfl; have y02 := hS0.cell (j := 2) rfl; have y03 := hS0.cell (j := 3) rfl; have y10 := hS1.cell (j := 0) rfl; have y11 := hS1.cell (j := 1) rfl; have yx := Nm.at_ hS2 HX.out; go_simp⟩) hHeld ?_
      refine wpAnyH_take (i := 13) (v := .int .i64 x) rfl (by kernel_rfl) (by kernel_rfl) (by kernel_rfl) (fun _ _ _ h => h) (Or.inl ⟨by rfl, by intro w hSw; obtain ⟨hS0, hS1, hS2⟩ := hSw; have y00 := hS0.cell (j := 0) rfl; have y01 := hS0.cell (j := 1) rfl; have y02 := hS0.cell (j := 2) rfl; have y03 := hS0.cell (j := 3) rfl; have y10 := hS1.cell (j := 0) rfl; have y11 := hS1.cell (j := 1) rfl; have yx := Nm.at_ hS2 HX.out; go_simp⟩) hHeld ?_
      clear hHeld
      refine held_gen (F := fun W' => Below wx.heap.size wx W') (Below.refl wx.heap.size wx).drew ?_
      rintro w52 b_52
      replace bx := bx.below b_52 bx.lt
      replace bR := bR.below b_52 bR.lt
      replace bT := bT.below b_52 bT.lt
      replace ht := ht.below b_52 (by omega)
      replace hs := hs.below b_52 (by omega)
      replace hw := hw.below b_52 (by omega)
      replace o5 := o5.below b_52 (by omega)
      replace o6 := o6.below b_52 (by omega)
      have z_53 := b_52.size
      replace b0 := b0.trans (b_52.mono (by omega))
      clear b_52
      refine wpAnyH_ready (rs := [6]) (by kernel_rfl) (by decide) ?_
      refine AllReadyH.cons rfl (fun K54 hK54 => ?_) AllReadyH.nil
      go_simp
      refine (copyInts_any _ (st.take j) w52 (ht.take_ hjnn) (by omega) hjl2).mono ?_; rintro q_ w55 ⟨v3, rfl, o3, b_55⟩
      replace bx := bx.below b_55 bx.lt
      replace bR := bR.below b_55 bR.lt
      replace bT := bT.below b_55 bT.lt
      replace ht := ht.below b_55 (by omega)
      replace hs := hs.below b_55 (by omega)
      replace hw := hw.below b_55 (by omega)
      replace o5 := o5.below b_55 (by omega)
      replace o6 := o6.below b_55 (by omega)
      have z_56 := b_55.size
      replace b0 := b0.trans (b_55.mono (by omega))
      clear b_55
      obtain ⟨A3, n3, d3, rfl, _, _, _⟩ := o3.rd.form
      refine hK54.out _ _ ⟨bx, bT, ht⟩ (fun _ => ?_)
      have hHeld : (fun (W : World) => Box W (w.heap.size) 35 [.int .i64 m, .slice (some ⟨b, off, none⟩) nt dt, .slice A0 n0 d0, .slice A1 n1 d1] ∧ Box W (gT) 33 [.slice A5 n5 d5, .slice A6 n6 d6] ∧ Rd Nm.cells 1 W lo3 hi3 (.slice (some ⟨b, off, none⟩) nt dt) st) w55 := ⟨bx, bT, ht⟩
      refine wpAnyH_take (i := 8) (v := .agg #[.int .i64 m, .slice A3 n3 d3, .slice A5 n5 d5, .slice A6 n6 d6]) rfl (by kernel_rfl) (by kernel_rfl) (by kernel_rfl) (fun _ _ _ h => h) (Or.inl ⟨by rfl, by intro w hSw; obtain ⟨hS0, hS1, hS2⟩ := hSw; have y00 := hS0.cell (j := 0) rfl; have y01 := hS0.cell (j := 1) rfl; have y02 := hS0.cell (j := 2) rfl; have y03 := hS0.cell (j := 3) rfl; have y10 := hS1.cell (j := 0) rfl; have y11 := hS1.cell (j := 1) rfl; have yx := Nm.at_ hS2 HX.out; go_simp⟩) hHeld ?_
      clear hHeld
      refine wpAnyH_ready (rs := [14]) (by kernel_rfl) (by decide) ?_
      refine AllReadyH.cons rfl (fun K57 hK57 => ?_) AllReadyH.nil
      have bx_0 := bx.cell (j := 0) rfl
      have bx_1 := bx.cell (j := 1) rfl
      have bx_2 := bx.cell (j := 2) rfl
      have bx_3 := bx.cell (j := 3) rfl
      have bx_z := bx.frozen
      have bx_l := bx.lt
      have bR_0 := bR.cell (j := 0) rfl
      have bR_1 := bR.cell (j := 1) rfl
      have bR_2 := bR.cell (j := 2) rfl
      have bR_3 := bR.cell (j := 3) rfl
      have bR_z := bR.frozen
      have bR_l := bR.lt
      have bT_0 := bT.cell (j := 0) rfl
      have bT_1 := bT.cell (j := 1) rfl
      have bT_z := bT.frozen
      have bT_l := bT.lt
      go_simp
      clear bx_0 bx_1 bx_2 bx_3 bx_z bx_l bR_0 bR_1 bR_2 bR_3 bR_z bR_l bT_0 bT_1 bT_z bT_l
      generalize hwz : World.setCell (World.setCell (World.setCell (World.setCell _ _ _) _ _) _ _) _ _ = wz_
      obtain rfl : wz_ = setL w55 (w.heap.size + 1) 0 [.int .i64 m, .slice A3 n3 d3, .slice A5 n5 d5, .slice A6 n6 d6] := hwz.symm
      clear hwz
      replace bx := bx.other (b := w.heap.size + 1) (by omega) 0 [.int .i64 m, .slice A3 n3 d3, .slice A5 n5 d5, .slice A6 n6 d6]
      replace bT := bT.other (b := w.heap.size + 1) (by omega) 0 [.int .i64 m, .slice A3 n3 d3, .slice A5 n5 d5, .slice A6 n6 d6]
      replace ht := ht.away (g := w.heap.size + 1) (by omega) 0 [.int .i64 m, .slice A3 n3 d3, .slice A5 n5 d5, .slice A6 n6 d6]
      replace hs := hs.away (g := w.heap.size + 1) (by omega) 0 [.int .i64 m, .slice A3 n3 d3, .slice A5 n5 d5, .slice A6 n6 d6]
      replace hw := hw.away (g := w.heap.size + 1) (by omega) 0 [.int .i64 m, .slice A3 n3 d3, .slice A5 n5 d5, .slice A6 n6 d6]
      replace o5 := o5.box (g := w.heap.size + 1) bR (by decide) 0 [.int .i64 m, .slice A3 n3 d3, .slice A5 n5 d5, .slice A6 n6 d6]
      replace o6 := o6.box (g := w.heap.size + 1) bR (by decide) 0 [.int .i64 m, .slice A3 n3 d3, .slice A5 n5 d5, .slice A6 n6 d6]
      replace o3 := o3.box (g := w.heap.size + 1) bR (by decide) 0 [.int .i64 m, .slice A3 n3 d3, .slice A5 n5 d5, .slice A6 n6 d6]
      replace b0 := setL_below b0 [.int .i64 m, .slice A3 n3 d3, .slice A5 n5 d5, .slice A6 n6 d6] (w.heap.size + 1) 0 (by omega)
      have zs_58 : (setL w55 (w.heap.size + 1) 0 [.int .i64 m, .slice A3 n3 d3, .slice A5 n5 d5, .slice A6 n6 d6]).heap.size = w55.heap.size := setL_size _ _ _ _
      replace bR := bR.setAll [.int .i64 m, .slice A3 n3 d3, .slice A5 n5 d5, .slice A6 n6 d6] rfl
      generalize setL w55 _ 0 _ = w58 at *
      refine hK57.out _ _ ⟨bx, bT, ht⟩ (fun _ => ?_)
      refine wpAnyH_ready (rs := [15]) (by kernel_rfl) (by decide) ?_
      refine AllReadyH.cons rfl (fun K59 hK59 => ?_) AllReadyH.nil
      go_simp
      refine hK59.out _ _ ⟨bx, bT, ht⟩ (fun _ => ?_)
      refine wpAnyH_ready (rs := [16]) (by kernel_rfl) (by decide) ?_
      refine AllReadyH.cons rfl (fun K60 hK60 => ?_) AllReadyH.nil
      go_simp
      refine hK60.out _ _ ⟨bx, bT, ht⟩ (fun _ => ?_)
      refine ⟨by kernel_rfl, ?_⟩
      have bx_0 := bx.cell (j := 0) rfl
      have bx_1 := bx.cell (j := 1) rfl
      have bx_2 := bx.cell (j := 2) rfl
      have bx_3 := bx.cell (j := 3) rfl
      have bx_z := bx.frozen
      have bx_l := bx.lt
      have bR_0 := bR.cell (j := 0) rfl
      have bR_1 := bR.cell (j := 1) rfl
      have bR_2 := bR.cell (j := 2) rfl
      have bR_3 := bR.cell (j := 3) rfl
      have bR_z := bR.frozen
      have bR_l := bR.lt
      have bT_0 := bT.cell (j := 0) rfl
      have bT_1 := bT.cell (j := 1) rfl
      have bT_z := bT.frozen
      have bT_l := bT.lt
      go_wp2_with fail
      clear bx_0 bx_1 bx_2 bx_3 bx_z bx_l bR_0 bR_1 bR_2 bR_3 bR_z bR_l bT_0 bT_1 bT_z bT_l
      have u0_ := bR.cell (j := 0) rfl
      have u1_ := bR.cell (j := 1) rfl
      have u2_ := bR.cell (j := 2) rfl
      have u3_ := bR.cell (j := 3) rfl
      refine bodyPost_ret (by simp only [results, Tryz.results65]; simp [go_sem, u0_, u1_, u2_, u3_]; rfl) rfl ?_
      exact ⟨_, _, _, rfl, o3.mono (by omega) (by omega), by rw [← HE.out.1]; exact o5.mono (by omega) (by omega), by rw [← HE.out.2]; exact o6.mono (by omega) (by omega), b0⟩
end Go.Proofs.YtengaccnncnipaaGreat

/- The type 'Op' of the law text and of the program: its data, its cells, and what the law text's own helpers do with lists of it. No condition. -/
namespace Go.Proofs.YtengaccnncnipaaGreat
open Go.RowKit Go.ChangeShapes Go.WideShapes Go.Deep

structure Op_ where
  kind : Int
  irq : Int
  prio : Int
  deriving DecidableEq, Inhabited

def Op_.cells (t : Op_) : List Value := [.int .i64 t.kind, .int .i64 t.irq, .int .i64 t.prio]
def Op_.val (t : Op_) : Value := .agg #[.int .i64 t.kind, .int .i64 t.irq, .int .i64 t.prio]
def Op_.zero : Op_ := ⟨0, 0, 0⟩
theorem Op_.cells_len (t : Op_) : t.cells.length = 3 := rfl
theorem Op_.info : (Tryz.prog.info? 73).map (fun i => (i.zero, i.size, i.bytes)) = some (some (.agg #[.int .i64 0, .int .i64 0, .int .i64 0]), 3, 24) := by kernel_rfl
theorem Op_.get {w : World} {lo hi : Nat} {A : Option Addr} {n c k : Nat} {l : List Op_} (h : Rd Op_.cells 3 w lo hi (.slice A n c) l) (hk : k < n) {B : Nat} {wr : World} (hb : Below B w wr) (hB : hi ≤ B) :
    ∃ b off t, A = some ⟨b, off, none⟩ ∧ Hid (l[k]? = some t) ∧ lo ≤ b ∧ b < hi ∧ wr.cell? ⟨b, off + k * 3, none⟩ = some (.int .i64 t.kind) ∧ wr.cell? ⟨b, off + k * 3 + 1, none⟩ = some (.int .i64 t.irq) ∧ wr.cell? ⟨b, off + k * 3 + 2, none⟩ = some (.int .i64 t.prio) := by
  obtain ⟨b, off, t, hA, hx, h1, h2, h3⟩ := h.get hk hb hB
  exact ⟨b, off, t, hA, hx, h1, h2, h3 0 _ rfl, h3 1 _ rfl, h3 2 _ rfl⟩
def Op_.eqB (x y : Op_) : Bool := x.kind == y.kind && (x.irq == y.irq && (x.prio == y.prio))
theorem Op_.eqB_iff (x y : Op_) : x.eqB y = true ↔ x = y := by
  cases x; cases y; simp [Op_.eqB]
def Op_.eqL (a b : List Op_) : Bool := decide (a = b)
theorem Op_.cellsOfLaw : Tryz.prog.cellsOf 87 = 3 := by kernel_rfl
set_option maxRecDepth 8000 in
theorem Op_.openS {H : Type} {enc : TypeId × Value → H} {w : World} {base : Nat} {spare : Nat → Bool} {held : Bool} {r : Reach} {b0 : Nat} {v : Value} {d : DataW H} {p : List MemPlace}
    (hv : Value.okWide Tryz.prog w r b0 47 v) (h : DataW.Trod enc Tryz.prog w base spare held 47 v d p) : ∃ l : List Op_, Rd Op_.cells 3 w 0 w.heap.size v l :=
  open_rd (by omega) Op_.cells_len Tryz.underlying47 Tryz.underlying87 (by kernel_rfl) Op_.cellsOfLaw rfl (fun V hV => by
    obtain ⟨n0, y0, h0⟩ := hV 0 _ rfl
    obtain ⟨a0, e0, _⟩ := DataW.trod_int Tryz.underlying3 h0
    simp only [List.cons.injEq, and_true] at e0
    obtain ⟨n1, y1, h1⟩ := hV 1 _ rfl
    obtain ⟨a1, e1, _⟩ := DataW.trod_int Tryz.underlying3 h1
    simp only [List.cons.injEq, and_true] at e1
    obtain ⟨n2, y2, h2⟩ := hV 2 _ rfl
    obtain ⟨a2, e2, _⟩ := DataW.trod_int Tryz.underlying3 h2
    simp only [List.cons.injEq, and_true] at e2
    refine ⟨⟨a0, a1, a2⟩, fun j u hu => ?_⟩
    match j with
    | 0 => rw [e0]; exact (Option.some.inj hu).symm
    | 1 => rw [e1]; exact (Option.some.inj hu).symm
    | 2 => rw [e2]; exact (Option.some.inj hu).symm
    | j + 3 => simp [Op_.cells] at hu) hv h

theorem Op_.index_any (g : FuncId) (lb : Array Value) (p : Op_ → Bool) (v : Value) (l : List Op_) (w : World) {lo hi : Nat} (h : Rd Op_.cells 3 w lo hi v l) (hh : hi ≤ w.heap.size)
    (eg : ∀ args w, (callFunc g args).run Tryz.prog w = .ok (.enter g args) w)
    (hp : ∀ (t : Op_) (W : World), t ∈ l → Below w.heap.size w W → Calls Tryz.prog g (#[t.val] ++ lb) W fun e w' => e = .returned (.bool (p t)) ∧ Below W.heap.size W w') :
    Calls Tryz.prog 120 #[v, .func (.func g) #[] lb] w fun e w' => e = .returned (.int .i64 (findIx p l)) ∧ Below w.heap.size w w' := by
  obtain ⟨A, n, c, rfl, H, hc, hm⟩ := h.form
  unfold Op_.val at hp
  have HP := Lib.hid hp
  clear hp
  go_enter Tryz.func120, Tryz.ntmps120
  go_wp2_with fail
  go_loopw [8] (fun i wr => ∃ k : Nat, k ≤ n ∧ i = .int .i64 k ∧ Below w.heap.size w wr ∧ (l.take k).any p = false) (fun i _ => n - (intOf i).toNat)
  case atStart => exact ⟨0, Nat.zero_le _, rfl, Below.refl _ _, by simp⟩
  case round =>
    obtain ⟨k, hk, rfl, hb, he⟩ := hrel
    have HE := Lib.hid he
    clear he
    by_cases hlt : k < n
    · obtain ⟨b, off, x, rfl, hx, _, _, f0, f1, f2⟩ := Op_.get h hlt hb hh
      have c1 := HP.out x wr (List.mem_of_getElem? hx.out) hb
      cases hq : p x
      · rw [hq] at c1
        have HF := Lib.hid hq
        clear hq
        go_wp2_with fail
        refine c1.mono ?_; rintro e w1 ⟨rfl, hb1⟩
        go_wp2_with fail
        go_roundw
        case rel => exact ⟨k + 1, by omega, by go_num, hb.trans (hb1.mono hb.size), by rw [List.take_add_one, List.any_append, HE.out, hx.out]; simp [HF.out]⟩
        case measure => simp [intOf]; omega
      · rw [hq] at c1
        have HF := Lib.hid (findIx_hit HE.out hx.out hq)
        clear hq
        go_wp2_with fail
        refine c1.mono ?_; rintro e w1 ⟨rfl, hb1⟩
        go_wp2_with fail
        go_ret
        exact ⟨ret_int HF.out.symm, hb.trans (hb1.mono hb.size)⟩
    · go_wp2_with fail
      go_ret
      have he := HE.out
      rw [List.take_of_length_le (by rw [← H.out]; omega)] at he
      exact ⟨ret_int (by simp [findIx, he]), hb⟩
theorem Op_.contains_any (g : FuncId) (lb : Array Value) (p : Op_ → Bool) (v : Value) (l : List Op_) (w : World) {lo hi : Nat} (h : Rd Op_.cells 3 w lo hi v l) (hh : hi ≤ w.heap.size)
    (eg : ∀ args w, (callFunc g args).run Tryz.prog w = .ok (.enter g args) w)
    (hp : ∀ (t : Op_) (W : World), t ∈ l → Below w.heap.size w W → Calls Tryz.prog g (#[t.val] ++ lb) W fun e w' => e = .returned (.bool (p t)) ∧ Below W.heap.size W w') :
    Calls Tryz.prog 74 #[v, .func (.func g) #[] lb] w fun e w' => e = .returned (.bool (l.any p)) ∧ Below w.heap.size w w' := by
  have c1 := Op_.index_any g lb p v l w h hh eg hp
  clear hp
  have hs := findIx_nonneg p l
  generalize findIx p l = i at c1 hs
  cases hq : l.any p
  · rw [hq] at hs
    have hs : ¬ 0 ≤ i := by simpa using hs
    go_enter Tryz.func74, Tryz.ntmps74
    go_wp2_with fail
    refine c1.mono ?_; rintro e w1 ⟨rfl, hb1⟩
    go_wp2_with fail
    go_ret
    exact ⟨ret_bool (by simp), hb1⟩
  · rw [hq] at hs
    have hs : 0 ≤ i := by simpa using hs
    go_enter Tryz.func74, Tryz.ntmps74
    go_wp2_with fail
    refine c1.mono ?_; rintro e w1 ⟨rfl, hb1⟩
    go_wp2_with fail
    go_ret
    exact ⟨ret_bool (by simp), hb1⟩

theorem Op_.to_any (t : Op_) (w : World) : Calls Tryz.prog 73 #[t.val] w fun e w' => e = .returned t.val ∧ Below w.heap.size w w' := by
  unfold Op_.val
  go_enter Tryz.func73, Tryz.ntmps73
  go_wp2
  go_returns
  exact ⟨rfl, by go_grown⟩
theorem Op_.eq_any (x y : Op_) (w : World) : Calls Tryz.prog 78 #[x.val, y.val] w fun e w' => e = .returned (.bool (x.eqB y)) ∧ Below w.heap.size w w' := by
  unfold Op_.val
  go_enter Tryz.func78, Tryz.ntmps78
  go_wp2
  all_goals (go_ret; exact ⟨ret_bool (by simp_all [Op_.eqB]), by go_grown⟩)
theorem Op_.szS_any (v : Value) (l : List Op_) (w : World) {lo hi : Nat} (h : Rd Op_.cells 3 w lo hi v l) (left : Int) (h0 : 0 ≤ left) (h1 : left ≤ 1048576) : Calls Tryz.prog 23 #[v, .int .i64 left] w fun e w' => e = .returned (.int .i64 (szL left l.length)) ∧ w = w' := by
  obtain ⟨A, n, c, rfl, hn, hc, hm⟩ := h.form
  rw [← hn.out]
  by_cases hlt : left - n < 0
  · have H := Lib.hid (show szL left n = -1 from by simp [szL, hlt])
    go_enter Tryz.func23, Tryz.ntmps23
    go_wp2
    go_ret
    exact ⟨ret_int H.out.symm, rfl⟩
  · have H := Lib.hid (show szL left n = left - n from by simp [szL, hlt])
    go_enter Tryz.func23, Tryz.ntmps23
    go_wp2
    go_ret
    exact ⟨ret_int H.out.symm, rfl⟩
theorem Op_.toS_any (v : Value) (l : List Op_) (w : World) {lo hi : Nat} (h : Rd Op_.cells 3 w lo hi v l) (hlo : hi ≤ w.heap.size) (hl : l.length ≤ 1048576) :
    Calls Tryz.prog 25 #[v] w fun e w' => ∃ v', e = .returned v' ∧ Ow Op_.cells 3 73 w' w.heap.size w'.heap.size v' l ∧ Below w.heap.size w w' := by
  obtain ⟨A, n, c, rfl, H, hc, hm⟩ := h.form
  rw [← H.out] at hl
  obtain ⟨i0, hi0, hz0, hz1, hz2⟩ := info_parts Op_.info
  have hmk := make_new (P := Tryz.prog) Tryz.underlying51 hi0 hz0 n hl (by omega)
  rw [hz1] at hmk
  have c1 := fun t => Op_.to_any t
  unfold Op_.val at c1
  obtain ⟨cur, hcur, hcs⟩ := heap_made w (Value.agg #[.int .i64 0, .int .i64 0, .int .i64 0]).cells (n * 3) 73
  have hb0 := (Below.refl w.heap.size w).alloc (Nat.le_refl _) (.cells (madeCells (Value.agg #[.int .i64 0, .int .i64 0, .int .i64 0]).cells (n * 3)) 73)
  have hp0 : Part Op_.cells 3 73 _ w.heap.size 0 n [] := Part.start cur hcur (by omega)
  clear hcur hcs
  go_enter Tryz.func25, Tryz.ntmps25
  go_wp2
  simp only [Value.cells] at hb0 hp0
  generalize w.alloc _ = w0 at hb0 hp0 ⊢
  go_loopw [4] (fun i wr => ∃ k : Nat, k ≤ n ∧ i = .int .i64 k ∧ Below w.heap.size w wr ∧ Part Op_.cells 3 73 wr w.heap.size 0 n (l.take k)) (fun i _ => n - (intOf i).toNat)
  case atStart => exact ⟨0, Nat.zero_le _, rfl, hb0, hp0⟩
  case round =>
    clear hb0 hp0
    obtain ⟨k, hk, rfl, hb, hp⟩ := hrel
    by_cases hlt : k < n
    · obtain ⟨b, off, t, rfl, ht, _, hbw, f0, f1, f2⟩ := Op_.get h hlt hb hlo
      go_wp2_with (go_at_call 73; refine (c1 t _).mono ?_; rintro e w1 ⟨rfl, hb1⟩; have hp1 := hp.below hb1; have hfz := hp1.frozen; obtain ⟨⟨o0, g0⟩, ⟨o1, g1⟩, ⟨o2, g2⟩⟩ := hp1.cell3 hlt)
      go_roundw
      case rel =>
        refine ⟨k + 1, by omega, by go_num, setL_below (hb.trans (hb1.mono hb.size)) t.cells w.heap.size (k * 3) (Nat.le_refl _), ?_⟩
        have hlen : (l.take k).length = k := by rw [List.length_take, ← H.out]; omega
        rw [List.take_add_one, ht.out]
        exact hp1.set (by omega) t t.cells rfl rfl Op_.cells_len (by rw [hlen]; omega)
      case measure => simp [intOf]; omega
    · go_wp2
      go_ret
      have hkn : k = n := by omega
      subst hkn
      rw [List.take_of_length_le (by rw [← H.out]; omega)] at hp
      exact ⟨_, rfl, hp.ow H.out.symm (Nat.le_refl _) hp.lt (Nat.le_refl _) (by unfold maxLen; omega), hb⟩
theorem Op_.eqS_any (v1 v2 : Value) (l1 l2 : List Op_) (w : World) {lo1 hi1 lo2 hi2 : Nat} (h1 : Rd Op_.cells 3 w lo1 hi1 v1 l1) (h2 : Rd Op_.cells 3 w lo2 hi2 v2 l2) (hh1 : hi1 ≤ w.heap.size) (hh2 : hi2 ≤ w.heap.size) :
    Calls Tryz.prog 28 #[v1, v2] w fun e w' => e = .returned (.bool (Op_.eqL l1 l2)) ∧ Below w.heap.size w w' := by
  obtain ⟨A, n, c, rfl, H1, hc1, hm1⟩ := h1.form
  obtain ⟨B, m, d, rfl, H2, hc2, hm2⟩ := h2.form
  have c1 := fun a b => Op_.eq_any a b
  unfold Op_.val at c1
  by_cases hne : n = m
  · subst hne
    go_enter Tryz.func28, Tryz.ntmps28
    go_wp2_with fail
    go_loopw [5] (fun i wr => ∃ k : Nat, k ≤ n ∧ i = .int .i64 k ∧ Below w.heap.size w wr ∧ l1.take k = l2.take k) (fun i _ => n - (intOf i).toNat)
    case atStart => exact ⟨0, Nat.zero_le _, rfl, Below.refl _ _, rfl⟩
    case round =>
      obtain ⟨k, hk, rfl, hb, he⟩ := hrel
      have HE := Lib.hid he
      clear he
      by_cases hlt : k < n
      · obtain ⟨b, off, x, rfl, hx, _, _, f0, f1, f2⟩ := Op_.get h1 hlt hb hh1
        obtain ⟨b', off', y, rfl, hy, _, _, g0, g1, g2⟩ := Op_.get h2 hlt hb hh2
        cases hq : x.eqB y
        · have c1 := c1 x y
          rw [hq] at c1
          have hne : l1 ≠ l2 := by
            rintro rfl
            have : x = y := Option.some.inj (hx.out.symm.trans hy.out)
            rw [(Op_.eqB_iff x y).2 this] at hq
            cases hq
          have HF := Lib.hid (show Op_.eqL l1 l2 = false from by simp [Op_.eqL, hne])
          clear hne hq
          go_wp2_with fail
          go_region_with (go_at_call 78; refine (c1 _).mono ?_; rintro e w1 ⟨rfl, hb1⟩)
          all_goals
            go_wp2_with fail
            go_ret
            exact ⟨ret_bool HF.out.symm, hb.drew.trans (hb1.mono hb.size)⟩
        · have c1 := c1 x y
          rw [hq] at c1
          have HF := Lib.hid ((Op_.eqB_iff x y).1 hq)
          clear hq
          go_wp2_with fail
          go_region_with (go_at_call 78; refine (c1 _).mono ?_; rintro e w1 ⟨rfl, hb1⟩)
          all_goals
            go_wp2_with fail
            go_roundw
            case rel => exact ⟨k + 1, by omega, by go_num, hb.drew.trans (hb1.mono hb.size), by rw [List.take_add_one, List.take_add_one, HE.out, hx.out, hy.out, HF.out]⟩
            case measure => simp [intOf]; omega
      · go_wp2_with fail
        go_ret
        refine ⟨ret_bool ?_, hb⟩
        have he := HE.out
        rw [List.take_of_length_le (by rw [← H1.out]; omega), List.take_of_length_le (by rw [← H2.out]; omega)] at he
        simp [Op_.eqL, he]
  · have HF := Lib.hid (show Op_.eqL l1 l2 = false from by
      have : l1 ≠ l2 := by rintro rfl; exact hne (H1.out.trans H2.out.symm)
      simp [Op_.eqL, this])
    go_enter Tryz.func28, Tryz.ntmps28
    go_wp2_with fail
    go_ret
    exact ⟨ret_bool HF.out.symm, Below.refl _ _⟩
theorem Op_.eqS_same (v1 v2 : Value) (l : List Op_) (w : World) {lo1 hi1 lo2 hi2 : Nat} (h1 : Rd Op_.cells 3 w lo1 hi1 v1 l) (h2 : Rd Op_.cells 3 w lo2 hi2 v2 l) (hh1 : hi1 ≤ w.heap.size) (hh2 : hi2 ≤ w.heap.size) :
    Calls Tryz.prog 28 #[v1, v2] w fun e w' => e = .returned (.bool true) ∧ Below w.heap.size w w' := by
  have h := Op_.eqS_any v1 v2 l l w h1 h2 hh1 hh2
  rwa [show Op_.eqL l l = true from by simp [Op_.eqL]] at h

/-- what marking writes, from k on -/
def Op_.mark (k : Int) : Op_ := ⟨k, k + 1, k + 1 + 1⟩
def Op_.markL (k : Int) (n : Nat) : List Op_ := (List.range n).map fun (i : Nat) => Op_.mark (k + 3 * i)
theorem Op_.markL_len (k : Int) (n : Nat) : (Op_.markL k n).length = n := by simp [Op_.markL]
theorem Op_.markL_succ (k : Int) (n : Nat) : Op_.markL k (n + 1) = Op_.markL k n ++ [Op_.mark (k + 3 * n)] := by simp [Op_.markL, List.range_succ]

theorem Op_.markS_any (v : Value) (l : List Op_) (w : World) {lo hi : Nat} (h : Ow Op_.cells 3 73 w lo hi v l) (k0 : Int) (h0 : 0 ≤ k0) (h1 : k0 ≤ 1099511627776) (hl : l.length ≤ 1048576) :
    Calls Tryz.prog 29 #[v, .int .i64 k0] w fun e w' => e = .returned (.int .i64 (k0 + 3 * l.length)) ∧ Ow Op_.cells 3 73 w' lo hi v (Op_.markL k0 l.length) ∧ Turned w w' v l.length := by
  obtain ⟨A, n, c, rfl, H, hc, hm⟩ := h.form
  rw [← H.out] at hl ⊢
  go_enter Tryz.func29, Tryz.ntmps29
  go_wp2_with fail
  go_loopw [1, 5] (fun q i wr => ∃ k : Nat, k ≤ n ∧ i = .int .i64 k ∧ q = .int .i64 (k0 + 3 * k) ∧ (0 < n → ∃ g off, A = some ⟨g, off, none⟩ ∧ lo ≤ g ∧ g < hi ∧ Part Op_.cells 3 73 wr g off n (Op_.markL k0 k) ∧ w.grownBy wr (some g)) ∧ (n = 0 → wr = w)) (fun _ i _ => n - (intOf i).toNat)
  case atStart =>
    refine ⟨0, Nat.zero_le _, rfl, by simp, fun hn => ?_, fun _ => rfl⟩
    obtain ⟨g, off, hA, hg1, hg2, hp⟩ := h.part Op_.cells_len (by omega) hn
    exact ⟨g, off, hA, hg1, hg2, by simpa [Op_.markL] using hp, World.grownBy.refl w _⟩
  case round =>
    obtain ⟨k, hk, rfl, rfl, hp, hn0⟩ := hrel
    by_cases hlt : k < n
    · obtain ⟨g, off, rfl, hg1, hg2, hp, hg⟩ := hp (by omega)
      have hfz := hp.frozen
      obtain ⟨⟨o0, g0⟩, ⟨o1, g1⟩, ⟨o2, g2⟩⟩ := hp.cell3o hlt
      clear hn0
      go_wp2_with fail
      go_roundw
      case rel =>
        refine ⟨k + 1, by omega, by go_num, by go_num, fun _ => ⟨g, off, rfl, hg1, hg2, ?_, ?_⟩, fun h => by omega⟩
        · rw [Op_.markL_succ]
          exact hp.set (by rw [Op_.markL_len]; exact hlt) _ (Op_.mark (k0 + 3 * k)).cells rfl rfl Op_.cells_len (by rw [Op_.markL_len])
        · exact grown_trans hg (setL_grown (Op_.mark (k0 + 3 * k)).cells wr g (off + k * 3))
      case measure => simp [intOf]; omega
    · have hkn : k = n := by omega
      subst hkn
      go_wp2_with fail
      go_ret
      rcases Nat.eq_zero_or_pos k with hz | hz
      · subst hz
        have hl0 : l = [] := List.eq_nil_of_length_eq_zero H.out.symm
        subst hl0
        rw [hn0 rfl]
        exact ⟨rfl, h, Turned.refl _ _ _⟩
      · obtain ⟨g, off, rfl, hg1, hg2, hp, hg⟩ := hp hz
        exact ⟨rfl, hp.ow (Op_.markL_len _ _) hg1 hg2 hc (by unfold maxLen; omega), ⟨some g, hg, fun g' e => ⟨hz, by simpa [Value.ownBlock] using e⟩⟩⟩

end Go.Proofs.YtengaccnncnipaaGreat

/- Whether an op of a processor interface is valid, in the program and in the reference. No condition. -/
namespace Go.Proofs.YtengaccnncnipaaGreat
open Go.RowKit Go.ChangeShapes Go.WideShapes Go.Deep

def Op_.ok (o : Op_) : Bool := (o.kind == 1 && (inB o.irq 0 7 && inB o.prio 0 15)) || (((o.kind == 2 || o.kind == 3) && (o.irq == 0 && o.prio == 0)) || (o.kind == 4 && (o.irq == 0 && inB o.prio 0 16)))
theorem Op_.ok_iff (o : Op_) : o.ok = true ↔ (o.kind = 1 ∧ inB o.irq 0 7 = true ∧ inB o.prio 0 15 = true) ∨ ((o.kind = 2 ∨ o.kind = 3) ∧ o.irq = 0 ∧ o.prio = 0) ∨ (o.kind = 4 ∧ o.irq = 0 ∧ inB o.prio 0 16 = true) := by
  simp [Op_.ok, Bool.or_eq_true, Bool.and_eq_true]
theorem inB_223 : inB 2 2 3 = true := rfl
theorem inB_323 : inB 3 2 3 = true := rfl

set_option maxHeartbeats 2000000 in
theorem l10Op_any (o : Op_) (w : World) : Calls Tryz.prog 72 #[o.val] w fun e w' => e = .returned (.bool o.ok) ∧ Below w.heap.size w w' := by
  obtain ⟨kd, ir, pr⟩ := o
  unfold Op_.val
  dsimp only
  by_cases h1 : kd = 1
  · subst h1
    cases h2 : inB ir 0 7
    · have HF := Lib.hid (show Op_.ok ⟨1, ir, pr⟩ = false from by simp [Op_.ok, h2])
      have c0 := fun W => l6Irq_any ir W
      rw [h2] at c0
      clear h2
      go_enter Tryz.func72, Tryz.ntmps72
      go_wp2_with fail
      refine (c0 _).mono ?_; rintro q_ w_ ⟨rfl, rfl⟩
      go_wp2_with fail
      go_ret
      exact ⟨ret_bool HF.out.symm, by go_grown⟩
    · have HF := Lib.hid (show Op_.ok ⟨1, ir, pr⟩ = inB pr 0 15 from by simp [Op_.ok, h2])
      have c0 := fun W => l6Irq_any ir W
      rw [h2] at c0
      have c1 := fun W => l6Prio_any pr W
      clear h2
      go_enter Tryz.func72, Tryz.ntmps72
      go_wp2_with fail
      refine (c0 _).mono ?_; rintro q_ w_ ⟨rfl, rfl⟩
      go_wp2_with fail
      refine (c1 _).mono ?_; rintro q_ w_ ⟨rfl, rfl⟩
      go_wp2_with fail
      go_ret
      exact ⟨ret_bool HF.out.symm, by go_grown⟩
  by_cases h4 : kd = 4
  · subst h4
    clear h1
    by_cases h2 : ir = 0
    · subst h2
      have HF := Lib.hid (show Op_.ok ⟨4, 0, pr⟩ = inB pr 0 16 from by simp [Op_.ok])
      have c0 := fun W => l1In_any pr 0 16 W
      go_enter Tryz.func72, Tryz.ntmps72
      go_wp2_with fail
      refine (c0 _).mono ?_; rintro q_ w_ ⟨rfl, rfl⟩
      go_wp2_with fail
      go_ret
      exact ⟨ret_bool HF.out.symm, by go_grown⟩
    · have h2d : (ir == 0) = false := by simpa using h2
      have HF := Lib.hid (show Op_.ok ⟨4, ir, pr⟩ = false from by simp [Op_.ok, h2])
      go_enter Tryz.func72, Tryz.ntmps72
      go_wp2_with fail
      go_ret
      exact ⟨ret_bool HF.out.symm, by go_grown⟩
  by_cases h5 : kd = 2
  · subst h5
    clear h1 h4
    by_cases h2 : ir = 0
    · subst h2
      by_cases h3 : pr = 0
      · subst h3
        have HF := Lib.hid (show Op_.ok ⟨2, 0, 0⟩ = true from by simp [Op_.ok])
        have c0 := fun W => l1In_any 2 2 3 W
        rw [inB_223] at c0
        go_enter Tryz.func72, Tryz.ntmps72
        go_wp2_with fail
        refine (c0 _).mono ?_; rintro q_ w_ ⟨rfl, rfl⟩
        go_wp2_with fail
        go_ret
        exact ⟨ret_bool HF.out.symm, by go_grown⟩
      · have h3d : (pr == 0) = false := by simpa using h3
        have HF := Lib.hid (show Op_.ok ⟨2, 0, pr⟩ = false from by simp [Op_.ok, h3])
        have c0 := fun W => l1In_any 2 2 3 W
        rw [inB_223] at c0
        go_enter Tryz.func72, Tryz.ntmps72
        go_wp2_with fail
        refine (c0 _).mono ?_; rintro q_ w_ ⟨rfl, rfl⟩
        go_wp2_with fail
        go_ret
        exact ⟨ret_bool HF.out.symm, by go_grown⟩
    · have h2d : (ir == 0) = false := by simpa using h2
      have HF := Lib.hid (show Op_.ok ⟨2, ir, pr⟩ = false from by simp [Op_.ok, h2])
      have c0 := fun W => l1In_any 2 2 3 W
      rw [inB_223] at c0
      go_enter Tryz.func72, Tryz.ntmps72
      go_wp2_with fail
      refine (c0 _).mono ?_; rintro q_ w_ ⟨rfl, rfl⟩
      go_wp2_with fail
      go_ret
      exact ⟨ret_bool HF.out.symm, by go_grown⟩
  by_cases h6 : kd = 3
  · subst h6
    clear h1 h4 h5
    by_cases h2 : ir = 0
    · subst h2
      by_cases h3 : pr = 0
      · subst h3
        have HF := Lib.hid (show Op_.ok ⟨3, 0, 0⟩ = true from by simp [Op_.ok])
        have c0 := fun W => l1In_any 3 2 3 W
        rw [inB_323] at c0
        go_enter Tryz.func72, Tryz.ntmps72
        go_wp2_with fail
        refine (c0 _).mono ?_; rintro q_ w_ ⟨rfl, rfl⟩
        go_wp2_with fail
        go_ret
        exact ⟨ret_bool HF.out.symm, by go_grown⟩
      · have h3d : (pr == 0) = false := by simpa using h3
        have HF := Lib.hid (show Op_.ok ⟨3, 0, pr⟩ = false from by simp [Op_.ok, h3])
        have c0 := fun W => l1In_any 3 2 3 W
        rw [inB_323] at c0
        go_enter Tryz.func72, Tryz.ntmps72
        go_wp2_with fail
        refine (c0 _).mono ?_; rintro q_ w_ ⟨rfl, rfl⟩
        go_wp2_with fail
        go_ret
        exact ⟨ret_bool HF.out.symm, by go_grown⟩
    · have h2d : (ir == 0) = false := by simpa using h2
      have HF := Lib.hid (show Op_.ok ⟨3, ir, pr⟩ = false from by simp [Op_.ok, h2])
      have c0 := fun W => l1In_any 3 2 3 W
      rw [inB_323] at c0
      go_enter Tryz.func72, Tryz.ntmps72
      go_wp2_with fail
      refine (c0 _).mono ?_; rintro q_ w_ ⟨rfl, rfl⟩
      go_wp2_with fail
      go_ret
      exact ⟨ret_bool HF.out.symm, by go_grown⟩
  have g1 : (kd == 1) = false := by simpa using h1
  have g2 : (kd == 2) = false := by simpa using h5
  have g3 : (kd == 3) = false := by simpa using h6
  have g4 : (kd == 4) = false := by simpa using h4
  have h7 : inB kd 2 3 = false := by cases h : inB kd 2 3 with | false => rfl | true => (rw [inB_iff] at h; omega)
  have HF := Lib.hid (show Op_.ok ⟨kd, ir, pr⟩ = false from by simp [Op_.ok, h1, h4, h5, h6])
  have c0 := fun W => l1In_any kd 2 3 W
  rw [h7] at c0
  clear h1 h4 h5 h6 h7
  go_enter Tryz.func72, Tryz.ntmps72
  go_wp2_with fail
  refine (c0 _).mono ?_; rintro q_ w_ ⟨rfl, rfl⟩
  go_wp2_with fail
  go_ret
  exact ⟨ret_bool HF.out.symm, by go_grown⟩
set_option maxHeartbeats 2000000 in
theorem isOp_any (o : Op_) (w : World) : Calls Tryz.prog 76 #[o.val] w fun e w' => e = .returned (.bool o.ok) ∧ Below w.heap.size w w' := by
  obtain ⟨kd, ir, pr⟩ := o
  unfold Op_.val
  dsimp only
  by_cases h1 : kd = 1
  · subst h1
    cases h2 : inB ir 0 7
    · have HF := Lib.hid (show Op_.ok ⟨1, ir, pr⟩ = false from by simp [Op_.ok, h2])
      have c0 := fun W => isIrq_any ir W
      rw [h2] at c0
      clear h2
      go_enter Tryz.func76, Tryz.ntmps76
      go_wp2_with fail
      refine (c0 _).mono ?_; rintro q_ w_ ⟨rfl, rfl⟩
      go_wp2_with fail
      go_ret
      exact ⟨ret_bool HF.out.symm, by go_grown⟩
    · have HF := Lib.hid (show Op_.ok ⟨1, ir, pr⟩ = inB pr 0 15 from by simp [Op_.ok, h2])
      have c0 := fun W => isIrq_any ir W
      rw [h2] at c0
      have c1 := fun W => isPriority_any pr W
      clear h2
      go_enter Tryz.func76, Tryz.ntmps76
      go_wp2_with fail
      refine (c0 _).mono ?_; rintro q_ w_ ⟨rfl, rfl⟩
      go_wp2_with fail
      refine (c1 _).mono ?_; rintro q_ w_ ⟨rfl, rfl⟩
      go_wp2_with fail
      go_ret
      exact ⟨ret_bool HF.out.symm, by go_grown⟩
  by_cases h4 : kd = 4
  · subst h4
    clear h1
    by_cases h2 : ir = 0
    · subst h2
      have HF := Lib.hid (show Op_.ok ⟨4, 0, pr⟩ = inB pr 0 16 from by simp [Op_.ok])
      have c0 := fun W => isMask_any pr W
      go_enter Tryz.func76, Tryz.ntmps76
      go_wp2_with fail
      refine (c0 _).mono ?_; rintro q_ w_ ⟨rfl, rfl⟩
      go_wp2_with fail
      go_ret
      exact ⟨ret_bool HF.out.symm, by go_grown⟩
    · have h2d : (ir == 0) = false := by simpa using h2
      have HF := Lib.hid (show Op_.ok ⟨4, ir, pr⟩ = false from by simp [Op_.ok, h2])
      go_enter Tryz.func76, Tryz.ntmps76
      go_wp2_with fail
      go_ret
      exact ⟨ret_bool HF.out.symm, by go_grown⟩
  by_cases h5 : kd = 2
  · subst h5
    clear h1 h4
    by_cases h2 : ir = 0
    · subst h2
      by_cases h3 : pr = 0
      · subst h3
        have HF := Lib.hid (show Op_.ok ⟨2, 0, 0⟩ = true from by simp [Op_.ok])
        go_enter Tryz.func76, Tryz.ntmps76
        go_wp2_with fail
        go_ret
        exact ⟨ret_bool HF.out.symm, by go_grown⟩
      · have h3d : (pr == 0) = false := by simpa using h3
        have HF := Lib.hid (show Op_.ok ⟨2, 0, pr⟩ = false from by simp [Op_.ok, h3])
        go_enter Tryz.func76, Tryz.ntmps76
        go_wp2_with fail
        go_ret
        exact ⟨ret_bool HF.out.symm, by go_grown⟩
    · have h2d : (ir == 0) = false := by simpa using h2
      have HF := Lib.hid (show Op_.ok ⟨2, ir, pr⟩ = false from by simp [Op_.ok, h2])
      go_enter Tryz.func76, Tryz.ntmps76
      go_wp2_with fail
      go_ret
      exact ⟨ret_bool HF.out.symm, by go_grown⟩
  by_cases h6 : kd = 3
  · subst h6
    clear h1 h4 h5
    by_cases h2 : ir = 0
    · subst h2
      by_cases h3 : pr = 0
      · subst h3
        have HF := Lib.hid (show Op_.ok ⟨3, 0, 0⟩ = true from by simp [Op_.ok])
        go_enter Tryz.func76, Tryz.ntmps76
        go_wp2_with fail
        go_ret
        exact ⟨ret_bool HF.out.symm, by go_grown⟩
      · have h3d : (pr == 0) = false := by simpa using h3
        have HF := Lib.hid (show Op_.ok ⟨3, 0, pr⟩ = false from by simp [Op_.ok, h3])
        go_enter Tryz.func76, Tryz.ntmps76
        go_wp2_with fail
        go_ret
        exact ⟨ret_bool HF.out.symm, by go_grown⟩
    · have h2d : (ir == 0) = false := by simpa using h2
      have HF := Lib.hid (show Op_.ok ⟨3, ir, pr⟩ = false from by simp [Op_.ok, h2])
      go_enter Tryz.func76, Tryz.ntmps76
      go_wp2_with fail
      go_ret
      exact ⟨ret_bool HF.out.symm, by go_grown⟩
  have g1 : (kd == 1) = false := by simpa using h1
  have g2 : (kd == 2) = false := by simpa using h5
  have g3 : (kd == 3) = false := by simpa using h6
  have g4 : (kd == 4) = false := by simpa using h4
  have HF := Lib.hid (show Op_.ok ⟨kd, ir, pr⟩ = false from by simp [Op_.ok, h1, h4, h5, h6])
  clear h1 h4 h5 h6
  go_enter Tryz.func76, Tryz.ntmps76
  go_wp2_with fail
  go_ret
  exact ⟨ret_bool HF.out.symm, by go_grown⟩
theorem badOp_any (o : Op_) (w : World) : Calls Tryz.prog 75 #[o.val] w fun e w' => e = .returned (.bool (!o.ok)) ∧ Below w.heap.size w w' := by
  have b0 : Below w.heap.size w (w.alloc (.cells #[.int .i64 o.kind, .int .i64 o.irq, .int .i64 o.prio] 73)) := (Below.refl w.heap.size w).alloc (Nat.le_refl _) _
  have c1 := isOp_any o (w.alloc (.cells #[.int .i64 o.kind, .int .i64 o.irq, .int .i64 o.prio] 73))
  unfold Op_.val at c1 ⊢
  go_enter Tryz.func75, Tryz.ntmps75
  go_wp2_with fail
  refine c1.mono ?_; rintro q_ w1 ⟨rfl, b1⟩
  go_wp2_with fail
  go_ret
  exact ⟨rfl, b0.trans (b1.mono (by simp))⟩

end Go.Proofs.YtengaccnncnipaaGreat

/- Running ops on a processor interface, in plain terms: what each op makes of it, and that it stays valid. No condition. -/
namespace Go.Proofs.YtengaccnncnipaaGreat

structure FS where
  m : Int
  st : List Int
  ls : List Sl
  lw : List Wt
def FS.good (s : FS) : Bool := Fa.good s.m s.st s.ls s.lw
def FS.tk (s : FS) : Bool := Sl.tkOk s.ls (minI s.m (Fa.run s.st s.ls))
def FS.took (s : FS) : FS := ⟨s.m, s.st ++ [Sl.tkI s.ls], Sl.tkS s.ls, s.lw⟩
def FS.rose (s : FS) (i p : Int) : FS := ⟨s.m, s.st, (Qu.ofP s.ls s.lw i p).1, (Qu.ofP s.ls s.lw i p).2⟩
def FS.left (s : FS) : FS := ⟨s.m, s.st.dropLast, (Qu.enP s.ls s.lw (Fa.top s.st)).1, (Qu.enP s.ls s.lw (Fa.top s.st)).2⟩
def FS.masked (s : FS) (k : Int) : FS := ⟨k, s.st, s.ls, s.lw⟩
def FS.step (s : FS) (o : Op_) : FS :=
  if o.kind = 1 then s.rose o.irq o.prio else if o.kind = 2 then (if s.tk then s.took else s) else if o.kind = 3 then (if s.st.length = 0 then s else s.left) else s.masked o.prio
def FS.got (s : FS) (o : Op_) : List Int := if o.kind = 2 then (if s.tk then [Sl.tkI s.ls] else []) else []
def FS.next (p : FS × List Int) (o : Op_) : FS × List Int := (p.1.step o, p.2 ++ p.1.got o)
def FS.runs (p : FS × List Int) (l : List Op_) : FS × List Int := l.foldl FS.next p
theorem FS.runs_pre {p : FS × List Int} {l : List Op_} {k : Nat} {o : Op_} (h : l[k]? = some o) : FS.runs p (l.take (k + 1)) = FS.next (FS.runs p (l.take k)) o := by
  rw [FS.runs, List.take_add_one, h, List.foldl_append]; rfl
theorem FS.got_len (s : FS) (o : Op_) : (s.got o).length ≤ 1 := by unfold FS.got; split <;> (try split) <;> simp
theorem FS.runs_len : ∀ (l : List Op_) (p : FS × List Int), (FS.runs p l).2.length ≤ p.2.length + l.length
  | [], p => by simp [FS.runs]
  | o :: l, p => by
    have ih := FS.runs_len l (FS.next p o)
    have h := FS.got_len p.1 o
    simp only [FS.runs, List.foldl_cons, List.length_cons] at *
    have : (FS.next p o).2.length = p.2.length + (p.1.got o).length := by simp [FS.next]
    omega
theorem minI_le (a b : Int) : minI a b ≤ a ∧ minI a b ≤ b := by unfold minI; split <;> omega
theorem FS.good_iff {s : FS} : s.good = true ↔ inB s.m 0 16 = true ∧ Qu.good s.ls s.lw = true ∧ Fa.Ok s.st s.ls := Fa.good_iff
theorem FS.took_good {s : FS} (h : s.good = true) (hk : s.tk = true) : s.took.good = true := by
  rw [FS.good_iff] at *
  obtain ⟨h1, h2, h3⟩ := h
  exact ⟨h1, Qu.tk_good h2 hk, Fa.take_ok (Qu.good_parts h2).1 h3 hk (minI_le _ _).2⟩
theorem FS.rose_good {s : FS} (h : s.good = true) {i p : Int} (hi : inB i 0 7 = true) (hp : inB p 0 15 = true) : (s.rose i p).good = true := by
  rw [FS.good_iff] at *
  obtain ⟨h1, h2, h3⟩ := h
  exact ⟨h1, Qu.ofP_good (by simp [Qu.ofOk, h2, hi, hp]), Fa.raise_ok h2 hi hp h3⟩
theorem FS.left_good {s : FS} (h : s.good = true) (h0 : ¬ s.st.length = 0) : s.left.good = true := by
  obtain ⟨j, hj⟩ : ∃ j, j + 1 = s.st.length := ⟨s.st.length - 1, by omega⟩
  obtain ⟨x, hx⟩ : ∃ x, s.st[j]? = some x := ⟨_, List.getElem?_eq_getElem (show j < s.st.length by omega)⟩
  obtain ⟨_, e2, e3⟩ := Fa.top_at hj hx
  obtain ⟨h4, h5⟩ := Fa.lv_end h hj hx
  rw [FS.good_iff] at *
  obtain ⟨h1, h2, h3⟩ := h
  simp only [FS.left, e2, e3]
  exact ⟨h1, Qu.eiP_good (Qu.good_parts h2).1 h4, h5⟩
theorem FS.masked_good {s : FS} (h : s.good = true) {k : Int} (hk : inB k 0 16 = true) : (s.masked k).good = true := by
  rw [FS.good_iff] at *
  exact ⟨hk, h.2⟩
theorem FS.step_good {s : FS} (h : s.good = true) {o : Op_} (ho : o.ok = true) : (s.step o).good = true := by
  rw [Op_.ok_iff] at ho
  unfold FS.step
  rcases ho with ⟨e, h1, h2⟩ | ⟨e | e, _, _⟩ | ⟨e, _, h2⟩
  · rw [if_pos e]; exact FS.rose_good h h1 h2
  · rw [if_neg (by omega), if_pos e]
    split
    · rename_i hk; exact FS.took_good h hk
    · exact h
  · rw [if_neg (by omega), if_neg (by omega), if_pos e]
    split
    · exact h
    · rename_i h0; exact FS.left_good h h0
  · rw [if_neg (by omega), if_neg (by omega), if_neg (by omega)]
    exact FS.masked_good h h2
theorem FS.runs_good {l : List Op_} (hl : l.all Op_.ok = true) : ∀ {p : FS × List Int}, p.1.good = true → (FS.runs p l).1.good = true := by
  induction l with
  | nil => intro p h; exact h
  | cons o l ih =>
    intro p h
    simp only [List.all_cons, Bool.and_eq_true] at hl
    exact ih hl.2 (p := FS.next p o) (FS.step_good h hl.1)
/-- valid: at most 4 on the stack, 4 slots, 8 waiters -/
theorem FS.good_len {s : FS} (h : s.good = true) : s.st.length ≤ 4 ∧ s.ls.length = 4 ∧ s.lw.length ≤ 8 := by
  rw [FS.good_iff] at h
  obtain ⟨_, h2, h3⟩ := h
  have h4 := Qu.good_len2 h2
  have h5 := Fa.ok_len h3
  omega

def FS.roOk (s : FS) (l : List Op_) : Bool := s.good && (decide (l.length ≤ 20) && l.all Op_.ok)
def FS.roS (s : FS) (l : List Op_) : FS := if s.roOk l then (FS.runs (s, []) l).1 else ⟨0, [], [], []⟩
def FS.roT (s : FS) (l : List Op_) : List Int := if s.roOk l then (FS.runs (s, []) l).2 else []
theorem FS.ro_no {s : FS} {l : List Op_} (h : s.roOk l = false) : s.roOk l = false ∧ s.roS l = ⟨0, [], [], []⟩ ∧ s.roT l = [] := by simp [FS.roS, FS.roT, h]
theorem FS.ro_yes {s : FS} {l : List Op_} (h : s.roOk l = true) : s.roOk l = true ∧ s.roS l = (FS.runs (s, []) l).1 ∧ s.roT l = (FS.runs (s, []) l).2 := by simp [FS.roS, FS.roT, h]
theorem FS.roS_len (s : FS) (l : List Op_) : (s.roS l).st.length ≤ 1048576 ∧ (s.roS l).ls.length ≤ 1048576 ∧ (s.roS l).lw.length ≤ 1048576 ∧ (s.roT l).length ≤ 1048576 := by
  cases h : s.roOk l
  · obtain ⟨_, e, e2⟩ := FS.ro_no h
    rw [e, e2]; simp
  · obtain ⟨_, e, e2⟩ := FS.ro_yes h
    simp only [FS.roOk, Bool.and_eq_true, decide_eq_true_eq] at h
    obtain ⟨h1, h2, h3⟩ := h
    have h4 := FS.good_len (FS.runs_good h3 (p := (s, [])) h1)
    have h5 := FS.runs_len l (s, [])
    rw [e, e2]
    simp at h5
    omega

end Go.Proofs.YtengaccnncnipaaGreat

/- The depth and the running priority of an interface, in the program and in the reference. Condition: at most 1048576 numbers on the stack. -/
namespace Go.Proofs.YtengaccnncnipaaGreat
open Go.RowKit Go.ChangeShapes Go.WideShapes Go.Deep

theorem Fa.slots {m : Int} {st : List Int} {ls : List Sl} {lw : List Wt} (h : Fa.good m st ls lw = true) : ∀ i ∈ st, ∃ k : Nat, Sl.ix ls i = k ∧ k < ls.length := fun i hi => by
  obtain ⟨_, hq, ho⟩ := Fa.good_iff.1 h
  obtain ⟨k, s, hs, _, _, hx, _⟩ := Fa.ok_slot (Qu.parts_get (Qu.good_parts hq).1).1 ho hi
  exact ⟨k, hx, (List.getElem?_eq_some_iff.1 hs).1⟩
theorem Fa.run_at {st : List Int} {ls : List Sl} {i : Int} {j : Nat} (hj : j + 1 = st.length) (h : st[j]? = some i) : Fa.run st ls = Sl.lvl ls i :=
  Fa.run_last (by rw [List.getLast?_eq_getElem?, ← hj]; exact h)
theorem Fa.run_zero {st : List Int} {ls : List Sl} (h : st.length = 0) : Fa.run st ls = 16 := by rw [List.eq_nil_of_length_eq_zero h]; rfl

set_option maxHeartbeats 2000000 in
theorem specRunning_in (m : Int) (vt vs vw : Value) (st : List Int) (ls : List Sl) (lw : List Wt) (w : World) {lo hi lo2 hi2 lo3 hi3 : Nat} (h0 : Rd Nm.cells 1 w lo3 hi3 vt st) (h : Rd Sl.cells 3 w lo hi vs ls) (h2 : Rd Wt.cells 2 w lo2 hi2 vw lw) (hh0 : hi3 ≤ w.heap.size) (hh : hi ≤ w.heap.size) (hh2 : hi2 ≤ w.heap.size) (hix : ∀ i ∈ st, ∃ k : Nat, Sl.ix ls i = k ∧ k < ls.length) :
    Calls Tryz.prog 95 #[.agg #[.int .i64 m, vt, vs, vw]] w fun e w' => e = .returned (.int .i64 (Fa.run st ls)) ∧ Below w.heap.size w w' := by
  have b0 : Below w.heap.size w (w.alloc (.cells #[.int .i64 m, vt, vs, vw] 35)) := (Below.refl w.heap.size w).alloc (Nat.le_refl _) _
  have z0 : (w.alloc (.cells #[.int .i64 m, vt, vs, vw] 35)).heap.size = w.heap.size + 1 := by simp
  have bx := Box.new w #[.int .i64 m, vt, vs, vw] 35 rfl
  have ht := h0.below b0 hh0
  have hs := h.below b0 hh
  have hw := h2.below b0 hh2
  have hv0_ := h0.form
  have hv_ := h.form
  have hv2_ := h2.form
  clear h0 h h2
  generalize hwA : w.alloc (.cells #[.int .i64 m, vt, vs, vw] 35) = wA at *
  obtain ⟨At, nt, dt, rfl, _, _, _⟩ := hv0_
  obtain ⟨A0, n0, d0, rfl, _, _, _⟩ := hv_
  obtain ⟨A1, n1, d1, rfl, _, _, _⟩ := hv2_
  have hn := Nat.le_of_eq ht.n_eq.1
  have hn' := Nat.le_of_eq ht.n_eq.1.symm
  have hc := ht.n_eq.2
  rcases Nat.eq_zero_or_pos nt with hz | hz
  · have HF := Lib.hid (Fa.run_zero (st := st) (ls := ls) (by omega))
    obtain rfl : nt = 0 := hz
    clear hn hn'
    go_enter Tryz.func95, Tryz.ntmps95
    have bx_0 := bx.cell (j := 0) rfl
    have bx_1 := bx.cell (j := 1) rfl
    have bx_2 := bx.cell (j := 2) rfl
    have bx_3 := bx.cell (j := 3) rfl
    have bx_z := bx.frozen
    have bx_l := bx.lt
    go_wp2_with fail
    clear hwA
    clear bx_0 bx_1 bx_2 bx_3 bx_z bx_l
    go_ret
    exact ⟨ret_int HF.out.symm, b0⟩
  · obtain ⟨j, hj⟩ : ∃ j, nt = j + 1 := ⟨nt - 1, by omega⟩
    have hj1 : j < nt := by omega
    obtain ⟨b, off, x, rfl, hx, _, hbh, f0⟩ := Nm.get ht hj1 (Below.refl wA.heap.size wA) (by omega)
    have HF := Lib.hid (Fa.run_at (ls := ls) (show j + 1 = st.length by omega) hx.out)
    obtain ⟨k, hk, hkl⟩ := hix x (List.mem_of_getElem? hx.out)
    have HK := Lib.hid (show ∃ k : Nat, Sl.ix ls x = k ∧ k < ls.length from ⟨k, hk, hkl⟩)
    have hje : (nt : Int) - 1 = (j : Int) := by omega
    have hjn : (j : Int) < (nt : Int) := by omega
    have hzd : decide ((0 : Int) < (nt : Int)) = true := decide_eq_true (by omega)
    have hzd2 : ((nt : Int) == 0) = false := by rw [beq_eq_false_iff_ne]; omega
    clear hk hkl hx hz hn hn' hj
    go_enter Tryz.func95, Tryz.ntmps95
    have bx_0 := bx.cell (j := 0) rfl
    have bx_1 := bx.cell (j := 1) rfl
    have bx_2 := bx.cell (j := 2) rfl
    have bx_3 := bx.cell (j := 3) rfl
    have bx_z := bx.frozen
    have bx_l := bx.lt
    go_wp2_with fail
    clear hwA
    have zr : hi ≤ wA.heap.size := by omega
    have c1 := fun p => l10Level_any _ (.slice A1 n1 d1) ls x (ext wA p) (hs.below (below_ext wA p) zr) (Nat.le_trans zr (below_ext wA p).size) HK.out.choose_spec.1 HK.out.choose_spec.2
    have e0 := cell_ext f0; have e1 := cell_ext bx_1; have e2 := cell_ext bx_2; have e3 := cell_ext bx_3
    refine wp_region_ext_all (by kernel_rfl) (by kernel_rfl) ?_
    repeat (go_big_quiet_step ((go_at_call 101; exact calls_ext (c1 _))))
    refine wpQuiet_nil ?_
    intro w6 b6
    clear e0 e1 e2 e3
    replace b0 := b0.trans (b6.mono (by omega))
    go_wp2_with fail
    go_ret
    exact ⟨ret_int HF.out.symm, b0⟩
set_option maxHeartbeats 2000000 in
theorem implRunning_in (m : Int) (vt vs vw : Value) (st : List Int) (ls : List Sl) (lw : List Wt) (w : World) {lo hi lo2 hi2 lo3 hi3 : Nat} (h0 : Rd Nm.cells 1 w lo3 hi3 vt st) (h : Rd Sl.cells 3 w lo hi vs ls) (h2 : Rd Wt.cells 2 w lo2 hi2 vw lw) (hh0 : hi3 ≤ w.heap.size) (hh : hi ≤ w.heap.size) (hh2 : hi2 ≤ w.heap.size) (hix : ∀ i ∈ st, ∃ k : Nat, Sl.ix ls i = k ∧ k < ls.length) :
    Calls Tryz.prog 87 #[.agg #[.int .i64 m, vt, vs, vw]] w fun e w' => e = .returned (.int .i64 (Fa.run st ls)) ∧ Below w.heap.size w w' := by
  have b0 : Below w.heap.size w (w.alloc (.cells #[.int .i64 m, vt, vs, vw] 35)) := (Below.refl w.heap.size w).alloc (Nat.le_refl _) _
  have z0 : (w.alloc (.cells #[.int .i64 m, vt, vs, vw] 35)).heap.size = w.heap.size + 1 := by simp
  have bx := Box.new w #[.int .i64 m, vt, vs, vw] 35 rfl
  have ht := h0.below b0 hh0
  have hs := h.below b0 hh
  have hw := h2.below b0 hh2
  have hv0_ := h0.form
  have hv_ := h.form
  have hv2_ := h2.form
  clear h0 h h2
  generalize hwA : w.alloc (.cells #[.int .i64 m, vt, vs, vw] 35) = wA at *
  obtain ⟨At, nt, dt, rfl, _, _, _⟩ := hv0_
  obtain ⟨A0, n0, d0, rfl, _, _, _⟩ := hv_
  obtain ⟨A1, n1, d1, rfl, _, _, _⟩ := hv2_
  have hn := Nat.le_of_eq ht.n_eq.1
  have hn' := Nat.le_of_eq ht.n_eq.1.symm
  have hc := ht.n_eq.2
  rcases Nat.eq_zero_or_pos nt with hz | hz
  · have HF := Lib.hid (Fa.run_zero (st := st) (ls := ls) (by omega))
    obtain rfl : nt = 0 := hz
    clear hn hn'
    go_enter Tryz.func87, Tryz.ntmps87
    have bx_0 := bx.cell (j := 0) rfl
    have bx_1 := bx.cell (j := 1) rfl
    have bx_2 := bx.cell (j := 2) rfl
    have bx_3 := bx.cell (j := 3) rfl
    have bx_z := bx.frozen
    have bx_l := bx.lt
    go_wp2_with fail
    clear hwA
    clear bx_0 bx_1 bx_2 bx_3 bx_z bx_l
    go_ret
    exact ⟨ret_int HF.out.symm, b0⟩
  · obtain ⟨j, hj⟩ : ∃ j, nt = j + 1 := ⟨nt - 1, by omega⟩
    have hj1 : j < nt := by omega
    obtain ⟨b, off, x, rfl, hx, _, hbh, f0⟩ := Nm.get ht hj1 (Below.refl wA.heap.size wA) (by omega)
    have HF := Lib.hid (Fa.run_at (ls := ls) (show j + 1 = st.length by omega) hx.out)
    obtain ⟨k, hk, hkl⟩ := hix x (List.mem_of_getElem? hx.out)
    have HK := Lib.hid (show ∃ k : Nat, Sl.ix ls x = k ∧ k < ls.length from ⟨k, hk, hkl⟩)
    have hje : (nt : Int) - 1 = (j : Int) := by omega
    have hjn : (j : Int) < (nt : Int) := by omega
    have hzd : decide ((0 : Int) < (nt : Int)) = true := decide_eq_true (by omega)
    have hzd2 : ((nt : Int) == 0) = false := by rw [beq_eq_false_iff_ne]; omega
    clear hk hkl hx hz hn hn' hj
    go_enter Tryz.func87, Tryz.ntmps87
    have bx_0 := bx.cell (j := 0) rfl
    have bx_1 := bx.cell (j := 1) rfl
    have bx_2 := bx.cell (j := 2) rfl
    have bx_3 := bx.cell (j := 3) rfl
    have bx_z := bx.frozen
    have bx_l := bx.lt
    go_wp2_with fail
    clear hwA
    have zr : hi ≤ wA.heap.size := by omega
    have c1 := fun p => priorityIn_any _ ls x (ext wA p) (hs.below (below_ext wA p) zr) (Nat.le_trans zr (below_ext wA p).size) HK.out.choose_spec.1 HK.out.choose_spec.2
    have e0 := cell_ext f0; have e1 := cell_ext bx_1; have e2 := cell_ext bx_2; have e3 := cell_ext bx_3
    refine wp_region_ext_all (by kernel_rfl) (by kernel_rfl) ?_
    repeat (go_big_quiet_step ((go_at_call 86; exact calls_ext (c1 _))))
    refine wpQuiet_nil ?_
    intro w6 b6
    clear e0 e1 e2 e3
    replace b0 := b0.trans (b6.mono (by omega))
    go_wp2_with fail
    go_ret
    exact ⟨ret_int HF.out.symm, b0⟩
end Go.Proofs.YtengaccnncnipaaGreat

/- Copies of numbers as rows that can grow. Condition: at most 1048576 numbers. -/
namespace Go.Proofs.YtengaccnncnipaaGreat
open Go.RowKit Go.ChangeShapes Go.WideShapes Go.Deep

theorem l1Own_own (B : Nat) (v : Value) (l : List Int) (w : World) {lo hi : Nat} (h : Rd Nm.cells 1 w lo hi v l) (hh : hi ≤ w.heap.size) (hB : B ≤ w.heap.size) (hl : l.length ≤ 1048576) :
    Calls Tryz.prog 102 #[v] w fun e w' => ∃ v', e = .returned v' ∧ w'.ownsRow B 3 1 v' l.length (l.flatMap Nm.cells) ∧ Below w.heap.size w w' := by
  have oE := own_empty w (base := w.heap.size) 3 1 (Nat.le_refl _)
  have o4 := own_empty w (base := B) 3 1 hB
  have b4 := (Below.refl w.heap.size w).alloc (Nat.le_refl _) (.cells #[] 3)
  have h4 := h.below b4 hh
  obtain ⟨A, n, c, rfl, H, hc, hm⟩ := h.form
  rw [← H.out] at hl
  go_enter Tryz.func102, Tryz.ntmps102
  go_wp2_with (at_builtin; (refine Nm.app_rd rfl _ _ rfl B (.slice (some ⟨w.heap.size, 0, none⟩) 0 0) 0 [] rfl o4 rfl h4 (by omega) (by simp; omega) ?_); (intro v3 w3 o3 g3))
  have oR := Ow.of_own Nm.cells_len o3 (l := l) (by simp) (by rw [← H.out]; omega)
  have b3 : Below w.heap.size w w3 := b4.grown g3 (by simp) (own_ge oE)
  obtain ⟨A3, n3, d3, rfl, _, _, _⟩ := oR.rd.form
  rw [Nat.zero_add, List.nil_append, H.out] at o3
  go_ret
  exact ⟨.slice A3 n3 d3, rfl, o3, b3⟩
theorem copyInts_own (B : Nat) (v : Value) (l : List Int) (w : World) {lo hi : Nat} (h : Rd Nm.cells 1 w lo hi v l) (hh : hi ≤ w.heap.size) (hB : B ≤ w.heap.size) (hl : l.length ≤ 1048576) :
    Calls Tryz.prog 82 #[v] w fun e w' => ∃ v', e = .returned v' ∧ w'.ownsRow B 3 1 v' l.length (l.flatMap Nm.cells) ∧ Below w.heap.size w w' := by
  have oE := own_empty w (base := w.heap.size) 3 1 (Nat.le_refl _)
  have o4 := own_empty w (base := B) 3 1 hB
  have b4 := (Below.refl w.heap.size w).alloc (Nat.le_refl _) (.cells #[] 3)
  have h4 := h.below b4 hh
  obtain ⟨A, n, c, rfl, H, hc, hm⟩ := h.form
  rw [← H.out] at hl
  go_enter Tryz.func82, Tryz.ntmps82
  go_wp2_with (at_builtin; (refine Nm.app_rd rfl _ _ rfl B (.slice (some ⟨w.heap.size, 0, none⟩) 0 0) 0 [] rfl o4 rfl h4 (by omega) (by simp; omega) ?_); (intro v3 w3 o3 g3))
  have oR := Ow.of_own Nm.cells_len o3 (l := l) (by simp) (by rw [← H.out]; omega)
  have b3 : Below w.heap.size w w3 := b4.grown g3 (by simp) (own_ge oE)
  obtain ⟨A3, n3, d3, rfl, _, _, _⟩ := oR.rd.form
  rw [Nat.zero_add, List.nil_append, H.out] at o3
  go_ret
  exact ⟨.slice A3 n3 d3, rfl, o3, b3⟩

end Go.Proofs.YtengaccnncnipaaGreat

/- Taking the most urgent interrupt of a queue, in the program and in the reference. Condition (the inner functions): valid slots, at most 1048576 waiting interrupts. -/
namespace Go.Proofs.YtengaccnncnipaaGreat
open Go.RowKit Go.ChangeShapes Go.WideShapes Go.Deep

set_option maxHeartbeats 8000000 in
theorem specTakeQ_in (vs vw : Value) (l0 : List Sl) (lw : List Wt) (m : Int) (w : World) {lo hi lo2 hi2 : Nat} (h : Rd Sl.cells 3 w lo hi vs l0) (h2 : Rd Wt.cells 2 w lo2 hi2 vw lw) (hh : hi ≤ w.heap.size) (hh2 : hi2 ≤ w.heap.size) (hg : Sl.good l0 = true) (hl2 : lw.length ≤ 1048576) :
    Calls Tryz.prog 113 #[.agg #[vs, vw], .int .i64 m] w fun e w' => ∃ v1 v2, e = .returned (.tuple #[.agg #[v1, v2], .int .i64 (Sl.tkW l0 m)]) ∧ Ow Sl.cells 3 127 w' w.heap.size w'.heap.size v1 (Sl.tkL l0 m) ∧ Ow Wt.cells 2 134 w' w.heap.size w'.heap.size v2 lw ∧ Below w.heap.size w w' := by
  have b0 : Below w.heap.size w ((w.alloc (.cells #[vs, vw] 33)).alloc (.cells #[.slice none 0 0, .slice none 0 0] 33)) := ((Below.refl w.heap.size w).alloc (Nat.le_refl _) _).alloc (by simp) _
  have z0 : ((w.alloc (.cells #[vs, vw] 33)).alloc (.cells #[.slice none 0 0, .slice none 0 0] 33)).heap.size = w.heap.size + 2 := by simp
  have q0 : ((w.alloc (.cells #[vs, vw] 33)).alloc (.cells #[.slice none 0 0, .slice none 0 0] 33)).cell? ⟨w.heap.size, 0, none⟩ = some vs := by simp
  have q1 : ((w.alloc (.cells #[vs, vw] 33)).alloc (.cells #[.slice none 0 0, .slice none 0 0] 33)).cell? ⟨w.heap.size, 1, none⟩ = some vw := by simp
  have r0 : ((w.alloc (.cells #[vs, vw] 33)).alloc (.cells #[.slice none 0 0, .slice none 0 0] 33)).cell? ⟨w.heap.size + 1, 0, none⟩ = some (.slice none 0 0) := by simp
  have r1 : ((w.alloc (.cells #[vs, vw] 33)).alloc (.cells #[.slice none 0 0, .slice none 0 0] 33)).cell? ⟨w.heap.size + 1, 1, none⟩ = some (.slice none 0 0) := by simp
  have rz : ∀ j, ((w.alloc (.cells #[vs, vw] 33)).alloc (.cells #[.slice none 0 0, .slice none 0 0] 33)).frozen? ⟨w.heap.size + 1, j, none⟩ = false := fun j => froz_new _ _ _ (by simp) j
  have hl : (Sl.tkL l0 m).length ≤ 1048576 := by
    unfold Sl.tkL; split
    · rw [Sl.tkS_len, Sl.good_len hg]; decide
    · rw [Sl.good_len hg]; decide
  have c1 := specTake_in vs l0 m _ (h.below b0 hh) (by omega) hg
  have hw := h2.below b0 hh2
  have hv := h.form
  have hv2 := h2.form
  clear h h2 hg
  obtain ⟨A0, n0, d0, rfl, _, _, _⟩ := hv
  obtain ⟨A, n, c, rfl, H, hc, hm⟩ := hv2
  rw [← H.out] at hl2
  generalize Sl.tkL l0 m = ls at *
  generalize Sl.tkW l0 m = irq at *
  go_enter Tryz.func113, Tryz.ntmps113
  go_wp2_with fail
  generalize (w.alloc _).alloc _ = wA at *
  refine c1.mono ?_; rintro e w0 ⟨vz, rfl, hs, b1⟩
  obtain ⟨hc1, hf1⟩ := bcell b1
  replace q0 := (hc1 _ 0 (by omega)).trans q0
  replace q1 := (hc1 _ 1 (by omega)).trans q1
  replace r0 := (hc1 _ 0 (by omega)).trans r0
  replace r1 := (hc1 _ 1 (by omega)).trans r1
  replace rz := fun j => (hf1 _ j (by omega)).trans (rz j)
  replace hw := hw.below b1 (by omega)
  have zz := b1.size
  replace b0 := b0.trans (b1.mono (by omega))
  clear hc1 hf1 c1 b1
  obtain ⟨A1, n1, d1, rfl, H0, hd1, hm1⟩ := hs.form
  rw [← H0.out] at hl
  have hh1 : hi2 ≤ w0.heap.size := by omega
  have zr : w.heap.size + 1 < w0.heap.size := by omega
  have zq : w.heap.size < w0.heap.size := by omega
  obtain ⟨is, his, hzs0, hzs1, hzs2⟩ := info_parts Sl.info
  obtain ⟨iq, hiq, hzq0, hzq1, hzq2⟩ := info_parts Wt.info
  have SH : ∀ W, Below w0.heap.size w0 W → (fun (W : World) => W.cell? ⟨w.heap.size, 0, none⟩ = some (.slice A0 n0 d0) ∧ W.cell? ⟨w.heap.size, 1, none⟩ = some (.slice A n c)) W := fun W hb => ⟨(hb.cell (p := ⟨w.heap.size, 0, none⟩) zq).trans q0, (hb.cell (p := ⟨w.heap.size, 1, none⟩) zq).trans q1⟩
  go_wp2_with fail
  refine wp_region_held_drew (S := fun W => W.cell? ⟨w.heap.size, 0, none⟩ = some (.slice A0 n0 d0) ∧ W.cell? ⟨w.heap.size, 1, none⟩ = some (.slice A n c)) (by kernel_rfl) (SH _ (Below.refl w0.heap.size w0).drew) (fun hHeld => ?_)
  refine wpAnyH_take (i := 1) (v := .slice A1 n1 d1) rfl (by kernel_rfl) (by kernel_rfl) (by kernel_rfl) (fun _ _ _ h => h) (Or.inl ⟨by rfl, by intro w _; go_simp⟩) hHeld ?_
  refine wpAnyH_take (i := 4) (v := .pointer (some ⟨w.heap.size, 1, none⟩)) rfl (by kernel_rfl) (by kernel_rfl) (by kernel_rfl) (fun _ _ _ h => h) (Or.inl ⟨by rfl, by intro w _; go_simp⟩) hHeld ?_
  refine wpAnyH_take (i := 5) (v := .slice A n c) rfl (by kernel_rfl) (by kernel_rfl) (by kernel_rfl) (fun _ _ _ h => h) (Or.inl ⟨by rfl, by intro w hSw; obtain ⟨y0, y1⟩ := hSw; go_simp⟩) hHeld ?_
  refine wpAnyH_take (i := 8) (v := .int .i64 irq) rfl (by kernel_rfl) (by kernel_rfl) (by kernel_rfl) (fun _ _ _ h => h) (Or.inl ⟨by rfl, by intro w _; go_simp⟩) hHeld ?_
  clear hHeld
  refine held_gen (F := fun W' => Below w0.heap.size w0 W') (Below.refl w0.heap.size w0).drew ?_
  rintro W0 b0'
  refine wpAnyH_ready (rs := [0, 3]) (by kernel_rfl) (by decide) ?_
  refine AllReadyH.cons rfl (fun K0 hK0 => ?_) (AllReadyH.cons rfl (fun K0 hK0 => ?_) AllReadyH.nil)
  · go_simp
    refine hK0.out _ _ (SH _ (b0'.alloc b0'.size (.cells #[] 127))) (fun _ => ?_)
    refine held_gen (F := fun W' => W'.ownsRow w0.heap.size 127 3 (.slice (some ⟨W0.heap.size, 0, none⟩) 0 0) 0 [] ∧ Below w0.heap.size w0 W') ⟨own_empty W0 (base := w0.heap.size) 127 3 b0'.size, b0'.alloc b0'.size (.cells #[] 127)⟩ ?_
    rintro W1 ⟨hS1, b1⟩
    refine wpAnyH_ready (rs := [2, 3]) (by kernel_rfl) (by decide) ?_
    refine AllReadyH.cons rfl (fun K1 hK1 => ?_) (AllReadyH.cons rfl (fun K1 hK1 => ?_) AllReadyH.nil)
    · refine step_app_rd rfl _ _ 30 rfl w0.heap.size 127 is _ 3 _ Tryz.underlying30 his hzs0 hzs1 hzs2 rfl (by omega) Sl.cells_len Sl.one (.slice (some ⟨W0.heap.size, 0, none⟩) 0 0) 0 [] rfl hS1 (A := A1) (m := n1) (c := d1) (l := ls) rfl (hs.below b1 (Nat.le_refl _)) (by unfold maxLen; omega) (by omega) b1.size ?_
      intro v2 W2 hS2 g2
      have b2 : Below w0.heap.size w0 W2 := b1.grown g2 b1.size (own_ge hS1)
      refine hK1.out _ _ (SH _ b2) (fun _ => ?_)
      refine wpAnyH_ready (rs := [3]) (by kernel_rfl) (by decide) ?_
      refine AllReadyH.cons rfl (fun K2 hK2 => ?_) AllReadyH.nil
      · go_simp
        refine hK2.out _ _ (SH _ (b2.alloc b2.size (.cells #[] 134))) (fun _ => ?_)
        refine held_gen (F := fun W' => W'.ownsRow w0.heap.size 134 2 (.slice (some ⟨W2.heap.size, 0, none⟩) 0 0) 0 [] ∧ Below w0.heap.size w0 W' ∧ W'.ownsRow w0.heap.size 127 3 v2 (0 + n1) ([] ++ ls.flatMap Sl.cells)) ⟨own_empty W2 (base := w0.heap.size) 134 2 b2.size, b2.alloc b2.size (.cells #[] 134), hS2.alloc (.cells #[] 134)⟩ ?_
        rintro W3 ⟨hQ3, b3, hS3⟩
        refine wpAnyH_ready (rs := [6]) (by kernel_rfl) (by decide) ?_
        refine AllReadyH.cons rfl (fun K3 hK3 => ?_) AllReadyH.nil
        · refine step_app_rd rfl _ _ 31 rfl w0.heap.size 134 iq _ 2 _ Tryz.underlying31 hiq hzq0 hzq1 hzq2 rfl (by omega) Wt.cells_len Wt.one (.slice (some ⟨W2.heap.size, 0, none⟩) 0 0) 0 [] rfl hQ3 (A := A) (m := n) (c := c) (l := lw) rfl (hw.below b3 hh1) (by unfold maxLen; omega) (by omega) b3.size ?_
          intro v4 W4 hQ4 g4
          have b4 : Below w0.heap.size w0 W4 := b3.grown g4 b3.size (own_ge hQ3)
          refine hK3.out _ _ (SH _ b4) (fun _ => ?_)
          have hS4 := own_kept_type hS3 hQ3 g4 (by decide)
          have oS := Ow.of_own Sl.cells_len hS4 (l := ls) (by simp) (by have := H0.out; omega)
          have oQ := Ow.of_own Wt.cells_len hQ4 (l := lw) (by simp) (by have := H.out; omega)
          obtain ⟨A5, n5, d5, rfl, _, _, _⟩ := oS.rd.form
          obtain ⟨A6, n6, d6, rfl, _, _, _⟩ := oQ.rd.form
          clear hS4 hQ4
          obtain ⟨hc_, hf_⟩ := bcell b4
          have p0 := (hc_ _ 0 zr).trans r0
          have p1 := (hc_ _ 1 zr).trans r1
          have pz := fun j => (hf_ _ j zr).trans (rz j)
          have x0 := (hc_ _ 0 zq).trans q0
          have x1 := (hc_ _ 1 zq).trans q1
          clear hc_ hf_
          refine wpAnyH_ready (rs := [7]) (by kernel_rfl) (by decide) ?_
          refine AllReadyH.cons rfl (fun K8 hK8 => ?_) AllReadyH.nil
          go_simp
          refine hK8.out _ _ ⟨x0, x1⟩ (fun _ => ?_)
          refine wpAnyH_ready (rs := [9]) (by kernel_rfl) (by decide) ?_
          refine AllReadyH.cons rfl (fun K9 hK9 => ?_) AllReadyH.nil
          go_simp
          refine hK9.out _ _ ⟨by simp [go_sem, x0], by simp [go_sem, x1]⟩ (fun _ => ?_)
          refine wpAnyH_ready (rs := [10]) (by kernel_rfl) (by decide) ?_
          refine AllReadyH.cons rfl (fun K10 hK10 => ?_) AllReadyH.nil
          go_simp
          refine hK10.out _ _ ⟨by simp [go_sem, x0], by simp [go_sem, x1]⟩ (fun _ => ?_)
          refine ⟨by kernel_rfl, ?_⟩
          go_wp2_with fail
          generalize hwz : World.setCell (World.setCell _ _ _) _ _ = wz
          have u0 : wz.cell? ⟨w.heap.size + 1, 0, none⟩ = some (.slice A5 n5 d5) := by rw [← hwz]; simp [go_sem, p0]
          have u1 : wz.cell? ⟨w.heap.size + 1, 1, none⟩ = some (.slice A6 n6 d6) := by rw [← hwz]; simp [go_sem, p1]
          obtain rfl : wz = setL W4 (w.heap.size + 1) 0 [.slice A5 n5 d5, .slice A6 n6 d6] := hwz.symm
          have hbz := setL_below (b0.trans (b4.mono (by omega))) [.slice A5 n5 d5, .slice A6 n6 d6] (w.heap.size + 1) 0 (by omega)
          have kk : ∀ q, w0.heap.size ≤ q → (setL W4 (w.heap.size + 1) 0 [.slice A5 n5 d5, .slice A6 n6 d6]).heap[q]? = W4.heap[q]? := fun q hq => setL_other _ _ _ _ q (by omega)
          have o5 := oS.keep (w' := setL W4 (w.heap.size + 1) 0 [.slice A5 n5 d5, .slice A6 n6 d6]) (fun q hq _ _ => kk q hq)
          have o6 := oQ.keep (w' := setL W4 (w.heap.size + 1) 0 [.slice A5 n5 d5, .slice A6 n6 d6]) (fun q hq _ _ => kk q hq)
          have sz : (setL W4 (w.heap.size + 1) 0 [.slice A5 n5 d5, .slice A6 n6 d6]).heap.size = W4.heap.size := setL_size _ _ _ _
          clear hwz kk
          generalize setL W4 (w.heap.size + 1) 0 [.slice A5 n5 d5, .slice A6 n6 d6] = wz at *
          refine bodyPost_ret (by simp only [results, Tryz.results113]; simp [go_sem, u0, u1]; rfl) rfl ?_
          exact ⟨_, _, rfl, o5.mono (by omega) (by omega), o6.mono (by omega) (by omega), hbz⟩
    · go_simp
      refine hK1.out _ _ (SH _ (b1.alloc b1.size (.cells #[] 134))) (fun _ => ?_)
      refine held_gen (F := fun W' => W'.ownsRow w0.heap.size 134 2 (.slice (some ⟨W1.heap.size, 0, none⟩) 0 0) 0 [] ∧ Below w0.heap.size w0 W' ∧ W'.ownsRow w0.heap.size 127 3 (.slice (some ⟨W0.heap.size, 0, none⟩) 0 0) (0) []) ⟨own_empty W1 (base := w0.heap.size) 134 2 b1.size, b1.alloc b1.size (.cells #[] 134), hS1.alloc (.cells #[] 134)⟩ ?_
      rintro W2 ⟨hQ2, b2, hS2⟩
      refine wpAnyH_ready (rs := [2]) (by kernel_rfl) (by decide) ?_
      refine AllReadyH.cons rfl (fun K2 hK2 => ?_) AllReadyH.nil
      · refine step_app_rd rfl _ _ 30 rfl w0.heap.size 127 is _ 3 _ Tryz.underlying30 his hzs0 hzs1 hzs2 rfl (by omega) Sl.cells_len Sl.one (.slice (some ⟨W0.heap.size, 0, none⟩) 0 0) 0 [] rfl hS2 (A := A1) (m := n1) (c := d1) (l := ls) rfl (hs.below b2 (Nat.le_refl _)) (by unfold maxLen; omega) (by omega) b2.size ?_
        intro v3 W3 hS3 g3
        have b3 : Below w0.heap.size w0 W3 := b2.grown g3 b2.size (own_ge hS2)
        refine hK2.out _ _ (SH _ b3) (fun _ => ?_)
        have hQ3 := own_kept_type hQ2 hS2 g3 (by decide)
        refine wpAnyH_ready (rs := [6]) (by kernel_rfl) (by decide) ?_
        refine AllReadyH.cons rfl (fun K3 hK3 => ?_) AllReadyH.nil
        · refine step_app_rd rfl _ _ 31 rfl w0.heap.size 134 iq _ 2 _ Tryz.underlying31 hiq hzq0 hzq1 hzq2 rfl (by omega) Wt.cells_len Wt.one (.slice (some ⟨W1.heap.size, 0, none⟩) 0 0) 0 [] rfl hQ3 (A := A) (m := n) (c := c) (l := lw) rfl (hw.below b3 hh1) (by unfold maxLen; omega) (by omega) b3.size ?_
          intro v4 W4 hQ4 g4
          have b4 : Below w0.heap.size w0 W4 := b3.grown g4 b3.size (own_ge hQ3)
          refine hK3.out _ _ (SH _ b4) (fun _ => ?_)
          have hS4 := own_kept_type hS3 hQ3 g4 (by decide)
          have oS := Ow.of_own Sl.cells_len hS4 (l := ls) (by simp) (by have := H0.out; omega)
          have oQ := Ow.of_own Wt.cells_len hQ4 (l := lw) (by simp) (by have := H.out; omega)
          obtain ⟨A5, n5, d5, rfl, _, _, _⟩ := oS.rd.form
          obtain ⟨A6, n6, d6, rfl, _, _, _⟩ := oQ.rd.form
          clear hS4 hQ4
          obtain ⟨hc_, hf_⟩ := bcell b4
          have p0 := (hc_ _ 0 zr).trans r0
          have p1 := (hc_ _ 1 zr).trans r1
          have pz := fun j => (hf_ _ j zr).trans (rz j)
          have x0 := (hc_ _ 0 zq).trans q0
          have x1 := (hc_ _ 1 zq).trans q1
          clear hc_ hf_
          refine wpAnyH_ready (rs := [7]) (by kernel_rfl) (by decide) ?_
          refine AllReadyH.cons rfl (fun K8 hK8 => ?_) AllReadyH.nil
          go_simp
          refine hK8.out _ _ ⟨x0, x1⟩ (fun _ => ?_)
          refine wpAnyH_ready (rs := [9]) (by kernel_rfl) (by decide) ?_
          refine AllReadyH.cons rfl (fun K9 hK9 => ?_) AllReadyH.nil
          go_simp
          refine hK9.out _ _ ⟨by simp [go_sem, x0], by simp [go_sem, x1]⟩ (fun _ => ?_)
          refine wpAnyH_ready (rs := [10]) (by kernel_rfl) (by decide) ?_
          refine AllReadyH.cons rfl (fun K10 hK10 => ?_) AllReadyH.nil
          go_simp
          refine hK10.out _ _ ⟨by simp [go_sem, x0], by simp [go_sem, x1]⟩ (fun _ => ?_)
          refine ⟨by kernel_rfl, ?_⟩
          go_wp2_with fail
          generalize hwz : World.setCell (World.setCell _ _ _) _ _ = wz
          have u0 : wz.cell? ⟨w.heap.size + 1, 0, none⟩ = some (.slice A5 n5 d5) := by rw [← hwz]; simp [go_sem, p0]
          have u1 : wz.cell? ⟨w.heap.size + 1, 1, none⟩ = some (.slice A6 n6 d6) := by rw [← hwz]; simp [go_sem, p1]
          obtain rfl : wz = setL W4 (w.heap.size + 1) 0 [.slice A5 n5 d5, .slice A6 n6 d6] := hwz.symm
          have hbz := setL_below (b0.trans (b4.mono (by omega))) [.slice A5 n5 d5, .slice A6 n6 d6] (w.heap.size + 1) 0 (by omega)
          have kk : ∀ q, w0.heap.size ≤ q → (setL W4 (w.heap.size + 1) 0 [.slice A5 n5 d5, .slice A6 n6 d6]).heap[q]? = W4.heap[q]? := fun q hq => setL_other _ _ _ _ q (by omega)
          have o5 := oS.keep (w' := setL W4 (w.heap.size + 1) 0 [.slice A5 n5 d5, .slice A6 n6 d6]) (fun q hq _ _ => kk q hq)
          have o6 := oQ.keep (w' := setL W4 (w.heap.size + 1) 0 [.slice A5 n5 d5, .slice A6 n6 d6]) (fun q hq _ _ => kk q hq)
          have sz : (setL W4 (w.heap.size + 1) 0 [.slice A5 n5 d5, .slice A6 n6 d6]).heap.size = W4.heap.size := setL_size _ _ _ _
          clear hwz kk
          generalize setL W4 (w.heap.size + 1) 0 [.slice A5 n5 d5, .slice A6 n6 d6] = wz at *
          refine bodyPost_ret (by simp only [results, Tryz.results113]; simp [go_sem, u0, u1]; rfl) rfl ?_
          exact ⟨_, _, rfl, o5.mono (by omega) (by omega), o6.mono (by omega) (by omega), hbz⟩
  · go_simp
    refine hK0.out _ _ (SH _ (b0'.alloc b0'.size (.cells #[] 134))) (fun _ => ?_)
    refine held_gen (F := fun W' => W'.ownsRow w0.heap.size 134 2 (.slice (some ⟨W0.heap.size, 0, none⟩) 0 0) 0 [] ∧ Below w0.heap.size w0 W') ⟨own_empty W0 (base := w0.heap.size) 134 2 b0'.size, b0'.alloc b0'.size (.cells #[] 134)⟩ ?_
    rintro W1 ⟨hQ1, b1⟩
    refine wpAnyH_ready (rs := [0]) (by kernel_rfl) (by decide) ?_
    refine AllReadyH.cons rfl (fun K1 hK1 => ?_) AllReadyH.nil
    · go_simp
      refine hK1.out _ _ (SH _ (b1.alloc b1.size (.cells #[] 127))) (fun _ => ?_)
      refine held_gen (F := fun W' => W'.ownsRow w0.heap.size 127 3 (.slice (some ⟨W1.heap.size, 0, none⟩) 0 0) 0 [] ∧ Below w0.heap.size w0 W' ∧ W'.ownsRow w0.heap.size 134 2 (.slice (some ⟨W0.heap.size, 0, none⟩) 0 0) (0) []) ⟨own_empty W1 (base := w0.heap.size) 127 3 b1.size, b1.alloc b1.size (.cells #[] 127), hQ1.alloc (.cells #[] 127)⟩ ?_
      rintro W2 ⟨hS2, b2, hQ2⟩
      refine wpAnyH_ready (rs := [2]) (by kernel_rfl) (by decide) ?_
      refine AllReadyH.cons rfl (fun K2 hK2 => ?_) AllReadyH.nil
      · refine step_app_rd rfl _ _ 30 rfl w0.heap.size 127 is _ 3 _ Tryz.underlying30 his hzs0 hzs1 hzs2 rfl (by omega) Sl.cells_len Sl.one (.slice (some ⟨W1.heap.size, 0, none⟩) 0 0) 0 [] rfl hS2 (A := A1) (m := n1) (c := d1) (l := ls) rfl (hs.below b2 (Nat.le_refl _)) (by unfold maxLen; omega) (by omega) b2.size ?_
        intro v3 W3 hS3 g3
        have b3 : Below w0.heap.size w0 W3 := b2.grown g3 b2.size (own_ge hS2)
        refine hK2.out _ _ (SH _ b3) (fun _ => ?_)
        have hQ3 := own_kept_type hQ2 hS2 g3 (by decide)
        refine wpAnyH_ready (rs := [6]) (by kernel_rfl) (by decide) ?_
        refine AllReadyH.cons rfl (fun K3 hK3 => ?_) AllReadyH.nil
        · refine step_app_rd rfl _ _ 31 rfl w0.heap.size 134 iq _ 2 _ Tryz.underlying31 hiq hzq0 hzq1 hzq2 rfl (by omega) Wt.cells_len Wt.one (.slice (some ⟨W0.heap.size, 0, none⟩) 0 0) 0 [] rfl hQ3 (A := A) (m := n) (c := c) (l := lw) rfl (hw.below b3 hh1) (by unfold maxLen; omega) (by omega) b3.size ?_
          intro v4 W4 hQ4 g4
          have b4 : Below w0.heap.size w0 W4 := b3.grown g4 b3.size (own_ge hQ3)
          refine hK3.out _ _ (SH _ b4) (fun _ => ?_)
          have hS4 := own_kept_type hS3 hQ3 g4 (by decide)
          have oS := Ow.of_own Sl.cells_len hS4 (l := ls) (by simp) (by have := H0.out; omega)
          have oQ := Ow.of_own Wt.cells_len hQ4 (l := lw) (by simp) (by have := H.out; omega)
          obtain ⟨A5, n5, d5, rfl, _, _, _⟩ := oS.rd.form
          obtain ⟨A6, n6, d6, rfl, _, _, _⟩ := oQ.rd.form
          clear hS4 hQ4
          obtain ⟨hc_, hf_⟩ := bcell b4
          have p0 := (hc_ _ 0 zr).trans r0
          have p1 := (hc_ _ 1 zr).trans r1
          have pz := fun j => (hf_ _ j zr).trans (rz j)
          have x0 := (hc_ _ 0 zq).trans q0
          have x1 := (hc_ _ 1 zq).trans q1
          clear hc_ hf_
          refine wpAnyH_ready (rs := [7]) (by kernel_rfl) (by decide) ?_
          refine AllReadyH.cons rfl (fun K8 hK8 => ?_) AllReadyH.nil
          go_simp
          refine hK8.out _ _ ⟨x0, x1⟩ (fun _ => ?_)
          refine wpAnyH_ready (rs := [9]) (by kernel_rfl) (by decide) ?_
          refine AllReadyH.cons rfl (fun K9 hK9 => ?_) AllReadyH.nil
          go_simp
          refine hK9.out _ _ ⟨by simp [go_sem, x0], by simp [go_sem, x1]⟩ (fun _ => ?_)
          refine wpAnyH_ready (rs := [10]) (by kernel_rfl) (by decide) ?_
          refine AllReadyH.cons rfl (fun K10 hK10 => ?_) AllReadyH.nil
          go_simp
          refine hK10.out _ _ ⟨by simp [go_sem, x0], by simp [go_sem, x1]⟩ (fun _ => ?_)
          refine ⟨by kernel_rfl, ?_⟩
          go_wp2_with fail
          generalize hwz : World.setCell (World.setCell _ _ _) _ _ = wz
          have u0 : wz.cell? ⟨w.heap.size + 1, 0, none⟩ = some (.slice A5 n5 d5) := by rw [← hwz]; simp [go_sem, p0]
          have u1 : wz.cell? ⟨w.heap.size + 1, 1, none⟩ = some (.slice A6 n6 d6) := by rw [← hwz]; simp [go_sem, p1]
          obtain rfl : wz = setL W4 (w.heap.size + 1) 0 [.slice A5 n5 d5, .slice A6 n6 d6] := hwz.symm
          have hbz := setL_below (b0.trans (b4.mono (by omega))) [.slice A5 n5 d5, .slice A6 n6 d6] (w.heap.size + 1) 0 (by omega)
          have kk : ∀ q, w0.heap.size ≤ q → (setL W4 (w.heap.size + 1) 0 [.slice A5 n5 d5, .slice A6 n6 d6]).heap[q]? = W4.heap[q]? := fun q hq => setL_other _ _ _ _ q (by omega)
          have o5 := oS.keep (w' := setL W4 (w.heap.size + 1) 0 [.slice A5 n5 d5, .slice A6 n6 d6]) (fun q hq _ _ => kk q hq)
          have o6 := oQ.keep (w' := setL W4 (w.heap.size + 1) 0 [.slice A5 n5 d5, .slice A6 n6 d6]) (fun q hq _ _ => kk q hq)
          have sz : (setL W4 (w.heap.size + 1) 0 [.slice A5 n5 d5, .slice A6 n6 d6]).heap.size = W4.heap.size := setL_size _ _ _ _
          clear hwz kk
          generalize setL W4 (w.heap.size + 1) 0 [.slice A5 n5 d5, .slice A6 n6 d6] = wz at *
          refine bodyPost_ret (by simp only [results, Tryz.results113]; simp [go_sem, u0, u1]; rfl) rfl ?_
          exact ⟨_, _, rfl, o5.mono (by omega) (by omega), o6.mono (by omega) (by omega), hbz⟩
def Qu.tkK (l : List Sl) (m : Int) (lw : List Wt) : List Wt := if Sl.tkOk l m then lw else []
set_option maxHeartbeats 4000000 in
theorem implTakeQ_in (vs vw : Value) (l0 : List Sl) (lw : List Wt) (m : Int) (w : World) {lo hi lo2 hi2 : Nat} (h : Rd Sl.cells 3 w lo hi vs l0) (h2 : Rd Wt.cells 2 w lo2 hi2 vw lw) (hh : hi ≤ w.heap.size) (hh2 : hi2 ≤ w.heap.size) (hg : Sl.good l0 = true) (hl2 : lw.length ≤ 1048576) :
    Calls Tryz.prog 115 #[.agg #[vs, vw], .int .i64 m] w fun e w' => ∃ v1 v2, e = .returned (.tuple #[.agg #[v1, v2], .int .i64 (Sl.tkV l0 m), .bool (Sl.tkOk l0 m)]) ∧ Ow Sl.cells 3 127 w' w.heap.size w'.heap.size v1 (Sl.tkR l0 m) ∧ Ow Wt.cells 2 134 w' w.heap.size w'.heap.size v2 (Qu.tkK l0 m lw) ∧ Below w.heap.size w w' := by
  have b0 : Below w.heap.size w ((w.alloc (.cells #[vs, vw] 33)).alloc (.cells #[.slice none 0 0, .slice none 0 0] 33)) := ((Below.refl w.heap.size w).alloc (Nat.le_refl _) _).alloc (by simp) _
  have z0 : ((w.alloc (.cells #[vs, vw] 33)).alloc (.cells #[.slice none 0 0, .slice none 0 0] 33)).heap.size = w.heap.size + 2 := by simp
  have q0 : ((w.alloc (.cells #[vs, vw] 33)).alloc (.cells #[.slice none 0 0, .slice none 0 0] 33)).cell? ⟨w.heap.size, 0, none⟩ = some vs := by simp
  have q1 : ((w.alloc (.cells #[vs, vw] 33)).alloc (.cells #[.slice none 0 0, .slice none 0 0] 33)).cell? ⟨w.heap.size, 1, none⟩ = some vw := by simp
  have r0 : ((w.alloc (.cells #[vs, vw] 33)).alloc (.cells #[.slice none 0 0, .slice none 0 0] 33)).cell? ⟨w.heap.size + 1, 0, none⟩ = some (.slice none 0 0) := by simp
  have r1 : ((w.alloc (.cells #[vs, vw] 33)).alloc (.cells #[.slice none 0 0, .slice none 0 0] 33)).cell? ⟨w.heap.size + 1, 1, none⟩ = some (.slice none 0 0) := by simp
  have rz : ∀ j, ((w.alloc (.cells #[vs, vw] 33)).alloc (.cells #[.slice none 0 0, .slice none 0 0] 33)).frozen? ⟨w.heap.size + 1, j, none⟩ = false := fun j => froz_new _ _ _ (by simp) j
  have hl : l0.length ≤ 1048576 := by rw [Sl.good_len hg]; decide
  have hs := h.below b0 hh
  have hw := h2.below b0 hh2
  have c1 := implTake_in vs l0 m _ hs (by omega) hg
  have hv := h.form
  have hv2 := h2.form
  clear h h2 hg
  obtain ⟨A0, n0, d0, rfl, _, _, _⟩ := hv
  obtain ⟨A, n, c, rfl, _, _, _⟩ := hv2
  have HK := Lib.hid (show Qu.tkK l0 m lw = if Sl.tkOk l0 m = true then lw else [] from rfl)
  have HR := Lib.hid (show Sl.tkOk l0 m = false → Sl.tkR l0 m = [] ∧ Sl.tkV l0 m = 0 from fun h => ⟨(Sl.tk_no h).2.1, (Sl.tk_no h).2.2.1⟩)
  generalize Qu.tkK l0 m lw = lk at *
  generalize Sl.tkR l0 m = lr at *
  generalize Sl.tkV l0 m = irq at *
  generalize Sl.tkOk l0 m = ok at *
  go_enter Tryz.func115, Tryz.ntmps115
  go_wp2_with fail
  generalize (w.alloc _).alloc _ = wA at *
  refine c1.mono ?_; rintro e w0 ⟨v', rfl, o, b1⟩
  obtain ⟨hc1, hf1⟩ := bcell b1
  replace q0 := (hc1 _ 0 (by omega)).trans q0
  replace q1 := (hc1 _ 1 (by omega)).trans q1
  replace r0 := (hc1 _ 0 (by omega)).trans r0
  replace r1 := (hc1 _ 1 (by omega)).trans r1
  replace rz := fun j => (hf1 _ j (by omega)).trans (rz j)
  replace hs := hs.below b1 (by omega)
  replace hw := hw.below b1 (by omega)
  have zz := b1.size
  replace b0 := b0.trans (b1.mono (by omega))
  clear hc1 hf1 c1 b1
  obtain ⟨A1, n1, d1, rfl, _, _, _⟩ := o.rd.form
  cases ok
  · obtain rfl : lr = [] := (HR.out rfl).1
    obtain rfl : irq = 0 := (HR.out rfl).2
    obtain rfl : lk = [] := by rw [HK.out]; rfl
    clear HK HR
    go_wp2_with fail
    generalize hwz : World.setCell (World.setCell _ _ _) _ _ = wz
    have u0 : wz.cell? ⟨w.heap.size + 1, 0, none⟩ = some (.slice none 0 0) := by rw [← hwz]; simp [go_sem, r0]
    have u1 : wz.cell? ⟨w.heap.size + 1, 1, none⟩ = some (.slice none 0 0) := by rw [← hwz]; simp [go_sem, r1]
    obtain rfl : wz = setL w0 (w.heap.size + 1) 0 [.slice none 0 0, .slice none 0 0] := hwz.symm
    have hbz := setL_below b0 [.slice none 0 0, .slice none 0 0] (w.heap.size + 1) 0 (by omega)
    clear hwz
    generalize setL w0 (w.heap.size + 1) 0 [.slice none 0 0, .slice none 0 0] = wz at *
    refine bodyPost_ret (by simp only [results, Tryz.results115]; simp [go_sem, u0, u1]; rfl) rfl ?_
    exact ⟨_, _, rfl, Ow.nil_, Ow.nil_, hbz⟩
  · obtain rfl : lk = lw := by rw [HK.out]; rfl
    clear HK HR
    have c2 := implOwn_any _ _ l0 lk w0 hs hw (by omega) (by omega) hl hl2
    go_wp2_with fail
    refine c2.mono ?_; rintro e w1 ⟨v5, v6, rfl, o5, o6, b2⟩
    obtain ⟨A5, n5, d5, rfl, _, _, _⟩ := o5.rd.form
    clear o5
    obtain ⟨hc1, hf1⟩ := bcell b2
    replace r0 := (hc1 _ 0 (by omega)).trans r0
    replace r1 := (hc1 _ 1 (by omega)).trans r1
    replace rz := fun j => (hf1 _ j (by omega)).trans (rz j)
    replace o := o.below b2 (by omega)
    have zz2 := b2.size
    replace b0 := b0.trans (b2.mono (by omega))
    clear hc1 hf1 c2 b2 hs hw
    obtain ⟨A6, n6, d6, rfl, _, _, _⟩ := o6.rd.form
    have zlt : w.heap.size + 1 < w1.heap.size := by omega
    go_wp2_with fail
    generalize hwz : World.setCell (World.setCell _ _ _) _ _ = wz
    have u0 : wz.cell? ⟨w.heap.size + 1, 0, none⟩ = some (.slice A1 n1 d1) := by rw [← hwz]; simp [go_sem, r0]
    have u1 : wz.cell? ⟨w.heap.size + 1, 1, none⟩ = some (.slice A6 n6 d6) := by rw [← hwz]; simp [go_sem, r1]
    obtain rfl : wz = setL w1 (w.heap.size + 1) 0 [.slice A1 n1 d1, .slice A6 n6 d6] := hwz.symm
    have hbz := setL_below b0 [.slice A1 n1 d1, .slice A6 n6 d6] (w.heap.size + 1) 0 (by omega)
    have kk : ∀ q, wA.heap.size ≤ q → (setL w1 (w.heap.size + 1) 0 [.slice A1 n1 d1, .slice A6 n6 d6]).heap[q]? = w1.heap[q]? := fun q hq => setL_other _ _ _ _ q (by omega)
    have o7 := o.keep (w' := setL w1 (w.heap.size + 1) 0 [.slice A1 n1 d1, .slice A6 n6 d6]) (fun q hq _ _ => kk q hq)
    have o8 := o6.keep (w' := setL w1 (w.heap.size + 1) 0 [.slice A1 n1 d1, .slice A6 n6 d6]) (fun q hq _ _ => kk q (by omega))
    have sz : (setL w1 (w.heap.size + 1) 0 [.slice A1 n1 d1, .slice A6 n6 d6]).heap.size = w1.heap.size := setL_size _ _ _ _
    clear hwz kk
    generalize setL w1 (w.heap.size + 1) 0 [.slice A1 n1 d1, .slice A6 n6 d6] = wz at *
    have bx := (Below.refl wz.heap.size wz).alloc (Nat.le_refl _) (.cells #[.slice A1 n1 d1, .slice A6 n6 d6] 33)
    have v0 := (bx.cell (p := ⟨w.heap.size + 1, 0, none⟩) (by show w.heap.size + 1 < _; omega)).trans u0
    have v1 := (bx.cell (p := ⟨w.heap.size + 1, 1, none⟩) (by show w.heap.size + 1 < _; omega)).trans u1
    have sx := bx.size
    replace o7 := o7.below bx (by omega)
    replace o8 := o8.below bx (by omega)
    replace hbz := hbz.trans (bx.mono (by omega))
    clear bx
    generalize World.alloc wz _ = wy at *
    refine bodyPost_ret (by simp only [results, Tryz.results115]; simp [go_sem, v0, v1]; rfl) rfl ?_
    exact ⟨_, _, rfl, o7.mono (by omega) (by omega), o8.mono (by omega) (by omega), hbz⟩

end Go.Proofs.YtengaccnncnipaaGreat
