/- Offering an interrupt: the inner functions and the public ones, in the program and in the reference. Conditions: the inner ones want valid parts and a valid interrupt. -/
import Derived.Test.YtengaccnncnipaaGreatQuPub
import Derived.Test.YtengaccnncnipaaGreatQuHas
namespace Go.Proofs.YtengaccnncnipaaGreat
open Go.RowKit Go.ChangeShapes Go.WideShapes Go.Deep

set_option maxHeartbeats 8000000 in
theorem specOffer_in (vs vw : Value) (ls : List Sl) (lw : List Wt) (i p : Int) (w : World) {lo hi lo2 hi2 : Nat} (h : Rd Sl.cells 3 w lo hi vs ls) (h2 : Rd Wt.cells 2 w lo2 hi2 vw lw) (hh : hi ≤ w.heap.size) (hh2 : hi2 ≤ w.heap.size) (hp : Qu.parts ls lw = true) (hir : inB i 0 7 = true) (hpr : inB p 0 15 = true) :
    Calls Tryz.prog 118 #[.agg #[vs, vw], .int .i64 i, .int .i64 p] w fun e w' => ∃ v1 v2, e = .returned (.agg #[v1, v2]) ∧ Ow Sl.cells 3 127 w' w.heap.size w'.heap.size v1 (Qu.ofP ls lw i p).1 ∧ Ow Wt.cells 2 134 w' w.heap.size w'.heap.size v2 (Qu.ofP ls lw i p).2 ∧ Below w.heap.size w w' := by
  have b0 : Below w.heap.size w ((w.alloc (.cells #[vs, vw] 33)).alloc (.cells #[.slice none 0 0, .slice none 0 0] 33)) := ((Below.refl w.heap.size w).alloc (Nat.le_refl _) _).alloc (by simp) _
  have z0 : ((w.alloc (.cells #[vs, vw] 33)).alloc (.cells #[.slice none 0 0, .slice none 0 0] 33)).heap.size = w.heap.size + 2 := by simp
  have bq := Box.new w #[vs, vw] 33 rfl
  have bR := Box.new (g := w.heap.size + 1) (w.alloc (.cells #[vs, vw] 33)) #[.slice none 0 0, .slice none 0 0] 33 (by simp)
  replace bq := bq.below ((Below.refl _ (w.alloc (.cells #[vs, vw] 33))).alloc (Nat.le_refl _) (.cells #[.slice none 0 0, .slice none 0 0] 33)) bq.lt
  have hs := h.below b0 hh
  have hw := h2.below b0 hh2
  have hv_ := h.form
  have hv2_ := h2.form
  clear h h2
  generalize hwA : ((w.alloc (.cells #[vs, vw] 33)).alloc (.cells #[.slice none 0 0, .slice none 0 0] 33)) = wA at *
  obtain ⟨A0, n0, d0, rfl, _, _, _⟩ := hv_
  obtain ⟨A1, n1, d1, rfl, _, _, _⟩ := hv2_
  have hl1 := Sl.good_len (Qu.parts_get hp).1
  have hl2 := Qu.parts_len hp
  have hl : ls.length ≤ 1048576 := by omega
  have HPP := Lib.hid (Qu.of_parts hp hir hpr)
  have c1 := specFind_b _ ls i _ hs (by omega)
  by_cases hx : 0 ≤ Sl.ix ls i
  · have HF := Lib.hid (Qu.of_hit (lw := lw) (p := p) hx)
    rw [HF.out] at HPP
    have hd : decide ((0 : Int) ≤ Sl.ix ls i) = true := decide_eq_true hx
    generalize Sl.ix ls i = z at c1 hd
    clear hx hp hir hpr hl1 hl2
    go_enter Tryz.func118, Tryz.ntmps118
    have bq_0 := bq.cell (j := 0) rfl
    have bq_1 := bq.cell (j := 1) rfl
    have bq_z := bq.frozen
    have bq_l := bq.lt
    have bR_0 := bR.cell (j := 0) rfl
    have bR_1 := bR.cell (j := 1) rfl
    have bR_z := bR.frozen
    have bR_l := bR.lt
    go_wp2_with fail
    clear hwA
    clear bq_0 bq_1 bq_z bq_l bR_0 bR_1 bR_z bR_l
    refine (c1).mono ?_; rintro q_ w1 ⟨rfl, b_1⟩
    replace bq := bq.below b_1 bq.lt
    replace bR := bR.below b_1 bR.lt
    replace hs := hs.below b_1 (by omega)
    replace hw := hw.below b_1 (by omega)
    have z_2 := b_1.size
    replace b0 := b0.trans (b_1.mono (by omega))
    clear b_1
    have bq_0 := bq.cell (j := 0) rfl
    have bq_1 := bq.cell (j := 1) rfl
    have bq_z := bq.frozen
    have bq_l := bq.lt
    have bR_0 := bR.cell (j := 0) rfl
    have bR_1 := bR.cell (j := 1) rfl
    have bR_z := bR.frozen
    have bR_l := bR.lt
    go_wp2_with fail
    clear bq_0 bq_1 bq_z bq_l bR_0 bR_1 bR_z bR_l
    refine (specPut_in _ ls i p w1 hs (by omega) hl).mono ?_; rintro q_ w3 ⟨v3, rfl, o3, b_3⟩
    replace bq := bq.below b_3 bq.lt
    replace bR := bR.below b_3 bR.lt
    replace hs := hs.below b_3 (by omega)
    replace hw := hw.below b_3 (by omega)
    have z_4 := b_3.size
    replace b0 := b0.trans (b_3.mono (by omega))
    clear b_3
    obtain ⟨A3, n3, d3, rfl, _, _, _⟩ := o3.rd.form
    have bq_0 := bq.cell (j := 0) rfl
    have bq_1 := bq.cell (j := 1) rfl
    have bq_z := bq.frozen
    have bq_l := bq.lt
    have bR_0 := bR.cell (j := 0) rfl
    have bR_1 := bR.cell (j := 1) rfl
    have bR_z := bR.frozen
    have bR_l := bR.lt
    go_wp2_with fail
    clear bq_0 bq_1 bq_z bq_l bR_0 bR_1 bR_z bR_l
    refine (specSettle_any _ _ (Sl.putR ls i p) lw w3 o3.rd hw (by omega) (by omega) HPP.out).mono ?_; rintro q_ w5 ⟨v5, v6, rfl, o5, o6, b_5⟩
    replace bq := bq.below b_5 bq.lt
    replace bR := bR.below b_5 bR.lt
    replace hs := hs.below b_5 (by omega)
    replace hw := hw.below b_5 (by omega)
    replace o3 := o3.below b_5 (by omega)
    have z_6 := b_5.size
    replace b0 := b0.trans (b_5.mono (by omega))
    clear b_5
    obtain ⟨A5, n5, d5, rfl, _, _, _⟩ := o5.rd.form
    obtain ⟨A6, n6, d6, rfl, _, _, _⟩ := o6.rd.form
    have bq_0 := bq.cell (j := 0) rfl
    have bq_1 := bq.cell (j := 1) rfl
    have bq_z := bq.frozen
    have bq_l := bq.lt
    have bR_0 := bR.cell (j := 0) rfl
    have bR_1 := bR.cell (j := 1) rfl
    have bR_z := bR.frozen
    have bR_l := bR.lt
    go_wp2_with fail
    clear bq_0 bq_1 bq_z bq_l bR_0 bR_1 bR_z bR_l
    generalize hwz : World.setCell (World.setCell _ _ _) _ _ = wz_
    obtain rfl : wz_ = setL w5 (w.heap.size + 1) 0 [.slice A5 n5 d5, .slice A6 n6 d6] := hwz.symm
    clear hwz
    replace bq := bq.other (b := w.heap.size + 1) (by omega) 0 [.slice A5 n5 d5, .slice A6 n6 d6]
    replace hs := hs.away (g := w.heap.size + 1) (by omega) 0 [.slice A5 n5 d5, .slice A6 n6 d6]
    replace hw := hw.away (g := w.heap.size + 1) (by omega) 0 [.slice A5 n5 d5, .slice A6 n6 d6]
    replace o3 := o3.box (g := w.heap.size + 1) bR (by decide) 0 [.slice A5 n5 d5, .slice A6 n6 d6]
    replace o5 := o5.box (g := w.heap.size + 1) bR (by decide) 0 [.slice A5 n5 d5, .slice A6 n6 d6]
    replace o6 := o6.box (g := w.heap.size + 1) bR (by decide) 0 [.slice A5 n5 d5, .slice A6 n6 d6]
    replace b0 := setL_below b0 [.slice A5 n5 d5, .slice A6 n6 d6] (w.heap.size + 1) 0 (by omega)
    have zs_7 : (setL w5 (w.heap.size + 1) 0 [.slice A5 n5 d5, .slice A6 n6 d6]).heap.size = w5.heap.size := setL_size _ _ _ _
    replace bR := bR.setAll [.slice A5 n5 d5, .slice A6 n6 d6] rfl
    generalize setL w5 _ 0 _ = w7 at *
    have u0_ := bR.cell (j := 0) rfl
    have u1_ := bR.cell (j := 1) rfl
    refine bodyPost_ret (by simp only [results, Tryz.results118]; simp [go_sem, u0_, u1_]; rfl) rfl ?_
    exact ⟨_, _, rfl, by rw [Qu.ofP, HF.out]; exact o5.mono (by omega) (by omega), by rw [Qu.ofP, HF.out]; exact o6.mono (by omega) (by omega), b0⟩
  · have hx2 : Sl.ix ls i < 0 := by omega
    have hd : decide ((0 : Int) ≤ Sl.ix ls i) = false := decide_eq_false hx
    have hy := findIx_nonneg (Wt.isI i) lw
    cases ha : lw.any (Wt.isI i)
    · have HF := Lib.hid (Qu.of_new (p := p) hx2 ha)
      rw [HF.out] at HPP
      rw [ha] at hy
      have HL := Lib.hid hl2
      generalize Sl.ix ls i = z at c1 hd
      clear hx hx2 ha hp hir hpr hl1 hl2
      go_enter Tryz.func118, Tryz.ntmps118
      have bq_0 := bq.cell (j := 0) rfl
      have bq_1 := bq.cell (j := 1) rfl
      have bq_z := bq.frozen
      have bq_l := bq.lt
      have bR_0 := bR.cell (j := 0) rfl
      have bR_1 := bR.cell (j := 1) rfl
      have bR_z := bR.frozen
      have bR_l := bR.lt
      go_wp2_with fail
      clear hwA
      clear bq_0 bq_1 bq_z bq_l bR_0 bR_1 bR_z bR_l
      refine (c1).mono ?_; rintro q_ w1 ⟨rfl, b_1⟩
      replace bq := bq.below b_1 bq.lt
      replace bR := bR.below b_1 bR.lt
      replace hs := hs.below b_1 (by omega)
      replace hw := hw.below b_1 (by omega)
      have z_2 := b_1.size
      replace b0 := b0.trans (b_1.mono (by omega))
      clear b_1
      have bq_0 := bq.cell (j := 0) rfl
      have bq_1 := bq.cell (j := 1) rfl
      have bq_z := bq.frozen
      have bq_l := bq.lt
      have bR_0 := bR.cell (j := 0) rfl
      have bR_1 := bR.cell (j := 1) rfl
      have bR_z := bR.frozen
      have bR_l := bR.lt
      go_wp2_with fail
      clear bq_0 bq_1 bq_z bq_l bR_0 bR_1 bR_z bR_l
      have c2 := l9Has_any _ lw i w1 hw (by omega)
      generalize findIx (Wt.isI i) lw = y at c2 hy
      refine (c2).mono ?_; rintro q_ w_ ⟨rfl, rfl⟩
      have bq_0 := bq.cell (j := 0) rfl
      have bq_1 := bq.cell (j := 1) rfl
      have bq_z := bq.frozen
      have bq_l := bq.lt
      have bR_0 := bR.cell (j := 0) rfl
      have bR_1 := bR.cell (j := 1) rfl
      have bR_z := bR.frozen
      have bR_l := bR.lt
      go_upto_region 6 with fail
      clear bq_0 bq_1 bq_z bq_l bR_0 bR_1 bR_z bR_l
      refine wp_region_held_drew (S := fun W => Box W (w.heap.size) 33 [.slice A0 n0 d0, .slice A1 n1 d1]) (by kernel_rfl) (show (fun (W : World) => Box W (w.heap.size) 33 [.slice A0 n0 d0, .slice A1 n1 d1]) w1.drew from bq) (fun hHeld => ?_)
      refine wpAnyH_take (i := 0) (v := .pointer (some ⟨w.heap.size, 0, none⟩)) rfl (by kernel_rfl) (by kernel_rfl) (by kernel_rfl) (fun _ _ _ h => h) (Or.inl ⟨by rfl, by intro w hSw; have hS0 := hSw; have y00 := hS0.cell (j := 0) rfl; have y01 := hS0.cell (j := 1) rfl; go_simp⟩) hHeld ?_
      refine wpAnyH_take (i := 1) (v := .slice A0 n0 d0) rfl (by kernel_rfl) (by kernel_rfl) (by kernel_rfl) (fun _ _ _ h => h) (Or.inl ⟨by rfl, by intro w hSw; have hS0 := hSw; have y00 := hS0.cell (j := 0) rfl; have y01 := hS0.cell (j := 1) rfl; go_simp⟩) hHeld ?_
      refine wpAnyH_take (i := 2) (v := .pointer (some ⟨w.heap.size, 1, none⟩)) rfl (by kernel_rfl) (by kernel_rfl) (by kernel_rfl) (fun _ _ _ h => h) (Or.inl ⟨by rfl, by intro w hSw; have hS0 := hSw; have y00 := hS0.cell (j := 0) rfl; have y01 := hS0.cell (j := 1) rfl; go_simp⟩) hHeld ?_
      refine wpAnyH_take (i := 3) (v := .slice A1 n1 d1) rfl (by kernel_rfl) (by kernel_rfl) (by kernel_rfl) (fun _ _ _ h => h) (Or.inl ⟨by rfl, by intro w hSw; have hS0 := hSw; have y00 := hS0.cell (j := 0) rfl; have y01 := hS0.cell (j := 1) rfl; go_simp⟩) hHeld ?_
      refine wpAnyH_take (i := 4) (v := .int .i64 i) rfl (by kernel_rfl) (by kernel_rfl) (by kernel_rfl) (fun _ _ _ h => h) (Or.inl ⟨by rfl, by intro w hSw; have hS0 := hSw; have y00 := hS0.cell (j := 0) rfl; have y01 := hS0.cell (j := 1) rfl; go_simp⟩) hHeld ?_
      refine wpAnyH_take (i := 5) (v := .int .i64 p) rfl (by kernel_rfl) (by kernel_rfl) (by kernel_rfl) (fun _ _ _ h => h) (Or.inl ⟨by rfl, by intro w hSw; have hS0 := hSw; have y00 := hS0.cell (j := 0) rfl; have y01 := hS0.cell (j := 1) rfl; go_simp⟩) hHeld ?_
      refine wpAnyH_take (i := 6) (v := .agg #[.int .i64 i, .int .i64 p]) rfl (by kernel_rfl) (by kernel_rfl) (by kernel_rfl) (fun _ _ _ h => h) (Or.inl ⟨by rfl, by intro w hSw; have hS0 := hSw; have y00 := hS0.cell (j := 0) rfl; have y01 := hS0.cell (j := 1) rfl; go_simp⟩) hHeld ?_
      clear hHeld
      refine held_gen (F := fun W' => Below w1.heap.size w1 W') (Below.refl w1.heap.size w1).drew ?_
      rintro w3 b_3
      replace bq := bq.below b_3 bq.lt
      replace bR := bR.below b_3 bR.lt
      replace hs := hs.below b_3 (by omega)
      replace hw := hw.below b_3 (by omega)
      have z_4 := b_3.size
      replace b0 := b0.trans (b_3.mono (by omega))
      clear b_3
      refine wpAnyH_ready (rs := [7]) (by kernel_rfl) (by decide) ?_
      refine AllReadyH.cons rfl (fun K5 hK5 => ?_) AllReadyH.nil
      go_simp
      refine (specWait_any _ lw ⟨i, p⟩ w3 hw (by omega) (by have := HL.out; omega)).mono ?_; rintro q_ w6 ⟨v3, rfl, o3, b_6⟩
      replace bq := bq.below b_6 bq.lt
      replace bR := bR.below b_6 bR.lt
      replace hs := hs.below b_6 (by omega)
      replace hw := hw.below b_6 (by omega)
      have z_7 := b_6.size
      replace b0 := b0.trans (b_6.mono (by omega))
      clear b_6
      obtain ⟨A3, n3, d3, rfl, _, _, _⟩ := o3.rd.form
      refine hK5.out _ _ bq (fun _ => ?_)
      refine wpAnyH_ready (rs := [8]) (by kernel_rfl) (by decide) ?_
      refine AllReadyH.cons rfl (fun K8 hK8 => ?_) AllReadyH.nil
      go_simp
      refine hK8.out _ _ bq (fun _ => ?_)
      refine wpAnyH_ready (rs := [9]) (by kernel_rfl) (by decide) ?_
      refine AllReadyH.cons rfl (fun K9 hK9 => ?_) AllReadyH.nil
      go_simp
      refine (specSettle_any _ _ ls (Wt.ins lw ⟨i, p⟩) w6 hs o3.rd (by omega) (by omega) HPP.out).mono ?_; rintro q_ w10 ⟨v5, v6, rfl, o5, o6, b_10⟩
      replace bq := bq.below b_10 bq.lt
      replace bR := bR.below b_10 bR.lt
      replace hs := hs.below b_10 (by omega)
      replace hw := hw.below b_10 (by omega)
      replace o3 := o3.below b_10 (by omega)
      have z_11 := b_10.size
      replace b0 := b0.trans (b_10.mono (by omega))
      clear b_10
      obtain ⟨A5, n5, d5, rfl, _, _, _⟩ := o5.rd.form
      obtain ⟨A6, n6, d6, rfl, _, _, _⟩ := o6.rd.form
      refine hK9.out _ _ bq (fun _ => ?_)
      refine wpAnyH_ready (rs := [10]) (by kernel_rfl) (by decide) ?_
      refine AllReadyH.cons rfl (fun K12 hK12 => ?_) AllReadyH.nil
      have bq_0 := bq.cell (j := 0) rfl
      have bq_1 := bq.cell (j := 1) rfl
      have bq_z := bq.frozen
      have bq_l := bq.lt
      have bR_0 := bR.cell (j := 0) rfl
      have bR_1 := bR.cell (j := 1) rfl
      have bR_z := bR.frozen
      have bR_l := bR.lt
      go_simp
      clear bq_0 bq_1 bq_z bq_l bR_0 bR_1 bR_z bR_l
      generalize hwz : World.setCell (World.setCell _ _ _) _ _ = wz_
      obtain rfl : wz_ = setL w10 (w.heap.size + 1) 0 [.slice A5 n5 d5, .slice A6 n6 d6] := hwz.symm
      clear hwz
      replace bq := bq.other (b := w.heap.size + 1) (by omega) 0 [.slice A5 n5 d5, .slice A6 n6 d6]
      replace hs := hs.away (g := w.heap.size + 1) (by omega) 0 [.slice A5 n5 d5, .slice A6 n6 d6]
      replace hw := hw.away (g := w.heap.size + 1) (by omega) 0 [.slice A5 n5 d5, .slice A6 n6 d6]
      replace o3 := o3.box (g := w.heap.size + 1) bR (by decide) 0 [.slice A5 n5 d5, .slice A6 n6 d6]
      replace o5 := o5.box (g := w.heap.size + 1) bR (by decide) 0 [.slice A5 n5 d5, .slice A6 n6 d6]
      replace o6 := o6.box (g := w.heap.size + 1) bR (by decide) 0 [.slice A5 n5 d5, .slice A6 n6 d6]
      replace b0 := setL_below b0 [.slice A5 n5 d5, .slice A6 n6 d6] (w.heap.size + 1) 0 (by omega)
      have zs_13 : (setL w10 (w.heap.size + 1) 0 [.slice A5 n5 d5, .slice A6 n6 d6]).heap.size = w10.heap.size := setL_size _ _ _ _
      replace bR := bR.setAll [.slice A5 n5 d5, .slice A6 n6 d6] rfl
      generalize setL w10 _ 0 _ = w13 at *
      refine hK12.out _ _ bq (fun _ => ?_)
      refine ⟨by kernel_rfl, ?_⟩
      have bq_0 := bq.cell (j := 0) rfl
      have bq_1 := bq.cell (j := 1) rfl
      have bq_z := bq.frozen
      have bq_l := bq.lt
      have bR_0 := bR.cell (j := 0) rfl
      have bR_1 := bR.cell (j := 1) rfl
      have bR_z := bR.frozen
      have bR_l := bR.lt
      go_wp2_with fail
      clear bq_0 bq_1 bq_z bq_l bR_0 bR_1 bR_z bR_l
      have u0_ := bR.cell (j := 0) rfl
      have u1_ := bR.cell (j := 1) rfl
      refine bodyPost_ret (by simp only [results, Tryz.results118]; simp [go_sem, u0_, u1_]; rfl) rfl ?_
      exact ⟨_, _, rfl, by rw [Qu.ofP, HF.out]; exact o5.mono (by omega) (by omega), by rw [Qu.ofP, HF.out]; exact o6.mono (by omega) (by omega), b0⟩
    · have HF := Lib.hid (Qu.of_had (p := p) hx2 ha)
      rw [HF.out] at HPP
      rw [ha] at hy
      generalize Sl.ix ls i = z at c1 hd
      clear hx hx2 ha hp hir hpr hl1 hl2
      go_enter Tryz.func118, Tryz.ntmps118
      have bq_0 := bq.cell (j := 0) rfl
      have bq_1 := bq.cell (j := 1) rfl
      have bq_z := bq.frozen
      have bq_l := bq.lt
      have bR_0 := bR.cell (j := 0) rfl
      have bR_1 := bR.cell (j := 1) rfl
      have bR_z := bR.frozen
      have bR_l := bR.lt
      go_wp2_with fail
      clear hwA
      clear bq_0 bq_1 bq_z bq_l bR_0 bR_1 bR_z bR_l
      refine (c1).mono ?_; rintro q_ w1 ⟨rfl, b_1⟩
      replace bq := bq.below b_1 bq.lt
      replace bR := bR.below b_1 bR.lt
      replace hs := hs.below b_1 (by omega)
      replace hw := hw.below b_1 (by omega)
      have z_2 := b_1.size
      replace b0 := b0.trans (b_1.mono (by omega))
      clear b_1
      have bq_0 := bq.cell (j := 0) rfl
      have bq_1 := bq.cell (j := 1) rfl
      have bq_z := bq.frozen
      have bq_l := bq.lt
      have bR_0 := bR.cell (j := 0) rfl
      have bR_1 := bR.cell (j := 1) rfl
      have bR_z := bR.frozen
      have bR_l := bR.lt
      go_wp2_with fail
      clear bq_0 bq_1 bq_z bq_l bR_0 bR_1 bR_z bR_l
      have c2 := l9Has_any _ lw i w1 hw (by omega)
      generalize findIx (Wt.isI i) lw = y at c2 hy
      refine (c2).mono ?_; rintro q_ w_ ⟨rfl, rfl⟩
      have bq_0 := bq.cell (j := 0) rfl
      have bq_1 := bq.cell (j := 1) rfl
      have bq_z := bq.frozen
      have bq_l := bq.lt
      have bR_0 := bR.cell (j := 0) rfl
      have bR_1 := bR.cell (j := 1) rfl
      have bR_z := bR.frozen
      have bR_l := bR.lt
      go_wp2_with fail
      clear bq_0 bq_1 bq_z bq_l bR_0 bR_1 bR_z bR_l
      refine (specSettle_any _ _ ls lw w1 hs hw (by omega) (by omega) HPP.out).mono ?_; rintro q_ w3 ⟨v5, v6, rfl, o5, o6, b_3⟩
      replace bq := bq.below b_3 bq.lt
      replace bR := bR.below b_3 bR.lt
      replace hs := hs.below b_3 (by omega)
      replace hw := hw.below b_3 (by omega)
      have z_4 := b_3.size
      replace b0 := b0.trans (b_3.mono (by omega))
      clear b_3
      obtain ⟨A5, n5, d5, rfl, _, _, _⟩ := o5.rd.form
      obtain ⟨A6, n6, d6, rfl, _, _, _⟩ := o6.rd.form
      have bq_0 := bq.cell (j := 0) rfl
      have bq_1 := bq.cell (j := 1) rfl
      have bq_z := bq.frozen
      have bq_l := bq.lt
      have bR_0 := bR.cell (j := 0) rfl
      have bR_1 := bR.cell (j := 1) rfl
      have bR_z := bR.frozen
      have bR_l := bR.lt
      go_wp2_with fail
      clear bq_0 bq_1 bq_z bq_l bR_0 bR_1 bR_z bR_l
      generalize hwz : World.setCell (World.setCell _ _ _) _ _ = wz_
      obtain rfl : wz_ = setL w3 (w.heap.size + 1) 0 [.slice A5 n5 d5, .slice A6 n6 d6] := hwz.symm
      clear hwz
      replace bq := bq.other (b := w.heap.size + 1) (by omega) 0 [.slice A5 n5 d5, .slice A6 n6 d6]
      replace hs := hs.away (g := w.heap.size + 1) (by omega) 0 [.slice A5 n5 d5, .slice A6 n6 d6]
      replace hw := hw.away (g := w.heap.size + 1) (by omega) 0 [.slice A5 n5 d5, .slice A6 n6 d6]
      replace o5 := o5.box (g := w.heap.size + 1) bR (by decide) 0 [.slice A5 n5 d5, .slice A6 n6 d6]
      replace o6 := o6.box (g := w.heap.size + 1) bR (by decide) 0 [.slice A5 n5 d5, .slice A6 n6 d6]
      replace b0 := setL_below b0 [.slice A5 n5 d5, .slice A6 n6 d6] (w.heap.size + 1) 0 (by omega)
      have zs_5 : (setL w3 (w.heap.size + 1) 0 [.slice A5 n5 d5, .slice A6 n6 d6]).heap.size = w3.heap.size := setL_size _ _ _ _
      replace bR := bR.setAll [.slice A5 n5 d5, .slice A6 n6 d6] rfl
      generalize setL w3 _ 0 _ = w5 at *
      have u0_ := bR.cell (j := 0) rfl
      have u1_ := bR.cell (j := 1) rfl
      refine bodyPost_ret (by simp only [results, Tryz.results118]; simp [go_sem, u0_, u1_]; rfl) rfl ?_
      exact ⟨_, _, rfl, by rw [Qu.ofP, HF.out]; exact o5.mono (by omega) (by omega), by rw [Qu.ofP, HF.out]; exact o6.mono (by omega) (by omega), b0⟩
set_option maxHeartbeats 8000000 in
theorem implOffer_in (vs vw : Value) (ls : List Sl) (lw : List Wt) (i p : Int) (w : World) {lo hi lo2 hi2 : Nat} (h : Rd Sl.cells 3 w lo hi vs ls) (h2 : Rd Wt.cells 2 w lo2 hi2 vw lw) (hh : hi ≤ w.heap.size) (hh2 : hi2 ≤ w.heap.size) (hp : Qu.parts ls lw = true) (hir : inB i 0 7 = true) (hpr : inB p 0 15 = true) :
    Calls Tryz.prog 119 #[.agg #[vs, vw], .int .i64 i, .int .i64 p] w fun e w' => ∃ v1 v2, e = .returned (.agg #[v1, v2]) ∧ Ow Sl.cells 3 127 w' w.heap.size w'.heap.size v1 (Qu.ofP ls lw i p).1 ∧ Ow Wt.cells 2 134 w' w.heap.size w'.heap.size v2 (Qu.ofP ls lw i p).2 ∧ Below w.heap.size w w' := by
  have b0 : Below w.heap.size w ((w.alloc (.cells #[vs, vw] 33)).alloc (.cells #[.slice none 0 0, .slice none 0 0] 33)) := ((Below.refl w.heap.size w).alloc (Nat.le_refl _) _).alloc (by simp) _
  have z0 : ((w.alloc (.cells #[vs, vw] 33)).alloc (.cells #[.slice none 0 0, .slice none 0 0] 33)).heap.size = w.heap.size + 2 := by simp
  have bq := Box.new w #[vs, vw] 33 rfl
  have bR := Box.new (g := w.heap.size + 1) (w.alloc (.cells #[vs, vw] 33)) #[.slice none 0 0, .slice none 0 0] 33 (by simp)
  replace bq := bq.below ((Below.refl _ (w.alloc (.cells #[vs, vw] 33))).alloc (Nat.le_refl _) (.cells #[.slice none 0 0, .slice none 0 0] 33)) bq.lt
  have hs := h.below b0 hh
  have hw := h2.below b0 hh2
  have hv_ := h.form
  have hv2_ := h2.form
  clear h h2
  generalize hwA : ((w.alloc (.cells #[vs, vw] 33)).alloc (.cells #[.slice none 0 0, .slice none 0 0] 33)) = wA at *
  obtain ⟨A0, n0, d0, rfl, _, _, _⟩ := hv_
  obtain ⟨A1, n1, d1, rfl, _, _, _⟩ := hv2_
  have hl1 := Sl.good_len (Qu.parts_get hp).1
  have hl2 := Qu.parts_len hp
  have hl : ls.length ≤ 1048576 := by omega
  have HPP := Lib.hid (Qu.of_parts hp hir hpr)
  have HL := Lib.hid hl2
  have c0 := implOwn_any _ _ ls lw _ hs hw (by omega) (by omega) hl (by omega)
  have hy := findIx_neg (Wt.isI i) lw
  have c1 := fun W hs hh => implFind_b (.slice A0 n0 d0) ls i W (lo := lo) (hi := hi) hs hh
  by_cases hx : 0 ≤ Sl.ix ls i
  · have HF := Lib.hid (Qu.of_hit (lw := lw) (p := p) hx)
    rw [HF.out] at HPP
    have hd : decide ((0 : Int) ≤ Sl.ix ls i) = true := decide_eq_true hx
    generalize Sl.ix ls i = z at c1 hd
    clear hx hp hir hpr hl1 hl2 hy
    go_enter Tryz.func119, Tryz.ntmps119
    have bq_0 := bq.cell (j := 0) rfl
    have bq_1 := bq.cell (j := 1) rfl
    have bq_z := bq.frozen
    have bq_l := bq.lt
    have bR_0 := bR.cell (j := 0) rfl
    have bR_1 := bR.cell (j := 1) rfl
    have bR_z := bR.frozen
    have bR_l := bR.lt
    go_wp2_with fail
    clear hwA
    clear bq_0 bq_1 bq_z bq_l bR_0 bR_1 bR_z bR_l
    refine (c0).mono ?_; rintro q_ w1 ⟨v7, v8, rfl, o7, o8, b_1⟩
    replace bq := bq.below b_1 bq.lt
    replace bR := bR.below b_1 bR.lt
    replace hs := hs.below b_1 (by omega)
    replace hw := hw.below b_1 (by omega)
    have z_2 := b_1.size
    replace b0 := b0.trans (b_1.mono (by omega))
    clear b_1
    obtain ⟨A7, n7, d7, rfl, _, _, _⟩ := o7.rd.form
    obtain ⟨A8, n8, d8, rfl, _, _, _⟩ := o8.rd.form
    have bq_0 := bq.cell (j := 0) rfl
    have bq_1 := bq.cell (j := 1) rfl
    have bq_z := bq.frozen
    have bq_l := bq.lt
    have bR_0 := bR.cell (j := 0) rfl
    have bR_1 := bR.cell (j := 1) rfl
    have bR_z := bR.frozen
    have bR_l := bR.lt
    go_upto_region 2 with fail
    clear bq_0 bq_1 bq_z bq_l bR_0 bR_1 bR_z bR_l
    have b_3 := (Below.refl w1.heap.size w1).alloc (Nat.le_refl _) (.cells #[.slice A7 n7 d7, .slice A8 n8 d8] 33)
    have bo := Box.new w1 #[.slice A7 n7 d7, .slice A8 n8 d8] 33 rfl
    replace bq := bq.below b_3 bq.lt
    replace bR := bR.below b_3 bR.lt
    replace hs := hs.below b_3 (by omega)
    replace hw := hw.below b_3 (by omega)
    replace o7 := o7.below b_3 (by omega)
    replace o8 := o8.below b_3 (by omega)
    have z_4 := b_3.size
    replace b0 := b0.trans (b_3.mono (by omega))
    clear b_3
    generalize w1.alloc _ = w3 at *
    generalize w1.heap.size = g3 at *
    have bq_0 := bq.cell (j := 0) rfl
    have bq_1 := bq.cell (j := 1) rfl
    have bq_z := bq.frozen
    have bq_l := bq.lt
    have bR_0 := bR.cell (j := 0) rfl
    have bR_1 := bR.cell (j := 1) rfl
    have bR_z := bR.frozen
    have bR_l := bR.lt
    have bo_0 := bo.cell (j := 0) rfl
    have bo_1 := bo.cell (j := 1) rfl
    have bo_z := bo.frozen
    have bo_l := bo.lt
    go_wp2_with fail
    clear bq_0 bq_1 bq_z bq_l bR_0 bR_1 bR_z bR_l bo_0 bo_1 bo_z bo_l
    refine (c1 w3 hs (by omega)).mono ?_; rintro q_ w5 ⟨rfl, b_5⟩
    replace bq := bq.below b_5 bq.lt
    replace bR := bR.below b_5 bR.lt
    replace bo := bo.below b_5 bo.lt
    replace hs := hs.below b_5 (by omega)
    replace hw := hw.below b_5 (by omega)
    replace o7 := o7.below b_5 (by omega)
    replace o8 := o8.below b_5 (by omega)
    have z_6 := b_5.size
    replace b0 := b0.trans (b_5.mono (by omega))
    clear b_5
    have bq_0 := bq.cell (j := 0) rfl
    have bq_1 := bq.cell (j := 1) rfl
    have bq_z := bq.frozen
    have bq_l := bq.lt
    have bR_0 := bR.cell (j := 0) rfl
    have bR_1 := bR.cell (j := 1) rfl
    have bR_z := bR.frozen
    have bR_l := bR.lt
    have bo_0 := bo.cell (j := 0) rfl
    have bo_1 := bo.cell (j := 1) rfl
    have bo_z := bo.frozen
    have bo_l := bo.lt
    go_wp2_with fail
    clear bq_0 bq_1 bq_z bq_l bR_0 bR_1 bR_z bR_l bo_0 bo_1 bo_z bo_l
    refine (implPut_in _ ls i p w5 hs (by omega) hl).mono ?_; rintro q_ w7 ⟨v3, rfl, o3, b_7⟩
    replace bq := bq.below b_7 bq.lt
    replace bR := bR.below b_7 bR.lt
    replace bo := bo.below b_7 bo.lt
    replace hs := hs.below b_7 (by omega)
    replace hw := hw.below b_7 (by omega)
    replace o7 := o7.below b_7 (by omega)
    replace o8 := o8.below b_7 (by omega)
    have z_8 := b_7.size
    replace b0 := b0.trans (b_7.mono (by omega))
    clear b_7
    obtain ⟨A3, n3, d3, rfl, _, _, _⟩ := o3.rd.form
    have bq_0 := bq.cell (j := 0) rfl
    have bq_1 := bq.cell (j := 1) rfl
    have bq_z := bq.frozen
    have bq_l := bq.lt
    have bR_0 := bR.cell (j := 0) rfl
    have bR_1 := bR.cell (j := 1) rfl
    have bR_z := bR.frozen
    have bR_l := bR.lt
    have bo_0 := bo.cell (j := 0) rfl
    have bo_1 := bo.cell (j := 1) rfl
    have bo_z := bo.frozen
    have bo_l := bo.lt
    go_upto_region 6 with fail
    clear bq_0 bq_1 bq_z bq_l bR_0 bR_1 bR_z bR_l bo_0 bo_1 bo_z bo_l
    generalize hwz : World.setCell _ _ _ = wz_
    obtain rfl : wz_ = setL w7 (g3) 0 [.slice A3 n3 d3] := hwz.symm
    clear hwz
    replace bq := bq.other (b := g3) (by omega) 0 [.slice A3 n3 d3]
    replace bR := bR.other (b := g3) (by omega) 0 [.slice A3 n3 d3]
    replace hs := hs.away (g := g3) (by omega) 0 [.slice A3 n3 d3]
    replace hw := hw.away (g := g3) (by omega) 0 [.slice A3 n3 d3]
    replace o7 := o7.box (g := g3) bo (by decide) 0 [.slice A3 n3 d3]
    replace o8 := o8.box (g := g3) bo (by decide) 0 [.slice A3 n3 d3]
    replace o3 := o3.box (g := g3) bo (by decide) 0 [.slice A3 n3 d3]
    replace b0 := setL_below b0 [.slice A3 n3 d3] (g3) 0 (by omega)
    have zs_9 : (setL w7 (g3) 0 [.slice A3 n3 d3]).heap.size = w7.heap.size := setL_size _ _ _ _
    replace bo := bo.set1 (j := 0) (.slice A3 n3 d3) (by simp)
    generalize setL w7 _ 0 _ = w9 at *
    have bq_0 := bq.cell (j := 0) rfl
    have bq_1 := bq.cell (j := 1) rfl
    have bq_z := bq.frozen
    have bq_l := bq.lt
    have bR_0 := bR.cell (j := 0) rfl
    have bR_1 := bR.cell (j := 1) rfl
    have bR_z := bR.frozen
    have bR_l := bR.lt
    have bo_0 := bo.cell (j := 0) rfl
    have bo_1 := bo.cell (j := 1) rfl
    have bo_z := bo.frozen
    have bo_l := bo.lt
    go_wp2_with fail
    clear bq_0 bq_1 bq_z bq_l bR_0 bR_1 bR_z bR_l bo_0 bo_1 bo_z bo_l
    refine (implSettle_any _ _ (Sl.putR ls i p) lw w9 o3.rd o8.rd (by omega) (by omega) HPP.out).mono ?_; rintro q_ w10 ⟨v5, v6, rfl, o5, o6, b_10⟩
    replace bq := bq.below b_10 bq.lt
    replace bR := bR.below b_10 bR.lt
    replace bo := bo.below b_10 bo.lt
    replace hs := hs.below b_10 (by omega)
    replace hw := hw.below b_10 (by omega)
    replace o7 := o7.below b_10 (by omega)
    replace o8 := o8.below b_10 (by omega)
    replace o3 := o3.below b_10 (by omega)
    have z_11 := b_10.size
    replace b0 := b0.trans (b_10.mono (by omega))
    clear b_10
    obtain ⟨A5, n5, d5, rfl, _, _, _⟩ := o5.rd.form
    obtain ⟨A6, n6, d6, rfl, _, _, _⟩ := o6.rd.form
    have bq_0 := bq.cell (j := 0) rfl
    have bq_1 := bq.cell (j := 1) rfl
    have bq_z := bq.frozen
    have bq_l := bq.lt
    have bR_0 := bR.cell (j := 0) rfl
    have bR_1 := bR.cell (j := 1) rfl
    have bR_z := bR.frozen
    have bR_l := bR.lt
    have bo_0 := bo.cell (j := 0) rfl
    have bo_1 := bo.cell (j := 1) rfl
    have bo_z := bo.frozen
    have bo_l := bo.lt
    go_wp2_with fail
    clear bq_0 bq_1 bq_z bq_l bR_0 bR_1 bR_z bR_l bo_0 bo_1 bo_z bo_l
    generalize hwz : World.setCell (World.setCell _ _ _) _ _ = wz_
    obtain rfl : wz_ = setL w10 (w.heap.size + 1) 0 [.slice A5 n5 d5, .slice A6 n6 d6] := hwz.symm
    clear hwz
    replace bq := bq.other (b := w.heap.size + 1) (by omega) 0 [.slice A5 n5 d5, .slice A6 n6 d6]
    replace bo := bo.other (b := w.heap.size + 1) (by omega) 0 [.slice A5 n5 d5, .slice A6 n6 d6]
    replace hs := hs.away (g := w.heap.size + 1) (by omega) 0 [.slice A5 n5 d5, .slice A6 n6 d6]
    replace hw := hw.away (g := w.heap.size + 1) (by omega) 0 [.slice A5 n5 d5, .slice A6 n6 d6]
    replace o7 := o7.box (g := w.heap.size + 1) bR (by decide) 0 [.slice A5 n5 d5, .slice A6 n6 d6]
    replace o8 := o8.box (g := w.heap.size + 1) bR (by decide) 0 [.slice A5 n5 d5, .slice A6 n6 d6]
    replace o3 := o3.box (g := w.heap.size + 1) bR (by decide) 0 [.slice A5 n5 d5, .slice A6 n6 d6]
    replace o5 := o5.box (g := w.heap.size + 1) bR (by decide) 0 [.slice A5 n5 d5, .slice A6 n6 d6]
    replace o6 := o6.box (g := w.heap.size + 1) bR (by decide) 0 [.slice A5 n5 d5, .slice A6 n6 d6]
    replace b0 := setL_below b0 [.slice A5 n5 d5, .slice A6 n6 d6] (w.heap.size + 1) 0 (by omega)
    have zs_12 : (setL w10 (w.heap.size + 1) 0 [.slice A5 n5 d5, .slice A6 n6 d6]).heap.size = w10.heap.size := setL_size _ _ _ _
    replace bR := bR.setAll [.slice A5 n5 d5, .slice A6 n6 d6] rfl
    generalize setL w10 _ 0 _ = w12 at *
    have u0_ := bR.cell (j := 0) rfl
    have u1_ := bR.cell (j := 1) rfl
    refine bodyPost_ret (by simp only [results, Tryz.results119]; simp [go_sem, u0_, u1_]; rfl) rfl ?_
    exact ⟨_, _, rfl, by rw [Qu.ofP, HF.out]; exact o5.mono (by omega) (by omega), by rw [Qu.ofP, HF.out]; exact o6.mono (by omega) (by omega), b0⟩
  · have hx2 : Sl.ix ls i < 0 := by omega
    have hd : decide ((0 : Int) ≤ Sl.ix ls i) = false := decide_eq_false hx
    cases ha : lw.any (Wt.isI i)
    · have HF := Lib.hid (Qu.of_new (p := p) hx2 ha)
      rw [HF.out] at HPP
      rw [ha] at hy
      generalize Sl.ix ls i = z at c1 hd
      clear hx hx2 ha hp hir hpr hl1 hl2
      go_enter Tryz.func119, Tryz.ntmps119
      have bq_0 := bq.cell (j := 0) rfl
      have bq_1 := bq.cell (j := 1) rfl
      have bq_z := bq.frozen
      have bq_l := bq.lt
      have bR_0 := bR.cell (j := 0) rfl
      have bR_1 := bR.cell (j := 1) rfl
      have bR_z := bR.frozen
      have bR_l := bR.lt
      go_wp2_with fail
      clear hwA
      clear bq_0 bq_1 bq_z bq_l bR_0 bR_1 bR_z bR_l
      refine (c0).mono ?_; rintro q_ w1 ⟨v7, v8, rfl, o7, o8, b_1⟩
      replace bq := bq.below b_1 bq.lt
      replace bR := bR.below b_1 bR.lt
      replace hs := hs.below b_1 (by omega)
      replace hw := hw.below b_1 (by omega)
      have z_2 := b_1.size
      replace b0 := b0.trans (b_1.mono (by omega))
      clear b_1
      obtain ⟨A7, n7, d7, rfl, _, _, _⟩ := o7.rd.form
      obtain ⟨A8, n8, d8, rfl, _, _, _⟩ := o8.rd.form
      have bq_0 := bq.cell (j := 0) rfl
      have bq_1 := bq.cell (j := 1) rfl
      have bq_z := bq.frozen
      have bq_l := bq.lt
      have bR_0 := bR.cell (j := 0) rfl
      have bR_1 := bR.cell (j := 1) rfl
      have bR_z := bR.frozen
      have bR_l := bR.lt
      go_upto_region 2 with fail
      clear bq_0 bq_1 bq_z bq_l bR_0 bR_1 bR_z bR_l
      have b_3 := (Below.refl w1.heap.size w1).alloc (Nat.le_refl _) (.cells #[.slice A7 n7 d7, .slice A8 n8 d8] 33)
      have bo := Box.new w1 #[.slice A7 n7 d7, .slice A8 n8 d8] 33 rfl
      replace bq := bq.below b_3 bq.lt
      replace bR := bR.below b_3 bR.lt
      replace hs := hs.below b_3 (by omega)
      replace hw := hw.below b_3 (by omega)
      replace o7 := o7.below b_3 (by omega)
      replace o8 := o8.below b_3 (by omega)
      have z_4 := b_3.size
      replace b0 := b0.trans (b_3.mono (by omega))
      clear b_3
      generalize w1.alloc _ = w3 at *
      generalize w1.heap.size = g3 at *
      have bq_0 := bq.cell (j := 0) rfl
      have bq_1 := bq.cell (j := 1) rfl
      have bq_z := bq.frozen
      have bq_l := bq.lt
      have bR_0 := bR.cell (j := 0) rfl
      have bR_1 := bR.cell (j := 1) rfl
      have bR_z := bR.frozen
      have bR_l := bR.lt
      have bo_0 := bo.cell (j := 0) rfl
      have bo_1 := bo.cell (j := 1) rfl
      have bo_z := bo.frozen
      have bo_l := bo.lt
      go_wp2_with fail
      clear bq_0 bq_1 bq_z bq_l bR_0 bR_1 bR_z bR_l bo_0 bo_1 bo_z bo_l
      refine (c1 w3 hs (by omega)).mono ?_; rintro q_ w5 ⟨rfl, b_5⟩
      replace bq := bq.below b_5 bq.lt
      replace bR := bR.below b_5 bR.lt
      replace bo := bo.below b_5 bo.lt
      replace hs := hs.below b_5 (by omega)
      replace hw := hw.below b_5 (by omega)
      replace o7 := o7.below b_5 (by omega)
      replace o8 := o8.below b_5 (by omega)
      have z_6 := b_5.size
      replace b0 := b0.trans (b_5.mono (by omega))
      clear b_5
      have bq_0 := bq.cell (j := 0) rfl
      have bq_1 := bq.cell (j := 1) rfl
      have bq_z := bq.frozen
      have bq_l := bq.lt
      have bR_0 := bR.cell (j := 0) rfl
      have bR_1 := bR.cell (j := 1) rfl
      have bR_z := bR.frozen
      have bR_l := bR.lt
      have bo_0 := bo.cell (j := 0) rfl
      have bo_1 := bo.cell (j := 1) rfl
      have bo_z := bo.frozen
      have bo_l := bo.lt
      go_wp2_with fail
      clear bq_0 bq_1 bq_z bq_l bR_0 bR_1 bR_z bR_l bo_0 bo_1 bo_z bo_l
      have c2 := waiterIndex_any _ lw i w5 hw (by omega)
      generalize findIx (Wt.isI i) lw = y at c2 hy
      refine (c2).mono ?_; rintro q_ w7 ⟨rfl, b_7⟩
      replace bq := bq.below b_7 bq.lt
      replace bR := bR.below b_7 bR.lt
      replace bo := bo.below b_7 bo.lt
      replace hs := hs.below b_7 (by omega)
      replace hw := hw.below b_7 (by omega)
      replace o7 := o7.below b_7 (by omega)
      replace o8 := o8.below b_7 (by omega)
      have z_8 := b_7.size
      replace b0 := b0.trans (b_7.mono (by omega))
      clear b_7
      have bq_0 := bq.cell (j := 0) rfl
      have bq_1 := bq.cell (j := 1) rfl
      have bq_z := bq.frozen
      have bq_l := bq.lt
      have bR_0 := bR.cell (j := 0) rfl
      have bR_1 := bR.cell (j := 1) rfl
      have bR_z := bR.frozen
      have bR_l := bR.lt
      have bo_0 := bo.cell (j := 0) rfl
      have bo_1 := bo.cell (j := 1) rfl
      have bo_z := bo.frozen
      have bo_l := bo.lt
      go_wp2_with fail
      clear bq_0 bq_1 bq_z bq_l bR_0 bR_1 bR_z bR_l bo_0 bo_1 bo_z bo_l
      refine (implWait_any _ lw ⟨i, p⟩ w7 hw (by omega) (by have := HL.out; omega)).mono ?_; rintro q_ w9 ⟨v3, rfl, o3, b_9⟩
      replace bq := bq.below b_9 bq.lt
      replace bR := bR.below b_9 bR.lt
      replace bo := bo.below b_9 bo.lt
      replace hs := hs.below b_9 (by omega)
      replace hw := hw.below b_9 (by omega)
      replace o7 := o7.below b_9 (by omega)
      replace o8 := o8.below b_9 (by omega)
      have z_10 := b_9.size
      replace b0 := b0.trans (b_9.mono (by omega))
      clear b_9
      obtain ⟨A3, n3, d3, rfl, _, _, _⟩ := o3.rd.form
      have bq_0 := bq.cell (j := 0) rfl
      have bq_1 := bq.cell (j := 1) rfl
      have bq_z := bq.frozen
      have bq_l := bq.lt
      have bR_0 := bR.cell (j := 0) rfl
      have bR_1 := bR.cell (j := 1) rfl
      have bR_z := bR.frozen
      have bR_l := bR.lt
      have bo_0 := bo.cell (j := 0) rfl
      have bo_1 := bo.cell (j := 1) rfl
      have bo_z := bo.frozen
      have bo_l := bo.lt
      go_upto_region 6 with fail
      clear bq_0 bq_1 bq_z bq_l bR_0 bR_1 bR_z bR_l bo_0 bo_1 bo_z bo_l
      generalize hwz : World.setCell _ _ _ = wz_
      obtain rfl : wz_ = setL w9 (g3) 1 [.slice A3 n3 d3] := hwz.symm
      clear hwz
      replace bq := bq.other (b := g3) (by omega) 1 [.slice A3 n3 d3]
      replace bR := bR.other (b := g3) (by omega) 1 [.slice A3 n3 d3]
      replace hs := hs.away (g := g3) (by omega) 1 [.slice A3 n3 d3]
      replace hw := hw.away (g := g3) (by omega) 1 [.slice A3 n3 d3]
      replace o7 := o7.box (g := g3) bo (by decide) 1 [.slice A3 n3 d3]
      replace o8 := o8.box (g := g3) bo (by decide) 1 [.slice A3 n3 d3]
      replace o3 := o3.box (g := g3) bo (by decide) 1 [.slice A3 n3 d3]
      replace b0 := setL_below b0 [.slice A3 n3 d3] (g3) 1 (by omega)
      have zs_11 : (setL w9 (g3) 1 [.slice A3 n3 d3]).heap.size = w9.heap.size := setL_size _ _ _ _
      replace bo := bo.set1 (j := 1) (.slice A3 n3 d3) (by simp)
      generalize setL w9 _ 1 _ = w11 at *
      have bq_0 := bq.cell (j := 0) rfl
      have bq_1 := bq.cell (j := 1) rfl
      have bq_z := bq.frozen
      have bq_l := bq.lt
      have bR_0 := bR.cell (j := 0) rfl
      have bR_1 := bR.cell (j := 1) rfl
      have bR_z := bR.frozen
      have bR_l := bR.lt
      have bo_0 := bo.cell (j := 0) rfl
      have bo_1 := bo.cell (j := 1) rfl
      have bo_z := bo.frozen
      have bo_l := bo.lt
      go_wp2_with fail
      clear bq_0 bq_1 bq_z bq_l bR_0 bR_1 bR_z bR_l bo_0 bo_1 bo_z bo_l
      refine (implSettle_any _ _ ls (Wt.ins lw ⟨i, p⟩) w11 o7.rd o3.rd (by omega) (by omega) HPP.out).mono ?_; rintro q_ w12 ⟨v5, v6, rfl, o5, o6, b_12⟩
      replace bq := bq.below b_12 bq.lt
      replace bR := bR.below b_12 bR.lt
      replace bo := bo.below b_12 bo.lt
      replace hs := hs.below b_12 (by omega)
      replace hw := hw.below b_12 (by omega)
      replace o7 := o7.below b_12 (by omega)
      replace o8 := o8.below b_12 (by omega)
      replace o3 := o3.below b_12 (by omega)
      have z_13 := b_12.size
      replace b0 := b0.trans (b_12.mono (by omega))
      clear b_12
      obtain ⟨A5, n5, d5, rfl, _, _, _⟩ := o5.rd.form
      obtain ⟨A6, n6, d6, rfl, _, _, _⟩ := o6.rd.form
      have bq_0 := bq.cell (j := 0) rfl
      have bq_1 := bq.cell (j := 1) rfl
      have bq_z := bq.frozen
      have bq_l := bq.lt
      have bR_0 := bR.cell (j := 0) rfl
      have bR_1 := bR.cell (j := 1) rfl
      have bR_z := bR.frozen
      have bR_l := bR.lt
      have bo_0 := bo.cell (j := 0) rfl
      have bo_1 := bo.cell (j := 1) rfl
      have bo_z := bo.frozen
      have bo_l := bo.lt
      go_wp2_with fail
      clear bq_0 bq_1 bq_z bq_l bR_0 bR_1 bR_z bR_l bo_0 bo_1 bo_z bo_l
      generalize hwz : World.setCell (World.setCell _ _ _) _ _ = wz_
      obtain rfl : wz_ = setL w12 (w.heap.size + 1) 0 [.slice A5 n5 d5, .slice A6 n6 d6] := hwz.symm
      clear hwz
      replace bq := bq.other (b := w.heap.size + 1) (by omega) 0 [.slice A5 n5 d5, .slice A6 n6 d6]
      replace bo := bo.other (b := w.heap.size + 1) (by omega) 0 [.slice A5 n5 d5, .slice A6 n6 d6]
      replace hs := hs.away (g := w.heap.size + 1) (by omega) 0 [.slice A5 n5 d5, .slice A6 n6 d6]
      replace hw := hw.away (g := w.heap.size + 1) (by omega) 0 [.slice A5 n5 d5, .slice A6 n6 d6]
      replace o7 := o7.box (g := w.heap.size + 1) bR (by decide) 0 [.slice A5 n5 d5, .slice A6 n6 d6]
      replace o8 := o8.box (g := w.heap.size + 1) bR (by decide) 0 [.slice A5 n5 d5, .slice A6 n6 d6]
      replace o3 := o3.box (g := w.heap.size + 1) bR (by decide) 0 [.slice A5 n5 d5, .slice A6 n6 d6]
      replace o5 := o5.box (g := w.heap.size + 1) bR (by decide) 0 [.slice A5 n5 d5, .slice A6 n6 d6]
      replace o6 := o6.box (g := w.heap.size + 1) bR (by decide) 0 [.slice A5 n5 d5, .slice A6 n6 d6]
      replace b0 := setL_below b0 [.slice A5 n5 d5, .slice A6 n6 d6] (w.heap.size + 1) 0 (by omega)
      have zs_14 : (setL w12 (w.heap.size + 1) 0 [.slice A5 n5 d5, .slice A6 n6 d6]).heap.size = w12.heap.size := setL_size _ _ _ _
      replace bR := bR.setAll [.slice A5 n5 d5, .slice A6 n6 d6] rfl
      generalize setL w12 _ 0 _ = w14 at *
      have u0_ := bR.cell (j := 0) rfl
      have u1_ := bR.cell (j := 1) rfl
      refine bodyPost_ret (by simp only [results, Tryz.results119]; simp [go_sem, u0_, u1_]; rfl) rfl ?_
      exact ⟨_, _, rfl, by rw [Qu.ofP, HF.out]; exact o5.mono (by omega) (by omega), by rw [Qu.ofP, HF.out]; exact o6.mono (by omega) (by omega), b0⟩
    · have HF := Lib.hid (Qu.of_had (p := p) hx2 ha)
      rw [HF.out] at HPP
      rw [ha] at hy
      generalize Sl.ix ls i = z at c1 hd
      clear hx hx2 ha hp hir hpr hl1 hl2
      go_enter Tryz.func119, Tryz.ntmps119
      have bq_0 := bq.cell (j := 0) rfl
      have bq_1 := bq.cell (j := 1) rfl
      have bq_z := bq.frozen
      have bq_l := bq.lt
      have bR_0 := bR.cell (j := 0) rfl
      have bR_1 := bR.cell (j := 1) rfl
      have bR_z := bR.frozen
      have bR_l := bR.lt
      go_wp2_with fail
      clear hwA
      clear bq_0 bq_1 bq_z bq_l bR_0 bR_1 bR_z bR_l
      refine (c0).mono ?_; rintro q_ w1 ⟨v7, v8, rfl, o7, o8, b_1⟩
      replace bq := bq.below b_1 bq.lt
      replace bR := bR.below b_1 bR.lt
      replace hs := hs.below b_1 (by omega)
      replace hw := hw.below b_1 (by omega)
      have z_2 := b_1.size
      replace b0 := b0.trans (b_1.mono (by omega))
      clear b_1
      obtain ⟨A7, n7, d7, rfl, _, _, _⟩ := o7.rd.form
      obtain ⟨A8, n8, d8, rfl, _, _, _⟩ := o8.rd.form
      have bq_0 := bq.cell (j := 0) rfl
      have bq_1 := bq.cell (j := 1) rfl
      have bq_z := bq.frozen
      have bq_l := bq.lt
      have bR_0 := bR.cell (j := 0) rfl
      have bR_1 := bR.cell (j := 1) rfl
      have bR_z := bR.frozen
      have bR_l := bR.lt
      go_upto_region 2 with fail
      clear bq_0 bq_1 bq_z bq_l bR_0 bR_1 bR_z bR_l
      have b_3 := (Below.refl w1.heap.size w1).alloc (Nat.le_refl _) (.cells #[.slice A7 n7 d7, .slice A8 n8 d8] 33)
      have bo := Box.new w1 #[.slice A7 n7 d7, .slice A8 n8 d8] 33 rfl
      replace bq := bq.below b_3 bq.lt
      replace bR := bR.below b_3 bR.lt
      replace hs := hs.below b_3 (by omega)
      replace hw := hw.below b_3 (by omega)
      replace o7 := o7.below b_3 (by omega)
      replace o8 := o8.below b_3 (by omega)
      have z_4 := b_3.size
      replace b0 := b0.trans (b_3.mono (by omega))
      clear b_3
      generalize w1.alloc _ = w3 at *
      generalize w1.heap.size = g3 at *
      have bq_0 := bq.cell (j := 0) rfl
      have bq_1 := bq.cell (j := 1) rfl
      have bq_z := bq.frozen
      have bq_l := bq.lt
      have bR_0 := bR.cell (j := 0) rfl
      have bR_1 := bR.cell (j := 1) rfl
      have bR_z := bR.frozen
      have bR_l := bR.lt
      have bo_0 := bo.cell (j := 0) rfl
      have bo_1 := bo.cell (j := 1) rfl
      have bo_z := bo.frozen
      have bo_l := bo.lt
      go_wp2_with fail
      clear bq_0 bq_1 bq_z bq_l bR_0 bR_1 bR_z bR_l bo_0 bo_1 bo_z bo_l
      refine (c1 w3 hs (by omega)).mono ?_; rintro q_ w5 ⟨rfl, b_5⟩
      replace bq := bq.below b_5 bq.lt
      replace bR := bR.below b_5 bR.lt
      replace bo := bo.below b_5 bo.lt
      replace hs := hs.below b_5 (by omega)
      replace hw := hw.below b_5 (by omega)
      replace o7 := o7.below b_5 (by omega)
      replace o8 := o8.below b_5 (by omega)
      have z_6 := b_5.size
      replace b0 := b0.trans (b_5.mono (by omega))
      clear b_5
      have bq_0 := bq.cell (j := 0) rfl
      have bq_1 := bq.cell (j := 1) rfl
      have bq_z := bq.frozen
      have bq_l := bq.lt
      have bR_0 := bR.cell (j := 0) rfl
      have bR_1 := bR.cell (j := 1) rfl
      have bR_z := bR.frozen
      have bR_l := bR.lt
      have bo_0 := bo.cell (j := 0) rfl
      have bo_1 := bo.cell (j := 1) rfl
      have bo_z := bo.frozen
      have bo_l := bo.lt
      go_wp2_with fail
      clear bq_0 bq_1 bq_z bq_l bR_0 bR_1 bR_z bR_l bo_0 bo_1 bo_z bo_l
      have c2 := waiterIndex_any _ lw i w5 hw (by omega)
      generalize findIx (Wt.isI i) lw = y at c2 hy
      refine (c2).mono ?_; rintro q_ w7 ⟨rfl, b_7⟩
      replace bq := bq.below b_7 bq.lt
      replace bR := bR.below b_7 bR.lt
      replace bo := bo.below b_7 bo.lt
      replace hs := hs.below b_7 (by omega)
      replace hw := hw.below b_7 (by omega)
      replace o7 := o7.below b_7 (by omega)
      replace o8 := o8.below b_7 (by omega)
      have z_8 := b_7.size
      replace b0 := b0.trans (b_7.mono (by omega))
      clear b_7
      have bq_0 := bq.cell (j := 0) rfl
      have bq_1 := bq.cell (j := 1) rfl
      have bq_z := bq.frozen
      have bq_l := bq.lt
      have bR_0 := bR.cell (j := 0) rfl
      have bR_1 := bR.cell (j := 1) rfl
      have bR_z := bR.frozen
      have bR_l := bR.lt
      have bo_0 := bo.cell (j := 0) rfl
      have bo_1 := bo.cell (j := 1) rfl
      have bo_z := bo.frozen
      have bo_l := bo.lt
      go_wp2_with fail
      clear bq_0 bq_1 bq_z bq_l bR_0 bR_1 bR_z bR_l bo_0 bo_1 bo_z bo_l
      refine (implSettle_any _ _ ls lw w7 o7.rd o8.rd (by omega) (by omega) HPP.out).mono ?_; rintro q_ w9 ⟨v5, v6, rfl, o5, o6, b_9⟩
      replace bq := bq.below b_9 bq.lt
      replace bR := bR.below b_9 bR.lt
      replace bo := bo.below b_9 bo.lt
      replace hs := hs.below b_9 (by omega)
      replace hw := hw.below b_9 (by omega)
      replace o7 := o7.below b_9 (by omega)
      replace o8 := o8.below b_9 (by omega)
      have z_10 := b_9.size
      replace b0 := b0.trans (b_9.mono (by omega))
      clear b_9
      obtain ⟨A5, n5, d5, rfl, _, _, _⟩ := o5.rd.form
      obtain ⟨A6, n6, d6, rfl, _, _, _⟩ := o6.rd.form
      have bq_0 := bq.cell (j := 0) rfl
      have bq_1 := bq.cell (j := 1) rfl
      have bq_z := bq.frozen
      have bq_l := bq.lt
      have bR_0 := bR.cell (j := 0) rfl
      have bR_1 := bR.cell (j := 1) rfl
      have bR_z := bR.frozen
      have bR_l := bR.lt
      have bo_0 := bo.cell (j := 0) rfl
      have bo_1 := bo.cell (j := 1) rfl
      have bo_z := bo.frozen
      have bo_l := bo.lt
      go_wp2_with fail
      clear bq_0 bq_1 bq_z bq_l bR_0 bR_1 bR_z bR_l bo_0 bo_1 bo_z bo_l
      generalize hwz : World.setCell (World.setCell _ _ _) _ _ = wz_
      obtain rfl : wz_ = setL w9 (w.heap.size + 1) 0 [.slice A5 n5 d5, .slice A6 n6 d6] := hwz.symm
      clear hwz
      replace bq := bq.other (b := w.heap.size + 1) (by omega) 0 [.slice A5 n5 d5, .slice A6 n6 d6]
      replace bo := bo.other (b := w.heap.size + 1) (by omega) 0 [.slice A5 n5 d5, .slice A6 n6 d6]
      replace hs := hs.away (g := w.heap.size + 1) (by omega) 0 [.slice A5 n5 d5, .slice A6 n6 d6]
      replace hw := hw.away (g := w.heap.size + 1) (by omega) 0 [.slice A5 n5 d5, .slice A6 n6 d6]
      replace o7 := o7.box (g := w.heap.size + 1) bR (by decide) 0 [.slice A5 n5 d5, .slice A6 n6 d6]
      replace o8 := o8.box (g := w.heap.size + 1) bR (by decide) 0 [.slice A5 n5 d5, .slice A6 n6 d6]
      replace o5 := o5.box (g := w.heap.size + 1) bR (by decide) 0 [.slice A5 n5 d5, .slice A6 n6 d6]
      replace o6 := o6.box (g := w.heap.size + 1) bR (by decide) 0 [.slice A5 n5 d5, .slice A6 n6 d6]
      replace b0 := setL_below b0 [.slice A5 n5 d5, .slice A6 n6 d6] (w.heap.size + 1) 0 (by omega)
      have zs_11 : (setL w9 (w.heap.size + 1) 0 [.slice A5 n5 d5, .slice A6 n6 d6]).heap.size = w9.heap.size := setL_size _ _ _ _
      replace bR := bR.setAll [.slice A5 n5 d5, .slice A6 n6 d6] rfl
      generalize setL w9 _ 0 _ = w11 at *
      have u0_ := bR.cell (j := 0) rfl
      have u1_ := bR.cell (j := 1) rfl
      refine bodyPost_ret (by simp only [results, Tryz.results119]; simp [go_sem, u0_, u1_]; rfl) rfl ?_
      exact ⟨_, _, rfl, by rw [Qu.ofP, HF.out]; exact o5.mono (by omega) (by omega), by rw [Qu.ofP, HF.out]; exact o6.mono (by omega) (by omega), b0⟩

end Go.Proofs.YtengaccnncnipaaGreat
