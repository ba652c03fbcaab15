/- Lemmas and walks that the last text of this claim leans on, part 5. No condition. -/
import Derived.Test.YtengaccnncnipaaGreatMcRunOpsD
/- Taking the most urgent interrupt of an interface, the inner functions, in the program and in the reference. Conditions: valid slots, the stack's interrupts lie in them; room. -/
namespace Go.Proofs.YtengaccnncnipaaGreat
open Go.RowKit Go.ChangeShapes Go.WideShapes Go.Deep

def Fa.tkT (st : List Int) (ls : List Sl) (m : Int) : List Int := if Sl.tkOk ls m then st ++ [Sl.tkI ls] else st
def Fa.tkU (st : List Int) (ls : List Sl) (m : Int) : List Int := if Sl.tkOk ls m then st ++ [Sl.tkI ls] else []
set_option maxHeartbeats 4000000 in
theorem specTakeF_in (m : Int) (vt vs vw : Value) (st : List Int) (ls : List Sl) (lw : List Wt) (w : World) {lo hi lo2 hi2 lo3 hi3 : Nat} (h0 : Rd Nm.cells 1 w lo3 hi3 vt st) (h : Rd Sl.cells 3 w lo hi vs ls) (h2 : Rd Wt.cells 2 w lo2 hi2 vw lw) (hh0 : hi3 ≤ w.heap.size) (hh : hi ≤ w.heap.size) (hh2 : hi2 ≤ w.heap.size) (hgood : Sl.good ls = true) (hix : ∀ i ∈ st, ∃ k : Nat, Sl.ix ls i = k ∧ k < ls.length) (hl : st.length ≤ 1048576) (hl2 : lw.length ≤ 1048576) :
    Calls Tryz.prog 62 #[.agg #[.int .i64 m, vt, vs, vw]] w fun e w' => ∃ v0 v1 v2, e = .returned (.tuple #[.agg #[.int .i64 m, v0, v1, v2], .int .i64 (Sl.tkW ls (minI m (Fa.run st ls)))]) ∧ Ow Nm.cells 1 3 w' w.heap.size w'.heap.size v0 (Fa.tkT st ls (minI m (Fa.run st ls))) ∧ Ow Sl.cells 3 127 w' w.heap.size w'.heap.size v1 (Sl.tkL ls (minI m (Fa.run st ls))) ∧ Ow Wt.cells 2 134 w' w.heap.size w'.heap.size v2 lw ∧ Below w.heap.size w w' := by
  have b0 : Below w.heap.size w ((w.alloc (.cells #[.int .i64 m, vt, vs, vw] 35)).alloc (.cells #[.int .i64 0, .slice none 0 0, .slice none 0 0, .slice none 0 0] 35)) := ((Below.refl w.heap.size w).alloc (Nat.le_refl _) _).alloc (by simp) _
  have z0 : ((w.alloc (.cells #[.int .i64 m, vt, vs, vw] 35)).alloc (.cells #[.int .i64 0, .slice none 0 0, .slice none 0 0, .slice none 0 0] 35)).heap.size = w.heap.size + 2 := by simp
  have bx := Box.new w #[.int .i64 m, vt, vs, vw] 35 rfl
  have bR := Box.new (g := w.heap.size + 1) (w.alloc (.cells #[.int .i64 m, vt, vs, vw] 35)) #[.int .i64 0, .slice none 0 0, .slice none 0 0, .slice none 0 0] 35 (by simp)
  replace bx := bx.below ((Below.refl _ (w.alloc (.cells #[.int .i64 m, vt, vs, vw] 35))).alloc (Nat.le_refl _) (.cells #[.int .i64 0, .slice none 0 0, .slice none 0 0, .slice none 0 0] 35)) bx.lt
  have ht := h0.below b0 hh0
  have hs := h.below b0 hh
  have hw := h2.below b0 hh2
  have hv0_ := h0.form
  have hv_ := h.form
  have hv2_ := h2.form
  clear h0 h h2
  generalize hwA : (w.alloc (.cells #[.int .i64 m, vt, vs, vw] 35)).alloc (.cells #[.int .i64 0, .slice none 0 0, .slice none 0 0, .slice none 0 0] 35) = wA at *
  obtain ⟨At, nt, dt, rfl, _, _, _⟩ := hv0_
  obtain ⟨A0, n0, d0, rfl, _, _, _⟩ := hv_
  obtain ⟨A1, n1, d1, rfl, _, _, _⟩ := hv2_
  have HG := Lib.hid hgood
  have HX := Lib.hid hix
  clear hgood hix
  go_enter Tryz.func62, Tryz.ntmps62
  have bx_0 := bx.cell (j := 0) rfl
  have bx_1 := bx.cell (j := 1) rfl
  have bx_2 := bx.cell (j := 2) rfl
  have bx_3 := bx.cell (j := 3) rfl
  have bx_z := bx.frozen
  have bx_l := bx.lt
  have bR_0 := bR.cell (j := 0) rfl
  have bR_1 := bR.cell (j := 1) rfl
  have bR_2 := bR.cell (j := 2) rfl
  have bR_3 := bR.cell (j := 3) rfl
  have bR_z := bR.frozen
  have bR_l := bR.lt
  go_upto_region 1 with fail
  clear hwA
  clear bx_0 bx_1 bx_2 bx_3 bx_z bx_l bR_0 bR_1 bR_2 bR_3 bR_z bR_l
  go_cut [4, 5] (fun s4 s5 wx => ∃ (ww : World) (gT : Nat) (v1 v2 : Value), ww = wx ∧ s4 = .pointer (some ⟨gT, 0, none⟩) ∧ s5 = .int .i64 (Sl.tkW ls (minI m (Fa.run st ls))) ∧ Below wA.heap.size wA wx ∧ wA.heap.size ≤ gT ∧ Box wx gT 33 [v1, v2] ∧ Ow Sl.cells 3 127 wx wA.heap.size wx.heap.size v1 (Sl.tkL ls (minI m (Fa.run st ls))) ∧ Ow Wt.cells 2 134 wx wA.heap.size wx.heap.size v2 lw)
  case first =>
    have bC := Below.refl wA.heap.size wA
    have zB := b0.size
    refine wp_region_held_drew (S := fun W => Box W (w.heap.size) 35 [.int .i64 m, .slice At nt dt, .slice A0 n0 d0, .slice A1 n1 d1]) (by kernel_rfl) (show (fun (W : World) => Box W (w.heap.size) 35 [.int .i64 m, .slice At nt dt, .slice A0 n0 d0, .slice A1 n1 d1]) wA.drew from bx) (fun hHeld => ?_)
    refine wpAnyH_take (i := 0) (v := .pointer (some ⟨w.heap.size, 2, none⟩)) rfl (by kernel_rfl) (by kernel_rfl) (by kernel_rfl) (fun _ _ _ h => h) (Or.inl ⟨by rfl, by intro w hSw; have hS0 := hSw; have y00 := hS0.cell (j := 0) rfl; have y01 := hS0.cell (j := 1) rfl; have y02 := hS0.cell (j := 2) rfl; have y03 := hS0.cell (j := 3) rfl; go_simp⟩) hHeld ?_
    refine wpAnyH_take (i := 1) (v := .agg #[.slice A0 n0 d0, .slice A1 n1 d1]) rfl (by kernel_rfl) (by kernel_rfl) (by kernel_rfl) (fun _ _ _ h => h) (Or.inl ⟨by rfl, by intro w hSw; have hS0 := hSw; have y00 := hS0.cell (j := 0) rfl; have y01 := hS0.cell (j := 1) rfl; have y02 := hS0.cell (j := 2) rfl; have y03 := hS0.cell (j := 3) rfl; go_simp⟩) hHeld ?_
    refine wpAnyH_take (i := 2) (v := .pointer (some ⟨w.heap.size, 0, none⟩)) rfl (by kernel_rfl) (by kernel_rfl) (by kernel_rfl) (fun _ _ _ h => h) (Or.inl ⟨by rfl, by intro w hSw; have hS0 := hSw; have y00 := hS0.cell (j := 0) rfl; have y01 := hS0.cell (j := 1) rfl; have y02 := hS0.cell (j := 2) rfl; have y03 := hS0.cell (j := 3) rfl; go_simp⟩) hHeld ?_
    refine wpAnyH_take (i := 3) (v := .int .i64 m) rfl (by kernel_rfl) (by kernel_rfl) (by kernel_rfl) (fun _ _ _ h => h) (Or.inl ⟨by rfl, by intro w hSw; have hS0 := hSw; have y00 := hS0.cell (j := 0) rfl; have y01 := hS0.cell (j := 1) rfl; have y02 := hS0.cell (j := 2) rfl; have y03 := hS0.cell (j := 3) rfl; go_simp⟩) hHeld ?_
    refine wpAnyH_take (i := 4) (v := .agg #[.int .i64 m, .slice At nt dt, .slice A0 n0 d0, .slice A1 n1 d1]) rfl (by kernel_rfl) (by kernel_rfl) (by kernel_rfl) (fun _ _ _ h => h) (Or.inl ⟨by rfl, by intro w hSw; have hS0 := hSw; have y00 := hS0.cell (j := 0) rfl; have y01 := hS0.cell (j := 1) rfl; have y02 := hS0.cell (j := 2) rfl; have y03 := hS0.cell (j := 3) rfl; go_simp⟩) hHeld ?_
    clear hHeld
    refine held_gen (F := fun W' => Below wA.heap.size wA W') (Below.refl wA.heap.size wA).drew ?_
    rintro w1 b_1
    replace bx := bx.below b_1 bx.lt
    replace bR := bR.below b_1 bR.lt
    replace ht := ht.below b_1 (by omega)
    replace hs := hs.below b_1 (by omega)
    replace hw := hw.below b_1 (by omega)
    have z_2 := b_1.size
    replace bC := bC.trans (b_1.mono (by omega))
    clear b_1
    refine wpAnyH_ready (rs := [5, 11]) (by kernel_rfl) (by decide) ?_
    refine AllReadyH.cons rfl (fun K3a hK3a => ?_) (AllReadyH.cons rfl (fun K3b hK3b => ?_) AllReadyH.nil)
    · go_simp
      refine (specRunning_in m _ _ _ st ls lw w1 ht hs hw (by omega) (by omega) (by omega) HX.out).mono ?_; rintro q_ w4 ⟨rfl, b_4⟩
      replace bx := bx.below b_4 bx.lt
      replace bR := bR.below b_4 bR.lt
      replace ht := ht.below b_4 (by omega)
      replace hs := hs.below b_4 (by omega)
      replace hw := hw.below b_4 (by omega)
      have z_5 := b_4.size
      replace bC := bC.trans (b_4.mono (by omega))
      clear b_4
      refine hK3a.out _ _ bx (fun _ => ?_)
      refine wpAnyH_ready (rs := [6, 11]) (by kernel_rfl) (by decide) ?_
      refine AllReadyH.cons rfl (fun K6a hK6a => ?_) (AllReadyH.cons rfl (fun K6b hK6b => ?_) AllReadyH.nil)
      · go_simp
        refine (l1Least_any m (Fa.run st ls) w4).mono ?_; rintro q_ w_ ⟨rfl, rfl⟩
        refine hK6a.out _ _ bx (fun _ => ?_)
        refine wpAnyH_ready (rs := [7, 11]) (by kernel_rfl) (by decide) ?_
        refine AllReadyH.cons rfl (fun K7a hK7a => ?_) (AllReadyH.cons rfl (fun K7b hK7b => ?_) AllReadyH.nil)
        · go_simp
          refine (specTakeQ_in _ _ ls lw (minI m (Fa.run st ls)) w4 hs hw (by omega) (by omega) HG.out hl2).mono ?_; rintro q_ w8 ⟨v5, v6, rfl, o5, o6, b_8⟩
          replace bx := bx.below b_8 bx.lt
          replace bR := bR.below b_8 bR.lt
          replace ht := ht.below b_8 (by omega)
          replace hs := hs.below b_8 (by omega)
          replace hw := hw.below b_8 (by omega)
          have z_9 := b_8.size
          replace bC := bC.trans (b_8.mono (by omega))
          clear b_8
          obtain ⟨A5, n5, d5, rfl, _, _, _⟩ := o5.rd.form
          obtain ⟨A6, n6, d6, rfl, _, _, _⟩ := o6.rd.form
          refine hK7a.out _ _ bx (fun _ => ?_)
          have hHeld : (fun (W : World) => Box W (w.heap.size) 35 [.int .i64 m, .slice At nt dt, .slice A0 n0 d0, .slice A1 n1 d1]) w8 := bx
          refine wpAnyH_take (i := 8) (v := .tuple #[.agg #[.slice A5 n5 d5, .slice A6 n6 d6], .int .i64 (Sl.tkW ls (minI m (Fa.run st ls)))]) rfl (by kernel_rfl) (by kernel_rfl) (by kernel_rfl) (fun _ _ _ h => h) (Or.inl ⟨by rfl, by intro w hSw; have hS0 := hSw; have y00 := hS0.cell (j := 0) rfl; have y01 := hS0.cell (j := 1) rfl; have y02 := hS0.cell (j := 2) rfl; have y03 := hS0.cell (j := 3) rfl; go_simp⟩) hHeld ?_
          refine wpAnyH_take (i := 9) (v := .agg #[.slice A5 n5 d5, .slice A6 n6 d6]) rfl (by kernel_rfl) (by kernel_rfl) (by kernel_rfl) (fun _ _ _ h => h) (Or.inl ⟨by rfl, by intro w hSw; have hS0 := hSw; have y00 := hS0.cell (j := 0) rfl; have y01 := hS0.cell (j := 1) rfl; have y02 := hS0.cell (j := 2) rfl; have y03 := hS0.cell (j := 3) rfl; go_simp⟩) hHeld ?_
          refine wpAnyH_take (i := 10) (v := .int .i64 (Sl.tkW ls (minI m (Fa.run st ls)))) rfl (by kernel_rfl) (by kernel_rfl) (by kernel_rfl) (fun _ _ _ h => h) (Or.inl ⟨by rfl, by intro w hSw; have hS0 := hSw; have y00 := hS0.cell (j := 0) rfl; have y01 := hS0.cell (j := 1) rfl; have y02 := hS0.cell (j := 2) rfl; have y03 := hS0.cell (j := 3) rfl; go_simp⟩) hHeld ?_
          clear hHeld
          refine wpAnyH_ready (rs := [11]) (by kernel_rfl) (by decide) ?_
          refine AllReadyH.cons rfl (fun K10 hK10 => ?_) AllReadyH.nil
          go_simp
          have b_11 := (Below.refl w8.heap.size w8).alloc (Nat.le_refl _) (.cells #[.slice none 0 0, .slice none 0 0] 33)
          have bT := Box.new w8 #[.slice none 0 0, .slice none 0 0] 33 rfl
          replace bx := bx.below b_11 bx.lt
          replace bR := bR.below b_11 bR.lt
          replace ht := ht.below b_11 (by omega)
          replace hs := hs.below b_11 (by omega)
          replace hw := hw.below b_11 (by omega)
          replace o5 := o5.below b_11 (by omega)
          replace o6 := o6.below b_11 (by omega)
          have z_12 := b_11.size
          replace bC := bC.trans (b_11.mono (by omega))
          clear b_11
          generalize w8.alloc _ = w11 at *
          generalize w8.heap.size = g11 at *
          refine hK10.out _ _ bx (fun _ => ?_)
          refine wpAnyH_ready (rs := [12]) (by kernel_rfl) (by decide) ?_
          refine AllReadyH.cons rfl (fun K13 hK13 => ?_) AllReadyH.nil
          have bx_0 := bx.cell (j := 0) rfl
          have bx_1 := bx.cell (j := 1) rfl
          have bx_2 := bx.cell (j := 2) rfl
          have bx_3 := bx.cell (j := 3) rfl
          have bx_z := bx.frozen
          have bx_l := bx.lt
          have bR_0 := bR.cell (j := 0) rfl
          have bR_1 := bR.cell (j := 1) rfl
          have bR_2 := bR.cell (j := 2) rfl
          have bR_3 := bR.cell (j := 3) rfl
          have bR_z := bR.frozen
          have bR_l := bR.lt
          have bT_0 := bT.cell (j := 0) rfl
          have bT_1 := bT.cell (j := 1) rfl
          have bT_z := bT.frozen
          have bT_l := bT.lt
          go_simp
          clear bx_0 bx_1 bx_2 bx_3 bx_z bx_l bR_0 bR_1 bR_2 bR_3 bR_z bR_l bT_0 bT_1 bT_z bT_l
          generalize hwz : World.setCell (World.setCell _ _ _) _ _ = wz_
          obtain rfl : wz_ = setL w11 (g11) 0 [.slice A5 n5 d5, .slice A6 n6 d6] := hwz.symm
          clear hwz
          replace bx := bx.other (b := g11) (by omega) 0 [.slice A5 n5 d5, .slice A6 n6 d6]
          replace bR := bR.other (b := g11) (by omega) 0 [.slice A5 n5 d5, .slice A6 n6 d6]
          replace ht := ht.away (g := g11) (by omega) 0 [.slice A5 n5 d5, .slice A6 n6 d6]
          replace hs := hs.away (g := g11) (by omega) 0 [.slice A5 n5 d5, .slice A6 n6 d6]
          replace hw := hw.away (g := g11) (by omega) 0 [.slice A5 n5 d5, .slice A6 n6 d6]
          replace o5 := o5.box (g := g11) bT (by decide) 0 [.slice A5 n5 d5, .slice A6 n6 d6]
          replace o6 := o6.box (g := g11) bT (by decide) 0 [.slice A5 n5 d5, .slice A6 n6 d6]
          replace bC := setL_below bC [.slice A5 n5 d5, .slice A6 n6 d6] (g11) 0 (by omega)
          have zs_14 : (setL w11 (g11) 0 [.slice A5 n5 d5, .slice A6 n6 d6]).heap.size = w11.heap.size := setL_size _ _ _ _
          replace bT := bT.setAll [.slice A5 n5 d5, .slice A6 n6 d6] rfl
          generalize setL w11 _ 0 _ = w14 at *
          refine hK13.out _ _ bx (fun _ => ?_)
          refine wpAnyH_ready (rs := [13]) (by kernel_rfl) (by decide) ?_
          refine AllReadyH.cons rfl (fun K15 hK15 => ?_) AllReadyH.nil
          go_simp
          refine hK15.out _ _ bx (fun _ => ?_)
          refine ⟨by kernel_rfl, ?_⟩
          have bx_0 := bx.cell (j := 0) rfl
          have bx_1 := bx.cell (j := 1) rfl
          have bx_2 := bx.cell (j := 2) rfl
          have bx_3 := bx.cell (j := 3) rfl
          have bx_z := bx.frozen
          have bx_l := bx.lt
          have bR_0 := bR.cell (j := 0) rfl
          have bR_1 := bR.cell (j := 1) rfl
          have bR_2 := bR.cell (j := 2) rfl
          have bR_3 := bR.cell (j := 3) rfl
          have bR_z := bR.frozen
          have bR_l := bR.lt
          have bT_0 := bT.cell (j := 0) rfl
          have bT_1 := bT.cell (j := 1) rfl
          have bT_z := bT.frozen
          have bT_l := bT.lt
          go_wp2_with fail
          clear bx_0 bx_1 bx_2 bx_3 bx_z bx_l bR_0 bR_1 bR_2 bR_3 bR_z bR_l bT_0 bT_1 bT_z bT_l
          go_meet
          exact ⟨_, _, _, _, rfl, rfl, rfl, bC, by omega, bT, o5.mono (by omega) (by omega), o6.mono (by omega) (by omega)⟩
        · go_simp
          have b_8 := (Below.refl w4.heap.size w4).alloc (Nat.le_refl _) (.cells #[.slice none 0 0, .slice none 0 0] 33)
          have bT := Box.new w4 #[.slice none 0 0, .slice none 0 0] 33 rfl
          replace bx := bx.below b_8 bx.lt
          replace bR := bR.below b_8 bR.lt
          replace ht := ht.below b_8 (by omega)
          replace hs := hs.below b_8 (by omega)
          replace hw := hw.below b_8 (by omega)
          have z_9 := b_8.size
          replace bC := bC.trans (b_8.mono (by omega))
          clear b_8
          generalize w4.alloc _ = w8 at *
          generalize w4.heap.size = g8 at *
          refine hK7b.out _ _ bx (fun _ => ?_)
          refine wpAnyH_ready (rs := [7]) (by kernel_rfl) (by decide) ?_
          refine AllReadyH.cons rfl (fun K10 hK10 => ?_) AllReadyH.nil
          go_simp
          refine (specTakeQ_in _ _ ls lw (minI m (Fa.run st ls)) w8 hs hw (by omega) (by omega) HG.out hl2).mono ?_; rintro q_ w11 ⟨v5, v6, rfl, o5, o6, b_11⟩
          replace bx := bx.below b_11 bx.lt
          replace bR := bR.below b_11 bR.lt
          replace bT := bT.below b_11 bT.lt
          replace ht := ht.below b_11 (by omega)
          replace hs := hs.below b_11 (by omega)
          replace hw := hw.below b_11 (by omega)
          have z_12 := b_11.size
          replace bC := bC.trans (b_11.mono (by omega))
          clear b_11
          obtain ⟨A5, n5, d5, rfl, _, _, _⟩ := o5.rd.form
          obtain ⟨A6, n6, d6, rfl, _, _, _⟩ := o6.rd.form
          refine hK10.out _ _ bx (fun _ => ?_)
          have hHeld : (fun (W : World) => Box W (w.heap.size) 35 [.int .i64 m, .slice At nt dt, .slice A0 n0 d0, .slice A1 n1 d1]) w11 := bx
          refine wpAnyH_take (i := 8) (v := .tuple #[.agg #[.slice A5 n5 d5, .slice A6 n6 d6], .int .i64 (Sl.tkW ls (minI m (Fa.run st ls)))]) rfl (by kernel_rfl) (by kernel_rfl) (by kernel_rfl) (fun _ _ _ h => h) (Or.inl ⟨by rfl, by intro w hSw; have hS0 := hSw; have y00 := hS0.cell (j := 0) rfl; have y01 := hS0.cell (j := 1) rfl; have y02 := hS0.cell (j := 2) rfl; have y03 := hS0.cell (j := 3) rfl; go_simp⟩) hHeld ?_
          refine wpAnyH_take (i := 9) (v := .agg #[.slice A5 n5 d5, .slice A6 n6 d6]) rfl (by kernel_rfl) (by kernel_rfl) (by kernel_rfl) (fun _ _ _ h => h) (Or.inl ⟨by rfl, by intro w hSw; have hS0 := hSw; have y00 := hS0.cell (j := 0) rfl; have y01 := hS0.cell (j := 1) rfl; have y02 := hS0.cell (j := 2) rfl; have y03 := hS0.cell (j := 3) rfl; go_simp⟩) hHeld ?_
          refine wpAnyH_take (i := 10) (v := .int .i64 (Sl.tkW ls (minI m (Fa.run st ls)))) rfl (by kernel_rfl) (by kernel_rfl) (by kernel_rfl) (fun _ _ _ h => h) (Or.inl ⟨by rfl, by intro w hSw; have hS0 := hSw; have y00 := hS0.cell (j := 0) rfl; have y01 := hS0.cell (j := 1) rfl; have y02 := hS0.cell (j := 2) rfl; have y03 := hS0.cell (j := 3) rfl; go_simp⟩) hHeld ?_
          clear hHeld
          refine wpAnyH_ready (rs := [12]) (by kernel_rfl) (by decide) ?_
          refine AllReadyH.cons rfl (fun K13 hK13 => ?_) AllReadyH.nil
          have bx_0 := bx.cell (j := 0) rfl
          have bx_1 := bx.cell (j := 1) rfl
          have bx_2 := bx.cell (j := 2) rfl
          have bx_3 := bx.cell (j := 3) rfl
          have bx_z := bx.frozen
          have bx_l := bx.lt
          have bR_0 := bR.cell (j := 0) rfl
          have bR_1 := bR.cell (j := 1) rfl
          have bR_2 := bR.cell (j := 2) rfl
          have bR_3 := bR.cell (j := 3) rfl
          have bR_z := bR.frozen
          have bR_l := bR.lt
          have bT_0 := bT.cell (j := 0) rfl
          have bT_1 := bT.cell (j := 1) rfl
          have bT_z := bT.frozen
          have bT_l := bT.lt
          go_simp
          clear bx_0 bx_1 bx_2 bx_3 bx_z bx_l bR_0 bR_1 bR_2 bR_3 bR_z bR_l bT_0 bT_1 bT_z bT_l
          generalize hwz : World.setCell (World.setCell _ _ _) _ _ = wz_
          obtain rfl : wz_ = setL w11 (g8) 0 [.slice A5 n5 d5, .slice A6 n6 d6] := hwz.symm
          clear hwz
          replace bx := bx.other (b := g8) (by omega) 0 [.slice A5 n5 d5, .slice A6 n6 d6]
          replace bR := bR.other (b := g8) (by omega) 0 [.slice A5 n5 d5, .slice A6 n6 d6]
          replace ht := ht.away (g := g8) (by omega) 0 [.slice A5 n5 d5, .slice A6 n6 d6]
          replace hs := hs.away (g := g8) (by omega) 0 [.slice A5 n5 d5, .slice A6 n6 d6]
          replace hw := hw.away (g := g8) (by omega) 0 [.slice A5 n5 d5, .slice A6 n6 d6]
          replace o5 := o5.box (g := g8) bT (by decide) 0 [.slice A5 n5 d5, .slice A6 n6 d6]
          replace o6 := o6.box (g := g8) bT (by decide) 0 [.slice A5 n5 d5, .slice A6 n6 d6]
          replace bC := setL_below bC [.slice A5 n5 d5, .slice A6 n6 d6] (g8) 0 (by omega)
          have zs_14 : (setL w11 (g8) 0 [.slice A5 n5 d5, .slice A6 n6 d6]).heap.size = w11.heap.size := setL_size _ _ _ _
          replace bT := bT.setAll [.slice A5 n5 d5, .slice A6 n6 d6] rfl
          generalize setL w11 _ 0 _ = w14 at *
          refine hK13.out _ _ bx (fun _ => ?_)
          refine wpAnyH_ready (rs := [13]) (by kernel_rfl) (by decide) ?_
          refine AllReadyH.cons rfl (fun K15 hK15 => ?_) AllReadyH.nil
          go_simp
          refine hK15.out _ _ bx (fun _ => ?_)
          refine ⟨by kernel_rfl, ?_⟩
          have bx_0 := bx.cell (j := 0) rfl
          have bx_1 := bx.cell (j := 1) rfl
          have bx_2 := bx.cell (j := 2) rfl
          have bx_3 := bx.cell (j := 3) rfl
          have bx_z := bx.frozen
          have bx_l := bx.lt
          have bR_0 := bR.cell (j := 0) rfl
          have bR_1 := bR.cell (j := 1) rfl
          have bR_2 := bR.cell (j := 2) rfl
          have bR_3 := bR.cell (j := 3) rfl
          have bR_z := bR.frozen
          have bR_l := bR.lt
          have bT_0 := bT.cell (j := 0) rfl
          have bT_1 := bT.cell (j := 1) rfl
          have bT_z := bT.frozen
          have bT_l := bT.lt
          go_wp2_with fail
          clear bx_0 bx_1 bx_2 bx_3 bx_z bx_l bR_0 bR_1 bR_2 bR_3 bR_z bR_l bT_0 bT_1 bT_z bT_l
          go_meet
          exact ⟨_, _, _, _, rfl, rfl, rfl, bC, by omega, bT, o5.mono (by omega) (by omega), o6.mono (by omega) (by omega)⟩
      · go_simp
        have b_7 := (Below.refl w4.heap.size w4).alloc (Nat.le_refl _) (.cells #[.slice none 0 0, .slice none 0 0] 33)
        have bT := Box.new w4 #[.slice none 0 0, .slice none 0 0] 33 rfl
        replace bx := bx.below b_7 bx.lt
        replace bR := bR.below b_7 bR.lt
        replace ht := ht.below b_7 (by omega)
        replace hs := hs.below b_7 (by omega)
        replace hw := hw.below b_7 (by omega)
        have z_8 := b_7.size
        replace bC := bC.trans (b_7.mono (by omega))
        clear b_7
        generalize w4.alloc _ = w7 at *
        generalize w4.heap.size = g7 at *
        refine hK6b.out _ _ bx (fun _ => ?_)
        refine wpAnyH_ready (rs := [6]) (by kernel_rfl) (by decide) ?_
        refine AllReadyH.cons rfl (fun K9 hK9 => ?_) AllReadyH.nil
        go_simp
        refine (l1Least_any m (Fa.run st ls) w7).mono ?_; rintro q_ w_ ⟨rfl, rfl⟩
        refine hK9.out _ _ bx (fun _ => ?_)
        refine wpAnyH_ready (rs := [7]) (by kernel_rfl) (by decide) ?_
        refine AllReadyH.cons rfl (fun K10 hK10 => ?_) AllReadyH.nil
        go_simp
        refine (specTakeQ_in _ _ ls lw (minI m (Fa.run st ls)) w7 hs hw (by omega) (by omega) HG.out hl2).mono ?_; rintro q_ w11 ⟨v5, v6, rfl, o5, o6, b_11⟩
        replace bx := bx.below b_11 bx.lt
        replace bR := bR.below b_11 bR.lt
        replace bT := bT.below b_11 bT.lt
        replace ht := ht.below b_11 (by omega)
        replace hs := hs.below b_11 (by omega)
        replace hw := hw.below b_11 (by omega)
        have z_12 := b_11.size
        replace bC := bC.trans (b_11.mono (by omega))
        clear b_11
        obtain ⟨A5, n5, d5, rfl, _, _, _⟩ := o5.rd.form
        obtain ⟨A6, n6, d6, rfl, _, _, _⟩ := o6.rd.form
        refine hK10.out _ _ bx (fun _ => ?_)
        have hHeld : (fun (W : World) => Box W (w.heap.size) 35 [.int .i64 m, .slice At nt dt, .slice A0 n0 d0, .slice A1 n1 d1]) w11 := bx
        refine wpAnyH_take (i := 8) (v := .tuple #[.agg #[.slice A5 n5 d5, .slice A6 n6 d6], .int .i64 (Sl.tkW ls (minI m (Fa.run st ls)))]) rfl (by kernel_rfl) (by kernel_rfl) (by kernel_rfl) (fun _ _ _ h => h) (Or.inl ⟨by rfl, by intro w hSw; have hS0 := hSw; have y00 := hS0.cell (j := 0) rfl; have y01 := hS0.cell (j := 1) rfl; have y02 := hS0.cell (j := 2) rfl; have y03 := hS0.cell (j := 3) rfl; go_simp⟩) hHeld ?_
        refine wpAnyH_take (i := 9) (v := .agg #[.slice A5 n5 d5, .slice A6 n6 d6]) rfl (by kernel_rfl) (by kernel_rfl) (by kernel_rfl) (fun _ _ _ h => h) (Or.inl ⟨by rfl, by intro w hSw; have hS0 := hSw; have y00 := hS0.cell (j := 0) rfl; have y01 := hS0.cell (j := 1) rfl; have y02 := hS0.cell (j := 2) rfl; have y03 := hS0.cell (j := 3) rfl; go_simp⟩) hHeld ?_
        refine wpAnyH_take (i := 10) (v := .int .i64 (Sl.tkW ls (minI m (Fa.run st ls)))) rfl (by kernel_rfl) (by kernel_rfl) (by kernel_rfl) (fun _ _ _ h => h) (Or.inl ⟨by rfl, by intro w hSw; have hS0 := hSw; have y00 := hS0.cell (j := 0) rfl; have y01 := hS0.cell (j := 1) rfl; have y02 := hS0.cell (j := 2) rfl; have y03 := hS0.cell (j := 3) rfl; go_simp⟩) hHeld ?_
        clear hHeld
        refine wpAnyH_ready (rs := [12]) (by kernel_rfl) (by decide) ?_
        refine AllReadyH.cons rfl (fun K13 hK13 => ?_) AllReadyH.nil
        have bx_0 := bx.cell (j := 0) rfl
        have bx_1 := bx.cell (j := 1) rfl
        have bx_2 := bx.cell (j := 2) rfl
        have bx_3 := bx.cell (j := 3) rfl
        have bx_z := bx.frozen
        have bx_l := bx.lt
        have bR_0 := bR.cell (j := 0) rfl
        have bR_1 := bR.cell (j := 1) rfl
        have bR_2 := bR.cell (j := 2) rfl
        have bR_3 := bR.cell (j := 3) rfl
        have bR_z := bR.frozen
        have bR_l := bR.lt
        have bT_0 := bT.cell (j := 0) rfl
        have bT_1 := bT.cell (j := 1) rfl
        have bT_z := bT.frozen
        have bT_l := bT.lt
        go_simp
        clear bx_0 bx_1 bx_2 bx_3 bx_z bx_l bR_0 bR_1 bR_2 bR_3 bR_z bR_l bT_0 bT_1 bT_z bT_l
        generalize hwz : World.setCell (World.setCell _ _ _) _ _ = wz_
        obtain rfl : wz_ = setL w11 (g7) 0 [.slice A5 n5 d5, .slice A6 n6 d6] := hwz.symm
        clear hwz
        replace bx := bx.other (b := g7) (by omega) 0 [.slice A5 n5 d5, .slice A6 n6 d6]
        replace bR := bR.other (b := g7) (by omega) 0 [.slice A5 n5 d5, .slice A6 n6 d6]
        replace ht := ht.away (g := g7) (by omega) 0 [.slice A5 n5 d5, .slice A6 n6 d6]
        replace hs := hs.away (g := g7) (by omega) 0 [.slice A5 n5 d5, .slice A6 n6 d6]
        replace hw := hw.away (g := g7) (by omega) 0 [.slice A5 n5 d5, .slice A6 n6 d6]
        replace o5 := o5.box (g := g7) bT (by decide) 0 [.slice A5 n5 d5, .slice A6 n6 d6]
        replace o6 := o6.box (g := g7) bT (by decide) 0 [.slice A5 n5 d5, .slice A6 n6 d6]
        replace bC := setL_below bC [.slice A5 n5 d5, .slice A6 n6 d6] (g7) 0 (by omega)
        have zs_14 : (setL w11 (g7) 0 [.slice A5 n5 d5, .slice A6 n6 d6]).heap.size = w11.heap.size := setL_size _ _ _ _
        replace bT := bT.setAll [.slice A5 n5 d5, .slice A6 n6 d6] rfl
        generalize setL w11 _ 0 _ = w14 at *
        refine hK13.out _ _ bx (fun _ => ?_)
        refine wpAnyH_ready (rs := [13]) (by kernel_rfl) (by decide) ?_
        refine AllReadyH.cons rfl (fun K15 hK15 => ?_) AllReadyH.nil
        go_simp
        refine hK15.out _ _ bx (fun _ => ?_)
        refine ⟨by kernel_rfl, ?_⟩
        have bx_0 := bx.cell (j := 0) rfl
        have bx_1 := bx.cell (j := 1) rfl
        have bx_2 := bx.cell (j := 2) rfl
        have bx_3 := bx.cell (j := 3) rfl
        have bx_z := bx.frozen
        have bx_l := bx.lt
        have bR_0 := bR.cell (j := 0) rfl
        have bR_1 := bR.cell (j := 1) rfl
        have bR_2 := bR.cell (j := 2) rfl
        have bR_3 := bR.cell (j := 3) rfl
        have bR_z := bR.frozen
        have bR_l := bR.lt
        have bT_0 := bT.cell (j := 0) rfl
        have bT_1 := bT.cell (j := 1) rfl
        have bT_z := bT.frozen
        have bT_l := bT.lt
        go_wp2_with fail
        clear bx_0 bx_1 bx_2 bx_3 bx_z bx_l bR_0 bR_1 bR_2 bR_3 bR_z bR_l bT_0 bT_1 bT_z bT_l
        go_meet
        exact ⟨_, _, _, _, rfl, rfl, rfl, bC, by omega, bT, o5.mono (by omega) (by omega), o6.mono (by omega) (by omega)⟩
    · go_simp
      have b_4 := (Below.refl w1.heap.size w1).alloc (Nat.le_refl _) (.cells #[.slice none 0 0, .slice none 0 0] 33)
      have bT := Box.new w1 #[.slice none 0 0, .slice none 0 0] 33 rfl
      replace bx := bx.below b_4 bx.lt
      replace bR := bR.below b_4 bR.lt
      replace ht := ht.below b_4 (by omega)
      replace hs := hs.below b_4 (by omega)
      replace hw := hw.below b_4 (by omega)
      have z_5 := b_4.size
      replace bC := bC.trans (b_4.mono (by omega))
      clear b_4
      generalize w1.alloc _ = w4 at *
      generalize w1.heap.size = g4 at *
      refine hK3b.out _ _ bx (fun _ => ?_)
      refine wpAnyH_ready (rs := [5]) (by kernel_rfl) (by decide) ?_
      refine AllReadyH.cons rfl (fun K6 hK6 => ?_) AllReadyH.nil
      go_simp
      refine (specRunning_in m _ _ _ st ls lw w4 ht hs hw (by omega) (by omega) (by omega) HX.out).mono ?_; rintro q_ w7 ⟨rfl, b_7⟩
      replace bx := bx.below b_7 bx.lt
      replace bR := bR.below b_7 bR.lt
      replace bT := bT.below b_7 bT.lt
      replace ht := ht.below b_7 (by omega)
      replace hs := hs.below b_7 (by omega)
      replace hw := hw.below b_7 (by omega)
      have z_8 := b_7.size
      replace bC := bC.trans (b_7.mono (by omega))
      clear b_7
      refine hK6.out _ _ bx (fun _ => ?_)
      refine wpAnyH_ready (rs := [6]) (by kernel_rfl) (by decide) ?_
      refine AllReadyH.cons rfl (fun K9 hK9 => ?_) AllReadyH.nil
      go_simp
      refine (l1Least_any m (Fa.run st ls) w7).mono ?_; rintro q_ w_ ⟨rfl, rfl⟩
      refine hK9.out _ _ bx (fun _ => ?_)
      refine wpAnyH_ready (rs := [7]) (by kernel_rfl) (by decide) ?_
      refine AllReadyH.cons rfl (fun K10 hK10 => ?_) AllReadyH.nil
      go_simp
      refine (specTakeQ_in _ _ ls lw (minI m (Fa.run st ls)) w7 hs hw (by omega) (by omega) HG.out hl2).mono ?_; rintro q_ w11 ⟨v5, v6, rfl, o5, o6, b_11⟩
      replace bx := bx.below b_11 bx.lt
      replace bR := bR.below b_11 bR.lt
      replace bT := bT.below b_11 bT.lt
      replace ht := ht.below b_11 (by omega)
      replace hs := hs.below b_11 (by omega)
      replace hw := hw.below b_11 (by omega)
      have z_12 := b_11.size
      replace bC := bC.trans (b_11.mono (by omega))
      clear b_11
      obtain ⟨A5, n5, d5, rfl, _, _, _⟩ := o5.rd.form
      obtain ⟨A6, n6, d6, rfl, _, _, _⟩ := o6.rd.form
      refine hK10.out _ _ bx (fun _ => ?_)
      have hHeld : (fun (W : World) => Box W (w.heap.size) 35 [.int .i64 m, .slice At nt dt, .slice A0 n0 d0, .slice A1 n1 d1]) w11 := bx
      refine wpAnyH_take (i := 8) (v := .tuple #[.agg #[.slice A5 n5 d5, .slice A6 n6 d6], .int .i64 (Sl.tkW ls (minI m (Fa.run st ls)))]) rfl (by kernel_rfl) (by kernel_rfl) (by kernel_rfl) (fun _ _ _ h => h) (Or.inl ⟨by rfl, by intro w hSw; have hS0 := hSw; have y00 := hS0.cell (j := 0) rfl; have y01 := hS0.cell (j := 1) rfl; have y02 := hS0.cell (j := 2) rfl; have y03 := hS0.cell (j := 3) rfl; go_simp⟩) hHeld ?_
      refine wpAnyH_take (i := 9) (v := .agg #[.slice A5 n5 d5, .slice A6 n6 d6]) rfl (by kernel_rfl) (by kernel_rfl) (by kernel_rfl) (fun _ _ _ h => h) (Or.inl ⟨by rfl, by intro w hSw; have hS0 := hSw; have y00 := hS0.cell (j := 0) rfl; have y01 := hS0.cell (j := 1) rfl; have y02 := hS0.cell (j := 2) rfl; have y03 := hS0.cell (j := 3) rfl; go_simp⟩) hHeld ?_
      refine wpAnyH_take (i := 10) (v := .int .i64 (Sl.tkW ls (minI m (Fa.run st ls)))) rfl (by kernel_rfl) (by kernel_rfl) (by kernel_rfl) (fun _ _ _ h => h) (Or.inl ⟨by rfl, by intro w hSw; have hS0 := hSw; have y00 := hS0.cell (j := 0) rfl; have y01 := hS0.cell (j := 1) rfl; have y02 := hS0.cell (j := 2) rfl; have y03 := hS0.cell (j := 3) rfl; go_simp⟩) hHeld ?_
      clear hHeld
      refine wpAnyH_ready (rs := [12]) (by kernel_rfl) (by decide) ?_
      refine AllReadyH.cons rfl (fun K13 hK13 => ?_) AllReadyH.nil
      have bx_0 := bx.cell (j := 0) rfl
      have bx_1 := bx.cell (j := 1) rfl
      have bx_2 := bx.cell (j := 2) rfl
      have bx_3 := bx.cell (j := 3) rfl
      have bx_z := bx.frozen
      have bx_l := bx.lt
      have bR_0 := bR.cell (j := 0) rfl
      have bR_1 := bR.cell (j := 1) rfl
      have bR_2 := bR.cell (j := 2) rfl
      have bR_3 := bR.cell (j := 3) rfl
      have bR_z := bR.frozen
      have bR_l := bR.lt
      have bT_0 := bT.cell (j := 0) rfl
      have bT_1 := bT.cell (j := 1) rfl
      have bT_z := bT.frozen
      have bT_l := bT.lt
      go_simp
      clear bx_0 bx_1 bx_2 bx_3 bx_z bx_l bR_0 bR_1 bR_2 bR_3 bR_z bR_l bT_0 bT_1 bT_z bT_l
      generalize hwz : World.setCell (World.setCell _ _ _) _ _ = wz_
      obtain rfl : wz_ = setL w11 (g4) 0 [.slice A5 n5 d5, .slice A6 n6 d6] := hwz.symm
      clear hwz
      replace bx := bx.other (b := g4) (by omega) 0 [.slice A5 n5 d5, .slice A6 n6 d6]
      replace bR := bR.other (b := g4) (by omega) 0 [.slice A5 n5 d5, .slice A6 n6 d6]
      replace ht := ht.away (g := g4) (by omega) 0 [.slice A5 n5 d5, .slice A6 n6 d6]
      replace hs := hs.away (g := g4) (by omega) 0 [.slice A5 n5 d5, .slice A6 n6 d6]
      replace hw := hw.away (g := g4) (by omega) 0 [.slice A5 n5 d5, .slice A6 n6 d6]
      replace o5 := o5.box (g := g4) bT (by decide) 0 [.slice A5 n5 d5, .slice A6 n6 d6]
      replace o6 := o6.box (g := g4) bT (by decide) 0 [.slice A5 n5 d5, .slice A6 n6 d6]
      replace bC := setL_below bC [.slice A5 n5 d5, .slice A6 n6 d6] (g4) 0 (by omega)
      have zs_14 : (setL w11 (g4) 0 [.slice A5 n5 d5, .slice A6 n6 d6]).heap.size = w11.heap.size := setL_size _ _ _ _
      replace bT := bT.setAll [.slice A5 n5 d5, .slice A6 n6 d6] rfl
      generalize setL w11 _ 0 _ = w14 at *
      refine hK13.out _ _ bx (fun _ => ?_)
      refine wpAnyH_ready (rs := [13]) (by kernel_rfl) (by decide) ?_
      refine AllReadyH.cons rfl (fun K15 hK15 => ?_) AllReadyH.nil
      go_simp
      refine hK15.out _ _ bx (fun _ => ?_)
      refine ⟨by kernel_rfl, ?_⟩
      have bx_0 := bx.cell (j := 0) rfl
      have bx_1 := bx.cell (j := 1) rfl
      have bx_2 := bx.cell (j := 2) rfl
      have bx_3 := bx.cell (j := 3) rfl
      have bx_z := bx.frozen
      have bx_l := bx.lt
      have bR_0 := bR.cell (j := 0) rfl
      have bR_1 := bR.cell (j := 1) rfl
      have bR_2 := bR.cell (j := 2) rfl
      have bR_3 := bR.cell (j := 3) rfl
      have bR_z := bR.frozen
      have bR_l := bR.lt
      have bT_0 := bT.cell (j := 0) rfl
      have bT_1 := bT.cell (j := 1) rfl
      have bT_z := bT.frozen
      have bT_l := bT.lt
      go_wp2_with fail
      clear bx_0 bx_1 bx_2 bx_3 bx_z bx_l bR_0 bR_1 bR_2 bR_3 bR_z bR_l bT_0 bT_1 bT_z bT_l
      go_meet
      exact ⟨_, _, _, _, rfl, rfl, rfl, bC, by omega, bT, o5.mono (by omega) (by omega), o6.mono (by omega) (by omega)⟩
  case rest =>
    obtain ⟨wx, gT, v1, v2, rfl, rfl, rfl, bC, zT, bT, o5, o6⟩ := hcut
    replace bx := bx.below bC bx.lt
    replace bR := bR.below bC bR.lt
    replace ht := ht.below bC (by omega)
    replace hs := hs.below bC (by omega)
    replace hw := hw.below bC (by omega)
    have z_51 := bC.size
    replace b0 := b0.trans (bC.mono (by omega))
    clear bC
    obtain ⟨A5, n5, d5, rfl, _, _, _⟩ := o5.rd.form
    obtain ⟨A6, n6, d6, rfl, _, _, _⟩ := o6.rd.form
    have zTl := bT.lt
    have bx_0 := bx.cell (j := 0) rfl
    have bx_1 := bx.cell (j := 1) rfl
    have bx_2 := bx.cell (j := 2) rfl
    have bx_3 := bx.cell (j := 3) rfl
    have bx_z := bx.frozen
    have bx_l := bx.lt
    have bR_0 := bR.cell (j := 0) rfl
    have bR_1 := bR.cell (j := 1) rfl
    have bR_2 := bR.cell (j := 2) rfl
    have bR_3 := bR.cell (j := 3) rfl
    have bR_z := bR.frozen
    have bR_l := bR.lt
    have bT_0 := bT.cell (j := 0) rfl
    have bT_1 := bT.cell (j := 1) rfl
    have bT_z := bT.frozen
    have bT_l := bT.lt
    go_upto_region 2 with fail
    clear bx_0 bx_1 bx_2 bx_3 bx_z bx_l bR_0 bR_1 bR_2 bR_3 bR_z bR_l bT_0 bT_1 bT_z bT_l
    go_cut [6] (fun s6 wy => ∃ (ww : World) (gO : Nat) (v3 : Value), ww = wy ∧ s6 = .pointer (some ⟨gO, 0, none⟩) ∧ Below wx.heap.size wx wy ∧ wx.heap.size ≤ gO ∧ Box wy gO 35 [.int .i64 m, v3, .slice A5 n5 d5, .slice A6 n6 d6] ∧ wy.ownsRow wx.heap.size 3 1 v3 st.length (st.flatMap Nm.cells))
    case first =>
        have bD := Below.refl wx.heap.size wx
        have zB2 := b0.size
        refine wp_region_held_drew (S := fun W => Box W (w.heap.size) 35 [.int .i64 m, .slice At nt dt, .slice A0 n0 d0, .slice A1 n1 d1] ∧ Box W (gT) 33 [.slice A5 n5 d5, .slice A6 n6 d6]) (by kernel_rfl) (show (fun (W : World) => Box W (w.heap.size) 35 [.int .i64 m, .slice At nt dt, .slice A0 n0 d0, .slice A1 n1 d1] ∧ Box W (gT) 33 [.slice A5 n5 d5, .slice A6 n6 d6]) wx.drew from ⟨bx, bT⟩) (fun hHeld => ?_)
        refine wpAnyH_take (i := 0) (v := .pointer (some ⟨w.heap.size, 0, none⟩)) rfl (by kernel_rfl) (by kernel_rfl) (by kernel_rfl) (fun _ _ _ h => h) (Or.inl ⟨by rfl, by intro w hSw; obtain ⟨hS0, hS1⟩ := hSw; have y00 := hS0.cell (j := 0) rfl; have y01 := hS0.cell (j := 1) rfl; have y02 := hS0.cell (j := 2) rfl; have y03 := hS0.cell (j := 3) rfl; have y10 := hS1.cell (j := 0) rfl; have y11 := hS1.cell (j := 1) rfl; go_simp⟩) hHeld ?_
        refine wpAnyH_take (i := 1) (v := .int .i64 m) rfl (by kernel_rfl) (by kernel_rfl) (by kernel_rfl) (fun _ _ _ h => h) (Or.inl ⟨by rfl, by intro w hSw; obtain ⟨hS0, hS1⟩ := hSw; have y00 := hS0.cell (j := 0) rfl; have y01 := hS0.cell (j := 1) rfl; have y02 := hS0.cell (j := 2) rfl; have y03 := hS0.cell (j := 3) rfl; have y10 := hS1.cell (j := 0) rfl; have y11 := hS1.cell (j := 1) rfl; go_simp⟩) hHeld ?_
        refine wpAnyH_take (i := 2) (v := .pointer (some ⟨w.heap.size, 1, none⟩)) rfl (by kernel_rfl) (by kernel_rfl) (by kernel_rfl) (fun _ _ _ h => h) (Or.inl ⟨by rfl, by intro w hSw; obtain ⟨hS0, hS1⟩ := hSw; have y00 := hS0.cell (j := 0) rfl; have y01 := hS0.cell (j := 1) rfl; have y02 := hS0.cell (j := 2) rfl; have y03 := hS0.cell (j := 3) rfl; have y10 := hS1.cell (j := 0) rfl; have y11 := hS1.cell (j := 1) rfl; go_simp⟩) hHeld ?_
        refine wpAnyH_take (i := 3) (v := .slice At nt dt) rfl (by kernel_rfl) (by kernel_rfl) (by kernel_rfl) (fun _ _ _ h => h) (Or.inl ⟨by rfl, by intro w hSw; obtain ⟨hS0, hS1⟩ := hSw; have y00 := hS0.cell (j := 0) rfl; have y01 := hS0.cell (j := 1) rfl; have y02 := hS0.cell (j := 2) rfl; have y03 := hS0.cell (j := 3) rfl; have y10 := hS1.cell (j := 0) rfl; have y11 := hS1.cell (j := 1) rfl; go_simp⟩) hHeld ?_
        refine wpAnyH_take (i := 5) (v := .agg #[.slice A5 n5 d5, .slice A6 n6 d6]) rfl (by kernel_rfl) (by kernel_rfl) (by kernel_rfl) (fun _ _ _ h => h) (Or.inl ⟨by rfl, by intro w hSw; obtain ⟨hS0, hS1⟩ := hSw; have y00 := hS0.cell (j := 0) rfl; have y01 := hS0.cell (j := 1) rfl; have y02 := hS0.cell (j := 2) rfl; have y03 := hS0.cell (j := 3) rfl; have y10 := hS1.cell (j := 0) rfl; have y11 := hS1.cell (j := 1) rfl; go_simp⟩) hHeld ?_
        clear hHeld
        refine held_gen (F := fun W' => Below wx.heap.size wx W') (Below.refl wx.heap.size wx).drew ?_
        rintro w52 b_52
        replace bx := bx.below b_52 bx.lt
        replace bR := bR.below b_52 bR.lt
        replace bT := bT.below b_52 bT.lt
        replace ht := ht.below b_52 (by omega)
        replace hs := hs.below b_52 (by omega)
        replace hw := hw.below b_52 (by omega)
        replace o5 := o5.below b_52 (by omega)
        replace o6 := o6.below b_52 (by omega)
        have z_53 := b_52.size
        replace bD := bD.trans (b_52.mono (by omega))
        clear b_52
        refine wpAnyH_ready (rs := [4, 7]) (by kernel_rfl) (by decide) ?_
        refine AllReadyH.cons rfl (fun K54a hK54a => ?_) (AllReadyH.cons rfl (fun K54b hK54b => ?_) AllReadyH.nil)
        · go_simp
          refine (l1Own_own wx.heap.size _ st w52 ht (by omega) (by omega) hl).mono ?_; rintro q_ w55 ⟨v3, rfl, o3, b_55⟩
          replace bx := bx.below b_55 bx.lt
          replace bR := bR.below b_55 bR.lt
          replace bT := bT.below b_55 bT.lt
          replace ht := ht.below b_55 (by omega)
          replace hs := hs.below b_55 (by omega)
          replace hw := hw.below b_55 (by omega)
          replace o5 := o5.below b_55 (by omega)
          replace o6 := o6.below b_55 (by omega)
          have z_56 := b_55.size
          replace bD := bD.trans (b_55.mono (by omega))
          clear b_55
          obtain ⟨A3, n3, d3, rfl, _, _, _⟩ := (Ow.of_own Nm.cells_len o3 rfl rfl).rd.form
          refine hK54a.out _ _ ⟨bx, bT⟩ (fun _ => ?_)
          have hHeld : (fun (W : World) => Box W (w.heap.size) 35 [.int .i64 m, .slice At nt dt, .slice A0 n0 d0, .slice A1 n1 d1] ∧ Box W (gT) 33 [.slice A5 n5 d5, .slice A6 n6 d6]) w55 := ⟨bx, bT⟩
          refine wpAnyH_take (i := 6) (v := .agg #[.int .i64 m, .slice A3 n3 d3, .slice A5 n5 d5, .slice A6 n6 d6]) rfl (by kernel_rfl) (by kernel_rfl) (by kernel_rfl) (fun _ _ _ h => h) (Or.inl ⟨by rfl, by intro w hSw; obtain ⟨hS0, hS1⟩ := hSw; have y00 := hS0.cell (j := 0) rfl; have y01 := hS0.cell (j := 1) rfl; have y02 := hS0.cell (j := 2) rfl; have y03 := hS0.cell (j := 3) rfl; have y10 := hS1.cell (j := 0) rfl; have y11 := hS1.cell (j := 1) rfl; go_simp⟩) hHeld ?_
          clear hHeld
          refine wpAnyH_ready (rs := [7]) (by kernel_rfl) (by decide) ?_
          refine AllReadyH.cons rfl (fun K57 hK57 => ?_) AllReadyH.nil
          go_simp
          have b_58 := (Below.refl w55.heap.size w55).alloc (Nat.le_refl _) (.cells #[.int .i64 0, .slice none 0 0, .slice none 0 0, .slice none 0 0] 35)
          have bO := Box.new w55 #[.int .i64 0, .slice none 0 0, .slice none 0 0, .slice none 0 0] 35 rfl
          replace bx := bx.below b_58 bx.lt
          replace bR := bR.below b_58 bR.lt
          replace bT := bT.below b_58 bT.lt
          replace ht := ht.below b_58 (by omega)
          replace hs := hs.below b_58 (by omega)
          replace hw := hw.below b_58 (by omega)
          replace o5 := o5.below b_58 (by omega)
          replace o6 := o6.below b_58 (by omega)
          replace o3 := own_below o3 b_58
          have z_59 := b_58.size
          replace bD := bD.trans (b_58.mono (by omega))
          clear b_58
          generalize w55.alloc _ = w58 at *
          generalize w55.heap.size = g58 at *
          refine hK57.out _ _ ⟨bx, bT⟩ (fun _ => ?_)
          refine wpAnyH_ready (rs := [8]) (by kernel_rfl) (by decide) ?_
          refine AllReadyH.cons rfl (fun K60 hK60 => ?_) AllReadyH.nil
          have bx_0 := bx.cell (j := 0) rfl
          have bx_1 := bx.cell (j := 1) rfl
          have bx_2 := bx.cell (j := 2) rfl
          have bx_3 := bx.cell (j := 3) rfl
          have bx_z := bx.frozen
          have bx_l := bx.lt
          have bR_0 := bR.cell (j := 0) rfl
          have bR_1 := bR.cell (j := 1) rfl
          have bR_2 := bR.cell (j := 2) rfl
          have bR_3 := bR.cell (j := 3) rfl
          have bR_z := bR.frozen
          have bR_l := bR.lt
          have bT_0 := bT.cell (j := 0) rfl
          have bT_1 := bT.cell (j := 1) rfl
          have bT_z := bT.frozen
          have bT_l := bT.lt
          have bO_0 := bO.cell (j := 0) rfl
          have bO_1 := bO.cell (j := 1) rfl
          have bO_2 := bO.cell (j := 2) rfl
          have bO_3 := bO.cell (j := 3) rfl
          have bO_z := bO.frozen
          have bO_l := bO.lt
          go_simp
          clear bx_0 bx_1 bx_2 bx_3 bx_z bx_l bR_0 bR_1 bR_2 bR_3 bR_z bR_l bT_0 bT_1 bT_z bT_l bO_0 bO_1 bO_2 bO_3 bO_z bO_l
          generalize hwz : World.setCell (World.setCell (World.setCell (World.setCell _ _ _) _ _) _ _) _ _ = wz_
          obtain rfl : wz_ = setL w58 (g58) 0 [.int .i64 m, .slice A3 n3 d3, .slice A5 n5 d5, .slice A6 n6 d6] := hwz.symm
          clear hwz
          replace bx := bx.other (b := g58) (by omega) 0 [.int .i64 m, .slice A3 n3 d3, .slice A5 n5 d5, .slice A6 n6 d6]
          replace bR := bR.other (b := g58) (by omega) 0 [.int .i64 m, .slice A3 n3 d3, .slice A5 n5 d5, .slice A6 n6 d6]
          replace bT := bT.other (b := g58) (by omega) 0 [.int .i64 m, .slice A3 n3 d3, .slice A5 n5 d5, .slice A6 n6 d6]
          replace ht := ht.away (g := g58) (by omega) 0 [.int .i64 m, .slice A3 n3 d3, .slice A5 n5 d5, .slice A6 n6 d6]
          replace hs := hs.away (g := g58) (by omega) 0 [.int .i64 m, .slice A3 n3 d3, .slice A5 n5 d5, .slice A6 n6 d6]
          replace hw := hw.away (g := g58) (by omega) 0 [.int .i64 m, .slice A3 n3 d3, .slice A5 n5 d5, .slice A6 n6 d6]
          replace o5 := o5.box (g := g58) bO (by decide) 0 [.int .i64 m, .slice A3 n3 d3, .slice A5 n5 d5, .slice A6 n6 d6]
          replace o6 := o6.box (g := g58) bO (by decide) 0 [.int .i64 m, .slice A3 n3 d3, .slice A5 n5 d5, .slice A6 n6 d6]
          replace o3 := own_box o3 bO (by decide) 0 [.int .i64 m, .slice A3 n3 d3, .slice A5 n5 d5, .slice A6 n6 d6]
          replace bD := setL_below bD [.int .i64 m, .slice A3 n3 d3, .slice A5 n5 d5, .slice A6 n6 d6] (g58) 0 (by omega)
          have zs_61 : (setL w58 (g58) 0 [.int .i64 m, .slice A3 n3 d3, .slice A5 n5 d5, .slice A6 n6 d6]).heap.size = w58.heap.size := setL_size _ _ _ _
          replace bO := bO.setAll [.int .i64 m, .slice A3 n3 d3, .slice A5 n5 d5, .slice A6 n6 d6] rfl
          generalize setL w58 _ 0 _ = w61 at *
          refine hK60.out _ _ ⟨bx, bT⟩ (fun _ => ?_)
          refine ⟨by kernel_rfl, ?_⟩
          have bx_0 := bx.cell (j := 0) rfl
          have bx_1 := bx.cell (j := 1) rfl
          have bx_2 := bx.cell (j := 2) rfl
          have bx_3 := bx.cell (j := 3) rfl
          have bx_z := bx.frozen
          have bx_l := bx.lt
          have bR_0 := bR.cell (j := 0) rfl
          have bR_1 := bR.cell (j := 1) rfl
          have bR_2 := bR.cell (j := 2) rfl
          have bR_3 := bR.cell (j := 3) rfl
          have bR_z := bR.frozen
          have bR_l := bR.lt
          have bT_0 := bT.cell (j := 0) rfl
          have bT_1 := bT.cell (j := 1) rfl
          have bT_z := bT.frozen
          have bT_l := bT.lt
          have bO_0 := bO.cell (j := 0) rfl
          have bO_1 := bO.cell (j := 1) rfl
          have bO_2 := bO.cell (j := 2) rfl
          have bO_3 := bO.cell (j := 3) rfl
          have bO_z := bO.frozen
          have bO_l := bO.lt
          go_wp2_with fail
          clear bx_0 bx_1 bx_2 bx_3 bx_z bx_l bR_0 bR_1 bR_2 bR_3 bR_z bR_l bT_0 bT_1 bT_z bT_l bO_0 bO_1 bO_2 bO_3 bO_z bO_l
          go_meet
          exact ⟨_, _, _, rfl, rfl, bD, by omega, bO, o3⟩
        · go_simp
          have b_55 := (Below.refl w52.heap.size w52).alloc (Nat.le_refl _) (.cells #[.int .i64 0, .slice none 0 0, .slice none 0 0, .slice none 0 0] 35)
          have bO := Box.new w52 #[.int .i64 0, .slice none 0 0, .slice none 0 0, .slice none 0 0] 35 rfl
          replace bx := bx.below b_55 bx.lt
          replace bR := bR.below b_55 bR.lt
          replace bT := bT.below b_55 bT.lt
          replace ht := ht.below b_55 (by omega)
          replace hs := hs.below b_55 (by omega)
          replace hw := hw.below b_55 (by omega)
          replace o5 := o5.below b_55 (by omega)
          replace o6 := o6.below b_55 (by omega)
          have z_56 := b_55.size
          replace bD := bD.trans (b_55.mono (by omega))
          clear b_55
          generalize w52.alloc _ = w55 at *
          generalize w52.heap.size = g55 at *
          refine hK54b.out _ _ ⟨bx, bT⟩ (fun _ => ?_)
          refine wpAnyH_ready (rs := [4]) (by kernel_rfl) (by decide) ?_
          refine AllReadyH.cons rfl (fun K57 hK57 => ?_) AllReadyH.nil
          go_simp
          refine (l1Own_own wx.heap.size _ st w55 ht (by omega) (by omega) hl).mono ?_; rintro q_ w58 ⟨v3, rfl, o3, b_58⟩
          replace bx := bx.below b_58 bx.lt
          replace bR := bR.below b_58 bR.lt
          replace bT := bT.below b_58 bT.lt
          replace bO := bO.below b_58 bO.lt
          replace ht := ht.below b_58 (by omega)
          replace hs := hs.below b_58 (by omega)
          replace hw := hw.below b_58 (by omega)
          replace o5 := o5.below b_58 (by omega)
          replace o6 := o6.below b_58 (by omega)
          have z_59 := b_58.size
          replace bD := bD.trans (b_58.mono (by omega))
          clear b_58
          obtain ⟨A3, n3, d3, rfl, _, _, _⟩ := (Ow.of_own Nm.cells_len o3 rfl rfl).rd.form
          refine hK57.out _ _ ⟨bx, bT⟩ (fun _ => ?_)
          have hHeld : (fun (W : World) => Box W (w.heap.size) 35 [.int .i64 m, .slice At nt dt, .slice A0 n0 d0, .slice A1 n1 d1] ∧ Box W (gT) 33 [.slice A5 n5 d5, .slice A6 n6 d6]) w58 := ⟨bx, bT⟩
          refine wpAnyH_take (i := 6) (v := .agg #[.int .i64 m, .slice A3 n3 d3, .slice A5 n5 d5, .slice A6 n6 d6]) rfl (by kernel_rfl) (by kernel_rfl) (by kernel_rfl) (fun _ _ _ h => h) (Or.inl ⟨by rfl, by intro w hSw; obtain ⟨hS0, hS1⟩ := hSw; have y00 := hS0.cell (j := 0) rfl; have y01 := hS0.cell (j := 1) rfl; have y02 := hS0.cell (j := 2) rfl; have y03 := hS0.cell (j := 3) rfl; have y10 := hS1.cell (j := 0) rfl; have y11 := hS1.cell (j := 1) rfl; go_simp⟩) hHeld ?_
          clear hHeld
          refine wpAnyH_ready (rs := [8]) (by kernel_rfl) (by decide) ?_
          refine AllReadyH.cons rfl (fun K60 hK60 => ?_) AllReadyH.nil
          have bx_0 := bx.cell (j := 0) rfl
          have bx_1 := bx.cell (j := 1) rfl
          have bx_2 := bx.cell (j := 2) rfl
          have bx_3 := bx.cell (j := 3) rfl
          have bx_z := bx.frozen
          have bx_l := bx.lt
          have bR_0 := bR.cell (j := 0) rfl
          have bR_1 := bR.cell (j := 1) rfl
          have bR_2 := bR.cell (j := 2) rfl
          have bR_3 := bR.cell (j := 3) rfl
          have bR_z := bR.frozen
          have bR_l := bR.lt
          have bT_0 := bT.cell (j := 0) rfl
          have bT_1 := bT.cell (j := 1) rfl
          have bT_z := bT.frozen
          have bT_l := bT.lt
          have bO_0 := bO.cell (j := 0) rfl
          have bO_1 := bO.cell (j := 1) rfl
          have bO_2 := bO.cell (j := 2) rfl
          have bO_3 := bO.cell (j := 3) rfl
          have bO_z := bO.frozen
          have bO_l := bO.lt
          go_simp
          clear bx_0 bx_1 bx_2 bx_3 bx_z bx_l bR_0 bR_1 bR_2 bR_3 bR_z bR_l bT_0 bT_1 bT_z bT_l bO_0 bO_1 bO_2 bO_3 bO_z bO_l
          generalize hwz : World.setCell (World.setCell (World.setCell (World.setCell _ _ _) _ _) _ _) _ _ = wz_
          obtain rfl : wz_ = setL w58 (g55) 0 [.int .i64 m, .slice A3 n3 d3, .slice A5 n5 d5, .slice A6 n6 d6] := hwz.symm
          clear hwz
          replace bx := bx.other (b := g55) (by omega) 0 [.int .i64 m, .slice A3 n3 d3, .slice A5 n5 d5, .slice A6 n6 d6]
          replace bR := bR.other (b := g55) (by omega) 0 [.int .i64 m, .slice A3 n3 d3, .slice A5 n5 d5, .slice A6 n6 d6]
          replace bT := bT.other (b := g55) (by omega) 0 [.int .i64 m, .slice A3 n3 d3, .slice A5 n5 d5, .slice A6 n6 d6]
          replace ht := ht.away (g := g55) (by omega) 0 [.int .i64 m, .slice A3 n3 d3, .slice A5 n5 d5, .slice A6 n6 d6]
          replace hs := hs.away (g := g55) (by omega) 0 [.int .i64 m, .slice A3 n3 d3, .slice A5 n5 d5, .slice A6 n6 d6]
          replace hw := hw.away (g := g55) (by omega) 0 [.int .i64 m, .slice A3 n3 d3, .slice A5 n5 d5, .slice A6 n6 d6]
          replace o5 := o5.box (g := g55) bO (by decide) 0 [.int .i64 m, .slice A3 n3 d3, .slice A5 n5 d5, .slice A6 n6 d6]
          replace o6 := o6.box (g := g55) bO (by decide) 0 [.int .i64 m, .slice A3 n3 d3, .slice A5 n5 d5, .slice A6 n6 d6]
          replace o3 := own_box o3 bO (by decide) 0 [.int .i64 m, .slice A3 n3 d3, .slice A5 n5 d5, .slice A6 n6 d6]
          replace bD := setL_below bD [.int .i64 m, .slice A3 n3 d3, .slice A5 n5 d5, .slice A6 n6 d6] (g55) 0 (by omega)
          have zs_61 : (setL w58 (g55) 0 [.int .i64 m, .slice A3 n3 d3, .slice A5 n5 d5, .slice A6 n6 d6]).heap.size = w58.heap.size := setL_size _ _ _ _
          replace bO := bO.setAll [.int .i64 m, .slice A3 n3 d3, .slice A5 n5 d5, .slice A6 n6 d6] rfl
          generalize setL w58 _ 0 _ = w61 at *
          refine hK60.out _ _ ⟨bx, bT⟩ (fun _ => ?_)
          refine ⟨by kernel_rfl, ?_⟩
          have bx_0 := bx.cell (j := 0) rfl
          have bx_1 := bx.cell (j := 1) rfl
          have bx_2 := bx.cell (j := 2) rfl
          have bx_3 := bx.cell (j := 3) rfl
          have bx_z := bx.frozen
          have bx_l := bx.lt
          have bR_0 := bR.cell (j := 0) rfl
          have bR_1 := bR.cell (j := 1) rfl
          have bR_2 := bR.cell (j := 2) rfl
          have bR_3 := bR.cell (j := 3) rfl
          have bR_z := bR.frozen
          have bR_l := bR.lt
          have bT_0 := bT.cell (j := 0) rfl
          have bT_1 := bT.cell (j := 1) rfl
          have bT_z := bT.frozen
          have bT_l := bT.lt
          have bO_0 := bO.cell (j := 0) rfl
          have bO_1 := bO.cell (j := 1) rfl
          have bO_2 := bO.cell (j := 2) rfl
          have bO_3 := bO.cell (j := 3) rfl
          have bO_z := bO.frozen
          have bO_l := bO.lt
          go_wp2_with fail
          clear bx_0 bx_1 bx_2 bx_3 bx_z bx_l bR_0 bR_1 bR_2 bR_3 bR_z bR_l bT_0 bT_1 bT_z bT_l bO_0 bO_1 bO_2 bO_3 bO_z bO_l
          go_meet
          exact ⟨_, _, _, rfl, rfl, bD, by omega, bO, o3⟩
    case rest =>
        obtain ⟨wy, gO, v3, rfl, rfl, bD, zO, bO, o3⟩ := hcut
        replace bx := bx.below bD bx.lt
        replace bR := bR.below bD bR.lt
        replace bT := bT.below bD bT.lt
        replace ht := ht.below bD (by omega)
        replace hs := hs.below bD (by omega)
        replace hw := hw.below bD (by omega)
        replace o5 := o5.below bD (by omega)
        replace o6 := o6.below bD (by omega)
        have z_101 := bD.size
        replace b0 := b0.trans (bD.mono (by omega))
        clear bD
        obtain ⟨A3, n3, d3, rfl, _, _, _⟩ := (Ow.of_own Nm.cells_len o3 rfl rfl).rd.form
        have zOl := bO.lt
        cases hk : Sl.tkOk ls (minI m (Fa.run st ls))
        · have HF := Lib.hid (show Fa.tkT st ls (minI m (Fa.run st ls)) = st from by simp [Fa.tkT, hk])
          have hd : decide (0 ≤ Sl.tkW ls (minI m (Fa.run st ls))) = false := by simp [Sl.tkW, hk]
          clear hk
          have oT := Ow.of_own Nm.cells_len o3 (l := st) rfl rfl
          have bx_0 := bx.cell (j := 0) rfl
          have bx_1 := bx.cell (j := 1) rfl
          have bx_2 := bx.cell (j := 2) rfl
          have bx_3 := bx.cell (j := 3) rfl
          have bx_z := bx.frozen
          have bx_l := bx.lt
          have bR_0 := bR.cell (j := 0) rfl
          have bR_1 := bR.cell (j := 1) rfl
          have bR_2 := bR.cell (j := 2) rfl
          have bR_3 := bR.cell (j := 3) rfl
          have bR_z := bR.frozen
          have bR_l := bR.lt
          have bT_0 := bT.cell (j := 0) rfl
          have bT_1 := bT.cell (j := 1) rfl
          have bT_z := bT.frozen
          have bT_l := bT.lt
          have bO_0 := bO.cell (j := 0) rfl
          have bO_1 := bO.cell (j := 1) rfl
          have bO_2 := bO.cell (j := 2) rfl
          have bO_3 := bO.cell (j := 3) rfl
          have bO_z := bO.frozen
          have bO_l := bO.lt
          go_wp2_with fail
          clear bx_0 bx_1 bx_2 bx_3 bx_z bx_l bR_0 bR_1 bR_2 bR_3 bR_z bR_l bT_0 bT_1 bT_z bT_l bO_0 bO_1 bO_2 bO_3 bO_z bO_l
          generalize hwz : World.setCell (World.setCell (World.setCell (World.setCell _ _ _) _ _) _ _) _ _ = wz_
          obtain rfl : wz_ = setL wy (w.heap.size + 1) 0 [.int .i64 m, .slice A3 n3 d3, .slice A5 n5 d5, .slice A6 n6 d6] := hwz.symm
          clear hwz
          replace bx := bx.other (b := w.heap.size + 1) (by omega) 0 [.int .i64 m, .slice A3 n3 d3, .slice A5 n5 d5, .slice A6 n6 d6]
          replace bT := bT.other (b := w.heap.size + 1) (by omega) 0 [.int .i64 m, .slice A3 n3 d3, .slice A5 n5 d5, .slice A6 n6 d6]
          replace bO := bO.other (b := w.heap.size + 1) (by omega) 0 [.int .i64 m, .slice A3 n3 d3, .slice A5 n5 d5, .slice A6 n6 d6]
          replace ht := ht.away (g := w.heap.size + 1) (by omega) 0 [.int .i64 m, .slice A3 n3 d3, .slice A5 n5 d5, .slice A6 n6 d6]
          replace hs := hs.away (g := w.heap.size + 1) (by omega) 0 [.int .i64 m, .slice A3 n3 d3, .slice A5 n5 d5, .slice A6 n6 d6]
          replace hw := hw.away (g := w.heap.size + 1) (by omega) 0 [.int .i64 m, .slice A3 n3 d3, .slice A5 n5 d5, .slice A6 n6 d6]
          replace o5 := o5.box (g := w.heap.size + 1) bR (by decide) 0 [.int .i64 m, .slice A3 n3 d3, .slice A5 n5 d5, .slice A6 n6 d6]
          replace o6 := o6.box (g := w.heap.size + 1) bR (by decide) 0 [.int .i64 m, .slice A3 n3 d3, .slice A5 n5 d5, .slice A6 n6 d6]
          replace oT := oT.box (g := w.heap.size + 1) bR (by decide) 0 [.int .i64 m, .slice A3 n3 d3, .slice A5 n5 d5, .slice A6 n6 d6]
          replace b0 := setL_below b0 [.int .i64 m, .slice A3 n3 d3, .slice A5 n5 d5, .slice A6 n6 d6] (w.heap.size + 1) 0 (by omega)
          have zs_102 : (setL wy (w.heap.size + 1) 0 [.int .i64 m, .slice A3 n3 d3, .slice A5 n5 d5, .slice A6 n6 d6]).heap.size = wy.heap.size := setL_size _ _ _ _
          replace bR := bR.setAll [.int .i64 m, .slice A3 n3 d3, .slice A5 n5 d5, .slice A6 n6 d6] rfl
          generalize setL wy _ 0 _ = w102 at *
          have u0_ := bR.cell (j := 0) rfl
          have u1_ := bR.cell (j := 1) rfl
          have u2_ := bR.cell (j := 2) rfl
          have u3_ := bR.cell (j := 3) rfl
          refine bodyPost_ret (by simp only [results, Tryz.results62]; simp [go_sem, u0_, u1_, u2_, u3_]; rfl) rfl ?_
          exact ⟨_, _, _, rfl, by rw [HF.out]; exact oT.mono (by omega) (by omega), o5.mono (by omega) (by omega), o6.mono (by omega) (by omega), b0⟩
        · have HF := Lib.hid (show Fa.tkT st ls (minI m (Fa.run st ls)) = st ++ [Sl.tkW ls (minI m (Fa.run st ls))] from by simp [Fa.tkT, Sl.tkW, hk])
          have hd : decide (0 ≤ Sl.tkW ls (minI m (Fa.run st ls))) = true := decide_eq_true (by have := Sl.tk_irq HG.out hk; simpa [Sl.tkW, hk] using this)
          clear hk
          have bL := (Below.refl wy.heap.size wy).alloc (Nat.le_refl _) (.cells #[.int .i64 (Sl.tkW ls (minI m (Fa.run st ls)))] 3)
          have zL : (wy.alloc (.cells #[.int .i64 (Sl.tkW ls (minI m (Fa.run st ls)))] 3)).heap.size = wy.heap.size + 1 := by simp
          have o3L := o3.alloc (.cells #[.int .i64 (Sl.tkW ls (minI m (Fa.run st ls)))] 3)
          have bOL := bO.below bL bO.lt
          have bRL := bR.below bL bR.lt
          have o5L := o5.below bL (by omega)
          have o6L := o6.below bL (by omega)
          have b0L := b0.trans (bL.mono (by omega))
          have bx_0 := bx.cell (j := 0) rfl
          have bx_1 := bx.cell (j := 1) rfl
          have bx_2 := bx.cell (j := 2) rfl
          have bx_3 := bx.cell (j := 3) rfl
          have bx_z := bx.frozen
          have bx_l := bx.lt
          have bR_0 := bR.cell (j := 0) rfl
          have bR_1 := bR.cell (j := 1) rfl
          have bR_2 := bR.cell (j := 2) rfl
          have bR_3 := bR.cell (j := 3) rfl
          have bR_z := bR.frozen
          have bR_l := bR.lt
          have bT_0 := bT.cell (j := 0) rfl
          have bT_1 := bT.cell (j := 1) rfl
          have bT_z := bT.frozen
          have bT_l := bT.lt
          have bO_0 := bO.cell (j := 0) rfl
          have bO_1 := bO.cell (j := 1) rfl
          have bO_2 := bO.cell (j := 2) rfl
          have bO_3 := bO.cell (j := 3) rfl
          have bO_z := bO.frozen
          have bO_l := bO.lt
          go_upto_region 5 with (at_builtin; (refine Nm.app_one rfl _ _ rfl wx.heap.size _ st.length _ rfl o3L (g := wy.heap.size) (c := 1) (Sl.tkW ls (minI m (Fa.run st ls))) rfl ?hc0 (by omega) (by omega) ?_); (rotate_left); (intro v4 w4 o4 g4); (have oT := Ow.of_own Nm.cells_len o4 (l := st ++ [(Sl.tkW ls (minI m (Fa.run st ls)))]) (by simp) (by simp)); (obtain ⟨A4, n4, d4, rfl, _, _, _⟩ := oT.rd.form); (replace bO := bOL.grown_own o3L g4 (by decide)); (replace bR := bRL.grown_own o3L g4 (by decide)); (replace o5 := o5L.grown_own o3L g4 (by decide)); (replace o6 := o6L.grown_own o3L g4 (by decide)); (have z4 := g4.size); (replace b0 := b0L.grown g4 (by omega) (fun j hj => by have := own_ge o3L j hj; omega)); (clear bO_0 bO_1 bO_2 bO_3 bO_z bR_0 bR_1 bR_2 bR_3 bR_z bx_0 bx_1 bx_2 bx_3 bx_z bx_l bx bT_0 bT_1 bT_z bT_l bT bO_l bR_l o3 o3L bOL bRL o5L o6L b0L ht hs hw bL g4 o4); (have bO_0 := bO.cell (j := 0) rfl); (have bO_1 := bO.cell (j := 1) rfl); (have bO_2 := bO.cell (j := 2) rfl); (have bO_3 := bO.cell (j := 3) rfl); (have bO_z := bO.frozen))
          case hc0 => intro j u hu; simpa [Nm.cells] using hu
          clear bO_0 bO_1 bO_2 bO_3 bO_z
          generalize hwz : World.setCell _ _ _ = wz_
          obtain rfl : wz_ = setL w4 (gO) 1 [.slice A4 n4 d4] := hwz.symm
          clear hwz
          replace bR := bR.other (b := gO) (by omega) 1 [.slice A4 n4 d4]
          replace o5 := o5.box (g := gO) bO (by decide) 1 [.slice A4 n4 d4]
          replace o6 := o6.box (g := gO) bO (by decide) 1 [.slice A4 n4 d4]
          replace oT := oT.box (g := gO) bO (by decide) 1 [.slice A4 n4 d4]
          replace b0 := setL_below b0 [.slice A4 n4 d4] (gO) 1 (by omega)
          have zs_102 : (setL w4 (gO) 1 [.slice A4 n4 d4]).heap.size = w4.heap.size := setL_size _ _ _ _
          replace bO := bO.set1 (j := 1) (.slice A4 n4 d4) (by simp)
          generalize setL w4 _ 1 _ = w102 at *
          have bR_0 := bR.cell (j := 0) rfl
          have bR_1 := bR.cell (j := 1) rfl
          have bR_2 := bR.cell (j := 2) rfl
          have bR_3 := bR.cell (j := 3) rfl
          have bR_z := bR.frozen
          have bR_l := bR.lt
          have bO_0 := bO.cell (j := 0) rfl
          have bO_1 := bO.cell (j := 1) rfl
          have bO_2 := bO.cell (j := 2) rfl
          have bO_3 := bO.cell (j := 3) rfl
          have bO_z := bO.frozen
          have bO_l := bO.lt
          go_wp2_with fail
          clear bR_0 bR_1 bR_2 bR_3 bR_z bR_l bO_0 bO_1 bO_2 bO_3 bO_z bO_l
          generalize hwz : World.setCell (World.setCell (World.setCell (World.setCell _ _ _) _ _) _ _) _ _ = wz_
          obtain rfl : wz_ = setL w102 (w.heap.size + 1) 0 [.int .i64 m, .slice A4 n4 d4, .slice A5 n5 d5, .slice A6 n6 d6] := hwz.symm
          clear hwz
          replace bO := bO.other (b := w.heap.size + 1) (by omega) 0 [.int .i64 m, .slice A4 n4 d4, .slice A5 n5 d5, .slice A6 n6 d6]
          replace o5 := o5.box (g := w.heap.size + 1) bR (by decide) 0 [.int .i64 m, .slice A4 n4 d4, .slice A5 n5 d5, .slice A6 n6 d6]
          replace o6 := o6.box (g := w.heap.size + 1) bR (by decide) 0 [.int .i64 m, .slice A4 n4 d4, .slice A5 n5 d5, .slice A6 n6 d6]
          replace oT := oT.box (g := w.heap.size + 1) bR (by decide) 0 [.int .i64 m, .slice A4 n4 d4, .slice A5 n5 d5, .slice A6 n6 d6]
          replace b0 := setL_below b0 [.int .i64 m, .slice A4 n4 d4, .slice A5 n5 d5, .slice A6 n6 d6] (w.heap.size + 1) 0 (by omega)
          have zs_103 : (setL w102 (w.heap.size + 1) 0 [.int .i64 m, .slice A4 n4 d4, .slice A5 n5 d5, .slice A6 n6 d6]).heap.size = w102.heap.size := setL_size _ _ _ _
          replace bR := bR.setAll [.int .i64 m, .slice A4 n4 d4, .slice A5 n5 d5, .slice A6 n6 d6] rfl
          generalize setL w102 _ 0 _ = w103 at *
          have u0_ := bR.cell (j := 0) rfl
          have u1_ := bR.cell (j := 1) rfl
          have u2_ := bR.cell (j := 2) rfl
          have u3_ := bR.cell (j := 3) rfl
          refine bodyPost_ret (by simp only [results, Tryz.results62]; simp [go_sem, u0_, u1_, u2_, u3_]; rfl) rfl ?_
          exact ⟨_, _, _, rfl, by rw [HF.out]; exact oT.mono (by omega) (by omega), o5.mono (by omega) (by omega), o6.mono (by omega) (by omega), b0⟩

end Go.Proofs.YtengaccnncnipaaGreat

/- Taking the most urgent interrupt of an interface, the inner function of the program. Conditions: valid slots, the stack's interrupts lie in them; room. -/
namespace Go.Proofs.YtengaccnncnipaaGreat
open Go.RowKit Go.ChangeShapes Go.WideShapes Go.Deep

def Fa.tkM (m : Int) (ls : List Sl) (l : Int) : Int := if Sl.tkOk ls l then m else 0
/-- one number appended to an own row, in a region that draws its order -/
theorem Nm.appK {w : World} {o : Oper} {a : Act} {K : Act → World → Prop} {Q : Exit → Act → World → Prop} (hgd : o.guard = none) (s x : Operand)
    (ho : o.op = .call { callee := .builtin .append, args := #[s, x], argTypes := #[22, 22] }) (base : Nat)
    (v : Value) (n : Nat) (xs : List Value) (hs : a.eval s = v) (hown : w.ownsRow base 3 1 v n xs) {g : Nat} (y : Int) (hx : a.eval x = .slice (some ⟨g, 0, none⟩) 1 1) (hr : w.cell? ⟨g, 0, none⟩ = some (.int .i64 y))
    (hlen : n ≤ 4194304) (hbase : base ≤ w.heap.size)
    (h : ∀ v' w', w'.ownsRow base 3 1 v' (n + 1) (xs ++ [.int .i64 y]) → w.grownBy w' v.ownBlock → K (a.put o.dst v') w') {ops : Array Oper} : if Region.wanted o (yielded ops a.tmps) = true then Oper.wp Tryz.prog o a w K Q else K (a.put o.dst undef) w := by
  have hw : Region.wanted o (yielded ops a.tmps) = true := by simp [Region.wanted, hgd]
  rw [if_pos hw]
  obtain ⟨i0, hi0, hz0, hz1, hz2⟩ := info_parts Nm.info
  have hrd : Rd Nm.cells 1 w g (g + 1) (.slice (some ⟨g, 0, none⟩) 1 1) [y] := rd_one (fun j u hu => by
    have hj : j < 1 := (List.getElem?_eq_some_iff.1 hu).1
    obtain rfl : j = 0 := by omega
    simp only [Nm.cells, List.getElem?_cons_zero, Option.some.injEq] at hu
    subst hu; exact hr)
  obtain ⟨v', w', hrun, h2, h3⟩ := run_app_rd (P := Tryz.prog) w base 22 o.type 3 i0 _ 1 _ Tryz.underlying22 hi0 hz0 hz1 hz2 rfl (by omega) Nm.cells_len Nm.one v n xs hown hrd (by unfold maxLen; omega) (by omega) hbase
  unfold Oper.wp execOp
  simp only [ho, resolve, invoke, builtin, Sem.run_bind, Sem.run_pure, Result.andThen_ok, List.map_toArray, List.map_cons, List.map_nil, hs, hx, hrun]
  exact h _ _ (by simpa [Nm.cells] using h2) h3
set_option maxHeartbeats 4000000 in
theorem implTakeF_in (m : Int) (vt vs vw : Value) (st : List Int) (ls : List Sl) (lw : List Wt) (w : World) {lo hi lo2 hi2 lo3 hi3 : Nat} (h0 : Rd Nm.cells 1 w lo3 hi3 vt st) (h : Rd Sl.cells 3 w lo hi vs ls) (h2 : Rd Wt.cells 2 w lo2 hi2 vw lw) (hh0 : hi3 ≤ w.heap.size) (hh : hi ≤ w.heap.size) (hh2 : hi2 ≤ w.heap.size) (hgood : Sl.good ls = true) (hix : ∀ i ∈ st, ∃ k : Nat, Sl.ix ls i = k ∧ k < ls.length) (hl : st.length ≤ 1048576) (hl2 : lw.length ≤ 1048576) :
    Calls Tryz.prog 63 #[.agg #[.int .i64 m, vt, vs, vw]] w fun e w' => ∃ v0 v1 v2, e = .returned (.tuple #[.agg #[.int .i64 (Fa.tkM m ls (minI m (Fa.run st ls))), v0, v1, v2], .int .i64 (Sl.tkV ls (minI m (Fa.run st ls))), .bool (Sl.tkOk ls (minI m (Fa.run st ls)))]) ∧ Ow Nm.cells 1 3 w' w.heap.size w'.heap.size v0 (Fa.tkU st ls (minI m (Fa.run st ls))) ∧ Ow Sl.cells 3 127 w' w.heap.size w'.heap.size v1 (Sl.tkR ls (minI m (Fa.run st ls))) ∧ Ow Wt.cells 2 134 w' w.heap.size w'.heap.size v2 (Qu.tkK ls (minI m (Fa.run st ls)) lw) ∧ Below w.heap.size w w' := by
  have b0 : Below w.heap.size w ((w.alloc (.cells #[.int .i64 m, vt, vs, vw] 35)).alloc (.cells #[.int .i64 0, .slice none 0 0, .slice none 0 0, .slice none 0 0] 35)) := ((Below.refl w.heap.size w).alloc (Nat.le_refl _) _).alloc (by simp) _
  have z0 : ((w.alloc (.cells #[.int .i64 m, vt, vs, vw] 35)).alloc (.cells #[.int .i64 0, .slice none 0 0, .slice none 0 0, .slice none 0 0] 35)).heap.size = w.heap.size + 2 := by simp
  have bx := Box.new w #[.int .i64 m, vt, vs, vw] 35 rfl
  have bR := Box.new (g := w.heap.size + 1) (w.alloc (.cells #[.int .i64 m, vt, vs, vw] 35)) #[.int .i64 0, .slice none 0 0, .slice none 0 0, .slice none 0 0] 35 (by simp)
  replace bx := bx.below ((Below.refl _ (w.alloc (.cells #[.int .i64 m, vt, vs, vw] 35))).alloc (Nat.le_refl _) (.cells #[.int .i64 0, .slice none 0 0, .slice none 0 0, .slice none 0 0] 35)) bx.lt
  have ht := h0.below b0 hh0
  have hs := h.below b0 hh
  have hw := h2.below b0 hh2
  have hv0_ := h0.form
  have hv_ := h.form
  have hv2_ := h2.form
  clear h0 h h2
  generalize hwA : (w.alloc (.cells #[.int .i64 m, vt, vs, vw] 35)).alloc (.cells #[.int .i64 0, .slice none 0 0, .slice none 0 0, .slice none 0 0] 35) = wA at *
  obtain ⟨At, nt, dt, rfl, _, _, _⟩ := hv0_
  obtain ⟨A0, n0, d0, rfl, _, _, _⟩ := hv_
  obtain ⟨A1, n1, d1, rfl, _, _, _⟩ := hv2_
  have HG := Lib.hid hgood
  have HX := Lib.hid hix
  have HM := Lib.hid (show min m (Fa.run st ls) = minI m (Fa.run st ls) from by unfold minI; omega)
  clear hgood hix
  go_enter Tryz.func63, Tryz.ntmps63
  have bx_0 := bx.cell (j := 0) rfl
  have bx_1 := bx.cell (j := 1) rfl
  have bx_2 := bx.cell (j := 2) rfl
  have bx_3 := bx.cell (j := 3) rfl
  have bx_z := bx.frozen
  have bx_l := bx.lt
  have bR_0 := bR.cell (j := 0) rfl
  have bR_1 := bR.cell (j := 1) rfl
  have bR_2 := bR.cell (j := 2) rfl
  have bR_3 := bR.cell (j := 3) rfl
  have bR_z := bR.frozen
  have bR_l := bR.lt
  go_upto_region 1 with fail
  clear hwA
  clear bx_0 bx_1 bx_2 bx_3 bx_z bx_l bR_0 bR_1 bR_2 bR_3 bR_z bR_l
  go_cut [5, 6, 7] (fun s5 s6 s7 wx => ∃ (ww : World) (gT : Nat) (v1 v2 : Value), ww = wx ∧ s5 = .pointer (some ⟨gT, 0, none⟩) ∧ s6 = .int .i64 (Sl.tkV ls (minI m (Fa.run st ls))) ∧ s7 = .bool (Sl.tkOk ls (minI m (Fa.run st ls))) ∧ Below wA.heap.size wA wx ∧ wA.heap.size ≤ gT ∧ Box wx gT 33 [v1, v2] ∧ Ow Sl.cells 3 127 wx wA.heap.size wx.heap.size v1 (Sl.tkR ls (minI m (Fa.run st ls))) ∧ Ow Wt.cells 2 134 wx wA.heap.size wx.heap.size v2 (Qu.tkK ls (minI m (Fa.run st ls)) lw))
  case first =>
    have bC := Below.refl wA.heap.size wA
    have zB := b0.size
    refine wp_region_held_drew (S := fun W => Box W (w.heap.size) 35 [.int .i64 m, .slice At nt dt, .slice A0 n0 d0, .slice A1 n1 d1]) (by kernel_rfl) (show (fun (W : World) => Box W (w.heap.size) 35 [.int .i64 m, .slice At nt dt, .slice A0 n0 d0, .slice A1 n1 d1]) wA.drew from bx) (fun hHeld => ?_)
    refine wpAnyH_take (i := 0) (v := .pointer (some ⟨w.heap.size, 2, none⟩)) rfl (by kernel_rfl) (by kernel_rfl) (by kernel_rfl) (fun _ _ _ h => h) (Or.inl ⟨by rfl, by intro w hSw; have hS0 := hSw; have y00 := hS0.cell (j := 0) rfl; have y01 := hS0.cell (j := 1) rfl; have y02 := hS0.cell (j := 2) rfl; have y03 := hS0.cell (j := 3) rfl; go_simp⟩) hHeld ?_
    refine wpAnyH_take (i := 1) (v := .agg #[.slice A0 n0 d0, .slice A1 n1 d1]) rfl (by kernel_rfl) (by kernel_rfl) (by kernel_rfl) (fun _ _ _ h => h) (Or.inl ⟨by rfl, by intro w hSw; have hS0 := hSw; have y00 := hS0.cell (j := 0) rfl; have y01 := hS0.cell (j := 1) rfl; have y02 := hS0.cell (j := 2) rfl; have y03 := hS0.cell (j := 3) rfl; go_simp⟩) hHeld ?_
    refine wpAnyH_take (i := 2) (v := .pointer (some ⟨w.heap.size, 0, none⟩)) rfl (by kernel_rfl) (by kernel_rfl) (by kernel_rfl) (fun _ _ _ h => h) (Or.inl ⟨by rfl, by intro w hSw; have hS0 := hSw; have y00 := hS0.cell (j := 0) rfl; have y01 := hS0.cell (j := 1) rfl; have y02 := hS0.cell (j := 2) rfl; have y03 := hS0.cell (j := 3) rfl; go_simp⟩) hHeld ?_
    refine wpAnyH_take (i := 3) (v := .int .i64 m) rfl (by kernel_rfl) (by kernel_rfl) (by kernel_rfl) (fun _ _ _ h => h) (Or.inl ⟨by rfl, by intro w hSw; have hS0 := hSw; have y00 := hS0.cell (j := 0) rfl; have y01 := hS0.cell (j := 1) rfl; have y02 := hS0.cell (j := 2) rfl; have y03 := hS0.cell (j := 3) rfl; go_simp⟩) hHeld ?_
    refine wpAnyH_take (i := 4) (v := .agg #[.int .i64 m, .slice At nt dt, .slice A0 n0 d0, .slice A1 n1 d1]) rfl (by kernel_rfl) (by kernel_rfl) (by kernel_rfl) (fun _ _ _ h => h) (Or.inl ⟨by rfl, by intro w hSw; have hS0 := hSw; have y00 := hS0.cell (j := 0) rfl; have y01 := hS0.cell (j := 1) rfl; have y02 := hS0.cell (j := 2) rfl; have y03 := hS0.cell (j := 3) rfl; go_simp⟩) hHeld ?_
    clear hHeld
    refine held_gen (F := fun W' => Below wA.heap.size wA W') (Below.refl wA.heap.size wA).drew ?_
    rintro w1 b_1
    replace bx := bx.below b_1 bx.lt
    replace bR := bR.below b_1 bR.lt
    replace ht := ht.below b_1 (by omega)
    replace hs := hs.below b_1 (by omega)
    replace hw := hw.below b_1 (by omega)
    have z_2 := b_1.size
    replace bC := bC.trans (b_1.mono (by omega))
    clear b_1
    refine wpAnyH_ready (rs := [5, 12]) (by kernel_rfl) (by decide) ?_
    refine AllReadyH.cons rfl (fun K3a hK3a => ?_) (AllReadyH.cons rfl (fun K3b hK3b => ?_) AllReadyH.nil)
    · go_simp
      refine (implRunning_in m _ _ _ st ls lw w1 ht hs hw (by omega) (by omega) (by omega) HX.out).mono ?_; rintro q_ w4 ⟨rfl, b_4⟩
      replace bx := bx.below b_4 bx.lt
      replace bR := bR.below b_4 bR.lt
      replace ht := ht.below b_4 (by omega)
      replace hs := hs.below b_4 (by omega)
      replace hw := hw.below b_4 (by omega)
      have z_5 := b_4.size
      replace bC := bC.trans (b_4.mono (by omega))
      clear b_4
      refine hK3a.out _ _ bx (fun _ => ?_)
      have hHeld : (fun (W : World) => Box W (w.heap.size) 35 [.int .i64 m, .slice At nt dt, .slice A0 n0 d0, .slice A1 n1 d1]) w4 := bx
      refine wpAnyH_take (i := 6) (v := .int .i64 (minI m (Fa.run st ls))) rfl (by kernel_rfl) (by kernel_rfl) (by kernel_rfl) (fun _ _ _ h => h) (Or.inl ⟨by rfl, by intro w hSw; have hS0 := hSw; have y00 := hS0.cell (j := 0) rfl; have y01 := hS0.cell (j := 1) rfl; have y02 := hS0.cell (j := 2) rfl; have y03 := hS0.cell (j := 3) rfl; go_simp; exact HM.out⟩) hHeld ?_
      clear hHeld
      refine wpAnyH_ready (rs := [7, 12]) (by kernel_rfl) (by decide) ?_
      refine AllReadyH.cons rfl (fun K6a hK6a => ?_) (AllReadyH.cons rfl (fun K6b hK6b => ?_) AllReadyH.nil)
      · go_simp
        refine (implTakeQ_in _ _ ls lw (minI m (Fa.run st ls)) w4 hs hw (by omega) (by omega) HG.out hl2).mono ?_; rintro q_ w7 ⟨v5, v6, rfl, o5, o6, b_7⟩
        replace bx := bx.below b_7 bx.lt
        replace bR := bR.below b_7 bR.lt
        replace ht := ht.below b_7 (by omega)
        replace hs := hs.below b_7 (by omega)
        replace hw := hw.below b_7 (by omega)
        have z_8 := b_7.size
        replace bC := bC.trans (b_7.mono (by omega))
        clear b_7
        obtain ⟨A5, n5, d5, rfl, _, _, _⟩ := o5.rd.form
        obtain ⟨A6, n6, d6, rfl, _, _, _⟩ := o6.rd.form
        refine hK6a.out _ _ bx (fun _ => ?_)
        have hHeld : (fun (W : World) => Box W (w.heap.size) 35 [.int .i64 m, .slice At nt dt, .slice A0 n0 d0, .slice A1 n1 d1]) w7 := bx
        refine wpAnyH_take (i := 8) (v := .tuple #[.agg #[.slice A5 n5 d5, .slice A6 n6 d6], .int .i64 (Sl.tkV ls (minI m (Fa.run st ls))), .bool (Sl.tkOk ls (minI m (Fa.run st ls)))]) rfl (by kernel_rfl) (by kernel_rfl) (by kernel_rfl) (fun _ _ _ h => h) (Or.inl ⟨by rfl, by intro w hSw; have hS0 := hSw; have y00 := hS0.cell (j := 0) rfl; have y01 := hS0.cell (j := 1) rfl; have y02 := hS0.cell (j := 2) rfl; have y03 := hS0.cell (j := 3) rfl; go_simp⟩) hHeld ?_
        refine wpAnyH_take (i := 9) (v := .agg #[.slice A5 n5 d5, .slice A6 n6 d6]) rfl (by kernel_rfl) (by kernel_rfl) (by kernel_rfl) (fun _ _ _ h => h) (Or.inl ⟨by rfl, by intro w hSw; have hS0 := hSw; have y00 := hS0.cell (j := 0) rfl; have y01 := hS0.cell (j := 1) rfl; have y02 := hS0.cell (j := 2) rfl; have y03 := hS0.cell (j := 3) rfl; go_simp⟩) hHeld ?_
        refine wpAnyH_take (i := 10) (v := .int .i64 (Sl.tkV ls (minI m (Fa.run st ls)))) rfl (by kernel_rfl) (by kernel_rfl) (by kernel_rfl) (fun _ _ _ h => h) (Or.inl ⟨by rfl, by intro w hSw; have hS0 := hSw; have y00 := hS0.cell (j := 0) rfl; have y01 := hS0.cell (j := 1) rfl; have y02 := hS0.cell (j := 2) rfl; have y03 := hS0.cell (j := 3) rfl; go_simp⟩) hHeld ?_
        refine wpAnyH_take (i := 11) (v := .bool (Sl.tkOk ls (minI m (Fa.run st ls)))) rfl (by kernel_rfl) (by kernel_rfl) (by kernel_rfl) (fun _ _ _ h => h) (Or.inl ⟨by rfl, by intro w hSw; have hS0 := hSw; have y00 := hS0.cell (j := 0) rfl; have y01 := hS0.cell (j := 1) rfl; have y02 := hS0.cell (j := 2) rfl; have y03 := hS0.cell (j := 3) rfl; go_simp⟩) hHeld ?_
        clear hHeld
        refine wpAnyH_ready (rs := [12]) (by kernel_rfl) (by decide) ?_
        refine AllReadyH.cons rfl (fun K9 hK9 => ?_) AllReadyH.nil
        go_simp
        have b_10 := (Below.refl w7.heap.size w7).alloc (Nat.le_refl _) (.cells #[.slice none 0 0, .slice none 0 0] 33)
        have bT := Box.new w7 #[.slice none 0 0, .slice none 0 0] 33 rfl
        replace bx := bx.below b_10 bx.lt
        replace bR := bR.below b_10 bR.lt
        replace ht := ht.below b_10 (by omega)
        replace hs := hs.below b_10 (by omega)
        replace hw := hw.below b_10 (by omega)
        replace o5 := o5.below b_10 (by omega)
        replace o6 := o6.below b_10 (by omega)
        have z_11 := b_10.size
        replace bC := bC.trans (b_10.mono (by omega))
        clear b_10
        generalize w7.alloc _ = w10 at *
        generalize w7.heap.size = g10 at *
        refine hK9.out _ _ bx (fun _ => ?_)
        refine wpAnyH_ready (rs := [13]) (by kernel_rfl) (by decide) ?_
        refine AllReadyH.cons rfl (fun K12 hK12 => ?_) AllReadyH.nil
        have bx_0 := bx.cell (j := 0) rfl
        have bx_1 := bx.cell (j := 1) rfl
        have bx_2 := bx.cell (j := 2) rfl
        have bx_3 := bx.cell (j := 3) rfl
        have bx_z := bx.frozen
        have bx_l := bx.lt
        have bR_0 := bR.cell (j := 0) rfl
        have bR_1 := bR.cell (j := 1) rfl
        have bR_2 := bR.cell (j := 2) rfl
        have bR_3 := bR.cell (j := 3) rfl
        have bR_z := bR.frozen
        have bR_l := bR.lt
        have bT_0 := bT.cell (j := 0) rfl
        have bT_1 := bT.cell (j := 1) rfl
        have bT_z := bT.frozen
        have bT_l := bT.lt
        go_simp
        clear bx_0 bx_1 bx_2 bx_3 bx_z bx_l bR_0 bR_1 bR_2 bR_3 bR_z bR_l bT_0 bT_1 bT_z bT_l
        generalize hwz : World.setCell (World.setCell _ _ _) _ _ = wz_
        obtain rfl : wz_ = setL w10 (g10) 0 [.slice A5 n5 d5, .slice A6 n6 d6] := hwz.symm
        clear hwz
        replace bx := bx.other (b := g10) (by omega) 0 [.slice A5 n5 d5, .slice A6 n6 d6]
        replace bR := bR.other (b := g10) (by omega) 0 [.slice A5 n5 d5, .slice A6 n6 d6]
        replace ht := ht.away (g := g10) (by omega) 0 [.slice A5 n5 d5, .slice A6 n6 d6]
        replace hs := hs.away (g := g10) (by omega) 0 [.slice A5 n5 d5, .slice A6 n6 d6]
        replace hw := hw.away (g := g10) (by omega) 0 [.slice A5 n5 d5, .slice A6 n6 d6]
        replace o5 := o5.box (g := g10) bT (by decide) 0 [.slice A5 n5 d5, .slice A6 n6 d6]
        replace o6 := o6.box (g := g10) bT (by decide) 0 [.slice A5 n5 d5, .slice A6 n6 d6]
        replace bC := setL_below bC [.slice A5 n5 d5, .slice A6 n6 d6] (g10) 0 (by omega)
        have zs_13 : (setL w10 (g10) 0 [.slice A5 n5 d5, .slice A6 n6 d6]).heap.size = w10.heap.size := setL_size _ _ _ _
        replace bT := bT.setAll [.slice A5 n5 d5, .slice A6 n6 d6] rfl
        generalize setL w10 _ 0 _ = w13 at *
        refine hK12.out _ _ bx (fun _ => ?_)
        refine wpAnyH_ready (rs := [14]) (by kernel_rfl) (by decide) ?_
        refine AllReadyH.cons rfl (fun K14 hK14 => ?_) AllReadyH.nil
        go_simp
        refine hK14.out _ _ bx (fun _ => ?_)
        refine wpAnyH_ready (rs := [15]) (by kernel_rfl) (by decide) ?_
        refine AllReadyH.cons rfl (fun K15 hK15 => ?_) AllReadyH.nil
        go_simp
        refine hK15.out _ _ bx (fun _ => ?_)
        refine ⟨by kernel_rfl, ?_⟩
        have bx_0 := bx.cell (j := 0) rfl
        have bx_1 := bx.cell (j := 1) rfl
        have bx_2 := bx.cell (j := 2) rfl
        have bx_3 := bx.cell (j := 3) rfl
        have bx_z := bx.frozen
        have bx_l := bx.lt
        have bR_0 := bR.cell (j := 0) rfl
        have bR_1 := bR.cell (j := 1) rfl
        have bR_2 := bR.cell (j := 2) rfl
        have bR_3 := bR.cell (j := 3) rfl
        have bR_z := bR.frozen
        have bR_l := bR.lt
        have bT_0 := bT.cell (j := 0) rfl
        have bT_1 := bT.cell (j := 1) rfl
        have bT_z := bT.frozen
        have bT_l := bT.lt
        go_wp2_with fail
        clear bx_0 bx_1 bx_2 bx_3 bx_z bx_l bR_0 bR_1 bR_2 bR_3 bR_z bR_l bT_0 bT_1 bT_z bT_l
        go_meet
        exact ⟨_, _, _, _, rfl, rfl, rfl, rfl, bC, by omega, bT, o5.mono (by omega) (by omega), o6.mono (by omega) (by omega)⟩
      · go_simp
        have b_7 := (Below.refl w4.heap.size w4).alloc (Nat.le_refl _) (.cells #[.slice none 0 0, .slice none 0 0] 33)
        have bT := Box.new w4 #[.slice none 0 0, .slice none 0 0] 33 rfl
        replace bx := bx.below b_7 bx.lt
        replace bR := bR.below b_7 bR.lt
        replace ht := ht.below b_7 (by omega)
        replace hs := hs.below b_7 (by omega)
        replace hw := hw.below b_7 (by omega)
        have z_8 := b_7.size
        replace bC := bC.trans (b_7.mono (by omega))
        clear b_7
        generalize w4.alloc _ = w7 at *
        generalize w4.heap.size = g7 at *
        refine hK6b.out _ _ bx (fun _ => ?_)
        refine wpAnyH_ready (rs := [7]) (by kernel_rfl) (by decide) ?_
        refine AllReadyH.cons rfl (fun K9 hK9 => ?_) AllReadyH.nil
        go_simp
        refine (implTakeQ_in _ _ ls lw (minI m (Fa.run st ls)) w7 hs hw (by omega) (by omega) HG.out hl2).mono ?_; rintro q_ w10 ⟨v5, v6, rfl, o5, o6, b_10⟩
        replace bx := bx.below b_10 bx.lt
        replace bR := bR.below b_10 bR.lt
        replace bT := bT.below b_10 bT.lt
        replace ht := ht.below b_10 (by omega)
        replace hs := hs.below b_10 (by omega)
        replace hw := hw.below b_10 (by omega)
        have z_11 := b_10.size
        replace bC := bC.trans (b_10.mono (by omega))
        clear b_10
        obtain ⟨A5, n5, d5, rfl, _, _, _⟩ := o5.rd.form
        obtain ⟨A6, n6, d6, rfl, _, _, _⟩ := o6.rd.form
        refine hK9.out _ _ bx (fun _ => ?_)
        have hHeld : (fun (W : World) => Box W (w.heap.size) 35 [.int .i64 m, .slice At nt dt, .slice A0 n0 d0, .slice A1 n1 d1]) w10 := bx
        refine wpAnyH_take (i := 8) (v := .tuple #[.agg #[.slice A5 n5 d5, .slice A6 n6 d6], .int .i64 (Sl.tkV ls (minI m (Fa.run st ls))), .bool (Sl.tkOk ls (minI m (Fa.run st ls)))]) rfl (by kernel_rfl) (by kernel_rfl) (by kernel_rfl) (fun _ _ _ h => h) (Or.inl ⟨by rfl, by intro w hSw; have hS0 := hSw; have y00 := hS0.cell (j := 0) rfl; have y01 := hS0.cell (j := 1) rfl; have y02 := hS0.cell (j := 2) rfl; have y03 := hS0.cell (j := 3) rfl; go_simp⟩) hHeld ?_
        refine wpAnyH_take (i := 9) (v := .agg #[.slice A5 n5 d5, .slice A6 n6 d6]) rfl (by kernel_rfl) (by kernel_rfl) (by kernel_rfl) (fun _ _ _ h => h) (Or.inl ⟨by rfl, by intro w hSw; have hS0 := hSw; have y00 := hS0.cell (j := 0) rfl; have y01 := hS0.cell (j := 1) rfl; have y02 := hS0.cell (j := 2) rfl; have y03 := hS0.cell (j := 3) rfl; go_simp⟩) hHeld ?_
        refine wpAnyH_take (i := 10) (v := .int .i64 (Sl.tkV ls (minI m (Fa.run st ls)))) rfl (by kernel_rfl) (by kernel_rfl) (by kernel_rfl) (fun _ _ _ h => h) (Or.inl ⟨by rfl, by intro w hSw; have hS0 := hSw; have y00 := hS0.cell (j := 0) rfl; have y01 := hS0.cell (j := 1) rfl; have y02 := hS0.cell (j := 2) rfl; have y03 := hS0.cell (j := 3) rfl; go_simp⟩) hHeld ?_
        refine wpAnyH_take (i := 11) (v := .bool (Sl.tkOk ls (minI m (Fa.run st ls)))) rfl (by kernel_rfl) (by kernel_rfl) (by kernel_rfl) (fun _ _ _ h => h) (Or.inl ⟨by rfl, by intro w hSw; have hS0 := hSw; have y00 := hS0.cell (j := 0) rfl; have y01 := hS0.cell (j := 1) rfl; have y02 := hS0.cell (j := 2) rfl; have y03 := hS0.cell (j := 3) rfl; go_simp⟩) hHeld ?_
        clear hHeld
        refine wpAnyH_ready (rs := [13]) (by kernel_rfl) (by decide) ?_
        refine AllReadyH.cons rfl (fun K12 hK12 => ?_) AllReadyH.nil
        have bx_0 := bx.cell (j := 0) rfl
        have bx_1 := bx.cell (j := 1) rfl
        have bx_2 := bx.cell (j := 2) rfl
        have bx_3 := bx.cell (j := 3) rfl
        have bx_z := bx.frozen
        have bx_l := bx.lt
        have bR_0 := bR.cell (j := 0) rfl
        have bR_1 := bR.cell (j := 1) rfl
        have bR_2 := bR.cell (j := 2) rfl
        have bR_3 := bR.cell (j := 3) rfl
        have bR_z := bR.frozen
        have bR_l := bR.lt
        have bT_0 := bT.cell (j := 0) rfl
        have bT_1 := bT.cell (j := 1) rfl
        have bT_z := bT.frozen
        have bT_l := bT.lt
        go_simp
        clear bx_0 bx_1 bx_2 bx_3 bx_z bx_l bR_0 bR_1 bR_2 bR_3 bR_z bR_l bT_0 bT_1 bT_z bT_l
        generalize hwz : World.setCell (World.setCell _ _ _) _ _ = wz_
        obtain rfl : wz_ = setL w10 (g7) 0 [.slice A5 n5 d5, .slice A6 n6 d6] := hwz.symm
        clear hwz
        replace bx := bx.other (b := g7) (by omega) 0 [.slice A5 n5 d5, .slice A6 n6 d6]
        replace bR := bR.other (b := g7) (by omega) 0 [.slice A5 n5 d5, .slice A6 n6 d6]
        replace ht := ht.away (g := g7) (by omega) 0 [.slice A5 n5 d5, .slice A6 n6 d6]
        replace hs := hs.away (g := g7) (by omega) 0 [.slice A5 n5 d5, .slice A6 n6 d6]
        replace hw := hw.away (g := g7) (by omega) 0 [.slice A5 n5 d5, .slice A6 n6 d6]
        replace o5 := o5.box (g := g7) bT (by decide) 0 [.slice A5 n5 d5, .slice A6 n6 d6]
        replace o6 := o6.box (g := g7) bT (by decide) 0 [.slice A5 n5 d5, .slice A6 n6 d6]
        replace bC := setL_below bC [.slice A5 n5 d5, .slice A6 n6 d6] (g7) 0 (by omega)
        have zs_13 : (setL w10 (g7) 0 [.slice A5 n5 d5, .slice A6 n6 d6]).heap.size = w10.heap.size := setL_size _ _ _ _
        replace bT := bT.setAll [.slice A5 n5 d5, .slice A6 n6 d6] rfl
        generalize setL w10 _ 0 _ = w13 at *
        refine hK12.out _ _ bx (fun _ => ?_)
        refine wpAnyH_ready (rs := [14]) (by kernel_rfl) (by decide) ?_
        refine AllReadyH.cons rfl (fun K14 hK14 => ?_) AllReadyH.nil
        go_simp
        refine hK14.out _ _ bx (fun _ => ?_)
        refine wpAnyH_ready (rs := [15]) (by kernel_rfl) (by decide) ?_
        refine AllReadyH.cons rfl (fun K15 hK15 => ?_) AllReadyH.nil
        go_simp
        refine hK15.out _ _ bx (fun _ => ?_)
        refine ⟨by kernel_rfl, ?_⟩
        have bx_0 := bx.cell (j := 0) rfl
        have bx_1 := bx.cell (j := 1) rfl
        have bx_2 := bx.cell (j := 2) rfl
        have bx_3 := bx.cell (j := 3) rfl
        have bx_z := bx.frozen
        have bx_l := bx.lt
        have bR_0 := bR.cell (j := 0) rfl
        have bR_1 := bR.cell (j := 1) rfl
        have bR_2 := bR.cell (j := 2) rfl
        have bR_3 := bR.cell (j := 3) rfl
        have bR_z := bR.frozen
        have bR_l := bR.lt
        have bT_0 := bT.cell (j := 0) rfl
        have bT_1 := bT.cell (j := 1) rfl
        have bT_z := bT.frozen
        have bT_l := bT.lt
        go_wp2_with fail
        clear bx_0 bx_1 bx_2 bx_3 bx_z bx_l bR_0 bR_1 bR_2 bR_3 bR_z bR_l bT_0 bT_1 bT_z bT_l
        go_meet
        exact ⟨_, _, _, _, rfl, rfl, rfl, rfl, bC, by omega, bT, o5.mono (by omega) (by omega), o6.mono (by omega) (by omega)⟩
    · go_simp
      have b_4 := (Below.refl w1.heap.size w1).alloc (Nat.le_refl _) (.cells #[.slice none 0 0, .slice none 0 0] 33)
      have bT := Box.new w1 #[.slice none 0 0, .slice none 0 0] 33 rfl
      replace bx := bx.below b_4 bx.lt
      replace bR := bR.below b_4 bR.lt
      replace ht := ht.below b_4 (by omega)
      replace hs := hs.below b_4 (by omega)
      replace hw := hw.below b_4 (by omega)
      have z_5 := b_4.size
      replace bC := bC.trans (b_4.mono (by omega))
      clear b_4
      generalize w1.alloc _ = w4 at *
      generalize w1.heap.size = g4 at *
      refine hK3b.out _ _ bx (fun _ => ?_)
      refine wpAnyH_ready (rs := [5]) (by kernel_rfl) (by decide) ?_
      refine AllReadyH.cons rfl (fun K6 hK6 => ?_) AllReadyH.nil
      go_simp
      refine (implRunning_in m _ _ _ st ls lw w4 ht hs hw (by omega) (by omega) (by omega) HX.out).mono ?_; rintro q_ w7 ⟨rfl, b_7⟩
      replace bx := bx.below b_7 bx.lt
      replace bR := bR.below b_7 bR.lt
      replace bT := bT.below b_7 bT.lt
      replace ht := ht.below b_7 (by omega)
      replace hs := hs.below b_7 (by omega)
      replace hw := hw.below b_7 (by omega)
      have z_8 := b_7.size
      replace bC := bC.trans (b_7.mono (by omega))
      clear b_7
      refine hK6.out _ _ bx (fun _ => ?_)
      have hHeld : (fun (W : World) => Box W (w.heap.size) 35 [.int .i64 m, .slice At nt dt, .slice A0 n0 d0, .slice A1 n1 d1]) w7 := bx
      refine wpAnyH_take (i := 6) (v := .int .i64 (minI m (Fa.run st ls))) rfl (by kernel_rfl) (by kernel_rfl) (by kernel_rfl) (fun _ _ _ h => h) (Or.inl ⟨by rfl, by intro w hSw; have hS0 := hSw; have y00 := hS0.cell (j := 0) rfl; have y01 := hS0.cell (j := 1) rfl; have y02 := hS0.cell (j := 2) rfl; have y03 := hS0.cell (j := 3) rfl; go_simp; exact HM.out⟩) hHeld ?_
      clear hHeld
      refine wpAnyH_ready (rs := [7]) (by kernel_rfl) (by decide) ?_
      refine AllReadyH.cons rfl (fun K9 hK9 => ?_) AllReadyH.nil
      go_simp
      refine (implTakeQ_in _ _ ls lw (minI m (Fa.run st ls)) w7 hs hw (by omega) (by omega) HG.out hl2).mono ?_; rintro q_ w10 ⟨v5, v6, rfl, o5, o6, b_10⟩
      replace bx := bx.below b_10 bx.lt
      replace bR := bR.below b_10 bR.lt
      replace bT := bT.below b_10 bT.lt
      replace ht := ht.below b_10 (by omega)
      replace hs := hs.below b_10 (by omega)
      replace hw := hw.below b_10 (by omega)
      have z_11 := b_10.size
      replace bC := bC.trans (b_10.mono (by omega))
      clear b_10
      obtain ⟨A5, n5, d5, rfl, _, _, _⟩ := o5.rd.form
      obtain ⟨A6, n6, d6, rfl, _, _, _⟩ := o6.rd.form
      refine hK9.out _ _ bx (fun _ => ?_)
      have hHeld : (fun (W : World) => Box W (w.heap.size) 35 [.int .i64 m, .slice At nt dt, .slice A0 n0 d0, .slice A1 n1 d1]) w10 := bx
      refine wpAnyH_take (i := 8) (v := .tuple #[.agg #[.slice A5 n5 d5, .slice A6 n6 d6], .int .i64 (Sl.tkV ls (minI m (Fa.run st ls))), .bool (Sl.tkOk ls (minI m (Fa.run st ls)))]) rfl (by kernel_rfl) (by kernel_rfl) (by kernel_rfl) (fun _ _ _ h => h) (Or.inl ⟨by rfl, by intro w hSw; have hS0 := hSw; have y00 := hS0.cell (j := 0) rfl; have y01 := hS0.cell (j := 1) rfl; have y02 := hS0.cell (j := 2) rfl; have y03 := hS0.cell (j := 3) rfl; go_simp⟩) hHeld ?_
      refine wpAnyH_take (i := 9) (v := .agg #[.slice A5 n5 d5, .slice A6 n6 d6]) rfl (by kernel_rfl) (by kernel_rfl) (by kernel_rfl) (fun _ _ _ h => h) (Or.inl ⟨by rfl, by intro w hSw; have hS0 := hSw; have y00 := hS0.cell (j := 0) rfl; have y01 := hS0.cell (j := 1) rfl; have y02 := hS0.cell (j := 2) rfl; have y03 := hS0.cell (j := 3) rfl; go_simp⟩) hHeld ?_
      refine wpAnyH_take (i := 10) (v := .int .i64 (Sl.tkV ls (minI m (Fa.run st ls)))) rfl (by kernel_rfl) (by kernel_rfl) (by kernel_rfl) (fun _ _ _ h => h) (Or.inl ⟨by rfl, by intro w hSw; have hS0 := hSw; have y00 := hS0.cell (j := 0) rfl; have y01 := hS0.cell (j := 1) rfl; have y02 := hS0.cell (j := 2) rfl; have y03 := hS0.cell (j := 3) rfl; go_simp⟩) hHeld ?_
      refine wpAnyH_take (i := 11) (v := .bool (Sl.tkOk ls (minI m (Fa.run st ls)))) rfl (by kernel_rfl) (by kernel_rfl) (by kernel_rfl) (fun _ _ _ h => h) (Or.inl ⟨by rfl, by intro w hSw; have hS0 := hSw; have y00 := hS0.cell (j := 0) rfl; have y01 := hS0.cell (j := 1) rfl; have y02 := hS0.cell (j := 2) rfl; have y03 := hS0.cell (j := 3) rfl; go_simp⟩) hHeld ?_
      clear hHeld
      refine wpAnyH_ready (rs := [13]) (by kernel_rfl) (by decide) ?_
      refine AllReadyH.cons rfl (fun K12 hK12 => ?_) AllReadyH.nil
      have bx_0 := bx.cell (j := 0) rfl
      have bx_1 := bx.cell (j := 1) rfl
      have bx_2 := bx.cell (j := 2) rfl
      have bx_3 := bx.cell (j := 3) rfl
      have bx_z := bx.frozen
      have bx_l := bx.lt
      have bR_0 := bR.cell (j := 0) rfl
      have bR_1 := bR.cell (j := 1) rfl
      have bR_2 := bR.cell (j := 2) rfl
      have bR_3 := bR.cell (j := 3) rfl
      have bR_z := bR.frozen
      have bR_l := bR.lt
      have bT_0 := bT.cell (j := 0) rfl
      have bT_1 := bT.cell (j := 1) rfl
      have bT_z := bT.frozen
      have bT_l := bT.lt
      go_simp
      clear bx_0 bx_1 bx_2 bx_3 bx_z bx_l bR_0 bR_1 bR_2 bR_3 bR_z bR_l bT_0 bT_1 bT_z bT_l
      generalize hwz : World.setCell (World.setCell _ _ _) _ _ = wz_
      obtain rfl : wz_ = setL w10 (g4) 0 [.slice A5 n5 d5, .slice A6 n6 d6] := hwz.symm
      clear hwz
      replace bx := bx.other (b := g4) (by omega) 0 [.slice A5 n5 d5, .slice A6 n6 d6]
      replace bR := bR.other (b := g4) (by omega) 0 [.slice A5 n5 d5, .slice A6 n6 d6]
      replace ht := ht.away (g := g4) (by omega) 0 [.slice A5 n5 d5, .slice A6 n6 d6]
      replace hs := hs.away (g := g4) (by omega) 0 [.slice A5 n5 d5, .slice A6 n6 d6]
      replace hw := hw.away (g := g4) (by omega) 0 [.slice A5 n5 d5, .slice A6 n6 d6]
      replace o5 := o5.box (g := g4) bT (by decide) 0 [.slice A5 n5 d5, .slice A6 n6 d6]
      replace o6 := o6.box (g := g4) bT (by decide) 0 [.slice A5 n5 d5, .slice A6 n6 d6]
      replace bC := setL_below bC [.slice A5 n5 d5, .slice A6 n6 d6] (g4) 0 (by omega)
      have zs_13 : (setL w10 (g4) 0 [.slice A5 n5 d5, .slice A6 n6 d6]).heap.size = w10.heap.size := setL_size _ _ _ _
      replace bT := bT.setAll [.slice A5 n5 d5, .slice A6 n6 d6] rfl
      generalize setL w10 _ 0 _ = w13 at *
      refine hK12.out _ _ bx (fun _ => ?_)
      refine wpAnyH_ready (rs := [14]) (by kernel_rfl) (by decide) ?_
      refine AllReadyH.cons rfl (fun K14 hK14 => ?_) AllReadyH.nil
      go_simp
      refine hK14.out _ _ bx (fun _ => ?_)
      refine wpAnyH_ready (rs := [15]) (by kernel_rfl) (by decide) ?_
      refine AllReadyH.cons rfl (fun K15 hK15 => ?_) AllReadyH.nil
      go_simp
      refine hK15.out _ _ bx (fun _ => ?_)
      refine ⟨by kernel_rfl, ?_⟩
      have bx_0 := bx.cell (j := 0) rfl
      have bx_1 := bx.cell (j := 1) rfl
      have bx_2 := bx.cell (j := 2) rfl
      have bx_3 := bx.cell (j := 3) rfl
      have bx_z := bx.frozen
      have bx_l := bx.lt
      have bR_0 := bR.cell (j := 0) rfl
      have bR_1 := bR.cell (j := 1) rfl
      have bR_2 := bR.cell (j := 2) rfl
      have bR_3 := bR.cell (j := 3) rfl
      have bR_z := bR.frozen
      have bR_l := bR.lt
      have bT_0 := bT.cell (j := 0) rfl
      have bT_1 := bT.cell (j := 1) rfl
      have bT_z := bT.frozen
      have bT_l := bT.lt
      go_wp2_with fail
      clear bx_0 bx_1 bx_2 bx_3 bx_z bx_l bR_0 bR_1 bR_2 bR_3 bR_z bR_l bT_0 bT_1 bT_z bT_l
      go_meet
      exact ⟨_, _, _, _, rfl, rfl, rfl, rfl, bC, by omega, bT, o5.mono (by omega) (by omega), o6.mono (by omega) (by omega)⟩
  case rest =>
    obtain ⟨wx, gT, v1, v2, rfl, rfl, rfl, rfl, bC, zT, bT, o5, o6⟩ := hcut
    replace bx := bx.below bC bx.lt
    replace bR := bR.below bC bR.lt
    replace ht := ht.below bC (by omega)
    replace hs := hs.below bC (by omega)
    replace hw := hw.below bC (by omega)
    have z_51 := bC.size
    replace b0 := b0.trans (bC.mono (by omega))
    clear bC
    obtain ⟨A5, n5, d5, rfl, _, _, _⟩ := o5.rd.form
    obtain ⟨A6, n6, d6, rfl, _, _, _⟩ := o6.rd.form
    have zTl := bT.lt
    cases hk : Sl.tkOk ls (minI m (Fa.run st ls))
    · have HF := Lib.hid (show Fa.tkU st ls (minI m (Fa.run st ls)) = [] ∧ Fa.tkM m ls (minI m (Fa.run st ls)) = 0 ∧ Sl.tkR ls (minI m (Fa.run st ls)) = [] ∧ Qu.tkK ls (minI m (Fa.run st ls)) lw = [] ∧ Sl.tkV ls (minI m (Fa.run st ls)) = 0 ∧ Sl.tkOk ls (minI m (Fa.run st ls)) = false from by simp [Fa.tkU, Fa.tkM, Sl.tkR, Qu.tkK, Sl.tkV, hk])
      clear hk
      have bx_0 := bx.cell (j := 0) rfl
      have bx_1 := bx.cell (j := 1) rfl
      have bx_2 := bx.cell (j := 2) rfl
      have bx_3 := bx.cell (j := 3) rfl
      have bx_z := bx.frozen
      have bx_l := bx.lt
      have bR_0 := bR.cell (j := 0) rfl
      have bR_1 := bR.cell (j := 1) rfl
      have bR_2 := bR.cell (j := 2) rfl
      have bR_3 := bR.cell (j := 3) rfl
      have bR_z := bR.frozen
      have bR_l := bR.lt
      have bT_0 := bT.cell (j := 0) rfl
      have bT_1 := bT.cell (j := 1) rfl
      have bT_z := bT.frozen
      have bT_l := bT.lt
      go_wp2_with fail
      clear bx_0 bx_1 bx_2 bx_3 bx_z bx_l bR_0 bR_1 bR_2 bR_3 bR_z bR_l bT_0 bT_1 bT_z bT_l
      generalize hwz : World.setCell (World.setCell (World.setCell (World.setCell _ _ _) _ _) _ _) _ _ = wz_
      obtain rfl : wz_ = setL wx (w.heap.size + 1) 0 [.int .i64 0, .slice none 0 0, .slice none 0 0, .slice none 0 0] := hwz.symm
      clear hwz
      replace bx := bx.other (b := w.heap.size + 1) (by omega) 0 [.int .i64 0, .slice none 0 0, .slice none 0 0, .slice none 0 0]
      replace bT := bT.other (b := w.heap.size + 1) (by omega) 0 [.int .i64 0, .slice none 0 0, .slice none 0 0, .slice none 0 0]
      replace ht := ht.away (g := w.heap.size + 1) (by omega) 0 [.int .i64 0, .slice none 0 0, .slice none 0 0, .slice none 0 0]
      replace hs := hs.away (g := w.heap.size + 1) (by omega) 0 [.int .i64 0, .slice none 0 0, .slice none 0 0, .slice none 0 0]
      replace hw := hw.away (g := w.heap.size + 1) (by omega) 0 [.int .i64 0, .slice none 0 0, .slice none 0 0, .slice none 0 0]
      replace o5 := o5.box (g := w.heap.size + 1) bR (by decide) 0 [.int .i64 0, .slice none 0 0, .slice none 0 0, .slice none 0 0]
      replace o6 := o6.box (g := w.heap.size + 1) bR (by decide) 0 [.int .i64 0, .slice none 0 0, .slice none 0 0, .slice none 0 0]
      replace b0 := setL_below b0 [.int .i64 0, .slice none 0 0, .slice none 0 0, .slice none 0 0] (w.heap.size + 1) 0 (by omega)
      have zs_52 : (setL wx (w.heap.size + 1) 0 [.int .i64 0, .slice none 0 0, .slice none 0 0, .slice none 0 0]).heap.size = wx.heap.size := setL_size _ _ _ _
      replace bR := bR.setAll [.int .i64 0, .slice none 0 0, .slice none 0 0, .slice none 0 0] rfl
      generalize setL wx _ 0 _ = w52 at *
      have u0_ := bR.cell (j := 0) rfl
      have u1_ := bR.cell (j := 1) rfl
      have u2_ := bR.cell (j := 2) rfl
      have u3_ := bR.cell (j := 3) rfl
      refine bodyPost_ret (by simp only [results, Tryz.results63]; simp [go_sem, u0_, u1_, u2_, u3_]; rfl) rfl ?_
      exact ⟨_, _, _, by rw [HF.out.2.1, HF.out.2.2.2.2.1, HF.out.2.2.2.2.2], by rw [HF.out.1]; exact Ow.nil_, by rw [HF.out.2.2.1]; exact Ow.nil_, by rw [HF.out.2.2.2.1]; exact Ow.nil_, b0⟩
    · have HF := Lib.hid (show Fa.tkU st ls (minI m (Fa.run st ls)) = st ++ [Sl.tkV ls (minI m (Fa.run st ls))] ∧ Fa.tkM m ls (minI m (Fa.run st ls)) = m ∧ Sl.tkOk ls (minI m (Fa.run st ls)) = true from by simp [Fa.tkU, Fa.tkM, Sl.tkV, hk])
      clear hk
      have bx_0 := bx.cell (j := 0) rfl
      have bx_1 := bx.cell (j := 1) rfl
      have bx_2 := bx.cell (j := 2) rfl
      have bx_3 := bx.cell (j := 3) rfl
      have bx_z := bx.frozen
      have bx_l := bx.lt
      have bR_0 := bR.cell (j := 0) rfl
      have bR_1 := bR.cell (j := 1) rfl
      have bR_2 := bR.cell (j := 2) rfl
      have bR_3 := bR.cell (j := 3) rfl
      have bR_z := bR.frozen
      have bR_l := bR.lt
      have bT_0 := bT.cell (j := 0) rfl
      have bT_1 := bT.cell (j := 1) rfl
      have bT_z := bT.frozen
      have bT_l := bT.lt
      go_upto_region 4 with fail
      clear bx_0 bx_1 bx_2 bx_3 bx_z bx_l bR_0 bR_1 bR_2 bR_3 bR_z bR_l bT_0 bT_1 bT_z bT_l
      refine wp_region_held_drew (S := fun W => Box W (w.heap.size) 35 [.int .i64 m, .slice At nt dt, .slice A0 n0 d0, .slice A1 n1 d1] ∧ Box W (gT) 33 [.slice A5 n5 d5, .slice A6 n6 d6]) (by kernel_rfl) (show (fun (W : World) => Box W (w.heap.size) 35 [.int .i64 m, .slice At nt dt, .slice A0 n0 d0, .slice A1 n1 d1] ∧ Box W (gT) 33 [.slice A5 n5 d5, .slice A6 n6 d6]) wx.drew from ⟨bx, bT⟩) (fun hHeld => ?_)
      refine wpAnyH_take (i := 0) (v := .pointer (some ⟨w.heap.size, 0, none⟩)) rfl (by kernel_rfl) (by kernel_rfl) (by kernel_rfl) (fun _ _ _ h => h) (Or.inl ⟨by rfl, by intro w hSw; obtain ⟨hS0, hS1⟩ := hSw; have y00 := hS0.cell (j := 0) rfl; have y01 := hS0.cell (j := 1) rfl; have y02 := hS0.cell (j := 2) rfl; have y03 := hS0.cell (j := 3) rfl; have y10 := hS1.cell (j := 0) rfl; have y11 := hS1.cell (j := 1) rfl; go_simp⟩) hHeld ?_
      refine wpAnyH_take (i := 1) (v := .int .i64 m) rfl (by kernel_rfl) (by kernel_rfl) (by kernel_rfl) (fun _ _ _ h => h) (Or.inl ⟨by rfl, by intro w hSw; obtain ⟨hS0, hS1⟩ := hSw; have y00 := hS0.cell (j := 0) rfl; have y01 := hS0.cell (j := 1) rfl; have y02 := hS0.cell (j := 2) rfl; have y03 := hS0.cell (j := 3) rfl; have y10 := hS1.cell (j := 0) rfl; have y11 := hS1.cell (j := 1) rfl; go_simp⟩) hHeld ?_
      refine wpAnyH_take (i := 2) (v := .pointer (some ⟨w.heap.size, 1, none⟩)) rfl (by kernel_rfl) (by kernel_rfl) (by kernel_rfl) (fun _ _ _ h => h) (Or.inl ⟨by rfl, by intro w hSw; obtain ⟨hS0, hS1⟩ := hSw; have y00 := hS0.cell (j := 0) rfl; have y01 := hS0.cell (j := 1) rfl; have y02 := hS0.cell (j := 2) rfl; have y03 := hS0.cell (j := 3) rfl; have y10 := hS1.cell (j := 0) rfl; have y11 := hS1.cell (j := 1) rfl; go_simp⟩) hHeld ?_
      refine wpAnyH_take (i := 3) (v := .slice At nt dt) rfl (by kernel_rfl) (by kernel_rfl) (by kernel_rfl) (fun _ _ _ h => h) (Or.inl ⟨by rfl, by intro w hSw; obtain ⟨hS0, hS1⟩ := hSw; have y00 := hS0.cell (j := 0) rfl; have y01 := hS0.cell (j := 1) rfl; have y02 := hS0.cell (j := 2) rfl; have y03 := hS0.cell (j := 3) rfl; have y10 := hS1.cell (j := 0) rfl; have y11 := hS1.cell (j := 1) rfl; go_simp⟩) hHeld ?_
      refine wpAnyH_take (i := 5) (v := .int .i64 (Sl.tkV ls (minI m (Fa.run st ls)))) rfl (by kernel_rfl) (by kernel_rfl) (by kernel_rfl) (fun _ _ _ h => h) (Or.inl ⟨by rfl, by intro w hSw; obtain ⟨hS0, hS1⟩ := hSw; have y00 := hS0.cell (j := 0) rfl; have y01 := hS0.cell (j := 1) rfl; have y02 := hS0.cell (j := 2) rfl; have y03 := hS0.cell (j := 3) rfl; have y10 := hS1.cell (j := 0) rfl; have y11 := hS1.cell (j := 1) rfl; go_simp⟩) hHeld ?_
      refine wpAnyH_take (i := 8) (v := .agg #[.slice A5 n5 d5, .slice A6 n6 d6]) rfl (by kernel_rfl) (by kernel_rfl) (by kernel_rfl) (fun _ _ _ h => h) (Or.inl ⟨by rfl, by intro w hSw; obtain ⟨hS0, hS1⟩ := hSw; have y00 := hS0.cell (j := 0) rfl; have y01 := hS0.cell (j := 1) rfl; have y02 := hS0.cell (j := 2) rfl; have y03 := hS0.cell (j := 3) rfl; have y10 := hS1.cell (j := 0) rfl; have y11 := hS1.cell (j := 1) rfl; go_simp⟩) hHeld ?_
      refine wpAnyH_take (i := 10) (v := .int .i64 (Sl.tkV ls (minI m (Fa.run st ls)))) rfl (by kernel_rfl) (by kernel_rfl) (by kernel_rfl) (fun _ _ _ h => h) (Or.inl ⟨by rfl, by intro w hSw; obtain ⟨hS0, hS1⟩ := hSw; have y00 := hS0.cell (j := 0) rfl; have y01 := hS0.cell (j := 1) rfl; have y02 := hS0.cell (j := 2) rfl; have y03 := hS0.cell (j := 3) rfl; have y10 := hS1.cell (j := 0) rfl; have y11 := hS1.cell (j := 1) rfl; go_simp⟩) hHeld ?_
      clear hHeld
      refine held_gen (F := fun W' => Below wx.heap.size wx W') (Below.refl wx.heap.size wx).drew ?_
      rintro w52 b_52
      replace bx := bx.below b_52 bx.lt
      replace bR := bR.below b_52 bR.lt
      replace bT := bT.below b_52 bT.lt
      replace ht := ht.below b_52 (by omega)
      replace hs := hs.below b_52 (by omega)
      replace hw := hw.below b_52 (by omega)
      replace o5 := o5.below b_52 (by omega)
      replace o6 := o6.below b_52 (by omega)
      have z_53 := b_52.size
      replace b0 := b0.trans (b_52.mono (by omega))
      clear b_52
      refine wpAnyH_ready (rs := [4, 6]) (by kernel_rfl) (by decide) ?_
      refine AllReadyH.cons rfl (fun K54a hK54a => ?_) (AllReadyH.cons rfl (fun K54b hK54b => ?_) AllReadyH.nil)
      · go_simp
        refine (copyInts_own wx.heap.size _ st w52 ht (by omega) (by omega) hl).mono ?_; rintro q_ w55 ⟨v3, rfl, o3, b_55⟩
        replace bx := bx.below b_55 bx.lt
        replace bR := bR.below b_55 bR.lt
        replace bT := bT.below b_55 bT.lt
        replace ht := ht.below b_55 (by omega)
        replace hs := hs.below b_55 (by omega)
        replace hw := hw.below b_55 (by omega)
        replace o5 := o5.below b_55 (by omega)
        replace o6 := o6.below b_55 (by omega)
        have z_56 := b_55.size
        replace b0 := b0.trans (b_55.mono (by omega))
        clear b_55
        obtain ⟨A3, n3, d3, rfl, _, _, _⟩ := (Ow.of_own Nm.cells_len o3 rfl rfl).rd.form
        refine hK54a.out _ _ ⟨bx, bT⟩ (fun _ => ?_)
        refine wpAnyH_ready (rs := [6]) (by kernel_rfl) (by decide) ?_
        refine AllReadyH.cons rfl (fun K57 hK57 => ?_) AllReadyH.nil
        go_simp
        have b_58 := (Below.refl w55.heap.size w55).alloc (Nat.le_refl _) (.cells #[.int .i64 (Sl.tkV ls (minI m (Fa.run st ls)))] 3)
        have bL := Box.new w55 #[.int .i64 (Sl.tkV ls (minI m (Fa.run st ls)))] 3 rfl
        replace bx := bx.below b_58 bx.lt
        replace bR := bR.below b_58 bR.lt
        replace bT := bT.below b_58 bT.lt
        replace ht := ht.below b_58 (by omega)
        replace hs := hs.below b_58 (by omega)
        replace hw := hw.below b_58 (by omega)
        replace o5 := o5.below b_58 (by omega)
        replace o6 := o6.below b_58 (by omega)
        replace o3 := own_below o3 b_58
        have z_59 := b_58.size
        replace b0 := b0.trans (b_58.mono (by omega))
        clear b_58
        generalize w55.alloc _ = w58 at *
        generalize w55.heap.size = g58 at *
        refine hK57.out _ _ ⟨bx, bT⟩ (fun _ => ?_)
        refine wpAnyH_ready (rs := [7]) (by kernel_rfl) (by decide) ?_
        refine AllReadyH.cons rfl (fun K60 hK60 => ?_) AllReadyH.nil
        have bL_0 := bL.cell (j := 0) rfl
        refine Nm.appK rfl _ _ rfl wx.heap.size _ st.length _ rfl o3 (g := g58) (Sl.tkV ls (minI m (Fa.run st ls))) rfl bL_0 (by omega) (by omega) ?_
        intro v4 w4 o4 g4
        have oT := Ow.of_own Nm.cells_len o4 (l := st ++ [(Sl.tkV ls (minI m (Fa.run st ls)))]) (by simp [Nm.cells]) (by simp)
        obtain ⟨A4, n4, d4, rfl, _, _, _⟩ := oT.rd.form
        replace bx := bx.grown_own o3 g4 (by decide)
        replace bT := bT.grown_own o3 g4 (by decide)
        replace bR := bR.grown_own o3 g4 (by decide)
        replace o5 := o5.grown_own o3 g4 (by decide)
        replace o6 := o6.grown_own o3 g4 (by decide)
        have z4 := g4.size
        replace b0 := b0.grown g4 (by omega) (fun j hj => by have := own_ge o3 j hj; omega)
        clear bL bL_0 o3 o4 g4 ht hs hw
        refine hK60.out _ _ ⟨bx, bT⟩ (fun _ => ?_)
        have hHeld : (fun (W : World) => Box W (w.heap.size) 35 [.int .i64 m, .slice At nt dt, .slice A0 n0 d0, .slice A1 n1 d1] ∧ Box W (gT) 33 [.slice A5 n5 d5, .slice A6 n6 d6]) w4 := ⟨bx, bT⟩
        refine wpAnyH_take (i := 9) (v := .agg #[.int .i64 m, .slice A4 n4 d4, .slice A5 n5 d5, .slice A6 n6 d6]) rfl (by kernel_rfl) (by kernel_rfl) (by kernel_rfl) (fun _ _ _ h => h) (Or.inl ⟨by rfl, by intro w hSw; obtain ⟨hS0, hS1⟩ := hSw; have y00 := hS0.cell (j := 0) rfl; have y01 := hS0.cell (j := 1) rfl; have y02 := hS0.cell (j := 2) rfl; have y03 := hS0.cell (j := 3) rfl; have y10 := hS1.cell (j := 0) rfl; have y11 := hS1.cell (j := 1) rfl; go_simp⟩) hHeld ?_
        clear hHeld
        refine wpAnyH_ready (rs := [11]) (by kernel_rfl) (by decide) ?_
        refine AllReadyH.cons rfl (fun K61 hK61 => ?_) AllReadyH.nil
        have bx_0 := bx.cell (j := 0) rfl
        have bx_1 := bx.cell (j := 1) rfl
        have bx_2 := bx.cell (j := 2) rfl
        have bx_3 := bx.cell (j := 3) rfl
        have bx_z := bx.frozen
        have bx_l := bx.lt
        have bR_0 := bR.cell (j := 0) rfl
        have bR_1 := bR.cell (j := 1) rfl
        have bR_2 := bR.cell (j := 2) rfl
        have bR_3 := bR.cell (j := 3) rfl
        have bR_z := bR.frozen
        have bR_l := bR.lt
        have bT_0 := bT.cell (j := 0) rfl
        have bT_1 := bT.cell (j := 1) rfl
        have bT_z := bT.frozen
        have bT_l := bT.lt
        go_simp
        clear bx_0 bx_1 bx_2 bx_3 bx_z bx_l bR_0 bR_1 bR_2 bR_3 bR_z bR_l bT_0 bT_1 bT_z bT_l
        generalize hwz : World.setCell (World.setCell (World.setCell (World.setCell _ _ _) _ _) _ _) _ _ = wz_
        obtain rfl : wz_ = setL w4 (w.heap.size + 1) 0 [.int .i64 m, .slice A4 n4 d4, .slice A5 n5 d5, .slice A6 n6 d6] := hwz.symm
        clear hwz
        replace bx := bx.other (b := w.heap.size + 1) (by omega) 0 [.int .i64 m, .slice A4 n4 d4, .slice A5 n5 d5, .slice A6 n6 d6]
        replace bT := bT.other (b := w.heap.size + 1) (by omega) 0 [.int .i64 m, .slice A4 n4 d4, .slice A5 n5 d5, .slice A6 n6 d6]
        replace o5 := o5.box (g := w.heap.size + 1) bR (by decide) 0 [.int .i64 m, .slice A4 n4 d4, .slice A5 n5 d5, .slice A6 n6 d6]
        replace o6 := o6.box (g := w.heap.size + 1) bR (by decide) 0 [.int .i64 m, .slice A4 n4 d4, .slice A5 n5 d5, .slice A6 n6 d6]
        replace oT := oT.box (g := w.heap.size + 1) bR (by decide) 0 [.int .i64 m, .slice A4 n4 d4, .slice A5 n5 d5, .slice A6 n6 d6]
        replace b0 := setL_below b0 [.int .i64 m, .slice A4 n4 d4, .slice A5 n5 d5, .slice A6 n6 d6] (w.heap.size + 1) 0 (by omega)
        have zs_62 : (setL w4 (w.heap.size + 1) 0 [.int .i64 m, .slice A4 n4 d4, .slice A5 n5 d5, .slice A6 n6 d6]).heap.size = w4.heap.size := setL_size _ _ _ _
        replace bR := bR.setAll [.int .i64 m, .slice A4 n4 d4, .slice A5 n5 d5, .slice A6 n6 d6] rfl
        generalize setL w4 _ 0 _ = w62 at *
        refine hK61.out _ _ ⟨bx, bT⟩ (fun _ => ?_)
        refine wpAnyH_ready (rs := [12]) (by kernel_rfl) (by decide) ?_
        refine AllReadyH.cons rfl (fun K63 hK63 => ?_) AllReadyH.nil
        go_simp
        refine hK63.out _ _ ⟨bx, bT⟩ (fun _ => ?_)
        refine wpAnyH_ready (rs := [13]) (by kernel_rfl) (by decide) ?_
        refine AllReadyH.cons rfl (fun K64 hK64 => ?_) AllReadyH.nil
        go_simp
        refine hK64.out _ _ ⟨bx, bT⟩ (fun _ => ?_)
        refine ⟨by kernel_rfl, ?_⟩
        have bx_0 := bx.cell (j := 0) rfl
        have bx_1 := bx.cell (j := 1) rfl
        have bx_2 := bx.cell (j := 2) rfl
        have bx_3 := bx.cell (j := 3) rfl
        have bx_z := bx.frozen
        have bx_l := bx.lt
        have bR_0 := bR.cell (j := 0) rfl
        have bR_1 := bR.cell (j := 1) rfl
        have bR_2 := bR.cell (j := 2) rfl
        have bR_3 := bR.cell (j := 3) rfl
        have bR_z := bR.frozen
        have bR_l := bR.lt
        have bT_0 := bT.cell (j := 0) rfl
        have bT_1 := bT.cell (j := 1) rfl
        have bT_z := bT.frozen
        have bT_l := bT.lt
        go_wp2_with fail
        clear bx_0 bx_1 bx_2 bx_3 bx_z bx_l bR_0 bR_1 bR_2 bR_3 bR_z bR_l bT_0 bT_1 bT_z bT_l
        have u0_ := bR.cell (j := 0) rfl
        have u1_ := bR.cell (j := 1) rfl
        have u2_ := bR.cell (j := 2) rfl
        have u3_ := bR.cell (j := 3) rfl
        refine bodyPost_ret (by simp only [results, Tryz.results63]; simp [go_sem, u0_, u1_, u2_, u3_]; rfl) rfl ?_
        exact ⟨_, _, _, by rw [HF.out.2.1, HF.out.2.2], by rw [HF.out.1]; exact oT.mono (by omega) (by omega), o5.mono (by omega) (by omega), o6.mono (by omega) (by omega), b0⟩
      · go_simp
        have b_55 := (Below.refl w52.heap.size w52).alloc (Nat.le_refl _) (.cells #[.int .i64 (Sl.tkV ls (minI m (Fa.run st ls)))] 3)
        have bL := Box.new w52 #[.int .i64 (Sl.tkV ls (minI m (Fa.run st ls)))] 3 rfl
        replace bx := bx.below b_55 bx.lt
        replace bR := bR.below b_55 bR.lt
        replace bT := bT.below b_55 bT.lt
        replace ht := ht.below b_55 (by omega)
        replace hs := hs.below b_55 (by omega)
        replace hw := hw.below b_55 (by omega)
        replace o5 := o5.below b_55 (by omega)
        replace o6 := o6.below b_55 (by omega)
        have z_56 := b_55.size
        replace b0 := b0.trans (b_55.mono (by omega))
        clear b_55
        generalize w52.alloc _ = w55 at *
        generalize w52.heap.size = g55 at *
        refine hK54b.out _ _ ⟨bx, bT⟩ (fun _ => ?_)
        refine wpAnyH_ready (rs := [4]) (by kernel_rfl) (by decide) ?_
        refine AllReadyH.cons rfl (fun K57 hK57 => ?_) AllReadyH.nil
        go_simp
        refine (copyInts_own wx.heap.size _ st w55 ht (by omega) (by omega) hl).mono ?_; rintro q_ w58 ⟨v3, rfl, o3, b_58⟩
        replace bx := bx.below b_58 bx.lt
        replace bR := bR.below b_58 bR.lt
        replace bT := bT.below b_58 bT.lt
        replace bL := bL.below b_58 bL.lt
        replace ht := ht.below b_58 (by omega)
        replace hs := hs.below b_58 (by omega)
        replace hw := hw.below b_58 (by omega)
        replace o5 := o5.below b_58 (by omega)
        replace o6 := o6.below b_58 (by omega)
        have z_59 := b_58.size
        replace b0 := b0.trans (b_58.mono (by omega))
        clear b_58
        obtain ⟨A3, n3, d3, rfl, _, _, _⟩ := (Ow.of_own Nm.cells_len o3 rfl rfl).rd.form
        refine hK57.out _ _ ⟨bx, bT⟩ (fun _ => ?_)
        refine wpAnyH_ready (rs := [7]) (by kernel_rfl) (by decide) ?_
        refine AllReadyH.cons rfl (fun K60 hK60 => ?_) AllReadyH.nil
        have bL_0 := bL.cell (j := 0) rfl
        refine Nm.appK rfl _ _ rfl wx.heap.size _ st.length _ rfl o3 (g := g55) (Sl.tkV ls (minI m (Fa.run st ls))) rfl bL_0 (by omega) (by omega) ?_
        intro v4 w4 o4 g4
        have oT := Ow.of_own Nm.cells_len o4 (l := st ++ [(Sl.tkV ls (minI m (Fa.run st ls)))]) (by simp [Nm.cells]) (by simp)
        obtain ⟨A4, n4, d4, rfl, _, _, _⟩ := oT.rd.form
        replace bx := bx.grown_own o3 g4 (by decide)
        replace bT := bT.grown_own o3 g4 (by decide)
        replace bR := bR.grown_own o3 g4 (by decide)
        replace o5 := o5.grown_own o3 g4 (by decide)
        replace o6 := o6.grown_own o3 g4 (by decide)
        have z4 := g4.size
        replace b0 := b0.grown g4 (by omega) (fun j hj => by have := own_ge o3 j hj; omega)
        clear bL bL_0 o3 o4 g4 ht hs hw
        refine hK60.out _ _ ⟨bx, bT⟩ (fun _ => ?_)
        have hHeld : (fun (W : World) => Box W (w.heap.size) 35 [.int .i64 m, .slice At nt dt, .slice A0 n0 d0, .slice A1 n1 d1] ∧ Box W (gT) 33 [.slice A5 n5 d5, .slice A6 n6 d6]) w4 := ⟨bx, bT⟩
        refine wpAnyH_take (i := 9) (v := .agg #[.int .i64 m, .slice A4 n4 d4, .slice A5 n5 d5, .slice A6 n6 d6]) rfl (by kernel_rfl) (by kernel_rfl) (by kernel_rfl) (fun _ _ _ h => h) (Or.inl ⟨by rfl, by intro w hSw; obtain ⟨hS0, hS1⟩ := hSw; have y00 := hS0.cell (j := 0) rfl; have y01 := hS0.cell (j := 1) rfl; have y02 := hS0.cell (j := 2) rfl; have y03 := hS0.cell (j := 3) rfl; have y10 := hS1.cell (j := 0) rfl; have y11 := hS1.cell (j := 1) rfl; go_simp⟩) hHeld ?_
        clear hHeld
        refine wpAnyH_ready (rs := [11]) (by kernel_rfl) (by decide) ?_
        refine AllReadyH.cons rfl (fun K61 hK61 => ?_) AllReadyH.nil
        have bx_0 := bx.cell (j := 0) rfl
        have bx_1 := bx.cell (j := 1) rfl
        have bx_2 := bx.cell (j := 2) rfl
        have bx_3 := bx.cell (j := 3) rfl
        have bx_z := bx.frozen
        have bx_l := bx.lt
        have bR_0 := bR.cell (j := 0) rfl
        have bR_1 := bR.cell (j := 1) rfl
        have bR_2 := bR.cell (j := 2) rfl
        have bR_3 := bR.cell (j := 3) rfl
        have bR_z := bR.frozen
        have bR_l := bR.lt
        have bT_0 := bT.cell (j := 0) rfl
        have bT_1 := bT.cell (j := 1) rfl
        have bT_z := bT.frozen
        have bT_l := bT.lt
        go_simp
        clear bx_0 bx_1 bx_2 bx_3 bx_z bx_l bR_0 bR_1 bR_2 bR_3 bR_z bR_l bT_0 bT_1 bT_z bT_l
        generalize hwz : World.setCell (World.setCell (World.setCell (World.setCell _ _ _) _ _) _ _) _ _ = wz_
        obtain rfl : wz_ = setL w4 (w.heap.size + 1) 0 [.int .i64 m, .slice A4 n4 d4, .slice A5 n5 d5, .slice A6 n6 d6] := hwz.symm
        clear hwz
        replace bx := bx.other (b := w.heap.size + 1) (by omega) 0 [.int .i64 m, .slice A4 n4 d4, .slice A5 n5 d5, .slice A6 n6 d6]
        replace bT := bT.other (b := w.heap.size + 1) (by omega) 0 [.int .i64 m, .slice A4 n4 d4, .slice A5 n5 d5, .slice A6 n6 d6]
        replace o5 := o5.box (g := w.heap.size + 1) bR (by decide) 0 [.int .i64 m, .slice A4 n4 d4, .slice A5 n5 d5, .slice A6 n6 d6]
        replace o6 := o6.box (g := w.heap.size + 1) bR (by decide) 0 [.int .i64 m, .slice A4 n4 d4, .slice A5 n5 d5, .slice A6 n6 d6]
        replace oT := oT.box (g := w.heap.size + 1) bR (by decide) 0 [.int .i64 m, .slice A4 n4 d4, .slice A5 n5 d5, .slice A6 n6 d6]
        replace b0 := setL_below b0 [.int .i64 m, .slice A4 n4 d4, .slice A5 n5 d5, .slice A6 n6 d6] (w.heap.size + 1) 0 (by omega)
        have zs_62 : (setL w4 (w.heap.size + 1) 0 [.int .i64 m, .slice A4 n4 d4, .slice A5 n5 d5, .slice A6 n6 d6]).heap.size = w4.heap.size := setL_size _ _ _ _
        replace bR := bR.setAll [.int .i64 m, .slice A4 n4 d4, .slice A5 n5 d5, .slice A6 n6 d6] rfl
        generalize setL w4 _ 0 _ = w62 at *
        refine hK61.out _ _ ⟨bx, bT⟩ (fun _ => ?_)
        refine wpAnyH_ready (rs := [12]) (by kernel_rfl) (by decide) ?_
        refine AllReadyH.cons rfl (fun K63 hK63 => ?_) AllReadyH.nil
        go_simp
        refine hK63.out _ _ ⟨bx, bT⟩ (fun _ => ?_)
        refine wpAnyH_ready (rs := [13]) (by kernel_rfl) (by decide) ?_
        refine AllReadyH.cons rfl (fun K64 hK64 => ?_) AllReadyH.nil
        go_simp
        refine hK64.out _ _ ⟨bx, bT⟩ (fun _ => ?_)
        refine ⟨by kernel_rfl, ?_⟩
        have bx_0 := bx.cell (j := 0) rfl
        have bx_1 := bx.cell (j := 1) rfl
        have bx_2 := bx.cell (j := 2) rfl
        have bx_3 := bx.cell (j := 3) rfl
        have bx_z := bx.frozen
        have bx_l := bx.lt
        have bR_0 := bR.cell (j := 0) rfl
        have bR_1 := bR.cell (j := 1) rfl
        have bR_2 := bR.cell (j := 2) rfl
        have bR_3 := bR.cell (j := 3) rfl
        have bR_z := bR.frozen
        have bR_l := bR.lt
        have bT_0 := bT.cell (j := 0) rfl
        have bT_1 := bT.cell (j := 1) rfl
        have bT_z := bT.frozen
        have bT_l := bT.lt
        go_wp2_with fail
        clear bx_0 bx_1 bx_2 bx_3 bx_z bx_l bR_0 bR_1 bR_2 bR_3 bR_z bR_l bT_0 bT_1 bT_z bT_l
        have u0_ := bR.cell (j := 0) rfl
        have u1_ := bR.cell (j := 1) rfl
        have u2_ := bR.cell (j := 2) rfl
        have u3_ := bR.cell (j := 3) rfl
        refine bodyPost_ret (by simp only [results, Tryz.results63]; simp [go_sem, u0_, u1_, u2_, u3_]; rfl) rfl ?_
        exact ⟨_, _, _, by rw [HF.out.2.1, HF.out.2.2], by rw [HF.out.1]; exact oT.mono (by omega) (by omega), o5.mono (by omega) (by omega), o6.mono (by omega) (by omega), b0⟩

end Go.Proofs.YtengaccnncnipaaGreat

/- Whether an interface can take an interrupt, in the program and in the reference. Condition: at most 1048576 numbers on the stack and waiters. -/
namespace Go.Proofs.YtengaccnncnipaaGreat
open Go.RowKit Go.ChangeShapes Go.WideShapes Go.Deep

theorem Fa.good_sl {m : Int} {st : List Int} {ls : List Sl} {lw : List Wt} (h : Fa.good m st ls lw = true) : Sl.good ls = true := by
  obtain ⟨_, hq, _⟩ := Fa.good_iff.1 h
  exact (Qu.parts_get (Qu.good_parts hq).1).1
end Go.Proofs.YtengaccnncnipaaGreat

/- Appending one number: where the row lies afterwards. No condition. -/
namespace Go.Proofs.YtengaccnncnipaaGreat
open Go.RowKit Go.ChangeShapes Go.WideShapes Go.Deep

theorem Nm.app_one2 {w : World} {ops : Array Oper} {rest : List Oper} {o : Oper} {a : Act} {Q : Exit → Act → World → Prop} (hgd : o.guard = none) (s x : Operand)
    (ho : o.op = .call { callee := .builtin .append, args := #[s, x], argTypes := #[22, 22] }) (base : Nat)
    (v : Value) (n : Nat) (xs : List Value) (hs : a.eval s = v) (hown : w.ownsRow base 3 1 v n xs) {g c : Nat} (y : Int) (hx : a.eval x = .slice (some ⟨g, 0, none⟩) 1 c) (hr : ∀ j u, (Nm.cells y)[j]? = some u → w.cell? ⟨g, j, none⟩ = some u)
    (hlen : n ≤ 4194304) (hbase : base ≤ w.heap.size)
    (h : ∀ v' w', w'.ownsRow base 3 1 v' (n + 1) (xs ++ Nm.cells y) → w.grownBy w' v.ownBlock → (v'.ownBlock = v.ownBlock ∨ v'.ownBlock = some w.heap.size) → wpList Tryz.prog ops Q rest (a.put o.dst v') w') : wpList Tryz.prog ops Q (o :: rest) a w := by
  obtain ⟨i0, hi0, hz0, hz1, hz2⟩ := info_parts Nm.info
  exact wpList_append_lies w hgd s x _ ho base _ i0 _ 1 _ Tryz.underlying22 hi0 hz0 hz1 hz2 rfl (by omega) v n xs hs hown ⟨g, 0, none⟩ 1 c (Nm.cells y) hx (by rw [Nm.cells_len]) (fun j u hu => by rw [Go.WideShapes.add_plain, Nat.zero_add]; exact hr j u hu) (Nm.one y) (by omega) (by unfold maxLen; omega) (by omega) hbase _ rfl
    fun g cap w' h1 h2 h3 _ => h _ w' h1 h2 (by
      rcases h3 with h3 | h3
      · left; rw [h3]; rfl
      · right; rw [h3]; rfl)

end Go.Proofs.YtengaccnncnipaaGreat

/- Running ops on a processor interface, in the reference. Condition: at most 1048576 numbers, slots and waiters each. -/
namespace Go.Proofs.YtengaccnncnipaaGreat
open Go.RowKit Go.ChangeShapes Go.WideShapes Go.Deep

theorem Op_.at_ {w : World} {lo hi b off n c k : Nat} {o : Op_} {l : List Op_} (h : Rd Op_.cells 3 w lo hi (.slice (some ⟨b, off, none⟩) n c) l) (hx : l[k]? = some o) : w.cell? ⟨b, off + k * 3, none⟩ = some (.int .i64 o.kind) ∧ w.cell? ⟨b, off + k * 3 + 1, none⟩ = some (.int .i64 o.irq) ∧ w.cell? ⟨b, off + k * 3 + 2, none⟩ = some (.int .i64 o.prio) := by
  obtain ⟨A, c', hv, _, _, h3⟩ := h
  injection hv with e1 e2 e3
  subst e1
  obtain ⟨b', off', hA, _, _, h4⟩ := h3 (by have := (List.getElem?_eq_some_iff.1 hx).1; omega)
  injection hA with hA
  injection hA with e4 e5
  subst e4; subst e5
  exact ⟨h4 k o hx 0 _ rfl, h4 k o hx 1 _ rfl, h4 k o hx 2 _ rfl⟩
/-- a row is kept where an own row of the same type has grown, whose block lies elsewhere -/
theorem Ow.grown_off {α : Type} {cells : α → List Value} {sz : Nat} {E : TypeId} {w w' : World} {lo hi : Nat} {v : Value} {l : List α} {row : Option Nat} (h : Ow cells sz E w lo hi v l) (hg : w.grownBy w' row) (hr : ∀ g, row = some g → g < lo ∨ hi ≤ g) : Ow cells sz E w' lo hi v l :=
  h.keep fun b h1 h2 h3 => hg.block b h3 (fun e => by have := hr b e.symm; omega)
/-- a row in a range of its own, apart from another range that does not hold its block -/
theorem Ow.narrow {α : Type} {cells : α → List Value} {sz : Nat} {E : TypeId} {w : World} {lo hi lo2 hi2 : Nat} {v : Value} {l : List α} (h : Ow cells sz E w lo hi v l) (hu : ∀ g, v.ownBlock = some g → g < lo2 ∨ hi2 ≤ g) : ∃ a b, lo ≤ a ∧ b ≤ hi ∧ (hi2 ≤ a ∨ b ≤ lo2) ∧ Ow cells sz E w a b v l := by
  obtain ⟨A, c, rfl, hc, hm, h⟩ := h
  rcases Nat.eq_zero_or_pos l.length with hz | hz
  · exact ⟨lo, 0, Nat.le_refl _, Nat.zero_le _, Or.inr (Nat.zero_le _), A, c, rfl, hc, hm, fun hn => by omega⟩
  · obtain ⟨b, off, cur, rfl, hb1, hb2, hh, hx⟩ := h hz
    have := hu b rfl
    exact ⟨b, b + 1, hb1, hb2, by omega, _, c, rfl, hc, hm, fun _ => ⟨b, off, cur, rfl, Nat.le_refl _, by omega, hh, hx⟩⟩
theorem Op_.all_pre {l : List Op_} {k : Nat} {o : Op_} (h : l[k]? = some o) : (l.take (k + 1)).all Op_.ok = ((l.take k).all Op_.ok && o.ok) := by
  rw [List.take_add_one, h, List.all_append]; simp
theorem Op_.all_no {l : List Op_} {k : Nat} {o : Op_} (h : l[k]? = some o) (ho : o.ok = false) : l.all Op_.ok = false := by
  rw [List.all_eq_false]
  exact ⟨o, List.mem_of_getElem? h, by simp [ho]⟩
theorem Op_.any_bad (l : List Op_) : (l.any fun t => !t.ok) = !l.all Op_.ok := by induction l <;> simp_all
theorem Op_.kind3 {o : Op_} (h : o.ok = true) (h1 : ¬ o.kind = 1) (h2 : ¬ o.kind = 2) (h4 : ¬ o.kind = 4) : o.kind = 3 := by
  rcases (Op_.ok_iff o).1 h with h | h | h
  · exact absurd h.1 h1
  · rcases h.1 with h | h
    · exact absurd h h2
    · exact h
  · exact absurd h.1 h4
theorem FS.next_rose {p : FS × List Int} {o : Op_} (h : o.kind = 1) : FS.next p o = (p.1.rose o.irq o.prio, p.2) := by simp [FS.next, FS.step, FS.got, h]
theorem FS.next_took {p : FS × List Int} {o : Op_} (h : o.kind = 2) (hk : p.1.tk = true) : FS.next p o = (p.1.took, p.2 ++ [Sl.tkI p.1.ls]) := by simp [FS.next, FS.step, FS.got, h, hk]
theorem FS.next_none {p : FS × List Int} {o : Op_} (h : o.kind = 2) (hk : p.1.tk = false) : FS.next p o = p := by simp [FS.next, FS.step, FS.got, h, hk]
theorem FS.next_left {p : FS × List Int} {o : Op_} (h : o.kind = 3) (hz : ¬ p.1.st.length = 0) : FS.next p o = (p.1.left, p.2) := by simp [FS.next, FS.step, FS.got, h, hz]
theorem FS.next_nil {p : FS × List Int} {o : Op_} (h : o.kind = 3) (hz : p.1.st.length = 0) : FS.next p o = p := by simp [FS.next, FS.step, FS.got, h, hz]
theorem FS.next_mask {p : FS × List Int} {o : Op_} (h : o.kind = 4) : FS.next p o = (p.1.masked o.prio, p.2) := by simp [FS.next, FS.step, FS.got, h]

set_option maxHeartbeats 8000000 in
theorem specRunOps_any (m : Int) (vt vs vw : Value) (st : List Int) (ls : List Sl) (lw : List Wt) (w : World) {lo hi lo2 hi2 lo3 hi3 : Nat} (h0 : Rd Nm.cells 1 w lo3 hi3 vt st) (h : Rd Sl.cells 3 w lo hi vs ls) (h2 : Rd Wt.cells 2 w lo2 hi2 vw lw) (hh0 : hi3 ≤ w.heap.size) (hh : hi ≤ w.heap.size) (hh2 : hi2 ≤ w.heap.size) (vo : Value) (ops : List Op_) {lo4 hi4 : Nat} (h4 : Rd Op_.cells 3 w lo4 hi4 vo ops) (hh4 : hi4 ≤ w.heap.size) (hl : st.length ≤ 1048576) (hl1 : ls.length ≤ 1048576) (hl2 : lw.length ≤ 1048576) :
    Calls Tryz.prog 24 #[.agg #[.int .i64 m, vt, vs, vw], vo] w fun e w' => ∃ v0 v1 v2 v3, ∃ q0 q1 q2 q3 : Nat, e = .returned (.tuple #[.agg #[.int .i64 (FS.roS ⟨m, st, ls, lw⟩ ops).m, v0, v1, v2], v3, .bool (FS.roOk ⟨m, st, ls, lw⟩ ops)]) ∧ Ow Nm.cells 1 3 w' q0 q1 v0 (FS.roS ⟨m, st, ls, lw⟩ ops).st ∧ Ow Sl.cells 3 127 w' q0 q1 v1 (FS.roS ⟨m, st, ls, lw⟩ ops).ls ∧ Ow Wt.cells 2 134 w' q0 q1 v2 (FS.roS ⟨m, st, ls, lw⟩ ops).lw ∧ Ow Nm.cells 1 3 w' q2 q3 v3 (FS.roT ⟨m, st, ls, lw⟩ ops) ∧ w.heap.size ≤ q0 ∧ q1 ≤ w'.heap.size ∧ w.heap.size ≤ q2 ∧ q3 ≤ w'.heap.size ∧ (q1 ≤ q2 ∨ q3 ≤ q0) ∧ Below w.heap.size w w' := by
  have b0 : Below w.heap.size w ((w.alloc (.cells #[.int .i64 m, vt, vs, vw] 35)).alloc (.cells #[.int .i64 0, .slice none 0 0, .slice none 0 0, .slice none 0 0] 35)) := ((Below.refl w.heap.size w).alloc (Nat.le_refl _) _).alloc (by simp) _
  have z0 : ((w.alloc (.cells #[.int .i64 m, vt, vs, vw] 35)).alloc (.cells #[.int .i64 0, .slice none 0 0, .slice none 0 0, .slice none 0 0] 35)).heap.size = w.heap.size + 2 := by simp
  have bx := Box.new w #[.int .i64 m, vt, vs, vw] 35 rfl
  have bR := Box.new (g := w.heap.size + 1) (w.alloc (.cells #[.int .i64 m, vt, vs, vw] 35)) #[.int .i64 0, .slice none 0 0, .slice none 0 0, .slice none 0 0] 35 (by simp)
  replace bx := bx.below ((Below.refl _ (w.alloc (.cells #[.int .i64 m, vt, vs, vw] 35))).alloc (Nat.le_refl _) (.cells #[.int .i64 0, .slice none 0 0, .slice none 0 0, .slice none 0 0] 35)) bx.lt
  have ht := h0.below b0 hh0
  have hs := h.below b0 hh
  have hw := h2.below b0 hh2
  have hv0_ := h0.form
  have hv_ := h.form
  have hv2_ := h2.form
  have ho4 := h4.below b0 hh4
  have hv4_ := h4.form
  clear h0 h h2 h4
  generalize hwA : (w.alloc (.cells #[.int .i64 m, vt, vs, vw] 35)).alloc (.cells #[.int .i64 0, .slice none 0 0, .slice none 0 0, .slice none 0 0] 35) = wA at *
  obtain ⟨At, nt, dt, rfl, _, _, _⟩ := hv0_
  obtain ⟨A0, n0, d0, rfl, _, _, _⟩ := hv_
  obtain ⟨A1, n1, d1, rfl, _, _, _⟩ := hv2_
  obtain ⟨A6, n6, d6, rfl, H6, hd6, hm6⟩ := hv4_
  have hn6 : n6 ≤ ops.length := Nat.le_of_eq H6.out
  cases hg : FS.good ⟨m, st, ls, lw⟩
  · have HF := Lib.hid (FS.ro_no (s := ⟨m, st, ls, lw⟩) (l := ops) (by simp [FS.roOk, hg]))
    have HG := Lib.hid (show Fa.good m st ls lw = false from hg)
    clear hg
    go_enter Tryz.func24, Tryz.ntmps24
    have bx_0 := bx.cell (j := 0) rfl
    have bx_1 := bx.cell (j := 1) rfl
    have bx_2 := bx.cell (j := 2) rfl
    have bx_3 := bx.cell (j := 3) rfl
    have bx_z := bx.frozen
    have bx_l := bx.lt
    have bR_0 := bR.cell (j := 0) rfl
    have bR_1 := bR.cell (j := 1) rfl
    have bR_2 := bR.cell (j := 2) rfl
    have bR_3 := bR.cell (j := 3) rfl
    have bR_z := bR.frozen
    have bR_l := bR.lt
    go_wp2_with fail
    clear hwA
    clear bx_0 bx_1 bx_2 bx_3 bx_z bx_l bR_0 bR_1 bR_2 bR_3 bR_z bR_l
    have oK := own_empty_at wA (base := w.heap.size + 2) (g := w.heap.size + 2) 3 1 z0.symm (by omega)
    have bE := (Below.refl wA.heap.size wA).alloc (Nat.le_refl _) (.cells #[] 3)
    have zE : (wA.alloc (.cells #[] 3)).heap.size = w.heap.size + 3 := by simp [z0]
    replace bx := bx.below bE bx.lt
    replace bR := bR.below bE bR.lt
    replace ht := ht.below bE (by omega)
    replace hs := hs.below bE (by omega)
    replace hw := hw.below bE (by omega)
    replace ho4 := ho4.below bE (by omega)
    have z_1 := bE.size
    replace b0 := b0.trans (bE.mono (by omega))
    clear bE
    generalize wA.alloc _ = wB at *
    have c1 := l10Good_any m _ _ _ st ls lw wB ht hs hw (by omega) (by omega) (by omega)
    rw [HG.out] at c1
    refine (c1).mono ?_; rintro q_ w2 ⟨rfl, b_2⟩
    replace bx := bx.below b_2 bx.lt
    replace bR := bR.below b_2 bR.lt
    replace ht := ht.below b_2 (by omega)
    replace hs := hs.below b_2 (by omega)
    replace hw := hw.below b_2 (by omega)
    replace ho4 := ho4.below b_2 (by omega)
    replace oK := own_below oK b_2
    have z_3 := b_2.size
    replace b0 := b0.trans (b_2.mono (by omega))
    clear b_2
    have bx_0 := bx.cell (j := 0) rfl
    have bx_1 := bx.cell (j := 1) rfl
    have bx_2 := bx.cell (j := 2) rfl
    have bx_3 := bx.cell (j := 3) rfl
    have bx_z := bx.frozen
    have bx_l := bx.lt
    have bR_0 := bR.cell (j := 0) rfl
    have bR_1 := bR.cell (j := 1) rfl
    have bR_2 := bR.cell (j := 2) rfl
    have bR_3 := bR.cell (j := 3) rfl
    have bR_z := bR.frozen
    have bR_l := bR.lt
    go_wp2_with fail
    clear bx_0 bx_1 bx_2 bx_3 bx_z bx_l bR_0 bR_1 bR_2 bR_3 bR_z bR_l
    generalize hwz : World.setCell (World.setCell (World.setCell (World.setCell _ _ _) _ _) _ _) _ _ = wz_
    obtain rfl : wz_ = setL w2 (w.heap.size + 1) 0 [.int .i64 0, .slice none 0 0, .slice none 0 0, .slice none 0 0] := hwz.symm
    clear hwz
    replace bx := bx.other (b := w.heap.size + 1) (by omega) 0 [.int .i64 0, .slice none 0 0, .slice none 0 0, .slice none 0 0]
    replace ht := ht.away (g := w.heap.size + 1) (by omega) 0 [.int .i64 0, .slice none 0 0, .slice none 0 0, .slice none 0 0]
    replace hs := hs.away (g := w.heap.size + 1) (by omega) 0 [.int .i64 0, .slice none 0 0, .slice none 0 0, .slice none 0 0]
    replace hw := hw.away (g := w.heap.size + 1) (by omega) 0 [.int .i64 0, .slice none 0 0, .slice none 0 0, .slice none 0 0]
    replace ho4 := ho4.away (g := w.heap.size + 1) (by omega) 0 [.int .i64 0, .slice none 0 0, .slice none 0 0, .slice none 0 0]
    replace oK := own_box oK bR (by decide) 0 [.int .i64 0, .slice none 0 0, .slice none 0 0, .slice none 0 0]
    replace b0 := setL_below b0 [.int .i64 0, .slice none 0 0, .slice none 0 0, .slice none 0 0] (w.heap.size + 1) 0 (by omega)
    have zs_4 : (setL w2 (w.heap.size + 1) 0 [.int .i64 0, .slice none 0 0, .slice none 0 0, .slice none 0 0]).heap.size = w2.heap.size := setL_size _ _ _ _
    replace bR := bR.setAll [.int .i64 0, .slice none 0 0, .slice none 0 0, .slice none 0 0] rfl
    generalize setL w2 _ 0 _ = w4 at *
    have u0_ := bR.cell (j := 0) rfl
    have u1_ := bR.cell (j := 1) rfl
    have u2_ := bR.cell (j := 2) rfl
    have u3_ := bR.cell (j := 3) rfl
    refine bodyPost_ret (by simp only [results, Tryz.results24]; simp [go_sem, u0_, u1_, u2_, u3_]; rfl) rfl ?_
    exact ⟨_, _, _, _, w.heap.size, w.heap.size, w.heap.size, w.heap.size, by rw [HF.out.1, HF.out.2.1], by rw [HF.out.2.1]; exact Ow.nil_, by rw [HF.out.2.1]; exact Ow.nil_, by rw [HF.out.2.1]; exact Ow.nil_, by rw [HF.out.2.2]; exact Ow.lit0, Nat.le_refl _, b0.size, Nat.le_refl _, b0.size, Or.inl (Nat.le_refl _), b0⟩
  · by_cases h20 : 20 < n6
    · have HF := Lib.hid (FS.ro_no (s := ⟨m, st, ls, lw⟩) (l := ops) (by simp [FS.roOk]; intro _ _; omega))
      have h20d : decide ((20 : Int) < (n6 : Int)) = true := decide_eq_true (by omega)
      clear h20
      have HG := Lib.hid (show Fa.good m st ls lw = true from hg)
      clear hg
      go_enter Tryz.func24, Tryz.ntmps24
      have bx_0 := bx.cell (j := 0) rfl
      have bx_1 := bx.cell (j := 1) rfl
      have bx_2 := bx.cell (j := 2) rfl
      have bx_3 := bx.cell (j := 3) rfl
      have bx_z := bx.frozen
      have bx_l := bx.lt
      have bR_0 := bR.cell (j := 0) rfl
      have bR_1 := bR.cell (j := 1) rfl
      have bR_2 := bR.cell (j := 2) rfl
      have bR_3 := bR.cell (j := 3) rfl
      have bR_z := bR.frozen
      have bR_l := bR.lt
      go_wp2_with fail
      clear hwA
      clear bx_0 bx_1 bx_2 bx_3 bx_z bx_l bR_0 bR_1 bR_2 bR_3 bR_z bR_l
      have oK := own_empty_at wA (base := w.heap.size + 2) (g := w.heap.size + 2) 3 1 z0.symm (by omega)
      have bE := (Below.refl wA.heap.size wA).alloc (Nat.le_refl _) (.cells #[] 3)
      have zE : (wA.alloc (.cells #[] 3)).heap.size = w.heap.size + 3 := by simp [z0]
      replace bx := bx.below bE bx.lt
      replace bR := bR.below bE bR.lt
      replace ht := ht.below bE (by omega)
      replace hs := hs.below bE (by omega)
      replace hw := hw.below bE (by omega)
      replace ho4 := ho4.below bE (by omega)
      have z_1 := bE.size
      replace b0 := b0.trans (bE.mono (by omega))
      clear bE
      generalize wA.alloc _ = wB at *
      have c1 := l10Good_any m _ _ _ st ls lw wB ht hs hw (by omega) (by omega) (by omega)
      rw [HG.out] at c1
      refine (c1).mono ?_; rintro q_ w2 ⟨rfl, b_2⟩
      replace bx := bx.below b_2 bx.lt
      replace bR := bR.below b_2 bR.lt
      replace ht := ht.below b_2 (by omega)
      replace hs := hs.below b_2 (by omega)
      replace hw := hw.below b_2 (by omega)
      replace ho4 := ho4.below b_2 (by omega)
      replace oK := own_below oK b_2
      have z_3 := b_2.size
      replace b0 := b0.trans (b_2.mono (by omega))
      clear b_2
      have bx_0 := bx.cell (j := 0) rfl
      have bx_1 := bx.cell (j := 1) rfl
      have bx_2 := bx.cell (j := 2) rfl
      have bx_3 := bx.cell (j := 3) rfl
      have bx_z := bx.frozen
      have bx_l := bx.lt
      have bR_0 := bR.cell (j := 0) rfl
      have bR_1 := bR.cell (j := 1) rfl
      have bR_2 := bR.cell (j := 2) rfl
      have bR_3 := bR.cell (j := 3) rfl
      have bR_z := bR.frozen
      have bR_l := bR.lt
      go_wp2_with fail
      clear bx_0 bx_1 bx_2 bx_3 bx_z bx_l bR_0 bR_1 bR_2 bR_3 bR_z bR_l
      generalize hwz : World.setCell (World.setCell (World.setCell (World.setCell _ _ _) _ _) _ _) _ _ = wz_
      obtain rfl : wz_ = setL w2 (w.heap.size + 1) 0 [.int .i64 0, .slice none 0 0, .slice none 0 0, .slice none 0 0] := hwz.symm
      clear hwz
      replace bx := bx.other (b := w.heap.size + 1) (by omega) 0 [.int .i64 0, .slice none 0 0, .slice none 0 0, .slice none 0 0]
      replace ht := ht.away (g := w.heap.size + 1) (by omega) 0 [.int .i64 0, .slice none 0 0, .slice none 0 0, .slice none 0 0]
      replace hs := hs.away (g := w.heap.size + 1) (by omega) 0 [.int .i64 0, .slice none 0 0, .slice none 0 0, .slice none 0 0]
      replace hw := hw.away (g := w.heap.size + 1) (by omega) 0 [.int .i64 0, .slice none 0 0, .slice none 0 0, .slice none 0 0]
      replace ho4 := ho4.away (g := w.heap.size + 1) (by omega) 0 [.int .i64 0, .slice none 0 0, .slice none 0 0, .slice none 0 0]
      replace oK := own_box oK bR (by decide) 0 [.int .i64 0, .slice none 0 0, .slice none 0 0, .slice none 0 0]
      replace b0 := setL_below b0 [.int .i64 0, .slice none 0 0, .slice none 0 0, .slice none 0 0] (w.heap.size + 1) 0 (by omega)
      have zs_4 : (setL w2 (w.heap.size + 1) 0 [.int .i64 0, .slice none 0 0, .slice none 0 0, .slice none 0 0]).heap.size = w2.heap.size := setL_size _ _ _ _
      replace bR := bR.setAll [.int .i64 0, .slice none 0 0, .slice none 0 0, .slice none 0 0] rfl
      generalize setL w2 _ 0 _ = w4 at *
      have u0_ := bR.cell (j := 0) rfl
      have u1_ := bR.cell (j := 1) rfl
      have u2_ := bR.cell (j := 2) rfl
      have u3_ := bR.cell (j := 3) rfl
      refine bodyPost_ret (by simp only [results, Tryz.results24]; simp [go_sem, u0_, u1_, u2_, u3_]; rfl) rfl ?_
      exact ⟨_, _, _, _, w.heap.size, w.heap.size, w.heap.size, w.heap.size, by rw [HF.out.1, HF.out.2.1], by rw [HF.out.2.1]; exact Ow.nil_, by rw [HF.out.2.1]; exact Ow.nil_, by rw [HF.out.2.1]; exact Ow.nil_, by rw [HF.out.2.2]; exact Ow.lit0, Nat.le_refl _, b0.size, Nat.le_refl _, b0.size, Or.inl (Nat.le_refl _), b0⟩
    · have HG0 := Lib.hid hg
      have h20d : decide ((20 : Int) < (n6 : Int)) = false := decide_eq_false (by omega)
      have HG := Lib.hid (show Fa.good m st ls lw = true from hg)
      clear hg
      go_enter Tryz.func24, Tryz.ntmps24
      have bx_0 := bx.cell (j := 0) rfl
      have bx_1 := bx.cell (j := 1) rfl
      have bx_2 := bx.cell (j := 2) rfl
      have bx_3 := bx.cell (j := 3) rfl
      have bx_z := bx.frozen
      have bx_l := bx.lt
      have bR_0 := bR.cell (j := 0) rfl
      have bR_1 := bR.cell (j := 1) rfl
      have bR_2 := bR.cell (j := 2) rfl
      have bR_3 := bR.cell (j := 3) rfl
      have bR_z := bR.frozen
      have bR_l := bR.lt
      go_wp2_with fail
      clear hwA
      clear bx_0 bx_1 bx_2 bx_3 bx_z bx_l bR_0 bR_1 bR_2 bR_3 bR_z bR_l
      have oK := own_empty_at wA (base := w.heap.size + 2) (g := w.heap.size + 2) 3 1 z0.symm (by omega)
      have bE := (Below.refl wA.heap.size wA).alloc (Nat.le_refl _) (.cells #[] 3)
      have zE : (wA.alloc (.cells #[] 3)).heap.size = w.heap.size + 3 := by simp [z0]
      replace bx := bx.below bE bx.lt
      replace bR := bR.below bE bR.lt
      replace ht := ht.below bE (by omega)
      replace hs := hs.below bE (by omega)
      replace hw := hw.below bE (by omega)
      replace ho4 := ho4.below bE (by omega)
      have z_1 := bE.size
      replace b0 := b0.trans (bE.mono (by omega))
      clear bE
      generalize wA.alloc _ = wB at *
      have c1 := l10Good_any m _ _ _ st ls lw wB ht hs hw (by omega) (by omega) (by omega)
      rw [HG.out] at c1
      refine (c1).mono ?_; rintro q_ w2 ⟨rfl, b_2⟩
      replace bx := bx.below b_2 bx.lt
      replace bR := bR.below b_2 bR.lt
      replace ht := ht.below b_2 (by omega)
      replace hs := hs.below b_2 (by omega)
      replace hw := hw.below b_2 (by omega)
      replace ho4 := ho4.below b_2 (by omega)
      replace oK := own_below oK b_2
      have z_3 := b_2.size
      replace b0 := b0.trans (b_2.mono (by omega))
      clear b_2
      have bx_0 := bx.cell (j := 0) rfl
      have bx_1 := bx.cell (j := 1) rfl
      have bx_2 := bx.cell (j := 2) rfl
      have bx_3 := bx.cell (j := 3) rfl
      have bx_z := bx.frozen
      have bx_l := bx.lt
      have bR_0 := bR.cell (j := 0) rfl
      have bR_1 := bR.cell (j := 1) rfl
      have bR_2 := bR.cell (j := 2) rfl
      have bR_3 := bR.cell (j := 3) rfl
      have bR_z := bR.frozen
      have bR_l := bR.lt
      go_wp2_with fail
      clear bx_0 bx_1 bx_2 bx_3 bx_z bx_l bR_0 bR_1 bR_2 bR_3 bR_z bR_l
      go_loopw [8] (fun i wr => ∃ k : Nat, k ≤ n6 ∧ i = .int .i64 k ∧ Below w2.heap.size w2 wr ∧ Hid ((ops.take k).all Op_.ok = true)) (fun i _ => n6 - (intOf i).toNat)
      case atStart => exact ⟨0, Nat.zero_le _, rfl, Below.refl _ _, Lib.hid rfl⟩
      case round =>
        obtain ⟨k, hk, rfl, hb, HE⟩ := hrel
        have hb0 := hb
        replace bx := bx.below hb bx.lt
        replace bR := bR.below hb bR.lt
        replace ht := ht.below hb (by omega)
        replace hs := hs.below hb (by omega)
        replace hw := hw.below hb (by omega)
        replace ho4 := ho4.below hb (by omega)
        replace oK := own_below oK hb
        have z_4 := hb.size
        replace b0 := b0.trans (hb.mono (by omega))
        clear hb
        by_cases hlt : k < n6
        · obtain ⟨b, off, o, rfl, HO, _, hbh, f0, f1, f2⟩ := Op_.get ho4 hlt (Below.refl wr.heap.size wr) (by omega)
          have hki : (k : Int) < (n6 : Int) := by omega
          have c2 := l10Op_any o wr
          unfold Op_.val at c2
          cases hq : o.ok
          · have HF := Lib.hid (FS.ro_no (s := ⟨m, st, ls, lw⟩) (l := ops) (by simp [FS.roOk, Op_.all_no HO.out hq]))
            rw [hq] at c2
            clear hq hb0
            have bx_0 := bx.cell (j := 0) rfl
            have bx_1 := bx.cell (j := 1) rfl
            have bx_2 := bx.cell (j := 2) rfl
            have bx_3 := bx.cell (j := 3) rfl
            have bx_z := bx.frozen
            have bx_l := bx.lt
            have bR_0 := bR.cell (j := 0) rfl
            have bR_1 := bR.cell (j := 1) rfl
            have bR_2 := bR.cell (j := 2) rfl
            have bR_3 := bR.cell (j := 3) rfl
            have bR_z := bR.frozen
            have bR_l := bR.lt
            go_wp2_with fail
            clear bx_0 bx_1 bx_2 bx_3 bx_z bx_l bR_0 bR_1 bR_2 bR_3 bR_z bR_l
            refine (c2).mono ?_; rintro q_ w5 ⟨rfl, b_5⟩
            replace bx := bx.below b_5 bx.lt
            replace bR := bR.below b_5 bR.lt
            replace ht := ht.below b_5 (by omega)
            replace hs := hs.below b_5 (by omega)
            replace hw := hw.below b_5 (by omega)
            replace ho4 := ho4.below b_5 (by omega)
            replace oK := own_below oK b_5
            have z_6 := b_5.size
            replace b0 := b0.trans (b_5.mono (by omega))
            clear b_5
            have bx_0 := bx.cell (j := 0) rfl
            have bx_1 := bx.cell (j := 1) rfl
            have bx_2 := bx.cell (j := 2) rfl
            have bx_3 := bx.cell (j := 3) rfl
            have bx_z := bx.frozen
            have bx_l := bx.lt
            have bR_0 := bR.cell (j := 0) rfl
            have bR_1 := bR.cell (j := 1) rfl
            have bR_2 := bR.cell (j := 2) rfl
            have bR_3 := bR.cell (j := 3) rfl
            have bR_z := bR.frozen
            have bR_l := bR.lt
            go_wp2_with fail
            clear bx_0 bx_1 bx_2 bx_3 bx_z bx_l bR_0 bR_1 bR_2 bR_3 bR_z bR_l
            generalize hwz : World.setCell (World.setCell (World.setCell (World.setCell _ _ _) _ _) _ _) _ _ = wz_
            obtain rfl : wz_ = setL w5 (w.heap.size + 1) 0 [.int .i64 0, .slice none 0 0, .slice none 0 0, .slice none 0 0] := hwz.symm
            clear hwz
            replace bx := bx.other (b := w.heap.size + 1) (by omega) 0 [.int .i64 0, .slice none 0 0, .slice none 0 0, .slice none 0 0]
            replace ht := ht.away (g := w.heap.size + 1) (by omega) 0 [.int .i64 0, .slice none 0 0, .slice none 0 0, .slice none 0 0]
            replace hs := hs.away (g := w.heap.size + 1) (by omega) 0 [.int .i64 0, .slice none 0 0, .slice none 0 0, .slice none 0 0]
            replace hw := hw.away (g := w.heap.size + 1) (by omega) 0 [.int .i64 0, .slice none 0 0, .slice none 0 0, .slice none 0 0]
            replace ho4 := ho4.away (g := w.heap.size + 1) (by omega) 0 [.int .i64 0, .slice none 0 0, .slice none 0 0, .slice none 0 0]
            replace oK := own_box oK bR (by decide) 0 [.int .i64 0, .slice none 0 0, .slice none 0 0, .slice none 0 0]
            replace b0 := setL_below b0 [.int .i64 0, .slice none 0 0, .slice none 0 0, .slice none 0 0] (w.heap.size + 1) 0 (by omega)
            have zs_7 : (setL w5 (w.heap.size + 1) 0 [.int .i64 0, .slice none 0 0, .slice none 0 0, .slice none 0 0]).heap.size = w5.heap.size := setL_size _ _ _ _
            replace bR := bR.setAll [.int .i64 0, .slice none 0 0, .slice none 0 0, .slice none 0 0] rfl
            generalize setL w5 _ 0 _ = w7 at *
            have u0_ := bR.cell (j := 0) rfl
            have u1_ := bR.cell (j := 1) rfl
            have u2_ := bR.cell (j := 2) rfl
            have u3_ := bR.cell (j := 3) rfl
            refine bodyPost_ret (by simp only [results, Tryz.results24]; simp [go_sem, u0_, u1_, u2_, u3_]; rfl) rfl ?_
            exact ⟨_, _, _, _, w.heap.size, w.heap.size, w.heap.size, w.heap.size, by rw [HF.out.1, HF.out.2.1], by rw [HF.out.2.1]; exact Ow.nil_, by rw [HF.out.2.1]; exact Ow.nil_, by rw [HF.out.2.1]; exact Ow.nil_, by rw [HF.out.2.2]; exact Ow.lit0, Nat.le_refl _, b0.size, Nat.le_refl _, b0.size, Or.inl (Nat.le_refl _), b0⟩
          · have HE2 := Lib.hid (show (ops.take (k + 1)).all Op_.ok = true from by rw [Op_.all_pre HO.out, HE.out, hq]; rfl)
            rw [hq] at c2
            clear hq
            have bx_0 := bx.cell (j := 0) rfl
            have bx_1 := bx.cell (j := 1) rfl
            have bx_2 := bx.cell (j := 2) rfl
            have bx_3 := bx.cell (j := 3) rfl
            have bx_z := bx.frozen
            have bx_l := bx.lt
            have bR_0 := bR.cell (j := 0) rfl
            have bR_1 := bR.cell (j := 1) rfl
            have bR_2 := bR.cell (j := 2) rfl
            have bR_3 := bR.cell (j := 3) rfl
            have bR_z := bR.frozen
            have bR_l := bR.lt
            go_wp2_with fail
            clear bx_0 bx_1 bx_2 bx_3 bx_z bx_l bR_0 bR_1 bR_2 bR_3 bR_z bR_l
            refine (c2).mono ?_; rintro q_ w5 ⟨rfl, b_5⟩
            replace bx := bx.below b_5 bx.lt
            replace bR := bR.below b_5 bR.lt
            replace ht := ht.below b_5 (by omega)
            replace hs := hs.below b_5 (by omega)
            replace hw := hw.below b_5 (by omega)
            replace ho4 := ho4.below b_5 (by omega)
            replace oK := own_below oK b_5
            replace hb0 := hb0.trans (b_5.mono hb0.size)
            have z_6 := b_5.size
            replace b0 := b0.trans (b_5.mono (by omega))
            clear b_5
            have bx_0 := bx.cell (j := 0) rfl
            have bx_1 := bx.cell (j := 1) rfl
            have bx_2 := bx.cell (j := 2) rfl
            have bx_3 := bx.cell (j := 3) rfl
            have bx_z := bx.frozen
            have bx_l := bx.lt
            have bR_0 := bR.cell (j := 0) rfl
            have bR_1 := bR.cell (j := 1) rfl
            have bR_2 := bR.cell (j := 2) rfl
            have bR_3 := bR.cell (j := 3) rfl
            have bR_z := bR.frozen
            have bR_l := bR.lt
            go_wp2_with fail
            clear bx_0 bx_1 bx_2 bx_3 bx_z bx_l bR_0 bR_1 bR_2 bR_3 bR_z bR_l
            go_roundw
            case rel => exact ⟨k + 1, by omega, by go_num, hb0, HE2⟩
            case measure => simp [intOf]; omega
        · have hA : ops.all Op_.ok = true := by
            have h3 := HE.out
            rwa [List.take_of_length_le (by rw [← H6.out]; omega)] at h3
          have HF := Lib.hid (FS.ro_yes (s := ⟨m, st, ls, lw⟩) (l := ops) (by have h6 := H6.out; simp [FS.roOk, HG0.out, hA]; omega))
          have HA := Lib.hid hA
          clear hA HE hb0
          have bx_0 := bx.cell (j := 0) rfl
          have bx_1 := bx.cell (j := 1) rfl
          have bx_2 := bx.cell (j := 2) rfl
          have bx_3 := bx.cell (j := 3) rfl
          have bx_z := bx.frozen
          have bx_l := bx.lt
          have bR_0 := bR.cell (j := 0) rfl
          have bR_1 := bR.cell (j := 1) rfl
          have bR_2 := bR.cell (j := 2) rfl
          have bR_3 := bR.cell (j := 3) rfl
          have bR_z := bR.frozen
          have bR_l := bR.lt
          go_wp2_with fail
          clear bx_0 bx_1 bx_2 bx_3 bx_z bx_l bR_0 bR_1 bR_2 bR_3 bR_z bR_l
          refine (specOwnF_any m _ _ _ st ls lw wr ht hs hw (by omega) (by omega) (by omega) hl hl1 hl2).mono ?_; rintro q_ w5 ⟨v3, v4, v5, rfl, o3, o4, o5, b_5⟩
          replace bx := bx.below b_5 bx.lt
          replace bR := bR.below b_5 bR.lt
          replace ht := ht.below b_5 (by omega)
          replace hs := hs.below b_5 (by omega)
          replace hw := hw.below b_5 (by omega)
          replace ho4 := ho4.below b_5 (by omega)
          replace oK := own_below oK b_5
          have z_6 := b_5.size
          replace b0 := b0.trans (b_5.mono (by omega))
          clear b_5
          obtain ⟨B3, m3, e3, rfl, _, _, _⟩ := o3.rd.form
          obtain ⟨B4, m4, e4, rfl, _, _, _⟩ := o4.rd.form
          obtain ⟨B5, m5, e5, rfl, _, _, _⟩ := o5.rd.form
          have bx_0 := bx.cell (j := 0) rfl
          have bx_1 := bx.cell (j := 1) rfl
          have bx_2 := bx.cell (j := 2) rfl
          have bx_3 := bx.cell (j := 3) rfl
          have bx_z := bx.frozen
          have bx_l := bx.lt
          have bR_0 := bR.cell (j := 0) rfl
          have bR_1 := bR.cell (j := 1) rfl
          have bR_2 := bR.cell (j := 2) rfl
          have bR_3 := bR.cell (j := 3) rfl
          have bR_z := bR.frozen
          have bR_l := bR.lt
          go_upto_region 10 with fail
          clear bx_0 bx_1 bx_2 bx_3 bx_z bx_l bR_0 bR_1 bR_2 bR_3 bR_z bR_l
          have b_7 := (Below.refl w5.heap.size w5).alloc (Nat.le_refl _) (.cells #[.int .i64 m, .slice B3 m3 e3, .slice B4 m4 e4, .slice B5 m5 e5] 35)
          have bO := Box.new w5 #[.int .i64 m, .slice B3 m3 e3, .slice B4 m4 e4, .slice B5 m5 e5] 35 rfl
          replace bx := bx.below b_7 bx.lt
          replace bR := bR.below b_7 bR.lt
          replace ht := ht.below b_7 (by omega)
          replace hs := hs.below b_7 (by omega)
          replace hw := hw.below b_7 (by omega)
          replace ho4 := ho4.below b_7 (by omega)
          replace o3 := o3.below b_7 (by omega)
          replace o4 := o4.below b_7 (by omega)
          replace o5 := o5.below b_7 (by omega)
          replace oK := own_below oK b_7
          have z_8 := b_7.size
          replace b0 := b0.trans (b_7.mono (by omega))
          clear b_7
          generalize w5.alloc _ = w7 at *
          generalize w5.heap.size = g7 at *
          clear bx ht hs hw
          have zgO : w.heap.size + 2 ≤ g7 := by omega
          generalize hgO : g7 = gO at *
          clear hgO
          have bR_0 := bR.cell (j := 0) rfl
          have bR_1 := bR.cell (j := 1) rfl
          have bR_2 := bR.cell (j := 2) rfl
          have bR_3 := bR.cell (j := 3) rfl
          have bR_z := bR.frozen
          have bR_l := bR.lt
          have bO_0 := bO.cell (j := 0) rfl
          have bO_1 := bO.cell (j := 1) rfl
          have bO_2 := bO.cell (j := 2) rfl
          have bO_3 := bO.cell (j := 3) rfl
          have bO_z := bO.frozen
          have bO_l := bO.lt
          go_wp2_with fail
          clear bR_0 bR_1 bR_2 bR_3 bR_z bR_l bO_0 bO_1 bO_2 bO_3 bO_z bO_l
          go_loopw [7, 10] (fun u7 u10 wr => ∃ (k j : Nat) (S : FS) (xs : List Int) (At A0 A1 : Option Addr) (nt dt n0 d0 n1 d1 lo hi : Nat), k ≤ n6 ∧ u10 = .int .i64 k ∧ Hid (FS.runs (⟨m, st, ls, lw⟩, []) (ops.take k) = (S, xs)) ∧ Hid (S.good = true) ∧ Hid (j = xs.length) ∧ j ≤ k ∧ Below w.heap.size w wr ∧ w.heap.size + 2 ≤ wr.heap.size ∧ Box wr gO 35 [.int .i64 S.m, .slice At nt dt, .slice A0 n0 d0, .slice A1 n1 d1] ∧ Box wr (w.heap.size + 1) 35 [.int .i64 0, .slice none 0 0, .slice none 0 0, .slice none 0 0] ∧ Ow Nm.cells 1 3 wr lo hi (.slice At nt dt) S.st ∧ Ow Sl.cells 3 127 wr lo hi (.slice A0 n0 d0) S.ls ∧ Ow Wt.cells 2 134 wr lo hi (.slice A1 n1 d1) S.lw ∧ w.heap.size ≤ lo ∧ hi ≤ wr.heap.size ∧ (∀ g, u7.ownBlock = some g → g < lo ∨ hi ≤ g) ∧ wr.ownsRow (w.heap.size + 2) 3 1 u7 j (xs.flatMap Nm.cells) ∧ Rd Op_.cells 3 wr lo4 hi4 (.slice A6 n6 d6) ops) (fun _ u10 _ => n6 - (intOf u10).toNat)
          case atStart => exact ⟨0, 0, ⟨m, st, ls, lw⟩, [], _, _, _, _, _, _, _, _, _, _, _, Nat.zero_le _, rfl, Lib.hid rfl, HG0, Lib.hid rfl, Nat.le_refl _, b0, by omega, bO, bR, o3, o4, o5, by omega, by omega, (by intro g hg; simp [Value.ownBlock] at hg; omega), oK, ho4⟩
          case round =>
            clear b0 bO bR o3 o4 o5 oK ho4
            obtain ⟨k, j, S, xs, At, A0, A1, nt, dt, n0, d0, n1, d1, lo', hi', hk, rfl, HR, HS, HJ, hj, hB, zw, bO, bR, ot, os, ow, zl, zh, hu, oK, ho4⟩ := hrel
            by_cases hlt : k < n6
            · obtain ⟨b, off, o, rfl, HO, _, hbh, f0, f1, f2⟩ := Op_.get ho4 hlt (Below.refl wr.heap.size wr) (by omega)
              have hki : (k : Int) < (n6 : Int) := by omega
              have HV := Lib.hid (List.all_eq_true.1 HA.out o (List.mem_of_getElem? HO.out))
              have hS4 := FS.good_len HS.out
              have hSp : Qu.parts S.ls S.lw = true := (Qu.good_parts (FS.good_iff.1 HS.out).2.1).1
              have huL : ∀ g, u7.ownBlock = some g → g < wr.heap.size := fun g hg => own_lt oK g hg
              have hvk := (Op_.ok_iff o).1 HV.out
              by_cases h1 : o.kind = 1
              · have HI := Lib.hid (show inB o.irq 0 7 = true from by rcases hvk with h | h | h <;> simp_all <;> omega)
                have HP := Lib.hid (show inB o.prio 0 15 = true from by rcases hvk with h | h | h <;> simp_all <;> omega)
                have HS2 := Lib.hid (FS.rose_good HS.out HI.out HP.out)
                have HQ := Lib.hid hSp
                have HR2 := Lib.hid (show FS.runs (⟨m, st, ls, lw⟩, []) (ops.take (k + 1)) = (S.rose o.irq o.prio, xs) from (FS.runs_pre HO.out).trans (by rw [HR.out]; exact FS.next_rose h1))
                rw [h1] at f0
                clear h1 hvk hSp HV
                have bO_0 := bO.cell (j := 0) rfl
                have bO_1 := bO.cell (j := 1) rfl
                have bO_2 := bO.cell (j := 2) rfl
                have bO_3 := bO.cell (j := 3) rfl
                have bO_z := bO.frozen
                have bO_l := bO.lt
                have bR_0 := bR.cell (j := 0) rfl
                have bR_1 := bR.cell (j := 1) rfl
                have bR_2 := bR.cell (j := 2) rfl
                have bR_3 := bR.cell (j := 3) rfl
                have bR_z := bR.frozen
                have bR_l := bR.lt
                go_upto_region 16 with fail
                clear bO_0 bO_1 bO_2 bO_3 bO_z bO_l bR_0 bR_1 bR_2 bR_3 bR_z bR_l
                refine wp_region_held_drew (S := fun W => Rd Op_.cells 3 W lo4 hi4 (.slice (some ⟨b, off, none⟩) n6 d6) ops) (by kernel_rfl) (show (fun (W : World) => Rd Op_.cells 3 W lo4 hi4 (.slice (some ⟨b, off, none⟩) n6 d6) ops) wr.drew from ho4.drew) (fun hHeld => ?_)
                refine wpAnyH_take (i := 1) (v := .slice (some ⟨b, off, none⟩) n6 d6) rfl (by kernel_rfl) (by kernel_rfl) (by kernel_rfl) (fun _ _ _ h => h) (Or.inl ⟨by rfl, by intro w hSw; have hS0 := hSw; obtain ⟨yf0, yf1, yf2⟩ := Op_.at_ hS0 HO.out; go_simp⟩) hHeld ?_
                refine wpAnyH_take (i := 2) (v := .int .i64 k) rfl (by kernel_rfl) (by kernel_rfl) (by kernel_rfl) (fun _ _ _ h => h) (Or.inl ⟨by rfl, by intro w hSw; have hS0 := hSw; obtain ⟨yf0, yf1, yf2⟩ := Op_.at_ hS0 HO.out; go_simp⟩) hHeld ?_
                refine wpAnyH_take (i := 3) (v := .pointer (some ⟨b, off + k * 3, none⟩)) rfl (by kernel_rfl) (by kernel_rfl) (by kernel_rfl) (fun _ _ _ h => h) (Or.inl ⟨by rfl, by intro w hSw; have hS0 := hSw; obtain ⟨yf0, yf1, yf2⟩ := Op_.at_ hS0 HO.out; go_simp⟩) hHeld ?_
                refine wpAnyH_take (i := 4) (v := .pointer (some ⟨b, off + k * 3 + 1, none⟩)) rfl (by kernel_rfl) (by kernel_rfl) (by kernel_rfl) (fun _ _ _ h => h) (Or.inl ⟨by rfl, by intro w hSw; have hS0 := hSw; obtain ⟨yf0, yf1, yf2⟩ := Op_.at_ hS0 HO.out; go_simp⟩) hHeld ?_
                refine wpAnyH_take (i := 5) (v := .int .i64 o.irq) rfl (by kernel_rfl) (by kernel_rfl) (by kernel_rfl) (fun _ _ _ h => h) (Or.inl ⟨by rfl, by intro w hSw; have hS0 := hSw; obtain ⟨yf0, yf1, yf2⟩ := Op_.at_ hS0 HO.out; go_simp⟩) hHeld ?_
                refine wpAnyH_take (i := 6) (v := .slice (some ⟨b, off, none⟩) n6 d6) rfl (by kernel_rfl) (by kernel_rfl) (by kernel_rfl) (fun _ _ _ h => h) (Or.inl ⟨by rfl, by intro w hSw; have hS0 := hSw; obtain ⟨yf0, yf1, yf2⟩ := Op_.at_ hS0 HO.out; go_simp⟩) hHeld ?_
                refine wpAnyH_take (i := 7) (v := .int .i64 k) rfl (by kernel_rfl) (by kernel_rfl) (by kernel_rfl) (fun _ _ _ h => h) (Or.inl ⟨by rfl, by intro w hSw; have hS0 := hSw; obtain ⟨yf0, yf1, yf2⟩ := Op_.at_ hS0 HO.out; go_simp⟩) hHeld ?_
                refine wpAnyH_take (i := 8) (v := .pointer (some ⟨b, off + k * 3, none⟩)) rfl (by kernel_rfl) (by kernel_rfl) (by kernel_rfl) (fun _ _ _ h => h) (Or.inl ⟨by rfl, by intro w hSw; have hS0 := hSw; obtain ⟨yf0, yf1, yf2⟩ := Op_.at_ hS0 HO.out; go_simp⟩) hHeld ?_
                refine wpAnyH_take (i := 9) (v := .pointer (some ⟨b, off + k * 3 + 2, none⟩)) rfl (by kernel_rfl) (by kernel_rfl) (by kernel_rfl) (fun _ _ _ h => h) (Or.inl ⟨by rfl, by intro w hSw; have hS0 := hSw; obtain ⟨yf0, yf1, yf2⟩ := Op_.at_ hS0 HO.out; go_simp⟩) hHeld ?_
                refine wpAnyH_take (i := 10) (v := .int .i64 o.prio) rfl (by kernel_rfl) (by kernel_rfl) (by kernel_rfl) (fun _ _ _ h => h) (Or.inl ⟨by rfl, by intro w hSw; have hS0 := hSw; obtain ⟨yf0, yf1, yf2⟩ := Op_.at_ hS0 HO.out; go_simp⟩) hHeld ?_
                clear hHeld
                refine held_gen (F := fun W' => Below wr.heap.size wr W') (Below.refl wr.heap.size wr).drew ?_
                rintro w201 b_201
                replace bO := bO.below b_201 bO.lt
                replace bR := bR.below b_201 bR.lt
                replace ot := ot.below b_201 (by omega)
                replace os := os.below b_201 (by omega)
                replace ow := ow.below b_201 (by omega)
                replace ho4 := ho4.below b_201 (by omega)
                replace oK := own_below oK b_201
                have z_202 := b_201.size
                replace hB := hB.trans (b_201.mono (by omega))
                clear b_201
                refine wpAnyH_ready (rs := [0]) (by kernel_rfl) (by decide) ?_
                refine AllReadyH.cons rfl (fun K203 hK203 => ?_) AllReadyH.nil
                have bO_0 := bO.cell (j := 0) rfl
                have bO_1 := bO.cell (j := 1) rfl
                have bO_2 := bO.cell (j := 2) rfl
                have bO_3 := bO.cell (j := 3) rfl
                have bO_z := bO.frozen
                have bO_l := bO.lt
                have bR_0 := bR.cell (j := 0) rfl
                have bR_1 := bR.cell (j := 1) rfl
                have bR_2 := bR.cell (j := 2) rfl
                have bR_3 := bR.cell (j := 3) rfl
                have bR_z := bR.frozen
                have bR_l := bR.lt
                go_simp
                clear bO_0 bO_1 bO_2 bO_3 bO_z bO_l bR_0 bR_1 bR_2 bR_3 bR_z bR_l
                refine hK203.out _ _ ho4 (fun _ => ?_)
                refine wpAnyH_ready (rs := [11]) (by kernel_rfl) (by decide) ?_
                refine AllReadyH.cons rfl (fun K204 hK204 => ?_) AllReadyH.nil
                go_simp
                refine (specRaise_in S.m _ _ _ S.st S.ls S.lw w201 ot.rd os.rd ow.rd (by omega) (by omega) (by omega) o.irq o.prio (by omega) HQ.out HI.out HP.out).mono ?_; rintro q_ w205 ⟨v3, v4, v5, rfl, o3, o4, o5, b_205⟩
                replace bO := bO.below b_205 bO.lt
                replace bR := bR.below b_205 bR.lt
                replace ot := ot.below b_205 (by omega)
                replace os := os.below b_205 (by omega)
                replace ow := ow.below b_205 (by omega)
                replace ho4 := ho4.below b_205 (by omega)
                replace oK := own_below oK b_205
                have z_206 := b_205.size
                replace hB := hB.trans (b_205.mono (by omega))
                clear b_205
                obtain ⟨B3, m3, e3, rfl, _, _, _⟩ := o3.rd.form
                obtain ⟨B4, m4, e4, rfl, _, _, _⟩ := o4.rd.form
                obtain ⟨B5, m5, e5, rfl, _, _, _⟩ := o5.rd.form
                refine hK204.out _ _ ho4 (fun _ => ?_)
                clear ot os ow f0 f1 f2
                refine wpAnyH_ready (rs := [12]) (by kernel_rfl) (by decide) ?_
                refine AllReadyH.cons rfl (fun K207 hK207 => ?_) AllReadyH.nil
                have bO_0 := bO.cell (j := 0) rfl
                have bO_1 := bO.cell (j := 1) rfl
                have bO_2 := bO.cell (j := 2) rfl
                have bO_3 := bO.cell (j := 3) rfl
                have bO_z := bO.frozen
                have bO_l := bO.lt
                have bR_0 := bR.cell (j := 0) rfl
                have bR_1 := bR.cell (j := 1) rfl
                have bR_2 := bR.cell (j := 2) rfl
                have bR_3 := bR.cell (j := 3) rfl
                have bR_z := bR.frozen
                have bR_l := bR.lt
                go_simp
                clear bO_0 bO_1 bO_2 bO_3 bO_z bO_l bR_0 bR_1 bR_2 bR_3 bR_z bR_l
                generalize hwz : World.setCell (World.setCell (World.setCell (World.setCell _ _ _) _ _) _ _) _ _ = wz_
                obtain rfl : wz_ = setL w205 (gO) 0 [.int .i64 S.m, .slice B3 m3 e3, .slice B4 m4 e4, .slice B5 m5 e5] := hwz.symm
                clear hwz
                replace bR := bR.other (b := gO) (by omega) 0 [.int .i64 S.m, .slice B3 m3 e3, .slice B4 m4 e4, .slice B5 m5 e5]
                replace ho4 := ho4.away (g := gO) (by omega) 0 [.int .i64 S.m, .slice B3 m3 e3, .slice B4 m4 e4, .slice B5 m5 e5]
                replace o3 := o3.box (g := gO) bO (by decide) 0 [.int .i64 S.m, .slice B3 m3 e3, .slice B4 m4 e4, .slice B5 m5 e5]
                replace o4 := o4.box (g := gO) bO (by decide) 0 [.int .i64 S.m, .slice B3 m3 e3, .slice B4 m4 e4, .slice B5 m5 e5]
                replace o5 := o5.box (g := gO) bO (by decide) 0 [.int .i64 S.m, .slice B3 m3 e3, .slice B4 m4 e4, .slice B5 m5 e5]
                replace oK := own_box oK bO (by decide) 0 [.int .i64 S.m, .slice B3 m3 e3, .slice B4 m4 e4, .slice B5 m5 e5]
                replace hB := setL_below hB [.int .i64 S.m, .slice B3 m3 e3, .slice B4 m4 e4, .slice B5 m5 e5] (gO) 0 (by omega)
                have zs_208 : (setL w205 (gO) 0 [.int .i64 S.m, .slice B3 m3 e3, .slice B4 m4 e4, .slice B5 m5 e5]).heap.size = w205.heap.size := setL_size _ _ _ _
                replace bO := bO.setAll [.int .i64 S.m, .slice B3 m3 e3, .slice B4 m4 e4, .slice B5 m5 e5] rfl
                generalize setL w205 _ 0 _ = w208 at *
                refine hK207.out _ _ ho4 (fun _ => ?_)
                refine ⟨by kernel_rfl, ?_⟩
                have bO_0 := bO.cell (j := 0) rfl
                have bO_1 := bO.cell (j := 1) rfl
                have bO_2 := bO.cell (j := 2) rfl
                have bO_3 := bO.cell (j := 3) rfl
                have bO_z := bO.frozen
                have bO_l := bO.lt
                have bR_0 := bR.cell (j := 0) rfl
                have bR_1 := bR.cell (j := 1) rfl
                have bR_2 := bR.cell (j := 2) rfl
                have bR_3 := bR.cell (j := 3) rfl
                have bR_z := bR.frozen
                have bR_l := bR.lt
                go_wp2_with fail
                clear bO_0 bO_1 bO_2 bO_3 bO_z bO_l bR_0 bR_1 bR_2 bR_3 bR_z bR_l
                go_roundw
                case rel =>
                  exact ⟨k + 1, j, S.rose o.irq o.prio, xs, _, _, _, _, _, _, _, _, _, _, _, by omega, by go_num, HR2, HS2, Lib.hid HJ.out, by omega, hB, by omega, bO, bR, o3, o4, o5, by omega, by omega, (fun g hg => by have := huL g hg; omega), oK, ho4⟩
                case measure => simp [intOf]; omega
              by_cases h2 : o.kind = 2
              · clear h1
                have HX := Lib.hid (Fa.slots HS.out)
                have HGs := Lib.hid (Fa.good_sl HS.out)
                rw [h2] at f0
                cases hk : S.tk
                · have HS2 := HS
                  have HR2 := Lib.hid (show FS.runs (⟨m, st, ls, lw⟩, []) (ops.take (k + 1)) = (S, xs) from (FS.runs_pre HO.out).trans (by rw [HR.out]; exact FS.next_none h2 hk))
                  have HK := Lib.hid (show Fa.tkT S.st S.ls (minI S.m (Fa.run S.st S.ls)) = S.st ∧ Sl.tkL S.ls (minI S.m (Fa.run S.st S.ls)) = S.ls ∧ Sl.tkW S.ls (minI S.m (Fa.run S.st S.ls)) = -1 from by unfold FS.tk at hk; simp [Fa.tkT, Sl.tkL, Sl.tkW, hk])
                  clear h2 hk hvk hSp HV
                  have bO_0 := bO.cell (j := 0) rfl
                  have bO_1 := bO.cell (j := 1) rfl
                  have bO_2 := bO.cell (j := 2) rfl
                  have bO_3 := bO.cell (j := 3) rfl
                  have bO_z := bO.frozen
                  have bO_l := bO.lt
                  have bR_0 := bR.cell (j := 0) rfl
                  have bR_1 := bR.cell (j := 1) rfl
                  have bR_2 := bR.cell (j := 2) rfl
                  have bR_3 := bR.cell (j := 3) rfl
                  have bR_z := bR.frozen
                  have bR_l := bR.lt
                  go_wp2_with fail
                  clear bO_0 bO_1 bO_2 bO_3 bO_z bO_l bR_0 bR_1 bR_2 bR_3 bR_z bR_l
                  have c2 := specTakeF_in S.m _ _ _ S.st S.ls S.lw wr ot.rd os.rd ow.rd (by omega) (by omega) (by omega) HGs.out HX.out (by omega) (by omega)
                  rw [HK.out.1, HK.out.2.1, HK.out.2.2] at c2
                  have huC : ∀ g, u7.ownBlock = some g → g < wr.heap.size := fun g hg => by have := huL g hg; omega
                  refine (c2).mono ?_; rintro q_ w201 ⟨v3, v4, v5, rfl, o3, o4, o5, b_201⟩
                  replace bO := bO.below b_201 bO.lt
                  replace bR := bR.below b_201 bR.lt
                  replace ot := ot.below b_201 (by omega)
                  replace os := os.below b_201 (by omega)
                  replace ow := ow.below b_201 (by omega)
                  replace ho4 := ho4.below b_201 (by omega)
                  replace oK := own_below oK b_201
                  have z_202 := b_201.size
                  replace hB := hB.trans (b_201.mono (by omega))
                  clear b_201
                  obtain ⟨B3, m3, e3, rfl, _, _, _⟩ := o3.rd.form
                  obtain ⟨B4, m4, e4, rfl, _, _, _⟩ := o4.rd.form
                  obtain ⟨B5, m5, e5, rfl, _, _, _⟩ := o5.rd.form
                  clear ot os ow f0 f1 f2
                  have bO_0 := bO.cell (j := 0) rfl
                  have bO_1 := bO.cell (j := 1) rfl
                  have bO_2 := bO.cell (j := 2) rfl
                  have bO_3 := bO.cell (j := 3) rfl
                  have bO_z := bO.frozen
                  have bO_l := bO.lt
                  have bR_0 := bR.cell (j := 0) rfl
                  have bR_1 := bR.cell (j := 1) rfl
                  have bR_2 := bR.cell (j := 2) rfl
                  have bR_3 := bR.cell (j := 3) rfl
                  have bR_z := bR.frozen
                  have bR_l := bR.lt
                  go_upto_region 19 with fail
                  clear bO_0 bO_1 bO_2 bO_3 bO_z bO_l bR_0 bR_1 bR_2 bR_3 bR_z bR_l
                  have b_203 := (Below.refl w201.heap.size w201).alloc (Nat.le_refl _) (.cells #[.int .i64 S.m, .slice B3 m3 e3, .slice B4 m4 e4, .slice B5 m5 e5] 35)
                  have bN := Box.new w201 #[.int .i64 S.m, .slice B3 m3 e3, .slice B4 m4 e4, .slice B5 m5 e5] 35 rfl
                  replace bO := bO.below b_203 bO.lt
                  replace bR := bR.below b_203 bR.lt
                  replace ho4 := ho4.below b_203 (by omega)
                  replace o3 := o3.below b_203 (by omega)
                  replace o4 := o4.below b_203 (by omega)
                  replace o5 := o5.below b_203 (by omega)
                  replace oK := own_below oK b_203
                  have z_204 := b_203.size
                  replace hB := hB.trans (b_203.mono (by omega))
                  clear b_203
                  generalize w201.alloc _ = w203 at *
                  generalize w201.heap.size = g203 at *
                  have bO_0 := bO.cell (j := 0) rfl
                  have bO_1 := bO.cell (j := 1) rfl
                  have bO_2 := bO.cell (j := 2) rfl
                  have bO_3 := bO.cell (j := 3) rfl
                  have bO_z := bO.frozen
                  have bO_l := bO.lt
                  have bR_0 := bR.cell (j := 0) rfl
                  have bR_1 := bR.cell (j := 1) rfl
                  have bR_2 := bR.cell (j := 2) rfl
                  have bR_3 := bR.cell (j := 3) rfl
                  have bR_z := bR.frozen
                  have bR_l := bR.lt
                  have bN_0 := bN.cell (j := 0) rfl
                  have bN_1 := bN.cell (j := 1) rfl
                  have bN_2 := bN.cell (j := 2) rfl
                  have bN_3 := bN.cell (j := 3) rfl
                  have bN_z := bN.frozen
                  have bN_l := bN.lt
                  go_wp2_with fail
                  clear bO_0 bO_1 bO_2 bO_3 bO_z bO_l bR_0 bR_1 bR_2 bR_3 bR_z bR_l bN_0 bN_1 bN_2 bN_3 bN_z bN_l
                  go_roundw
                  case rel =>
                    clear bN
                    generalize hwz : World.setCell (World.setCell (World.setCell (World.setCell _ _ _) _ _) _ _) _ _ = wz_
                    obtain rfl : wz_ = setL w203 (gO) 0 [.int .i64 S.m, .slice B3 m3 e3, .slice B4 m4 e4, .slice B5 m5 e5] := hwz.symm
                    clear hwz
                    replace bR := bR.other (b := gO) (by omega) 0 [.int .i64 S.m, .slice B3 m3 e3, .slice B4 m4 e4, .slice B5 m5 e5]
                    replace ho4 := ho4.away (g := gO) (by omega) 0 [.int .i64 S.m, .slice B3 m3 e3, .slice B4 m4 e4, .slice B5 m5 e5]
                    replace o3 := o3.box (g := gO) bO (by decide) 0 [.int .i64 S.m, .slice B3 m3 e3, .slice B4 m4 e4, .slice B5 m5 e5]
                    replace o4 := o4.box (g := gO) bO (by decide) 0 [.int .i64 S.m, .slice B3 m3 e3, .slice B4 m4 e4, .slice B5 m5 e5]
                    replace o5 := o5.box (g := gO) bO (by decide) 0 [.int .i64 S.m, .slice B3 m3 e3, .slice B4 m4 e4, .slice B5 m5 e5]
                    replace oK := own_box oK bO (by decide) 0 [.int .i64 S.m, .slice B3 m3 e3, .slice B4 m4 e4, .slice B5 m5 e5]
                    replace hB := setL_below hB [.int .i64 S.m, .slice B3 m3 e3, .slice B4 m4 e4, .slice B5 m5 e5] (gO) 0 (by omega)
                    have zs_205 : (setL w203 (gO) 0 [.int .i64 S.m, .slice B3 m3 e3, .slice B4 m4 e4, .slice B5 m5 e5]).heap.size = w203.heap.size := setL_size _ _ _ _
                    replace bO := bO.setAll [.int .i64 S.m, .slice B3 m3 e3, .slice B4 m4 e4, .slice B5 m5 e5] rfl
                    generalize setL w203 _ 0 _ = w205 at *
                    exact ⟨k + 1, j, S, xs, _, _, _, _, _, _, _, _, _, _, _, by omega, by go_num, HR2, HS2, Lib.hid HJ.out, by omega, hB, by omega, bO, bR, o3, o4, o5, by omega, by omega, (fun g hg => by have := huC g hg; omega), oK, ho4⟩
                  case measure => simp [intOf]; omega
                · have HS2 := Lib.hid (FS.took_good HS.out hk)
                  have HR2 := Lib.hid (show FS.runs (⟨m, st, ls, lw⟩, []) (ops.take (k + 1)) = (S.took, xs ++ [Sl.tkI S.ls]) from (FS.runs_pre HO.out).trans (by rw [HR.out]; exact FS.next_took h2 hk))
                  have hI := Sl.tk_irq HGs.out hk
                  have hId : decide ((0 : Int) ≤ Sl.tkI S.ls) = true := decide_eq_true (by omega)
                  have HK := Lib.hid (show Fa.tkT S.st S.ls (minI S.m (Fa.run S.st S.ls)) = S.st ++ [Sl.tkI S.ls] ∧ Sl.tkL S.ls (minI S.m (Fa.run S.st S.ls)) = Sl.tkS S.ls ∧ Sl.tkW S.ls (minI S.m (Fa.run S.st S.ls)) = Sl.tkI S.ls from by unfold FS.tk at hk; simp [Fa.tkT, Sl.tkL, Sl.tkW, hk])
                  clear h2 hk hvk hSp HV
                  have bO_0 := bO.cell (j := 0) rfl
                  have bO_1 := bO.cell (j := 1) rfl
                  have bO_2 := bO.cell (j := 2) rfl
                  have bO_3 := bO.cell (j := 3) rfl
                  have bO_z := bO.frozen
                  have bO_l := bO.lt
                  have bR_0 := bR.cell (j := 0) rfl
                  have bR_1 := bR.cell (j := 1) rfl
                  have bR_2 := bR.cell (j := 2) rfl
                  have bR_3 := bR.cell (j := 3) rfl
                  have bR_z := bR.frozen
                  have bR_l := bR.lt
                  go_wp2_with fail
                  clear bO_0 bO_1 bO_2 bO_3 bO_z bO_l bR_0 bR_1 bR_2 bR_3 bR_z bR_l
                  have c2 := specTakeF_in S.m _ _ _ S.st S.ls S.lw wr ot.rd os.rd ow.rd (by omega) (by omega) (by omega) HGs.out HX.out (by omega) (by omega)
                  rw [HK.out.1, HK.out.2.1, HK.out.2.2] at c2
                  have huC : ∀ g, u7.ownBlock = some g → g < wr.heap.size := fun g hg => by have := huL g hg; omega
                  refine (c2).mono ?_; rintro q_ w201 ⟨v3, v4, v5, rfl, o3, o4, o5, b_201⟩
                  replace bO := bO.below b_201 bO.lt
                  replace bR := bR.below b_201 bR.lt
                  replace ot := ot.below b_201 (by omega)
                  replace os := os.below b_201 (by omega)
                  replace ow := ow.below b_201 (by omega)
                  replace ho4 := ho4.below b_201 (by omega)
                  replace oK := own_below oK b_201
                  have z_202 := b_201.size
                  replace hB := hB.trans (b_201.mono (by omega))
                  clear b_201
                  obtain ⟨B3, m3, e3, rfl, _, _, _⟩ := o3.rd.form
                  obtain ⟨B4, m4, e4, rfl, _, _, _⟩ := o4.rd.form
                  obtain ⟨B5, m5, e5, rfl, _, _, _⟩ := o5.rd.form
                  clear ot os ow f0 f1 f2
                  have bO_0 := bO.cell (j := 0) rfl
                  have bO_1 := bO.cell (j := 1) rfl
                  have bO_2 := bO.cell (j := 2) rfl
                  have bO_3 := bO.cell (j := 3) rfl
                  have bO_z := bO.frozen
                  have bO_l := bO.lt
                  have bR_0 := bR.cell (j := 0) rfl
                  have bR_1 := bR.cell (j := 1) rfl
                  have bR_2 := bR.cell (j := 2) rfl
                  have bR_3 := bR.cell (j := 3) rfl
                  have bR_z := bR.frozen
                  have bR_l := bR.lt
                  go_upto_region 19 with fail
                  clear bO_0 bO_1 bO_2 bO_3 bO_z bO_l bR_0 bR_1 bR_2 bR_3 bR_z bR_l
                  have b_203 := (Below.refl w201.heap.size w201).alloc (Nat.le_refl _) (.cells #[.int .i64 S.m, .slice B3 m3 e3, .slice B4 m4 e4, .slice B5 m5 e5] 35)
                  have bN := Box.new w201 #[.int .i64 S.m, .slice B3 m3 e3, .slice B4 m4 e4, .slice B5 m5 e5] 35 rfl
                  replace bO := bO.below b_203 bO.lt
                  replace bR := bR.below b_203 bR.lt
                  replace ho4 := ho4.below b_203 (by omega)
                  replace o3 := o3.below b_203 (by omega)
                  replace o4 := o4.below b_203 (by omega)
                  replace o5 := o5.below b_203 (by omega)
                  replace oK := own_below oK b_203
                  have z_204 := b_203.size
                  replace hB := hB.trans (b_203.mono (by omega))
                  clear b_203
                  generalize w201.alloc _ = w203 at *
                  generalize w201.heap.size = g203 at *
                  have bO_0 := bO.cell (j := 0) rfl
                  have bO_1 := bO.cell (j := 1) rfl
                  have bO_2 := bO.cell (j := 2) rfl
                  have bO_3 := bO.cell (j := 3) rfl
                  have bO_z := bO.frozen
                  have bO_l := bO.lt
                  have bR_0 := bR.cell (j := 0) rfl
                  have bR_1 := bR.cell (j := 1) rfl
                  have bR_2 := bR.cell (j := 2) rfl
                  have bR_3 := bR.cell (j := 3) rfl
                  have bR_z := bR.frozen
                  have bR_l := bR.lt
                  have bN_0 := bN.cell (j := 0) rfl
                  have bN_1 := bN.cell (j := 1) rfl
                  have bN_2 := bN.cell (j := 2) rfl
                  have bN_3 := bN.cell (j := 3) rfl
                  have bN_z := bN.frozen
                  have bN_l := bN.lt
                  go_upto_region 20 with fail
                  clear bO_0 bO_1 bO_2 bO_3 bO_z bO_l bR_0 bR_1 bR_2 bR_3 bR_z bR_l bN_0 bN_1 bN_2 bN_3 bN_z bN_l
                  have bL := (Below.refl w203.heap.size w203).alloc (Nat.le_refl _) (.cells #[.int .i64 (Sl.tkI S.ls)] 3)
                  have zL : (w203.alloc (.cells #[.int .i64 (Sl.tkI S.ls)] 3)).heap.size = w203.heap.size + 1 := by simp
                  have oKL := oK.alloc (.cells #[.int .i64 (Sl.tkI S.ls)] 3)
                  go_upto_region 21 with (at_builtin; (refine Nm.app_one2 rfl _ _ rfl (w.heap.size + 2) u7 j _ rfl oKL (g := w203.heap.size) (c := 1) (Sl.tkI S.ls) rfl (fun j u hu => cell_new _ _ _ rfl (by simpa [Nm.cells] using hu)) (by omega) (by omega) ?_); (intro v8 w8 oK8 g8 d8))
                  replace bO := (bO.below bL bO.lt).grown_own oKL g8 (by decide)
                  replace bR := (bR.below bL bR.lt).grown_own oKL g8 (by decide)
                  replace bN := (bN.below bL bN.lt).grown_own oKL g8 (by decide)
                  replace ho4 := (ho4.below bL (by omega)).grown g8 (by omega) (fun g hg => by have := own_ge oKL g hg; omega)
                  replace o3 := (o3.below bL (by omega)).grown_off g8 (fun g hg => by have := huC g hg; omega)
                  replace o4 := (o4.below bL (by omega)).grown_own oKL g8 (by decide)
                  replace o5 := (o5.below bL (by omega)).grown_own oKL g8 (by decide)
                  replace hB := (hB.trans (bL.mono (by omega))).grown g8 (by omega) (fun g hg => by have := own_ge oKL g hg; omega)
                  have z8 := g8.size
                  rw [zL] at d8
                  have oK8' : w8.ownsRow (w.heap.size + 2) 3 1 v8 (j + 1) ((xs ++ [(Sl.tkI S.ls)]).flatMap Nm.cells) := by rw [List.flatMap_append]; simpa using oK8
                  clear oK8 oKL oK g8
                  have oK8 := oK8'
                  clear oK8' bL
                  have bO_0 := bO.cell (j := 0) rfl
                  have bO_1 := bO.cell (j := 1) rfl
                  have bO_2 := bO.cell (j := 2) rfl
                  have bO_3 := bO.cell (j := 3) rfl
                  have bO_z := bO.frozen
                  have bO_l := bO.lt
                  have bR_0 := bR.cell (j := 0) rfl
                  have bR_1 := bR.cell (j := 1) rfl
                  have bR_2 := bR.cell (j := 2) rfl
                  have bR_3 := bR.cell (j := 3) rfl
                  have bR_z := bR.frozen
                  have bR_l := bR.lt
                  have bN_0 := bN.cell (j := 0) rfl
                  have bN_1 := bN.cell (j := 1) rfl
                  have bN_2 := bN.cell (j := 2) rfl
                  have bN_3 := bN.cell (j := 3) rfl
                  have bN_z := bN.frozen
                  have bN_l := bN.lt
                  go_wp2_with fail
                  clear bO_0 bO_1 bO_2 bO_3 bO_z bO_l bR_0 bR_1 bR_2 bR_3 bR_z bR_l bN_0 bN_1 bN_2 bN_3 bN_z bN_l
                  go_roundw
                  case rel =>
                    clear bN
                    generalize hwz : World.setCell (World.setCell (World.setCell (World.setCell _ _ _) _ _) _ _) _ _ = wz_
                    obtain rfl : wz_ = setL w8 (gO) 0 [.int .i64 S.m, .slice B3 m3 e3, .slice B4 m4 e4, .slice B5 m5 e5] := hwz.symm
                    clear hwz
                    replace bR := bR.other (b := gO) (by omega) 0 [.int .i64 S.m, .slice B3 m3 e3, .slice B4 m4 e4, .slice B5 m5 e5]
                    replace ho4 := ho4.away (g := gO) (by omega) 0 [.int .i64 S.m, .slice B3 m3 e3, .slice B4 m4 e4, .slice B5 m5 e5]
                    replace o3 := o3.box (g := gO) bO (by decide) 0 [.int .i64 S.m, .slice B3 m3 e3, .slice B4 m4 e4, .slice B5 m5 e5]
                    replace o4 := o4.box (g := gO) bO (by decide) 0 [.int .i64 S.m, .slice B3 m3 e3, .slice B4 m4 e4, .slice B5 m5 e5]
                    replace o5 := o5.box (g := gO) bO (by decide) 0 [.int .i64 S.m, .slice B3 m3 e3, .slice B4 m4 e4, .slice B5 m5 e5]
                    replace oK8 := own_box oK8 bO (by decide) 0 [.int .i64 S.m, .slice B3 m3 e3, .slice B4 m4 e4, .slice B5 m5 e5]
                    replace hB := setL_below hB [.int .i64 S.m, .slice B3 m3 e3, .slice B4 m4 e4, .slice B5 m5 e5] (gO) 0 (by omega)
                    have zs_205 : (setL w8 (gO) 0 [.int .i64 S.m, .slice B3 m3 e3, .slice B4 m4 e4, .slice B5 m5 e5]).heap.size = w8.heap.size := setL_size _ _ _ _
                    replace bO := bO.setAll [.int .i64 S.m, .slice B3 m3 e3, .slice B4 m4 e4, .slice B5 m5 e5] rfl
                    generalize setL w8 _ 0 _ = w205 at *
                    exact ⟨k + 1, j + 1, S.took, xs ++ [Sl.tkI S.ls], _, _, _, _, _, _, _, _, _, _, _, by omega, by go_num, HR2, HS2, Lib.hid (by rw [List.length_append, HJ.out]; rfl), by omega, hB, by omega, bO, bR, o3, o4, o5, by omega, by omega, (fun g hg => by rcases d8 with e | e <;> rw [e] at hg <;> first | (have := huC g hg; omega) | (simp at hg; omega)), oK8, ho4⟩
                  case measure => simp [intOf]; omega
              by_cases h3 : o.kind = 3
              · clear h1 h2
                rw [h3] at f0
                by_cases hz : S.st.length = 0
                · have HS2 := HS
                  have HR2 := Lib.hid (show FS.runs (⟨m, st, ls, lw⟩, []) (ops.take (k + 1)) = (S, xs) from (FS.runs_pre HO.out).trans (by rw [HR.out]; exact FS.next_nil h3 hz))
                  have hzn : S.st = [] := List.eq_nil_of_length_eq_zero hz
                  clear h3 hz hvk hSp HV
                  have bO_0 := bO.cell (j := 0) rfl
                  have bO_1 := bO.cell (j := 1) rfl
                  have bO_2 := bO.cell (j := 2) rfl
                  have bO_3 := bO.cell (j := 3) rfl
                  have bO_z := bO.frozen
                  have bO_l := bO.lt
                  have bR_0 := bR.cell (j := 0) rfl
                  have bR_1 := bR.cell (j := 1) rfl
                  have bR_2 := bR.cell (j := 2) rfl
                  have bR_3 := bR.cell (j := 3) rfl
                  have bR_z := bR.frozen
                  have bR_l := bR.lt
                  go_wp2_with fail
                  clear bO_0 bO_1 bO_2 bO_3 bO_z bO_l bR_0 bR_1 bR_2 bR_3 bR_z bR_l
                  refine (specLeave_nil S.m _ _ _ S.st S.ls S.lw wr ot.rd os.rd ow.rd (by omega) (by omega) (by omega) hzn).mono ?_; rintro q_ w201 ⟨rfl, b_201⟩
                  replace bO := bO.below b_201 bO.lt
                  replace bR := bR.below b_201 bR.lt
                  replace ot := ot.below b_201 (by omega)
                  replace os := os.below b_201 (by omega)
                  replace ow := ow.below b_201 (by omega)
                  replace ho4 := ho4.below b_201 (by omega)
                  replace oK := own_below oK b_201
                  have z_202 := b_201.size
                  replace hB := hB.trans (b_201.mono (by omega))
                  clear b_201
                  clear f0 f1 f2 hzn
                  have bO_0 := bO.cell (j := 0) rfl
                  have bO_1 := bO.cell (j := 1) rfl
                  have bO_2 := bO.cell (j := 2) rfl
                  have bO_3 := bO.cell (j := 3) rfl
                  have bO_z := bO.frozen
                  have bO_l := bO.lt
                  have bR_0 := bR.cell (j := 0) rfl
                  have bR_1 := bR.cell (j := 1) rfl
                  have bR_2 := bR.cell (j := 2) rfl
                  have bR_3 := bR.cell (j := 3) rfl
                  have bR_z := bR.frozen
                  have bR_l := bR.lt
                  go_wp2_with fail
                  clear bO_0 bO_1 bO_2 bO_3 bO_z bO_l bR_0 bR_1 bR_2 bR_3 bR_z bR_l
                  go_roundw
                  case rel =>
                    generalize hwz : World.setCell (World.setCell (World.setCell (World.setCell _ _ _) _ _) _ _) _ _ = wz_
                    obtain rfl : wz_ = setL w201 (gO) 0 [.int .i64 S.m, .slice At nt dt, .slice A0 n0 d0, .slice A1 n1 d1] := hwz.symm
                    clear hwz
                    replace bR := bR.other (b := gO) (by omega) 0 [.int .i64 S.m, .slice At nt dt, .slice A0 n0 d0, .slice A1 n1 d1]
                    replace ot := ot.box (g := gO) bO (by decide) 0 [.int .i64 S.m, .slice At nt dt, .slice A0 n0 d0, .slice A1 n1 d1]
                    replace os := os.box (g := gO) bO (by decide) 0 [.int .i64 S.m, .slice At nt dt, .slice A0 n0 d0, .slice A1 n1 d1]
                    replace ow := ow.box (g := gO) bO (by decide) 0 [.int .i64 S.m, .slice At nt dt, .slice A0 n0 d0, .slice A1 n1 d1]
                    replace ho4 := ho4.away (g := gO) (by omega) 0 [.int .i64 S.m, .slice At nt dt, .slice A0 n0 d0, .slice A1 n1 d1]
                    replace oK := own_box oK bO (by decide) 0 [.int .i64 S.m, .slice At nt dt, .slice A0 n0 d0, .slice A1 n1 d1]
                    replace hB := setL_below hB [.int .i64 S.m, .slice At nt dt, .slice A0 n0 d0, .slice A1 n1 d1] (gO) 0 (by omega)
                    have zs_203 : (setL w201 (gO) 0 [.int .i64 S.m, .slice At nt dt, .slice A0 n0 d0, .slice A1 n1 d1]).heap.size = w201.heap.size := setL_size _ _ _ _
                    replace bO := bO.setAll [.int .i64 S.m, .slice At nt dt, .slice A0 n0 d0, .slice A1 n1 d1] rfl
                    generalize setL w201 _ 0 _ = w203 at *
                    exact ⟨k + 1, j, S, xs, _, _, _, _, _, _, _, _, _, _, _, by omega, by go_num, HR2, HS2, Lib.hid HJ.out, by omega, hB, by omega, bO, bR, ot, os, ow, by omega, by omega, (fun g hg => hu g hg), oK, ho4⟩
                  case measure => simp [intOf]; omega
                · obtain ⟨i, hi_⟩ : ∃ i, i + 1 = S.st.length := ⟨S.st.length - 1, by omega⟩
                  obtain ⟨y, hy⟩ : ∃ y, S.st[i]? = some y := ⟨_, List.getElem?_eq_getElem (show i < S.st.length by omega)⟩
                  have HS2 := Lib.hid (FS.left_good HS.out hz)
                  have HR2 := Lib.hid (show FS.runs (⟨m, st, ls, lw⟩, []) (ops.take (k + 1)) = (S.left, xs) from (FS.runs_pre HO.out).trans (by rw [HR.out]; exact FS.next_left h3 hz))
                  have HY := Lib.hid hy
                  have HII := Lib.hid hi_
                  have HQ := Lib.hid hSp
                  have HT := Lib.hid (Fa.top_at hi_ hy)
                  have HKL := Lib.hid (Fa.lv_end HS.out hi_ hy).1
                  clear h3 hz hvk hSp HV hy hi_
                  have bO_0 := bO.cell (j := 0) rfl
                  have bO_1 := bO.cell (j := 1) rfl
                  have bO_2 := bO.cell (j := 2) rfl
                  have bO_3 := bO.cell (j := 3) rfl
                  have bO_z := bO.frozen
                  have bO_l := bO.lt
                  have bR_0 := bR.cell (j := 0) rfl
                  have bR_1 := bR.cell (j := 1) rfl
                  have bR_2 := bR.cell (j := 2) rfl
                  have bR_3 := bR.cell (j := 3) rfl
                  have bR_z := bR.frozen
                  have bR_l := bR.lt
                  go_wp2_with fail
                  clear bO_0 bO_1 bO_2 bO_3 bO_z bO_l bR_0 bR_1 bR_2 bR_3 bR_z bR_l
                  have huC : ∀ g, u7.ownBlock = some g → g < wr.heap.size := fun g hg => by have := huL g hg; omega
                  refine (specLeave_in S.m _ _ _ S.st S.ls S.lw wr ot.rd os.rd ow.rd (by omega) (by omega) (by omega) (by omega) HQ.out HII.out HY.out HKL.out).mono ?_; rintro q_ w201 ⟨v3, v4, v5, rfl, o3, o4, o5, b_201⟩
                  replace bO := bO.below b_201 bO.lt
                  replace bR := bR.below b_201 bR.lt
                  replace ot := ot.below b_201 (by omega)
                  replace os := os.below b_201 (by omega)
                  replace ow := ow.below b_201 (by omega)
                  replace ho4 := ho4.below b_201 (by omega)
                  replace oK := own_below oK b_201
                  have z_202 := b_201.size
                  replace hB := hB.trans (b_201.mono (by omega))
                  clear b_201
                  rw [← HT.out.2.1] at o3
                  have e4 := HT.out.2.2
                  rw [← e4] at o4 o5
                  clear e4
                  obtain ⟨B3, m3, e3, rfl, _, _, _⟩ := o3.rd.form
                  obtain ⟨B4, m4, e4, rfl, _, _, _⟩ := o4.rd.form
                  obtain ⟨B5, m5, e5, rfl, _, _, _⟩ := o5.rd.form
                  clear ot os ow f0 f1 f2
                  have bO_0 := bO.cell (j := 0) rfl
                  have bO_1 := bO.cell (j := 1) rfl
                  have bO_2 := bO.cell (j := 2) rfl
                  have bO_3 := bO.cell (j := 3) rfl
                  have bO_z := bO.frozen
                  have bO_l := bO.lt
                  have bR_0 := bR.cell (j := 0) rfl
                  have bR_1 := bR.cell (j := 1) rfl
                  have bR_2 := bR.cell (j := 2) rfl
                  have bR_3 := bR.cell (j := 3) rfl
                  have bR_z := bR.frozen
                  have bR_l := bR.lt
                  go_wp2_with fail
                  clear bO_0 bO_1 bO_2 bO_3 bO_z bO_l bR_0 bR_1 bR_2 bR_3 bR_z bR_l
                  go_roundw
                  case rel =>
                    generalize hwz : World.setCell (World.setCell (World.setCell (World.setCell _ _ _) _ _) _ _) _ _ = wz_
                    obtain rfl : wz_ = setL w201 (gO) 0 [.int .i64 S.m, .slice B3 m3 e3, .slice B4 m4 e4, .slice B5 m5 e5] := hwz.symm
                    clear hwz
                    replace bR := bR.other (b := gO) (by omega) 0 [.int .i64 S.m, .slice B3 m3 e3, .slice B4 m4 e4, .slice B5 m5 e5]
                    replace ho4 := ho4.away (g := gO) (by omega) 0 [.int .i64 S.m, .slice B3 m3 e3, .slice B4 m4 e4, .slice B5 m5 e5]
                    replace o3 := o3.box (g := gO) bO (by decide) 0 [.int .i64 S.m, .slice B3 m3 e3, .slice B4 m4 e4, .slice B5 m5 e5]
                    replace o4 := o4.box (g := gO) bO (by decide) 0 [.int .i64 S.m, .slice B3 m3 e3, .slice B4 m4 e4, .slice B5 m5 e5]
                    replace o5 := o5.box (g := gO) bO (by decide) 0 [.int .i64 S.m, .slice B3 m3 e3, .slice B4 m4 e4, .slice B5 m5 e5]
                    replace oK := own_box oK bO (by decide) 0 [.int .i64 S.m, .slice B3 m3 e3, .slice B4 m4 e4, .slice B5 m5 e5]
                    replace hB := setL_below hB [.int .i64 S.m, .slice B3 m3 e3, .slice B4 m4 e4, .slice B5 m5 e5] (gO) 0 (by omega)
                    have zs_203 : (setL w201 (gO) 0 [.int .i64 S.m, .slice B3 m3 e3, .slice B4 m4 e4, .slice B5 m5 e5]).heap.size = w201.heap.size := setL_size _ _ _ _
                    replace bO := bO.setAll [.int .i64 S.m, .slice B3 m3 e3, .slice B4 m4 e4, .slice B5 m5 e5] rfl
                    generalize setL w201 _ 0 _ = w203 at *
                    exact ⟨k + 1, j, S.left, xs, _, _, _, _, _, _, _, _, _, _, _, by omega, by go_num, HR2, HS2, Lib.hid HJ.out, by omega, hB, by omega, bO, bR, o3, o4, o5, by omega, by omega, (fun g hg => by have := huC g hg; omega), oK, ho4⟩
                  case measure => simp [intOf]; omega
              have h4k : o.kind = 4 := by omega
              have hM : inB o.prio 0 16 = true := by rcases hvk with h | h | h <;> simp_all
              have HS2 := Lib.hid (FS.masked_good HS.out hM)
              clear hM
              have HR2 := Lib.hid (show FS.runs (⟨m, st, ls, lw⟩, []) (ops.take (k + 1)) = (S.masked o.prio, xs) from (FS.runs_pre HO.out).trans (by rw [HR.out]; exact FS.next_mask h4k))
              rw [h4k] at f0
              clear h1 h2 h3 h4k hvk hSp HV
              have bO_0 := bO.cell (j := 0) rfl
              have bO_1 := bO.cell (j := 1) rfl
              have bO_2 := bO.cell (j := 2) rfl
              have bO_3 := bO.cell (j := 3) rfl
              have bO_z := bO.frozen
              have bO_l := bO.lt
              have bR_0 := bR.cell (j := 0) rfl
              have bR_1 := bR.cell (j := 1) rfl
              have bR_2 := bR.cell (j := 2) rfl
              have bR_3 := bR.cell (j := 3) rfl
              have bR_z := bR.frozen
              have bR_l := bR.lt
              go_wp2_with fail
              clear bO_0 bO_1 bO_2 bO_3 bO_z bO_l bR_0 bR_1 bR_2 bR_3 bR_z bR_l
              go_roundw
              case rel =>
                generalize hwz : World.setCell _ _ _ = wz_
                obtain rfl : wz_ = setL wr (gO) 0 [.int .i64 o.prio] := hwz.symm
                clear hwz
                replace bR := bR.other (b := gO) (by omega) 0 [.int .i64 o.prio]
                replace ot := ot.box (g := gO) bO (by decide) 0 [.int .i64 o.prio]
                replace os := os.box (g := gO) bO (by decide) 0 [.int .i64 o.prio]
                replace ow := ow.box (g := gO) bO (by decide) 0 [.int .i64 o.prio]
                replace ho4 := ho4.away (g := gO) (by omega) 0 [.int .i64 o.prio]
                replace oK := own_box oK bO (by decide) 0 [.int .i64 o.prio]
                replace hB := setL_below hB [.int .i64 o.prio] (gO) 0 (by omega)
                have zs_201 : (setL wr (gO) 0 [.int .i64 o.prio]).heap.size = wr.heap.size := setL_size _ _ _ _
                replace bO := bO.set1 (j := 0) (.int .i64 o.prio) (by simp)
                generalize setL wr _ 0 _ = w201 at *
                exact ⟨k + 1, j, S.masked o.prio, xs, _, _, _, _, _, _, _, _, _, _, _, by omega, by go_num, HR2, HS2, Lib.hid HJ.out, by omega, hB, by omega, bO, bR, ot, os, ow, by omega, by omega, (fun g hg => hu g hg), oK, ho4⟩
              case measure => simp [intOf]; omega
            · have HE := Lib.hid (show FS.runs (⟨m, st, ls, lw⟩, []) ops = (S, xs) from by rw [← HR.out, List.take_of_length_le (by rw [← H6.out]; omega)])
              have oT := Ow.of_own Nm.cells_len oK rfl HJ.out
              obtain ⟨a9, b9, q1, q2, q3, oT⟩ := oT.narrow hu
              clear oK hu
              obtain ⟨B9, m9, e9, rfl, _, _, _⟩ := oT.rd.form
              have bO_0 := bO.cell (j := 0) rfl
              have bO_1 := bO.cell (j := 1) rfl
              have bO_2 := bO.cell (j := 2) rfl
              have bO_3 := bO.cell (j := 3) rfl
              have bO_z := bO.frozen
              have bO_l := bO.lt
              have bR_0 := bR.cell (j := 0) rfl
              have bR_1 := bR.cell (j := 1) rfl
              have bR_2 := bR.cell (j := 2) rfl
              have bR_3 := bR.cell (j := 3) rfl
              have bR_z := bR.frozen
              have bR_l := bR.lt
              go_wp2_with fail
              clear bO_0 bO_1 bO_2 bO_3 bO_z bO_l bR_0 bR_1 bR_2 bR_3 bR_z bR_l
              generalize hwz : World.setCell (World.setCell (World.setCell (World.setCell _ _ _) _ _) _ _) _ _ = wz_
              obtain rfl : wz_ = setL wr (w.heap.size + 1) 0 [.int .i64 S.m, .slice At nt dt, .slice A0 n0 d0, .slice A1 n1 d1] := hwz.symm
              clear hwz
              replace bO := bO.other (b := w.heap.size + 1) (by omega) 0 [.int .i64 S.m, .slice At nt dt, .slice A0 n0 d0, .slice A1 n1 d1]
              replace ot := ot.box (g := w.heap.size + 1) bR (by decide) 0 [.int .i64 S.m, .slice At nt dt, .slice A0 n0 d0, .slice A1 n1 d1]
              replace os := os.box (g := w.heap.size + 1) bR (by decide) 0 [.int .i64 S.m, .slice At nt dt, .slice A0 n0 d0, .slice A1 n1 d1]
              replace ow := ow.box (g := w.heap.size + 1) bR (by decide) 0 [.int .i64 S.m, .slice At nt dt, .slice A0 n0 d0, .slice A1 n1 d1]
              replace ho4 := ho4.away (g := w.heap.size + 1) (by omega) 0 [.int .i64 S.m, .slice At nt dt, .slice A0 n0 d0, .slice A1 n1 d1]
              replace oT := oT.box (g := w.heap.size + 1) bR (by decide) 0 [.int .i64 S.m, .slice At nt dt, .slice A0 n0 d0, .slice A1 n1 d1]
              replace hB := setL_below hB [.int .i64 S.m, .slice At nt dt, .slice A0 n0 d0, .slice A1 n1 d1] (w.heap.size + 1) 0 (by omega)
              have zs_201 : (setL wr (w.heap.size + 1) 0 [.int .i64 S.m, .slice At nt dt, .slice A0 n0 d0, .slice A1 n1 d1]).heap.size = wr.heap.size := setL_size _ _ _ _
              replace bR := bR.setAll [.int .i64 S.m, .slice At nt dt, .slice A0 n0 d0, .slice A1 n1 d1] rfl
              generalize setL wr _ 0 _ = w201 at *
              have u0_ := bR.cell (j := 0) rfl
              have u1_ := bR.cell (j := 1) rfl
              have u2_ := bR.cell (j := 2) rfl
              have u3_ := bR.cell (j := 3) rfl
              refine bodyPost_ret (by simp only [results, Tryz.results24]; simp [go_sem, u0_, u1_, u2_, u3_]; rfl) rfl ?_
              exact ⟨_, _, _, _, lo', hi', a9, b9, by rw [HF.out.1, HF.out.2.1, HE.out], by rw [HF.out.2.1, HE.out]; exact ot, by rw [HF.out.2.1, HE.out]; exact os, by rw [HF.out.2.1, HE.out]; exact ow, by rw [HF.out.2.2, HE.out]; exact oT, by omega, by omega, by omega, by omega, by omega, hB⟩

end Go.Proofs.YtengaccnncnipaaGreat
