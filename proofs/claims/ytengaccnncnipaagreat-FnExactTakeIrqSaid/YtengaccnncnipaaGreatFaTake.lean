/- Taking the most urgent interrupt of an interface, the inner functions, in the program and in the reference. Conditions: valid slots, the stack's interrupts lie in them; room. -/
import Derived.Test.YtengaccnncnipaaGreatFaPub
import Derived.Test.YtengaccnncnipaaGreatFaOwn
import Derived.Test.YtengaccnncnipaaGreatQuTake
import Derived.Test.YtengaccnncnipaaGreatQuOwn
namespace Go.Proofs.YtengaccnncnipaaGreat
open Go.RowKit Go.ChangeShapes Go.WideShapes Go.Deep

def Fa.tkT (st : List Int) (ls : List Sl) (m : Int) : List Int := if Sl.tkOk ls m then st ++ [Sl.tkI ls] else st
def Fa.tkU (st : List Int) (ls : List Sl) (m : Int) : List Int := if Sl.tkOk ls m then st ++ [Sl.tkI ls] else []
set_option maxHeartbeats 4000000 in
theorem specTakeF_in (m : Int) (vt vs vw : Value) (st : List Int) (ls : List Sl) (lw : List Wt) (w : World) {lo hi lo2 hi2 lo3 hi3 : Nat} (h0 : Rd Nm.cells 1 w lo3 hi3 vt st) (h : Rd Sl.cells 3 w lo hi vs ls) (h2 : Rd Wt.cells 2 w lo2 hi2 vw lw) (hh0 : hi3 ≤ w.heap.size) (hh : hi ≤ w.heap.size) (hh2 : hi2 ≤ w.heap.size) (hgood : Sl.good ls = true) (hix : ∀ i ∈ st, ∃ k : Nat, Sl.ix ls i = k ∧ k < ls.length) (hl : st.length ≤ 1048576) (hl2 : lw.length ≤ 1048576) :
    Calls Tryz.prog 62 #[.agg #[.int .i64 m, vt, vs, vw]] w fun e w' => ∃ v0 v1 v2, e = .returned (.tuple #[.agg #[.int .i64 m, v0, v1, v2], .int .i64 (Sl.tkW ls (minI m (Fa.run st ls)))]) ∧ Ow Nm.cells 1 3 w' w.heap.size w'.heap.size v0 (Fa.tkT st ls (minI m (Fa.run st ls))) ∧ Ow Sl.cells 3 127 w' w.heap.size w'.heap.size v1 (Sl.tkL ls (minI m (Fa.run st ls))) ∧ Ow Wt.cells 2 134 w' w.heap.size w'.heap.size v2 lw ∧ Below w.heap.size w w' := by
  have b0 : Below w.heap.size w ((w.alloc (.cells #[.int .i64 m, vt, vs, vw] 35)).alloc (.cells #[.int .i64 0, .slice none 0 0, .slice none 0 0, .slice none 0 0] 35)) := ((Below.refl w.heap.size w).alloc (Nat.le_refl _) _).alloc (by simp) _
  have z0 : ((w.alloc (.cells #[.int .i64 m, vt, vs, vw] 35)).alloc (.cells #[.int .i64 0, .slice none 0 0, .slice none 0 0, .slice none 0 0] 35)).heap.size = w.heap.size + 2 := by simp
  have bx := Box.new w #[.int .i64 m, vt, vs, vw] 35 rfl
  have bR := Box.new (g := w.heap.size + 1) (w.alloc (.cells #[.int .i64 m, vt, vs, vw] 35)) #[.int .i64 0, .slice none 0 0, .slice none 0 0, .slice none 0 0] 35 (by simp)
  replace bx := bx.below ((Below.refl _ (w.alloc (.cells #[.int .i64 m, vt, vs, vw] 35))).alloc (Nat.le_refl _) (.cells #[.int .i64 0, .slice none 0 0, .slice none 0 0, .slice none 0 0] 35)) bx.lt
  have ht := h0.below b0 hh0
  have hs := h.below b0 hh
  have hw := h2.below b0 hh2
  have hv0_ := h0.form
  have hv_ := h.form
  have hv2_ := h2.form
  clear h0 h h2
  generalize hwA : (w.alloc (.cells #[.int .i64 m, vt, vs, vw] 35)).alloc (.cells #[.int .i64 0, .slice none 0 0, .slice none 0 0, .slice none 0 0] 35) = wA at *
  obtain ⟨At, nt, dt, rfl, _, _, _⟩ := hv0_
  obtain ⟨A0, n0, d0, rfl, _, _, _⟩ := hv_
  obtain ⟨A1, n1, d1, rfl, _, _, _⟩ := hv2_
  have HG := Lib.hid hgood
  have HX := Lib.hid hix
  clear hgood hix
  go_enter Tryz.func62, Tryz.ntmps62
  have bx_0 := bx.cell (j := 0) rfl
  have bx_1 := bx.cell (j := 1) rfl
  have bx_2 := bx.cell (j := 2) rfl
  have bx_3 := bx.cell (j := 3) rfl
  have bx_z := bx.frozen
  have bx_l := bx.lt
  have bR_0 := bR.cell (j := 0) rfl
  have bR_1 := bR.cell (j := 1) rfl
  have bR_2 := bR.cell (j := 2) rfl
  have bR_3 := bR.cell (j := 3) rfl
  have bR_z := bR.frozen
  have bR_l := bR.lt
  go_upto_region 1 with fail
  clear hwA
  clear bx_0 bx_1 bx_2 bx_3 bx_z bx_l bR_0 bR_1 bR_2 bR_3 bR_z bR_l
  go_cut [4, 5] (fun s4 s5 wx => ∃ (ww : World) (gT : Nat) (v1 v2 : Value), ww = wx ∧ s4 = .pointer (some ⟨gT, 0, none⟩) ∧ s5 = .int .i64 (Sl.tkW ls (minI m (Fa.run st ls))) ∧ Below wA.heap.size wA wx ∧ wA.heap.size ≤ gT ∧ Box wx gT 33 [v1, v2] ∧ Ow Sl.cells 3 127 wx wA.heap.size wx.heap.size v1 (Sl.tkL ls (minI m (Fa.run st ls))) ∧ Ow Wt.cells 2 134 wx wA.heap.size wx.heap.size v2 lw)
  case first =>
    have bC := Below.refl wA.heap.size wA
    have zB := b0.size
    refine wp_region_held_drew (S := fun W => Box W (w.heap.size) 35 [.int .i64 m, .slice At nt dt, .slice A0 n0 d0, .slice A1 n1 d1]) (by kernel_rfl) (show (fun (W : World) => Box W (w.heap.size) 35 [.int .i64 m, .slice At nt dt, .slice A0 n0 d0, .slice A1 n1 d1]) wA.drew from bx) (fun hHeld => ?_)
    refine wpAnyH_take (i := 0) (v := .pointer (some ⟨w.heap.size, 2, none⟩)) rfl (by kernel_rfl) (by kernel_rfl) (by kernel_rfl) (fun _ _ _ h => h) (Or.inl ⟨by rfl, by intro w hSw; have hS0 := hSw; have y00 := hS0.cell (j := 0) rfl; have y01 := hS0.cell (j := 1) rfl; have y02 := hS0.cell (j := 2) rfl; have y03 := hS0.cell (j := 3) rfl; go_simp⟩) hHeld ?_
    refine wpAnyH_take (i := 1) (v := .agg #[.slice A0 n0 d0, .slice A1 n1 d1]) rfl (by kernel_rfl) (by kernel_rfl) (by kernel_rfl) (fun _ _ _ h => h) (Or.inl ⟨by rfl, by intro w hSw; have hS0 := hSw; have y00 := hS0.cell (j := 0) rfl; have y01 := hS0.cell (j := 1) rfl; have y02 := hS0.cell (j := 2) rfl; have y03 := hS0.cell (j := 3) rfl; go_simp⟩) hHeld ?_
    refine wpAnyH_take (i := 2) (v := .pointer (some ⟨w.heap.size, 0, none⟩)) rfl (by kernel_rfl) (by kernel_rfl) (by kernel_rfl) (fun _ _ _ h => h) (Or.inl ⟨by rfl, by intro w hSw; have hS0 := hSw; have y00 := hS0.cell (j := 0) rfl; have y01 := hS0.cell (j := 1) rfl; have y02 := hS0.cell (j := 2) rfl; have y03 := hS0.cell (j := 3) rfl; go_simp⟩) hHeld ?_
    refine wpAnyH_take (i := 3) (v := .int .i64 m) rfl (by kernel_rfl) (by kernel_rfl) (by kernel_rfl) (fun _ _ _ h => h) (Or.inl ⟨by rfl, by intro w hSw; have hS0 := hSw; have y00 := hS0.cell (j := 0) rfl; have y01 := hS0.cell (j := 1) rfl; have y02 := hS0.cell (j := 2) rfl; have y03 := hS0.cell (j := 3) rfl; go_simp⟩) hHeld ?_
    refine wpAnyH_take (i := 4) (v := .agg #[.int .i64 m, .slice At nt dt, .slice A0 n0 d0, .slice A1 n1 d1]) rfl (by kernel_rfl) (by kernel_rfl) (by kernel_rfl) (fun _ _ _ h => h) (Or.inl ⟨by rfl, by intro w hSw; have hS0 := hSw; have y00 := hS0.cell (j := 0) rfl; have y01 := hS0.cell (j := 1) rfl; have y02 := hS0.cell (j := 2) rfl; have y03 := hS0.cell (j := 3) rfl; go_simp⟩) hHeld ?_
    clear hHeld
    refine held_gen (F := fun W' => Below wA.heap.size wA W') (Below.refl wA.heap.size wA).drew ?_
    rintro w1 b_1
    replace bx := bx.below b_1 bx.lt
    replace bR := bR.below b_1 bR.lt
    replace ht := ht.below b_1 (by omega)
    replace hs := hs.below b_1 (by omega)
    replace hw := hw.below b_1 (by omega)
    have z_2 := b_1.size
    replace bC := bC.trans (b_1.mono (by omega))
    clear b_1
    refine wpAnyH_ready (rs := [5, 11]) (by kernel_rfl) (by decide) ?_
    refine AllReadyH.cons rfl (fun K3a hK3a => ?_) (AllReadyH.cons rfl (fun K3b hK3b => ?_) AllReadyH.nil)
    · go_simp
      refine (specRunning_in m _ _ _ st ls lw w1 ht hs hw (by omega) (by omega) (by omega) HX.out).mono ?_; rintro q_ w4 ⟨rfl, b_4⟩
      replace bx := bx.below b_4 bx.lt
      replace bR := bR.below b_4 bR.lt
      replace ht := ht.below b_4 (by omega)
      replace hs := hs.below b_4 (by omega)
      replace hw := hw.below b_4 (by omega)
      have z_5 := b_4.size
      replace bC := bC.trans (b_4.mono (by omega))
      clear b_4
      refine hK3a.out _ _ bx (fun _ => ?_)
      refine wpAnyH_ready (rs := [6, 11]) (by kernel_rfl) (by decide) ?_
      refine AllReadyH.cons rfl (fun K6a hK6a => ?_) (AllReadyH.cons rfl (fun K6b hK6b => ?_) AllReadyH.nil)
      · go_simp
        refine (l1Least_any m (Fa.run st ls) w4).mono ?_; rintro q_ w_ ⟨rfl, rfl⟩
        refine hK6a.out _ _ bx (fun _ => ?_)
        refine wpAnyH_ready (rs := [7, 11]) (by kernel_rfl) (by decide) ?_
        refine AllReadyH.cons rfl (fun K7a hK7a => ?_) (AllReadyH.cons rfl (fun K7b hK7b => ?_) AllReadyH.nil)
        · go_simp
          refine (specTakeQ_in _ _ ls lw (minI m (Fa.run st ls)) w4 hs hw (by omega) (by omega) HG.out hl2).mono ?_; rintro q_ w8 ⟨v5, v6, rfl, o5, o6, b_8⟩
          replace bx := bx.below b_8 bx.lt
          replace bR := bR.below b_8 bR.lt
          replace ht := ht.below b_8 (by omega)
          replace hs := hs.below b_8 (by omega)
          replace hw := hw.below b_8 (by omega)
          have z_9 := b_8.size
          replace bC := bC.trans (b_8.mono (by omega))
          clear b_8
          obtain ⟨A5, n5, d5, rfl, _, _, _⟩ := o5.rd.form
          obtain ⟨A6, n6, d6, rfl, _, _, _⟩ := o6.rd.form
          refine hK7a.out _ _ bx (fun _ => ?_)
          have hHeld : (fun (W : World) => Box W (w.heap.size) 35 [.int .i64 m, .slice At nt dt, .slice A0 n0 d0, .slice A1 n1 d1]) w8 := bx
          refine wpAnyH_take (i := 8) (v := .tuple #[.agg #[.slice A5 n5 d5, .slice A6 n6 d6], .int .i64 (Sl.tkW ls (minI m (Fa.run st ls)))]) rfl (by kernel_rfl) (by kernel_rfl) (by kernel_rfl) (fun _ _ _ h => h) (Or.inl ⟨by rfl, by intro w hSw; have hS0 := hSw; have y00 := hS0.cell (j := 0) rfl; have y01 := hS0.cell (j := 1) rfl; have y02 := hS0.cell (j := 2) rfl; have y03 := hS0.cell (j := 3) rfl; go_simp⟩) hHeld ?_
          refine wpAnyH_take (i := 9) (v := .agg #[.slice A5 n5 d5, .slice A6 n6 d6]) rfl (by kernel_rfl) (by kernel_rfl) (by kernel_rfl) (fun _ _ _ h => h) (Or.inl ⟨by rfl, by intro w hSw; have hS0 := hSw; have y00 := hS0.cell (j := 0) rfl; have y01 := hS0.cell (j := 1) rfl; have y02 := hS0.cell (j := 2) rfl; have y03 := hS0.cell (j := 3) rfl; go_simp⟩) hHeld ?_
          refine wpAnyH_take (i := 10) (v := .int .i64 (Sl.tkW ls (minI m (Fa.run st ls)))) rfl (by kernel_rfl) (by kernel_rfl) (by kernel_rfl) (fun _ _ _ h => h) (Or.inl ⟨by rfl, by intro w hSw; have hS0 := hSw; have y00 := hS0.cell (j := 0) rfl; have y01 := hS0.cell (j := 1) rfl; have y02 := hS0.cell (j := 2) rfl; have y03 := hS0.cell (j := 3) rfl; go_simp⟩) hHeld ?_
          clear hHeld
          refine wpAnyH_ready (rs := [11]) (by kernel_rfl) (by decide) ?_
          refine AllReadyH.cons rfl (fun K10 hK10 => ?_) AllReadyH.nil
          go_simp
          have b_11 := (Below.refl w8.heap.size w8).alloc (Nat.le_refl _) (.cells #[.slice none 0 0, .slice none 0 0] 33)
          have bT := Box.new w8 #[.slice none 0 0, .slice none 0 0] 33 rfl
          replace bx := bx.below b_11 bx.lt
          replace bR := bR.below b_11 bR.lt
          replace ht := ht.below b_11 (by omega)
          replace hs := hs.below b_11 (by omega)
          replace hw := hw.below b_11 (by omega)
          replace o5 := o5.below b_11 (by omega)
          replace o6 := o6.below b_11 (by omega)
          have z_12 := b_11.size
          replace bC := bC.trans (b_11.mono (by omega))
          clear b_11
          generalize w8.alloc _ = w11 at *
          generalize w8.heap.size = g11 at *
          refine hK10.out _ _ bx (fun _ => ?_)
          refine wpAnyH_ready (rs := [12]) (by kernel_rfl) (by decide) ?_
          refine AllReadyH.cons rfl (fun K13 hK13 => ?_) AllReadyH.nil
          have bx_0 := bx.cell (j := 0) rfl
          have bx_1 := bx.cell (j := 1) rfl
          have bx_2 := bx.cell (j := 2) rfl
          have bx_3 := bx.cell (j := 3) rfl
          have bx_z := bx.frozen
          have bx_l := bx.lt
          have bR_0 := bR.cell (j := 0) rfl
          have bR_1 := bR.cell (j := 1) rfl
          have bR_2 := bR.cell (j := 2) rfl
          have bR_3 := bR.cell (j := 3) rfl
          have bR_z := bR.frozen
          have bR_l := bR.lt
          have bT_0 := bT.cell (j := 0) rfl
          have bT_1 := bT.cell (j := 1) rfl
          have bT_z := bT.frozen
          have bT_l := bT.lt
          go_simp
          clear bx_0 bx_1 bx_2 bx_3 bx_z bx_l bR_0 bR_1 bR_2 bR_3 bR_z bR_l bT_0 bT_1 bT_z bT_l
          generalize hwz : World.setCell (World.setCell _ _ _) _ _ = wz_
          obtain rfl : wz_ = setL w11 (g11) 0 [.slice A5 n5 d5, .slice A6 n6 d6] := hwz.symm
          clear hwz
          replace bx := bx.other (b := g11) (by omega) 0 [.slice A5 n5 d5, .slice A6 n6 d6]
          replace bR := bR.other (b := g11) (by omega) 0 [.slice A5 n5 d5, .slice A6 n6 d6]
          replace ht := ht.away (g := g11) (by omega) 0 [.slice A5 n5 d5, .slice A6 n6 d6]
          replace hs := hs.away (g := g11) (by omega) 0 [.slice A5 n5 d5, .slice A6 n6 d6]
          replace hw := hw.away (g := g11) (by omega) 0 [.slice A5 n5 d5, .slice A6 n6 d6]
          replace o5 := o5.box (g := g11) bT (by decide) 0 [.slice A5 n5 d5, .slice A6 n6 d6]
          replace o6 := o6.box (g := g11) bT (by decide) 0 [.slice A5 n5 d5, .slice A6 n6 d6]
          replace bC := setL_below bC [.slice A5 n5 d5, .slice A6 n6 d6] (g11) 0 (by omega)
          have zs_14 : (setL w11 (g11) 0 [.slice A5 n5 d5, .slice A6 n6 d6]).heap.size = w11.heap.size := setL_size _ _ _ _
          replace bT := bT.setAll [.slice A5 n5 d5, .slice A6 n6 d6] rfl
          generalize setL w11 _ 0 _ = w14 at *
          refine hK13.out _ _ bx (fun _ => ?_)
          refine wpAnyH_ready (rs := [13]) (by kernel_rfl) (by decide) ?_
          refine AllReadyH.cons rfl (fun K15 hK15 => ?_) AllReadyH.nil
          go_simp
          refine hK15.out _ _ bx (fun _ => ?_)
          refine ⟨by kernel_rfl, ?_⟩
          have bx_0 := bx.cell (j := 0) rfl
          have bx_1 := bx.cell (j := 1) rfl
          have bx_2 := bx.cell (j := 2) rfl
          have bx_3 := bx.cell (j := 3) rfl
          have bx_z := bx.frozen
          have bx_l := bx.lt
          have bR_0 := bR.cell (j := 0) rfl
          have bR_1 := bR.cell (j := 1) rfl
          have bR_2 := bR.cell (j := 2) rfl
          have bR_3 := bR.cell (j := 3) rfl
          have bR_z := bR.frozen
          have bR_l := bR.lt
          have bT_0 := bT.cell (j := 0) rfl
          have bT_1 := bT.cell (j := 1) rfl
          have bT_z := bT.frozen
          have bT_l := bT.lt
          go_wp2_with fail
          clear bx_0 bx_1 bx_2 bx_3 bx_z bx_l bR_0 bR_1 bR_2 bR_3 bR_z bR_l bT_0 bT_1 bT_z bT_l
          go_meet
          exact ⟨_, _, _, _, rfl, rfl, rfl, bC, by omega, bT, o5.mono (by omega) (by omega), o6.mono (by omega) (by omega)⟩
        · go_simp
          have b_8 := (Below.refl w4.heap.size w4).alloc (Nat.le_refl _) (.cells #[.slice none 0 0, .slice none 0 0] 33)
          have bT := Box.new w4 #[.slice none 0 0, .slice none 0 0] 33 rfl
          replace bx := bx.below b_8 bx.lt
          replace bR := bR.below b_8 bR.lt
          replace ht := ht.below b_8 (by omega)
          replace hs := hs.below b_8 (by omega)
          replace hw := hw.below b_8 (by omega)
          have z_9 := b_8.size
          replace bC := bC.trans (b_8.mono (by omega))
          clear b_8
          generalize w4.alloc _ = w8 at *
          generalize w4.heap.size = g8 at *
          refine hK7b.out _ _ bx (fun _ => ?_)
          refine wpAnyH_ready (rs := [7]) (by kernel_rfl) (by decide) ?_
          refine AllReadyH.cons rfl (fun K10 hK10 => ?_) AllReadyH.nil
          go_simp
          refine (specTakeQ_in _ _ ls lw (minI m (Fa.run st ls)) w8 hs hw (by omega) (by omega) HG.out hl2).mono ?_; rintro q_ w11 ⟨v5, v6, rfl, o5, o6, b_11⟩
          replace bx := bx.below b_11 bx.lt
          replace bR := bR.below b_11 bR.lt
          replace bT := bT.below b_11 bT.lt
          replace ht := ht.below b_11 (by omega)
          replace hs := hs.below b_11 (by omega)
          replace hw := hw.below b_11 (by omega)
          have z_12 := b_11.size
          replace bC := bC.trans (b_11.mono (by omega))
          clear b_11
          obtain ⟨A5, n5, d5, rfl, _, _, _⟩ := o5.rd.form
          obtain ⟨A6, n6, d6, rfl, _, _, _⟩ := o6.rd.form
          refine hK10.out _ _ bx (fun _ => ?_)
          have hHeld : (fun (W : World) => Box W (w.heap.size) 35 [.int .i64 m, .slice At nt dt, .slice A0 n0 d0, .slice A1 n1 d1]) w11 := bx
          refine wpAnyH_take (i := 8) (v := .tuple #[.agg #[.slice A5 n5 d5, .slice A6 n6 d6], .int .i64 (Sl.tkW ls (minI m (Fa.run st ls)))]) rfl (by kernel_rfl) (by kernel_rfl) (by kernel_rfl) (fun _ _ _ h => h) (Or.inl ⟨by rfl, by intro w hSw; have hS0 := hSw; have y00 := hS0.cell (j := 0) rfl; have y01 := hS0.cell (j := 1) rfl; have y02 := hS0.cell (j := 2) rfl; have y03 := hS0.cell (j := 3) rfl; go_simp⟩) hHeld ?_
          refine wpAnyH_take (i := 9) (v := .agg #[.slice A5 n5 d5, .slice A6 n6 d6]) rfl (by kernel_rfl) (by kernel_rfl) (by kernel_rfl) (fun _ _ _ h => h) (Or.inl ⟨by rfl, by intro w hSw; have hS0 := hSw; have y00 := hS0.cell (j := 0) rfl; have y01 := hS0.cell (j := 1) rfl; have y02 := hS0.cell (j := 2) rfl; have y03 := hS0.cell (j := 3) rfl; go_simp⟩) hHeld ?_
          refine wpAnyH_take (i := 10) (v := .int .i64 (Sl.tkW ls (minI m (Fa.run st ls)))) rfl (by kernel_rfl) (by kernel_rfl) (by kernel_rfl) (fun _ _ _ h => h) (Or.inl ⟨by rfl, by intro w hSw; have hS0 := hSw; have y00 := hS0.cell (j := 0) rfl; have y01 := hS0.cell (j := 1) rfl; have y02 := hS0.cell (j := 2) rfl; have y03 := hS0.cell (j := 3) rfl; go_simp⟩) hHeld ?_
          clear hHeld
          refine wpAnyH_ready (rs := [12]) (by kernel_rfl) (by decide) ?_
          refine AllReadyH.cons rfl (fun K13 hK13 => ?_) AllReadyH.nil
          have bx_0 := bx.cell (j := 0) rfl
          have bx_1 := bx.cell (j := 1) rfl
          have bx_2 := bx.cell (j := 2) rfl
          have bx_3 := bx.cell (j := 3) rfl
          have bx_z := bx.frozen
          have bx_l := bx.lt
          have bR_0 := bR.cell (j := 0) rfl
          have bR_1 := bR.cell (j := 1) rfl
          have bR_2 := bR.cell (j := 2) rfl
          have bR_3 := bR.cell (j := 3) rfl
          have bR_z := bR.frozen
          have bR_l := bR.lt
          have bT_0 := bT.cell (j := 0) rfl
          have bT_1 := bT.cell (j := 1) rfl
          have bT_z := bT.frozen
          have bT_l := bT.lt
          go_simp
          clear bx_0 bx_1 bx_2 bx_3 bx_z bx_l bR_0 bR_1 bR_2 bR_3 bR_z bR_l bT_0 bT_1 bT_z bT_l
          generalize hwz : World.setCell (World.setCell _ _ _) _ _ = wz_
          obtain rfl : wz_ = setL w11 (g8) 0 [.slice A5 n5 d5, .slice A6 n6 d6] := hwz.symm
          clear hwz
          replace bx := bx.other (b := g8) (by omega) 0 [.slice A5 n5 d5, .slice A6 n6 d6]
          replace bR := bR.other (b := g8) (by omega) 0 [.slice A5 n5 d5, .slice A6 n6 d6]
          replace ht := ht.away (g := g8) (by omega) 0 [.slice A5 n5 d5, .slice A6 n6 d6]
          replace hs := hs.away (g := g8) (by omega) 0 [.slice A5 n5 d5, .slice A6 n6 d6]
          replace hw := hw.away (g := g8) (by omega) 0 [.slice A5 n5 d5, .slice A6 n6 d6]
          replace o5 := o5.box (g := g8) bT (by decide) 0 [.slice A5 n5 d5, .slice A6 n6 d6]
          replace o6 := o6.box (g := g8) bT (by decide) 0 [.slice A5 n5 d5, .slice A6 n6 d6]
          replace bC := setL_below bC [.slice A5 n5 d5, .slice A6 n6 d6] (g8) 0 (by omega)
          have zs_14 : (setL w11 (g8) 0 [.slice A5 n5 d5, .slice A6 n6 d6]).heap.size = w11.heap.size := setL_size _ _ _ _
          replace bT := bT.setAll [.slice A5 n5 d5, .slice A6 n6 d6] rfl
          generalize setL w11 _ 0 _ = w14 at *
          refine hK13.out _ _ bx (fun _ => ?_)
          refine wpAnyH_ready (rs := [13]) (by kernel_rfl) (by decide) ?_
          refine AllReadyH.cons rfl (fun K15 hK15 => ?_) AllReadyH.nil
          go_simp
          refine hK15.out _ _ bx (fun _ => ?_)
          refine ⟨by kernel_rfl, ?_⟩
          have bx_0 := bx.cell (j := 0) rfl
          have bx_1 := bx.cell (j := 1) rfl
          have bx_2 := bx.cell (j := 2) rfl
          have bx_3 := bx.cell (j := 3) rfl
          have bx_z := bx.frozen
          have bx_l := bx.lt
          have bR_0 := bR.cell (j := 0) rfl
          have bR_1 := bR.cell (j := 1) rfl
          have bR_2 := bR.cell (j := 2) rfl
          have bR_3 := bR.cell (j := 3) rfl
          have bR_z := bR.frozen
          have bR_l := bR.lt
          have bT_0 := bT.cell (j := 0) rfl
          have bT_1 := bT.cell (j := 1) rfl
          have bT_z := bT.frozen
          have bT_l := bT.lt
          go_wp2_with fail
          clear bx_0 bx_1 bx_2 bx_3 bx_z bx_l bR_0 bR_1 bR_2 bR_3 bR_z bR_l bT_0 bT_1 bT_z bT_l
          go_meet
          exact ⟨_, _, _, _, rfl, rfl, rfl, bC, by omega, bT, o5.mono (by omega) (by omega), o6.mono (by omega) (by omega)⟩
      · go_simp
        have b_7 := (Below.refl w4.heap.size w4).alloc (Nat.le_refl _) (.cells #[.slice none 0 0, .slice none 0 0] 33)
        have bT := Box.new w4 #[.slice none 0 0, .slice none 0 0] 33 rfl
        replace bx := bx.below b_7 bx.lt
        replace bR := bR.below b_7 bR.lt
        replace ht := ht.below b_7 (by omega)
        replace hs := hs.below b_7 (by omega)
        replace hw := hw.below b_7 (by omega)
        have z_8 := b_7.size
        replace bC := bC.trans (b_7.mono (by omega))
        clear b_7
        generalize w4.alloc _ = w7 at *
        generalize w4.heap.size = g7 at *
        refine hK6b.out _ _ bx (fun _ => ?_)
        refine wpAnyH_ready (rs := [6]) (by kernel_rfl) (by decide) ?_
        refine AllReadyH.cons rfl (fun K9 hK9 => ?_) AllReadyH.nil
        go_simp
        refine (l1Least_any m (Fa.run st ls) w7).mono ?_; rintro q_ w_ ⟨rfl, rfl⟩
        refine hK9.out _ _ bx (fun _ => ?_)
        refine wpAnyH_ready (rs := [7]) (by kernel_rfl) (by decide) ?_
        refine AllReadyH.cons rfl (fun K10 hK10 => ?_) AllReadyH.nil
        go_simp
        refine (specTakeQ_in _ _ ls lw (minI m (Fa.run st ls)) w7 hs hw (by omega) (by omega) HG.out hl2).mono ?_; rintro q_ w11 ⟨v5, v6, rfl, o5, o6, b_11⟩
        replace bx := bx.below b_11 bx.lt
        replace bR := bR.below b_11 bR.lt
        replace bT := bT.below b_11 bT.lt
        replace ht := ht.below b_11 (by omega)
        replace hs := hs.below b_11 (by omega)
        replace hw := hw.below b_11 (by omega)
        have z_12 := b_11.size
        replace bC := bC.trans (b_11.mono (by omega))
        clear b_11
        obtain ⟨A5, n5, d5, rfl, _, _, _⟩ := o5.rd.form
        obtain ⟨A6, n6, d6, rfl, _, _, _⟩ := o6.rd.form
        refine hK10.out _ _ bx (fun _ => ?_)
        have hHeld : (fun (W : World) => Box W (w.heap.size) 35 [.int .i64 m, .slice At nt dt, .slice A0 n0 d0, .slice A1 n1 d1]) w11 := bx
        refine wpAnyH_take (i := 8) (v := .tuple #[.agg #[.slice A5 n5 d5, .slice A6 n6 d6], .int .i64 (Sl.tkW ls (minI m (Fa.run st ls)))]) rfl (by kernel_rfl) (by kernel_rfl) (by kernel_rfl) (fun _ _ _ h => h) (Or.inl ⟨by rfl, by intro w hSw; have hS0 := hSw; have y00 := hS0.cell (j := 0) rfl; have y01 := hS0.cell (j := 1) rfl; have y02 := hS0.cell (j := 2) rfl; have y03 := hS0.cell (j := 3) rfl; go_simp⟩) hHeld ?_
        refine wpAnyH_take (i := 9) (v := .agg #[.slice A5 n5 d5, .slice A6 n6 d6]) rfl (by kernel_rfl) (by kernel_rfl) (by kernel_rfl) (fun _ _ _ h => h) (Or.inl ⟨by rfl, by intro w hSw; have hS0 := hSw; have y00 := hS0.cell (j := 0) rfl; have y01 := hS0.cell (j := 1) rfl; have y02 := hS0.cell (j := 2) rfl; have y03 := hS0.cell (j := 3) rfl; go_simp⟩) hHeld ?_
        refine wpAnyH_take (i := 10) (v := .int .i64 (Sl.tkW ls (minI m (Fa.run st ls)))) rfl (by kernel_rfl) (by kernel_rfl) (by kernel_rfl) (fun _ _ _ h => h) (Or.inl ⟨by rfl, by intro w hSw; have hS0 := hSw; have y00 := hS0.cell (j := 0) rfl; have y01 := hS0.cell (j := 1) rfl; have y02 := hS0.cell (j := 2) rfl; have y03 := hS0.cell (j := 3) rfl; go_simp⟩) hHeld ?_
        clear hHeld
        refine wpAnyH_ready (rs := [12]) (by kernel_rfl) (by decide) ?_
        refine AllReadyH.cons rfl (fun K13 hK13 => ?_) AllReadyH.nil
        have bx_0 := bx.cell (j := 0) rfl
        have bx_1 := bx.cell (j := 1) rfl
        have bx_2 := bx.cell (j := 2) rfl
        have bx_3 := bx.cell (j := 3) rfl
        have bx_z := bx.frozen
        have bx_l := bx.lt
        have bR_0 := bR.cell (j := 0) rfl
        have bR_1 := bR.cell (j := 1) rfl
        have bR_2 := bR.cell (j := 2) rfl
        have bR_3 := bR.cell (j := 3) rfl
        have bR_z := bR.frozen
        have bR_l := bR.lt
        have bT_0 := bT.cell (j := 0) rfl
        have bT_1 := bT.cell (j := 1) rfl
        have bT_z := bT.frozen
        have bT_l := bT.lt
        go_simp
        clear bx_0 bx_1 bx_2 bx_3 bx_z bx_l bR_0 bR_1 bR_2 bR_3 bR_z bR_l bT_0 bT_1 bT_z bT_l
        generalize hwz : World.setCell (World.setCell _ _ _) _ _ = wz_
        obtain rfl : wz_ = setL w11 (g7) 0 [.slice A5 n5 d5, .slice A6 n6 d6] := hwz.symm
        clear hwz
        replace bx := bx.other (b := g7) (by omega) 0 [.slice A5 n5 d5, .slice A6 n6 d6]
        replace bR := bR.other (b := g7) (by omega) 0 [.slice A5 n5 d5, .slice A6 n6 d6]
        replace ht := ht.away (g := g7) (by omega) 0 [.slice A5 n5 d5, .slice A6 n6 d6]
        replace hs := hs.away (g := g7) (by omega) 0 [.slice A5 n5 d5, .slice A6 n6 d6]
        replace hw := hw.away (g := g7) (by omega) 0 [.slice A5 n5 d5, .slice A6 n6 d6]
        replace o5 := o5.box (g := g7) bT (by decide) 0 [.slice A5 n5 d5, .slice A6 n6 d6]
        replace o6 := o6.box (g := g7) bT (by decide) 0 [.slice A5 n5 d5, .slice A6 n6 d6]
        replace bC := setL_below bC [.slice A5 n5 d5, .slice A6 n6 d6] (g7) 0 (by omega)
        have zs_14 : (setL w11 (g7) 0 [.slice A5 n5 d5, .slice A6 n6 d6]).heap.size = w11.heap.size := setL_size _ _ _ _
        replace bT := bT.setAll [.slice A5 n5 d5, .slice A6 n6 d6] rfl
        generalize setL w11 _ 0 _ = w14 at *
        refine hK13.out _ _ bx (fun _ => ?_)
        refine wpAnyH_ready (rs := [13]) (by kernel_rfl) (by decide) ?_
        refine AllReadyH.cons rfl (fun K15 hK15 => ?_) AllReadyH.nil
        go_simp
        refine hK15.out _ _ bx (fun _ => ?_)
        refine ⟨by kernel_rfl, ?_⟩
        have bx_0 := bx.cell (j := 0) rfl
        have bx_1 := bx.cell (j := 1) rfl
        have bx_2 := bx.cell (j := 2) rfl
        have bx_3 := bx.cell (j := 3) rfl
        have bx_z := bx.frozen
        have bx_l := bx.lt
        have bR_0 := bR.cell (j := 0) rfl
        have bR_1 := bR.cell (j := 1) rfl
        have bR_2 := bR.cell (j := 2) rfl
        have bR_3 := bR.cell (j := 3) rfl
        have bR_z := bR.frozen
        have bR_l := bR.lt
        have bT_0 := bT.cell (j := 0) rfl
        have bT_1 := bT.cell (j := 1) rfl
        have bT_z := bT.frozen
        have bT_l := bT.lt
        go_wp2_with fail
        clear bx_0 bx_1 bx_2 bx_3 bx_z bx_l bR_0 bR_1 bR_2 bR_3 bR_z bR_l bT_0 bT_1 bT_z bT_l
        go_meet
        exact ⟨_, _, _, _, rfl, rfl, rfl, bC, by omega, bT, o5.mono (by omega) (by omega), o6.mono (by omega) (by omega)⟩
    · go_simp
      have b_4 := (Below.refl w1.heap.size w1).alloc (Nat.le_refl _) (.cells #[.slice none 0 0, .slice none 0 0] 33)
      have bT := Box.new w1 #[.slice none 0 0, .slice none 0 0] 33 rfl
      replace bx := bx.below b_4 bx.lt
      replace bR := bR.below b_4 bR.lt
      replace ht := ht.below b_4 (by omega)
      replace hs := hs.below b_4 (by omega)
      replace hw := hw.below b_4 (by omega)
      have z_5 := b_4.size
      replace bC := bC.trans (b_4.mono (by omega))
      clear b_4
      generalize w1.alloc _ = w4 at *
      generalize w1.heap.size = g4 at *
      refine hK3b.out _ _ bx (fun _ => ?_)
      refine wpAnyH_ready (rs := [5]) (by kernel_rfl) (by decide) ?_
      refine AllReadyH.cons rfl (fun K6 hK6 => ?_) AllReadyH.nil
      go_simp
      refine (specRunning_in m _ _ _ st ls lw w4 ht hs hw (by omega) (by omega) (by omega) HX.out).mono ?_; rintro q_ w7 ⟨rfl, b_7⟩
      replace bx := bx.below b_7 bx.lt
      replace bR := bR.below b_7 bR.lt
      replace bT := bT.below b_7 bT.lt
      replace ht := ht.below b_7 (by omega)
      replace hs := hs.below b_7 (by omega)
      replace hw := hw.below b_7 (by omega)
      have z_8 := b_7.size
      replace bC := bC.trans (b_7.mono (by omega))
      clear b_7
      refine hK6.out _ _ bx (fun _ => ?_)
      refine wpAnyH_ready (rs := [6]) (by kernel_rfl) (by decide) ?_
      refine AllReadyH.cons rfl (fun K9 hK9 => ?_) AllReadyH.nil
      go_simp
      refine (l1Least_any m (Fa.run st ls) w7).mono ?_; rintro q_ w_ ⟨rfl, rfl⟩
      refine hK9.out _ _ bx (fun _ => ?_)
      refine wpAnyH_ready (rs := [7]) (by kernel_rfl) (by decide) ?_
      refine AllReadyH.cons rfl (fun K10 hK10 => ?_) AllReadyH.nil
      go_simp
      refine (specTakeQ_in _ _ ls lw (minI m (Fa.run st ls)) w7 hs hw (by omega) (by omega) HG.out hl2).mono ?_; rintro q_ w11 ⟨v5, v6, rfl, o5, o6, b_11⟩
      replace bx := bx.below b_11 bx.lt
      replace bR := bR.below b_11 bR.lt
      replace bT := bT.below b_11 bT.lt
      replace ht := ht.below b_11 (by omega)
      replace hs := hs.below b_11 (by omega)
      replace hw := hw.below b_11 (by omega)
      have z_12 := b_11.size
      replace bC := bC.trans (b_11.mono (by omega))
      clear b_11
      obtain ⟨A5, n5, d5, rfl, _, _, _⟩ := o5.rd.form
      obtain ⟨A6, n6, d6, rfl, _, _, _⟩ := o6.rd.form
      refine hK10.out _ _ bx (fun _ => ?_)
      have hHeld : (fun (W : World) => Box W (w.heap.size) 35 [.int .i64 m, .slice At nt dt, .slice A0 n0 d0, .slice A1 n1 d1]) w11 := bx
      refine wpAnyH_take (i := 8) (v := .tuple #[.agg #[.slice A5 n5 d5, .slice A6 n6 d6], .int .i64 (Sl.tkW ls (minI m (Fa.run st ls)))]) rfl (by kernel_rfl) (by kernel_rfl) (by kernel_rfl) (fun _ _ _ h => h) (Or.inl ⟨by rfl, by intro w hSw; have hS0 := hSw; have y00 := hS0.cell (j := 0) rfl; have y01 := hS0.cell (j := 1) rfl; have y02 := hS0.cell (j := 2) rfl; have y03 := hS0.cell (j := 3) rfl; go_simp⟩) hHeld ?_
      refine wpAnyH_take (i := 9) (v := .agg #[.slice A5 n5 d5, .slice A6 n6 d6]) rfl (by kernel_rfl) (by kernel_rfl) (by kernel_rfl) (fun _ _ _ h => h) (Or.inl ⟨by rfl, by intro w hSw; have hS0 := hSw; have y00 := hS0.cell (j := 0) rfl; have y01 := hS0.cell (j := 1) rfl; have y02 := hS0.cell (j := 2) rfl; have y03 := hS0.cell (j := 3) rfl; go_simp⟩) hHeld ?_
      refine wpAnyH_take (i := 10) (v := .int .i64 (Sl.tkW ls (minI m (Fa.run st ls)))) rfl (by kernel_rfl) (by kernel_rfl) (by kernel_rfl) (fun _ _ _ h => h) (Or.inl ⟨by rfl, by intro w hSw; have hS0 := hSw; have y00 := hS0.cell (j := 0) rfl; have y01 := hS0.cell (j := 1) rfl; have y02 := hS0.cell (j := 2) rfl; have y03 := hS0.cell (j := 3) rfl; go_simp⟩) hHeld ?_
      clear hHeld
      refine wpAnyH_ready (rs := [12]) (by kernel_rfl) (by decide) ?_
      refine AllReadyH.cons rfl (fun K13 hK13 => ?_) AllReadyH.nil
      have bx_0 := bx.cell (j := 0) rfl
      have bx_1 := bx.cell (j := 1) rfl
      have bx_2 := bx.cell (j := 2) rfl
      have bx_3 := bx.cell (j := 3) rfl
      have bx_z := bx.frozen
      have bx_l := bx.lt
      have bR_0 := bR.cell (j := 0) rfl
      have bR_1 := bR.cell (j := 1) rfl
      have bR_2 := bR.cell (j := 2) rfl
      have bR_3 := bR.cell (j := 3) rfl
      have bR_z := bR.frozen
      have bR_l := bR.lt
      have bT_0 := bT.cell (j := 0) rfl
      have bT_1 := bT.cell (j := 1) rfl
      have bT_z := bT.frozen
      have bT_l := bT.lt
      go_simp
      clear bx_0 bx_1 bx_2 bx_3 bx_z bx_l bR_0 bR_1 bR_2 bR_3 bR_z bR_l bT_0 bT_1 bT_z bT_l
      generalize hwz : World.setCell (World.setCell _ _ _) _ _ = wz_
      obtain rfl : wz_ = setL w11 (g4) 0 [.slice A5 n5 d5, .slice A6 n6 d6] := hwz.symm
      clear hwz
      replace bx := bx.other (b := g4) (by omega) 0 [.slice A5 n5 d5, .slice A6 n6 d6]
      replace bR := bR.other (b := g4) (by omega) 0 [.slice A5 n5 d5, .slice A6 n6 d6]
      replace ht := ht.away (g := g4) (by omega) 0 [.slice A5 n5 d5, .slice A6 n6 d6]
      replace hs := hs.away (g := g4) (by omega) 0 [.slice A5 n5 d5, .slice A6 n6 d6]
      replace hw := hw.away (g := g4) (by omega) 0 [.slice A5 n5 d5, .slice A6 n6 d6]
      replace o5 := o5.box (g := g4) bT (by decide) 0 [.slice A5 n5 d5, .slice A6 n6 d6]
      replace o6 := o6.box (g := g4) bT (by decide) 0 [.slice A5 n5 d5, .slice A6 n6 d6]
      replace bC := setL_below bC [.slice A5 n5 d5, .slice A6 n6 d6] (g4) 0 (by omega)
      have zs_14 : (setL w11 (g4) 0 [.slice A5 n5 d5, .slice A6 n6 d6]).heap.size = w11.heap.size := setL_size _ _ _ _
      replace bT := bT.setAll [.slice A5 n5 d5, .slice A6 n6 d6] rfl
      generalize setL w11 _ 0 _ = w14 at *
      refine hK13.out _ _ bx (fun _ => ?_)
      refine wpAnyH_ready (rs := [13]) (by kernel_rfl) (by decide) ?_
      refine AllReadyH.cons rfl (fun K15 hK15 => ?_) AllReadyH.nil
      go_simp
      refine hK15.out _ _ bx (fun _ => ?_)
      refine ⟨by kernel_rfl, ?_⟩
      have bx_0 := bx.cell (j := 0) rfl
      have bx_1 := bx.cell (j := 1) rfl
      have bx_2 := bx.cell (j := 2) rfl
      have bx_3 := bx.cell (j := 3) rfl
      have bx_z := bx.frozen
      have bx_l := bx.lt
      have bR_0 := bR.cell (j := 0) rfl
      have bR_1 := bR.cell (j := 1) rfl
      have bR_2 := bR.cell (j := 2) rfl
      have bR_3 := bR.cell (j := 3) rfl
      have bR_z := bR.frozen
      have bR_l := bR.lt
      have bT_0 := bT.cell (j := 0) rfl
      have bT_1 := bT.cell (j := 1) rfl
      have bT_z := bT.frozen
      have bT_l := bT.lt
      go_wp2_with fail
      clear bx_0 bx_1 bx_2 bx_3 bx_z bx_l bR_0 bR_1 bR_2 bR_3 bR_z bR_l bT_0 bT_1 bT_z bT_l
      go_meet
      exact ⟨_, _, _, _, rfl, rfl, rfl, bC, by omega, bT, o5.mono (by omega) (by omega), o6.mono (by omega) (by omega)⟩
  case rest =>
    obtain ⟨wx, gT, v1, v2, rfl, rfl, rfl, bC, zT, bT, o5, o6⟩ := hcut
    replace bx := bx.below bC bx.lt
    replace bR := bR.below bC bR.lt
    replace ht := ht.below bC (by omega)
    replace hs := hs.below bC (by omega)
    replace hw := hw.below bC (by omega)
    have z_51 := bC.size
    replace b0 := b0.trans (bC.mono (by omega))
    clear bC
    obtain ⟨A5, n5, d5, rfl, _, _, _⟩ := o5.rd.form
    obtain ⟨A6, n6, d6, rfl, _, _, _⟩ := o6.rd.form
    have zTl := bT.lt
    have bx_0 := bx.cell (j := 0) rfl
    have bx_1 := bx.cell (j := 1) rfl
    have bx_2 := bx.cell (j := 2) rfl
    have bx_3 := bx.cell (j := 3) rfl
    have bx_z := bx.frozen
    have bx_l := bx.lt
    have bR_0 := bR.cell (j := 0) rfl
    have bR_1 := bR.cell (j := 1) rfl
    have bR_2 := bR.cell (j := 2) rfl
    have bR_3 := bR.cell (j := 3) rfl
    have bR_z := bR.frozen
    have bR_l := bR.lt
    have bT_0 := bT.cell (j := 0) rfl
    have bT_1 := bT.cell (j := 1) rfl
    have bT_z := bT.frozen
    have bT_l := bT.lt
    go_upto_region 2 with fail
    clear bx_0 bx_1 bx_2 bx_3 bx_z bx_l bR_0 bR_1 bR_2 bR_3 bR_z bR_l bT_0 bT_1 bT_z bT_l
    go_cut [6] (fun s6 wy => ∃ (ww : World) (gO : Nat) (v3 : Value), ww = wy ∧ s6 = .pointer (some ⟨gO, 0, none⟩) ∧ Below wx.heap.size wx wy ∧ wx.heap.size ≤ gO ∧ Box wy gO 35 [.int .i64 m, v3, .slice A5 n5 d5, .slice A6 n6 d6] ∧ wy.ownsRow wx.heap.size 3 1 v3 st.length (st.flatMap Nm.cells))
    case first =>
        have bD := Below.refl wx.heap.size wx
        have zB2 := b0.size
        refine wp_region_held_drew (S := fun W => Box W (w.heap.size) 35 [.int .i64 m, .slice At nt dt, .slice A0 n0 d0, .slice A1 n1 d1] ∧ Box W (gT) 33 [.slice A5 n5 d5, .slice A6 n6 d6]) (by kernel_rfl) (show (fun (W : World) => Box W (w.heap.size) 35 [.int .i64 m, .slice At nt dt, .slice A0 n0 d0, .slice A1 n1 d1] ∧ Box W (gT) 33 [.slice A5 n5 d5, .slice A6 n6 d6]) wx.drew from ⟨bx, bT⟩) (fun hHeld => ?_)
        refine wpAnyH_take (i := 0) (v := .pointer (some ⟨w.heap.size, 0, none⟩)) rfl (by kernel_rfl) (by kernel_rfl) (by kernel_rfl) (fun _ _ _ h => h) (Or.inl ⟨by rfl, by intro w hSw; obtain ⟨hS0, hS1⟩ := hSw; have y00 := hS0.cell (j := 0) rfl; have y01 := hS0.cell (j := 1) rfl; have y02 := hS0.cell (j := 2) rfl; have y03 := hS0.cell (j := 3) rfl; have y10 := hS1.cell (j := 0) rfl; have y11 := hS1.cell (j := 1) rfl; go_simp⟩) hHeld ?_
        refine wpAnyH_take (i := 1) (v := .int .i64 m) rfl (by kernel_rfl) (by kernel_rfl) (by kernel_rfl) (fun _ _ _ h => h) (Or.inl ⟨by rfl, by intro w hSw; obtain ⟨hS0, hS1⟩ := hSw; have y00 := hS0.cell (j := 0) rfl; have y01 := hS0.cell (j := 1) rfl; have y02 := hS0.cell (j := 2) rfl; have y03 := hS0.cell (j := 3) rfl; have y10 := hS1.cell (j := 0) rfl; have y11 := hS1.cell (j := 1) rfl; go_simp⟩) hHeld ?_
        refine wpAnyH_take (i := 2) (v := .pointer (some ⟨w.heap.size, 1, none⟩)) rfl (by kernel_rfl) (by kernel_rfl) (by kernel_rfl) (fun _ _ _ h => h) (Or.inl ⟨by rfl, by intro w hSw; obtain ⟨hS0, hS1⟩ := hSw; have y00 := hS0.cell (j := 0) rfl; have y01 := hS0.cell (j := 1) rfl; have y02 := hS0.cell (j := 2) rfl; have y03 := hS0.cell (j := 3) rfl; have y10 := hS1.cell (j := 0) rfl; have y11 := hS1.cell (j := 1) rfl; go_simp⟩) hHeld ?_
        refine wpAnyH_take (i := 3) (v := .slice At nt dt) rfl (by kernel_rfl) (by kernel_rfl) (by kernel_rfl) (fun _ _ _ h => h) (Or.inl ⟨by rfl, by intro w hSw; obtain ⟨hS0, hS1⟩ := hSw; have y00 := hS0.cell (j := 0) rfl; have y01 := hS0.cell (j := 1) rfl; have y02 := hS0.cell (j := 2) rfl; have y03 := hS0.cell (j := 3) rfl; have y10 := hS1.cell (j := 0) rfl; have y11 := hS1.cell (j := 1) rfl; go_simp⟩) hHeld ?_
        refine wpAnyH_take (i := 5) (v := .agg #[.slice A5 n5 d5, .slice A6 n6 d6]) rfl (by kernel_rfl) (by kernel_rfl) (by kernel_rfl) (fun _ _ _ h => h) (Or.inl ⟨by rfl, by intro w hSw; obtain ⟨hS0, hS1⟩ := hSw; have y00 := hS0.cell (j := 0) rfl; have y01 := hS0.cell (j := 1) rfl; have y02 := hS0.cell (j := 2) rfl; have y03 := hS0.cell (j := 3) rfl; have y10 := hS1.cell (j := 0) rfl; have y11 := hS1.cell (j := 1) rfl; go_simp⟩) hHeld ?_
        clear hHeld
        refine held_gen (F := fun W' => Below wx.heap.size wx W') (Below.refl wx.heap.size wx).drew ?_
        rintro w52 b_52
        replace bx := bx.below b_52 bx.lt
        replace bR := bR.below b_52 bR.lt
        replace bT := bT.below b_52 bT.lt
        replace ht := ht.below b_52 (by omega)
        replace hs := hs.below b_52 (by omega)
        replace hw := hw.below b_52 (by omega)
        replace o5 := o5.below b_52 (by omega)
        replace o6 := o6.below b_52 (by omega)
        have z_53 := b_52.size
        replace bD := bD.trans (b_52.mono (by omega))
        clear b_52
        refine wpAnyH_ready (rs := [4, 7]) (by kernel_rfl) (by decide) ?_
        refine AllReadyH.cons rfl (fun K54a hK54a => ?_) (AllReadyH.cons rfl (fun K54b hK54b => ?_) AllReadyH.nil)
        · go_simp
          refine (l1Own_own wx.heap.size _ st w52 ht (by omega) (by omega) hl).mono ?_; rintro q_ w55 ⟨v3, rfl, o3, b_55⟩
          replace bx := bx.below b_55 bx.lt
          replace bR := bR.below b_55 bR.lt
          replace bT := bT.below b_55 bT.lt
          replace ht := ht.below b_55 (by omega)
          replace hs := hs.below b_55 (by omega)
          replace hw := hw.below b_55 (by omega)
          replace o5 := o5.below b_55 (by omega)
          replace o6 := o6.below b_55 (by omega)
          have z_56 := b_55.size
          replace bD := bD.trans (b_55.mono (by omega))
          clear b_55
          obtain ⟨A3, n3, d3, rfl, _, _, _⟩ := (Ow.of_own Nm.cells_len o3 rfl rfl).rd.form
          refine hK54a.out _ _ ⟨bx, bT⟩ (fun _ => ?_)
          have hHeld : (fun (W : World) => Box W (w.heap.size) 35 [.int .i64 m, .slice At nt dt, .slice A0 n0 d0, .slice A1 n1 d1] ∧ Box W (gT) 33 [.slice A5 n5 d5, .slice A6 n6 d6]) w55 := ⟨bx, bT⟩
          refine wpAnyH_take (i := 6) (v := .agg #[.int .i64 m, .slice A3 n3 d3, .slice A5 n5 d5, .slice A6 n6 d6]) rfl (by kernel_rfl) (by kernel_rfl) (by kernel_rfl) (fun _ _ _ h => h) (Or.inl ⟨by rfl, by intro w hSw; obtain ⟨hS0, hS1⟩ := hSw; have y00 := hS0.cell (j := 0) rfl; have y01 := hS0.cell (j := 1) rfl; have y02 := hS0.cell (j := 2) rfl; have y03 := hS0.cell (j := 3) rfl; have y10 := hS1.cell (j := 0) rfl; have y11 := hS1.cell (j := 1) rfl; go_simp⟩) hHeld ?_
          clear hHeld
          refine wpAnyH_ready (rs := [7]) (by kernel_rfl) (by decide) ?_
          refine AllReadyH.cons rfl (fun K57 hK57 => ?_) AllReadyH.nil
          go_simp
          have b_58 := (Below.refl w55.heap.size w55).alloc (Nat.le_refl _) (.cells #[.int .i64 0, .slice none 0 0, .slice none 0 0, .slice none 0 0] 35)
          have bO := Box.new w55 #[.int .i64 0, .slice none 0 0, .slice none 0 0, .slice none 0 0] 35 rfl
          replace bx := bx.below b_58 bx.lt
          replace bR := bR.below b_58 bR.lt
          replace bT := bT.below b_58 bT.lt
          replace ht := ht.below b_58 (by omega)
          replace hs := hs.below b_58 (by omega)
          replace hw := hw.below b_58 (by omega)
          replace o5 := o5.below b_58 (by omega)
          replace o6 := o6.below b_58 (by omega)
          replace o3 := own_below o3 b_58
          have z_59 := b_58.size
          replace bD := bD.trans (b_58.mono (by omega))
          clear b_58
          generalize w55.alloc _ = w58 at *
          generalize w55.heap.size = g58 at *
          refine hK57.out _ _ ⟨bx, bT⟩ (fun _ => ?_)
          refine wpAnyH_ready (rs := [8]) (by kernel_rfl) (by decide) ?_
          refine AllReadyH.cons rfl (fun K60 hK60 => ?_) AllReadyH.nil
          have bx_0 := bx.cell (j := 0) rfl
          have bx_1 := bx.cell (j := 1) rfl
          have bx_2 := bx.cell (j := 2) rfl
          have bx_3 := bx.cell (j := 3) rfl
          have bx_z := bx.frozen
          have bx_l := bx.lt
          have bR_0 := bR.cell (j := 0) rfl
          have bR_1 := bR.cell (j := 1) rfl
          have bR_2 := bR.cell (j := 2) rfl
          have bR_3 := bR.cell (j := 3) rfl
          have bR_z := bR.frozen
          have bR_l := bR.lt
          have bT_0 := bT.cell (j := 0) rfl
          have bT_1 := bT.cell (j := 1) rfl
          have bT_z := bT.frozen
          have bT_l := bT.lt
          have bO_0 := bO.cell (j := 0) rfl
          have bO_1 := bO.cell (j := 1) rfl
          have bO_2 := bO.cell (j := 2) rfl
          have bO_3 := bO.cell (j := 3) rfl
          have bO_z := bO.frozen
          have bO_l := bO.lt
          go_simp
          clear bx_0 bx_1 bx_2 bx_3 bx_z bx_l bR_0 bR_1 bR_2 bR_3 bR_z bR_l bT_0 bT_1 bT_z bT_l bO_0 bO_1 bO_2 bO_3 bO_z bO_l
          generalize hwz : World.setCell (World.setCell (World.setCell (World.setCell _ _ _) _ _) _ _) _ _ = wz_
          obtain rfl : wz_ = setL w58 (g58) 0 [.int .i64 m, .slice A3 n3 d3, .slice A5 n5 d5, .slice A6 n6 d6] := hwz.symm
          clear hwz
          replace bx := bx.other (b := g58) (by omega) 0 [.int .i64 m, .slice A3 n3 d3, .slice A5 n5 d5, .slice A6 n6 d6]
          replace bR := bR.other (b := g58) (by omega) 0 [.int .i64 m, .slice A3 n3 d3, .slice A5 n5 d5, .slice A6 n6 d6]
          replace bT := bT.other (b := g58) (by omega) 0 [.int .i64 m, .slice A3 n3 d3, .slice A5 n5 d5, .slice A6 n6 d6]
          replace ht := ht.away (g := g58) (by omega) 0 [.int .i64 m, .slice A3 n3 d3, .slice A5 n5 d5, .slice A6 n6 d6]
          replace hs := hs.away (g := g58) (by omega) 0 [.int .i64 m, .slice A3 n3 d3, .slice A5 n5 d5, .slice A6 n6 d6]
          replace hw := hw.away (g := g58) (by omega) 0 [.int .i64 m, .slice A3 n3 d3, .slice A5 n5 d5, .slice A6 n6 d6]
          replace o5 := o5.box (g := g58) bO (by decide) 0 [.int .i64 m, .slice A3 n3 d3, .slice A5 n5 d5, .slice A6 n6 d6]
          replace o6 := o6.box (g := g58) bO (by decide) 0 [.int .i64 m, .slice A3 n3 d3, .slice A5 n5 d5, .slice A6 n6 d6]
          replace o3 := own_box o3 bO (by decide) 0 [.int .i64 m, .slice A3 n3 d3, .slice A5 n5 d5, .slice A6 n6 d6]
          replace bD := setL_below bD [.int .i64 m, .slice A3 n3 d3, .slice A5 n5 d5, .slice A6 n6 d6] (g58) 0 (by omega)
          have zs_61 : (setL w58 (g58) 0 [.int .i64 m, .slice A3 n3 d3, .slice A5 n5 d5, .slice A6 n6 d6]).heap.size = w58.heap.size := setL_size _ _ _ _
          replace bO := bO.setAll [.int .i64 m, .slice A3 n3 d3, .slice A5 n5 d5, .slice A6 n6 d6] rfl
          generalize setL w58 _ 0 _ = w61 at *
          refine hK60.out _ _ ⟨bx, bT⟩ (fun _ => ?_)
          refine ⟨by kernel_rfl, ?_⟩
          have bx_0 := bx.cell (j := 0) rfl
          have bx_1 := bx.cell (j := 1) rfl
          have bx_2 := bx.cell (j := 2) rfl
          have bx_3 := bx.cell (j := 3) rfl
          have bx_z := bx.frozen
          have bx_l := bx.lt
          have bR_0 := bR.cell (j := 0) rfl
          have bR_1 := bR.cell (j := 1) rfl
          have bR_2 := bR.cell (j := 2) rfl
          have bR_3 := bR.cell (j := 3) rfl
          have bR_z := bR.frozen
          have bR_l := bR.lt
          have bT_0 := bT.cell (j := 0) rfl
          have bT_1 := bT.cell (j := 1) rfl
          have bT_z := bT.frozen
          have bT_l := bT.lt
          have bO_0 := bO.cell (j := 0) rfl
          have bO_1 := bO.cell (j := 1) rfl
          have bO_2 := bO.cell (j := 2) rfl
          have bO_3 := bO.cell (j := 3) rfl
          have bO_z := bO.frozen
          have bO_l := bO.lt
          go_wp2_with fail
          clear bx_0 bx_1 bx_2 bx_3 bx_z bx_l bR_0 bR_1 bR_2 bR_3 bR_z bR_l bT_0 bT_1 bT_z bT_l bO_0 bO_1 bO_2 bO_3 bO_z bO_l
          go_meet
          exact ⟨_, _, _, rfl, rfl, bD, by omega, bO, o3⟩
        · go_simp
          have b_55 := (Below.refl w52.heap.size w52).alloc (Nat.le_refl _) (.cells #[.int .i64 0, .slice none 0 0, .slice none 0 0, .slice none 0 0] 35)
          have bO := Box.new w52 #[.int .i64 0, .slice none 0 0, .slice none 0 0, .slice none 0 0] 35 rfl
          replace bx := bx.below b_55 bx.lt
          replace bR := bR.below b_55 bR.lt
          replace bT := bT.below b_55 bT.lt
          replace ht := ht.below b_55 (by omega)
          replace hs := hs.below b_55 (by omega)
          replace hw := hw.below b_55 (by omega)
          replace o5 := o5.below b_55 (by omega)
          replace o6 := o6.below b_55 (by omega)
          have z_56 := b_55.size
          replace bD := bD.trans (b_55.mono (by omega))
          clear b_55
          generalize w52.alloc _ = w55 at *
          generalize w52.heap.size = g55 at *
          refine hK54b.out _ _ ⟨bx, bT⟩ (fun _ => ?_)
          refine wpAnyH_ready (rs := [4]) (by kernel_rfl) (by decide) ?_
          refine AllReadyH.cons rfl (fun K57 hK57 => ?_) AllReadyH.nil
          go_simp
          refine (l1Own_own wx.heap.size _ st w55 ht (by omega) (by omega) hl).mono ?_; rintro q_ w58 ⟨v3, rfl, o3, b_58⟩
          replace bx := bx.below b_58 bx.lt
          replace bR := bR.below b_58 bR.lt
          replace bT := bT.below b_58 bT.lt
          replace bO := bO.below b_58 bO.lt
          replace ht := ht.below b_58 (by omega)
          replace hs := hs.below b_58 (by omega)
          replace hw := hw.below b_58 (by omega)
          replace o5 := o5.below b_58 (by omega)
          replace o6 := o6.below b_58 (by omega)
          have z_59 := b_58.size
          replace bD := bD.trans (b_58.mono (by omega))
          clear b_58
          obtain ⟨A3, n3, d3, rfl, _, _, _⟩ := (Ow.of_own Nm.cells_len o3 rfl rfl).rd.form
          refine hK57.out _ _ ⟨bx, bT⟩ (fun _ => ?_)
          have hHeld : (fun (W : World) => Box W (w.heap.size) 35 [.int .i64 m, .slice At nt dt, .slice A0 n0 d0, .slice A1 n1 d1] ∧ Box W (gT) 33 [.slice A5 n5 d5, .slice A6 n6 d6]) w58 := ⟨bx, bT⟩
          refine wpAnyH_take (i := 6) (v := .agg #[.int .i64 m, .slice A3 n3 d3, .slice A5 n5 d5, .slice A6 n6 d6]) rfl (by kernel_rfl) (by kernel_rfl) (by kernel_rfl) (fun _ _ _ h => h) (Or.inl ⟨by rfl, by intro w hSw; obtain ⟨hS0, hS1⟩ := hSw; have y00 := hS0.cell (j := 0) rfl; have y01 := hS0.cell (j := 1) rfl; have y02 := hS0.cell (j := 2) rfl; have y03 := hS0.cell (j := 3) rfl; have y10 := hS1.cell (j := 0) rfl; have y11 := hS1.cell (j := 1) rfl; go_simp⟩) hHeld ?_
          clear hHeld
          refine wpAnyH_ready (rs := [8]) (by kernel_rfl) (by decide) ?_
          refine AllReadyH.cons rfl (fun K60 hK60 => ?_) AllReadyH.nil
          have bx_0 := bx.cell (j := 0) rfl
          have bx_1 := bx.cell (j := 1) rfl
          have bx_2 := bx.cell (j := 2) rfl
          have bx_3 := bx.cell (j := 3) rfl
          have bx_z := bx.frozen
          have bx_l := bx.lt
          have bR_0 := bR.cell (j := 0) rfl
          have bR_1 := bR.cell (j := 1) rfl
          have bR_2 := bR.cell (j := 2) rfl
          have bR_3 := bR.cell (j := 3) rfl
          have bR_z := bR.frozen
          have bR_l := bR.lt
          have bT_0 := bT.cell (j := 0) rfl
          have bT_1 := bT.cell (j := 1) rfl
          have bT_z := bT.frozen
          have bT_l := bT.lt
          have bO_0 := bO.cell (j := 0) rfl
          have bO_1 := bO.cell (j := 1) rfl
          have bO_2 := bO.cell (j := 2) rfl
          have bO_3 := bO.cell (j := 3) rfl
          have bO_z := bO.frozen
          have bO_l := bO.lt
          go_simp
          clear bx_0 bx_1 bx_2 bx_3 bx_z bx_l bR_0 bR_1 bR_2 bR_3 bR_z bR_l bT_0 bT_1 bT_z bT_l bO_0 bO_1 bO_2 bO_3 bO_z bO_l
          generalize hwz : World.setCell (World.setCell (World.setCell (World.setCell _ _ _) _ _) _ _) _ _ = wz_
          obtain rfl : wz_ = setL w58 (g55) 0 [.int .i64 m, .slice A3 n3 d3, .slice A5 n5 d5, .slice A6 n6 d6] := hwz.symm
          clear hwz
          replace bx := bx.other (b := g55) (by omega) 0 [.int .i64 m, .slice A3 n3 d3, .slice A5 n5 d5, .slice A6 n6 d6]
          replace bR := bR.other (b := g55) (by omega) 0 [.int .i64 m, .slice A3 n3 d3, .slice A5 n5 d5, .slice A6 n6 d6]
          replace bT := bT.other (b := g55) (by omega) 0 [.int .i64 m, .slice A3 n3 d3, .slice A5 n5 d5, .slice A6 n6 d6]
          replace ht := ht.away (g := g55) (by omega) 0 [.int .i64 m, .slice A3 n3 d3, .slice A5 n5 d5, .slice A6 n6 d6]
          replace hs := hs.away (g := g55) (by omega) 0 [.int .i64 m, .slice A3 n3 d3, .slice A5 n5 d5, .slice A6 n6 d6]
          replace hw := hw.away (g := g55) (by omega) 0 [.int .i64 m, .slice A3 n3 d3, .slice A5 n5 d5, .slice A6 n6 d6]
          replace o5 := o5.box (g := g55) bO (by decide) 0 [.int .i64 m, .slice A3 n3 d3, .slice A5 n5 d5, .slice A6 n6 d6]
          replace o6 := o6.box (g := g55) bO (by decide) 0 [.int .i64 m, .slice A3 n3 d3, .slice A5 n5 d5, .slice A6 n6 d6]
          replace o3 := own_box o3 bO (by decide) 0 [.int .i64 m, .slice A3 n3 d3, .slice A5 n5 d5, .slice A6 n6 d6]
          replace bD := setL_below bD [.int .i64 m, .slice A3 n3 d3, .slice A5 n5 d5, .slice A6 n6 d6] (g55) 0 (by omega)
          have zs_61 : (setL w58 (g55) 0 [.int .i64 m, .slice A3 n3 d3, .slice A5 n5 d5, .slice A6 n6 d6]).heap.size = w58.heap.size := setL_size _ _ _ _
          replace bO := bO.setAll [.int .i64 m, .slice A3 n3 d3, .slice A5 n5 d5, .slice A6 n6 d6] rfl
          generalize setL w58 _ 0 _ = w61 at *
          refine hK60.out _ _ ⟨bx, bT⟩ (fun _ => ?_)
          refine ⟨by kernel_rfl, ?_⟩
          have bx_0 := bx.cell (j := 0) rfl
          have bx_1 := bx.cell (j := 1) rfl
          have bx_2 := bx.cell (j := 2) rfl
          have bx_3 := bx.cell (j := 3) rfl
          have bx_z := bx.frozen
          have bx_l := bx.lt
          have bR_0 := bR.cell (j := 0) rfl
          have bR_1 := bR.cell (j := 1) rfl
          have bR_2 := bR.cell (j := 2) rfl
          have bR_3 := bR.cell (j := 3) rfl
          have bR_z := bR.frozen
          have bR_l := bR.lt
          have bT_0 := bT.cell (j := 0) rfl
          have bT_1 := bT.cell (j := 1) rfl
          have bT_z := bT.frozen
          have bT_l := bT.lt
          have bO_0 := bO.cell (j := 0) rfl
          have bO_1 := bO.cell (j := 1) rfl
          have bO_2 := bO.cell (j := 2) rfl
          have bO_3 := bO.cell (j := 3) rfl
          have bO_z := bO.frozen
          have bO_l := bO.lt
          go_wp2_with fail
          clear bx_0 bx_1 bx_2 bx_3 bx_z bx_l bR_0 bR_1 bR_2 bR_3 bR_z bR_l bT_0 bT_1 bT_z bT_l bO_0 bO_1 bO_2 bO_3 bO_z bO_l
          go_meet
          exact ⟨_, _, _, rfl, rfl, bD, by omega, bO, o3⟩
    case rest =>
        obtain ⟨wy, gO, v3, rfl, rfl, bD, zO, bO, o3⟩ := hcut
        replace bx := bx.below bD bx.lt
        replace bR := bR.below bD bR.lt
        replace bT := bT.below bD bT.lt
        replace ht := ht.below bD (by omega)
        replace hs := hs.below bD (by omega)
        replace hw := hw.below bD (by omega)
        replace o5 := o5.below bD (by omega)
        replace o6 := o6.below bD (by omega)
        have z_101 := bD.size
        replace b0 := b0.trans (bD.mono (by omega))
        clear bD
        obtain ⟨A3, n3, d3, rfl, _, _, _⟩ := (Ow.of_own Nm.cells_len o3 rfl rfl).rd.form
        have zOl := bO.lt
        cases hk : Sl.tkOk ls (minI m (Fa.run st ls))
        · have HF := Lib.hid (show Fa.tkT st ls (minI m (Fa.run st ls)) = st from by simp [Fa.tkT, hk])
          have hd : decide (0 ≤ Sl.tkW ls (minI m (Fa.run st ls))) = false := by simp [Sl.tkW, hk]
          clear hk
          have oT := Ow.of_own Nm.cells_len o3 (l := st) rfl rfl
          have bx_0 := bx.cell (j := 0) rfl
          have bx_1 := bx.cell (j := 1) rfl
          have bx_2 := bx.cell (j := 2) rfl
          have bx_3 := bx.cell (j := 3) rfl
          have bx_z := bx.frozen
          have bx_l := bx.lt
          have bR_0 := bR.cell (j := 0) rfl
          have bR_1 := bR.cell (j := 1) rfl
          have bR_2 := bR.cell (j := 2) rfl
          have bR_3 := bR.cell (j := 3) rfl
          have bR_z := bR.frozen
          have bR_l := bR.lt
          have bT_0 := bT.cell (j := 0) rfl
          have bT_1 := bT.cell (j := 1) rfl
          have bT_z := bT.frozen
          have bT_l := bT.lt
          have bO_0 := bO.cell (j := 0) rfl
          have bO_1 := bO.cell (j := 1) rfl
          have bO_2 := bO.cell (j := 2) rfl
          have bO_3 := bO.cell (j := 3) rfl
          have bO_z := bO.frozen
          have bO_l := bO.lt
          go_wp2_with fail
          clear bx_0 bx_1 bx_2 bx_3 bx_z bx_l bR_0 bR_1 bR_2 bR_3 bR_z bR_l bT_0 bT_1 bT_z bT_l bO_0 bO_1 bO_2 bO_3 bO_z bO_l
          generalize hwz : World.setCell (World.setCell (World.setCell (World.setCell _ _ _) _ _) _ _) _ _ = wz_
          obtain rfl : wz_ = setL wy (w.heap.size + 1) 0 [.int .i64 m, .slice A3 n3 d3, .slice A5 n5 d5, .slice A6 n6 d6] := hwz.symm
          clear hwz
          replace bx := bx.other (b := w.heap.size + 1) (by omega) 0 [.int .i64 m, .slice A3 n3 d3, .slice A5 n5 d5, .slice A6 n6 d6]
          replace bT := bT.other (b := w.heap.size + 1) (by omega) 0 [.int .i64 m, .slice A3 n3 d3, .slice A5 n5 d5, .slice A6 n6 d6]
          replace bO := bO.other (b := w.heap.size + 1) (by omega) 0 [.int .i64 m, .slice A3 n3 d3, .slice A5 n5 d5, .slice A6 n6 d6]
          replace ht := ht.away (g := w.heap.size + 1) (by omega) 0 [.int .i64 m, .slice A3 n3 d3, .slice A5 n5 d5, .slice A6 n6 d6]
          replace hs := hs.away (g := w.heap.size + 1) (by omega) 0 [.int .i64 m, .slice A3 n3 d3, .slice A5 n5 d5, .slice A6 n6 d6]
          replace hw := hw.away (g := w.heap.size + 1) (by omega) 0 [.int .i64 m, .slice A3 n3 d3, .slice A5 n5 d5, .slice A6 n6 d6]
          replace o5 := o5.box (g := w.heap.size + 1) bR (by decide) 0 [.int .i64 m, .slice A3 n3 d3, .slice A5 n5 d5, .slice A6 n6 d6]
          replace o6 := o6.box (g := w.heap.size + 1) bR (by decide) 0 [.int .i64 m, .slice A3 n3 d3, .slice A5 n5 d5, .slice A6 n6 d6]
          replace oT := oT.box (g := w.heap.size + 1) bR (by decide) 0 [.int .i64 m, .slice A3 n3 d3, .slice A5 n5 d5, .slice A6 n6 d6]
          replace b0 := setL_below b0 [.int .i64 m, .slice A3 n3 d3, .slice A5 n5 d5, .slice A6 n6 d6] (w.heap.size + 1) 0 (by omega)
          have zs_102 : (setL wy (w.heap.size + 1) 0 [.int .i64 m, .slice A3 n3 d3, .slice A5 n5 d5, .slice A6 n6 d6]).heap.size = wy.heap.size := setL_size _ _ _ _
          replace bR := bR.setAll [.int .i64 m, .slice A3 n3 d3, .slice A5 n5 d5, .slice A6 n6 d6] rfl
          generalize setL wy _ 0 _ = w102 at *
          have u0_ := bR.cell (j := 0) rfl
          have u1_ := bR.cell (j := 1) rfl
          have u2_ := bR.cell (j := 2) rfl
          have u3_ := bR.cell (j := 3) rfl
          refine bodyPost_ret (by simp only [results, Tryz.results62]; simp [go_sem, u0_, u1_, u2_, u3_]; rfl) rfl ?_
          exact ⟨_, _, _, rfl, by rw [HF.out]; exact oT.mono (by omega) (by omega), o5.mono (by omega) (by omega), o6.mono (by omega) (by omega), b0⟩
        · have HF := Lib.hid (show Fa.tkT st ls (minI m (Fa.run st ls)) = st ++ [Sl.tkW ls (minI m (Fa.run st ls))] from by simp [Fa.tkT, Sl.tkW, hk])
          have hd : decide (0 ≤ Sl.tkW ls (minI m (Fa.run st ls))) = true := decide_eq_true (by have := Sl.tk_irq HG.out hk; simpa [Sl.tkW, hk] using this)
          clear hk
          have bL := (Below.refl wy.heap.size wy).alloc (Nat.le_refl _) (.cells #[.int .i64 (Sl.tkW ls (minI m (Fa.run st ls)))] 3)
          have zL : (wy.alloc (.cells #[.int .i64 (Sl.tkW ls (minI m (Fa.run st ls)))] 3)).heap.size = wy.heap.size + 1 := by simp
          have o3L := o3.alloc (.cells #[.int .i64 (Sl.tkW ls (minI m (Fa.run st ls)))] 3)
          have bOL := bO.below bL bO.lt
          have bRL := bR.below bL bR.lt
          have o5L := o5.below bL (by omega)
          have o6L := o6.below bL (by omega)
          have b0L := b0.trans (bL.mono (by omega))
          have bx_0 := bx.cell (j := 0) rfl
          have bx_1 := bx.cell (j := 1) rfl
          have bx_2 := bx.cell (j := 2) rfl
          have bx_3 := bx.cell (j := 3) rfl
          have bx_z := bx.frozen
          have bx_l := bx.lt
          have bR_0 := bR.cell (j := 0) rfl
          have bR_1 := bR.cell (j := 1) rfl
          have bR_2 := bR.cell (j := 2) rfl
          have bR_3 := bR.cell (j := 3) rfl
          have bR_z := bR.frozen
          have bR_l := bR.lt
          have bT_0 := bT.cell (j := 0) rfl
          have bT_1 := bT.cell (j := 1) rfl
          have bT_z := bT.frozen
          have bT_l := bT.lt
          have bO_0 := bO.cell (j := 0) rfl
          have bO_1 := bO.cell (j := 1) rfl
          have bO_2 := bO.cell (j := 2) rfl
          have bO_3 := bO.cell (j := 3) rfl
          have bO_z := bO.frozen
          have bO_l := bO.lt
          go_upto_region 5 with (at_builtin; (refine Nm.app_one rfl _ _ rfl wx.heap.size _ st.length _ rfl o3L (g := wy.heap.size) (c := 1) (Sl.tkW ls (minI m (Fa.run st ls))) rfl ?hc0 (by omega) (by omega) ?_); (rotate_left); (intro v4 w4 o4 g4); (have oT := Ow.of_own Nm.cells_len o4 (l := st ++ [(Sl.tkW ls (minI m (Fa.run st ls)))]) (by simp) (by simp)); (obtain ⟨A4, n4, d4, rfl, _, _, _⟩ := oT.rd.form); (replace bO := bOL.grown_own o3L g4 (by decide)); (replace bR := bRL.grown_own o3L g4 (by decide)); (replace o5 := o5L.grown_own o3L g4 (by decide)); (replace o6 := o6L.grown_own o3L g4 (by decide)); (have z4 := g4.size); (replace b0 := b0L.grown g4 (by omega) (fun j hj => by have := own_ge o3L j hj; omega)); (clear bO_0 bO_1 bO_2 bO_3 bO_z bR_0 bR_1 bR_2 bR_3 bR_z bx_0 bx_1 bx_2 bx_3 bx_z bx_l bx bT_0 bT_1 bT_z bT_l bT bO_l bR_l o3 o3L bOL bRL o5L o6L b0L ht hs hw bL g4 o4); (have bO_0 := bO.cell (j := 0) rfl); (have bO_1 := bO.cell (j := 1) rfl); (have bO_2 := bO.cell (j := 2) rfl); (have bO_3 := bO.cell (j := 3) rfl); (have bO_z := bO.frozen))
          case hc0 => intro j u hu; simpa [Nm.cells] using hu
          clear bO_0 bO_1 bO_2 bO_3 bO_z
          generalize hwz : World.setCell _ _ _ = wz_
          obtain rfl : wz_ = setL w4 (gO) 1 [.slice A4 n4 d4] := hwz.symm
          clear hwz
          replace bR := bR.other (b := gO) (by omega) 1 [.slice A4 n4 d4]
          replace o5 := o5.box (g := gO) bO (by decide) 1 [.slice A4 n4 d4]
          replace o6 := o6.box (g := gO) bO (by decide) 1 [.slice A4 n4 d4]
          replace oT := oT.box (g := gO) bO (by decide) 1 [.slice A4 n4 d4]
          replace b0 := setL_below b0 [.slice A4 n4 d4] (gO) 1 (by omega)
          have zs_102 : (setL w4 (gO) 1 [.slice A4 n4 d4]).heap.size = w4.heap.size := setL_size _ _ _ _
          replace bO := bO.set1 (j := 1) (.slice A4 n4 d4) (by simp)
          generalize setL w4 _ 1 _ = w102 at *
          have bR_0 := bR.cell (j := 0) rfl
          have bR_1 := bR.cell (j := 1) rfl
          have bR_2 := bR.cell (j := 2) rfl
          have bR_3 := bR.cell (j := 3) rfl
          have bR_z := bR.frozen
          have bR_l := bR.lt
          have bO_0 := bO.cell (j := 0) rfl
          have bO_1 := bO.cell (j := 1) rfl
          have bO_2 := bO.cell (j := 2) rfl
          have bO_3 := bO.cell (j := 3) rfl
          have bO_z := bO.frozen
          have bO_l := bO.lt
          go_wp2_with fail
          clear bR_0 bR_1 bR_2 bR_3 bR_z bR_l bO_0 bO_1 bO_2 bO_3 bO_z bO_l
          generalize hwz : World.setCell (World.setCell (World.setCell (World.setCell _ _ _) _ _) _ _) _ _ = wz_
          obtain rfl : wz_ = setL w102 (w.heap.size + 1) 0 [.int .i64 m, .slice A4 n4 d4, .slice A5 n5 d5, .slice A6 n6 d6] := hwz.symm
          clear hwz
          replace bO := bO.other (b := w.heap.size + 1) (by omega) 0 [.int .i64 m, .slice A4 n4 d4, .slice A5 n5 d5, .slice A6 n6 d6]
          replace o5 := o5.box (g := w.heap.size + 1) bR (by decide) 0 [.int .i64 m, .slice A4 n4 d4, .slice A5 n5 d5, .slice A6 n6 d6]
          replace o6 := o6.box (g := w.heap.size + 1) bR (by decide) 0 [.int .i64 m, .slice A4 n4 d4, .slice A5 n5 d5, .slice A6 n6 d6]
          replace oT := oT.box (g := w.heap.size + 1) bR (by decide) 0 [.int .i64 m, .slice A4 n4 d4, .slice A5 n5 d5, .slice A6 n6 d6]
          replace b0 := setL_below b0 [.int .i64 m, .slice A4 n4 d4, .slice A5 n5 d5, .slice A6 n6 d6] (w.heap.size + 1) 0 (by omega)
          have zs_103 : (setL w102 (w.heap.size + 1) 0 [.int .i64 m, .slice A4 n4 d4, .slice A5 n5 d5, .slice A6 n6 d6]).heap.size = w102.heap.size := setL_size _ _ _ _
          replace bR := bR.setAll [.int .i64 m, .slice A4 n4 d4, .slice A5 n5 d5, .slice A6 n6 d6] rfl
          generalize setL w102 _ 0 _ = w103 at *
          have u0_ := bR.cell (j := 0) rfl
          have u1_ := bR.cell (j := 1) rfl
          have u2_ := bR.cell (j := 2) rfl
          have u3_ := bR.cell (j := 3) rfl
          refine bodyPost_ret (by simp only [results, Tryz.results62]; simp [go_sem, u0_, u1_, u2_, u3_]; rfl) rfl ?_
          exact ⟨_, _, _, rfl, by rw [HF.out]; exact oT.mono (by omega) (by omega), o5.mono (by omega) (by omega), o6.mono (by omega) (by omega), b0⟩

end Go.Proofs.YtengaccnncnipaaGreat
