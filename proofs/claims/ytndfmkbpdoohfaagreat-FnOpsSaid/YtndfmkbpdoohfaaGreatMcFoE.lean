/- Lemmas and walks that the last text of this claim leans on, part 5. No condition. -/
import Derived.Test.YtndfmkbpdoohfaaGreatMcFoD
/- Taking the most urgent interrupt of an interface, the inner function of the program. Conditions: valid slots, the stack's interrupts lie in them; room. -/
namespace Go.Proofs.YtndfmkbpdoohfaaGreat
open Go.RowKit Go.ChangeShapes Go.WideShapes Go.Deep

def Fa.tkM (m : Int) (ls : List Sl) (l : Int) : Int := if Sl.tkOk ls l then m else 0
/-- one number appended to an own row, in a region that draws its order -/
theorem Nm.appK {w : World} {o : Oper} {a : Act} {K : Act → World → Prop} {Q : Exit → Act → World → Prop} (hgd : o.guard = none) (s x : Operand)
  (ho : o.op = .call { callee := .builtin .append, args := #[s, x], argTypes := #[24, 24] }) (base : Nat)
  (v : Value) (n : Nat) (xs : List Value) (hs : a.eval s = v) (hown : w.ownsRow base 3 1 v n xs) {g : Nat} (y : Int) (hx : a.eval x = .slice (some ⟨g, 0, none⟩) 1 1) (hr : w.cell? ⟨g, 0, none⟩ = some (.int .i64 y))
  (hlen : n ≤ 4194304) (hbase : base ≤ w.heap.size)
  (h : ∀ v' w', w'.ownsRow base 3 1 v' (n + 1) (xs ++ [.int .i64 y]) → w.grownBy w' v.ownBlock → K (a.put o.dst v') w') {ops : Array Oper} : if Region.wanted o (yielded ops a.tmps) = true then Oper.wp Tryz.prog o a w K Q else K (a.put o.dst undef) w := by
 have hw : Region.wanted o (yielded ops a.tmps) = true := by simp [Region.wanted, hgd]
 rw [if_pos hw]
 obtain ⟨i0, hi0, hz0, hz1, hz2⟩ := info_parts Nm.info
 have hrd : Rd Nm.cells 1 w g (g + 1) (.slice (some ⟨g, 0, none⟩) 1 1) [y] := rd_one (fun j u hu => by
  have hj : j < 1 := (List.getElem?_eq_some_iff.1 hu).1
  obtain rfl : j = 0 := by omega
  simp only [Nm.cells, List.getElem?_cons_zero, Option.some.injEq] at hu
  subst hu; exact hr)
 obtain ⟨v', w', hrun, h2, h3⟩ := run_app_rd (P := Tryz.prog) w base 24 o.type 3 i0 _ 1 _ Tryz.underlying24 hi0 hz0 hz1 hz2 rfl (by omega) Nm.cells_len Nm.one v n xs hown hrd (by unfold maxLen; omega) (by omega) hbase
 unfold Oper.wp execOp
 simp only [ho, resolve, invoke, builtin, Sem.run_bind, Sem.run_pure, Result.andThen_ok, List.map_toArray, List.map_cons, List.map_nil, hs, hx, hrun]
 exact h _ _ (by simpa [Nm.cells] using h2) h3
set_option maxHeartbeats 4000000 in
theorem implTakeF_in (m : Int) (vt vs vw : Value) (st : List Int) (ls : List Sl) (lw : List Wt) (w : World) {lo hi lo2 hi2 lo3 hi3 : Nat} (h0 : Rd Nm.cells 1 w lo3 hi3 vt st) (h : Rd Sl.cells 3 w lo hi vs ls) (h2 : Rd Wt.cells 2 w lo2 hi2 vw lw) (hh0 : hi3 ≤ w.heap.size) (hh : hi ≤ w.heap.size) (hh2 : hi2 ≤ w.heap.size) (hgood : Sl.good ls = true) (hix : ∀ i ∈ st, ∃ k : Nat, Sl.ix ls i = k ∧ k < ls.length) (hl : st.length ≤ 1048576) (hl2 : lw.length ≤ 1048576) :
  Calls Tryz.prog 34 #[.agg #[.int .i64 m, vt, vs, vw]] w fun e w' => ∃ v0 v1 v2, e = .returned (.tuple #[.agg #[.int .i64 (Fa.tkM m ls (minI m (Fa.run st ls))), v0, v1, v2], .int .i64 (Sl.tkV ls (minI m (Fa.run st ls))), .bool (Sl.tkOk ls (minI m (Fa.run st ls)))]) ∧ Ow Nm.cells 1 3 w' w.heap.size w'.heap.size v0 (Fa.tkU st ls (minI m (Fa.run st ls))) ∧ Ow Sl.cells 3 93 w' w.heap.size w'.heap.size v1 (Sl.tkR ls (minI m (Fa.run st ls))) ∧ Ow Wt.cells 2 107 w' w.heap.size w'.heap.size v2 (Qu.tkK ls (minI m (Fa.run st ls)) lw) ∧ Below w.heap.size w w' := by
 have b0 : Below w.heap.size w ((w.alloc (.cells #[.int .i64 m, vt, vs, vw] 30)).alloc (.cells #[.int .i64 0, .slice none 0 0, .slice none 0 0, .slice none 0 0] 30)) := ((Below.refl w.heap.size w).alloc (Nat.le_refl _) _).alloc (by simp) _
 have z0 : ((w.alloc (.cells #[.int .i64 m, vt, vs, vw] 30)).alloc (.cells #[.int .i64 0, .slice none 0 0, .slice none 0 0, .slice none 0 0] 30)).heap.size = w.heap.size + 2 := by simp
 have bx := Box.new w #[.int .i64 m, vt, vs, vw] 30 rfl
 have bR := Box.new (g := w.heap.size + 1) (w.alloc (.cells #[.int .i64 m, vt, vs, vw] 30)) #[.int .i64 0, .slice none 0 0, .slice none 0 0, .slice none 0 0] 30 (by simp)
 replace bx := bx.below ((Below.refl _ (w.alloc (.cells #[.int .i64 m, vt, vs, vw] 30))).alloc (Nat.le_refl _) (.cells #[.int .i64 0, .slice none 0 0, .slice none 0 0, .slice none 0 0] 30)) bx.lt
 have ht := h0.below b0 hh0
 have hs := h.below b0 hh
 have hw := h2.below b0 hh2
 have hv0_ := h0.form
 have hv_ := h.form
 have hv2_ := h2.form
 clear h0 h h2
 generalize hwA : (w.alloc (.cells #[.int .i64 m, vt, vs, vw] 30)).alloc (.cells #[.int .i64 0, .slice none 0 0, .slice none 0 0, .slice none 0 0] 30) = wA at *
 obtain ⟨At, nt, dt, rfl, _, _, _⟩ := hv0_
 obtain ⟨A0, n0, d0, rfl, _, _, _⟩ := hv_
 obtain ⟨A1, n1, d1, rfl, _, _, _⟩ := hv2_
 have HG := Lib.hid hgood
 have HX := Lib.hid hix
 have HM := Lib.hid (show min m (Fa.run st ls) = minI m (Fa.run st ls) from by unfold minI; omega)
 clear hgood hix
 go_enter Tryz.func34, Tryz.ntmps34
 have bx_0 := bx.c0
 have bx_1 := bx.c1
 have bx_2 := bx.c2
 have bx_3 := bx.c3
 have bx_z := bx.frozen
 have bx_l := bx.lt
 have bR_0 := bR.c0
 have bR_1 := bR.c1
 have bR_2 := bR.c2
 have bR_3 := bR.c3
 have bR_z := bR.frozen
 have bR_l := bR.lt
 go_upto_region 1 with fail
 clear hwA
 clear bx_0 bx_1 bx_2 bx_3 bx_z bx_l bR_0 bR_1 bR_2 bR_3 bR_z bR_l
 go_cut [5, 6, 7] (fun s5 s6 s7 wx => ∃ (ww : World) (gT : Nat) (v1 v2 : Value), ww = wx ∧ s5 = .pointer (some ⟨gT, 0, none⟩) ∧ s6 = .int .i64 (Sl.tkV ls (minI m (Fa.run st ls))) ∧ s7 = .bool (Sl.tkOk ls (minI m (Fa.run st ls))) ∧ Below wA.heap.size wA wx ∧ wA.heap.size ≤ gT ∧ Box wx gT 28 [v1, v2] ∧ Ow Sl.cells 3 93 wx wA.heap.size wx.heap.size v1 (Sl.tkR ls (minI m (Fa.run st ls))) ∧ Ow Wt.cells 2 107 wx wA.heap.size wx.heap.size v2 (Qu.tkK ls (minI m (Fa.run st ls)) lw))
 case first =>
  have bC := Below.refl wA.heap.size wA
  have zB := b0.size
  refine wp_region_held_drew (S := fun W => Box W (w.heap.size) 30 [.int .i64 m, .slice At nt dt, .slice A0 n0 d0, .slice A1 n1 d1]) (by kernel_rfl) (show (fun (W : World) => Box W (w.heap.size) 30 [.int .i64 m, .slice At nt dt, .slice A0 n0 d0, .slice A1 n1 d1]) wA.drew from bx) (fun hHeld => ?_)
  refine wpAnyH_take (i := 0) (v := .pointer (some ⟨w.heap.size, 2, none⟩)) rfl (by kernel_rfl) (by kernel_rfl) (by kernel_rfl) (fun _ _ _ h => h) (Or.inl ⟨by rfl, by intro w hSw; have hS0 := hSw; have y00 := hS0.c0; have y01 := hS0.c1; have y02 := hS0.c2; have y03 := hS0.c3; go_simp⟩) hHeld ?_
  refine wpAnyH_take (i := 1) (v := .agg #[.slice A0 n0 d0, .slice A1 n1 d1]) rfl (by kernel_rfl) (by kernel_rfl) (by kernel_rfl) (fun _ _ _ h => h) (Or.inl ⟨by rfl, by intro w hSw; have hS0 := hSw; have y00 := hS0.c0; have y01 := hS0.c1; have y02 := hS0.c2; have y03 := hS0.c3; go_simp⟩) hHeld ?_
  refine wpAnyH_take (i := 2) (v := .pointer (some ⟨w.heap.size, 0, none⟩)) rfl (by kernel_rfl) (by kernel_rfl) (by kernel_rfl) (fun _ _ _ h => h) (Or.inl ⟨by rfl, by intro w hSw; have hS0 := hSw; have y00 := hS0.c0; have y01 := hS0.c1; have y02 := hS0.c2; have y03 := hS0.c3; go_simp⟩) hHeld ?_
  refine wpAnyH_take (i := 3) (v := .int .i64 m) rfl (by kernel_rfl) (by kernel_rfl) (by kernel_rfl) (fun _ _ _ h => h) (Or.inl ⟨by rfl, by intro w hSw; have hS0 := hSw; have y00 := hS0.c0; have y01 := hS0.c1; have y02 := hS0.c2; have y03 := hS0.c3; go_simp⟩) hHeld ?_
  refine wpAnyH_take (i := 4) (v := .agg #[.int .i64 m, .slice At nt dt, .slice A0 n0 d0, .slice A1 n1 d1]) rfl (by kernel_rfl) (by kernel_rfl) (by kernel_rfl) (fun _ _ _ h => h) (Or.inl ⟨by rfl, by intro w hSw; have hS0 := hSw; have y00 := hS0.c0; have y01 := hS0.c1; have y02 := hS0.c2; have y03 := hS0.c3; go_simp⟩) hHeld ?_
  clear hHeld
  refine held_gen (F := fun W' => Below wA.heap.size wA W') (Below.refl wA.heap.size wA).drew ?_
  rintro w1 b_1
  replace bx := bx.below b_1 bx.lt
  replace bR := bR.below b_1 bR.lt
  replace ht := ht.below b_1 (by omega)
  replace hs := hs.below b_1 (by omega)
  replace hw := hw.below b_1 (by omega)
  have z_2 := b_1.size
  replace bC := bC.trans (b_1.mono (by omega))
  clear b_1
  refine wpAnyH_ready (rs := [5, 12]) (by kernel_rfl) (by decide) ?_
  refine AllReadyH.cons rfl (fun K3a hK3a => ?_) (AllReadyH.cons rfl (fun K3b hK3b => ?_) AllReadyH.nil)
  ·go_simp
   refine (implRunning_in m _ _ _ st ls lw w1 ht hs hw (by omega) (by omega) (by omega) HX.out).mono ?_; rintro q_ w4 ⟨rfl, b_4⟩
   replace bx := bx.below b_4 bx.lt
   replace bR := bR.below b_4 bR.lt
   replace ht := ht.below b_4 (by omega)
   replace hs := hs.below b_4 (by omega)
   replace hw := hw.below b_4 (by omega)
   have z_5 := b_4.size
   replace bC := bC.trans (b_4.mono (by omega))
   clear b_4
   refine hK3a.out _ _ bx (fun _ => ?_)
   have hHeld : (fun (W : World) => Box W (w.heap.size) 30 [.int .i64 m, .slice At nt dt, .slice A0 n0 d0, .slice A1 n1 d1]) w4 := bx
   refine wpAnyH_take (i := 6) (v := .int .i64 (minI m (Fa.run st ls))) rfl (by kernel_rfl) (by kernel_rfl) (by kernel_rfl) (fun _ _ _ h => h) (Or.inl ⟨by rfl, by intro w hSw; have hS0 := hSw; have y00 := hS0.c0; have y01 := hS0.c1; have y02 := hS0.c2; have y03 := hS0.c3; go_simp; exact HM.out⟩) hHeld ?_
   clear hHeld
   refine wpAnyH_ready (rs := [7, 12]) (by kernel_rfl) (by decide) ?_
   refine AllReadyH.cons rfl (fun K6a hK6a => ?_) (AllReadyH.cons rfl (fun K6b hK6b => ?_) AllReadyH.nil)
   ·go_simp
    refine (implTakeQ_in _ _ ls lw (minI m (Fa.run st ls)) w4 hs hw (by omega) (by omega) HG.out hl2).mono ?_; rintro q_ w7 ⟨v5, v6, rfl, o5, o6, b_7⟩
    replace bx := bx.below b_7 bx.lt
    replace bR := bR.below b_7 bR.lt
    replace ht := ht.below b_7 (by omega)
    replace hs := hs.below b_7 (by omega)
    replace hw := hw.below b_7 (by omega)
    have z_8 := b_7.size
    replace bC := bC.trans (b_7.mono (by omega))
    clear b_7
    obtain ⟨A5, n5, d5, rfl, _, _, _⟩ := o5.rd.form
    obtain ⟨A6, n6, d6, rfl, _, _, _⟩ := o6.rd.form
    refine hK6a.out _ _ bx (fun _ => ?_)
    have hHeld : (fun (W : World) => Box W (w.heap.size) 30 [.int .i64 m, .slice At nt dt, .slice A0 n0 d0, .slice A1 n1 d1]) w7 := bx
    refine wpAnyH_take (i := 8) (v := .tuple #[.agg #[.slice A5 n5 d5, .slice A6 n6 d6], .int .i64 (Sl.tkV ls (minI m (Fa.run st ls))), .bool (Sl.tkOk ls (minI m (Fa.run st ls)))]) rfl (by kernel_rfl) (by kernel_rfl) (by kernel_rfl) (fun _ _ _ h => h) (Or.inl ⟨by rfl, by intro w hSw; have hS0 := hSw; have y00 := hS0.c0; have y01 := hS0.c1; have y02 := hS0.c2; have y03 := hS0.c3; go_simp⟩) hHeld ?_
    refine wpAnyH_take (i := 9) (v := .agg #[.slice A5 n5 d5, .slice A6 n6 d6]) rfl (by kernel_rfl) (by kernel_rfl) (by kernel_rfl) (fun _ _ _ h => h) (Or.inl ⟨by rfl, by intro w hSw; have hS0 := hSw; have y00 := hS0.c0; have y01 := hS0.c1; have y02 := hS0.c2; have y03 := hS0.c3; go_simp⟩) hHeld ?_
    refine wpAnyH_take (i := 10) (v := .int .i64 (Sl.tkV ls (minI m (Fa.run st ls)))) rfl (by kernel_rfl) (by kernel_rfl) (by kernel_rfl) (fun _ _ _ h => h) (Or.inl ⟨by rfl, by intro w hSw; have hS0 := hSw; have y00 := hS0.c0; have y01 := hS0.c1; have y02 := hS0.c2; have y03 := hS0.c3; go_simp⟩) hHeld ?_
    refine wpAnyH_take (i := 11) (v := .bool (Sl.tkOk ls (minI m (Fa.run st ls)))) rfl (by kernel_rfl) (by kernel_rfl) (by kernel_rfl) (fun _ _ _ h => h) (Or.inl ⟨by rfl, by intro w hSw; have hS0 := hSw; have y00 := hS0.c0; have y01 := hS0.c1; have y02 := hS0.c2; have y03 := hS0.c3; go_simp⟩) hHeld ?_
    clear hHeld
    refine wpAnyH_ready (rs := [12]) (by kernel_rfl) (by decide) ?_
    refine AllReadyH.cons rfl (fun K9 hK9 => ?_) AllReadyH.nil
    go_simp
    have b_10 := (Below.refl w7.heap.size w7).alloc (Nat.le_refl _) (.cells #[.slice none 0 0, .slice none 0 0] 28)
    have bT := Box.new w7 #[.slice none 0 0, .slice none 0 0] 28 rfl
    replace bx := bx.below b_10 bx.lt
    replace bR := bR.below b_10 bR.lt
    replace ht := ht.below b_10 (by omega)
    replace hs := hs.below b_10 (by omega)
    replace hw := hw.below b_10 (by omega)
    replace o5 := o5.below b_10 (by omega)
    replace o6 := o6.below b_10 (by omega)
    have z_11 := b_10.size
    replace bC := bC.trans (b_10.mono (by omega))
    clear b_10
    generalize w7.alloc _ = w10 at *
    generalize w7.heap.size = g10 at *
    refine hK9.out _ _ bx (fun _ => ?_)
    refine wpAnyH_ready (rs := [13]) (by kernel_rfl) (by decide) ?_
    refine AllReadyH.cons rfl (fun K12 hK12 => ?_) AllReadyH.nil
    have bx_0 := bx.c0
    have bx_1 := bx.c1
    have bx_2 := bx.c2
    have bx_3 := bx.c3
    have bx_z := bx.frozen
    have bx_l := bx.lt
    have bR_0 := bR.c0
    have bR_1 := bR.c1
    have bR_2 := bR.c2
    have bR_3 := bR.c3
    have bR_z := bR.frozen
    have bR_l := bR.lt
    have bT_0 := bT.c0
    have bT_1 := bT.c1
    have bT_z := bT.frozen
    have bT_l := bT.lt
    go_simp
    clear bx_0 bx_1 bx_2 bx_3 bx_z bx_l bR_0 bR_1 bR_2 bR_3 bR_z bR_l bT_0 bT_1 bT_z bT_l
    generalize hwz : World.setCell (World.setCell _ _ _) _ _ = wz_
    obtain rfl : wz_ = setL w10 (g10) 0 [.slice A5 n5 d5, .slice A6 n6 d6] := hwz.symm
    clear hwz
    replace bx := bx.other (b := g10) (by omega) 0 [.slice A5 n5 d5, .slice A6 n6 d6]
    replace bR := bR.other (b := g10) (by omega) 0 [.slice A5 n5 d5, .slice A6 n6 d6]
    replace ht := ht.away (g := g10) (by omega) 0 [.slice A5 n5 d5, .slice A6 n6 d6]
    replace hs := hs.away (g := g10) (by omega) 0 [.slice A5 n5 d5, .slice A6 n6 d6]
    replace hw := hw.away (g := g10) (by omega) 0 [.slice A5 n5 d5, .slice A6 n6 d6]
    replace o5 := o5.box (g := g10) bT (by decide) 0 [.slice A5 n5 d5, .slice A6 n6 d6]
    replace o6 := o6.box (g := g10) bT (by decide) 0 [.slice A5 n5 d5, .slice A6 n6 d6]
    replace bC := setL_below bC [.slice A5 n5 d5, .slice A6 n6 d6] (g10) 0 (by omega)
    have zs_13 : (setL w10 (g10) 0 [.slice A5 n5 d5, .slice A6 n6 d6]).heap.size = w10.heap.size := setL_size _ _ _ _
    replace bT := bT.setAll [.slice A5 n5 d5, .slice A6 n6 d6] rfl
    generalize setL w10 _ 0 _ = w13 at *
    refine hK12.out _ _ bx (fun _ => ?_)
    refine wpAnyH_ready (rs := [14]) (by kernel_rfl) (by decide) ?_
    refine AllReadyH.cons rfl (fun K14 hK14 => ?_) AllReadyH.nil
    go_simp
    refine hK14.out _ _ bx (fun _ => ?_)
    refine wpAnyH_ready (rs := [15]) (by kernel_rfl) (by decide) ?_
    refine AllReadyH.cons rfl (fun K15 hK15 => ?_) AllReadyH.nil
    go_simp
    refine hK15.out _ _ bx (fun _ => ?_)
    refine ⟨by kernel_rfl, ?_⟩
    have bx_0 := bx.c0
    have bx_1 := bx.c1
    have bx_2 := bx.c2
    have bx_3 := bx.c3
    have bx_z := bx.frozen
    have bx_l := bx.lt
    have bR_0 := bR.c0
    have bR_1 := bR.c1
    have bR_2 := bR.c2
    have bR_3 := bR.c3
    have bR_z := bR.frozen
    have bR_l := bR.lt
    have bT_0 := bT.c0
    have bT_1 := bT.c1
    have bT_z := bT.frozen
    have bT_l := bT.lt
    go_wp2_with fail
    clear bx_0 bx_1 bx_2 bx_3 bx_z bx_l bR_0 bR_1 bR_2 bR_3 bR_z bR_l bT_0 bT_1 bT_z bT_l
    go_meet
    exact ⟨_, _, _, _, rfl, rfl, rfl, rfl, bC, by omega, bT, o5.mono (by omega) (by omega), o6.mono (by omega) (by omega)⟩
   ·go_simp
    have b_7 := (Below.refl w4.heap.size w4).alloc (Nat.le_refl _) (.cells #[.slice none 0 0, .slice none 0 0] 28)
    have bT := Box.new w4 #[.slice none 0 0, .slice none 0 0] 28 rfl
    replace bx := bx.below b_7 bx.lt
    replace bR := bR.below b_7 bR.lt
    replace ht := ht.below b_7 (by omega)
    replace hs := hs.below b_7 (by omega)
    replace hw := hw.below b_7 (by omega)
    have z_8 := b_7.size
    replace bC := bC.trans (b_7.mono (by omega))
    clear b_7
    generalize w4.alloc _ = w7 at *
    generalize w4.heap.size = g7 at *
    refine hK6b.out _ _ bx (fun _ => ?_)
    refine wpAnyH_ready (rs := [7]) (by kernel_rfl) (by decide) ?_
    refine AllReadyH.cons rfl (fun K9 hK9 => ?_) AllReadyH.nil
    go_simp
    refine (implTakeQ_in _ _ ls lw (minI m (Fa.run st ls)) w7 hs hw (by omega) (by omega) HG.out hl2).mono ?_; rintro q_ w10 ⟨v5, v6, rfl, o5, o6, b_10⟩
    replace bx := bx.below b_10 bx.lt
    replace bR := bR.below b_10 bR.lt
    replace bT := bT.below b_10 bT.lt
    replace ht := ht.below b_10 (by omega)
    replace hs := hs.below b_10 (by omega)
    replace hw := hw.below b_10 (by omega)
    have z_11 := b_10.size
    replace bC := bC.trans (b_10.mono (by omega))
    clear b_10
    obtain ⟨A5, n5, d5, rfl, _, _, _⟩ := o5.rd.form
    obtain ⟨A6, n6, d6, rfl, _, _, _⟩ := o6.rd.form
    refine hK9.out _ _ bx (fun _ => ?_)
    have hHeld : (fun (W : World) => Box W (w.heap.size) 30 [.int .i64 m, .slice At nt dt, .slice A0 n0 d0, .slice A1 n1 d1]) w10 := bx
    refine wpAnyH_take (i := 8) (v := .tuple #[.agg #[.slice A5 n5 d5, .slice A6 n6 d6], .int .i64 (Sl.tkV ls (minI m (Fa.run st ls))), .bool (Sl.tkOk ls (minI m (Fa.run st ls)))]) rfl (by kernel_rfl) (by kernel_rfl) (by kernel_rfl) (fun _ _ _ h => h) (Or.inl ⟨by rfl, by intro w hSw; have hS0 := hSw; have y00 := hS0.c0; have y01 := hS0.c1; have y02 := hS0.c2; have y03 := hS0.c3; go_simp⟩) hHeld ?_
    refine wpAnyH_take (i := 9) (v := .agg #[.slice A5 n5 d5, .slice A6 n6 d6]) rfl (by kernel_rfl) (by kernel_rfl) (by kernel_rfl) (fun _ _ _ h => h) (Or.inl ⟨by rfl, by intro w hSw; have hS0 := hSw; have y00 := hS0.c0; have y01 := hS0.c1; have y02 := hS0.c2; have y03 := hS0.c3; go_simp⟩) hHeld ?_
    refine wpAnyH_take (i := 10) (v := .int .i64 (Sl.tkV ls (minI m (Fa.run st ls)))) rfl (by kernel_rfl) (by kernel_rfl) (by kernel_rfl) (fun _ _ _ h => h) (Or.inl ⟨by rfl, by intro w hSw; have hS0 := hSw; have y00 := hS0.c0; have y01 := hS0.c1; have y02 := hS0.c2; have y03 := hS0.c3; go_simp⟩) hHeld ?_
    refine wpAnyH_take (i := 11) (v := .bool (Sl.tkOk ls (minI m (Fa.run st ls)))) rfl (by kernel_rfl) (by kernel_rfl) (by kernel_rfl) (fun _ _ _ h => h) (Or.inl ⟨by rfl, by intro w hSw; have hS0 := hSw; have y00 := hS0.c0; have y01 := hS0.c1; have y02 := hS0.c2; have y03 := hS0.c3; go_simp⟩) hHeld ?_
    clear hHeld
    refine wpAnyH_ready (rs := [13]) (by kernel_rfl) (by decide) ?_
    refine AllReadyH.cons rfl (fun K12 hK12 => ?_) AllReadyH.nil
    have bx_0 := bx.c0
    have bx_1 := bx.c1
    have bx_2 := bx.c2
    have bx_3 := bx.c3
    have bx_z := bx.frozen
    have bx_l := bx.lt
    have bR_0 := bR.c0
    have bR_1 := bR.c1
    have bR_2 := bR.c2
    have bR_3 := bR.c3
    have bR_z := bR.frozen
    have bR_l := bR.lt
    have bT_0 := bT.c0
    have bT_1 := bT.c1
    have bT_z := bT.frozen
    have bT_l := bT.lt
    go_simp
    clear bx_0 bx_1 bx_2 bx_3 bx_z bx_l bR_0 bR_1 bR_2 bR_3 bR_z bR_l bT_0 bT_1 bT_z bT_l
    generalize hwz : World.setCell (World.setCell _ _ _) _ _ = wz_
    obtain rfl : wz_ = setL w10 (g7) 0 [.slice A5 n5 d5, .slice A6 n6 d6] := hwz.symm
    clear hwz
    replace bx := bx.other (b := g7) (by omega) 0 [.slice A5 n5 d5, .slice A6 n6 d6]
    replace bR := bR.other (b := g7) (by omega) 0 [.slice A5 n5 d5, .slice A6 n6 d6]
    replace ht := ht.away (g := g7) (by omega) 0 [.slice A5 n5 d5, .slice A6 n6 d6]
    replace hs := hs.away (g := g7) (by omega) 0 [.slice A5 n5 d5, .slice A6 n6 d6]
    replace hw := hw.away (g := g7) (by omega) 0 [.slice A5 n5 d5, .slice A6 n6 d6]
    replace o5 := o5.box (g := g7) bT (by decide) 0 [.slice A5 n5 d5, .slice A6 n6 d6]
    replace o6 := o6.box (g := g7) bT (by decide) 0 [.slice A5 n5 d5, .slice A6 n6 d6]
    replace bC := setL_below bC [.slice A5 n5 d5, .slice A6 n6 d6] (g7) 0 (by omega)
    have zs_13 : (setL w10 (g7) 0 [.slice A5 n5 d5, .slice A6 n6 d6]).heap.size = w10.heap.size := setL_size _ _ _ _
    replace bT := bT.setAll [.slice A5 n5 d5, .slice A6 n6 d6] rfl
    generalize setL w10 _ 0 _ = w13 at *
    refine hK12.out _ _ bx (fun _ => ?_)
    refine wpAnyH_ready (rs := [14]) (by kernel_rfl) (by decide) ?_
    refine AllReadyH.cons rfl (fun K14 hK14 => ?_) AllReadyH.nil
    go_simp
    refine hK14.out _ _ bx (fun _ => ?_)
    refine wpAnyH_ready (rs := [15]) (by kernel_rfl) (by decide) ?_
    refine AllReadyH.cons rfl (fun K15 hK15 => ?_) AllReadyH.nil
    go_simp
    refine hK15.out _ _ bx (fun _ => ?_)
    refine ⟨by kernel_rfl, ?_⟩
    have bx_0 := bx.c0
    have bx_1 := bx.c1
    have bx_2 := bx.c2
    have bx_3 := bx.c3
    have bx_z := bx.frozen
    have bx_l := bx.lt
    have bR_0 := bR.c0
    have bR_1 := bR.c1
    have bR_2 := bR.c2
    have bR_3 := bR.c3
    have bR_z := bR.frozen
    have bR_l := bR.lt
    have bT_0 := bT.c0
    have bT_1 := bT.c1
    have bT_z := bT.frozen
    have bT_l := bT.lt
    go_wp2_with fail
    clear bx_0 bx_1 bx_2 bx_3 bx_z bx_l bR_0 bR_1 bR_2 bR_3 bR_z bR_l bT_0 bT_1 bT_z bT_l
    go_meet
    exact ⟨_, _, _, _, rfl, rfl, rfl, rfl, bC, by omega, bT, o5.mono (by omega) (by omega), o6.mono (by omega) (by omega)⟩
  ·go_simp
   have b_4 := (Below.refl w1.heap.size w1).alloc (Nat.le_refl _) (.cells #[.slice none 0 0, .slice none 0 0] 28)
   have bT := Box.new w1 #[.slice none 0 0, .slice none 0 0] 28 rfl
   replace bx := bx.below b_4 bx.lt
   replace bR := bR.below b_4 bR.lt
   replace ht := ht.below b_4 (by omega)
   replace hs := hs.below b_4 (by omega)
   replace hw := hw.below b_4 (by omega)
   have z_5 := b_4.size
   replace bC := bC.trans (b_4.mono (by omega))
   clear b_4
   generalize w1.alloc _ = w4 at *
   generalize w1.heap.size = g4 at *
   refine hK3b.out _ _ bx (fun _ => ?_)
   refine wpAnyH_ready (rs := [5]) (by kernel_rfl) (by decide) ?_
   refine AllReadyH.cons rfl (fun K6 hK6 => ?_) AllReadyH.nil
   go_simp
   refine (implRunning_in m _ _ _ st ls lw w4 ht hs hw (by omega) (by omega) (by omega) HX.out).mono ?_; rintro q_ w7 ⟨rfl, b_7⟩
   replace bx := bx.below b_7 bx.lt
   replace bR := bR.below b_7 bR.lt
   replace bT := bT.below b_7 bT.lt
   replace ht := ht.below b_7 (by omega)
   replace hs := hs.below b_7 (by omega)
   replace hw := hw.below b_7 (by omega)
   have z_8 := b_7.size
   replace bC := bC.trans (b_7.mono (by omega))
   clear b_7
   refine hK6.out _ _ bx (fun _ => ?_)
   have hHeld : (fun (W : World) => Box W (w.heap.size) 30 [.int .i64 m, .slice At nt dt, .slice A0 n0 d0, .slice A1 n1 d1]) w7 := bx
   refine wpAnyH_take (i := 6) (v := .int .i64 (minI m (Fa.run st ls))) rfl (by kernel_rfl) (by kernel_rfl) (by kernel_rfl) (fun _ _ _ h => h) (Or.inl ⟨by rfl, by intro w hSw; have hS0 := hSw; have y00 := hS0.c0; have y01 := hS0.c1; have y02 := hS0.c2; have y03 := hS0.c3; go_simp; exact HM.out⟩) hHeld ?_
   clear hHeld
   refine wpAnyH_ready (rs := [7]) (by kernel_rfl) (by decide) ?_
   refine AllReadyH.cons rfl (fun K9 hK9 => ?_) AllReadyH.nil
   go_simp
   refine (implTakeQ_in _ _ ls lw (minI m (Fa.run st ls)) w7 hs hw (by omega) (by omega) HG.out hl2).mono ?_; rintro q_ w10 ⟨v5, v6, rfl, o5, o6, b_10⟩
   replace bx := bx.below b_10 bx.lt
   replace bR := bR.below b_10 bR.lt
   replace bT := bT.below b_10 bT.lt
   replace ht := ht.below b_10 (by omega)
   replace hs := hs.below b_10 (by omega)
   replace hw := hw.below b_10 (by omega)
   have z_11 := b_10.size
   replace bC := bC.trans (b_10.mono (by omega))
   clear b_10
   obtain ⟨A5, n5, d5, rfl, _, _, _⟩ := o5.rd.form
   obtain ⟨A6, n6, d6, rfl, _, _, _⟩ := o6.rd.form
   refine hK9.out _ _ bx (fun _ => ?_)
   have hHeld : (fun (W : World) => Box W (w.heap.size) 30 [.int .i64 m, .slice At nt dt, .slice A0 n0 d0, .slice A1 n1 d1]) w10 := bx
   refine wpAnyH_take (i := 8) (v := .tuple #[.agg #[.slice A5 n5 d5, .slice A6 n6 d6], .int .i64 (Sl.tkV ls (minI m (Fa.run st ls))), .bool (Sl.tkOk ls (minI m (Fa.run st ls)))]) rfl (by kernel_rfl) (by kernel_rfl) (by kernel_rfl) (fun _ _ _ h => h) (Or.inl ⟨by rfl, by intro w hSw; have hS0 := hSw; have y00 := hS0.c0; have y01 := hS0.c1; have y02 := hS0.c2; have y03 := hS0.c3; go_simp⟩) hHeld ?_
   refine wpAnyH_take (i := 9) (v := .agg #[.slice A5 n5 d5, .slice A6 n6 d6]) rfl (by kernel_rfl) (by kernel_rfl) (by kernel_rfl) (fun _ _ _ h => h) (Or.inl ⟨by rfl, by intro w hSw; have hS0 := hSw; have y00 := hS0.c0; have y01 := hS0.c1; have y02 := hS0.c2; have y03 := hS0.c3; go_simp⟩) hHeld ?_
   refine wpAnyH_take (i := 10) (v := .int .i64 (Sl.tkV ls (minI m (Fa.run st ls)))) rfl (by kernel_rfl) (by kernel_rfl) (by kernel_rfl) (fun _ _ _ h => h) (Or.inl ⟨by rfl, by intro w hSw; have hS0 := hSw; have y00 := hS0.c0; have y01 := hS0.c1; have y02 := hS0.c2; have y03 := hS0.c3; go_simp⟩) hHeld ?_
   refine wpAnyH_take (i := 11) (v := .bool (Sl.tkOk ls (minI m (Fa.run st ls)))) rfl (by kernel_rfl) (by kernel_rfl) (by kernel_rfl) (fun _ _ _ h => h) (Or.inl ⟨by rfl, by intro w hSw; have hS0 := hSw; have y00 := hS0.c0; have y01 := hS0.c1; have y02 := hS0.c2; have y03 := hS0.c3; go_simp⟩) hHeld ?_
   clear hHeld
   refine wpAnyH_ready (rs := [13]) (by kernel_rfl) (by decide) ?_
   refine AllReadyH.cons rfl (fun K12 hK12 => ?_) AllReadyH.nil
   have bx_0 := bx.c0
   have bx_1 := bx.c1
   have bx_2 := bx.c2
   have bx_3 := bx.c3
   have bx_z := bx.frozen
   have bx_l := bx.lt
   have bR_0 := bR.c0
   have bR_1 := bR.c1
   have bR_2 := bR.c2
   have bR_3 := bR.c3
   have bR_z := bR.frozen
   have bR_l := bR.lt
   have bT_0 := bT.c0
   have bT_1 := bT.c1
   have bT_z := bT.frozen
   have bT_l := bT.lt
   go_simp
   clear bx_0 bx_1 bx_2 bx_3 bx_z bx_l bR_0 bR_1 bR_2 bR_3 bR_z bR_l bT_0 bT_1 bT_z bT_l
   generalize hwz : World.setCell (World.setCell _ _ _) _ _ = wz_
   obtain rfl : wz_ = setL w10 (g4) 0 [.slice A5 n5 d5, .slice A6 n6 d6] := hwz.symm
   clear hwz
   replace bx := bx.other (b := g4) (by omega) 0 [.slice A5 n5 d5, .slice A6 n6 d6]
   replace bR := bR.other (b := g4) (by omega) 0 [.slice A5 n5 d5, .slice A6 n6 d6]
   replace ht := ht.away (g := g4) (by omega) 0 [.slice A5 n5 d5, .slice A6 n6 d6]
   replace hs := hs.away (g := g4) (by omega) 0 [.slice A5 n5 d5, .slice A6 n6 d6]
   replace hw := hw.away (g := g4) (by omega) 0 [.slice A5 n5 d5, .slice A6 n6 d6]
   replace o5 := o5.box (g := g4) bT (by decide) 0 [.slice A5 n5 d5, .slice A6 n6 d6]
   replace o6 := o6.box (g := g4) bT (by decide) 0 [.slice A5 n5 d5, .slice A6 n6 d6]
   replace bC := setL_below bC [.slice A5 n5 d5, .slice A6 n6 d6] (g4) 0 (by omega)
   have zs_13 : (setL w10 (g4) 0 [.slice A5 n5 d5, .slice A6 n6 d6]).heap.size = w10.heap.size := setL_size _ _ _ _
   replace bT := bT.setAll [.slice A5 n5 d5, .slice A6 n6 d6] rfl
   generalize setL w10 _ 0 _ = w13 at *
   refine hK12.out _ _ bx (fun _ => ?_)
   refine wpAnyH_ready (rs := [14]) (by kernel_rfl) (by decide) ?_
   refine AllReadyH.cons rfl (fun K14 hK14 => ?_) AllReadyH.nil
   go_simp
   refine hK14.out _ _ bx (fun _ => ?_)
   refine wpAnyH_ready (rs := [15]) (by kernel_rfl) (by decide) ?_
   refine AllReadyH.cons rfl (fun K15 hK15 => ?_) AllReadyH.nil
   go_simp
   refine hK15.out _ _ bx (fun _ => ?_)
   refine ⟨by kernel_rfl, ?_⟩
   have bx_0 := bx.c0
   have bx_1 := bx.c1
   have bx_2 := bx.c2
   have bx_3 := bx.c3
   have bx_z := bx.frozen
   have bx_l := bx.lt
   have bR_0 := bR.c0
   have bR_1 := bR.c1
   have bR_2 := bR.c2
   have bR_3 := bR.c3
   have bR_z := bR.frozen
   have bR_l := bR.lt
   have bT_0 := bT.c0
   have bT_1 := bT.c1
   have bT_z := bT.frozen
   have bT_l := bT.lt
   go_wp2_with fail
   clear bx_0 bx_1 bx_2 bx_3 bx_z bx_l bR_0 bR_1 bR_2 bR_3 bR_z bR_l bT_0 bT_1 bT_z bT_l
   go_meet
   exact ⟨_, _, _, _, rfl, rfl, rfl, rfl, bC, by omega, bT, o5.mono (by omega) (by omega), o6.mono (by omega) (by omega)⟩
 case rest =>
  obtain ⟨wx, gT, v1, v2, rfl, rfl, rfl, rfl, bC, zT, bT, o5, o6⟩ := hcut
  replace bx := bx.below bC bx.lt
  replace bR := bR.below bC bR.lt
  replace ht := ht.below bC (by omega)
  replace hs := hs.below bC (by omega)
  replace hw := hw.below bC (by omega)
  have z_51 := bC.size
  replace b0 := b0.trans (bC.mono (by omega))
  clear bC
  obtain ⟨A5, n5, d5, rfl, _, _, _⟩ := o5.rd.form
  obtain ⟨A6, n6, d6, rfl, _, _, _⟩ := o6.rd.form
  have zTl := bT.lt
  cases hk : Sl.tkOk ls (minI m (Fa.run st ls))
  ·have HF := Lib.hid (show Fa.tkU st ls (minI m (Fa.run st ls)) = [] ∧ Fa.tkM m ls (minI m (Fa.run st ls)) = 0 ∧ Sl.tkR ls (minI m (Fa.run st ls)) = [] ∧ Qu.tkK ls (minI m (Fa.run st ls)) lw = [] ∧ Sl.tkV ls (minI m (Fa.run st ls)) = 0 ∧ Sl.tkOk ls (minI m (Fa.run st ls)) = false from by simp [Fa.tkU, Fa.tkM, Sl.tkR, Qu.tkK, Sl.tkV, hk])
   clear hk
   have bx_0 := bx.c0
   have bx_1 := bx.c1
   have bx_2 := bx.c2
   have bx_3 := bx.c3
   have bx_z := bx.frozen
   have bx_l := bx.lt
   have bR_0 := bR.c0
   have bR_1 := bR.c1
   have bR_2 := bR.c2
   have bR_3 := bR.c3
   have bR_z := bR.frozen
   have bR_l := bR.lt
   have bT_0 := bT.c0
   have bT_1 := bT.c1
   have bT_z := bT.frozen
   have bT_l := bT.lt
   go_wp2_with fail
   clear bx_0 bx_1 bx_2 bx_3 bx_z bx_l bR_0 bR_1 bR_2 bR_3 bR_z bR_l bT_0 bT_1 bT_z bT_l
   generalize hwz : World.setCell (World.setCell (World.setCell (World.setCell _ _ _) _ _) _ _) _ _ = wz_
   obtain rfl : wz_ = setL wx (w.heap.size + 1) 0 [.int .i64 0, .slice none 0 0, .slice none 0 0, .slice none 0 0] := hwz.symm
   clear hwz
   replace bx := bx.other (b := w.heap.size + 1) (by omega) 0 [.int .i64 0, .slice none 0 0, .slice none 0 0, .slice none 0 0]
   replace bT := bT.other (b := w.heap.size + 1) (by omega) 0 [.int .i64 0, .slice none 0 0, .slice none 0 0, .slice none 0 0]
   replace ht := ht.away (g := w.heap.size + 1) (by omega) 0 [.int .i64 0, .slice none 0 0, .slice none 0 0, .slice none 0 0]
   replace hs := hs.away (g := w.heap.size + 1) (by omega) 0 [.int .i64 0, .slice none 0 0, .slice none 0 0, .slice none 0 0]
   replace hw := hw.away (g := w.heap.size + 1) (by omega) 0 [.int .i64 0, .slice none 0 0, .slice none 0 0, .slice none 0 0]
   replace o5 := o5.box (g := w.heap.size + 1) bR (by decide) 0 [.int .i64 0, .slice none 0 0, .slice none 0 0, .slice none 0 0]
   replace o6 := o6.box (g := w.heap.size + 1) bR (by decide) 0 [.int .i64 0, .slice none 0 0, .slice none 0 0, .slice none 0 0]
   replace b0 := setL_below b0 [.int .i64 0, .slice none 0 0, .slice none 0 0, .slice none 0 0] (w.heap.size + 1) 0 (by omega)
   have zs_52 : (setL wx (w.heap.size + 1) 0 [.int .i64 0, .slice none 0 0, .slice none 0 0, .slice none 0 0]).heap.size = wx.heap.size := setL_size _ _ _ _
   replace bR := bR.setAll [.int .i64 0, .slice none 0 0, .slice none 0 0, .slice none 0 0] rfl
   generalize setL wx _ 0 _ = w52 at *
   have u0_ := bR.c0
   have u1_ := bR.c1
   have u2_ := bR.c2
   have u3_ := bR.c3
   refine bodyPost_ret (by simp only [results, Tryz.results34]; simp [go_sem, u0_, u1_, u2_, u3_]; rfl) rfl ?_
   exact ⟨_, _, _, by rw [HF.out.2.1, HF.out.2.2.2.2.1, HF.out.2.2.2.2.2], by rw [HF.out.1]; exact Ow.nil_, by rw [HF.out.2.2.1]; exact Ow.nil_, by rw [HF.out.2.2.2.1]; exact Ow.nil_, b0⟩
  ·have HF := Lib.hid (show Fa.tkU st ls (minI m (Fa.run st ls)) = st ++ [Sl.tkV ls (minI m (Fa.run st ls))] ∧ Fa.tkM m ls (minI m (Fa.run st ls)) = m ∧ Sl.tkOk ls (minI m (Fa.run st ls)) = true from by simp [Fa.tkU, Fa.tkM, Sl.tkV, hk])
   clear hk
   have bx_0 := bx.c0
   have bx_1 := bx.c1
   have bx_2 := bx.c2
   have bx_3 := bx.c3
   have bx_z := bx.frozen
   have bx_l := bx.lt
   have bR_0 := bR.c0
   have bR_1 := bR.c1
   have bR_2 := bR.c2
   have bR_3 := bR.c3
   have bR_z := bR.frozen
   have bR_l := bR.lt
   have bT_0 := bT.c0
   have bT_1 := bT.c1
   have bT_z := bT.frozen
   have bT_l := bT.lt
   go_upto_region 4 with fail
   clear bx_0 bx_1 bx_2 bx_3 bx_z bx_l bR_0 bR_1 bR_2 bR_3 bR_z bR_l bT_0 bT_1 bT_z bT_l
   refine wp_region_held_drew (S := fun W => Box W (w.heap.size) 30 [.int .i64 m, .slice At nt dt, .slice A0 n0 d0, .slice A1 n1 d1] ∧ Box W (gT) 28 [.slice A5 n5 d5, .slice A6 n6 d6]) (by kernel_rfl) (show (fun (W : World) => Box W (w.heap.size) 30 [.int .i64 m, .slice At nt dt, .slice A0 n0 d0, .slice A1 n1 d1] ∧ Box W (gT) 28 [.slice A5 n5 d5, .slice A6 n6 d6]) wx.drew from ⟨bx, bT⟩) (fun hHeld => ?_)
   refine wpAnyH_take (i := 0) (v := .pointer (some ⟨w.heap.size, 0, none⟩)) rfl (by kernel_rfl) (by kernel_rfl) (by kernel_rfl) (fun _ _ _ h => h) (Or.inl ⟨by rfl, by intro w hSw; obtain ⟨hS0, hS1⟩ := hSw; have y00 := hS0.c0; have y01 := hS0.c1; have y02 := hS0.c2; have y03 := hS0.c3; have y10 := hS1.c0; have y11 := hS1.c1; go_simp⟩) hHeld ?_
   refine wpAnyH_take (i := 1) (v := .int .i64 m) rfl (by kernel_rfl) (by kernel_rfl) (by kernel_rfl) (fun _ _ _ h => h) (Or.inl ⟨by rfl, by intro w hSw; obtain ⟨hS0, hS1⟩ := hSw; have y00 := hS0.c0; have y01 := hS0.c1; have y02 := hS0.c2; have y03 := hS0.c3; have y10 := hS1.c0; have y11 := hS1.c1; go_simp⟩) hHeld ?_
   refine wpAnyH_take (i := 2) (v := .pointer (some ⟨w.heap.size, 1, none⟩)) rfl (by kernel_rfl) (by kernel_rfl) (by kernel_rfl) (fun _ _ _ h => h) (Or.inl ⟨by rfl, by intro w hSw; obtain ⟨hS0, hS1⟩ := hSw; have y00 := hS0.c0; have y01 := hS0.c1; have y02 := hS0.c2; have y03 := hS0.c3; have y10 := hS1.c0; have y11 := hS1.c1; go_simp⟩) hHeld ?_
   refine wpAnyH_take (i := 3) (v := .slice At nt dt) rfl (by kernel_rfl) (by kernel_rfl) (by kernel_rfl) (fun _ _ _ h => h) (Or.inl ⟨by rfl, by intro w hSw; obtain ⟨hS0, hS1⟩ := hSw; have y00 := hS0.c0; have y01 := hS0.c1; have y02 := hS0.c2; have y03 := hS0.c3; have y10 := hS1.c0; have y11 := hS1.c1; go_simp⟩) hHeld ?_
   refine wpAnyH_take (i := 5) (v := .int .i64 (Sl.tkV ls (minI m (Fa.run st ls)))) rfl (by kernel_rfl) (by kernel_rfl) (by kernel_rfl) (fun _ _ _ h => h) (Or.inl ⟨by rfl, by intro w hSw; obtain ⟨hS0, hS1⟩ := hSw; have y00 := hS0.c0; have y01 := hS0.c1; have y02 := hS0.c2; have y03 := hS0.c3; have y10 := hS1.c0; have y11 := hS1.c1; go_simp⟩) hHeld ?_
   refine wpAnyH_take (i := 8) (v := .agg #[.slice A5 n5 d5, .slice A6 n6 d6]) rfl (by kernel_rfl) (by kernel_rfl) (by kernel_rfl) (fun _ _ _ h => h) (Or.inl ⟨by rfl, by intro w hSw; obtain ⟨hS0, hS1⟩ := hSw; have y00 := hS0.c0; have y01 := hS0.c1; have y02 := hS0.c2; have y03 := hS0.c3; have y10 := hS1.c0; have y11 := hS1.c1; go_simp⟩) hHeld ?_
   refine wpAnyH_take (i := 10) (v := .int .i64 (Sl.tkV ls (minI m (Fa.run st ls)))) rfl (by kernel_rfl) (by kernel_rfl) (by kernel_rfl) (fun _ _ _ h => h) (Or.inl ⟨by rfl, by intro w hSw; obtain ⟨hS0, hS1⟩ := hSw; have y00 := hS0.c0; have y01 := hS0.c1; have y02 := hS0.c2; have y03 := hS0.c3; have y10 := hS1.c0; have y11 := hS1.c1; go_simp⟩) hHeld ?_
   clear hHeld
   refine held_gen (F := fun W' => Below wx.heap.size wx W') (Below.refl wx.heap.size wx).drew ?_
   rintro w52 b_52
   replace bx := bx.below b_52 bx.lt
   replace bR := bR.below b_52 bR.lt
   replace bT := bT.below b_52 bT.lt
   replace ht := ht.below b_52 (by omega)
   replace hs := hs.below b_52 (by omega)
   replace hw := hw.below b_52 (by omega)
   replace o5 := o5.below b_52 (by omega)
   replace o6 := o6.below b_52 (by omega)
   have z_53 := b_52.size
   replace b0 := b0.trans (b_52.mono (by omega))
   clear b_52
   refine wpAnyH_ready (rs := [4, 6]) (by kernel_rfl) (by decide) ?_
   refine AllReadyH.cons rfl (fun K54a hK54a => ?_) (AllReadyH.cons rfl (fun K54b hK54b => ?_) AllReadyH.nil)
   ·go_simp
    refine (copyInts_own wx.heap.size _ st w52 ht (by omega) (by omega) hl).mono ?_; rintro q_ w55 ⟨v3, rfl, o3, b_55⟩
    replace bx := bx.below b_55 bx.lt
    replace bR := bR.below b_55 bR.lt
    replace bT := bT.below b_55 bT.lt
    replace ht := ht.below b_55 (by omega)
    replace hs := hs.below b_55 (by omega)
    replace hw := hw.below b_55 (by omega)
    replace o5 := o5.below b_55 (by omega)
    replace o6 := o6.below b_55 (by omega)
    have z_56 := b_55.size
    replace b0 := b0.trans (b_55.mono (by omega))
    clear b_55
    obtain ⟨A3, n3, d3, rfl, _, _, _⟩ := (Ow.of_own Nm.cells_len o3 rfl rfl).rd.form
    refine hK54a.out _ _ ⟨bx, bT⟩ (fun _ => ?_)
    refine wpAnyH_ready (rs := [6]) (by kernel_rfl) (by decide) ?_
    refine AllReadyH.cons rfl (fun K57 hK57 => ?_) AllReadyH.nil
    go_simp
    have b_58 := (Below.refl w55.heap.size w55).alloc (Nat.le_refl _) (.cells #[.int .i64 (Sl.tkV ls (minI m (Fa.run st ls)))] 3)
    have bL := Box.new w55 #[.int .i64 (Sl.tkV ls (minI m (Fa.run st ls)))] 3 rfl
    replace bx := bx.below b_58 bx.lt
    replace bR := bR.below b_58 bR.lt
    replace bT := bT.below b_58 bT.lt
    replace ht := ht.below b_58 (by omega)
    replace hs := hs.below b_58 (by omega)
    replace hw := hw.below b_58 (by omega)
    replace o5 := o5.below b_58 (by omega)
    replace o6 := o6.below b_58 (by omega)
    replace o3 := own_below o3 b_58
    have z_59 := b_58.size
    replace b0 := b0.trans (b_58.mono (by omega))
    clear b_58
    generalize w55.alloc _ = w58 at *
    generalize w55.heap.size = g58 at *
    refine hK57.out _ _ ⟨bx, bT⟩ (fun _ => ?_)
    refine wpAnyH_ready (rs := [7]) (by kernel_rfl) (by decide) ?_
    refine AllReadyH.cons rfl (fun K60 hK60 => ?_) AllReadyH.nil
    have bL_0 := bL.c0
    refine Nm.appK rfl _ _ rfl wx.heap.size _ st.length _ rfl o3 (g := g58) (Sl.tkV ls (minI m (Fa.run st ls))) rfl bL_0 (by omega) (by omega) ?_
    intro v4 w4 o4 g4
    have oT := Ow.of_own Nm.cells_len o4 (l := st ++ [(Sl.tkV ls (minI m (Fa.run st ls)))]) (by simp [Nm.cells]) (by simp)
    obtain ⟨A4, n4, d4, rfl, _, _, _⟩ := oT.rd.form
    replace bx := bx.grown_own o3 g4 (by decide)
    replace bT := bT.grown_own o3 g4 (by decide)
    replace bR := bR.grown_own o3 g4 (by decide)
    replace o5 := o5.grown_own o3 g4 (by decide)
    replace o6 := o6.grown_own o3 g4 (by decide)
    have z4 := g4.size
    replace b0 := b0.grown g4 (by omega) (fun j hj => by have := own_ge o3 j hj; omega)
    clear bL bL_0 o3 o4 g4 ht hs hw
    refine hK60.out _ _ ⟨bx, bT⟩ (fun _ => ?_)
    have hHeld : (fun (W : World) => Box W (w.heap.size) 30 [.int .i64 m, .slice At nt dt, .slice A0 n0 d0, .slice A1 n1 d1] ∧ Box W (gT) 28 [.slice A5 n5 d5, .slice A6 n6 d6]) w4 := ⟨bx, bT⟩
    refine wpAnyH_take (i := 9) (v := .agg #[.int .i64 m, .slice A4 n4 d4, .slice A5 n5 d5, .slice A6 n6 d6]) rfl (by kernel_rfl) (by kernel_rfl) (by kernel_rfl) (fun _ _ _ h => h) (Or.inl ⟨by rfl, by intro w hSw; obtain ⟨hS0, hS1⟩ := hSw; have y00 := hS0.c0; have y01 := hS0.c1; have y02 := hS0.c2; have y03 := hS0.c3; have y10 := hS1.c0; have y11 := hS1.c1; go_simp⟩) hHeld ?_
    clear hHeld
    refine wpAnyH_ready (rs := [11]) (by kernel_rfl) (by decide) ?_
    refine AllReadyH.cons rfl (fun K61 hK61 => ?_) AllReadyH.nil
    have bx_0 := bx.c0
    have bx_1 := bx.c1
    have bx_2 := bx.c2
    have bx_3 := bx.c3
    have bx_z := bx.frozen
    have bx_l := bx.lt
    have bR_0 := bR.c0
    have bR_1 := bR.c1
    have bR_2 := bR.c2
    have bR_3 := bR.c3
    have bR_z := bR.frozen
    have bR_l := bR.lt
    have bT_0 := bT.c0
    have bT_1 := bT.c1
    have bT_z := bT.frozen
    have bT_l := bT.lt
    go_simp
    clear bx_0 bx_1 bx_2 bx_3 bx_z bx_l bR_0 bR_1 bR_2 bR_3 bR_z bR_l bT_0 bT_1 bT_z bT_l
    generalize hwz : World.setCell (World.setCell (World.setCell (World.setCell _ _ _) _ _) _ _) _ _ = wz_
    obtain rfl : wz_ = setL w4 (w.heap.size + 1) 0 [.int .i64 m, .slice A4 n4 d4, .slice A5 n5 d5, .slice A6 n6 d6] := hwz.symm
    clear hwz
    replace bx := bx.other (b := w.heap.size + 1) (by omega) 0 [.int .i64 m, .slice A4 n4 d4, .slice A5 n5 d5, .slice A6 n6 d6]
    replace bT := bT.other (b := w.heap.size + 1) (by omega) 0 [.int .i64 m, .slice A4 n4 d4, .slice A5 n5 d5, .slice A6 n6 d6]
    replace o5 := o5.box (g := w.heap.size + 1) bR (by decide) 0 [.int .i64 m, .slice A4 n4 d4, .slice A5 n5 d5, .slice A6 n6 d6]
    replace o6 := o6.box (g := w.heap.size + 1) bR (by decide) 0 [.int .i64 m, .slice A4 n4 d4, .slice A5 n5 d5, .slice A6 n6 d6]
    replace oT := oT.box (g := w.heap.size + 1) bR (by decide) 0 [.int .i64 m, .slice A4 n4 d4, .slice A5 n5 d5, .slice A6 n6 d6]
    replace b0 := setL_below b0 [.int .i64 m, .slice A4 n4 d4, .slice A5 n5 d5, .slice A6 n6 d6] (w.heap.size + 1) 0 (by omega)
    have zs_62 : (setL w4 (w.heap.size + 1) 0 [.int .i64 m, .slice A4 n4 d4, .slice A5 n5 d5, .slice A6 n6 d6]).heap.size = w4.heap.size := setL_size _ _ _ _
    replace bR := bR.setAll [.int .i64 m, .slice A4 n4 d4, .slice A5 n5 d5, .slice A6 n6 d6] rfl
    generalize setL w4 _ 0 _ = w62 at *
    refine hK61.out _ _ ⟨bx, bT⟩ (fun _ => ?_)
    refine wpAnyH_ready (rs := [12]) (by kernel_rfl) (by decide) ?_
    refine AllReadyH.cons rfl (fun K63 hK63 => ?_) AllReadyH.nil
    go_simp
    refine hK63.out _ _ ⟨bx, bT⟩ (fun _ => ?_)
    refine wpAnyH_ready (rs := [13]) (by kernel_rfl) (by decide) ?_
    refine AllReadyH.cons rfl (fun K64 hK64 => ?_) AllReadyH.nil
    go_simp
    refine hK64.out _ _ ⟨bx, bT⟩ (fun _ => ?_)
    refine ⟨by kernel_rfl, ?_⟩
    have bx_0 := bx.c0
    have bx_1 := bx.c1
    have bx_2 := bx.c2
    have bx_3 := bx.c3
    have bx_z := bx.frozen
    have bx_l := bx.lt
    have bR_0 := bR.c0
    have bR_1 := bR.c1
    have bR_2 := bR.c2
    have bR_3 := bR.c3
    have bR_z := bR.frozen
    have bR_l := bR.lt
    have bT_0 := bT.c0
    have bT_1 := bT.c1
    have bT_z := bT.frozen
    have bT_l := bT.lt
    go_wp2_with fail
    clear bx_0 bx_1 bx_2 bx_3 bx_z bx_l bR_0 bR_1 bR_2 bR_3 bR_z bR_l bT_0 bT_1 bT_z bT_l
    have u0_ := bR.c0
    have u1_ := bR.c1
    have u2_ := bR.c2
    have u3_ := bR.c3
    refine bodyPost_ret (by simp only [results, Tryz.results34]; simp [go_sem, u0_, u1_, u2_, u3_]; rfl) rfl ?_
    exact ⟨_, _, _, by rw [HF.out.2.1, HF.out.2.2], by rw [HF.out.1]; exact oT.mono (by omega) (by omega), o5.mono (by omega) (by omega), o6.mono (by omega) (by omega), b0⟩
   ·go_simp
    have b_55 := (Below.refl w52.heap.size w52).alloc (Nat.le_refl _) (.cells #[.int .i64 (Sl.tkV ls (minI m (Fa.run st ls)))] 3)
    have bL := Box.new w52 #[.int .i64 (Sl.tkV ls (minI m (Fa.run st ls)))] 3 rfl
    replace bx := bx.below b_55 bx.lt
    replace bR := bR.below b_55 bR.lt
    replace bT := bT.below b_55 bT.lt
    replace ht := ht.below b_55 (by omega)
    replace hs := hs.below b_55 (by omega)
    replace hw := hw.below b_55 (by omega)
    replace o5 := o5.below b_55 (by omega)
    replace o6 := o6.below b_55 (by omega)
    have z_56 := b_55.size
    replace b0 := b0.trans (b_55.mono (by omega))
    clear b_55
    generalize w52.alloc _ = w55 at *
    generalize w52.heap.size = g55 at *
    refine hK54b.out _ _ ⟨bx, bT⟩ (fun _ => ?_)
    refine wpAnyH_ready (rs := [4]) (by kernel_rfl) (by decide) ?_
    refine AllReadyH.cons rfl (fun K57 hK57 => ?_) AllReadyH.nil
    go_simp
    refine (copyInts_own wx.heap.size _ st w55 ht (by omega) (by omega) hl).mono ?_; rintro q_ w58 ⟨v3, rfl, o3, b_58⟩
    replace bx := bx.below b_58 bx.lt
    replace bR := bR.below b_58 bR.lt
    replace bT := bT.below b_58 bT.lt
    replace bL := bL.below b_58 bL.lt
    replace ht := ht.below b_58 (by omega)
    replace hs := hs.below b_58 (by omega)
    replace hw := hw.below b_58 (by omega)
    replace o5 := o5.below b_58 (by omega)
    replace o6 := o6.below b_58 (by omega)
    have z_59 := b_58.size
    replace b0 := b0.trans (b_58.mono (by omega))
    clear b_58
    obtain ⟨A3, n3, d3, rfl, _, _, _⟩ := (Ow.of_own Nm.cells_len o3 rfl rfl).rd.form
    refine hK57.out _ _ ⟨bx, bT⟩ (fun _ => ?_)
    refine wpAnyH_ready (rs := [7]) (by kernel_rfl) (by decide) ?_
    refine AllReadyH.cons rfl (fun K60 hK60 => ?_) AllReadyH.nil
    have bL_0 := bL.c0
    refine Nm.appK rfl _ _ rfl wx.heap.size _ st.length _ rfl o3 (g := g55) (Sl.tkV ls (minI m (Fa.run st ls))) rfl bL_0 (by omega) (by omega) ?_
    intro v4 w4 o4 g4
    have oT := Ow.of_own Nm.cells_len o4 (l := st ++ [(Sl.tkV ls (minI m (Fa.run st ls)))]) (by simp [Nm.cells]) (by simp)
    obtain ⟨A4, n4, d4, rfl, _, _, _⟩ := oT.rd.form
    replace bx := bx.grown_own o3 g4 (by decide)
    replace bT := bT.grown_own o3 g4 (by decide)
    replace bR := bR.grown_own o3 g4 (by decide)
    replace o5 := o5.grown_own o3 g4 (by decide)
    replace o6 := o6.grown_own o3 g4 (by decide)
    have z4 := g4.size
    replace b0 := b0.grown g4 (by omega) (fun j hj => by have := own_ge o3 j hj; omega)
    clear bL bL_0 o3 o4 g4 ht hs hw
    refine hK60.out _ _ ⟨bx, bT⟩ (fun _ => ?_)
    have hHeld : (fun (W : World) => Box W (w.heap.size) 30 [.int .i64 m, .slice At nt dt, .slice A0 n0 d0, .slice A1 n1 d1] ∧ Box W (gT) 28 [.slice A5 n5 d5, .slice A6 n6 d6]) w4 := ⟨bx, bT⟩
    refine wpAnyH_take (i := 9) (v := .agg #[.int .i64 m, .slice A4 n4 d4, .slice A5 n5 d5, .slice A6 n6 d6]) rfl (by kernel_rfl) (by kernel_rfl) (by kernel_rfl) (fun _ _ _ h => h) (Or.inl ⟨by rfl, by intro w hSw; obtain ⟨hS0, hS1⟩ := hSw; have y00 := hS0.c0; have y01 := hS0.c1; have y02 := hS0.c2; have y03 := hS0.c3; have y10 := hS1.c0; have y11 := hS1.c1; go_simp⟩) hHeld ?_
    clear hHeld
    refine wpAnyH_ready (rs := [11]) (by kernel_rfl) (by decide) ?_
    refine AllReadyH.cons rfl (fun K61 hK61 => ?_) AllReadyH.nil
    have bx_0 := bx.c0
    have bx_1 := bx.c1
    have bx_2 := bx.c2
    have bx_3 := bx.c3
    have bx_z := bx.frozen
    have bx_l := bx.lt
    have bR_0 := bR.c0
    have bR_1 := bR.c1
    have bR_2 := bR.c2
    have bR_3 := bR.c3
    have bR_z := bR.frozen
    have bR_l := bR.lt
    have bT_0 := bT.c0
    have bT_1 := bT.c1
    have bT_z := bT.frozen
    have bT_l := bT.lt
    go_simp
    clear bx_0 bx_1 bx_2 bx_3 bx_z bx_l bR_0 bR_1 bR_2 bR_3 bR_z bR_l bT_0 bT_1 bT_z bT_l
    generalize hwz : World.setCell (World.setCell (World.setCell (World.setCell _ _ _) _ _) _ _) _ _ = wz_
    obtain rfl : wz_ = setL w4 (w.heap.size + 1) 0 [.int .i64 m, .slice A4 n4 d4, .slice A5 n5 d5, .slice A6 n6 d6] := hwz.symm
    clear hwz
    replace bx := bx.other (b := w.heap.size + 1) (by omega) 0 [.int .i64 m, .slice A4 n4 d4, .slice A5 n5 d5, .slice A6 n6 d6]
    replace bT := bT.other (b := w.heap.size + 1) (by omega) 0 [.int .i64 m, .slice A4 n4 d4, .slice A5 n5 d5, .slice A6 n6 d6]
    replace o5 := o5.box (g := w.heap.size + 1) bR (by decide) 0 [.int .i64 m, .slice A4 n4 d4, .slice A5 n5 d5, .slice A6 n6 d6]
    replace o6 := o6.box (g := w.heap.size + 1) bR (by decide) 0 [.int .i64 m, .slice A4 n4 d4, .slice A5 n5 d5, .slice A6 n6 d6]
    replace oT := oT.box (g := w.heap.size + 1) bR (by decide) 0 [.int .i64 m, .slice A4 n4 d4, .slice A5 n5 d5, .slice A6 n6 d6]
    replace b0 := setL_below b0 [.int .i64 m, .slice A4 n4 d4, .slice A5 n5 d5, .slice A6 n6 d6] (w.heap.size + 1) 0 (by omega)
    have zs_62 : (setL w4 (w.heap.size + 1) 0 [.int .i64 m, .slice A4 n4 d4, .slice A5 n5 d5, .slice A6 n6 d6]).heap.size = w4.heap.size := setL_size _ _ _ _
    replace bR := bR.setAll [.int .i64 m, .slice A4 n4 d4, .slice A5 n5 d5, .slice A6 n6 d6] rfl
    generalize setL w4 _ 0 _ = w62 at *
    refine hK61.out _ _ ⟨bx, bT⟩ (fun _ => ?_)
    refine wpAnyH_ready (rs := [12]) (by kernel_rfl) (by decide) ?_
    refine AllReadyH.cons rfl (fun K63 hK63 => ?_) AllReadyH.nil
    go_simp
    refine hK63.out _ _ ⟨bx, bT⟩ (fun _ => ?_)
    refine wpAnyH_ready (rs := [13]) (by kernel_rfl) (by decide) ?_
    refine AllReadyH.cons rfl (fun K64 hK64 => ?_) AllReadyH.nil
    go_simp
    refine hK64.out _ _ ⟨bx, bT⟩ (fun _ => ?_)
    refine ⟨by kernel_rfl, ?_⟩
    have bx_0 := bx.c0
    have bx_1 := bx.c1
    have bx_2 := bx.c2
    have bx_3 := bx.c3
    have bx_z := bx.frozen
    have bx_l := bx.lt
    have bR_0 := bR.c0
    have bR_1 := bR.c1
    have bR_2 := bR.c2
    have bR_3 := bR.c3
    have bR_z := bR.frozen
    have bR_l := bR.lt
    have bT_0 := bT.c0
    have bT_1 := bT.c1
    have bT_z := bT.frozen
    have bT_l := bT.lt
    go_wp2_with fail
    clear bx_0 bx_1 bx_2 bx_3 bx_z bx_l bR_0 bR_1 bR_2 bR_3 bR_z bR_l bT_0 bT_1 bT_z bT_l
    have u0_ := bR.c0
    have u1_ := bR.c1
    have u2_ := bR.c2
    have u3_ := bR.c3
    refine bodyPost_ret (by simp only [results, Tryz.results34]; simp [go_sem, u0_, u1_, u2_, u3_]; rfl) rfl ?_
    exact ⟨_, _, _, by rw [HF.out.2.1, HF.out.2.2], by rw [HF.out.1]; exact oT.mono (by omega) (by omega), o5.mono (by omega) (by omega), o6.mono (by omega) (by omega), b0⟩

end Go.Proofs.YtndfmkbpdoohfaaGreat

/- Whether an interface can take an interrupt, in the program and in the reference. Condition: at most 1048576 numbers on the stack and waiters. -/
namespace Go.Proofs.YtndfmkbpdoohfaaGreat
open Go.RowKit Go.ChangeShapes Go.WideShapes Go.Deep

def Fa.ctR (m : Int) (st : List Int) (ls : List Sl) (lw : List Wt) : Bool := Fa.good m st ls lw && Sl.tkOk ls (minI m (Fa.run st ls))
theorem Fa.good_sl {m : Int} {st : List Int} {ls : List Sl} {lw : List Wt} (h : Fa.good m st ls lw = true) : Sl.good ls = true := by
 obtain ⟨_, hq, _⟩ := Fa.good_iff.1 h
 exact (Qu.parts_get (Qu.good_parts hq).1).1
set_option maxHeartbeats 2000000 in
theorem implCanTake_any (m : Int) (vt vs vw : Value) (st : List Int) (ls : List Sl) (lw : List Wt) (w : World) {lo hi lo2 hi2 lo3 hi3 : Nat} (h0 : Rd Nm.cells 1 w lo3 hi3 vt st) (h : Rd Sl.cells 3 w lo hi vs ls) (h2 : Rd Wt.cells 2 w lo2 hi2 vw lw) (hh0 : hi3 ≤ w.heap.size) (hh : hi ≤ w.heap.size) (hh2 : hi2 ≤ w.heap.size) (hl : st.length ≤ 1048576) (hl2 : lw.length ≤ 1048576) :
  Calls Tryz.prog 12 #[.agg #[.int .i64 m, vt, vs, vw]] w fun e w' => e = .returned (.tuple #[.bool (Fa.ctR m st ls lw), .bool (Fa.good m st ls lw)]) ∧ Below w.heap.size w w' := by
 have b0 : Below w.heap.size w (w.alloc (.cells #[.int .i64 m, vt, vs, vw] 30)) := (Below.refl w.heap.size w).alloc (Nat.le_refl _) _
 have z0 : (w.alloc (.cells #[.int .i64 m, vt, vs, vw] 30)).heap.size = w.heap.size + 1 := by simp
 have bx := Box.new w #[.int .i64 m, vt, vs, vw] 30 rfl
 have ht := h0.below b0 hh0
 have hs := h.below b0 hh
 have hw := h2.below b0 hh2
 have hv0_ := h0.form
 have hv_ := h.form
 have hv2_ := h2.form
 clear h0 h h2
 generalize hwA : w.alloc (.cells #[.int .i64 m, vt, vs, vw] 30) = wA at *
 obtain ⟨At, nt, dt, rfl, _, _, _⟩ := hv0_
 obtain ⟨A0, n0, d0, rfl, _, _, _⟩ := hv_
 obtain ⟨A1, n1, d1, rfl, _, _, _⟩ := hv2_
 have c1 := implIsInterface_any m _ _ _ st ls lw wA ht hs hw (by omega) (by omega) (by omega) hl
 cases hg : Fa.good m st ls lw
 ·have HF := Lib.hid (show Fa.ctR m st ls lw = false from by simp [Fa.ctR, hg])
  rw [hg] at c1
  clear hg
  go_enter Tryz.func12, Tryz.ntmps12
  have bx_0 := bx.c0
  have bx_1 := bx.c1
  have bx_2 := bx.c2
  have bx_3 := bx.c3
  have bx_z := bx.frozen
  have bx_l := bx.lt
  go_wp2_with fail
  clear hwA
  clear bx_0 bx_1 bx_2 bx_3 bx_z bx_l
  refine (c1).mono ?_; rintro q_ w1 ⟨rfl, b_1⟩
  replace bx := bx.below b_1 bx.lt
  replace ht := ht.below b_1 (by omega)
  replace hs := hs.below b_1 (by omega)
  replace hw := hw.below b_1 (by omega)
  have z_2 := b_1.size
  replace b0 := b0.trans (b_1.mono (by omega))
  clear b_1
  have bx_0 := bx.c0
  have bx_1 := bx.c1
  have bx_2 := bx.c2
  have bx_3 := bx.c3
  have bx_z := bx.frozen
  have bx_l := bx.lt
  go_wp2_with fail
  clear bx_0 bx_1 bx_2 bx_3 bx_z bx_l
  go_ret2
  exact ⟨by rw [HF.out]; rfl, b0⟩
 ·have HF := Lib.hid (show Fa.ctR m st ls lw = Sl.tkOk ls (minI m (Fa.run st ls)) from by simp [Fa.ctR, hg])
  have HX := Lib.hid (Fa.slots hg)
  have HG := Lib.hid (Fa.good_sl hg)
  rw [hg] at c1
  clear hg
  go_enter Tryz.func12, Tryz.ntmps12
  have bx_0 := bx.c0
  have bx_1 := bx.c1
  have bx_2 := bx.c2
  have bx_3 := bx.c3
  have bx_z := bx.frozen
  have bx_l := bx.lt
  go_wp2_with fail
  clear hwA
  clear bx_0 bx_1 bx_2 bx_3 bx_z bx_l
  refine (c1).mono ?_; rintro q_ w1 ⟨rfl, b_1⟩
  replace bx := bx.below b_1 bx.lt
  replace ht := ht.below b_1 (by omega)
  replace hs := hs.below b_1 (by omega)
  replace hw := hw.below b_1 (by omega)
  have z_2 := b_1.size
  replace b0 := b0.trans (b_1.mono (by omega))
  clear b_1
  have bx_0 := bx.c0
  have bx_1 := bx.c1
  have bx_2 := bx.c2
  have bx_3 := bx.c3
  have bx_z := bx.frozen
  have bx_l := bx.lt
  go_wp2_with fail
  clear bx_0 bx_1 bx_2 bx_3 bx_z bx_l
  refine (implTakeF_in m _ _ _ st ls lw w1 ht hs hw (by omega) (by omega) (by omega) HG.out HX.out hl hl2).mono ?_; rintro q_ w3 ⟨v3, v4, v5, rfl, o3, o4, o5, b_3⟩
  replace bx := bx.below b_3 bx.lt
  replace ht := ht.below b_3 (by omega)
  replace hs := hs.below b_3 (by omega)
  replace hw := hw.below b_3 (by omega)
  have z_4 := b_3.size
  replace b0 := b0.trans (b_3.mono (by omega))
  clear b_3
  obtain ⟨A3, n3, d3, rfl, _, _, _⟩ := o3.rd.form
  obtain ⟨A4, n4, d4, rfl, _, _, _⟩ := o4.rd.form
  obtain ⟨A5, n5, d5, rfl, _, _, _⟩ := o5.rd.form
  have bx_0 := bx.c0
  have bx_1 := bx.c1
  have bx_2 := bx.c2
  have bx_3 := bx.c3
  have bx_z := bx.frozen
  have bx_l := bx.lt
  go_wp2_with fail
  clear bx_0 bx_1 bx_2 bx_3 bx_z bx_l
  have bL := (Below.refl w3.heap.size w3).alloc (Nat.le_refl _) (.cells #[.int .i64 (Fa.tkM m ls (minI m (Fa.run st ls))), .slice A3 n3 d3, .slice A4 n4 d4, .slice A5 n5 d5] 30)
  replace b0 := b0.trans (bL.mono (by omega))
  go_ret2
  exact ⟨by rw [HF.out]; rfl, b0⟩

end Go.Proofs.YtndfmkbpdoohfaaGreat

/- An interface in new memory, and setting its mask, in the program and in the reference. Condition: at most 1048576 numbers, slots and waiters each. -/
namespace Go.Proofs.YtndfmkbpdoohfaaGreat
open Go.RowKit Go.ChangeShapes Go.WideShapes Go.Deep

def Fa.smOk (m : Int) (st : List Int) (ls : List Sl) (lw : List Wt) (k : Int) : Bool := Fa.good m st ls lw && inB k 0 16
def Fa.smM (m : Int) (st : List Int) (ls : List Sl) (lw : List Wt) (k : Int) : Int := if Fa.smOk m st ls lw k then k else 0
def Fa.smT (m : Int) (st : List Int) (ls : List Sl) (lw : List Wt) (k : Int) : List Int := if Fa.smOk m st ls lw k then st else []
def Fa.smS (m : Int) (st : List Int) (ls : List Sl) (lw : List Wt) (k : Int) : List Sl := if Fa.smOk m st ls lw k then ls else []
def Fa.smW (m : Int) (st : List Int) (ls : List Sl) (lw : List Wt) (k : Int) : List Wt := if Fa.smOk m st ls lw k then lw else []
theorem Fa.sm_no {m : Int} {st : List Int} {ls : List Sl} {lw : List Wt} {k : Int} (h : Fa.smOk m st ls lw k = false) : Fa.smOk m st ls lw k = false ∧ Fa.smM m st ls lw k = 0 ∧ Fa.smT m st ls lw k = [] ∧ Fa.smS m st ls lw k = [] ∧ Fa.smW m st ls lw k = [] := by simp [Fa.smM, Fa.smT, Fa.smS, Fa.smW, h]
theorem Fa.sm_yes {m : Int} {st : List Int} {ls : List Sl} {lw : List Wt} {k : Int} (h : Fa.smOk m st ls lw k = true) : Fa.smOk m st ls lw k = true ∧ Fa.smM m st ls lw k = k ∧ Fa.smT m st ls lw k = st ∧ Fa.smS m st ls lw k = ls ∧ Fa.smW m st ls lw k = lw := by simp [Fa.smM, Fa.smT, Fa.smS, Fa.smW, h]

set_option maxHeartbeats 2000000 in
theorem specOwnF_any (m : Int) (vt vs vw : Value) (st : List Int) (ls : List Sl) (lw : List Wt) (w : World) {lo hi lo2 hi2 lo3 hi3 : Nat} (h0 : Rd Nm.cells 1 w lo3 hi3 vt st) (h : Rd Sl.cells 3 w lo hi vs ls) (h2 : Rd Wt.cells 2 w lo2 hi2 vw lw) (hh0 : hi3 ≤ w.heap.size) (hh : hi ≤ w.heap.size) (hh2 : hi2 ≤ w.heap.size) (hl : st.length ≤ 1048576) (hl1 : ls.length ≤ 1048576) (hl2 : lw.length ≤ 1048576) :
  Calls Tryz.prog 60 #[.agg #[.int .i64 m, vt, vs, vw]] w fun e w' => ∃ v0 v1 v2, e = .returned (.agg #[.int .i64 m, v0, v1, v2]) ∧ Ow Nm.cells 1 3 w' w.heap.size w'.heap.size v0 (st) ∧ Ow Sl.cells 3 93 w' w.heap.size w'.heap.size v1 (ls) ∧ Ow Wt.cells 2 107 w' w.heap.size w'.heap.size v2 (lw) ∧ Below w.heap.size w w' := by
 have b0 : Below w.heap.size w ((w.alloc (.cells #[.int .i64 m, vt, vs, vw] 30)).alloc (.cells #[.int .i64 0, .slice none 0 0, .slice none 0 0, .slice none 0 0] 30)) := ((Below.refl w.heap.size w).alloc (Nat.le_refl _) _).alloc (by simp) _
 have z0 : ((w.alloc (.cells #[.int .i64 m, vt, vs, vw] 30)).alloc (.cells #[.int .i64 0, .slice none 0 0, .slice none 0 0, .slice none 0 0] 30)).heap.size = w.heap.size + 2 := by simp
 have bx := Box.new w #[.int .i64 m, vt, vs, vw] 30 rfl
 have bR := Box.new (g := w.heap.size + 1) (w.alloc (.cells #[.int .i64 m, vt, vs, vw] 30)) #[.int .i64 0, .slice none 0 0, .slice none 0 0, .slice none 0 0] 30 (by simp)
 replace bx := bx.below ((Below.refl _ (w.alloc (.cells #[.int .i64 m, vt, vs, vw] 30))).alloc (Nat.le_refl _) (.cells #[.int .i64 0, .slice none 0 0, .slice none 0 0, .slice none 0 0] 30)) bx.lt
 have ht := h0.below b0 hh0
 have hs := h.below b0 hh
 have hw := h2.below b0 hh2
 have hv0_ := h0.form
 have hv_ := h.form
 have hv2_ := h2.form
 clear h0 h h2
 generalize hwA : (w.alloc (.cells #[.int .i64 m, vt, vs, vw] 30)).alloc (.cells #[.int .i64 0, .slice none 0 0, .slice none 0 0, .slice none 0 0] 30) = wA at *
 obtain ⟨At, nt, dt, rfl, _, _, _⟩ := hv0_
 obtain ⟨A0, n0, d0, rfl, _, _, _⟩ := hv_
 obtain ⟨A1, n1, d1, rfl, _, _, _⟩ := hv2_
 go_enter Tryz.func60, Tryz.ntmps60
 have bx_0 := bx.c0
 have bx_1 := bx.c1
 have bx_2 := bx.c2
 have bx_3 := bx.c3
 have bx_z := bx.frozen
 have bx_l := bx.lt
 have bR_0 := bR.c0
 have bR_1 := bR.c1
 have bR_2 := bR.c2
 have bR_3 := bR.c3
 have bR_z := bR.frozen
 have bR_l := bR.lt
 go_upto_region 1 with fail
 clear hwA
 clear bx_0 bx_1 bx_2 bx_3 bx_z bx_l bR_0 bR_1 bR_2 bR_3 bR_z bR_l
 refine wp_region_held_drew (S := fun W => Box W (w.heap.size) 30 [.int .i64 m, .slice At nt dt, .slice A0 n0 d0, .slice A1 n1 d1]) (by kernel_rfl) (show (fun (W : World) => Box W (w.heap.size) 30 [.int .i64 m, .slice At nt dt, .slice A0 n0 d0, .slice A1 n1 d1]) wA.drew from bx) (fun hHeld => ?_)
 refine wpAnyH_take (i := 0) (v := .pointer (some ⟨w.heap.size, 0, none⟩)) rfl (by kernel_rfl) (by kernel_rfl) (by kernel_rfl) (fun _ _ _ h => h) (Or.inl ⟨by rfl, by intro w hSw; have hS0 := hSw; have y00 := hS0.c0; have y01 := hS0.c1; have y02 := hS0.c2; have y03 := hS0.c3; go_simp⟩) hHeld ?_
 refine wpAnyH_take (i := 1) (v := .int .i64 m) rfl (by kernel_rfl) (by kernel_rfl) (by kernel_rfl) (fun _ _ _ h => h) (Or.inl ⟨by rfl, by intro w hSw; have hS0 := hSw; have y00 := hS0.c0; have y01 := hS0.c1; have y02 := hS0.c2; have y03 := hS0.c3; go_simp⟩) hHeld ?_
 refine wpAnyH_take (i := 2) (v := .pointer (some ⟨w.heap.size, 1, none⟩)) rfl (by kernel_rfl) (by kernel_rfl) (by kernel_rfl) (fun _ _ _ h => h) (Or.inl ⟨by rfl, by intro w hSw; have hS0 := hSw; have y00 := hS0.c0; have y01 := hS0.c1; have y02 := hS0.c2; have y03 := hS0.c3; go_simp⟩) hHeld ?_
 refine wpAnyH_take (i := 3) (v := .slice At nt dt) rfl (by kernel_rfl) (by kernel_rfl) (by kernel_rfl) (fun _ _ _ h => h) (Or.inl ⟨by rfl, by intro w hSw; have hS0 := hSw; have y00 := hS0.c0; have y01 := hS0.c1; have y02 := hS0.c2; have y03 := hS0.c3; go_simp⟩) hHeld ?_
 refine wpAnyH_take (i := 5) (v := .pointer (some ⟨w.heap.size, 2, none⟩)) rfl (by kernel_rfl) (by kernel_rfl) (by kernel_rfl) (fun _ _ _ h => h) (Or.inl ⟨by rfl, by intro w hSw; have hS0 := hSw; have y00 := hS0.c0; have y01 := hS0.c1; have y02 := hS0.c2; have y03 := hS0.c3; go_simp⟩) hHeld ?_
 refine wpAnyH_take (i := 6) (v := .agg #[.slice A0 n0 d0, .slice A1 n1 d1]) rfl (by kernel_rfl) (by kernel_rfl) (by kernel_rfl) (fun _ _ _ h => h) (Or.inl ⟨by rfl, by intro w hSw; have hS0 := hSw; have y00 := hS0.c0; have y01 := hS0.c1; have y02 := hS0.c2; have y03 := hS0.c3; go_simp⟩) hHeld ?_
 clear hHeld
 refine held_gen (F := fun W' => Below wA.heap.size wA W') (Below.refl wA.heap.size wA).drew ?_
 rintro w1 b_1
 replace bx := bx.below b_1 bx.lt
 replace bR := bR.below b_1 bR.lt
 replace ht := ht.below b_1 (by omega)
 replace hs := hs.below b_1 (by omega)
 replace hw := hw.below b_1 (by omega)
 have z_2 := b_1.size
 replace b0 := b0.trans (b_1.mono (by omega))
 clear b_1
 refine wpAnyH_ready (rs := [4]) (by kernel_rfl) (by decide) ?_
 refine AllReadyH.cons rfl (fun K3 hK3 => ?_) AllReadyH.nil
 go_simp
 refine (l1Own_any _ st w1 ht (by omega) hl).mono ?_; rintro q_ w4 ⟨v3, rfl, o3, b_4⟩
 replace bx := bx.below b_4 bx.lt
 replace bR := bR.below b_4 bR.lt
 replace ht := ht.below b_4 (by omega)
 replace hs := hs.below b_4 (by omega)
 replace hw := hw.below b_4 (by omega)
 have z_5 := b_4.size
 replace b0 := b0.trans (b_4.mono (by omega))
 clear b_4
 obtain ⟨A3, n3, d3, rfl, _, _, _⟩ := o3.rd.form
 refine hK3.out _ _ bx (fun _ => ?_)
 refine wpAnyH_ready (rs := [7]) (by kernel_rfl) (by decide) ?_
 refine AllReadyH.cons rfl (fun K6 hK6 => ?_) AllReadyH.nil
 go_simp
 refine (specOwn_any _ _ ls lw w4 hs hw (by omega) (by omega) hl1 hl2).mono ?_; rintro q_ w7 ⟨v4, v5, rfl, o4, o5, b_7⟩
 replace bx := bx.below b_7 bx.lt
 replace bR := bR.below b_7 bR.lt
 replace ht := ht.below b_7 (by omega)
 replace hs := hs.below b_7 (by omega)
 replace hw := hw.below b_7 (by omega)
 replace o3 := o3.below b_7 (by omega)
 have z_8 := b_7.size
 replace b0 := b0.trans (b_7.mono (by omega))
 clear b_7
 obtain ⟨A4, n4, d4, rfl, _, _, _⟩ := o4.rd.form
 obtain ⟨A5, n5, d5, rfl, _, _, _⟩ := o5.rd.form
 refine hK6.out _ _ bx (fun _ => ?_)
 refine wpAnyH_ready (rs := [8]) (by kernel_rfl) (by decide) ?_
 refine AllReadyH.cons rfl (fun K9 hK9 => ?_) AllReadyH.nil
 go_simp
 refine hK9.out _ _ bx (fun _ => ?_)
 refine wpAnyH_ready (rs := [9]) (by kernel_rfl) (by decide) ?_
 refine AllReadyH.cons rfl (fun K10 hK10 => ?_) AllReadyH.nil
 have bx_0 := bx.c0
 have bx_1 := bx.c1
 have bx_2 := bx.c2
 have bx_3 := bx.c3
 have bx_z := bx.frozen
 have bx_l := bx.lt
 have bR_0 := bR.c0
 have bR_1 := bR.c1
 have bR_2 := bR.c2
 have bR_3 := bR.c3
 have bR_z := bR.frozen
 have bR_l := bR.lt
 go_simp
 clear bx_0 bx_1 bx_2 bx_3 bx_z bx_l bR_0 bR_1 bR_2 bR_3 bR_z bR_l
 generalize hwz : World.setCell (World.setCell (World.setCell (World.setCell _ _ _) _ _) _ _) _ _ = wz_
 obtain rfl : wz_ = setL w7 (w.heap.size + 1) 0 [.int .i64 m, .slice A3 n3 d3, .slice A4 n4 d4, .slice A5 n5 d5] := hwz.symm
 clear hwz
 replace bx := bx.other (b := w.heap.size + 1) (by omega) 0 [.int .i64 m, .slice A3 n3 d3, .slice A4 n4 d4, .slice A5 n5 d5]
 replace ht := ht.away (g := w.heap.size + 1) (by omega) 0 [.int .i64 m, .slice A3 n3 d3, .slice A4 n4 d4, .slice A5 n5 d5]
 replace hs := hs.away (g := w.heap.size + 1) (by omega) 0 [.int .i64 m, .slice A3 n3 d3, .slice A4 n4 d4, .slice A5 n5 d5]
 replace hw := hw.away (g := w.heap.size + 1) (by omega) 0 [.int .i64 m, .slice A3 n3 d3, .slice A4 n4 d4, .slice A5 n5 d5]
 replace o3 := o3.box (g := w.heap.size + 1) bR (by decide) 0 [.int .i64 m, .slice A3 n3 d3, .slice A4 n4 d4, .slice A5 n5 d5]
 replace o4 := o4.box (g := w.heap.size + 1) bR (by decide) 0 [.int .i64 m, .slice A3 n3 d3, .slice A4 n4 d4, .slice A5 n5 d5]
 replace o5 := o5.box (g := w.heap.size + 1) bR (by decide) 0 [.int .i64 m, .slice A3 n3 d3, .slice A4 n4 d4, .slice A5 n5 d5]
 replace b0 := setL_below b0 [.int .i64 m, .slice A3 n3 d3, .slice A4 n4 d4, .slice A5 n5 d5] (w.heap.size + 1) 0 (by omega)
 have zs_11 : (setL w7 (w.heap.size + 1) 0 [.int .i64 m, .slice A3 n3 d3, .slice A4 n4 d4, .slice A5 n5 d5]).heap.size = w7.heap.size := setL_size _ _ _ _
 replace bR := bR.setAll [.int .i64 m, .slice A3 n3 d3, .slice A4 n4 d4, .slice A5 n5 d5] rfl
 generalize setL w7 _ 0 _ = w11 at *
 refine hK10.out _ _ bx (fun _ => ?_)
 refine ⟨by kernel_rfl, ?_⟩
 have bx_0 := bx.c0
 have bx_1 := bx.c1
 have bx_2 := bx.c2
 have bx_3 := bx.c3
 have bx_z := bx.frozen
 have bx_l := bx.lt
 have bR_0 := bR.c0
 have bR_1 := bR.c1
 have bR_2 := bR.c2
 have bR_3 := bR.c3
 have bR_z := bR.frozen
 have bR_l := bR.lt
 go_wp2_with fail
 clear bx_0 bx_1 bx_2 bx_3 bx_z bx_l bR_0 bR_1 bR_2 bR_3 bR_z bR_l
 have u0_ := bR.c0
 have u1_ := bR.c1
 have u2_ := bR.c2
 have u3_ := bR.c3
 refine bodyPost_ret (by simp only [results, Tryz.results60]; simp [go_sem, u0_, u1_, u2_, u3_]; rfl) rfl ?_
 exact ⟨_, _, _, rfl, o3.mono (by omega) (by omega), o4.mono (by omega) (by omega), o5.mono (by omega) (by omega), b0⟩
set_option maxHeartbeats 2000000 in
theorem implOwnF_any (m : Int) (vt vs vw : Value) (st : List Int) (ls : List Sl) (lw : List Wt) (w : World) {lo hi lo2 hi2 lo3 hi3 : Nat} (h0 : Rd Nm.cells 1 w lo3 hi3 vt st) (h : Rd Sl.cells 3 w lo hi vs ls) (h2 : Rd Wt.cells 2 w lo2 hi2 vw lw) (hh0 : hi3 ≤ w.heap.size) (hh : hi ≤ w.heap.size) (hh2 : hi2 ≤ w.heap.size) (hl : st.length ≤ 1048576) (hl1 : ls.length ≤ 1048576) (hl2 : lw.length ≤ 1048576) :
  Calls Tryz.prog 67 #[.agg #[.int .i64 m, vt, vs, vw]] w fun e w' => ∃ v0 v1 v2, e = .returned (.agg #[.int .i64 m, v0, v1, v2]) ∧ Ow Nm.cells 1 3 w' w.heap.size w'.heap.size v0 (st) ∧ Ow Sl.cells 3 93 w' w.heap.size w'.heap.size v1 (ls) ∧ Ow Wt.cells 2 107 w' w.heap.size w'.heap.size v2 (lw) ∧ Below w.heap.size w w' := by
 have b0 : Below w.heap.size w ((w.alloc (.cells #[.int .i64 m, vt, vs, vw] 30)).alloc (.cells #[.int .i64 0, .slice none 0 0, .slice none 0 0, .slice none 0 0] 30)) := ((Below.refl w.heap.size w).alloc (Nat.le_refl _) _).alloc (by simp) _
 have z0 : ((w.alloc (.cells #[.int .i64 m, vt, vs, vw] 30)).alloc (.cells #[.int .i64 0, .slice none 0 0, .slice none 0 0, .slice none 0 0] 30)).heap.size = w.heap.size + 2 := by simp
 have bx := Box.new w #[.int .i64 m, vt, vs, vw] 30 rfl
 have bR := Box.new (g := w.heap.size + 1) (w.alloc (.cells #[.int .i64 m, vt, vs, vw] 30)) #[.int .i64 0, .slice none 0 0, .slice none 0 0, .slice none 0 0] 30 (by simp)
 replace bx := bx.below ((Below.refl _ (w.alloc (.cells #[.int .i64 m, vt, vs, vw] 30))).alloc (Nat.le_refl _) (.cells #[.int .i64 0, .slice none 0 0, .slice none 0 0, .slice none 0 0] 30)) bx.lt
 have ht := h0.below b0 hh0
 have hs := h.below b0 hh
 have hw := h2.below b0 hh2
 have hv0_ := h0.form
 have hv_ := h.form
 have hv2_ := h2.form
 clear h0 h h2
 generalize hwA : (w.alloc (.cells #[.int .i64 m, vt, vs, vw] 30)).alloc (.cells #[.int .i64 0, .slice none 0 0, .slice none 0 0, .slice none 0 0] 30) = wA at *
 obtain ⟨At, nt, dt, rfl, _, _, _⟩ := hv0_
 obtain ⟨A0, n0, d0, rfl, _, _, _⟩ := hv_
 obtain ⟨A1, n1, d1, rfl, _, _, _⟩ := hv2_
 go_enter Tryz.func67, Tryz.ntmps67
 have bx_0 := bx.c0
 have bx_1 := bx.c1
 have bx_2 := bx.c2
 have bx_3 := bx.c3
 have bx_z := bx.frozen
 have bx_l := bx.lt
 have bR_0 := bR.c0
 have bR_1 := bR.c1
 have bR_2 := bR.c2
 have bR_3 := bR.c3
 have bR_z := bR.frozen
 have bR_l := bR.lt
 go_upto_region 1 with fail
 clear hwA
 clear bx_0 bx_1 bx_2 bx_3 bx_z bx_l bR_0 bR_1 bR_2 bR_3 bR_z bR_l
 refine wp_region_held_drew (S := fun W => Box W (w.heap.size) 30 [.int .i64 m, .slice At nt dt, .slice A0 n0 d0, .slice A1 n1 d1]) (by kernel_rfl) (show (fun (W : World) => Box W (w.heap.size) 30 [.int .i64 m, .slice At nt dt, .slice A0 n0 d0, .slice A1 n1 d1]) wA.drew from bx) (fun hHeld => ?_)
 refine wpAnyH_take (i := 0) (v := .pointer (some ⟨w.heap.size, 0, none⟩)) rfl (by kernel_rfl) (by kernel_rfl) (by kernel_rfl) (fun _ _ _ h => h) (Or.inl ⟨by rfl, by intro w hSw; have hS0 := hSw; have y00 := hS0.c0; have y01 := hS0.c1; have y02 := hS0.c2; have y03 := hS0.c3; go_simp⟩) hHeld ?_
 refine wpAnyH_take (i := 1) (v := .int .i64 m) rfl (by kernel_rfl) (by kernel_rfl) (by kernel_rfl) (fun _ _ _ h => h) (Or.inl ⟨by rfl, by intro w hSw; have hS0 := hSw; have y00 := hS0.c0; have y01 := hS0.c1; have y02 := hS0.c2; have y03 := hS0.c3; go_simp⟩) hHeld ?_
 refine wpAnyH_take (i := 2) (v := .pointer (some ⟨w.heap.size, 1, none⟩)) rfl (by kernel_rfl) (by kernel_rfl) (by kernel_rfl) (fun _ _ _ h => h) (Or.inl ⟨by rfl, by intro w hSw; have hS0 := hSw; have y00 := hS0.c0; have y01 := hS0.c1; have y02 := hS0.c2; have y03 := hS0.c3; go_simp⟩) hHeld ?_
 refine wpAnyH_take (i := 3) (v := .slice At nt dt) rfl (by kernel_rfl) (by kernel_rfl) (by kernel_rfl) (fun _ _ _ h => h) (Or.inl ⟨by rfl, by intro w hSw; have hS0 := hSw; have y00 := hS0.c0; have y01 := hS0.c1; have y02 := hS0.c2; have y03 := hS0.c3; go_simp⟩) hHeld ?_
 refine wpAnyH_take (i := 5) (v := .pointer (some ⟨w.heap.size, 2, none⟩)) rfl (by kernel_rfl) (by kernel_rfl) (by kernel_rfl) (fun _ _ _ h => h) (Or.inl ⟨by rfl, by intro w hSw; have hS0 := hSw; have y00 := hS0.c0; have y01 := hS0.c1; have y02 := hS0.c2; have y03 := hS0.c3; go_simp⟩) hHeld ?_
 refine wpAnyH_take (i := 6) (v := .agg #[.slice A0 n0 d0, .slice A1 n1 d1]) rfl (by kernel_rfl) (by kernel_rfl) (by kernel_rfl) (fun _ _ _ h => h) (Or.inl ⟨by rfl, by intro w hSw; have hS0 := hSw; have y00 := hS0.c0; have y01 := hS0.c1; have y02 := hS0.c2; have y03 := hS0.c3; go_simp⟩) hHeld ?_
 clear hHeld
 refine held_gen (F := fun W' => Below wA.heap.size wA W') (Below.refl wA.heap.size wA).drew ?_
 rintro w1 b_1
 replace bx := bx.below b_1 bx.lt
 replace bR := bR.below b_1 bR.lt
 replace ht := ht.below b_1 (by omega)
 replace hs := hs.below b_1 (by omega)
 replace hw := hw.below b_1 (by omega)
 have z_2 := b_1.size
 replace b0 := b0.trans (b_1.mono (by omega))
 clear b_1
 refine wpAnyH_ready (rs := [4]) (by kernel_rfl) (by decide) ?_
 refine AllReadyH.cons rfl (fun K3 hK3 => ?_) AllReadyH.nil
 go_simp
 refine (copyInts_any _ st w1 ht (by omega) hl).mono ?_; rintro q_ w4 ⟨v3, rfl, o3, b_4⟩
 replace bx := bx.below b_4 bx.lt
 replace bR := bR.below b_4 bR.lt
 replace ht := ht.below b_4 (by omega)
 replace hs := hs.below b_4 (by omega)
 replace hw := hw.below b_4 (by omega)
 have z_5 := b_4.size
 replace b0 := b0.trans (b_4.mono (by omega))
 clear b_4
 obtain ⟨A3, n3, d3, rfl, _, _, _⟩ := o3.rd.form
 refine hK3.out _ _ bx (fun _ => ?_)
 refine wpAnyH_ready (rs := [7]) (by kernel_rfl) (by decide) ?_
 refine AllReadyH.cons rfl (fun K6 hK6 => ?_) AllReadyH.nil
 go_simp
 refine (implOwn_any _ _ ls lw w4 hs hw (by omega) (by omega) hl1 hl2).mono ?_; rintro q_ w7 ⟨v4, v5, rfl, o4, o5, b_7⟩
 replace bx := bx.below b_7 bx.lt
 replace bR := bR.below b_7 bR.lt
 replace ht := ht.below b_7 (by omega)
 replace hs := hs.below b_7 (by omega)
 replace hw := hw.below b_7 (by omega)
 replace o3 := o3.below b_7 (by omega)
 have z_8 := b_7.size
 replace b0 := b0.trans (b_7.mono (by omega))
 clear b_7
 obtain ⟨A4, n4, d4, rfl, _, _, _⟩ := o4.rd.form
 obtain ⟨A5, n5, d5, rfl, _, _, _⟩ := o5.rd.form
 refine hK6.out _ _ bx (fun _ => ?_)
 refine wpAnyH_ready (rs := [8]) (by kernel_rfl) (by decide) ?_
 refine AllReadyH.cons rfl (fun K9 hK9 => ?_) AllReadyH.nil
 go_simp
 refine hK9.out _ _ bx (fun _ => ?_)
 refine wpAnyH_ready (rs := [9]) (by kernel_rfl) (by decide) ?_
 refine AllReadyH.cons rfl (fun K10 hK10 => ?_) AllReadyH.nil
 have bx_0 := bx.c0
 have bx_1 := bx.c1
 have bx_2 := bx.c2
 have bx_3 := bx.c3
 have bx_z := bx.frozen
 have bx_l := bx.lt
 have bR_0 := bR.c0
 have bR_1 := bR.c1
 have bR_2 := bR.c2
 have bR_3 := bR.c3
 have bR_z := bR.frozen
 have bR_l := bR.lt
 go_simp
 clear bx_0 bx_1 bx_2 bx_3 bx_z bx_l bR_0 bR_1 bR_2 bR_3 bR_z bR_l
 generalize hwz : World.setCell (World.setCell (World.setCell (World.setCell _ _ _) _ _) _ _) _ _ = wz_
 obtain rfl : wz_ = setL w7 (w.heap.size + 1) 0 [.int .i64 m, .slice A3 n3 d3, .slice A4 n4 d4, .slice A5 n5 d5] := hwz.symm
 clear hwz
 replace bx := bx.other (b := w.heap.size + 1) (by omega) 0 [.int .i64 m, .slice A3 n3 d3, .slice A4 n4 d4, .slice A5 n5 d5]
 replace ht := ht.away (g := w.heap.size + 1) (by omega) 0 [.int .i64 m, .slice A3 n3 d3, .slice A4 n4 d4, .slice A5 n5 d5]
 replace hs := hs.away (g := w.heap.size + 1) (by omega) 0 [.int .i64 m, .slice A3 n3 d3, .slice A4 n4 d4, .slice A5 n5 d5]
 replace hw := hw.away (g := w.heap.size + 1) (by omega) 0 [.int .i64 m, .slice A3 n3 d3, .slice A4 n4 d4, .slice A5 n5 d5]
 replace o3 := o3.box (g := w.heap.size + 1) bR (by decide) 0 [.int .i64 m, .slice A3 n3 d3, .slice A4 n4 d4, .slice A5 n5 d5]
 replace o4 := o4.box (g := w.heap.size + 1) bR (by decide) 0 [.int .i64 m, .slice A3 n3 d3, .slice A4 n4 d4, .slice A5 n5 d5]
 replace o5 := o5.box (g := w.heap.size + 1) bR (by decide) 0 [.int .i64 m, .slice A3 n3 d3, .slice A4 n4 d4, .slice A5 n5 d5]
 replace b0 := setL_below b0 [.int .i64 m, .slice A3 n3 d3, .slice A4 n4 d4, .slice A5 n5 d5] (w.heap.size + 1) 0 (by omega)
 have zs_11 : (setL w7 (w.heap.size + 1) 0 [.int .i64 m, .slice A3 n3 d3, .slice A4 n4 d4, .slice A5 n5 d5]).heap.size = w7.heap.size := setL_size _ _ _ _
 replace bR := bR.setAll [.int .i64 m, .slice A3 n3 d3, .slice A4 n4 d4, .slice A5 n5 d5] rfl
 generalize setL w7 _ 0 _ = w11 at *
 refine hK10.out _ _ bx (fun _ => ?_)
 refine ⟨by kernel_rfl, ?_⟩
 have bx_0 := bx.c0
 have bx_1 := bx.c1
 have bx_2 := bx.c2
 have bx_3 := bx.c3
 have bx_z := bx.frozen
 have bx_l := bx.lt
 have bR_0 := bR.c0
 have bR_1 := bR.c1
 have bR_2 := bR.c2
 have bR_3 := bR.c3
 have bR_z := bR.frozen
 have bR_l := bR.lt
 go_wp2_with fail
 clear bx_0 bx_1 bx_2 bx_3 bx_z bx_l bR_0 bR_1 bR_2 bR_3 bR_z bR_l
 have u0_ := bR.c0
 have u1_ := bR.c1
 have u2_ := bR.c2
 have u3_ := bR.c3
 refine bodyPost_ret (by simp only [results, Tryz.results67]; simp [go_sem, u0_, u1_, u2_, u3_]; rfl) rfl ?_
 exact ⟨_, _, _, rfl, o3.mono (by omega) (by omega), o4.mono (by omega) (by omega), o5.mono (by omega) (by omega), b0⟩
set_option maxHeartbeats 2000000 in
theorem implSetF_any (m : Int) (vt vs vw : Value) (st : List Int) (ls : List Sl) (lw : List Wt) (w : World) {lo hi lo2 hi2 lo3 hi3 : Nat} (h0 : Rd Nm.cells 1 w lo3 hi3 vt st) (h : Rd Sl.cells 3 w lo hi vs ls) (h2 : Rd Wt.cells 2 w lo2 hi2 vw lw) (hh0 : hi3 ≤ w.heap.size) (hh : hi ≤ w.heap.size) (hh2 : hi2 ≤ w.heap.size) (k : Int) (hl : st.length ≤ 1048576) (hl1 : ls.length ≤ 1048576) (hl2 : lw.length ≤ 1048576) :
  Calls Tryz.prog 58 #[.agg #[.int .i64 m, vt, vs, vw], .int .i64 k] w fun e w' => ∃ v0 v1 v2, e = .returned (.agg #[.int .i64 k, v0, v1, v2]) ∧ Ow Nm.cells 1 3 w' w.heap.size w'.heap.size v0 (st) ∧ Ow Sl.cells 3 93 w' w.heap.size w'.heap.size v1 (ls) ∧ Ow Wt.cells 2 107 w' w.heap.size w'.heap.size v2 (lw) ∧ Below w.heap.size w w' := by
 have b0 : Below w.heap.size w ((w.alloc (.cells #[.int .i64 m, vt, vs, vw] 30)).alloc (.cells #[.int .i64 0, .slice none 0 0, .slice none 0 0, .slice none 0 0] 30)) := ((Below.refl w.heap.size w).alloc (Nat.le_refl _) _).alloc (by simp) _
 have z0 : ((w.alloc (.cells #[.int .i64 m, vt, vs, vw] 30)).alloc (.cells #[.int .i64 0, .slice none 0 0, .slice none 0 0, .slice none 0 0] 30)).heap.size = w.heap.size + 2 := by simp
 have bx := Box.new w #[.int .i64 m, vt, vs, vw] 30 rfl
 have bR := Box.new (g := w.heap.size + 1) (w.alloc (.cells #[.int .i64 m, vt, vs, vw] 30)) #[.int .i64 0, .slice none 0 0, .slice none 0 0, .slice none 0 0] 30 (by simp)
 replace bx := bx.below ((Below.refl _ (w.alloc (.cells #[.int .i64 m, vt, vs, vw] 30))).alloc (Nat.le_refl _) (.cells #[.int .i64 0, .slice none 0 0, .slice none 0 0, .slice none 0 0] 30)) bx.lt
 have ht := h0.below b0 hh0
 have hs := h.below b0 hh
 have hw := h2.below b0 hh2
 have hv0_ := h0.form
 have hv_ := h.form
 have hv2_ := h2.form
 clear h0 h h2
 generalize hwA : (w.alloc (.cells #[.int .i64 m, vt, vs, vw] 30)).alloc (.cells #[.int .i64 0, .slice none 0 0, .slice none 0 0, .slice none 0 0] 30) = wA at *
 obtain ⟨At, nt, dt, rfl, _, _, _⟩ := hv0_
 obtain ⟨A0, n0, d0, rfl, _, _, _⟩ := hv_
 obtain ⟨A1, n1, d1, rfl, _, _, _⟩ := hv2_
 go_enter Tryz.func58, Tryz.ntmps58
 have bx_0 := bx.c0
 have bx_1 := bx.c1
 have bx_2 := bx.c2
 have bx_3 := bx.c3
 have bx_z := bx.frozen
 have bx_l := bx.lt
 have bR_0 := bR.c0
 have bR_1 := bR.c1
 have bR_2 := bR.c2
 have bR_3 := bR.c3
 have bR_z := bR.frozen
 have bR_l := bR.lt
 go_wp2_with fail
 clear hwA
 clear bx_0 bx_1 bx_2 bx_3 bx_z bx_l bR_0 bR_1 bR_2 bR_3 bR_z bR_l
 refine (implOwnF_any m _ _ _ st ls lw wA ht hs hw (by omega) (by omega) (by omega) hl hl1 hl2).mono ?_; rintro q_ w1 ⟨v3, v4, v5, rfl, o3, o4, o5, b_1⟩
 replace bx := bx.below b_1 bx.lt
 replace bR := bR.below b_1 bR.lt
 replace ht := ht.below b_1 (by omega)
 replace hs := hs.below b_1 (by omega)
 replace hw := hw.below b_1 (by omega)
 have z_2 := b_1.size
 replace b0 := b0.trans (b_1.mono (by omega))
 clear b_1
 obtain ⟨A3, n3, d3, rfl, _, _, _⟩ := o3.rd.form
 obtain ⟨A4, n4, d4, rfl, _, _, _⟩ := o4.rd.form
 obtain ⟨A5, n5, d5, rfl, _, _, _⟩ := o5.rd.form
 have bx_0 := bx.c0
 have bx_1 := bx.c1
 have bx_2 := bx.c2
 have bx_3 := bx.c3
 have bx_z := bx.frozen
 have bx_l := bx.lt
 have bR_0 := bR.c0
 have bR_1 := bR.c1
 have bR_2 := bR.c2
 have bR_3 := bR.c3
 have bR_z := bR.frozen
 have bR_l := bR.lt
 go_upto_region 2 with fail
 clear bx_0 bx_1 bx_2 bx_3 bx_z bx_l bR_0 bR_1 bR_2 bR_3 bR_z bR_l
 have b_3 := (Below.refl w1.heap.size w1).alloc (Nat.le_refl _) (.cells #[.int .i64 m, .slice A3 n3 d3, .slice A4 n4 d4, .slice A5 n5 d5] 30)
 have bO := Box.new w1 #[.int .i64 m, .slice A3 n3 d3, .slice A4 n4 d4, .slice A5 n5 d5] 30 rfl
 replace bx := bx.below b_3 bx.lt
 replace bR := bR.below b_3 bR.lt
 replace ht := ht.below b_3 (by omega)
 replace hs := hs.below b_3 (by omega)
 replace hw := hw.below b_3 (by omega)
 replace o3 := o3.below b_3 (by omega)
 replace o4 := o4.below b_3 (by omega)
 replace o5 := o5.below b_3 (by omega)
 have z_4 := b_3.size
 replace b0 := b0.trans (b_3.mono (by omega))
 clear b_3
 generalize w1.alloc _ = w3 at *
 generalize w1.heap.size = g3 at *
 have bx_0 := bx.c0
 have bx_1 := bx.c1
 have bx_2 := bx.c2
 have bx_3 := bx.c3
 have bx_z := bx.frozen
 have bx_l := bx.lt
 have bR_0 := bR.c0
 have bR_1 := bR.c1
 have bR_2 := bR.c2
 have bR_3 := bR.c3
 have bR_z := bR.frozen
 have bR_l := bR.lt
 have bO_0 := bO.c0
 have bO_1 := bO.c1
 have bO_2 := bO.c2
 have bO_3 := bO.c3
 have bO_z := bO.frozen
 have bO_l := bO.lt
 go_upto_region 3 with fail
 clear bx_0 bx_1 bx_2 bx_3 bx_z bx_l bR_0 bR_1 bR_2 bR_3 bR_z bR_l bO_0 bO_1 bO_2 bO_3 bO_z bO_l
 generalize hwz : World.setCell _ _ _ = wz_
 obtain rfl : wz_ = setL w3 (g3) 0 [.int .i64 k] := hwz.symm
 clear hwz
 replace bx := bx.other (b := g3) (by omega) 0 [.int .i64 k]
 replace bR := bR.other (b := g3) (by omega) 0 [.int .i64 k]
 replace ht := ht.away (g := g3) (by omega) 0 [.int .i64 k]
 replace hs := hs.away (g := g3) (by omega) 0 [.int .i64 k]
 replace hw := hw.away (g := g3) (by omega) 0 [.int .i64 k]
 replace o3 := o3.box (g := g3) bO (by decide) 0 [.int .i64 k]
 replace o4 := o4.box (g := g3) bO (by decide) 0 [.int .i64 k]
 replace o5 := o5.box (g := g3) bO (by decide) 0 [.int .i64 k]
 replace b0 := setL_below b0 [.int .i64 k] (g3) 0 (by omega)
 have zs_5 : (setL w3 (g3) 0 [.int .i64 k]).heap.size = w3.heap.size := setL_size _ _ _ _
 replace bO := bO.set1 (j := 0) (.int .i64 k) (by simp)
 generalize setL w3 _ 0 _ = w5 at *
 have bx_0 := bx.c0
 have bx_1 := bx.c1
 have bx_2 := bx.c2
 have bx_3 := bx.c3
 have bx_z := bx.frozen
 have bx_l := bx.lt
 have bR_0 := bR.c0
 have bR_1 := bR.c1
 have bR_2 := bR.c2
 have bR_3 := bR.c3
 have bR_z := bR.frozen
 have bR_l := bR.lt
 have bO_0 := bO.c0
 have bO_1 := bO.c1
 have bO_2 := bO.c2
 have bO_3 := bO.c3
 have bO_z := bO.frozen
 have bO_l := bO.lt
 go_wp2_with fail
 clear bx_0 bx_1 bx_2 bx_3 bx_z bx_l bR_0 bR_1 bR_2 bR_3 bR_z bR_l bO_0 bO_1 bO_2 bO_3 bO_z bO_l
 generalize hwz : World.setCell (World.setCell (World.setCell (World.setCell _ _ _) _ _) _ _) _ _ = wz_
 obtain rfl : wz_ = setL w5 (w.heap.size + 1) 0 [.int .i64 k, .slice A3 n3 d3, .slice A4 n4 d4, .slice A5 n5 d5] := hwz.symm
 clear hwz
 replace bx := bx.other (b := w.heap.size + 1) (by omega) 0 [.int .i64 k, .slice A3 n3 d3, .slice A4 n4 d4, .slice A5 n5 d5]
 replace bO := bO.other (b := w.heap.size + 1) (by omega) 0 [.int .i64 k, .slice A3 n3 d3, .slice A4 n4 d4, .slice A5 n5 d5]
 replace ht := ht.away (g := w.heap.size + 1) (by omega) 0 [.int .i64 k, .slice A3 n3 d3, .slice A4 n4 d4, .slice A5 n5 d5]
 replace hs := hs.away (g := w.heap.size + 1) (by omega) 0 [.int .i64 k, .slice A3 n3 d3, .slice A4 n4 d4, .slice A5 n5 d5]
 replace hw := hw.away (g := w.heap.size + 1) (by omega) 0 [.int .i64 k, .slice A3 n3 d3, .slice A4 n4 d4, .slice A5 n5 d5]
 replace o3 := o3.box (g := w.heap.size + 1) bR (by decide) 0 [.int .i64 k, .slice A3 n3 d3, .slice A4 n4 d4, .slice A5 n5 d5]
 replace o4 := o4.box (g := w.heap.size + 1) bR (by decide) 0 [.int .i64 k, .slice A3 n3 d3, .slice A4 n4 d4, .slice A5 n5 d5]
 replace o5 := o5.box (g := w.heap.size + 1) bR (by decide) 0 [.int .i64 k, .slice A3 n3 d3, .slice A4 n4 d4, .slice A5 n5 d5]
 replace b0 := setL_below b0 [.int .i64 k, .slice A3 n3 d3, .slice A4 n4 d4, .slice A5 n5 d5] (w.heap.size + 1) 0 (by omega)
 have zs_6 : (setL w5 (w.heap.size + 1) 0 [.int .i64 k, .slice A3 n3 d3, .slice A4 n4 d4, .slice A5 n5 d5]).heap.size = w5.heap.size := setL_size _ _ _ _
 replace bR := bR.setAll [.int .i64 k, .slice A3 n3 d3, .slice A4 n4 d4, .slice A5 n5 d5] rfl
 generalize setL w5 _ 0 _ = w6 at *
 have u0_ := bR.c0
 have u1_ := bR.c1
 have u2_ := bR.c2
 have u3_ := bR.c3
 refine bodyPost_ret (by simp only [results, Tryz.results58]; simp [go_sem, u0_, u1_, u2_, u3_]; rfl) rfl ?_
 exact ⟨_, _, _, rfl, o3.mono (by omega) (by omega), o4.mono (by omega) (by omega), o5.mono (by omega) (by omega), b0⟩
set_option maxHeartbeats 2000000 in
theorem implSetMask_any (m : Int) (vt vs vw : Value) (st : List Int) (ls : List Sl) (lw : List Wt) (w : World) {lo hi lo2 hi2 lo3 hi3 : Nat} (h0 : Rd Nm.cells 1 w lo3 hi3 vt st) (h : Rd Sl.cells 3 w lo hi vs ls) (h2 : Rd Wt.cells 2 w lo2 hi2 vw lw) (hh0 : hi3 ≤ w.heap.size) (hh : hi ≤ w.heap.size) (hh2 : hi2 ≤ w.heap.size) (k : Int) (hl : st.length ≤ 1048576) (hl1 : ls.length ≤ 1048576) (hl2 : lw.length ≤ 1048576) :
  Calls Tryz.prog 24 #[.agg #[.int .i64 m, vt, vs, vw], .int .i64 k] w fun e w' => ∃ v0 v1 v2, e = .returned (.tuple #[.agg #[.int .i64 (Fa.smM m st ls lw k), v0, v1, v2], .bool (Fa.smOk m st ls lw k)]) ∧ Ow Nm.cells 1 3 w' w.heap.size w'.heap.size v0 (Fa.smT m st ls lw k) ∧ Ow Sl.cells 3 93 w' w.heap.size w'.heap.size v1 (Fa.smS m st ls lw k) ∧ Ow Wt.cells 2 107 w' w.heap.size w'.heap.size v2 (Fa.smW m st ls lw k) ∧ Below w.heap.size w w' := by
 have b0 : Below w.heap.size w ((w.alloc (.cells #[.int .i64 m, vt, vs, vw] 30)).alloc (.cells #[.int .i64 0, .slice none 0 0, .slice none 0 0, .slice none 0 0] 30)) := ((Below.refl w.heap.size w).alloc (Nat.le_refl _) _).alloc (by simp) _
 have z0 : ((w.alloc (.cells #[.int .i64 m, vt, vs, vw] 30)).alloc (.cells #[.int .i64 0, .slice none 0 0, .slice none 0 0, .slice none 0 0] 30)).heap.size = w.heap.size + 2 := by simp
 have bx := Box.new w #[.int .i64 m, vt, vs, vw] 30 rfl
 have bR := Box.new (g := w.heap.size + 1) (w.alloc (.cells #[.int .i64 m, vt, vs, vw] 30)) #[.int .i64 0, .slice none 0 0, .slice none 0 0, .slice none 0 0] 30 (by simp)
 replace bx := bx.below ((Below.refl _ (w.alloc (.cells #[.int .i64 m, vt, vs, vw] 30))).alloc (Nat.le_refl _) (.cells #[.int .i64 0, .slice none 0 0, .slice none 0 0, .slice none 0 0] 30)) bx.lt
 have ht := h0.below b0 hh0
 have hs := h.below b0 hh
 have hw := h2.below b0 hh2
 have hv0_ := h0.form
 have hv_ := h.form
 have hv2_ := h2.form
 clear h0 h h2
 generalize hwA : (w.alloc (.cells #[.int .i64 m, vt, vs, vw] 30)).alloc (.cells #[.int .i64 0, .slice none 0 0, .slice none 0 0, .slice none 0 0] 30) = wA at *
 obtain ⟨At, nt, dt, rfl, _, _, _⟩ := hv0_
 obtain ⟨A0, n0, d0, rfl, _, _, _⟩ := hv_
 obtain ⟨A1, n1, d1, rfl, _, _, _⟩ := hv2_
 have c1 := implIsInterface_any m _ _ _ st ls lw wA ht hs hw (by omega) (by omega) (by omega) hl
 cases hg : Fa.good m st ls lw
 ·have HF := Lib.hid (Fa.sm_no (m := m) (st := st) (ls := ls) (lw := lw) (k := k) (by simp [Fa.smOk, hg]))
  rw [hg] at c1
  clear hg
  go_enter Tryz.func24, Tryz.ntmps24
  have bx_0 := bx.c0
  have bx_1 := bx.c1
  have bx_2 := bx.c2
  have bx_3 := bx.c3
  have bx_z := bx.frozen
  have bx_l := bx.lt
  have bR_0 := bR.c0
  have bR_1 := bR.c1
  have bR_2 := bR.c2
  have bR_3 := bR.c3
  have bR_z := bR.frozen
  have bR_l := bR.lt
  go_wp2_with fail
  clear hwA
  clear bx_0 bx_1 bx_2 bx_3 bx_z bx_l bR_0 bR_1 bR_2 bR_3 bR_z bR_l
  refine (c1).mono ?_; rintro q_ w1 ⟨rfl, b_1⟩
  replace bx := bx.below b_1 bx.lt
  replace bR := bR.below b_1 bR.lt
  replace ht := ht.below b_1 (by omega)
  replace hs := hs.below b_1 (by omega)
  replace hw := hw.below b_1 (by omega)
  have z_2 := b_1.size
  replace b0 := b0.trans (b_1.mono (by omega))
  clear b_1
  have bx_0 := bx.c0
  have bx_1 := bx.c1
  have bx_2 := bx.c2
  have bx_3 := bx.c3
  have bx_z := bx.frozen
  have bx_l := bx.lt
  have bR_0 := bR.c0
  have bR_1 := bR.c1
  have bR_2 := bR.c2
  have bR_3 := bR.c3
  have bR_z := bR.frozen
  have bR_l := bR.lt
  go_wp2_with fail
  clear bx_0 bx_1 bx_2 bx_3 bx_z bx_l bR_0 bR_1 bR_2 bR_3 bR_z bR_l
  generalize hwz : World.setCell (World.setCell (World.setCell (World.setCell _ _ _) _ _) _ _) _ _ = wz_
  obtain rfl : wz_ = setL w1 (w.heap.size + 1) 0 [.int .i64 0, .slice none 0 0, .slice none 0 0, .slice none 0 0] := hwz.symm
  clear hwz
  replace bx := bx.other (b := w.heap.size + 1) (by omega) 0 [.int .i64 0, .slice none 0 0, .slice none 0 0, .slice none 0 0]
  replace ht := ht.away (g := w.heap.size + 1) (by omega) 0 [.int .i64 0, .slice none 0 0, .slice none 0 0, .slice none 0 0]
  replace hs := hs.away (g := w.heap.size + 1) (by omega) 0 [.int .i64 0, .slice none 0 0, .slice none 0 0, .slice none 0 0]
  replace hw := hw.away (g := w.heap.size + 1) (by omega) 0 [.int .i64 0, .slice none 0 0, .slice none 0 0, .slice none 0 0]
  replace b0 := setL_below b0 [.int .i64 0, .slice none 0 0, .slice none 0 0, .slice none 0 0] (w.heap.size + 1) 0 (by omega)
  have zs_3 : (setL w1 (w.heap.size + 1) 0 [.int .i64 0, .slice none 0 0, .slice none 0 0, .slice none 0 0]).heap.size = w1.heap.size := setL_size _ _ _ _
  replace bR := bR.setAll [.int .i64 0, .slice none 0 0, .slice none 0 0, .slice none 0 0] rfl
  generalize setL w1 _ 0 _ = w3 at *
  have u0_ := bR.c0
  have u1_ := bR.c1
  have u2_ := bR.c2
  have u3_ := bR.c3
  refine bodyPost_ret (by simp only [results, Tryz.results24]; simp [go_sem, u0_, u1_, u2_, u3_]; rfl) rfl ?_
  exact ⟨_, _, _, by rw [HF.out.1, HF.out.2.1], by rw [HF.out.2.2.1]; exact Ow.nil_, by rw [HF.out.2.2.2.1]; exact Ow.nil_, by rw [HF.out.2.2.2.2]; exact Ow.nil_, b0⟩
 ·cases hk : inB k 0 16
  ·have HF := Lib.hid (Fa.sm_no (m := m) (st := st) (ls := ls) (lw := lw) (k := k) (by simp [Fa.smOk, hg, hk]))
   rw [hg] at c1
   have c2 := fun W => isMask_any k W
   rw [hk] at c2
   clear hg hk
   go_enter Tryz.func24, Tryz.ntmps24
   have bx_0 := bx.c0
   have bx_1 := bx.c1
   have bx_2 := bx.c2
   have bx_3 := bx.c3
   have bx_z := bx.frozen
   have bx_l := bx.lt
   have bR_0 := bR.c0
   have bR_1 := bR.c1
   have bR_2 := bR.c2
   have bR_3 := bR.c3
   have bR_z := bR.frozen
   have bR_l := bR.lt
   go_wp2_with fail
   clear hwA
   clear bx_0 bx_1 bx_2 bx_3 bx_z bx_l bR_0 bR_1 bR_2 bR_3 bR_z bR_l
   refine (c1).mono ?_; rintro q_ w1 ⟨rfl, b_1⟩
   replace bx := bx.below b_1 bx.lt
   replace bR := bR.below b_1 bR.lt
   replace ht := ht.below b_1 (by omega)
   replace hs := hs.below b_1 (by omega)
   replace hw := hw.below b_1 (by omega)
   have z_2 := b_1.size
   replace b0 := b0.trans (b_1.mono (by omega))
   clear b_1
   have bx_0 := bx.c0
   have bx_1 := bx.c1
   have bx_2 := bx.c2
   have bx_3 := bx.c3
   have bx_z := bx.frozen
   have bx_l := bx.lt
   have bR_0 := bR.c0
   have bR_1 := bR.c1
   have bR_2 := bR.c2
   have bR_3 := bR.c3
   have bR_z := bR.frozen
   have bR_l := bR.lt
   go_wp2_with fail
   clear bx_0 bx_1 bx_2 bx_3 bx_z bx_l bR_0 bR_1 bR_2 bR_3 bR_z bR_l
   refine (c2 w1).mono ?_; rintro q_ w_ ⟨rfl, rfl⟩
   have bx_0 := bx.c0
   have bx_1 := bx.c1
   have bx_2 := bx.c2
   have bx_3 := bx.c3
   have bx_z := bx.frozen
   have bx_l := bx.lt
   have bR_0 := bR.c0
   have bR_1 := bR.c1
   have bR_2 := bR.c2
   have bR_3 := bR.c3
   have bR_z := bR.frozen
   have bR_l := bR.lt
   go_wp2_with fail
   clear bx_0 bx_1 bx_2 bx_3 bx_z bx_l bR_0 bR_1 bR_2 bR_3 bR_z bR_l
   generalize hwz : World.setCell (World.setCell (World.setCell (World.setCell _ _ _) _ _) _ _) _ _ = wz_
   obtain rfl : wz_ = setL w1 (w.heap.size + 1) 0 [.int .i64 0, .slice none 0 0, .slice none 0 0, .slice none 0 0] := hwz.symm
   clear hwz
   replace bx := bx.other (b := w.heap.size + 1) (by omega) 0 [.int .i64 0, .slice none 0 0, .slice none 0 0, .slice none 0 0]
   replace ht := ht.away (g := w.heap.size + 1) (by omega) 0 [.int .i64 0, .slice none 0 0, .slice none 0 0, .slice none 0 0]
   replace hs := hs.away (g := w.heap.size + 1) (by omega) 0 [.int .i64 0, .slice none 0 0, .slice none 0 0, .slice none 0 0]
   replace hw := hw.away (g := w.heap.size + 1) (by omega) 0 [.int .i64 0, .slice none 0 0, .slice none 0 0, .slice none 0 0]
   replace b0 := setL_below b0 [.int .i64 0, .slice none 0 0, .slice none 0 0, .slice none 0 0] (w.heap.size + 1) 0 (by omega)
   have zs_3 : (setL w1 (w.heap.size + 1) 0 [.int .i64 0, .slice none 0 0, .slice none 0 0, .slice none 0 0]).heap.size = w1.heap.size := setL_size _ _ _ _
   replace bR := bR.setAll [.int .i64 0, .slice none 0 0, .slice none 0 0, .slice none 0 0] rfl
   generalize setL w1 _ 0 _ = w3 at *
   have u0_ := bR.c0
   have u1_ := bR.c1
   have u2_ := bR.c2
   have u3_ := bR.c3
   refine bodyPost_ret (by simp only [results, Tryz.results24]; simp [go_sem, u0_, u1_, u2_, u3_]; rfl) rfl ?_
   exact ⟨_, _, _, by rw [HF.out.1, HF.out.2.1], by rw [HF.out.2.2.1]; exact Ow.nil_, by rw [HF.out.2.2.2.1]; exact Ow.nil_, by rw [HF.out.2.2.2.2]; exact Ow.nil_, b0⟩
  ·have HF := Lib.hid (Fa.sm_yes (m := m) (st := st) (ls := ls) (lw := lw) (k := k) (by simp [Fa.smOk, hg, hk]))
   rw [hg] at c1
   have c2 := fun W => isMask_any k W
   rw [hk] at c2
   clear hg hk
   go_enter Tryz.func24, Tryz.ntmps24
   have bx_0 := bx.c0
   have bx_1 := bx.c1
   have bx_2 := bx.c2
   have bx_3 := bx.c3
   have bx_z := bx.frozen
   have bx_l := bx.lt
   have bR_0 := bR.c0
   have bR_1 := bR.c1
   have bR_2 := bR.c2
   have bR_3 := bR.c3
   have bR_z := bR.frozen
   have bR_l := bR.lt
   go_wp2_with fail
   clear hwA
   clear bx_0 bx_1 bx_2 bx_3 bx_z bx_l bR_0 bR_1 bR_2 bR_3 bR_z bR_l
   refine (c1).mono ?_; rintro q_ w1 ⟨rfl, b_1⟩
   replace bx := bx.below b_1 bx.lt
   replace bR := bR.below b_1 bR.lt
   replace ht := ht.below b_1 (by omega)
   replace hs := hs.below b_1 (by omega)
   replace hw := hw.below b_1 (by omega)
   have z_2 := b_1.size
   replace b0 := b0.trans (b_1.mono (by omega))
   clear b_1
   have bx_0 := bx.c0
   have bx_1 := bx.c1
   have bx_2 := bx.c2
   have bx_3 := bx.c3
   have bx_z := bx.frozen
   have bx_l := bx.lt
   have bR_0 := bR.c0
   have bR_1 := bR.c1
   have bR_2 := bR.c2
   have bR_3 := bR.c3
   have bR_z := bR.frozen
   have bR_l := bR.lt
   go_wp2_with fail
   clear bx_0 bx_1 bx_2 bx_3 bx_z bx_l bR_0 bR_1 bR_2 bR_3 bR_z bR_l
   refine (c2 w1).mono ?_; rintro q_ w_ ⟨rfl, rfl⟩
   have bx_0 := bx.c0
   have bx_1 := bx.c1
   have bx_2 := bx.c2
   have bx_3 := bx.c3
   have bx_z := bx.frozen
   have bx_l := bx.lt
   have bR_0 := bR.c0
   have bR_1 := bR.c1
   have bR_2 := bR.c2
   have bR_3 := bR.c3
   have bR_z := bR.frozen
   have bR_l := bR.lt
   go_wp2_with fail
   clear bx_0 bx_1 bx_2 bx_3 bx_z bx_l bR_0 bR_1 bR_2 bR_3 bR_z bR_l
   refine (implSetF_any m _ _ _ st ls lw w1 ht hs hw (by omega) (by omega) (by omega) k hl hl1 hl2).mono ?_; rintro q_ w3 ⟨v3, v4, v5, rfl, o3, o4, o5, b_3⟩
   replace bx := bx.below b_3 bx.lt
   replace bR := bR.below b_3 bR.lt
   replace ht := ht.below b_3 (by omega)
   replace hs := hs.below b_3 (by omega)
   replace hw := hw.below b_3 (by omega)
   have z_4 := b_3.size
   replace b0 := b0.trans (b_3.mono (by omega))
   clear b_3
   obtain ⟨A3, n3, d3, rfl, _, _, _⟩ := o3.rd.form
   obtain ⟨A4, n4, d4, rfl, _, _, _⟩ := o4.rd.form
   obtain ⟨A5, n5, d5, rfl, _, _, _⟩ := o5.rd.form
   have bx_0 := bx.c0
   have bx_1 := bx.c1
   have bx_2 := bx.c2
   have bx_3 := bx.c3
   have bx_z := bx.frozen
   have bx_l := bx.lt
   have bR_0 := bR.c0
   have bR_1 := bR.c1
   have bR_2 := bR.c2
   have bR_3 := bR.c3
   have bR_z := bR.frozen
   have bR_l := bR.lt
   go_wp2_with fail
   clear bx_0 bx_1 bx_2 bx_3 bx_z bx_l bR_0 bR_1 bR_2 bR_3 bR_z bR_l
   generalize hwz : World.setCell (World.setCell (World.setCell (World.setCell _ _ _) _ _) _ _) _ _ = wz_
   obtain rfl : wz_ = setL w3 (w.heap.size + 1) 0 [.int .i64 k, .slice A3 n3 d3, .slice A4 n4 d4, .slice A5 n5 d5] := hwz.symm
   clear hwz
   replace bx := bx.other (b := w.heap.size + 1) (by omega) 0 [.int .i64 k, .slice A3 n3 d3, .slice A4 n4 d4, .slice A5 n5 d5]
   replace ht := ht.away (g := w.heap.size + 1) (by omega) 0 [.int .i64 k, .slice A3 n3 d3, .slice A4 n4 d4, .slice A5 n5 d5]
   replace hs := hs.away (g := w.heap.size + 1) (by omega) 0 [.int .i64 k, .slice A3 n3 d3, .slice A4 n4 d4, .slice A5 n5 d5]
   replace hw := hw.away (g := w.heap.size + 1) (by omega) 0 [.int .i64 k, .slice A3 n3 d3, .slice A4 n4 d4, .slice A5 n5 d5]
   replace o3 := o3.box (g := w.heap.size + 1) bR (by decide) 0 [.int .i64 k, .slice A3 n3 d3, .slice A4 n4 d4, .slice A5 n5 d5]
   replace o4 := o4.box (g := w.heap.size + 1) bR (by decide) 0 [.int .i64 k, .slice A3 n3 d3, .slice A4 n4 d4, .slice A5 n5 d5]
   replace o5 := o5.box (g := w.heap.size + 1) bR (by decide) 0 [.int .i64 k, .slice A3 n3 d3, .slice A4 n4 d4, .slice A5 n5 d5]
   replace b0 := setL_below b0 [.int .i64 k, .slice A3 n3 d3, .slice A4 n4 d4, .slice A5 n5 d5] (w.heap.size + 1) 0 (by omega)
   have zs_5 : (setL w3 (w.heap.size + 1) 0 [.int .i64 k, .slice A3 n3 d3, .slice A4 n4 d4, .slice A5 n5 d5]).heap.size = w3.heap.size := setL_size _ _ _ _
   replace bR := bR.setAll [.int .i64 k, .slice A3 n3 d3, .slice A4 n4 d4, .slice A5 n5 d5] rfl
   generalize setL w3 _ 0 _ = w5 at *
   have u0_ := bR.c0
   have u1_ := bR.c1
   have u2_ := bR.c2
   have u3_ := bR.c3
   refine bodyPost_ret (by simp only [results, Tryz.results24]; simp [go_sem, u0_, u1_, u2_, u3_]; rfl) rfl ?_
   exact ⟨_, _, _, by rw [HF.out.1, HF.out.2.1], by rw [HF.out.2.2.1]; exact o3.mono (by omega) (by omega), by rw [HF.out.2.2.2.1]; exact o4.mono (by omega) (by omega), by rw [HF.out.2.2.2.2]; exact o5.mono (by omega) (by omega), b0⟩

end Go.Proofs.YtndfmkbpdoohfaaGreat

/- Raising an interrupt of an interface, in the program and in the reference. Condition: at most 1048576 numbers, slots and waiters each. -/
namespace Go.Proofs.YtndfmkbpdoohfaaGreat
open Go.RowKit Go.ChangeShapes Go.WideShapes Go.Deep

def Fa.raOk (m : Int) (st : List Int) (ls : List Sl) (lw : List Wt) (i p : Int) : Bool := Fa.good m st ls lw && (inB i 0 7 && inB p 0 15)
def Fa.raM (m : Int) (st : List Int) (ls : List Sl) (lw : List Wt) (i p : Int) : Int := if Fa.raOk m st ls lw i p then m else 0
def Fa.raT (m : Int) (st : List Int) (ls : List Sl) (lw : List Wt) (i p : Int) : List Int := if Fa.raOk m st ls lw i p then st else []
def Fa.raS (m : Int) (st : List Int) (ls : List Sl) (lw : List Wt) (i p : Int) : List Sl := if Fa.raOk m st ls lw i p then (Qu.ofP ls lw i p).1 else []
def Fa.raW (m : Int) (st : List Int) (ls : List Sl) (lw : List Wt) (i p : Int) : List Wt := if Fa.raOk m st ls lw i p then (Qu.ofP ls lw i p).2 else []
theorem Fa.ra_no {m : Int} {st : List Int} {ls : List Sl} {lw : List Wt} {i p : Int} (h : Fa.raOk m st ls lw i p = false) : Fa.raOk m st ls lw i p = false ∧ Fa.raM m st ls lw i p = 0 ∧ Fa.raT m st ls lw i p = [] ∧ Fa.raS m st ls lw i p = [] ∧ Fa.raW m st ls lw i p = [] := by simp [Fa.raM, Fa.raT, Fa.raS, Fa.raW, h]
theorem Fa.ra_yes {m : Int} {st : List Int} {ls : List Sl} {lw : List Wt} {i p : Int} (h : Fa.raOk m st ls lw i p = true) : Fa.raOk m st ls lw i p = true ∧ Fa.raM m st ls lw i p = m ∧ Fa.raT m st ls lw i p = st ∧ Fa.raS m st ls lw i p = (Qu.ofP ls lw i p).1 ∧ Fa.raW m st ls lw i p = (Qu.ofP ls lw i p).2 := by simp [Fa.raM, Fa.raT, Fa.raS, Fa.raW, h]
theorem Fa.good_parts {m : Int} {st : List Int} {ls : List Sl} {lw : List Wt} (h : Fa.good m st ls lw = true) : Qu.parts ls lw = true := by
 obtain ⟨_, hq, _⟩ := Fa.good_iff.1 h
 exact (Qu.good_parts hq).1

set_option maxHeartbeats 2000000 in
theorem specRaise_in (m : Int) (vt vs vw : Value) (st : List Int) (ls : List Sl) (lw : List Wt) (w : World) {lo hi lo2 hi2 lo3 hi3 : Nat} (h0 : Rd Nm.cells 1 w lo3 hi3 vt st) (h : Rd Sl.cells 3 w lo hi vs ls) (h2 : Rd Wt.cells 2 w lo2 hi2 vw lw) (hh0 : hi3 ≤ w.heap.size) (hh : hi ≤ w.heap.size) (hh2 : hi2 ≤ w.heap.size) (i p : Int) (hl : st.length ≤ 1048576) (hp : Qu.parts ls lw = true) (hir : inB i 0 7 = true) (hpr : inB p 0 15 = true) :
  Calls Tryz.prog 56 #[.agg #[.int .i64 m, vt, vs, vw], .int .i64 i, .int .i64 p] w fun e w' => ∃ v0 v1 v2, e = .returned (.agg #[.int .i64 m, v0, v1, v2]) ∧ Ow Nm.cells 1 3 w' w.heap.size w'.heap.size v0 (st) ∧ Ow Sl.cells 3 93 w' w.heap.size w'.heap.size v1 ((Qu.ofP ls lw i p).1) ∧ Ow Wt.cells 2 107 w' w.heap.size w'.heap.size v2 ((Qu.ofP ls lw i p).2) ∧ Below w.heap.size w w' := by
 have b0 : Below w.heap.size w ((w.alloc (.cells #[.int .i64 m, vt, vs, vw] 30)).alloc (.cells #[.int .i64 0, .slice none 0 0, .slice none 0 0, .slice none 0 0] 30)) := ((Below.refl w.heap.size w).alloc (Nat.le_refl _) _).alloc (by simp) _
 have z0 : ((w.alloc (.cells #[.int .i64 m, vt, vs, vw] 30)).alloc (.cells #[.int .i64 0, .slice none 0 0, .slice none 0 0, .slice none 0 0] 30)).heap.size = w.heap.size + 2 := by simp
 have bx := Box.new w #[.int .i64 m, vt, vs, vw] 30 rfl
 have bR := Box.new (g := w.heap.size + 1) (w.alloc (.cells #[.int .i64 m, vt, vs, vw] 30)) #[.int .i64 0, .slice none 0 0, .slice none 0 0, .slice none 0 0] 30 (by simp)
 replace bx := bx.below ((Below.refl _ (w.alloc (.cells #[.int .i64 m, vt, vs, vw] 30))).alloc (Nat.le_refl _) (.cells #[.int .i64 0, .slice none 0 0, .slice none 0 0, .slice none 0 0] 30)) bx.lt
 have ht := h0.below b0 hh0
 have hs := h.below b0 hh
 have hw := h2.below b0 hh2
 have hv0_ := h0.form
 have hv_ := h.form
 have hv2_ := h2.form
 clear h0 h h2
 generalize hwA : (w.alloc (.cells #[.int .i64 m, vt, vs, vw] 30)).alloc (.cells #[.int .i64 0, .slice none 0 0, .slice none 0 0, .slice none 0 0] 30) = wA at *
 obtain ⟨At, nt, dt, rfl, _, _, _⟩ := hv0_
 obtain ⟨A0, n0, d0, rfl, _, _, _⟩ := hv_
 obtain ⟨A1, n1, d1, rfl, _, _, _⟩ := hv2_
 have HP := Lib.hid hp
 have HI := Lib.hid hir
 have HR := Lib.hid hpr
 clear hp hir hpr
 go_enter Tryz.func56, Tryz.ntmps56
 have bx_0 := bx.c0
 have bx_1 := bx.c1
 have bx_2 := bx.c2
 have bx_3 := bx.c3
 have bx_z := bx.frozen
 have bx_l := bx.lt
 have bR_0 := bR.c0
 have bR_1 := bR.c1
 have bR_2 := bR.c2
 have bR_3 := bR.c3
 have bR_z := bR.frozen
 have bR_l := bR.lt
 go_upto_region 1 with fail
 clear hwA
 clear bx_0 bx_1 bx_2 bx_3 bx_z bx_l bR_0 bR_1 bR_2 bR_3 bR_z bR_l
 refine wp_region_held_drew (S := fun W => Box W (w.heap.size) 30 [.int .i64 m, .slice At nt dt, .slice A0 n0 d0, .slice A1 n1 d1]) (by kernel_rfl) (show (fun (W : World) => Box W (w.heap.size) 30 [.int .i64 m, .slice At nt dt, .slice A0 n0 d0, .slice A1 n1 d1]) wA.drew from bx) (fun hHeld => ?_)
 refine wpAnyH_take (i := 0) (v := .pointer (some ⟨w.heap.size, 0, none⟩)) rfl (by kernel_rfl) (by kernel_rfl) (by kernel_rfl) (fun _ _ _ h => h) (Or.inl ⟨by rfl, by intro w hSw; have hS0 := hSw; have y00 := hS0.c0; have y01 := hS0.c1; have y02 := hS0.c2; have y03 := hS0.c3; go_simp⟩) hHeld ?_
 refine wpAnyH_take (i := 1) (v := .int .i64 m) rfl (by kernel_rfl) (by kernel_rfl) (by kernel_rfl) (fun _ _ _ h => h) (Or.inl ⟨by rfl, by intro w hSw; have hS0 := hSw; have y00 := hS0.c0; have y01 := hS0.c1; have y02 := hS0.c2; have y03 := hS0.c3; go_simp⟩) hHeld ?_
 refine wpAnyH_take (i := 2) (v := .pointer (some ⟨w.heap.size, 1, none⟩)) rfl (by kernel_rfl) (by kernel_rfl) (by kernel_rfl) (fun _ _ _ h => h) (Or.inl ⟨by rfl, by intro w hSw; have hS0 := hSw; have y00 := hS0.c0; have y01 := hS0.c1; have y02 := hS0.c2; have y03 := hS0.c3; go_simp⟩) hHeld ?_
 refine wpAnyH_take (i := 3) (v := .slice At nt dt) rfl (by kernel_rfl) (by kernel_rfl) (by kernel_rfl) (fun _ _ _ h => h) (Or.inl ⟨by rfl, by intro w hSw; have hS0 := hSw; have y00 := hS0.c0; have y01 := hS0.c1; have y02 := hS0.c2; have y03 := hS0.c3; go_simp⟩) hHeld ?_
 refine wpAnyH_take (i := 5) (v := .pointer (some ⟨w.heap.size, 2, none⟩)) rfl (by kernel_rfl) (by kernel_rfl) (by kernel_rfl) (fun _ _ _ h => h) (Or.inl ⟨by rfl, by intro w hSw; have hS0 := hSw; have y00 := hS0.c0; have y01 := hS0.c1; have y02 := hS0.c2; have y03 := hS0.c3; go_simp⟩) hHeld ?_
 refine wpAnyH_take (i := 6) (v := .agg #[.slice A0 n0 d0, .slice A1 n1 d1]) rfl (by kernel_rfl) (by kernel_rfl) (by kernel_rfl) (fun _ _ _ h => h) (Or.inl ⟨by rfl, by intro w hSw; have hS0 := hSw; have y00 := hS0.c0; have y01 := hS0.c1; have y02 := hS0.c2; have y03 := hS0.c3; go_simp⟩) hHeld ?_
 refine wpAnyH_take (i := 7) (v := .int .i64 i) rfl (by kernel_rfl) (by kernel_rfl) (by kernel_rfl) (fun _ _ _ h => h) (Or.inl ⟨by rfl, by intro w hSw; have hS0 := hSw; have y00 := hS0.c0; have y01 := hS0.c1; have y02 := hS0.c2; have y03 := hS0.c3; go_simp⟩) hHeld ?_
 refine wpAnyH_take (i := 8) (v := .int .i64 p) rfl (by kernel_rfl) (by kernel_rfl) (by kernel_rfl) (fun _ _ _ h => h) (Or.inl ⟨by rfl, by intro w hSw; have hS0 := hSw; have y00 := hS0.c0; have y01 := hS0.c1; have y02 := hS0.c2; have y03 := hS0.c3; go_simp⟩) hHeld ?_
 clear hHeld
 refine held_gen (F := fun W' => Below wA.heap.size wA W') (Below.refl wA.heap.size wA).drew ?_
 rintro w1 b_1
 replace bx := bx.below b_1 bx.lt
 replace bR := bR.below b_1 bR.lt
 replace ht := ht.below b_1 (by omega)
 replace hs := hs.below b_1 (by omega)
 replace hw := hw.below b_1 (by omega)
 have z_2 := b_1.size
 replace b0 := b0.trans (b_1.mono (by omega))
 clear b_1
 refine wpAnyH_ready (rs := [4]) (by kernel_rfl) (by decide) ?_
 refine AllReadyH.cons rfl (fun K3 hK3 => ?_) AllReadyH.nil
 go_simp
 refine (l1Own_any _ st w1 ht (by omega) hl).mono ?_; rintro q_ w4 ⟨v3, rfl, o3, b_4⟩
 replace bx := bx.below b_4 bx.lt
 replace bR := bR.below b_4 bR.lt
 replace ht := ht.below b_4 (by omega)
 replace hs := hs.below b_4 (by omega)
 replace hw := hw.below b_4 (by omega)
 have z_5 := b_4.size
 replace b0 := b0.trans (b_4.mono (by omega))
 clear b_4
 obtain ⟨A3, n3, d3, rfl, _, _, _⟩ := o3.rd.form
 refine hK3.out _ _ bx (fun _ => ?_)
 refine wpAnyH_ready (rs := [9]) (by kernel_rfl) (by decide) ?_
 refine AllReadyH.cons rfl (fun K6 hK6 => ?_) AllReadyH.nil
 go_simp
 refine (specOffer_in _ _ ls lw i p w4 hs hw (by omega) (by omega) HP.out HI.out HR.out).mono ?_; rintro q_ w7 ⟨v4, v5, rfl, o4, o5, b_7⟩
 replace bx := bx.below b_7 bx.lt
 replace bR := bR.below b_7 bR.lt
 replace ht := ht.below b_7 (by omega)
 replace hs := hs.below b_7 (by omega)
 replace hw := hw.below b_7 (by omega)
 replace o3 := o3.below b_7 (by omega)
 have z_8 := b_7.size
 replace b0 := b0.trans (b_7.mono (by omega))
 clear b_7
 obtain ⟨A4, n4, d4, rfl, _, _, _⟩ := o4.rd.form
 obtain ⟨A5, n5, d5, rfl, _, _, _⟩ := o5.rd.form
 refine hK6.out _ _ bx (fun _ => ?_)
 refine wpAnyH_ready (rs := [10]) (by kernel_rfl) (by decide) ?_
 refine AllReadyH.cons rfl (fun K9 hK9 => ?_) AllReadyH.nil
 go_simp
 refine hK9.out _ _ bx (fun _ => ?_)
 refine wpAnyH_ready (rs := [11]) (by kernel_rfl) (by decide) ?_
 refine AllReadyH.cons rfl (fun K10 hK10 => ?_) AllReadyH.nil
 have bx_0 := bx.c0
 have bx_1 := bx.c1
 have bx_2 := bx.c2
 have bx_3 := bx.c3
 have bx_z := bx.frozen
 have bx_l := bx.lt
 have bR_0 := bR.c0
 have bR_1 := bR.c1
 have bR_2 := bR.c2
 have bR_3 := bR.c3
 have bR_z := bR.frozen
 have bR_l := bR.lt
 go_simp
 clear bx_0 bx_1 bx_2 bx_3 bx_z bx_l bR_0 bR_1 bR_2 bR_3 bR_z bR_l
 generalize hwz : World.setCell (World.setCell (World.setCell (World.setCell _ _ _) _ _) _ _) _ _ = wz_
 obtain rfl : wz_ = setL w7 (w.heap.size + 1) 0 [.int .i64 m, .slice A3 n3 d3, .slice A4 n4 d4, .slice A5 n5 d5] := hwz.symm
 clear hwz
 replace bx := bx.other (b := w.heap.size + 1) (by omega) 0 [.int .i64 m, .slice A3 n3 d3, .slice A4 n4 d4, .slice A5 n5 d5]
 replace ht := ht.away (g := w.heap.size + 1) (by omega) 0 [.int .i64 m, .slice A3 n3 d3, .slice A4 n4 d4, .slice A5 n5 d5]
 replace hs := hs.away (g := w.heap.size + 1) (by omega) 0 [.int .i64 m, .slice A3 n3 d3, .slice A4 n4 d4, .slice A5 n5 d5]
 replace hw := hw.away (g := w.heap.size + 1) (by omega) 0 [.int .i64 m, .slice A3 n3 d3, .slice A4 n4 d4, .slice A5 n5 d5]
 replace o3 := o3.box (g := w.heap.size + 1) bR (by decide) 0 [.int .i64 m, .slice A3 n3 d3, .slice A4 n4 d4, .slice A5 n5 d5]
 replace o4 := o4.box (g := w.heap.size + 1) bR (by decide) 0 [.int .i64 m, .slice A3 n3 d3, .slice A4 n4 d4, .slice A5 n5 d5]
 replace o5 := o5.box (g := w.heap.size + 1) bR (by decide) 0 [.int .i64 m, .slice A3 n3 d3, .slice A4 n4 d4, .slice A5 n5 d5]
 replace b0 := setL_below b0 [.int .i64 m, .slice A3 n3 d3, .slice A4 n4 d4, .slice A5 n5 d5] (w.heap.size + 1) 0 (by omega)
 have zs_11 : (setL w7 (w.heap.size + 1) 0 [.int .i64 m, .slice A3 n3 d3, .slice A4 n4 d4, .slice A5 n5 d5]).heap.size = w7.heap.size := setL_size _ _ _ _
 replace bR := bR.setAll [.int .i64 m, .slice A3 n3 d3, .slice A4 n4 d4, .slice A5 n5 d5] rfl
 generalize setL w7 _ 0 _ = w11 at *
 refine hK10.out _ _ bx (fun _ => ?_)
 refine ⟨by kernel_rfl, ?_⟩
 have bx_0 := bx.c0
 have bx_1 := bx.c1
 have bx_2 := bx.c2
 have bx_3 := bx.c3
 have bx_z := bx.frozen
 have bx_l := bx.lt
 have bR_0 := bR.c0
 have bR_1 := bR.c1
 have bR_2 := bR.c2
 have bR_3 := bR.c3
 have bR_z := bR.frozen
 have bR_l := bR.lt
 go_wp2_with fail
 clear bx_0 bx_1 bx_2 bx_3 bx_z bx_l bR_0 bR_1 bR_2 bR_3 bR_z bR_l
 have u0_ := bR.c0
 have u1_ := bR.c1
 have u2_ := bR.c2
 have u3_ := bR.c3
 refine bodyPost_ret (by simp only [results, Tryz.results56]; simp [go_sem, u0_, u1_, u2_, u3_]; rfl) rfl ?_
 exact ⟨_, _, _, rfl, o3.mono (by omega) (by omega), o4.mono (by omega) (by omega), o5.mono (by omega) (by omega), b0⟩
set_option maxHeartbeats 2000000 in
theorem implRaise_in (m : Int) (vt vs vw : Value) (st : List Int) (ls : List Sl) (lw : List Wt) (w : World) {lo hi lo2 hi2 lo3 hi3 : Nat} (h0 : Rd Nm.cells 1 w lo3 hi3 vt st) (h : Rd Sl.cells 3 w lo hi vs ls) (h2 : Rd Wt.cells 2 w lo2 hi2 vw lw) (hh0 : hi3 ≤ w.heap.size) (hh : hi ≤ w.heap.size) (hh2 : hi2 ≤ w.heap.size) (i p : Int) (hl : st.length ≤ 1048576) (hp : Qu.parts ls lw = true) (hir : inB i 0 7 = true) (hpr : inB p 0 15 = true) :
  Calls Tryz.prog 53 #[.agg #[.int .i64 m, vt, vs, vw], .int .i64 i, .int .i64 p] w fun e w' => ∃ v0 v1 v2, e = .returned (.agg #[.int .i64 m, v0, v1, v2]) ∧ Ow Nm.cells 1 3 w' w.heap.size w'.heap.size v0 (st) ∧ Ow Sl.cells 3 93 w' w.heap.size w'.heap.size v1 ((Qu.ofP ls lw i p).1) ∧ Ow Wt.cells 2 107 w' w.heap.size w'.heap.size v2 ((Qu.ofP ls lw i p).2) ∧ Below w.heap.size w w' := by
 have b0 : Below w.heap.size w ((w.alloc (.cells #[.int .i64 m, vt, vs, vw] 30)).alloc (.cells #[.int .i64 0, .slice none 0 0, .slice none 0 0, .slice none 0 0] 30)) := ((Below.refl w.heap.size w).alloc (Nat.le_refl _) _).alloc (by simp) _
 have z0 : ((w.alloc (.cells #[.int .i64 m, vt, vs, vw] 30)).alloc (.cells #[.int .i64 0, .slice none 0 0, .slice none 0 0, .slice none 0 0] 30)).heap.size = w.heap.size + 2 := by simp
 have bx := Box.new w #[.int .i64 m, vt, vs, vw] 30 rfl
 have bR := Box.new (g := w.heap.size + 1) (w.alloc (.cells #[.int .i64 m, vt, vs, vw] 30)) #[.int .i64 0, .slice none 0 0, .slice none 0 0, .slice none 0 0] 30 (by simp)
 replace bx := bx.below ((Below.refl _ (w.alloc (.cells #[.int .i64 m, vt, vs, vw] 30))).alloc (Nat.le_refl _) (.cells #[.int .i64 0, .slice none 0 0, .slice none 0 0, .slice none 0 0] 30)) bx.lt
 have ht := h0.below b0 hh0
 have hs := h.below b0 hh
 have hw := h2.below b0 hh2
 have hv0_ := h0.form
 have hv_ := h.form
 have hv2_ := h2.form
 clear h0 h h2
 generalize hwA : (w.alloc (.cells #[.int .i64 m, vt, vs, vw] 30)).alloc (.cells #[.int .i64 0, .slice none 0 0, .slice none 0 0, .slice none 0 0] 30) = wA at *
 obtain ⟨At, nt, dt, rfl, _, _, _⟩ := hv0_
 obtain ⟨A0, n0, d0, rfl, _, _, _⟩ := hv_
 obtain ⟨A1, n1, d1, rfl, _, _, _⟩ := hv2_
 have HP := Lib.hid hp
 have HI := Lib.hid hir
 have HR := Lib.hid hpr
 have hl1 : ls.length ≤ 1048576 := by have := Sl.good_len (Qu.parts_get hp).1; omega
 have hl2 : lw.length ≤ 1048576 := by have := Qu.parts_len hp; omega
 clear hp hir hpr
 go_enter Tryz.func53, Tryz.ntmps53
 have bx_0 := bx.c0
 have bx_1 := bx.c1
 have bx_2 := bx.c2
 have bx_3 := bx.c3
 have bx_z := bx.frozen
 have bx_l := bx.lt
 have bR_0 := bR.c0
 have bR_1 := bR.c1
 have bR_2 := bR.c2
 have bR_3 := bR.c3
 have bR_z := bR.frozen
 have bR_l := bR.lt
 go_wp2_with fail
 clear hwA
 clear bx_0 bx_1 bx_2 bx_3 bx_z bx_l bR_0 bR_1 bR_2 bR_3 bR_z bR_l
 refine (implOwnF_any m _ _ _ st ls lw wA ht hs hw (by omega) (by omega) (by omega) hl hl1 hl2).mono ?_; rintro q_ w1 ⟨v3, v4, v5, rfl, o3, o4, o5, b_1⟩
 replace bx := bx.below b_1 bx.lt
 replace bR := bR.below b_1 bR.lt
 replace ht := ht.below b_1 (by omega)
 replace hs := hs.below b_1 (by omega)
 replace hw := hw.below b_1 (by omega)
 have z_2 := b_1.size
 replace b0 := b0.trans (b_1.mono (by omega))
 clear b_1
 obtain ⟨A3, n3, d3, rfl, _, _, _⟩ := o3.rd.form
 obtain ⟨A4, n4, d4, rfl, _, _, _⟩ := o4.rd.form
 obtain ⟨A5, n5, d5, rfl, _, _, _⟩ := o5.rd.form
 have bx_0 := bx.c0
 have bx_1 := bx.c1
 have bx_2 := bx.c2
 have bx_3 := bx.c3
 have bx_z := bx.frozen
 have bx_l := bx.lt
 have bR_0 := bR.c0
 have bR_1 := bR.c1
 have bR_2 := bR.c2
 have bR_3 := bR.c3
 have bR_z := bR.frozen
 have bR_l := bR.lt
 go_upto_region 2 with fail
 clear bx_0 bx_1 bx_2 bx_3 bx_z bx_l bR_0 bR_1 bR_2 bR_3 bR_z bR_l
 have b_3 := (Below.refl w1.heap.size w1).alloc (Nat.le_refl _) (.cells #[.int .i64 m, .slice A3 n3 d3, .slice A4 n4 d4, .slice A5 n5 d5] 30)
 have bO := Box.new w1 #[.int .i64 m, .slice A3 n3 d3, .slice A4 n4 d4, .slice A5 n5 d5] 30 rfl
 replace bx := bx.below b_3 bx.lt
 replace bR := bR.below b_3 bR.lt
 replace ht := ht.below b_3 (by omega)
 replace hs := hs.below b_3 (by omega)
 replace hw := hw.below b_3 (by omega)
 replace o3 := o3.below b_3 (by omega)
 replace o4 := o4.below b_3 (by omega)
 replace o5 := o5.below b_3 (by omega)
 have z_4 := b_3.size
 replace b0 := b0.trans (b_3.mono (by omega))
 clear b_3
 generalize w1.alloc _ = w3 at *
 generalize w1.heap.size = g3 at *
 have bx_0 := bx.c0
 have bx_1 := bx.c1
 have bx_2 := bx.c2
 have bx_3 := bx.c3
 have bx_z := bx.frozen
 have bx_l := bx.lt
 have bR_0 := bR.c0
 have bR_1 := bR.c1
 have bR_2 := bR.c2
 have bR_3 := bR.c3
 have bR_z := bR.frozen
 have bR_l := bR.lt
 have bO_0 := bO.c0
 have bO_1 := bO.c1
 have bO_2 := bO.c2
 have bO_3 := bO.c3
 have bO_z := bO.frozen
 have bO_l := bO.lt
 go_wp2_with fail
 clear bx_0 bx_1 bx_2 bx_3 bx_z bx_l bR_0 bR_1 bR_2 bR_3 bR_z bR_l bO_0 bO_1 bO_2 bO_3 bO_z bO_l
 refine (implOffer_in _ _ ls lw i p w3 hs hw (by omega) (by omega) HP.out HI.out HR.out).mono ?_; rintro q_ w5 ⟨v6, v7, rfl, o6, o7, b_5⟩
 replace bx := bx.below b_5 bx.lt
 replace bR := bR.below b_5 bR.lt
 replace bO := bO.below b_5 bO.lt
 replace ht := ht.below b_5 (by omega)
 replace hs := hs.below b_5 (by omega)
 replace hw := hw.below b_5 (by omega)
 replace o3 := o3.below b_5 (by omega)
 replace o4 := o4.below b_5 (by omega)
 replace o5 := o5.below b_5 (by omega)
 have z_6 := b_5.size
 replace b0 := b0.trans (b_5.mono (by omega))
 clear b_5
 obtain ⟨A6, n6, d6, rfl, _, _, _⟩ := o6.rd.form
 obtain ⟨A7, n7, d7, rfl, _, _, _⟩ := o7.rd.form
 have bx_0 := bx.c0
 have bx_1 := bx.c1
 have bx_2 := bx.c2
 have bx_3 := bx.c3
 have bx_z := bx.frozen
 have bx_l := bx.lt
 have bR_0 := bR.c0
 have bR_1 := bR.c1
 have bR_2 := bR.c2
 have bR_3 := bR.c3
 have bR_z := bR.frozen
 have bR_l := bR.lt
 have bO_0 := bO.c0
 have bO_1 := bO.c1
 have bO_2 := bO.c2
 have bO_3 := bO.c3
 have bO_z := bO.frozen
 have bO_l := bO.lt
 go_upto_region 3 with fail
 clear bx_0 bx_1 bx_2 bx_3 bx_z bx_l bR_0 bR_1 bR_2 bR_3 bR_z bR_l bO_0 bO_1 bO_2 bO_3 bO_z bO_l
 generalize hwz : World.setCell (World.setCell _ _ _) _ _ = wz_
 obtain rfl : wz_ = setL w5 (g3) 2 [.slice A6 n6 d6, .slice A7 n7 d7] := hwz.symm
 clear hwz
 replace bx := bx.other (b := g3) (by omega) 2 [.slice A6 n6 d6, .slice A7 n7 d7]
 replace bR := bR.other (b := g3) (by omega) 2 [.slice A6 n6 d6, .slice A7 n7 d7]
 replace ht := ht.away (g := g3) (by omega) 2 [.slice A6 n6 d6, .slice A7 n7 d7]
 replace hs := hs.away (g := g3) (by omega) 2 [.slice A6 n6 d6, .slice A7 n7 d7]
 replace hw := hw.away (g := g3) (by omega) 2 [.slice A6 n6 d6, .slice A7 n7 d7]
 replace o3 := o3.box (g := g3) bO (by decide) 2 [.slice A6 n6 d6, .slice A7 n7 d7]
 replace o4 := o4.box (g := g3) bO (by decide) 2 [.slice A6 n6 d6, .slice A7 n7 d7]
 replace o5 := o5.box (g := g3) bO (by decide) 2 [.slice A6 n6 d6, .slice A7 n7 d7]
 replace o6 := o6.box (g := g3) bO (by decide) 2 [.slice A6 n6 d6, .slice A7 n7 d7]
 replace o7 := o7.box (g := g3) bO (by decide) 2 [.slice A6 n6 d6, .slice A7 n7 d7]
 replace b0 := setL_below b0 [.slice A6 n6 d6, .slice A7 n7 d7] (g3) 2 (by omega)
 have zs_7 : (setL w5 (g3) 2 [.slice A6 n6 d6, .slice A7 n7 d7]).heap.size = w5.heap.size := setL_size _ _ _ _
 replace bO : Box (setL w5 (g3) 2 [.slice A6 n6 d6, .slice A7 n7 d7]) (g3) 30 _ := ((bO.set1 (j := 2) (.slice A6 n6 d6) (by simp)).set1 (j := 3) (.slice A7 n7 d7) (by simp))
 generalize setL w5 _ 2 _ = w7 at *
 have bx_0 := bx.c0
 have bx_1 := bx.c1
 have bx_2 := bx.c2
 have bx_3 := bx.c3
 have bx_z := bx.frozen
 have bx_l := bx.lt
 have bR_0 := bR.c0
 have bR_1 := bR.c1
 have bR_2 := bR.c2
 have bR_3 := bR.c3
 have bR_z := bR.frozen
 have bR_l := bR.lt
 have bO_0 := bO.c0
 have bO_1 := bO.c1
 have bO_2 := bO.c2
 have bO_3 := bO.c3
 have bO_z := bO.frozen
 have bO_l := bO.lt
 go_wp2_with fail
 clear bx_0 bx_1 bx_2 bx_3 bx_z bx_l bR_0 bR_1 bR_2 bR_3 bR_z bR_l bO_0 bO_1 bO_2 bO_3 bO_z bO_l
 generalize hwz : World.setCell (World.setCell (World.setCell (World.setCell _ _ _) _ _) _ _) _ _ = wz_
 obtain rfl : wz_ = setL w7 (w.heap.size + 1) 0 [.int .i64 m, .slice A3 n3 d3, .slice A6 n6 d6, .slice A7 n7 d7] := hwz.symm
 clear hwz
 replace bx := bx.other (b := w.heap.size + 1) (by omega) 0 [.int .i64 m, .slice A3 n3 d3, .slice A6 n6 d6, .slice A7 n7 d7]
 replace bO := bO.other (b := w.heap.size + 1) (by omega) 0 [.int .i64 m, .slice A3 n3 d3, .slice A6 n6 d6, .slice A7 n7 d7]
 replace ht := ht.away (g := w.heap.size + 1) (by omega) 0 [.int .i64 m, .slice A3 n3 d3, .slice A6 n6 d6, .slice A7 n7 d7]
 replace hs := hs.away (g := w.heap.size + 1) (by omega) 0 [.int .i64 m, .slice A3 n3 d3, .slice A6 n6 d6, .slice A7 n7 d7]
 replace hw := hw.away (g := w.heap.size + 1) (by omega) 0 [.int .i64 m, .slice A3 n3 d3, .slice A6 n6 d6, .slice A7 n7 d7]
 replace o3 := o3.box (g := w.heap.size + 1) bR (by decide) 0 [.int .i64 m, .slice A3 n3 d3, .slice A6 n6 d6, .slice A7 n7 d7]
 replace o4 := o4.box (g := w.heap.size + 1) bR (by decide) 0 [.int .i64 m, .slice A3 n3 d3, .slice A6 n6 d6, .slice A7 n7 d7]
 replace o5 := o5.box (g := w.heap.size + 1) bR (by decide) 0 [.int .i64 m, .slice A3 n3 d3, .slice A6 n6 d6, .slice A7 n7 d7]
 replace o6 := o6.box (g := w.heap.size + 1) bR (by decide) 0 [.int .i64 m, .slice A3 n3 d3, .slice A6 n6 d6, .slice A7 n7 d7]
 replace o7 := o7.box (g := w.heap.size + 1) bR (by decide) 0 [.int .i64 m, .slice A3 n3 d3, .slice A6 n6 d6, .slice A7 n7 d7]
 replace b0 := setL_below b0 [.int .i64 m, .slice A3 n3 d3, .slice A6 n6 d6, .slice A7 n7 d7] (w.heap.size + 1) 0 (by omega)
 have zs_8 : (setL w7 (w.heap.size + 1) 0 [.int .i64 m, .slice A3 n3 d3, .slice A6 n6 d6, .slice A7 n7 d7]).heap.size = w7.heap.size := setL_size _ _ _ _
 replace bR := bR.setAll [.int .i64 m, .slice A3 n3 d3, .slice A6 n6 d6, .slice A7 n7 d7] rfl
 generalize setL w7 _ 0 _ = w8 at *
 have u0_ := bR.c0
 have u1_ := bR.c1
 have u2_ := bR.c2
 have u3_ := bR.c3
 refine bodyPost_ret (by simp only [results, Tryz.results53]; simp [go_sem, u0_, u1_, u2_, u3_]; rfl) rfl ?_
 exact ⟨_, _, _, rfl, o3.mono (by omega) (by omega), o6.mono (by omega) (by omega), o7.mono (by omega) (by omega), b0⟩
set_option maxHeartbeats 2000000 in
theorem implRaiseIrq_any (m : Int) (vt vs vw : Value) (st : List Int) (ls : List Sl) (lw : List Wt) (w : World) {lo hi lo2 hi2 lo3 hi3 : Nat} (h0 : Rd Nm.cells 1 w lo3 hi3 vt st) (h : Rd Sl.cells 3 w lo hi vs ls) (h2 : Rd Wt.cells 2 w lo2 hi2 vw lw) (hh0 : hi3 ≤ w.heap.size) (hh : hi ≤ w.heap.size) (hh2 : hi2 ≤ w.heap.size) (i p : Int) (hl : st.length ≤ 1048576) :
  Calls Tryz.prog 21 #[.agg #[.int .i64 m, vt, vs, vw], .int .i64 i, .int .i64 p] w fun e w' => ∃ v0 v1 v2, e = .returned (.tuple #[.agg #[.int .i64 (Fa.raM m st ls lw i p), v0, v1, v2], .bool (Fa.raOk m st ls lw i p)]) ∧ Ow Nm.cells 1 3 w' w.heap.size w'.heap.size v0 (Fa.raT m st ls lw i p) ∧ Ow Sl.cells 3 93 w' w.heap.size w'.heap.size v1 (Fa.raS m st ls lw i p) ∧ Ow Wt.cells 2 107 w' w.heap.size w'.heap.size v2 (Fa.raW m st ls lw i p) ∧ Below w.heap.size w w' := by
 have b0 : Below w.heap.size w ((w.alloc (.cells #[.int .i64 m, vt, vs, vw] 30)).alloc (.cells #[.int .i64 0, .slice none 0 0, .slice none 0 0, .slice none 0 0] 30)) := ((Below.refl w.heap.size w).alloc (Nat.le_refl _) _).alloc (by simp) _
 have z0 : ((w.alloc (.cells #[.int .i64 m, vt, vs, vw] 30)).alloc (.cells #[.int .i64 0, .slice none 0 0, .slice none 0 0, .slice none 0 0] 30)).heap.size = w.heap.size + 2 := by simp
 have bx := Box.new w #[.int .i64 m, vt, vs, vw] 30 rfl
 have bR := Box.new (g := w.heap.size + 1) (w.alloc (.cells #[.int .i64 m, vt, vs, vw] 30)) #[.int .i64 0, .slice none 0 0, .slice none 0 0, .slice none 0 0] 30 (by simp)
 replace bx := bx.below ((Below.refl _ (w.alloc (.cells #[.int .i64 m, vt, vs, vw] 30))).alloc (Nat.le_refl _) (.cells #[.int .i64 0, .slice none 0 0, .slice none 0 0, .slice none 0 0] 30)) bx.lt
 have ht := h0.below b0 hh0
 have hs := h.below b0 hh
 have hw := h2.below b0 hh2
 have hv0_ := h0.form
 have hv_ := h.form
 have hv2_ := h2.form
 clear h0 h h2
 generalize hwA : (w.alloc (.cells #[.int .i64 m, vt, vs, vw] 30)).alloc (.cells #[.int .i64 0, .slice none 0 0, .slice none 0 0, .slice none 0 0] 30) = wA at *
 obtain ⟨At, nt, dt, rfl, _, _, _⟩ := hv0_
 obtain ⟨A0, n0, d0, rfl, _, _, _⟩ := hv_
 obtain ⟨A1, n1, d1, rfl, _, _, _⟩ := hv2_
 have c1 := implIsInterface_any m _ _ _ st ls lw wA ht hs hw (by omega) (by omega) (by omega) hl
 cases hg : Fa.good m st ls lw
 ·have HF := Lib.hid (Fa.ra_no (m := m) (st := st) (ls := ls) (lw := lw) (i := i) (p := p) (by simp [Fa.raOk, hg]))
  rw [hg] at c1
  clear hg
  go_enter Tryz.func21, Tryz.ntmps21
  have bx_0 := bx.c0
  have bx_1 := bx.c1
  have bx_2 := bx.c2
  have bx_3 := bx.c3
  have bx_z := bx.frozen
  have bx_l := bx.lt
  have bR_0 := bR.c0
  have bR_1 := bR.c1
  have bR_2 := bR.c2
  have bR_3 := bR.c3
  have bR_z := bR.frozen
  have bR_l := bR.lt
  go_wp2_with fail
  clear hwA
  clear bx_0 bx_1 bx_2 bx_3 bx_z bx_l bR_0 bR_1 bR_2 bR_3 bR_z bR_l
  refine (c1).mono ?_; rintro q_ w1 ⟨rfl, b_1⟩
  replace bx := bx.below b_1 bx.lt
  replace bR := bR.below b_1 bR.lt
  replace ht := ht.below b_1 (by omega)
  replace hs := hs.below b_1 (by omega)
  replace hw := hw.below b_1 (by omega)
  have z_2 := b_1.size
  replace b0 := b0.trans (b_1.mono (by omega))
  clear b_1
  have bx_0 := bx.c0
  have bx_1 := bx.c1
  have bx_2 := bx.c2
  have bx_3 := bx.c3
  have bx_z := bx.frozen
  have bx_l := bx.lt
  have bR_0 := bR.c0
  have bR_1 := bR.c1
  have bR_2 := bR.c2
  have bR_3 := bR.c3
  have bR_z := bR.frozen
  have bR_l := bR.lt
  go_wp2_with fail
  clear bx_0 bx_1 bx_2 bx_3 bx_z bx_l bR_0 bR_1 bR_2 bR_3 bR_z bR_l
  generalize hwz : World.setCell (World.setCell (World.setCell (World.setCell _ _ _) _ _) _ _) _ _ = wz_
  obtain rfl : wz_ = setL w1 (w.heap.size + 1) 0 [.int .i64 0, .slice none 0 0, .slice none 0 0, .slice none 0 0] := hwz.symm
  clear hwz
  replace bx := bx.other (b := w.heap.size + 1) (by omega) 0 [.int .i64 0, .slice none 0 0, .slice none 0 0, .slice none 0 0]
  replace ht := ht.away (g := w.heap.size + 1) (by omega) 0 [.int .i64 0, .slice none 0 0, .slice none 0 0, .slice none 0 0]
  replace hs := hs.away (g := w.heap.size + 1) (by omega) 0 [.int .i64 0, .slice none 0 0, .slice none 0 0, .slice none 0 0]
  replace hw := hw.away (g := w.heap.size + 1) (by omega) 0 [.int .i64 0, .slice none 0 0, .slice none 0 0, .slice none 0 0]
  replace b0 := setL_below b0 [.int .i64 0, .slice none 0 0, .slice none 0 0, .slice none 0 0] (w.heap.size + 1) 0 (by omega)
  have zs_3 : (setL w1 (w.heap.size + 1) 0 [.int .i64 0, .slice none 0 0, .slice none 0 0, .slice none 0 0]).heap.size = w1.heap.size := setL_size _ _ _ _
  replace bR := bR.setAll [.int .i64 0, .slice none 0 0, .slice none 0 0, .slice none 0 0] rfl
  generalize setL w1 _ 0 _ = w3 at *
  have u0_ := bR.c0
  have u1_ := bR.c1
  have u2_ := bR.c2
  have u3_ := bR.c3
  refine bodyPost_ret (by simp only [results, Tryz.results21]; simp [go_sem, u0_, u1_, u2_, u3_]; rfl) rfl ?_
  exact ⟨_, _, _, by rw [HF.out.1, HF.out.2.1], by rw [HF.out.2.2.1]; exact Ow.nil_, by rw [HF.out.2.2.2.1]; exact Ow.nil_, by rw [HF.out.2.2.2.2]; exact Ow.nil_, b0⟩
 ·have HP := Lib.hid (Fa.good_parts hg)
  cases hi_ : inB i 0 7
  ·have HF := Lib.hid (Fa.ra_no (m := m) (st := st) (ls := ls) (lw := lw) (i := i) (p := p) (by simp [Fa.raOk, hi_]))
   rw [hg] at c1
   have c2 := fun W => isIrq_any i W
   rw [hi_] at c2
   clear hg hi_
   go_enter Tryz.func21, Tryz.ntmps21
   have bx_0 := bx.c0
   have bx_1 := bx.c1
   have bx_2 := bx.c2
   have bx_3 := bx.c3
   have bx_z := bx.frozen
   have bx_l := bx.lt
   have bR_0 := bR.c0
   have bR_1 := bR.c1
   have bR_2 := bR.c2
   have bR_3 := bR.c3
   have bR_z := bR.frozen
   have bR_l := bR.lt
   go_wp2_with fail
   clear hwA
   clear bx_0 bx_1 bx_2 bx_3 bx_z bx_l bR_0 bR_1 bR_2 bR_3 bR_z bR_l
   refine (c1).mono ?_; rintro q_ w1 ⟨rfl, b_1⟩
   replace bx := bx.below b_1 bx.lt
   replace bR := bR.below b_1 bR.lt
   replace ht := ht.below b_1 (by omega)
   replace hs := hs.below b_1 (by omega)
   replace hw := hw.below b_1 (by omega)
   have z_2 := b_1.size
   replace b0 := b0.trans (b_1.mono (by omega))
   clear b_1
   have bx_0 := bx.c0
   have bx_1 := bx.c1
   have bx_2 := bx.c2
   have bx_3 := bx.c3
   have bx_z := bx.frozen
   have bx_l := bx.lt
   have bR_0 := bR.c0
   have bR_1 := bR.c1
   have bR_2 := bR.c2
   have bR_3 := bR.c3
   have bR_z := bR.frozen
   have bR_l := bR.lt
   go_wp2_with fail
   clear bx_0 bx_1 bx_2 bx_3 bx_z bx_l bR_0 bR_1 bR_2 bR_3 bR_z bR_l
   refine (c2 w1).mono ?_; rintro q_ w_ ⟨rfl, rfl⟩
   have bx_0 := bx.c0
   have bx_1 := bx.c1
   have bx_2 := bx.c2
   have bx_3 := bx.c3
   have bx_z := bx.frozen
   have bx_l := bx.lt
   have bR_0 := bR.c0
   have bR_1 := bR.c1
   have bR_2 := bR.c2
   have bR_3 := bR.c3
   have bR_z := bR.frozen
   have bR_l := bR.lt
   go_wp2_with fail
   clear bx_0 bx_1 bx_2 bx_3 bx_z bx_l bR_0 bR_1 bR_2 bR_3 bR_z bR_l
   generalize hwz : World.setCell (World.setCell (World.setCell (World.setCell _ _ _) _ _) _ _) _ _ = wz_
   obtain rfl : wz_ = setL w1 (w.heap.size + 1) 0 [.int .i64 0, .slice none 0 0, .slice none 0 0, .slice none 0 0] := hwz.symm
   clear hwz
   replace bx := bx.other (b := w.heap.size + 1) (by omega) 0 [.int .i64 0, .slice none 0 0, .slice none 0 0, .slice none 0 0]
   replace ht := ht.away (g := w.heap.size + 1) (by omega) 0 [.int .i64 0, .slice none 0 0, .slice none 0 0, .slice none 0 0]
   replace hs := hs.away (g := w.heap.size + 1) (by omega) 0 [.int .i64 0, .slice none 0 0, .slice none 0 0, .slice none 0 0]
   replace hw := hw.away (g := w.heap.size + 1) (by omega) 0 [.int .i64 0, .slice none 0 0, .slice none 0 0, .slice none 0 0]
   replace b0 := setL_below b0 [.int .i64 0, .slice none 0 0, .slice none 0 0, .slice none 0 0] (w.heap.size + 1) 0 (by omega)
   have zs_3 : (setL w1 (w.heap.size + 1) 0 [.int .i64 0, .slice none 0 0, .slice none 0 0, .slice none 0 0]).heap.size = w1.heap.size := setL_size _ _ _ _
   replace bR := bR.setAll [.int .i64 0, .slice none 0 0, .slice none 0 0, .slice none 0 0] rfl
   generalize setL w1 _ 0 _ = w3 at *
   have u0_ := bR.c0
   have u1_ := bR.c1
   have u2_ := bR.c2
   have u3_ := bR.c3
   refine bodyPost_ret (by simp only [results, Tryz.results21]; simp [go_sem, u0_, u1_, u2_, u3_]; rfl) rfl ?_
   exact ⟨_, _, _, by rw [HF.out.1, HF.out.2.1], by rw [HF.out.2.2.1]; exact Ow.nil_, by rw [HF.out.2.2.2.1]; exact Ow.nil_, by rw [HF.out.2.2.2.2]; exact Ow.nil_, b0⟩
  ·cases hp_ : inB p 0 15
   ·have HF := Lib.hid (Fa.ra_no (m := m) (st := st) (ls := ls) (lw := lw) (i := i) (p := p) (by simp [Fa.raOk, hg, hi_, hp_]))
    have HI := Lib.hid hi_
    have HR := Lib.hid hp_
    rw [hg] at c1
    have c2 := fun W => isIrq_any i W
    rw [hi_] at c2
    have c3 := fun W => isPriority_any p W
    rw [hp_] at c3
    clear hg hi_ hp_
    go_enter Tryz.func21, Tryz.ntmps21
    have bx_0 := bx.c0
    have bx_1 := bx.c1
    have bx_2 := bx.c2
    have bx_3 := bx.c3
    have bx_z := bx.frozen
    have bx_l := bx.lt
    have bR_0 := bR.c0
    have bR_1 := bR.c1
    have bR_2 := bR.c2
    have bR_3 := bR.c3
    have bR_z := bR.frozen
    have bR_l := bR.lt
    go_wp2_with fail
    clear hwA
    clear bx_0 bx_1 bx_2 bx_3 bx_z bx_l bR_0 bR_1 bR_2 bR_3 bR_z bR_l
    refine (c1).mono ?_; rintro q_ w1 ⟨rfl, b_1⟩
    replace bx := bx.below b_1 bx.lt
    replace bR := bR.below b_1 bR.lt
    replace ht := ht.below b_1 (by omega)
    replace hs := hs.below b_1 (by omega)
    replace hw := hw.below b_1 (by omega)
    have z_2 := b_1.size
    replace b0 := b0.trans (b_1.mono (by omega))
    clear b_1
    have bx_0 := bx.c0
    have bx_1 := bx.c1
    have bx_2 := bx.c2
    have bx_3 := bx.c3
    have bx_z := bx.frozen
    have bx_l := bx.lt
    have bR_0 := bR.c0
    have bR_1 := bR.c1
    have bR_2 := bR.c2
    have bR_3 := bR.c3
    have bR_z := bR.frozen
    have bR_l := bR.lt
    go_wp2_with fail
    clear bx_0 bx_1 bx_2 bx_3 bx_z bx_l bR_0 bR_1 bR_2 bR_3 bR_z bR_l
    refine (c2 w1).mono ?_; rintro q_ w_ ⟨rfl, rfl⟩
    have bx_0 := bx.c0
    have bx_1 := bx.c1
    have bx_2 := bx.c2
    have bx_3 := bx.c3
    have bx_z := bx.frozen
    have bx_l := bx.lt
    have bR_0 := bR.c0
    have bR_1 := bR.c1
    have bR_2 := bR.c2
    have bR_3 := bR.c3
    have bR_z := bR.frozen
    have bR_l := bR.lt
    go_wp2_with fail
    clear bx_0 bx_1 bx_2 bx_3 bx_z bx_l bR_0 bR_1 bR_2 bR_3 bR_z bR_l
    refine (c3 w1).mono ?_; rintro q_ w_ ⟨rfl, rfl⟩
    have bx_0 := bx.c0
    have bx_1 := bx.c1
    have bx_2 := bx.c2
    have bx_3 := bx.c3
    have bx_z := bx.frozen
    have bx_l := bx.lt
    have bR_0 := bR.c0
    have bR_1 := bR.c1
    have bR_2 := bR.c2
    have bR_3 := bR.c3
    have bR_z := bR.frozen
    have bR_l := bR.lt
    go_wp2_with fail
    clear bx_0 bx_1 bx_2 bx_3 bx_z bx_l bR_0 bR_1 bR_2 bR_3 bR_z bR_l
    generalize hwz : World.setCell (World.setCell (World.setCell (World.setCell _ _ _) _ _) _ _) _ _ = wz_
    obtain rfl : wz_ = setL w1 (w.heap.size + 1) 0 [.int .i64 0, .slice none 0 0, .slice none 0 0, .slice none 0 0] := hwz.symm
    clear hwz
    replace bx := bx.other (b := w.heap.size + 1) (by omega) 0 [.int .i64 0, .slice none 0 0, .slice none 0 0, .slice none 0 0]
    replace ht := ht.away (g := w.heap.size + 1) (by omega) 0 [.int .i64 0, .slice none 0 0, .slice none 0 0, .slice none 0 0]
    replace hs := hs.away (g := w.heap.size + 1) (by omega) 0 [.int .i64 0, .slice none 0 0, .slice none 0 0, .slice none 0 0]
    replace hw := hw.away (g := w.heap.size + 1) (by omega) 0 [.int .i64 0, .slice none 0 0, .slice none 0 0, .slice none 0 0]
    replace b0 := setL_below b0 [.int .i64 0, .slice none 0 0, .slice none 0 0, .slice none 0 0] (w.heap.size + 1) 0 (by omega)
    have zs_3 : (setL w1 (w.heap.size + 1) 0 [.int .i64 0, .slice none 0 0, .slice none 0 0, .slice none 0 0]).heap.size = w1.heap.size := setL_size _ _ _ _
    replace bR := bR.setAll [.int .i64 0, .slice none 0 0, .slice none 0 0, .slice none 0 0] rfl
    generalize setL w1 _ 0 _ = w3 at *
    have u0_ := bR.c0
    have u1_ := bR.c1
    have u2_ := bR.c2
    have u3_ := bR.c3
    refine bodyPost_ret (by simp only [results, Tryz.results21]; simp [go_sem, u0_, u1_, u2_, u3_]; rfl) rfl ?_
    exact ⟨_, _, _, by rw [HF.out.1, HF.out.2.1], by rw [HF.out.2.2.1]; exact Ow.nil_, by rw [HF.out.2.2.2.1]; exact Ow.nil_, by rw [HF.out.2.2.2.2]; exact Ow.nil_, b0⟩
   ·have HF := Lib.hid (Fa.ra_yes (m := m) (st := st) (ls := ls) (lw := lw) (i := i) (p := p) (by simp [Fa.raOk, hg, hi_, hp_]))
    have HI := Lib.hid hi_
    have HR := Lib.hid hp_
    rw [hg] at c1
    have c2 := fun W => isIrq_any i W
    rw [hi_] at c2
    have c3 := fun W => isPriority_any p W
    rw [hp_] at c3
    clear hg hi_ hp_
    go_enter Tryz.func21, Tryz.ntmps21
    have bx_0 := bx.c0
    have bx_1 := bx.c1
    have bx_2 := bx.c2
    have bx_3 := bx.c3
    have bx_z := bx.frozen
    have bx_l := bx.lt
    have bR_0 := bR.c0
    have bR_1 := bR.c1
    have bR_2 := bR.c2
    have bR_3 := bR.c3
    have bR_z := bR.frozen
    have bR_l := bR.lt
    go_wp2_with fail
    clear hwA
    clear bx_0 bx_1 bx_2 bx_3 bx_z bx_l bR_0 bR_1 bR_2 bR_3 bR_z bR_l
    refine (c1).mono ?_; rintro q_ w1 ⟨rfl, b_1⟩
    replace bx := bx.below b_1 bx.lt
    replace bR := bR.below b_1 bR.lt
    replace ht := ht.below b_1 (by omega)
    replace hs := hs.below b_1 (by omega)
    replace hw := hw.below b_1 (by omega)
    have z_2 := b_1.size
    replace b0 := b0.trans (b_1.mono (by omega))
    clear b_1
    have bx_0 := bx.c0
    have bx_1 := bx.c1
    have bx_2 := bx.c2
    have bx_3 := bx.c3
    have bx_z := bx.frozen
    have bx_l := bx.lt
    have bR_0 := bR.c0
    have bR_1 := bR.c1
    have bR_2 := bR.c2
    have bR_3 := bR.c3
    have bR_z := bR.frozen
    have bR_l := bR.lt
    go_wp2_with fail
    clear bx_0 bx_1 bx_2 bx_3 bx_z bx_l bR_0 bR_1 bR_2 bR_3 bR_z bR_l
    refine (c2 w1).mono ?_; rintro q_ w_ ⟨rfl, rfl⟩
    have bx_0 := bx.c0
    have bx_1 := bx.c1
    have bx_2 := bx.c2
    have bx_3 := bx.c3
    have bx_z := bx.frozen
    have bx_l := bx.lt
    have bR_0 := bR.c0
    have bR_1 := bR.c1
    have bR_2 := bR.c2
    have bR_3 := bR.c3
    have bR_z := bR.frozen
    have bR_l := bR.lt
    go_wp2_with fail
    clear bx_0 bx_1 bx_2 bx_3 bx_z bx_l bR_0 bR_1 bR_2 bR_3 bR_z bR_l
    refine (c3 w1).mono ?_; rintro q_ w_ ⟨rfl, rfl⟩
    have bx_0 := bx.c0
    have bx_1 := bx.c1
    have bx_2 := bx.c2
    have bx_3 := bx.c3
    have bx_z := bx.frozen
    have bx_l := bx.lt
    have bR_0 := bR.c0
    have bR_1 := bR.c1
    have bR_2 := bR.c2
    have bR_3 := bR.c3
    have bR_z := bR.frozen
    have bR_l := bR.lt
    go_wp2_with fail
    clear bx_0 bx_1 bx_2 bx_3 bx_z bx_l bR_0 bR_1 bR_2 bR_3 bR_z bR_l
    refine (implRaise_in m _ _ _ st ls lw w1 ht hs hw (by omega) (by omega) (by omega) i p hl HP.out HI.out HR.out).mono ?_; rintro q_ w3 ⟨v3, v4, v5, rfl, o3, o4, o5, b_3⟩
    replace bx := bx.below b_3 bx.lt
    replace bR := bR.below b_3 bR.lt
    replace ht := ht.below b_3 (by omega)
    replace hs := hs.below b_3 (by omega)
    replace hw := hw.below b_3 (by omega)
    have z_4 := b_3.size
    replace b0 := b0.trans (b_3.mono (by omega))
    clear b_3
    obtain ⟨A3, n3, d3, rfl, _, _, _⟩ := o3.rd.form
    obtain ⟨A4, n4, d4, rfl, _, _, _⟩ := o4.rd.form
    obtain ⟨A5, n5, d5, rfl, _, _, _⟩ := o5.rd.form
    have bx_0 := bx.c0
    have bx_1 := bx.c1
    have bx_2 := bx.c2
    have bx_3 := bx.c3
    have bx_z := bx.frozen
    have bx_l := bx.lt
    have bR_0 := bR.c0
    have bR_1 := bR.c1
    have bR_2 := bR.c2
    have bR_3 := bR.c3
    have bR_z := bR.frozen
    have bR_l := bR.lt
    go_wp2_with fail
    clear bx_0 bx_1 bx_2 bx_3 bx_z bx_l bR_0 bR_1 bR_2 bR_3 bR_z bR_l
    generalize hwz : World.setCell (World.setCell (World.setCell (World.setCell _ _ _) _ _) _ _) _ _ = wz_
    obtain rfl : wz_ = setL w3 (w.heap.size + 1) 0 [.int .i64 m, .slice A3 n3 d3, .slice A4 n4 d4, .slice A5 n5 d5] := hwz.symm
    clear hwz
    replace bx := bx.other (b := w.heap.size + 1) (by omega) 0 [.int .i64 m, .slice A3 n3 d3, .slice A4 n4 d4, .slice A5 n5 d5]
    replace ht := ht.away (g := w.heap.size + 1) (by omega) 0 [.int .i64 m, .slice A3 n3 d3, .slice A4 n4 d4, .slice A5 n5 d5]
    replace hs := hs.away (g := w.heap.size + 1) (by omega) 0 [.int .i64 m, .slice A3 n3 d3, .slice A4 n4 d4, .slice A5 n5 d5]
    replace hw := hw.away (g := w.heap.size + 1) (by omega) 0 [.int .i64 m, .slice A3 n3 d3, .slice A4 n4 d4, .slice A5 n5 d5]
    replace o3 := o3.box (g := w.heap.size + 1) bR (by decide) 0 [.int .i64 m, .slice A3 n3 d3, .slice A4 n4 d4, .slice A5 n5 d5]
    replace o4 := o4.box (g := w.heap.size + 1) bR (by decide) 0 [.int .i64 m, .slice A3 n3 d3, .slice A4 n4 d4, .slice A5 n5 d5]
    replace o5 := o5.box (g := w.heap.size + 1) bR (by decide) 0 [.int .i64 m, .slice A3 n3 d3, .slice A4 n4 d4, .slice A5 n5 d5]
    replace b0 := setL_below b0 [.int .i64 m, .slice A3 n3 d3, .slice A4 n4 d4, .slice A5 n5 d5] (w.heap.size + 1) 0 (by omega)
    have zs_5 : (setL w3 (w.heap.size + 1) 0 [.int .i64 m, .slice A3 n3 d3, .slice A4 n4 d4, .slice A5 n5 d5]).heap.size = w3.heap.size := setL_size _ _ _ _
    replace bR := bR.setAll [.int .i64 m, .slice A3 n3 d3, .slice A4 n4 d4, .slice A5 n5 d5] rfl
    generalize setL w3 _ 0 _ = w5 at *
    have u0_ := bR.c0
    have u1_ := bR.c1
    have u2_ := bR.c2
    have u3_ := bR.c3
    refine bodyPost_ret (by simp only [results, Tryz.results21]; simp [go_sem, u0_, u1_, u2_, u3_]; rfl) rfl ?_
    exact ⟨_, _, _, by rw [HF.out.1, HF.out.2.1], by rw [HF.out.2.2.1]; exact o3.mono (by omega) (by omega), by rw [HF.out.2.2.2.1]; exact o4.mono (by omega) (by omega), by rw [HF.out.2.2.2.2]; exact o5.mono (by omega) (by omega), b0⟩

end Go.Proofs.YtndfmkbpdoohfaaGreat

/- Leaving the last interrupt of an interface's stack, in the program and in the reference. Condition: at most 1048576 numbers on the stack. -/
namespace Go.Proofs.YtndfmkbpdoohfaaGreat
open Go.RowKit Go.ChangeShapes Go.WideShapes Go.Deep

theorem Nm.at_ {w : World} {lo hi b off n c k : Nat} {x : Int} {l : List Int} (h : Rd Nm.cells 1 w lo hi (.slice (some ⟨b, off, none⟩) n c) l) (hx : l[k]? = some x) : w.cell? ⟨b, off + k, none⟩ = some (.int .i64 x) := by
 obtain ⟨A, c', hv, _, _, h3⟩ := h
 injection hv with e1 e2 e3
 subst e1
 obtain ⟨b', off', hA, _, _, h4⟩ := h3 (by have := (List.getElem?_eq_some_iff.1 hx).1; omega)
 injection hA with hA
 injection hA with e4 e5
 subst e4; subst e5
 simpa using h4 k x hx 0 _ rfl
def Fa.top (st : List Int) : Int := st.getLast?.getD 0
def Fa.lvOk (m : Int) (st : List Int) (ls : List Sl) (lw : List Wt) : Bool := Fa.good m st ls lw && decide (0 < st.length)
def Fa.lvM (m : Int) (st : List Int) (ls : List Sl) (lw : List Wt) : Int := if Fa.lvOk m st ls lw then m else 0
def Fa.lvI (m : Int) (st : List Int) (ls : List Sl) (lw : List Wt) : Int := if Fa.lvOk m st ls lw then Fa.top st else 0
def Fa.lvT (m : Int) (st : List Int) (ls : List Sl) (lw : List Wt) : List Int := if Fa.lvOk m st ls lw then st.dropLast else []
def Fa.lvS (m : Int) (st : List Int) (ls : List Sl) (lw : List Wt) : List Sl := if Fa.lvOk m st ls lw then (Qu.enP ls lw (Fa.top st)).1 else []
def Fa.lvW (m : Int) (st : List Int) (ls : List Sl) (lw : List Wt) : List Wt := if Fa.lvOk m st ls lw then (Qu.enP ls lw (Fa.top st)).2 else []
theorem Fa.lv_no {m : Int} {st : List Int} {ls : List Sl} {lw : List Wt} (h : Fa.lvOk m st ls lw = false) : Fa.lvOk m st ls lw = false ∧ Fa.lvM m st ls lw = 0 ∧ Fa.lvI m st ls lw = 0 ∧ Fa.lvT m st ls lw = [] ∧ Fa.lvS m st ls lw = [] ∧ Fa.lvW m st ls lw = [] := by simp [Fa.lvM, Fa.lvI, Fa.lvT, Fa.lvS, Fa.lvW, h]
theorem Fa.top_at {st : List Int} {j : Nat} {x : Int} (hj : j + 1 = st.length) (hx : st[j]? = some x) : st = st.take j ++ [x] ∧ st.dropLast = st.take j ∧ Fa.top st = x := by
 have e : st = st.take j ++ [x] := by
  conv => lhs; rw [← List.take_length (l := st), ← hj, List.take_add_one, hx]
  rfl
 refine ⟨e, by rw [List.dropLast_eq_take, ← hj]; simp, ?_⟩
 rw [Fa.top, List.getLast?_eq_getElem?, ← hj]
 simp [hx]
theorem Fa.lv_yes {m : Int} {st : List Int} {ls : List Sl} {lw : List Wt} {j : Nat} {x : Int} (hg : Fa.good m st ls lw = true) (hj : j + 1 = st.length) (hx : st[j]? = some x) : Fa.lvOk m st ls lw = true ∧ Fa.lvM m st ls lw = m ∧ Fa.lvI m st ls lw = x ∧ Fa.lvT m st ls lw = st.take j ∧ Fa.lvS m st ls lw = (Qu.enP ls lw x).1 ∧ Fa.lvW m st ls lw = (Qu.enP ls lw x).2 := by
 have h : Fa.lvOk m st ls lw = true := by simp [Fa.lvOk, hg]; omega
 obtain ⟨_, e2, e3⟩ := Fa.top_at hj hx
 simp [Fa.lvM, Fa.lvI, Fa.lvT, Fa.lvS, Fa.lvW, h, e2, e3]
theorem Fa.lv_end {m : Int} {st : List Int} {ls : List Sl} {lw : List Wt} {j : Nat} {x : Int} (hg : Fa.good m st ls lw = true) (hj : j + 1 = st.length) (hx : st[j]? = some x) : Sl.endOk ls x = true ∧ Fa.Ok (st.take j) (Qu.enP ls lw x).1 := by
 obtain ⟨_, hq, ho⟩ := Fa.good_iff.1 hg
 rw [(Fa.top_at hj hx).1] at ho
 exact Fa.leave_ok (Qu.good_parts hq).1 ho

set_option maxHeartbeats 2000000 in
theorem specLeave_nil (m : Int) (vt vs vw : Value) (st : List Int) (ls : List Sl) (lw : List Wt) (w : World) {lo hi lo2 hi2 lo3 hi3 : Nat} (h0 : Rd Nm.cells 1 w lo3 hi3 vt st) (h : Rd Sl.cells 3 w lo hi vs ls) (h2 : Rd Wt.cells 2 w lo2 hi2 vw lw) (hh0 : hi3 ≤ w.heap.size) (hh : hi ≤ w.heap.size) (hh2 : hi2 ≤ w.heap.size) (hz : st = []) :
  Calls Tryz.prog 47 #[.agg #[.int .i64 m, vt, vs, vw]] w fun e w' => e = .returned (.tuple #[.agg #[.int .i64 m, vt, vs, vw], .int .i64 (-1)]) ∧ Below w.heap.size w w' := by
 have b0 : Below w.heap.size w ((w.alloc (.cells #[.int .i64 m, vt, vs, vw] 30)).alloc (.cells #[.int .i64 0, .slice none 0 0, .slice none 0 0, .slice none 0 0] 30)) := ((Below.refl w.heap.size w).alloc (Nat.le_refl _) _).alloc (by simp) _
 have z0 : ((w.alloc (.cells #[.int .i64 m, vt, vs, vw] 30)).alloc (.cells #[.int .i64 0, .slice none 0 0, .slice none 0 0, .slice none 0 0] 30)).heap.size = w.heap.size + 2 := by simp
 have bx := Box.new w #[.int .i64 m, vt, vs, vw] 30 rfl
 have bR := Box.new (g := w.heap.size + 1) (w.alloc (.cells #[.int .i64 m, vt, vs, vw] 30)) #[.int .i64 0, .slice none 0 0, .slice none 0 0, .slice none 0 0] 30 (by simp)
 replace bx := bx.below ((Below.refl _ (w.alloc (.cells #[.int .i64 m, vt, vs, vw] 30))).alloc (Nat.le_refl _) (.cells #[.int .i64 0, .slice none 0 0, .slice none 0 0, .slice none 0 0] 30)) bx.lt
 have ht := h0.below b0 hh0
 have hs := h.below b0 hh
 have hw := h2.below b0 hh2
 have hv0_ := h0.form
 have hv_ := h.form
 have hv2_ := h2.form
 clear h0 h h2
 generalize hwA : (w.alloc (.cells #[.int .i64 m, vt, vs, vw] 30)).alloc (.cells #[.int .i64 0, .slice none 0 0, .slice none 0 0, .slice none 0 0] 30) = wA at *
 obtain ⟨At, nt, dt, rfl, _, _, _⟩ := hv0_
 obtain ⟨A0, n0, d0, rfl, _, _, _⟩ := hv_
 obtain ⟨A1, n1, d1, rfl, _, _, _⟩ := hv2_
 obtain ⟨rfl⟩ : nt = 0 := by have := ht.n_eq.1; simpa [hz] using this
 go_enter Tryz.func47, Tryz.ntmps47
 have bx_0 := bx.c0
 have bx_1 := bx.c1
 have bx_2 := bx.c2
 have bx_3 := bx.c3
 have bx_z := bx.frozen
 have bx_l := bx.lt
 have bR_0 := bR.c0
 have bR_1 := bR.c1
 have bR_2 := bR.c2
 have bR_3 := bR.c3
 have bR_z := bR.frozen
 have bR_l := bR.lt
 go_wp2_with fail
 clear hwA
 clear bx_0 bx_1 bx_2 bx_3 bx_z bx_l bR_0 bR_1 bR_2 bR_3 bR_z bR_l
 generalize hwz : World.setCell (World.setCell (World.setCell (World.setCell _ _ _) _ _) _ _) _ _ = wz_
 obtain rfl : wz_ = setL wA (w.heap.size + 1) 0 [.int .i64 m, .slice At 0 dt, .slice A0 n0 d0, .slice A1 n1 d1] := hwz.symm
 clear hwz
 replace bx := bx.other (b := w.heap.size + 1) (by omega) 0 [.int .i64 m, .slice At 0 dt, .slice A0 n0 d0, .slice A1 n1 d1]
 replace ht := ht.away (g := w.heap.size + 1) (by omega) 0 [.int .i64 m, .slice At 0 dt, .slice A0 n0 d0, .slice A1 n1 d1]
 replace hs := hs.away (g := w.heap.size + 1) (by omega) 0 [.int .i64 m, .slice At 0 dt, .slice A0 n0 d0, .slice A1 n1 d1]
 replace hw := hw.away (g := w.heap.size + 1) (by omega) 0 [.int .i64 m, .slice At 0 dt, .slice A0 n0 d0, .slice A1 n1 d1]
 replace b0 := setL_below b0 [.int .i64 m, .slice At 0 dt, .slice A0 n0 d0, .slice A1 n1 d1] (w.heap.size + 1) 0 (by omega)
 have zs_1 : (setL wA (w.heap.size + 1) 0 [.int .i64 m, .slice At 0 dt, .slice A0 n0 d0, .slice A1 n1 d1]).heap.size = wA.heap.size := setL_size _ _ _ _
 replace bR := bR.setAll [.int .i64 m, .slice At 0 dt, .slice A0 n0 d0, .slice A1 n1 d1] rfl
 generalize setL wA _ 0 _ = w1 at *
 have u0_ := bR.c0
 have u1_ := bR.c1
 have u2_ := bR.c2
 have u3_ := bR.c3
 refine bodyPost_ret (by simp only [results, Tryz.results47]; simp [go_sem, u0_, u1_, u2_, u3_]; rfl) rfl ?_
 exact ⟨rfl, b0⟩
set_option maxHeartbeats 4000000 in
theorem specLeave_in (m : Int) (vt vs vw : Value) (st : List Int) (ls : List Sl) (lw : List Wt) (w : World) {lo hi lo2 hi2 lo3 hi3 : Nat} (h0 : Rd Nm.cells 1 w lo3 hi3 vt st) (h : Rd Sl.cells 3 w lo hi vs ls) (h2 : Rd Wt.cells 2 w lo2 hi2 vw lw) (hh0 : hi3 ≤ w.heap.size) (hh : hi ≤ w.heap.size) (hh2 : hi2 ≤ w.heap.size) (hl : st.length ≤ 1048576) (hp : Qu.parts ls lw = true) {j : Nat} {x : Int} (hj : j + 1 = st.length) (hx : st[j]? = some x) (hk : Sl.endOk ls x = true) :
  Calls Tryz.prog 47 #[.agg #[.int .i64 m, vt, vs, vw]] w fun e w' => ∃ v0 v1 v2, e = .returned (.tuple #[.agg #[.int .i64 m, v0, v1, v2], .int .i64 x]) ∧ Ow Nm.cells 1 3 w' w.heap.size w'.heap.size v0 (st.take j) ∧ Ow Sl.cells 3 93 w' w.heap.size w'.heap.size v1 ((Qu.enP ls lw x).1) ∧ Ow Wt.cells 2 107 w' w.heap.size w'.heap.size v2 ((Qu.enP ls lw x).2) ∧ Below w.heap.size w w' := by
 have b0 : Below w.heap.size w ((w.alloc (.cells #[.int .i64 m, vt, vs, vw] 30)).alloc (.cells #[.int .i64 0, .slice none 0 0, .slice none 0 0, .slice none 0 0] 30)) := ((Below.refl w.heap.size w).alloc (Nat.le_refl _) _).alloc (by simp) _
 have z0 : ((w.alloc (.cells #[.int .i64 m, vt, vs, vw] 30)).alloc (.cells #[.int .i64 0, .slice none 0 0, .slice none 0 0, .slice none 0 0] 30)).heap.size = w.heap.size + 2 := by simp
 have bx := Box.new w #[.int .i64 m, vt, vs, vw] 30 rfl
 have bR := Box.new (g := w.heap.size + 1) (w.alloc (.cells #[.int .i64 m, vt, vs, vw] 30)) #[.int .i64 0, .slice none 0 0, .slice none 0 0, .slice none 0 0] 30 (by simp)
 replace bx := bx.below ((Below.refl _ (w.alloc (.cells #[.int .i64 m, vt, vs, vw] 30))).alloc (Nat.le_refl _) (.cells #[.int .i64 0, .slice none 0 0, .slice none 0 0, .slice none 0 0] 30)) bx.lt
 have ht := h0.below b0 hh0
 have hs := h.below b0 hh
 have hw := h2.below b0 hh2
 have hv0_ := h0.form
 have hv_ := h.form
 have hv2_ := h2.form
 clear h0 h h2
 generalize hwA : (w.alloc (.cells #[.int .i64 m, vt, vs, vw] 30)).alloc (.cells #[.int .i64 0, .slice none 0 0, .slice none 0 0, .slice none 0 0] 30) = wA at *
 obtain ⟨At, nt, dt, rfl, _, _, _⟩ := hv0_
 obtain ⟨A0, n0, d0, rfl, _, _, _⟩ := hv_
 obtain ⟨A1, n1, d1, rfl, _, _, _⟩ := hv2_
 have hn := Nat.le_of_eq ht.n_eq.1
 have hn' := Nat.le_of_eq ht.n_eq.1.symm
 have hc := ht.n_eq.2
 have hj1 : j < nt := by omega
 obtain ⟨b, off, x', rfl, hx', _, hbh, f0⟩ := Nm.get ht hj1 (Below.refl wA.heap.size wA) (by omega)
 clear f0 hx' x'
 have HP := Lib.hid hp
 have HX := Lib.hid hx
 have HE := Lib.hid (Qu.ei_yes hk lw)
 have HK := Lib.hid hk
 have hje : (nt : Int) - 1 = (j : Int) := by omega
 have hjn : (j : Int) < (nt : Int) := by omega
 have hjl : (j : Int) ≤ (nt : Int) := by omega
 have hjc : (j : Int) ≤ (dt : Int) := by omega
 have hjm : dt ≤ 9223372036854775807 := by have := hc.2; unfold maxLen at this; omega
 have hzd2 : ((nt : Int) == 0) = false := by rw [beq_eq_false_iff_ne]; omega
 have hjd : decide ((j : Int) < 0) = false := decide_eq_false (by omega)
 have hjw : IntKind.i64.wrap (j : Int) = (j : Int) := IntWalk.i64_in _ (by omega)
 have hjnn : j ≤ nt := by omega
 have hjl2 : (st.take j).length ≤ 1048576 := by rw [List.length_take]; omega
 clear hp hx hk hj hn hn' hc
 go_enter Tryz.func47, Tryz.ntmps47
 have bx_0 := bx.c0
 have bx_1 := bx.c1
 have bx_2 := bx.c2
 have bx_3 := bx.c3
 have bx_z := bx.frozen
 have bx_l := bx.lt
 have bR_0 := bR.c0
 have bR_1 := bR.c1
 have bR_2 := bR.c2
 have bR_3 := bR.c3
 have bR_z := bR.frozen
 have bR_l := bR.lt
 go_upto_region 4 with fail
 clear hwA
 clear bx_0 bx_1 bx_2 bx_3 bx_z bx_l bR_0 bR_1 bR_2 bR_3 bR_z bR_l
 go_cut [5, 6] (fun s5 s6 wx => ∃ (ww : World) (gT : Nat) (v1 v2 : Value), ww = wx ∧ s5 = .pointer (some ⟨gT, 0, none⟩) ∧ s6 = .bool (Sl.endOk ls x) ∧ Below wA.heap.size wA wx ∧ wA.heap.size ≤ gT ∧ Box wx gT 28 [v1, v2] ∧ Ow Sl.cells 3 93 wx wA.heap.size wx.heap.size v1 (Qu.eiS ls lw x) ∧ Ow Wt.cells 2 107 wx wA.heap.size wx.heap.size v2 (Qu.eiW ls lw x))
 case first =>
  have bC := Below.refl wA.heap.size wA
  have zB := b0.size
  refine wp_region_held_drew (S := fun W => Box W (w.heap.size) 30 [.int .i64 m, .slice (some ⟨b, off, none⟩) nt dt, .slice A0 n0 d0, .slice A1 n1 d1] ∧ Rd Nm.cells 1 W lo3 hi3 (.slice (some ⟨b, off, none⟩) nt dt) st) (by kernel_rfl) (show (fun (W : World) => Box W (w.heap.size) 30 [.int .i64 m, .slice (some ⟨b, off, none⟩) nt dt, .slice A0 n0 d0, .slice A1 n1 d1] ∧ Rd Nm.cells 1 W lo3 hi3 (.slice (some ⟨b, off, none⟩) nt dt) st) wA.drew from ⟨bx, ht.drew⟩) (fun hHeld => ?_)
  refine wpAnyH_take (i := 0) (v := .pointer (some ⟨w.heap.size, 2, none⟩)) rfl (by kernel_rfl) (by kernel_rfl) (by kernel_rfl) (fun _ _ _ h => h) (Or.inl ⟨by rfl, by intro w hSw; obtain ⟨hS0, hS1⟩ := hSw; have y00 := hS0.c0; have y01 := hS0.c1; have y02 := hS0.c2; have y03 := hS0.c3; have yx := Nm.at_ hS1 HX.out; go_simp⟩) hHeld ?_
  refine wpAnyH_take (i := 1) (v := .agg #[.slice A0 n0 d0, .slice A1 n1 d1]) rfl (by kernel_rfl) (by kernel_rfl) (by kernel_rfl) (fun _ _ _ h => h) (Or.inl ⟨by rfl, by intro w hSw; obtain ⟨hS0, hS1⟩ := hSw; have y00 := hS0.c0; have y01 := hS0.c1; have y02 := hS0.c2; have y03 := hS0.c3; have yx := Nm.at_ hS1 HX.out; go_simp⟩) hHeld ?_
  refine wpAnyH_take (i := 2) (v := .pointer (some ⟨w.heap.size, 1, none⟩)) rfl (by kernel_rfl) (by kernel_rfl) (by kernel_rfl) (fun _ _ _ h => h) (Or.inl ⟨by rfl, by intro w hSw; obtain ⟨hS0, hS1⟩ := hSw; have y00 := hS0.c0; have y01 := hS0.c1; have y02 := hS0.c2; have y03 := hS0.c3; have yx := Nm.at_ hS1 HX.out; go_simp⟩) hHeld ?_
  refine wpAnyH_take (i := 3) (v := .slice (some ⟨b, off, none⟩) nt dt) rfl (by kernel_rfl) (by kernel_rfl) (by kernel_rfl) (fun _ _ _ h => h) (Or.inl ⟨by rfl, by intro w hSw; obtain ⟨hS0, hS1⟩ := hSw; have y00 := hS0.c0; have y01 := hS0.c1; have y02 := hS0.c2; have y03 := hS0.c3; have yx := Nm.at_ hS1 HX.out; go_simp⟩) hHeld ?_
  refine wpAnyH_take (i := 4) (v := .int .i64 nt) rfl (by kernel_rfl) (by kernel_rfl) (by kernel_rfl) (fun _ _ _ h => h) (Or.inl ⟨by rfl, by intro w hSw; obtain ⟨hS0, hS1⟩ := hSw; have y00 := hS0.c0; have y01 := hS0.c1; have y02 := hS0.c2; have y03 := hS0.c3; have yx := Nm.at_ hS1 HX.out; go_simp⟩) hHeld ?_
  refine wpAnyH_take (i := 5) (v := .int .i64 j) rfl (by kernel_rfl) (by kernel_rfl) (by kernel_rfl) (fun _ _ _ h => h) (Or.inl ⟨by rfl, by intro w hSw; obtain ⟨hS0, hS1⟩ := hSw; have y00 := hS0.c0; have y01 := hS0.c1; have y02 := hS0.c2; have y03 := hS0.c3; have yx := Nm.at_ hS1 HX.out; go_simp⟩) hHeld ?_
  refine wpAnyH_take (i := 6) (v := .pointer (some ⟨b, off + j, none⟩)) rfl (by kernel_rfl) (by kernel_rfl) (by kernel_rfl) (fun _ _ _ h => h) (Or.inl ⟨by rfl, by intro w hSw; obtain ⟨hS0, hS1⟩ := hSw; have y00 := hS0.c0; have y01 := hS0.c1; have y02 := hS0.c2; have y03 := hS0.c3; have yx := Nm.at_ hS1 HX.out; go_simp⟩) hHeld ?_
  refine wpAnyH_take (i := 7) (v := .int .i64 x) rfl (by kernel_rfl) (by kernel_rfl) (by kernel_rfl) (fun _ _ _ h => h) (Or.inl ⟨by rfl, by intro w hSw; obtain ⟨hS0, hS1⟩ := hSw; have y00 := hS0.c0; have y01 := hS0.c1; have y02 := hS0.c2; have y03 := hS0.c3; have yx := Nm.at_ hS1 HX.out; go_simp⟩) hHeld ?_
  clear hHeld
  refine held_gen (F := fun W' => Below wA.heap.size wA W') (Below.refl wA.heap.size wA).drew ?_
  rintro w1 b_1
  replace bx := bx.below b_1 bx.lt
  replace bR := bR.below b_1 bR.lt
  replace ht := ht.below b_1 (by omega)
  replace hs := hs.below b_1 (by omega)
  replace hw := hw.below b_1 (by omega)
  have z_2 := b_1.size
  replace bC := bC.trans (b_1.mono (by omega))
  clear b_1
  refine wpAnyH_ready (rs := [8, 12]) (by kernel_rfl) (by decide) ?_
  refine AllReadyH.cons rfl (fun K3a hK3a => ?_) (AllReadyH.cons rfl (fun K3b hK3b => ?_) AllReadyH.nil)
  ·go_simp
   refine (specEndQ_in _ _ ls lw x w1 hs hw (by omega) (by omega) HP.out).mono ?_; rintro q_ w4 ⟨v5, v6, rfl, o5, o6, b_4⟩
   replace bx := bx.below b_4 bx.lt
   replace bR := bR.below b_4 bR.lt
   replace ht := ht.below b_4 (by omega)
   replace hs := hs.below b_4 (by omega)
   replace hw := hw.below b_4 (by omega)
   have z_5 := b_4.size
   replace bC := bC.trans (b_4.mono (by omega))
   clear b_4
   obtain ⟨A5, n5, d5, rfl, _, _, _⟩ := o5.rd.form
   obtain ⟨A6, n6, d6, rfl, _, _, _⟩ := o6.rd.form
   refine hK3a.out _ _ ⟨bx, ht⟩ (fun _ => ?_)
   have hHeld : (fun (W : World) => Box W (w.heap.size) 30 [.int .i64 m, .slice (some ⟨b, off, none⟩) nt dt, .slice A0 n0 d0, .slice A1 n1 d1] ∧ Rd Nm.cells 1 W lo3 hi3 (.slice (some ⟨b, off, none⟩) nt dt) st) w4 := ⟨bx, ht⟩
   refine wpAnyH_take (i := 9) (v := .tuple #[.agg #[.slice A5 n5 d5, .slice A6 n6 d6], .bool (Sl.endOk ls x)]) rfl (by kernel_rfl) (by kernel_rfl) (by kernel_rfl) (fun _ _ _ h => h) (Or.inl ⟨by rfl, by intro w hSw; obtain ⟨hS0, hS1⟩ := hSw; have y00 := hS0.c0; have y01 := hS0.c1; have y02 := hS0.c2; have y03 := hS0.c3; have yx := Nm.at_ hS1 HX.out; go_simp⟩) hHeld ?_
   refine wpAnyH_take (i := 10) (v := .agg #[.slice A5 n5 d5, .slice A6 n6 d6]) rfl (by kernel_rfl) (by kernel_rfl) (by kernel_rfl) (fun _ _ _ h => h) (Or.inl ⟨by rfl, by intro w hSw; obtain ⟨hS0, hS1⟩ := hSw; have y00 := hS0.c0; have y01 := hS0.c1; have y02 := hS0.c2; have y03 := hS0.c3; have yx := Nm.at_ hS1 HX.out; go_simp⟩) hHeld ?_
   refine wpAnyH_take (i := 11) (v := .bool (Sl.endOk ls x)) rfl (by kernel_rfl) (by kernel_rfl) (by kernel_rfl) (fun _ _ _ h => h) (Or.inl ⟨by rfl, by intro w hSw; obtain ⟨hS0, hS1⟩ := hSw; have y00 := hS0.c0; have y01 := hS0.c1; have y02 := hS0.c2; have y03 := hS0.c3; have yx := Nm.at_ hS1 HX.out; go_simp⟩) hHeld ?_
   clear hHeld
   refine wpAnyH_ready (rs := [12]) (by kernel_rfl) (by decide) ?_
   refine AllReadyH.cons rfl (fun K6 hK6 => ?_) AllReadyH.nil
   go_simp
   have b_7 := (Below.refl w4.heap.size w4).alloc (Nat.le_refl _) (.cells #[.slice none 0 0, .slice none 0 0] 28)
   have bT := Box.new w4 #[.slice none 0 0, .slice none 0 0] 28 rfl
   replace bx := bx.below b_7 bx.lt
   replace bR := bR.below b_7 bR.lt
   replace ht := ht.below b_7 (by omega)
   replace hs := hs.below b_7 (by omega)
   replace hw := hw.below b_7 (by omega)
   replace o5 := o5.below b_7 (by omega)
   replace o6 := o6.below b_7 (by omega)
   have z_8 := b_7.size
   replace bC := bC.trans (b_7.mono (by omega))
   clear b_7
   generalize w4.alloc _ = w7 at *
   generalize w4.heap.size = g7 at *
   refine hK6.out _ _ ⟨bx, ht⟩ (fun _ => ?_)
   refine wpAnyH_ready (rs := [13]) (by kernel_rfl) (by decide) ?_
   refine AllReadyH.cons rfl (fun K9 hK9 => ?_) AllReadyH.nil
   have bx_0 := bx.c0
   have bx_1 := bx.c1
   have bx_2 := bx.c2
   have bx_3 := bx.c3
   have bx_z := bx.frozen
   have bx_l := bx.lt
   have bR_0 := bR.c0
   have bR_1 := bR.c1
   have bR_2 := bR.c2
   have bR_3 := bR.c3
   have bR_z := bR.frozen
   have bR_l := bR.lt
   have bT_0 := bT.c0
   have bT_1 := bT.c1
   have bT_z := bT.frozen
   have bT_l := bT.lt
   go_simp
   clear bx_0 bx_1 bx_2 bx_3 bx_z bx_l bR_0 bR_1 bR_2 bR_3 bR_z bR_l bT_0 bT_1 bT_z bT_l
   generalize hwz : World.setCell (World.setCell _ _ _) _ _ = wz_
   obtain rfl : wz_ = setL w7 (g7) 0 [.slice A5 n5 d5, .slice A6 n6 d6] := hwz.symm
   clear hwz
   replace bx := bx.other (b := g7) (by omega) 0 [.slice A5 n5 d5, .slice A6 n6 d6]
   replace bR := bR.other (b := g7) (by omega) 0 [.slice A5 n5 d5, .slice A6 n6 d6]
   replace ht := ht.away (g := g7) (by omega) 0 [.slice A5 n5 d5, .slice A6 n6 d6]
   replace hs := hs.away (g := g7) (by omega) 0 [.slice A5 n5 d5, .slice A6 n6 d6]
   replace hw := hw.away (g := g7) (by omega) 0 [.slice A5 n5 d5, .slice A6 n6 d6]
   replace o5 := o5.box (g := g7) bT (by decide) 0 [.slice A5 n5 d5, .slice A6 n6 d6]
   replace o6 := o6.box (g := g7) bT (by decide) 0 [.slice A5 n5 d5, .slice A6 n6 d6]
   replace bC := setL_below bC [.slice A5 n5 d5, .slice A6 n6 d6] (g7) 0 (by omega)
   have zs_10 : (setL w7 (g7) 0 [.slice A5 n5 d5, .slice A6 n6 d6]).heap.size = w7.heap.size := setL_size _ _ _ _
   replace bT := bT.setAll [.slice A5 n5 d5, .slice A6 n6 d6] rfl
   generalize setL w7 _ 0 _ = w10 at *
   refine hK9.out _ _ ⟨bx, ht⟩ (fun _ => ?_)
   refine wpAnyH_ready (rs := [14]) (by kernel_rfl) (by decide) ?_
   refine AllReadyH.cons rfl (fun K11 hK11 => ?_) AllReadyH.nil
   go_simp
   refine hK11.out _ _ ⟨bx, ht⟩ (fun _ => ?_)
   refine ⟨by kernel_rfl, ?_⟩
   have bx_0 := bx.c0
   have bx_1 := bx.c1
   have bx_2 := bx.c2
   have bx_3 := bx.c3
   have bx_z := bx.frozen
   have bx_l := bx.lt
   have bR_0 := bR.c0
   have bR_1 := bR.c1
   have bR_2 := bR.c2
   have bR_3 := bR.c3
   have bR_z := bR.frozen
   have bR_l := bR.lt
   have bT_0 := bT.c0
   have bT_1 := bT.c1
   have bT_z := bT.frozen
   have bT_l := bT.lt
   go_wp2_with fail
   clear bx_0 bx_1 bx_2 bx_3 bx_z bx_l bR_0 bR_1 bR_2 bR_3 bR_z bR_l bT_0 bT_1 bT_z bT_l
   go_meet
   exact ⟨_, _, _, _, rfl, rfl, rfl, bC, by omega, bT, o5.mono (by omega) (by omega), o6.mono (by omega) (by omega)⟩
  ·go_simp
   have b_4 := (Below.refl w1.heap.size w1).alloc (Nat.le_refl _) (.cells #[.slice none 0 0, .slice none 0 0] 28)
   have bT := Box.new w1 #[.slice none 0 0, .slice none 0 0] 28 rfl
   replace bx := bx.below b_4 bx.lt
   replace bR := bR.below b_4 bR.lt
   replace ht := ht.below b_4 (by omega)
   replace hs := hs.below b_4 (by omega)
   replace hw := hw.below b_4 (by omega)
   have z_5 := b_4.size
   replace bC := bC.trans (b_4.mono (by omega))
   clear b_4
   generalize w1.alloc _ = w4 at *
   generalize w1.heap.size = g4 at *
   refine hK3b.out _ _ ⟨bx, ht⟩ (fun _ => ?_)
   refine wpAnyH_ready (rs := [8]) (by kernel_rfl) (by decide) ?_
   refine AllReadyH.cons rfl (fun K6 hK6 => ?_) AllReadyH.nil
   go_simp
   refine (specEndQ_in _ _ ls lw x w4 hs hw (by omega) (by omega) HP.out).mono ?_; rintro q_ w7 ⟨v5, v6, rfl, o5, o6, b_7⟩
   replace bx := bx.below b_7 bx.lt
   replace bR := bR.below b_7 bR.lt
   replace bT := bT.below b_7 bT.lt
   replace ht := ht.below b_7 (by omega)
   replace hs := hs.below b_7 (by omega)
   replace hw := hw.below b_7 (by omega)
   have z_8 := b_7.size
   replace bC := bC.trans (b_7.mono (by omega))
   clear b_7
   obtain ⟨A5, n5, d5, rfl, _, _, _⟩ := o5.rd.form
   obtain ⟨A6, n6, d6, rfl, _, _, _⟩ := o6.rd.form
   refine hK6.out _ _ ⟨bx, ht⟩ (fun _ => ?_)
   have hHeld : (fun (W : World) => Box W (w.heap.size) 30 [.int .i64 m, .slice (some ⟨b, off, none⟩) nt dt, .slice A0 n0 d0, .slice A1 n1 d1] ∧ Rd Nm.cells 1 W lo3 hi3 (.slice (some ⟨b, off, none⟩) nt dt) st) w7 := ⟨bx, ht⟩
   refine wpAnyH_take (i := 9) (v := .tuple #[.agg #[.slice A5 n5 d5, .slice A6 n6 d6], .bool (Sl.endOk ls x)]) rfl (by kernel_rfl) (by kernel_rfl) (by kernel_rfl) (fun _ _ _ h => h) (Or.inl ⟨by rfl, by intro w hSw; obtain ⟨hS0, hS1⟩ := hSw; have y00 := hS0.c0; have y01 := hS0.c1; have y02 := hS0.c2; have y03 := hS0.c3; have yx := Nm.at_ hS1 HX.out; go_simp⟩) hHeld ?_
   refine wpAnyH_take (i := 10) (v := .agg #[.slice A5 n5 d5, .slice A6 n6 d6]) rfl (by kernel_rfl) (by kernel_rfl) (by kernel_rfl) (fun _ _ _ h => h) (Or.inl ⟨by rfl, by intro w hSw; obtain ⟨hS0, hS1⟩ := hSw; have y00 := hS0.c0; have y01 := hS0.c1; have y02 := hS0.c2; have y03 := hS0.c3; have yx := Nm.at_ hS1 HX.out; go_simp⟩) hHeld ?_
   refine wpAnyH_take (i := 11) (v := .bool (Sl.endOk ls x)) rfl (by kernel_rfl) (by kernel_rfl) (by kernel_rfl) (fun _ _ _ h => h) (Or.inl ⟨by rfl, by intro w hSw; obtain ⟨hS0, hS1⟩ := hSw; have y00 := hS0.c0; have y01 := hS0.c1; have y02 := hS0.c2; have y03 := hS0.c3; have yx := Nm.at_ hS1 HX.out; go_simp⟩) hHeld ?_
   clear hHeld
   refine wpAnyH_ready (rs := [13]) (by kernel_rfl) (by decide) ?_
   refine AllReadyH.cons rfl (fun K9 hK9 => ?_) AllReadyH.nil
   have bx_0 := bx.c0
   have bx_1 := bx.c1
   have bx_2 := bx.c2
   have bx_3 := bx.c3
   have bx_z := bx.frozen
   have bx_l := bx.lt
   have bR_0 := bR.c0
   have bR_1 := bR.c1
   have bR_2 := bR.c2
   have bR_3 := bR.c3
   have bR_z := bR.frozen
   have bR_l := bR.lt
   have bT_0 := bT.c0
   have bT_1 := bT.c1
   have bT_z := bT.frozen
   have bT_l := bT.lt
   go_simp
   clear bx_0 bx_1 bx_2 bx_3 bx_z bx_l bR_0 bR_1 bR_2 bR_3 bR_z bR_l bT_0 bT_1 bT_z bT_l
   generalize hwz : World.setCell (World.setCell _ _ _) _ _ = wz_
   obtain rfl : wz_ = setL w7 (g4) 0 [.slice A5 n5 d5, .slice A6 n6 d6] := hwz.symm
   clear hwz
   replace bx := bx.other (b := g4) (by omega) 0 [.slice A5 n5 d5, .slice A6 n6 d6]
   replace bR := bR.other (b := g4) (by omega) 0 [.slice A5 n5 d5, .slice A6 n6 d6]
   replace ht := ht.away (g := g4) (by omega) 0 [.slice A5 n5 d5, .slice A6 n6 d6]
   replace hs := hs.away (g := g4) (by omega) 0 [.slice A5 n5 d5, .slice A6 n6 d6]
   replace hw := hw.away (g := g4) (by omega) 0 [.slice A5 n5 d5, .slice A6 n6 d6]
   replace o5 := o5.box (g := g4) bT (by decide) 0 [.slice A5 n5 d5, .slice A6 n6 d6]
   replace o6 := o6.box (g := g4) bT (by decide) 0 [.slice A5 n5 d5, .slice A6 n6 d6]
   replace bC := setL_below bC [.slice A5 n5 d5, .slice A6 n6 d6] (g4) 0 (by omega)
   have zs_10 : (setL w7 (g4) 0 [.slice A5 n5 d5, .slice A6 n6 d6]).heap.size = w7.heap.size := setL_size _ _ _ _
   replace bT := bT.setAll [.slice A5 n5 d5, .slice A6 n6 d6] rfl
   generalize setL w7 _ 0 _ = w10 at *
   refine hK9.out _ _ ⟨bx, ht⟩ (fun _ => ?_)
   refine wpAnyH_ready (rs := [14]) (by kernel_rfl) (by decide) ?_
   refine AllReadyH.cons rfl (fun K11 hK11 => ?_) AllReadyH.nil
   go_simp
   refine hK11.out _ _ ⟨bx, ht⟩ (fun _ => ?_)
   refine ⟨by kernel_rfl, ?_⟩
   have bx_0 := bx.c0
   have bx_1 := bx.c1
   have bx_2 := bx.c2
   have bx_3 := bx.c3
   have bx_z := bx.frozen
   have bx_l := bx.lt
   have bR_0 := bR.c0
   have bR_1 := bR.c1
   have bR_2 := bR.c2
   have bR_3 := bR.c3
   have bR_z := bR.frozen
   have bR_l := bR.lt
   have bT_0 := bT.c0
   have bT_1 := bT.c1
   have bT_z := bT.frozen
   have bT_l := bT.lt
   go_wp2_with fail
   clear bx_0 bx_1 bx_2 bx_3 bx_z bx_l bR_0 bR_1 bR_2 bR_3 bR_z bR_l bT_0 bT_1 bT_z bT_l
   go_meet
   exact ⟨_, _, _, _, rfl, rfl, rfl, bC, by omega, bT, o5.mono (by omega) (by omega), o6.mono (by omega) (by omega)⟩
 case rest =>
   obtain ⟨wx, gT, v1, v2, rfl, rfl, rfl, bC, zT, bT, o5, o6⟩ := hcut
   replace bx := bx.below bC bx.lt
   replace bR := bR.below bC bR.lt
   replace ht := ht.below bC (by omega)
   replace hs := hs.below bC (by omega)
   replace hw := hw.below bC (by omega)
   have z_51 := bC.size
   replace b0 := b0.trans (bC.mono (by omega))
   clear bC
   obtain ⟨A5, n5, d5, rfl, _, _, _⟩ := o5.rd.form
   obtain ⟨A6, n6, d6, rfl, _, _, _⟩ := o6.rd.form
   have zTl := bT.lt
   have bx_0 := bx.c0
   have bx_1 := bx.c1
   have bx_2 := bx.c2
   have bx_3 := bx.c3
   have bx_z := bx.frozen
   have bx_l := bx.lt
   have bR_0 := bR.c0
   have bR_1 := bR.c1
   have bR_2 := bR.c2
   have bR_3 := bR.c3
   have bR_z := bR.frozen
   have bR_l := bR.lt
   have bT_0 := bT.c0
   have bT_1 := bT.c1
   have bT_z := bT.frozen
   have bT_l := bT.lt
   go_upto_region 5 with fail
   clear bx_0 bx_1 bx_2 bx_3 bx_z bx_l bR_0 bR_1 bR_2 bR_3 bR_z bR_l bT_0 bT_1 bT_z bT_l
   refine wp_region_held_drew (S := fun W => Box W (w.heap.size) 30 [.int .i64 m, .slice (some ⟨b, off, none⟩) nt dt, .slice A0 n0 d0, .slice A1 n1 d1] ∧ Box W (gT) 28 [.slice A5 n5 d5, .slice A6 n6 d6] ∧ Rd Nm.cells 1 W lo3 hi3 (.slice (some ⟨b, off, none⟩) nt dt) st) (by kernel_rfl) (show (fun (W : World) => Box W (w.heap.size) 30 [.int .i64 m, .slice (some ⟨b, off, none⟩) nt dt, .slice A0 n0 d0, .slice A1 n1 d1] ∧ Box W (gT) 28 [.slice A5 n5 d5, .slice A6 n6 d6] ∧ Rd Nm.cells 1 W lo3 hi3 (.slice (some ⟨b, off, none⟩) nt dt) st) wx.drew from ⟨bx, bT, ht.drew⟩) (fun hHeld => ?_)
   refine wpAnyH_take (i := 0) (v := .pointer (some ⟨w.heap.size, 0, none⟩)) rfl (by kernel_rfl) (by kernel_rfl) (by kernel_rfl) (fun _ _ _ h => h) (Or.inl ⟨by rfl, by intro w hSw; obtain ⟨hS0, hS1, hS2⟩ := hSw; have y00 := hS0.c0; have y01 := hS0.c1; have y02 := hS0.c2; have y03 := hS0.c3; have y10 := hS1.c0; have y11 := hS1.c1; have yx := Nm.at_ hS2 HX.out; go_simp⟩) hHeld ?_
   refine wpAnyH_take (i := 1) (v := .int .i64 m) rfl (by kernel_rfl) (by kernel_rfl) (by kernel_rfl) (fun _ _ _ h => h) (Or.inl ⟨by rfl, by intro w hSw; obtain ⟨hS0, hS1, hS2⟩ := hSw; have y00 := hS0.c0; have y01 := hS0.c1; have y02 := hS0.c2; have y03 := hS0.c3; have y10 := hS1.c0; have y11 := hS1.c1; have yx := Nm.at_ hS2 HX.out; go_simp⟩) hHeld ?_
   refine wpAnyH_take (i := 2) (v := .pointer (some ⟨w.heap.size, 1, none⟩)) rfl (by kernel_rfl) (by kernel_rfl) (by kernel_rfl) (fun _ _ _ h => h) (Or.inl ⟨by rfl, by intro w hSw; obtain ⟨hS0, hS1, hS2⟩ := hSw; have y00 := hS0.c0; have y01 := hS0.c1; have y02 := hS0.c2; have y03 := hS0.c3; have y10 := hS1.c0; have y11 := hS1.c1; have yx := Nm.at_ hS2 HX.out; go_simp⟩) hHeld ?_
   refine wpAnyH_take (i := 3) (v := .slice (some ⟨b, off, none⟩) nt dt) rfl (by kernel_rfl) (by kernel_rfl) (by kernel_rfl) (fun _ _ _ h => h) (Or.inl ⟨by rfl, by intro w hSw; obtain ⟨hS0, hS1, hS2⟩ := hSw; have y00 := hS0.c0; have y01 := hS0.c1; have y02 := hS0.c2; have y03 := hS0.c3; have y10 := hS1.c0; have y11 := hS1.c1; have yx := Nm.at_ hS2 HX.out; go_simp⟩) hHeld ?_
   refine wpAnyH_take (i := 4) (v := .int .i64 nt) rfl (by kernel_rfl) (by kernel_rfl) (by kernel_rfl) (fun _ _ _ h => h) (Or.inl ⟨by rfl, by intro w hSw; obtain ⟨hS0, hS1, hS2⟩ := hSw; have y00 := hS0.c0; have y01 := hS0.c1; have y02 := hS0.c2; have y03 := hS0.c3; have y10 := hS1.c0; have y11 := hS1.c1; have yx := Nm.at_ hS2 HX.out; go_simp⟩) hHeld ?_
   refine wpAnyH_take (i := 5) (v := .int .i64 j) rfl (by kernel_rfl) (by kernel_rfl) (by kernel_rfl) (fun _ _ _ h => h) (Or.inl ⟨by rfl, by intro w hSw; obtain ⟨hS0, hS1, hS2⟩ := hSw; have y00 := hS0.c0; have y01 := hS0.c1; have y02 := hS0.c2; have y03 := hS0.c3; have y10 := hS1.c0; have y11 := hS1.c1; have yx := Nm.at_ hS2 HX.out; go_simp⟩) hHeld ?_
   refine wpAnyH_take (i := 6) (v := .slice (some ⟨b, off, none⟩) j dt) rfl (by kernel_rfl) (by kernel_rfl) (by kernel_rfl) (fun _ _ _ h => h) (Or.inl ⟨by rfl, by intro w hSw; obtain ⟨hS0, hS1, hS2⟩ := hSw; have y00 := hS0.c0; have y01 := hS0.c1; have y02 := hS0.c2; have y03 := hS0.c3; have y10 := hS1.c0; have y11 := hS1.c1; have yx := Nm.at_ hS2 HX.out; go_simp⟩) hHeld ?_
   refine wpAnyH_take (i := 8) (v := .agg #[.slice A5 n5 d5, .slice A6 n6 d6]) rfl (by kernel_rfl) (by kernel_rfl) (by kernel_rfl) (fun _ _ _ h => h) (Or.inl ⟨by rfl, by intro w hSw; obtain ⟨hS0, hS1, hS2⟩ := hSw; have y00 := hS0.c0; have y01 := hS0.c1; have y02 := hS0.c2; have y03 := hS0.c3; have y10 := hS1.c0; have y11 := hS1.c1; have yx := Nm.at_ hS2 HX.out; go_simp⟩) hHeld ?_
   refine wpAnyH_take (i := 10) (v := .pointer (some ⟨w.heap.size, 1, none⟩)) rfl (by kernel_rfl) (by kernel_rfl) (by kernel_rfl) (fun _ _ _ h => h) (Or.inl ⟨by rfl, by intro w hSw; obtain ⟨hS0, hS1, hS2⟩ := hSw; have y00 := hS0.c0; have y01 := hS0.c1; have y02 := hS0.c2; have y03 := hS0.c3; have y10 := hS1.c0; have y11 := hS1.c1; have yx := Nm.at_ hS2 HX.out; go_simp⟩) hHeld ?_
   refine wpAnyH_take (i := 11) (v := .slice (some ⟨b, off, none⟩) nt dt) rfl (by kernel_rfl) (by kernel_rfl) (by kernel_rfl) (fun _ _ _ h => h) (Or.inl ⟨by rfl, by intro w hSw; obtain ⟨hS0, hS1, hS2⟩ := hSw; have y00 := hS0.c0; have y01 := hS0.c1; have y02 := hS0.c2; have y03 := hS0.c3; have y10 := hS1.c0; have y11 := hS1.c1; have yx := Nm.at_ hS2 HX.out; go_simp⟩) hHeld ?_
   refine wpAnyH_take (i := 12) (v := .int .i64 nt) rfl (by kernel_rfl) (by kernel_rfl) (by kernel_rfl) (fun _ _ _ h => h) (Or.inl ⟨by rfl, by intro w hSw; obtain ⟨hS0, hS1, hS2⟩ := hSw; have y00 := hS0.c0; have y01 := hS0.c1; have y02 := hS0.c2; have y03 := hS0.c3; have y10 := hS1.c0; have y11 := hS1.c1; have yx := Nm.at_ hS2 HX.out; go_simp⟩) hHeld ?_
   refine wpAnyH_take (i := 13) (v := .int .i64 j) rfl (by kernel_rfl) (by kernel_rfl) (by kernel_rfl) (fun _ _ _ h => h) (Or.inl ⟨by rfl, by intro w hSw; obtain ⟨hS0, hS1, hS2⟩ := hSw; have y00 := hS0.c0; have y01 := hS0.c1; have y02 := hS0.c2; have y03 := hS0.c3; have y10 := hS1.c0; have y11 := hS1.c1; have yx := Nm.at_ hS2 HX.out; go_simp⟩) hHeld ?_
   refine wpAnyH_take (i := 14) (v := .pointer (some ⟨b, off + j, none⟩)) rfl (by kernel_rfl) (by kernel_rfl) (by kernel_rfl) (fun _ _ _ h => h) (Or.inl ⟨by rfl, by intro w hSw; obtain ⟨hS0, hS1, hS2⟩ := hSw; have y00 := hS0.c0; have y01 := hS0.c1; have y02 := hS0.c2; have y03 := hS0.c3; have y10 := hS1.c0; have y11 := hS1.c1; have yx := Nm.at_ hS2 HX.out; go_simp⟩) hHeld ?_
   refine wpAnyH_take (i := 15) (v := .int .i64 x) rfl (by kernel_rfl) (by kernel_rfl) (by kernel_rfl) (fun _ _ _ h => h) (Or.inl ⟨by rfl, by intro w hSw; obtain ⟨hS0, hS1, hS2⟩ := hSw; have y00 := hS0.c0; have y01 := hS0.c1; have y02 := hS0.c2; have y03 := hS0.c3; have y10 := hS1.c0; have y11 := hS1.c1; have yx := Nm.at_ hS2 HX.out; go_simp⟩) hHeld ?_
   clear hHeld
   refine held_gen (F := fun W' => Below wx.heap.size wx W') (Below.refl wx.heap.size wx).drew ?_
   rintro w52 b_52
   replace bx := bx.below b_52 bx.lt
   replace bR := bR.below b_52 bR.lt
   replace bT := bT.below b_52 bT.lt
   replace ht := ht.below b_52 (by omega)
   replace hs := hs.below b_52 (by omega)
   replace hw := hw.below b_52 (by omega)
   replace o5 := o5.below b_52 (by omega)
   replace o6 := o6.below b_52 (by omega)
   have z_53 := b_52.size
   replace b0 := b0.trans (b_52.mono (by omega))
   clear b_52
   refine wpAnyH_ready (rs := [7]) (by kernel_rfl) (by decide) ?_
   refine AllReadyH.cons rfl (fun K54 hK54 => ?_) AllReadyH.nil
   go_simp
   refine (l1Own_any _ (st.take j) w52 (ht.take_ hjnn) (by omega) hjl2).mono ?_; rintro q_ w55 ⟨v3, rfl, o3, b_55⟩
   replace bx := bx.below b_55 bx.lt
   replace bR := bR.below b_55 bR.lt
   replace bT := bT.below b_55 bT.lt
   replace ht := ht.below b_55 (by omega)
   replace hs := hs.below b_55 (by omega)
   replace hw := hw.below b_55 (by omega)
   replace o5 := o5.below b_55 (by omega)
   replace o6 := o6.below b_55 (by omega)
   have z_56 := b_55.size
   replace b0 := b0.trans (b_55.mono (by omega))
   clear b_55
   obtain ⟨A3, n3, d3, rfl, _, _, _⟩ := o3.rd.form
   refine hK54.out _ _ ⟨bx, bT, ht⟩ (fun _ => ?_)
   have hHeld : (fun (W : World) => Box W (w.heap.size) 30 [.int .i64 m, .slice (some ⟨b, off, none⟩) nt dt, .slice A0 n0 d0, .slice A1 n1 d1] ∧ Box W (gT) 28 [.slice A5 n5 d5, .slice A6 n6 d6] ∧ Rd Nm.cells 1 W lo3 hi3 (.slice (some ⟨b, off, none⟩) nt dt) st) w55 := ⟨bx, bT, ht⟩
   refine wpAnyH_take (i := 9) (v := .agg #[.int .i64 m, .slice A3 n3 d3, .slice A5 n5 d5, .slice A6 n6 d6]) rfl (by kernel_rfl) (by kernel_rfl) (by kernel_rfl) (fun _ _ _ h => h) (Or.inl ⟨by rfl, by intro w hSw; obtain ⟨hS0, hS1, hS2⟩ := hSw; have y00 := hS0.c0; have y01 := hS0.c1; have y02 := hS0.c2; have y03 := hS0.c3; have y10 := hS1.c0; have y11 := hS1.c1; have yx := Nm.at_ hS2 HX.out; go_simp⟩) hHeld ?_
   clear hHeld
   refine wpAnyH_ready (rs := [16]) (by kernel_rfl) (by decide) ?_
   refine AllReadyH.cons rfl (fun K57 hK57 => ?_) AllReadyH.nil
   have bx_0 := bx.c0
   have bx_1 := bx.c1
   have bx_2 := bx.c2
   have bx_3 := bx.c3
   have bx_z := bx.frozen
   have bx_l := bx.lt
   have bR_0 := bR.c0
   have bR_1 := bR.c1
   have bR_2 := bR.c2
   have bR_3 := bR.c3
   have bR_z := bR.frozen
   have bR_l := bR.lt
   have bT_0 := bT.c0
   have bT_1 := bT.c1
   have bT_z := bT.frozen
   have bT_l := bT.lt
   go_simp
   clear bx_0 bx_1 bx_2 bx_3 bx_z bx_l bR_0 bR_1 bR_2 bR_3 bR_z bR_l bT_0 bT_1 bT_z bT_l
   generalize hwz : World.setCell (World.setCell (World.setCell (World.setCell _ _ _) _ _) _ _) _ _ = wz_
   obtain rfl : wz_ = setL w55 (w.heap.size + 1) 0 [.int .i64 m, .slice A3 n3 d3, .slice A5 n5 d5, .slice A6 n6 d6] := hwz.symm
   clear hwz
   replace bx := bx.other (b := w.heap.size + 1) (by omega) 0 [.int .i64 m, .slice A3 n3 d3, .slice A5 n5 d5, .slice A6 n6 d6]
   replace bT := bT.other (b := w.heap.size + 1) (by omega) 0 [.int .i64 m, .slice A3 n3 d3, .slice A5 n5 d5, .slice A6 n6 d6]
   replace ht := ht.away (g := w.heap.size + 1) (by omega) 0 [.int .i64 m, .slice A3 n3 d3, .slice A5 n5 d5, .slice A6 n6 d6]
   replace hs := hs.away (g := w.heap.size + 1) (by omega) 0 [.int .i64 m, .slice A3 n3 d3, .slice A5 n5 d5, .slice A6 n6 d6]
   replace hw := hw.away (g := w.heap.size + 1) (by omega) 0 [.int .i64 m, .slice A3 n3 d3, .slice A5 n5 d5, .slice A6 n6 d6]
   replace o5 := o5.box (g := w.heap.size + 1) bR (by decide) 0 [.int .i64 m, .slice A3 n3 d3, .slice A5 n5 d5, .slice A6 n6 d6]
   replace o6 := o6.box (g := w.heap.size + 1) bR (by decide) 0 [.int .i64 m, .slice A3 n3 d3, .slice A5 n5 d5, .slice A6 n6 d6]
   replace o3 := o3.box (g := w.heap.size + 1) bR (by decide) 0 [.int .i64 m, .slice A3 n3 d3, .slice A5 n5 d5, .slice A6 n6 d6]
   replace b0 := setL_below b0 [.int .i64 m, .slice A3 n3 d3, .slice A5 n5 d5, .slice A6 n6 d6] (w.heap.size + 1) 0 (by omega)
   have zs_58 : (setL w55 (w.heap.size + 1) 0 [.int .i64 m, .slice A3 n3 d3, .slice A5 n5 d5, .slice A6 n6 d6]).heap.size = w55.heap.size := setL_size _ _ _ _
   replace bR := bR.setAll [.int .i64 m, .slice A3 n3 d3, .slice A5 n5 d5, .slice A6 n6 d6] rfl
   generalize setL w55 _ 0 _ = w58 at *
   refine hK57.out _ _ ⟨bx, bT, ht⟩ (fun _ => ?_)
   refine wpAnyH_ready (rs := [17]) (by kernel_rfl) (by decide) ?_
   refine AllReadyH.cons rfl (fun K59 hK59 => ?_) AllReadyH.nil
   go_simp
   refine hK59.out _ _ ⟨bx, bT, ht⟩ (fun _ => ?_)
   refine ⟨by kernel_rfl, ?_⟩
   have bx_0 := bx.c0
   have bx_1 := bx.c1
   have bx_2 := bx.c2
   have bx_3 := bx.c3
   have bx_z := bx.frozen
   have bx_l := bx.lt
   have bR_0 := bR.c0
   have bR_1 := bR.c1
   have bR_2 := bR.c2
   have bR_3 := bR.c3
   have bR_z := bR.frozen
   have bR_l := bR.lt
   have bT_0 := bT.c0
   have bT_1 := bT.c1
   have bT_z := bT.frozen
   have bT_l := bT.lt
   go_wp2_with fail
   clear bx_0 bx_1 bx_2 bx_3 bx_z bx_l bR_0 bR_1 bR_2 bR_3 bR_z bR_l bT_0 bT_1 bT_z bT_l
   have u0_ := bR.c0
   have u1_ := bR.c1
   have u2_ := bR.c2
   have u3_ := bR.c3
   refine bodyPost_ret (by simp only [results, Tryz.results47]; simp [go_sem, u0_, u1_, u2_, u3_]; rfl) rfl ?_
   exact ⟨_, _, _, rfl, o3.mono (by omega) (by omega), by rw [← HE.out.1]; exact o5.mono (by omega) (by omega), by rw [← HE.out.2]; exact o6.mono (by omega) (by omega), b0⟩
set_option maxHeartbeats 2000000 in
theorem implLeave_nil (m : Int) (vt vs vw : Value) (st : List Int) (ls : List Sl) (lw : List Wt) (w : World) {lo hi lo2 hi2 lo3 hi3 : Nat} (h0 : Rd Nm.cells 1 w lo3 hi3 vt st) (h : Rd Sl.cells 3 w lo hi vs ls) (h2 : Rd Wt.cells 2 w lo2 hi2 vw lw) (hh0 : hi3 ≤ w.heap.size) (hh : hi ≤ w.heap.size) (hh2 : hi2 ≤ w.heap.size) (hz : st = []) :
  Calls Tryz.prog 46 #[.agg #[.int .i64 m, vt, vs, vw]] w fun e w' => e = .returned (.tuple #[.agg #[.int .i64 0, .slice none 0 0, .slice none 0 0, .slice none 0 0], .int .i64 0, .bool false]) ∧ Below w.heap.size w w' := by
 have b0 : Below w.heap.size w ((w.alloc (.cells #[.int .i64 m, vt, vs, vw] 30)).alloc (.cells #[.int .i64 0, .slice none 0 0, .slice none 0 0, .slice none 0 0] 30)) := ((Below.refl w.heap.size w).alloc (Nat.le_refl _) _).alloc (by simp) _
 have z0 : ((w.alloc (.cells #[.int .i64 m, vt, vs, vw] 30)).alloc (.cells #[.int .i64 0, .slice none 0 0, .slice none 0 0, .slice none 0 0] 30)).heap.size = w.heap.size + 2 := by simp
 have bx := Box.new w #[.int .i64 m, vt, vs, vw] 30 rfl
 have bR := Box.new (g := w.heap.size + 1) (w.alloc (.cells #[.int .i64 m, vt, vs, vw] 30)) #[.int .i64 0, .slice none 0 0, .slice none 0 0, .slice none 0 0] 30 (by simp)
 replace bx := bx.below ((Below.refl _ (w.alloc (.cells #[.int .i64 m, vt, vs, vw] 30))).alloc (Nat.le_refl _) (.cells #[.int .i64 0, .slice none 0 0, .slice none 0 0, .slice none 0 0] 30)) bx.lt
 have ht := h0.below b0 hh0
 have hs := h.below b0 hh
 have hw := h2.below b0 hh2
 have hv0_ := h0.form
 have hv_ := h.form
 have hv2_ := h2.form
 clear h0 h h2
 generalize hwA : (w.alloc (.cells #[.int .i64 m, vt, vs, vw] 30)).alloc (.cells #[.int .i64 0, .slice none 0 0, .slice none 0 0, .slice none 0 0] 30) = wA at *
 obtain ⟨At, nt, dt, rfl, _, _, _⟩ := hv0_
 obtain ⟨A0, n0, d0, rfl, _, _, _⟩ := hv_
 obtain ⟨A1, n1, d1, rfl, _, _, _⟩ := hv2_
 obtain ⟨rfl⟩ : nt = 0 := by have := ht.n_eq.1; simpa [hz] using this
 go_enter Tryz.func46, Tryz.ntmps46
 have bx_0 := bx.c0
 have bx_1 := bx.c1
 have bx_2 := bx.c2
 have bx_3 := bx.c3
 have bx_z := bx.frozen
 have bx_l := bx.lt
 have bR_0 := bR.c0
 have bR_1 := bR.c1
 have bR_2 := bR.c2
 have bR_3 := bR.c3
 have bR_z := bR.frozen
 have bR_l := bR.lt
 go_wp2_with fail
 clear hwA
 clear bx_0 bx_1 bx_2 bx_3 bx_z bx_l bR_0 bR_1 bR_2 bR_3 bR_z bR_l
 generalize hwz : World.setCell (World.setCell (World.setCell (World.setCell _ _ _) _ _) _ _) _ _ = wz_
 obtain rfl : wz_ = setL wA (w.heap.size + 1) 0 [.int .i64 0, .slice none 0 0, .slice none 0 0, .slice none 0 0] := hwz.symm
 clear hwz
 replace bx := bx.other (b := w.heap.size + 1) (by omega) 0 [.int .i64 0, .slice none 0 0, .slice none 0 0, .slice none 0 0]
 replace ht := ht.away (g := w.heap.size + 1) (by omega) 0 [.int .i64 0, .slice none 0 0, .slice none 0 0, .slice none 0 0]
 replace hs := hs.away (g := w.heap.size + 1) (by omega) 0 [.int .i64 0, .slice none 0 0, .slice none 0 0, .slice none 0 0]
 replace hw := hw.away (g := w.heap.size + 1) (by omega) 0 [.int .i64 0, .slice none 0 0, .slice none 0 0, .slice none 0 0]
 replace b0 := setL_below b0 [.int .i64 0, .slice none 0 0, .slice none 0 0, .slice none 0 0] (w.heap.size + 1) 0 (by omega)
 have zs_1 : (setL wA (w.heap.size + 1) 0 [.int .i64 0, .slice none 0 0, .slice none 0 0, .slice none 0 0]).heap.size = wA.heap.size := setL_size _ _ _ _
 replace bR := bR.setAll [.int .i64 0, .slice none 0 0, .slice none 0 0, .slice none 0 0] rfl
 generalize setL wA _ 0 _ = w1 at *
 have u0_ := bR.c0
 have u1_ := bR.c1
 have u2_ := bR.c2
 have u3_ := bR.c3
 refine bodyPost_ret (by simp only [results, Tryz.results46]; simp [go_sem, u0_, u1_, u2_, u3_]; rfl) rfl ?_
 exact ⟨rfl, b0⟩
set_option maxHeartbeats 4000000 in
theorem implLeave_in (m : Int) (vt vs vw : Value) (st : List Int) (ls : List Sl) (lw : List Wt) (w : World) {lo hi lo2 hi2 lo3 hi3 : Nat} (h0 : Rd Nm.cells 1 w lo3 hi3 vt st) (h : Rd Sl.cells 3 w lo hi vs ls) (h2 : Rd Wt.cells 2 w lo2 hi2 vw lw) (hh0 : hi3 ≤ w.heap.size) (hh : hi ≤ w.heap.size) (hh2 : hi2 ≤ w.heap.size) (hl : st.length ≤ 1048576) (hp : Qu.parts ls lw = true) {j : Nat} {x : Int} (hj : j + 1 = st.length) (hx : st[j]? = some x) (hk : Sl.endOk ls x = true) :
  Calls Tryz.prog 46 #[.agg #[.int .i64 m, vt, vs, vw]] w fun e w' => ∃ v0 v1 v2, e = .returned (.tuple #[.agg #[.int .i64 m, v0, v1, v2], .int .i64 x, .bool true]) ∧ Ow Nm.cells 1 3 w' w.heap.size w'.heap.size v0 (st.take j) ∧ Ow Sl.cells 3 93 w' w.heap.size w'.heap.size v1 ((Qu.enP ls lw x).1) ∧ Ow Wt.cells 2 107 w' w.heap.size w'.heap.size v2 ((Qu.enP ls lw x).2) ∧ Below w.heap.size w w' := by
 have b0 : Below w.heap.size w ((w.alloc (.cells #[.int .i64 m, vt, vs, vw] 30)).alloc (.cells #[.int .i64 0, .slice none 0 0, .slice none 0 0, .slice none 0 0] 30)) := ((Below.refl w.heap.size w).alloc (Nat.le_refl _) _).alloc (by simp) _
 have z0 : ((w.alloc (.cells #[.int .i64 m, vt, vs, vw] 30)).alloc (.cells #[.int .i64 0, .slice none 0 0, .slice none 0 0, .slice none 0 0] 30)).heap.size = w.heap.size + 2 := by simp
 have bx := Box.new w #[.int .i64 m, vt, vs, vw] 30 rfl
 have bR := Box.new (g := w.heap.size + 1) (w.alloc (.cells #[.int .i64 m, vt, vs, vw] 30)) #[.int .i64 0, .slice none 0 0, .slice none 0 0, .slice none 0 0] 30 (by simp)
 replace bx := bx.below ((Below.refl _ (w.alloc (.cells #[.int .i64 m, vt, vs, vw] 30))).alloc (Nat.le_refl _) (.cells #[.int .i64 0, .slice none 0 0, .slice none 0 0, .slice none 0 0] 30)) bx.lt
 have ht := h0.below b0 hh0
 have hs := h.below b0 hh
 have hw := h2.below b0 hh2
 have hv0_ := h0.form
 have hv_ := h.form
 have hv2_ := h2.form
 clear h0 h h2
 generalize hwA : (w.alloc (.cells #[.int .i64 m, vt, vs, vw] 30)).alloc (.cells #[.int .i64 0, .slice none 0 0, .slice none 0 0, .slice none 0 0] 30) = wA at *
 obtain ⟨At, nt, dt, rfl, _, _, _⟩ := hv0_
 obtain ⟨A0, n0, d0, rfl, _, _, _⟩ := hv_
 obtain ⟨A1, n1, d1, rfl, _, _, _⟩ := hv2_
 have hn := Nat.le_of_eq ht.n_eq.1
 have hn' := Nat.le_of_eq ht.n_eq.1.symm
 have hc := ht.n_eq.2
 have hj1 : j < nt := by omega
 obtain ⟨b, off, x', rfl, hx', _, hbh, f0⟩ := Nm.get ht hj1 (Below.refl wA.heap.size wA) (by omega)
 clear f0 hx' x'
 have HP := Lib.hid hp
 have HX := Lib.hid hx
 have HE := Lib.hid (Qu.ei_yes hk lw)
 have HK := Lib.hid hk
 have hje : (nt : Int) - 1 = (j : Int) := by omega
 have hjn : (j : Int) < (nt : Int) := by omega
 have hjl : (j : Int) ≤ (nt : Int) := by omega
 have hjc : (j : Int) ≤ (dt : Int) := by omega
 have hjm : dt ≤ 9223372036854775807 := by have := hc.2; unfold maxLen at this; omega
 have hzd2 : ((nt : Int) == 0) = false := by rw [beq_eq_false_iff_ne]; omega
 have hjd : decide ((j : Int) < 0) = false := decide_eq_false (by omega)
 have hjw : IntKind.i64.wrap (j : Int) = (j : Int) := IntWalk.i64_in _ (by omega)
 have hjnn : j ≤ nt := by omega
 have hjl2 : (st.take j).length ≤ 1048576 := by rw [List.length_take]; omega
 clear hp hx hk hj hn hn' hc
 go_enter Tryz.func46, Tryz.ntmps46
 have bx_0 := bx.c0
 have bx_1 := bx.c1
 have bx_2 := bx.c2
 have bx_3 := bx.c3
 have bx_z := bx.frozen
 have bx_l := bx.lt
 have bR_0 := bR.c0
 have bR_1 := bR.c1
 have bR_2 := bR.c2
 have bR_3 := bR.c3
 have bR_z := bR.frozen
 have bR_l := bR.lt
 go_upto_region 4 with fail
 clear hwA
 clear bx_0 bx_1 bx_2 bx_3 bx_z bx_l bR_0 bR_1 bR_2 bR_3 bR_z bR_l
 go_cut [6, 7] (fun s6 s7 wx => ∃ (ww : World) (gT : Nat) (v1 v2 : Value), ww = wx ∧ s6 = .pointer (some ⟨gT, 0, none⟩) ∧ s7 = .bool (Sl.endOk ls x) ∧ Below wA.heap.size wA wx ∧ wA.heap.size ≤ gT ∧ Box wx gT 28 [v1, v2] ∧ Ow Sl.cells 3 93 wx wA.heap.size wx.heap.size v1 (Qu.eiS ls lw x) ∧ Ow Wt.cells 2 107 wx wA.heap.size wx.heap.size v2 (Qu.eiW ls lw x))
 case first =>
  have bC := Below.refl wA.heap.size wA
  have zB := b0.size
  refine wp_region_held_drew (S := fun W => Box W (w.heap.size) 30 [.int .i64 m, .slice (some ⟨b, off, none⟩) nt dt, .slice A0 n0 d0, .slice A1 n1 d1] ∧ Rd Nm.cells 1 W lo3 hi3 (.slice (some ⟨b, off, none⟩) nt dt) st) (by kernel_rfl) (show (fun (W : World) => Box W (w.heap.size) 30 [.int .i64 m, .slice (some ⟨b, off, none⟩) nt dt, .slice A0 n0 d0, .slice A1 n1 d1] ∧ Rd Nm.cells 1 W lo3 hi3 (.slice (some ⟨b, off, none⟩) nt dt) st) wA.drew from ⟨bx, ht.drew⟩) (fun hHeld => ?_)
  refine wpAnyH_take (i := 0) (v := .pointer (some ⟨w.heap.size, 2, none⟩)) rfl (by kernel_rfl) (by kernel_rfl) (by kernel_rfl) (fun _ _ _ h => h) (Or.inl ⟨by rfl, by intro w hSw; obtain ⟨hS0, hS1⟩ := hSw; have y00 := hS0.c0; have y01 := hS0.c1; have y02 := hS0.c2; have y03 := hS0.c3; have yx := Nm.at_ hS1 HX.out; go_simp⟩) hHeld ?_
  refine wpAnyH_take (i := 1) (v := .agg #[.slice A0 n0 d0, .slice A1 n1 d1]) rfl (by kernel_rfl) (by kernel_rfl) (by kernel_rfl) (fun _ _ _ h => h) (Or.inl ⟨by rfl, by intro w hSw; obtain ⟨hS0, hS1⟩ := hSw; have y00 := hS0.c0; have y01 := hS0.c1; have y02 := hS0.c2; have y03 := hS0.c3; have yx := Nm.at_ hS1 HX.out; go_simp⟩) hHeld ?_
  refine wpAnyH_take (i := 2) (v := .pointer (some ⟨w.heap.size, 1, none⟩)) rfl (by kernel_rfl) (by kernel_rfl) (by kernel_rfl) (fun _ _ _ h => h) (Or.inl ⟨by rfl, by intro w hSw; obtain ⟨hS0, hS1⟩ := hSw; have y00 := hS0.c0; have y01 := hS0.c1; have y02 := hS0.c2; have y03 := hS0.c3; have yx := Nm.at_ hS1 HX.out; go_simp⟩) hHeld ?_
  refine wpAnyH_take (i := 3) (v := .slice (some ⟨b, off, none⟩) nt dt) rfl (by kernel_rfl) (by kernel_rfl) (by kernel_rfl) (fun _ _ _ h => h) (Or.inl ⟨by rfl, by intro w hSw; obtain ⟨hS0, hS1⟩ := hSw; have y00 := hS0.c0; have y01 := hS0.c1; have y02 := hS0.c2; have y03 := hS0.c3; have yx := Nm.at_ hS1 HX.out; go_simp⟩) hHeld ?_
  refine wpAnyH_take (i := 4) (v := .int .i64 j) rfl (by kernel_rfl) (by kernel_rfl) (by kernel_rfl) (fun _ _ _ h => h) (Or.inl ⟨by rfl, by intro w hSw; obtain ⟨hS0, hS1⟩ := hSw; have y00 := hS0.c0; have y01 := hS0.c1; have y02 := hS0.c2; have y03 := hS0.c3; have yx := Nm.at_ hS1 HX.out; go_simp⟩) hHeld ?_
  refine wpAnyH_take (i := 5) (v := .pointer (some ⟨b, off + j, none⟩)) rfl (by kernel_rfl) (by kernel_rfl) (by kernel_rfl) (fun _ _ _ h => h) (Or.inl ⟨by rfl, by intro w hSw; obtain ⟨hS0, hS1⟩ := hSw; have y00 := hS0.c0; have y01 := hS0.c1; have y02 := hS0.c2; have y03 := hS0.c3; have yx := Nm.at_ hS1 HX.out; go_simp⟩) hHeld ?_
  refine wpAnyH_take (i := 6) (v := .int .i64 x) rfl (by kernel_rfl) (by kernel_rfl) (by kernel_rfl) (fun _ _ _ h => h) (Or.inl ⟨by rfl, by intro w hSw; obtain ⟨hS0, hS1⟩ := hSw; have y00 := hS0.c0; have y01 := hS0.c1; have y02 := hS0.c2; have y03 := hS0.c3; have yx := Nm.at_ hS1 HX.out; go_simp⟩) hHeld ?_
  clear hHeld
  refine held_gen (F := fun W' => Below wA.heap.size wA W') (Below.refl wA.heap.size wA).drew ?_
  rintro w1 b_1
  replace bx := bx.below b_1 bx.lt
  replace bR := bR.below b_1 bR.lt
  replace ht := ht.below b_1 (by omega)
  replace hs := hs.below b_1 (by omega)
  replace hw := hw.below b_1 (by omega)
  have z_2 := b_1.size
  replace bC := bC.trans (b_1.mono (by omega))
  clear b_1
  refine wpAnyH_ready (rs := [7, 11]) (by kernel_rfl) (by decide) ?_
  refine AllReadyH.cons rfl (fun K3a hK3a => ?_) (AllReadyH.cons rfl (fun K3b hK3b => ?_) AllReadyH.nil)
  ·go_simp
   refine (implEndQ_in _ _ ls lw x w1 hs hw (by omega) (by omega) HP.out).mono ?_; rintro q_ w4 ⟨v5, v6, rfl, o5, o6, b_4⟩
   replace bx := bx.below b_4 bx.lt
   replace bR := bR.below b_4 bR.lt
   replace ht := ht.below b_4 (by omega)
   replace hs := hs.below b_4 (by omega)
   replace hw := hw.below b_4 (by omega)
   have z_5 := b_4.size
   replace bC := bC.trans (b_4.mono (by omega))
   clear b_4
   obtain ⟨A5, n5, d5, rfl, _, _, _⟩ := o5.rd.form
   obtain ⟨A6, n6, d6, rfl, _, _, _⟩ := o6.rd.form
   refine hK3a.out _ _ ⟨bx, ht⟩ (fun _ => ?_)
   have hHeld : (fun (W : World) => Box W (w.heap.size) 30 [.int .i64 m, .slice (some ⟨b, off, none⟩) nt dt, .slice A0 n0 d0, .slice A1 n1 d1] ∧ Rd Nm.cells 1 W lo3 hi3 (.slice (some ⟨b, off, none⟩) nt dt) st) w4 := ⟨bx, ht⟩
   refine wpAnyH_take (i := 8) (v := .tuple #[.agg #[.slice A5 n5 d5, .slice A6 n6 d6], .bool (Sl.endOk ls x)]) rfl (by kernel_rfl) (by kernel_rfl) (by kernel_rfl) (fun _ _ _ h => h) (Or.inl ⟨by rfl, by intro w hSw; obtain ⟨hS0, hS1⟩ := hSw; have y00 := hS0.c0; have y01 := hS0.c1; have y02 := hS0.c2; have y03 := hS0.c3; have yx := Nm.at_ hS1 HX.out; go_simp⟩) hHeld ?_
   refine wpAnyH_take (i := 9) (v := .agg #[.slice A5 n5 d5, .slice A6 n6 d6]) rfl (by kernel_rfl) (by kernel_rfl) (by kernel_rfl) (fun _ _ _ h => h) (Or.inl ⟨by rfl, by intro w hSw; obtain ⟨hS0, hS1⟩ := hSw; have y00 := hS0.c0; have y01 := hS0.c1; have y02 := hS0.c2; have y03 := hS0.c3; have yx := Nm.at_ hS1 HX.out; go_simp⟩) hHeld ?_
   refine wpAnyH_take (i := 10) (v := .bool (Sl.endOk ls x)) rfl (by kernel_rfl) (by kernel_rfl) (by kernel_rfl) (fun _ _ _ h => h) (Or.inl ⟨by rfl, by intro w hSw; obtain ⟨hS0, hS1⟩ := hSw; have y00 := hS0.c0; have y01 := hS0.c1; have y02 := hS0.c2; have y03 := hS0.c3; have yx := Nm.at_ hS1 HX.out; go_simp⟩) hHeld ?_
   clear hHeld
   refine wpAnyH_ready (rs := [11]) (by kernel_rfl) (by decide) ?_
   refine AllReadyH.cons rfl (fun K6 hK6 => ?_) AllReadyH.nil
   go_simp
   have b_7 := (Below.refl w4.heap.size w4).alloc (Nat.le_refl _) (.cells #[.slice none 0 0, .slice none 0 0] 28)
   have bT := Box.new w4 #[.slice none 0 0, .slice none 0 0] 28 rfl
   replace bx := bx.below b_7 bx.lt
   replace bR := bR.below b_7 bR.lt
   replace ht := ht.below b_7 (by omega)
   replace hs := hs.below b_7 (by omega)
   replace hw := hw.below b_7 (by omega)
   replace o5 := o5.below b_7 (by omega)
   replace o6 := o6.below b_7 (by omega)
   have z_8 := b_7.size
   replace bC := bC.trans (b_7.mono (by omega))
   clear b_7
   generalize w4.alloc _ = w7 at *
   generalize w4.heap.size = g7 at *
   refine hK6.out _ _ ⟨bx, ht⟩ (fun _ => ?_)
   refine wpAnyH_ready (rs := [12]) (by kernel_rfl) (by decide) ?_
   refine AllReadyH.cons rfl (fun K9 hK9 => ?_) AllReadyH.nil
   have bx_0 := bx.c0
   have bx_1 := bx.c1
   have bx_2 := bx.c2
   have bx_3 := bx.c3
   have bx_z := bx.frozen
   have bx_l := bx.lt
   have bR_0 := bR.c0
   have bR_1 := bR.c1
   have bR_2 := bR.c2
   have bR_3 := bR.c3
   have bR_z := bR.frozen
   have bR_l := bR.lt
   have bT_0 := bT.c0
   have bT_1 := bT.c1
   have bT_z := bT.frozen
   have bT_l := bT.lt
   go_simp
   clear bx_0 bx_1 bx_2 bx_3 bx_z bx_l bR_0 bR_1 bR_2 bR_3 bR_z bR_l bT_0 bT_1 bT_z bT_l
   generalize hwz : World.setCell (World.setCell _ _ _) _ _ = wz_
   obtain rfl : wz_ = setL w7 (g7) 0 [.slice A5 n5 d5, .slice A6 n6 d6] := hwz.symm
   clear hwz
   replace bx := bx.other (b := g7) (by omega) 0 [.slice A5 n5 d5, .slice A6 n6 d6]
   replace bR := bR.other (b := g7) (by omega) 0 [.slice A5 n5 d5, .slice A6 n6 d6]
   replace ht := ht.away (g := g7) (by omega) 0 [.slice A5 n5 d5, .slice A6 n6 d6]
   replace hs := hs.away (g := g7) (by omega) 0 [.slice A5 n5 d5, .slice A6 n6 d6]
   replace hw := hw.away (g := g7) (by omega) 0 [.slice A5 n5 d5, .slice A6 n6 d6]
   replace o5 := o5.box (g := g7) bT (by decide) 0 [.slice A5 n5 d5, .slice A6 n6 d6]
   replace o6 := o6.box (g := g7) bT (by decide) 0 [.slice A5 n5 d5, .slice A6 n6 d6]
   replace bC := setL_below bC [.slice A5 n5 d5, .slice A6 n6 d6] (g7) 0 (by omega)
   have zs_10 : (setL w7 (g7) 0 [.slice A5 n5 d5, .slice A6 n6 d6]).heap.size = w7.heap.size := setL_size _ _ _ _
   replace bT := bT.setAll [.slice A5 n5 d5, .slice A6 n6 d6] rfl
   generalize setL w7 _ 0 _ = w10 at *
   refine hK9.out _ _ ⟨bx, ht⟩ (fun _ => ?_)
   refine wpAnyH_ready (rs := [13]) (by kernel_rfl) (by decide) ?_
   refine AllReadyH.cons rfl (fun K11 hK11 => ?_) AllReadyH.nil
   go_simp
   refine hK11.out _ _ ⟨bx, ht⟩ (fun _ => ?_)
   refine ⟨by kernel_rfl, ?_⟩
   have bx_0 := bx.c0
   have bx_1 := bx.c1
   have bx_2 := bx.c2
   have bx_3 := bx.c3
   have bx_z := bx.frozen
   have bx_l := bx.lt
   have bR_0 := bR.c0
   have bR_1 := bR.c1
   have bR_2 := bR.c2
   have bR_3 := bR.c3
   have bR_z := bR.frozen
   have bR_l := bR.lt
   have bT_0 := bT.c0
   have bT_1 := bT.c1
   have bT_z := bT.frozen
   have bT_l := bT.lt
   go_wp2_with fail
   clear bx_0 bx_1 bx_2 bx_3 bx_z bx_l bR_0 bR_1 bR_2 bR_3 bR_z bR_l bT_0 bT_1 bT_z bT_l
   go_meet
   exact ⟨_, _, _, _, rfl, rfl, rfl, bC, by omega, bT, o5.mono (by omega) (by omega), o6.mono (by omega) (by omega)⟩
  ·go_simp
   have b_4 := (Below.refl w1.heap.size w1).alloc (Nat.le_refl _) (.cells #[.slice none 0 0, .slice none 0 0] 28)
   have bT := Box.new w1 #[.slice none 0 0, .slice none 0 0] 28 rfl
   replace bx := bx.below b_4 bx.lt
   replace bR := bR.below b_4 bR.lt
   replace ht := ht.below b_4 (by omega)
   replace hs := hs.below b_4 (by omega)
   replace hw := hw.below b_4 (by omega)
   have z_5 := b_4.size
   replace bC := bC.trans (b_4.mono (by omega))
   clear b_4
   generalize w1.alloc _ = w4 at *
   generalize w1.heap.size = g4 at *
   refine hK3b.out _ _ ⟨bx, ht⟩ (fun _ => ?_)
   refine wpAnyH_ready (rs := [7]) (by kernel_rfl) (by decide) ?_
   refine AllReadyH.cons rfl (fun K6 hK6 => ?_) AllReadyH.nil
   go_simp
   refine (implEndQ_in _ _ ls lw x w4 hs hw (by omega) (by omega) HP.out).mono ?_; rintro q_ w7 ⟨v5, v6, rfl, o5, o6, b_7⟩
   replace bx := bx.below b_7 bx.lt
   replace bR := bR.below b_7 bR.lt
   replace bT := bT.below b_7 bT.lt
   replace ht := ht.below b_7 (by omega)
   replace hs := hs.below b_7 (by omega)
   replace hw := hw.below b_7 (by omega)
   have z_8 := b_7.size
   replace bC := bC.trans (b_7.mono (by omega))
   clear b_7
   obtain ⟨A5, n5, d5, rfl, _, _, _⟩ := o5.rd.form
   obtain ⟨A6, n6, d6, rfl, _, _, _⟩ := o6.rd.form
   refine hK6.out _ _ ⟨bx, ht⟩ (fun _ => ?_)
   have hHeld : (fun (W : World) => Box W (w.heap.size) 30 [.int .i64 m, .slice (some ⟨b, off, none⟩) nt dt, .slice A0 n0 d0, .slice A1 n1 d1] ∧ Rd Nm.cells 1 W lo3 hi3 (.slice (some ⟨b, off, none⟩) nt dt) st) w7 := ⟨bx, ht⟩
   refine wpAnyH_take (i := 8) (v := .tuple #[.agg #[.slice A5 n5 d5, .slice A6 n6 d6], .bool (Sl.endOk ls x)]) rfl (by kernel_rfl) (by kernel_rfl) (by kernel_rfl) (fun _ _ _ h => h) (Or.inl ⟨by rfl, by intro w hSw; obtain ⟨hS0, hS1⟩ := hSw; have y00 := hS0.c0; have y01 := hS0.c1; have y02 := hS0.c2; have y03 := hS0.c3; have yx := Nm.at_ hS1 HX.out; go_simp⟩) hHeld ?_
   refine wpAnyH_take (i := 9) (v := .agg #[.slice A5 n5 d5, .slice A6 n6 d6]) rfl (by kernel_rfl) (by kernel_rfl) (by kernel_rfl) (fun _ _ _ h => h) (Or.inl ⟨by rfl, by intro w hSw; obtain ⟨hS0, hS1⟩ := hSw; have y00 := hS0.c0; have y01 := hS0.c1; have y02 := hS0.c2; have y03 := hS0.c3; have yx := Nm.at_ hS1 HX.out; go_simp⟩) hHeld ?_
   refine wpAnyH_take (i := 10) (v := .bool (Sl.endOk ls x)) rfl (by kernel_rfl) (by kernel_rfl) (by kernel_rfl) (fun _ _ _ h => h) (Or.inl ⟨by rfl, by intro w hSw; obtain ⟨hS0, hS1⟩ := hSw; have y00 := hS0.c0; have y01 := hS0.c1; have y02 := hS0.c2; have y03 := hS0.c3; have yx := Nm.at_ hS1 HX.out; go_simp⟩) hHeld ?_
   clear hHeld
   refine wpAnyH_ready (rs := [12]) (by kernel_rfl) (by decide) ?_
   refine AllReadyH.cons rfl (fun K9 hK9 => ?_) AllReadyH.nil
   have bx_0 := bx.c0
   have bx_1 := bx.c1
   have bx_2 := bx.c2
   have bx_3 := bx.c3
   have bx_z := bx.frozen
   have bx_l := bx.lt
   have bR_0 := bR.c0
   have bR_1 := bR.c1
   have bR_2 := bR.c2
   have bR_3 := bR.c3
   have bR_z := bR.frozen
   have bR_l := bR.lt
   have bT_0 := bT.c0
   have bT_1 := bT.c1
   have bT_z := bT.frozen
   have bT_l := bT.lt
   go_simp
   clear bx_0 bx_1 bx_2 bx_3 bx_z bx_l bR_0 bR_1 bR_2 bR_3 bR_z bR_l bT_0 bT_1 bT_z bT_l
   generalize hwz : World.setCell (World.setCell _ _ _) _ _ = wz_
   obtain rfl : wz_ = setL w7 (g4) 0 [.slice A5 n5 d5, .slice A6 n6 d6] := hwz.symm
   clear hwz
   replace bx := bx.other (b := g4) (by omega) 0 [.slice A5 n5 d5, .slice A6 n6 d6]
   replace bR := bR.other (b := g4) (by omega) 0 [.slice A5 n5 d5, .slice A6 n6 d6]
   replace ht := ht.away (g := g4) (by omega) 0 [.slice A5 n5 d5, .slice A6 n6 d6]
   replace hs := hs.away (g := g4) (by omega) 0 [.slice A5 n5 d5, .slice A6 n6 d6]
   replace hw := hw.away (g := g4) (by omega) 0 [.slice A5 n5 d5, .slice A6 n6 d6]
   replace o5 := o5.box (g := g4) bT (by decide) 0 [.slice A5 n5 d5, .slice A6 n6 d6]
   replace o6 := o6.box (g := g4) bT (by decide) 0 [.slice A5 n5 d5, .slice A6 n6 d6]
   replace bC := setL_below bC [.slice A5 n5 d5, .slice A6 n6 d6] (g4) 0 (by omega)
   have zs_10 : (setL w7 (g4) 0 [.slice A5 n5 d5, .slice A6 n6 d6]).heap.size = w7.heap.size := setL_size _ _ _ _
   replace bT := bT.setAll [.slice A5 n5 d5, .slice A6 n6 d6] rfl
   generalize setL w7 _ 0 _ = w10 at *
   refine hK9.out _ _ ⟨bx, ht⟩ (fun _ => ?_)
   refine wpAnyH_ready (rs := [13]) (by kernel_rfl) (by decide) ?_
   refine AllReadyH.cons rfl (fun K11 hK11 => ?_) AllReadyH.nil
   go_simp
   refine hK11.out _ _ ⟨bx, ht⟩ (fun _ => ?_)
   refine ⟨by kernel_rfl, ?_⟩
   have bx_0 := bx.c0
   have bx_1 := bx.c1
   have bx_2 := bx.c2
   have bx_3 := bx.c3
   have bx_z := bx.frozen
   have bx_l := bx.lt
   have bR_0 := bR.c0
   have bR_1 := bR.c1
   have bR_2 := bR.c2
   have bR_3 := bR.c3
   have bR_z := bR.frozen
   have bR_l := bR.lt
   have bT_0 := bT.c0
   have bT_1 := bT.c1
   have bT_z := bT.frozen
   have bT_l := bT.lt
   go_wp2_with fail
   clear bx_0 bx_1 bx_2 bx_3 bx_z bx_l bR_0 bR_1 bR_2 bR_3 bR_z bR_l bT_0 bT_1 bT_z bT_l
   go_meet
   exact ⟨_, _, _, _, rfl, rfl, rfl, bC, by omega, bT, o5.mono (by omega) (by omega), o6.mono (by omega) (by omega)⟩
 case rest =>
   obtain ⟨wx, gT, v1, v2, rfl, rfl, rfl, bC, zT, bT, o5, o6⟩ := hcut
   replace bx := bx.below bC bx.lt
   replace bR := bR.below bC bR.lt
   replace ht := ht.below bC (by omega)
   replace hs := hs.below bC (by omega)
   replace hw := hw.below bC (by omega)
   have z_51 := bC.size
   replace b0 := b0.trans (bC.mono (by omega))
   clear bC
   obtain ⟨A5, n5, d5, rfl, _, _, _⟩ := o5.rd.form
   obtain ⟨A6, n6, d6, rfl, _, _, _⟩ := o6.rd.form
   have zTl := bT.lt
   have bx_0 := bx.c0
   have bx_1 := bx.c1
   have bx_2 := bx.c2
   have bx_3 := bx.c3
   have bx_z := bx.frozen
   have bx_l := bx.lt
   have bR_0 := bR.c0
   have bR_1 := bR.c1
   have bR_2 := bR.c2
   have bR_3 := bR.c3
   have bR_z := bR.frozen
   have bR_l := bR.lt
   have bT_0 := bT.c0
   have bT_1 := bT.c1
   have bT_z := bT.frozen
   have bT_l := bT.lt
   go_upto_region 5 with fail
   clear bx_0 bx_1 bx_2 bx_3 bx_z bx_l bR_0 bR_1 bR_2 bR_3 bR_z bR_l bT_0 bT_1 bT_z bT_l
   refine wp_region_held_drew (S := fun W => Box W (w.heap.size) 30 [.int .i64 m, .slice (some ⟨b, off, none⟩) nt dt, .slice A0 n0 d0, .slice A1 n1 d1] ∧ Box W (gT) 28 [.slice A5 n5 d5, .slice A6 n6 d6] ∧ Rd Nm.cells 1 W lo3 hi3 (.slice (some ⟨b, off, none⟩) nt dt) st) (by kernel_rfl) (show (fun (W : World) => Box W (w.heap.size) 30 [.int .i64 m, .slice (some ⟨b, off, none⟩) nt dt, .slice A0 n0 d0, .slice A1 n1 d1] ∧ Box W (gT) 28 [.slice A5 n5 d5, .slice A6 n6 d6] ∧ Rd Nm.cells 1 W lo3 hi3 (.slice (some ⟨b, off, none⟩) nt dt) st) wx.drew from ⟨bx, bT, ht.drew⟩) (fun hHeld => ?_)
   refine wpAnyH_take (i := 0) (v := .pointer (some ⟨w.heap.size, 0, none⟩)) rfl (by kernel_rfl) (by kernel_rfl) (by kernel_rfl) (fun _ _ _ h => h) (Or.inl ⟨by rfl, by intro w hSw; obtain ⟨hS0, hS1, hS2⟩ := hSw; have y00 := hS0.c0; have y01 := hS0.c1; have y02 := hS0.c2; have y03 := hS0.c3; have y10 := hS1.c0; have y11 := hS1.c1; have yx := Nm.at_ hS2 HX.out; go_simp⟩) hHeld ?_
   refine wpAnyH_take (i := 1) (v := .int .i64 m) rfl (by kernel_rfl) (by kernel_rfl) (by kernel_rfl) (fun _ _ _ h => h) (Or.inl ⟨by rfl, by intro w hSw; obtain ⟨hS0, hS1, hS2⟩ := hSw; have y00 := hS0.c0; have y01 := hS0.c1; have y02 := hS0.c2; have y03 := hS0.c3; have y10 := hS1.c0; have y11 := hS1.c1; have yx := Nm.at_ hS2 HX.out; go_simp⟩) hHeld ?_
   refine wpAnyH_take (i := 2) (v := .pointer (some ⟨w.heap.size, 1, none⟩)) rfl (by kernel_rfl) (by kernel_rfl) (by kernel_rfl) (fun _ _ _ h => h) (Or.inl ⟨by rfl, by intro w hSw; obtain ⟨hS0, hS1, hS2⟩ := hSw; have y00 := hS0.c0; have y01 := hS0.c1; have y02 := hS0.c2; have y03 := hS0.c3; have y10 := hS1.c0; have y11 := hS1.c1; have yx := Nm.at_ hS2 HX.out; go_simp⟩) hHeld ?_
   refine wpAnyH_take (i := 3) (v := .slice (some ⟨b, off, none⟩) nt dt) rfl (by kernel_rfl) (by kernel_rfl) (by kernel_rfl) (fun _ _ _ h => h) (Or.inl ⟨by rfl, by intro w hSw; obtain ⟨hS0, hS1, hS2⟩ := hSw; have y00 := hS0.c0; have y01 := hS0.c1; have y02 := hS0.c2; have y03 := hS0.c3; have y10 := hS1.c0; have y11 := hS1.c1; have yx := Nm.at_ hS2 HX.out; go_simp⟩) hHeld ?_
   refine wpAnyH_take (i := 4) (v := .int .i64 j) rfl (by kernel_rfl) (by kernel_rfl) (by kernel_rfl) (fun _ _ _ h => h) (Or.inl ⟨by rfl, by intro w hSw; obtain ⟨hS0, hS1, hS2⟩ := hSw; have y00 := hS0.c0; have y01 := hS0.c1; have y02 := hS0.c2; have y03 := hS0.c3; have y10 := hS1.c0; have y11 := hS1.c1; have yx := Nm.at_ hS2 HX.out; go_simp⟩) hHeld ?_
   refine wpAnyH_take (i := 5) (v := .slice (some ⟨b, off, none⟩) j dt) rfl (by kernel_rfl) (by kernel_rfl) (by kernel_rfl) (fun _ _ _ h => h) (Or.inl ⟨by rfl, by intro w hSw; obtain ⟨hS0, hS1, hS2⟩ := hSw; have y00 := hS0.c0; have y01 := hS0.c1; have y02 := hS0.c2; have y03 := hS0.c3; have y10 := hS1.c0; have y11 := hS1.c1; have yx := Nm.at_ hS2 HX.out; go_simp⟩) hHeld ?_
   refine wpAnyH_take (i := 7) (v := .agg #[.slice A5 n5 d5, .slice A6 n6 d6]) rfl (by kernel_rfl) (by kernel_rfl) (by kernel_rfl) (fun _ _ _ h => h) (Or.inl ⟨by rfl, by intro w hSw; obtain ⟨hS0, hS1, hS2⟩ := hSw; have y00 := hS0.c0; have y01 := hS0.c1; have y02 := hS0.c2; have y03 := hS0.c3; have y10 := hS1.c0; have y11 := hS1.c1; have yx := Nm.at_ hS2 HX.out; go_simp⟩) hHeld ?_
   refine wpAnyH_take (i := 9) (v := .pointer (some ⟨w.heap.size, 1, none⟩)) rfl (by kernel_rfl) (by kernel_rfl) (by kernel_rfl) (fun _ _ _ h => h) (Or.inl ⟨by rfl, by intro w hSw; obtain ⟨hS0, hS1, hS2⟩ := hSw; have y00 := hS0.c0; have y01 := hS0.c1; have y02 := hS0.c2; have y03 := hS0.c3; have y10 := hS1.c0; have y11 := hS1.c1; have yx := Nm.at_ hS2 HX.out; go_simp⟩) hHeld ?_
   refine wpAnyH_take (i := 10) (v := .slice (some ⟨b, off, none⟩) nt dt) rfl (by kernel_rfl) (by kernel_rfl) (by kernel_rfl) (fun _ _ _ h => h) (Or.inl ⟨by rfl, by intro w hSw; obtain ⟨hS0, hS1, hS2⟩ := hSw; have y00 := hS0.c0; have y01 := hS0.c1; have y02 := hS0.c2; have y03 := hS0.c3; have y10 := hS1.c0; have y11 := hS1.c1; have yx := Nm.at_ hS2 HX.out; go_simp⟩) hHeld ?_
   refine wpAnyH_take (i := 11) (v := .int .i64 j) rfl (by kernel_rfl) (by kernel_rfl) (by kernel_rfl) (fun _ _ _ h => h) (Or.inl ⟨by rfl, by intro w hSw; obtain ⟨hS0, hS1, hS2⟩ := hSw; have y00 := hS0.c0; have y01 := hS0.c1; have y02 := hS0.c2; have y03 := hS0.c3; have y10 := hS1.c0; have y11 := hS1.c1; have yx := Nm.at_ hS2 HX.out; go_simp⟩) hHeld ?_
   refine wpAnyH_take (i := 12) (v := .pointer (some ⟨b, off + j, none⟩)) rfl (by kernel_rfl) (by kernel_rfl) (by kernel_rfl) (fun _ _ _ h => h) (Or.inl ⟨by rfl, by intro w hSw; obtain ⟨hS0, hS1, hS2⟩ := hSw; have y00 := hS0.c0; have y01 := hS0.c1; have y02 := hS0.c2; have y03 := hS0.c3; have y10 := hS1.c0; have y11 := hS1.c1; have yx := Nm.at_ hS2 HX.out; go_simp⟩) hHeld ?_
   refine wpAnyH_take (i := 13) (v := .int .i64 x) rfl (by kernel_rfl) (by kernel_rfl) (by kernel_rfl) (fun _ _ _ h => h) (Or.inl ⟨by rfl, by intro w hSw; obtain ⟨hS0, hS1, hS2⟩ := hSw; have y00 := hS0.c0; have y01 := hS0.c1; have y02 := hS0.c2; have y03 := hS0.c3; have y10 := hS1.c0; have y11 := hS1.c1; have yx := Nm.at_ hS2 HX.out; go_simp⟩) hHeld ?_
   clear hHeld
   refine held_gen (F := fun W' => Below wx.heap.size wx W') (Below.refl wx.heap.size wx).drew ?_
   rintro w52 b_52
   replace bx := bx.below b_52 bx.lt
   replace bR := bR.below b_52 bR.lt
   replace bT := bT.below b_52 bT.lt
   replace ht := ht.below b_52 (by omega)
   replace hs := hs.below b_52 (by omega)
   replace hw := hw.below b_52 (by omega)
   replace o5 := o5.below b_52 (by omega)
   replace o6 := o6.below b_52 (by omega)
   have z_53 := b_52.size
   replace b0 := b0.trans (b_52.mono (by omega))
   clear b_52
   refine wpAnyH_ready (rs := [6]) (by kernel_rfl) (by decide) ?_
   refine AllReadyH.cons rfl (fun K54 hK54 => ?_) AllReadyH.nil
   go_simp
   refine (copyInts_any _ (st.take j) w52 (ht.take_ hjnn) (by omega) hjl2).mono ?_; rintro q_ w55 ⟨v3, rfl, o3, b_55⟩
   replace bx := bx.below b_55 bx.lt
   replace bR := bR.below b_55 bR.lt
   replace bT := bT.below b_55 bT.lt
   replace ht := ht.below b_55 (by omega)
   replace hs := hs.below b_55 (by omega)
   replace hw := hw.below b_55 (by omega)
   replace o5 := o5.below b_55 (by omega)
   replace o6 := o6.below b_55 (by omega)
   have z_56 := b_55.size
   replace b0 := b0.trans (b_55.mono (by omega))
   clear b_55
   obtain ⟨A3, n3, d3, rfl, _, _, _⟩ := o3.rd.form
   refine hK54.out _ _ ⟨bx, bT, ht⟩ (fun _ => ?_)
   have hHeld : (fun (W : World) => Box W (w.heap.size) 30 [.int .i64 m, .slice (some ⟨b, off, none⟩) nt dt, .slice A0 n0 d0, .slice A1 n1 d1] ∧ Box W (gT) 28 [.slice A5 n5 d5, .slice A6 n6 d6] ∧ Rd Nm.cells 1 W lo3 hi3 (.slice (some ⟨b, off, none⟩) nt dt) st) w55 := ⟨bx, bT, ht⟩
   refine wpAnyH_take (i := 8) (v := .agg #[.int .i64 m, .slice A3 n3 d3, .slice A5 n5 d5, .slice A6 n6 d6]) rfl (by kernel_rfl) (by kernel_rfl) (by kernel_rfl) (fun _ _ _ h => h) (Or.inl ⟨by rfl, by intro w hSw; obtain ⟨hS0, hS1, hS2⟩ := hSw; have y00 := hS0.c0; have y01 := hS0.c1; have y02 := hS0.c2; have y03 := hS0.c3; have y10 := hS1.c0; have y11 := hS1.c1; have yx := Nm.at_ hS2 HX.out; go_simp⟩) hHeld ?_
   clear hHeld
   refine wpAnyH_ready (rs := [14]) (by kernel_rfl) (by decide) ?_
   refine AllReadyH.cons rfl (fun K57 hK57 => ?_) AllReadyH.nil
   have bx_0 := bx.c0
   have bx_1 := bx.c1
   have bx_2 := bx.c2
   have bx_3 := bx.c3
   have bx_z := bx.frozen
   have bx_l := bx.lt
   have bR_0 := bR.c0
   have bR_1 := bR.c1
   have bR_2 := bR.c2
   have bR_3 := bR.c3
   have bR_z := bR.frozen
   have bR_l := bR.lt
   have bT_0 := bT.c0
   have bT_1 := bT.c1
   have bT_z := bT.frozen
   have bT_l := bT.lt
   go_simp
   clear bx_0 bx_1 bx_2 bx_3 bx_z bx_l bR_0 bR_1 bR_2 bR_3 bR_z bR_l bT_0 bT_1 bT_z bT_l
   generalize hwz : World.setCell (World.setCell (World.setCell (World.setCell _ _ _) _ _) _ _) _ _ = wz_
   obtain rfl : wz_ = setL w55 (w.heap.size + 1) 0 [.int .i64 m, .slice A3 n3 d3, .slice A5 n5 d5, .slice A6 n6 d6] := hwz.symm
   clear hwz
   replace bx := bx.other (b := w.heap.size + 1) (by omega) 0 [.int .i64 m, .slice A3 n3 d3, .slice A5 n5 d5, .slice A6 n6 d6]
   replace bT := bT.other (b := w.heap.size + 1) (by omega) 0 [.int .i64 m, .slice A3 n3 d3, .slice A5 n5 d5, .slice A6 n6 d6]
   replace ht := ht.away (g := w.heap.size + 1) (by omega) 0 [.int .i64 m, .slice A3 n3 d3, .slice A5 n5 d5, .slice A6 n6 d6]
   replace hs := hs.away (g := w.heap.size + 1) (by omega) 0 [.int .i64 m, .slice A3 n3 d3, .slice A5 n5 d5, .slice A6 n6 d6]
   replace hw := hw.away (g := w.heap.size + 1) (by omega) 0 [.int .i64 m, .slice A3 n3 d3, .slice A5 n5 d5, .slice A6 n6 d6]
   replace o5 := o5.box (g := w.heap.size + 1) bR (by decide) 0 [.int .i64 m, .slice A3 n3 d3, .slice A5 n5 d5, .slice A6 n6 d6]
   replace o6 := o6.box (g := w.heap.size + 1) bR (by decide) 0 [.int .i64 m, .slice A3 n3 d3, .slice A5 n5 d5, .slice A6 n6 d6]
   replace o3 := o3.box (g := w.heap.size + 1) bR (by decide) 0 [.int .i64 m, .slice A3 n3 d3, .slice A5 n5 d5, .slice A6 n6 d6]
   replace b0 := setL_below b0 [.int .i64 m, .slice A3 n3 d3, .slice A5 n5 d5, .slice A6 n6 d6] (w.heap.size + 1) 0 (by omega)
   have zs_58 : (setL w55 (w.heap.size + 1) 0 [.int .i64 m, .slice A3 n3 d3, .slice A5 n5 d5, .slice A6 n6 d6]).heap.size = w55.heap.size := setL_size _ _ _ _
   replace bR := bR.setAll [.int .i64 m, .slice A3 n3 d3, .slice A5 n5 d5, .slice A6 n6 d6] rfl
   generalize setL w55 _ 0 _ = w58 at *
   refine hK57.out _ _ ⟨bx, bT, ht⟩ (fun _ => ?_)
   refine wpAnyH_ready (rs := [15]) (by kernel_rfl) (by decide) ?_
   refine AllReadyH.cons rfl (fun K59 hK59 => ?_) AllReadyH.nil
   go_simp
   refine hK59.out _ _ ⟨bx, bT, ht⟩ (fun _ => ?_)
   refine wpAnyH_ready (rs := [16]) (by kernel_rfl) (by decide) ?_
   refine AllReadyH.cons rfl (fun K60 hK60 => ?_) AllReadyH.nil
   go_simp
   refine hK60.out _ _ ⟨bx, bT, ht⟩ (fun _ => ?_)
   refine ⟨by kernel_rfl, ?_⟩
   have bx_0 := bx.c0
   have bx_1 := bx.c1
   have bx_2 := bx.c2
   have bx_3 := bx.c3
   have bx_z := bx.frozen
   have bx_l := bx.lt
   have bR_0 := bR.c0
   have bR_1 := bR.c1
   have bR_2 := bR.c2
   have bR_3 := bR.c3
   have bR_z := bR.frozen
   have bR_l := bR.lt
   have bT_0 := bT.c0
   have bT_1 := bT.c1
   have bT_z := bT.frozen
   have bT_l := bT.lt
   go_wp2_with fail
   clear bx_0 bx_1 bx_2 bx_3 bx_z bx_l bR_0 bR_1 bR_2 bR_3 bR_z bR_l bT_0 bT_1 bT_z bT_l
   have u0_ := bR.c0
   have u1_ := bR.c1
   have u2_ := bR.c2
   have u3_ := bR.c3
   refine bodyPost_ret (by simp only [results, Tryz.results46]; simp [go_sem, u0_, u1_, u2_, u3_]; rfl) rfl ?_
   exact ⟨_, _, _, rfl, o3.mono (by omega) (by omega), by rw [← HE.out.1]; exact o5.mono (by omega) (by omega), by rw [← HE.out.2]; exact o6.mono (by omega) (by omega), b0⟩
set_option maxHeartbeats 2000000 in
theorem implLeaveIrq_any (m : Int) (vt vs vw : Value) (st : List Int) (ls : List Sl) (lw : List Wt) (w : World) {lo hi lo2 hi2 lo3 hi3 : Nat} (h0 : Rd Nm.cells 1 w lo3 hi3 vt st) (h : Rd Sl.cells 3 w lo hi vs ls) (h2 : Rd Wt.cells 2 w lo2 hi2 vw lw) (hh0 : hi3 ≤ w.heap.size) (hh : hi ≤ w.heap.size) (hh2 : hi2 ≤ w.heap.size) (hl : st.length ≤ 1048576) :
  Calls Tryz.prog 15 #[.agg #[.int .i64 m, vt, vs, vw]] w fun e w' => ∃ v0 v1 v2, e = .returned (.tuple #[.agg #[.int .i64 (Fa.lvM m st ls lw), v0, v1, v2], .int .i64 (Fa.lvI m st ls lw), .bool (Fa.lvOk m st ls lw)]) ∧ Ow Nm.cells 1 3 w' w.heap.size w'.heap.size v0 (Fa.lvT m st ls lw) ∧ Ow Sl.cells 3 93 w' w.heap.size w'.heap.size v1 (Fa.lvS m st ls lw) ∧ Ow Wt.cells 2 107 w' w.heap.size w'.heap.size v2 (Fa.lvW m st ls lw) ∧ Below w.heap.size w w' := by
 have b0 : Below w.heap.size w ((w.alloc (.cells #[.int .i64 m, vt, vs, vw] 30)).alloc (.cells #[.int .i64 0, .slice none 0 0, .slice none 0 0, .slice none 0 0] 30)) := ((Below.refl w.heap.size w).alloc (Nat.le_refl _) _).alloc (by simp) _
 have z0 : ((w.alloc (.cells #[.int .i64 m, vt, vs, vw] 30)).alloc (.cells #[.int .i64 0, .slice none 0 0, .slice none 0 0, .slice none 0 0] 30)).heap.size = w.heap.size + 2 := by simp
 have bx := Box.new w #[.int .i64 m, vt, vs, vw] 30 rfl
 have bR := Box.new (g := w.heap.size + 1) (w.alloc (.cells #[.int .i64 m, vt, vs, vw] 30)) #[.int .i64 0, .slice none 0 0, .slice none 0 0, .slice none 0 0] 30 (by simp)
 replace bx := bx.below ((Below.refl _ (w.alloc (.cells #[.int .i64 m, vt, vs, vw] 30))).alloc (Nat.le_refl _) (.cells #[.int .i64 0, .slice none 0 0, .slice none 0 0, .slice none 0 0] 30)) bx.lt
 have ht := h0.below b0 hh0
 have hs := h.below b0 hh
 have hw := h2.below b0 hh2
 have hv0_ := h0.form
 have hv_ := h.form
 have hv2_ := h2.form
 clear h0 h h2
 generalize hwA : (w.alloc (.cells #[.int .i64 m, vt, vs, vw] 30)).alloc (.cells #[.int .i64 0, .slice none 0 0, .slice none 0 0, .slice none 0 0] 30) = wA at *
 obtain ⟨At, nt, dt, rfl, _, _, _⟩ := hv0_
 obtain ⟨A0, n0, d0, rfl, _, _, _⟩ := hv_
 obtain ⟨A1, n1, d1, rfl, _, _, _⟩ := hv2_
 have c1 := implIsInterface_any m _ _ _ st ls lw wA ht hs hw (by omega) (by omega) (by omega) hl
 cases hg : Fa.good m st ls lw
 ·have HF := Lib.hid (Fa.lv_no (m := m) (st := st) (ls := ls) (lw := lw) (by simp [Fa.lvOk, hg]))
  rw [hg] at c1
  clear hg
  go_enter Tryz.func15, Tryz.ntmps15
  have bx_0 := bx.c0
  have bx_1 := bx.c1
  have bx_2 := bx.c2
  have bx_3 := bx.c3
  have bx_z := bx.frozen
  have bx_l := bx.lt
  have bR_0 := bR.c0
  have bR_1 := bR.c1
  have bR_2 := bR.c2
  have bR_3 := bR.c3
  have bR_z := bR.frozen
  have bR_l := bR.lt
  go_wp2_with fail
  clear hwA
  clear bx_0 bx_1 bx_2 bx_3 bx_z bx_l bR_0 bR_1 bR_2 bR_3 bR_z bR_l
  refine (c1).mono ?_; rintro q_ w1 ⟨rfl, b_1⟩
  replace bx := bx.below b_1 bx.lt
  replace bR := bR.below b_1 bR.lt
  replace ht := ht.below b_1 (by omega)
  replace hs := hs.below b_1 (by omega)
  replace hw := hw.below b_1 (by omega)
  have z_2 := b_1.size
  replace b0 := b0.trans (b_1.mono (by omega))
  clear b_1
  have bx_0 := bx.c0
  have bx_1 := bx.c1
  have bx_2 := bx.c2
  have bx_3 := bx.c3
  have bx_z := bx.frozen
  have bx_l := bx.lt
  have bR_0 := bR.c0
  have bR_1 := bR.c1
  have bR_2 := bR.c2
  have bR_3 := bR.c3
  have bR_z := bR.frozen
  have bR_l := bR.lt
  go_wp2_with fail
  clear bx_0 bx_1 bx_2 bx_3 bx_z bx_l bR_0 bR_1 bR_2 bR_3 bR_z bR_l
  generalize hwz : World.setCell (World.setCell (World.setCell (World.setCell _ _ _) _ _) _ _) _ _ = wz_
  obtain rfl : wz_ = setL w1 (w.heap.size + 1) 0 [.int .i64 0, .slice none 0 0, .slice none 0 0, .slice none 0 0] := hwz.symm
  clear hwz
  replace bx := bx.other (b := w.heap.size + 1) (by omega) 0 [.int .i64 0, .slice none 0 0, .slice none 0 0, .slice none 0 0]
  replace ht := ht.away (g := w.heap.size + 1) (by omega) 0 [.int .i64 0, .slice none 0 0, .slice none 0 0, .slice none 0 0]
  replace hs := hs.away (g := w.heap.size + 1) (by omega) 0 [.int .i64 0, .slice none 0 0, .slice none 0 0, .slice none 0 0]
  replace hw := hw.away (g := w.heap.size + 1) (by omega) 0 [.int .i64 0, .slice none 0 0, .slice none 0 0, .slice none 0 0]
  replace b0 := setL_below b0 [.int .i64 0, .slice none 0 0, .slice none 0 0, .slice none 0 0] (w.heap.size + 1) 0 (by omega)
  have zs_3 : (setL w1 (w.heap.size + 1) 0 [.int .i64 0, .slice none 0 0, .slice none 0 0, .slice none 0 0]).heap.size = w1.heap.size := setL_size _ _ _ _
  replace bR := bR.setAll [.int .i64 0, .slice none 0 0, .slice none 0 0, .slice none 0 0] rfl
  generalize setL w1 _ 0 _ = w3 at *
  have u0_ := bR.c0
  have u1_ := bR.c1
  have u2_ := bR.c2
  have u3_ := bR.c3
  refine bodyPost_ret (by simp only [results, Tryz.results15]; simp [go_sem, u0_, u1_, u2_, u3_]; rfl) rfl ?_
  exact ⟨_, _, _, by rw [HF.out.1, HF.out.2.1, HF.out.2.2.1], by rw [HF.out.2.2.2.1]; exact Ow.nil_, by rw [HF.out.2.2.2.2.1]; exact Ow.nil_, by rw [HF.out.2.2.2.2.2]; exact Ow.nil_, b0⟩
 ·rcases Nat.eq_zero_or_pos st.length with hz | hz
  ·have HF := Lib.hid (Fa.lv_no (m := m) (st := st) (ls := ls) (lw := lw) (by simp [Fa.lvOk, hz]))
   obtain rfl : st = [] := List.eq_nil_of_length_eq_zero hz
   obtain ⟨rfl⟩ : nt = 0 := by have := ht.n_eq.1; simpa using this
   rw [hg] at c1
   clear hg hz
   go_enter Tryz.func15, Tryz.ntmps15
   have bx_0 := bx.c0
   have bx_1 := bx.c1
   have bx_2 := bx.c2
   have bx_3 := bx.c3
   have bx_z := bx.frozen
   have bx_l := bx.lt
   have bR_0 := bR.c0
   have bR_1 := bR.c1
   have bR_2 := bR.c2
   have bR_3 := bR.c3
   have bR_z := bR.frozen
   have bR_l := bR.lt
   go_wp2_with fail
   clear hwA
   clear bx_0 bx_1 bx_2 bx_3 bx_z bx_l bR_0 bR_1 bR_2 bR_3 bR_z bR_l
   refine (c1).mono ?_; rintro q_ w1 ⟨rfl, b_1⟩
   replace bx := bx.below b_1 bx.lt
   replace bR := bR.below b_1 bR.lt
   replace ht := ht.below b_1 (by omega)
   replace hs := hs.below b_1 (by omega)
   replace hw := hw.below b_1 (by omega)
   have z_2 := b_1.size
   replace b0 := b0.trans (b_1.mono (by omega))
   clear b_1
   have bx_0 := bx.c0
   have bx_1 := bx.c1
   have bx_2 := bx.c2
   have bx_3 := bx.c3
   have bx_z := bx.frozen
   have bx_l := bx.lt
   have bR_0 := bR.c0
   have bR_1 := bR.c1
   have bR_2 := bR.c2
   have bR_3 := bR.c3
   have bR_z := bR.frozen
   have bR_l := bR.lt
   go_wp2_with fail
   clear bx_0 bx_1 bx_2 bx_3 bx_z bx_l bR_0 bR_1 bR_2 bR_3 bR_z bR_l
   refine (implLeave_nil m _ _ _ [] ls lw w1 ht hs hw (by omega) (by omega) (by omega) rfl).mono ?_; rintro q_ w3 ⟨rfl, b_3⟩
   replace bx := bx.below b_3 bx.lt
   replace bR := bR.below b_3 bR.lt
   replace ht := ht.below b_3 (by omega)
   replace hs := hs.below b_3 (by omega)
   replace hw := hw.below b_3 (by omega)
   have z_4 := b_3.size
   replace b0 := b0.trans (b_3.mono (by omega))
   clear b_3
   have bx_0 := bx.c0
   have bx_1 := bx.c1
   have bx_2 := bx.c2
   have bx_3 := bx.c3
   have bx_z := bx.frozen
   have bx_l := bx.lt
   have bR_0 := bR.c0
   have bR_1 := bR.c1
   have bR_2 := bR.c2
   have bR_3 := bR.c3
   have bR_z := bR.frozen
   have bR_l := bR.lt
   go_wp2_with fail
   clear bx_0 bx_1 bx_2 bx_3 bx_z bx_l bR_0 bR_1 bR_2 bR_3 bR_z bR_l
   generalize hwz : World.setCell (World.setCell (World.setCell (World.setCell _ _ _) _ _) _ _) _ _ = wz_
   obtain rfl : wz_ = setL w3 (w.heap.size + 1) 0 [.int .i64 0, .slice none 0 0, .slice none 0 0, .slice none 0 0] := hwz.symm
   clear hwz
   replace bx := bx.other (b := w.heap.size + 1) (by omega) 0 [.int .i64 0, .slice none 0 0, .slice none 0 0, .slice none 0 0]
   replace ht := ht.away (g := w.heap.size + 1) (by omega) 0 [.int .i64 0, .slice none 0 0, .slice none 0 0, .slice none 0 0]
   replace hs := hs.away (g := w.heap.size + 1) (by omega) 0 [.int .i64 0, .slice none 0 0, .slice none 0 0, .slice none 0 0]
   replace hw := hw.away (g := w.heap.size + 1) (by omega) 0 [.int .i64 0, .slice none 0 0, .slice none 0 0, .slice none 0 0]
   replace b0 := setL_below b0 [.int .i64 0, .slice none 0 0, .slice none 0 0, .slice none 0 0] (w.heap.size + 1) 0 (by omega)
   have zs_5 : (setL w3 (w.heap.size + 1) 0 [.int .i64 0, .slice none 0 0, .slice none 0 0, .slice none 0 0]).heap.size = w3.heap.size := setL_size _ _ _ _
   replace bR := bR.setAll [.int .i64 0, .slice none 0 0, .slice none 0 0, .slice none 0 0] rfl
   generalize setL w3 _ 0 _ = w5 at *
   have u0_ := bR.c0
   have u1_ := bR.c1
   have u2_ := bR.c2
   have u3_ := bR.c3
   refine bodyPost_ret (by simp only [results, Tryz.results15]; simp [go_sem, u0_, u1_, u2_, u3_]; rfl) rfl ?_
   exact ⟨_, _, _, by rw [HF.out.1, HF.out.2.1, HF.out.2.2.1], by rw [HF.out.2.2.2.1]; exact Ow.nil_, by rw [HF.out.2.2.2.2.1]; exact Ow.nil_, by rw [HF.out.2.2.2.2.2]; exact Ow.nil_, b0⟩
  ·obtain ⟨j, hj⟩ : ∃ j, j + 1 = st.length := ⟨st.length - 1, by omega⟩
   obtain ⟨x, hx⟩ : ∃ x, st[j]? = some x := ⟨_, List.getElem?_eq_getElem (show j < st.length by omega)⟩
   have HF := Lib.hid (Fa.lv_yes hg hj hx)
   have HX := Lib.hid hx
   have HJ := Lib.hid hj
   have HP := Lib.hid (Fa.good_parts hg)
   have HK := Lib.hid (Fa.lv_end hg hj hx).1
   have hnn := Nat.le_of_eq ht.n_eq.1.symm
   have hzd2 : ((nt : Int) == 0) = false := by rw [beq_eq_false_iff_ne]; omega
   rw [hg] at c1
   clear hg hz hj hx hnn
   go_enter Tryz.func15, Tryz.ntmps15
   have bx_0 := bx.c0
   have bx_1 := bx.c1
   have bx_2 := bx.c2
   have bx_3 := bx.c3
   have bx_z := bx.frozen
   have bx_l := bx.lt
   have bR_0 := bR.c0
   have bR_1 := bR.c1
   have bR_2 := bR.c2
   have bR_3 := bR.c3
   have bR_z := bR.frozen
   have bR_l := bR.lt
   go_wp2_with fail
   clear hwA
   clear bx_0 bx_1 bx_2 bx_3 bx_z bx_l bR_0 bR_1 bR_2 bR_3 bR_z bR_l
   refine (c1).mono ?_; rintro q_ w1 ⟨rfl, b_1⟩
   replace bx := bx.below b_1 bx.lt
   replace bR := bR.below b_1 bR.lt
   replace ht := ht.below b_1 (by omega)
   replace hs := hs.below b_1 (by omega)
   replace hw := hw.below b_1 (by omega)
   have z_2 := b_1.size
   replace b0 := b0.trans (b_1.mono (by omega))
   clear b_1
   have bx_0 := bx.c0
   have bx_1 := bx.c1
   have bx_2 := bx.c2
   have bx_3 := bx.c3
   have bx_z := bx.frozen
   have bx_l := bx.lt
   have bR_0 := bR.c0
   have bR_1 := bR.c1
   have bR_2 := bR.c2
   have bR_3 := bR.c3
   have bR_z := bR.frozen
   have bR_l := bR.lt
   go_wp2_with fail
   clear bx_0 bx_1 bx_2 bx_3 bx_z bx_l bR_0 bR_1 bR_2 bR_3 bR_z bR_l
   refine (implLeave_in m _ _ _ st ls lw w1 ht hs hw (by omega) (by omega) (by omega) hl HP.out HJ.out HX.out HK.out).mono ?_; rintro q_ w3 ⟨v3, v4, v5, rfl, o3, o4, o5, b_3⟩
   replace bx := bx.below b_3 bx.lt
   replace bR := bR.below b_3 bR.lt
   replace ht := ht.below b_3 (by omega)
   replace hs := hs.below b_3 (by omega)
   replace hw := hw.below b_3 (by omega)
   have z_4 := b_3.size
   replace b0 := b0.trans (b_3.mono (by omega))
   clear b_3
   obtain ⟨A3, n3, d3, rfl, _, _, _⟩ := o3.rd.form
   obtain ⟨A4, n4, d4, rfl, _, _, _⟩ := o4.rd.form
   obtain ⟨A5, n5, d5, rfl, _, _, _⟩ := o5.rd.form
   have bx_0 := bx.c0
   have bx_1 := bx.c1
   have bx_2 := bx.c2
   have bx_3 := bx.c3
   have bx_z := bx.frozen
   have bx_l := bx.lt
   have bR_0 := bR.c0
   have bR_1 := bR.c1
   have bR_2 := bR.c2
   have bR_3 := bR.c3
   have bR_z := bR.frozen
   have bR_l := bR.lt
   go_wp2_with fail
   clear bx_0 bx_1 bx_2 bx_3 bx_z bx_l bR_0 bR_1 bR_2 bR_3 bR_z bR_l
   generalize hwz : World.setCell (World.setCell (World.setCell (World.setCell _ _ _) _ _) _ _) _ _ = wz_
   obtain rfl : wz_ = setL w3 (w.heap.size + 1) 0 [.int .i64 m, .slice A3 n3 d3, .slice A4 n4 d4, .slice A5 n5 d5] := hwz.symm
   clear hwz
   replace bx := bx.other (b := w.heap.size + 1) (by omega) 0 [.int .i64 m, .slice A3 n3 d3, .slice A4 n4 d4, .slice A5 n5 d5]
   replace ht := ht.away (g := w.heap.size + 1) (by omega) 0 [.int .i64 m, .slice A3 n3 d3, .slice A4 n4 d4, .slice A5 n5 d5]
   replace hs := hs.away (g := w.heap.size + 1) (by omega) 0 [.int .i64 m, .slice A3 n3 d3, .slice A4 n4 d4, .slice A5 n5 d5]
   replace hw := hw.away (g := w.heap.size + 1) (by omega) 0 [.int .i64 m, .slice A3 n3 d3, .slice A4 n4 d4, .slice A5 n5 d5]
   replace o3 := o3.box (g := w.heap.size + 1) bR (by decide) 0 [.int .i64 m, .slice A3 n3 d3, .slice A4 n4 d4, .slice A5 n5 d5]
   replace o4 := o4.box (g := w.heap.size + 1) bR (by decide) 0 [.int .i64 m, .slice A3 n3 d3, .slice A4 n4 d4, .slice A5 n5 d5]
   replace o5 := o5.box (g := w.heap.size + 1) bR (by decide) 0 [.int .i64 m, .slice A3 n3 d3, .slice A4 n4 d4, .slice A5 n5 d5]
   replace b0 := setL_below b0 [.int .i64 m, .slice A3 n3 d3, .slice A4 n4 d4, .slice A5 n5 d5] (w.heap.size + 1) 0 (by omega)
   have zs_5 : (setL w3 (w.heap.size + 1) 0 [.int .i64 m, .slice A3 n3 d3, .slice A4 n4 d4, .slice A5 n5 d5]).heap.size = w3.heap.size := setL_size _ _ _ _
   replace bR := bR.setAll [.int .i64 m, .slice A3 n3 d3, .slice A4 n4 d4, .slice A5 n5 d5] rfl
   generalize setL w3 _ 0 _ = w5 at *
   have u0_ := bR.c0
   have u1_ := bR.c1
   have u2_ := bR.c2
   have u3_ := bR.c3
   refine bodyPost_ret (by simp only [results, Tryz.results15]; simp [go_sem, u0_, u1_, u2_, u3_]; rfl) rfl ?_
   exact ⟨_, _, _, by rw [HF.out.1, HF.out.2.1, HF.out.2.2.1], by rw [HF.out.2.2.2.1]; exact o3.mono (by omega) (by omega), by rw [HF.out.2.2.2.2.1]; exact o4.mono (by omega) (by omega), by rw [HF.out.2.2.2.2.2]; exact o5.mono (by omega) (by omega), b0⟩

end Go.Proofs.YtndfmkbpdoohfaaGreat
