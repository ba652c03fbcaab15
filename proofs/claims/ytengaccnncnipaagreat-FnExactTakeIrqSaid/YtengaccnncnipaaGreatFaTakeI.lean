/- Taking the most urgent interrupt of an interface, the inner function of the program. Conditions: valid slots, the stack's interrupts lie in them; room. -/
import Derived.Test.YtengaccnncnipaaGreatFaTake
namespace Go.Proofs.YtengaccnncnipaaGreat
open Go.RowKit Go.ChangeShapes Go.WideShapes Go.Deep

def Fa.tkM (m : Int) (ls : List Sl) (l : Int) : Int := if Sl.tkOk ls l then m else 0
/-- one number appended to an own row, in a region that draws its order -/
theorem Nm.appK {w : World} {o : Oper} {a : Act} {K : Act → World → Prop} {Q : Exit → Act → World → Prop} (hgd : o.guard = none) (s x : Operand)
    (ho : o.op = .call { callee := .builtin .append, args := #[s, x], argTypes := #[22, 22] }) (base : Nat)
    (v : Value) (n : Nat) (xs : List Value) (hs : a.eval s = v) (hown : w.ownsRow base 3 1 v n xs) {g : Nat} (y : Int) (hx : a.eval x = .slice (some ⟨g, 0, none⟩) 1 1) (hr : w.cell? ⟨g, 0, none⟩ = some (.int .i64 y))
    (hlen : n ≤ 4194304) (hbase : base ≤ w.heap.size)
    (h : ∀ v' w', w'.ownsRow base 3 1 v' (n + 1) (xs ++ [.int .i64 y]) → w.grownBy w' v.ownBlock → K (a.put o.dst v') w') {ops : Array Oper} : if Region.wanted o (yielded ops a.tmps) = true then Oper.wp Tryz.prog o a w K Q else K (a.put o.dst undef) w := by
  have hw : Region.wanted o (yielded ops a.tmps) = true := by simp [Region.wanted, hgd]
  rw [if_pos hw]
  obtain ⟨i0, hi0, hz0, hz1, hz2⟩ := info_parts Nm.info
  have hrd : Rd Nm.cells 1 w g (g + 1) (.slice (some ⟨g, 0, none⟩) 1 1) [y] := rd_one (fun j u hu => by
    have hj : j < 1 := (List.getElem?_eq_some_iff.1 hu).1
    obtain rfl : j = 0 := by omega
    simp only [Nm.cells, List.getElem?_cons_zero, Option.some.injEq] at hu
    subst hu; exact hr)
  obtain ⟨v', w', hrun, h2, h3⟩ := run_app_rd (P := Tryz.prog) w base 22 o.type 3 i0 _ 1 _ Tryz.underlying22 hi0 hz0 hz1 hz2 rfl (by omega) Nm.cells_len Nm.one v n xs hown hrd (by unfold maxLen; omega) (by omega) hbase
  unfold Oper.wp execOp
  simp only [ho, resolve, invoke, builtin, Sem.run_bind, Sem.run_pure, Result.andThen_ok, List.map_toArray, List.map_cons, List.map_nil, hs, hx, hrun]
  exact h _ _ (by simpa [Nm.cells] using h2) h3
set_option maxHeartbeats 4000000 in
theorem implTakeF_in (m : Int) (vt vs vw : Value) (st : List Int) (ls : List Sl) (lw : List Wt) (w : World) {lo hi lo2 hi2 lo3 hi3 : Nat} (h0 : Rd Nm.cells 1 w lo3 hi3 vt st) (h : Rd Sl.cells 3 w lo hi vs ls) (h2 : Rd Wt.cells 2 w lo2 hi2 vw lw) (hh0 : hi3 ≤ w.heap.size) (hh : hi ≤ w.heap.size) (hh2 : hi2 ≤ w.heap.size) (hgood : Sl.good ls = true) (hix : ∀ i ∈ st, ∃ k : Nat, Sl.ix ls i = k ∧ k < ls.length) (hl : st.length ≤ 1048576) (hl2 : lw.length ≤ 1048576) :
    Calls Tryz.prog 63 #[.agg #[.int .i64 m, vt, vs, vw]] w fun e w' => ∃ v0 v1 v2, e = .returned (.tuple #[.agg #[.int .i64 (Fa.tkM m ls (minI m (Fa.run st ls))), v0, v1, v2], .int .i64 (Sl.tkV ls (minI m (Fa.run st ls))), .bool (Sl.tkOk ls (minI m (Fa.run st ls)))]) ∧ Ow Nm.cells 1 3 w' w.heap.size w'.heap.size v0 (Fa.tkU st ls (minI m (Fa.run st ls))) ∧ Ow Sl.cells 3 127 w' w.heap.size w'.heap.size v1 (Sl.tkR ls (minI m (Fa.run st ls))) ∧ Ow Wt.cells 2 134 w' w.heap.size w'.heap.size v2 (Qu.tkK ls (minI m (Fa.run st ls)) lw) ∧ Below w.heap.size w w' := by
  have b0 : Below w.heap.size w ((w.alloc (.cells #[.int .i64 m, vt, vs, vw] 35)).alloc (.cells #[.int .i64 0, .slice none 0 0, .slice none 0 0, .slice none 0 0] 35)) := ((Below.refl w.heap.size w).alloc (Nat.le_refl _) _).alloc (by simp) _
  have z0 : ((w.alloc (.cells #[.int .i64 m, vt, vs, vw] 35)).alloc (.cells #[.int .i64 0, .slice none 0 0, .slice none 0 0, .slice none 0 0] 35)).heap.size = w.heap.size + 2 := by simp
  have bx := Box.new w #[.int .i64 m, vt, vs, vw] 35 rfl
  have bR := Box.new (g := w.heap.size + 1) (w.alloc (.cells #[.int .i64 m, vt, vs, vw] 35)) #[.int .i64 0, .slice none 0 0, .slice none 0 0, .slice none 0 0] 35 (by simp)
  replace bx := bx.below ((Below.refl _ (w.alloc (.cells #[.int .i64 m, vt, vs, vw] 35))).alloc (Nat.le_refl _) (.cells #[.int .i64 0, .slice none 0 0, .slice none 0 0, .slice none 0 0] 35)) bx.lt
  have ht := h0.below b0 hh0
  have hs := h.below b0 hh
  have hw := h2.below b0 hh2
  have hv0_ := h0.form
  have hv_ := h.form
  have hv2_ := h2.form
  clear h0 h h2
  generalize hwA : (w.alloc (.cells #[.int .i64 m, vt, vs, vw] 35)).alloc (.cells #[.int .i64 0, .slice none 0 0, .slice none 0 0, .slice none 0 0] 35) = wA at *
  obtain ⟨At, nt, dt, rfl, _, _, _⟩ := hv0_
  obtain ⟨A0, n0, d0, rfl, _, _, _⟩ := hv_
  obtain ⟨A1, n1, d1, rfl, _, _, _⟩ := hv2_
  have HG := Lib.hid hgood
  have HX := Lib.hid hix
  have HM := Lib.hid (show min m (Fa.run st ls) = minI m (Fa.run st ls) from by unfold minI; omega)
  clear hgood hix
  go_enter Tryz.func63, Tryz.ntmps63
  have bx_0 := bx.cell (j := 0) rfl
  have bx_1 := bx.cell (j := 1) rfl
  have bx_2 := bx.cell (j := 2) rfl
  have bx_3 := bx.cell (j := 3) rfl
  have bx_z := bx.frozen
  have bx_l := bx.lt
  have bR_0 := bR.cell (j := 0) rfl
  have bR_1 := bR.cell (j := 1) rfl
  have bR_2 := bR.cell (j := 2) rfl
  have bR_3 := bR.cell (j := 3) rfl
  have bR_z := bR.frozen
  have bR_l := bR.lt
  go_upto_region 1 with fail
  clear hwA
  clear bx_0 bx_1 bx_2 bx_3 bx_z bx_l bR_0 bR_1 bR_2 bR_3 bR_z bR_l
  go_cut [5, 6, 7] (fun s5 s6 s7 wx => ∃ (ww : World) (gT : Nat) (v1 v2 : Value), ww = wx ∧ s5 = .pointer (some ⟨gT, 0, none⟩) ∧ s6 = .int .i64 (Sl.tkV ls (minI m (Fa.run st ls))) ∧ s7 = .bool (Sl.tkOk ls (minI m (Fa.run st ls))) ∧ Below wA.heap.size wA wx ∧ wA.heap.size ≤ gT ∧ Box wx gT 33 [v1, v2] ∧ Ow Sl.cells 3 127 wx wA.heap.size wx.heap.size v1 (Sl.tkR ls (minI m (Fa.run st ls))) ∧ Ow Wt.cells 2 134 wx wA.heap.size wx.heap.size v2 (Qu.tkK ls (minI m (Fa.run st ls)) lw))
  case first =>
    have bC := Below.refl wA.heap.size wA
    have zB := b0.size
    refine wp_region_held_drew (S := fun W => Box W (w.heap.size) 35 [.int .i64 m, .slice At nt dt, .slice A0 n0 d0, .slice A1 n1 d1]) (by kernel_rfl) (show (fun (W : World) => Box W (w.heap.size) 35 [.int .i64 m, .slice At nt dt, .slice A0 n0 d0, .slice A1 n1 d1]) wA.drew from bx) (fun hHeld => ?_)
    refine wpAnyH_take (i := 0) (v := .pointer (some ⟨w.heap.size, 2, none⟩)) rfl (by kernel_rfl) (by kernel_rfl) (by kernel_rfl) (fun _ _ _ h => h) (Or.inl ⟨by rfl, by intro w hSw; have hS0 := hSw; have y00 := hS0.cell (j := 0) rfl; have y01 := hS0.cell (j := 1) rfl; have y02 := hS0.cell (j := 2) rfl; have y03 := hS0.cell (j := 3) rfl; go_simp⟩) hHeld ?_
    refine wpAnyH_take (i := 1) (v := .agg #[.slice A0 n0 d0, .slice A1 n1 d1]) rfl (by kernel_rfl) (by kernel_rfl) (by kernel_rfl) (fun _ _ _ h => h) (Or.inl ⟨by rfl, by intro w hSw; have hS0 := hSw; have y00 := hS0.cell (j := 0) rfl; have y01 := hS0.cell (j := 1) rfl; have y02 := hS0.cell (j := 2) rfl; have y03 := hS0.cell (j := 3) rfl; go_simp⟩) hHeld ?_
    refine wpAnyH_take (i := 2) (v := .pointer (some ⟨w.heap.size, 0, none⟩)) rfl (by kernel_rfl) (by kernel_rfl) (by kernel_rfl) (fun _ _ _ h => h) (Or.inl ⟨by rfl, by intro w hSw; have hS0 := hSw; have y00 := hS0.cell (j := 0) rfl; have y01 := hS0.cell (j := 1) rfl; have y02 := hS0.cell (j := 2) rfl; have y03 := hS0.cell (j := 3) rfl; go_simp⟩) hHeld ?_
    refine wpAnyH_take (i := 3) (v := .int .i64 m) rfl (by kernel_rfl) (by kernel_rfl) (by kernel_rfl) (fun _ _ _ h => h) (Or.inl ⟨by rfl, by intro w hSw; have hS0 := hSw; have y00 := hS0.cell (j := 0) rfl; have y01 := hS0.cell (j := 1) rfl; have y02 := hS0.cell (j := 2) rfl; have y03 := hS0.cell (j := 3) rfl; go_simp⟩) hHeld ?_
    refine wpAnyH_take (i := 4) (v := .agg #[.int .i64 m, .slice At nt dt, .slice A0 n0 d0, .slice A1 n1 d1]) rfl (by kernel_rfl) (by kernel_rfl) (by kernel_rfl) (fun _ _ _ h => h) (Or.inl ⟨by rfl, by intro w hSw; have hS0 := hSw; have y00 := hS0.cell (j := 0) rfl; have y01 := hS0.cell (j := 1) rfl; have y02 := hS0.cell (j := 2) rfl; have y03 := hS0.cell (j := 3) rfl; go_simp⟩) hHeld ?_
    clear hHeld
    refine held_gen (F := fun W' => Below wA.heap.size wA W') (Below.refl wA.heap.size wA).drew ?_
    rintro w1 b_1
    replace bx := bx.below b_1 bx.lt
    replace bR := bR.below b_1 bR.lt
    replace ht := ht.below b_1 (by omega)
    replace hs := hs.below b_1 (by omega)
    replace hw := hw.below b_1 (by omega)
    have z_2 := b_1.size
    replace bC := bC.trans (b_1.mono (by omega))
    clear b_1
    refine wpAnyH_ready (rs := [5, 12]) (by kernel_rfl) (by decide) ?_
    refine AllReadyH.cons rfl (fun K3a hK3a => ?_) (AllReadyH.cons rfl (fun K3b hK3b => ?_) AllReadyH.nil)
    · go_simp
      refine (implRunning_in m _ _ _ st ls lw w1 ht hs hw (by omega) (by omega) (by omega) HX.out).mono ?_; rintro q_ w4 ⟨rfl, b_4⟩
      replace bx := bx.below b_4 bx.lt
      replace bR := bR.below b_4 bR.lt
      replace ht := ht.below b_4 (by omega)
      replace hs := hs.below b_4 (by omega)
      replace hw := hw.below b_4 (by omega)
      have z_5 := b_4.size
      replace bC := bC.trans (b_4.mono (by omega))
      clear b_4
      refine hK3a.out _ _ bx (fun _ => ?_)
      have hHeld : (fun (W : World) => Box W (w.heap.size) 35 [.int .i64 m, .slice At nt dt, .slice A0 n0 d0, .slice A1 n1 d1]) w4 := bx
      refine wpAnyH_take (i := 6) (v := .int .i64 (minI m (Fa.run st ls))) rfl (by kernel_rfl) (by kernel_rfl) (by kernel_rfl) (fun _ _ _ h => h) (Or.inl ⟨by rfl, by intro w hSw; have hS0 := hSw; have y00 := hS0.cell (j := 0) rfl; have y01 := hS0.cell (j := 1) rfl; have y02 := hS0.cell (j := 2) rfl; have y03 := hS0.cell (j := 3) rfl; go_simp; exact HM.out⟩) hHeld ?_
      clear hHeld
      refine wpAnyH_ready (rs := [7, 12]) (by kernel_rfl) (by decide) ?_
      refine AllReadyH.cons rfl (fun K6a hK6a => ?_) (AllReadyH.cons rfl (fun K6b hK6b => ?_) AllReadyH.nil)
      · go_simp
        refine (implTakeQ_in _ _ ls lw (minI m (Fa.run st ls)) w4 hs hw (by omega) (by omega) HG.out hl2).mono ?_; rintro q_ w7 ⟨v5, v6, rfl, o5, o6, b_7⟩
        replace bx := bx.below b_7 bx.lt
        replace bR := bR.below b_7 bR.lt
        replace ht := ht.below b_7 (by omega)
        replace hs := hs.below b_7 (by omega)
        replace hw := hw.below b_7 (by omega)
        have z_8 := b_7.size
        replace bC := bC.trans (b_7.mono (by omega))
        clear b_7
        obtain ⟨A5, n5, d5, rfl, _, _, _⟩ := o5.rd.form
        obtain ⟨A6, n6, d6, rfl, _, _, _⟩ := o6.rd.form
        refine hK6a.out _ _ bx (fun _ => ?_)
        have hHeld : (fun (W : World) => Box W (w.heap.size) 35 [.int .i64 m, .slice At nt dt, .slice A0 n0 d0, .slice A1 n1 d1]) w7 := bx
        refine wpAnyH_take (i := 8) (v := .tuple #[.agg #[.slice A5 n5 d5, .slice A6 n6 d6], .int .i64 (Sl.tkV ls (minI m (Fa.run st ls))), .bool (Sl.tkOk ls (minI m (Fa.run st ls)))]) rfl (by kernel_rfl) (by kernel_rfl) (by kernel_rfl) (fun _ _ _ h => h) (Or.inl ⟨by rfl, by intro w hSw; have hS0 := hSw; have y00 := hS0.cell (j := 0) rfl; have y01 := hS0.cell (j := 1) rfl; have y02 := hS0.cell (j := 2) rfl; have y03 := hS0.cell (j := 3) rfl; go_simp⟩) hHeld ?_
        refine wpAnyH_take (i := 9) (v := .agg #[.slice A5 n5 d5, .slice A6 n6 d6]) rfl (by kernel_rfl) (by kernel_rfl) (by kernel_rfl) (fun _ _ _ h => h) (Or.inl ⟨by rfl, by intro w hSw; have hS0 := hSw; have y00 := hS0.cell (j := 0) rfl; have y01 := hS0.cell (j := 1) rfl; have y02 := hS0.cell (j := 2) rfl; have y03 := hS0.cell (j := 3) rfl; go_simp⟩) hHeld ?_
        refine wpAnyH_take (i := 10) (v := .int .i64 (Sl.tkV ls (minI m (Fa.run st ls)))) rfl (by kernel_rfl) (by kernel_rfl) (by kernel_rfl) (fun _ _ _ h => h) (Or.inl ⟨by rfl, by intro w hSw; have hS0 := hSw; have y00 := hS0.cell (j := 0) rfl; have y01 := hS0.cell (j := 1) rfl; have y02 := hS0.cell (j := 2) rfl; have y03 := hS0.cell (j := 3) rfl; go_simp⟩) hHeld ?_
        refine wpAnyH_take (i := 11) (v := .bool (Sl.tkOk ls (minI m (Fa.run st ls)))) rfl (by kernel_rfl) (by kernel_rfl) (by kernel_rfl) (fun _ _ _ h => h) (Or.inl ⟨by rfl, by intro w hSw; have hS0 := hSw; have y00 := hS0.cell (j := 0) rfl; have y01 := hS0.cell (j := 1) rfl; have y02 := hS0.cell (j := 2) rfl; have y03 := hS0.cell (j := 3) rfl; go_simp⟩) hHeld ?_
        clear hHeld
        refine wpAnyH_ready (rs := [12]) (by kernel_rfl) (by decide) ?_
        refine AllReadyH.cons rfl (fun K9 hK9 => ?_) AllReadyH.nil
        go_simp
        have b_10 := (Below.refl w7.heap.size w7).alloc (Nat.le_refl _) (.cells #[.slice none 0 0, .slice none 0 0] 33)
        have bT := Box.new w7 #[.slice none 0 0, .slice none 0 0] 33 rfl
        replace bx := bx.below b_10 bx.lt
        replace bR := bR.below b_10 bR.lt
        replace ht := ht.below b_10 (by omega)
        replace hs := hs.below b_10 (by omega)
        replace hw := hw.below b_10 (by omega)
        replace o5 := o5.below b_10 (by omega)
        replace o6 := o6.below b_10 (by omega)
        have z_11 := b_10.size
        replace bC := bC.trans (b_10.mono (by omega))
        clear b_10
        generalize w7.alloc _ = w10 at *
        generalize w7.heap.size = g10 at *
        refine hK9.out _ _ bx (fun _ => ?_)
        refine wpAnyH_ready (rs := [13]) (by kernel_rfl) (by decide) ?_
        refine AllReadyH.cons rfl (fun K12 hK12 => ?_) AllReadyH.nil
        have bx_0 := bx.cell (j := 0) rfl
        have bx_1 := bx.cell (j := 1) rfl
        have bx_2 := bx.cell (j := 2) rfl
        have bx_3 := bx.cell (j := 3) rfl
        have bx_z := bx.frozen
        have bx_l := bx.lt
        have bR_0 := bR.cell (j := 0) rfl
        have bR_1 := bR.cell (j := 1) rfl
        have bR_2 := bR.cell (j := 2) rfl
        have bR_3 := bR.cell (j := 3) rfl
        have bR_z := bR.frozen
        have bR_l := bR.lt
        have bT_0 := bT.cell (j := 0) rfl
        have bT_1 := bT.cell (j := 1) rfl
        have bT_z := bT.frozen
        have bT_l := bT.lt
        go_simp
        clear bx_0 bx_1 bx_2 bx_3 bx_z bx_l bR_0 bR_1 bR_2 bR_3 bR_z bR_l bT_0 bT_1 bT_z bT_l
        generalize hwz : World.setCell (World.setCell _ _ _) _ _ = wz_
        obtain rfl : wz_ = setL w10 (g10) 0 [.slice A5 n5 d5, .slice A6 n6 d6] := hwz.symm
        clear hwz
        replace bx := bx.other (b := g10) (by omega) 0 [.slice A5 n5 d5, .slice A6 n6 d6]
        replace bR := bR.other (b := g10) (by omega) 0 [.slice A5 n5 d5, .slice A6 n6 d6]
        replace ht := ht.away (g := g10) (by omega) 0 [.slice A5 n5 d5, .slice A6 n6 d6]
        replace hs := hs.away (g := g10) (by omega) 0 [.slice A5 n5 d5, .slice A6 n6 d6]
        replace hw := hw.away (g := g10) (by omega) 0 [.slice A5 n5 d5, .slice A6 n6 d6]
        replace o5 := o5.box (g := g10) bT (by decide) 0 [.slice A5 n5 d5, .slice A6 n6 d6]
        replace o6 := o6.box (g := g10) bT (by decide) 0 [.slice A5 n5 d5, .slice A6 n6 d6]
        replace bC := setL_below bC [.slice A5 n5 d5, .slice A6 n6 d6] (g10) 0 (by omega)
        have zs_13 : (setL w10 (g10) 0 [.slice A5 n5 d5, .slice A6 n6 d6]).heap.size = w10.heap.size := setL_size _ _ _ _
        replace bT := bT.setAll [.slice A5 n5 d5, .slice A6 n6 d6] rfl
        generalize setL w10 _ 0 _ = w13 at *
        refine hK12.out _ _ bx (fun _ => ?_)
        refine wpAnyH_ready (rs := [14]) (by kernel_rfl) (by decide) ?_
        refine AllReadyH.cons rfl (fun K14 hK14 => ?_) AllReadyH.nil
        go_simp
        refine hK14.out _ _ bx (fun _ => ?_)
        refine wpAnyH_ready (rs := [15]) (by kernel_rfl) (by decide) ?_
        refine AllReadyH.cons rfl (fun K15 hK15 => ?_) AllReadyH.nil
        go_simp
        refine hK15.out _ _ bx (fun _ => ?_)
        refine ⟨by kernel_rfl, ?_⟩
        have bx_0 := bx.cell (j := 0) rfl
        have bx_1 := bx.cell (j := 1) rfl
        have bx_2 := bx.cell (j := 2) rfl
        have bx_3 := bx.cell (j := 3) rfl
        have bx_z := bx.frozen
        have bx_l := bx.lt
        have bR_0 := bR.cell (j := 0) rfl
        have bR_1 := bR.cell (j := 1) rfl
        have bR_2 := bR.cell (j := 2) rfl
        have bR_3 := bR.cell (j := 3) rfl
        have bR_z := bR.frozen
        have bR_l := bR.lt
        have bT_0 := bT.cell (j := 0) rfl
        have bT_1 := bT.cell (j := 1) rfl
        have bT_z := bT.frozen
        have bT_l := bT.lt
        go_wp2_with fail
        clear bx_0 bx_1 bx_2 bx_3 bx_z bx_l bR_0 bR_1 bR_2 bR_3 bR_z bR_l bT_0 bT_1 bT_z bT_l
        go_meet
        exact ⟨_, _, _, _, rfl, rfl, rfl, rfl, bC, by omega, bT, o5.mono (by omega) (by omega), o6.mono (by omega) (by omega)⟩
      · go_simp
        have b_7 := (Below.refl w4.heap.size w4).alloc (Nat.le_refl _) (.cells #[.slice none 0 0, .slice none 0 0] 33)
        have bT := Box.new w4 #[.slice none 0 0, .slice none 0 0] 33 rfl
        replace bx := bx.below b_7 bx.lt
        replace bR := bR.below b_7 bR.lt
        replace ht := ht.below b_7 (by omega)
        replace hs := hs.below b_7 (by omega)
        replace hw := hw.below b_7 (by omega)
        have z_8 := b_7.size
        replace bC := bC.trans (b_7.mono (by omega))
        clear b_7
        generalize w4.alloc _ = w7 at *
        generalize w4.heap.size = g7 at *
        refine hK6b.out _ _ bx (fun _ => ?_)
        refine wpAnyH_ready (rs := [7]) (by kernel_rfl) (by decide) ?_
        refine AllReadyH.cons rfl (fun K9 hK9 => ?_) AllReadyH.nil
        go_simp
        refine (implTakeQ_in _ _ ls lw (minI m (Fa.run st ls)) w7 hs hw (by omega) (by omega) HG.out hl2).mono ?_; rintro q_ w10 ⟨v5, v6, rfl, o5, o6, b_10⟩
        replace bx := bx.below b_10 bx.lt
        replace bR := bR.below b_10 bR.lt
        replace bT := bT.below b_10 bT.lt
        replace ht := ht.below b_10 (by omega)
        replace hs := hs.below b_10 (by omega)
        replace hw := hw.below b_10 (by omega)
        have z_11 := b_10.size
        replace bC := bC.trans (b_10.mono (by omega))
        clear b_10
        obtain ⟨A5, n5, d5, rfl, _, _, _⟩ := o5.rd.form
        obtain ⟨A6, n6, d6, rfl, _, _, _⟩ := o6.rd.form
        refine hK9.out _ _ bx (fun _ => ?_)
        have hHeld : (fun (W : World) => Box W (w.heap.size) 35 [.int .i64 m, .slice At nt dt, .slice A0 n0 d0, .slice A1 n1 d1]) w10 := bx
        refine wpAnyH_take (i := 8) (v := .tuple #[.agg #[.slice A5 n5 d5, .slice A6 n6 d6], .int .i64 (Sl.tkV ls (minI m (Fa.run st ls))), .bool (Sl.tkOk ls (minI m (Fa.run st ls)))]) rfl (by kernel_rfl) (by kernel_rfl) (by kernel_rfl) (fun _ _ _ h => h) (Or.inl ⟨by rfl, by intro w hSw; have hS0 := hSw; have y00 := hS0.cell (j := 0) rfl; have y01 := hS0.cell (j := 1) rfl; have y02 := hS0.cell (j := 2) rfl; have y03 := hS0.cell (j := 3) rfl; go_simp⟩) hHeld ?_
        refine wpAnyH_take (i := 9) (v := .agg #[.slice A5 n5 d5, .slice A6 n6 d6]) rfl (by kernel_rfl) (by kernel_rfl) (by kernel_rfl) (fun _ _ _ h => h) (Or.inl ⟨by rfl, by intro w hSw; have hS0 := hSw; have y00 := hS0.cell (j := 0) rfl; have y01 := hS0.cell (j := 1) rfl; have y02 := hS0.cell (j := 2) rfl; have y03 := hS0.cell (j := 3) rfl; go_simp⟩) hHeld ?_
        refine wpAnyH_take (i := 10) (v := .int .i64 (Sl.tkV ls (minI m (Fa.run st ls)))) rfl (by kernel_rfl) (by kernel_rfl) (by kernel_rfl) (fun _ _ _ h => h) (Or.inl ⟨by rfl, by intro w hSw; have hS0 := hSw; have y00 := hS0.cell (j := 0) rfl; have y01 := hS0.cell (j := 1) rfl; have y02 := hS0.cell (j := 2) rfl; have y03 := hS0.cell (j := 3) rfl; go_simp⟩) hHeld ?_
        refine wpAnyH_take (i := 11) (v := .bool (Sl.tkOk ls (minI m (Fa.run st ls)))) rfl (by kernel_rfl) (by kernel_rfl) (by kernel_rfl) (fun _ _ _ h => h) (Or.inl ⟨by rfl, by intro w hSw; have hS0 := hSw; have y00 := hS0.cell (j := 0) rfl; have y01 := hS0.cell (j := 1) rfl; have y02 := hS0.cell (j := 2) rfl; have y03 := hS0.cell (j := 3) rfl; go_simp⟩) hHeld ?_
        clear hHeld
        refine wpAnyH_ready (rs := [13]) (by kernel_rfl) (by decide) ?_
        refine AllReadyH.cons rfl (fun K12 hK12 => ?_) AllReadyH.nil
        have bx_0 := bx.cell (j := 0) rfl
        have bx_1 := bx.cell (j := 1) rfl
        have bx_2 := bx.cell (j := 2) rfl
        have bx_3 := bx.cell (j := 3) rfl
        have bx_z := bx.frozen
        have bx_l := bx.lt
        have bR_0 := bR.cell (j := 0) rfl
        have bR_1 := bR.cell (j := 1) rfl
        have bR_2 := bR.cell (j := 2) rfl
        have bR_3 := bR.cell (j := 3) rfl
        have bR_z := bR.frozen
        have bR_l := bR.lt
        have bT_0 := bT.cell (j := 0) rfl
        have bT_1 := bT.cell (j := 1) rfl
        have bT_z := bT.frozen
        have bT_l := bT.lt
        go_simp
        clear bx_0 bx_1 bx_2 bx_3 bx_z bx_l bR_0 bR_1 bR_2 bR_3 bR_z bR_l bT_0 bT_1 bT_z bT_l
        generalize hwz : World.setCell (World.setCell _ _ _) _ _ = wz_
        obtain rfl : wz_ = setL w10 (g7) 0 [.slice A5 n5 d5, .slice A6 n6 d6] := hwz.symm
        clear hwz
        replace bx := bx.other (b := g7) (by omega) 0 [.slice A5 n5 d5, .slice A6 n6 d6]
        replace bR := bR.other (b := g7) (by omega) 0 [.slice A5 n5 d5, .slice A6 n6 d6]
        replace ht := ht.away (g := g7) (by omega) 0 [.slice A5 n5 d5, .slice A6 n6 d6]
        replace hs := hs.away (g := g7) (by omega) 0 [.slice A5 n5 d5, .slice A6 n6 d6]
        replace hw := hw.away (g := g7) (by omega) 0 [.slice A5 n5 d5, .slice A6 n6 d6]
        replace o5 := o5.box (g := g7) bT (by decide) 0 [.slice A5 n5 d5, .slice A6 n6 d6]
        replace o6 := o6.box (g := g7) bT (by decide) 0 [.slice A5 n5 d5, .slice A6 n6 d6]
        replace bC := setL_below bC [.slice A5 n5 d5, .slice A6 n6 d6] (g7) 0 (by omega)
        have zs_13 : (setL w10 (g7) 0 [.slice A5 n5 d5, .slice A6 n6 d6]).heap.size = w10.heap.size := setL_size _ _ _ _
        replace bT := bT.setAll [.slice A5 n5 d5, .slice A6 n6 d6] rfl
        generalize setL w10 _ 0 _ = w13 at *
        refine hK12.out _ _ bx (fun _ => ?_)
        refine wpAnyH_ready (rs := [14]) (by kernel_rfl) (by decide) ?_
        refine AllReadyH.cons rfl (fun K14 hK14 => ?_) AllReadyH.nil
        go_simp
        refine hK14.out _ _ bx (fun _ => ?_)
        refine wpAnyH_ready (rs := [15]) (by kernel_rfl) (by decide) ?_
        refine AllReadyH.cons rfl (fun K15 hK15 => ?_) AllReadyH.nil
        go_simp
        refine hK15.out _ _ bx (fun _ => ?_)
        refine ⟨by kernel_rfl, ?_⟩
        have bx_0 := bx.cell (j := 0) rfl
        have bx_1 := bx.cell (j := 1) rfl
        have bx_2 := bx.cell (j := 2) rfl
        have bx_3 := bx.cell (j := 3) rfl
        have bx_z := bx.frozen
        have bx_l := bx.lt
        have bR_0 := bR.cell (j := 0) rfl
        have bR_1 := bR.cell (j := 1) rfl
        have bR_2 := bR.cell (j := 2) rfl
        have bR_3 := bR.cell (j := 3) rfl
        have bR_z := bR.frozen
        have bR_l := bR.lt
        have bT_0 := bT.cell (j := 0) rfl
        have bT_1 := bT.cell (j := 1) rfl
        have bT_z := bT.frozen
        have bT_l := bT.lt
        go_wp2_with fail
        clear bx_0 bx_1 bx_2 bx_3 bx_z bx_l bR_0 bR_1 bR_2 bR_3 bR_z bR_l bT_0 bT_1 bT_z bT_l
        go_meet
        exact ⟨_, _, _, _, rfl, rfl, rfl, rfl, bC, by omega, bT, o5.mono (by omega) (by omega), o6.mono (by omega) (by omega)⟩
    · go_simp
      have b_4 := (Below.refl w1.heap.size w1).alloc (Nat.le_refl _) (.cells #[.slice none 0 0, .slice none 0 0] 33)
      have bT := Box.new w1 #[.slice none 0 0, .slice none 0 0] 33 rfl
      replace bx := bx.below b_4 bx.lt
      replace bR := bR.below b_4 bR.lt
      replace ht := ht.below b_4 (by omega)
      replace hs := hs.below b_4 (by omega)
      replace hw := hw.below b_4 (by omega)
      have z_5 := b_4.size
      replace bC := bC.trans (b_4.mono (by omega))
      clear b_4
      generalize w1.alloc _ = w4 at *
      generalize w1.heap.size = g4 at *
      refine hK3b.out _ _ bx (fun _ => ?_)
      refine wpAnyH_ready (rs := [5]) (by kernel_rfl) (by decide) ?_
      refine AllReadyH.cons rfl (fun K6 hK6 => ?_) AllReadyH.nil
      go_simp
      refine (implRunning_in m _ _ _ st ls lw w4 ht hs hw (by omega) (by omega) (by omega) HX.out).mono ?_; rintro q_ w7 ⟨rfl, b_7⟩
      replace bx := bx.below b_7 bx.lt
      replace bR := bR.below b_7 bR.lt
      replace bT := bT.below b_7 bT.lt
      replace ht := ht.below b_7 (by omega)
      replace hs := hs.below b_7 (by omega)
      replace hw := hw.below b_7 (by omega)
      have z_8 := b_7.size
      replace bC := bC.trans (b_7.mono (by omega))
      clear b_7
      refine hK6.out _ _ bx (fun _ => ?_)
      have hHeld : (fun (W : World) => Box W (w.heap.size) 35 [.int .i64 m, .slice At nt dt, .slice A0 n0 d0, .slice A1 n1 d1]) w7 := bx
      refine wpAnyH_take (i := 6) (v := .int .i64 (minI m (Fa.run st ls))) rfl (by kernel_rfl) (by kernel_rfl) (by kernel_rfl) (fun _ _ _ h => h) (Or.inl ⟨by rfl, by intro w hSw; have hS0 := hSw; have y00 := hS0.cell (j := 0) rfl; have y01 := hS0.cell (j := 1) rfl; have y02 := hS0.cell (j := 2) rfl; have y03 := hS0.cell (j := 3) rfl; go_simp; exact HM.out⟩) hHeld ?_
      clear hHeld
      refine wpAnyH_ready (rs := [7]) (by kernel_rfl) (by decide) ?_
      refine AllReadyH.cons rfl (fun K9 hK9 => ?_) AllReadyH.nil
      go_simp
      refine (implTakeQ_in _ _ ls lw (minI m (Fa.run st ls)) w7 hs hw (by omega) (by omega) HG.out hl2).mono ?_; rintro q_ w10 ⟨v5, v6, rfl, o5, o6, b_10⟩
      replace bx := bx.below b_10 bx.lt
      replace bR := bR.below b_10 bR.lt
      replace bT := bT.below b_10 bT.lt
      replace ht := ht.below b_10 (by omega)
      replace hs := hs.below b_10 (by omega)
      replace hw := hw.below b_10 (by omega)
      have z_11 := b_10.size
      replace bC := bC.trans (b_10.mono (by omega))
      clear b_10
      obtain ⟨A5, n5, d5, rfl, _, _, _⟩ := o5.rd.form
      obtain ⟨A6, n6, d6, rfl, _, _, _⟩ := o6.rd.form
      refine hK9.out _ _ bx (fun _ => ?_)
      have hHeld : (fun (W : World) => Box W (w.heap.size) 35 [.int .i64 m, .slice At nt dt, .slice A0 n0 d0, .slice A1 n1 d1]) w10 := bx
      refine wpAnyH_take (i := 8) (v := .tuple #[.agg #[.slice A5 n5 d5, .slice A6 n6 d6], .int .i64 (Sl.tkV ls (minI m (Fa.run st ls))), .bool (Sl.tkOk ls (minI m (Fa.run st ls)))]) rfl (by kernel_rfl) (by kernel_rfl) (by kernel_rfl) (fun _ _ _ h => h) (Or.inl ⟨by rfl, by intro w hSw; have hS0 := hSw; have y00 := hS0.cell (j := 0) rfl; have y01 := hS0.cell (j := 1) rfl; have y02 := hS0.cell (j := 2) rfl; have y03 := hS0.cell (j := 3) rfl; go_simp⟩) hHeld ?_
      refine wpAnyH_take (i := 9) (v := .agg #[.slice A5 n5 d5, .slice A6 n6 d6]) rfl (by kernel_rfl) (by kernel_rfl) (by kernel_rfl) (fun _ _ _ h => h) (Or.inl ⟨by rfl, by intro w hSw; have hS0 := hSw; have y00 := hS0.cell (j := 0) rfl; have y01 := hS0.cell (j := 1) rfl; have y02 := hS0.cell (j := 2) rfl; have y03 := hS0.cell (j := 3) rfl; go_simp⟩) hHeld ?_
      refine wpAnyH_take (i := 10) (v := .int .i64 (Sl.tkV ls (minI m (Fa.run st ls)))) rfl (by kernel_rfl) (by kernel_rfl) (by kernel_rfl) (fun _ _ _ h => h) (Or.inl ⟨by rfl, by intro w hSw; have hS0 := hSw; have y00 := hS0.cell (j := 0) rfl; have y01 := hS0.cell (j := 1) rfl; have y02 := hS0.cell (j := 2) rfl; have y03 := hS0.cell (j := 3) rfl; go_simp⟩) hHeld ?_
      refine wpAnyH_take (i := 11) (v := .bool (Sl.tkOk ls (minI m (Fa.run st ls)))) rfl (by kernel_rfl) (by kernel_rfl) (by kernel_rfl) (fun _ _ _ h => h) (Or.inl ⟨by rfl, by intro w hSw; have hS0 := hSw; have y00 := hS0.cell (j := 0) rfl; have y01 := hS0.cell (j := 1) rfl; have y02 := hS0.cell (j := 2) rfl; have y03 := hS0.cell (j := 3) rfl; go_simp⟩) hHeld ?_
      clear hHeld
      refine wpAnyH_ready (rs := [13]) (by kernel_rfl) (by decide) ?_
      refine AllReadyH.cons rfl (fun K12 hK12 => ?_) AllReadyH.nil
      have bx_0 := bx.cell (j := 0) rfl
      have bx_1 := bx.cell (j := 1) rfl
      have bx_2 := bx.cell (j := 2) rfl
      have bx_3 := bx.cell (j := 3) rfl
      have bx_z := bx.frozen
      have bx_l := bx.lt
      have bR_0 := bR.cell (j := 0) rfl
      have bR_1 := bR.cell (j := 1) rfl
      have bR_2 := bR.cell (j := 2) rfl
      have bR_3 := bR.cell (j := 3) rfl
      have bR_z := bR.frozen
      have bR_l := bR.lt
      have bT_0 := bT.cell (j := 0) rfl
      have bT_1 := bT.cell (j := 1) rfl
      have bT_z := bT.frozen
      have bT_l := bT.lt
      go_simp
      clear bx_0 bx_1 bx_2 bx_3 bx_z bx_l bR_0 bR_1 bR_2 bR_3 bR_z bR_l bT_0 bT_1 bT_z bT_l
      generalize hwz : World.setCell (World.setCell _ _ _) _ _ = wz_
      obtain rfl : wz_ = setL w10 (g4) 0 [.slice A5 n5 d5, .slice A6 n6 d6] := hwz.symm
      clear hwz
      replace bx := bx.other (b := g4) (by omega) 0 [.slice A5 n5 d5, .slice A6 n6 d6]
      replace bR := bR.other (b := g4) (by omega) 0 [.slice A5 n5 d5, .slice A6 n6 d6]
      replace ht := ht.away (g := g4) (by omega) 0 [.slice A5 n5 d5, .slice A6 n6 d6]
      replace hs := hs.away (g := g4) (by omega) 0 [.slice A5 n5 d5, .slice A6 n6 d6]
      replace hw := hw.away (g := g4) (by omega) 0 [.slice A5 n5 d5, .slice A6 n6 d6]
      replace o5 := o5.box (g := g4) bT (by decide) 0 [.slice A5 n5 d5, .slice A6 n6 d6]
      replace o6 := o6.box (g := g4) bT (by decide) 0 [.slice A5 n5 d5, .slice A6 n6 d6]
      replace bC := setL_below bC [.slice A5 n5 d5, .slice A6 n6 d6] (g4) 0 (by omega)
      have zs_13 : (setL w10 (g4) 0 [.slice A5 n5 d5, .slice A6 n6 d6]).heap.size = w10.heap.size := setL_size _ _ _ _
      replace bT := bT.setAll [.slice A5 n5 d5, .slice A6 n6 d6] rfl
      generalize setL w10 _ 0 _ = w13 at *
      refine hK12.out _ _ bx (fun _ => ?_)
      refine wpAnyH_ready (rs := [14]) (by kernel_rfl) (by decide) ?_
      refine AllReadyH.cons rfl (fun K14 hK14 => ?_) AllReadyH.nil
      go_simp
      refine hK14.out _ _ bx (fun _ => ?_)
      refine wpAnyH_ready (rs := [15]) (by kernel_rfl) (by decide) ?_
      refine AllReadyH.cons rfl (fun K15 hK15 => ?_) AllReadyH.nil
      go_simp
      refine hK15.out _ _ bx (fun _ => ?_)
      refine ⟨by kernel_rfl, ?_⟩
      have bx_0 := bx.cell (j := 0) rfl
      have bx_1 := bx.cell (j := 1) rfl
      have bx_2 := bx.cell (j := 2) rfl
      have bx_3 := bx.cell (j := 3) rfl
      have bx_z := bx.frozen
      have bx_l := bx.lt
      have bR_0 := bR.cell (j := 0) rfl
      have bR_1 := bR.cell (j := 1) rfl
      have bR_2 := bR.cell (j := 2) rfl
      have bR_3 := bR.cell (j := 3) rfl
      have bR_z := bR.frozen
      have bR_l := bR.lt
      have bT_0 := bT.cell (j := 0) rfl
      have bT_1 := bT.cell (j := 1) rfl
      have bT_z := bT.frozen
      have bT_l := bT.lt
      go_wp2_with fail
      clear bx_0 bx_1 bx_2 bx_3 bx_z bx_l bR_0 bR_1 bR_2 bR_3 bR_z bR_l bT_0 bT_1 bT_z bT_l
      go_meet
      exact ⟨_, _, _, _, rfl, rfl, rfl, rfl, bC, by omega, bT, o5.mono (by omega) (by omega), o6.mono (by omega) (by omega)⟩
  case rest =>
    obtain ⟨wx, gT, v1, v2, rfl, rfl, rfl, rfl, bC, zT, bT, o5, o6⟩ := hcut
    replace bx := bx.below bC bx.lt
    replace bR := bR.below bC bR.lt
    replace ht := ht.below bC (by omega)
    replace hs := hs.below bC (by omega)
    replace hw := hw.below bC (by omega)
    have z_51 := bC.size
    replace b0 := b0.trans (bC.mono (by omega))
    clear bC
    obtain ⟨A5, n5, d5, rfl, _, _, _⟩ := o5.rd.form
    obtain ⟨A6, n6, d6, rfl, _, _, _⟩ := o6.rd.form
    have zTl := bT.lt
    cases hk : Sl.tkOk ls (minI m (Fa.run st ls))
    · have HF := Lib.hid (show Fa.tkU st ls (minI m (Fa.run st ls)) = [] ∧ Fa.tkM m ls (minI m (Fa.run st ls)) = 0 ∧ Sl.tkR ls (minI m (Fa.run st ls)) = [] ∧ Qu.tkK ls (minI m (Fa.run st ls)) lw = [] ∧ Sl.tkV ls (minI m (Fa.run st ls)) = 0 ∧ Sl.tkOk ls (minI m (Fa.run st ls)) = false from by simp [Fa.tkU, Fa.tkM, Sl.tkR, Qu.tkK, Sl.tkV, hk])
      clear hk
      have bx_0 := bx.cell (j := 0) rfl
      have bx_1 := bx.cell (j := 1) rfl
      have bx_2 := bx.cell (j := 2) rfl
      have bx_3 := bx.cell (j := 3) rfl
      have bx_z := bx.frozen
      have bx_l := bx.lt
      have bR_0 := bR.cell (j := 0) rfl
      have bR_1 := bR.cell (j := 1) rfl
      have bR_2 := bR.cell (j := 2) rfl
      have bR_3 := bR.cell (j := 3) rfl
      have bR_z := bR.frozen
      have bR_l := bR.lt
      have bT_0 := bT.cell (j := 0) rfl
      have bT_1 := bT.cell (j := 1) rfl
      have bT_z := bT.frozen
      have bT_l := bT.lt
      go_wp2_with fail
      clear bx_0 bx_1 bx_2 bx_3 bx_z bx_l bR_0 bR_1 bR_2 bR_3 bR_z bR_l bT_0 bT_1 bT_z bT_l
      generalize hwz : World.setCell (World.setCell (World.setCell (World.setCell _ _ _) _ _) _ _) _ _ = wz_
      obtain rfl : wz_ = setL wx (w.heap.size + 1) 0 [.int .i64 0, .slice none 0 0, .slice none 0 0, .slice none 0 0] := hwz.symm
      clear hwz
      replace bx := bx.other (b := w.heap.size + 1) (by omega) 0 [.int .i64 0, .slice none 0 0, .slice none 0 0, .slice none 0 0]
      replace bT := bT.other (b := w.heap.size + 1) (by omega) 0 [.int .i64 0, .slice none 0 0, .slice none 0 0, .slice none 0 0]
      replace ht := ht.away (g := w.heap.size + 1) (by omega) 0 [.int .i64 0, .slice none 0 0, .slice none 0 0, .slice none 0 0]
      replace hs := hs.away (g := w.heap.size + 1) (by omega) 0 [.int .i64 0, .slice none 0 0, .slice none 0 0, .slice none 0 0]
      replace hw := hw.away (g := w.heap.size + 1) (by omega) 0 [.int .i64 0, .slice none 0 0, .slice none 0 0, .slice none 0 0]
      replace o5 := o5.box (g := w.heap.size + 1) bR (by decide) 0 [.int .i64 0, .slice none 0 0, .slice none 0 0, .slice none 0 0]
      replace o6 := o6.box (g := w.heap.size + 1) bR (by decide) 0 [.int .i64 0, .slice none 0 0, .slice none 0 0, .slice none 0 0]
      replace b0 := setL_below b0 [.int .i64 0, .slice none 0 0, .slice none 0 0, .slice none 0 0] (w.heap.size + 1) 0 (by omega)
      have zs_52 : (setL wx (w.heap.size + 1) 0 [.int .i64 0, .slice none 0 0, .slice none 0 0, .slice none 0 0]).heap.size = wx.heap.size := setL_size _ _ _ _
      replace bR := bR.setAll [.int .i64 0, .slice none 0 0, .slice none 0 0, .slice none 0 0] rfl
      generalize setL wx _ 0 _ = w52 at *
      have u0_ := bR.cell (j := 0) rfl
      have u1_ := bR.cell (j := 1) rfl
      have u2_ := bR.cell (j := 2) rfl
      have u3_ := bR.cell (j := 3) rfl
      refine bodyPost_ret (by simp only [results, Tryz.results63]; simp [go_sem, u0_, u1_, u2_, u3_]; rfl) rfl ?_
      exact ⟨_, _, _, by rw [HF.out.2.1, HF.out.2.2.2.2.1, HF.out.2.2.2.2.2], by rw [HF.out.1]; exact Ow.nil_, by rw [HF.out.2.2.1]; exact Ow.nil_, by rw [HF.out.2.2.2.1]; exact Ow.nil_, b0⟩
    · have HF := Lib.hid (show Fa.tkU st ls (minI m (Fa.run st ls)) = st ++ [Sl.tkV ls (minI m (Fa.run st ls))] ∧ Fa.tkM m ls (minI m (Fa.run st ls)) = m ∧ Sl.tkOk ls (minI m (Fa.run st ls)) = true from by simp [Fa.tkU, Fa.tkM, Sl.tkV, hk])
      clear hk
      have bx_0 := bx.cell (j := 0) rfl
      have bx_1 := bx.cell (j := 1) rfl
      have bx_2 := bx.cell (j := 2) rfl
      have bx_3 := bx.cell (j := 3) rfl
      have bx_z := bx.frozen
      have bx_l := bx.lt
      have bR_0 := bR.cell (j := 0) rfl
      have bR_1 := bR.cell (j := 1) rfl
      have bR_2 := bR.cell (j := 2) rfl
      have bR_3 := bR.cell (j := 3) rfl
      have bR_z := bR.frozen
      have bR_l := bR.lt
      have bT_0 := bT.cell (j := 0) rfl
      have bT_1 := bT.cell (j := 1) rfl
      have bT_z := bT.frozen
      have bT_l := bT.lt
      go_upto_region 4 with fail
      clear bx_0 bx_1 bx_2 bx_3 bx_z bx_l bR_0 bR_1 bR_2 bR_3 bR_z bR_l bT_0 bT_1 bT_z bT_l
      refine wp_region_held_drew (S := fun W => Box W (w.heap.size) 35 [.int .i64 m, .slice At nt dt, .slice A0 n0 d0, .slice A1 n1 d1] ∧ Box W (gT) 33 [.slice A5 n5 d5, .slice A6 n6 d6]) (by kernel_rfl) (show (fun (W : World) => Box W (w.heap.size) 35 [.int .i64 m, .slice At nt dt, .slice A0 n0 d0, .slice A1 n1 d1] ∧ Box W (gT) 33 [.slice A5 n5 d5, .slice A6 n6 d6]) wx.drew from ⟨bx, bT⟩) (fun hHeld => ?_)
      refine wpAnyH_take (i := 0) (v := .pointer (some ⟨w.heap.size, 0, none⟩)) rfl (by kernel_rfl) (by kernel_rfl) (by kernel_rfl) (fun _ _ _ h => h) (Or.inl ⟨by rfl, by intro w hSw; obtain ⟨hS0, hS1⟩ := hSw; have y00 := hS0.cell (j := 0) rfl; have y01 := hS0.cell (j := 1) rfl; have y02 := hS0.cell (j := 2) rfl; have y03 := hS0.cell (j := 3) rfl; have y10 := hS1.cell (j := 0) rfl; have y11 := hS1.cell (j := 1) rfl; go_simp⟩) hHeld ?_
      refine wpAnyH_take (i := 1) (v := .int .i64 m) rfl (by kernel_rfl) (by kernel_rfl) (by kernel_rfl) (fun _ _ _ h => h) (Or.inl ⟨by rfl, by intro w hSw; obtain ⟨hS0, hS1⟩ := hSw; have y00 := hS0.cell (j := 0) rfl; have y01 := hS0.cell (j := 1) rfl; have y02 := hS0.cell (j := 2) rfl; have y03 := hS0.cell (j := 3) rfl; have y10 := hS1.cell (j := 0) rfl; have y11 := hS1.cell (j := 1) rfl; go_simp⟩) hHeld ?_
      refine wpAnyH_take (i := 2) (v := .pointer (some ⟨w.heap.size, 1, none⟩)) rfl (by kernel_rfl) (by kernel_rfl) (by kernel_rfl) (fun _ _ _ h => h) (Or.inl ⟨by rfl, by intro w hSw; obtain ⟨hS0, hS1⟩ := hSw; have y00 := hS0.cell (j := 0) rfl; have y01 := hS0.cell (j := 1) rfl; have y02 := hS0.cell (j := 2) rfl; have y03 := hS0.cell (j := 3) rfl; have y10 := hS1.cell (j := 0) rfl; have y11 := hS1.cell (j := 1) rfl; go_simp⟩) hHeld ?_
      refine wpAnyH_take (i := 3) (v := .slice At nt dt) rfl (by kernel_rfl) (by kernel_rfl) (by kernel_rfl) (fun _ _ _ h => h) (Or.inl ⟨by rfl, by intro w hSw; obtain ⟨hS0, hS1⟩ := hSw; have y00 := hS0.cell (j := 0) rfl; have y01 := hS0.cell (j := 1) rfl; have y02 := hS0.cell (j := 2) rfl; have y03 := hS0.cell (j := 3) rfl; have y10 := hS1.cell (j := 0) rfl; have y11 := hS1.cell (j := 1) rfl; go_simp⟩) hHeld ?_
      refine wpAnyH_take (i := 5) (v := .int .i64 (Sl.tkV ls (minI m (Fa.run st ls)))) rfl (by kernel_rfl) (by kernel_rfl) (by kernel_rfl) (fun _ _ _ h => h) (Or.inl ⟨by rfl, by intro w hSw; obtain ⟨hS0, hS1⟩ := hSw; have y00 := hS0.cell (j := 0) rfl; have y01 := hS0.cell (j := 1) rfl; have y02 := hS0.cell (j := 2) rfl; have y03 := hS0.cell (j := 3) rfl; have y10 := hS1.cell (j := 0) rfl; have y11 := hS1.cell (j := 1) rfl; go_simp⟩) hHeld ?_
      refine wpAnyH_take (i := 8) (v := .agg #[.slice A5 n5 d5, .slice A6 n6 d6]) rfl (by kernel_rfl) (by kernel_rfl) (by kernel_rfl) (fun _ _ _ h => h) (Or.inl ⟨by rfl, by intro w hSw; obtain ⟨hS0, hS1⟩ := hSw; have y00 := hS0.cell (j := 0) rfl; have y01 := hS0.cell (j := 1) rfl; have y02 := hS0.cell (j := 2) rfl; have y03 := hS0.cell (j := 3) rfl; have y10 := hS1.cell (j := 0) rfl; have y11 := hS1.cell (j := 1) rfl; go_simp⟩) hHeld ?_
      refine wpAnyH_take (i := 10) (v := .int .i64 (Sl.tkV ls (minI m (Fa.run st ls)))) rfl (by kernel_rfl) (by kernel_rfl) (by kernel_rfl) (fun _ _ _ h => h) (Or.inl ⟨by rfl, by intro w hSw; obtain ⟨hS0, hS1⟩ := hSw; have y00 := hS0.cell (j := 0) rfl; have y01 := hS0.cell (j := 1) rfl; have y02 := hS0.cell (j := 2) rfl; have y03 := hS0.cell (j := 3) rfl; have y10 := hS1.cell (j := 0) rfl; have y11 := hS1.cell (j := 1) rfl; go_simp⟩) hHeld ?_
      clear hHeld
      refine held_gen (F := fun W' => Below wx.heap.size wx W') (Below.refl wx.heap.size wx).drew ?_
      rintro w52 b_52
      replace bx := bx.below b_52 bx.lt
      replace bR := bR.below b_52 bR.lt
      replace bT := bT.below b_52 bT.lt
      replace ht := ht.below b_52 (by omega)
      replace hs := hs.below b_52 (by omega)
      replace hw := hw.below b_52 (by omega)
      replace o5 := o5.below b_52 (by omega)
      replace o6 := o6.below b_52 (by omega)
      have z_53 := b_52.size
      replace b0 := b0.trans (b_52.mono (by omega))
      clear b_52
      refine wpAnyH_ready (rs := [4, 6]) (by kernel_rfl) (by decide) ?_
      refine AllReadyH.cons rfl (fun K54a hK54a => ?_) (AllReadyH.cons rfl (fun K54b hK54b => ?_) AllReadyH.nil)
      · go_simp
        refine (copyInts_own wx.heap.size _ st w52 ht (by omega) (by omega) hl).mono ?_; rintro q_ w55 ⟨v3, rfl, o3, b_55⟩
        replace bx := bx.below b_55 bx.lt
        replace bR := bR.below b_55 bR.lt
        replace bT := bT.below b_55 bT.lt
        replace ht := ht.below b_55 (by omega)
        replace hs := hs.below b_55 (by omega)
        replace hw := hw.below b_55 (by omega)
        replace o5 := o5.below b_55 (by omega)
        replace o6 := o6.below b_55 (by omega)
        have z_56 := b_55.size
        replace b0 := b0.trans (b_55.mono (by omega))
        clear b_55
        obtain ⟨A3, n3, d3, rfl, _, _, _⟩ := (Ow.of_own Nm.cells_len o3 rfl rfl).rd.form
        refine hK54a.out _ _ ⟨bx, bT⟩ (fun _ => ?_)
        refine wpAnyH_ready (rs := [6]) (by kernel_rfl) (by decide) ?_
        refine AllReadyH.cons rfl (fun K57 hK57 => ?_) AllReadyH.nil
        go_simp
        have b_58 := (Below.refl w55.heap.size w55).alloc (Nat.le_refl _) (.cells #[.int .i64 (Sl.tkV ls (minI m (Fa.run st ls)))] 3)
        have bL := Box.new w55 #[.int .i64 (Sl.tkV ls (minI m (Fa.run st ls)))] 3 rfl
        replace bx := bx.below b_58 bx.lt
        replace bR := bR.below b_58 bR.lt
        replace bT := bT.below b_58 bT.lt
        replace ht := ht.below b_58 (by omega)
        replace hs := hs.below b_58 (by omega)
        replace hw := hw.below b_58 (by omega)
        replace o5 := o5.below b_58 (by omega)
        replace o6 := o6.below b_58 (by omega)
        replace o3 := own_below o3 b_58
        have z_59 := b_58.size
        replace b0 := b0.trans (b_58.mono (by omega))
        clear b_58
        generalize w55.alloc _ = w58 at *
        generalize w55.heap.size = g58 at *
        refine hK57.out _ _ ⟨bx, bT⟩ (fun _ => ?_)
        refine wpAnyH_ready (rs := [7]) (by kernel_rfl) (by decide) ?_
        refine AllReadyH.cons rfl (fun K60 hK60 => ?_) AllReadyH.nil
        have bL_0 := bL.cell (j := 0) rfl
        refine Nm.appK rfl _ _ rfl wx.heap.size _ st.length _ rfl o3 (g := g58) (Sl.tkV ls (minI m (Fa.run st ls))) rfl bL_0 (by omega) (by omega) ?_
        intro v4 w4 o4 g4
        have oT := Ow.of_own Nm.cells_len o4 (l := st ++ [(Sl.tkV ls (minI m (Fa.run st ls)))]) (by simp [Nm.cells]) (by simp)
        obtain ⟨A4, n4, d4, rfl, _, _, _⟩ := oT.rd.form
        replace bx := bx.grown_own o3 g4 (by decide)
        replace bT := bT.grown_own o3 g4 (by decide)
        replace bR := bR.grown_own o3 g4 (by decide)
        replace o5 := o5.grown_own o3 g4 (by decide)
        replace o6 := o6.grown_own o3 g4 (by decide)
        have z4 := g4.size
        replace b0 := b0.grown g4 (by omega) (fun j hj => by have := own_ge o3 j hj; omega)
        clear bL bL_0 o3 o4 g4 ht hs hw
        refine hK60.out _ _ ⟨bx, bT⟩ (fun _ => ?_)
        have hHeld : (fun (W : World) => Box W (w.heap.size) 35 [.int .i64 m, .slice At nt dt, .slice A0 n0 d0, .slice A1 n1 d1] ∧ Box W (gT) 33 [.slice A5 n5 d5, .slice A6 n6 d6]) w4 := ⟨bx, bT⟩
        refine wpAnyH_take (i := 9) (v := .agg #[.int .i64 m, .slice A4 n4 d4, .slice A5 n5 d5, .slice A6 n6 d6]) rfl (by kernel_rfl) (by kernel_rfl) (by kernel_rfl) (fun _ _ _ h => h) (Or.inl ⟨by rfl, by intro w hSw; obtain ⟨hS0, hS1⟩ := hSw; have y00 := hS0.cell (j := 0) rfl; have y01 := hS0.cell (j := 1) rfl; have y02 := hS0.cell (j := 2) rfl; have y03 := hS0.cell (j := 3) rfl; have y10 := hS1.cell (j := 0) rfl; have y11 := hS1.cell (j := 1) rfl; go_simp⟩) hHeld ?_
        clear hHeld
        refine wpAnyH_ready (rs := [11]) (by kernel_rfl) (by decide) ?_
        refine AllReadyH.cons rfl (fun K61 hK61 => ?_) AllReadyH.nil
        have bx_0 := bx.cell (j := 0) rfl
        have bx_1 := bx.cell (j := 1) rfl
        have bx_2 := bx.cell (j := 2) rfl
        have bx_3 := bx.cell (j := 3) rfl
        have bx_z := bx.frozen
        have bx_l := bx.lt
        have bR_0 := bR.cell (j := 0) rfl
        have bR_1 := bR.cell (j := 1) rfl
        have bR_2 := bR.cell (j := 2) rfl
        have bR_3 := bR.cell (j := 3) rfl
        have bR_z := bR.frozen
        have bR_l := bR.lt
        have bT_0 := bT.cell (j := 0) rfl
        have bT_1 := bT.cell (j := 1) rfl
        have bT_z := bT.frozen
        have bT_l := bT.lt
        go_simp
        clear bx_0 bx_1 bx_2 bx_3 bx_z bx_l bR_0 bR_1 bR_2 bR_3 bR_z bR_l bT_0 bT_1 bT_z bT_l
        generalize hwz : World.setCell (World.setCell (World.setCell (World.setCell _ _ _) _ _) _ _) _ _ = wz_
        obtain rfl : wz_ = setL w4 (w.heap.size + 1) 0 [.int .i64 m, .slice A4 n4 d4, .slice A5 n5 d5, .slice A6 n6 d6] := hwz.symm
        clear hwz
        replace bx := bx.other (b := w.heap.size + 1) (by omega) 0 [.int .i64 m, .slice A4 n4 d4, .slice A5 n5 d5, .slice A6 n6 d6]
        replace bT := bT.other (b := w.heap.size + 1) (by omega) 0 [.int .i64 m, .slice A4 n4 d4, .slice A5 n5 d5, .slice A6 n6 d6]
        replace o5 := o5.box (g := w.heap.size + 1) bR (by decide) 0 [.int .i64 m, .slice A4 n4 d4, .slice A5 n5 d5, .slice A6 n6 d6]
        replace o6 := o6.box (g := w.heap.size + 1) bR (by decide) 0 [.int .i64 m, .slice A4 n4 d4, .slice A5 n5 d5, .slice A6 n6 d6]
        replace oT := oT.box (g := w.heap.size + 1) bR (by decide) 0 [.int .i64 m, .slice A4 n4 d4, .slice A5 n5 d5, .slice A6 n6 d6]
        replace b0 := setL_below b0 [.int .i64 m, .slice A4 n4 d4, .slice A5 n5 d5, .slice A6 n6 d6] (w.heap.size + 1) 0 (by omega)
        have zs_62 : (setL w4 (w.heap.size + 1) 0 [.int .i64 m, .slice A4 n4 d4, .slice A5 n5 d5, .slice A6 n6 d6]).heap.size = w4.heap.size := setL_size _ _ _ _
        replace bR := bR.setAll [.int .i64 m, .slice A4 n4 d4, .slice A5 n5 d5, .slice A6 n6 d6] rfl
        generalize setL w4 _ 0 _ = w62 at *
        refine hK61.out _ _ ⟨bx, bT⟩ (fun _ => ?_)
        refine wpAnyH_ready (rs := [12]) (by kernel_rfl) (by decide) ?_
        refine AllReadyH.cons rfl (fun K63 hK63 => ?_) AllReadyH.nil
        go_simp
        refine hK63.out _ _ ⟨bx, bT⟩ (fun _ => ?_)
        refine wpAnyH_ready (rs := [13]) (by kernel_rfl) (by decide) ?_
        refine AllReadyH.cons rfl (fun K64 hK64 => ?_) AllReadyH.nil
        go_simp
        refine hK64.out _ _ ⟨bx, bT⟩ (fun _ => ?_)
        refine ⟨by kernel_rfl, ?_⟩
        have bx_0 := bx.cell (j := 0) rfl
        have bx_1 := bx.cell (j := 1) rfl
        have bx_2 := bx.cell (j := 2) rfl
        have bx_3 := bx.cell (j := 3) rfl
        have bx_z := bx.frozen
        have bx_l := bx.lt
        have bR_0 := bR.cell (j := 0) rfl
        have bR_1 := bR.cell (j := 1) rfl
        have bR_2 := bR.cell (j := 2) rfl
        have bR_3 := bR.cell (j := 3) rfl
        have bR_z := bR.frozen
        have bR_l := bR.lt
        have bT_0 := bT.cell (j := 0) rfl
        have bT_1 := bT.cell (j := 1) rfl
        have bT_z := bT.frozen
        have bT_l := bT.lt
        go_wp2_with fail
        clear bx_0 bx_1 bx_2 bx_3 bx_z bx_l bR_0 bR_1 bR_2 bR_3 bR_z bR_l bT_0 bT_1 bT_z bT_l
        have u0_ := bR.cell (j := 0) rfl
        have u1_ := bR.cell (j := 1) rfl
        have u2_ := bR.cell (j := 2) rfl
        have u3_ := bR.cell (j := 3) rfl
        refine bodyPost_ret (by simp only [results, Tryz.results63]; simp [go_sem, u0_, u1_, u2_, u3_]; rfl) rfl ?_
        exact ⟨_, _, _, by rw [HF.out.2.1, HF.out.2.2], by rw [HF.out.1]; exact oT.mono (by omega) (by omega), o5.mono (by omega) (by omega), o6.mono (by omega) (by omega), b0⟩
      · go_simp
        have b_55 := (Below.refl w52.heap.size w52).alloc (Nat.le_refl _) (.cells #[.int .i64 (Sl.tkV ls (minI m (Fa.run st ls)))] 3)
        have bL := Box.new w52 #[.int .i64 (Sl.tkV ls (minI m (Fa.run st ls)))] 3 rfl
        replace bx := bx.below b_55 bx.lt
        replace bR := bR.below b_55 bR.lt
        replace bT := bT.below b_55 bT.lt
        replace ht := ht.below b_55 (by omega)
        replace hs := hs.below b_55 (by omega)
        replace hw := hw.below b_55 (by omega)
        replace o5 := o5.below b_55 (by omega)
        replace o6 := o6.below b_55 (by omega)
        have z_56 := b_55.size
        replace b0 := b0.trans (b_55.mono (by omega))
        clear b_55
        generalize w52.alloc _ = w55 at *
        generalize w52.heap.size = g55 at *
        refine hK54b.out _ _ ⟨bx, bT⟩ (fun _ => ?_)
        refine wpAnyH_ready (rs := [4]) (by kernel_rfl) (by decide) ?_
        refine AllReadyH.cons rfl (fun K57 hK57 => ?_) AllReadyH.nil
        go_simp
        refine (copyInts_own wx.heap.size _ st w55 ht (by omega) (by omega) hl).mono ?_; rintro q_ w58 ⟨v3, rfl, o3, b_58⟩
        replace bx := bx.below b_58 bx.lt
        replace bR := bR.below b_58 bR.lt
        replace bT := bT.below b_58 bT.lt
        replace bL := bL.below b_58 bL.lt
        replace ht := ht.below b_58 (by omega)
        replace hs := hs.below b_58 (by omega)
        replace hw := hw.below b_58 (by omega)
        replace o5 := o5.below b_58 (by omega)
        replace o6 := o6.below b_58 (by omega)
        have z_59 := b_58.size
        replace b0 := b0.trans (b_58.mono (by omega))
        clear b_58
        obtain ⟨A3, n3, d3, rfl, _, _, _⟩ := (Ow.of_own Nm.cells_len o3 rfl rfl).rd.form
        refine hK57.out _ _ ⟨bx, bT⟩ (fun _ => ?_)
        refine wpAnyH_ready (rs := [7]) (by kernel_rfl) (by decide) ?_
        refine AllReadyH.cons rfl (fun K60 hK60 => ?_) AllReadyH.nil
        have bL_0 := bL.cell (j := 0) rfl
        refine Nm.appK rfl _ _ rfl wx.heap.size _ st.length _ rfl o3 (g := g55) (Sl.tkV ls (minI m (Fa.run st ls))) rfl bL_0 (by omega) (by omega) ?_
        intro v4 w4 o4 g4
        have oT := Ow.of_own Nm.cells_len o4 (l := st ++ [(Sl.tkV ls (minI m (Fa.run st ls)))]) (by simp [Nm.cells]) (by simp)
        obtain ⟨A4, n4, d4, rfl, _, _, _⟩ := oT.rd.form
        replace bx := bx.grown_own o3 g4 (by decide)
        replace bT := bT.grown_own o3 g4 (by decide)
        replace bR := bR.grown_own o3 g4 (by decide)
        replace o5 := o5.grown_own o3 g4 (by decide)
        replace o6 := o6.grown_own o3 g4 (by decide)
        have z4 := g4.size
        replace b0 := b0.grown g4 (by omega) (fun j hj => by have := own_ge o3 j hj; omega)
        clear bL bL_0 o3 o4 g4 ht hs hw
        refine hK60.out _ _ ⟨bx, bT⟩ (fun _ => ?_)
        have hHeld : (fun (W : World) => Box W (w.heap.size) 35 [.int .i64 m, .slice At nt dt, .slice A0 n0 d0, .slice A1 n1 d1] ∧ Box W (gT) 33 [.slice A5 n5 d5, .slice A6 n6 d6]) w4 := ⟨bx, bT⟩
        refine wpAnyH_take (i := 9) (v := .agg #[.int .i64 m, .slice A4 n4 d4, .slice A5 n5 d5, .slice A6 n6 d6]) rfl (by kernel_rfl) (by kernel_rfl) (by kernel_rfl) (fun _ _ _ h => h) (Or.inl ⟨by rfl, by intro w hSw; obtain ⟨hS0, hS1⟩ := hSw; have y00 := hS0.cell (j := 0) rfl; have y01 := hS0.cell (j := 1) rfl; have y02 := hS0.cell (j := 2) rfl; have y03 := hS0.cell (j := 3) rfl; have y10 := hS1.cell (j := 0) rfl; have y11 := hS1.cell (j := 1) rfl; go_simp⟩) hHeld ?_
        clear hHeld
        refine wpAnyH_ready (rs := [11]) (by kernel_rfl) (by decide) ?_
        refine AllReadyH.cons rfl (fun K61 hK61 => ?_) AllReadyH.nil
        have bx_0 := bx.cell (j := 0) rfl
        have bx_1 := bx.cell (j := 1) rfl
        have bx_2 := bx.cell (j := 2) rfl
        have bx_3 := bx.cell (j := 3) rfl
        have bx_z := bx.frozen
        have bx_l := bx.lt
        have bR_0 := bR.cell (j := 0) rfl
        have bR_1 := bR.cell (j := 1) rfl
        have bR_2 := bR.cell (j := 2) rfl
        have bR_3 := bR.cell (j := 3) rfl
        have bR_z := bR.frozen
        have bR_l := bR.lt
        have bT_0 := bT.cell (j := 0) rfl
        have bT_1 := bT.cell (j := 1) rfl
        have bT_z := bT.frozen
        have bT_l := bT.lt
        go_simp
        clear bx_0 bx_1 bx_2 bx_3 bx_z bx_l bR_0 bR_1 bR_2 bR_3 bR_z bR_l bT_0 bT_1 bT_z bT_l
        generalize hwz : World.setCell (World.setCell (World.setCell (World.setCell _ _ _) _ _) _ _) _ _ = wz_
        obtain rfl : wz_ = setL w4 (w.heap.size + 1) 0 [.int .i64 m, .slice A4 n4 d4, .slice A5 n5 d5, .slice A6 n6 d6] := hwz.symm
        clear hwz
        replace bx := bx.other (b := w.heap.size + 1) (by omega) 0 [.int .i64 m, .slice A4 n4 d4, .slice A5 n5 d5, .slice A6 n6 d6]
        replace bT := bT.other (b := w.heap.size + 1) (by omega) 0 [.int .i64 m, .slice A4 n4 d4, .slice A5 n5 d5, .slice A6 n6 d6]
        replace o5 := o5.box (g := w.heap.size + 1) bR (by decide) 0 [.int .i64 m, .slice A4 n4 d4, .slice A5 n5 d5, .slice A6 n6 d6]
        replace o6 := o6.box (g := w.heap.size + 1) bR (by decide) 0 [.int .i64 m, .slice A4 n4 d4, .slice A5 n5 d5, .slice A6 n6 d6]
        replace oT := oT.box (g := w.heap.size + 1) bR (by decide) 0 [.int .i64 m, .slice A4 n4 d4, .slice A5 n5 d5, .slice A6 n6 d6]
        replace b0 := setL_below b0 [.int .i64 m, .slice A4 n4 d4, .slice A5 n5 d5, .slice A6 n6 d6] (w.heap.size + 1) 0 (by omega)
        have zs_62 : (setL w4 (w.heap.size + 1) 0 [.int .i64 m, .slice A4 n4 d4, .slice A5 n5 d5, .slice A6 n6 d6]).heap.size = w4.heap.size := setL_size _ _ _ _
        replace bR := bR.setAll [.int .i64 m, .slice A4 n4 d4, .slice A5 n5 d5, .slice A6 n6 d6] rfl
        generalize setL w4 _ 0 _ = w62 at *
        refine hK61.out _ _ ⟨bx, bT⟩ (fun _ => ?_)
        refine wpAnyH_ready (rs := [12]) (by kernel_rfl) (by decide) ?_
        refine AllReadyH.cons rfl (fun K63 hK63 => ?_) AllReadyH.nil
        go_simp
        refine hK63.out _ _ ⟨bx, bT⟩ (fun _ => ?_)
        refine wpAnyH_ready (rs := [13]) (by kernel_rfl) (by decide) ?_
        refine AllReadyH.cons rfl (fun K64 hK64 => ?_) AllReadyH.nil
        go_simp
        refine hK64.out _ _ ⟨bx, bT⟩ (fun _ => ?_)
        refine ⟨by kernel_rfl, ?_⟩
        have bx_0 := bx.cell (j := 0) rfl
        have bx_1 := bx.cell (j := 1) rfl
        have bx_2 := bx.cell (j := 2) rfl
        have bx_3 := bx.cell (j := 3) rfl
        have bx_z := bx.frozen
        have bx_l := bx.lt
        have bR_0 := bR.cell (j := 0) rfl
        have bR_1 := bR.cell (j := 1) rfl
        have bR_2 := bR.cell (j := 2) rfl
        have bR_3 := bR.cell (j := 3) rfl
        have bR_z := bR.frozen
        have bR_l := bR.lt
        have bT_0 := bT.cell (j := 0) rfl
        have bT_1 := bT.cell (j := 1) rfl
        have bT_z := bT.frozen
        have bT_l := bT.lt
        go_wp2_with fail
        clear bx_0 bx_1 bx_2 bx_3 bx_z bx_l bR_0 bR_1 bR_2 bR_3 bR_z bR_l bT_0 bT_1 bT_z bT_l
        have u0_ := bR.cell (j := 0) rfl
        have u1_ := bR.cell (j := 1) rfl
        have u2_ := bR.cell (j := 2) rfl
        have u3_ := bR.cell (j := 3) rfl
        refine bodyPost_ret (by simp only [results, Tryz.results63]; simp [go_sem, u0_, u1_, u2_, u3_]; rfl) rfl ?_
        exact ⟨_, _, _, by rw [HF.out.2.1, HF.out.2.2], by rw [HF.out.1]; exact oT.mono (by omega) (by omega), o5.mono (by omega) (by omega), o6.mono (by omega) (by omega), b0⟩

end Go.Proofs.YtengaccnncnipaaGreat
