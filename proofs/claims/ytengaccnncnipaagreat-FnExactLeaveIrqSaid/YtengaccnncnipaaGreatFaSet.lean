/- An interface in new memory, and setting its mask, in the program and in the reference. Condition: at most 1048576 numbers, slots and waiters each. -/
import Derived.Test.YtengaccnncnipaaGreatFaGood2
import Derived.Test.YtengaccnncnipaaGreatQuOwn
namespace Go.Proofs.YtengaccnncnipaaGreat
open Go.RowKit Go.ChangeShapes Go.WideShapes Go.Deep

def Fa.smOk (m : Int) (st : List Int) (ls : List Sl) (lw : List Wt) (k : Int) : Bool := Fa.good m st ls lw && inB k 0 16
def Fa.smM (m : Int) (st : List Int) (ls : List Sl) (lw : List Wt) (k : Int) : Int := if Fa.smOk m st ls lw k then k else 0
def Fa.smT (m : Int) (st : List Int) (ls : List Sl) (lw : List Wt) (k : Int) : List Int := if Fa.smOk m st ls lw k then st else []
def Fa.smS (m : Int) (st : List Int) (ls : List Sl) (lw : List Wt) (k : Int) : List Sl := if Fa.smOk m st ls lw k then ls else []
def Fa.smW (m : Int) (st : List Int) (ls : List Sl) (lw : List Wt) (k : Int) : List Wt := if Fa.smOk m st ls lw k then lw else []
theorem Fa.sm_no {m : Int} {st : List Int} {ls : List Sl} {lw : List Wt} {k : Int} (h : Fa.smOk m st ls lw k = false) : Fa.smOk m st ls lw k = false ∧ Fa.smM m st ls lw k = 0 ∧ Fa.smT m st ls lw k = [] ∧ Fa.smS m st ls lw k = [] ∧ Fa.smW m st ls lw k = [] := by simp [Fa.smM, Fa.smT, Fa.smS, Fa.smW, h]
theorem Fa.sm_yes {m : Int} {st : List Int} {ls : List Sl} {lw : List Wt} {k : Int} (h : Fa.smOk m st ls lw k = true) : Fa.smOk m st ls lw k = true ∧ Fa.smM m st ls lw k = k ∧ Fa.smT m st ls lw k = st ∧ Fa.smS m st ls lw k = ls ∧ Fa.smW m st ls lw k = lw := by simp [Fa.smM, Fa.smT, Fa.smS, Fa.smW, h]

set_option maxHeartbeats 2000000 in
theorem specOwnF_any (m : Int) (vt vs vw : Value) (st : List Int) (ls : List Sl) (lw : List Wt) (w : World) {lo hi lo2 hi2 lo3 hi3 : Nat} (h0 : Rd Nm.cells 1 w lo3 hi3 vt st) (h : Rd Sl.cells 3 w lo hi vs ls) (h2 : Rd Wt.cells 2 w lo2 hi2 vw lw) (hh0 : hi3 ≤ w.heap.size) (hh : hi ≤ w.heap.size) (hh2 : hi2 ≤ w.heap.size) (hl : st.length ≤ 1048576) (hl1 : ls.length ≤ 1048576) (hl2 : lw.length ≤ 1048576) :
    Calls Tryz.prog 54 #[.agg #[.int .i64 m, vt, vs, vw]] w fun e w' => ∃ v0 v1 v2, e = .returned (.agg #[.int .i64 m, v0, v1, v2]) ∧ Ow Nm.cells 1 3 w' w.heap.size w'.heap.size v0 (st) ∧ Ow Sl.cells 3 127 w' w.heap.size w'.heap.size v1 (ls) ∧ Ow Wt.cells 2 134 w' w.heap.size w'.heap.size v2 (lw) ∧ Below w.heap.size w w' := by
  have b0 : Below w.heap.size w ((w.alloc (.cells #[.int .i64 m, vt, vs, vw] 35)).alloc (.cells #[.int .i64 0, .slice none 0 0, .slice none 0 0, .slice none 0 0] 35)) := ((Below.refl w.heap.size w).alloc (Nat.le_refl _) _).alloc (by simp) _
  have z0 : ((w.alloc (.cells #[.int .i64 m, vt, vs, vw] 35)).alloc (.cells #[.int .i64 0, .slice none 0 0, .slice none 0 0, .slice none 0 0] 35)).heap.size = w.heap.size + 2 := by simp
  have bx := Box.new w #[.int .i64 m, vt, vs, vw] 35 rfl
  have bR := Box.new (g := w.heap.size + 1) (w.alloc (.cells #[.int .i64 m, vt, vs, vw] 35)) #[.int .i64 0, .slice none 0 0, .slice none 0 0, .slice none 0 0] 35 (by simp)
  replace bx := bx.below ((Below.refl _ (w.alloc (.cells #[.int .i64 m, vt, vs, vw] 35))).alloc (Nat.le_refl _) (.cells #[.int .i64 0, .slice none 0 0, .slice none 0 0, .slice none 0 0] 35)) bx.lt
  have ht := h0.below b0 hh0
  have hs := h.below b0 hh
  have hw := h2.below b0 hh2
  have hv0_ := h0.form
  have hv_ := h.form
  have hv2_ := h2.form
  clear h0 h h2
  generalize hwA : (w.alloc (.cells #[.int .i64 m, vt, vs, vw] 35)).alloc (.cells #[.int .i64 0, .slice none 0 0, .slice none 0 0, .slice none 0 0] 35) = wA at *
  obtain ⟨At, nt, dt, rfl, _, _, _⟩ := hv0_
  obtain ⟨A0, n0, d0, rfl, _, _, _⟩ := hv_
  obtain ⟨A1, n1, d1, rfl, _, _, _⟩ := hv2_
  go_enter Tryz.func54, Tryz.ntmps54
  have bx_0 := bx.cell (j := 0) rfl
  have bx_1 := bx.cell (j := 1) rfl
  have bx_2 := bx.cell (j := 2) rfl
  have bx_3 := bx.cell (j := 3) rfl
  have bx_z := bx.frozen
  have bx_l := bx.lt
  have bR_0 := bR.cell (j := 0) rfl
  have bR_1 := bR.cell (j := 1) rfl
  have bR_2 := bR.cell (j := 2) rfl
  have bR_3 := bR.cell (j := 3) rfl
  have bR_z := bR.frozen
  have bR_l := bR.lt
  go_upto_region 1 with fail
  clear hwA
  clear bx_0 bx_1 bx_2 bx_3 bx_z bx_l bR_0 bR_1 bR_2 bR_3 bR_z bR_l
  refine wp_region_held_drew (S := fun W => Box W (w.heap.size) 35 [.int .i64 m, .slice At nt dt, .slice A0 n0 d0, .slice A1 n1 d1]) (by kernel_rfl) (show (fun (W : World) => Box W (w.heap.size) 35 [.int .i64 m, .slice At nt dt, .slice A0 n0 d0, .slice A1 n1 d1]) wA.drew from bx) (fun hHeld => ?_)
  refine wpAnyH_take (i := 0) (v := .pointer (some ⟨w.heap.size, 0, none⟩)) rfl (by kernel_rfl) (by kernel_rfl) (by kernel_rfl) (fun _ _ _ h => h) (Or.inl ⟨by rfl, by intro w hSw; have hS0 := hSw; have y00 := hS0.cell (j := 0) rfl; have y01 := hS0.cell (j := 1) rfl; have y02 := hS0.cell (j := 2) rfl; have y03 := hS0.cell (j := 3) rfl; go_simp⟩) hHeld ?_
  refine wpAnyH_take (i := 1) (v := .int .i64 m) rfl (by kernel_rfl) (by kernel_rfl) (by kernel_rfl) (fun _ _ _ h => h) (Or.inl ⟨by rfl, by intro w hSw; have hS0 := hSw; have y00 := hS0.cell (j := 0) rfl; have y01 := hS0.cell (j := 1) rfl; have y02 := hS0.cell (j := 2) rfl; have y03 := hS0.cell (j := 3) rfl; go_simp⟩) hHeld ?_
  refine wpAnyH_take (i := 2) (v := .pointer (some ⟨w.heap.size, 1, none⟩)) rfl (by kernel_rfl) (by kernel_rfl) (by kernel_rfl) (fun _ _ _ h => h) (Or.inl ⟨by rfl, by intro w hSw; have hS0 := hSw; have y00 := hS0.cell (j := 0) rfl; have y01 := hS0.cell (j := 1) rfl; have y02 := hS0.cell (j := 2) rfl; have y03 := hS0.cell (j := 3) rfl; go_simp⟩) hHeld ?_
  refine wpAnyH_take (i := 3) (v := .slice At nt dt) rfl (by kernel_rfl) (by kernel_rfl) (by kernel_rfl) (fun _ _ _ h => h) (Or.inl ⟨by rfl, by intro w hSw; have hS0 := hSw; have y00 := hS0.cell (j := 0) rfl; have y01 := hS0.cell (j := 1) rfl; have y02 := hS0.cell (j := 2) rfl; have y03 := hS0.cell (j := 3) rfl; go_simp⟩) hHeld ?_
  refine wpAnyH_take (i := 5) (v := .pointer (some ⟨w.heap.size, 2, none⟩)) rfl (by kernel_rfl) (by kernel_rfl) (by kernel_rfl) (fun _ _ _ h => h) (Or.inl ⟨by rfl, by intro w hSw; have hS0 := hSw; have y00 := hS0.cell (j := 0) rfl; have y01 := hS0.cell (j := 1) rfl; have y02 := hS0.cell (j := 2) rfl; have y03 := hS0.cell (j := 3) rfl; go_simp⟩) hHeld ?_
  refine wpAnyH_take (i := 6) (v := .agg #[.slice A0 n0 d0, .slice A1 n1 d1]) rfl (by kernel_rfl) (by kernel_rfl) (by kernel_rfl) (fun _ _ _ h => h) (Or.inl ⟨by rfl, by intro w hSw; have hS0 := hSw; have y00 := hS0.cell (j := 0) rfl; have y01 := hS0.cell (j := 1) rfl; have y02 := hS0.cell (j := 2) rfl; have y03 := hS0.cell (j := 3) rfl; go_simp⟩) hHeld ?_
  clear hHeld
  refine held_gen (F := fun W' => Below wA.heap.size wA W') (Below.refl wA.heap.size wA).drew ?_
  rintro w1 b_1
  replace bx := bx.below b_1 bx.lt
  replace bR := bR.below b_1 bR.lt
  replace ht := ht.below b_1 (by omega)
  replace hs := hs.below b_1 (by omega)
  replace hw := hw.below b_1 (by omega)
  have z_2 := b_1.size
  replace b0 := b0.trans (b_1.mono (by omega))
  clear b_1
  refine wpAnyH_ready (rs := [4]) (by kernel_rfl) (by decide) ?_
  refine AllReadyH.cons rfl (fun K3 hK3 => ?_) AllReadyH.nil
  go_simp
  refine (l1Own_any _ st w1 ht (by omega) hl).mono ?_; rintro q_ w4 ⟨v3, rfl, o3, b_4⟩
  replace bx := bx.below b_4 bx.lt
  replace bR := bR.below b_4 bR.lt
  replace ht := ht.below b_4 (by omega)
  replace hs := hs.below b_4 (by omega)
  replace hw := hw.below b_4 (by omega)
  have z_5 := b_4.size
  replace b0 := b0.trans (b_4.mono (by omega))
  clear b_4
  obtain ⟨A3, n3, d3, rfl, _, _, _⟩ := o3.rd.form
  refine hK3.out _ _ bx (fun _ => ?_)
  refine wpAnyH_ready (rs := [7]) (by kernel_rfl) (by decide) ?_
  refine AllReadyH.cons rfl (fun K6 hK6 => ?_) AllReadyH.nil
  go_simp
  refine (specOwn_any _ _ ls lw w4 hs hw (by omega) (by omega) hl1 hl2).mono ?_; rintro q_ w7 ⟨v4, v5, rfl, o4, o5, b_7⟩
  replace bx := bx.below b_7 bx.lt
  replace bR := bR.below b_7 bR.lt
  replace ht := ht.below b_7 (by omega)
  replace hs := hs.below b_7 (by omega)
  replace hw := hw.below b_7 (by omega)
  replace o3 := o3.below b_7 (by omega)
  have z_8 := b_7.size
  replace b0 := b0.trans (b_7.mono (by omega))
  clear b_7
  obtain ⟨A4, n4, d4, rfl, _, _, _⟩ := o4.rd.form
  obtain ⟨A5, n5, d5, rfl, _, _, _⟩ := o5.rd.form
  refine hK6.out _ _ bx (fun _ => ?_)
  refine wpAnyH_ready (rs := [8]) (by kernel_rfl) (by decide) ?_
  refine AllReadyH.cons rfl (fun K9 hK9 => ?_) AllReadyH.nil
  go_simp
  refine hK9.out _ _ bx (fun _ => ?_)
  refine wpAnyH_ready (rs := [9]) (by kernel_rfl) (by decide) ?_
  refine AllReadyH.cons rfl (fun K10 hK10 => ?_) AllReadyH.nil
  have bx_0 := bx.cell (j := 0) rfl
  have bx_1 := bx.cell (j := 1) rfl
  have bx_2 := bx.cell (j := 2) rfl
  have bx_3 := bx.cell (j := 3) rfl
  have bx_z := bx.frozen
  have bx_l := bx.lt
  have bR_0 := bR.cell (j := 0) rfl
  have bR_1 := bR.cell (j := 1) rfl
  have bR_2 := bR.cell (j := 2) rfl
  have bR_3 := bR.cell (j := 3) rfl
  have bR_z := bR.frozen
  have bR_l := bR.lt
  go_simp
  clear bx_0 bx_1 bx_2 bx_3 bx_z bx_l bR_0 bR_1 bR_2 bR_3 bR_z bR_l
  generalize hwz : World.setCell (World.setCell (World.setCell (World.setCell _ _ _) _ _) _ _) _ _ = wz_
  obtain rfl : wz_ = setL w7 (w.heap.size + 1) 0 [.int .i64 m, .slice A3 n3 d3, .slice A4 n4 d4, .slice A5 n5 d5] := hwz.symm
  clear hwz
  replace bx := bx.other (b := w.heap.size + 1) (by omega) 0 [.int .i64 m, .slice A3 n3 d3, .slice A4 n4 d4, .slice A5 n5 d5]
  replace ht := ht.away (g := w.heap.size + 1) (by omega) 0 [.int .i64 m, .slice A3 n3 d3, .slice A4 n4 d4, .slice A5 n5 d5]
  replace hs := hs.away (g := w.heap.size + 1) (by omega) 0 [.int .i64 m, .slice A3 n3 d3, .slice A4 n4 d4, .slice A5 n5 d5]
  replace hw := hw.away (g := w.heap.size + 1) (by omega) 0 [.int .i64 m, .slice A3 n3 d3, .slice A4 n4 d4, .slice A5 n5 d5]
  replace o3 := o3.box (g := w.heap.size + 1) bR (by decide) 0 [.int .i64 m, .slice A3 n3 d3, .slice A4 n4 d4, .slice A5 n5 d5]
  replace o4 := o4.box (g := w.heap.size + 1) bR (by decide) 0 [.int .i64 m, .slice A3 n3 d3, .slice A4 n4 d4, .slice A5 n5 d5]
  replace o5 := o5.box (g := w.heap.size + 1) bR (by decide) 0 [.int .i64 m, .slice A3 n3 d3, .slice A4 n4 d4, .slice A5 n5 d5]
  replace b0 := setL_below b0 [.int .i64 m, .slice A3 n3 d3, .slice A4 n4 d4, .slice A5 n5 d5] (w.heap.size + 1) 0 (by omega)
  have zs_11 : (setL w7 (w.heap.size + 1) 0 [.int .i64 m, .slice A3 n3 d3, .slice A4 n4 d4, .slice A5 n5 d5]).heap.size = w7.heap.size := setL_size _ _ _ _
  replace bR := bR.setAll [.int .i64 m, .slice A3 n3 d3, .slice A4 n4 d4, .slice A5 n5 d5] rfl
  generalize setL w7 _ 0 _ = w11 at *
  refine hK10.out _ _ bx (fun _ => ?_)
  refine ⟨by kernel_rfl, ?_⟩
  have bx_0 := bx.cell (j := 0) rfl
  have bx_1 := bx.cell (j := 1) rfl
  have bx_2 := bx.cell (j := 2) rfl
  have bx_3 := bx.cell (j := 3) rfl
  have bx_z := bx.frozen
  have bx_l := bx.lt
  have bR_0 := bR.cell (j := 0) rfl
  have bR_1 := bR.cell (j := 1) rfl
  have bR_2 := bR.cell (j := 2) rfl
  have bR_3 := bR.cell (j := 3) rfl
  have bR_z := bR.frozen
  have bR_l := bR.lt
  go_wp2_with fail
  clear bx_0 bx_1 bx_2 bx_3 bx_z bx_l bR_0 bR_1 bR_2 bR_3 bR_z bR_l
  have u0_ := bR.cell (j := 0) rfl
  have u1_ := bR.cell (j := 1) rfl
  have u2_ := bR.cell (j := 2) rfl
  have u3_ := bR.cell (j := 3) rfl
  refine bodyPost_ret (by simp only [results, Tryz.results54]; simp [go_sem, u0_, u1_, u2_, u3_]; rfl) rfl ?_
  exact ⟨_, _, _, rfl, o3.mono (by omega) (by omega), o4.mono (by omega) (by omega), o5.mono (by omega) (by omega), b0⟩
set_option maxHeartbeats 2000000 in
theorem implOwnF_any (m : Int) (vt vs vw : Value) (st : List Int) (ls : List Sl) (lw : List Wt) (w : World) {lo hi lo2 hi2 lo3 hi3 : Nat} (h0 : Rd Nm.cells 1 w lo3 hi3 vt st) (h : Rd Sl.cells 3 w lo hi vs ls) (h2 : Rd Wt.cells 2 w lo2 hi2 vw lw) (hh0 : hi3 ≤ w.heap.size) (hh : hi ≤ w.heap.size) (hh2 : hi2 ≤ w.heap.size) (hl : st.length ≤ 1048576) (hl1 : ls.length ≤ 1048576) (hl2 : lw.length ≤ 1048576) :
    Calls Tryz.prog 77 #[.agg #[.int .i64 m, vt, vs, vw]] w fun e w' => ∃ v0 v1 v2, e = .returned (.agg #[.int .i64 m, v0, v1, v2]) ∧ Ow Nm.cells 1 3 w' w.heap.size w'.heap.size v0 (st) ∧ Ow Sl.cells 3 127 w' w.heap.size w'.heap.size v1 (ls) ∧ Ow Wt.cells 2 134 w' w.heap.size w'.heap.size v2 (lw) ∧ Below w.heap.size w w' := by
  have b0 : Below w.heap.size w ((w.alloc (.cells #[.int .i64 m, vt, vs, vw] 35)).alloc (.cells #[.int .i64 0, .slice none 0 0, .slice none 0 0, .slice none 0 0] 35)) := ((Below.refl w.heap.size w).alloc (Nat.le_refl _) _).alloc (by simp) _
  have z0 : ((w.alloc (.cells #[.int .i64 m, vt, vs, vw] 35)).alloc (.cells #[.int .i64 0, .slice none 0 0, .slice none 0 0, .slice none 0 0] 35)).heap.size = w.heap.size + 2 := by simp
  have bx := Box.new w #[.int .i64 m, vt, vs, vw] 35 rfl
  have bR := Box.new (g := w.heap.size + 1) (w.alloc (.cells #[.int .i64 m, vt, vs, vw] 35)) #[.int .i64 0, .slice none 0 0, .slice none 0 0, .slice none 0 0] 35 (by simp)
  replace bx := bx.below ((Below.refl _ (w.alloc (.cells #[.int .i64 m, vt, vs, vw] 35))).alloc (Nat.le_refl _) (.cells #[.int .i64 0, .slice none 0 0, .slice none 0 0, .slice none 0 0] 35)) bx.lt
  have ht := h0.below b0 hh0
  have hs := h.below b0 hh
  have hw := h2.below b0 hh2
  have hv0_ := h0.form
  have hv_ := h.form
  have hv2_ := h2.form
  clear h0 h h2
  generalize hwA : (w.alloc (.cells #[.int .i64 m, vt, vs, vw] 35)).alloc (.cells #[.int .i64 0, .slice none 0 0, .slice none 0 0, .slice none 0 0] 35) = wA at *
  obtain ⟨At, nt, dt, rfl, _, _, _⟩ := hv0_
  obtain ⟨A0, n0, d0, rfl, _, _, _⟩ := hv_
  obtain ⟨A1, n1, d1, rfl, _, _, _⟩ := hv2_
  go_enter Tryz.func77, Tryz.ntmps77
  have bx_0 := bx.cell (j := 0) rfl
  have bx_1 := bx.cell (j := 1) rfl
  have bx_2 := bx.cell (j := 2) rfl
  have bx_3 := bx.cell (j := 3) rfl
  have bx_z := bx.frozen
  have bx_l := bx.lt
  have bR_0 := bR.cell (j := 0) rfl
  have bR_1 := bR.cell (j := 1) rfl
  have bR_2 := bR.cell (j := 2) rfl
  have bR_3 := bR.cell (j := 3) rfl
  have bR_z := bR.frozen
  have bR_l := bR.lt
  go_upto_region 1 with fail
  clear hwA
  clear bx_0 bx_1 bx_2 bx_3 bx_z bx_l bR_0 bR_1 bR_2 bR_3 bR_z bR_l
  refine wp_region_held_drew (S := fun W => Box W (w.heap.size) 35 [.int .i64 m, .slice At nt dt, .slice A0 n0 d0, .slice A1 n1 d1]) (by kernel_rfl) (show (fun (W : World) => Box W (w.heap.size) 35 [.int .i64 m, .slice At nt dt, .slice A0 n0 d0, .slice A1 n1 d1]) wA.drew from bx) (fun hHeld => ?_)
  refine wpAnyH_take (i := 0) (v := .pointer (some ⟨w.heap.size, 0, none⟩)) rfl (by kernel_rfl) (by kernel_rfl) (by kernel_rfl) (fun _ _ _ h => h) (Or.inl ⟨by rfl, by intro w hSw; have hS0 := hSw; have y00 := hS0.cell (j := 0) rfl; have y01 := hS0.cell (j := 1) rfl; have y02 := hS0.cell (j := 2) rfl; have y03 := hS0.cell (j := 3) rfl; go_simp⟩) hHeld ?_
  refine wpAnyH_take (i := 1) (v := .int .i64 m) rfl (by kernel_rfl) (by kernel_rfl) (by kernel_rfl) (fun _ _ _ h => h) (Or.inl ⟨by rfl, by intro w hSw; have hS0 := hSw; have y00 := hS0.cell (j := 0) rfl; have y01 := hS0.cell (j := 1) rfl; have y02 := hS0.cell (j := 2) rfl; have y03 := hS0.cell (j := 3) rfl; go_simp⟩) hHeld ?_
  refine wpAnyH_take (i := 2) (v := .pointer (some ⟨w.heap.size, 1, none⟩)) rfl (by kernel_rfl) (by kernel_rfl) (by kernel_rfl) (fun _ _ _ h => h) (Or.inl ⟨by rfl, by intro w hSw; have hS0 := hSw; have y00 := hS0.cell (j := 0) rfl; have y01 := hS0.cell (j := 1) rfl; have y02 := hS0.cell (j := 2) rfl; have y03 := hS0.cell (j := 3) rfl; go_simp⟩) hHeld ?_
  refine wpAnyH_take (i := 3) (v := .slice At nt dt) rfl (by kernel_rfl) (by kernel_rfl) (by kernel_rfl) (fun _ _ _ h => h) (Or.inl ⟨by rfl, by intro w hSw; have hS0 := hSw; have y00 := hS0.cell (j := 0) rfl; have y01 := hS0.cell (j := 1) rfl; have y02 := hS0.cell (j := 2) rfl; have y03 := hS0.cell (j := 3) rfl; go_simp⟩) hHeld ?_
  refine wpAnyH_take (i := 5) (v := .pointer (some ⟨w.heap.size, 2, none⟩)) rfl (by kernel_rfl) (by kernel_rfl) (by kernel_rfl) (fun _ _ _ h => h) (Or.inl ⟨by rfl, by intro w hSw; have hS0 := hSw; have y00 := hS0.cell (j := 0) rfl; have y01 := hS0.cell (j := 1) rfl; have y02 := hS0.cell (j := 2) rfl; have y03 := hS0.cell (j := 3) rfl; go_simp⟩) hHeld ?_
  refine wpAnyH_take (i := 6) (v := .agg #[.slice A0 n0 d0, .slice A1 n1 d1]) rfl (by kernel_rfl) (by kernel_rfl) (by kernel_rfl) (fun _ _ _ h => h) (Or.inl ⟨by rfl, by intro w hSw; have hS0 := hSw; have y00 := hS0.cell (j := 0) rfl; have y01 := hS0.cell (j := 1) rfl; have y02 := hS0.cell (j := 2) rfl; have y03 := hS0.cell (j := 3) rfl; go_simp⟩) hHeld ?_
  clear hHeld
  refine held_gen (F := fun W' => Below wA.heap.size wA W') (Below.refl wA.heap.size wA).drew ?_
  rintro w1 b_1
  replace bx := bx.below b_1 bx.lt
  replace bR := bR.below b_1 bR.lt
  replace ht := ht.below b_1 (by omega)
  replace hs := hs.below b_1 (by omega)
  replace hw := hw.below b_1 (by omega)
  have z_2 := b_1.size
  replace b0 := b0.trans (b_1.mono (by omega))
  clear b_1
  refine wpAnyH_ready (rs := [4]) (by kernel_rfl) (by decide) ?_
  refine AllReadyH.cons rfl (fun K3 hK3 => ?_) AllReadyH.nil
  go_simp
  refine (copyInts_any _ st w1 ht (by omega) hl).mono ?_; rintro q_ w4 ⟨v3, rfl, o3, b_4⟩
  replace bx := bx.below b_4 bx.lt
  replace bR := bR.below b_4 bR.lt
  replace ht := ht.below b_4 (by omega)
  replace hs := hs.below b_4 (by omega)
  replace hw := hw.below b_4 (by omega)
  have z_5 := b_4.size
  replace b0 := b0.trans (b_4.mono (by omega))
  clear b_4
  obtain ⟨A3, n3, d3, rfl, _, _, _⟩ := o3.rd.form
  refine hK3.out _ _ bx (fun _ => ?_)
  refine wpAnyH_ready (rs := [7]) (by kernel_rfl) (by decide) ?_
  refine AllReadyH.cons rfl (fun K6 hK6 => ?_) AllReadyH.nil
  go_simp
  refine (implOwn_any _ _ ls lw w4 hs hw (by omega) (by omega) hl1 hl2).mono ?_; rintro q_ w7 ⟨v4, v5, rfl, o4, o5, b_7⟩
  replace bx := bx.below b_7 bx.lt
  replace bR := bR.below b_7 bR.lt
  replace ht := ht.below b_7 (by omega)
  replace hs := hs.below b_7 (by omega)
  replace hw := hw.below b_7 (by omega)
  replace o3 := o3.below b_7 (by omega)
  have z_8 := b_7.size
  replace b0 := b0.trans (b_7.mono (by omega))
  clear b_7
  obtain ⟨A4, n4, d4, rfl, _, _, _⟩ := o4.rd.form
  obtain ⟨A5, n5, d5, rfl, _, _, _⟩ := o5.rd.form
  refine hK6.out _ _ bx (fun _ => ?_)
  refine wpAnyH_ready (rs := [8]) (by kernel_rfl) (by decide) ?_
  refine AllReadyH.cons rfl (fun K9 hK9 => ?_) AllReadyH.nil
  go_simp
  refine hK9.out _ _ bx (fun _ => ?_)
  refine wpAnyH_ready (rs := [9]) (by kernel_rfl) (by decide) ?_
  refine AllReadyH.cons rfl (fun K10 hK10 => ?_) AllReadyH.nil
  have bx_0 := bx.cell (j := 0) rfl
  have bx_1 := bx.cell (j := 1) rfl
  have bx_2 := bx.cell (j := 2) rfl
  have bx_3 := bx.cell (j := 3) rfl
  have bx_z := bx.frozen
  have bx_l := bx.lt
  have bR_0 := bR.cell (j := 0) rfl
  have bR_1 := bR.cell (j := 1) rfl
  have bR_2 := bR.cell (j := 2) rfl
  have bR_3 := bR.cell (j := 3) rfl
  have bR_z := bR.frozen
  have bR_l := bR.lt
  go_simp
  clear bx_0 bx_1 bx_2 bx_3 bx_z bx_l bR_0 bR_1 bR_2 bR_3 bR_z bR_l
  generalize hwz : World.setCell (World.setCell (World.setCell (World.setCell _ _ _) _ _) _ _) _ _ = wz_
  obtain rfl : wz_ = setL w7 (w.heap.size + 1) 0 [.int .i64 m, .slice A3 n3 d3, .slice A4 n4 d4, .slice A5 n5 d5] := hwz.symm
  clear hwz
  replace bx := bx.other (b := w.heap.size + 1) (by omega) 0 [.int .i64 m, .slice A3 n3 d3, .slice A4 n4 d4, .slice A5 n5 d5]
  replace ht := ht.away (g := w.heap.size + 1) (by omega) 0 [.int .i64 m, .slice A3 n3 d3, .slice A4 n4 d4, .slice A5 n5 d5]
  replace hs := hs.away (g := w.heap.size + 1) (by omega) 0 [.int .i64 m, .slice A3 n3 d3, .slice A4 n4 d4, .slice A5 n5 d5]
  replace hw := hw.away (g := w.heap.size + 1) (by omega) 0 [.int .i64 m, .slice A3 n3 d3, .slice A4 n4 d4, .slice A5 n5 d5]
  replace o3 := o3.box (g := w.heap.size + 1) bR (by decide) 0 [.int .i64 m, .slice A3 n3 d3, .slice A4 n4 d4, .slice A5 n5 d5]
  replace o4 := o4.box (g := w.heap.size + 1) bR (by decide) 0 [.int .i64 m, .slice A3 n3 d3, .slice A4 n4 d4, .slice A5 n5 d5]
  replace o5 := o5.box (g := w.heap.size + 1) bR (by decide) 0 [.int .i64 m, .slice A3 n3 d3, .slice A4 n4 d4, .slice A5 n5 d5]
  replace b0 := setL_below b0 [.int .i64 m, .slice A3 n3 d3, .slice A4 n4 d4, .slice A5 n5 d5] (w.heap.size + 1) 0 (by omega)
  have zs_11 : (setL w7 (w.heap.size + 1) 0 [.int .i64 m, .slice A3 n3 d3, .slice A4 n4 d4, .slice A5 n5 d5]).heap.size = w7.heap.size := setL_size _ _ _ _
  replace bR := bR.setAll [.int .i64 m, .slice A3 n3 d3, .slice A4 n4 d4, .slice A5 n5 d5] rfl
  generalize setL w7 _ 0 _ = w11 at *
  refine hK10.out _ _ bx (fun _ => ?_)
  refine ⟨by kernel_rfl, ?_⟩
  have bx_0 := bx.cell (j := 0) rfl
  have bx_1 := bx.cell (j := 1) rfl
  have bx_2 := bx.cell (j := 2) rfl
  have bx_3 := bx.cell (j := 3) rfl
  have bx_z := bx.frozen
  have bx_l := bx.lt
  have bR_0 := bR.cell (j := 0) rfl
  have bR_1 := bR.cell (j := 1) rfl
  have bR_2 := bR.cell (j := 2) rfl
  have bR_3 := bR.cell (j := 3) rfl
  have bR_z := bR.frozen
  have bR_l := bR.lt
  go_wp2_with fail
  clear bx_0 bx_1 bx_2 bx_3 bx_z bx_l bR_0 bR_1 bR_2 bR_3 bR_z bR_l
  have u0_ := bR.cell (j := 0) rfl
  have u1_ := bR.cell (j := 1) rfl
  have u2_ := bR.cell (j := 2) rfl
  have u3_ := bR.cell (j := 3) rfl
  refine bodyPost_ret (by simp only [results, Tryz.results77]; simp [go_sem, u0_, u1_, u2_, u3_]; rfl) rfl ?_
  exact ⟨_, _, _, rfl, o3.mono (by omega) (by omega), o4.mono (by omega) (by omega), o5.mono (by omega) (by omega), b0⟩
set_option maxHeartbeats 2000000 in
theorem implSetF_any (m : Int) (vt vs vw : Value) (st : List Int) (ls : List Sl) (lw : List Wt) (w : World) {lo hi lo2 hi2 lo3 hi3 : Nat} (h0 : Rd Nm.cells 1 w lo3 hi3 vt st) (h : Rd Sl.cells 3 w lo hi vs ls) (h2 : Rd Wt.cells 2 w lo2 hi2 vw lw) (hh0 : hi3 ≤ w.heap.size) (hh : hi ≤ w.heap.size) (hh2 : hi2 ≤ w.heap.size) (k : Int) (hl : st.length ≤ 1048576) (hl1 : ls.length ≤ 1048576) (hl2 : lw.length ≤ 1048576) :
    Calls Tryz.prog 58 #[.agg #[.int .i64 m, vt, vs, vw], .int .i64 k] w fun e w' => ∃ v0 v1 v2, e = .returned (.agg #[.int .i64 k, v0, v1, v2]) ∧ Ow Nm.cells 1 3 w' w.heap.size w'.heap.size v0 (st) ∧ Ow Sl.cells 3 127 w' w.heap.size w'.heap.size v1 (ls) ∧ Ow Wt.cells 2 134 w' w.heap.size w'.heap.size v2 (lw) ∧ Below w.heap.size w w' := by
  have b0 : Below w.heap.size w ((w.alloc (.cells #[.int .i64 m, vt, vs, vw] 35)).alloc (.cells #[.int .i64 0, .slice none 0 0, .slice none 0 0, .slice none 0 0] 35)) := ((Below.refl w.heap.size w).alloc (Nat.le_refl _) _).alloc (by simp) _
  have z0 : ((w.alloc (.cells #[.int .i64 m, vt, vs, vw] 35)).alloc (.cells #[.int .i64 0, .slice none 0 0, .slice none 0 0, .slice none 0 0] 35)).heap.size = w.heap.size + 2 := by simp
  have bx := Box.new w #[.int .i64 m, vt, vs, vw] 35 rfl
  have bR := Box.new (g := w.heap.size + 1) (w.alloc (.cells #[.int .i64 m, vt, vs, vw] 35)) #[.int .i64 0, .slice none 0 0, .slice none 0 0, .slice none 0 0] 35 (by simp)
  replace bx := bx.below ((Below.refl _ (w.alloc (.cells #[.int .i64 m, vt, vs, vw] 35))).alloc (Nat.le_refl _) (.cells #[.int .i64 0, .slice none 0 0, .slice none 0 0, .slice none 0 0] 35)) bx.lt
  have ht := h0.below b0 hh0
  have hs := h.below b0 hh
  have hw := h2.below b0 hh2
  have hv0_ := h0.form
  have hv_ := h.form
  have hv2_ := h2.form
  clear h0 h h2
  generalize hwA : (w.alloc (.cells #[.int .i64 m, vt, vs, vw] 35)).alloc (.cells #[.int .i64 0, .slice none 0 0, .slice none 0 0, .slice none 0 0] 35) = wA at *
  obtain ⟨At, nt, dt, rfl, _, _, _⟩ := hv0_
  obtain ⟨A0, n0, d0, rfl, _, _, _⟩ := hv_
  obtain ⟨A1, n1, d1, rfl, _, _, _⟩ := hv2_
  go_enter Tryz.func58, Tryz.ntmps58
  have bx_0 := bx.cell (j := 0) rfl
  have bx_1 := bx.cell (j := 1) rfl
  have bx_2 := bx.cell (j := 2) rfl
  have bx_3 := bx.cell (j := 3) rfl
  have bx_z := bx.frozen
  have bx_l := bx.lt
  have bR_0 := bR.cell (j := 0) rfl
  have bR_1 := bR.cell (j := 1) rfl
  have bR_2 := bR.cell (j := 2) rfl
  have bR_3 := bR.cell (j := 3) rfl
  have bR_z := bR.frozen
  have bR_l := bR.lt
  go_wp2_with fail
  clear hwA
  clear bx_0 bx_1 bx_2 bx_3 bx_z bx_l bR_0 bR_1 bR_2 bR_3 bR_z bR_l
  refine (implOwnF_any m _ _ _ st ls lw wA ht hs hw (by omega) (by omega) (by omega) hl hl1 hl2).mono ?_; rintro q_ w1 ⟨v3, v4, v5, rfl, o3, o4, o5, b_1⟩
  replace bx := bx.below b_1 bx.lt
  replace bR := bR.below b_1 bR.lt
  replace ht := ht.below b_1 (by omega)
  replace hs := hs.below b_1 (by omega)
  replace hw := hw.below b_1 (by omega)
  have z_2 := b_1.size
  replace b0 := b0.trans (b_1.mono (by omega))
  clear b_1
  obtain ⟨A3, n3, d3, rfl, _, _, _⟩ := o3.rd.form
  obtain ⟨A4, n4, d4, rfl, _, _, _⟩ := o4.rd.form
  obtain ⟨A5, n5, d5, rfl, _, _, _⟩ := o5.rd.form
  have bx_0 := bx.cell (j := 0) rfl
  have bx_1 := bx.cell (j := 1) rfl
  have bx_2 := bx.cell (j := 2) rfl
  have bx_3 := bx.cell (j := 3) rfl
  have bx_z := bx.frozen
  have bx_l := bx.lt
  have bR_0 := bR.cell (j := 0) rfl
  have bR_1 := bR.cell (j := 1) rfl
  have bR_2 := bR.cell (j := 2) rfl
  have bR_3 := bR.cell (j := 3) rfl
  have bR_z := bR.frozen
  have bR_l := bR.lt
  go_upto_region 2 with fail
  clear bx_0 bx_1 bx_2 bx_3 bx_z bx_l bR_0 bR_1 bR_2 bR_3 bR_z bR_l
  have b_3 := (Below.refl w1.heap.size w1).alloc (Nat.le_refl _) (.cells #[.int .i64 m, .slice A3 n3 d3, .slice A4 n4 d4, .slice A5 n5 d5] 35)
  have bO := Box.new w1 #[.int .i64 m, .slice A3 n3 d3, .slice A4 n4 d4, .slice A5 n5 d5] 35 rfl
  replace bx := bx.below b_3 bx.lt
  replace bR := bR.below b_3 bR.lt
  replace ht := ht.below b_3 (by omega)
  replace hs := hs.below b_3 (by omega)
  replace hw := hw.below b_3 (by omega)
  replace o3 := o3.below b_3 (by omega)
  replace o4 := o4.below b_3 (by omega)
  replace o5 := o5.below b_3 (by omega)
  have z_4 := b_3.size
  replace b0 := b0.trans (b_3.mono (by omega))
  clear b_3
  generalize w1.alloc _ = w3 at *
  generalize w1.heap.size = g3 at *
  have bx_0 := bx.cell (j := 0) rfl
  have bx_1 := bx.cell (j := 1) rfl
  have bx_2 := bx.cell (j := 2) rfl
  have bx_3 := bx.cell (j := 3) rfl
  have bx_z := bx.frozen
  have bx_l := bx.lt
  have bR_0 := bR.cell (j := 0) rfl
  have bR_1 := bR.cell (j := 1) rfl
  have bR_2 := bR.cell (j := 2) rfl
  have bR_3 := bR.cell (j := 3) rfl
  have bR_z := bR.frozen
  have bR_l := bR.lt
  have bO_0 := bO.cell (j := 0) rfl
  have bO_1 := bO.cell (j := 1) rfl
  have bO_2 := bO.cell (j := 2) rfl
  have bO_3 := bO.cell (j := 3) rfl
  have bO_z := bO.frozen
  have bO_l := bO.lt
  go_upto_region 3 with fail
  clear bx_0 bx_1 bx_2 bx_3 bx_z bx_l bR_0 bR_1 bR_2 bR_3 bR_z bR_l bO_0 bO_1 bO_2 bO_3 bO_z bO_l
  generalize hwz : World.setCell _ _ _ = wz_
  obtain rfl : wz_ = setL w3 (g3) 0 [.int .i64 k] := hwz.symm
  clear hwz
  replace bx := bx.other (b := g3) (by omega) 0 [.int .i64 k]
  replace bR := bR.other (b := g3) (by omega) 0 [.int .i64 k]
  replace ht := ht.away (g := g3) (by omega) 0 [.int .i64 k]
  replace hs := hs.away (g := g3) (by omega) 0 [.int .i64 k]
  replace hw := hw.away (g := g3) (by omega) 0 [.int .i64 k]
  replace o3 := o3.box (g := g3) bO (by decide) 0 [.int .i64 k]
  replace o4 := o4.box (g := g3) bO (by decide) 0 [.int .i64 k]
  replace o5 := o5.box (g := g3) bO (by decide) 0 [.int .i64 k]
  replace b0 := setL_below b0 [.int .i64 k] (g3) 0 (by omega)
  have zs_5 : (setL w3 (g3) 0 [.int .i64 k]).heap.size = w3.heap.size := setL_size _ _ _ _
  replace bO := bO.set1 (j := 0) (.int .i64 k) (by simp)
  generalize setL w3 _ 0 _ = w5 at *
  have bx_0 := bx.cell (j := 0) rfl
  have bx_1 := bx.cell (j := 1) rfl
  have bx_2 := bx.cell (j := 2) rfl
  have bx_3 := bx.cell (j := 3) rfl
  have bx_z := bx.frozen
  have bx_l := bx.lt
  have bR_0 := bR.cell (j := 0) rfl
  have bR_1 := bR.cell (j := 1) rfl
  have bR_2 := bR.cell (j := 2) rfl
  have bR_3 := bR.cell (j := 3) rfl
  have bR_z := bR.frozen
  have bR_l := bR.lt
  have bO_0 := bO.cell (j := 0) rfl
  have bO_1 := bO.cell (j := 1) rfl
  have bO_2 := bO.cell (j := 2) rfl
  have bO_3 := bO.cell (j := 3) rfl
  have bO_z := bO.frozen
  have bO_l := bO.lt
  go_wp2_with fail
  clear bx_0 bx_1 bx_2 bx_3 bx_z bx_l bR_0 bR_1 bR_2 bR_3 bR_z bR_l bO_0 bO_1 bO_2 bO_3 bO_z bO_l
  generalize hwz : World.setCell (World.setCell (World.setCell (World.setCell _ _ _) _ _) _ _) _ _ = wz_
  obtain rfl : wz_ = setL w5 (w.heap.size + 1) 0 [.int .i64 k, .slice A3 n3 d3, .slice A4 n4 d4, .slice A5 n5 d5] := hwz.symm
  clear hwz
  replace bx := bx.other (b := w.heap.size + 1) (by omega) 0 [.int .i64 k, .slice A3 n3 d3, .slice A4 n4 d4, .slice A5 n5 d5]
  replace bO := bO.other (b := w.heap.size + 1) (by omega) 0 [.int .i64 k, .slice A3 n3 d3, .slice A4 n4 d4, .slice A5 n5 d5]
  replace ht := ht.away (g := w.heap.size + 1) (by omega) 0 [.int .i64 k, .slice A3 n3 d3, .slice A4 n4 d4, .slice A5 n5 d5]
  replace hs := hs.away (g := w.heap.size + 1) (by omega) 0 [.int .i64 k, .slice A3 n3 d3, .slice A4 n4 d4, .slice A5 n5 d5]
  replace hw := hw.away (g := w.heap.size + 1) (by omega) 0 [.int .i64 k, .slice A3 n3 d3, .slice A4 n4 d4, .slice A5 n5 d5]
  replace o3 := o3.box (g := w.heap.size + 1) bR (by decide) 0 [.int .i64 k, .slice A3 n3 d3, .slice A4 n4 d4, .slice A5 n5 d5]
  replace o4 := o4.box (g := w.heap.size + 1) bR (by decide) 0 [.int .i64 k, .slice A3 n3 d3, .slice A4 n4 d4, .slice A5 n5 d5]
  replace o5 := o5.box (g := w.heap.size + 1) bR (by decide) 0 [.int .i64 k, .slice A3 n3 d3, .slice A4 n4 d4, .slice A5 n5 d5]
  replace b0 := setL_below b0 [.int .i64 k, .slice A3 n3 d3, .slice A4 n4 d4, .slice A5 n5 d5] (w.heap.size + 1) 0 (by omega)
  have zs_6 : (setL w5 (w.heap.size + 1) 0 [.int .i64 k, .slice A3 n3 d3, .slice A4 n4 d4, .slice A5 n5 d5]).heap.size = w5.heap.size := setL_size _ _ _ _
  replace bR := bR.setAll [.int .i64 k, .slice A3 n3 d3, .slice A4 n4 d4, .slice A5 n5 d5] rfl
  generalize setL w5 _ 0 _ = w6 at *
  have u0_ := bR.cell (j := 0) rfl
  have u1_ := bR.cell (j := 1) rfl
  have u2_ := bR.cell (j := 2) rfl
  have u3_ := bR.cell (j := 3) rfl
  refine bodyPost_ret (by simp only [results, Tryz.results58]; simp [go_sem, u0_, u1_, u2_, u3_]; rfl) rfl ?_
  exact ⟨_, _, _, rfl, o3.mono (by omega) (by omega), o4.mono (by omega) (by omega), o5.mono (by omega) (by omega), b0⟩
set_option maxHeartbeats 2000000 in
theorem specSetMask_any (m : Int) (vt vs vw : Value) (st : List Int) (ls : List Sl) (lw : List Wt) (w : World) {lo hi lo2 hi2 lo3 hi3 : Nat} (h0 : Rd Nm.cells 1 w lo3 hi3 vt st) (h : Rd Sl.cells 3 w lo hi vs ls) (h2 : Rd Wt.cells 2 w lo2 hi2 vw lw) (hh0 : hi3 ≤ w.heap.size) (hh : hi ≤ w.heap.size) (hh2 : hi2 ≤ w.heap.size) (k : Int) (hl : st.length ≤ 1048576) (hl1 : ls.length ≤ 1048576) (hl2 : lw.length ≤ 1048576) :
    Calls Tryz.prog 11 #[.agg #[.int .i64 m, vt, vs, vw], .int .i64 k] w fun e w' => ∃ v0 v1 v2, e = .returned (.tuple #[.agg #[.int .i64 (Fa.smM m st ls lw k), v0, v1, v2], .bool (Fa.smOk m st ls lw k)]) ∧ Ow Nm.cells 1 3 w' w.heap.size w'.heap.size v0 (Fa.smT m st ls lw k) ∧ Ow Sl.cells 3 127 w' w.heap.size w'.heap.size v1 (Fa.smS m st ls lw k) ∧ Ow Wt.cells 2 134 w' w.heap.size w'.heap.size v2 (Fa.smW m st ls lw k) ∧ Below w.heap.size w w' := by
  have b0 : Below w.heap.size w ((w.alloc (.cells #[.int .i64 m, vt, vs, vw] 35)).alloc (.cells #[.int .i64 0, .slice none 0 0, .slice none 0 0, .slice none 0 0] 35)) := ((Below.refl w.heap.size w).alloc (Nat.le_refl _) _).alloc (by simp) _
  have z0 : ((w.alloc (.cells #[.int .i64 m, vt, vs, vw] 35)).alloc (.cells #[.int .i64 0, .slice none 0 0, .slice none 0 0, .slice none 0 0] 35)).heap.size = w.heap.size + 2 := by simp
  have bx := Box.new w #[.int .i64 m, vt, vs, vw] 35 rfl
  have bR := Box.new (g := w.heap.size + 1) (w.alloc (.cells #[.int .i64 m, vt, vs, vw] 35)) #[.int .i64 0, .slice none 0 0, .slice none 0 0, .slice none 0 0] 35 (by simp)
  replace bx := bx.below ((Below.refl _ (w.alloc (.cells #[.int .i64 m, vt, vs, vw] 35))).alloc (Nat.le_refl _) (.cells #[.int .i64 0, .slice none 0 0, .slice none 0 0, .slice none 0 0] 35)) bx.lt
  have ht := h0.below b0 hh0
  have hs := h.below b0 hh
  have hw := h2.below b0 hh2
  have hv0_ := h0.form
  have hv_ := h.form
  have hv2_ := h2.form
  clear h0 h h2
  generalize hwA : (w.alloc (.cells #[.int .i64 m, vt, vs, vw] 35)).alloc (.cells #[.int .i64 0, .slice none 0 0, .slice none 0 0, .slice none 0 0] 35) = wA at *
  obtain ⟨At, nt, dt, rfl, _, _, _⟩ := hv0_
  obtain ⟨A0, n0, d0, rfl, _, _, _⟩ := hv_
  obtain ⟨A1, n1, d1, rfl, _, _, _⟩ := hv2_
  have c1 := l10Good_any m _ _ _ st ls lw wA ht hs hw (by omega) (by omega) (by omega)
  cases hg : Fa.good m st ls lw
  · have HF := Lib.hid (Fa.sm_no (m := m) (st := st) (ls := ls) (lw := lw) (k := k) (by simp [Fa.smOk, hg]))
    rw [hg] at c1
    clear hg
    go_enter Tryz.func11, Tryz.ntmps11
    have bx_0 := bx.cell (j := 0) rfl
    have bx_1 := bx.cell (j := 1) rfl
    have bx_2 := bx.cell (j := 2) rfl
    have bx_3 := bx.cell (j := 3) rfl
    have bx_z := bx.frozen
    have bx_l := bx.lt
    have bR_0 := bR.cell (j := 0) rfl
    have bR_1 := bR.cell (j := 1) rfl
    have bR_2 := bR.cell (j := 2) rfl
    have bR_3 := bR.cell (j := 3) rfl
    have bR_z := bR.frozen
    have bR_l := bR.lt
    go_wp2_with fail
    clear hwA
    clear bx_0 bx_1 bx_2 bx_3 bx_z bx_l bR_0 bR_1 bR_2 bR_3 bR_z bR_l
    refine (c1).mono ?_; rintro q_ w1 ⟨rfl, b_1⟩
    replace bx := bx.below b_1 bx.lt
    replace bR := bR.below b_1 bR.lt
    replace ht := ht.below b_1 (by omega)
    replace hs := hs.below b_1 (by omega)
    replace hw := hw.below b_1 (by omega)
    have z_2 := b_1.size
    replace b0 := b0.trans (b_1.mono (by omega))
    clear b_1
    have bx_0 := bx.cell (j := 0) rfl
    have bx_1 := bx.cell (j := 1) rfl
    have bx_2 := bx.cell (j := 2) rfl
    have bx_3 := bx.cell (j := 3) rfl
    have bx_z := bx.frozen
    have bx_l := bx.lt
    have bR_0 := bR.cell (j := 0) rfl
    have bR_1 := bR.cell (j := 1) rfl
    have bR_2 := bR.cell (j := 2) rfl
    have bR_3 := bR.cell (j := 3) rfl
    have bR_z := bR.frozen
    have bR_l := bR.lt
    go_wp2_with fail
    clear bx_0 bx_1 bx_2 bx_3 bx_z bx_l bR_0 bR_1 bR_2 bR_3 bR_z bR_l
    generalize hwz : World.setCell (World.setCell (World.setCell (World.setCell _ _ _) _ _) _ _) _ _ = wz_
    obtain rfl : wz_ = setL w1 (w.heap.size + 1) 0 [.int .i64 0, .slice none 0 0, .slice none 0 0, .slice none 0 0] := hwz.symm
    clear hwz
    replace bx := bx.other (b := w.heap.size + 1) (by omega) 0 [.int .i64 0, .slice none 0 0, .slice none 0 0, .slice none 0 0]
    replace ht := ht.away (g := w.heap.size + 1) (by omega) 0 [.int .i64 0, .slice none 0 0, .slice none 0 0, .slice none 0 0]
    replace hs := hs.away (g := w.heap.size + 1) (by omega) 0 [.int .i64 0, .slice none 0 0, .slice none 0 0, .slice none 0 0]
    replace hw := hw.away (g := w.heap.size + 1) (by omega) 0 [.int .i64 0, .slice none 0 0, .slice none 0 0, .slice none 0 0]
    replace b0 := setL_below b0 [.int .i64 0, .slice none 0 0, .slice none 0 0, .slice none 0 0] (w.heap.size + 1) 0 (by omega)
    have zs_3 : (setL w1 (w.heap.size + 1) 0 [.int .i64 0, .slice none 0 0, .slice none 0 0, .slice none 0 0]).heap.size = w1.heap.size := setL_size _ _ _ _
    replace bR := bR.setAll [.int .i64 0, .slice none 0 0, .slice none 0 0, .slice none 0 0] rfl
    generalize setL w1 _ 0 _ = w3 at *
    have u0_ := bR.cell (j := 0) rfl
    have u1_ := bR.cell (j := 1) rfl
    have u2_ := bR.cell (j := 2) rfl
    have u3_ := bR.cell (j := 3) rfl
    refine bodyPost_ret (by simp only [results, Tryz.results11]; simp [go_sem, u0_, u1_, u2_, u3_]; rfl) rfl ?_
    exact ⟨_, _, _, by rw [HF.out.1, HF.out.2.1], by rw [HF.out.2.2.1]; exact Ow.nil_, by rw [HF.out.2.2.2.1]; exact Ow.nil_, by rw [HF.out.2.2.2.2]; exact Ow.nil_, b0⟩
  · cases hk : inB k 0 16
    · have HF := Lib.hid (Fa.sm_no (m := m) (st := st) (ls := ls) (lw := lw) (k := k) (by simp [Fa.smOk, hg, hk]))
      rw [hg] at c1
      have c2 := fun W => l1In_any k 0 16 W
      rw [hk] at c2
      clear hg hk
      go_enter Tryz.func11, Tryz.ntmps11
      have bx_0 := bx.cell (j := 0) rfl
      have bx_1 := bx.cell (j := 1) rfl
      have bx_2 := bx.cell (j := 2) rfl
      have bx_3 := bx.cell (j := 3) rfl
      have bx_z := bx.frozen
      have bx_l := bx.lt
      have bR_0 := bR.cell (j := 0) rfl
      have bR_1 := bR.cell (j := 1) rfl
      have bR_2 := bR.cell (j := 2) rfl
      have bR_3 := bR.cell (j := 3) rfl
      have bR_z := bR.frozen
      have bR_l := bR.lt
      go_wp2_with fail
      clear hwA
      clear bx_0 bx_1 bx_2 bx_3 bx_z bx_l bR_0 bR_1 bR_2 bR_3 bR_z bR_l
      refine (c1).mono ?_; rintro q_ w1 ⟨rfl, b_1⟩
      replace bx := bx.below b_1 bx.lt
      replace bR := bR.below b_1 bR.lt
      replace ht := ht.below b_1 (by omega)
      replace hs := hs.below b_1 (by omega)
      replace hw := hw.below b_1 (by omega)
      have z_2 := b_1.size
      replace b0 := b0.trans (b_1.mono (by omega))
      clear b_1
      have bx_0 := bx.cell (j := 0) rfl
      have bx_1 := bx.cell (j := 1) rfl
      have bx_2 := bx.cell (j := 2) rfl
      have bx_3 := bx.cell (j := 3) rfl
      have bx_z := bx.frozen
      have bx_l := bx.lt
      have bR_0 := bR.cell (j := 0) rfl
      have bR_1 := bR.cell (j := 1) rfl
      have bR_2 := bR.cell (j := 2) rfl
      have bR_3 := bR.cell (j := 3) rfl
      have bR_z := bR.frozen
      have bR_l := bR.lt
      go_wp2_with fail
      clear bx_0 bx_1 bx_2 bx_3 bx_z bx_l bR_0 bR_1 bR_2 bR_3 bR_z bR_l
      refine (c2 w1).mono ?_; rintro q_ w_ ⟨rfl, rfl⟩
      have bx_0 := bx.cell (j := 0) rfl
      have bx_1 := bx.cell (j := 1) rfl
      have bx_2 := bx.cell (j := 2) rfl
      have bx_3 := bx.cell (j := 3) rfl
      have bx_z := bx.frozen
      have bx_l := bx.lt
      have bR_0 := bR.cell (j := 0) rfl
      have bR_1 := bR.cell (j := 1) rfl
      have bR_2 := bR.cell (j := 2) rfl
      have bR_3 := bR.cell (j := 3) rfl
      have bR_z := bR.frozen
      have bR_l := bR.lt
      go_wp2_with fail
      clear bx_0 bx_1 bx_2 bx_3 bx_z bx_l bR_0 bR_1 bR_2 bR_3 bR_z bR_l
      generalize hwz : World.setCell (World.setCell (World.setCell (World.setCell _ _ _) _ _) _ _) _ _ = wz_
      obtain rfl : wz_ = setL w1 (w.heap.size + 1) 0 [.int .i64 0, .slice none 0 0, .slice none 0 0, .slice none 0 0] := hwz.symm
      clear hwz
      replace bx := bx.other (b := w.heap.size + 1) (by omega) 0 [.int .i64 0, .slice none 0 0, .slice none 0 0, .slice none 0 0]
      replace ht := ht.away (g := w.heap.size + 1) (by omega) 0 [.int .i64 0, .slice none 0 0, .slice none 0 0, .slice none 0 0]
      replace hs := hs.away (g := w.heap.size + 1) (by omega) 0 [.int .i64 0, .slice none 0 0, .slice none 0 0, .slice none 0 0]
      replace hw := hw.away (g := w.heap.size + 1) (by omega) 0 [.int .i64 0, .slice none 0 0, .slice none 0 0, .slice none 0 0]
      replace b0 := setL_below b0 [.int .i64 0, .slice none 0 0, .slice none 0 0, .slice none 0 0] (w.heap.size + 1) 0 (by omega)
      have zs_3 : (setL w1 (w.heap.size + 1) 0 [.int .i64 0, .slice none 0 0, .slice none 0 0, .slice none 0 0]).heap.size = w1.heap.size := setL_size _ _ _ _
      replace bR := bR.setAll [.int .i64 0, .slice none 0 0, .slice none 0 0, .slice none 0 0] rfl
      generalize setL w1 _ 0 _ = w3 at *
      have u0_ := bR.cell (j := 0) rfl
      have u1_ := bR.cell (j := 1) rfl
      have u2_ := bR.cell (j := 2) rfl
      have u3_ := bR.cell (j := 3) rfl
      refine bodyPost_ret (by simp only [results, Tryz.results11]; simp [go_sem, u0_, u1_, u2_, u3_]; rfl) rfl ?_
      exact ⟨_, _, _, by rw [HF.out.1, HF.out.2.1], by rw [HF.out.2.2.1]; exact Ow.nil_, by rw [HF.out.2.2.2.1]; exact Ow.nil_, by rw [HF.out.2.2.2.2]; exact Ow.nil_, b0⟩
    · have HF := Lib.hid (Fa.sm_yes (m := m) (st := st) (ls := ls) (lw := lw) (k := k) (by simp [Fa.smOk, hg, hk]))
      rw [hg] at c1
      have c2 := fun W => l1In_any k 0 16 W
      rw [hk] at c2
      clear hg hk
      go_enter Tryz.func11, Tryz.ntmps11
      have bx_0 := bx.cell (j := 0) rfl
      have bx_1 := bx.cell (j := 1) rfl
      have bx_2 := bx.cell (j := 2) rfl
      have bx_3 := bx.cell (j := 3) rfl
      have bx_z := bx.frozen
      have bx_l := bx.lt
      have bR_0 := bR.cell (j := 0) rfl
      have bR_1 := bR.cell (j := 1) rfl
      have bR_2 := bR.cell (j := 2) rfl
      have bR_3 := bR.cell (j := 3) rfl
      have bR_z := bR.frozen
      have bR_l := bR.lt
      go_wp2_with fail
      clear hwA
      clear bx_0 bx_1 bx_2 bx_3 bx_z bx_l bR_0 bR_1 bR_2 bR_3 bR_z bR_l
      refine (c1).mono ?_; rintro q_ w1 ⟨rfl, b_1⟩
      replace bx := bx.below b_1 bx.lt
      replace bR := bR.below b_1 bR.lt
      replace ht := ht.below b_1 (by omega)
      replace hs := hs.below b_1 (by omega)
      replace hw := hw.below b_1 (by omega)
      have z_2 := b_1.size
      replace b0 := b0.trans (b_1.mono (by omega))
      clear b_1
      have bx_0 := bx.cell (j := 0) rfl
      have bx_1 := bx.cell (j := 1) rfl
      have bx_2 := bx.cell (j := 2) rfl
      have bx_3 := bx.cell (j := 3) rfl
      have bx_z := bx.frozen
      have bx_l := bx.lt
      have bR_0 := bR.cell (j := 0) rfl
      have bR_1 := bR.cell (j := 1) rfl
      have bR_2 := bR.cell (j := 2) rfl
      have bR_3 := bR.cell (j := 3) rfl
      have bR_z := bR.frozen
      have bR_l := bR.lt
      go_wp2_with fail
      clear bx_0 bx_1 bx_2 bx_3 bx_z bx_l bR_0 bR_1 bR_2 bR_3 bR_z bR_l
      refine (c2 w1).mono ?_; rintro q_ w_ ⟨rfl, rfl⟩
      have bx_0 := bx.cell (j := 0) rfl
      have bx_1 := bx.cell (j := 1) rfl
      have bx_2 := bx.cell (j := 2) rfl
      have bx_3 := bx.cell (j := 3) rfl
      have bx_z := bx.frozen
      have bx_l := bx.lt
      have bR_0 := bR.cell (j := 0) rfl
      have bR_1 := bR.cell (j := 1) rfl
      have bR_2 := bR.cell (j := 2) rfl
      have bR_3 := bR.cell (j := 3) rfl
      have bR_z := bR.frozen
      have bR_l := bR.lt
      go_wp2_with fail
      clear bx_0 bx_1 bx_2 bx_3 bx_z bx_l bR_0 bR_1 bR_2 bR_3 bR_z bR_l
      refine (specOwnF_any m _ _ _ st ls lw w1 ht hs hw (by omega) (by omega) (by omega) hl hl1 hl2).mono ?_; rintro q_ w3 ⟨v3, v4, v5, rfl, o3, o4, o5, b_3⟩
      replace bx := bx.below b_3 bx.lt
      replace bR := bR.below b_3 bR.lt
      replace ht := ht.below b_3 (by omega)
      replace hs := hs.below b_3 (by omega)
      replace hw := hw.below b_3 (by omega)
      have z_4 := b_3.size
      replace b0 := b0.trans (b_3.mono (by omega))
      clear b_3
      obtain ⟨A3, n3, d3, rfl, _, _, _⟩ := o3.rd.form
      obtain ⟨A4, n4, d4, rfl, _, _, _⟩ := o4.rd.form
      obtain ⟨A5, n5, d5, rfl, _, _, _⟩ := o5.rd.form
      have bx_0 := bx.cell (j := 0) rfl
      have bx_1 := bx.cell (j := 1) rfl
      have bx_2 := bx.cell (j := 2) rfl
      have bx_3 := bx.cell (j := 3) rfl
      have bx_z := bx.frozen
      have bx_l := bx.lt
      have bR_0 := bR.cell (j := 0) rfl
      have bR_1 := bR.cell (j := 1) rfl
      have bR_2 := bR.cell (j := 2) rfl
      have bR_3 := bR.cell (j := 3) rfl
      have bR_z := bR.frozen
      have bR_l := bR.lt
      go_upto_region 4 with fail
      clear bx_0 bx_1 bx_2 bx_3 bx_z bx_l bR_0 bR_1 bR_2 bR_3 bR_z bR_l
      have b_5 := (Below.refl w3.heap.size w3).alloc (Nat.le_refl _) (.cells #[.int .i64 m, .slice A3 n3 d3, .slice A4 n4 d4, .slice A5 n5 d5] 35)
      have bO := Box.new w3 #[.int .i64 m, .slice A3 n3 d3, .slice A4 n4 d4, .slice A5 n5 d5] 35 rfl
      replace bx := bx.below b_5 bx.lt
      replace bR := bR.below b_5 bR.lt
      replace ht := ht.below b_5 (by omega)
      replace hs := hs.below b_5 (by omega)
      replace hw := hw.below b_5 (by omega)
      replace o3 := o3.below b_5 (by omega)
      replace o4 := o4.below b_5 (by omega)
      replace o5 := o5.below b_5 (by omega)
      have z_6 := b_5.size
      replace b0 := b0.trans (b_5.mono (by omega))
      clear b_5
      generalize w3.alloc _ = w5 at *
      generalize w3.heap.size = g5 at *
      have bx_0 := bx.cell (j := 0) rfl
      have bx_1 := bx.cell (j := 1) rfl
      have bx_2 := bx.cell (j := 2) rfl
      have bx_3 := bx.cell (j := 3) rfl
      have bx_z := bx.frozen
      have bx_l := bx.lt
      have bR_0 := bR.cell (j := 0) rfl
      have bR_1 := bR.cell (j := 1) rfl
      have bR_2 := bR.cell (j := 2) rfl
      have bR_3 := bR.cell (j := 3) rfl
      have bR_z := bR.frozen
      have bR_l := bR.lt
      have bO_0 := bO.cell (j := 0) rfl
      have bO_1 := bO.cell (j := 1) rfl
      have bO_2 := bO.cell (j := 2) rfl
      have bO_3 := bO.cell (j := 3) rfl
      have bO_z := bO.frozen
      have bO_l := bO.lt
      go_upto_region 5 with fail
      clear bx_0 bx_1 bx_2 bx_3 bx_z bx_l bR_0 bR_1 bR_2 bR_3 bR_z bR_l bO_0 bO_1 bO_2 bO_3 bO_z bO_l
      generalize hwz : World.setCell _ _ _ = wz_
      obtain rfl : wz_ = setL w5 (g5) 0 [.int .i64 k] := hwz.symm
      clear hwz
      replace bx := bx.other (b := g5) (by omega) 0 [.int .i64 k]
      replace bR := bR.other (b := g5) (by omega) 0 [.int .i64 k]
      replace ht := ht.away (g := g5) (by omega) 0 [.int .i64 k]
      replace hs := hs.away (g := g5) (by omega) 0 [.int .i64 k]
      replace hw := hw.away (g := g5) (by omega) 0 [.int .i64 k]
      replace o3 := o3.box (g := g5) bO (by decide) 0 [.int .i64 k]
      replace o4 := o4.box (g := g5) bO (by decide) 0 [.int .i64 k]
      replace o5 := o5.box (g := g5) bO (by decide) 0 [.int .i64 k]
      replace b0 := setL_below b0 [.int .i64 k] (g5) 0 (by omega)
      have zs_7 : (setL w5 (g5) 0 [.int .i64 k]).heap.size = w5.heap.size := setL_size _ _ _ _
      replace bO := bO.set1 (j := 0) (.int .i64 k) (by simp)
      generalize setL w5 _ 0 _ = w7 at *
      have bx_0 := bx.cell (j := 0) rfl
      have bx_1 := bx.cell (j := 1) rfl
      have bx_2 := bx.cell (j := 2) rfl
      have bx_3 := bx.cell (j := 3) rfl
      have bx_z := bx.frozen
      have bx_l := bx.lt
      have bR_0 := bR.cell (j := 0) rfl
      have bR_1 := bR.cell (j := 1) rfl
      have bR_2 := bR.cell (j := 2) rfl
      have bR_3 := bR.cell (j := 3) rfl
      have bR_z := bR.frozen
      have bR_l := bR.lt
      have bO_0 := bO.cell (j := 0) rfl
      have bO_1 := bO.cell (j := 1) rfl
      have bO_2 := bO.cell (j := 2) rfl
      have bO_3 := bO.cell (j := 3) rfl
      have bO_z := bO.frozen
      have bO_l := bO.lt
      go_wp2_with fail
      clear bx_0 bx_1 bx_2 bx_3 bx_z bx_l bR_0 bR_1 bR_2 bR_3 bR_z bR_l bO_0 bO_1 bO_2 bO_3 bO_z bO_l
      generalize hwz : World.setCell (World.setCell (World.setCell (World.setCell _ _ _) _ _) _ _) _ _ = wz_
      obtain rfl : wz_ = setL w7 (w.heap.size + 1) 0 [.int .i64 k, .slice A3 n3 d3, .slice A4 n4 d4, .slice A5 n5 d5] := hwz.symm
      clear hwz
      replace bx := bx.other (b := w.heap.size + 1) (by omega) 0 [.int .i64 k, .slice A3 n3 d3, .slice A4 n4 d4, .slice A5 n5 d5]
      replace bO := bO.other (b := w.heap.size + 1) (by omega) 0 [.int .i64 k, .slice A3 n3 d3, .slice A4 n4 d4, .slice A5 n5 d5]
      replace ht := ht.away (g := w.heap.size + 1) (by omega) 0 [.int .i64 k, .slice A3 n3 d3, .slice A4 n4 d4, .slice A5 n5 d5]
      replace hs := hs.away (g := w.heap.size + 1) (by omega) 0 [.int .i64 k, .slice A3 n3 d3, .slice A4 n4 d4, .slice A5 n5 d5]
      replace hw := hw.away (g := w.heap.size + 1) (by omega) 0 [.int .i64 k, .slice A3 n3 d3, .slice A4 n4 d4, .slice A5 n5 d5]
      replace o3 := o3.box (g := w.heap.size + 1) bR (by decide) 0 [.int .i64 k, .slice A3 n3 d3, .slice A4 n4 d4, .slice A5 n5 d5]
      replace o4 := o4.box (g := w.heap.size + 1) bR (by decide) 0 [.int .i64 k, .slice A3 n3 d3, .slice A4 n4 d4, .slice A5 n5 d5]
      replace o5 := o5.box (g := w.heap.size + 1) bR (by decide) 0 [.int .i64 k, .slice A3 n3 d3, .slice A4 n4 d4, .slice A5 n5 d5]
      replace b0 := setL_below b0 [.int .i64 k, .slice A3 n3 d3, .slice A4 n4 d4, .slice A5 n5 d5] (w.heap.size + 1) 0 (by omega)
      have zs_8 : (setL w7 (w.heap.size + 1) 0 [.int .i64 k, .slice A3 n3 d3, .slice A4 n4 d4, .slice A5 n5 d5]).heap.size = w7.heap.size := setL_size _ _ _ _
      replace bR := bR.setAll [.int .i64 k, .slice A3 n3 d3, .slice A4 n4 d4, .slice A5 n5 d5] rfl
      generalize setL w7 _ 0 _ = w8 at *
      have u0_ := bR.cell (j := 0) rfl
      have u1_ := bR.cell (j := 1) rfl
      have u2_ := bR.cell (j := 2) rfl
      have u3_ := bR.cell (j := 3) rfl
      refine bodyPost_ret (by simp only [results, Tryz.results11]; simp [go_sem, u0_, u1_, u2_, u3_]; rfl) rfl ?_
      exact ⟨_, _, _, by rw [HF.out.1, HF.out.2.1], by rw [HF.out.2.2.1]; exact o3.mono (by omega) (by omega), by rw [HF.out.2.2.2.1]; exact o4.mono (by omega) (by omega), by rw [HF.out.2.2.2.2]; exact o5.mono (by omega) (by omega), b0⟩
set_option maxHeartbeats 2000000 in
theorem implSetMask_any (m : Int) (vt vs vw : Value) (st : List Int) (ls : List Sl) (lw : List Wt) (w : World) {lo hi lo2 hi2 lo3 hi3 : Nat} (h0 : Rd Nm.cells 1 w lo3 hi3 vt st) (h : Rd Sl.cells 3 w lo hi vs ls) (h2 : Rd Wt.cells 2 w lo2 hi2 vw lw) (hh0 : hi3 ≤ w.heap.size) (hh : hi ≤ w.heap.size) (hh2 : hi2 ≤ w.heap.size) (k : Int) (hl : st.length ≤ 1048576) (hl1 : ls.length ≤ 1048576) (hl2 : lw.length ≤ 1048576) :
    Calls Tryz.prog 13 #[.agg #[.int .i64 m, vt, vs, vw], .int .i64 k] w fun e w' => ∃ v0 v1 v2, e = .returned (.tuple #[.agg #[.int .i64 (Fa.smM m st ls lw k), v0, v1, v2], .bool (Fa.smOk m st ls lw k)]) ∧ Ow Nm.cells 1 3 w' w.heap.size w'.heap.size v0 (Fa.smT m st ls lw k) ∧ Ow Sl.cells 3 127 w' w.heap.size w'.heap.size v1 (Fa.smS m st ls lw k) ∧ Ow Wt.cells 2 134 w' w.heap.size w'.heap.size v2 (Fa.smW m st ls lw k) ∧ Below w.heap.size w w' := by
  have b0 : Below w.heap.size w ((w.alloc (.cells #[.int .i64 m, vt, vs, vw] 35)).alloc (.cells #[.int .i64 0, .slice none 0 0, .slice none 0 0, .slice none 0 0] 35)) := ((Below.refl w.heap.size w).alloc (Nat.le_refl _) _).alloc (by simp) _
  have z0 : ((w.alloc (.cells #[.int .i64 m, vt, vs, vw] 35)).alloc (.cells #[.int .i64 0, .slice none 0 0, .slice none 0 0, .slice none 0 0] 35)).heap.size = w.heap.size + 2 := by simp
  have bx := Box.new w #[.int .i64 m, vt, vs, vw] 35 rfl
  have bR := Box.new (g := w.heap.size + 1) (w.alloc (.cells #[.int .i64 m, vt, vs, vw] 35)) #[.int .i64 0, .slice none 0 0, .slice none 0 0, .slice none 0 0] 35 (by simp)
  replace bx := bx.below ((Below.refl _ (w.alloc (.cells #[.int .i64 m, vt, vs, vw] 35))).alloc (Nat.le_refl _) (.cells #[.int .i64 0, .slice none 0 0, .slice none 0 0, .slice none 0 0] 35)) bx.lt
  have ht := h0.below b0 hh0
  have hs := h.below b0 hh
  have hw := h2.below b0 hh2
  have hv0_ := h0.form
  have hv_ := h.form
  have hv2_ := h2.form
  clear h0 h h2
  generalize hwA : (w.alloc (.cells #[.int .i64 m, vt, vs, vw] 35)).alloc (.cells #[.int .i64 0, .slice none 0 0, .slice none 0 0, .slice none 0 0] 35) = wA at *
  obtain ⟨At, nt, dt, rfl, _, _, _⟩ := hv0_
  obtain ⟨A0, n0, d0, rfl, _, _, _⟩ := hv_
  obtain ⟨A1, n1, d1, rfl, _, _, _⟩ := hv2_
  have c1 := implIsInterface_any m _ _ _ st ls lw wA ht hs hw (by omega) (by omega) (by omega) hl
  cases hg : Fa.good m st ls lw
  · have HF := Lib.hid (Fa.sm_no (m := m) (st := st) (ls := ls) (lw := lw) (k := k) (by simp [Fa.smOk, hg]))
    rw [hg] at c1
    clear hg
    go_enter Tryz.func13, Tryz.ntmps13
    have bx_0 := bx.cell (j := 0) rfl
    have bx_1 := bx.cell (j := 1) rfl
    have bx_2 := bx.cell (j := 2) rfl
    have bx_3 := bx.cell (j := 3) rfl
    have bx_z := bx.frozen
    have bx_l := bx.lt
    have bR_0 := bR.cell (j := 0) rfl
    have bR_1 := bR.cell (j := 1) rfl
    have bR_2 := bR.cell (j := 2) rfl
    have bR_3 := bR.cell (j := 3) rfl
    have bR_z := bR.frozen
    have bR_l := bR.lt
    go_wp2_with fail
    clear hwA
    clear bx_0 bx_1 bx_2 bx_3 bx_z bx_l bR_0 bR_1 bR_2 bR_3 bR_z bR_l
    refine (c1).mono ?_; rintro q_ w1 ⟨rfl, b_1⟩
    replace bx := bx.below b_1 bx.lt
    replace bR := bR.below b_1 bR.lt
    replace ht := ht.below b_1 (by omega)
    replace hs := hs.below b_1 (by omega)
    replace hw := hw.below b_1 (by omega)
    have z_2 := b_1.size
    replace b0 := b0.trans (b_1.mono (by omega))
    clear b_1
    have bx_0 := bx.cell (j := 0) rfl
    have bx_1 := bx.cell (j := 1) rfl
    have bx_2 := bx.cell (j := 2) rfl
    have bx_3 := bx.cell (j := 3) rfl
    have bx_z := bx.frozen
    have bx_l := bx.lt
    have bR_0 := bR.cell (j := 0) rfl
    have bR_1 := bR.cell (j := 1) rfl
    have bR_2 := bR.cell (j := 2) rfl
    have bR_3 := bR.cell (j := 3) rfl
    have bR_z := bR.frozen
    have bR_l := bR.lt
    go_wp2_with fail
    clear bx_0 bx_1 bx_2 bx_3 bx_z bx_l bR_0 bR_1 bR_2 bR_3 bR_z bR_l
    generalize hwz : World.setCell (World.setCell (World.setCell (World.setCell _ _ _) _ _) _ _) _ _ = wz_
    obtain rfl : wz_ = setL w1 (w.heap.size + 1) 0 [.int .i64 0, .slice none 0 0, .slice none 0 0, .slice none 0 0] := hwz.symm
    clear hwz
    replace bx := bx.other (b := w.heap.size + 1) (by omega) 0 [.int .i64 0, .slice none 0 0, .slice none 0 0, .slice none 0 0]
    replace ht := ht.away (g := w.heap.size + 1) (by omega) 0 [.int .i64 0, .slice none 0 0, .slice none 0 0, .slice none 0 0]
    replace hs := hs.away (g := w.heap.size + 1) (by omega) 0 [.int .i64 0, .slice none 0 0, .slice none 0 0, .slice none 0 0]
    replace hw := hw.away (g := w.heap.size + 1) (by omega) 0 [.int .i64 0, .slice none 0 0, .slice none 0 0, .slice none 0 0]
    replace b0 := setL_below b0 [.int .i64 0, .slice none 0 0, .slice none 0 0, .slice none 0 0] (w.heap.size + 1) 0 (by omega)
    have zs_3 : (setL w1 (w.heap.size + 1) 0 [.int .i64 0, .slice none 0 0, .slice none 0 0, .slice none 0 0]).heap.size = w1.heap.size := setL_size _ _ _ _
    replace bR := bR.setAll [.int .i64 0, .slice none 0 0, .slice none 0 0, .slice none 0 0] rfl
    generalize setL w1 _ 0 _ = w3 at *
    have u0_ := bR.cell (j := 0) rfl
    have u1_ := bR.cell (j := 1) rfl
    have u2_ := bR.cell (j := 2) rfl
    have u3_ := bR.cell (j := 3) rfl
    refine bodyPost_ret (by simp only [results, Tryz.results13]; simp [go_sem, u0_, u1_, u2_, u3_]; rfl) rfl ?_
    exact ⟨_, _, _, by rw [HF.out.1, HF.out.2.1], by rw [HF.out.2.2.1]; exact Ow.nil_, by rw [HF.out.2.2.2.1]; exact Ow.nil_, by rw [HF.out.2.2.2.2]; exact Ow.nil_, b0⟩
  · cases hk : inB k 0 16
    · have HF := Lib.hid (Fa.sm_no (m := m) (st := st) (ls := ls) (lw := lw) (k := k) (by simp [Fa.smOk, hg, hk]))
      rw [hg] at c1
      have c2 := fun W => isMask_any k W
      rw [hk] at c2
      clear hg hk
      go_enter Tryz.func13, Tryz.ntmps13
      have bx_0 := bx.cell (j := 0) rfl
      have bx_1 := bx.cell (j := 1) rfl
      have bx_2 := bx.cell (j := 2) rfl
      have bx_3 := bx.cell (j := 3) rfl
      have bx_z := bx.frozen
      have bx_l := bx.lt
      have bR_0 := bR.cell (j := 0) rfl
      have bR_1 := bR.cell (j := 1) rfl
      have bR_2 := bR.cell (j := 2) rfl
      have bR_3 := bR.cell (j := 3) rfl
      have bR_z := bR.frozen
      have bR_l := bR.lt
      go_wp2_with fail
      clear hwA
      clear bx_0 bx_1 bx_2 bx_3 bx_z bx_l bR_0 bR_1 bR_2 bR_3 bR_z bR_l
      refine (c1).mono ?_; rintro q_ w1 ⟨rfl, b_1⟩
      replace bx := bx.below b_1 bx.lt
      replace bR := bR.below b_1 bR.lt
      replace ht := ht.below b_1 (by omega)
      replace hs := hs.below b_1 (by omega)
      replace hw := hw.below b_1 (by omega)
      have z_2 := b_1.size
      replace b0 := b0.trans (b_1.mono (by omega))
      clear b_1
      have bx_0 := bx.cell (j := 0) rfl
      have bx_1 := bx.cell (j := 1) rfl
      have bx_2 := bx.cell (j := 2) rfl
      have bx_3 := bx.cell (j := 3) rfl
      have bx_z := bx.frozen
      have bx_l := bx.lt
      have bR_0 := bR.cell (j := 0) rfl
      have bR_1 := bR.cell (j := 1) rfl
      have bR_2 := bR.cell (j := 2) rfl
      have bR_3 := bR.cell (j := 3) rfl
      have bR_z := bR.frozen
      have bR_l := bR.lt
      go_wp2_with fail
      clear bx_0 bx_1 bx_2 bx_3 bx_z bx_l bR_0 bR_1 bR_2 bR_3 bR_z bR_l
      refine (c2 w1).mono ?_; rintro q_ w_ ⟨rfl, rfl⟩
      have bx_0 := bx.cell (j := 0) rfl
      have bx_1 := bx.cell (j := 1) rfl
      have bx_2 := bx.cell (j := 2) rfl
      have bx_3 := bx.cell (j := 3) rfl
      have bx_z := bx.frozen
      have bx_l := bx.lt
      have bR_0 := bR.cell (j := 0) rfl
      have bR_1 := bR.cell (j := 1) rfl
      have bR_2 := bR.cell (j := 2) rfl
      have bR_3 := bR.cell (j := 3) rfl
      have bR_z := bR.frozen
      have bR_l := bR.lt
      go_wp2_with fail
      clear bx_0 bx_1 bx_2 bx_3 bx_z bx_l bR_0 bR_1 bR_2 bR_3 bR_z bR_l
      generalize hwz : World.setCell (World.setCell (World.setCell (World.setCell _ _ _) _ _) _ _) _ _ = wz_
      obtain rfl : wz_ = setL w1 (w.heap.size + 1) 0 [.int .i64 0, .slice none 0 0, .slice none 0 0, .slice none 0 0] := hwz.symm
      clear hwz
      replace bx := bx.other (b := w.heap.size + 1) (by omega) 0 [.int .i64 0, .slice none 0 0, .slice none 0 0, .slice none 0 0]
      replace ht := ht.away (g := w.heap.size + 1) (by omega) 0 [.int .i64 0, .slice none 0 0, .slice none 0 0, .slice none 0 0]
      replace hs := hs.away (g := w.heap.size + 1) (by omega) 0 [.int .i64 0, .slice none 0 0, .slice none 0 0, .slice none 0 0]
      replace hw := hw.away (g := w.heap.size + 1) (by omega) 0 [.int .i64 0, .slice none 0 0, .slice none 0 0, .slice none 0 0]
      replace b0 := setL_below b0 [.int .i64 0, .slice none 0 0, .slice none 0 0, .slice none 0 0] (w.heap.size + 1) 0 (by omega)
      have zs_3 : (setL w1 (w.heap.size + 1) 0 [.int .i64 0, .slice none 0 0, .slice none 0 0, .slice none 0 0]).heap.size = w1.heap.size := setL_size _ _ _ _
      replace bR := bR.setAll [.int .i64 0, .slice none 0 0, .slice none 0 0, .slice none 0 0] rfl
      generalize setL w1 _ 0 _ = w3 at *
      have u0_ := bR.cell (j := 0) rfl
      have u1_ := bR.cell (j := 1) rfl
      have u2_ := bR.cell (j := 2) rfl
      have u3_ := bR.cell (j := 3) rfl
      refine bodyPost_ret (by simp only [results, Tryz.results13]; simp [go_sem, u0_, u1_, u2_, u3_]; rfl) rfl ?_
      exact ⟨_, _, _, by rw [HF.out.1, HF.out.2.1], by rw [HF.out.2.2.1]; exact Ow.nil_, by rw [HF.out.2.2.2.1]; exact Ow.nil_, by rw [HF.out.2.2.2.2]; exact Ow.nil_, b0⟩
    · have HF := Lib.hid (Fa.sm_yes (m := m) (st := st) (ls := ls) (lw := lw) (k := k) (by simp [Fa.smOk, hg, hk]))
      rw [hg] at c1
      have c2 := fun W => isMask_any k W
      rw [hk] at c2
      clear hg hk
      go_enter Tryz.func13, Tryz.ntmps13
      have bx_0 := bx.cell (j := 0) rfl
      have bx_1 := bx.cell (j := 1) rfl
      have bx_2 := bx.cell (j := 2) rfl
      have bx_3 := bx.cell (j := 3) rfl
      have bx_z := bx.frozen
      have bx_l := bx.lt
      have bR_0 := bR.cell (j := 0) rfl
      have bR_1 := bR.cell (j := 1) rfl
      have bR_2 := bR.cell (j := 2) rfl
      have bR_3 := bR.cell (j := 3) rfl
      have bR_z := bR.frozen
      have bR_l := bR.lt
      go_wp2_with fail
      clear hwA
      clear bx_0 bx_1 bx_2 bx_3 bx_z bx_l bR_0 bR_1 bR_2 bR_3 bR_z bR_l
      refine (c1).mono ?_; rintro q_ w1 ⟨rfl, b_1⟩
      replace bx := bx.below b_1 bx.lt
      replace bR := bR.below b_1 bR.lt
      replace ht := ht.below b_1 (by omega)
      replace hs := hs.below b_1 (by omega)
      replace hw := hw.below b_1 (by omega)
      have z_2 := b_1.size
      replace b0 := b0.trans (b_1.mono (by omega))
      clear b_1
      have bx_0 := bx.cell (j := 0) rfl
      have bx_1 := bx.cell (j := 1) rfl
      have bx_2 := bx.cell (j := 2) rfl
      have bx_3 := bx.cell (j := 3) rfl
      have bx_z := bx.frozen
      have bx_l := bx.lt
      have bR_0 := bR.cell (j := 0) rfl
      have bR_1 := bR.cell (j := 1) rfl
      have bR_2 := bR.cell (j := 2) rfl
      have bR_3 := bR.cell (j := 3) rfl
      have bR_z := bR.frozen
      have bR_l := bR.lt
      go_wp2_with fail
      clear bx_0 bx_1 bx_2 bx_3 bx_z bx_l bR_0 bR_1 bR_2 bR_3 bR_z bR_l
      refine (c2 w1).mono ?_; rintro q_ w_ ⟨rfl, rfl⟩
      have bx_0 := bx.cell (j := 0) rfl
      have bx_1 := bx.cell (j := 1) rfl
      have bx_2 := bx.cell (j := 2) rfl
      have bx_3 := bx.cell (j := 3) rfl
      have bx_z := bx.frozen
      have bx_l := bx.lt
      have bR_0 := bR.cell (j := 0) rfl
      have bR_1 := bR.cell (j := 1) rfl
      have bR_2 := bR.cell (j := 2) rfl
      have bR_3 := bR.cell (j := 3) rfl
      have bR_z := bR.frozen
      have bR_l := bR.lt
      go_wp2_with fail
      clear bx_0 bx_1 bx_2 bx_3 bx_z bx_l bR_0 bR_1 bR_2 bR_3 bR_z bR_l
      refine (implSetF_any m _ _ _ st ls lw w1 ht hs hw (by omega) (by omega) (by omega) k hl hl1 hl2).mono ?_; rintro q_ w3 ⟨v3, v4, v5, rfl, o3, o4, o5, b_3⟩
      replace bx := bx.below b_3 bx.lt
      replace bR := bR.below b_3 bR.lt
      replace ht := ht.below b_3 (by omega)
      replace hs := hs.below b_3 (by omega)
      replace hw := hw.below b_3 (by omega)
      have z_4 := b_3.size
      replace b0 := b0.trans (b_3.mono (by omega))
      clear b_3
      obtain ⟨A3, n3, d3, rfl, _, _, _⟩ := o3.rd.form
      obtain ⟨A4, n4, d4, rfl, _, _, _⟩ := o4.rd.form
      obtain ⟨A5, n5, d5, rfl, _, _, _⟩ := o5.rd.form
      have bx_0 := bx.cell (j := 0) rfl
      have bx_1 := bx.cell (j := 1) rfl
      have bx_2 := bx.cell (j := 2) rfl
      have bx_3 := bx.cell (j := 3) rfl
      have bx_z := bx.frozen
      have bx_l := bx.lt
      have bR_0 := bR.cell (j := 0) rfl
      have bR_1 := bR.cell (j := 1) rfl
      have bR_2 := bR.cell (j := 2) rfl
      have bR_3 := bR.cell (j := 3) rfl
      have bR_z := bR.frozen
      have bR_l := bR.lt
      go_wp2_with fail
      clear bx_0 bx_1 bx_2 bx_3 bx_z bx_l bR_0 bR_1 bR_2 bR_3 bR_z bR_l
      generalize hwz : World.setCell (World.setCell (World.setCell (World.setCell _ _ _) _ _) _ _) _ _ = wz_
      obtain rfl : wz_ = setL w3 (w.heap.size + 1) 0 [.int .i64 k, .slice A3 n3 d3, .slice A4 n4 d4, .slice A5 n5 d5] := hwz.symm
      clear hwz
      replace bx := bx.other (b := w.heap.size + 1) (by omega) 0 [.int .i64 k, .slice A3 n3 d3, .slice A4 n4 d4, .slice A5 n5 d5]
      replace ht := ht.away (g := w.heap.size + 1) (by omega) 0 [.int .i64 k, .slice A3 n3 d3, .slice A4 n4 d4, .slice A5 n5 d5]
      replace hs := hs.away (g := w.heap.size + 1) (by omega) 0 [.int .i64 k, .slice A3 n3 d3, .slice A4 n4 d4, .slice A5 n5 d5]
      replace hw := hw.away (g := w.heap.size + 1) (by omega) 0 [.int .i64 k, .slice A3 n3 d3, .slice A4 n4 d4, .slice A5 n5 d5]
      replace o3 := o3.box (g := w.heap.size + 1) bR (by decide) 0 [.int .i64 k, .slice A3 n3 d3, .slice A4 n4 d4, .slice A5 n5 d5]
      replace o4 := o4.box (g := w.heap.size + 1) bR (by decide) 0 [.int .i64 k, .slice A3 n3 d3, .slice A4 n4 d4, .slice A5 n5 d5]
      replace o5 := o5.box (g := w.heap.size + 1) bR (by decide) 0 [.int .i64 k, .slice A3 n3 d3, .slice A4 n4 d4, .slice A5 n5 d5]
      replace b0 := setL_below b0 [.int .i64 k, .slice A3 n3 d3, .slice A4 n4 d4, .slice A5 n5 d5] (w.heap.size + 1) 0 (by omega)
      have zs_5 : (setL w3 (w.heap.size + 1) 0 [.int .i64 k, .slice A3 n3 d3, .slice A4 n4 d4, .slice A5 n5 d5]).heap.size = w3.heap.size := setL_size _ _ _ _
      replace bR := bR.setAll [.int .i64 k, .slice A3 n3 d3, .slice A4 n4 d4, .slice A5 n5 d5] rfl
      generalize setL w3 _ 0 _ = w5 at *
      have u0_ := bR.cell (j := 0) rfl
      have u1_ := bR.cell (j := 1) rfl
      have u2_ := bR.cell (j := 2) rfl
      have u3_ := bR.cell (j := 3) rfl
      refine bodyPost_ret (by simp only [results, Tryz.results13]; simp [go_sem, u0_, u1_, u2_, u3_]; rfl) rfl ?_
      exact ⟨_, _, _, by rw [HF.out.1, HF.out.2.1], by rw [HF.out.2.2.1]; exact o3.mono (by omega) (by omega), by rw [HF.out.2.2.2.1]; exact o4.mono (by omega) (by omega), by rw [HF.out.2.2.2.2]; exact o5.mono (by omega) (by omega), b0⟩

end Go.Proofs.YtengaccnncnipaaGreat
