/- Raising an interrupt of an interface, in the program and in the reference. Condition: at most 1048576 numbers, slots and waiters each. -/
import Derived.Test.YtengaccnncnipaaGreatFaSet
import Derived.Test.YtengaccnncnipaaGreatQuOff
namespace Go.Proofs.YtengaccnncnipaaGreat
open Go.RowKit Go.ChangeShapes Go.WideShapes Go.Deep

def Fa.raOk (m : Int) (st : List Int) (ls : List Sl) (lw : List Wt) (i p : Int) : Bool := Fa.good m st ls lw && (inB i 0 7 && inB p 0 15)
def Fa.raM (m : Int) (st : List Int) (ls : List Sl) (lw : List Wt) (i p : Int) : Int := if Fa.raOk m st ls lw i p then m else 0
def Fa.raT (m : Int) (st : List Int) (ls : List Sl) (lw : List Wt) (i p : Int) : List Int := if Fa.raOk m st ls lw i p then st else []
def Fa.raS (m : Int) (st : List Int) (ls : List Sl) (lw : List Wt) (i p : Int) : List Sl := if Fa.raOk m st ls lw i p then (Qu.ofP ls lw i p).1 else []
def Fa.raW (m : Int) (st : List Int) (ls : List Sl) (lw : List Wt) (i p : Int) : List Wt := if Fa.raOk m st ls lw i p then (Qu.ofP ls lw i p).2 else []
theorem Fa.ra_no {m : Int} {st : List Int} {ls : List Sl} {lw : List Wt} {i p : Int} (h : Fa.raOk m st ls lw i p = false) : Fa.raOk m st ls lw i p = false ∧ Fa.raM m st ls lw i p = 0 ∧ Fa.raT m st ls lw i p = [] ∧ Fa.raS m st ls lw i p = [] ∧ Fa.raW m st ls lw i p = [] := by simp [Fa.raM, Fa.raT, Fa.raS, Fa.raW, h]
theorem Fa.ra_yes {m : Int} {st : List Int} {ls : List Sl} {lw : List Wt} {i p : Int} (h : Fa.raOk m st ls lw i p = true) : Fa.raOk m st ls lw i p = true ∧ Fa.raM m st ls lw i p = m ∧ Fa.raT m st ls lw i p = st ∧ Fa.raS m st ls lw i p = (Qu.ofP ls lw i p).1 ∧ Fa.raW m st ls lw i p = (Qu.ofP ls lw i p).2 := by simp [Fa.raM, Fa.raT, Fa.raS, Fa.raW, h]
theorem Fa.good_parts {m : Int} {st : List Int} {ls : List Sl} {lw : List Wt} (h : Fa.good m st ls lw = true) : Qu.parts ls lw = true := by
  obtain ⟨_, hq, _⟩ := Fa.good_iff.1 h
  exact (Qu.good_parts hq).1

set_option maxHeartbeats 2000000 in
theorem specRaise_in (m : Int) (vt vs vw : Value) (st : List Int) (ls : List Sl) (lw : List Wt) (w : World) {lo hi lo2 hi2 lo3 hi3 : Nat} (h0 : Rd Nm.cells 1 w lo3 hi3 vt st) (h : Rd Sl.cells 3 w lo hi vs ls) (h2 : Rd Wt.cells 2 w lo2 hi2 vw lw) (hh0 : hi3 ≤ w.heap.size) (hh : hi ≤ w.heap.size) (hh2 : hi2 ≤ w.heap.size) (i p : Int) (hl : st.length ≤ 1048576) (hp : Qu.parts ls lw = true) (hir : inB i 0 7 = true) (hpr : inB p 0 15 = true) :
    Calls Tryz.prog 68 #[.agg #[.int .i64 m, vt, vs, vw], .int .i64 i, .int .i64 p] w fun e w' => ∃ v0 v1 v2, e = .returned (.agg #[.int .i64 m, v0, v1, v2]) ∧ Ow Nm.cells 1 3 w' w.heap.size w'.heap.size v0 (st) ∧ Ow Sl.cells 3 127 w' w.heap.size w'.heap.size v1 ((Qu.ofP ls lw i p).1) ∧ Ow Wt.cells 2 134 w' w.heap.size w'.heap.size v2 ((Qu.ofP ls lw i p).2) ∧ Below w.heap.size w w' := by
  have b0 : Below w.heap.size w ((w.alloc (.cells #[.int .i64 m, vt, vs, vw] 35)).alloc (.cells #[.int .i64 0, .slice none 0 0, .slice none 0 0, .slice none 0 0] 35)) := ((Below.refl w.heap.size w).alloc (Nat.le_refl _) _).alloc (by simp) _
  have z0 : ((w.alloc (.cells #[.int .i64 m, vt, vs, vw] 35)).alloc (.cells #[.int .i64 0, .slice none 0 0, .slice none 0 0, .slice none 0 0] 35)).heap.size = w.heap.size + 2 := by simp
  have bx := Box.new w #[.int .i64 m, vt, vs, vw] 35 rfl
  have bR := Box.new (g := w.heap.size + 1) (w.alloc (.cells #[.int .i64 m, vt, vs, vw] 35)) #[.int .i64 0, .slice none 0 0, .slice none 0 0, .slice none 0 0] 35 (by simp)
  replace bx := bx.below ((Below.refl _ (w.alloc (.cells #[.int .i64 m, vt, vs, vw] 35))).alloc (Nat.le_refl _) (.cells #[.int .i64 0, .slice none 0 0, .slice none 0 0, .slice none 0 0] 35)) bx.lt
  have ht := h0.below b0 hh0
  have hs := h.below b0 hh
  have hw := h2.below b0 hh2
  have hv0_ := h0.form
  have hv_ := h.form
  have hv2_ := h2.form
  clear h0 h h2
  generalize hwA : (w.alloc (.cells #[.int .i64 m, vt, vs, vw] 35)).alloc (.cells #[.int .i64 0, .slice none 0 0, .slice none 0 0, .slice none 0 0] 35) = wA at *
  obtain ⟨At, nt, dt, rfl, _, _, _⟩ := hv0_
  obtain ⟨A0, n0, d0, rfl, _, _, _⟩ := hv_
  obtain ⟨A1, n1, d1, rfl, _, _, _⟩ := hv2_
  have HP := Lib.hid hp
  have HI := Lib.hid hir
  have HR := Lib.hid hpr
  clear hp hir hpr
  go_enter Tryz.func68, Tryz.ntmps68
  have bx_0 := bx.cell (j := 0) rfl
  have bx_1 := bx.cell (j := 1) rfl
  have bx_2 := bx.cell (j := 2) rfl
  have bx_3 := bx.cell (j := 3) rfl
  have bx_z := bx.frozen
  have bx_l := bx.lt
  have bR_0 := bR.cell (j := 0) rfl
  have bR_1 := bR.cell (j := 1) rfl
  have bR_2 := bR.cell (j := 2) rfl
  have bR_3 := bR.cell (j := 3) rfl
  have bR_z := bR.frozen
  have bR_l := bR.lt
  go_upto_region 1 with fail
  clear hwA
  clear bx_0 bx_1 bx_2 bx_3 bx_z bx_l bR_0 bR_1 bR_2 bR_3 bR_z bR_l
  refine wp_region_held_drew (S := fun W => Box W (w.heap.size) 35 [.int .i64 m, .slice At nt dt, .slice A0 n0 d0, .slice A1 n1 d1]) (by kernel_rfl) (show (fun (W : World) => Box W (w.heap.size) 35 [.int .i64 m, .slice At nt dt, .slice A0 n0 d0, .slice A1 n1 d1]) wA.drew from bx) (fun hHeld => ?_)
  refine wpAnyH_take (i := 0) (v := .pointer (some ⟨w.heap.size, 0, none⟩)) rfl (by kernel_rfl) (by kernel_rfl) (by kernel_rfl) (fun _ _ _ h => h) (Or.inl ⟨by rfl, by intro w hSw; have hS0 := hSw; have y00 := hS0.cell (j := 0) rfl; have y01 := hS0.cell (j := 1) rfl; have y02 := hS0.cell (j := 2) rfl; have y03 := hS0.cell (j := 3) rfl; go_simp⟩) hHeld ?_
  refine wpAnyH_take (i := 1) (v := .int .i64 m) rfl (by kernel_rfl) (by kernel_rfl) (by kernel_rfl) (fun _ _ _ h => h) (Or.inl ⟨by rfl, by intro w hSw; have hS0 := hSw; have y00 := hS0.cell (j := 0) rfl; have y01 := hS0.cell (j := 1) rfl; have y02 := hS0.cell (j := 2) rfl; have y03 := hS0.cell (j := 3) rfl; go_simp⟩) hHeld ?_
  refine wpAnyH_take (i := 2) (v := .pointer (some ⟨w.heap.size, 1, none⟩)) rfl (by kernel_rfl) (by kernel_rfl) (by kernel_rfl) (fun _ _ _ h => h) (Or.inl ⟨by rfl, by intro w hSw; have hS0 := hSw; have y00 := hS0.cell (j := 0) rfl; have y01 := hS0.cell (j := 1) rfl; have y02 := hS0.cell (j := 2) rfl; have y03 := hS0.cell (j := 3) rfl; go_simp⟩) hHeld ?_
  refine wpAnyH_take (i := 3) (v := .slice At nt dt) rfl (by kernel_rfl) (by kernel_rfl) (by kernel_rfl) (fun _ _ _ h => h) (Or.inl ⟨by rfl, by intro w hSw; have hS0 := hSw; have y00 := hS0.cell (j := 0) rfl; have y01 := hS0.cell (j := 1) rfl; have y02 := hS0.cell (j := 2) rfl; have y03 := hS0.cell (j := 3) rfl; go_simp⟩) hHeld ?_
  refine wpAnyH_take (i := 5) (v := .pointer (some ⟨w.heap.size, 2, none⟩)) rfl (by kernel_rfl) (by kernel_rfl) (by kernel_rfl) (fun _ _ _ h => h) (Or.inl ⟨by rfl, by intro w hSw; have hS0 := hSw; have y00 := hS0.cell (j := 0) rfl; have y01 := hS0.cell (j := 1) rfl; have y02 := hS0.cell (j := 2) rfl; have y03 := hS0.cell (j := 3) rfl; go_simp⟩) hHeld ?_
  refine wpAnyH_take (i := 6) (v := .agg #[.slice A0 n0 d0, .slice A1 n1 d1]) rfl (by kernel_rfl) (by kernel_rfl) (by kernel_rfl) (fun _ _ _ h => h) (Or.inl ⟨by rfl, by intro w hSw; have hS0 := hSw; have y00 := hS0.cell (j := 0) rfl; have y01 := hS0.cell (j := 1) rfl; have y02 := hS0.cell (j := 2) rfl; have y03 := hS0.cell (j := 3) rfl; go_simp⟩) hHeld ?_
  refine wpAnyH_take (i := 7) (v := .int .i64 i) rfl (by kernel_rfl) (by kernel_rfl) (by kernel_rfl) (fun _ _ _ h => h) (Or.inl ⟨by rfl, by intro w hSw; have hS0 := hSw; have y00 := hS0.cell (j := 0) rfl; have y01 := hS0.cell (j := 1) rfl; have y02 := hS0.cell (j := 2) rfl; have y03 := hS0.cell (j := 3) rfl; go_simp⟩) hHeld ?_
  refine wpAnyH_take (i := 8) (v := .int .i64 p) rfl (by kernel_rfl) (by kernel_rfl) (by kernel_rfl) (fun _ _ _ h => h) (Or.inl ⟨by rfl, by intro w hSw; have hS0 := hSw; have y00 := hS0.cell (j := 0) rfl; have y01 := hS0.cell (j := 1) rfl; have y02 := hS0.cell (j := 2) rfl; have y03 := hS0.cell (j := 3) rfl; go_simp⟩) hHeld ?_
  clear hHeld
  refine held_gen (F := fun W' => Below wA.heap.size wA W') (Below.refl wA.heap.size wA).drew ?_
  rintro w1 b_1
  replace bx := bx.below b_1 bx.lt
  replace bR := bR.below b_1 bR.lt
  replace ht := ht.below b_1 (by omega)
  replace hs := hs.below b_1 (by omega)
  replace hw := hw.below b_1 (by omega)
  have z_2 := b_1.size
  replace b0 := b0.trans (b_1.mono (by omega))
  clear b_1
  refine wpAnyH_ready (rs := [4]) (by kernel_rfl) (by decide) ?_
  refine AllReadyH.cons rfl (fun K3 hK3 => ?_) AllReadyH.nil
  go_simp
  refine (l1Own_any _ st w1 ht (by omega) hl).mono ?_; rintro q_ w4 ⟨v3, rfl, o3, b_4⟩
  replace bx := bx.below b_4 bx.lt
  replace bR := bR.below b_4 bR.lt
  replace ht := ht.below b_4 (by omega)
  replace hs := hs.below b_4 (by omega)
  replace hw := hw.below b_4 (by omega)
  have z_5 := b_4.size
  replace b0 := b0.trans (b_4.mono (by omega))
  clear b_4
  obtain ⟨A3, n3, d3, rfl, _, _, _⟩ := o3.rd.form
  refine hK3.out _ _ bx (fun _ => ?_)
  refine wpAnyH_ready (rs := [9]) (by kernel_rfl) (by decide) ?_
  refine AllReadyH.cons rfl (fun K6 hK6 => ?_) AllReadyH.nil
  go_simp
  refine (specOffer_in _ _ ls lw i p w4 hs hw (by omega) (by omega) HP.out HI.out HR.out).mono ?_; rintro q_ w7 ⟨v4, v5, rfl, o4, o5, b_7⟩
  replace bx := bx.below b_7 bx.lt
  replace bR := bR.below b_7 bR.lt
  replace ht := ht.below b_7 (by omega)
  replace hs := hs.below b_7 (by omega)
  replace hw := hw.below b_7 (by omega)
  replace o3 := o3.below b_7 (by omega)
  have z_8 := b_7.size
  replace b0 := b0.trans (b_7.mono (by omega))
  clear b_7
  obtain ⟨A4, n4, d4, rfl, _, _, _⟩ := o4.rd.form
  obtain ⟨A5, n5, d5, rfl, _, _, _⟩ := o5.rd.form
  refine hK6.out _ _ bx (fun _ => ?_)
  refine wpAnyH_ready (rs := [10]) (by kernel_rfl) (by decide) ?_
  refine AllReadyH.cons rfl (fun K9 hK9 => ?_) AllReadyH.nil
  go_simp
  refine hK9.out _ _ bx (fun _ => ?_)
  refine wpAnyH_ready (rs := [11]) (by kernel_rfl) (by decide) ?_
  refine AllReadyH.cons rfl (fun K10 hK10 => ?_) AllReadyH.nil
  have bx_0 := bx.cell (j := 0) rfl
  have bx_1 := bx.cell (j := 1) rfl
  have bx_2 := bx.cell (j := 2) rfl
  have bx_3 := bx.cell (j := 3) rfl
  have bx_z := bx.frozen
  have bx_l := bx.lt
  have bR_0 := bR.cell (j := 0) rfl
  have bR_1 := bR.cell (j := 1) rfl
  have bR_2 := bR.cell (j := 2) rfl
  have bR_3 := bR.cell (j := 3) rfl
  have bR_z := bR.frozen
  have bR_l := bR.lt
  go_simp
  clear bx_0 bx_1 bx_2 bx_3 bx_z bx_l bR_0 bR_1 bR_2 bR_3 bR_z bR_l
  generalize hwz : World.setCell (World.setCell (World.setCell (World.setCell _ _ _) _ _) _ _) _ _ = wz_
  obtain rfl : wz_ = setL w7 (w.heap.size + 1) 0 [.int .i64 m, .slice A3 n3 d3, .slice A4 n4 d4, .slice A5 n5 d5] := hwz.symm
  clear hwz
  replace bx := bx.other (b := w.heap.size + 1) (by omega) 0 [.int .i64 m, .slice A3 n3 d3, .slice A4 n4 d4, .slice A5 n5 d5]
  replace ht := ht.away (g := w.heap.size + 1) (by omega) 0 [.int .i64 m, .slice A3 n3 d3, .slice A4 n4 d4, .slice A5 n5 d5]
  replace hs := hs.away (g := w.heap.size + 1) (by omega) 0 [.int .i64 m, .slice A3 n3 d3, .slice A4 n4 d4, .slice A5 n5 d5]
  replace hw := hw.away (g := w.heap.size + 1) (by omega) 0 [.int .i64 m, .slice A3 n3 d3, .slice A4 n4 d4, .slice A5 n5 d5]
  replace o3 := o3.box (g := w.heap.size + 1) bR (by decide) 0 [.int .i64 m, .slice A3 n3 d3, .slice A4 n4 d4, .slice A5 n5 d5]
  replace o4 := o4.box (g := w.heap.size + 1) bR (by decide) 0 [.int .i64 m, .slice A3 n3 d3, .slice A4 n4 d4, .slice A5 n5 d5]
  replace o5 := o5.box (g := w.heap.size + 1) bR (by decide) 0 [.int .i64 m, .slice A3 n3 d3, .slice A4 n4 d4, .slice A5 n5 d5]
  replace b0 := setL_below b0 [.int .i64 m, .slice A3 n3 d3, .slice A4 n4 d4, .slice A5 n5 d5] (w.heap.size + 1) 0 (by omega)
  have zs_11 : (setL w7 (w.heap.size + 1) 0 [.int .i64 m, .slice A3 n3 d3, .slice A4 n4 d4, .slice A5 n5 d5]).heap.size = w7.heap.size := setL_size _ _ _ _
  replace bR := bR.setAll [.int .i64 m, .slice A3 n3 d3, .slice A4 n4 d4, .slice A5 n5 d5] rfl
  generalize setL w7 _ 0 _ = w11 at *
  refine hK10.out _ _ bx (fun _ => ?_)
  refine ⟨by kernel_rfl, ?_⟩
  have bx_0 := bx.cell (j := 0) rfl
  have bx_1 := bx.cell (j := 1) rfl
  have bx_2 := bx.cell (j := 2) rfl
  have bx_3 := bx.cell (j := 3) rfl
  have bx_z := bx.frozen
  have bx_l := bx.lt
  have bR_0 := bR.cell (j := 0) rfl
  have bR_1 := bR.cell (j := 1) rfl
  have bR_2 := bR.cell (j := 2) rfl
  have bR_3 := bR.cell (j := 3) rfl
  have bR_z := bR.frozen
  have bR_l := bR.lt
  go_wp2_with fail
  clear bx_0 bx_1 bx_2 bx_3 bx_z bx_l bR_0 bR_1 bR_2 bR_3 bR_z bR_l
  have u0_ := bR.cell (j := 0) rfl
  have u1_ := bR.cell (j := 1) rfl
  have u2_ := bR.cell (j := 2) rfl
  have u3_ := bR.cell (j := 3) rfl
  refine bodyPost_ret (by simp only [results, Tryz.results68]; simp [go_sem, u0_, u1_, u2_, u3_]; rfl) rfl ?_
  exact ⟨_, _, _, rfl, o3.mono (by omega) (by omega), o4.mono (by omega) (by omega), o5.mono (by omega) (by omega), b0⟩
set_option maxHeartbeats 2000000 in
theorem implRaise_in (m : Int) (vt vs vw : Value) (st : List Int) (ls : List Sl) (lw : List Wt) (w : World) {lo hi lo2 hi2 lo3 hi3 : Nat} (h0 : Rd Nm.cells 1 w lo3 hi3 vt st) (h : Rd Sl.cells 3 w lo hi vs ls) (h2 : Rd Wt.cells 2 w lo2 hi2 vw lw) (hh0 : hi3 ≤ w.heap.size) (hh : hi ≤ w.heap.size) (hh2 : hi2 ≤ w.heap.size) (i p : Int) (hl : st.length ≤ 1048576) (hp : Qu.parts ls lw = true) (hir : inB i 0 7 = true) (hpr : inB p 0 15 = true) :
    Calls Tryz.prog 71 #[.agg #[.int .i64 m, vt, vs, vw], .int .i64 i, .int .i64 p] w fun e w' => ∃ v0 v1 v2, e = .returned (.agg #[.int .i64 m, v0, v1, v2]) ∧ Ow Nm.cells 1 3 w' w.heap.size w'.heap.size v0 (st) ∧ Ow Sl.cells 3 127 w' w.heap.size w'.heap.size v1 ((Qu.ofP ls lw i p).1) ∧ Ow Wt.cells 2 134 w' w.heap.size w'.heap.size v2 ((Qu.ofP ls lw i p).2) ∧ Below w.heap.size w w' := by
  have b0 : Below w.heap.size w ((w.alloc (.cells #[.int .i64 m, vt, vs, vw] 35)).alloc (.cells #[.int .i64 0, .slice none 0 0, .slice none 0 0, .slice none 0 0] 35)) := ((Below.refl w.heap.size w).alloc (Nat.le_refl _) _).alloc (by simp) _
  have z0 : ((w.alloc (.cells #[.int .i64 m, vt, vs, vw] 35)).alloc (.cells #[.int .i64 0, .slice none 0 0, .slice none 0 0, .slice none 0 0] 35)).heap.size = w.heap.size + 2 := by simp
  have bx := Box.new w #[.int .i64 m, vt, vs, vw] 35 rfl
  have bR := Box.new (g := w.heap.size + 1) (w.alloc (.cells #[.int .i64 m, vt, vs, vw] 35)) #[.int .i64 0, .slice none 0 0, .slice none 0 0, .slice none 0 0] 35 (by simp)
  replace bx := bx.below ((Below.refl _ (w.alloc (.cells #[.int .i64 m, vt, vs, vw] 35))).alloc (Nat.le_refl _) (.cells #[.int .i64 0, .slice none 0 0, .slice none 0 0, .slice none 0 0] 35)) bx.lt
  have ht := h0.below b0 hh0
  have hs := h.below b0 hh
  have hw := h2.below b0 hh2
  have hv0_ := h0.form
  have hv_ := h.form
  have hv2_ := h2.form
  clear h0 h h2
  generalize hwA : (w.alloc (.cells #[.int .i64 m, vt, vs, vw] 35)).alloc (.cells #[.int .i64 0, .slice none 0 0, .slice none 0 0, .slice none 0 0] 35) = wA at *
  obtain ⟨At, nt, dt, rfl, _, _, _⟩ := hv0_
  obtain ⟨A0, n0, d0, rfl, _, _, _⟩ := hv_
  obtain ⟨A1, n1, d1, rfl, _, _, _⟩ := hv2_
  have HP := Lib.hid hp
  have HI := Lib.hid hir
  have HR := Lib.hid hpr
  have hl1 : ls.length ≤ 1048576 := by have := Sl.good_len (Qu.parts_get hp).1; omega
  have hl2 : lw.length ≤ 1048576 := by have := Qu.parts_len hp; omega
  clear hp hir hpr
  go_enter Tryz.func71, Tryz.ntmps71
  have bx_0 := bx.cell (j := 0) rfl
  have bx_1 := bx.cell (j := 1) rfl
  have bx_2 := bx.cell (j := 2) rfl
  have bx_3 := bx.cell (j := 3) rfl
  have bx_z := bx.frozen
  have bx_l := bx.lt
  have bR_0 := bR.cell (j := 0) rfl
  have bR_1 := bR.cell (j := 1) rfl
  have bR_2 := bR.cell (j := 2) rfl
  have bR_3 := bR.cell (j := 3) rfl
  have bR_z := bR.frozen
  have bR_l := bR.lt
  go_wp2_with fail
  clear hwA
  clear bx_0 bx_1 bx_2 bx_3 bx_z bx_l bR_0 bR_1 bR_2 bR_3 bR_z bR_l
  refine (implOwnF_any m _ _ _ st ls lw wA ht hs hw (by omega) (by omega) (by omega) hl hl1 hl2).mono ?_; rintro q_ w1 ⟨v3, v4, v5, rfl, o3, o4, o5, b_1⟩
  replace bx := bx.below b_1 bx.lt
  replace bR := bR.below b_1 bR.lt
  replace ht := ht.below b_1 (by omega)
  replace hs := hs.below b_1 (by omega)
  replace hw := hw.below b_1 (by omega)
  have z_2 := b_1.size
  replace b0 := b0.trans (b_1.mono (by omega))
  clear b_1
  obtain ⟨A3, n3, d3, rfl, _, _, _⟩ := o3.rd.form
  obtain ⟨A4, n4, d4, rfl, _, _, _⟩ := o4.rd.form
  obtain ⟨A5, n5, d5, rfl, _, _, _⟩ := o5.rd.form
  have bx_0 := bx.cell (j := 0) rfl
  have bx_1 := bx.cell (j := 1) rfl
  have bx_2 := bx.cell (j := 2) rfl
  have bx_3 := bx.cell (j := 3) rfl
  have bx_z := bx.frozen
  have bx_l := bx.lt
  have bR_0 := bR.cell (j := 0) rfl
  have bR_1 := bR.cell (j := 1) rfl
  have bR_2 := bR.cell (j := 2) rfl
  have bR_3 := bR.cell (j := 3) rfl
  have bR_z := bR.frozen
  have bR_l := bR.lt
  go_upto_region 2 with fail
  clear bx_0 bx_1 bx_2 bx_3 bx_z bx_l bR_0 bR_1 bR_2 bR_3 bR_z bR_l
  have b_3 := (Below.refl w1.heap.size w1).alloc (Nat.le_refl _) (.cells #[.int .i64 m, .slice A3 n3 d3, .slice A4 n4 d4, .slice A5 n5 d5] 35)
  have bO := Box.new w1 #[.int .i64 m, .slice A3 n3 d3, .slice A4 n4 d4, .slice A5 n5 d5] 35 rfl
  replace bx := bx.below b_3 bx.lt
  replace bR := bR.below b_3 bR.lt
  replace ht := ht.below b_3 (by omega)
  replace hs := hs.below b_3 (by omega)
  replace hw := hw.below b_3 (by omega)
  replace o3 := o3.below b_3 (by omega)
  replace o4 := o4.below b_3 (by omega)
  replace o5 := o5.below b_3 (by omega)
  have z_4 := b_3.size
  replace b0 := b0.trans (b_3.mono (by omega))
  clear b_3
  generalize w1.alloc _ = w3 at *
  generalize w1.heap.size = g3 at *
  have bx_0 := bx.cell (j := 0) rfl
  have bx_1 := bx.cell (j := 1) rfl
  have bx_2 := bx.cell (j := 2) rfl
  have bx_3 := bx.cell (j := 3) rfl
  have bx_z := bx.frozen
  have bx_l := bx.lt
  have bR_0 := bR.cell (j := 0) rfl
  have bR_1 := bR.cell (j := 1) rfl
  have bR_2 := bR.cell (j := 2) rfl
  have bR_3 := bR.cell (j := 3) rfl
  have bR_z := bR.frozen
  have bR_l := bR.lt
  have bO_0 := bO.cell (j := 0) rfl
  have bO_1 := bO.cell (j := 1) rfl
  have bO_2 := bO.cell (j := 2) rfl
  have bO_3 := bO.cell (j := 3) rfl
  have bO_z := bO.frozen
  have bO_l := bO.lt
  go_wp2_with fail
  clear bx_0 bx_1 bx_2 bx_3 bx_z bx_l bR_0 bR_1 bR_2 bR_3 bR_z bR_l bO_0 bO_1 bO_2 bO_3 bO_z bO_l
  refine (implOffer_in _ _ ls lw i p w3 hs hw (by omega) (by omega) HP.out HI.out HR.out).mono ?_; rintro q_ w5 ⟨v6, v7, rfl, o6, o7, b_5⟩
  replace bx := bx.below b_5 bx.lt
  replace bR := bR.below b_5 bR.lt
  replace bO := bO.below b_5 bO.lt
  replace ht := ht.below b_5 (by omega)
  replace hs := hs.below b_5 (by omega)
  replace hw := hw.below b_5 (by omega)
  replace o3 := o3.below b_5 (by omega)
  replace o4 := o4.below b_5 (by omega)
  replace o5 := o5.below b_5 (by omega)
  have z_6 := b_5.size
  replace b0 := b0.trans (b_5.mono (by omega))
  clear b_5
  obtain ⟨A6, n6, d6, rfl, _, _, _⟩ := o6.rd.form
  obtain ⟨A7, n7, d7, rfl, _, _, _⟩ := o7.rd.form
  have bx_0 := bx.cell (j := 0) rfl
  have bx_1 := bx.cell (j := 1) rfl
  have bx_2 := bx.cell (j := 2) rfl
  have bx_3 := bx.cell (j := 3) rfl
  have bx_z := bx.frozen
  have bx_l := bx.lt
  have bR_0 := bR.cell (j := 0) rfl
  have bR_1 := bR.cell (j := 1) rfl
  have bR_2 := bR.cell (j := 2) rfl
  have bR_3 := bR.cell (j := 3) rfl
  have bR_z := bR.frozen
  have bR_l := bR.lt
  have bO_0 := bO.cell (j := 0) rfl
  have bO_1 := bO.cell (j := 1) rfl
  have bO_2 := bO.cell (j := 2) rfl
  have bO_3 := bO.cell (j := 3) rfl
  have bO_z := bO.frozen
  have bO_l := bO.lt
  go_upto_region 3 with fail
  clear bx_0 bx_1 bx_2 bx_3 bx_z bx_l bR_0 bR_1 bR_2 bR_3 bR_z bR_l bO_0 bO_1 bO_2 bO_3 bO_z bO_l
  generalize hwz : World.setCell (World.setCell _ _ _) _ _ = wz_
  obtain rfl : wz_ = setL w5 (g3) 2 [.slice A6 n6 d6, .slice A7 n7 d7] := hwz.symm
  clear hwz
  replace bx := bx.other (b := g3) (by omega) 2 [.slice A6 n6 d6, .slice A7 n7 d7]
  replace bR := bR.other (b := g3) (by omega) 2 [.slice A6 n6 d6, .slice A7 n7 d7]
  replace ht := ht.away (g := g3) (by omega) 2 [.slice A6 n6 d6, .slice A7 n7 d7]
  replace hs := hs.away (g := g3) (by omega) 2 [.slice A6 n6 d6, .slice A7 n7 d7]
  replace hw := hw.away (g := g3) (by omega) 2 [.slice A6 n6 d6, .slice A7 n7 d7]
  replace o3 := o3.box (g := g3) bO (by decide) 2 [.slice A6 n6 d6, .slice A7 n7 d7]
  replace o4 := o4.box (g := g3) bO (by decide) 2 [.slice A6 n6 d6, .slice A7 n7 d7]
  replace o5 := o5.box (g := g3) bO (by decide) 2 [.slice A6 n6 d6, .slice A7 n7 d7]
  replace o6 := o6.box (g := g3) bO (by decide) 2 [.slice A6 n6 d6, .slice A7 n7 d7]
  replace o7 := o7.box (g := g3) bO (by decide) 2 [.slice A6 n6 d6, .slice A7 n7 d7]
  replace b0 := setL_below b0 [.slice A6 n6 d6, .slice A7 n7 d7] (g3) 2 (by omega)
  have zs_7 : (setL w5 (g3) 2 [.slice A6 n6 d6, .slice A7 n7 d7]).heap.size = w5.heap.size := setL_size _ _ _ _
  replace bO : Box (setL w5 (g3) 2 [.slice A6 n6 d6, .slice A7 n7 d7]) (g3) 35 _ := ((bO.set1 (j := 2) (.slice A6 n6 d6) (by simp)).set1 (j := 3) (.slice A7 n7 d7) (by simp))
  generalize setL w5 _ 2 _ = w7 at *
  have bx_0 := bx.cell (j := 0) rfl
  have bx_1 := bx.cell (j := 1) rfl
  have bx_2 := bx.cell (j := 2) rfl
  have bx_3 := bx.cell (j := 3) rfl
  have bx_z := bx.frozen
  have bx_l := bx.lt
  have bR_0 := bR.cell (j := 0) rfl
  have bR_1 := bR.cell (j := 1) rfl
  have bR_2 := bR.cell (j := 2) rfl
  have bR_3 := bR.cell (j := 3) rfl
  have bR_z := bR.frozen
  have bR_l := bR.lt
  have bO_0 := bO.cell (j := 0) rfl
  have bO_1 := bO.cell (j := 1) rfl
  have bO_2 := bO.cell (j := 2) rfl
  have bO_3 := bO.cell (j := 3) rfl
  have bO_z := bO.frozen
  have bO_l := bO.lt
  go_wp2_with fail
  clear bx_0 bx_1 bx_2 bx_3 bx_z bx_l bR_0 bR_1 bR_2 bR_3 bR_z bR_l bO_0 bO_1 bO_2 bO_3 bO_z bO_l
  generalize hwz : World.setCell (World.setCell (World.setCell (World.setCell _ _ _) _ _) _ _) _ _ = wz_
  obtain rfl : wz_ = setL w7 (w.heap.size + 1) 0 [.int .i64 m, .slice A3 n3 d3, .slice A6 n6 d6, .slice A7 n7 d7] := hwz.symm
  clear hwz
  replace bx := bx.other (b := w.heap.size + 1) (by omega) 0 [.int .i64 m, .slice A3 n3 d3, .slice A6 n6 d6, .slice A7 n7 d7]
  replace bO := bO.other (b := w.heap.size + 1) (by omega) 0 [.int .i64 m, .slice A3 n3 d3, .slice A6 n6 d6, .slice A7 n7 d7]
  replace ht := ht.away (g := w.heap.size + 1) (by omega) 0 [.int .i64 m, .slice A3 n3 d3, .slice A6 n6 d6, .slice A7 n7 d7]
  replace hs := hs.away (g := w.heap.size + 1) (by omega) 0 [.int .i64 m, .slice A3 n3 d3, .slice A6 n6 d6, .slice A7 n7 d7]
  replace hw := hw.away (g := w.heap.size + 1) (by omega) 0 [.int .i64 m, .slice A3 n3 d3, .slice A6 n6 d6, .slice A7 n7 d7]
  replace o3 := o3.box (g := w.heap.size + 1) bR (by decide) 0 [.int .i64 m, .slice A3 n3 d3, .slice A6 n6 d6, .slice A7 n7 d7]
  replace o4 := o4.box (g := w.heap.size + 1) bR (by decide) 0 [.int .i64 m, .slice A3 n3 d3, .slice A6 n6 d6, .slice A7 n7 d7]
  replace o5 := o5.box (g := w.heap.size + 1) bR (by decide) 0 [.int .i64 m, .slice A3 n3 d3, .slice A6 n6 d6, .slice A7 n7 d7]
  replace o6 := o6.box (g := w.heap.size + 1) bR (by decide) 0 [.int .i64 m, .slice A3 n3 d3, .slice A6 n6 d6, .slice A7 n7 d7]
  replace o7 := o7.box (g := w.heap.size + 1) bR (by decide) 0 [.int .i64 m, .slice A3 n3 d3, .slice A6 n6 d6, .slice A7 n7 d7]
  replace b0 := setL_below b0 [.int .i64 m, .slice A3 n3 d3, .slice A6 n6 d6, .slice A7 n7 d7] (w.heap.size + 1) 0 (by omega)
  have zs_8 : (setL w7 (w.heap.size + 1) 0 [.int .i64 m, .slice A3 n3 d3, .slice A6 n6 d6, .slice A7 n7 d7]).heap.size = w7.heap.size := setL_size _ _ _ _
  replace bR := bR.setAll [.int .i64 m, .slice A3 n3 d3, .slice A6 n6 d6, .slice A7 n7 d7] rfl
  generalize setL w7 _ 0 _ = w8 at *
  have u0_ := bR.cell (j := 0) rfl
  have u1_ := bR.cell (j := 1) rfl
  have u2_ := bR.cell (j := 2) rfl
  have u3_ := bR.cell (j := 3) rfl
  refine bodyPost_ret (by simp only [results, Tryz.results71]; simp [go_sem, u0_, u1_, u2_, u3_]; rfl) rfl ?_
  exact ⟨_, _, _, rfl, o3.mono (by omega) (by omega), o6.mono (by omega) (by omega), o7.mono (by omega) (by omega), b0⟩
set_option maxHeartbeats 2000000 in
theorem specRaiseIrq_any (m : Int) (vt vs vw : Value) (st : List Int) (ls : List Sl) (lw : List Wt) (w : World) {lo hi lo2 hi2 lo3 hi3 : Nat} (h0 : Rd Nm.cells 1 w lo3 hi3 vt st) (h : Rd Sl.cells 3 w lo hi vs ls) (h2 : Rd Wt.cells 2 w lo2 hi2 vw lw) (hh0 : hi3 ≤ w.heap.size) (hh : hi ≤ w.heap.size) (hh2 : hi2 ≤ w.heap.size) (i p : Int) (hl : st.length ≤ 1048576) :
    Calls Tryz.prog 21 #[.agg #[.int .i64 m, vt, vs, vw], .int .i64 i, .int .i64 p] w fun e w' => ∃ v0 v1 v2, e = .returned (.tuple #[.agg #[.int .i64 (Fa.raM m st ls lw i p), v0, v1, v2], .bool (Fa.raOk m st ls lw i p)]) ∧ Ow Nm.cells 1 3 w' w.heap.size w'.heap.size v0 (Fa.raT m st ls lw i p) ∧ Ow Sl.cells 3 127 w' w.heap.size w'.heap.size v1 (Fa.raS m st ls lw i p) ∧ Ow Wt.cells 2 134 w' w.heap.size w'.heap.size v2 (Fa.raW m st ls lw i p) ∧ Below w.heap.size w w' := by
  have b0 : Below w.heap.size w ((w.alloc (.cells #[.int .i64 m, vt, vs, vw] 35)).alloc (.cells #[.int .i64 0, .slice none 0 0, .slice none 0 0, .slice none 0 0] 35)) := ((Below.refl w.heap.size w).alloc (Nat.le_refl _) _).alloc (by simp) _
  have z0 : ((w.alloc (.cells #[.int .i64 m, vt, vs, vw] 35)).alloc (.cells #[.int .i64 0, .slice none 0 0, .slice none 0 0, .slice none 0 0] 35)).heap.size = w.heap.size + 2 := by simp
  have bx := Box.new w #[.int .i64 m, vt, vs, vw] 35 rfl
  have bR := Box.new (g := w.heap.size + 1) (w.alloc (.cells #[.int .i64 m, vt, vs, vw] 35)) #[.int .i64 0, .slice none 0 0, .slice none 0 0, .slice none 0 0] 35 (by simp)
  replace bx := bx.below ((Below.refl _ (w.alloc (.cells #[.int .i64 m, vt, vs, vw] 35))).alloc (Nat.le_refl _) (.cells #[.int .i64 0, .slice none 0 0, .slice none 0 0, .slice none 0 0] 35)) bx.lt
  have ht := h0.below b0 hh0
  have hs := h.below b0 hh
  have hw := h2.below b0 hh2
  have hv0_ := h0.form
  have hv_ := h.form
  have hv2_ := h2.form
  clear h0 h h2
  generalize hwA : (w.alloc (.cells #[.int .i64 m, vt, vs, vw] 35)).alloc (.cells #[.int .i64 0, .slice none 0 0, .slice none 0 0, .slice none 0 0] 35) = wA at *
  obtain ⟨At, nt, dt, rfl, _, _, _⟩ := hv0_
  obtain ⟨A0, n0, d0, rfl, _, _, _⟩ := hv_
  obtain ⟨A1, n1, d1, rfl, _, _, _⟩ := hv2_
  have c1 := l10Good_any m _ _ _ st ls lw wA ht hs hw (by omega) (by omega) (by omega)
  cases hg : Fa.good m st ls lw
  · have HF := Lib.hid (Fa.ra_no (m := m) (st := st) (ls := ls) (lw := lw) (i := i) (p := p) (by simp [Fa.raOk, hg]))
    rw [hg] at c1
    clear hg
    go_enter Tryz.func21, Tryz.ntmps21
    have bx_0 := bx.cell (j := 0) rfl
    have bx_1 := bx.cell (j := 1) rfl
    have bx_2 := bx.cell (j := 2) rfl
    have bx_3 := bx.cell (j := 3) rfl
    have bx_z := bx.frozen
    have bx_l := bx.lt
    have bR_0 := bR.cell (j := 0) rfl
    have bR_1 := bR.cell (j := 1) rfl
    have bR_2 := bR.cell (j := 2) rfl
    have bR_3 := bR.cell (j := 3) rfl
    have bR_z := bR.frozen
    have bR_l := bR.lt
    go_wp2_with fail
    clear hwA
    clear bx_0 bx_1 bx_2 bx_3 bx_z bx_l bR_0 bR_1 bR_2 bR_3 bR_z bR_l
    refine (c1).mono ?_; rintro q_ w1 ⟨rfl, b_1⟩
    replace bx := bx.below b_1 bx.lt
    replace bR := bR.below b_1 bR.lt
    replace ht := ht.below b_1 (by omega)
    replace hs := hs.below b_1 (by omega)
    replace hw := hw.below b_1 (by omega)
    have z_2 := b_1.size
    replace b0 := b0.trans (b_1.mono (by omega))
    clear b_1
    have bx_0 := bx.cell (j := 0) rfl
    have bx_1 := bx.cell (j := 1) rfl
    have bx_2 := bx.cell (j := 2) rfl
    have bx_3 := bx.cell (j := 3) rfl
    have bx_z := bx.frozen
    have bx_l := bx.lt
    have bR_0 := bR.cell (j := 0) rfl
    have bR_1 := bR.cell (j := 1) rfl
    have bR_2 := bR.cell (j := 2) rfl
    have bR_3 := bR.cell (j := 3) rfl
    have bR_z := bR.frozen
    have bR_l := bR.lt
    go_wp2_with fail
    clear bx_0 bx_1 bx_2 bx_3 bx_z bx_l bR_0 bR_1 bR_2 bR_3 bR_z bR_l
    generalize hwz : World.setCell (World.setCell (World.setCell (World.setCell _ _ _) _ _) _ _) _ _ = wz_
    obtain rfl : wz_ = setL w1 (w.heap.size + 1) 0 [.int .i64 0, .slice none 0 0, .slice none 0 0, .slice none 0 0] := hwz.symm
    clear hwz
    replace bx := bx.other (b := w.heap.size + 1) (by omega) 0 [.int .i64 0, .slice none 0 0, .slice none 0 0, .slice none 0 0]
    replace ht := ht.away (g := w.heap.size + 1) (by omega) 0 [.int .i64 0, .slice none 0 0, .slice none 0 0, .slice none 0 0]
    replace hs := hs.away (g := w.heap.size + 1) (by omega) 0 [.int .i64 0, .slice none 0 0, .slice none 0 0, .slice none 0 0]
    replace hw := hw.away (g := w.heap.size + 1) (by omega) 0 [.int .i64 0, .slice none 0 0, .slice none 0 0, .slice none 0 0]
    replace b0 := setL_below b0 [.int .i64 0, .slice none 0 0, .slice none 0 0, .slice none 0 0] (w.heap.size + 1) 0 (by omega)
    have zs_3 : (setL w1 (w.heap.size + 1) 0 [.int .i64 0, .slice none 0 0, .slice none 0 0, .slice none 0 0]).heap.size = w1.heap.size := setL_size _ _ _ _
    replace bR := bR.setAll [.int .i64 0, .slice none 0 0, .slice none 0 0, .slice none 0 0] rfl
    generalize setL w1 _ 0 _ = w3 at *
    have u0_ := bR.cell (j := 0) rfl
    have u1_ := bR.cell (j := 1) rfl
    have u2_ := bR.cell (j := 2) rfl
    have u3_ := bR.cell (j := 3) rfl
    refine bodyPost_ret (by simp only [results, Tryz.results21]; simp [go_sem, u0_, u1_, u2_, u3_]; rfl) rfl ?_
    exact ⟨_, _, _, by rw [HF.out.1, HF.out.2.1], by rw [HF.out.2.2.1]; exact Ow.nil_, by rw [HF.out.2.2.2.1]; exact Ow.nil_, by rw [HF.out.2.2.2.2]; exact Ow.nil_, b0⟩
  · have HP := Lib.hid (Fa.good_parts hg)
    cases hi_ : inB i 0 7
    · have HF := Lib.hid (Fa.ra_no (m := m) (st := st) (ls := ls) (lw := lw) (i := i) (p := p) (by simp [Fa.raOk, hi_]))
      rw [hg] at c1
      have c2 := fun W => l6Irq_any i W
      rw [hi_] at c2
      clear hg hi_
      go_enter Tryz.func21, Tryz.ntmps21
      have bx_0 := bx.cell (j := 0) rfl
      have bx_1 := bx.cell (j := 1) rfl
      have bx_2 := bx.cell (j := 2) rfl
      have bx_3 := bx.cell (j := 3) rfl
      have bx_z := bx.frozen
      have bx_l := bx.lt
      have bR_0 := bR.cell (j := 0) rfl
      have bR_1 := bR.cell (j := 1) rfl
      have bR_2 := bR.cell (j := 2) rfl
      have bR_3 := bR.cell (j := 3) rfl
      have bR_z := bR.frozen
      have bR_l := bR.lt
      go_wp2_with fail
      clear hwA
      clear bx_0 bx_1 bx_2 bx_3 bx_z bx_l bR_0 bR_1 bR_2 bR_3 bR_z bR_l
      refine (c1).mono ?_; rintro q_ w1 ⟨rfl, b_1⟩
      replace bx := bx.below b_1 bx.lt
      replace bR := bR.below b_1 bR.lt
      replace ht := ht.below b_1 (by omega)
      replace hs := hs.below b_1 (by omega)
      replace hw := hw.below b_1 (by omega)
      have z_2 := b_1.size
      replace b0 := b0.trans (b_1.mono (by omega))
      clear b_1
      have bx_0 := bx.cell (j := 0) rfl
      have bx_1 := bx.cell (j := 1) rfl
      have bx_2 := bx.cell (j := 2) rfl
      have bx_3 := bx.cell (j := 3) rfl
      have bx_z := bx.frozen
      have bx_l := bx.lt
      have bR_0 := bR.cell (j := 0) rfl
      have bR_1 := bR.cell (j := 1) rfl
      have bR_2 := bR.cell (j := 2) rfl
      have bR_3 := bR.cell (j := 3) rfl
      have bR_z := bR.frozen
      have bR_l := bR.lt
      go_wp2_with fail
      clear bx_0 bx_1 bx_2 bx_3 bx_z bx_l bR_0 bR_1 bR_2 bR_3 bR_z bR_l
      refine (c2 w1).mono ?_; rintro q_ w_ ⟨rfl, rfl⟩
      have bx_0 := bx.cell (j := 0) rfl
      have bx_1 := bx.cell (j := 1) rfl
      have bx_2 := bx.cell (j := 2) rfl
      have bx_3 := bx.cell (j := 3) rfl
      have bx_z := bx.frozen
      have bx_l := bx.lt
      have bR_0 := bR.cell (j := 0) rfl
      have bR_1 := bR.cell (j := 1) rfl
      have bR_2 := bR.cell (j := 2) rfl
      have bR_3 := bR.cell (j := 3) rfl
      have bR_z := bR.frozen
      have bR_l := bR.lt
      go_wp2_with fail
      clear bx_0 bx_1 bx_2 bx_3 bx_z bx_l bR_0 bR_1 bR_2 bR_3 bR_z bR_l
      generalize hwz : World.setCell (World.setCell (World.setCell (World.setCell _ _ _) _ _) _ _) _ _ = wz_
      obtain rfl : wz_ = setL w1 (w.heap.size + 1) 0 [.int .i64 0, .slice none 0 0, .slice none 0 0, .slice none 0 0] := hwz.symm
      clear hwz
      replace bx := bx.other (b := w.heap.size + 1) (by omega) 0 [.int .i64 0, .slice none 0 0, .slice none 0 0, .slice none 0 0]
      replace ht := ht.away (g := w.heap.size + 1) (by omega) 0 [.int .i64 0, .slice none 0 0, .slice none 0 0, .slice none 0 0]
      replace hs := hs.away (g := w.heap.size + 1) (by omega) 0 [.int .i64 0, .slice none 0 0, .slice none 0 0, .slice none 0 0]
      replace hw := hw.away (g := w.heap.size + 1) (by omega) 0 [.int .i64 0, .slice none 0 0, .slice none 0 0, .slice none 0 0]
      replace b0 := setL_below b0 [.int .i64 0, .slice none 0 0, .slice none 0 0, .slice none 0 0] (w.heap.size + 1) 0 (by omega)
      have zs_3 : (setL w1 (w.heap.size + 1) 0 [.int .i64 0, .slice none 0 0, .slice none 0 0, .slice none 0 0]).heap.size = w1.heap.size := setL_size _ _ _ _
      replace bR := bR.setAll [.int .i64 0, .slice none 0 0, .slice none 0 0, .slice none 0 0] rfl
      generalize setL w1 _ 0 _ = w3 at *
      have u0_ := bR.cell (j := 0) rfl
      have u1_ := bR.cell (j := 1) rfl
      have u2_ := bR.cell (j := 2) rfl
      have u3_ := bR.cell (j := 3) rfl
      refine bodyPost_ret (by simp only [results, Tryz.results21]; simp [go_sem, u0_, u1_, u2_, u3_]; rfl) rfl ?_
      exact ⟨_, _, _, by rw [HF.out.1, HF.out.2.1], by rw [HF.out.2.2.1]; exact Ow.nil_, by rw [HF.out.2.2.2.1]; exact Ow.nil_, by rw [HF.out.2.2.2.2]; exact Ow.nil_, b0⟩
    · cases hp_ : inB p 0 15
      · have HF := Lib.hid (Fa.ra_no (m := m) (st := st) (ls := ls) (lw := lw) (i := i) (p := p) (by simp [Fa.raOk, hg, hi_, hp_]))
        have HI := Lib.hid hi_
        have HR := Lib.hid hp_
        rw [hg] at c1
        have c2 := fun W => l6Irq_any i W
        rw [hi_] at c2
        have c3 := fun W => l6Prio_any p W
        rw [hp_] at c3
        clear hg hi_ hp_
        go_enter Tryz.func21, Tryz.ntmps21
        have bx_0 := bx.cell (j := 0) rfl
        have bx_1 := bx.cell (j := 1) rfl
        have bx_2 := bx.cell (j := 2) rfl
        have bx_3 := bx.cell (j := 3) rfl
        have bx_z := bx.frozen
        have bx_l := bx.lt
        have bR_0 := bR.cell (j := 0) rfl
        have bR_1 := bR.cell (j := 1) rfl
        have bR_2 := bR.cell (j := 2) rfl
        have bR_3 := bR.cell (j := 3) rfl
        have bR_z := bR.frozen
        have bR_l := bR.lt
        go_wp2_with fail
        clear hwA
        clear bx_0 bx_1 bx_2 bx_3 bx_z bx_l bR_0 bR_1 bR_2 bR_3 bR_z bR_l
        refine (c1).mono ?_; rintro q_ w1 ⟨rfl, b_1⟩
        replace bx := bx.below b_1 bx.lt
        replace bR := bR.below b_1 bR.lt
        replace ht := ht.below b_1 (by omega)
        replace hs := hs.below b_1 (by omega)
        replace hw := hw.below b_1 (by omega)
        have z_2 := b_1.size
        replace b0 := b0.trans (b_1.mono (by omega))
        clear b_1
        have bx_0 := bx.cell (j := 0) rfl
        have bx_1 := bx.cell (j := 1) rfl
        have bx_2 := bx.cell (j := 2) rfl
        have bx_3 := bx.cell (j := 3) rfl
        have bx_z := bx.frozen
        have bx_l := bx.lt
        have bR_0 := bR.cell (j := 0) rfl
        have bR_1 := bR.cell (j := 1) rfl
        have bR_2 := bR.cell (j := 2) rfl
        have bR_3 := bR.cell (j := 3) rfl
        have bR_z := bR.frozen
        have bR_l := bR.lt
        go_wp2_with fail
        clear bx_0 bx_1 bx_2 bx_3 bx_z bx_l bR_0 bR_1 bR_2 bR_3 bR_z bR_l
        refine (c2 w1).mono ?_; rintro q_ w_ ⟨rfl, rfl⟩
        have bx_0 := bx.cell (j := 0) rfl
        have bx_1 := bx.cell (j := 1) rfl
        have bx_2 := bx.cell (j := 2) rfl
        have bx_3 := bx.cell (j := 3) rfl
        have bx_z := bx.frozen
        have bx_l := bx.lt
        have bR_0 := bR.cell (j := 0) rfl
        have bR_1 := bR.cell (j := 1) rfl
        have bR_2 := bR.cell (j := 2) rfl
        have bR_3 := bR.cell (j := 3) rfl
        have bR_z := bR.frozen
        have bR_l := bR.lt
        go_wp2_with fail
        clear bx_0 bx_1 bx_2 bx_3 bx_z bx_l bR_0 bR_1 bR_2 bR_3 bR_z bR_l
        refine (c3 w1).mono ?_; rintro q_ w_ ⟨rfl, rfl⟩
        have bx_0 := bx.cell (j := 0) rfl
        have bx_1 := bx.cell (j := 1) rfl
        have bx_2 := bx.cell (j := 2) rfl
        have bx_3 := bx.cell (j := 3) rfl
        have bx_z := bx.frozen
        have bx_l := bx.lt
        have bR_0 := bR.cell (j := 0) rfl
        have bR_1 := bR.cell (j := 1) rfl
        have bR_2 := bR.cell (j := 2) rfl
        have bR_3 := bR.cell (j := 3) rfl
        have bR_z := bR.frozen
        have bR_l := bR.lt
        go_wp2_with fail
        clear bx_0 bx_1 bx_2 bx_3 bx_z bx_l bR_0 bR_1 bR_2 bR_3 bR_z bR_l
        generalize hwz : World.setCell (World.setCell (World.setCell (World.setCell _ _ _) _ _) _ _) _ _ = wz_
        obtain rfl : wz_ = setL w1 (w.heap.size + 1) 0 [.int .i64 0, .slice none 0 0, .slice none 0 0, .slice none 0 0] := hwz.symm
        clear hwz
        replace bx := bx.other (b := w.heap.size + 1) (by omega) 0 [.int .i64 0, .slice none 0 0, .slice none 0 0, .slice none 0 0]
        replace ht := ht.away (g := w.heap.size + 1) (by omega) 0 [.int .i64 0, .slice none 0 0, .slice none 0 0, .slice none 0 0]
        replace hs := hs.away (g := w.heap.size + 1) (by omega) 0 [.int .i64 0, .slice none 0 0, .slice none 0 0, .slice none 0 0]
        replace hw := hw.away (g := w.heap.size + 1) (by omega) 0 [.int .i64 0, .slice none 0 0, .slice none 0 0, .slice none 0 0]
        replace b0 := setL_below b0 [.int .i64 0, .slice none 0 0, .slice none 0 0, .slice none 0 0] (w.heap.size + 1) 0 (by omega)
        have zs_3 : (setL w1 (w.heap.size + 1) 0 [.int .i64 0, .slice none 0 0, .slice none 0 0, .slice none 0 0]).heap.size = w1.heap.size := setL_size _ _ _ _
        replace bR := bR.setAll [.int .i64 0, .slice none 0 0, .slice none 0 0, .slice none 0 0] rfl
        generalize setL w1 _ 0 _ = w3 at *
        have u0_ := bR.cell (j := 0) rfl
        have u1_ := bR.cell (j := 1) rfl
        have u2_ := bR.cell (j := 2) rfl
        have u3_ := bR.cell (j := 3) rfl
        refine bodyPost_ret (by simp only [results, Tryz.results21]; simp [go_sem, u0_, u1_, u2_, u3_]; rfl) rfl ?_
        exact ⟨_, _, _, by rw [HF.out.1, HF.out.2.1], by rw [HF.out.2.2.1]; exact Ow.nil_, by rw [HF.out.2.2.2.1]; exact Ow.nil_, by rw [HF.out.2.2.2.2]; exact Ow.nil_, b0⟩
      · have HF := Lib.hid (Fa.ra_yes (m := m) (st := st) (ls := ls) (lw := lw) (i := i) (p := p) (by simp [Fa.raOk, hg, hi_, hp_]))
        have HI := Lib.hid hi_
        have HR := Lib.hid hp_
        rw [hg] at c1
        have c2 := fun W => l6Irq_any i W
        rw [hi_] at c2
        have c3 := fun W => l6Prio_any p W
        rw [hp_] at c3
        clear hg hi_ hp_
        go_enter Tryz.func21, Tryz.ntmps21
        have bx_0 := bx.cell (j := 0) rfl
        have bx_1 := bx.cell (j := 1) rfl
        have bx_2 := bx.cell (j := 2) rfl
        have bx_3 := bx.cell (j := 3) rfl
        have bx_z := bx.frozen
        have bx_l := bx.lt
        have bR_0 := bR.cell (j := 0) rfl
        have bR_1 := bR.cell (j := 1) rfl
        have bR_2 := bR.cell (j := 2) rfl
        have bR_3 := bR.cell (j := 3) rfl
        have bR_z := bR.frozen
        have bR_l := bR.lt
        go_wp2_with fail
        clear hwA
        clear bx_0 bx_1 bx_2 bx_3 bx_z bx_l bR_0 bR_1 bR_2 bR_3 bR_z bR_l
        refine (c1).mono ?_; rintro q_ w1 ⟨rfl, b_1⟩
        replace bx := bx.below b_1 bx.lt
        replace bR := bR.below b_1 bR.lt
        replace ht := ht.below b_1 (by omega)
        replace hs := hs.below b_1 (by omega)
        replace hw := hw.below b_1 (by omega)
        have z_2 := b_1.size
        replace b0 := b0.trans (b_1.mono (by omega))
        clear b_1
        have bx_0 := bx.cell (j := 0) rfl
        have bx_1 := bx.cell (j := 1) rfl
        have bx_2 := bx.cell (j := 2) rfl
        have bx_3 := bx.cell (j := 3) rfl
        have bx_z := bx.frozen
        have bx_l := bx.lt
        have bR_0 := bR.cell (j := 0) rfl
        have bR_1 := bR.cell (j := 1) rfl
        have bR_2 := bR.cell (j := 2) rfl
        have bR_3 := bR.cell (j := 3) rfl
        have bR_z := bR.frozen
        have bR_l := bR.lt
        go_wp2_with fail
        clear bx_0 bx_1 bx_2 bx_3 bx_z bx_l bR_0 bR_1 bR_2 bR_3 bR_z bR_l
        refine (c2 w1).mono ?_; rintro q_ w_ ⟨rfl, rfl⟩
        have bx_0 := bx.cell (j := 0) rfl
        have bx_1 := bx.cell (j := 1) rfl
        have bx_2 := bx.cell (j := 2) rfl
        have bx_3 := bx.cell (j := 3) rfl
        have bx_z := bx.frozen
        have bx_l := bx.lt
        have bR_0 := bR.cell (j := 0) rfl
        have bR_1 := bR.cell (j := 1) rfl
        have bR_2 := bR.cell (j := 2) rfl
        have bR_3 := bR.cell (j := 3) rfl
        have bR_z := bR.frozen
        have bR_l := bR.lt
        go_wp2_with fail
        clear bx_0 bx_1 bx_2 bx_3 bx_z bx_l bR_0 bR_1 bR_2 bR_3 bR_z bR_l
        refine (c3 w1).mono ?_; rintro q_ w_ ⟨rfl, rfl⟩
        have bx_0 := bx.cell (j := 0) rfl
        have bx_1 := bx.cell (j := 1) rfl
        have bx_2 := bx.cell (j := 2) rfl
        have bx_3 := bx.cell (j := 3) rfl
        have bx_z := bx.frozen
        have bx_l := bx.lt
        have bR_0 := bR.cell (j := 0) rfl
        have bR_1 := bR.cell (j := 1) rfl
        have bR_2 := bR.cell (j := 2) rfl
        have bR_3 := bR.cell (j := 3) rfl
        have bR_z := bR.frozen
        have bR_l := bR.lt
        go_wp2_with fail
        clear bx_0 bx_1 bx_2 bx_3 bx_z bx_l bR_0 bR_1 bR_2 bR_3 bR_z bR_l
        refine (specRaise_in m _ _ _ st ls lw w1 ht hs hw (by omega) (by omega) (by omega) i p hl HP.out HI.out HR.out).mono ?_; rintro q_ w3 ⟨v3, v4, v5, rfl, o3, o4, o5, b_3⟩
        replace bx := bx.below b_3 bx.lt
        replace bR := bR.below b_3 bR.lt
        replace ht := ht.below b_3 (by omega)
        replace hs := hs.below b_3 (by omega)
        replace hw := hw.below b_3 (by omega)
        have z_4 := b_3.size
        replace b0 := b0.trans (b_3.mono (by omega))
        clear b_3
        obtain ⟨A3, n3, d3, rfl, _, _, _⟩ := o3.rd.form
        obtain ⟨A4, n4, d4, rfl, _, _, _⟩ := o4.rd.form
        obtain ⟨A5, n5, d5, rfl, _, _, _⟩ := o5.rd.form
        have bx_0 := bx.cell (j := 0) rfl
        have bx_1 := bx.cell (j := 1) rfl
        have bx_2 := bx.cell (j := 2) rfl
        have bx_3 := bx.cell (j := 3) rfl
        have bx_z := bx.frozen
        have bx_l := bx.lt
        have bR_0 := bR.cell (j := 0) rfl
        have bR_1 := bR.cell (j := 1) rfl
        have bR_2 := bR.cell (j := 2) rfl
        have bR_3 := bR.cell (j := 3) rfl
        have bR_z := bR.frozen
        have bR_l := bR.lt
        go_wp2_with fail
        clear bx_0 bx_1 bx_2 bx_3 bx_z bx_l bR_0 bR_1 bR_2 bR_3 bR_z bR_l
        generalize hwz : World.setCell (World.setCell (World.setCell (World.setCell _ _ _) _ _) _ _) _ _ = wz_
        obtain rfl : wz_ = setL w3 (w.heap.size + 1) 0 [.int .i64 m, .slice A3 n3 d3, .slice A4 n4 d4, .slice A5 n5 d5] := hwz.symm
        clear hwz
        replace bx := bx.other (b := w.heap.size + 1) (by omega) 0 [.int .i64 m, .slice A3 n3 d3, .slice A4 n4 d4, .slice A5 n5 d5]
        replace ht := ht.away (g := w.heap.size + 1) (by omega) 0 [.int .i64 m, .slice A3 n3 d3, .slice A4 n4 d4, .slice A5 n5 d5]
        replace hs := hs.away (g := w.heap.size + 1) (by omega) 0 [.int .i64 m, .slice A3 n3 d3, .slice A4 n4 d4, .slice A5 n5 d5]
        replace hw := hw.away (g := w.heap.size + 1) (by omega) 0 [.int .i64 m, .slice A3 n3 d3, .slice A4 n4 d4, .slice A5 n5 d5]
        replace o3 := o3.box (g := w.heap.size + 1) bR (by decide) 0 [.int .i64 m, .slice A3 n3 d3, .slice A4 n4 d4, .slice A5 n5 d5]
        replace o4 := o4.box (g := w.heap.size + 1) bR (by decide) 0 [.int .i64 m, .slice A3 n3 d3, .slice A4 n4 d4, .slice A5 n5 d5]
        replace o5 := o5.box (g := w.heap.size + 1) bR (by decide) 0 [.int .i64 m, .slice A3 n3 d3, .slice A4 n4 d4, .slice A5 n5 d5]
        replace b0 := setL_below b0 [.int .i64 m, .slice A3 n3 d3, .slice A4 n4 d4, .slice A5 n5 d5] (w.heap.size + 1) 0 (by omega)
        have zs_5 : (setL w3 (w.heap.size + 1) 0 [.int .i64 m, .slice A3 n3 d3, .slice A4 n4 d4, .slice A5 n5 d5]).heap.size = w3.heap.size := setL_size _ _ _ _
        replace bR := bR.setAll [.int .i64 m, .slice A3 n3 d3, .slice A4 n4 d4, .slice A5 n5 d5] rfl
        generalize setL w3 _ 0 _ = w5 at *
        have u0_ := bR.cell (j := 0) rfl
        have u1_ := bR.cell (j := 1) rfl
        have u2_ := bR.cell (j := 2) rfl
        have u3_ := bR.cell (j := 3) rfl
        refine bodyPost_ret (by simp only [results, Tryz.results21]; simp [go_sem, u0_, u1_, u2_, u3_]; rfl) rfl ?_
        exact ⟨_, _, _, by rw [HF.out.1, HF.out.2.1], by rw [HF.out.2.2.1]; exact o3.mono (by omega) (by omega), by rw [HF.out.2.2.2.1]; exact o4.mono (by omega) (by omega), by rw [HF.out.2.2.2.2]; exact o5.mono (by omega) (by omega), b0⟩
set_option maxHeartbeats 2000000 in
theorem implRaiseIrq_any (m : Int) (vt vs vw : Value) (st : List Int) (ls : List Sl) (lw : List Wt) (w : World) {lo hi lo2 hi2 lo3 hi3 : Nat} (h0 : Rd Nm.cells 1 w lo3 hi3 vt st) (h : Rd Sl.cells 3 w lo hi vs ls) (h2 : Rd Wt.cells 2 w lo2 hi2 vw lw) (hh0 : hi3 ≤ w.heap.size) (hh : hi ≤ w.heap.size) (hh2 : hi2 ≤ w.heap.size) (i p : Int) (hl : st.length ≤ 1048576) :
    Calls Tryz.prog 22 #[.agg #[.int .i64 m, vt, vs, vw], .int .i64 i, .int .i64 p] w fun e w' => ∃ v0 v1 v2, e = .returned (.tuple #[.agg #[.int .i64 (Fa.raM m st ls lw i p), v0, v1, v2], .bool (Fa.raOk m st ls lw i p)]) ∧ Ow Nm.cells 1 3 w' w.heap.size w'.heap.size v0 (Fa.raT m st ls lw i p) ∧ Ow Sl.cells 3 127 w' w.heap.size w'.heap.size v1 (Fa.raS m st ls lw i p) ∧ Ow Wt.cells 2 134 w' w.heap.size w'.heap.size v2 (Fa.raW m st ls lw i p) ∧ Below w.heap.size w w' := by
  have b0 : Below w.heap.size w ((w.alloc (.cells #[.int .i64 m, vt, vs, vw] 35)).alloc (.cells #[.int .i64 0, .slice none 0 0, .slice none 0 0, .slice none 0 0] 35)) := ((Below.refl w.heap.size w).alloc (Nat.le_refl _) _).alloc (by simp) _
  have z0 : ((w.alloc (.cells #[.int .i64 m, vt, vs, vw] 35)).alloc (.cells #[.int .i64 0, .slice none 0 0, .slice none 0 0, .slice none 0 0] 35)).heap.size = w.heap.size + 2 := by simp
  have bx := Box.new w #[.int .i64 m, vt, vs, vw] 35 rfl
  have bR := Box.new (g := w.heap.size + 1) (w.alloc (.cells #[.int .i64 m, vt, vs, vw] 35)) #[.int .i64 0, .slice none 0 0, .slice none 0 0, .slice none 0 0] 35 (by simp)
  replace bx := bx.below ((Below.refl _ (w.alloc (.cells #[.int .i64 m, vt, vs, vw] 35))).alloc (Nat.le_refl _) (.cells #[.int .i64 0, .slice none 0 0, .slice none 0 0, .slice none 0 0] 35)) bx.lt
  have ht := h0.below b0 hh0
  have hs := h.below b0 hh
  have hw := h2.below b0 hh2
  have hv0_ := h0.form
  have hv_ := h.form
  have hv2_ := h2.form
  clear h0 h h2
  generalize hwA : (w.alloc (.cells #[.int .i64 m, vt, vs, vw] 35)).alloc (.cells #[.int .i64 0, .slice none 0 0, .slice none 0 0, .slice none 0 0] 35) = wA at *
  obtain ⟨At, nt, dt, rfl, _, _, _⟩ := hv0_
  obtain ⟨A0, n0, d0, rfl, _, _, _⟩ := hv_
  obtain ⟨A1, n1, d1, rfl, _, _, _⟩ := hv2_
  have c1 := implIsInterface_any m _ _ _ st ls lw wA ht hs hw (by omega) (by omega) (by omega) hl
  cases hg : Fa.good m st ls lw
  · have HF := Lib.hid (Fa.ra_no (m := m) (st := st) (ls := ls) (lw := lw) (i := i) (p := p) (by simp [Fa.raOk, hg]))
    rw [hg] at c1
    clear hg
    go_enter Tryz.func22, Tryz.ntmps22
    have bx_0 := bx.cell (j := 0) rfl
    have bx_1 := bx.cell (j := 1) rfl
    have bx_2 := bx.cell (j := 2) rfl
    have bx_3 := bx.cell (j := 3) rfl
    have bx_z := bx.frozen
    have bx_l := bx.lt
    have bR_0 := bR.cell (j := 0) rfl
    have bR_1 := bR.cell (j := 1) rfl
    have bR_2 := bR.cell (j := 2) rfl
    have bR_3 := bR.cell (j := 3) rfl
    have bR_z := bR.frozen
    have bR_l := bR.lt
    go_wp2_with fail
    clear hwA
    clear bx_0 bx_1 bx_2 bx_3 bx_z bx_l bR_0 bR_1 bR_2 bR_3 bR_z bR_l
    refine (c1).mono ?_; rintro q_ w1 ⟨rfl, b_1⟩
    replace bx := bx.below b_1 bx.lt
    replace bR := bR.below b_1 bR.lt
    replace ht := ht.below b_1 (by omega)
    replace hs := hs.below b_1 (by omega)
    replace hw := hw.below b_1 (by omega)
    have z_2 := b_1.size
    replace b0 := b0.trans (b_1.mono (by omega))
    clear b_1
    have bx_0 := bx.cell (j := 0) rfl
    have bx_1 := bx.cell (j := 1) rfl
    have bx_2 := bx.cell (j := 2) rfl
    have bx_3 := bx.cell (j := 3) rfl
    have bx_z := bx.frozen
    have bx_l := bx.lt
    have bR_0 := bR.cell (j := 0) rfl
    have bR_1 := bR.cell (j := 1) rfl
    have bR_2 := bR.cell (j := 2) rfl
    have bR_3 := bR.cell (j := 3) rfl
    have bR_z := bR.frozen
    have bR_l := bR.lt
    go_wp2_with fail
    clear bx_0 bx_1 bx_2 bx_3 bx_z bx_l bR_0 bR_1 bR_2 bR_3 bR_z bR_l
    generalize hwz : World.setCell (World.setCell (World.setCell (World.setCell _ _ _) _ _) _ _) _ _ = wz_
    obtain rfl : wz_ = setL w1 (w.heap.size + 1) 0 [.int .i64 0, .slice none 0 0, .slice none 0 0, .slice none 0 0] := hwz.symm
    clear hwz
    replace bx := bx.other (b := w.heap.size + 1) (by omega) 0 [.int .i64 0, .slice none 0 0, .slice none 0 0, .slice none 0 0]
    replace ht := ht.away (g := w.heap.size + 1) (by omega) 0 [.int .i64 0, .slice none 0 0, .slice none 0 0, .slice none 0 0]
    replace hs := hs.away (g := w.heap.size + 1) (by omega) 0 [.int .i64 0, .slice none 0 0, .slice none 0 0, .slice none 0 0]
    replace hw := hw.away (g := w.heap.size + 1) (by omega) 0 [.int .i64 0, .slice none 0 0, .slice none 0 0, .slice none 0 0]
    replace b0 := setL_below b0 [.int .i64 0, .slice none 0 0, .slice none 0 0, .slice none 0 0] (w.heap.size + 1) 0 (by omega)
    have zs_3 : (setL w1 (w.heap.size + 1) 0 [.int .i64 0, .slice none 0 0, .slice none 0 0, .slice none 0 0]).heap.size = w1.heap.size := setL_size _ _ _ _
    replace bR := bR.setAll [.int .i64 0, .slice none 0 0, .slice none 0 0, .slice none 0 0] rfl
    generalize setL w1 _ 0 _ = w3 at *
    have u0_ := bR.cell (j := 0) rfl
    have u1_ := bR.cell (j := 1) rfl
    have u2_ := bR.cell (j := 2) rfl
    have u3_ := bR.cell (j := 3) rfl
    refine bodyPost_ret (by simp only [results, Tryz.results22]; simp [go_sem, u0_, u1_, u2_, u3_]; rfl) rfl ?_
    exact ⟨_, _, _, by rw [HF.out.1, HF.out.2.1], by rw [HF.out.2.2.1]; exact Ow.nil_, by rw [HF.out.2.2.2.1]; exact Ow.nil_, by rw [HF.out.2.2.2.2]; exact Ow.nil_, b0⟩
  · have HP := Lib.hid (Fa.good_parts hg)
    cases hi_ : inB i 0 7
    · have HF := Lib.hid (Fa.ra_no (m := m) (st := st) (ls := ls) (lw := lw) (i := i) (p := p) (by simp [Fa.raOk, hi_]))
      rw [hg] at c1
      have c2 := fun W => isIrq_any i W
      rw [hi_] at c2
      clear hg hi_
      go_enter Tryz.func22, Tryz.ntmps22
      have bx_0 := bx.cell (j := 0) rfl
      have bx_1 := bx.cell (j := 1) rfl
      have bx_2 := bx.cell (j := 2) rfl
      have bx_3 := bx.cell (j := 3) rfl
      have bx_z := bx.frozen
      have bx_l := bx.lt
      have bR_0 := bR.cell (j := 0) rfl
      have bR_1 := bR.cell (j := 1) rfl
      have bR_2 := bR.cell (j := 2) rfl
      have bR_3 := bR.cell (j := 3) rfl
      have bR_z := bR.frozen
      have bR_l := bR.lt
      go_wp2_with fail
      clear hwA
      clear bx_0 bx_1 bx_2 bx_3 bx_z bx_l bR_0 bR_1 bR_2 bR_3 bR_z bR_l
      refine (c1).mono ?_; rintro q_ w1 ⟨rfl, b_1⟩
      replace bx := bx.below b_1 bx.lt
      replace bR := bR.below b_1 bR.lt
      replace ht := ht.below b_1 (by omega)
      replace hs := hs.below b_1 (by omega)
      replace hw := hw.below b_1 (by omega)
      have z_2 := b_1.size
      replace b0 := b0.trans (b_1.mono (by omega))
      clear b_1
      have bx_0 := bx.cell (j := 0) rfl
      have bx_1 := bx.cell (j := 1) rfl
      have bx_2 := bx.cell (j := 2) rfl
      have bx_3 := bx.cell (j := 3) rfl
      have bx_z := bx.frozen
      have bx_l := bx.lt
      have bR_0 := bR.cell (j := 0) rfl
      have bR_1 := bR.cell (j := 1) rfl
      have bR_2 := bR.cell (j := 2) rfl
      have bR_3 := bR.cell (j := 3) rfl
      have bR_z := bR.frozen
      have bR_l := bR.lt
      go_wp2_with fail
      clear bx_0 bx_1 bx_2 bx_3 bx_z bx_l bR_0 bR_1 bR_2 bR_3 bR_z bR_l
      refine (c2 w1).mono ?_; rintro q_ w_ ⟨rfl, rfl⟩
      have bx_0 := bx.cell (j := 0) rfl
      have bx_1 := bx.cell (j := 1) rfl
      have bx_2 := bx.cell (j := 2) rfl
      have bx_3 := bx.cell (j := 3) rfl
      have bx_z := bx.frozen
      have bx_l := bx.lt
      have bR_0 := bR.cell (j := 0) rfl
      have bR_1 := bR.cell (j := 1) rfl
      have bR_2 := bR.cell (j := 2) rfl
      have bR_3 := bR.cell (j := 3) rfl
      have bR_z := bR.frozen
      have bR_l := bR.lt
      go_wp2_with fail
      clear bx_0 bx_1 bx_2 bx_3 bx_z bx_l bR_0 bR_1 bR_2 bR_3 bR_z bR_l
      generalize hwz : World.setCell (World.setCell (World.setCell (World.setCell _ _ _) _ _) _ _) _ _ = wz_
      obtain rfl : wz_ = setL w1 (w.heap.size + 1) 0 [.int .i64 0, .slice none 0 0, .slice none 0 0, .slice none 0 0] := hwz.symm
      clear hwz
      replace bx := bx.other (b := w.heap.size + 1) (by omega) 0 [.int .i64 0, .slice none 0 0, .slice none 0 0, .slice none 0 0]
      replace ht := ht.away (g := w.heap.size + 1) (by omega) 0 [.int .i64 0, .slice none 0 0, .slice none 0 0, .slice none 0 0]
      replace hs := hs.away (g := w.heap.size + 1) (by omega) 0 [.int .i64 0, .slice none 0 0, .slice none 0 0, .slice none 0 0]
      replace hw := hw.away (g := w.heap.size + 1) (by omega) 0 [.int .i64 0, .slice none 0 0, .slice none 0 0, .slice none 0 0]
      replace b0 := setL_below b0 [.int .i64 0, .slice none 0 0, .slice none 0 0, .slice none 0 0] (w.heap.size + 1) 0 (by omega)
      have zs_3 : (setL w1 (w.heap.size + 1) 0 [.int .i64 0, .slice none 0 0, .slice none 0 0, .slice none 0 0]).heap.size = w1.heap.size := setL_size _ _ _ _
      replace bR := bR.setAll [.int .i64 0, .slice none 0 0, .slice none 0 0, .slice none 0 0] rfl
      generalize setL w1 _ 0 _ = w3 at *
      have u0_ := bR.cell (j := 0) rfl
      have u1_ := bR.cell (j := 1) rfl
      have u2_ := bR.cell (j := 2) rfl
      have u3_ := bR.cell (j := 3) rfl
      refine bodyPost_ret (by simp only [results, Tryz.results22]; simp [go_sem, u0_, u1_, u2_, u3_]; rfl) rfl ?_
      exact ⟨_, _, _, by rw [HF.out.1, HF.out.2.1], by rw [HF.out.2.2.1]; exact Ow.nil_, by rw [HF.out.2.2.2.1]; exact Ow.nil_, by rw [HF.out.2.2.2.2]; exact Ow.nil_, b0⟩
    · cases hp_ : inB p 0 15
      · have HF := Lib.hid (Fa.ra_no (m := m) (st := st) (ls := ls) (lw := lw) (i := i) (p := p) (by simp [Fa.raOk, hg, hi_, hp_]))
        have HI := Lib.hid hi_
        have HR := Lib.hid hp_
        rw [hg] at c1
        have c2 := fun W => isIrq_any i W
        rw [hi_] at c2
        have c3 := fun W => isPriority_any p W
        rw [hp_] at c3
        clear hg hi_ hp_
        go_enter Tryz.func22, Tryz.ntmps22
        have bx_0 := bx.cell (j := 0) rfl
        have bx_1 := bx.cell (j := 1) rfl
        have bx_2 := bx.cell (j := 2) rfl
        have bx_3 := bx.cell (j := 3) rfl
        have bx_z := bx.frozen
        have bx_l := bx.lt
        have bR_0 := bR.cell (j := 0) rfl
        have bR_1 := bR.cell (j := 1) rfl
        have bR_2 := bR.cell (j := 2) rfl
        have bR_3 := bR.cell (j := 3) rfl
        have bR_z := bR.frozen
        have bR_l := bR.lt
        go_wp2_with fail
        clear hwA
        clear bx_0 bx_1 bx_2 bx_3 bx_z bx_l bR_0 bR_1 bR_2 bR_3 bR_z bR_l
        refine (c1).mono ?_; rintro q_ w1 ⟨rfl, b_1⟩
        replace bx := bx.below b_1 bx.lt
        replace bR := bR.below b_1 bR.lt
        replace ht := ht.below b_1 (by omega)
        replace hs := hs.below b_1 (by omega)
        replace hw := hw.below b_1 (by omega)
        have z_2 := b_1.size
        replace b0 := b0.trans (b_1.mono (by omega))
        clear b_1
        have bx_0 := bx.cell (j := 0) rfl
        have bx_1 := bx.cell (j := 1) rfl
        have bx_2 := bx.cell (j := 2) rfl
        have bx_3 := bx.cell (j := 3) rfl
        have bx_z := bx.frozen
        have bx_l := bx.lt
        have bR_0 := bR.cell (j := 0) rfl
        have bR_1 := bR.cell (j := 1) rfl
        have bR_2 := bR.cell (j := 2) rfl
        have bR_3 := bR.cell (j := 3) rfl
        have bR_z := bR.frozen
        have bR_l := bR.lt
        go_wp2_with fail
        clear bx_0 bx_1 bx_2 bx_3 bx_z bx_l bR_0 bR_1 bR_2 bR_3 bR_z bR_l
        refine (c2 w1).mono ?_; rintro q_ w_ ⟨rfl, rfl⟩
        have bx_0 := bx.cell (j := 0) rfl
        have bx_1 := bx.cell (j := 1) rfl
        have bx_2 := bx.cell (j := 2) rfl
        have bx_3 := bx.cell (j := 3) rfl
        have bx_z := bx.frozen
        have bx_l := bx.lt
        have bR_0 := bR.cell (j := 0) rfl
        have bR_1 := bR.cell (j := 1) rfl
        have bR_2 := bR.cell (j := 2) rfl
        have bR_3 := bR.cell (j := 3) rfl
        have bR_z := bR.frozen
        have bR_l := bR.lt
        go_wp2_with fail
        clear bx_0 bx_1 bx_2 bx_3 bx_z bx_l bR_0 bR_1 bR_2 bR_3 bR_z bR_l
        refine (c3 w1).mono ?_; rintro q_ w_ ⟨rfl, rfl⟩
        have bx_0 := bx.cell (j := 0) rfl
        have bx_1 := bx.cell (j := 1) rfl
        have bx_2 := bx.cell (j := 2) rfl
        have bx_3 := bx.cell (j := 3) rfl
        have bx_z := bx.frozen
        have bx_l := bx.lt
        have bR_0 := bR.cell (j := 0) rfl
        have bR_1 := bR.cell (j := 1) rfl
        have bR_2 := bR.cell (j := 2) rfl
        have bR_3 := bR.cell (j := 3) rfl
        have bR_z := bR.frozen
        have bR_l := bR.lt
        go_wp2_with fail
        clear bx_0 bx_1 bx_2 bx_3 bx_z bx_l bR_0 bR_1 bR_2 bR_3 bR_z bR_l
        generalize hwz : World.setCell (World.setCell (World.setCell (World.setCell _ _ _) _ _) _ _) _ _ = wz_
        obtain rfl : wz_ = setL w1 (w.heap.size + 1) 0 [.int .i64 0, .slice none 0 0, .slice none 0 0, .slice none 0 0] := hwz.symm
        clear hwz
        replace bx := bx.other (b := w.heap.size + 1) (by omega) 0 [.int .i64 0, .slice none 0 0, .slice none 0 0, .slice none 0 0]
        replace ht := ht.away (g := w.heap.size + 1) (by omega) 0 [.int .i64 0, .slice none 0 0, .slice none 0 0, .slice none 0 0]
        replace hs := hs.away (g := w.heap.size + 1) (by omega) 0 [.int .i64 0, .slice none 0 0, .slice none 0 0, .slice none 0 0]
        replace hw := hw.away (g := w.heap.size + 1) (by omega) 0 [.int .i64 0, .slice none 0 0, .slice none 0 0, .slice none 0 0]
        replace b0 := setL_below b0 [.int .i64 0, .slice none 0 0, .slice none 0 0, .slice none 0 0] (w.heap.size + 1) 0 (by omega)
        have zs_3 : (setL w1 (w.heap.size + 1) 0 [.int .i64 0, .slice none 0 0, .slice none 0 0, .slice none 0 0]).heap.size = w1.heap.size := setL_size _ _ _ _
        replace bR := bR.setAll [.int .i64 0, .slice none 0 0, .slice none 0 0, .slice none 0 0] rfl
        generalize setL w1 _ 0 _ = w3 at *
        have u0_ := bR.cell (j := 0) rfl
        have u1_ := bR.cell (j := 1) rfl
        have u2_ := bR.cell (j := 2) rfl
        have u3_ := bR.cell (j := 3) rfl
        refine bodyPost_ret (by simp only [results, Tryz.results22]; simp [go_sem, u0_, u1_, u2_, u3_]; rfl) rfl ?_
        exact ⟨_, _, _, by rw [HF.out.1, HF.out.2.1], by rw [HF.out.2.2.1]; exact Ow.nil_, by rw [HF.out.2.2.2.1]; exact Ow.nil_, by rw [HF.out.2.2.2.2]; exact Ow.nil_, b0⟩
      · have HF := Lib.hid (Fa.ra_yes (m := m) (st := st) (ls := ls) (lw := lw) (i := i) (p := p) (by simp [Fa.raOk, hg, hi_, hp_]))
        have HI := Lib.hid hi_
        have HR := Lib.hid hp_
        rw [hg] at c1
        have c2 := fun W => isIrq_any i W
        rw [hi_] at c2
        have c3 := fun W => isPriority_any p W
        rw [hp_] at c3
        clear hg hi_ hp_
        go_enter Tryz.func22, Tryz.ntmps22
        have bx_0 := bx.cell (j := 0) rfl
        have bx_1 := bx.cell (j := 1) rfl
        have bx_2 := bx.cell (j := 2) rfl
        have bx_3 := bx.cell (j := 3) rfl
        have bx_z := bx.frozen
        have bx_l := bx.lt
        have bR_0 := bR.cell (j := 0) rfl
        have bR_1 := bR.cell (j := 1) rfl
        have bR_2 := bR.cell (j := 2) rfl
        have bR_3 := bR.cell (j := 3) rfl
        have bR_z := bR.frozen
        have bR_l := bR.lt
        go_wp2_with fail
        clear hwA
        clear bx_0 bx_1 bx_2 bx_3 bx_z bx_l bR_0 bR_1 bR_2 bR_3 bR_z bR_l
        refine (c1).mono ?_; rintro q_ w1 ⟨rfl, b_1⟩
        replace bx := bx.below b_1 bx.lt
        replace bR := bR.below b_1 bR.lt
        replace ht := ht.below b_1 (by omega)
        replace hs := hs.below b_1 (by omega)
        replace hw := hw.below b_1 (by omega)
        have z_2 := b_1.size
        replace b0 := b0.trans (b_1.mono (by omega))
        clear b_1
        have bx_0 := bx.cell (j := 0) rfl
        have bx_1 := bx.cell (j := 1) rfl
        have bx_2 := bx.cell (j := 2) rfl
        have bx_3 := bx.cell (j := 3) rfl
        have bx_z := bx.frozen
        have bx_l := bx.lt
        have bR_0 := bR.cell (j := 0) rfl
        have bR_1 := bR.cell (j := 1) rfl
        have bR_2 := bR.cell (j := 2) rfl
        have bR_3 := bR.cell (j := 3) rfl
        have bR_z := bR.frozen
        have bR_l := bR.lt
        go_wp2_with fail
        clear bx_0 bx_1 bx_2 bx_3 bx_z bx_l bR_0 bR_1 bR_2 bR_3 bR_z bR_l
        refine (c2 w1).mono ?_; rintro q_ w_ ⟨rfl, rfl⟩
        have bx_0 := bx.cell (j := 0) rfl
        have bx_1 := bx.cell (j := 1) rfl
        have bx_2 := bx.cell (j := 2) rfl
        have bx_3 := bx.cell (j := 3) rfl
        have bx_z := bx.frozen
        have bx_l := bx.lt
        have bR_0 := bR.cell (j := 0) rfl
        have bR_1 := bR.cell (j := 1) rfl
        have bR_2 := bR.cell (j := 2) rfl
        have bR_3 := bR.cell (j := 3) rfl
        have bR_z := bR.frozen
        have bR_l := bR.lt
        go_wp2_with fail
        clear bx_0 bx_1 bx_2 bx_3 bx_z bx_l bR_0 bR_1 bR_2 bR_3 bR_z bR_l
        refine (c3 w1).mono ?_; rintro q_ w_ ⟨rfl, rfl⟩
        have bx_0 := bx.cell (j := 0) rfl
        have bx_1 := bx.cell (j := 1) rfl
        have bx_2 := bx.cell (j := 2) rfl
        have bx_3 := bx.cell (j := 3) rfl
        have bx_z := bx.frozen
        have bx_l := bx.lt
        have bR_0 := bR.cell (j := 0) rfl
        have bR_1 := bR.cell (j := 1) rfl
        have bR_2 := bR.cell (j := 2) rfl
        have bR_3 := bR.cell (j := 3) rfl
        have bR_z := bR.frozen
        have bR_l := bR.lt
        go_wp2_with fail
        clear bx_0 bx_1 bx_2 bx_3 bx_z bx_l bR_0 bR_1 bR_2 bR_3 bR_z bR_l
        refine (implRaise_in m _ _ _ st ls lw w1 ht hs hw (by omega) (by omega) (by omega) i p hl HP.out HI.out HR.out).mono ?_; rintro q_ w3 ⟨v3, v4, v5, rfl, o3, o4, o5, b_3⟩
        replace bx := bx.below b_3 bx.lt
        replace bR := bR.below b_3 bR.lt
        replace ht := ht.below b_3 (by omega)
        replace hs := hs.below b_3 (by omega)
        replace hw := hw.below b_3 (by omega)
        have z_4 := b_3.size
        replace b0 := b0.trans (b_3.mono (by omega))
        clear b_3
        obtain ⟨A3, n3, d3, rfl, _, _, _⟩ := o3.rd.form
        obtain ⟨A4, n4, d4, rfl, _, _, _⟩ := o4.rd.form
        obtain ⟨A5, n5, d5, rfl, _, _, _⟩ := o5.rd.form
        have bx_0 := bx.cell (j := 0) rfl
        have bx_1 := bx.cell (j := 1) rfl
        have bx_2 := bx.cell (j := 2) rfl
        have bx_3 := bx.cell (j := 3) rfl
        have bx_z := bx.frozen
        have bx_l := bx.lt
        have bR_0 := bR.cell (j := 0) rfl
        have bR_1 := bR.cell (j := 1) rfl
        have bR_2 := bR.cell (j := 2) rfl
        have bR_3 := bR.cell (j := 3) rfl
        have bR_z := bR.frozen
        have bR_l := bR.lt
        go_wp2_with fail
        clear bx_0 bx_1 bx_2 bx_3 bx_z bx_l bR_0 bR_1 bR_2 bR_3 bR_z bR_l
        generalize hwz : World.setCell (World.setCell (World.setCell (World.setCell _ _ _) _ _) _ _) _ _ = wz_
        obtain rfl : wz_ = setL w3 (w.heap.size + 1) 0 [.int .i64 m, .slice A3 n3 d3, .slice A4 n4 d4, .slice A5 n5 d5] := hwz.symm
        clear hwz
        replace bx := bx.other (b := w.heap.size + 1) (by omega) 0 [.int .i64 m, .slice A3 n3 d3, .slice A4 n4 d4, .slice A5 n5 d5]
        replace ht := ht.away (g := w.heap.size + 1) (by omega) 0 [.int .i64 m, .slice A3 n3 d3, .slice A4 n4 d4, .slice A5 n5 d5]
        replace hs := hs.away (g := w.heap.size + 1) (by omega) 0 [.int .i64 m, .slice A3 n3 d3, .slice A4 n4 d4, .slice A5 n5 d5]
        replace hw := hw.away (g := w.heap.size + 1) (by omega) 0 [.int .i64 m, .slice A3 n3 d3, .slice A4 n4 d4, .slice A5 n5 d5]
        replace o3 := o3.box (g := w.heap.size + 1) bR (by decide) 0 [.int .i64 m, .slice A3 n3 d3, .slice A4 n4 d4, .slice A5 n5 d5]
        replace o4 := o4.box (g := w.heap.size + 1) bR (by decide) 0 [.int .i64 m, .slice A3 n3 d3, .slice A4 n4 d4, .slice A5 n5 d5]
        replace o5 := o5.box (g := w.heap.size + 1) bR (by decide) 0 [.int .i64 m, .slice A3 n3 d3, .slice A4 n4 d4, .slice A5 n5 d5]
        replace b0 := setL_below b0 [.int .i64 m, .slice A3 n3 d3, .slice A4 n4 d4, .slice A5 n5 d5] (w.heap.size + 1) 0 (by omega)
        have zs_5 : (setL w3 (w.heap.size + 1) 0 [.int .i64 m, .slice A3 n3 d3, .slice A4 n4 d4, .slice A5 n5 d5]).heap.size = w3.heap.size := setL_size _ _ _ _
        replace bR := bR.setAll [.int .i64 m, .slice A3 n3 d3, .slice A4 n4 d4, .slice A5 n5 d5] rfl
        generalize setL w3 _ 0 _ = w5 at *
        have u0_ := bR.cell (j := 0) rfl
        have u1_ := bR.cell (j := 1) rfl
        have u2_ := bR.cell (j := 2) rfl
        have u3_ := bR.cell (j := 3) rfl
        refine bodyPost_ret (by simp only [results, Tryz.results22]; simp [go_sem, u0_, u1_, u2_, u3_]; rfl) rfl ?_
        exact ⟨_, _, _, by rw [HF.out.1, HF.out.2.1], by rw [HF.out.2.2.1]; exact o3.mono (by omega) (by omega), by rw [HF.out.2.2.2.1]; exact o4.mono (by omega) (by omega), by rw [HF.out.2.2.2.2]; exact o5.mono (by omega) (by omega), b0⟩

end Go.Proofs.YtengaccnncnipaaGreat
