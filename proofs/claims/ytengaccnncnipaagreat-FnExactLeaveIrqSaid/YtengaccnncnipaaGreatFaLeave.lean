/- Leaving the last interrupt of an interface's stack, in the program and in the reference. Condition: at most 1048576 numbers on the stack. -/
import Derived.Test.YtengaccnncnipaaGreatFaRaise
import Derived.Test.YtengaccnncnipaaGreatQuPub
namespace Go.Proofs.YtengaccnncnipaaGreat
open Go.RowKit Go.ChangeShapes Go.WideShapes Go.Deep

theorem Nm.at_ {w : World} {lo hi b off n c k : Nat} {x : Int} {l : List Int} (h : Rd Nm.cells 1 w lo hi (.slice (some ⟨b, off, none⟩) n c) l) (hx : l[k]? = some x) : w.cell? ⟨b, off + k, none⟩ = some (.int .i64 x) := by
  obtain ⟨A, c', hv, _, _, h3⟩ := h
  injection hv with e1 e2 e3
  subst e1
  obtain ⟨b', off', hA, _, _, h4⟩ := h3 (by have := (List.getElem?_eq_some_iff.1 hx).1; omega)
  injection hA with hA
  injection hA with e4 e5
  subst e4; subst e5
  simpa using h4 k x hx 0 _ rfl
def Fa.top (st : List Int) : Int := st.getLast?.getD 0
def Fa.lvOk (m : Int) (st : List Int) (ls : List Sl) (lw : List Wt) : Bool := Fa.good m st ls lw && decide (0 < st.length)
def Fa.lvM (m : Int) (st : List Int) (ls : List Sl) (lw : List Wt) : Int := if Fa.lvOk m st ls lw then m else 0
def Fa.lvI (m : Int) (st : List Int) (ls : List Sl) (lw : List Wt) : Int := if Fa.lvOk m st ls lw then Fa.top st else 0
def Fa.lvT (m : Int) (st : List Int) (ls : List Sl) (lw : List Wt) : List Int := if Fa.lvOk m st ls lw then st.dropLast else []
def Fa.lvS (m : Int) (st : List Int) (ls : List Sl) (lw : List Wt) : List Sl := if Fa.lvOk m st ls lw then (Qu.enP ls lw (Fa.top st)).1 else []
def Fa.lvW (m : Int) (st : List Int) (ls : List Sl) (lw : List Wt) : List Wt := if Fa.lvOk m st ls lw then (Qu.enP ls lw (Fa.top st)).2 else []
theorem Fa.lv_no {m : Int} {st : List Int} {ls : List Sl} {lw : List Wt} (h : Fa.lvOk m st ls lw = false) : Fa.lvOk m st ls lw = false ∧ Fa.lvM m st ls lw = 0 ∧ Fa.lvI m st ls lw = 0 ∧ Fa.lvT m st ls lw = [] ∧ Fa.lvS m st ls lw = [] ∧ Fa.lvW m st ls lw = [] := by simp [Fa.lvM, Fa.lvI, Fa.lvT, Fa.lvS, Fa.lvW, h]
theorem Fa.top_at {st : List Int} {j : Nat} {x : Int} (hj : j + 1 = st.length) (hx : st[j]? = some x) : st = st.take j ++ [x] ∧ st.dropLast = st.take j ∧ Fa.top st = x := by
  have e : st = st.take j ++ [x] := by
    conv => lhs; rw [← List.take_length (l := st), ← hj, List.take_add_one, hx]
    rfl
  refine ⟨e, by rw [List.dropLast_eq_take, ← hj]; simp, ?_⟩
  rw [Fa.top, List.getLast?_eq_getElem?, ← hj]
  simp [hx]
theorem Fa.lv_yes {m : Int} {st : List Int} {ls : List Sl} {lw : List Wt} {j : Nat} {x : Int} (hg : Fa.good m st ls lw = true) (hj : j + 1 = st.length) (hx : st[j]? = some x) : Fa.lvOk m st ls lw = true ∧ Fa.lvM m st ls lw = m ∧ Fa.lvI m st ls lw = x ∧ Fa.lvT m st ls lw = st.take j ∧ Fa.lvS m st ls lw = (Qu.enP ls lw x).1 ∧ Fa.lvW m st ls lw = (Qu.enP ls lw x).2 := by
  have h : Fa.lvOk m st ls lw = true := by simp [Fa.lvOk, hg]; omega
  obtain ⟨_, e2, e3⟩ := Fa.top_at hj hx
  simp [Fa.lvM, Fa.lvI, Fa.lvT, Fa.lvS, Fa.lvW, h, e2, e3]
theorem Fa.lv_end {m : Int} {st : List Int} {ls : List Sl} {lw : List Wt} {j : Nat} {x : Int} (hg : Fa.good m st ls lw = true) (hj : j + 1 = st.length) (hx : st[j]? = some x) : Sl.endOk ls x = true ∧ Fa.Ok (st.take j) (Qu.enP ls lw x).1 := by
  obtain ⟨_, hq, ho⟩ := Fa.good_iff.1 hg
  rw [(Fa.top_at hj hx).1] at ho
  exact Fa.leave_ok (Qu.good_parts hq).1 ho

set_option maxHeartbeats 2000000 in
theorem specLeave_nil (m : Int) (vt vs vw : Value) (st : List Int) (ls : List Sl) (lw : List Wt) (w : World) {lo hi lo2 hi2 lo3 hi3 : Nat} (h0 : Rd Nm.cells 1 w lo3 hi3 vt st) (h : Rd Sl.cells 3 w lo hi vs ls) (h2 : Rd Wt.cells 2 w lo2 hi2 vw lw) (hh0 : hi3 ≤ w.heap.size) (hh : hi ≤ w.heap.size) (hh2 : hi2 ≤ w.heap.size) (hz : st = []) :
    Calls Tryz.prog 64 #[.agg #[.int .i64 m, vt, vs, vw]] w fun e w' => e = .returned (.tuple #[.agg #[.int .i64 m, vt, vs, vw], .int .i64 (-1)]) ∧ Below w.heap.size w w' := by
  have b0 : Below w.heap.size w ((w.alloc (.cells #[.int .i64 m, vt, vs, vw] 35)).alloc (.cells #[.int .i64 0, .slice none 0 0, .slice none 0 0, .slice none 0 0] 35)) := ((Below.refl w.heap.size w).alloc (Nat.le_refl _) _).alloc (by simp) _
  have z0 : ((w.alloc (.cells #[.int .i64 m, vt, vs, vw] 35)).alloc (.cells #[.int .i64 0, .slice none 0 0, .slice none 0 0, .slice none 0 0] 35)).heap.size = w.heap.size + 2 := by simp
  have bx := Box.new w #[.int .i64 m, vt, vs, vw] 35 rfl
  have bR := Box.new (g := w.heap.size + 1) (w.alloc (.cells #[.int .i64 m, vt, vs, vw] 35)) #[.int .i64 0, .slice none 0 0, .slice none 0 0, .slice none 0 0] 35 (by simp)
  replace bx := bx.below ((Below.refl _ (w.alloc (.cells #[.int .i64 m, vt, vs, vw] 35))).alloc (Nat.le_refl _) (.cells #[.int .i64 0, .slice none 0 0, .slice none 0 0, .slice none 0 0] 35)) bx.lt
  have ht := h0.below b0 hh0
  have hs := h.below b0 hh
  have hw := h2.below b0 hh2
  have hv0_ := h0.form
  have hv_ := h.form
  have hv2_ := h2.form
  clear h0 h h2
  generalize hwA : (w.alloc (.cells #[.int .i64 m, vt, vs, vw] 35)).alloc (.cells #[.int .i64 0, .slice none 0 0, .slice none 0 0, .slice none 0 0] 35) = wA at *
  obtain ⟨At, nt, dt, rfl, _, _, _⟩ := hv0_
  obtain ⟨A0, n0, d0, rfl, _, _, _⟩ := hv_
  obtain ⟨A1, n1, d1, rfl, _, _, _⟩ := hv2_
  obtain ⟨rfl⟩ : nt = 0 := by have := ht.n_eq.1; simpa [hz] using this
  go_enter Tryz.func64, Tryz.ntmps64
  have bx_0 := bx.cell (j := 0) rfl
  have bx_1 := bx.cell (j := 1) rfl
  have bx_2 := bx.cell (j := 2) rfl
  have bx_3 := bx.cell (j := 3) rfl
  have bx_z := bx.frozen
  have bx_l := bx.lt
  have bR_0 := bR.cell (j := 0) rfl
  have bR_1 := bR.cell (j := 1) rfl
  have bR_2 := bR.cell (j := 2) rfl
  have bR_3 := bR.cell (j := 3) rfl
  have bR_z := bR.frozen
  have bR_l := bR.lt
  go_wp2_with fail
  clear hwA
  clear bx_0 bx_1 bx_2 bx_3 bx_z bx_l bR_0 bR_1 bR_2 bR_3 bR_z bR_l
  generalize hwz : World.setCell (World.setCell (World.setCell (World.setCell _ _ _) _ _) _ _) _ _ = wz_
  obtain rfl : wz_ = setL wA (w.heap.size + 1) 0 [.int .i64 m, .slice At 0 dt, .slice A0 n0 d0, .slice A1 n1 d1] := hwz.symm
  clear hwz
  replace bx := bx.other (b := w.heap.size + 1) (by omega) 0 [.int .i64 m, .slice At 0 dt, .slice A0 n0 d0, .slice A1 n1 d1]
  replace ht := ht.away (g := w.heap.size + 1) (by omega) 0 [.int .i64 m, .slice At 0 dt, .slice A0 n0 d0, .slice A1 n1 d1]
  replace hs := hs.away (g := w.heap.size + 1) (by omega) 0 [.int .i64 m, .slice At 0 dt, .slice A0 n0 d0, .slice A1 n1 d1]
  replace hw := hw.away (g := w.heap.size + 1) (by omega) 0 [.int .i64 m, .slice At 0 dt, .slice A0 n0 d0, .slice A1 n1 d1]
  replace b0 := setL_below b0 [.int .i64 m, .slice At 0 dt, .slice A0 n0 d0, .slice A1 n1 d1] (w.heap.size + 1) 0 (by omega)
  have zs_1 : (setL wA (w.heap.size + 1) 0 [.int .i64 m, .slice At 0 dt, .slice A0 n0 d0, .slice A1 n1 d1]).heap.size = wA.heap.size := setL_size _ _ _ _
  replace bR := bR.setAll [.int .i64 m, .slice At 0 dt, .slice A0 n0 d0, .slice A1 n1 d1] rfl
  generalize setL wA _ 0 _ = w1 at *
  have u0_ := bR.cell (j := 0) rfl
  have u1_ := bR.cell (j := 1) rfl
  have u2_ := bR.cell (j := 2) rfl
  have u3_ := bR.cell (j := 3) rfl
  refine bodyPost_ret (by simp only [results, Tryz.results64]; simp [go_sem, u0_, u1_, u2_, u3_]; rfl) rfl ?_
  exact ⟨rfl, b0⟩
set_option maxHeartbeats 4000000 in
theorem specLeave_in (m : Int) (vt vs vw : Value) (st : List Int) (ls : List Sl) (lw : List Wt) (w : World) {lo hi lo2 hi2 lo3 hi3 : Nat} (h0 : Rd Nm.cells 1 w lo3 hi3 vt st) (h : Rd Sl.cells 3 w lo hi vs ls) (h2 : Rd Wt.cells 2 w lo2 hi2 vw lw) (hh0 : hi3 ≤ w.heap.size) (hh : hi ≤ w.heap.size) (hh2 : hi2 ≤ w.heap.size) (hl : st.length ≤ 1048576) (hp : Qu.parts ls lw = true) {j : Nat} {x : Int} (hj : j + 1 = st.length) (hx : st[j]? = some x) (hk : Sl.endOk ls x = true) :
    Calls Tryz.prog 64 #[.agg #[.int .i64 m, vt, vs, vw]] w fun e w' => ∃ v0 v1 v2, e = .returned (.tuple #[.agg #[.int .i64 m, v0, v1, v2], .int .i64 x]) ∧ Ow Nm.cells 1 3 w' w.heap.size w'.heap.size v0 (st.take j) ∧ Ow Sl.cells 3 127 w' w.heap.size w'.heap.size v1 ((Qu.enP ls lw x).1) ∧ Ow Wt.cells 2 134 w' w.heap.size w'.heap.size v2 ((Qu.enP ls lw x).2) ∧ Below w.heap.size w w' := by
  have b0 : Below w.heap.size w ((w.alloc (.cells #[.int .i64 m, vt, vs, vw] 35)).alloc (.cells #[.int .i64 0, .slice none 0 0, .slice none 0 0, .slice none 0 0] 35)) := ((Below.refl w.heap.size w).alloc (Nat.le_refl _) _).alloc (by simp) _
  have z0 : ((w.alloc (.cells #[.int .i64 m, vt, vs, vw] 35)).alloc (.cells #[.int .i64 0, .slice none 0 0, .slice none 0 0, .slice none 0 0] 35)).heap.size = w.heap.size + 2 := by simp
  have bx := Box.new w #[.int .i64 m, vt, vs, vw] 35 rfl
  have bR := Box.new (g := w.heap.size + 1) (w.alloc (.cells #[.int .i64 m, vt, vs, vw] 35)) #[.int .i64 0, .slice none 0 0, .slice none 0 0, .slice none 0 0] 35 (by simp)
  replace bx := bx.below ((Below.refl _ (w.alloc (.cells #[.int .i64 m, vt, vs, vw] 35))).alloc (Nat.le_refl _) (.cells #[.int .i64 0, .slice none 0 0, .slice none 0 0, .slice none 0 0] 35)) bx.lt
  have ht := h0.below b0 hh0
  have hs := h.below b0 hh
  have hw := h2.below b0 hh2
  have hv0_ := h0.form
  have hv_ := h.form
  have hv2_ := h2.form
  clear h0 h h2
  generalize hwA : (w.alloc (.cells #[.int .i64 m, vt, vs, vw] 35)).alloc (.cells #[.int .i64 0, .slice none 0 0, .slice none 0 0, .slice none 0 0] 35) = wA at *
  obtain ⟨At, nt, dt, rfl, _, _, _⟩ := hv0_
  obtain ⟨A0, n0, d0, rfl, _, _, _⟩ := hv_
  obtain ⟨A1, n1, d1, rfl, _, _, _⟩ := hv2_
  have hn := Nat.le_of_eq ht.n_eq.1
  have hn' := Nat.le_of_eq ht.n_eq.1.symm
  have hc := ht.n_eq.2
  have hj1 : j < nt := by omega
  obtain ⟨b, off, x', rfl, hx', _, hbh, f0⟩ := Nm.get ht hj1 (Below.refl wA.heap.size wA) (by omega)
  clear f0 hx' x'
  have HP := Lib.hid hp
  have HX := Lib.hid hx
  have HE := Lib.hid (Qu.ei_yes hk lw)
  have HK := Lib.hid hk
  have hje : (nt : Int) - 1 = (j : Int) := by omega
  have hjn : (j : Int) < (nt : Int) := by omega
  have hjl : (j : Int) ≤ (nt : Int) := by omega
  have hjc : (j : Int) ≤ (dt : Int) := by omega
  have hjm : dt ≤ 9223372036854775807 := by have := hc.2; unfold maxLen at this; omega
  have hzd2 : ((nt : Int) == 0) = false := by rw [beq_eq_false_iff_ne]; omega
  have hjd : decide ((j : Int) < 0) = false := decide_eq_false (by omega)
  have hjw : IntKind.i64.wrap (j : Int) = (j : Int) := IntWalk.i64_in _ (by omega)
  have hjnn : j ≤ nt := by omega
  have hjl2 : (st.take j).length ≤ 1048576 := by rw [List.length_take]; omega
  clear hp hx hk hj hn hn' hc
  go_enter Tryz.func64, Tryz.ntmps64
  have bx_0 := bx.cell (j := 0) rfl
  have bx_1 := bx.cell (j := 1) rfl
  have bx_2 := bx.cell (j := 2) rfl
  have bx_3 := bx.cell (j := 3) rfl
  have bx_z := bx.frozen
  have bx_l := bx.lt
  have bR_0 := bR.cell (j := 0) rfl
  have bR_1 := bR.cell (j := 1) rfl
  have bR_2 := bR.cell (j := 2) rfl
  have bR_3 := bR.cell (j := 3) rfl
  have bR_z := bR.frozen
  have bR_l := bR.lt
  go_upto_region 4 with fail
  clear hwA
  clear bx_0 bx_1 bx_2 bx_3 bx_z bx_l bR_0 bR_1 bR_2 bR_3 bR_z bR_l
  go_cut [5, 6] (fun s5 s6 wx => ∃ (ww : World) (gT : Nat) (v1 v2 : Value), ww = wx ∧ s5 = .pointer (some ⟨gT, 0, none⟩) ∧ s6 = .bool (Sl.endOk ls x) ∧ Below wA.heap.size wA wx ∧ wA.heap.size ≤ gT ∧ Box wx gT 33 [v1, v2] ∧ Ow Sl.cells 3 127 wx wA.heap.size wx.heap.size v1 (Qu.eiS ls lw x) ∧ Ow Wt.cells 2 134 wx wA.heap.size wx.heap.size v2 (Qu.eiW ls lw x))
  case first =>
    have bC := Below.refl wA.heap.size wA
    have zB := b0.size
    refine wp_region_held_drew (S := fun W => Box W (w.heap.size) 35 [.int .i64 m, .slice (some ⟨b, off, none⟩) nt dt, .slice A0 n0 d0, .slice A1 n1 d1] ∧ Rd Nm.cells 1 W lo3 hi3 (.slice (some ⟨b, off, none⟩) nt dt) st) (by kernel_rfl) (show (fun (W : World) => Box W (w.heap.size) 35 [.int .i64 m, .slice (some ⟨b, off, none⟩) nt dt, .slice A0 n0 d0, .slice A1 n1 d1] ∧ Rd Nm.cells 1 W lo3 hi3 (.slice (some ⟨b, off, none⟩) nt dt) st) wA.drew from ⟨bx, ht.drew⟩) (fun hHeld => ?_)
    refine wpAnyH_take (i := 0) (v := .pointer (some ⟨w.heap.size, 2, none⟩)) rfl (by kernel_rfl) (by kernel_rfl) (by kernel_rfl) (fun _ _ _ h => h) (Or.inl ⟨by rfl, by intro w hSw; obtain ⟨hS0, hS1⟩ := hSw; have y00 := hS0.cell (j := 0) rfl; have y01 := hS0.cell (j := 1) rfl; have y02 := hS0.cell (j := 2) rfl; have y03 := hS0.cell (j := 3) rfl; have yx := Nm.at_ hS1 HX.out; go_simp⟩) hHeld ?_
    refine wpAnyH_take (i := 1) (v := .agg #[.slice A0 n0 d0, .slice A1 n1 d1]) rfl (by kernel_rfl) (by kernel_rfl) (by kernel_rfl) (fun _ _ _ h => h) (Or.inl ⟨by rfl, by intro w hSw; obtain ⟨hS0, hS1⟩ := hSw; have y00 := hS0.cell (j := 0) rfl; have y01 := hS0.cell (j := 1) rfl; have y02 := hS0.cell (j := 2) rfl; have y03 := hS0.cell (j := 3) rfl; have yx := Nm.at_ hS1 HX.out; go_simp⟩) hHeld ?_
    refine wpAnyH_take (i := 2) (v := .pointer (some ⟨w.heap.size, 1, none⟩)) rfl (by kernel_rfl) (by kernel_rfl) (by kernel_rfl) (fun _ _ _ h => h) (Or.inl ⟨by rfl, by intro w hSw; obtain ⟨hS0, hS1⟩ := hSw; have y00 := hS0.cell (j := 0) rfl; have y01 := hS0.cell (j := 1) rfl; have y02 := hS0.cell (j := 2) rfl; have y03 := hS0.cell (j := 3) rfl; have yx := Nm.at_ hS1 HX.out; go_simp⟩) hHeld ?_
    refine wpAnyH_take (i := 3) (v := .slice (some ⟨b, off, none⟩) nt dt) rfl (by kernel_rfl) (by kernel_rfl) (by kernel_rfl) (fun _ _ _ h => h) (Or.inl ⟨by rfl, by intro w hSw; obtain ⟨hS0, hS1⟩ := hSw; have y00 := hS0.cell (j := 0) rfl; have y01 := hS0.cell (j := 1) rfl; have y02 := hS0.cell (j := 2) rfl; have y03 := hS0.cell (j := 3) rfl; have yx := Nm.at_ hS1 HX.out; go_simp⟩) hHeld ?_
    refine wpAnyH_take (i := 4) (v := .int .i64 nt) rfl (by kernel_rfl) (by kernel_rfl) (by kernel_rfl) (fun _ _ _ h => h) (Or.inl ⟨by rfl, by intro w hSw; obtain ⟨hS0, hS1⟩ := hSw; have y00 := hS0.cell (j := 0) rfl; have y01 := hS0.cell (j := 1) rfl; have y02 := hS0.cell (j := 2) rfl; have y03 := hS0.cell (j := 3) rfl; have yx := Nm.at_ hS1 HX.out; go_simp⟩) hHeld ?_
    refine wpAnyH_take (i := 5) (v := .int .i64 j) rfl (by kernel_rfl) (by kernel_rfl) (by kernel_rfl) (fun _ _ _ h => h) (Or.inl ⟨by rfl, by intro w hSw; obtain ⟨hS0, hS1⟩ := hSw; have y00 := hS0.cell (j := 0) rfl; have y01 := hS0.cell (j := 1) rfl; have y02 := hS0.cell (j := 2) rfl; have y03 := hS0.cell (j := 3) rfl; have yx := Nm.at_ hS1 HX.out; go_simp⟩) hHeld ?_
    refine wpAnyH_take (i := 6) (v := .pointer (some ⟨b, off + j, none⟩)) rfl (by kernel_rfl) (by kernel_rfl) (by kernel_rfl) (fun _ _ _ h => h) (Or.inl ⟨by rfl, by intro w hSw; obtain ⟨hS0, hS1⟩ := hSw; have y00 := hS0.cell (j := 0) rfl; have y01 := hS0.cell (j := 1) rfl; have y02 := hS0.cell (j := 2) rfl; have y03 := hS0.cell (j := 3) rfl; have yx := Nm.at_ hS1 HX.out; go_simp⟩) hHeld ?_
    refine wpAnyH_take (i := 7) (v := .int .i64 x) rfl (by kernel_rfl) (by kernel_rfl) (by kernel_rfl) (fun _ _ _ h => h) (Or.inl ⟨by rfl, by intro w hSw; obtain ⟨hS0, hS1⟩ := hSw; have y00 := hS0.cell (j := 0) rfl; have y01 := hS0.cell (j := 1) rfl; have y02 := hS0.cell (j := 2) rfl; have y03 := hS0.cell (j := 3) rfl; have yx := Nm.at_ hS1 HX.out; go_simp⟩) hHeld ?_
    clear hHeld
    refine held_gen (F := fun W' => Below wA.heap.size wA W') (Below.refl wA.heap.size wA).drew ?_
    rintro w1 b_1
    replace bx := bx.below b_1 bx.lt
    replace bR := bR.below b_1 bR.lt
    replace ht := ht.below b_1 (by omega)
    replace hs := hs.below b_1 (by omega)
    replace hw := hw.below b_1 (by omega)
    have z_2 := b_1.size
    replace bC := bC.trans (b_1.mono (by omega))
    clear b_1
    refine wpAnyH_ready (rs := [8, 12]) (by kernel_rfl) (by decide) ?_
    refine AllReadyH.cons rfl (fun K3a hK3a => ?_) (AllReadyH.cons rfl (fun K3b hK3b => ?_) AllReadyH.nil)
    · go_simp
      refine (specEndQ_in _ _ ls lw x w1 hs hw (by omega) (by omega) HP.out).mono ?_; rintro q_ w4 ⟨v5, v6, rfl, o5, o6, b_4⟩
      replace bx := bx.below b_4 bx.lt
      replace bR := bR.below b_4 bR.lt
      replace ht := ht.below b_4 (by omega)
      replace hs := hs.below b_4 (by omega)
      replace hw := hw.below b_4 (by omega)
      have z_5 := b_4.size
      replace bC := bC.trans (b_4.mono (by omega))
      clear b_4
      obtain ⟨A5, n5, d5, rfl, _, _, _⟩ := o5.rd.form
      obtain ⟨A6, n6, d6, rfl, _, _, _⟩ := o6.rd.form
      refine hK3a.out _ _ ⟨bx, ht⟩ (fun _ => ?_)
      have hHeld : (fun (W : World) => Box W (w.heap.size) 35 [.int .i64 m, .slice (some ⟨b, off, none⟩) nt dt, .slice A0 n0 d0, .slice A1 n1 d1] ∧ Rd Nm.cells 1 W lo3 hi3 (.slice (some ⟨b, off, none⟩) nt dt) st) w4 := ⟨bx, ht⟩
      refine wpAnyH_take (i := 9) (v := .tuple #[.agg #[.slice A5 n5 d5, .slice A6 n6 d6], .bool (Sl.endOk ls x)]) rfl (by kernel_rfl) (by kernel_rfl) (by kernel_rfl) (fun _ _ _ h => h) (Or.inl ⟨by rfl, by intro w hSw; obtain ⟨hS0, hS1⟩ := hSw; have y00 := hS0.cell (j := 0) rfl; have y01 := hS0.cell (j := 1) rfl; have y02 := hS0.cell (j := 2) rfl; have y03 := hS0.cell (j := 3) rfl; have yx := Nm.at_ hS1 HX.out; go_simp⟩) hHeld ?_
      refine wpAnyH_take (i := 10) (v := .agg #[.slice A5 n5 d5, .slice A6 n6 d6]) rfl (by kernel_rfl) (by kernel_rfl) (by kernel_rfl) (fun _ _ _ h => h) (Or.inl ⟨by rfl, by intro w hSw; obtain ⟨hS0, hS1⟩ := hSw; have y00 := hS0.cell (j := 0) rfl; have y01 := hS0.cell (j := 1) rfl; have y02 := hS0.cell (j := 2) rfl; have y03 := hS0.cell (j := 3) rfl; have yx := Nm.at_ hS1 HX.out; go_simp⟩) hHeld ?_
      refine wpAnyH_take (i := 11) (v := .bool (Sl.endOk ls x)) rfl (by kernel_rfl) (by kernel_rfl) (by kernel_rfl) (fun _ _ _ h => h) (Or.inl ⟨by rfl, by intro w hSw; obtain ⟨hS0, hS1⟩ := hSw; have y00 := hS0.cell (j := 0) rfl; have y01 := hS0.cell (j := 1) rfl; have y02 := hS0.cell (j := 2) rfl; have y03 := hS0.cell (j := 3) rfl; have yx := Nm.at_ hS1 HX.out; go_simp⟩) hHeld ?_
      clear hHeld
      refine wpAnyH_ready (rs := [12]) (by kernel_rfl) (by decide) ?_
      refine AllReadyH.cons rfl (fun K6 hK6 => ?_) AllReadyH.nil
      go_simp
      have b_7 := (Below.refl w4.heap.size w4).alloc (Nat.le_refl _) (.cells #[.slice none 0 0, .slice none 0 0] 33)
      have bT := Box.new w4 #[.slice none 0 0, .slice none 0 0] 33 rfl
      replace bx := bx.below b_7 bx.lt
      replace bR := bR.below b_7 bR.lt
      replace ht := ht.below b_7 (by omega)
      replace hs := hs.below b_7 (by omega)
      replace hw := hw.below b_7 (by omega)
      replace o5 := o5.below b_7 (by omega)
      replace o6 := o6.below b_7 (by omega)
      have z_8 := b_7.size
      replace bC := bC.trans (b_7.mono (by omega))
      clear b_7
      generalize w4.alloc _ = w7 at *
      generalize w4.heap.size = g7 at *
      refine hK6.out _ _ ⟨bx, ht⟩ (fun _ => ?_)
      refine wpAnyH_ready (rs := [13]) (by kernel_rfl) (by decide) ?_
      refine AllReadyH.cons rfl (fun K9 hK9 => ?_) AllReadyH.nil
      have bx_0 := bx.cell (j := 0) rfl
      have bx_1 := bx.cell (j := 1) rfl
      have bx_2 := bx.cell (j := 2) rfl
      have bx_3 := bx.cell (j := 3) rfl
      have bx_z := bx.frozen
      have bx_l := bx.lt
      have bR_0 := bR.cell (j := 0) rfl
      have bR_1 := bR.cell (j := 1) rfl
      have bR_2 := bR.cell (j := 2) rfl
      have bR_3 := bR.cell (j := 3) rfl
      have bR_z := bR.frozen
      have bR_l := bR.lt
      have bT_0 := bT.cell (j := 0) rfl
      have bT_1 := bT.cell (j := 1) rfl
      have bT_z := bT.frozen
      have bT_l := bT.lt
      go_simp
      clear bx_0 bx_1 bx_2 bx_3 bx_z bx_l bR_0 bR_1 bR_2 bR_3 bR_z bR_l bT_0 bT_1 bT_z bT_l
      generalize hwz : World.setCell (World.setCell _ _ _) _ _ = wz_
      obtain rfl : wz_ = setL w7 (g7) 0 [.slice A5 n5 d5, .slice A6 n6 d6] := hwz.symm
      clear hwz
      replace bx := bx.other (b := g7) (by omega) 0 [.slice A5 n5 d5, .slice A6 n6 d6]
      replace bR := bR.other (b := g7) (by omega) 0 [.slice A5 n5 d5, .slice A6 n6 d6]
      replace ht := ht.away (g := g7) (by omega) 0 [.slice A5 n5 d5, .slice A6 n6 d6]
      replace hs := hs.away (g := g7) (by omega) 0 [.slice A5 n5 d5, .slice A6 n6 d6]
      replace hw := hw.away (g := g7) (by omega) 0 [.slice A5 n5 d5, .slice A6 n6 d6]
      replace o5 := o5.box (g := g7) bT (by decide) 0 [.slice A5 n5 d5, .slice A6 n6 d6]
      replace o6 := o6.box (g := g7) bT (by decide) 0 [.slice A5 n5 d5, .slice A6 n6 d6]
      replace bC := setL_below bC [.slice A5 n5 d5, .slice A6 n6 d6] (g7) 0 (by omega)
      have zs_10 : (setL w7 (g7) 0 [.slice A5 n5 d5, .slice A6 n6 d6]).heap.size = w7.heap.size := setL_size _ _ _ _
      replace bT := bT.setAll [.slice A5 n5 d5, .slice A6 n6 d6] rfl
      generalize setL w7 _ 0 _ = w10 at *
      refine hK9.out _ _ ⟨bx, ht⟩ (fun _ => ?_)
      refine wpAnyH_ready (rs := [14]) (by kernel_rfl) (by decide) ?_
      refine AllReadyH.cons rfl (fun K11 hK11 => ?_) AllReadyH.nil
      go_simp
      refine hK11.out _ _ ⟨bx, ht⟩ (fun _ => ?_)
      refine ⟨by kernel_rfl, ?_⟩
      have bx_0 := bx.cell (j := 0) rfl
      have bx_1 := bx.cell (j := 1) rfl
      have bx_2 := bx.cell (j := 2) rfl
      have bx_3 := bx.cell (j := 3) rfl
      have bx_z := bx.frozen
      have bx_l := bx.lt
      have bR_0 := bR.cell (j := 0) rfl
      have bR_1 := bR.cell (j := 1) rfl
      have bR_2 := bR.cell (j := 2) rfl
      have bR_3 := bR.cell (j := 3) rfl
      have bR_z := bR.frozen
      have bR_l := bR.lt
      have bT_0 := bT.cell (j := 0) rfl
      have bT_1 := bT.cell (j := 1) rfl
      have bT_z := bT.frozen
      have bT_l := bT.lt
      go_wp2_with fail
      clear bx_0 bx_1 bx_2 bx_3 bx_z bx_l bR_0 bR_1 bR_2 bR_3 bR_z bR_l bT_0 bT_1 bT_z bT_l
      go_meet
      exact ⟨_, _, _, _, rfl, rfl, rfl, bC, by omega, bT, o5.mono (by omega) (by omega), o6.mono (by omega) (by omega)⟩
    · go_simp
      have b_4 := (Below.refl w1.heap.size w1).alloc (Nat.le_refl _) (.cells #[.slice none 0 0, .slice none 0 0] 33)
      have bT := Box.new w1 #[.slice none 0 0, .slice none 0 0] 33 rfl
      replace bx := bx.below b_4 bx.lt
      replace bR := bR.below b_4 bR.lt
      replace ht := ht.below b_4 (by omega)
      replace hs := hs.below b_4 (by omega)
      replace hw := hw.below b_4 (by omega)
      have z_5 := b_4.size
      replace bC := bC.trans (b_4.mono (by omega))
      clear b_4
      generalize w1.alloc _ = w4 at *
      generalize w1.heap.size = g4 at *
      refine hK3b.out _ _ ⟨bx, ht⟩ (fun _ => ?_)
      refine wpAnyH_ready (rs := [8]) (by kernel_rfl) (by decide) ?_
      refine AllReadyH.cons rfl (fun K6 hK6 => ?_) AllReadyH.nil
      go_simp
      refine (specEndQ_in _ _ ls lw x w4 hs hw (by omega) (by omega) HP.out).mono ?_; rintro q_ w7 ⟨v5, v6, rfl, o5, o6, b_7⟩
      replace bx := bx.below b_7 bx.lt
      replace bR := bR.below b_7 bR.lt
      replace bT := bT.below b_7 bT.lt
      replace ht := ht.below b_7 (by omega)
      replace hs := hs.below b_7 (by omega)
      replace hw := hw.below b_7 (by omega)
      have z_8 := b_7.size
      replace bC := bC.trans (b_7.mono (by omega))
      clear b_7
      obtain ⟨A5, n5, d5, rfl, _, _, _⟩ := o5.rd.form
      obtain ⟨A6, n6, d6, rfl, _, _, _⟩ := o6.rd.form
      refine hK6.out _ _ ⟨bx, ht⟩ (fun _ => ?_)
      have hHeld : (fun (W : World) => Box W (w.heap.size) 35 [.int .i64 m, .slice (some ⟨b, off, none⟩) nt dt, .slice A0 n0 d0, .slice A1 n1 d1] ∧ Rd Nm.cells 1 W lo3 hi3 (.slice (some ⟨b, off, none⟩) nt dt) st) w7 := ⟨bx, ht⟩
      refine wpAnyH_take (i := 9) (v := .tuple #[.agg #[.slice A5 n5 d5, .slice A6 n6 d6], .bool (Sl.endOk ls x)]) rfl (by kernel_rfl) (by kernel_rfl) (by kernel_rfl) (fun _ _ _ h => h) (Or.inl ⟨by rfl, by intro w hSw; obtain ⟨hS0, hS1⟩ := hSw; have y00 := hS0.cell (j := 0) rfl; have y01 := hS0.cell (j := 1) rfl; have y02 := hS0.cell (j := 2) rfl; have y03 := hS0.cell (j := 3) rfl; have yx := Nm.at_ hS1 HX.out; go_simp⟩) hHeld ?_
      refine wpAnyH_take (i := 10) (v := .agg #[.slice A5 n5 d5, .slice A6 n6 d6]) rfl (by kernel_rfl) (by kernel_rfl) (by kernel_rfl) (fun _ _ _ h => h) (Or.inl ⟨by rfl, by intro w hSw; obtain ⟨hS0, hS1⟩ := hSw; have y00 := hS0.cell (j := 0) rfl; have y01 := hS0.cell (j := 1) rfl; have y02 := hS0.cell (j := 2) rfl; have y03 := hS0.cell (j := 3) rfl; have yx := Nm.at_ hS1 HX.out; go_simp⟩) hHeld ?_
      refine wpAnyH_take (i := 11) (v := .bool (Sl.endOk ls x)) rfl (by kernel_rfl) (by kernel_rfl) (by kernel_rfl) (fun _ _ _ h => h) (Or.inl ⟨by rfl, by intro w hSw; obtain ⟨hS0, hS1⟩ := hSw; have y00 := hS0.cell (j := 0) rfl; have y01 := hS0.cell (j := 1) rfl; have y02 := hS0.cell (j := 2) rfl; have y03 := hS0.cell (j := 3) rfl; have yx := Nm.at_ hS1 HX.out; go_simp⟩) hHeld ?_
      clear hHeld
      refine wpAnyH_ready (rs := [13]) (by kernel_rfl) (by decide) ?_
      refine AllReadyH.cons rfl (fun K9 hK9 => ?_) AllReadyH.nil
      have bx_0 := bx.cell (j := 0) rfl
      have bx_1 := bx.cell (j := 1) rfl
      have bx_2 := bx.cell (j := 2) rfl
      have bx_3 := bx.cell (j := 3) rfl
      have bx_z := bx.frozen
      have bx_l := bx.lt
      have bR_0 := bR.cell (j := 0) rfl
      have bR_1 := bR.cell (j := 1) rfl
      have bR_2 := bR.cell (j := 2) rfl
      have bR_3 := bR.cell (j := 3) rfl
      have bR_z := bR.frozen
      have bR_l := bR.lt
      have bT_0 := bT.cell (j := 0) rfl
      have bT_1 := bT.cell (j := 1) rfl
      have bT_z := bT.frozen
      have bT_l := bT.lt
      go_simp
      clear bx_0 bx_1 bx_2 bx_3 bx_z bx_l bR_0 bR_1 bR_2 bR_3 bR_z bR_l bT_0 bT_1 bT_z bT_l
      generalize hwz : World.setCell (World.setCell _ _ _) _ _ = wz_
      obtain rfl : wz_ = setL w7 (g4) 0 [.slice A5 n5 d5, .slice A6 n6 d6] := hwz.symm
      clear hwz
      replace bx := bx.other (b := g4) (by omega) 0 [.slice A5 n5 d5, .slice A6 n6 d6]
      replace bR := bR.other (b := g4) (by omega) 0 [.slice A5 n5 d5, .slice A6 n6 d6]
      replace ht := ht.away (g := g4) (by omega) 0 [.slice A5 n5 d5, .slice A6 n6 d6]
      replace hs := hs.away (g := g4) (by omega) 0 [.slice A5 n5 d5, .slice A6 n6 d6]
      replace hw := hw.away (g := g4) (by omega) 0 [.slice A5 n5 d5, .slice A6 n6 d6]
      replace o5 := o5.box (g := g4) bT (by decide) 0 [.slice A5 n5 d5, .slice A6 n6 d6]
      replace o6 := o6.box (g := g4) bT (by decide) 0 [.slice A5 n5 d5, .slice A6 n6 d6]
      replace bC := setL_below bC [.slice A5 n5 d5, .slice A6 n6 d6] (g4) 0 (by omega)
      have zs_10 : (setL w7 (g4) 0 [.slice A5 n5 d5, .slice A6 n6 d6]).heap.size = w7.heap.size := setL_size _ _ _ _
      replace bT := bT.setAll [.slice A5 n5 d5, .slice A6 n6 d6] rfl
      generalize setL w7 _ 0 _ = w10 at *
      refine hK9.out _ _ ⟨bx, ht⟩ (fun _ => ?_)
      refine wpAnyH_ready (rs := [14]) (by kernel_rfl) (by decide) ?_
      refine AllReadyH.cons rfl (fun K11 hK11 => ?_) AllReadyH.nil
      go_simp
      refine hK11.out _ _ ⟨bx, ht⟩ (fun _ => ?_)
      refine ⟨by kernel_rfl, ?_⟩
      have bx_0 := bx.cell (j := 0) rfl
      have bx_1 := bx.cell (j := 1) rfl
      have bx_2 := bx.cell (j := 2) rfl
      have bx_3 := bx.cell (j := 3) rfl
      have bx_z := bx.frozen
      have bx_l := bx.lt
      have bR_0 := bR.cell (j := 0) rfl
      have bR_1 := bR.cell (j := 1) rfl
      have bR_2 := bR.cell (j := 2) rfl
      have bR_3 := bR.cell (j := 3) rfl
      have bR_z := bR.frozen
      have bR_l := bR.lt
      have bT_0 := bT.cell (j := 0) rfl
      have bT_1 := bT.cell (j := 1) rfl
      have bT_z := bT.frozen
      have bT_l := bT.lt
      go_wp2_with fail
      clear bx_0 bx_1 bx_2 bx_3 bx_z bx_l bR_0 bR_1 bR_2 bR_3 bR_z bR_l bT_0 bT_1 bT_z bT_l
      go_meet
      exact ⟨_, _, _, _, rfl, rfl, rfl, bC, by omega, bT, o5.mono (by omega) (by omega), o6.mono (by omega) (by omega)⟩
  case rest =>
      obtain ⟨wx, gT, v1, v2, rfl, rfl, rfl, bC, zT, bT, o5, o6⟩ := hcut
      replace bx := bx.below bC bx.lt
      replace bR := bR.below bC bR.lt
      replace ht := ht.below bC (by omega)
      replace hs := hs.below bC (by omega)
      replace hw := hw.below bC (by omega)
      have z_51 := bC.size
      replace b0 := b0.trans (bC.mono (by omega))
      clear bC
      obtain ⟨A5, n5, d5, rfl, _, _, _⟩ := o5.rd.form
      obtain ⟨A6, n6, d6, rfl, _, _, _⟩ := o6.rd.form
      have zTl := bT.lt
      have bx_0 := bx.cell (j := 0) rfl
      have bx_1 := bx.cell (j := 1) rfl
      have bx_2 := bx.cell (j := 2) rfl
      have bx_3 := bx.cell (j := 3) rfl
      have bx_z := bx.frozen
      have bx_l := bx.lt
      have bR_0 := bR.cell (j := 0) rfl
      have bR_1 := bR.cell (j := 1) rfl
      have bR_2 := bR.cell (j := 2) rfl
      have bR_3 := bR.cell (j := 3) rfl
      have bR_z := bR.frozen
      have bR_l := bR.lt
      have bT_0 := bT.cell (j := 0) rfl
      have bT_1 := bT.cell (j := 1) rfl
      have bT_z := bT.frozen
      have bT_l := bT.lt
      go_upto_region 5 with fail
      clear bx_0 bx_1 bx_2 bx_3 bx_z bx_l bR_0 bR_1 bR_2 bR_3 bR_z bR_l bT_0 bT_1 bT_z bT_l
      refine wp_region_held_drew (S := fun W => Box W (w.heap.size) 35 [.int .i64 m, .slice (some ⟨b, off, none⟩) nt dt, .slice A0 n0 d0, .slice A1 n1 d1] ∧ Box W (gT) 33 [.slice A5 n5 d5, .slice A6 n6 d6] ∧ Rd Nm.cells 1 W lo3 hi3 (.slice (some ⟨b, off, none⟩) nt dt) st) (by kernel_rfl) (show (fun (W : World) => Box W (w.heap.size) 35 [.int .i64 m, .slice (some ⟨b, off, none⟩) nt dt, .slice A0 n0 d0, .slice A1 n1 d1] ∧ Box W (gT) 33 [.slice A5 n5 d5, .slice A6 n6 d6] ∧ Rd Nm.cells 1 W lo3 hi3 (.slice (some ⟨b, off, none⟩) nt dt) st) wx.drew from ⟨bx, bT, ht.drew⟩) (fun hHeld => ?_)
      refine wpAnyH_take (i := 0) (v := .pointer (some ⟨w.heap.size, 0, none⟩)) rfl (by kernel_rfl) (by kernel_rfl) (by kernel_rfl) (fun _ _ _ h => h) (Or.inl ⟨by rfl, by intro w hSw; obtain ⟨hS0, hS1, hS2⟩ := hSw; have y00 := hS0.cell (j := 0) rfl; have y01 := hS0.cell (j := 1) rfl; have y02 := hS0.cell (j := 2) rfl; have y03 := hS0.cell (j := 3) rfl; have y10 := hS1.cell (j := 0) rfl; have y11 := hS1.cell (j := 1) rfl; have yx := Nm.at_ hS2 HX.out; go_simp⟩) hHeld ?_
      refine wpAnyH_take (i := 1) (v := .int .i64 m) rfl (by kernel_rfl) (by kernel_rfl) (by kernel_rfl) (fun _ _ _ h => h) (Or.inl ⟨by rfl, by intro w hSw; obtain ⟨hS0, hS1, hS2⟩ := hSw; have y00 := hS0.cell (j := 0) rfl; have y01 := hS0.cell (j := 1) rfl; have y02 := hS0.cell (j := 2) rfl; have y03 := hS0.cell (j := 3) rfl; have y10 := hS1.cell (j := 0) rfl; have y11 := hS1.cell (j := 1) rfl; have yx := Nm.at_ hS2 HX.out; go_simp⟩) hHeld ?_
      refine wpAnyH_take (i := 2) (v := .pointer (some ⟨w.heap.size, 1, none⟩)) rfl (by kernel_rfl) (by kernel_rfl) (by kernel_rfl) (fun _ _ _ h => h) (Or.inl ⟨by rfl, by intro w hSw; obtain ⟨hS0, hS1, hS2⟩ := hSw; have y00 := hS0.cell (j := 0) rfl; have y01 := hS0.cell (j := 1) rfl; have y02 := hS0.cell (j := 2) rfl; have y03 := hS0.cell (j := 3) rfl; have y10 := hS1.cell (j := 0) rfl; have y11 := hS1.cell (j := 1) rfl; have yx := Nm.at_ hS2 HX.out; go_simp⟩) hHeld ?_
      refine wpAnyH_take (i := 3) (v := .slice (some ⟨b, off, none⟩) nt dt) rfl (by kernel_rfl) (by kernel_rfl) (by kernel_rfl) (fun _ _ _ h => h) (Or.inl ⟨by rfl, by intro w hSw; obtain ⟨hS0, hS1, hS2⟩ := hSw; have y00 := hS0.cell (j := 0) rfl; have y01 := hS0.cell (j := 1) rfl; have y02 := hS0.cell (j := 2) rfl; have y03 := hS0.cell (j := 3) rfl; have y10 := hS1.cell (j := 0) rfl; have y11 := hS1.cell (j := 1) rfl; have yx := Nm.at_ hS2 HX.out; go_simp⟩) hHeld ?_
      refine wpAnyH_take (i := 4) (v := .int .i64 nt) rfl (by kernel_rfl) (by kernel_rfl) (by kernel_rfl) (fun _ _ _ h => h) (Or.inl ⟨by rfl, by intro w hSw; obtain ⟨hS0, hS1, hS2⟩ := hSw; have y00 := hS0.cell (j := 0) rfl; have y01 := hS0.cell (j := 1) rfl; have y02 := hS0.cell (j := 2) rfl; have y03 := hS0.cell (j := 3) rfl; have y10 := hS1.cell (j := 0) rfl; have y11 := hS1.cell (j := 1) rfl; have yx := Nm.at_ hS2 HX.out; go_simp⟩) hHeld ?_
      refine wpAnyH_take (i := 5) (v := .int .i64 j) rfl (by kernel_rfl) (by kernel_rfl) (by kernel_rfl) (fun _ _ _ h => h) (Or.inl ⟨by rfl, by intro w hSw; obtain ⟨hS0, hS1, hS2⟩ := hSw; have y00 := hS0.cell (j := 0) rfl; have y01 := hS0.cell (j := 1) rfl; have y02 := hS0.cell (j := 2) rfl; have y03 := hS0.cell (j := 3) rfl; have y10 := hS1.cell (j := 0) rfl; have y11 := hS1.cell (j := 1) rfl; have yx := Nm.at_ hS2 HX.out; go_simp⟩) hHeld ?_
      refine wpAnyH_take (i := 6) (v := .slice (some ⟨b, off, none⟩) j dt) rfl (by kernel_rfl) (by kernel_rfl) (by kernel_rfl) (fun _ _ _ h => h) (Or.inl ⟨by rfl, by intro w hSw; obtain ⟨hS0, hS1, hS2⟩ := hSw; have y00 := hS0.cell (j := 0) rfl; have y01 := hS0.cell (j := 1) rfl; have y02 := hS0.cell (j := 2) rfl; have y03 := hS0.cell (j := 3) rfl; have y10 := hS1.cell (j := 0) rfl; have y11 := hS1.cell (j := 1) rfl; have yx := Nm.at_ hS2 HX.out; go_simp⟩) hHeld ?_
      refine wpAnyH_take (i := 8) (v := .agg #[.slice A5 n5 d5, .slice A6 n6 d6]) rfl (by kernel_rfl) (by kernel_rfl) (by kernel_rfl) (fun _ _ _ h => h) (Or.inl ⟨by rfl, by intro w hSw; obtain ⟨hS0, hS1, hS2⟩ := hSw; have y00 := hS0.cell (j := 0) rfl; have y01 := hS0.cell (j := 1) rfl; have y02 := hS0.cell (j := 2) rfl; have y03 := hS0.cell (j := 3) rfl; have y10 := hS1.cell (j := 0) rfl; have y11 := hS1.cell (j := 1) rfl; have yx := Nm.at_ hS2 HX.out; go_simp⟩) hHeld ?_
      refine wpAnyH_take (i := 10) (v := .pointer (some ⟨w.heap.size, 1, none⟩)) rfl (by kernel_rfl) (by kernel_rfl) (by kernel_rfl) (fun _ _ _ h => h) (Or.inl ⟨by rfl, by intro w hSw; obtain ⟨hS0, hS1, hS2⟩ := hSw; have y00 := hS0.cell (j := 0) rfl; have y01 := hS0.cell (j := 1) rfl; have y02 := hS0.cell (j := 2) rfl; have y03 := hS0.cell (j := 3) rfl; have y10 := hS1.cell (j := 0) rfl; have y11 := hS1.cell (j := 1) rfl; have yx := Nm.at_ hS2 HX.out; go_simp⟩) hHeld ?_
      refine wpAnyH_take (i := 11) (v := .slice (some ⟨b, off, none⟩) nt dt) rfl (by kernel_rfl) (by kernel_rfl) (by kernel_rfl) (fun _ _ _ h => h) (Or.inl ⟨by rfl, by intro w hSw; obtain ⟨hS0, hS1, hS2⟩ := hSw; have y00 := hS0.cell (j := 0) rfl; have y01 := hS0.cell (j := 1) rfl; have y02 := hS0.cell (j := 2) rfl; have y03 := hS0.cell (j := 3) rfl; have y10 := hS1.cell (j := 0) rfl; have y11 := hS1.cell (j := 1) rfl; have yx := Nm.at_ hS2 HX.out; go_simp⟩) hHeld ?_
      refine wpAnyH_take (i := 12) (v := .int .i64 nt) rfl (by kernel_rfl) (by kernel_rfl) (by kernel_rfl) (fun _ _ _ h => h) (Or.inl ⟨by rfl, by intro w hSw; obtain ⟨hS0, hS1, hS2⟩ := hSw; have y00 := hS0.cell (j := 0) rfl; have y01 := hS0.cell (j := 1) rfl; have y02 := hS0.cell (j := 2) rfl; have y03 := hS0.cell (j := 3) rfl; have y10 := hS1.cell (j := 0) rfl; have y11 := hS1.cell (j := 1) rfl; have yx := Nm.at_ hS2 HX.out; go_simp⟩) hHeld ?_
      refine wpAnyH_take (i := 13) (v := .int .i64 j) rfl (by kernel_rfl) (by kernel_rfl) (by kernel_rfl) (fun _ _ _ h => h) (Or.inl ⟨by rfl, by intro w hSw; obtain ⟨hS0, hS1, hS2⟩ := hSw; have y00 := hS0.cell (j := 0) rfl; have y01 := hS0.cell (j := 1) rfl; have y02 := hS0.cell (j := 2) rfl; have y03 := hS0.cell (j := 3) rfl; have y10 := hS1.cell (j := 0) rfl; have y11 := hS1.cell (j := 1) rfl; have yx := Nm.at_ hS2 HX.out; go_simp⟩) hHeld ?_
      refine wpAnyH_take (i := 14) (v := .pointer (some ⟨b, off + j, none⟩)) rfl (by kernel_rfl) (by kernel_rfl) (by kernel_rfl) (fun _ _ _ h => h) (Or.inl ⟨by rfl, by intro w hSw; obtain ⟨hS0, hS1, hS2⟩ := hSw; have y00 := hS0.cell (j := 0) rfl; have y01 := hS0.cell (j := 1) rfl; have y02 := hS0.cell (j := 2) rfl; have y03 := hS0.cell (j := 3) rfl; have y10 := hS1.cell (j := 0) rfl; have y11 := hS1.cell (j := 1) rfl; have yx := Nm.at_ hS2 HX.out; go_simp⟩) hHeld ?_
      refine wpAnyH_take (i := 15) (v := .int .i64 x) rfl (by kernel_rfl) (by kernel_rfl) (by kernel_rfl) (fun _ _ _ h => h) (Or.inl ⟨by rfl, by intro w hSw; obtain ⟨hS0, hS1, hS2⟩ := hSw; have y00 := hS0.cell (j := 0) rfl; have y01 := hS0.cell (j := 1) rfl; have y02 := hS0.cell (j := 2) rfl; have y03 := hS0.cell (j := 3) rfl; have y10 := hS1.cell (j := 0) rfl; have y11 := hS1.cell (j := 1) rfl; have yx := Nm.at_ hS2 HX.out; go_simp⟩) hHeld ?_
      clear hHeld
      refine held_gen (F := fun W' => Below wx.heap.size wx W') (Below.refl wx.heap.size wx).drew ?_
      rintro w52 b_52
      replace bx := bx.below b_52 bx.lt
      replace bR := bR.below b_52 bR.lt
      replace bT := bT.below b_52 bT.lt
      replace ht := ht.below b_52 (by omega)
      replace hs := hs.below b_52 (by omega)
      replace hw := hw.below b_52 (by omega)
      replace o5 := o5.below b_52 (by omega)
      replace o6 := o6.below b_52 (by omega)
      have z_53 := b_52.size
      replace b0 := b0.trans (b_52.mono (by omega))
      clear b_52
      refine wpAnyH_ready (rs := [7]) (by kernel_rfl) (by decide) ?_
      refine AllReadyH.cons rfl (fun K54 hK54 => ?_) AllReadyH.nil
      go_simp
      refine (l1Own_any _ (st.take j) w52 (ht.take_ hjnn) (by omega) hjl2).mono ?_; rintro q_ w55 ⟨v3, rfl, o3, b_55⟩
      replace bx := bx.below b_55 bx.lt
      replace bR := bR.below b_55 bR.lt
      replace bT := bT.below b_55 bT.lt
      replace ht := ht.below b_55 (by omega)
      replace hs := hs.below b_55 (by omega)
      replace hw := hw.below b_55 (by omega)
      replace o5 := o5.below b_55 (by omega)
      replace o6 := o6.below b_55 (by omega)
      have z_56 := b_55.size
      replace b0 := b0.trans (b_55.mono (by omega))
      clear b_55
      obtain ⟨A3, n3, d3, rfl, _, _, _⟩ := o3.rd.form
      refine hK54.out _ _ ⟨bx, bT, ht⟩ (fun _ => ?_)
      have hHeld : (fun (W : World) => Box W (w.heap.size) 35 [.int .i64 m, .slice (some ⟨b, off, none⟩) nt dt, .slice A0 n0 d0, .slice A1 n1 d1] ∧ Box W (gT) 33 [.slice A5 n5 d5, .slice A6 n6 d6] ∧ Rd Nm.cells 1 W lo3 hi3 (.slice (some ⟨b, off, none⟩) nt dt) st) w55 := ⟨bx, bT, ht⟩
      refine wpAnyH_take (i := 9) (v := .agg #[.int .i64 m, .slice A3 n3 d3, .slice A5 n5 d5, .slice A6 n6 d6]) rfl (by kernel_rfl) (by kernel_rfl) (by kernel_rfl) (fun _ _ _ h => h) (Or.inl ⟨by rfl, by intro w hSw; obtain ⟨hS0, hS1, hS2⟩ := hSw; have y00 := hS0.cell (j := 0) rfl; have y01 := hS0.cell (j := 1) rfl; have y02 := hS0.cell (j := 2) rfl; have y03 := hS0.cell (j := 3) rfl; have y10 := hS1.cell (j := 0) rfl; have y11 := hS1.cell (j := 1) rfl; have yx := Nm.at_ hS2 HX.out; go_simp⟩) hHeld ?_
      clear hHeld
      refine wpAnyH_ready (rs := [16]) (by kernel_rfl) (by decide) ?_
      refine AllReadyH.cons rfl (fun K57 hK57 => ?_) AllReadyH.nil
      have bx_0 := bx.cell (j := 0) rfl
      have bx_1 := bx.cell (j := 1) rfl
      have bx_2 := bx.cell (j := 2) rfl
      have bx_3 := bx.cell (j := 3) rfl
      have bx_z := bx.frozen
      have bx_l := bx.lt
      have bR_0 := bR.cell (j := 0) rfl
      have bR_1 := bR.cell (j := 1) rfl
      have bR_2 := bR.cell (j := 2) rfl
      have bR_3 := bR.cell (j := 3) rfl
      have bR_z := bR.frozen
      have bR_l := bR.lt
      have bT_0 := bT.cell (j := 0) rfl
      have bT_1 := bT.cell (j := 1) rfl
      have bT_z := bT.frozen
      have bT_l := bT.lt
      go_simp
      clear bx_0 bx_1 bx_2 bx_3 bx_z bx_l bR_0 bR_1 bR_2 bR_3 bR_z bR_l bT_0 bT_1 bT_z bT_l
      generalize hwz : World.setCell (World.setCell (World.setCell (World.setCell _ _ _) _ _) _ _) _ _ = wz_
      obtain rfl : wz_ = setL w55 (w.heap.size + 1) 0 [.int .i64 m, .slice A3 n3 d3, .slice A5 n5 d5, .slice A6 n6 d6] := hwz.symm
      clear hwz
      replace bx := bx.other (b := w.heap.size + 1) (by omega) 0 [.int .i64 m, .slice A3 n3 d3, .slice A5 n5 d5, .slice A6 n6 d6]
      replace bT := bT.other (b := w.heap.size + 1) (by omega) 0 [.int .i64 m, .slice A3 n3 d3, .slice A5 n5 d5, .slice A6 n6 d6]
      replace ht := ht.away (g := w.heap.size + 1) (by omega) 0 [.int .i64 m, .slice A3 n3 d3, .slice A5 n5 d5, .slice A6 n6 d6]
      replace hs := hs.away (g := w.heap.size + 1) (by omega) 0 [.int .i64 m, .slice A3 n3 d3, .slice A5 n5 d5, .slice A6 n6 d6]
      replace hw := hw.away (g := w.heap.size + 1) (by omega) 0 [.int .i64 m, .slice A3 n3 d3, .slice A5 n5 d5, .slice A6 n6 d6]
      replace o5 := o5.box (g := w.heap.size + 1) bR (by decide) 0 [.int .i64 m, .slice A3 n3 d3, .slice A5 n5 d5, .slice A6 n6 d6]
      replace o6 := o6.box (g := w.heap.size + 1) bR (by decide) 0 [.int .i64 m, .slice A3 n3 d3, .slice A5 n5 d5, .slice A6 n6 d6]
      replace o3 := o3.box (g := w.heap.size + 1) bR (by decide) 0 [.int .i64 m, .slice A3 n3 d3, .slice A5 n5 d5, .slice A6 n6 d6]
      replace b0 := setL_below b0 [.int .i64 m, .slice A3 n3 d3, .slice A5 n5 d5, .slice A6 n6 d6] (w.heap.size + 1) 0 (by omega)
      have zs_58 : (setL w55 (w.heap.size + 1) 0 [.int .i64 m, .slice A3 n3 d3, .slice A5 n5 d5, .slice A6 n6 d6]).heap.size = w55.heap.size := setL_size _ _ _ _
      replace bR := bR.setAll [.int .i64 m, .slice A3 n3 d3, .slice A5 n5 d5, .slice A6 n6 d6] rfl
      generalize setL w55 _ 0 _ = w58 at *
      refine hK57.out _ _ ⟨bx, bT, ht⟩ (fun _ => ?_)
      refine wpAnyH_ready (rs := [17]) (by kernel_rfl) (by decide) ?_
      refine AllReadyH.cons rfl (fun K59 hK59 => ?_) AllReadyH.nil
      go_simp
      refine hK59.out _ _ ⟨bx, bT, ht⟩ (fun _ => ?_)
      refine ⟨by kernel_rfl, ?_⟩
      have bx_0 := bx.cell (j := 0) rfl
      have bx_1 := bx.cell (j := 1) rfl
      have bx_2 := bx.cell (j := 2) rfl
      have bx_3 := bx.cell (j := 3) rfl
      have bx_z := bx.frozen
      have bx_l := bx.lt
      have bR_0 := bR.cell (j := 0) rfl
      have bR_1 := bR.cell (j := 1) rfl
      have bR_2 := bR.cell (j := 2) rfl
      have bR_3 := bR.cell (j := 3) rfl
      have bR_z := bR.frozen
      have bR_l := bR.lt
      have bT_0 := bT.cell (j := 0) rfl
      have bT_1 := bT.cell (j := 1) rfl
      have bT_z := bT.frozen
      have bT_l := bT.lt
      go_wp2_with fail
      clear bx_0 bx_1 bx_2 bx_3 bx_z bx_l bR_0 bR_1 bR_2 bR_3 bR_z bR_l bT_0 bT_1 bT_z bT_l
      have u0_ := bR.cell (j := 0) rfl
      have u1_ := bR.cell (j := 1) rfl
      have u2_ := bR.cell (j := 2) rfl
      have u3_ := bR.cell (j := 3) rfl
      refine bodyPost_ret (by simp only [results, Tryz.results64]; simp [go_sem, u0_, u1_, u2_, u3_]; rfl) rfl ?_
      exact ⟨_, _, _, rfl, o3.mono (by omega) (by omega), by rw [← HE.out.1]; exact o5.mono (by omega) (by omega), by rw [← HE.out.2]; exact o6.mono (by omega) (by omega), b0⟩
set_option maxHeartbeats 2000000 in
theorem implLeave_nil (m : Int) (vt vs vw : Value) (st : List Int) (ls : List Sl) (lw : List Wt) (w : World) {lo hi lo2 hi2 lo3 hi3 : Nat} (h0 : Rd Nm.cells 1 w lo3 hi3 vt st) (h : Rd Sl.cells 3 w lo hi vs ls) (h2 : Rd Wt.cells 2 w lo2 hi2 vw lw) (hh0 : hi3 ≤ w.heap.size) (hh : hi ≤ w.heap.size) (hh2 : hi2 ≤ w.heap.size) (hz : st = []) :
    Calls Tryz.prog 65 #[.agg #[.int .i64 m, vt, vs, vw]] w fun e w' => e = .returned (.tuple #[.agg #[.int .i64 0, .slice none 0 0, .slice none 0 0, .slice none 0 0], .int .i64 0, .bool false]) ∧ Below w.heap.size w w' := by
  have b0 : Below w.heap.size w ((w.alloc (.cells #[.int .i64 m, vt, vs, vw] 35)).alloc (.cells #[.int .i64 0, .slice none 0 0, .slice none 0 0, .slice none 0 0] 35)) := ((Below.refl w.heap.size w).alloc (Nat.le_refl _) _).alloc (by simp) _
  have z0 : ((w.alloc (.cells #[.int .i64 m, vt, vs, vw] 35)).alloc (.cells #[.int .i64 0, .slice none 0 0, .slice none 0 0, .slice none 0 0] 35)).heap.size = w.heap.size + 2 := by simp
  have bx := Box.new w #[.int .i64 m, vt, vs, vw] 35 rfl
  have bR := Box.new (g := w.heap.size + 1) (w.alloc (.cells #[.int .i64 m, vt, vs, vw] 35)) #[.int .i64 0, .slice none 0 0, .slice none 0 0, .slice none 0 0] 35 (by simp)
  replace bx := bx.below ((Below.refl _ (w.alloc (.cells #[.int .i64 m, vt, vs, vw] 35))).alloc (Nat.le_refl _) (.cells #[.int .i64 0, .slice none 0 0, .slice none 0 0, .slice none 0 0] 35)) bx.lt
  have ht := h0.below b0 hh0
  have hs := h.below b0 hh
  have hw := h2.below b0 hh2
  have hv0_ := h0.form
  have hv_ := h.form
  have hv2_ := h2.form
  clear h0 h h2
  generalize hwA : (w.alloc (.cells #[.int .i64 m, vt, vs, vw] 35)).alloc (.cells #[.int .i64 0, .slice none 0 0, .slice none 0 0, .slice none 0 0] 35) = wA at *
  obtain ⟨At, nt, dt, rfl, _, _, _⟩ := hv0_
  obtain ⟨A0, n0, d0, rfl, _, _, _⟩ := hv_
  obtain ⟨A1, n1, d1, rfl, _, _, _⟩ := hv2_
  obtain ⟨rfl⟩ : nt = 0 := by have := ht.n_eq.1; simpa [hz] using this
  go_enter Tryz.func65, Tryz.ntmps65
  have bx_0 := bx.cell (j := 0) rfl
  have bx_1 := bx.cell (j := 1) rfl
  have bx_2 := bx.cell (j := 2) rfl
  have bx_3 := bx.cell (j := 3) rfl
  have bx_z := bx.frozen
  have bx_l := bx.lt
  have bR_0 := bR.cell (j := 0) rfl
  have bR_1 := bR.cell (j := 1) rfl
  have bR_2 := bR.cell (j := 2) rfl
  have bR_3 := bR.cell (j := 3) rfl
  have bR_z := bR.frozen
  have bR_l := bR.lt
  go_wp2_with fail
  clear hwA
  clear bx_0 bx_1 bx_2 bx_3 bx_z bx_l bR_0 bR_1 bR_2 bR_3 bR_z bR_l
  generalize hwz : World.setCell (World.setCell (World.setCell (World.setCell _ _ _) _ _) _ _) _ _ = wz_
  obtain rfl : wz_ = setL wA (w.heap.size + 1) 0 [.int .i64 0, .slice none 0 0, .slice none 0 0, .slice none 0 0] := hwz.symm
  clear hwz
  replace bx := bx.other (b := w.heap.size + 1) (by omega) 0 [.int .i64 0, .slice none 0 0, .slice none 0 0, .slice none 0 0]
  replace ht := ht.away (g := w.heap.size + 1) (by omega) 0 [.int .i64 0, .slice none 0 0, .slice none 0 0, .slice none 0 0]
  replace hs := hs.away (g := w.heap.size + 1) (by omega) 0 [.int .i64 0, .slice none 0 0, .slice none 0 0, .slice none 0 0]
  replace hw := hw.away (g := w.heap.size + 1) (by omega) 0 [.int .i64 0, .slice none 0 0, .slice none 0 0, .slice none 0 0]
  replace b0 := setL_below b0 [.int .i64 0, .slice none 0 0, .slice none 0 0, .slice none 0 0] (w.heap.size + 1) 0 (by omega)
  have zs_1 : (setL wA (w.heap.size + 1) 0 [.int .i64 0, .slice none 0 0, .slice none 0 0, .slice none 0 0]).heap.size = wA.heap.size := setL_size _ _ _ _
  replace bR := bR.setAll [.int .i64 0, .slice none 0 0, .slice none 0 0, .slice none 0 0] rfl
  generalize setL wA _ 0 _ = w1 at *
  have u0_ := bR.cell (j := 0) rfl
  have u1_ := bR.cell (j := 1) rfl
  have u2_ := bR.cell (j := 2) rfl
  have u3_ := bR.cell (j := 3) rfl
  refine bodyPost_ret (by simp only [results, Tryz.results65]; simp [go_sem, u0_, u1_, u2_, u3_]; rfl) rfl ?_
  exact ⟨rfl, b0⟩
set_option maxHeartbeats 4000000 in
theorem implLeave_in (m : Int) (vt vs vw : Value) (st : List Int) (ls : List Sl) (lw : List Wt) (w : World) {lo hi lo2 hi2 lo3 hi3 : Nat} (h0 : Rd Nm.cells 1 w lo3 hi3 vt st) (h : Rd Sl.cells 3 w lo hi vs ls) (h2 : Rd Wt.cells 2 w lo2 hi2 vw lw) (hh0 : hi3 ≤ w.heap.size) (hh : hi ≤ w.heap.size) (hh2 : hi2 ≤ w.heap.size) (hl : st.length ≤ 1048576) (hp : Qu.parts ls lw = true) {j : Nat} {x : Int} (hj : j + 1 = st.length) (hx : st[j]? = some x) (hk : Sl.endOk ls x = true) :
    Calls Tryz.prog 65 #[.agg #[.int .i64 m, vt, vs, vw]] w fun e w' => ∃ v0 v1 v2, e = .returned (.tuple #[.agg #[.int .i64 m, v0, v1, v2], .int .i64 x, .bool true]) ∧ Ow Nm.cells 1 3 w' w.heap.size w'.heap.size v0 (st.take j) ∧ Ow Sl.cells 3 127 w' w.heap.size w'.heap.size v1 ((Qu.enP ls lw x).1) ∧ Ow Wt.cells 2 134 w' w.heap.size w'.heap.size v2 ((Qu.enP ls lw x).2) ∧ Below w.heap.size w w' := by
  have b0 : Below w.heap.size w ((w.alloc (.cells #[.int .i64 m, vt, vs, vw] 35)).alloc (.cells #[.int .i64 0, .slice none 0 0, .slice none 0 0, .slice none 0 0] 35)) := ((Below.refl w.heap.size w).alloc (Nat.le_refl _) _).alloc (by simp) _
  have z0 : ((w.alloc (.cells #[.int .i64 m, vt, vs, vw] 35)).alloc (.cells #[.int .i64 0, .slice none 0 0, .slice none 0 0, .slice none 0 0] 35)).heap.size = w.heap.size + 2 := by simp
  have bx := Box.new w #[.int .i64 m, vt, vs, vw] 35 rfl
  have bR := Box.new (g := w.heap.size + 1) (w.alloc (.cells #[.int .i64 m, vt, vs, vw] 35)) #[.int .i64 0, .slice none 0 0, .slice none 0 0, .slice none 0 0] 35 (by simp)
  replace bx := bx.below ((Below.refl _ (w.alloc (.cells #[.int .i64 m, vt, vs, vw] 35))).alloc (Nat.le_refl _) (.cells #[.int .i64 0, .slice none 0 0, .slice none 0 0, .slice none 0 0] 35)) bx.lt
  have ht := h0.below b0 hh0
  have hs := h.below b0 hh
  have hw := h2.below b0 hh2
  have hv0_ := h0.form
  have hv_ := h.form
  have hv2_ := h2.form
  clear h0 h h2
  generalize hwA : (w.alloc (.cells #[.int .i64 m, vt, vs, vw] 35)).alloc (.cells #[.int .i64 0, .slice none 0 0, .slice none 0 0, .slice none 0 0] 35) = wA at *
  obtain ⟨At, nt, dt, rfl, _, _, _⟩ := hv0_
  obtain ⟨A0, n0, d0, rfl, _, _, _⟩ := hv_
  obtain ⟨A1, n1, d1, rfl, _, _, _⟩ := hv2_
  have hn := Nat.le_of_eq ht.n_eq.1
  have hn' := Nat.le_of_eq ht.n_eq.1.symm
  have hc := ht.n_eq.2
  have hj1 : j < nt := by omega
  obtain ⟨b, off, x', rfl, hx', _, hbh, f0⟩ := Nm.get ht hj1 (Below.refl wA.heap.size wA) (by omega)
  clear f0 hx' x'
  have HP := Lib.hid hp
  have HX := Lib.hid hx
  have HE := Lib.hid (Qu.ei_yes hk lw)
  have HK := Lib.hid hk
  have hje : (nt : Int) - 1 = (j : Int) := by omega
  have hjn : (j : Int) < (nt : Int) := by omega
  have hjl : (j : Int) ≤ (nt : Int) := by omega
  have hjc : (j : Int) ≤ (dt : Int) := by omega
  have hjm : dt ≤ 9223372036854775807 := by have := hc.2; unfold maxLen at this; omega
  have hzd2 : ((nt : Int) == 0) = false := by rw [beq_eq_false_iff_ne]; omega
  have hjd : decide ((j : Int) < 0) = false := decide_eq_false (by omega)
  have hjw : IntKind.i64.wrap (j : Int) = (j : Int) := IntWalk.i64_in _ (by omega)
  have hjnn : j ≤ nt := by omega
  have hjl2 : (st.take j).length ≤ 1048576 := by rw [List.length_take]; omega
  clear hp hx hk hj hn hn' hc
  go_enter Tryz.func65, Tryz.ntmps65
  have bx_0 := bx.cell (j := 0) rfl
  have bx_1 := bx.cell (j := 1) rfl
  have bx_2 := bx.cell (j := 2) rfl
  have bx_3 := bx.cell (j := 3) rfl
  have bx_z := bx.frozen
  have bx_l := bx.lt
  have bR_0 := bR.cell (j := 0) rfl
  have bR_1 := bR.cell (j := 1) rfl
  have bR_2 := bR.cell (j := 2) rfl
  have bR_3 := bR.cell (j := 3) rfl
  have bR_z := bR.frozen
  have bR_l := bR.lt
  go_upto_region 4 with fail
  clear hwA
  clear bx_0 bx_1 bx_2 bx_3 bx_z bx_l bR_0 bR_1 bR_2 bR_3 bR_z bR_l
  go_cut [6, 7] (fun s6 s7 wx => ∃ (ww : World) (gT : Nat) (v1 v2 : Value), ww = wx ∧ s6 = .pointer (some ⟨gT, 0, none⟩) ∧ s7 = .bool (Sl.endOk ls x) ∧ Below wA.heap.size wA wx ∧ wA.heap.size ≤ gT ∧ Box wx gT 33 [v1, v2] ∧ Ow Sl.cells 3 127 wx wA.heap.size wx.heap.size v1 (Qu.eiS ls lw x) ∧ Ow Wt.cells 2 134 wx wA.heap.size wx.heap.size v2 (Qu.eiW ls lw x))
  case first =>
    have bC := Below.refl wA.heap.size wA
    have zB := b0.size
    refine wp_region_held_drew (S := fun W => Box W (w.heap.size) 35 [.int .i64 m, .slice (some ⟨b, off, none⟩) nt dt, .slice A0 n0 d0, .slice A1 n1 d1] ∧ Rd Nm.cells 1 W lo3 hi3 (.slice (some ⟨b, off, none⟩) nt dt) st) (by kernel_rfl) (show (fun (W : World) => Box W (w.heap.size) 35 [.int .i64 m, .slice (some ⟨b, off, none⟩) nt dt, .slice A0 n0 d0, .slice A1 n1 d1] ∧ Rd Nm.cells 1 W lo3 hi3 (.slice (some ⟨b, off, none⟩) nt dt) st) wA.drew from ⟨bx, ht.drew⟩) (fun hHeld => ?_)
    refine wpAnyH_take (i := 0) (v := .pointer (some ⟨w.heap.size, 2, none⟩)) rfl (by kernel_rfl) (by kernel_rfl) (by kernel_rfl) (fun _ _ _ h => h) (Or.inl ⟨by rfl, by intro w hSw; obtain ⟨hS0, hS1⟩ := hSw; have y00 := hS0.cell (j := 0) rfl; have y01 := hS0.cell (j := 1) rfl; have y02 := hS0.cell (j := 2) rfl; have y03 := hS0.cell (j := 3) rfl; have yx := Nm.at_ hS1 HX.out; go_simp⟩) hHeld ?_
    refine wpAnyH_take (i := 1) (v := .agg #[.slice A0 n0 d0, .slice A1 n1 d1]) rfl (by kernel_rfl) (by kernel_rfl) (by kernel_rfl) (fun _ _ _ h => h) (Or.inl ⟨by rfl, by intro w hSw; obtain ⟨hS0, hS1⟩ := hSw; have y00 := hS0.cell (j := 0) rfl; have y01 := hS0.cell (j := 1) rfl; have y02 := hS0.cell (j := 2) rfl; have y03 := hS0.cell (j := 3) rfl; have yx := Nm.at_ hS1 HX.out; go_simp⟩) hHeld ?_
    refine wpAnyH_take (i := 2) (v := .pointer (some ⟨w.heap.size, 1, none⟩)) rfl (by kernel_rfl) (by kernel_rfl) (by kernel_rfl) (fun _ _ _ h => h) (Or.inl ⟨by rfl, by intro w hSw; obtain ⟨hS0, hS1⟩ := hSw; have y00 := hS0.cell (j := 0) rfl; have y01 := hS0.cell (j := 1) rfl; have y02 := hS0.cell (j := 2) rfl; have y03 := hS0.cell (j := 3) rfl; have yx := Nm.at_ hS1 HX.out; go_simp⟩) hHeld ?_
    refine wpAnyH_take (i := 3) (v := .slice (some ⟨b, off, none⟩) nt dt) rfl (by kernel_rfl) (by kernel_rfl) (by kernel_rfl) (fun _ _ _ h => h) (Or.inl ⟨by rfl, by intro w hSw; obtain ⟨hS0, hS1⟩ := hSw; have y00 := hS0.cell (j := 0) rfl; have y01 := hS0.cell (j := 1) rfl; have y02 := hS0.cell (j := 2) rfl; have y03 := hS0.cell (j := 3) rfl; have yx := Nm.at_ hS1 HX.out; go_simp⟩) hHeld ?_
    refine wpAnyH_take (i := 4) (v := .int .i64 j) rfl (by kernel_rfl) (by kernel_rfl) (by kernel_rfl) (fun _ _ _ h => h) (Or.inl ⟨by rfl, by intro w hSw; obtain ⟨hS0, hS1⟩ := hSw; have y00 := hS0.cell (j := 0) rfl; have y01 := hS0.cell (j := 1) rfl; have y02 := hS0.cell (j := 2) rfl; have y03 := hS0.cell (j := 3) rfl; have yx := Nm.at_ hS1 HX.out; go_simp⟩) hHeld ?_
    refine wpAnyH_take (i := 5) (v := .pointer (some ⟨b, off + j, none⟩)) rfl (by kernel_rfl) (by kernel_rfl) (by kernel_rfl) (fun _ _ _ h => h) (Or.inl ⟨by rfl, by intro w hSw; obtain ⟨hS0, hS1⟩ := hSw; have y00 := hS0.cell (j := 0) rfl; have y01 := hS0.cell (j := 1) rfl; have y02 := hS0.cell (j := 2) rfl; have y03 := hS0.cell (j := 3) rfl; have yx := Nm.at_ hS1 HX.out; go_simp⟩) hHeld ?_
    refine wpAnyH_take (i := 6) (v := .int .i64 x) rfl (by kernel_rfl) (by kernel_rfl) (by kernel_rfl) (fun _ _ _ h => h) (Or.inl ⟨by rfl, by intro w hSw; obtain ⟨hS0, hS1⟩ := hSw; have y00 := hS0.cell (j := 0) rfl; have y01 := hS0.cell (j := 1) rfl; have y02 := hS0.cell (j := 2) rfl; have y03 := hS0.cell (j := 3) rfl; have yx := Nm.at_ hS1 HX.out; go_simp⟩) hHeld ?_
    clear hHeld
    refine held_gen (F := fun W' => Below wA.heap.size wA W') (Below.refl wA.heap.size wA).drew ?_
    rintro w1 b_1
    replace bx := bx.below b_1 bx.lt
    replace bR := bR.below b_1 bR.lt
    replace ht := ht.below b_1 (by omega)
    replace hs := hs.below b_1 (by omega)
    replace hw := hw.below b_1 (by omega)
    have z_2 := b_1.size
    replace bC := bC.trans (b_1.mono (by omega))
    clear b_1
    refine wpAnyH_ready (rs := [7, 11]) (by kernel_rfl) (by decide) ?_
    refine AllReadyH.cons rfl (fun K3a hK3a => ?_) (AllReadyH.cons rfl (fun K3b hK3b => ?_) AllReadyH.nil)
    · go_simp
      refine (implEndQ_in _ _ ls lw x w1 hs hw (by omega) (by omega) HP.out).mono ?_; rintro q_ w4 ⟨v5, v6, rfl, o5, o6, b_4⟩
      replace bx := bx.below b_4 bx.lt
      replace bR := bR.below b_4 bR.lt
      replace ht := ht.below b_4 (by omega)
      replace hs := hs.below b_4 (by omega)
      replace hw := hw.below b_4 (by omega)
      have z_5 := b_4.size
      replace bC := bC.trans (b_4.mono (by omega))
      clear b_4
      obtain ⟨A5, n5, d5, rfl, _, _, _⟩ := o5.rd.form
      obtain ⟨A6, n6, d6, rfl, _, _, _⟩ := o6.rd.form
      refine hK3a.out _ _ ⟨bx, ht⟩ (fun _ => ?_)
      have hHeld : (fun (W : World) => Box W (w.heap.size) 35 [.int .i64 m, .slice (some ⟨b, off, none⟩) nt dt, .slice A0 n0 d0, .slice A1 n1 d1] ∧ Rd Nm.cells 1 W lo3 hi3 (.slice (some ⟨b, off, none⟩) nt dt) st) w4 := ⟨bx, ht⟩
      refine wpAnyH_take (i := 8) (v := .tuple #[.agg #[.slice A5 n5 d5, .slice A6 n6 d6], .bool (Sl.endOk ls x)]) rfl (by kernel_rfl) (by kernel_rfl) (by kernel_rfl) (fun _ _ _ h => h) (Or.inl ⟨by rfl, by intro w hSw; obtain ⟨hS0, hS1⟩ := hSw; have y00 := hS0.cell (j := 0) rfl; have y01 := hS0.cell (j := 1) rfl; have y02 := hS0.cell (j := 2) rfl; have y03 := hS0.cell (j := 3) rfl; have yx := Nm.at_ hS1 HX.out; go_simp⟩) hHeld ?_
      refine wpAnyH_take (i := 9) (v := .agg #[.slice A5 n5 d5, .slice A6 n6 d6]) rfl (by kernel_rfl) (by kernel_rfl) (by kernel_rfl) (fun _ _ _ h => h) (Or.inl ⟨by rfl, by intro w hSw; obtain ⟨hS0, hS1⟩ := hSw; have y00 := hS0.cell (j := 0) rfl; have y01 := hS0.cell (j := 1) rfl; have y02 := hS0.cell (j := 2) rfl; have y03 := hS0.cell (j := 3) rfl; have yx := Nm.at_ hS1 HX.out; go_simp⟩) hHeld ?_
      refine wpAnyH_take (i := 10) (v := .bool (Sl.endOk ls x)) rfl (by kernel_rfl) (by kernel_rfl) (by kernel_rfl) (fun _ _ _ h => h) (Or.inl ⟨by rfl, by intro w hSw; obtain ⟨hS0, hS1⟩ := hSw; have y00 := hS0.cell (j := 0) rfl; have y01 := hS0.cell (j := 1) rfl; have y02 := hS0.cell (j := 2) rfl; have y03 := hS0.cell (j := 3) rfl; have yx := Nm.at_ hS1 HX.out; go_simp⟩) hHeld ?_
      clear hHeld
      refine wpAnyH_ready (rs := [11]) (by kernel_rfl) (by decide) ?_
      refine AllReadyH.cons rfl (fun K6 hK6 => ?_) AllReadyH.nil
      go_simp
      have b_7 := (Below.refl w4.heap.size w4).alloc (Nat.le_refl _) (.cells #[.slice none 0 0, .slice none 0 0] 33)
      have bT := Box.new w4 #[.slice none 0 0, .slice none 0 0] 33 rfl
      replace bx := bx.below b_7 bx.lt
      replace bR := bR.below b_7 bR.lt
      replace ht := ht.below b_7 (by omega)
      replace hs := hs.below b_7 (by omega)
      replace hw := hw.below b_7 (by omega)
      replace o5 := o5.below b_7 (by omega)
      replace o6 := o6.below b_7 (by omega)
      have z_8 := b_7.size
      replace bC := bC.trans (b_7.mono (by omega))
      clear b_7
      generalize w4.alloc _ = w7 at *
      generalize w4.heap.size = g7 at *
      refine hK6.out _ _ ⟨bx, ht⟩ (fun _ => ?_)
      refine wpAnyH_ready (rs := [12]) (by kernel_rfl) (by decide) ?_
      refine AllReadyH.cons rfl (fun K9 hK9 => ?_) AllReadyH.nil
      have bx_0 := bx.cell (j := 0) rfl
      have bx_1 := bx.cell (j := 1) rfl
      have bx_2 := bx.cell (j := 2) rfl
      have bx_3 := bx.cell (j := 3) rfl
      have bx_z := bx.frozen
      have bx_l := bx.lt
      have bR_0 := bR.cell (j := 0) rfl
      have bR_1 := bR.cell (j := 1) rfl
      have bR_2 := bR.cell (j := 2) rfl
      have bR_3 := bR.cell (j := 3) rfl
      have bR_z := bR.frozen
      have bR_l := bR.lt
      have bT_0 := bT.cell (j := 0) rfl
      have bT_1 := bT.cell (j := 1) rfl
      have bT_z := bT.frozen
      have bT_l := bT.lt
      go_simp
      clear bx_0 bx_1 bx_2 bx_3 bx_z bx_l bR_0 bR_1 bR_2 bR_3 bR_z bR_l bT_0 bT_1 bT_z bT_l
      generalize hwz : World.setCell (World.setCell _ _ _) _ _ = wz_
      obtain rfl : wz_ = setL w7 (g7) 0 [.slice A5 n5 d5, .slice A6 n6 d6] := hwz.symm
      clear hwz
      replace bx := bx.other (b := g7) (by omega) 0 [.slice A5 n5 d5, .slice A6 n6 d6]
      replace bR := bR.other (b := g7) (by omega) 0 [.slice A5 n5 d5, .slice A6 n6 d6]
      replace ht := ht.away (g := g7) (by omega) 0 [.slice A5 n5 d5, .slice A6 n6 d6]
      replace hs := hs.away (g := g7) (by omega) 0 [.slice A5 n5 d5, .slice A6 n6 d6]
      replace hw := hw.away (g := g7) (by omega) 0 [.slice A5 n5 d5, .slice A6 n6 d6]
      replace o5 := o5.box (g := g7) bT (by decide) 0 [.slice A5 n5 d5, .slice A6 n6 d6]
      replace o6 := o6.box (g := g7) bT (by decide) 0 [.slice A5 n5 d5, .slice A6 n6 d6]
      replace bC := setL_below bC [.slice A5 n5 d5, .slice A6 n6 d6] (g7) 0 (by omega)
      have zs_10 : (setL w7 (g7) 0 [.slice A5 n5 d5, .slice A6 n6 d6]).heap.size = w7.heap.size := setL_size _ _ _ _
      replace bT := bT.setAll [.slice A5 n5 d5, .slice A6 n6 d6] rfl
      generalize setL w7 _ 0 _ = w10 at *
      refine hK9.out _ _ ⟨bx, ht⟩ (fun _ => ?_)
      refine wpAnyH_ready (rs := [13]) (by kernel_rfl) (by decide) ?_
      refine AllReadyH.cons rfl (fun K11 hK11 => ?_) AllReadyH.nil
      go_simp
      refine hK11.out _ _ ⟨bx, ht⟩ (fun _ => ?_)
      refine ⟨by kernel_rfl, ?_⟩
      have bx_0 := bx.cell (j := 0) rfl
      have bx_1 := bx.cell (j := 1) rfl
      have bx_2 := bx.cell (j := 2) rfl
      have bx_3 := bx.cell (j := 3) rfl
      have bx_z := bx.frozen
      have bx_l := bx.lt
      have bR_0 := bR.cell (j := 0) rfl
      have bR_1 := bR.cell (j := 1) rfl
      have bR_2 := bR.cell (j := 2) rfl
      have bR_3 := bR.cell (j := 3) rfl
      have bR_z := bR.frozen
      have bR_l := bR.lt
      have bT_0 := bT.cell (j := 0) rfl
      have bT_1 := bT.cell (j := 1) rfl
      have bT_z := bT.frozen
      have bT_l := bT.lt
      go_wp2_with fail
      clear bx_0 bx_1 bx_2 bx_3 bx_z bx_l bR_0 bR_1 bR_2 bR_3 bR_z bR_l bT_0 bT_1 bT_z bT_l
      go_meet
      exact ⟨_, _, _, _, rfl, rfl, rfl, bC, by omega, bT, o5.mono (by omega) (by omega), o6.mono (by omega) (by omega)⟩
    · go_simp
      have b_4 := (Below.refl w1.heap.size w1).alloc (Nat.le_refl _) (.cells #[.slice none 0 0, .slice none 0 0] 33)
      have bT := Box.new w1 #[.slice none 0 0, .slice none 0 0] 33 rfl
      replace bx := bx.below b_4 bx.lt
      replace bR := bR.below b_4 bR.lt
      replace ht := ht.below b_4 (by omega)
      replace hs := hs.below b_4 (by omega)
      replace hw := hw.below b_4 (by omega)
      have z_5 := b_4.size
      replace bC := bC.trans (b_4.mono (by omega))
      clear b_4
      generalize w1.alloc _ = w4 at *
      generalize w1.heap.size = g4 at *
      refine hK3b.out _ _ ⟨bx, ht⟩ (fun _ => ?_)
      refine wpAnyH_ready (rs := [7]) (by kernel_rfl) (by decide) ?_
      refine AllReadyH.cons rfl (fun K6 hK6 => ?_) AllReadyH.nil
      go_simp
      refine (implEndQ_in _ _ ls lw x w4 hs hw (by omega) (by omega) HP.out).mono ?_; rintro q_ w7 ⟨v5, v6, rfl, o5, o6, b_7⟩
      replace bx := bx.below b_7 bx.lt
      replace bR := bR.below b_7 bR.lt
      replace bT := bT.below b_7 bT.lt
      replace ht := ht.below b_7 (by omega)
      replace hs := hs.below b_7 (by omega)
      replace hw := hw.below b_7 (by omega)
      have z_8 := b_7.size
      replace bC := bC.trans (b_7.mono (by omega))
      clear b_7
      obtain ⟨A5, n5, d5, rfl, _, _, _⟩ := o5.rd.form
      obtain ⟨A6, n6, d6, rfl, _, _, _⟩ := o6.rd.form
      refine hK6.out _ _ ⟨bx, ht⟩ (fun _ => ?_)
      have hHeld : (fun (W : World) => Box W (w.heap.size) 35 [.int .i64 m, .slice (some ⟨b, off, none⟩) nt dt, .slice A0 n0 d0, .slice A1 n1 d1] ∧ Rd Nm.cells 1 W lo3 hi3 (.slice (some ⟨b, off, none⟩) nt dt) st) w7 := ⟨bx, ht⟩
      refine wpAnyH_take (i := 8) (v := .tuple #[.agg #[.slice A5 n5 d5, .slice A6 n6 d6], .bool (Sl.endOk ls x)]) rfl (by kernel_rfl) (by kernel_rfl) (by kernel_rfl) (fun _ _ _ h => h) (Or.inl ⟨by rfl, by intro w hSw; obtain ⟨hS0, hS1⟩ := hSw; have y00 := hS0.cell (j := 0) rfl; have y01 := hS0.cell (j := 1) rfl; have y02 := hS0.cell (j := 2) rfl; have y03 := hS0.cell (j := 3) rfl; have yx := Nm.at_ hS1 HX.out; go_simp⟩) hHeld ?_
      refine wpAnyH_take (i := 9) (v := .agg #[.slice A5 n5 d5, .slice A6 n6 d6]) rfl (by kernel_rfl) (by kernel_rfl) (by kernel_rfl) (fun _ _ _ h => h) (Or.inl ⟨by rfl, by intro w hSw; obtain ⟨hS0, hS1⟩ := hSw; have y00 := hS0.cell (j := 0) rfl; have y01 := hS0.cell (j := 1) rfl; have y02 := hS0.cell (j := 2) rfl; have y03 := hS0.cell (j := 3) rfl; have yx := Nm.at_ hS1 HX.out; go_simp⟩) hHeld ?_
      refine wpAnyH_take (i := 10) (v := .bool (Sl.endOk ls x)) rfl (by kernel_rfl) (by kernel_rfl) (by kernel_rfl) (fun _ _ _ h => h) (Or.inl ⟨by rfl, by intro w hSw; obtain ⟨hS0, hS1⟩ := hSw; have y00 := hS0.cell (j := 0) rfl; have y01 := hS0.cell (j := 1) rfl; have y02 := hS0.cell (j := 2) rfl; have y03 := hS0.cell (j := 3) rfl; have yx := Nm.at_ hS1 HX.out; go_simp⟩) hHeld ?_
      clear hHeld
      refine wpAnyH_ready (rs := [12]) (by kernel_rfl) (by decide) ?_
      refine AllReadyH.cons rfl (fun K9 hK9 => ?_) AllReadyH.nil
      have bx_0 := bx.cell (j := 0) rfl
      have bx_1 := bx.cell (j := 1) rfl
      have bx_2 := bx.cell (j := 2) rfl
      have bx_3 := bx.cell (j := 3) rfl
      have bx_z := bx.frozen
      have bx_l := bx.lt
      have bR_0 := bR.cell (j := 0) rfl
      have bR_1 := bR.cell (j := 1) rfl
      have bR_2 := bR.cell (j := 2) rfl
      have bR_3 := bR.cell (j := 3) rfl
      have bR_z := bR.frozen
      have bR_l := bR.lt
      have bT_0 := bT.cell (j := 0) rfl
      have bT_1 := bT.cell (j := 1) rfl
      have bT_z := bT.frozen
      have bT_l := bT.lt
      go_simp
      clear bx_0 bx_1 bx_2 bx_3 bx_z bx_l bR_0 bR_1 bR_2 bR_3 bR_z bR_l bT_0 bT_1 bT_z bT_l
      generalize hwz : World.setCell (World.setCell _ _ _) _ _ = wz_
      obtain rfl : wz_ = setL w7 (g4) 0 [.slice A5 n5 d5, .slice A6 n6 d6] := hwz.symm
      clear hwz
      replace bx := bx.other (b := g4) (by omega) 0 [.slice A5 n5 d5, .slice A6 n6 d6]
      replace bR := bR.other (b := g4) (by omega) 0 [.slice A5 n5 d5, .slice A6 n6 d6]
      replace ht := ht.away (g := g4) (by omega) 0 [.slice A5 n5 d5, .slice A6 n6 d6]
      replace hs := hs.away (g := g4) (by omega) 0 [.slice A5 n5 d5, .slice A6 n6 d6]
      replace hw := hw.away (g := g4) (by omega) 0 [.slice A5 n5 d5, .slice A6 n6 d6]
      replace o5 := o5.box (g := g4) bT (by decide) 0 [.slice A5 n5 d5, .slice A6 n6 d6]
      replace o6 := o6.box (g := g4) bT (by decide) 0 [.slice A5 n5 d5, .slice A6 n6 d6]
      replace bC := setL_below bC [.slice A5 n5 d5, .slice A6 n6 d6] (g4) 0 (by omega)
      have zs_10 : (setL w7 (g4) 0 [.slice A5 n5 d5, .slice A6 n6 d6]).heap.size = w7.heap.size := setL_size _ _ _ _
      replace bT := bT.setAll [.slice A5 n5 d5, .slice A6 n6 d6] rfl
      generalize setL w7 _ 0 _ = w10 at *
      refine hK9.out _ _ ⟨bx, ht⟩ (fun _ => ?_)
      refine wpAnyH_ready (rs := [13]) (by kernel_rfl) (by decide) ?_
      refine AllReadyH.cons rfl (fun K11 hK11 => ?_) AllReadyH.nil
      go_simp
      refine hK11.out _ _ ⟨bx, ht⟩ (fun _ => ?_)
      refine ⟨by kernel_rfl, ?_⟩
      have bx_0 := bx.cell (j := 0) rfl
      have bx_1 := bx.cell (j := 1) rfl
      have bx_2 := bx.cell (j := 2) rfl
      have bx_3 := bx.cell (j := 3) rfl
      have bx_z := bx.frozen
      have bx_l := bx.lt
      have bR_0 := bR.cell (j := 0) rfl
      have bR_1 := bR.cell (j := 1) rfl
      have bR_2 := bR.cell (j := 2) rfl
      have bR_3 := bR.cell (j := 3) rfl
      have bR_z := bR.frozen
      have bR_l := bR.lt
      have bT_0 := bT.cell (j := 0) rfl
      have bT_1 := bT.cell (j := 1) rfl
      have bT_z := bT.frozen
      have bT_l := bT.lt
      go_wp2_with fail
      clear bx_0 bx_1 bx_2 bx_3 bx_z bx_l bR_0 bR_1 bR_2 bR_3 bR_z bR_l bT_0 bT_1 bT_z bT_l
      go_meet
      exact ⟨_, _, _, _, rfl, rfl, rfl, bC, by omega, bT, o5.mono (by omega) (by omega), o6.mono (by omega) (by omega)⟩
  case rest =>
      obtain ⟨wx, gT, v1, v2, rfl, rfl, rfl, bC, zT, bT, o5, o6⟩ := hcut
      replace bx := bx.below bC bx.lt
      replace bR := bR.below bC bR.lt
      replace ht := ht.below bC (by omega)
      replace hs := hs.below bC (by omega)
      replace hw := hw.below bC (by omega)
      have z_51 := bC.size
      replace b0 := b0.trans (bC.mono (by omega))
      clear bC
      obtain ⟨A5, n5, d5, rfl, _, _, _⟩ := o5.rd.form
      obtain ⟨A6, n6, d6, rfl, _, _, _⟩ := o6.rd.form
      have zTl := bT.lt
      have bx_0 := bx.cell (j := 0) rfl
      have bx_1 := bx.cell (j := 1) rfl
      have bx_2 := bx.cell (j := 2) rfl
      have bx_3 := bx.cell (j := 3) rfl
      have bx_z := bx.frozen
      have bx_l := bx.lt
      have bR_0 := bR.cell (j := 0) rfl
      have bR_1 := bR.cell (j := 1) rfl
      have bR_2 := bR.cell (j := 2) rfl
      have bR_3 := bR.cell (j := 3) rfl
      have bR_z := bR.frozen
      have bR_l := bR.lt
      have bT_0 := bT.cell (j := 0) rfl
      have bT_1 := bT.cell (j := 1) rfl
      have bT_z := bT.frozen
      have bT_l := bT.lt
      go_upto_region 5 with fail
      clear bx_0 bx_1 bx_2 bx_3 bx_z bx_l bR_0 bR_1 bR_2 bR_3 bR_z bR_l bT_0 bT_1 bT_z bT_l
      refine wp_region_held_drew (S := fun W => Box W (w.heap.size) 35 [.int .i64 m, .slice (some ⟨b, off, none⟩) nt dt, .slice A0 n0 d0, .slice A1 n1 d1] ∧ Box W (gT) 33 [.slice A5 n5 d5, .slice A6 n6 d6] ∧ Rd Nm.cells 1 W lo3 hi3 (.slice (some ⟨b, off, none⟩) nt dt) st) (by kernel_rfl) (show (fun (W : World) => Box W (w.heap.size) 35 [.int .i64 m, .slice (some ⟨b, off, none⟩) nt dt, .slice A0 n0 d0, .slice A1 n1 d1] ∧ Box W (gT) 33 [.slice A5 n5 d5, .slice A6 n6 d6] ∧ Rd Nm.cells 1 W lo3 hi3 (.slice (some ⟨b, off, none⟩) nt dt) st) wx.drew from ⟨bx, bT, ht.drew⟩) (fun hHeld => ?_)
      refine wpAnyH_take (i := 0) (v := .pointer (some ⟨w.heap.size, 0, none⟩)) rfl (by kernel_rfl) (by kernel_rfl) (by kernel_rfl) (fun _ _ _ h => h) (Or.inl ⟨by rfl, by intro w hSw; obtain ⟨hS0, hS1, hS2⟩ := hSw; have y00 := hS0.cell (j := 0) rfl; have y01 := hS0.cell (j := 1) rfl; have y02 := hS0.cell (j := 2) rfl; have y03 := hS0.cell (j := 3) rfl; have y10 := hS1.cell (j := 0) rfl; have y11 := hS1.cell (j := 1) rfl; have yx := Nm.at_ hS2 HX.out; go_simp⟩) hHeld ?_
      refine wpAnyH_take (i := 1) (v := .int .i64 m) rfl (by kernel_rfl) (by kernel_rfl) (by kernel_rfl) (fun _ _ _ h => h) (Or.inl ⟨by rfl, by intro w hSw; obtain ⟨hS0, hS1, hS2⟩ := hSw; have y00 := hS0.cell (j := 0) rfl; have y01 := hS0.cell (j := 1) rfl; have y02 := hS0.cell (j := 2) rfl; have y03 := hS0.cell (j := 3) rfl; have y10 := hS1.cell (j := 0) rfl; have y11 := hS1.cell (j := 1) rfl; have yx := Nm.at_ hS2 HX.out; go_simp⟩) hHeld ?_
      refine wpAnyH_take (i := 2) (v := .pointer (some ⟨w.heap.size, 1, none⟩)) rfl (by kernel_rfl) (by kernel_rfl) (by kernel_rfl) (fun _ _ _ h => h) (Or.inl ⟨by rfl, by intro w hSw; obtain ⟨hS0, hS1, hS2⟩ := hSw; have y00 := hS0.cell (j := 0) rfl; have y01 := hS0.cell (j := 1) rfl; have y02 := hS0.cell (j := 2) rfl; have y03 := hS0.cell (j := 3) rfl; have y10 := hS1.cell (j := 0) rfl; have y11 := hS1.cell (j := 1) rfl; have yx := Nm.at_ hS2 HX.out; go_simp⟩) hHeld ?_
      refine wpAnyH_take (i := 3) (v := .slice (some ⟨b, off, none⟩) nt dt) rfl (by kernel_rfl) (by kernel_rfl) (by kernel_rfl) (fun _ _ _ h => h) (Or.inl ⟨by rfl, by intro w hSw; obtain ⟨hS0, hS1, hS2⟩ := hSw; have y00 := hS0.cell (j := 0) rfl; have y01 := hS0.cell (j := 1) rfl; have y02 := hS0.cell (j := 2) rfl; have y03 := hS0.cell (j := 3) rfl; have y10 := hS1.cell (j := 0) rfl; have y11 := hS1.cell (j := 1) rfl; have yx := Nm.at_ hS2 HX.out; go_simp⟩) hHeld ?_
      refine wpAnyH_take (i := 4) (v := .int .i64 j) rfl (by kernel_rfl) (by kernel_rfl) (by kernel_rfl) (fun _ _ _ h => h) (Or.inl ⟨by rfl, by intro w hSw; obtain ⟨hS0, hS1, hS2⟩ := hSw; have y00 := hS0.cell (j := 0) rfl; have y01 := hS0.cell (j := 1) rfl; have y02 := hS0.cell (j := 2) rfl; have y03 := hS0.cell (j := 3) rfl; have y10 := hS1.cell (j := 0) rfl; have y11 := hS1.cell (j := 1) rfl; have yx := Nm.at_ hS2 HX.out; go_simp⟩) hHeld ?_
      refine wpAnyH_take (i := 5) (v := .slice (some ⟨b, off, none⟩) j dt) rfl (by kernel_rfl) (by kernel_rfl) (by kernel_rfl) (fun _ _ _ h => h) (Or.inl ⟨by rfl, by intro w hSw; obtain ⟨hS0, hS1, hS2⟩ := hSw; have y00 := hS0.cell (j := 0) rfl; have y01 := hS0.cell (j := 1) rfl; have y02 := hS0.cell (j := 2) rfl; have y03 := hS0.cell (j := 3) rfl; have y10 := hS1.cell (j := 0) rfl; have y11 := hS1.cell (j := 1) rfl; have yx := Nm.at_ hS2 HX.out; go_simp⟩) hHeld ?_
      refine wpAnyH_take (i := 7) (v := .agg #[.slice A5 n5 d5, .slice A6 n6 d6]) rfl (by kernel_rfl) (by kernel_rfl) (by kernel_rfl) (fun _ _ _ h => h) (Or.inl ⟨by rfl, by intro w hSw; obtain ⟨hS0, hS1, hS2⟩ := hSw; have y00 := hS0.cell (j := 0) rfl; have y01 := hS0.cell (j := 1) rfl; have y02 := hS0.cell (j := 2) rfl; have y03 := hS0.cell (j := 3) rfl; have y10 := hS1.cell (j := 0) rfl; have y11 := hS1.cell (j := 1) rfl; have yx := Nm.at_ hS2 HX.out; go_simp⟩) hHeld ?_
      refine wpAnyH_take (i := 9) (v := .pointer (some ⟨w.heap.size, 1, none⟩)) rfl (by kernel_rfl) (by kernel_rfl) (by kernel_rfl) (fun _ _ _ h => h) (Or.inl ⟨by rfl, by intro w hSw; obtain ⟨hS0, hS1, hS2⟩ := hSw; have y00 := hS0.cell (j := 0) rfl; have y01 := hS0.cell (j := 1) rfl; have y02 := hS0.cell (j := 2) rfl; have y03 := hS0.cell (j := 3) rfl; have y10 := hS1.cell (j := 0) rfl; have y11 := hS1.cell (j := 1) rfl; have yx := Nm.at_ hS2 HX.out; go_simp⟩) hHeld ?_
      refine wpAnyH_take (i := 10) (v := .slice (some ⟨b, off, none⟩) nt dt) rfl (by kernel_rfl) (by kernel_rfl) (by kernel_rfl) (fun _ _ _ h => h) (Or.inl ⟨by rfl, by intro w hSw; obtain ⟨hS0, hS1, hS2⟩ := hSw; have y00 := hS0.cell (j := 0) rfl; have y01 := hS0.cell (j := 1) rfl; have y02 := hS0.cell (j := 2) rfl; have y03 := hS0.cell (j := 3) rfl; have y10 := hS1.cell (j := 0) rfl; have y11 := hS1.cell (j := 1) rfl; have yx := Nm.at_ hS2 HX.out; go_simp⟩) hHeld ?_
      refine wpAnyH_take (i := 11) (v := .int .i64 j) rfl (by kernel_rfl) (by kernel_rfl) (by kernel_rfl) (fun _ _ _ h => h) (Or.inl ⟨by rfl, by intro w hSw; obtain ⟨hS0, hS1, hS2⟩ := hSw; have y00 := hS0.cell (j := 0) rfl; have y01 := hS0.cell (j := 1) rfl; have y02 := hS0.cell (j := 2) rfl; have y03 := hS0.cell (j := 3) rfl; have y10 := hS1.cell (j := 0) rfl; have y11 := hS1.cell (j := 1) rfl; have yx := Nm.at_ hS2 HX.out; go_simp⟩) hHeld ?_
      refine wpAnyH_take (i := 12) (v := .pointer (some ⟨b, off + j, none⟩)) rfl (by kernel_rfl) (by kernel_rfl) (by kernel_rfl) (fun _ _ _ h => h) (Or.inl ⟨by rfl, by intro w hSw; obtain ⟨hS0, hS1, hS2⟩ := hSw; have y00 := hS0.cell (j := 0) rfl; have y01 := hS0.cell (j := 1) rfl; have y02 := hS0.cell (j := 2) rfl; have y03 := hS0.cell (j := 3) rfl; have y10 := hS1.cell (j := 0) rfl; have y11 := hS1.cell (j := 1) rfl; have yx := Nm.at_ hS2 HX.out; go_simp⟩) hHeld ?_
      refine wpAnyH_take (i := 13) (v := .int .i64 x) rfl (by kernel_rfl) (by kernel_rfl) (by kernel_rfl) (fun _ _ _ h => h) (Or.inl ⟨by rfl, by intro w hSw; obtain ⟨hS0, hS1, hS2⟩ := hSw; have y00 := hS0.cell (j := 0) rfl; have y01 := hS0.cell (j := 1) rfl; have y02 := hS0.cell (j := 2) rfl; have y03 := hS0.cell (j := 3) rfl; have y10 := hS1.cell (j := 0) rfl; have y11 := hS1.cell (j := 1) rfl; have yx := Nm.at_ hS2 HX.out; go_simp⟩) hHeld ?_
      clear hHeld
      refine held_gen (F := fun W' => Below wx.heap.size wx W') (Below.refl wx.heap.size wx).drew ?_
      rintro w52 b_52
      replace bx := bx.below b_52 bx.lt
      replace bR := bR.below b_52 bR.lt
      replace bT := bT.below b_52 bT.lt
      replace ht := ht.below b_52 (by omega)
      replace hs := hs.below b_52 (by omega)
      replace hw := hw.below b_52 (by omega)
      replace o5 := o5.below b_52 (by omega)
      replace o6 := o6.below b_52 (by omega)
      have z_53 := b_52.size
      replace b0 := b0.trans (b_52.mono (by omega))
      clear b_52
      refine wpAnyH_ready (rs := [6]) (by kernel_rfl) (by decide) ?_
      refine AllReadyH.cons rfl (fun K54 hK54 => ?_) AllReadyH.nil
      go_simp
      refine (copyInts_any _ (st.take j) w52 (ht.take_ hjnn) (by omega) hjl2).mono ?_; rintro q_ w55 ⟨v3, rfl, o3, b_55⟩
      replace bx := bx.below b_55 bx.lt
      replace bR := bR.below b_55 bR.lt
      replace bT := bT.below b_55 bT.lt
      replace ht := ht.below b_55 (by omega)
      replace hs := hs.below b_55 (by omega)
      replace hw := hw.below b_55 (by omega)
      replace o5 := o5.below b_55 (by omega)
      replace o6 := o6.below b_55 (by omega)
      have z_56 := b_55.size
      replace b0 := b0.trans (b_55.mono (by omega))
      clear b_55
      obtain ⟨A3, n3, d3, rfl, _, _, _⟩ := o3.rd.form
      refine hK54.out _ _ ⟨bx, bT, ht⟩ (fun _ => ?_)
      have hHeld : (fun (W : World) => Box W (w.heap.size) 35 [.int .i64 m, .slice (some ⟨b, off, none⟩) nt dt, .slice A0 n0 d0, .slice A1 n1 d1] ∧ Box W (gT) 33 [.slice A5 n5 d5, .slice A6 n6 d6] ∧ Rd Nm.cells 1 W lo3 hi3 (.slice (some ⟨b, off, none⟩) nt dt) st) w55 := ⟨bx, bT, ht⟩
      refine wpAnyH_take (i := 8) (v := .agg #[.int .i64 m, .slice A3 n3 d3, .slice A5 n5 d5, .slice A6 n6 d6]) rfl (by kernel_rfl) (by kernel_rfl) (by kernel_rfl) (fun _ _ _ h => h) (Or.inl ⟨by rfl, by intro w hSw; obtain ⟨hS0, hS1, hS2⟩ := hSw; have y00 := hS0.cell (j := 0) rfl; have y01 := hS0.cell (j := 1) rfl; have y02 := hS0.cell (j := 2) rfl; have y03 := hS0.cell (j := 3) rfl; have y10 := hS1.cell (j := 0) rfl; have y11 := hS1.cell (j := 1) rfl; have yx := Nm.at_ hS2 HX.out; go_simp⟩) hHeld ?_
      clear hHeld
      refine wpAnyH_ready (rs := [14]) (by kernel_rfl) (by decide) ?_
      refine AllReadyH.cons rfl (fun K57 hK57 => ?_) AllReadyH.nil
      have bx_0 := bx.cell (j := 0) rfl
      have bx_1 := bx.cell (j := 1) rfl
      have bx_2 := bx.cell (j := 2) rfl
      have bx_3 := bx.cell (j := 3) rfl
      have bx_z := bx.frozen
      have bx_l := bx.lt
      have bR_0 := bR.cell (j := 0) rfl
      have bR_1 := bR.cell (j := 1) rfl
      have bR_2 := bR.cell (j := 2) rfl
      have bR_3 := bR.cell (j := 3) rfl
      have bR_z := bR.frozen
      have bR_l := bR.lt
      have bT_0 := bT.cell (j := 0) rfl
      have bT_1 := bT.cell (j := 1) rfl
      have bT_z := bT.frozen
      have bT_l := bT.lt
      go_simp
      clear bx_0 bx_1 bx_2 bx_3 bx_z bx_l bR_0 bR_1 bR_2 bR_3 bR_z bR_l bT_0 bT_1 bT_z bT_l
      generalize hwz : World.setCell (World.setCell (World.setCell (World.setCell _ _ _) _ _) _ _) _ _ = wz_
      obtain rfl : wz_ = setL w55 (w.heap.size + 1) 0 [.int .i64 m, .slice A3 n3 d3, .slice A5 n5 d5, .slice A6 n6 d6] := hwz.symm
      clear hwz
      replace bx := bx.other (b := w.heap.size + 1) (by omega) 0 [.int .i64 m, .slice A3 n3 d3, .slice A5 n5 d5, .slice A6 n6 d6]
      replace bT := bT.other (b := w.heap.size + 1) (by omega) 0 [.int .i64 m, .slice A3 n3 d3, .slice A5 n5 d5, .slice A6 n6 d6]
      replace ht := ht.away (g := w.heap.size + 1) (by omega) 0 [.int .i64 m, .slice A3 n3 d3, .slice A5 n5 d5, .slice A6 n6 d6]
      replace hs := hs.away (g := w.heap.size + 1) (by omega) 0 [.int .i64 m, .slice A3 n3 d3, .slice A5 n5 d5, .slice A6 n6 d6]
      replace hw := hw.away (g := w.heap.size + 1) (by omega) 0 [.int .i64 m, .slice A3 n3 d3, .slice A5 n5 d5, .slice A6 n6 d6]
      replace o5 := o5.box (g := w.heap.size + 1) bR (by decide) 0 [.int .i64 m, .slice A3 n3 d3, .slice A5 n5 d5, .slice A6 n6 d6]
      replace o6 := o6.box (g := w.heap.size + 1) bR (by decide) 0 [.int .i64 m, .slice A3 n3 d3, .slice A5 n5 d5, .slice A6 n6 d6]
      replace o3 := o3.box (g := w.heap.size + 1) bR (by decide) 0 [.int .i64 m, .slice A3 n3 d3, .slice A5 n5 d5, .slice A6 n6 d6]
      replace b0 := setL_below b0 [.int .i64 m, .slice A3 n3 d3, .slice A5 n5 d5, .slice A6 n6 d6] (w.heap.size + 1) 0 (by omega)
      have zs_58 : (setL w55 (w.heap.size + 1) 0 [.int .i64 m, .slice A3 n3 d3, .slice A5 n5 d5, .slice A6 n6 d6]).heap.size = w55.heap.size := setL_size _ _ _ _
      replace bR := bR.setAll [.int .i64 m, .slice A3 n3 d3, .slice A5 n5 d5, .slice A6 n6 d6] rfl
      generalize setL w55 _ 0 _ = w58 at *
      refine hK57.out _ _ ⟨bx, bT, ht⟩ (fun _ => ?_)
      refine wpAnyH_ready (rs := [15]) (by kernel_rfl) (by decide) ?_
      refine AllReadyH.cons rfl (fun K59 hK59 => ?_) AllReadyH.nil
      go_simp
      refine hK59.out _ _ ⟨bx, bT, ht⟩ (fun _ => ?_)
      refine wpAnyH_ready (rs := [16]) (by kernel_rfl) (by decide) ?_
      refine AllReadyH.cons rfl (fun K60 hK60 => ?_) AllReadyH.nil
      go_simp
      refine hK60.out _ _ ⟨bx, bT, ht⟩ (fun _ => ?_)
      refine ⟨by kernel_rfl, ?_⟩
      have bx_0 := bx.cell (j := 0) rfl
      have bx_1 := bx.cell (j := 1) rfl
      have bx_2 := bx.cell (j := 2) rfl
      have bx_3 := bx.cell (j := 3) rfl
      have bx_z := bx.frozen
      have bx_l := bx.lt
      have bR_0 := bR.cell (j := 0) rfl
      have bR_1 := bR.cell (j := 1) rfl
      have bR_2 := bR.cell (j := 2) rfl
      have bR_3 := bR.cell (j := 3) rfl
      have bR_z := bR.frozen
      have bR_l := bR.lt
      have bT_0 := bT.cell (j := 0) rfl
      have bT_1 := bT.cell (j := 1) rfl
      have bT_z := bT.frozen
      have bT_l := bT.lt
      go_wp2_with fail
      clear bx_0 bx_1 bx_2 bx_3 bx_z bx_l bR_0 bR_1 bR_2 bR_3 bR_z bR_l bT_0 bT_1 bT_z bT_l
      have u0_ := bR.cell (j := 0) rfl
      have u1_ := bR.cell (j := 1) rfl
      have u2_ := bR.cell (j := 2) rfl
      have u3_ := bR.cell (j := 3) rfl
      refine bodyPost_ret (by simp only [results, Tryz.results65]; simp [go_sem, u0_, u1_, u2_, u3_]; rfl) rfl ?_
      exact ⟨_, _, _, rfl, o3.mono (by omega) (by omega), by rw [← HE.out.1]; exact o5.mono (by omega) (by omega), by rw [← HE.out.2]; exact o6.mono (by omega) (by omega), b0⟩
set_option maxHeartbeats 2000000 in
theorem specLeaveIrq_any (m : Int) (vt vs vw : Value) (st : List Int) (ls : List Sl) (lw : List Wt) (w : World) {lo hi lo2 hi2 lo3 hi3 : Nat} (h0 : Rd Nm.cells 1 w lo3 hi3 vt st) (h : Rd Sl.cells 3 w lo hi vs ls) (h2 : Rd Wt.cells 2 w lo2 hi2 vw lw) (hh0 : hi3 ≤ w.heap.size) (hh : hi ≤ w.heap.size) (hh2 : hi2 ≤ w.heap.size) (hl : st.length ≤ 1048576) :
    Calls Tryz.prog 19 #[.agg #[.int .i64 m, vt, vs, vw]] w fun e w' => ∃ v0 v1 v2, e = .returned (.tuple #[.agg #[.int .i64 (Fa.lvM m st ls lw), v0, v1, v2], .int .i64 (Fa.lvI m st ls lw), .bool (Fa.lvOk m st ls lw)]) ∧ Ow Nm.cells 1 3 w' w.heap.size w'.heap.size v0 (Fa.lvT m st ls lw) ∧ Ow Sl.cells 3 127 w' w.heap.size w'.heap.size v1 (Fa.lvS m st ls lw) ∧ Ow Wt.cells 2 134 w' w.heap.size w'.heap.size v2 (Fa.lvW m st ls lw) ∧ Below w.heap.size w w' := by
  have b0 : Below w.heap.size w ((w.alloc (.cells #[.int .i64 m, vt, vs, vw] 35)).alloc (.cells #[.int .i64 0, .slice none 0 0, .slice none 0 0, .slice none 0 0] 35)) := ((Below.refl w.heap.size w).alloc (Nat.le_refl _) _).alloc (by simp) _
  have z0 : ((w.alloc (.cells #[.int .i64 m, vt, vs, vw] 35)).alloc (.cells #[.int .i64 0, .slice none 0 0, .slice none 0 0, .slice none 0 0] 35)).heap.size = w.heap.size + 2 := by simp
  have bx := Box.new w #[.int .i64 m, vt, vs, vw] 35 rfl
  have bR := Box.new (g := w.heap.size + 1) (w.alloc (.cells #[.int .i64 m, vt, vs, vw] 35)) #[.int .i64 0, .slice none 0 0, .slice none 0 0, .slice none 0 0] 35 (by simp)
  replace bx := bx.below ((Below.refl _ (w.alloc (.cells #[.int .i64 m, vt, vs, vw] 35))).alloc (Nat.le_refl _) (.cells #[.int .i64 0, .slice none 0 0, .slice none 0 0, .slice none 0 0] 35)) bx.lt
  have ht := h0.below b0 hh0
  have hs := h.below b0 hh
  have hw := h2.below b0 hh2
  have hv0_ := h0.form
  have hv_ := h.form
  have hv2_ := h2.form
  clear h0 h h2
  generalize hwA : (w.alloc (.cells #[.int .i64 m, vt, vs, vw] 35)).alloc (.cells #[.int .i64 0, .slice none 0 0, .slice none 0 0, .slice none 0 0] 35) = wA at *
  obtain ⟨At, nt, dt, rfl, _, _, _⟩ := hv0_
  obtain ⟨A0, n0, d0, rfl, _, _, _⟩ := hv_
  obtain ⟨A1, n1, d1, rfl, _, _, _⟩ := hv2_
  have c1 := l10Good_any m _ _ _ st ls lw wA ht hs hw (by omega) (by omega) (by omega)
  cases hg : Fa.good m st ls lw
  · have HF := Lib.hid (Fa.lv_no (m := m) (st := st) (ls := ls) (lw := lw) (by simp [Fa.lvOk, hg]))
    rw [hg] at c1
    clear hg
    go_enter Tryz.func19, Tryz.ntmps19
    have bx_0 := bx.cell (j := 0) rfl
    have bx_1 := bx.cell (j := 1) rfl
    have bx_2 := bx.cell (j := 2) rfl
    have bx_3 := bx.cell (j := 3) rfl
    have bx_z := bx.frozen
    have bx_l := bx.lt
    have bR_0 := bR.cell (j := 0) rfl
    have bR_1 := bR.cell (j := 1) rfl
    have bR_2 := bR.cell (j := 2) rfl
    have bR_3 := bR.cell (j := 3) rfl
    have bR_z := bR.frozen
    have bR_l := bR.lt
    go_wp2_with fail
    clear hwA
    clear bx_0 bx_1 bx_2 bx_3 bx_z bx_l bR_0 bR_1 bR_2 bR_3 bR_z bR_l
    refine (c1).mono ?_; rintro q_ w1 ⟨rfl, b_1⟩
    replace bx := bx.below b_1 bx.lt
    replace bR := bR.below b_1 bR.lt
    replace ht := ht.below b_1 (by omega)
    replace hs := hs.below b_1 (by omega)
    replace hw := hw.below b_1 (by omega)
    have z_2 := b_1.size
    replace b0 := b0.trans (b_1.mono (by omega))
    clear b_1
    have bx_0 := bx.cell (j := 0) rfl
    have bx_1 := bx.cell (j := 1) rfl
    have bx_2 := bx.cell (j := 2) rfl
    have bx_3 := bx.cell (j := 3) rfl
    have bx_z := bx.frozen
    have bx_l := bx.lt
    have bR_0 := bR.cell (j := 0) rfl
    have bR_1 := bR.cell (j := 1) rfl
    have bR_2 := bR.cell (j := 2) rfl
    have bR_3 := bR.cell (j := 3) rfl
    have bR_z := bR.frozen
    have bR_l := bR.lt
    go_wp2_with fail
    clear bx_0 bx_1 bx_2 bx_3 bx_z bx_l bR_0 bR_1 bR_2 bR_3 bR_z bR_l
    generalize hwz : World.setCell (World.setCell (World.setCell (World.setCell _ _ _) _ _) _ _) _ _ = wz_
    obtain rfl : wz_ = setL w1 (w.heap.size + 1) 0 [.int .i64 0, .slice none 0 0, .slice none 0 0, .slice none 0 0] := hwz.symm
    clear hwz
    replace bx := bx.other (b := w.heap.size + 1) (by omega) 0 [.int .i64 0, .slice none 0 0, .slice none 0 0, .slice none 0 0]
    replace ht := ht.away (g := w.heap.size + 1) (by omega) 0 [.int .i64 0, .slice none 0 0, .slice none 0 0, .slice none 0 0]
    replace hs := hs.away (g := w.heap.size + 1) (by omega) 0 [.int .i64 0, .slice none 0 0, .slice none 0 0, .slice none 0 0]
    replace hw := hw.away (g := w.heap.size + 1) (by omega) 0 [.int .i64 0, .slice none 0 0, .slice none 0 0, .slice none 0 0]
    replace b0 := setL_below b0 [.int .i64 0, .slice none 0 0, .slice none 0 0, .slice none 0 0] (w.heap.size + 1) 0 (by omega)
    have zs_3 : (setL w1 (w.heap.size + 1) 0 [.int .i64 0, .slice none 0 0, .slice none 0 0, .slice none 0 0]).heap.size = w1.heap.size := setL_size _ _ _ _
    replace bR := bR.setAll [.int .i64 0, .slice none 0 0, .slice none 0 0, .slice none 0 0] rfl
    generalize setL w1 _ 0 _ = w3 at *
    have u0_ := bR.cell (j := 0) rfl
    have u1_ := bR.cell (j := 1) rfl
    have u2_ := bR.cell (j := 2) rfl
    have u3_ := bR.cell (j := 3) rfl
    refine bodyPost_ret (by simp only [results, Tryz.results19]; simp [go_sem, u0_, u1_, u2_, u3_]; rfl) rfl ?_
    exact ⟨_, _, _, by rw [HF.out.1, HF.out.2.1, HF.out.2.2.1], by rw [HF.out.2.2.2.1]; exact Ow.nil_, by rw [HF.out.2.2.2.2.1]; exact Ow.nil_, by rw [HF.out.2.2.2.2.2]; exact Ow.nil_, b0⟩
  · rcases Nat.eq_zero_or_pos st.length with hz | hz
    · have HF := Lib.hid (Fa.lv_no (m := m) (st := st) (ls := ls) (lw := lw) (by simp [Fa.lvOk, hz]))
      obtain rfl : st = [] := List.eq_nil_of_length_eq_zero hz
      obtain ⟨rfl⟩ : nt = 0 := by have := ht.n_eq.1; simpa using this
      rw [hg] at c1
      clear hg hz
      go_enter Tryz.func19, Tryz.ntmps19
      have bx_0 := bx.cell (j := 0) rfl
      have bx_1 := bx.cell (j := 1) rfl
      have bx_2 := bx.cell (j := 2) rfl
      have bx_3 := bx.cell (j := 3) rfl
      have bx_z := bx.frozen
      have bx_l := bx.lt
      have bR_0 := bR.cell (j := 0) rfl
      have bR_1 := bR.cell (j := 1) rfl
      have bR_2 := bR.cell (j := 2) rfl
      have bR_3 := bR.cell (j := 3) rfl
      have bR_z := bR.frozen
      have bR_l := bR.lt
      go_wp2_with fail
      clear hwA
      clear bx_0 bx_1 bx_2 bx_3 bx_z bx_l bR_0 bR_1 bR_2 bR_3 bR_z bR_l
      refine (c1).mono ?_; rintro q_ w1 ⟨rfl, b_1⟩
      replace bx := bx.below b_1 bx.lt
      replace bR := bR.below b_1 bR.lt
      replace ht := ht.below b_1 (by omega)
      replace hs := hs.below b_1 (by omega)
      replace hw := hw.below b_1 (by omega)
      have z_2 := b_1.size
      replace b0 := b0.trans (b_1.mono (by omega))
      clear b_1
      have bx_0 := bx.cell (j := 0) rfl
      have bx_1 := bx.cell (j := 1) rfl
      have bx_2 := bx.cell (j := 2) rfl
      have bx_3 := bx.cell (j := 3) rfl
      have bx_z := bx.frozen
      have bx_l := bx.lt
      have bR_0 := bR.cell (j := 0) rfl
      have bR_1 := bR.cell (j := 1) rfl
      have bR_2 := bR.cell (j := 2) rfl
      have bR_3 := bR.cell (j := 3) rfl
      have bR_z := bR.frozen
      have bR_l := bR.lt
      go_wp2_with fail
      clear bx_0 bx_1 bx_2 bx_3 bx_z bx_l bR_0 bR_1 bR_2 bR_3 bR_z bR_l
      generalize hwz : World.setCell (World.setCell (World.setCell (World.setCell _ _ _) _ _) _ _) _ _ = wz_
      obtain rfl : wz_ = setL w1 (w.heap.size + 1) 0 [.int .i64 0, .slice none 0 0, .slice none 0 0, .slice none 0 0] := hwz.symm
      clear hwz
      replace bx := bx.other (b := w.heap.size + 1) (by omega) 0 [.int .i64 0, .slice none 0 0, .slice none 0 0, .slice none 0 0]
      replace ht := ht.away (g := w.heap.size + 1) (by omega) 0 [.int .i64 0, .slice none 0 0, .slice none 0 0, .slice none 0 0]
      replace hs := hs.away (g := w.heap.size + 1) (by omega) 0 [.int .i64 0, .slice none 0 0, .slice none 0 0, .slice none 0 0]
      replace hw := hw.away (g := w.heap.size + 1) (by omega) 0 [.int .i64 0, .slice none 0 0, .slice none 0 0, .slice none 0 0]
      replace b0 := setL_below b0 [.int .i64 0, .slice none 0 0, .slice none 0 0, .slice none 0 0] (w.heap.size + 1) 0 (by omega)
      have zs_3 : (setL w1 (w.heap.size + 1) 0 [.int .i64 0, .slice none 0 0, .slice none 0 0, .slice none 0 0]).heap.size = w1.heap.size := setL_size _ _ _ _
      replace bR := bR.setAll [.int .i64 0, .slice none 0 0, .slice none 0 0, .slice none 0 0] rfl
      generalize setL w1 _ 0 _ = w3 at *
      have u0_ := bR.cell (j := 0) rfl
      have u1_ := bR.cell (j := 1) rfl
      have u2_ := bR.cell (j := 2) rfl
      have u3_ := bR.cell (j := 3) rfl
      refine bodyPost_ret (by simp only [results, Tryz.results19]; simp [go_sem, u0_, u1_, u2_, u3_]; rfl) rfl ?_
      exact ⟨_, _, _, by rw [HF.out.1, HF.out.2.1, HF.out.2.2.1], by rw [HF.out.2.2.2.1]; exact Ow.nil_, by rw [HF.out.2.2.2.2.1]; exact Ow.nil_, by rw [HF.out.2.2.2.2.2]; exact Ow.nil_, b0⟩
    · obtain ⟨j, hj⟩ : ∃ j, j + 1 = st.length := ⟨st.length - 1, by omega⟩
      obtain ⟨x, hx⟩ : ∃ x, st[j]? = some x := ⟨_, List.getElem?_eq_getElem (show j < st.length by omega)⟩
      have HF := Lib.hid (Fa.lv_yes hg hj hx)
      have HX := Lib.hid hx
      have HJ := Lib.hid hj
      have HP := Lib.hid (Fa.good_parts hg)
      have HK := Lib.hid (Fa.lv_end hg hj hx).1
      have hnn := Nat.le_of_eq ht.n_eq.1.symm
      have hzd2 : ((nt : Int) == 0) = false := by rw [beq_eq_false_iff_ne]; omega
      rw [hg] at c1
      clear hg hz hj hx hnn
      go_enter Tryz.func19, Tryz.ntmps19
      have bx_0 := bx.cell (j := 0) rfl
      have bx_1 := bx.cell (j := 1) rfl
      have bx_2 := bx.cell (j := 2) rfl
      have bx_3 := bx.cell (j := 3) rfl
      have bx_z := bx.frozen
      have bx_l := bx.lt
      have bR_0 := bR.cell (j := 0) rfl
      have bR_1 := bR.cell (j := 1) rfl
      have bR_2 := bR.cell (j := 2) rfl
      have bR_3 := bR.cell (j := 3) rfl
      have bR_z := bR.frozen
      have bR_l := bR.lt
      go_wp2_with fail
      clear hwA
      clear bx_0 bx_1 bx_2 bx_3 bx_z bx_l bR_0 bR_1 bR_2 bR_3 bR_z bR_l
      refine (c1).mono ?_; rintro q_ w1 ⟨rfl, b_1⟩
      replace bx := bx.below b_1 bx.lt
      replace bR := bR.below b_1 bR.lt
      replace ht := ht.below b_1 (by omega)
      replace hs := hs.below b_1 (by omega)
      replace hw := hw.below b_1 (by omega)
      have z_2 := b_1.size
      replace b0 := b0.trans (b_1.mono (by omega))
      clear b_1
      have bx_0 := bx.cell (j := 0) rfl
      have bx_1 := bx.cell (j := 1) rfl
      have bx_2 := bx.cell (j := 2) rfl
      have bx_3 := bx.cell (j := 3) rfl
      have bx_z := bx.frozen
      have bx_l := bx.lt
      have bR_0 := bR.cell (j := 0) rfl
      have bR_1 := bR.cell (j := 1) rfl
      have bR_2 := bR.cell (j := 2) rfl
      have bR_3 := bR.cell (j := 3) rfl
      have bR_z := bR.frozen
      have bR_l := bR.lt
      go_wp2_with fail
      clear bx_0 bx_1 bx_2 bx_3 bx_z bx_l bR_0 bR_1 bR_2 bR_3 bR_z bR_l
      refine (specLeave_in m _ _ _ st ls lw w1 ht hs hw (by omega) (by omega) (by omega) hl HP.out HJ.out HX.out HK.out).mono ?_; rintro q_ w3 ⟨v3, v4, v5, rfl, o3, o4, o5, b_3⟩
      replace bx := bx.below b_3 bx.lt
      replace bR := bR.below b_3 bR.lt
      replace ht := ht.below b_3 (by omega)
      replace hs := hs.below b_3 (by omega)
      replace hw := hw.below b_3 (by omega)
      have z_4 := b_3.size
      replace b0 := b0.trans (b_3.mono (by omega))
      clear b_3
      obtain ⟨A3, n3, d3, rfl, _, _, _⟩ := o3.rd.form
      obtain ⟨A4, n4, d4, rfl, _, _, _⟩ := o4.rd.form
      obtain ⟨A5, n5, d5, rfl, _, _, _⟩ := o5.rd.form
      have bx_0 := bx.cell (j := 0) rfl
      have bx_1 := bx.cell (j := 1) rfl
      have bx_2 := bx.cell (j := 2) rfl
      have bx_3 := bx.cell (j := 3) rfl
      have bx_z := bx.frozen
      have bx_l := bx.lt
      have bR_0 := bR.cell (j := 0) rfl
      have bR_1 := bR.cell (j := 1) rfl
      have bR_2 := bR.cell (j := 2) rfl
      have bR_3 := bR.cell (j := 3) rfl
      have bR_z := bR.frozen
      have bR_l := bR.lt
      go_upto_region 4 with fail
      clear bx_0 bx_1 bx_2 bx_3 bx_z bx_l bR_0 bR_1 bR_2 bR_3 bR_z bR_l
      have b_5 := (Below.refl w3.heap.size w3).alloc (Nat.le_refl _) (.cells #[.int .i64 m, .slice A3 n3 d3, .slice A4 n4 d4, .slice A5 n5 d5] 35)
      have bL := Box.new w3 #[.int .i64 m, .slice A3 n3 d3, .slice A4 n4 d4, .slice A5 n5 d5] 35 rfl
      replace bx := bx.below b_5 bx.lt
      replace bR := bR.below b_5 bR.lt
      replace ht := ht.below b_5 (by omega)
      replace hs := hs.below b_5 (by omega)
      replace hw := hw.below b_5 (by omega)
      replace o3 := o3.below b_5 (by omega)
      replace o4 := o4.below b_5 (by omega)
      replace o5 := o5.below b_5 (by omega)
      have z_6 := b_5.size
      replace b0 := b0.trans (b_5.mono (by omega))
      clear b_5
      generalize w3.alloc _ = w5 at *
      generalize w3.heap.size = g5 at *
      have bx_0 := bx.cell (j := 0) rfl
      have bx_1 := bx.cell (j := 1) rfl
      have bx_2 := bx.cell (j := 2) rfl
      have bx_3 := bx.cell (j := 3) rfl
      have bx_z := bx.frozen
      have bx_l := bx.lt
      have bR_0 := bR.cell (j := 0) rfl
      have bR_1 := bR.cell (j := 1) rfl
      have bR_2 := bR.cell (j := 2) rfl
      have bR_3 := bR.cell (j := 3) rfl
      have bR_z := bR.frozen
      have bR_l := bR.lt
      have bL_0 := bL.cell (j := 0) rfl
      have bL_1 := bL.cell (j := 1) rfl
      have bL_2 := bL.cell (j := 2) rfl
      have bL_3 := bL.cell (j := 3) rfl
      have bL_z := bL.frozen
      have bL_l := bL.lt
      go_wp2_with fail
      clear bx_0 bx_1 bx_2 bx_3 bx_z bx_l bR_0 bR_1 bR_2 bR_3 bR_z bR_l bL_0 bL_1 bL_2 bL_3 bL_z bL_l
      generalize hwz : World.setCell (World.setCell (World.setCell (World.setCell _ _ _) _ _) _ _) _ _ = wz_
      obtain rfl : wz_ = setL w5 (w.heap.size + 1) 0 [.int .i64 m, .slice A3 n3 d3, .slice A4 n4 d4, .slice A5 n5 d5] := hwz.symm
      clear hwz
      replace bx := bx.other (b := w.heap.size + 1) (by omega) 0 [.int .i64 m, .slice A3 n3 d3, .slice A4 n4 d4, .slice A5 n5 d5]
      replace bL := bL.other (b := w.heap.size + 1) (by omega) 0 [.int .i64 m, .slice A3 n3 d3, .slice A4 n4 d4, .slice A5 n5 d5]
      replace ht := ht.away (g := w.heap.size + 1) (by omega) 0 [.int .i64 m, .slice A3 n3 d3, .slice A4 n4 d4, .slice A5 n5 d5]
      replace hs := hs.away (g := w.heap.size + 1) (by omega) 0 [.int .i64 m, .slice A3 n3 d3, .slice A4 n4 d4, .slice A5 n5 d5]
      replace hw := hw.away (g := w.heap.size + 1) (by omega) 0 [.int .i64 m, .slice A3 n3 d3, .slice A4 n4 d4, .slice A5 n5 d5]
      replace o3 := o3.box (g := w.heap.size + 1) bR (by decide) 0 [.int .i64 m, .slice A3 n3 d3, .slice A4 n4 d4, .slice A5 n5 d5]
      replace o4 := o4.box (g := w.heap.size + 1) bR (by decide) 0 [.int .i64 m, .slice A3 n3 d3, .slice A4 n4 d4, .slice A5 n5 d5]
      replace o5 := o5.box (g := w.heap.size + 1) bR (by decide) 0 [.int .i64 m, .slice A3 n3 d3, .slice A4 n4 d4, .slice A5 n5 d5]
      replace b0 := setL_below b0 [.int .i64 m, .slice A3 n3 d3, .slice A4 n4 d4, .slice A5 n5 d5] (w.heap.size + 1) 0 (by omega)
      have zs_7 : (setL w5 (w.heap.size + 1) 0 [.int .i64 m, .slice A3 n3 d3, .slice A4 n4 d4, .slice A5 n5 d5]).heap.size = w5.heap.size := setL_size _ _ _ _
      replace bR := bR.setAll [.int .i64 m, .slice A3 n3 d3, .slice A4 n4 d4, .slice A5 n5 d5] rfl
      generalize setL w5 _ 0 _ = w7 at *
      have u0_ := bR.cell (j := 0) rfl
      have u1_ := bR.cell (j := 1) rfl
      have u2_ := bR.cell (j := 2) rfl
      have u3_ := bR.cell (j := 3) rfl
      refine bodyPost_ret (by simp only [results, Tryz.results19]; simp [go_sem, u0_, u1_, u2_, u3_]; rfl) rfl ?_
      exact ⟨_, _, _, by rw [HF.out.1, HF.out.2.1, HF.out.2.2.1], by rw [HF.out.2.2.2.1]; exact o3.mono (by omega) (by omega), by rw [HF.out.2.2.2.2.1]; exact o4.mono (by omega) (by omega), by rw [HF.out.2.2.2.2.2]; exact o5.mono (by omega) (by omega), b0⟩
set_option maxHeartbeats 2000000 in
theorem implLeaveIrq_any (m : Int) (vt vs vw : Value) (st : List Int) (ls : List Sl) (lw : List Wt) (w : World) {lo hi lo2 hi2 lo3 hi3 : Nat} (h0 : Rd Nm.cells 1 w lo3 hi3 vt st) (h : Rd Sl.cells 3 w lo hi vs ls) (h2 : Rd Wt.cells 2 w lo2 hi2 vw lw) (hh0 : hi3 ≤ w.heap.size) (hh : hi ≤ w.heap.size) (hh2 : hi2 ≤ w.heap.size) (hl : st.length ≤ 1048576) :
    Calls Tryz.prog 20 #[.agg #[.int .i64 m, vt, vs, vw]] w fun e w' => ∃ v0 v1 v2, e = .returned (.tuple #[.agg #[.int .i64 (Fa.lvM m st ls lw), v0, v1, v2], .int .i64 (Fa.lvI m st ls lw), .bool (Fa.lvOk m st ls lw)]) ∧ Ow Nm.cells 1 3 w' w.heap.size w'.heap.size v0 (Fa.lvT m st ls lw) ∧ Ow Sl.cells 3 127 w' w.heap.size w'.heap.size v1 (Fa.lvS m st ls lw) ∧ Ow Wt.cells 2 134 w' w.heap.size w'.heap.size v2 (Fa.lvW m st ls lw) ∧ Below w.heap.size w w' := by
  have b0 : Below w.heap.size w ((w.alloc (.cells #[.int .i64 m, vt, vs, vw] 35)).alloc (.cells #[.int .i64 0, .slice none 0 0, .slice none 0 0, .slice none 0 0] 35)) := ((Below.refl w.heap.size w).alloc (Nat.le_refl _) _).alloc (by simp) _
  have z0 : ((w.alloc (.cells #[.int .i64 m, vt, vs, vw] 35)).alloc (.cells #[.int .i64 0, .slice none 0 0, .slice none 0 0, .slice none 0 0] 35)).heap.size = w.heap.size + 2 := by simp
  have bx := Box.new w #[.int .i64 m, vt, vs, vw] 35 rfl
  have bR := Box.new (g := w.heap.size + 1) (w.alloc (.cells #[.int .i64 m, vt, vs, vw] 35)) #[.int .i64 0, .slice none 0 0, .slice none 0 0, .slice none 0 0] 35 (by simp)
  replace bx := bx.below ((Below.refl _ (w.alloc (.cells #[.int .i64 m, vt, vs, vw] 35))).alloc (Nat.le_refl _) (.cells #[.int .i64 0, .slice none 0 0, .slice none 0 0, .slice none 0 0] 35)) bx.lt
  have ht := h0.below b0 hh0
  have hs := h.below b0 hh
  have hw := h2.below b0 hh2
  have hv0_ := h0.form
  have hv_ := h.form
  have hv2_ := h2.form
  clear h0 h h2
  generalize hwA : (w.alloc (.cells #[.int .i64 m, vt, vs, vw] 35)).alloc (.cells #[.int .i64 0, .slice none 0 0, .slice none 0 0, .slice none 0 0] 35) = wA at *
  obtain ⟨At, nt, dt, rfl, _, _, _⟩ := hv0_
  obtain ⟨A0, n0, d0, rfl, _, _, _⟩ := hv_
  obtain ⟨A1, n1, d1, rfl, _, _, _⟩ := hv2_
  have c1 := implIsInterface_any m _ _ _ st ls lw wA ht hs hw (by omega) (by omega) (by omega) hl
  cases hg : Fa.good m st ls lw
  · have HF := Lib.hid (Fa.lv_no (m := m) (st := st) (ls := ls) (lw := lw) (by simp [Fa.lvOk, hg]))
    rw [hg] at c1
    clear hg
    go_enter Tryz.func20, Tryz.ntmps20
    have bx_0 := bx.cell (j := 0) rfl
    have bx_1 := bx.cell (j := 1) rfl
    have bx_2 := bx.cell (j := 2) rfl
    have bx_3 := bx.cell (j := 3) rfl
    have bx_z := bx.frozen
    have bx_l := bx.lt
    have bR_0 := bR.cell (j := 0) rfl
    have bR_1 := bR.cell (j := 1) rfl
    have bR_2 := bR.cell (j := 2) rfl
    have bR_3 := bR.cell (j := 3) rfl
    have bR_z := bR.frozen
    have bR_l := bR.lt
    go_wp2_with fail
    clear hwA
    clear bx_0 bx_1 bx_2 bx_3 bx_z bx_l bR_0 bR_1 bR_2 bR_3 bR_z bR_l
    refine (c1).mono ?_; rintro q_ w1 ⟨rfl, b_1⟩
    replace bx := bx.below b_1 bx.lt
    replace bR := bR.below b_1 bR.lt
    replace ht := ht.below b_1 (by omega)
    replace hs := hs.below b_1 (by omega)
    replace hw := hw.below b_1 (by omega)
    have z_2 := b_1.size
    replace b0 := b0.trans (b_1.mono (by omega))
    clear b_1
    have bx_0 := bx.cell (j := 0) rfl
    have bx_1 := bx.cell (j := 1) rfl
    have bx_2 := bx.cell (j := 2) rfl
    have bx_3 := bx.cell (j := 3) rfl
    have bx_z := bx.frozen
    have bx_l := bx.lt
    have bR_0 := bR.cell (j := 0) rfl
    have bR_1 := bR.cell (j := 1) rfl
    have bR_2 := bR.cell (j := 2) rfl
    have bR_3 := bR.cell (j := 3) rfl
    have bR_z := bR.frozen
    have bR_l := bR.lt
    go_wp2_with fail
    clear bx_0 bx_1 bx_2 bx_3 bx_z bx_l bR_0 bR_1 bR_2 bR_3 bR_z bR_l
    generalize hwz : World.setCell (World.setCell (World.setCell (World.setCell _ _ _) _ _) _ _) _ _ = wz_
    obtain rfl : wz_ = setL w1 (w.heap.size + 1) 0 [.int .i64 0, .slice none 0 0, .slice none 0 0, .slice none 0 0] := hwz.symm
    clear hwz
    replace bx := bx.other (b := w.heap.size + 1) (by omega) 0 [.int .i64 0, .slice none 0 0, .slice none 0 0, .slice none 0 0]
    replace ht := ht.away (g := w.heap.size + 1) (by omega) 0 [.int .i64 0, .slice none 0 0, .slice none 0 0, .slice none 0 0]
    replace hs := hs.away (g := w.heap.size + 1) (by omega) 0 [.int .i64 0, .slice none 0 0, .slice none 0 0, .slice none 0 0]
    replace hw := hw.away (g := w.heap.size + 1) (by omega) 0 [.int .i64 0, .slice none 0 0, .slice none 0 0, .slice none 0 0]
    replace b0 := setL_below b0 [.int .i64 0, .slice none 0 0, .slice none 0 0, .slice none 0 0] (w.heap.size + 1) 0 (by omega)
    have zs_3 : (setL w1 (w.heap.size + 1) 0 [.int .i64 0, .slice none 0 0, .slice none 0 0, .slice none 0 0]).heap.size = w1.heap.size := setL_size _ _ _ _
    replace bR := bR.setAll [.int .i64 0, .slice none 0 0, .slice none 0 0, .slice none 0 0] rfl
    generalize setL w1 _ 0 _ = w3 at *
    have u0_ := bR.cell (j := 0) rfl
    have u1_ := bR.cell (j := 1) rfl
    have u2_ := bR.cell (j := 2) rfl
    have u3_ := bR.cell (j := 3) rfl
    refine bodyPost_ret (by simp only [results, Tryz.results20]; simp [go_sem, u0_, u1_, u2_, u3_]; rfl) rfl ?_
    exact ⟨_, _, _, by rw [HF.out.1, HF.out.2.1, HF.out.2.2.1], by rw [HF.out.2.2.2.1]; exact Ow.nil_, by rw [HF.out.2.2.2.2.1]; exact Ow.nil_, by rw [HF.out.2.2.2.2.2]; exact Ow.nil_, b0⟩
  · rcases Nat.eq_zero_or_pos st.length with hz | hz
    · have HF := Lib.hid (Fa.lv_no (m := m) (st := st) (ls := ls) (lw := lw) (by simp [Fa.lvOk, hz]))
      obtain rfl : st = [] := List.eq_nil_of_length_eq_zero hz
      obtain ⟨rfl⟩ : nt = 0 := by have := ht.n_eq.1; simpa using this
      rw [hg] at c1
      clear hg hz
      go_enter Tryz.func20, Tryz.ntmps20
      have bx_0 := bx.cell (j := 0) rfl
      have bx_1 := bx.cell (j := 1) rfl
      have bx_2 := bx.cell (j := 2) rfl
      have bx_3 := bx.cell (j := 3) rfl
      have bx_z := bx.frozen
      have bx_l := bx.lt
      have bR_0 := bR.cell (j := 0) rfl
      have bR_1 := bR.cell (j := 1) rfl
      have bR_2 := bR.cell (j := 2) rfl
      have bR_3 := bR.cell (j := 3) rfl
      have bR_z := bR.frozen
      have bR_l := bR.lt
      go_wp2_with fail
      clear hwA
      clear bx_0 bx_1 bx_2 bx_3 bx_z bx_l bR_0 bR_1 bR_2 bR_3 bR_z bR_l
      refine (c1).mono ?_; rintro q_ w1 ⟨rfl, b_1⟩
      replace bx := bx.below b_1 bx.lt
      replace bR := bR.below b_1 bR.lt
      replace ht := ht.below b_1 (by omega)
      replace hs := hs.below b_1 (by omega)
      replace hw := hw.below b_1 (by omega)
      have z_2 := b_1.size
      replace b0 := b0.trans (b_1.mono (by omega))
      clear b_1
      have bx_0 := bx.cell (j := 0) rfl
      have bx_1 := bx.cell (j := 1) rfl
      have bx_2 := bx.cell (j := 2) rfl
      have bx_3 := bx.cell (j := 3) rfl
      have bx_z := bx.frozen
      have bx_l := bx.lt
      have bR_0 := bR.cell (j := 0) rfl
      have bR_1 := bR.cell (j := 1) rfl
      have bR_2 := bR.cell (j := 2) rfl
      have bR_3 := bR.cell (j := 3) rfl
      have bR_z := bR.frozen
      have bR_l := bR.lt
      go_wp2_with fail
      clear bx_0 bx_1 bx_2 bx_3 bx_z bx_l bR_0 bR_1 bR_2 bR_3 bR_z bR_l
      refine (implLeave_nil m _ _ _ [] ls lw w1 ht hs hw (by omega) (by omega) (by omega) rfl).mono ?_; rintro q_ w3 ⟨rfl, b_3⟩
      replace bx := bx.below b_3 bx.lt
      replace bR := bR.below b_3 bR.lt
      replace ht := ht.below b_3 (by omega)
      replace hs := hs.below b_3 (by omega)
      replace hw := hw.below b_3 (by omega)
      have z_4 := b_3.size
      replace b0 := b0.trans (b_3.mono (by omega))
      clear b_3
      have bx_0 := bx.cell (j := 0) rfl
      have bx_1 := bx.cell (j := 1) rfl
      have bx_2 := bx.cell (j := 2) rfl
      have bx_3 := bx.cell (j := 3) rfl
      have bx_z := bx.frozen
      have bx_l := bx.lt
      have bR_0 := bR.cell (j := 0) rfl
      have bR_1 := bR.cell (j := 1) rfl
      have bR_2 := bR.cell (j := 2) rfl
      have bR_3 := bR.cell (j := 3) rfl
      have bR_z := bR.frozen
      have bR_l := bR.lt
      go_wp2_with fail
      clear bx_0 bx_1 bx_2 bx_3 bx_z bx_l bR_0 bR_1 bR_2 bR_3 bR_z bR_l
      generalize hwz : World.setCell (World.setCell (World.setCell (World.setCell _ _ _) _ _) _ _) _ _ = wz_
      obtain rfl : wz_ = setL w3 (w.heap.size + 1) 0 [.int .i64 0, .slice none 0 0, .slice none 0 0, .slice none 0 0] := hwz.symm
      clear hwz
      replace bx := bx.other (b := w.heap.size + 1) (by omega) 0 [.int .i64 0, .slice none 0 0, .slice none 0 0, .slice none 0 0]
      replace ht := ht.away (g := w.heap.size + 1) (by omega) 0 [.int .i64 0, .slice none 0 0, .slice none 0 0, .slice none 0 0]
      replace hs := hs.away (g := w.heap.size + 1) (by omega) 0 [.int .i64 0, .slice none 0 0, .slice none 0 0, .slice none 0 0]
      replace hw := hw.away (g := w.heap.size + 1) (by omega) 0 [.int .i64 0, .slice none 0 0, .slice none 0 0, .slice none 0 0]
      replace b0 := setL_below b0 [.int .i64 0, .slice none 0 0, .slice none 0 0, .slice none 0 0] (w.heap.size + 1) 0 (by omega)
      have zs_5 : (setL w3 (w.heap.size + 1) 0 [.int .i64 0, .slice none 0 0, .slice none 0 0, .slice none 0 0]).heap.size = w3.heap.size := setL_size _ _ _ _
      replace bR := bR.setAll [.int .i64 0, .slice none 0 0, .slice none 0 0, .slice none 0 0] rfl
      generalize setL w3 _ 0 _ = w5 at *
      have u0_ := bR.cell (j := 0) rfl
      have u1_ := bR.cell (j := 1) rfl
      have u2_ := bR.cell (j := 2) rfl
      have u3_ := bR.cell (j := 3) rfl
      refine bodyPost_ret (by simp only [results, Tryz.results20]; simp [go_sem, u0_, u1_, u2_, u3_]; rfl) rfl ?_
      exact ⟨_, _, _, by rw [HF.out.1, HF.out.2.1, HF.out.2.2.1], by rw [HF.out.2.2.2.1]; exact Ow.nil_, by rw [HF.out.2.2.2.2.1]; exact Ow.nil_, by rw [HF.out.2.2.2.2.2]; exact Ow.nil_, b0⟩
    · obtain ⟨j, hj⟩ : ∃ j, j + 1 = st.length := ⟨st.length - 1, by omega⟩
      obtain ⟨x, hx⟩ : ∃ x, st[j]? = some x := ⟨_, List.getElem?_eq_getElem (show j < st.length by omega)⟩
      have HF := Lib.hid (Fa.lv_yes hg hj hx)
      have HX := Lib.hid hx
      have HJ := Lib.hid hj
      have HP := Lib.hid (Fa.good_parts hg)
      have HK := Lib.hid (Fa.lv_end hg hj hx).1
      have hnn := Nat.le_of_eq ht.n_eq.1.symm
      have hzd2 : ((nt : Int) == 0) = false := by rw [beq_eq_false_iff_ne]; omega
      rw [hg] at c1
      clear hg hz hj hx hnn
      go_enter Tryz.func20, Tryz.ntmps20
      have bx_0 := bx.cell (j := 0) rfl
      have bx_1 := bx.cell (j := 1) rfl
      have bx_2 := bx.cell (j := 2) rfl
      have bx_3 := bx.cell (j := 3) rfl
      have bx_z := bx.frozen
      have bx_l := bx.lt
      have bR_0 := bR.cell (j := 0) rfl
      have bR_1 := bR.cell (j := 1) rfl
      have bR_2 := bR.cell (j := 2) rfl
      have bR_3 := bR.cell (j := 3) rfl
      have bR_z := bR.frozen
      have bR_l := bR.lt
      go_wp2_with fail
      clear hwA
      clear bx_0 bx_1 bx_2 bx_3 bx_z bx_l bR_0 bR_1 bR_2 bR_3 bR_z bR_l
      refine (c1).mono ?_; rintro q_ w1 ⟨rfl, b_1⟩
      replace bx := bx.below b_1 bx.lt
      replace bR := bR.below b_1 bR.lt
      replace ht := ht.below b_1 (by omega)
      replace hs := hs.below b_1 (by omega)
      replace hw := hw.below b_1 (by omega)
      have z_2 := b_1.size
      replace b0 := b0.trans (b_1.mono (by omega))
      clear b_1
      have bx_0 := bx.cell (j := 0) rfl
      have bx_1 := bx.cell (j := 1) rfl
      have bx_2 := bx.cell (j := 2) rfl
      have bx_3 := bx.cell (j := 3) rfl
      have bx_z := bx.frozen
      have bx_l := bx.lt
      have bR_0 := bR.cell (j := 0) rfl
      have bR_1 := bR.cell (j := 1) rfl
      have bR_2 := bR.cell (j := 2) rfl
      have bR_3 := bR.cell (j := 3) rfl
      have bR_z := bR.frozen
      have bR_l := bR.lt
      go_wp2_with fail
      clear bx_0 bx_1 bx_2 bx_3 bx_z bx_l bR_0 bR_1 bR_2 bR_3 bR_z bR_l
      refine (implLeave_in m _ _ _ st ls lw w1 ht hs hw (by omega) (by omega) (by omega) hl HP.out HJ.out HX.out HK.out).mono ?_; rintro q_ w3 ⟨v3, v4, v5, rfl, o3, o4, o5, b_3⟩
      replace bx := bx.below b_3 bx.lt
      replace bR := bR.below b_3 bR.lt
      replace ht := ht.below b_3 (by omega)
      replace hs := hs.below b_3 (by omega)
      replace hw := hw.below b_3 (by omega)
      have z_4 := b_3.size
      replace b0 := b0.trans (b_3.mono (by omega))
      clear b_3
      obtain ⟨A3, n3, d3, rfl, _, _, _⟩ := o3.rd.form
      obtain ⟨A4, n4, d4, rfl, _, _, _⟩ := o4.rd.form
      obtain ⟨A5, n5, d5, rfl, _, _, _⟩ := o5.rd.form
      have bx_0 := bx.cell (j := 0) rfl
      have bx_1 := bx.cell (j := 1) rfl
      have bx_2 := bx.cell (j := 2) rfl
      have bx_3 := bx.cell (j := 3) rfl
      have bx_z := bx.frozen
      have bx_l := bx.lt
      have bR_0 := bR.cell (j := 0) rfl
      have bR_1 := bR.cell (j := 1) rfl
      have bR_2 := bR.cell (j := 2) rfl
      have bR_3 := bR.cell (j := 3) rfl
      have bR_z := bR.frozen
      have bR_l := bR.lt
      go_wp2_with fail
      clear bx_0 bx_1 bx_2 bx_3 bx_z bx_l bR_0 bR_1 bR_2 bR_3 bR_z bR_l
      generalize hwz : World.setCell (World.setCell (World.setCell (World.setCell _ _ _) _ _) _ _) _ _ = wz_
      obtain rfl : wz_ = setL w3 (w.heap.size + 1) 0 [.int .i64 m, .slice A3 n3 d3, .slice A4 n4 d4, .slice A5 n5 d5] := hwz.symm
      clear hwz
      replace bx := bx.other (b := w.heap.size + 1) (by omega) 0 [.int .i64 m, .slice A3 n3 d3, .slice A4 n4 d4, .slice A5 n5 d5]
      replace ht := ht.away (g := w.heap.size + 1) (by omega) 0 [.int .i64 m, .slice A3 n3 d3, .slice A4 n4 d4, .slice A5 n5 d5]
      replace hs := hs.away (g := w.heap.size + 1) (by omega) 0 [.int .i64 m, .slice A3 n3 d3, .slice A4 n4 d4, .slice A5 n5 d5]
      replace hw := hw.away (g := w.heap.size + 1) (by omega) 0 [.int .i64 m, .slice A3 n3 d3, .slice A4 n4 d4, .slice A5 n5 d5]
      replace o3 := o3.box (g := w.heap.size + 1) bR (by decide) 0 [.int .i64 m, .slice A3 n3 d3, .slice A4 n4 d4, .slice A5 n5 d5]
      replace o4 := o4.box (g := w.heap.size + 1) bR (by decide) 0 [.int .i64 m, .slice A3 n3 d3, .slice A4 n4 d4, .slice A5 n5 d5]
      replace o5 := o5.box (g := w.heap.size + 1) bR (by decide) 0 [.int .i64 m, .slice A3 n3 d3, .slice A4 n4 d4, .slice A5 n5 d5]
      replace b0 := setL_below b0 [.int .i64 m, .slice A3 n3 d3, .slice A4 n4 d4, .slice A5 n5 d5] (w.heap.size + 1) 0 (by omega)
      have zs_5 : (setL w3 (w.heap.size + 1) 0 [.int .i64 m, .slice A3 n3 d3, .slice A4 n4 d4, .slice A5 n5 d5]).heap.size = w3.heap.size := setL_size _ _ _ _
      replace bR := bR.setAll [.int .i64 m, .slice A3 n3 d3, .slice A4 n4 d4, .slice A5 n5 d5] rfl
      generalize setL w3 _ 0 _ = w5 at *
      have u0_ := bR.cell (j := 0) rfl
      have u1_ := bR.cell (j := 1) rfl
      have u2_ := bR.cell (j := 2) rfl
      have u3_ := bR.cell (j := 3) rfl
      refine bodyPost_ret (by simp only [results, Tryz.results20]; simp [go_sem, u0_, u1_, u2_, u3_]; rfl) rfl ?_
      exact ⟨_, _, _, by rw [HF.out.1, HF.out.2.1, HF.out.2.2.1], by rw [HF.out.2.2.2.1]; exact o3.mono (by omega) (by omega), by rw [HF.out.2.2.2.2.1]; exact o4.mono (by omega) (by omega), by rw [HF.out.2.2.2.2.2]; exact o5.mono (by omega) (by omega), b0⟩

end Go.Proofs.YtengaccnncnipaaGreat
