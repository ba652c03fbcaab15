/- Lemmas and walks that the last text of this claim leans on, part 6. No condition. -/
import Derived.Test.YtndfmkbpdoohfaaGreatMcFiE
/- Leaving the last interrupt of an interface's stack, in the program and in the reference. Condition: at most 1048576 numbers on the stack. -/
namespace Go.Proofs.YtndfmkbpdoohfaaGreat
open Go.RowKit Go.ChangeShapes Go.WideShapes Go.Deep

theorem Nm.at_ {w : World} {lo hi b off n c k : Nat} {x : Int} {l : List Int} (h : Rd Nm.cells 1 w lo hi (.slice (some ⟨b, off, none⟩) n c) l) (hx : l[k]? = some x) : w.cell? ⟨b, off + k, none⟩ = some (.int .i64 x) := by
  obtain ⟨A, c', hv, _, _, h3⟩ := h
  injection hv with e1 e2 e3
  subst e1
  obtain ⟨b', off', hA, _, _, h4⟩ := h3 (by have := (List.getElem?_eq_some_iff.1 hx).1; omega)
  injection hA with hA
  injection hA with e4 e5
  subst e4; subst e5
  simpa using h4 k x hx 0 _ rfl
def Fa.top (st : List Int) : Int := st.getLast?.getD 0
def Fa.lvOk (m : Int) (st : List Int) (ls : List Sl) (lw : List Wt) : Bool := Fa.good m st ls lw && decide (0 < st.length)
def Fa.lvM (m : Int) (st : List Int) (ls : List Sl) (lw : List Wt) : Int := if Fa.lvOk m st ls lw then m else 0
def Fa.lvI (m : Int) (st : List Int) (ls : List Sl) (lw : List Wt) : Int := if Fa.lvOk m st ls lw then Fa.top st else 0
def Fa.lvT (m : Int) (st : List Int) (ls : List Sl) (lw : List Wt) : List Int := if Fa.lvOk m st ls lw then st.dropLast else []
def Fa.lvS (m : Int) (st : List Int) (ls : List Sl) (lw : List Wt) : List Sl := if Fa.lvOk m st ls lw then (Qu.enP ls lw (Fa.top st)).1 else []
def Fa.lvW (m : Int) (st : List Int) (ls : List Sl) (lw : List Wt) : List Wt := if Fa.lvOk m st ls lw then (Qu.enP ls lw (Fa.top st)).2 else []
theorem Fa.lv_no {m : Int} {st : List Int} {ls : List Sl} {lw : List Wt} (h : Fa.lvOk m st ls lw = false) : Fa.lvOk m st ls lw = false ∧ Fa.lvM m st ls lw = 0 ∧ Fa.lvI m st ls lw = 0 ∧ Fa.lvT m st ls lw = [] ∧ Fa.lvS m st ls lw = [] ∧ Fa.lvW m st ls lw = [] := by simp [Fa.lvM, Fa.lvI, Fa.lvT, Fa.lvS, Fa.lvW, h]
theorem Fa.top_at {st : List Int} {j : Nat} {x : Int} (hj : j + 1 = st.length) (hx : st[j]? = some x) : st = st.take j ++ [x] ∧ st.dropLast = st.take j ∧ Fa.top st = x := by
  have e : st = st.take j ++ [x] := by
    conv => lhs; rw [← List.take_length (l := st), ← hj, List.take_add_one, hx]
    rfl
  refine ⟨e, by rw [List.dropLast_eq_take, ← hj]; simp, ?_⟩
  rw [Fa.top, List.getLast?_eq_getElem?, ← hj]
  simp [hx]
theorem Fa.lv_yes {m : Int} {st : List Int} {ls : List Sl} {lw : List Wt} {j : Nat} {x : Int} (hg : Fa.good m st ls lw = true) (hj : j + 1 = st.length) (hx : st[j]? = some x) : Fa.lvOk m st ls lw = true ∧ Fa.lvM m st ls lw = m ∧ Fa.lvI m st ls lw = x ∧ Fa.lvT m st ls lw = st.take j ∧ Fa.lvS m st ls lw = (Qu.enP ls lw x).1 ∧ Fa.lvW m st ls lw = (Qu.enP ls lw x).2 := by
  have h : Fa.lvOk m st ls lw = true := by simp [Fa.lvOk, hg]; omega
  obtain ⟨_, e2, e3⟩ := Fa.top_at hj hx
  simp [Fa.lvM, Fa.lvI, Fa.lvT, Fa.lvS, Fa.lvW, h, e2, e3]
theorem Fa.lv_end {m : Int} {st : List Int} {ls : List Sl} {lw : List Wt} {j : Nat} {x : Int} (hg : Fa.good m st ls lw = true) (hj : j + 1 = st.length) (hx : st[j]? = some x) : Sl.endOk ls x = true ∧ Fa.Ok (st.take j) (Qu.enP ls lw x).1 := by
  obtain ⟨_, hq, ho⟩ := Fa.good_iff.1 hg
  rw [(Fa.top_at hj hx).1] at ho
  exact Fa.leave_ok (Qu.good_parts hq).1 ho

set_option maxHeartbeats 2000000 in
theorem specLeave_nil (m : Int) (vt vs vw : Value) (st : List Int) (ls : List Sl) (lw : List Wt) (w : World) {lo hi lo2 hi2 lo3 hi3 : Nat} (h0 : Rd Nm.cells 1 w lo3 hi3 vt st) (h : Rd Sl.cells 3 w lo hi vs ls) (h2 : Rd Wt.cells 2 w lo2 hi2 vw lw) (hh0 : hi3 ≤ w.heap.size) (hh : hi ≤ w.heap.size) (hh2 : hi2 ≤ w.heap.size) (hz : st = []) :
    Calls Tryz.prog 47 #[.agg #[.int .i64 m, vt, vs, vw]] w fun e w' => e = .returned (.tuple #[.agg #[.int .i64 m, vt, vs, vw], .int .i64 (-1)]) ∧ Below w.heap.size w w' := by
  have b0 : Below w.heap.size w ((w.alloc (.cells #[.int .i64 m, vt, vs, vw] 30)).alloc (.cells #[.int .i64 0, .slice none 0 0, .slice none 0 0, .slice none 0 0] 30)) := ((Below.refl w.heap.size w).alloc (Nat.le_refl _) _).alloc (by simp) _
  have z0 : ((w.alloc (.cells #[.int .i64 m, vt, vs, vw] 30)).alloc (.cells #[.int .i64 0, .slice none 0 0, .slice none 0 0, .slice none 0 0] 30)).heap.size = w.heap.size + 2 := by simp
  have bx := Box.new w #[.int .i64 m, vt, vs, vw] 30 rfl
  have bR := Box.new (g := w.heap.size + 1) (w.alloc (.cells #[.int .i64 m, vt, vs, vw] 30)) #[.int .i64 0, .slice none 0 0, .slice none 0 0, .slice none 0 0] 30 (by simp)
  replace bx := bx.below ((Below.refl _ (w.alloc (.cells #[.int .i64 m, vt, vs, vw] 30))).alloc (Nat.le_refl _) (.cells #[.int .i64 0, .slice none 0 0, .slice none 0 0, .slice none 0 0] 30)) bx.lt
  have ht := h0.below b0 hh0
  have hs := h.below b0 hh
  have hw := h2.below b0 hh2
  have hv0_ := h0.form
  have hv_ := h.form
  have hv2_ := h2.form
  clear h0 h h2
  generalize hwA : (w.alloc (.cells #[.int .i64 m, vt, vs, vw] 30)).alloc (.cells #[.int .i64 0, .slice none 0 0, .slice none 0 0, .slice none 0 0] 30) = wA at *
  obtain ⟨At, nt, dt, rfl, _, _, _⟩ := hv0_
  obtain ⟨A0, n0, d0, rfl, _, _, _⟩ := hv_
  obtain ⟨A1, n1, d1, rfl, _, _, _⟩ := hv2_
  obtain ⟨rfl⟩ : nt = 0 := by have := ht.n_eq.1; simpa [hz] using this
  go_enter Tryz.func47, Tryz.ntmps47
  have bx_0 := bx.cell (j := 0) rfl
  have bx_1 := bx.cell (j := 1) rfl
  have bx_2 := bx.cell (j := 2) rfl
  have bx_3 := bx.cell (j := 3) rfl
  have bx_z := bx.frozen
  have bx_l := bx.lt
  have bR_0 := bR.cell (j := 0) rfl
  have bR_1 := bR.cell (j := 1) rfl
  have bR_2 := bR.cell (j := 2) rfl
  have bR_3 := bR.cell (j := 3) rfl
  have bR_z := bR.frozen
  have bR_l := bR.lt
  go_wp2_with fail
  clear hwA
  clear bx_0 bx_1 bx_2 bx_3 bx_z bx_l bR_0 bR_1 bR_2 bR_3 bR_z bR_l
  generalize hwz : World.setCell (World.setCell (World.setCell (World.setCell _ _ _) _ _) _ _) _ _ = wz_
  obtain rfl : wz_ = setL wA (w.heap.size + 1) 0 [.int .i64 m, .slice At 0 dt, .slice A0 n0 d0, .slice A1 n1 d1] := hwz.symm
  clear hwz
  replace bx := bx.other (b := w.heap.size + 1) (by omega) 0 [.int .i64 m, .slice At 0 dt, .slice A0 n0 d0, .slice A1 n1 d1]
  replace ht := ht.away (g := w.heap.size + 1) (by omega) 0 [.int .i64 m, .slice At 0 dt, .slice A0 n0 d0, .slice A1 n1 d1]
  replace hs := hs.away (g := w.heap.size + 1) (by omega) 0 [.int .i64 m, .slice At 0 dt, .slice A0 n0 d0, .slice A1 n1 d1]
  replace hw := hw.away (g := w.heap.size + 1) (by omega) 0 [.int .i64 m, .slice At 0 dt, .slice A0 n0 d0, .slice A1 n1 d1]
  replace b0 := setL_below b0 [.int .i64 m, .slice At 0 dt, .slice A0 n0 d0, .slice A1 n1 d1] (w.heap.size + 1) 0 (by omega)
  have zs_1 : (setL wA (w.heap.size + 1) 0 [.int .i64 m, .slice At 0 dt, .slice A0 n0 d0, .slice A1 n1 d1]).heap.size = wA.heap.size := setL_size _ _ _ _
  replace bR := bR.setAll [.int .i64 m, .slice At 0 dt, .slice A0 n0 d0, .slice A1 n1 d1] rfl
  generalize setL wA _ 0 _ = w1 at *
  have u0_ := bR.cell (j := 0) rfl
  have u1_ := bR.cell (j := 1) rfl
  have u2_ := bR.cell (j := 2) rfl
  have u3_ := bR.cell (j := 3) rfl
  refine bodyPost_ret (by simp only [results, Tryz.results47]; simp [go_sem, u0_, u1_, u2_, u3_]; rfl) rfl ?_
  exact ⟨rfl, b0⟩
set_option maxHeartbeats 4000000 in
theorem specLeave_in (m : Int) (vt vs vw : Value) (st : List Int) (ls : List Sl) (lw : List Wt) (w : World) {lo hi lo2 hi2 lo3 hi3 : Nat} (h0 : Rd Nm.cells 1 w lo3 hi3 vt st) (h : Rd Sl.cells 3 w lo hi vs ls) (h2 : Rd Wt.cells 2 w lo2 hi2 vw lw) (hh0 : hi3 ≤ w.heap.size) (hh : hi ≤ w.heap.size) (hh2 : hi2 ≤ w.heap.size) (hl : st.length ≤ 1048576) (hp : Qu.parts ls lw = true) {j : Nat} {x : Int} (hj : j + 1 = st.length) (hx : st[j]? = some x) (hk : Sl.endOk ls x = true) :
    Calls Tryz.prog 47 #[.agg #[.int .i64 m, vt, vs, vw]] w fun e w' => ∃ v0 v1 v2, e = .returned (.tuple #[.agg #[.int .i64 m, v0, v1, v2], .int .i64 x]) ∧ Ow Nm.cells 1 3 w' w.heap.size w'.heap.size v0 (st.take j) ∧ Ow Sl.cells 3 93 w' w.heap.size w'.heap.size v1 ((Qu.enP ls lw x).1) ∧ Ow Wt.cells 2 107 w' w.heap.size w'.heap.size v2 ((Qu.enP ls lw x).2) ∧ Below w.heap.size w w' := by
  have b0 : Below w.heap.size w ((w.alloc (.cells #[.int .i64 m, vt, vs, vw] 30)).alloc (.cells #[.int .i64 0, .slice none 0 0, .slice none 0 0, .slice none 0 0] 30)) := ((Below.refl w.heap.size w).alloc (Nat.le_refl _) _).alloc (by simp) _
  have z0 : ((w.alloc (.cells #[.int .i64 m, vt, vs, vw] 30)).alloc (.cells #[.int .i64 0, .slice none 0 0, .slice none 0 0, .slice none 0 0] 30)).heap.size = w.heap.size + 2 := by simp
  have bx := Box.new w #[.int .i64 m, vt, vs, vw] 30 rfl
  have bR := Box.new (g := w.heap.size + 1) (w.alloc (.cells #[.int .i64 m, vt, vs, vw] 30)) #[.int .i64 0, .slice none 0 0, .slice none 0 0, .slice none 0 0] 30 (by simp)
  replace bx := bx.below ((Below.refl _ (w.alloc (.cells #[.int .i64 m, vt, vs, vw] 30))).alloc (Nat.le_refl _) (.cells #[.int .i64 0, .slice none 0 0, .slice none 0 0, .slice none 0 0] 30)) bx.lt
  have ht := h0.below b0 hh0
  have hs := h.below b0 hh
  have hw := h2.below b0 hh2
  have hv0_ := h0.form
  have hv_ := h.form
  have hv2_ := h2.form
  clear h0 h h2
  generalize hwA : (w.alloc (.cells #[.int .i64 m, vt, vs, vw] 30)).alloc (.cells #[.int .i64 0, .slice none 0 0, .slice none 0 0, .slice none 0 0] 30) = wA at *
  obtain ⟨At, nt, dt, rfl, _, _, _⟩ := hv0_
  obtain ⟨A0, n0, d0, rfl, _, _, _⟩ := hv_
  obtain ⟨A1, n1, d1, rfl, _, _, _⟩ := hv2_
  have hn := Nat.le_of_eq ht.n_eq.1
  have hn' := Nat.le_of_eq ht.n_eq.1.symm
  have hc := ht.n_eq.2
  have hj1 : j < nt := by omega
  obtain ⟨b, off, x', rfl, hx', _, hbh, f0⟩ := Nm.get ht hj1 (Below.refl wA.heap.size wA) (by omega)
  clear f0 hx' x'
  have HP := Lib.hid hp
  have HX := Lib.hid hx
  have HE := Lib.hid (Qu.ei_yes hk lw)
  have HK := Lib.hid hk
  have hje : (nt : Int) - 1 = (j : Int) := by omega
  have hjn : (j : Int) < (nt : Int) := by omega
  have hjl : (j : Int) ≤ (nt : Int) := by omega
  have hjc : (j : Int) ≤ (dt : Int) := by omega
  have hjm : dt ≤ 9223372036854775807 := by have := hc.2; unfold maxLen at this; omega
  have hzd2 : ((nt : Int) == 0) = false := by rw [beq_eq_false_iff_ne]; omega
  have hjd : decide ((j : Int) < 0) = false := decide_eq_false (by omega)
  have hjw : IntKind.i64.wrap (j : Int) = (j : Int) := IntWalk.i64_in _ (by omega)
  have hjnn : j ≤ nt := by omega
  have hjl2 : (st.take j).length ≤ 1048576 := by rw [List.length_take]; omega
  clear hp hx hk hj hn hn' hc
  go_enter Tryz.func47, Tryz.ntmps47
  have bx_0 := bx.cell (j := 0) rfl
  have bx_1 := bx.cell (j := 1) rfl
  have bx_2 := bx.cell (j := 2) rfl
  have bx_3 := bx.cell (j := 3) rfl
  have bx_z := bx.frozen
  have bx_l := bx.lt
  have bR_0 := bR.cell (j := 0) rfl
  have bR_1 := bR.cell (j := 1) rfl
  have bR_2 := bR.cell (j := 2) rfl
  have bR_3 := bR.cell (j := 3) rfl
  have bR_z := bR.frozen
  have bR_l := bR.lt
  go_upto_region 4 with fail
  clear hwA
  clear bx_0 bx_1 bx_2 bx_3 bx_z bx_l bR_0 bR_1 bR_2 bR_3 bR_z bR_l
  go_cut [5, 6] (fun s5 s6 wx => ∃ (ww : World) (gT : Nat) (v1 v2 : Value), ww = wx ∧ s5 = .pointer (some ⟨gT, 0, none⟩) ∧ s6 = .bool (Sl.endOk ls x) ∧ Below wA.heap.size wA wx ∧ wA.heap.size ≤ gT ∧ Box wx gT 28 [v1, v2] ∧ Ow Sl.cells 3 93 wx wA.heap.size wx.heap.size v1 (Qu.eiS ls lw x) ∧ Ow Wt.cells 2 107 wx wA.heap.size wx.heap.size v2 (Qu.eiW ls lw x))
  case first =>
    have bC := Below.refl wA.heap.size wA
    have zB := b0.size
    refine wp_region_held_drew (S := fun W => Box W (w.heap.size) 30 [.int .i64 m, .slice (some ⟨b, off, none⟩) nt dt, .slice A0 n0 d0, .slice A1 n1 d1] ∧ Rd Nm.cells 1 W lo3 hi3 (.slice (some ⟨b, off, none⟩) nt dt) st) (by kernel_rfl) (show (fun (W : World) => Box W (w.heap.size) 30 [.int .i64 m, .slice (some ⟨b, off, none⟩) nt dt, .slice A0 n0 d0, .slice A1 n1 d1] ∧ Rd Nm.cells 1 W lo3 hi3 (.slice (some ⟨b, off, none⟩) nt dt) st) wA.drew from ⟨bx, ht.drew⟩) (fun hHeld => ?_)
    refine wpAnyH_take (i := 0) (v := .pointer (some ⟨w.heap.size, 2, none⟩)) rfl (by kernel_rfl) (by kernel_rfl) (by kernel_rfl) (fun _ _ _ h => h) (Or.inl ⟨by rfl, by intro w hSw; obtain ⟨hS0, hS1⟩ := hSw; have y00 := hS0.cell (j := 0) rfl; have y01 := hS0.cell (j := 1) rfl; have y02 := hS0.cell (j := 2) rfl; have y03 := hS0.cell (j := 3) rfl; have yx := Nm.at_ hS1 HX.out; go_simp⟩) hHeld ?_
    refine wpAnyH_take (i := 1) (v := .agg #[.slice A0 n0 d0, .slice A1 n1 d1]) rfl (by kernel_rfl) (by kernel_rfl) (by kernel_rfl) (fun _ _ _ h => h) (Or.inl ⟨by rfl, by intro w hSw; obtain ⟨hS0, hS1⟩ := hSw; have y00 := hS0.cell (j := 0) rfl; have y01 := hS0.cell (j := 1) rfl; have y02 := hS0.cell (j := 2) rfl; have y03 := hS0.cell (j := 3) rfl; have yx := Nm.at_ hS1 HX.out; go_simp⟩) hHeld ?_
    refine wpAnyH_take (i := 2) (v := .pointer (some ⟨w.heap.size, 1, none⟩)) rfl (by kernel_rfl) (by kernel_rfl) (by kernel_rfl) (fun _ _ _ h => h) (Or.inl ⟨by rfl, by intro w hSw; obtain ⟨hS0, hS1⟩ := hSw; have y00 := hS0.cell (j := 0) rfl; have y01 := hS0.cell (j := 1) rfl; have y02 := hS0.cell (j := 2) rfl; have y03 := hS0.cell (j := 3) rfl; have yx := Nm.at_ hS1 HX.out; go_simp⟩) hHeld ?_
    refine wpAnyH_take (i := 3) (v := .slice (some ⟨b, off, none⟩) nt dt) rfl (by kernel_rfl) (by kernel_rfl) (by kernel_rfl) (fun _ _ _ h => h) (Or.inl ⟨by rfl, by intro w hSw; obtain ⟨hS0, hS1⟩ := hSw; have y00 := hS0.cell (j := 0) rfl; have y01 := hS0.cell (j := 1) rfl; have y02 := hS0.cell (j := 2) rfl; have y03 := hS0.cell (j := 3) rfl; have yx := Nm.at_ hS1 HX.out; go_simp⟩) hHeld ?_
    refine wpAnyH_take (i := 4) (v := .int .i64 nt) rfl (by kernel_rfl) (by kernel_rfl) (by kernel_rfl) (fun _ _ _ h => h) (Or.inl ⟨by rfl, by intro w hSw; obtain ⟨hS0, hS1⟩ := hSw; have y00 := hS0.cell (j := 0) rfl; have y01 := hS0.cell (j := 1) rfl; have y02 := hS0.cell (j := 2) rfl; have y03 := hS0.cell (j := 3) rfl; have yx := Nm.at_ hS1 HX.out; go_simp⟩) hHeld ?_
    refine wpAnyH_take (i := 5) (v := .int .i64 j) rfl (by kernel_rfl) (by kernel_rfl) (by kernel_rfl) (fun _ _ _ h => h) (Or.inl ⟨by rfl, by intro w hSw; obtain ⟨hS0, hS1⟩ := hSw; have y00 := hS0.cell (j := 0) rfl; have y01 := hS0.cell (j := 1) rfl; have y02 := hS0.cell (j := 2) rfl; have y03 := hS0.cell (j := 3) rfl; have yx := Nm.at_ hS1 HX.out; go_simp⟩) hHeld ?_
    refine wpAnyH_take (i := 6) (v := .pointer (some ⟨b, off + j, none⟩)) rfl (by kernel_rfl) (by kernel_rfl) (by kernel_rfl) (fun _ _ _ h => h) (Or.inl ⟨by rfl, by intro w hSw; obtain ⟨hS0, hS1⟩ := hSw; have y00 := hS0.cell (j := 0) rfl; have y01 := hS0.cell (j := 1) rfl; have y02 := hS0.cell (j := 2) rfl; have y03 := hS0.cell (j := 3) rfl; have yx := Nm.at_ hS1 HX.out; go_simp⟩) hHeld ?_
    refine wpAnyH_take (i := 7) (v := .int .i64 x) rfl (by kernel_rfl) (by kernel_rfl) (by kernel_rfl) (fun _ _ _ h => h) (Or.inl ⟨by rfl, by intro w hSw; obtain ⟨hS0, hS1⟩ := hSw; have y00 := hS0.cell (j := 0) rfl; have y01 := hS0.cell (j := 1) rfl; have y02 := hS0.cell (j := 2) rfl; have y03 := hS0.cell (j := 3) rfl; have yx := Nm.at_ hS1 HX.out; go_simp⟩) hHeld ?_
    clear hHeld
    refine held_gen (F := fun W' => Below wA.heap.size wA W') (Below.refl wA.heap.size wA).drew ?_
    rintro w1 b_1
    replace bx := bx.below b_1 bx.lt
    replace bR := bR.below b_1 bR.lt
    replace ht := ht.below b_1 (by omega)
    replace hs := hs.below b_1 (by omega)
    replace hw := hw.below b_1 (by omega)
    have z_2 := b_1.size
    replace bC := bC.trans (b_1.mono (by omega))
    clear b_1
    refine wpAnyH_ready (rs := [8, 12]) (by kernel_rfl) (by decide) ?_
    refine AllReadyH.cons rfl (fun K3a hK3a => ?_) (AllReadyH.cons rfl (fun K3b hK3b => ?_) AllReadyH.nil)
    · go_simp
      refine (specEndQ_in _ _ ls lw x w1 hs hw (by omega) (by omega) HP.out).mono ?_; rintro q_ w4 ⟨v5, v6, rfl, o5, o6, b_4⟩
      replace bx := bx.below b_4 bx.lt
      replace bR := bR.below b_4 bR.lt
      replace ht := ht.below b_4 (by omega)
      replace hs := hs.below b_4 (by omega)
      replace hw := hw.below b_4 (by omega)
      have z_5 := b_4.size
      replace bC := bC.trans (b_4.mono (by omega))
      clear b_4
      obtain ⟨A5, n5, d5, rfl, _, _, _⟩ := o5.rd.form
      obtain ⟨A6, n6, d6, rfl, _, _, _⟩ := o6.rd.form
      refine hK3a.out _ _ ⟨bx, ht⟩ (fun _ => ?_)
      have hHeld : (fun (W : World) => Box W (w.heap.size) 30 [.int .i64 m, .slice (some ⟨b, off, none⟩) nt dt, .slice A0 n0 d0, .slice A1 n1 d1] ∧ Rd Nm.cells 1 W lo3 hi3 (.slice (some ⟨b, off, none⟩) nt dt) st) w4 := ⟨bx, ht⟩
      refine wpAnyH_take (i := 9) (v := .tuple #[.agg #[.slice A5 n5 d5, .slice A6 n6 d6], .bool (Sl.endOk ls x)]) rfl (by kernel_rfl) (by kernel_rfl) (by kernel_rfl) (fun _ _ _ h => h) (Or.inl ⟨by rfl, by intro w hSw; obtain ⟨hS0, hS1⟩ := hSw; have y00 := hS0.cell (j := 0) rfl; have y01 := hS0.cell (j := 1) rfl; have y02 := hS0.cell (j := 2) rfl; have y03 := hS0.cell (j := 3) rfl; have yx := Nm.at_ hS1 HX.out; go_simp⟩) hHeld ?_
      refine wpAnyH_take (i := 10) (v := .agg #[.slice A5 n5 d5, .slice A6 n6 d6]) rfl (by kernel_rfl) (by kernel_rfl) (by kernel_rfl) (fun _ _ _ h => h) (Or.inl ⟨by rfl, by intro w hSw; obtain ⟨hS0, hS1⟩ := hSw; have y00 := hS0.cell (j := 0) rfl; have y01 := hS0.cell (j := 1) rfl; have y02 := hS0.cell (j := 2) rfl; have y03 := hS0.cell (j := 3) rfl; have yx := Nm.at_ hS1 HX.out; go_simp⟩) hHeld ?_
      refine wpAnyH_take (i := 11) (v := .bool (Sl.endOk ls x)) rfl (by kernel_rfl) (by kernel_rfl) (by kernel_rfl) (fun _ _ _ h => h) (Or.inl ⟨by rfl, by intro w hSw; obtain ⟨hS0, hS1⟩ := hSw; have y00 := hS0.cell (j := 0) rfl; have y01 := hS0.cell (j := 1) rfl; have y02 := hS0.cell (j := 2) rfl; have y03 := hS0.cell (j := 3) rfl; have yx := Nm.at_ hS1 HX.out; go_simp⟩) hHeld ?_
      clear hHeld
      refine wpAnyH_ready (rs := [12]) (by kernel_rfl) (by decide) ?_
      refine AllReadyH.cons rfl (fun K6 hK6 => ?_) AllReadyH.nil
      go_simp
      have b_7 := (Below.refl w4.heap.size w4).alloc (Nat.le_refl _) (.cells #[.slice none 0 0, .slice none 0 0] 28)
      have bT := Box.new w4 #[.slice none 0 0, .slice none 0 0] 28 rfl
      replace bx := bx.below b_7 bx.lt
      replace bR := bR.below b_7 bR.lt
      replace ht := ht.below b_7 (by omega)
      replace hs := hs.below b_7 (by omega)
      replace hw := hw.below b_7 (by omega)
      replace o5 := o5.below b_7 (by omega)
      replace o6 := o6.below b_7 (by omega)
      have z_8 := b_7.size
      replace bC := bC.trans (b_7.mono (by omega))
      clear b_7
      generalize w4.alloc _ = w7 at *
      generalize w4.heap.size = g7 at *
      refine hK6.out _ _ ⟨bx, ht⟩ (fun _ => ?_)
      refine wpAnyH_ready (rs := [13]) (by kernel_rfl) (by decide) ?_
      refine AllReadyH.cons rfl (fun K9 hK9 => ?_) AllReadyH.nil
      have bx_0 := bx.cell (j := 0) rfl
      have bx_1 := bx.cell (j := 1) rfl
      have bx_2 := bx.cell (j := 2) rfl
      have bx_3 := bx.cell (j := 3) rfl
      have bx_z := bx.frozen
      have bx_l := bx.lt
      have bR_0 := bR.cell (j := 0) rfl
      have bR_1 := bR.cell (j := 1) rfl
      have bR_2 := bR.cell (j := 2) rfl
      have bR_3 := bR.cell (j := 3) rfl
      have bR_z := bR.frozen
      have bR_l := bR.lt
      have bT_0 := bT.cell (j := 0) rfl
      have bT_1 := bT.cell (j := 1) rfl
      have bT_z := bT.frozen
      have bT_l := bT.lt
      go_simp
      clear bx_0 bx_1 bx_2 bx_3 bx_z bx_l bR_0 bR_1 bR_2 bR_3 bR_z bR_l bT_0 bT_1 bT_z bT_l
      generalize hwz : World.setCell (World.setCell _ _ _) _ _ = wz_
      obtain rfl : wz_ = setL w7 (g7) 0 [.slice A5 n5 d5, .slice A6 n6 d6] := hwz.symm
      clear hwz
      replace bx := bx.other (b := g7) (by omega) 0 [.slice A5 n5 d5, .slice A6 n6 d6]
      replace bR := bR.other (b := g7) (by omega) 0 [.slice A5 n5 d5, .slice A6 n6 d6]
      replace ht := ht.away (g := g7) (by omega) 0 [.slice A5 n5 d5, .slice A6 n6 d6]
      replace hs := hs.away (g := g7) (by omega) 0 [.slice A5 n5 d5, .slice A6 n6 d6]
      replace hw := hw.away (g := g7) (by omega) 0 [.slice A5 n5 d5, .slice A6 n6 d6]
      replace o5 := o5.box (g := g7) bT (by decide) 0 [.slice A5 n5 d5, .slice A6 n6 d6]
      replace o6 := o6.box (g := g7) bT (by decide) 0 [.slice A5 n5 d5, .slice A6 n6 d6]
      replace bC := setL_below bC [.slice A5 n5 d5, .slice A6 n6 d6] (g7) 0 (by omega)
      have zs_10 : (setL w7 (g7) 0 [.slice A5 n5 d5, .slice A6 n6 d6]).heap.size = w7.heap.size := setL_size _ _ _ _
      replace bT := bT.setAll [.slice A5 n5 d5, .slice A6 n6 d6] rfl
      generalize setL w7 _ 0 _ = w10 at *
      refine hK9.out _ _ ⟨bx, ht⟩ (fun _ => ?_)
      refine wpAnyH_ready (rs := [14]) (by kernel_rfl) (by decide) ?_
      refine AllReadyH.cons rfl (fun K11 hK11 => ?_) AllReadyH.nil
      go_simp
      refine hK11.out _ _ ⟨bx, ht⟩ (fun _ => ?_)
      refine ⟨by kernel_rfl, ?_⟩
      have bx_0 := bx.cell (j := 0) rfl
      have bx_1 := bx.cell (j := 1) rfl
      have bx_2 := bx.cell (j := 2) rfl
      have bx_3 := bx.cell (j := 3) rfl
      have bx_z := bx.frozen
      have bx_l := bx.lt
      have bR_0 := bR.cell (j := 0) rfl
      have bR_1 := bR.cell (j := 1) rfl
      have bR_2 := bR.cell (j := 2) rfl
      have bR_3 := bR.cell (j := 3) rfl
      have bR_z := bR.frozen
      have bR_l := bR.lt
      have bT_0 := bT.cell (j := 0) rfl
      have bT_1 := bT.cell (j := 1) rfl
      have bT_z := bT.frozen
      have bT_l := bT.lt
      go_wp2_with fail
      clear bx_0 bx_1 bx_2 bx_3 bx_z bx_l bR_0 bR_1 bR_2 bR_3 bR_z bR_l bT_0 bT_1 bT_z bT_l
      go_meet
      exact ⟨_, _, _, _, rfl, rfl, rfl, bC, by omega, bT, o5.mono (by omega) (by omega), o6.mono (by omega) (by omega)⟩
    · go_simp
      have b_4 := (Below.refl w1.heap.size w1).alloc (Nat.le_refl _) (.cells #[.slice none 0 0, .slice none 0 0] 28)
      have bT := Box.new w1 #[.slice none 0 0, .slice none 0 0] 28 rfl
      replace bx := bx.below b_4 bx.lt
      replace bR := bR.below b_4 bR.lt
      replace ht := ht.below b_4 (by omega)
      replace hs := hs.below b_4 (by omega)
      replace hw := hw.below b_4 (by omega)
      have z_5 := b_4.size
      replace bC := bC.trans (b_4.mono (by omega))
      clear b_4
      generalize w1.alloc _ = w4 at *
      generalize w1.heap.size = g4 at *
      refine hK3b.out _ _ ⟨bx, ht⟩ (fun _ => ?_)
      refine wpAnyH_ready (rs := [8]) (by kernel_rfl) (by decide) ?_
      refine AllReadyH.cons rfl (fun K6 hK6 => ?_) AllReadyH.nil
      go_simp
      refine (specEndQ_in _ _ ls lw x w4 hs hw (by omega) (by omega) HP.out).mono ?_; rintro q_ w7 ⟨v5, v6, rfl, o5, o6, b_7⟩
      replace bx := bx.below b_7 bx.lt
      replace bR := bR.below b_7 bR.lt
      replace bT := bT.below b_7 bT.lt
      replace ht := ht.below b_7 (by omega)
      replace hs := hs.below b_7 (by omega)
      replace hw := hw.below b_7 (by omega)
      have z_8 := b_7.size
      replace bC := bC.trans (b_7.mono (by omega))
      clear b_7
      obtain ⟨A5, n5, d5, rfl, _, _, _⟩ := o5.rd.form
      obtain ⟨A6, n6, d6, rfl, _, _, _⟩ := o6.rd.form
      refine hK6.out _ _ ⟨bx, ht⟩ (fun _ => ?_)
      have hHeld : (fun (W : World) => Box W (w.heap.size) 30 [.int .i64 m, .slice (some ⟨b, off, none⟩) nt dt, .slice A0 n0 d0, .slice A1 n1 d1] ∧ Rd Nm.cells 1 W lo3 hi3 (.slice (some ⟨b, off, none⟩) nt dt) st) w7 := ⟨bx, ht⟩
      refine wpAnyH_take (i := 9) (v := .tuple #[.agg #[.slice A5 n5 d5, .slice A6 n6 d6], .bool (Sl.endOk ls x)]) rfl (by kernel_rfl) (by kernel_rfl) (by kernel_rfl) (fun _ _ _ h => h) (Or.inl ⟨by rfl, by intro w hSw; obtain ⟨hS0, hS1⟩ := hSw; have y00 := hS0.cell (j := 0) rfl; have y01 := hS0.cell (j := 1) rfl; have y02 := hS0.cell (j := 2) rfl; have y03 := hS0.cell (j := 3) rfl; have yx := Nm.at_ hS1 HX.out; go_simp⟩) hHeld ?_
      refine wpAnyH_take (i := 10) (v := .agg #[.slice A5 n5 d5, .slice A6 n6 d6]) rfl (by kernel_rfl) (by kernel_rfl) (by kernel_rfl) (fun _ _ _ h => h) (Or.inl ⟨by rfl, by intro w hSw; obtain ⟨hS0, hS1⟩ := hSw; have y00 := hS0.cell (j := 0) rfl; have y01 := hS0.cell (j := 1) rfl; have y02 := hS0.cell (j := 2) rfl; have y03 := hS0.cell (j := 3) rfl; have yx := Nm.at_ hS1 HX.out; go_simp⟩) hHeld ?_
      refine wpAnyH_take (i := 11) (v := .bool (Sl.endOk ls x)) rfl (by kernel_rfl) (by kernel_rfl) (by kernel_rfl) (fun _ _ _ h => h) (Or.inl ⟨by rfl, by intro w hSw; obtain ⟨hS0, hS1⟩ := hSw; have y00 := hS0.cell (j := 0) rfl; have y01 := hS0.cell (j := 1) rfl; have y02 := hS0.cell (j := 2) rfl; have y03 := hS0.cell (j := 3) rfl; have yx := Nm.at_ hS1 HX.out; go_simp⟩) hHeld ?_
      clear hHeld
      refine wpAnyH_ready (rs := [13]) (by kernel_rfl) (by decide) ?_
      refine AllReadyH.cons rfl (fun K9 hK9 => ?_) AllReadyH.nil
      have bx_0 := bx.cell (j := 0) rfl
      have bx_1 := bx.cell (j := 1) rfl
      have bx_2 := bx.cell (j := 2) rfl
      have bx_3 := bx.cell (j := 3) rfl
      have bx_z := bx.frozen
      have bx_l := bx.lt
      have bR_0 := bR.cell (j := 0) rfl
      have bR_1 := bR.cell (j := 1) rfl
      have bR_2 := bR.cell (j := 2) rfl
      have bR_3 := bR.cell (j := 3) rfl
      have bR_z := bR.frozen
      have bR_l := bR.lt
      have bT_0 := bT.cell (j := 0) rfl
      have bT_1 := bT.cell (j := 1) rfl
      have bT_z := bT.frozen
      have bT_l := bT.lt
      go_simp
      clear bx_0 bx_1 bx_2 bx_3 bx_z bx_l bR_0 bR_1 bR_2 bR_3 bR_z bR_l bT_0 bT_1 bT_z bT_l
      generalize hwz : World.setCell (World.setCell _ _ _) _ _ = wz_
      obtain rfl : wz_ = setL w7 (g4) 0 [.slice A5 n5 d5, .slice A6 n6 d6] := hwz.symm
      clear hwz
      replace bx := bx.other (b := g4) (by omega) 0 [.slice A5 n5 d5, .slice A6 n6 d6]
      replace bR := bR.other (b := g4) (by omega) 0 [.slice A5 n5 d5, .slice A6 n6 d6]
      replace ht := ht.away (g := g4) (by omega) 0 [.slice A5 n5 d5, .slice A6 n6 d6]
      replace hs := hs.away (g := g4) (by omega) 0 [.slice A5 n5 d5, .slice A6 n6 d6]
      replace hw := hw.away (g := g4) (by omega) 0 [.slice A5 n5 d5, .slice A6 n6 d6]
      replace o5 := o5.box (g := g4) bT (by decide) 0 [.slice A5 n5 d5, .slice A6 n6 d6]
      replace o6 := o6.box (g := g4) bT (by decide) 0 [.slice A5 n5 d5, .slice A6 n6 d6]
      replace bC := setL_below bC [.slice A5 n5 d5, .slice A6 n6 d6] (g4) 0 (by omega)
      have zs_10 : (setL w7 (g4) 0 [.slice A5 n5 d5, .slice A6 n6 d6]).heap.size = w7.heap.size := setL_size _ _ _ _
      replace bT := bT.setAll [.slice A5 n5 d5, .slice A6 n6 d6] rfl
      generalize setL w7 _ 0 _ = w10 at *
      refine hK9.out _ _ ⟨bx, ht⟩ (fun _ => ?_)
      refine wpAnyH_ready (rs := [14]) (by kernel_rfl) (by decide) ?_
      refine AllReadyH.cons rfl (fun K11 hK11 => ?_) AllReadyH.nil
      go_simp
      refine hK11.out _ _ ⟨bx, ht⟩ (fun _ => ?_)
      refine ⟨by kernel_rfl, ?_⟩
      have bx_0 := bx.cell (j := 0) rfl
      have bx_1 := bx.cell (j := 1) rfl
      have bx_2 := bx.cell (j := 2) rfl
      have bx_3 := bx.cell (j := 3) rfl
      have bx_z := bx.frozen
      have bx_l := bx.lt
      have bR_0 := bR.cell (j := 0) rfl
      have bR_1 := bR.cell (j := 1) rfl
      have bR_2 := bR.cell (j := 2) rfl
      have bR_3 := bR.cell (j := 3) rfl
      have bR_z := bR.frozen
      have bR_l := bR.lt
      have bT_0 := bT.cell (j := 0) rfl
      have bT_1 := bT.cell (j := 1) rfl
      have bT_z := bT.frozen
      have bT_l := bT.lt
      go_wp2_with fail
      clear bx_0 bx_1 bx_2 bx_3 bx_z bx_l bR_0 bR_1 bR_2 bR_3 bR_z bR_l bT_0 bT_1 bT_z bT_l
      go_meet
      exact ⟨_, _, _, _, rfl, rfl, rfl, bC, by omega, bT, o5.mono (by omega) (by omega), o6.mono (by omega) (by omega)⟩
  case rest =>
      obtain ⟨wx, gT, v1, v2, rfl, rfl, rfl, bC, zT, bT, o5, o6⟩ := hcut
      replace bx := bx.below bC bx.lt
      replace bR := bR.below bC bR.lt
      replace ht := ht.below bC (by omega)
      replace hs := hs.below bC (by omega)
      replace hw := hw.below bC (by omega)
      have z_51 := bC.size
      replace b0 := b0.trans (bC.mono (by omega))
      clear bC
      obtain ⟨A5, n5, d5, rfl, _, _, _⟩ := o5.rd.form
      obtain ⟨A6, n6, d6, rfl, _, _, _⟩ := o6.rd.form
      have zTl := bT.lt
      have bx_0 := bx.cell (j := 0) rfl
      have bx_1 := bx.cell (j := 1) rfl
      have bx_2 := bx.cell (j := 2) rfl
      have bx_3 := bx.cell (j := 3) rfl
      have bx_z := bx.frozen
      have bx_l := bx.lt
      have bR_0 := bR.cell (j := 0) rfl
      have bR_1 := bR.cell (j := 1) rfl
      have bR_2 := bR.cell (j := 2) rfl
      have bR_3 := bR.cell (j := 3) rfl
      have bR_z := bR.frozen
      have bR_l := bR.lt
      have bT_0 := bT.cell (j := 0) rfl
      have bT_1 := bT.cell (j := 1) rfl
      have bT_z := bT.frozen
      have bT_l := bT.lt
      go_upto_region 5 with fail
      clear bx_0 bx_1 bx_2 bx_3 bx_z bx_l bR_0 bR_1 bR_2 bR_3 bR_z bR_l bT_0 bT_1 bT_z bT_l
      refine wp_region_held_drew (S := fun W => Box W (w.heap.size) 30 [.int .i64 m, .slice (some ⟨b, off, none⟩) nt dt, .slice A0 n0 d0, .slice A1 n1 d1] ∧ Box W (gT) 28 [.slice A5 n5 d5, .slice A6 n6 d6] ∧ Rd Nm.cells 1 W lo3 hi3 (.slice (some ⟨b, off, none⟩) nt dt) st) (by kernel_rfl) (show (fun (W : World) => Box W (w.heap.size) 30 [.int .i64 m, .slice (some ⟨b, off, none⟩) nt dt, .slice A0 n0 d0, .slice A1 n1 d1] ∧ Box W (gT) 28 [.slice A5 n5 d5, .slice A6 n6 d6] ∧ Rd Nm.cells 1 W lo3 hi3 (.slice (some ⟨b, off, none⟩) nt dt) st) wx.drew from ⟨bx, bT, ht.drew⟩) (fun hHeld => ?_)
      refine wpAnyH_take (i := 0) (v := .pointer (some ⟨w.heap.size, 0, none⟩)) rfl (by kernel_rfl) (by kernel_rfl) (by kernel_rfl) (fun _ _ _ h => h) (Or.inl ⟨by rfl, by intro w hSw; obtain ⟨hS0, hS1, hS2⟩ := hSw; have y00 := hS0.cell (j := 0) rfl; have y01 := hS0.cell (j := 1) rfl; have y02 := hS0.cell (j := 2) rfl; have y03 := hS0.cell (j := 3) rfl; have y10 := hS1.cell (j := 0) rfl; have y11 := hS1.cell (j := 1) rfl; have yx := Nm.at_ hS2 HX.out; go_simp⟩) hHeld ?_
      refine wpAnyH_take (i := 1) (v := .int .i64 m) rfl (by kernel_rfl) (by kernel_rfl) (by kernel_rfl) (fun _ _ _ h => h) (Or.inl ⟨by rfl, by intro w hSw; obtain ⟨hS0, hS1, hS2⟩ := hSw; have y00 := hS0.cell (j := 0) rfl; have y01 := hS0.cell (j := 1) rfl; have y02 := hS0.cell (j := 2) rfl; have y03 := hS0.cell (j := 3) rfl; have y10 := hS1.cell (j := 0) rfl; have y11 := hS1.cell (j := 1) rfl; have yx := Nm.at_ hS2 HX.out; go_simp⟩) hHeld ?_
      refine wpAnyH_take (i := 2) (v := .pointer (some ⟨w.heap.size, 1, none⟩)) rfl (by kernel_rfl) (by kernel_rfl) (by kernel_rfl) (fun _ _ _ h => h) (Or.inl ⟨by rfl, by intro w hSw; obtain ⟨hS0, hS1, hS2⟩ := hSw; have y00 := hS0.cell (j := 0) rfl; have y01 := hS0.cell (j := 1) rfl; have y02 := hS0.cell (j := 2) rfl; have y03 := hS0.cell (j := 3) rfl; have y10 := hS1.cell (j := 0) rfl; have y11 := hS1.cell (j := 1) rfl; have yx := Nm.at_ hS2 HX.out; go_simp⟩) hHeld ?_
      refine wpAnyH_take (i := 3) (v := .slice (some ⟨b, off, none⟩) nt dt) rfl (by kernel_rfl) (by kernel_rfl) (by kernel_rfl) (fun _ _ _ h => h) (Or.inl ⟨by rfl, by intro w hSw; obtain ⟨hS0, hS1, hS2⟩ := hSw; have y00 := hS0.cell (j := 0) rfl; have y01 := hS0.cell (j := 1) rfl; have y02 := hS0.cell (j := 2) rfl; have y03 := hS0.cell (j := 3) rfl; have y10 := hS1.cell (j := 0) rfl; have y11 := hS1.cell (j := 1) rfl; have yx := Nm.at_ hS2 HX.out; go_simp⟩) hHeld ?_
      refine wpAnyH_take (i := 4) (v := .int .i64 nt) rfl (by kernel_rfl) (by kernel_rfl) (by kernel_rfl) (fun _ _ _ h => h) (Or.inl ⟨by rfl, by intro w hSw; obtain ⟨hS0, hS1, hS2⟩ := hSw; have y00 := hS0.cell (j := 0) rfl; have y01 := hS0.cell (j := 1) rfl; have y02 := hS0.cell (j := 2) rfl; have y03 := hS0.cell (j := 3) rfl; have y10 := hS1.cell (j := 0) rfl; have y11 := hS1.cell (j := 1) rfl; have yx := Nm.at_ hS2 HX.out; go_simp⟩) hHeld ?_
      refine wpAnyH_take (i := 5) (v := .int .i64 j) rfl (by kernel_rfl) (by kernel_rfl) (by kernel_rfl) (fun _ _ _ h => h) (Or.inl ⟨by rfl, by intro w hSw; obtain ⟨hS0, hS1, hS2⟩ := hSw; have y00 := hS0.cell (j := 0) rfl; have y01 := hS0.cell (j := 1) rfl; have y02 := hS0.cell (j := 2) rfl; have y03 := hS0.cell (j := 3) rfl; have y10 := hS1.cell (j := 0) rfl; have y11 := hS1.cell (j := 1) rfl; have yx := Nm.at_ hS2 HX.out; go_simp⟩) hHeld ?_
      refine wpAnyH_take (i := 6) (v := .slice (some ⟨b, off, none⟩) j dt) rfl (by kernel_rfl) (by kernel_rfl) (by kernel_rfl) (fun _ _ _ h => h) (Or.inl ⟨by rfl, by intro w hSw; obtain ⟨hS0, hS1, hS2⟩ := hSw; have y00 := hS0.cell (j := 0) rfl; have y01 := hS0.cell (j := 1) rfl; have y02 := hS0.cell (j := 2) rfl; have y03 := hS0.cell (j := 3) rfl; have y10 := hS1.cell (j := 0) rfl; have y11 := hS1.cell (j := 1) rfl; have yx := Nm.at_ hS2 HX.out; go_simp⟩) hHeld ?_
      refine wpAnyH_take (i := 8) (v := .agg #[.slice A5 n5 d5, .slice A6 n6 d6]) rfl (by kernel_rfl) (by kernel_rfl) (by kernel_rfl) (fun _ _ _ h => h) (Or.inl ⟨by rfl, by intro w hSw; obtain ⟨hS0, hS1, hS2⟩ := hSw; have y00 := hS0.cell (j := 0) rfl; have y01 := hS0.cell (j := 1) rfl; have y02 := hS0.cell (j := 2) rfl; have y03 := hS0.cell (j := 3) rfl; have y10 := hS1.cell (j := 0) rfl; have y11 := hS1.cell (j := 1) rfl; have yx := Nm.at_ hS2 HX.out; go_simp⟩) hHeld ?_
      refine wpAnyH_take (i := 10) (v := .pointer (some ⟨w.heap.size, 1, none⟩)) rfl (by kernel_rfl) (by kernel_rfl) (by kernel_rfl) (fun _ _ _ h => h) (Or.inl ⟨by rfl, by intro w hSw; obtain ⟨hS0, hS1, hS2⟩ := hSw; have y00 := hS0.cell (j := 0) rfl; have y01 := hS0.cell (j := 1) rfl; have y02 := hS0.cell (j := 2) rfl; have y03 := hS0.cell (j := 3) rfl; have y10 := hS1.cell (j := 0) rfl; have y11 := hS1.cell (j := 1) rfl; have yx := Nm.at_ hS2 HX.out; go_simp⟩) hHeld ?_
      refine wpAnyH_take (i := 11) (v := .slice (some ⟨b, off, none⟩) nt dt) rfl (by kernel_rfl) (by kernel_rfl) (by kernel_rfl) (fun _ _ _ h => h) (Or.inl ⟨by rfl, by intro w hSw; obtain ⟨hS0, hS1, hS2⟩ := hSw; have y00 := hS0.cell (j := 0) rfl; have y01 := hS0.cell (j := 1) rfl; have y02 := hS0.cell (j := 2) rfl; have y03 := hS0.cell (j := 3) rfl; have y10 := hS1.cell (j := 0) rfl; have y11 := hS1.cell (j := 1) rfl; have yx := Nm.at_ hS2 HX.out; go_simp⟩) hHeld ?_
      refine wpAnyH_take (i := 12) (v := .int .i64 nt) rfl (by kernel_rfl) (by kernel_rfl) (by kernel_rfl) (fun _ _ _ h => h) (Or.inl ⟨by rfl, by intro w hSw; obtain ⟨hS0, hS1, hS2⟩ := hSw; have y00 := hS0.cell (j := 0) rfl; have y01 := hS0.cell (j := 1) rfl; have y02 := hS0.cell (j := 2) rfl; have y03 := hS0.cell (j := 3) rfl; have y10 := hS1.cell (j := 0) rfl; have y11 := hS1.cell (j := 1) rfl; have yx := Nm.at_ hS2 HX.out; go_simp⟩) hHeld ?_
      refine wpAnyH_take (i := 13) (v := .int .i64 j) rfl (by kernel_rfl) (by kernel_rfl) (by kernel_rfl) (fun _ _ _ h => h) (Or.inl ⟨by rfl, by intro w hSw; obtain ⟨hS0, hS1, hS2⟩ := hSw; have y00 := hS0.cell (j := 0) rfl; have y01 := hS0.cell (j := 1) rfl; have y02 := hS0.cell (j := 2) rfl; have y03 := hS0.cell (j := 3) rfl; have y10 := hS1.cell (j := 0) rfl; have y11 := hS1.cell (j := 1) rfl; have yx := Nm.at_ hS2 HX.out; go_simp⟩) hHeld ?_
      refine wpAnyH_take (i := 14) (v := .pointer (some ⟨b, off + j, none⟩)) rfl (by kernel_rfl) (by kernel_rfl) (by kernel_rfl) (fun _ _ _ h => h) (Or.inl ⟨by rfl, by intro w hSw; obtain ⟨hS0, hS1, hS2⟩ := hSw; have y00 := hS0.cell (j := 0) rfl; have y01 := hS0.cell (j := 1) rfl; have y02 := hS0.cell (j := 2) rfl; have y03 := hS0.cell (j := 3) rfl; have y10 := hS1.cell (j := 0) rfl; have y11 := hS1.cell (j := 1) rfl; have yx := Nm.at_ hS2 HX.out; go_simp⟩) hHeld ?_
      refine wpAnyH_take (i := 15) (v := .int .i64 x) rfl (by kernel_rfl) (by kernel_rfl) (by kernel_rfl) (fun _ _ _ h => h) (Or.inl ⟨by rfl, by intro w hSw; obtain ⟨hS0, hS1, hS2⟩ := hSw; have y00 := hS0.cell (j := 0) rfl; have y01 := hS0.cell (j := 1) rfl; have y02 := hS0.cell (j := 2) rfl; have y03 := hS0.cell (j := 3) rfl; have y10 := hS1.cell (j := 0) rfl; have y11 := hS1.cell (j := 1) rfl; have yx := Nm.at_ hS2 HX.out; go_simp⟩) hHeld ?_
      clear hHeld
      refine held_gen (F := fun W' => Below wx.heap.size wx W') (Below.refl wx.heap.size wx).drew ?_
      rintro w52 b_52
      replace bx := bx.below b_52 bx.lt
      replace bR := bR.below b_52 bR.lt
      replace bT := bT.below b_52 bT.lt
      replace ht := ht.below b_52 (by omega)
      replace hs := hs.below b_52 (by omega)
      replace hw := hw.below b_52 (by omega)
      replace o5 := o5.below b_52 (by omega)
      replace o6 := o6.below b_52 (by omega)
      have z_53 := b_52.size
      replace b0 := b0.trans (b_52.mono (by omega))
      clear b_52
      refine wpAnyH_ready (rs := [7]) (by kernel_rfl) (by decide) ?_
      refine AllReadyH.cons rfl (fun K54 hK54 => ?_) AllReadyH.nil
      go_simp
      refine (l1Own_any _ (st.take j) w52 (ht.take_ hjnn) (by omega) hjl2).mono ?_; rintro q_ w55 ⟨v3, rfl, o3, b_55⟩
      replace bx := bx.below b_55 bx.lt
      replace bR := bR.below b_55 bR.lt
      replace bT := bT.below b_55 bT.lt
      replace ht := ht.below b_55 (by omega)
      replace hs := hs.below b_55 (by omega)
      replace hw := hw.below b_55 (by omega)
      replace o5 := o5.below b_55 (by omega)
      replace o6 := o6.below b_55 (by omega)
      have z_56 := b_55.size
      replace b0 := b0.trans (b_55.mono (by omega))
      clear b_55
      obtain ⟨A3, n3, d3, rfl, _, _, _⟩ := o3.rd.form
      refine hK54.out _ _ ⟨bx, bT, ht⟩ (fun _ => ?_)
      have hHeld : (fun (W : World) => Box W (w.heap.size) 30 [.int .i64 m, .slice (some ⟨b, off, none⟩) nt dt, .slice A0 n0 d0, .slice A1 n1 d1] ∧ Box W (gT) 28 [.slice A5 n5 d5, .slice A6 n6 d6] ∧ Rd Nm.cells 1 W lo3 hi3 (.slice (some ⟨b, off, none⟩) nt dt) st) w55 := ⟨bx, bT, ht⟩
      refine wpAnyH_take (i := 9) (v := .agg #[.int .i64 m, .slice A3 n3 d3, .slice A5 n5 d5, .slice A6 n6 d6]) rfl (by kernel_rfl) (by kernel_rfl) (by kernel_rfl) (fun _ _ _ h => h) (Or.inl ⟨by rfl, by intro w hSw; obtain ⟨hS0, hS1, hS2⟩ := hSw; have y00 := hS0.cell (j := 0) rfl; have y01 := hS0.cell (j := 1) rfl; have y02 := hS0.cell (j := 2) rfl; have y03 := hS0.cell (j := 3) rfl; have y10 := hS1.cell (j := 0) rfl; have y11 := hS1.cell (j := 1) rfl; have yx := Nm.at_ hS2 HX.out; go_simp⟩) hHeld ?_
      clear hHeld
      refine wpAnyH_ready (rs := [16]) (by kernel_rfl) (by decide) ?_
      refine AllReadyH.cons rfl (fun K57 hK57 => ?_) AllReadyH.nil
      have bx_0 := bx.cell (j := 0) rfl
      have bx_1 := bx.cell (j := 1) rfl
      have bx_2 := bx.cell (j := 2) rfl
      have bx_3 := bx.cell (j := 3) rfl
      have bx_z := bx.frozen
      have bx_l := bx.lt
      have bR_0 := bR.cell (j := 0) rfl
      have bR_1 := bR.cell (j := 1) rfl
      have bR_2 := bR.cell (j := 2) rfl
      have bR_3 := bR.cell (j := 3) rfl
      have bR_z := bR.frozen
      have bR_l := bR.lt
      have bT_0 := bT.cell (j := 0) rfl
      have bT_1 := bT.cell (j := 1) rfl
      have bT_z := bT.frozen
      have bT_l := bT.lt
      go_simp
      clear bx_0 bx_1 bx_2 bx_3 bx_z bx_l bR_0 bR_1 bR_2 bR_3 bR_z bR_l bT_0 bT_1 bT_z bT_l
      generalize hwz : World.setCell (World.setCell (World.setCell (World.setCell _ _ _) _ _) _ _) _ _ = wz_
      obtain rfl : wz_ = setL w55 (w.heap.size + 1) 0 [.int .i64 m, .slice A3 n3 d3, .slice A5 n5 d5, .slice A6 n6 d6] := hwz.symm
      clear hwz
      replace bx := bx.other (b := w.heap.size + 1) (by omega) 0 [.int .i64 m, .slice A3 n3 d3, .slice A5 n5 d5, .slice A6 n6 d6]
      replace bT := bT.other (b := w.heap.size + 1) (by omega) 0 [.int .i64 m, .slice A3 n3 d3, .slice A5 n5 d5, .slice A6 n6 d6]
      replace ht := ht.away (g := w.heap.size + 1) (by omega) 0 [.int .i64 m, .slice A3 n3 d3, .slice A5 n5 d5, .slice A6 n6 d6]
      replace hs := hs.away (g := w.heap.size + 1) (by omega) 0 [.int .i64 m, .slice A3 n3 d3, .slice A5 n5 d5, .slice A6 n6 d6]
      replace hw := hw.away (g := w.heap.size + 1) (by omega) 0 [.int .i64 m, .slice A3 n3 d3, .slice A5 n5 d5, .slice A6 n6 d6]
      replace o5 := o5.box (g := w.heap.size + 1) bR (by decide) 0 [.int .i64 m, .slice A3 n3 d3, .slice A5 n5 d5, .slice A6 n6 d6]
      replace o6 := o6.box (g := w.heap.size + 1) bR (by decide) 0 [.int .i64 m, .slice A3 n3 d3, .slice A5 n5 d5, .slice A6 n6 d6]
      replace o3 := o3.box (g := w.heap.size + 1) bR (by decide) 0 [.int .i64 m, .slice A3 n3 d3, .slice A5 n5 d5, .slice A6 n6 d6]
      replace b0 := setL_below b0 [.int .i64 m, .slice A3 n3 d3, .slice A5 n5 d5, .slice A6 n6 d6] (w.heap.size + 1) 0 (by omega)
      have zs_58 : (setL w55 (w.heap.size + 1) 0 [.int .i64 m, .slice A3 n3 d3, .slice A5 n5 d5, .slice A6 n6 d6]).heap.size = w55.heap.size := setL_size _ _ _ _
      replace bR := bR.setAll [.int .i64 m, .slice A3 n3 d3, .slice A5 n5 d5, .slice A6 n6 d6] rfl
      generalize setL w55 _ 0 _ = w58 at *
      refine hK57.out _ _ ⟨bx, bT, ht⟩ (fun _ => ?_)
      refine wpAnyH_ready (rs := [17]) (by kernel_rfl) (by decide) ?_
      refine AllReadyH.cons rfl (fun K59 hK59 => ?_) AllReadyH.nil
      go_simp
      refine hK59.out _ _ ⟨bx, bT, ht⟩ (fun _ => ?_)
      refine ⟨by kernel_rfl, ?_⟩
      have bx_0 := bx.cell (j := 0) rfl
      have bx_1 := bx.cell (j := 1) rfl
      have bx_2 := bx.cell (j := 2) rfl
      have bx_3 := bx.cell (j := 3) rfl
      have bx_z := bx.frozen
      have bx_l := bx.lt
      have bR_0 := bR.cell (j := 0) rfl
      have bR_1 := bR.cell (j := 1) rfl
      have bR_2 := bR.cell (j := 2) rfl
      have bR_3 := bR.cell (j := 3) rfl
      have bR_z := bR.frozen
      have bR_l := bR.lt
      have bT_0 := bT.cell (j := 0) rfl
      have bT_1 := bT.cell (j := 1) rfl
      have bT_z := bT.frozen
      have bT_l := bT.lt
      go_wp2_with fail
      clear bx_0 bx_1 bx_2 bx_3 bx_z bx_l bR_0 bR_1 bR_2 bR_3 bR_z bR_l bT_0 bT_1 bT_z bT_l
      have u0_ := bR.cell (j := 0) rfl
      have u1_ := bR.cell (j := 1) rfl
      have u2_ := bR.cell (j := 2) rfl
      have u3_ := bR.cell (j := 3) rfl
      refine bodyPost_ret (by simp only [results, Tryz.results47]; simp [go_sem, u0_, u1_, u2_, u3_]; rfl) rfl ?_
      exact ⟨_, _, _, rfl, o3.mono (by omega) (by omega), by rw [← HE.out.1]; exact o5.mono (by omega) (by omega), by rw [← HE.out.2]; exact o6.mono (by omega) (by omega), b0⟩
set_option maxHeartbeats 2000000 in
theorem implLeave_nil (m : Int) (vt vs vw : Value) (st : List Int) (ls : List Sl) (lw : List Wt) (w : World) {lo hi lo2 hi2 lo3 hi3 : Nat} (h0 : Rd Nm.cells 1 w lo3 hi3 vt st) (h : Rd Sl.cells 3 w lo hi vs ls) (h2 : Rd Wt.cells 2 w lo2 hi2 vw lw) (hh0 : hi3 ≤ w.heap.size) (hh : hi ≤ w.heap.size) (hh2 : hi2 ≤ w.heap.size) (hz : st = []) :
    Calls Tryz.prog 46 #[.agg #[.int .i64 m, vt, vs, vw]] w fun e w' => e = .returned (.tuple #[.agg #[.int .i64 0, .slice none 0 0, .slice none 0 0, .slice none 0 0], .int .i64 0, .bool false]) ∧ Below w.heap.size w w' := by
  have b0 : Below w.heap.size w ((w.alloc (.cells #[.int .i64 m, vt, vs, vw] 30)).alloc (.cells #[.int .i64 0, .slice none 0 0, .slice none 0 0, .slice none 0 0] 30)) := ((Below.refl w.heap.size w).alloc (Nat.le_refl _) _).alloc (by simp) _
  have z0 : ((w.alloc (.cells #[.int .i64 m, vt, vs, vw] 30)).alloc (.cells #[.int .i64 0, .slice none 0 0, .slice none 0 0, .slice none 0 0] 30)).heap.size = w.heap.size + 2 := by simp
  have bx := Box.new w #[.int .i64 m, vt, vs, vw] 30 rfl
  have bR := Box.new (g := w.heap.size + 1) (w.alloc (.cells #[.int .i64 m, vt, vs, vw] 30)) #[.int .i64 0, .slice none 0 0, .slice none 0 0, .slice none 0 0] 30 (by simp)
  replace bx := bx.below ((Below.refl _ (w.alloc (.cells #[.int .i64 m, vt, vs, vw] 30))).alloc (Nat.le_refl _) (.cells #[.int .i64 0, .slice none 0 0, .slice none 0 0, .slice none 0 0] 30)) bx.lt
  have ht := h0.below b0 hh0
  have hs := h.below b0 hh
  have hw := h2.below b0 hh2
  have hv0_ := h0.form
  have hv_ := h.form
  have hv2_ := h2.form
  clear h0 h h2
  generalize hwA : (w.alloc (.cells #[.int .i64 m, vt, vs, vw] 30)).alloc (.cells #[.int .i64 0, .slice none 0 0, .slice none 0 0, .slice none 0 0] 30) = wA at *
  obtain ⟨At, nt, dt, rfl, _, _, _⟩ := hv0_
  obtain ⟨A0, n0, d0, rfl, _, _, _⟩ := hv_
  obtain ⟨A1, n1, d1, rfl, _, _, _⟩ := hv2_
  obtain ⟨rfl⟩ : nt = 0 := by have := ht.n_eq.1; simpa [hz] using this
  go_enter Tryz.func46, Tryz.ntmps46
  have bx_0 := bx.cell (j := 0) rfl
  have bx_1 := bx.cell (j := 1) rfl
  have bx_2 := bx.cell (j := 2) rfl
  have bx_3 := bx.cell (j := 3) rfl
  have bx_z := bx.frozen
  have bx_l := bx.lt
  have bR_0 := bR.cell (j := 0) rfl
  have bR_1 := bR.cell (j := 1) rfl
  have bR_2 := bR.cell (j := 2) rfl
  have bR_3 := bR.cell (j := 3) rfl
  have bR_z := bR.frozen
  have bR_l := bR.lt
  go_wp2_with fail
  clear hwA
  clear bx_0 bx_1 bx_2 bx_3 bx_z bx_l bR_0 bR_1 bR_2 bR_3 bR_z bR_l
  generalize hwz : World.setCell (World.setCell (World.setCell (World.setCell _ _ _) _ _) _ _) _ _ = wz_
  obtain rfl : wz_ = setL wA (w.heap.size + 1) 0 [.int .i64 0, .slice none 0 0, .slice none 0 0, .slice none 0 0] := hwz.symm
  clear hwz
  replace bx := bx.other (b := w.heap.size + 1) (by omega) 0 [.int .i64 0, .slice none 0 0, .slice none 0 0, .slice none 0 0]
  replace ht := ht.away (g := w.heap.size + 1) (by omega) 0 [.int .i64 0, .slice none 0 0, .slice none 0 0, .slice none 0 0]
  replace hs := hs.away (g := w.heap.size + 1) (by omega) 0 [.int .i64 0, .slice none 0 0, .slice none 0 0, .slice none 0 0]
  replace hw := hw.away (g := w.heap.size + 1) (by omega) 0 [.int .i64 0, .slice none 0 0, .slice none 0 0, .slice none 0 0]
  replace b0 := setL_below b0 [.int .i64 0, .slice none 0 0, .slice none 0 0, .slice none 0 0] (w.heap.size + 1) 0 (by omega)
  have zs_1 : (setL wA (w.heap.size + 1) 0 [.int .i64 0, .slice none 0 0, .slice none 0 0, .slice none 0 0]).heap.size = wA.heap.size := setL_size _ _ _ _
  replace bR := bR.setAll [.int .i64 0, .slice none 0 0, .slice none 0 0, .slice none 0 0] rfl
  generalize setL wA _ 0 _ = w1 at *
  have u0_ := bR.cell (j := 0) rfl
  have u1_ := bR.cell (j := 1) rfl
  have u2_ := bR.cell (j := 2) rfl
  have u3_ := bR.cell (j := 3) rfl
  refine bodyPost_ret (by simp only [results, Tryz.results46]; simp [go_sem, u0_, u1_, u2_, u3_]; rfl) rfl ?_
  exact ⟨rfl, b0⟩
set_option maxHeartbeats 4000000 in
theorem implLeave_in (m : Int) (vt vs vw : Value) (st : List Int) (ls : List Sl) (lw : List Wt) (w : World) {lo hi lo2 hi2 lo3 hi3 : Nat} (h0 : Rd Nm.cells 1 w lo3 hi3 vt st) (h : Rd Sl.cells 3 w lo hi vs ls) (h2 : Rd Wt.cells 2 w lo2 hi2 vw lw) (hh0 : hi3 ≤ w.heap.size) (hh : hi ≤ w.heap.size) (hh2 : hi2 ≤ w.heap.size) (hl : st.length ≤ 1048576) (hp : Qu.parts ls lw = true) {j : Nat} {x : Int} (hj : j + 1 = st.length) (hx : st[j]? = some x) (hk : Sl.endOk ls x = true) :
    Calls Tryz.prog 46 #[.agg #[.int .i64 m, vt, vs, vw]] w fun e w' => ∃ v0 v1 v2, e = .returned (.tuple #[.agg #[.int .i64 m, v0, v1, v2], .int .i64 x, .bool true]) ∧ Ow Nm.cells 1 3 w' w.heap.size w'.heap.size v0 (st.take j) ∧ Ow Sl.cells 3 93 w' w.heap.size w'.heap.size v1 ((Qu.enP ls lw x).1) ∧ Ow Wt.cells 2 107 w' w.heap.size w'.heap.size v2 ((Qu.enP ls lw x).2) ∧ Below w.heap.size w w' := by
  have b0 : Below w.heap.size w ((w.alloc (.cells #[.int .i64 m, vt, vs, vw] 30)).alloc (.cells #[.int .i64 0, .slice none 0 0, .slice none 0 0, .slice none 0 0] 30)) := ((Below.refl w.heap.size w).alloc (Nat.le_refl _) _).alloc (by simp) _
  have z0 : ((w.alloc (.cells #[.int .i64 m, vt, vs, vw] 30)).alloc (.cells #[.int .i64 0, .slice none 0 0, .slice none 0 0, .slice none 0 0] 30)).heap.size = w.heap.size + 2 := by simp
  have bx := Box.new w #[.int .i64 m, vt, vs, vw] 30 rfl
  have bR := Box.new (g := w.heap.size + 1) (w.alloc (.cells #[.int .i64 m, vt, vs, vw] 30)) #[.int .i64 0, .slice none 0 0, .slice none 0 0, .slice none 0 0] 30 (by simp)
  replace bx := bx.below ((Below.refl _ (w.alloc (.cells #[.int .i64 m, vt, vs, vw] 30))).alloc (Nat.le_refl _) (.cells #[.int .i64 0, .slice none 0 0, .slice none 0 0, .slice none 0 0] 30)) bx.lt
  have ht := h0.below b0 hh0
  have hs := h.below b0 hh
  have hw := h2.below b0 hh2
  have hv0_ := h0.form
  have hv_ := h.form
  have hv2_ := h2.form
  clear h0 h h2
  generalize hwA : (w.alloc (.cells #[.int .i64 m, vt, vs, vw] 30)).alloc (.cells #[.int .i64 0, .slice none 0 0, .slice none 0 0, .slice none 0 0] 30) = wA at *
  obtain ⟨At, nt, dt, rfl, _, _, _⟩ := hv0_
  obtain ⟨A0, n0, d0, rfl, _, _, _⟩ := hv_
  obtain ⟨A1, n1, d1, rfl, _, _, _⟩ := hv2_
  have hn := Nat.le_of_eq ht.n_eq.1
  have hn' := Nat.le_of_eq ht.n_eq.1.symm
  have hc := ht.n_eq.2
  have hj1 : j < nt := by omega
  obtain ⟨b, off, x', rfl, hx', _, hbh, f0⟩ := Nm.get ht hj1 (Below.refl wA.heap.size wA) (by omega)
  clear f0 hx' x'
  have HP := Lib.hid hp
  have HX := Lib.hid hx
  have HE := Lib.hid (Qu.ei_yes hk lw)
  have HK := Lib.hid hk
  have hje : (nt : Int) - 1 = (j : Int) := by omega
  have hjn : (j : Int) < (nt : Int) := by omega
  have hjl : (j : Int) ≤ (nt : Int) := by omega
  have hjc : (j : Int) ≤ (dt : Int) := by omega
  have hjm : dt ≤ 9223372036854775807 := by have := hc.2; unfold maxLen at this; omega
  have hzd2 : ((nt : Int) == 0) = false := by rw [beq_eq_false_iff_ne]; omega
  have hjd : decide ((j : Int) < 0) = false := decide_eq_false (by omega)
  have hjw : IntKind.i64.wrap (j : Int) = (j : Int) := IntWalk.i64_in _ (by omega)
  have hjnn : j ≤ nt := by omega
  have hjl2 : (st.take j).length ≤ 1048576 := by rw [List.length_take]; omega
  clear hp hx hk hj hn hn' hc
  go_enter Tryz.func46, Tryz.ntmps46
  have bx_0 := bx.cell (j := 0) rfl
  have bx_1 := bx.cell (j := 1) rfl
  have bx_2 := bx.cell (j := 2) rfl
  have bx_3 := bx.cell (j := 3) rfl
  have bx_z := bx.frozen
  have bx_l := bx.lt
  have bR_0 := bR.cell (j := 0) rfl
  have bR_1 := bR.cell (j := 1) rfl
  have bR_2 := bR.cell (j := 2) rfl
  have bR_3 := bR.cell (j := 3) rfl
  have bR_z := bR.frozen
  have bR_l := bR.lt
  go_upto_region 4 with fail
  clear hwA
  clear bx_0 bx_1 bx_2 bx_3 bx_z bx_l bR_0 bR_1 bR_2 bR_3 bR_z bR_l
  go_cut [6, 7] (fun s6 s7 wx => ∃ (ww : World) (gT : Nat) (v1 v2 : Value), ww = wx ∧ s6 = .pointer (some ⟨gT, 0, none⟩) ∧ s7 = .bool (Sl.endOk ls x) ∧ Below wA.heap.size wA wx ∧ wA.heap.size ≤ gT ∧ Box wx gT 28 [v1, v2] ∧ Ow Sl.cells 3 93 wx wA.heap.size wx.heap.size v1 (Qu.eiS ls lw x) ∧ Ow Wt.cells 2 107 wx wA.heap.size wx.heap.size v2 (Qu.eiW ls lw x))
  case first =>
    have bC := Below.refl wA.heap.size wA
    have zB := b0.size
    refine wp_region_held_drew (S := fun W => Box W (w.heap.size) 30 [.int .i64 m, .slice (some ⟨b, off, none⟩) nt dt, .slice A0 n0 d0, .slice A1 n1 d1] ∧ Rd Nm.cells 1 W lo3 hi3 (.slice (some ⟨b, off, none⟩) nt dt) st) (by kernel_rfl) (show (fun (W : World) => Box W (w.heap.size) 30 [.int .i64 m, .slice (some ⟨b, off, none⟩) nt dt, .slice A0 n0 d0, .slice A1 n1 d1] ∧ Rd Nm.cells 1 W lo3 hi3 (.slice (some ⟨b, off, none⟩) nt dt) st) wA.drew from ⟨bx, ht.drew⟩) (fun hHeld => ?_)
    refine wpAnyH_take (i := 0) (v := .pointer (some ⟨w.heap.size, 2, none⟩)) rfl (by kernel_rfl) (by kernel_rfl) (by kernel_rfl) (fun _ _ _ h => h) (Or.inl ⟨by rfl, by intro w hSw; obtain ⟨hS0, hS1⟩ := hSw; have y00 := hS0.cell (j := 0) rfl; have y01 := hS0.cell (j := 1) rfl; have y02 := hS0.cell (j := 2) rfl; have y03 := hS0.cell (j := 3) rfl; have yx := Nm.at_ hS1 HX.out; go_simp⟩) hHeld ?_
    refine wpAnyH_take (i := 1) (v := .agg #[.slice A0 n0 d0, .slice A1 n1 d1]) rfl (by kernel_rfl) (by kernel_rfl) (by kernel_rfl) (fun _ _ _ h => h) (Or.inl ⟨by rfl, by intro w hSw; obtain ⟨hS0, hS1⟩ := hSw; have y00 := hS0.cell (j := 0) rfl; have y01 := hS0.cell (j := 1) rfl; have y02 := hS0.cell (j := 2) rfl; have y03 := hS0.cell (j := 3) rfl; have yx := Nm.at_ hS1 HX.out; go_simp⟩) hHeld ?_
    refine wpAnyH_take (i := 2) (v := .pointer (some ⟨w.heap.size, 1, none⟩)) rfl (by kernel_rfl) (by kernel_rfl) (by kernel_rfl) (fun _ _ _ h => h) (Or.inl ⟨by rfl, by intro w hSw; obtain ⟨hS0, hS1⟩ := hSw; have y00 := hS0.cell (j := 0) rfl; have y01 := hS0.cell (j := 1) rfl; have y02 := hS0.cell (j := 2) rfl; have y03 := hS0.cell (j := 3) rfl; have yx := Nm.at_ hS1 HX.out; go_simp⟩) hHeld ?_
    refine wpAnyH_take (i := 3) (v := .slice (some ⟨b, off, none⟩) nt dt) rfl (by kernel_rfl) (by kernel_rfl) (by kernel_rfl) (fun _ _ _ h => h) (Or.inl ⟨by rfl, by intro w hSw; obtain ⟨hS0, hS1⟩ := hSw; have y00 := hS0.cell (j := 0) rfl; have y01 := hS0.cell (j := 1) rfl; have y02 := hS0.cell (j := 2) rfl; have y03 := hS0.cell (j := 3) rfl; have yx := Nm.at_ hS1 HX.out; go_simp⟩) hHeld ?_
    refine wpAnyH_take (i := 4) (v := .int .i64 j) rfl (by kernel_rfl) (by kernel_rfl) (by kernel_rfl) (fun _ _ _ h => h) (Or.inl ⟨by rfl, by intro w hSw; obtain ⟨hS0, hS1⟩ := hSw; have y00 := hS0.cell (j := 0) rfl; have y01 := hS0.cell (j := 1) rfl; have y02 := hS0.cell (j := 2) rfl; have y03 := hS0.cell (j := 3) rfl; have yx := Nm.at_ hS1 HX.out; go_simp⟩) hHeld ?_
    refine wpAnyH_take (i := 5) (v := .pointer (some ⟨b, off + j, none⟩)) rfl (by kernel_rfl) (by kernel_rfl) (by kernel_rfl) (fun _ _ _ h => h) (Or.inl ⟨by rfl, by intro w hSw; obtain ⟨hS0, hS1⟩ := hSw; have y00 := hS0.cell (j := 0) rfl; have y01 := hS0.cell (j := 1) rfl; have y02 := hS0.cell (j := 2) rfl; have y03 := hS0.cell (j := 3) rfl; have yx := Nm.at_ hS1 HX.out; go_simp⟩) hHeld ?_
    refine wpAnyH_take (i := 6) (v := .int .i64 x) rfl (by kernel_rfl) (by kernel_rfl) (by kernel_rfl) (fun _ _ _ h => h) (Or.inl ⟨by rfl, by intro w hSw; obtain ⟨hS0, hS1⟩ := hSw; have y00 := hS0.cell (j := 0) rfl; have y01 := hS0.cell (j := 1) rfl; have y02 := hS0.cell (j := 2) rfl; have y03 := hS0.cell (j := 3) rfl; have yx := Nm.at_ hS1 HX.out; go_simp⟩) hHeld ?_
    clear hHeld
    refine held_gen (F := fun W' => Below wA.heap.size wA W') (Below.refl wA.heap.size wA).drew ?_
    rintro w1 b_1
    replace bx := bx.below b_1 bx.lt
    replace bR := bR.below b_1 bR.lt
    replace ht := ht.below b_1 (by omega)
    replace hs := hs.below b_1 (by omega)
    replace hw := hw.below b_1 (by omega)
    have z_2 := b_1.size
    replace bC := bC.trans (b_1.mono (by omega))
    clear b_1
    refine wpAnyH_ready (rs := [7, 11]) (by kernel_rfl) (by decide) ?_
    refine AllReadyH.cons rfl (fun K3a hK3a => ?_) (AllReadyH.cons rfl (fun K3b hK3b => ?_) AllReadyH.nil)
    · go_simp
      refine (implEndQ_in _ _ ls lw x w1 hs hw (by omega) (by omega) HP.out).mono ?_; rintro q_ w4 ⟨v5, v6, rfl, o5, o6, b_4⟩
      replace bx := bx.below b_4 bx.lt
      replace bR := bR.below b_4 bR.lt
      replace ht := ht.below b_4 (by omega)
      replace hs := hs.below b_4 (by omega)
      replace hw := hw.below b_4 (by omega)
      have z_5 := b_4.size
      replace bC := bC.trans (b_4.mono (by omega))
      clear b_4
      obtain ⟨A5, n5, d5, rfl, _, _, _⟩ := o5.rd.form
      obtain ⟨A6, n6, d6, rfl, _, _, _⟩ := o6.rd.form
      refine hK3a.out _ _ ⟨bx, ht⟩ (fun _ => ?_)
      have hHeld : (fun (W : World) => Box W (w.heap.size) 30 [.int .i64 m, .slice (some ⟨b, off, none⟩) nt dt, .slice A0 n0 d0, .slice A1 n1 d1] ∧ Rd Nm.cells 1 W lo3 hi3 (.slice (some ⟨b, off, none⟩) nt dt) st) w4 := ⟨bx, ht⟩
      refine wpAnyH_take (i := 8) (v := .tuple #[.agg #[.slice A5 n5 d5, .slice A6 n6 d6], .bool (Sl.endOk ls x)]) rfl (by kernel_rfl) (by kernel_rfl) (by kernel_rfl) (fun _ _ _ h => h) (Or.inl ⟨by rfl, by intro w hSw; obtain ⟨hS0, hS1⟩ := hSw; have y00 := hS0.cell (j := 0) rfl; have y01 := hS0.cell (j := 1) rfl; have y02 := hS0.cell (j := 2) rfl; have y03 := hS0.cell (j := 3) rfl; have yx := Nm.at_ hS1 HX.out; go_simp⟩) hHeld ?_
      refine wpAnyH_take (i := 9) (v := .agg #[.slice A5 n5 d5, .slice A6 n6 d6]) rfl (by kernel_rfl) (by kernel_rfl) (by kernel_rfl) (fun _ _ _ h => h) (Or.inl ⟨by rfl, by intro w hSw; obtain ⟨hS0, hS1⟩ := hSw; have y00 := hS0.cell (j := 0) rfl; have y01 := hS0.cell (j := 1) rfl; have y02 := hS0.cell (j := 2) rfl; have y03 := hS0.cell (j := 3) rfl; have yx := Nm.at_ hS1 HX.out; go_simp⟩) hHeld ?_
      refine wpAnyH_take (i := 10) (v := .bool (Sl.endOk ls x)) rfl (by kernel_rfl) (by kernel_rfl) (by kernel_rfl) (fun _ _ _ h => h) (Or.inl ⟨by rfl, by intro w hSw; obtain ⟨hS0, hS1⟩ := hSw; have y00 := hS0.cell (j := 0) rfl; have y01 := hS0.cell (j := 1) rfl; have y02 := hS0.cell (j := 2) rfl; have y03 := hS0.cell (j := 3) rfl; have yx := Nm.at_ hS1 HX.out; go_simp⟩) hHeld ?_
      clear hHeld
      refine wpAnyH_ready (rs := [11]) (by kernel_rfl) (by decide) ?_
      refine AllReadyH.cons rfl (fun K6 hK6 => ?_) AllReadyH.nil
      go_simp
      have b_7 := (Below.refl w4.heap.size w4).alloc (Nat.le_refl _) (.cells #[.slice none 0 0, .slice none 0 0] 28)
      have bT := Box.new w4 #[.slice none 0 0, .slice none 0 0] 28 rfl
      replace bx := bx.below b_7 bx.lt
      replace bR := bR.below b_7 bR.lt
      replace ht := ht.below b_7 (by omega)
      replace hs := hs.below b_7 (by omega)
      replace hw := hw.below b_7 (by omega)
      replace o5 := o5.below b_7 (by omega)
      replace o6 := o6.below b_7 (by omega)
      have z_8 := b_7.size
      replace bC := bC.trans (b_7.mono (by omega))
      clear b_7
      generalize w4.alloc _ = w7 at *
      generalize w4.heap.size = g7 at *
      refine hK6.out _ _ ⟨bx, ht⟩ (fun _ => ?_)
      refine wpAnyH_ready (rs := [12]) (by kernel_rfl) (by decide) ?_
      refine AllReadyH.cons rfl (fun K9 hK9 => ?_) AllReadyH.nil
      have bx_0 := bx.cell (j := 0) rfl
      have bx_1 := bx.cell (j := 1) rfl
      have bx_2 := bx.cell (j := 2) rfl
      have bx_3 := bx.cell (j := 3) rfl
      have bx_z := bx.frozen
      have bx_l := bx.lt
      have bR_0 := bR.cell (j := 0) rfl
      have bR_1 := bR.cell (j := 1) rfl
      have bR_2 := bR.cell (j := 2) rfl
      have bR_3 := bR.cell (j := 3) rfl
      have bR_z := bR.frozen
      have bR_l := bR.lt
      have bT_0 := bT.cell (j := 0) rfl
      have bT_1 := bT.cell (j := 1) rfl
      have bT_z := bT.frozen
      have bT_l := bT.lt
      go_simp
      clear bx_0 bx_1 bx_2 bx_3 bx_z bx_l bR_0 bR_1 bR_2 bR_3 bR_z bR_l bT_0 bT_1 bT_z bT_l
      generalize hwz : World.setCell (World.setCell _ _ _) _ _ = wz_
      obtain rfl : wz_ = setL w7 (g7) 0 [.slice A5 n5 d5, .slice A6 n6 d6] := hwz.symm
      clear hwz
      replace bx := bx.other (b := g7) (by omega) 0 [.slice A5 n5 d5, .slice A6 n6 d6]
      replace bR := bR.other (b := g7) (by omega) 0 [.slice A5 n5 d5, .slice A6 n6 d6]
      replace ht := ht.away (g := g7) (by omega) 0 [.slice A5 n5 d5, .slice A6 n6 d6]
      replace hs := hs.away (g := g7) (by omega) 0 [.slice A5 n5 d5, .slice A6 n6 d6]
      replace hw := hw.away (g := g7) (by omega) 0 [.slice A5 n5 d5, .slice A6 n6 d6]
      replace o5 := o5.box (g := g7) bT (by decide) 0 [.slice A5 n5 d5, .slice A6 n6 d6]
      replace o6 := o6.box (g := g7) bT (by decide) 0 [.slice A5 n5 d5, .slice A6 n6 d6]
      replace bC := setL_below bC [.slice A5 n5 d5, .slice A6 n6 d6] (g7) 0 (by omega)
      have zs_10 : (setL w7 (g7) 0 [.slice A5 n5 d5, .slice A6 n6 d6]).heap.size = w7.heap.size := setL_size _ _ _ _
      replace bT := bT.setAll [.slice A5 n5 d5, .slice A6 n6 d6] rfl
      generalize setL w7 _ 0 _ = w10 at *
      refine hK9.out _ _ ⟨bx, ht⟩ (fun _ => ?_)
      refine wpAnyH_ready (rs := [13]) (by kernel_rfl) (by decide) ?_
      refine AllReadyH.cons rfl (fun K11 hK11 => ?_) AllReadyH.nil
      go_simp
      refine hK11.out _ _ ⟨bx, ht⟩ (fun _ => ?_)
      refine ⟨by kernel_rfl, ?_⟩
      have bx_0 := bx.cell (j := 0) rfl
      have bx_1 := bx.cell (j := 1) rfl
      have bx_2 := bx.cell (j := 2) rfl
      have bx_3 := bx.cell (j := 3) rfl
      have bx_z := bx.frozen
      have bx_l := bx.lt
      have bR_0 := bR.cell (j := 0) rfl
      have bR_1 := bR.cell (j := 1) rfl
      have bR_2 := bR.cell (j := 2) rfl
      have bR_3 := bR.cell (j := 3) rfl
      have bR_z := bR.frozen
      have bR_l := bR.lt
      have bT_0 := bT.cell (j := 0) rfl
      have bT_1 := bT.cell (j := 1) rfl
      have bT_z := bT.frozen
      have bT_l := bT.lt
      go_wp2_with fail
      clear bx_0 bx_1 bx_2 bx_3 bx_z bx_l bR_0 bR_1 bR_2 bR_3 bR_z bR_l bT_0 bT_1 bT_z bT_l
      go_meet
      exact ⟨_, _, _, _, rfl, rfl, rfl, bC, by omega, bT, o5.mono (by omega) (by omega), o6.mono (by omega) (by omega)⟩
    · go_simp
      have b_4 := (Below.refl w1.heap.size w1).alloc (Nat.le_refl _) (.cells #[.slice none 0 0, .slice none 0 0] 28)
      have bT := Box.new w1 #[.slice none 0 0, .slice none 0 0] 28 rfl
      replace bx := bx.below b_4 bx.lt
      replace bR := bR.below b_4 bR.lt
      replace ht := ht.below b_4 (by omega)
      replace hs := hs.below b_4 (by omega)
      replace hw := hw.below b_4 (by omega)
      have z_5 := b_4.size
      replace bC := bC.trans (b_4.mono (by omega))
      clear b_4
      generalize w1.alloc _ = w4 at *
      generalize w1.heap.size = g4 at *
      refine hK3b.out _ _ ⟨bx, ht⟩ (fun _ => ?_)
      refine wpAnyH_ready (rs := [7]) (by kernel_rfl) (by decide) ?_
      refine AllReadyH.cons rfl (fun K6 hK6 => ?_) AllReadyH.nil
      go_simp
      refine (implEndQ_in _ _ ls lw x w4 hs hw (by omega) (by omega) HP.out).mono ?_; rintro q_ w7 ⟨v5, v6, rfl, o5, o6, b_7⟩
      replace bx := bx.below b_7 bx.lt
      replace bR := bR.below b_7 bR.lt
      replace bT := bT.below b_7 bT.lt
      replace ht := ht.below b_7 (by omega)
      replace hs := hs.below b_7 (by omega)
      replace hw := hw.below b_7 (by omega)
      have z_8 := b_7.size
      replace bC := bC.trans (b_7.mono (by omega))
      clear b_7
      obtain ⟨A5, n5, d5, rfl, _, _, _⟩ := o5.rd.form
      obtain ⟨A6, n6, d6, rfl, _, _, _⟩ := o6.rd.form
      refine hK6.out _ _ ⟨bx, ht⟩ (fun _ => ?_)
      have hHeld : (fun (W : World) => Box W (w.heap.size) 30 [.int .i64 m, .slice (some ⟨b, off, none⟩) nt dt, .slice A0 n0 d0, .slice A1 n1 d1] ∧ Rd Nm.cells 1 W lo3 hi3 (.slice (some ⟨b, off, none⟩) nt dt) st) w7 := ⟨bx, ht⟩
      refine wpAnyH_take (i := 8) (v := .tuple #[.agg #[.slice A5 n5 d5, .slice A6 n6 d6], .bool (Sl.endOk ls x)]) rfl (by kernel_rfl) (by kernel_rfl) (by kernel_rfl) (fun _ _ _ h => h) (Or.inl ⟨by rfl, by intro w hSw; obtain ⟨hS0, hS1⟩ := hSw; have y00 := hS0.cell (j := 0) rfl; have y01 := hS0.cell (j := 1) rfl; have y02 := hS0.cell (j := 2) rfl; have y03 := hS0.cell (j := 3) rfl; have yx := Nm.at_ hS1 HX.out; go_simp⟩) hHeld ?_
      refine wpAnyH_take (i := 9) (v := .agg #[.slice A5 n5 d5, .slice A6 n6 d6]) rfl (by kernel_rfl) (by kernel_rfl) (by kernel_rfl) (fun _ _ _ h => h) (Or.inl ⟨by rfl, by intro w hSw; obtain ⟨hS0, hS1⟩ := hSw; have y00 := hS0.cell (j := 0) rfl; have y01 := hS0.cell (j := 1) rfl; have y02 := hS0.cell (j := 2) rfl; have y03 := hS0.cell (j := 3) rfl; have yx := Nm.at_ hS1 HX.out; go_simp⟩) hHeld ?_
      refine wpAnyH_take (i := 10) (v := .bool (Sl.endOk ls x)) rfl (by kernel_rfl) (by kernel_rfl) (by kernel_rfl) (fun _ _ _ h => h) (Or.inl ⟨by rfl, by intro w hSw; obtain ⟨hS0, hS1⟩ := hSw; have y00 := hS0.cell (j := 0) rfl; have y01 := hS0.cell (j := 1) rfl; have y02 := hS0.cell (j := 2) rfl; have y03 := hS0.cell (j := 3) rfl; have yx := Nm.at_ hS1 HX.out; go_simp⟩) hHeld ?_
      clear hHeld
      refine wpAnyH_ready (rs := [12]) (by kernel_rfl) (by decide) ?_
      refine AllReadyH.cons rfl (fun K9 hK9 => ?_) AllReadyH.nil
      have bx_0 := bx.cell (j := 0) rfl
      have bx_1 := bx.cell (j := 1) rfl
      have bx_2 := bx.cell (j := 2) rfl
      have bx_3 := bx.cell (j := 3) rfl
      have bx_z := bx.frozen
      have bx_l := bx.lt
      have bR_0 := bR.cell (j := 0) rfl
      have bR_1 := bR.cell (j := 1) rfl
      have bR_2 := bR.cell (j := 2) rfl
      have bR_3 := bR.cell (j := 3) rfl
      have bR_z := bR.frozen
      have bR_l := bR.lt
      have bT_0 := bT.cell (j := 0) rfl
      have bT_1 := bT.cell (j := 1) rfl
      have bT_z := bT.frozen
      have bT_l := bT.lt
      go_simp
      clear bx_0 bx_1 bx_2 bx_3 bx_z bx_l bR_0 bR_1 bR_2 bR_3 bR_z bR_l bT_0 bT_1 bT_z bT_l
      generalize hwz : World.setCell (World.setCell _ _ _) _ _ = wz_
      obtain rfl : wz_ = setL w7 (g4) 0 [.slice A5 n5 d5, .slice A6 n6 d6] := hwz.symm
      clear hwz
      replace bx := bx.other (b := g4) (by omega) 0 [.slice A5 n5 d5, .slice A6 n6 d6]
      replace bR := bR.other (b := g4) (by omega) 0 [.slice A5 n5 d5, .slice A6 n6 d6]
      replace ht := ht.away (g := g4) (by omega) 0 [.slice A5 n5 d5, .slice A6 n6 d6]
      replace hs := hs.away (g := g4) (by omega) 0 [.slice A5 n5 d5, .slice A6 n6 d6]
      replace hw := hw.away (g := g4) (by omega) 0 [.slice A5 n5 d5, .slice A6 n6 d6]
      replace o5 := o5.box (g := g4) bT (by decide) 0 [.slice A5 n5 d5, .slice A6 n6 d6]
      replace o6 := o6.box (g := g4) bT (by decide) 0 [.slice A5 n5 d5, .slice A6 n6 d6]
      replace bC := setL_below bC [.slice A5 n5 d5, .slice A6 n6 d6] (g4) 0 (by omega)
      have zs_10 : (setL w7 (g4) 0 [.slice A5 n5 d5, .slice A6 n6 d6]).heap.size = w7.heap.size := setL_size _ _ _ _
      replace bT := bT.setAll [.slice A5 n5 d5, .slice A6 n6 d6] rfl
      generalize setL w7 _ 0 _ = w10 at *
      refine hK9.out _ _ ⟨bx, ht⟩ (fun _ => ?_)
      refine wpAnyH_ready (rs := [13]) (by kernel_rfl) (by decide) ?_
      refine AllReadyH.cons rfl (fun K11 hK11 => ?_) AllReadyH.nil
      go_simp
      refine hK11.out _ _ ⟨bx, ht⟩ (fun _ => ?_)
      refine ⟨by kernel_rfl, ?_⟩
      have bx_0 := bx.cell (j := 0) rfl
      have bx_1 := bx.cell (j := 1) rfl
      have bx_2 := bx.cell (j := 2) rfl
      have bx_3 := bx.cell (j := 3) rfl
      have bx_z := bx.frozen
      have bx_l := bx.lt
      have bR_0 := bR.cell (j := 0) rfl
      have bR_1 := bR.cell (j := 1) rfl
      have bR_2 := bR.cell (j := 2) rfl
      have bR_3 := bR.cell (j := 3) rfl
      have bR_z := bR.frozen
      have bR_l := bR.lt
      have bT_0 := bT.cell (j := 0) rfl
      have bT_1 := bT.cell (j := 1) rfl
      have bT_z := bT.frozen
      have bT_l := bT.lt
      go_wp2_with fail
      clear bx_0 bx_1 bx_2 bx_3 bx_z bx_l bR_0 bR_1 bR_2 bR_3 bR_z bR_l bT_0 bT_1 bT_z bT_l
      go_meet
      exact ⟨_, _, _, _, rfl, rfl, rfl, bC, by omega, bT, o5.mono (by omega) (by omega), o6.mono (by omega) (by omega)⟩
  case rest =>
      obtain ⟨wx, gT, v1, v2, rfl, rfl, rfl, bC, zT, bT, o5, o6⟩ := hcut
      replace bx := bx.below bC bx.lt
      replace bR := bR.below bC bR.lt
      replace ht := ht.below bC (by omega)
      replace hs := hs.below bC (by omega)
      replace hw := hw.below bC (by omega)
      have z_51 := bC.size
      replace b0 := b0.trans (bC.mono (by omega))
      clear bC
      obtain ⟨A5, n5, d5, rfl, _, _, _⟩ := o5.rd.form
      obtain ⟨A6, n6, d6, rfl, _, _, _⟩ := o6.rd.form
      have zTl := bT.lt
      have bx_0 := bx.cell (j := 0) rfl
      have bx_1 := bx.cell (j := 1) rfl
      have bx_2 := bx.cell (j := 2) rfl
      have bx_3 := bx.cell (j := 3) rfl
      have bx_z := bx.frozen
      have bx_l := bx.lt
      have bR_0 := bR.cell (j := 0) rfl
      have bR_1 := bR.cell (j := 1) rfl
      have bR_2 := bR.cell (j := 2) rfl
      have bR_3 := bR.cell (j := 3) rfl
      have bR_z := bR.frozen
      have bR_l := bR.lt
      have bT_0 := bT.cell (j := 0) rfl
      have bT_1 := bT.cell (j := 1) rfl
      have bT_z := bT.frozen
      have bT_l := bT.lt
      go_upto_region 5 with fail
      clear bx_0 bx_1 bx_2 bx_3 bx_z bx_l bR_0 bR_1 bR_2 bR_3 bR_z bR_l bT_0 bT_1 bT_z bT_l
      refine wp_region_held_drew (S := fun W => Box W (w.heap.size) 30 [.int .i64 m, .slice (some ⟨b, off, none⟩) nt dt, .slice A0 n0 d0, .slice A1 n1 d1] ∧ Box W (gT) 28 [.slice A5 n5 d5, .slice A6 n6 d6] ∧ Rd Nm.cells 1 W lo3 hi3 (.slice (some ⟨b, off, none⟩) nt dt) st) (by kernel_rfl) (show (fun (W : World) => Box W (w.heap.size) 30 [.int .i64 m, .slice (some ⟨b, off, none⟩) nt dt, .slice A0 n0 d0, .slice A1 n1 d1] ∧ Box W (gT) 28 [.slice A5 n5 d5, .slice A6 n6 d6] ∧ Rd Nm.cells 1 W lo3 hi3 (.slice (some ⟨b, off, none⟩) nt dt) st) wx.drew from ⟨bx, bT, ht.drew⟩) (fun hHeld => ?_)
      refine wpAnyH_take (i := 0) (v := .pointer (some ⟨w.heap.size, 0, none⟩)) rfl (by kernel_rfl) (by kernel_rfl) (by kernel_rfl) (fun _ _ _ h => h) (Or.inl ⟨by rfl, by intro w hSw; obtain ⟨hS0, hS1, hS2⟩ := hSw; have y00 := hS0.cell (j := 0) rfl; have y01 := hS0.cell (j := 1) rfl; have y02 := hS0.cell (j := 2) rfl; have y03 := hS0.cell (j := 3) rfl; have y10 := hS1.cell (j := 0) rfl; have y11 := hS1.cell (j := 1) rfl; have yx := Nm.at_ hS2 HX.out; go_simp⟩) hHeld ?_
      refine wpAnyH_take (i := 1) (v := .int .i64 m) rfl (by kernel_rfl) (by kernel_rfl) (by kernel_rfl) (fun _ _ _ h => h) (Or.inl ⟨by rfl, by intro w hSw; obtain ⟨hS0, hS1, hS2⟩ := hSw; have y00 := hS0.cell (j := 0) rfl; have y01 := hS0.cell (j := 1) rfl; have y02 := hS0.cell (j := 2) rfl; have y03 := hS0.cell (j := 3) rfl; have y10 := hS1.cell (j := 0) rfl; have y11 := hS1.cell (j := 1) rfl; have yx := Nm.at_ hS2 HX.out; go_simp⟩) hHeld ?_
      refine wpAnyH_take (i := 2) (v := .pointer (some ⟨w.heap.size, 1, none⟩)) rfl (by kernel_rfl) (by kernel_rfl) (by kernel_rfl) (fun _ _ _ h => h) (Or.inl ⟨by rfl, by intro w hSw; obtain ⟨hS0, hS1, hS2⟩ := hSw; have y00 := hS0.cell (j := 0) rfl; have y01 := hS0.cell (j := 1) rfl; have y02 := hS0.cell (j := 2) rfl; have y03 := hS0.cell (j := 3) rfl; have y10 := hS1.cell (j := 0) rfl; have y11 := hS1.cell (j := 1) rfl; have yx := Nm.at_ hS2 HX.out; go_simp⟩) hHeld ?_
      refine wpAnyH_take (i := 3) (v := .slice (some ⟨b, off, none⟩) nt dt) rfl (by kernel_rfl) (by kernel_rfl) (by kernel_rfl) (fun _ _ _ h => h) (Or.inl ⟨by rfl, by intro w hSw; obtain ⟨hS0, hS1, hS2⟩ := hSw; have y00 := hS0.cell (j := 0) rfl; have y01 := hS0.cell (j := 1) rfl; have y02 := hS0.cell (j := 2) rfl; have y03 := hS0.cell (j := 3) rfl; have y10 := hS1.cell (j := 0) rfl; have y11 := hS1.cell (j := 1) rfl; have yx := Nm.at_ hS2 HX.out; go_simp⟩) hHeld ?_
      refine wpAnyH_take (i := 4) (v := .int .i64 j) rfl (by kernel_rfl) (by kernel_rfl) (by kernel_rfl) (fun _ _ _ h => h) (Or.inl ⟨by rfl, by intro w hSw; obtain ⟨hS0, hS1, hS2⟩ := hSw; have y00 := hS0.cell (j := 0) rfl; have y01 := hS0.cell (j := 1) rfl; have y02 := hS0.cell (j := 2) rfl; have y03 := hS0.cell (j := 3) rfl; have y10 := hS1.cell (j := 0) rfl; have y11 := hS1.cell (j := 1) rfl; have yx := Nm.at_ hS2 HX.out; go_simp⟩) hHeld ?_
      refine wpAnyH_take (i := 5) (v := .slice (some ⟨b, off, none⟩) j dt) rfl (by kernel_rfl) (by kernel_rfl) (by kernel_rfl) (fun _ _ _ h => h) (Or.inl ⟨by rfl, by intro w hSw; obtain ⟨hS0, hS1, hS2⟩ := hSw; have y00 := hS0.cell (j := 0) rfl; have y01 := hS0.cell (j := 1) rfl; have y02 := hS0.cell (j := 2) rfl; have y03 := hS0.cell (j := 3) rfl; have y10 := hS1.cell (j := 0) rfl; have y11 := hS1.cell (j := 1) rfl; have yx := Nm.at_ hS2 HX.out; go_simp⟩) hHeld ?_
      refine wpAnyH_take (i := 7) (v := .agg #[.slice A5 n5 d5, .slice A6 n6 d6]) rfl (by kernel_rfl) (by kernel_rfl) (by kernel_rfl) (fun _ _ _ h => h) (Or.inl ⟨by rfl, by intro w hSw; obtain ⟨hS0, hS1, hS2⟩ := hSw; have y00 := hS0.cell (j := 0) rfl; have y01 := hS0.cell (j := 1) rfl; have y02 := hS0.cell (j := 2) rfl; have y03 := hS0.cell (j := 3) rfl; have y10 := hS1.cell (j := 0) rfl; have y11 := hS1.cell (j := 1) rfl; have yx := Nm.at_ hS2 HX.out; go_simp⟩) hHeld ?_
      refine wpAnyH_take (i := 9) (v := .pointer (some ⟨w.heap.size, 1, none⟩)) rfl (by kernel_rfl) (by kernel_rfl) (by kernel_rfl) (fun _ _ _ h => h) (Or.inl ⟨by rfl, by intro w hSw; obtain ⟨hS0, hS1, hS2⟩ := hSw; have y00 := hS0.cell (j := 0) rfl; have y01 := hS0.cell (j := 1) rfl; have y02 := hS0.cell (j := 2) rfl; have y03 := hS0.cell (j := 3) rfl; have y10 := hS1.cell (j := 0) rfl; have y11 := hS1.cell (j := 1) rfl; have yx := Nm.at_ hS2 HX.out; go_simp⟩) hHeld ?_
      refine wpAnyH_take (i := 10) (v := .slice (some ⟨b, off, none⟩) nt dt) rfl (by kernel_rfl) (by kernel_rfl) (by kernel_rfl) (fun _ _ _ h => h) (Or.inl ⟨by rfl, by intro w hSw; obtain ⟨hS0, hS1, hS2⟩ := hSw; have y00 := hS0.cell (j := 0) rfl; have y01 := hS0.cell (j := 1) rfl; have y02 := hS0.cell (j := 2) rfl; have y03 := hS0.cell (j := 3) rfl; have y10 := hS1.cell (j := 0) rfl; have y11 := hS1.cell (j := 1) rfl; have yx := Nm.at_ hS2 HX.out; go_simp⟩) hHeld ?_
      refine wpAnyH_take (i := 11) (v := .int .i64 j) rfl (by kernel_rfl) (by kernel_rfl) (by kernel_rfl) (fun _ _ _ h => h) (Or.inl ⟨by rfl, by intro w hSw; obtain ⟨hS0, hS1, hS2⟩ := hSw; have y00 := hS0.cell (j := 0) rfl; have y01 := hS0.cell (j := 1) rfl; have y02 := hS0.cell (j := 2) rfl; have y03 := hS0.cell (j := 3) rfl; have y10 := hS1.cell (j := 0) rfl; have y11 := hS1.cell (j := 1) rfl; have yx := Nm.at_ hS2 HX.out; go_simp⟩) hHeld ?_
      refine wpAnyH_take (i := 12) (v := .pointer (some ⟨b, off + j, none⟩)) rfl (by kernel_rfl) (by kernel_rfl) (by kernel_rfl) (fun _ _ _ h => h) (Or.inl ⟨by rfl, by intro w hSw; obtain ⟨hS0, hS1, hS2⟩ := hSw; have y00 := hS0.cell (j := 0) rfl; have y01 := hS0.cell (j := 1) rfl; have y02 := hS0.cell (j := 2) rfl; have y03 := hS0.cell (j := 3) rfl; have y10 := hS1.cell (j := 0) rfl; have y11 := hS1.cell (j := 1) rfl; have yx := Nm.at_ hS2 HX.out; go_simp⟩) hHeld ?_
      refine wpAnyH_take (i := 13) (v := .int .i64 x) rfl (by kernel_rfl) (by kernel_rfl) (by kernel_rfl) (fun _ _ _ h => h) (Or.inl ⟨by rfl, by intro w hSw; obtain ⟨hS0, hS1, hS2⟩ := hSw; have y00 := hS0.cell (j := 0) rfl; have y01 := hS0.cell (j := 1) rfl; have y02 := hS0.cell (j := 2) rfl; have y03 := hS0.cell (j := 3) rfl; have y10 := hS1.cell (j := 0) rfl; have y11 := hS1.cell (j := 1) rfl; have yx := Nm.at_ hS2 HX.out; go_simp⟩) hHeld ?_
      clear hHeld
      refine held_gen (F := fun W' => Below wx.heap.size wx W') (Below.refl wx.heap.size wx).drew ?_
      rintro w52 b_52
      replace bx := bx.below b_52 bx.lt
      replace bR := bR.below b_52 bR.lt
      replace bT := bT.below b_52 bT.lt
      replace ht := ht.below b_52 (by omega)
      replace hs := hs.below b_52 (by omega)
      replace hw := hw.below b_52 (by omega)
      replace o5 := o5.below b_52 (by omega)
      replace o6 := o6.below b_52 (by omega)
      have z_53 := b_52.size
      replace b0 := b0.trans (b_52.mono (by omega))
      clear b_52
      refine wpAnyH_ready (rs := [6]) (by kernel_rfl) (by decide) ?_
      refine AllReadyH.cons rfl (fun K54 hK54 => ?_) AllReadyH.nil
      go_simp
      refine (copyInts_any _ (st.take j) w52 (ht.take_ hjnn) (by omega) hjl2).mono ?_; rintro q_ w55 ⟨v3, rfl, o3, b_55⟩
      replace bx := bx.below b_55 bx.lt
      replace bR := bR.below b_55 bR.lt
      replace bT := bT.below b_55 bT.lt
      replace ht := ht.below b_55 (by omega)
      replace hs := hs.below b_55 (by omega)
      replace hw := hw.below b_55 (by omega)
      replace o5 := o5.below b_55 (by omega)
      replace o6 := o6.below b_55 (by omega)
      have z_56 := b_55.size
      replace b0 := b0.trans (b_55.mono (by omega))
      clear b_55
      obtain ⟨A3, n3, d3, rfl, _, _, _⟩ := o3.rd.form
      refine hK54.out _ _ ⟨bx, bT, ht⟩ (fun _ => ?_)
      have hHeld : (fun (W : World) => Box W (w.heap.size) 30 [.int .i64 m, .slice (some ⟨b, off, none⟩) nt dt, .slice A0 n0 d0, .slice A1 n1 d1] ∧ Box W (gT) 28 [.slice A5 n5 d5, .slice A6 n6 d6] ∧ Rd Nm.cells 1 W lo3 hi3 (.slice (some ⟨b, off, none⟩) nt dt) st) w55 := ⟨bx, bT, ht⟩
      refine wpAnyH_take (i := 8) (v := .agg #[.int .i64 m, .slice A3 n3 d3, .slice A5 n5 d5, .slice A6 n6 d6]) rfl (by kernel_rfl) (by kernel_rfl) (by kernel_rfl) (fun _ _ _ h => h) (Or.inl ⟨by rfl, by intro w hSw; obtain ⟨hS0, hS1, hS2⟩ := hSw; have y00 := hS0.cell (j := 0) rfl; have y01 := hS0.cell (j := 1) rfl; have y02 := hS0.cell (j := 2) rfl; have y03 := hS0.cell (j := 3) rfl; have y10 := hS1.cell (j := 0) rfl; have y11 := hS1.cell (j := 1) rfl; have yx := Nm.at_ hS2 HX.out; go_simp⟩) hHeld ?_
      clear hHeld
      refine wpAnyH_ready (rs := [14]) (by kernel_rfl) (by decide) ?_
      refine AllReadyH.cons rfl (fun K57 hK57 => ?_) AllReadyH.nil
      have bx_0 := bx.cell (j := 0) rfl
      have bx_1 := bx.cell (j := 1) rfl
      have bx_2 := bx.cell (j := 2) rfl
      have bx_3 := bx.cell (j := 3) rfl
      have bx_z := bx.frozen
      have bx_l := bx.lt
      have bR_0 := bR.cell (j := 0) rfl
      have bR_1 := bR.cell (j := 1) rfl
      have bR_2 := bR.cell (j := 2) rfl
      have bR_3 := bR.cell (j := 3) rfl
      have bR_z := bR.frozen
      have bR_l := bR.lt
      have bT_0 := bT.cell (j := 0) rfl
      have bT_1 := bT.cell (j := 1) rfl
      have bT_z := bT.frozen
      have bT_l := bT.lt
      go_simp
      clear bx_0 bx_1 bx_2 bx_3 bx_z bx_l bR_0 bR_1 bR_2 bR_3 bR_z bR_l bT_0 bT_1 bT_z bT_l
      generalize hwz : World.setCell (World.setCell (World.setCell (World.setCell _ _ _) _ _) _ _) _ _ = wz_
      obtain rfl : wz_ = setL w55 (w.heap.size + 1) 0 [.int .i64 m, .slice A3 n3 d3, .slice A5 n5 d5, .slice A6 n6 d6] := hwz.symm
      clear hwz
      replace bx := bx.other (b := w.heap.size + 1) (by omega) 0 [.int .i64 m, .slice A3 n3 d3, .slice A5 n5 d5, .slice A6 n6 d6]
      replace bT := bT.other (b := w.heap.size + 1) (by omega) 0 [.int .i64 m, .slice A3 n3 d3, .slice A5 n5 d5, .slice A6 n6 d6]
      replace ht := ht.away (g := w.heap.size + 1) (by omega) 0 [.int .i64 m, .slice A3 n3 d3, .slice A5 n5 d5, .slice A6 n6 d6]
      replace hs := hs.away (g := w.heap.size + 1) (by omega) 0 [.int .i64 m, .slice A3 n3 d3, .slice A5 n5 d5, .slice A6 n6 d6]
      replace hw := hw.away (g := w.heap.size + 1) (by omega) 0 [.int .i64 m, .slice A3 n3 d3, .slice A5 n5 d5, .slice A6 n6 d6]
      replace o5 := o5.box (g := w.heap.size + 1) bR (by decide) 0 [.int .i64 m, .slice A3 n3 d3, .slice A5 n5 d5, .slice A6 n6 d6]
      replace o6 := o6.box (g := w.heap.size + 1) bR (by decide) 0 [.int .i64 m, .slice A3 n3 d3, .slice A5 n5 d5, .slice A6 n6 d6]
      replace o3 := o3.box (g := w.heap.size + 1) bR (by decide) 0 [.int .i64 m, .slice A3 n3 d3, .slice A5 n5 d5, .slice A6 n6 d6]
      replace b0 := setL_below b0 [.int .i64 m, .slice A3 n3 d3, .slice A5 n5 d5, .slice A6 n6 d6] (w.heap.size + 1) 0 (by omega)
      have zs_58 : (setL w55 (w.heap.size + 1) 0 [.int .i64 m, .slice A3 n3 d3, .slice A5 n5 d5, .slice A6 n6 d6]).heap.size = w55.heap.size := setL_size _ _ _ _
      replace bR := bR.setAll [.int .i64 m, .slice A3 n3 d3, .slice A5 n5 d5, .slice A6 n6 d6] rfl
      generalize setL w55 _ 0 _ = w58 at *
      refine hK57.out _ _ ⟨bx, bT, ht⟩ (fun _ => ?_)
      refine wpAnyH_ready (rs := [15]) (by kernel_rfl) (by decide) ?_
      refine AllReadyH.cons rfl (fun K59 hK59 => ?_) AllReadyH.nil
      go_simp
      refine hK59.out _ _ ⟨bx, bT, ht⟩ (fun _ => ?_)
      refine wpAnyH_ready (rs := [16]) (by kernel_rfl) (by decide) ?_
      refine AllReadyH.cons rfl (fun K60 hK60 => ?_) AllReadyH.nil
      go_simp
      refine hK60.out _ _ ⟨bx, bT, ht⟩ (fun _ => ?_)
      refine ⟨by kernel_rfl, ?_⟩
      have bx_0 := bx.cell (j := 0) rfl
      have bx_1 := bx.cell (j := 1) rfl
      have bx_2 := bx.cell (j := 2) rfl
      have bx_3 := bx.cell (j := 3) rfl
      have bx_z := bx.frozen
      have bx_l := bx.lt
      have bR_0 := bR.cell (j := 0) rfl
      have bR_1 := bR.cell (j := 1) rfl
      have bR_2 := bR.cell (j := 2) rfl
      have bR_3 := bR.cell (j := 3) rfl
      have bR_z := bR.frozen
      have bR_l := bR.lt
      have bT_0 := bT.cell (j := 0) rfl
      have bT_1 := bT.cell (j := 1) rfl
      have bT_z := bT.frozen
      have bT_l := bT.lt
      go_wp2_with fail
      clear bx_0 bx_1 bx_2 bx_3 bx_z bx_l bR_0 bR_1 bR_2 bR_3 bR_z bR_l bT_0 bT_1 bT_z bT_l
      have u0_ := bR.cell (j := 0) rfl
      have u1_ := bR.cell (j := 1) rfl
      have u2_ := bR.cell (j := 2) rfl
      have u3_ := bR.cell (j := 3) rfl
      refine bodyPost_ret (by simp only [results, Tryz.results46]; simp [go_sem, u0_, u1_, u2_, u3_]; rfl) rfl ?_
      exact ⟨_, _, _, rfl, o3.mono (by omega) (by omega), by rw [← HE.out.1]; exact o5.mono (by omega) (by omega), by rw [← HE.out.2]; exact o6.mono (by omega) (by omega), b0⟩
set_option maxHeartbeats 2000000 in
theorem specLeaveIrq_any (m : Int) (vt vs vw : Value) (st : List Int) (ls : List Sl) (lw : List Wt) (w : World) {lo hi lo2 hi2 lo3 hi3 : Nat} (h0 : Rd Nm.cells 1 w lo3 hi3 vt st) (h : Rd Sl.cells 3 w lo hi vs ls) (h2 : Rd Wt.cells 2 w lo2 hi2 vw lw) (hh0 : hi3 ≤ w.heap.size) (hh : hi ≤ w.heap.size) (hh2 : hi2 ≤ w.heap.size) (hl : st.length ≤ 1048576) :
    Calls Tryz.prog 19 #[.agg #[.int .i64 m, vt, vs, vw]] w fun e w' => ∃ v0 v1 v2, e = .returned (.tuple #[.agg #[.int .i64 (Fa.lvM m st ls lw), v0, v1, v2], .int .i64 (Fa.lvI m st ls lw), .bool (Fa.lvOk m st ls lw)]) ∧ Ow Nm.cells 1 3 w' w.heap.size w'.heap.size v0 (Fa.lvT m st ls lw) ∧ Ow Sl.cells 3 93 w' w.heap.size w'.heap.size v1 (Fa.lvS m st ls lw) ∧ Ow Wt.cells 2 107 w' w.heap.size w'.heap.size v2 (Fa.lvW m st ls lw) ∧ Below w.heap.size w w' := by
  have b0 : Below w.heap.size w ((w.alloc (.cells #[.int .i64 m, vt, vs, vw] 30)).alloc (.cells #[.int .i64 0, .slice none 0 0, .slice none 0 0, .slice none 0 0] 30)) := ((Below.refl w.heap.size w).alloc (Nat.le_refl _) _).alloc (by simp) _
  have z0 : ((w.alloc (.cells #[.int .i64 m, vt, vs, vw] 30)).alloc (.cells #[.int .i64 0, .slice none 0 0, .slice none 0 0, .slice none 0 0] 30)).heap.size = w.heap.size + 2 := by simp
  have bx := Box.new w #[.int .i64 m, vt, vs, vw] 30 rfl
  have bR := Box.new (g := w.heap.size + 1) (w.alloc (.cells #[.int .i64 m, vt, vs, vw] 30)) #[.int .i64 0, .slice none 0 0, .slice none 0 0, .slice none 0 0] 30 (by simp)
  replace bx := bx.below ((Below.refl _ (w.alloc (.cells #[.int .i64 m, vt, vs, vw] 30))).alloc (Nat.le_refl _) (.cells #[.int .i64 0, .slice none 0 0, .slice none 0 0, .slice none 0 0] 30)) bx.lt
  have ht := h0.below b0 hh0
  have hs := h.below b0 hh
  have hw := h2.below b0 hh2
  have hv0_ := h0.form
  have hv_ := h.form
  have hv2_ := h2.form
  clear h0 h h2
  generalize hwA : (w.alloc (.cells #[.int .i64 m, vt, vs, vw] 30)).alloc (.cells #[.int .i64 0, .slice none 0 0, .slice none 0 0, .slice none 0 0] 30) = wA at *
  obtain ⟨At, nt, dt, rfl, _, _, _⟩ := hv0_
  obtain ⟨A0, n0, d0, rfl, _, _, _⟩ := hv_
  obtain ⟨A1, n1, d1, rfl, _, _, _⟩ := hv2_
  have c1 := l10Good_any m _ _ _ st ls lw wA ht hs hw (by omega) (by omega) (by omega)
  cases hg : Fa.good m st ls lw
  · have HF := Lib.hid (Fa.lv_no (m := m) (st := st) (ls := ls) (lw := lw) (by simp [Fa.lvOk, hg]))
    rw [hg] at c1
    clear hg
    go_enter Tryz.func19, Tryz.ntmps19
    have bx_0 := bx.cell (j := 0) rfl
    have bx_1 := bx.cell (j := 1) rfl
    have bx_2 := bx.cell (j := 2) rfl
    have bx_3 := bx.cell (j := 3) rfl
    have bx_z := bx.frozen
    have bx_l := bx.lt
    have bR_0 := bR.cell (j := 0) rfl
    have bR_1 := bR.cell (j := 1) rfl
    have bR_2 := bR.cell (j := 2) rfl
    have bR_3 := bR.cell (j := 3) rfl
    have bR_z := bR.frozen
    have bR_l := bR.lt
    go_wp2_with fail
    clear hwA
    clear bx_0 bx_1 bx_2 bx_3 bx_z bx_l bR_0 bR_1 bR_2 bR_3 bR_z bR_l
    refine (c1).mono ?_; rintro q_ w1 ⟨rfl, b_1⟩
    replace bx := bx.below b_1 bx.lt
    replace bR := bR.below b_1 bR.lt
    replace ht := ht.below b_1 (by omega)
    replace hs := hs.below b_1 (by omega)
    replace hw := hw.below b_1 (by omega)
    have z_2 := b_1.size
    replace b0 := b0.trans (b_1.mono (by omega))
    clear b_1
    have bx_0 := bx.cell (j := 0) rfl
    have bx_1 := bx.cell (j := 1) rfl
    have bx_2 := bx.cell (j := 2) rfl
    have bx_3 := bx.cell (j := 3) rfl
    have bx_z := bx.frozen
    have bx_l := bx.lt
    have bR_0 := bR.cell (j := 0) rfl
    have bR_1 := bR.cell (j := 1) rfl
    have bR_2 := bR.cell (j := 2) rfl
    have bR_3 := bR.cell (j := 3) rfl
    have bR_z := bR.frozen
    have bR_l := bR.lt
    go_wp2_with fail
    clear bx_0 bx_1 bx_2 bx_3 bx_z bx_l bR_0 bR_1 bR_2 bR_3 bR_z bR_l
    generalize hwz : World.setCell (World.setCell (World.setCell (World.setCell _ _ _) _ _) _ _) _ _ = wz_
    obtain rfl : wz_ = setL w1 (w.heap.size + 1) 0 [.int .i64 0, .slice none 0 0, .slice none 0 0, .slice none 0 0] := hwz.symm
    clear hwz
    replace bx := bx.other (b := w.heap.size + 1) (by omega) 0 [.int .i64 0, .slice none 0 0, .slice none 0 0, .slice none 0 0]
    replace ht := ht.away (g := w.heap.size + 1) (by omega) 0 [.int .i64 0, .slice none 0 0, .slice none 0 0, .slice none 0 0]
    replace hs := hs.away (g := w.heap.size + 1) (by omega) 0 [.int .i64 0, .slice none 0 0, .slice none 0 0, .slice none 0 0]
    replace hw := hw.away (g := w.heap.size + 1) (by omega) 0 [.int .i64 0, .slice none 0 0, .slice none 0 0, .slice none 0 0]
    replace b0 := setL_below b0 [.int .i64 0, .slice none 0 0, .slice none 0 0, .slice none 0 0] (w.heap.size + 1) 0 (by omega)
    have zs_3 : (setL w1 (w.heap.size + 1) 0 [.int .i64 0, .slice none 0 0, .slice none 0 0, .slice none 0 0]).heap.size = w1.heap.size := setL_size _ _ _ _
    replace bR := bR.setAll [.int .i64 0, .slice none 0 0, .slice none 0 0, .slice none 0 0] rfl
    generalize setL w1 _ 0 _ = w3 at *
    have u0_ := bR.cell (j := 0) rfl
    have u1_ := bR.cell (j := 1) rfl
    have u2_ := bR.cell (j := 2) rfl
    have u3_ := bR.cell (j := 3) rfl
    refine bodyPost_ret (by simp only [results, Tryz.results19]; simp [go_sem, u0_, u1_, u2_, u3_]; rfl) rfl ?_
    exact ⟨_, _, _, by rw [HF.out.1, HF.out.2.1, HF.out.2.2.1], by rw [HF.out.2.2.2.1]; exact Ow.nil_, by rw [HF.out.2.2.2.2.1]; exact Ow.nil_, by rw [HF.out.2.2.2.2.2]; exact Ow.nil_, b0⟩
  · rcases Nat.eq_zero_or_pos st.length with hz | hz
    · have HF := Lib.hid (Fa.lv_no (m := m) (st := st) (ls := ls) (lw := lw) (by simp [Fa.lvOk, hz]))
      obtain rfl : st = [] := List.eq_nil_of_length_eq_zero hz
      obtain ⟨rfl⟩ : nt = 0 := by have := ht.n_eq.1; simpa using this
      rw [hg] at c1
      clear hg hz
      go_enter Tryz.func19, Tryz.ntmps19
      have bx_0 := bx.cell (j := 0) rfl
      have bx_1 := bx.cell (j := 1) rfl
      have bx_2 := bx.cell (j := 2) rfl
      have bx_3 := bx.cell (j := 3) rfl
      have bx_z := bx.frozen
      have bx_l := bx.lt
      have bR_0 := bR.cell (j := 0) rfl
      have bR_1 := bR.cell (j := 1) rfl
      have bR_2 := bR.cell (j := 2) rfl
      have bR_3 := bR.cell (j := 3) rfl
      have bR_z := bR.frozen
      have bR_l := bR.lt
      go_wp2_with fail
      clear hwA
      clear bx_0 bx_1 bx_2 bx_3 bx_z bx_l bR_0 bR_1 bR_2 bR_3 bR_z bR_l
      refine (c1).mono ?_; rintro q_ w1 ⟨rfl, b_1⟩
      replace bx := bx.below b_1 bx.lt
      replace bR := bR.below b_1 bR.lt
      replace ht := ht.below b_1 (by omega)
      replace hs := hs.below b_1 (by omega)
      replace hw := hw.below b_1 (by omega)
      have z_2 := b_1.size
      replace b0 := b0.trans (b_1.mono (by omega))
      clear b_1
      have bx_0 := bx.cell (j := 0) rfl
      have bx_1 := bx.cell (j := 1) rfl
      have bx_2 := bx.cell (j := 2) rfl
      have bx_3 := bx.cell (j := 3) rfl
      have bx_z := bx.frozen
      have bx_l := bx.lt
      have bR_0 := bR.cell (j := 0) rfl
      have bR_1 := bR.cell (j := 1) rfl
      have bR_2 := bR.cell (j := 2) rfl
      have bR_3 := bR.cell (j := 3) rfl
      have bR_z := bR.frozen
      have bR_l := bR.lt
      go_wp2_with fail
      clear bx_0 bx_1 bx_2 bx_3 bx_z bx_l bR_0 bR_1 bR_2 bR_3 bR_z bR_l
      generalize hwz : World.setCell (World.setCell (World.setCell (World.setCell _ _ _) _ _) _ _) _ _ = wz_
      obtain rfl : wz_ = setL w1 (w.heap.size + 1) 0 [.int .i64 0, .slice none 0 0, .slice none 0 0, .slice none 0 0] := hwz.symm
      clear hwz
      replace bx := bx.other (b := w.heap.size + 1) (by omega) 0 [.int .i64 0, .slice none 0 0, .slice none 0 0, .slice none 0 0]
      replace ht := ht.away (g := w.heap.size + 1) (by omega) 0 [.int .i64 0, .slice none 0 0, .slice none 0 0, .slice none 0 0]
      replace hs := hs.away (g := w.heap.size + 1) (by omega) 0 [.int .i64 0, .slice none 0 0, .slice none 0 0, .slice none 0 0]
      replace hw := hw.away (g := w.heap.size + 1) (by omega) 0 [.int .i64 0, .slice none 0 0, .slice none 0 0, .slice none 0 0]
      replace b0 := setL_below b0 [.int .i64 0, .slice none 0 0, .slice none 0 0, .slice none 0 0] (w.heap.size + 1) 0 (by omega)
      have zs_3 : (setL w1 (w.heap.size + 1) 0 [.int .i64 0, .slice none 0 0, .slice none 0 0, .slice none 0 0]).heap.size = w1.heap.size := setL_size _ _ _ _
      replace bR := bR.setAll [.int .i64 0, .slice none 0 0, .slice none 0 0, .slice none 0 0] rfl
      generalize setL w1 _ 0 _ = w3 at *
      have u0_ := bR.cell (j := 0) rfl
      have u1_ := bR.cell (j := 1) rfl
      have u2_ := bR.cell (j := 2) rfl
      have u3_ := bR.cell (j := 3) rfl
      refine bodyPost_ret (by simp only [results, Tryz.results19]; simp [go_sem, u0_, u1_, u2_, u3_]; rfl) rfl ?_
      exact ⟨_, _, _, by rw [HF.out.1, HF.out.2.1, HF.out.2.2.1], by rw [HF.out.2.2.2.1]; exact Ow.nil_, by rw [HF.out.2.2.2.2.1]; exact Ow.nil_, by rw [HF.out.2.2.2.2.2]; exact Ow.nil_, b0⟩
    · obtain ⟨j, hj⟩ : ∃ j, j + 1 = st.length := ⟨st.length - 1, by omega⟩
      obtain ⟨x, hx⟩ : ∃ x, st[j]? = some x := ⟨_, List.getElem?_eq_getElem (show j < st.length by omega)⟩
      have HF := Lib.hid (Fa.lv_yes hg hj hx)
      have HX := Lib.hid hx
      have HJ := Lib.hid hj
      have HP := Lib.hid (Fa.good_parts hg)
      have HK := Lib.hid (Fa.lv_end hg hj hx).1
      have hnn := Nat.le_of_eq ht.n_eq.1.symm
      have hzd2 : ((nt : Int) == 0) = false := by rw [beq_eq_false_iff_ne]; omega
      rw [hg] at c1
      clear hg hz hj hx hnn
      go_enter Tryz.func19, Tryz.ntmps19
      have bx_0 := bx.cell (j := 0) rfl
      have bx_1 := bx.cell (j := 1) rfl
      have bx_2 := bx.cell (j := 2) rfl
      have bx_3 := bx.cell (j := 3) rfl
      have bx_z := bx.frozen
      have bx_l := bx.lt
      have bR_0 := bR.cell (j := 0) rfl
      have bR_1 := bR.cell (j := 1) rfl
      have bR_2 := bR.cell (j := 2) rfl
      have bR_3 := bR.cell (j := 3) rfl
      have bR_z := bR.frozen
      have bR_l := bR.lt
      go_wp2_with fail
      clear hwA
      clear bx_0 bx_1 bx_2 bx_3 bx_z bx_l bR_0 bR_1 bR_2 bR_3 bR_z bR_l
      refine (c1).mono ?_; rintro q_ w1 ⟨rfl, b_1⟩
      replace bx := bx.below b_1 bx.lt
      replace bR := bR.below b_1 bR.lt
      replace ht := ht.below b_1 (by omega)
      replace hs := hs.below b_1 (by omega)
      replace hw := hw.below b_1 (by omega)
      have z_2 := b_1.size
      replace b0 := b0.trans (b_1.mono (by omega))
      clear b_1
      have bx_0 := bx.cell (j := 0) rfl
      have bx_1 := bx.cell (j := 1) rfl
      have bx_2 := bx.cell (j := 2) rfl
      have bx_3 := bx.cell (j := 3) rfl
      have bx_z := bx.frozen
      have bx_l := bx.lt
      have bR_0 := bR.cell (j := 0) rfl
      have bR_1 := bR.cell (j := 1) rfl
      have bR_2 := bR.cell (j := 2) rfl
      have bR_3 := bR.cell (j := 3) rfl
      have bR_z := bR.frozen
      have bR_l := bR.lt
      go_wp2_with fail
      clear bx_0 bx_1 bx_2 bx_3 bx_z bx_l bR_0 bR_1 bR_2 bR_3 bR_z bR_l
      refine (specLeave_in m _ _ _ st ls lw w1 ht hs hw (by omega) (by omega) (by omega) hl HP.out HJ.out HX.out HK.out).mono ?_; rintro q_ w3 ⟨v3, v4, v5, rfl, o3, o4, o5, b_3⟩
      replace bx := bx.below b_3 bx.lt
      replace bR := bR.below b_3 bR.lt
      replace ht := ht.below b_3 (by omega)
      replace hs := hs.below b_3 (by omega)
      replace hw := hw.below b_3 (by omega)
      have z_4 := b_3.size
      replace b0 := b0.trans (b_3.mono (by omega))
      clear b_3
      obtain ⟨A3, n3, d3, rfl, _, _, _⟩ := o3.rd.form
      obtain ⟨A4, n4, d4, rfl, _, _, _⟩ := o4.rd.form
      obtain ⟨A5, n5, d5, rfl, _, _, _⟩ := o5.rd.form
      have bx_0 := bx.cell (j := 0) rfl
      have bx_1 := bx.cell (j := 1) rfl
      have bx_2 := bx.cell (j := 2) rfl
      have bx_3 := bx.cell (j := 3) rfl
      have bx_z := bx.frozen
      have bx_l := bx.lt
      have bR_0 := bR.cell (j := 0) rfl
      have bR_1 := bR.cell (j := 1) rfl
      have bR_2 := bR.cell (j := 2) rfl
      have bR_3 := bR.cell (j := 3) rfl
      have bR_z := bR.frozen
      have bR_l := bR.lt
      go_upto_region 4 with fail
      clear bx_0 bx_1 bx_2 bx_3 bx_z bx_l bR_0 bR_1 bR_2 bR_3 bR_z bR_l
      have b_5 := (Below.refl w3.heap.size w3).alloc (Nat.le_refl _) (.cells #[.int .i64 m, .slice A3 n3 d3, .slice A4 n4 d4, .slice A5 n5 d5] 30)
      have bL := Box.new w3 #[.int .i64 m, .slice A3 n3 d3, .slice A4 n4 d4, .slice A5 n5 d5] 30 rfl
      replace bx := bx.below b_5 bx.lt
      replace bR := bR.below b_5 bR.lt
      replace ht := ht.below b_5 (by omega)
      replace hs := hs.below b_5 (by omega)
      replace hw := hw.below b_5 (by omega)
      replace o3 := o3.below b_5 (by omega)
      replace o4 := o4.below b_5 (by omega)
      replace o5 := o5.below b_5 (by omega)
      have z_6 := b_5.size
      replace b0 := b0.trans (b_5.mono (by omega))
      clear b_5
      generalize w3.alloc _ = w5 at *
      generalize w3.heap.size = g5 at *
      have bx_0 := bx.cell (j := 0) rfl
      have bx_1 := bx.cell (j := 1) rfl
      have bx_2 := bx.cell (j := 2) rfl
      have bx_3 := bx.cell (j := 3) rfl
      have bx_z := bx.frozen
      have bx_l := bx.lt
      have bR_0 := bR.cell (j := 0) rfl
      have bR_1 := bR.cell (j := 1) rfl
      have bR_2 := bR.cell (j := 2) rfl
      have bR_3 := bR.cell (j := 3) rfl
      have bR_z := bR.frozen
      have bR_l := bR.lt
      have bL_0 := bL.cell (j := 0) rfl
      have bL_1 := bL.cell (j := 1) rfl
      have bL_2 := bL.cell (j := 2) rfl
      have bL_3 := bL.cell (j := 3) rfl
      have bL_z := bL.frozen
      have bL_l := bL.lt
      go_wp2_with fail
      clear bx_0 bx_1 bx_2 bx_3 bx_z bx_l bR_0 bR_1 bR_2 bR_3 bR_z bR_l bL_0 bL_1 bL_2 bL_3 bL_z bL_l
      generalize hwz : World.setCell (World.setCell (World.setCell (World.setCell _ _ _) _ _) _ _) _ _ = wz_
      obtain rfl : wz_ = setL w5 (w.heap.size + 1) 0 [.int .i64 m, .slice A3 n3 d3, .slice A4 n4 d4, .slice A5 n5 d5] := hwz.symm
      clear hwz
      replace bx := bx.other (b := w.heap.size + 1) (by omega) 0 [.int .i64 m, .slice A3 n3 d3, .slice A4 n4 d4, .slice A5 n5 d5]
      replace bL := bL.other (b := w.heap.size + 1) (by omega) 0 [.int .i64 m, .slice A3 n3 d3, .slice A4 n4 d4, .slice A5 n5 d5]
      replace ht := ht.away (g := w.heap.size + 1) (by omega) 0 [.int .i64 m, .slice A3 n3 d3, .slice A4 n4 d4, .slice A5 n5 d5]
      replace hs := hs.away (g := w.heap.size + 1) (by omega) 0 [.int .i64 m, .slice A3 n3 d3, .slice A4 n4 d4, .slice A5 n5 d5]
      replace hw := hw.away (g := w.heap.size + 1) (by omega) 0 [.int .i64 m, .slice A3 n3 d3, .slice A4 n4 d4, .slice A5 n5 d5]
      replace o3 := o3.box (g := w.heap.size + 1) bR (by decide) 0 [.int .i64 m, .slice A3 n3 d3, .slice A4 n4 d4, .slice A5 n5 d5]
      replace o4 := o4.box (g := w.heap.size + 1) bR (by decide) 0 [.int .i64 m, .slice A3 n3 d3, .slice A4 n4 d4, .slice A5 n5 d5]
      replace o5 := o5.box (g := w.heap.size + 1) bR (by decide) 0 [.int .i64 m, .slice A3 n3 d3, .slice A4 n4 d4, .slice A5 n5 d5]
      replace b0 := setL_below b0 [.int .i64 m, .slice A3 n3 d3, .slice A4 n4 d4, .slice A5 n5 d5] (w.heap.size + 1) 0 (by omega)
      have zs_7 : (setL w5 (w.heap.size + 1) 0 [.int .i64 m, .slice A3 n3 d3, .slice A4 n4 d4, .slice A5 n5 d5]).heap.size = w5.heap.size := setL_size _ _ _ _
      replace bR := bR.setAll [.int .i64 m, .slice A3 n3 d3, .slice A4 n4 d4, .slice A5 n5 d5] rfl
      generalize setL w5 _ 0 _ = w7 at *
      have u0_ := bR.cell (j := 0) rfl
      have u1_ := bR.cell (j := 1) rfl
      have u2_ := bR.cell (j := 2) rfl
      have u3_ := bR.cell (j := 3) rfl
      refine bodyPost_ret (by simp only [results, Tryz.results19]; simp [go_sem, u0_, u1_, u2_, u3_]; rfl) rfl ?_
      exact ⟨_, _, _, by rw [HF.out.1, HF.out.2.1, HF.out.2.2.1], by rw [HF.out.2.2.2.1]; exact o3.mono (by omega) (by omega), by rw [HF.out.2.2.2.2.1]; exact o4.mono (by omega) (by omega), by rw [HF.out.2.2.2.2.2]; exact o5.mono (by omega) (by omega), b0⟩
set_option maxHeartbeats 2000000 in
theorem implLeaveIrq_any (m : Int) (vt vs vw : Value) (st : List Int) (ls : List Sl) (lw : List Wt) (w : World) {lo hi lo2 hi2 lo3 hi3 : Nat} (h0 : Rd Nm.cells 1 w lo3 hi3 vt st) (h : Rd Sl.cells 3 w lo hi vs ls) (h2 : Rd Wt.cells 2 w lo2 hi2 vw lw) (hh0 : hi3 ≤ w.heap.size) (hh : hi ≤ w.heap.size) (hh2 : hi2 ≤ w.heap.size) (hl : st.length ≤ 1048576) :
    Calls Tryz.prog 15 #[.agg #[.int .i64 m, vt, vs, vw]] w fun e w' => ∃ v0 v1 v2, e = .returned (.tuple #[.agg #[.int .i64 (Fa.lvM m st ls lw), v0, v1, v2], .int .i64 (Fa.lvI m st ls lw), .bool (Fa.lvOk m st ls lw)]) ∧ Ow Nm.cells 1 3 w' w.heap.size w'.heap.size v0 (Fa.lvT m st ls lw) ∧ Ow Sl.cells 3 93 w' w.heap.size w'.heap.size v1 (Fa.lvS m st ls lw) ∧ Ow Wt.cells 2 107 w' w.heap.size w'.heap.size v2 (Fa.lvW m st ls lw) ∧ Below w.heap.size w w' := by
  have b0 : Below w.heap.size w ((w.alloc (.cells #[.int .i64 m, vt, vs, vw] 30)).alloc (.cells #[.int .i64 0, .slice none 0 0, .slice none 0 0, .slice none 0 0] 30)) := ((Below.refl w.heap.size w).alloc (Nat.le_refl _) _).alloc (by simp) _
  have z0 : ((w.alloc (.cells #[.int .i64 m, vt, vs, vw] 30)).alloc (.cells #[.int .i64 0, .slice none 0 0, .slice none 0 0, .slice none 0 0] 30)).heap.size = w.heap.size + 2 := by simp
  have bx := Box.new w #[.int .i64 m, vt, vs, vw] 30 rfl
  have bR := Box.new (g := w.heap.size + 1) (w.alloc (.cells #[.int .i64 m, vt, vs, vw] 30)) #[.int .i64 0, .slice none 0 0, .slice none 0 0, .slice none 0 0] 30 (by simp)
  replace bx := bx.below ((Below.refl _ (w.alloc (.cells #[.int .i64 m, vt, vs, vw] 30))).alloc (Nat.le_refl _) (.cells #[.int .i64 0, .slice none 0 0, .slice none 0 0, .slice none 0 0] 30)) bx.lt
  have ht := h0.below b0 hh0
  have hs := h.below b0 hh
  have hw := h2.below b0 hh2
  have hv0_ := h0.form
  have hv_ := h.form
  have hv2_ := h2.form
  clear h0 h h2
  generalize hwA : (w.alloc (.cells #[.int .i64 m, vt, vs, vw] 30)).alloc (.cells #[.int .i64 0, .slice none 0 0, .slice none 0 0, .slice none 0 0] 30) = wA at *
  obtain ⟨At, nt, dt, rfl, _, _, _⟩ := hv0_
  obtain ⟨A0, n0, d0, rfl, _, _, _⟩ := hv_
  obtain ⟨A1, n1, d1, rfl, _, _, _⟩ := hv2_
  have c1 := implIsInterface_any m _ _ _ st ls lw wA ht hs hw (by omega) (by omega) (by omega) hl
  cases hg : Fa.good m st ls lw
  · have HF := Lib.hid (Fa.lv_no (m := m) (st := st) (ls := ls) (lw := lw) (by simp [Fa.lvOk, hg]))
    rw [hg] at c1
    clear hg
    go_enter Tryz.func15, Tryz.ntmps15
    have bx_0 := bx.cell (j := 0) rfl
    have bx_1 := bx.cell (j := 1) rfl
    have bx_2 := bx.cell (j := 2) rfl
    have bx_3 := bx.cell (j := 3) rfl
    have bx_z := bx.frozen
    have bx_l := bx.lt
    have bR_0 := bR.cell (j := 0) rfl
    have bR_1 := bR.cell (j := 1) rfl
    have bR_2 := bR.cell (j := 2) rfl
    have bR_3 := bR.cell (j := 3) rfl
    have bR_z := bR.frozen
    have bR_l := bR.lt
    go_wp2_with fail
    clear hwA
    clear bx_0 bx_1 bx_2 bx_3 bx_z bx_l bR_0 bR_1 bR_2 bR_3 bR_z bR_l
    refine (c1).mono ?_; rintro q_ w1 ⟨rfl, b_1⟩
    replace bx := bx.below b_1 bx.lt
    replace bR := bR.below b_1 bR.lt
    replace ht := ht.below b_1 (by omega)
    replace hs := hs.below b_1 (by omega)
    replace hw := hw.below b_1 (by omega)
    have z_2 := b_1.size
    replace b0 := b0.trans (b_1.mono (by omega))
    clear b_1
    have bx_0 := bx.cell (j := 0) rfl
    have bx_1 := bx.cell (j := 1) rfl
    have bx_2 := bx.cell (j := 2) rfl
    have bx_3 := bx.cell (j := 3) rfl
    have bx_z := bx.frozen
    have bx_l := bx.lt
    have bR_0 := bR.cell (j := 0) rfl
    have bR_1 := bR.cell (j := 1) rfl
    have bR_2 := bR.cell (j := 2) rfl
    have bR_3 := bR.cell (j := 3) rfl
    have bR_z := bR.frozen
    have bR_l := bR.lt
    go_wp2_with fail
    clear bx_0 bx_1 bx_2 bx_3 bx_z bx_l bR_0 bR_1 bR_2 bR_3 bR_z bR_l
    generalize hwz : World.setCell (World.setCell (World.setCell (World.setCell _ _ _) _ _) _ _) _ _ = wz_
    obtain rfl : wz_ = setL w1 (w.heap.size + 1) 0 [.int .i64 0, .slice none 0 0, .slice none 0 0, .slice none 0 0] := hwz.symm
    clear hwz
    replace bx := bx.other (b := w.heap.size + 1) (by omega) 0 [.int .i64 0, .slice none 0 0, .slice none 0 0, .slice none 0 0]
    replace ht := ht.away (g := w.heap.size + 1) (by omega) 0 [.int .i64 0, .slice none 0 0, .slice none 0 0, .slice none 0 0]
    replace hs := hs.away (g := w.heap.size + 1) (by omega) 0 [.int .i64 0, .slice none 0 0, .slice none 0 0, .slice none 0 0]
    replace hw := hw.away (g := w.heap.size + 1) (by omega) 0 [.int .i64 0, .slice none 0 0, .slice none 0 0, .slice none 0 0]
    replace b0 := setL_below b0 [.int .i64 0, .slice none 0 0, .slice none 0 0, .slice none 0 0] (w.heap.size + 1) 0 (by omega)
    have zs_3 : (setL w1 (w.heap.size + 1) 0 [.int .i64 0, .slice none 0 0, .slice none 0 0, .slice none 0 0]).heap.size = w1.heap.size := setL_size _ _ _ _
    replace bR := bR.setAll [.int .i64 0, .slice none 0 0, .slice none 0 0, .slice none 0 0] rfl
    generalize setL w1 _ 0 _ = w3 at *
    have u0_ := bR.cell (j := 0) rfl
    have u1_ := bR.cell (j := 1) rfl
    have u2_ := bR.cell (j := 2) rfl
    have u3_ := bR.cell (j := 3) rfl
    refine bodyPost_ret (by simp only [results, Tryz.results15]; simp [go_sem, u0_, u1_, u2_, u3_]; rfl) rfl ?_
    exact ⟨_, _, _, by rw [HF.out.1, HF.out.2.1, HF.out.2.2.1], by rw [HF.out.2.2.2.1]; exact Ow.nil_, by rw [HF.out.2.2.2.2.1]; exact Ow.nil_, by rw [HF.out.2.2.2.2.2]; exact Ow.nil_, b0⟩
  · rcases Nat.eq_zero_or_pos st.length with hz | hz
    · have HF := Lib.hid (Fa.lv_no (m := m) (st := st) (ls := ls) (lw := lw) (by simp [Fa.lvOk, hz]))
      obtain rfl : st = [] := List.eq_nil_of_length_eq_zero hz
      obtain ⟨rfl⟩ : nt = 0 := by have := ht.n_eq.1; simpa using this
      rw [hg] at c1
      clear hg hz
      go_enter Tryz.func15, Tryz.ntmps15
      have bx_0 := bx.cell (j := 0) rfl
      have bx_1 := bx.cell (j := 1) rfl
      have bx_2 := bx.cell (j := 2) rfl
      have bx_3 := bx.cell (j := 3) rfl
      have bx_z := bx.frozen
      have bx_l := bx.lt
      have bR_0 := bR.cell (j := 0) rfl
      have bR_1 := bR.cell (j := 1) rfl
      have bR_2 := bR.cell (j := 2) rfl
      have bR_3 := bR.cell (j := 3) rfl
      have bR_z := bR.frozen
      have bR_l := bR.lt
      go_wp2_with fail
      clear hwA
      clear bx_0 bx_1 bx_2 bx_3 bx_z bx_l bR_0 bR_1 bR_2 bR_3 bR_z bR_l
      refine (c1).mono ?_; rintro q_ w1 ⟨rfl, b_1⟩
      replace bx := bx.below b_1 bx.lt
      replace bR := bR.below b_1 bR.lt
      replace ht := ht.below b_1 (by omega)
      replace hs := hs.below b_1 (by omega)
      replace hw := hw.below b_1 (by omega)
      have z_2 := b_1.size
      replace b0 := b0.trans (b_1.mono (by omega))
      clear b_1
      have bx_0 := bx.cell (j := 0) rfl
      have bx_1 := bx.cell (j := 1) rfl
      have bx_2 := bx.cell (j := 2) rfl
      have bx_3 := bx.cell (j := 3) rfl
      have bx_z := bx.frozen
      have bx_l := bx.lt
      have bR_0 := bR.cell (j := 0) rfl
      have bR_1 := bR.cell (j := 1) rfl
      have bR_2 := bR.cell (j := 2) rfl
      have bR_3 := bR.cell (j := 3) rfl
      have bR_z := bR.frozen
      have bR_l := bR.lt
      go_wp2_with fail
      clear bx_0 bx_1 bx_2 bx_3 bx_z bx_l bR_0 bR_1 bR_2 bR_3 bR_z bR_l
      refine (implLeave_nil m _ _ _ [] ls lw w1 ht hs hw (by omega) (by omega) (by omega) rfl).mono ?_; rintro q_ w3 ⟨rfl, b_3⟩
      replace bx := bx.below b_3 bx.lt
      replace bR := bR.below b_3 bR.lt
      replace ht := ht.below b_3 (by omega)
      replace hs := hs.below b_3 (by omega)
      replace hw := hw.below b_3 (by omega)
      have z_4 := b_3.size
      replace b0 := b0.trans (b_3.mono (by omega))
      clear b_3
      have bx_0 := bx.cell (j := 0) rfl
      have bx_1 := bx.cell (j := 1) rfl
      have bx_2 := bx.cell (j := 2) rfl
      have bx_3 := bx.cell (j := 3) rfl
      have bx_z := bx.frozen
      have bx_l := bx.lt
      have bR_0 := bR.cell (j := 0) rfl
      have bR_1 := bR.cell (j := 1) rfl
      have bR_2 := bR.cell (j := 2) rfl
      have bR_3 := bR.cell (j := 3) rfl
      have bR_z := bR.frozen
      have bR_l := bR.lt
      go_wp2_with fail
      clear bx_0 bx_1 bx_2 bx_3 bx_z bx_l bR_0 bR_1 bR_2 bR_3 bR_z bR_l
      generalize hwz : World.setCell (World.setCell (World.setCell (World.setCell _ _ _) _ _) _ _) _ _ = wz_
      obtain rfl : wz_ = setL w3 (w.heap.size + 1) 0 [.int .i64 0, .slice none 0 0, .slice none 0 0, .slice none 0 0] := hwz.symm
      clear hwz
      replace bx := bx.other (b := w.heap.size + 1) (by omega) 0 [.int .i64 0, .slice none 0 0, .slice none 0 0, .slice none 0 0]
      replace ht := ht.away (g := w.heap.size + 1) (by omega) 0 [.int .i64 0, .slice none 0 0, .slice none 0 0, .slice none 0 0]
      replace hs := hs.away (g := w.heap.size + 1) (by omega) 0 [.int .i64 0, .slice none 0 0, .slice none 0 0, .slice none 0 0]
      replace hw := hw.away (g := w.heap.size + 1) (by omega) 0 [.int .i64 0, .slice none 0 0, .slice none 0 0, .slice none 0 0]
      replace b0 := setL_below b0 [.int .i64 0, .slice none 0 0, .slice none 0 0, .slice none 0 0] (w.heap.size + 1) 0 (by omega)
      have zs_5 : (setL w3 (w.heap.size + 1) 0 [.int .i64 0, .slice none 0 0, .slice none 0 0, .slice none 0 0]).heap.size = w3.heap.size := setL_size _ _ _ _
      replace bR := bR.setAll [.int .i64 0, .slice none 0 0, .slice none 0 0, .slice none 0 0] rfl
      generalize setL w3 _ 0 _ = w5 at *
      have u0_ := bR.cell (j := 0) rfl
      have u1_ := bR.cell (j := 1) rfl
      have u2_ := bR.cell (j := 2) rfl
      have u3_ := bR.cell (j := 3) rfl
      refine bodyPost_ret (by simp only [results, Tryz.results15]; simp [go_sem, u0_, u1_, u2_, u3_]; rfl) rfl ?_
      exact ⟨_, _, _, by rw [HF.out.1, HF.out.2.1, HF.out.2.2.1], by rw [HF.out.2.2.2.1]; exact Ow.nil_, by rw [HF.out.2.2.2.2.1]; exact Ow.nil_, by rw [HF.out.2.2.2.2.2]; exact Ow.nil_, b0⟩
    · obtain ⟨j, hj⟩ : ∃ j, j + 1 = st.length := ⟨st.length - 1, by omega⟩
      obtain ⟨x, hx⟩ : ∃ x, st[j]? = some x := ⟨_, List.getElem?_eq_getElem (show j < st.length by omega)⟩
      have HF := Lib.hid (Fa.lv_yes hg hj hx)
      have HX := Lib.hid hx
      have HJ := Lib.hid hj
      have HP := Lib.hid (Fa.good_parts hg)
      have HK := Lib.hid (Fa.lv_end hg hj hx).1
      have hnn := Nat.le_of_eq ht.n_eq.1.symm
      have hzd2 : ((nt : Int) == 0) = false := by rw [beq_eq_false_iff_ne]; omega
      rw [hg] at c1
      clear hg hz hj hx hnn
      go_enter Tryz.func15, Tryz.ntmps15
      have bx_0 := bx.cell (j := 0) rfl
      have bx_1 := bx.cell (j := 1) rfl
      have bx_2 := bx.cell (j := 2) rfl
      have bx_3 := bx.cell (j := 3) rfl
      have bx_z := bx.frozen
      have bx_l := bx.lt
      have bR_0 := bR.cell (j := 0) rfl
      have bR_1 := bR.cell (j := 1) rfl
      have bR_2 := bR.cell (j := 2) rfl
      have bR_3 := bR.cell (j := 3) rfl
      have bR_z := bR.frozen
      have bR_l := bR.lt
      go_wp2_with fail
      clear hwA
      clear bx_0 bx_1 bx_2 bx_3 bx_z bx_l bR_0 bR_1 bR_2 bR_3 bR_z bR_l
      refine (c1).mono ?_; rintro q_ w1 ⟨rfl, b_1⟩
      replace bx := bx.below b_1 bx.lt
      replace bR := bR.below b_1 bR.lt
      replace ht := ht.below b_1 (by omega)
      replace hs := hs.below b_1 (by omega)
      replace hw := hw.below b_1 (by omega)
      have z_2 := b_1.size
      replace b0 := b0.trans (b_1.mono (by omega))
      clear b_1
      have bx_0 := bx.cell (j := 0) rfl
      have bx_1 := bx.cell (j := 1) rfl
      have bx_2 := bx.cell (j := 2) rfl
      have bx_3 := bx.cell (j := 3) rfl
      have bx_z := bx.frozen
      have bx_l := bx.lt
      have bR_0 := bR.cell (j := 0) rfl
      have bR_1 := bR.cell (j := 1) rfl
      have bR_2 := bR.cell (j := 2) rfl
      have bR_3 := bR.cell (j := 3) rfl
      have bR_z := bR.frozen
      have bR_l := bR.lt
      go_wp2_with fail
      clear bx_0 bx_1 bx_2 bx_3 bx_z bx_l bR_0 bR_1 bR_2 bR_3 bR_z bR_l
      refine (implLeave_in m _ _ _ st ls lw w1 ht hs hw (by omega) (by omega) (by omega) hl HP.out HJ.out HX.out HK.out).mono ?_; rintro q_ w3 ⟨v3, v4, v5, rfl, o3, o4, o5, b_3⟩
      replace bx := bx.below b_3 bx.lt
      replace bR := bR.below b_3 bR.lt
      replace ht := ht.below b_3 (by omega)
      replace hs := hs.below b_3 (by omega)
      replace hw := hw.below b_3 (by omega)
      have z_4 := b_3.size
      replace b0 := b0.trans (b_3.mono (by omega))
      clear b_3
      obtain ⟨A3, n3, d3, rfl, _, _, _⟩ := o3.rd.form
      obtain ⟨A4, n4, d4, rfl, _, _, _⟩ := o4.rd.form
      obtain ⟨A5, n5, d5, rfl, _, _, _⟩ := o5.rd.form
      have bx_0 := bx.cell (j := 0) rfl
      have bx_1 := bx.cell (j := 1) rfl
      have bx_2 := bx.cell (j := 2) rfl
      have bx_3 := bx.cell (j := 3) rfl
      have bx_z := bx.frozen
      have bx_l := bx.lt
      have bR_0 := bR.cell (j := 0) rfl
      have bR_1 := bR.cell (j := 1) rfl
      have bR_2 := bR.cell (j := 2) rfl
      have bR_3 := bR.cell (j := 3) rfl
      have bR_z := bR.frozen
      have bR_l := bR.lt
      go_wp2_with fail
      clear bx_0 bx_1 bx_2 bx_3 bx_z bx_l bR_0 bR_1 bR_2 bR_3 bR_z bR_l
      generalize hwz : World.setCell (World.setCell (World.setCell (World.setCell _ _ _) _ _) _ _) _ _ = wz_
      obtain rfl : wz_ = setL w3 (w.heap.size + 1) 0 [.int .i64 m, .slice A3 n3 d3, .slice A4 n4 d4, .slice A5 n5 d5] := hwz.symm
      clear hwz
      replace bx := bx.other (b := w.heap.size + 1) (by omega) 0 [.int .i64 m, .slice A3 n3 d3, .slice A4 n4 d4, .slice A5 n5 d5]
      replace ht := ht.away (g := w.heap.size + 1) (by omega) 0 [.int .i64 m, .slice A3 n3 d3, .slice A4 n4 d4, .slice A5 n5 d5]
      replace hs := hs.away (g := w.heap.size + 1) (by omega) 0 [.int .i64 m, .slice A3 n3 d3, .slice A4 n4 d4, .slice A5 n5 d5]
      replace hw := hw.away (g := w.heap.size + 1) (by omega) 0 [.int .i64 m, .slice A3 n3 d3, .slice A4 n4 d4, .slice A5 n5 d5]
      replace o3 := o3.box (g := w.heap.size + 1) bR (by decide) 0 [.int .i64 m, .slice A3 n3 d3, .slice A4 n4 d4, .slice A5 n5 d5]
      replace o4 := o4.box (g := w.heap.size + 1) bR (by decide) 0 [.int .i64 m, .slice A3 n3 d3, .slice A4 n4 d4, .slice A5 n5 d5]
      replace o5 := o5.box (g := w.heap.size + 1) bR (by decide) 0 [.int .i64 m, .slice A3 n3 d3, .slice A4 n4 d4, .slice A5 n5 d5]
      replace b0 := setL_below b0 [.int .i64 m, .slice A3 n3 d3, .slice A4 n4 d4, .slice A5 n5 d5] (w.heap.size + 1) 0 (by omega)
      have zs_5 : (setL w3 (w.heap.size + 1) 0 [.int .i64 m, .slice A3 n3 d3, .slice A4 n4 d4, .slice A5 n5 d5]).heap.size = w3.heap.size := setL_size _ _ _ _
      replace bR := bR.setAll [.int .i64 m, .slice A3 n3 d3, .slice A4 n4 d4, .slice A5 n5 d5] rfl
      generalize setL w3 _ 0 _ = w5 at *
      have u0_ := bR.cell (j := 0) rfl
      have u1_ := bR.cell (j := 1) rfl
      have u2_ := bR.cell (j := 2) rfl
      have u3_ := bR.cell (j := 3) rfl
      refine bodyPost_ret (by simp only [results, Tryz.results15]; simp [go_sem, u0_, u1_, u2_, u3_]; rfl) rfl ?_
      exact ⟨_, _, _, by rw [HF.out.1, HF.out.2.1, HF.out.2.2.1], by rw [HF.out.2.2.2.1]; exact o3.mono (by omega) (by omega), by rw [HF.out.2.2.2.2.1]; exact o4.mono (by omega) (by omega), by rw [HF.out.2.2.2.2.2]; exact o5.mono (by omega) (by omega), b0⟩

end Go.Proofs.YtndfmkbpdoohfaaGreat

/- The type 'Op' of the law text and of the program: its data, its cells, and what the law text's own helpers do with lists of it. No condition. -/
namespace Go.Proofs.YtndfmkbpdoohfaaGreat
open Go.RowKit Go.ChangeShapes Go.WideShapes Go.Deep

structure Op_ where
  kind : Int
  irq : Int
  prio : Int
  deriving DecidableEq, Inhabited

def Op_.cells (t : Op_) : List Value := [.int .i64 t.kind, .int .i64 t.irq, .int .i64 t.prio]
def Op_.val (t : Op_) : Value := .agg #[.int .i64 t.kind, .int .i64 t.irq, .int .i64 t.prio]
def Op_.zero : Op_ := ⟨0, 0, 0⟩
theorem Op_.get {w : World} {lo hi : Nat} {A : Option Addr} {n c k : Nat} {l : List Op_} (h : Rd Op_.cells 3 w lo hi (.slice A n c) l) (hk : k < n) {B : Nat} {wr : World} (hb : Below B w wr) (hB : hi ≤ B) :
    ∃ b off t, A = some ⟨b, off, none⟩ ∧ Hid (l[k]? = some t) ∧ lo ≤ b ∧ b < hi ∧ wr.cell? ⟨b, off + k * 3, none⟩ = some (.int .i64 t.kind) ∧ wr.cell? ⟨b, off + k * 3 + 1, none⟩ = some (.int .i64 t.irq) ∧ wr.cell? ⟨b, off + k * 3 + 2, none⟩ = some (.int .i64 t.prio) := by
  obtain ⟨b, off, t, hA, hx, h1, h2, h3⟩ := h.get hk hb hB
  exact ⟨b, off, t, hA, hx, h1, h2, h3 0 _ rfl, h3 1 _ rfl, h3 2 _ rfl⟩
end Go.Proofs.YtndfmkbpdoohfaaGreat

/- Whether an op of a processor interface is valid, in the program and in the reference. No condition. -/
namespace Go.Proofs.YtndfmkbpdoohfaaGreat
open Go.RowKit Go.ChangeShapes Go.WideShapes Go.Deep

def Op_.ok (o : Op_) : Bool := (o.kind == 1 && (inB o.irq 0 7 && inB o.prio 0 15)) || (((o.kind == 2 || o.kind == 3) && (o.irq == 0 && o.prio == 0)) || (o.kind == 4 && (o.irq == 0 && inB o.prio 0 16)))
end Go.Proofs.YtndfmkbpdoohfaaGreat

/- Running ops on a processor interface, in plain terms: what each op makes of it, and that it stays valid. No condition. -/
namespace Go.Proofs.YtndfmkbpdoohfaaGreat

structure FS where
  m : Int
  st : List Int
  ls : List Sl
  lw : List Wt
def FS.good (s : FS) : Bool := Fa.good s.m s.st s.ls s.lw
def FS.tk (s : FS) : Bool := Sl.tkOk s.ls (minI s.m (Fa.run s.st s.ls))
def FS.took (s : FS) : FS := ⟨s.m, s.st ++ [Sl.tkI s.ls], Sl.tkS s.ls, s.lw⟩
def FS.rose (s : FS) (i p : Int) : FS := ⟨s.m, s.st, (Qu.ofP s.ls s.lw i p).1, (Qu.ofP s.ls s.lw i p).2⟩
def FS.left (s : FS) : FS := ⟨s.m, s.st.dropLast, (Qu.enP s.ls s.lw (Fa.top s.st)).1, (Qu.enP s.ls s.lw (Fa.top s.st)).2⟩
theorem minI_le (a b : Int) : minI a b ≤ a ∧ minI a b ≤ b := by unfold minI; split <;> omega
theorem FS.good_iff {s : FS} : s.good = true ↔ inB s.m 0 16 = true ∧ Qu.good s.ls s.lw = true ∧ Fa.Ok s.st s.ls := Fa.good_iff
theorem FS.took_good {s : FS} (h : s.good = true) (hk : s.tk = true) : s.took.good = true := by
  rw [FS.good_iff] at *
  obtain ⟨h1, h2, h3⟩ := h
  exact ⟨h1, Qu.tk_good h2 hk, Fa.take_ok (Qu.good_parts h2).1 h3 hk (minI_le _ _).2⟩
theorem FS.rose_good {s : FS} (h : s.good = true) {i p : Int} (hi : inB i 0 7 = true) (hp : inB p 0 15 = true) : (s.rose i p).good = true := by
  rw [FS.good_iff] at *
  obtain ⟨h1, h2, h3⟩ := h
  exact ⟨h1, Qu.ofP_good (by simp [Qu.ofOk, h2, hi, hp]), Fa.raise_ok h2 hi hp h3⟩
theorem FS.left_good {s : FS} (h : s.good = true) (h0 : ¬ s.st.length = 0) : s.left.good = true := by
  obtain ⟨j, hj⟩ : ∃ j, j + 1 = s.st.length := ⟨s.st.length - 1, by omega⟩
  obtain ⟨x, hx⟩ : ∃ x, s.st[j]? = some x := ⟨_, List.getElem?_eq_getElem (show j < s.st.length by omega)⟩
  obtain ⟨_, e2, e3⟩ := Fa.top_at hj hx
  obtain ⟨h4, h5⟩ := Fa.lv_end h hj hx
  rw [FS.good_iff] at *
  obtain ⟨h1, h2, h3⟩ := h
  simp only [FS.left, e2, e3]
  exact ⟨h1, Qu.eiP_good (Qu.good_parts h2).1 h4, h5⟩
/-- valid: at most 4 on the stack, 4 slots, 8 waiters -/
theorem FS.good_len {s : FS} (h : s.good = true) : s.st.length ≤ 4 ∧ s.ls.length = 4 ∧ s.lw.length ≤ 8 := by
  rw [FS.good_iff] at h
  obtain ⟨_, h2, h3⟩ := h
  have h4 := Qu.good_len2 h2
  have h5 := Fa.ok_len h3
  omega

end Go.Proofs.YtndfmkbpdoohfaaGreat

/- The reference's draw of an interface: it returns something, in new memory. Condition: at most 50000 reads before. -/
namespace Go.Proofs.YtndfmkbpdoohfaaGreat
open Go.RowKit Go.ChangeShapes Go.WideShapes Go.Deep

/-- the state of a draw of an interface: the code, the reader at g, the result's box, the interface's box at gQ, its rows -/
structure DF (w : World) (g : Nat) (cv : Value) (l : List UInt8) (lo hi : Nat) (k : Nat) (W : World) (gQ : Nat) (m : Int) (vt vs vw : Value) (st : List Int) (ls : List Sl) (lw : List Wt) : Prop where
  h : Rd By.cells 1 W lo hi cv l
  c : Cur W g cv k
  G : w.grownBy W (some g)
  r : Box W w.heap.size 30 [.int .i64 0, .slice none 0 0, .slice none 0 0, .slice none 0 0]
  q : Box W gQ 30 [.int .i64 m, vt, vs, vw]
  ot : Ow Nm.cells 1 3 W w.heap.size W.heap.size vt st
  os : Ow Sl.cells 3 93 W w.heap.size W.heap.size vs ls
  ow : Ow Wt.cells 2 107 W w.heap.size W.heap.size vw lw
section
variable {w W W' : World} {g lo hi k k' gQ : Nat} {m : Int} {cv vt vs vw : Value} {l : List UInt8} {st : List Int} {ls : List Sl} {lw : List Wt}
theorem DF.size (d : DF w g cv l lo hi k W gQ m vt vs vw st ls lw) : w.heap.size ≤ W.heap.size := d.G.size
theorem DF.hle (f : DQF w g lo hi gQ) (d : DF w g cv l lo hi k W gQ m vt vs vw st ls lw) : hi ≤ W.heap.size := Nat.le_trans f.hh d.size
theorem DF.pick (d : DF w g cv l lo hi k W gQ m vt vs vw st ls lw) (f : DQF w g lo hi gQ) (gg : W.grownBy W' (some g)) (c : Cur W' g cv k') : DF w g cv l lo hi k' W' gQ m vt vs vw st ls lw := by
  obtain ⟨f1, f2, f3, f4⟩ := f
  exact ⟨d.h.grown gg (Nat.le_trans f2 d.size) (fun q e => by injection e with e; omega), c, grown_trans d.G gg, d.r.keep (gg.block _ d.r.lt (fun e => by injection e with e; omega)), d.q.keep (gg.block _ d.q.lt (fun e => by injection e with e; omega)),
   (d.ot.apart gg (fun q e => by injection e with e; omega)).mono (Nat.le_refl _) gg.size, (d.os.apart gg (fun q e => by injection e with e; omega)).mono (Nat.le_refl _) gg.size, (d.ow.apart gg (fun q e => by injection e with e; omega)).mono (Nat.le_refl _) gg.size⟩
theorem DF.below (d : DF w g cv l lo hi k W gQ m vt vs vw st ls lw) (f : DQF w g lo hi gQ) (b : Below W.heap.size W W') : DF w g cv l lo hi k W' gQ m vt vs vw st ls lw :=
  ⟨d.h.below b (Nat.le_trans f.hh d.size), d.c.grown0 (grown_below b), grown_trans d.G (grown_weaken (grown_below b)), d.r.below b d.r.lt, d.q.below b d.q.lt, (d.ot.below b (Nat.le_refl _)).mono (Nat.le_refl _) b.size, (d.os.below b (Nat.le_refl _)).mono (Nat.le_refl _) b.size, (d.ow.below b (Nat.le_refl _)).mono (Nat.le_refl _) b.size⟩
/-- the interface's box is written -/
theorem DF.wr {off : Nat} {vv : List Value} (d : DF w g cv l lo hi k W gQ m vt vs vw st ls lw) (f : DQF w g lo hi gQ) {m' : Int} {vt' vs' vw' : Value} {st' : List Int} {ls' : List Sl} {lw' : List Wt} (hq : Box (setL W gQ off vv) gQ 30 [.int .i64 m', vt', vs', vw']) (o0 : Ow Nm.cells 1 3 W w.heap.size W.heap.size vt' st') (o1 : Ow Sl.cells 3 93 W w.heap.size W.heap.size vs' ls') (o2 : Ow Wt.cells 2 107 W w.heap.size W.heap.size vw' lw') : DF w g cv l lo hi k (setL W gQ off vv) gQ m' vt' vs' vw' st' ls' lw' := by
  obtain ⟨f1, f2, f3, f4⟩ := f
  have hs : (setL W gQ off vv).heap.size = W.heap.size := setL_size _ _ _ _
  have gS := setL_grown vv W gQ off
  refine ⟨d.h.grown gS (Nat.le_trans f2 d.size) (fun q e => by injection e with e; omega), d.c.other gS (by omega), grown_new d.G gS (fun q e => by injection e with e; omega), d.r.other (by omega) off vv, hq, ?_, ?_, ?_⟩
  · rw [hs]; exact o0.box d.q (by decide) off vv
  · rw [hs]; exact o1.box d.q (by decide) off vv
  · rw [hs]; exact o2.box d.q (by decide) off vv
theorem DF.store (d : DF w g cv l lo hi k W gQ m vt vs vw st ls lw) (f : DQF w g lo hi gQ) {vt' vs' vw' : Value} {st' : List Int} {ls' : List Sl} {lw' : List Wt} (o0 : Ow Nm.cells 1 3 W w.heap.size W.heap.size vt' st') (o1 : Ow Sl.cells 3 93 W w.heap.size W.heap.size vs' ls') (o2 : Ow Wt.cells 2 107 W w.heap.size W.heap.size vw' lw') : DF w g cv l lo hi k (setL W gQ 0 [.int .i64 m, vt', vs', vw']) gQ m vt' vs' vw' st' ls' lw' :=
  d.wr f (d.q.setAll _ rfl) o0 o1 o2
theorem DF.store0 (d : DF w g cv l lo hi k W gQ m vt vs vw st ls lw) (f : DQF w g lo hi gQ) (m' : Int) : DF w g cv l lo hi k (setL W gQ 0 [.int .i64 m']) gQ m' vt vs vw st ls lw :=
  d.wr f (d.q.set1 (j := 0) (.int .i64 m') (by simp)) d.ot d.os d.ow
theorem DF.store23 (d : DF w g cv l lo hi k W gQ m vt vs vw st ls lw) (f : DQF w g lo hi gQ) {vs' vw' : Value} {ls' : List Sl} {lw' : List Wt} (o1 : Ow Sl.cells 3 93 W w.heap.size W.heap.size vs' ls') (o2 : Ow Wt.cells 2 107 W w.heap.size W.heap.size vw' lw') : DF w g cv l lo hi k (setL W gQ 2 [vs', vw']) gQ m vt vs' vw' st ls' lw' :=
  d.wr f (show Box (setL (setL W gQ 2 [vs']) gQ 3 [vw']) gQ _ _ from (d.q.set1 (j := 2) vs' (by simp)).set1 (j := 3) vw' (by simp)) d.ot o1 o2
theorem DF.app_box {row : Option Nat} (d : DF w g cv l lo hi k W gQ m vt vs vw st ls lw) (gg : W.grownBy W' row) (hr : ∀ q, row = some q → w.heap.size ≤ q ∧ q < W.heap.size ∧ ∃ cur, W.heap[q]? = some (.cells cur 3 (0, 0))) : Box W' gQ 30 [.int .i64 m, vt, vs, vw] :=
  d.q.other_type gg (fun q e => (hr q e).2.2) (by decide)
theorem DF.app {row : Option Nat} (d : DF w g cv l lo hi k W gQ m vt vs vw st ls lw) (f : DQF w g lo hi gQ) (gg : W.grownBy W' row) (hr : ∀ q, row = some q → w.heap.size ≤ q ∧ q < W.heap.size ∧ ∃ cur, W.heap[q]? = some (.cells cur 3 (0, 0))) {v8 : Value} {st' : List Int} (o8 : Ow Nm.cells 1 3 W' w.heap.size W'.heap.size v8 st') : DF w g cv l lo hi k (setL W' gQ 1 [v8]) gQ m v8 vs vw st' ls lw := by
  have bq := d.app_box gg hr
  have br : Box W' w.heap.size 30 [.int .i64 0, .slice none 0 0, .slice none 0 0, .slice none 0 0] := d.r.other_type gg (fun q e => (hr q e).2.2) (by decide)
  have os : Ow Sl.cells 3 93 W' w.heap.size W'.heap.size vs ls := (d.os.other_type gg (fun q e => (hr q e).2.2) (by decide)).mono (Nat.le_refl _) gg.size
  have ow : Ow Wt.cells 2 107 W' w.heap.size W'.heap.size vw lw := (d.ow.other_type gg (fun q e => (hr q e).2.2) (by decide)).mono (Nat.le_refl _) gg.size
  obtain ⟨f1, f2, f3, f4⟩ := f
  have hs : (setL W' gQ 1 [v8]).heap.size = W'.heap.size := setL_size _ _ _ _
  have gS := setL_grown [v8] W' gQ 1
  have hG := grown_new d.G gg (fun q e => (hr q e).1)
  refine ⟨(d.h.grown gg (Nat.le_trans f2 d.size) (fun q e => .inr (by have := (hr q e).1; omega))).grown gS (by have := gg.size; have := d.size; omega) (fun q e => by injection e with e; omega), (d.c.row gg (fun q e => by have := (hr q e).1; omega)).other gS (by omega), grown_new hG gS (fun q e => by injection e with e; omega), br.other (by omega) 1 _, bq.set1 (j := 1) v8 (by simp), ?_, ?_, ?_⟩
  · rw [hs]; exact o8.box bq (by decide) 1 _
  · rw [hs]; exact os.box bq (by decide) 1 _
  · rw [hs]; exact ow.box bq (by decide) 1 _
end
theorem Fa.good0 : Fa.good 16 [] [⟨0, 0, 0⟩, ⟨0, 0, 0⟩, ⟨0, 0, 0⟩, ⟨0, 0, 0⟩] [] = true := by
  rw [Fa.good_iff]
  refine ⟨by decide, Qu.good0, ?_⟩
  refine ⟨List.nodup_nil, fun i => ?_, List.Pairwise.nil⟩
  constructor
  · intro h; simp at h
  · rintro ⟨p, s, hs, ha, _⟩
    simp at hs
    subst hs
    simp [Sl.isAct] at ha
theorem Fa.fit {m : Int} {st : List Int} {ls : List Sl} {lw : List Wt} (h : Fa.good m st ls lw = true) : Qu.good ls lw = true ∧ st.length ≤ 4 ∧ ls.length = 4 ∧ lw.length ≤ 8 := by
  have h1 := FS.good_len (s := ⟨m, st, ls, lw⟩) h
  exact ⟨(Fa.good_iff.1 h).2.1, h1.1, h1.2.1, h1.2.2⟩
theorem Fa.good_tk {m : Int} {st : List Int} {ls : List Sl} {lw : List Wt} (h : Fa.good m st ls lw = true) : Fa.good m (Fa.tkT st ls (minI m (Fa.run st ls))) (Sl.tkL ls (minI m (Fa.run st ls))) lw = true := by
  unfold Fa.tkT Sl.tkL
  cases hk : Sl.tkOk ls (minI m (Fa.run st ls))
  · simpa [hk] using h
  · have := FS.took_good (s := ⟨m, st, ls, lw⟩) h hk
    simpa [hk, FS.took, FS.good] using this
theorem Fa.good_leave {m : Int} {st : List Int} {ls : List Sl} {lw : List Wt} (h : Fa.good m st ls lw = true) {j : Nat} {x : Int} (hj : j + 1 = st.length) (hx : st[j]? = some x) : Fa.good m (st.take j) (Qu.enP ls lw x).1 (Qu.enP ls lw x).2 = true := by
  have h1 := FS.left_good (s := ⟨m, st, ls, lw⟩) h (by show ¬ st.length = 0; omega)
  obtain ⟨_, e2, e3⟩ := Fa.top_at hj hx
  simpa [FS.left, FS.good, e2, e3] using h1
theorem Nm.appK_ow {w : World} {o : Oper} {a : Act} {Q : Exit → Act → World → Prop} {K : Act → World → Prop} (hgd : o.guard = none) (s x : Operand)
    (ho : o.op = .call { callee := .builtin .append, args := #[s, x], argTypes := #[24, 24] }) {lo hi n c : Nat} {A : Option Addr} {l : List Int} (hs : a.eval s = .slice A n c) (h : Ow Nm.cells 1 3 w lo hi (.slice A n c) l)
    (g cx : Nat) (y : Int) (hx : a.eval x = .slice (some ⟨g, 0, none⟩) 1 cx) (hr : ∀ j u, (Nm.cells y)[j]? = some u → w.cell? ⟨g, j, none⟩ = some u) (hlen : n ≤ 4194304) (hlo : lo ≤ w.heap.size) (hhi : hi ≤ w.heap.size)
    (hk : ∀ v' w' row, Ow Nm.cells 1 3 w' lo w'.heap.size v' (l ++ [y]) → w.grownBy w' row → (∀ q, row = some q → lo ≤ q ∧ q < hi ∧ ∃ cur, w.heap[q]? = some (.cells cur 3 (0, 0))) → K (a.put o.dst v') w') {ops : Array Oper} : if Region.wanted o (yielded ops a.tmps) = true then Oper.wp Tryz.prog o a w K Q else K (a.put o.dst undef) w := by
  have hw : Region.wanted o (yielded ops a.tmps) = true := by simp [Region.wanted, hgd]
  rw [if_pos hw]
  obtain ⟨i0, hi0, hz0, hz1, hz2⟩ := info_parts Nm.info
  obtain ⟨v', w', hrun, h2, row, h3, h4⟩ := run_app_ow (P := Tryz.prog) w 24 o.type _ i0 _ 1 _ Tryz.underlying24 hi0 hz0 hz1 hz2 rfl (by omega) Nm.cells_len Nm.one h g cx y hr (by unfold maxLen; omega) (by omega) hlo hhi
  unfold Oper.wp execOp
  simp only [ho, resolve, invoke, builtin, Sem.run_bind, Sem.run_pure, Result.andThen_ok, List.map_toArray, List.map_cons, List.map_nil, hs, hx, hrun]
  exact hk v' w' row h2 h3 h4

set_option maxRecDepth 8000 in
set_option maxHeartbeats 16000000 in
theorem iface_any (g k : Nat) (cv : Value) (l : List UInt8) (w : World) {lo hi : Nat} (h : Rd By.cells 1 w lo hi cv l) (hh : hi ≤ w.heap.size) (hg : g < lo ∨ hi ≤ g) (hc : Cur w g cv k) (hk : k ≤ 40000) :
    Calls Tryz.prog 48 #[.pointer (some ⟨g, 0, none⟩)] w fun e w' => ∃ (m : Int) (vt vs vw : Value) (st : List Int) (ls : List Sl) (lw : List Wt), e = .returned (.agg #[.int .i64 m, vt, vs, vw]) ∧ st.length ≤ 5 ∧ ls.length ≤ 5 ∧ lw.length ≤ 9 ∧ Ow Nm.cells 1 3 w' w.heap.size w'.heap.size vt st ∧ Ow Sl.cells 3 93 w' w.heap.size w'.heap.size vs ls ∧ Ow Wt.cells 2 107 w' w.heap.size w'.heap.size vw lw ∧ w.grownBy w' (some g) ∧ Cur w' g cv (k + 700) := by
  have hgl := hc.lt
  go_enter Tryz.func48, Tryz.ntmps48
  have bR0 := Box.new w #[.int .i64 0, .slice none 0 0, .slice none 0 0, .slice none 0 0] 30 rfl
  have B1 := (Below.refl w.heap.size w).alloc (Nat.le_refl _) (.cells #[.int .i64 0, .slice none 0 0, .slice none 0 0, .slice none 0 0] 30)
  have z1 : (w.alloc (.cells #[.int .i64 0, .slice none 0 0, .slice none 0 0, .slice none 0 0] 30)).heap.size = w.heap.size + 1 := by simp
  go_wp2_with fail
  generalize w.alloc (.cells #[.int .i64 0, .slice none 0 0, .slice none 0 0, .slice none 0 0] 30) = w1 at *
  have l1_ := (Below.refl w1.heap.size w1).alloc (Nat.le_refl _) (.cells #[] 3)
  have o0 : Ow Nm.cells 1 3 (w1.alloc (.cells #[] 3)) w.heap.size (w1.alloc (.cells #[] 3)).heap.size (.slice (some ⟨w.heap.size + 1, 0, none⟩) 0 0) [] := Ow.lit0
  have z2 : (w1.alloc (.cells #[] 3)).heap.size = w1.heap.size + 1 := by simp
  replace bR0 := bR0.below l1_ bR0.lt
  replace B1 := B1.trans (l1_.mono (by omega))
  rw [z1] at z2
  clear l1_
  generalize w1.alloc (.cells #[] 3) = w2 at *
  have o1 := lit_slots w2
  have l2 := (Below.refl w2.heap.size w2).alloc (Nat.le_refl _) (.cells #[.int .i64 0, .int .i64 0, .int .i64 0, .int .i64 0, .int .i64 0, .int .i64 0, .int .i64 0, .int .i64 0, .int .i64 0, .int .i64 0, .int .i64 0, .int .i64 0] 93)
  have z3 : (w2.alloc (.cells #[.int .i64 0, .int .i64 0, .int .i64 0, .int .i64 0, .int .i64 0, .int .i64 0, .int .i64 0, .int .i64 0, .int .i64 0, .int .i64 0, .int .i64 0, .int .i64 0] 93)).heap.size = w2.heap.size + 1 := by simp
  replace bR0 := bR0.below l2 bR0.lt
  replace B1 := B1.trans (l2.mono (by omega))
  replace o0 := o0.below l2 (Nat.le_refl _)
  rw [z2] at o1 z3
  clear l2
  generalize w2.alloc (.cells #[.int .i64 0, .int .i64 0, .int .i64 0, .int .i64 0, .int .i64 0, .int .i64 0, .int .i64 0, .int .i64 0, .int .i64 0, .int .i64 0, .int .i64 0, .int .i64 0] 93) = w3 at *
  have l3 := (Below.refl w3.heap.size w3).alloc (Nat.le_refl _) (.cells #[] 107)
  have o2 : Ow Wt.cells 2 107 (w3.alloc (.cells #[] 107)) w.heap.size (w3.alloc (.cells #[] 107)).heap.size (.slice (some ⟨w.heap.size + 1 + 1 + 1, 0, none⟩) 0 0) [] := Ow.lit0
  have z4 : (w3.alloc (.cells #[] 107)).heap.size = w3.heap.size + 1 := by simp
  replace bR0 := bR0.below l3 bR0.lt
  replace B1 := B1.trans (l3.mono (by omega))
  replace o0 := o0.below l3 (by omega)
  replace o1 := o1.below l3 (by omega)
  rw [z3] at z4
  clear l3
  generalize w3.alloc (.cells #[] 107) = w4 at *
  have l4 := (Below.refl w4.heap.size w4).alloc (Nat.le_refl _) (.cells #[.int .i64 16, .slice (some ⟨w.heap.size + 1, 0, none⟩) 0 0, .slice (some ⟨w.heap.size + 1 + 1, 0, none⟩) 4 4, .slice (some ⟨w.heap.size + 1 + 1 + 1, 0, none⟩) 0 0] 30)
  have bQ := Box.new (g := (w.heap.size + 1 + 1 + 1 + 1)) w4 #[.int .i64 16, .slice (some ⟨w.heap.size + 1, 0, none⟩) 0 0, .slice (some ⟨w.heap.size + 1 + 1, 0, none⟩) 4 4, .slice (some ⟨w.heap.size + 1 + 1 + 1, 0, none⟩) 0 0] 30 z4.symm
  have z5 : (w4.alloc (.cells #[.int .i64 16, .slice (some ⟨w.heap.size + 1, 0, none⟩) 0 0, .slice (some ⟨w.heap.size + 1 + 1, 0, none⟩) 4 4, .slice (some ⟨w.heap.size + 1 + 1 + 1, 0, none⟩) 0 0] 30)).heap.size = w4.heap.size + 1 := by simp
  replace bR0 := bR0.below l4 bR0.lt
  replace B1 := B1.trans (l4.mono (by omega))
  replace o0 := o0.below l4 (by omega)
  replace o1 := o1.below l4 (by omega)
  replace o2 := o2.below l4 (by omega)
  clear l4
  generalize w4.alloc (.cells #[.int .i64 16, .slice (some ⟨w.heap.size + 1, 0, none⟩) 0 0, .slice (some ⟨w.heap.size + 1 + 1, 0, none⟩) 4 4, .slice (some ⟨w.heap.size + 1 + 1 + 1, 0, none⟩) 0 0] 30) = w5 at *
  have HF : DQF w g lo hi (w.heap.size + 1 + 1 + 1 + 1) := ⟨hg, hh, hgl, by omega⟩
  have hq : DF w g cv l lo hi k w5 (w.heap.size + 1 + 1 + 1 + 1) 16 _ _ _ _ _ _ := ⟨h.below B1 hh, hc.grown0 (grown_below B1), grown_weaken (grown_below B1), bR0, bQ, o0.mono (by omega) (by omega), o1.mono (by omega) (by omega), o2.mono (by omega) (by omega)⟩
  clear h hc bR0 B1 o0 o1 o2 bQ z1 z2 z3 z4 z5
  have hg0 := Lib.hid Fa.good0
  generalize w.heap.size + 1 + 1 + 1 + 1 = gQ at *
  have hgQ : w.heap.size < gQ := HF.hq
  refine (pick_any g _ _ l 14 _ hq.h (DF.hle HF hq) hg hq.c (by omega) (by omega)).mono ?_; rintro q_ wp_x1 ⟨x1, rfl, x1_0, x1_1, gg, kk⟩
  replace hq := hq.pick HF gg kk
  clear gg kk
  obtain ⟨mm, rfl⟩ : ∃ m : Nat, x1 = m := ⟨x1.toNat, by omega⟩
  have hm9 : mm < 14 := by omega
  clear x1_0 x1_1
  go_wp2_with fail
  go_loopw [4] (fun v4 wr => ∃ (i q : Nat) (st : List Int) (ls : List Sl) (lw : List Wt) (At A0 A1 : Option Addr) (nt ct n0 c0 n1 c1 : Nat), i + q = mm ∧ v4 = .int .i64 q ∧ Hid (Fa.good 16 st ls lw = true) ∧ DF w g cv l lo hi (k + 2 + 8 * i) wr gQ 16 (.slice At nt ct) (.slice A0 n0 c0) (.slice A1 n1 c1) st ls lw) (fun v4 _ => (intOf v4).toNat)
  case atStart => exact ⟨0, mm, _, _, _, _, _, _, _, _, _, _, _, _, by omega, rfl, hg0, hq⟩
  case round =>
    clear hq hg0
    obtain ⟨i, q, st, ls, lw, At, A0, A1, nt, ct, n0, c0, n1, c1, hiq, rfl, HGd, hq⟩ := hrel
    have HFt := Lib.hid (Fa.fit HGd.out)
    rcases Nat.eq_zero_or_pos q with hz | hz
    rotate_left
    · obtain ⟨p, rfl⟩ : ∃ p, q = p + 1 := ⟨q - 1, by omega⟩
      have hqd : decide ((0 : Int) < ((p + 1 : Nat) : Int)) = true := decide_eq_true (by omega)
      have bq0 := hq.q.cell (j := 0) rfl
      have bq1 := hq.q.cell (j := 1) rfl
      have bq2 := hq.q.cell (j := 2) rfl
      have bq3 := hq.q.cell (j := 3) rfl
      have bqz := hq.q.frozen
      have bql := hq.q.lt
      go_wp2_with fail
      clear bq0 bq1 bq2 bq3 bqz bql
      refine (pick_any g _ _ l 6 _ hq.h (DF.hle HF hq) hg hq.c (by omega) (by omega)).mono ?_; rintro q_ wp_y1 ⟨y1, rfl, y1_0, y1_1, gg, kk⟩
      replace hq := hq.pick HF gg kk
      clear gg kk
      rcases (show y1 = 0 ∨ y1 = 1 ∨ y1 = 2 ∨ y1 = 3 ∨ y1 = 4 ∨ y1 = 5 by omega) with rfl | rfl | rfl | rfl | rfl | rfl
      all_goals clear y1_0 y1_1
      · go_upto_region 9 with fail
        have hPp := Lib.hid (Qu.good_parts HFt.out.1).1
        have hL4 : st.length ≤ 1048576 := by have := HFt.out.2.1; omega
        replace hq := hq.below HF (Below.refl _ _).drew
        have bq0 := hq.q.cell (j := 0) rfl
        have bq1 := hq.q.cell (j := 1) rfl
        have bq2 := hq.q.cell (j := 2) rfl
        have bq3 := hq.q.cell (j := 3) rfl
        have bqz := hq.q.frozen
        have bql := hq.q.lt
        go_region_with (first | (go_at_call 61; refine (pick_any g _ _ l _ _ hq.h (DF.hle HF hq) hg hq.c (by omega) (by omega)).mono ?_; rintro q_ wp ⟨y, rfl, y_0, y_1, gg, kk⟩; (replace hq := hq.pick HF gg kk); (have bq0 := hq.q.cell (j := 0) rfl); (have bq1 := hq.q.cell (j := 1) rfl); (have bq2 := hq.q.cell (j := 2) rfl); (have bq3 := hq.q.cell (j := 3) rfl); (have bqz := hq.q.frozen); (have bql := hq.q.lt)) | (go_at_call 56; refine (specRaise_in 16 _ _ _ st ls lw _ hq.ot.rd hq.os.rd hq.ow.rd (Nat.le_refl _) (Nat.le_refl _) (Nat.le_refl _) _ _ hL4 hPp.out (inB_mk (by omega)) (inB_mk (by omega))).mono ?_; rintro q_ wo ⟨v4, v5, v6, rfl, o4, o5, o6, bb⟩; (obtain ⟨A4, n4, c4, rfl, _, _, _⟩ := o4.rd.form); (obtain ⟨A5, n5, c5, rfl, _, _, _⟩ := o5.rd.form); (obtain ⟨A6, n6, c6, rfl, _, _, _⟩ := o6.rd.form); (have zb := hq.size); (replace hq := hq.below HF bb); (have bq0 := hq.q.cell (j := 0) rfl); (have bq1 := hq.q.cell (j := 1) rfl); (have bq2 := hq.q.cell (j := 2) rfl); (have bq3 := hq.q.cell (j := 3) rfl); (have bqz := hq.q.frozen); (have bql := hq.q.lt)))
        all_goals
          go_wp2_with fail
          generalize hwz : World.setCell (World.setCell (World.setCell (World.setCell _ _ _) _ _) _ _) _ _ = wz_
          obtain rfl : wz_ = setL wo gQ 0 [.int .i64 16, .slice A4 n4 c4, .slice A5 n5 c5, .slice A6 n6 c6] := hwz.symm
          clear hwz
          replace hq := hq.store HF (o4.mono (by omega) (Nat.le_refl _)) (o5.mono (by omega) (Nat.le_refl _)) (o6.mono (by omega) (Nat.le_refl _))
          generalize setL wo _ 0 _ = wS at *
          go_roundw
          case rel => exact ⟨i + 1, p, _, _, _, _, _, _, _, _, _, _, _, _, by omega, by go_num, Lib.hid (FS.rose_good (s := ⟨16, st, ls, lw⟩) HGd.out (inB_mk (by omega)) (inB_mk (by omega))), ⟨hq.h, hq.c.mono (by omega), hq.G, hq.r, hq.q, hq.ot, hq.os, hq.ow⟩⟩
          case measure => simp [intOf]
      · go_upto_region 9 with fail
        have hPp := Lib.hid (Qu.good_parts HFt.out.1).1
        have hL4 : st.length ≤ 1048576 := by have := HFt.out.2.1; omega
        replace hq := hq.below HF (Below.refl _ _).drew
        have bq0 := hq.q.cell (j := 0) rfl
        have bq1 := hq.q.cell (j := 1) rfl
        have bq2 := hq.q.cell (j := 2) rfl
        have bq3 := hq.q.cell (j := 3) rfl
        have bqz := hq.q.frozen
        have bql := hq.q.lt
        go_region_with (first | (go_at_call 61; refine (pick_any g _ _ l _ _ hq.h (DF.hle HF hq) hg hq.c (by omega) (by omega)).mono ?_; rintro q_ wp ⟨y, rfl, y_0, y_1, gg, kk⟩; (replace hq := hq.pick HF gg kk); (have bq0 := hq.q.cell (j := 0) rfl); (have bq1 := hq.q.cell (j := 1) rfl); (have bq2 := hq.q.cell (j := 2) rfl); (have bq3 := hq.q.cell (j := 3) rfl); (have bqz := hq.q.frozen); (have bql := hq.q.lt)) | (go_at_call 56; refine (specRaise_in 16 _ _ _ st ls lw _ hq.ot.rd hq.os.rd hq.ow.rd (Nat.le_refl _) (Nat.le_refl _) (Nat.le_refl _) _ _ hL4 hPp.out (inB_mk (by omega)) (inB_mk (by omega))).mono ?_; rintro q_ wo ⟨v4, v5, v6, rfl, o4, o5, o6, bb⟩; (obtain ⟨A4, n4, c4, rfl, _, _, _⟩ := o4.rd.form); (obtain ⟨A5, n5, c5, rfl, _, _, _⟩ := o5.rd.form); (obtain ⟨A6, n6, c6, rfl, _, _, _⟩ := o6.rd.form); (have zb := hq.size); (replace hq := hq.below HF bb); (have bq0 := hq.q.cell (j := 0) rfl); (have bq1 := hq.q.cell (j := 1) rfl); (have bq2 := hq.q.cell (j := 2) rfl); (have bq3 := hq.q.cell (j := 3) rfl); (have bqz := hq.q.frozen); (have bql := hq.q.lt)))
        all_goals
          go_wp2_with fail
          generalize hwz : World.setCell (World.setCell (World.setCell (World.setCell _ _ _) _ _) _ _) _ _ = wz_
          obtain rfl : wz_ = setL wo gQ 0 [.int .i64 16, .slice A4 n4 c4, .slice A5 n5 c5, .slice A6 n6 c6] := hwz.symm
          clear hwz
          replace hq := hq.store HF (o4.mono (by omega) (Nat.le_refl _)) (o5.mono (by omega) (Nat.le_refl _)) (o6.mono (by omega) (Nat.le_refl _))
          generalize setL wo _ 0 _ = wS at *
          go_roundw
          case rel => exact ⟨i + 1, p, _, _, _, _, _, _, _, _, _, _, _, _, by omega, by go_num, Lib.hid (FS.rose_good (s := ⟨16, st, ls, lw⟩) HGd.out (inB_mk (by omega)) (inB_mk (by omega))), ⟨hq.h, hq.c.mono (by omega), hq.G, hq.r, hq.q, hq.ot, hq.os, hq.ow⟩⟩
          case measure => simp [intOf]
      · go_upto_region 9 with fail
        have hPp := Lib.hid (Qu.good_parts HFt.out.1).1
        have hL4 : st.length ≤ 1048576 := by have := HFt.out.2.1; omega
        replace hq := hq.below HF (Below.refl _ _).drew
        have bq0 := hq.q.cell (j := 0) rfl
        have bq1 := hq.q.cell (j := 1) rfl
        have bq2 := hq.q.cell (j := 2) rfl
        have bq3 := hq.q.cell (j := 3) rfl
        have bqz := hq.q.frozen
        have bql := hq.q.lt
        go_region_with (first | (go_at_call 61; refine (pick_any g _ _ l _ _ hq.h (DF.hle HF hq) hg hq.c (by omega) (by omega)).mono ?_; rintro q_ wp ⟨y, rfl, y_0, y_1, gg, kk⟩; (replace hq := hq.pick HF gg kk); (have bq0 := hq.q.cell (j := 0) rfl); (have bq1 := hq.q.cell (j := 1) rfl); (have bq2 := hq.q.cell (j := 2) rfl); (have bq3 := hq.q.cell (j := 3) rfl); (have bqz := hq.q.frozen); (have bql := hq.q.lt)) | (go_at_call 56; refine (specRaise_in 16 _ _ _ st ls lw _ hq.ot.rd hq.os.rd hq.ow.rd (Nat.le_refl _) (Nat.le_refl _) (Nat.le_refl _) _ _ hL4 hPp.out (inB_mk (by omega)) (inB_mk (by omega))).mono ?_; rintro q_ wo ⟨v4, v5, v6, rfl, o4, o5, o6, bb⟩; (obtain ⟨A4, n4, c4, rfl, _, _, _⟩ := o4.rd.form); (obtain ⟨A5, n5, c5, rfl, _, _, _⟩ := o5.rd.form); (obtain ⟨A6, n6, c6, rfl, _, _, _⟩ := o6.rd.form); (have zb := hq.size); (replace hq := hq.below HF bb); (have bq0 := hq.q.cell (j := 0) rfl); (have bq1 := hq.q.cell (j := 1) rfl); (have bq2 := hq.q.cell (j := 2) rfl); (have bq3 := hq.q.cell (j := 3) rfl); (have bqz := hq.q.frozen); (have bql := hq.q.lt)))
        all_goals
          go_wp2_with fail
          generalize hwz : World.setCell (World.setCell (World.setCell (World.setCell _ _ _) _ _) _ _) _ _ = wz_
          obtain rfl : wz_ = setL wo gQ 0 [.int .i64 16, .slice A4 n4 c4, .slice A5 n5 c5, .slice A6 n6 c6] := hwz.symm
          clear hwz
          replace hq := hq.store HF (o4.mono (by omega) (Nat.le_refl _)) (o5.mono (by omega) (Nat.le_refl _)) (o6.mono (by omega) (Nat.le_refl _))
          generalize setL wo _ 0 _ = wS at *
          go_roundw
          case rel => exact ⟨i + 1, p, _, _, _, _, _, _, _, _, _, _, _, _, by omega, by go_num, Lib.hid (FS.rose_good (s := ⟨16, st, ls, lw⟩) HGd.out (inB_mk (by omega)) (inB_mk (by omega))), ⟨hq.h, hq.c.mono (by omega), hq.G, hq.r, hq.q, hq.ot, hq.os, hq.ow⟩⟩
          case measure => simp [intOf]
      · have bq0 := hq.q.cell (j := 0) rfl
        have bq1 := hq.q.cell (j := 1) rfl
        have bq2 := hq.q.cell (j := 2) rfl
        have bq3 := hq.q.cell (j := 3) rfl
        have bqz := hq.q.frozen
        have bql := hq.q.lt
        go_wp2_with fail
        clear bq0 bq1 bq2 bq3 bqz bql
        have zb := hq.size
        have hL4 : st.length ≤ 1048576 := by have := HFt.out.2.1; omega
        have hL8 : lw.length ≤ 1048576 := by have := HFt.out.2.2.2; omega
        refine (specTakeF_in 16 _ _ _ st ls lw _ hq.ot.rd hq.os.rd hq.ow.rd (Nat.le_refl _) (Nat.le_refl _) (Nat.le_refl _) (Fa.good_sl HGd.out) (Fa.slots HGd.out) hL4 hL8).mono ?_; rintro q_ wo ⟨v4, v5, v6, rfl, o4, o5, o6, bb⟩
        obtain ⟨A4, n4, c4, rfl, _, _, _⟩ := o4.rd.form
        obtain ⟨A5, n5, c5, rfl, _, _, _⟩ := o5.rd.form
        obtain ⟨A6, n6, c6, rfl, _, _, _⟩ := o6.rd.form
        replace hq := hq.below HF bb
        have bq0 := hq.q.cell (j := 0) rfl
        have bq1 := hq.q.cell (j := 1) rfl
        have bq2 := hq.q.cell (j := 2) rfl
        have bq3 := hq.q.cell (j := 3) rfl
        have bqz := hq.q.frozen
        have bql := hq.q.lt
        go_wp2_with fail
        clear bq0 bq1 bq2 bq3 bqz bql
        generalize hwz : World.setCell (World.setCell (World.setCell (World.setCell _ _ _) _ _) _ _) _ _ = wz_
        obtain rfl : wz_ = setL wo gQ 0 [.int .i64 16, .slice A4 n4 c4, .slice A5 n5 c5, .slice A6 n6 c6] := hwz.symm
        clear hwz
        replace hq := hq.store HF (o4.mono (by omega) (Nat.le_refl _)) (o5.mono (by omega) (Nat.le_refl _)) (o6.mono (by omega) (Nat.le_refl _))
        generalize setL wo _ 0 _ = wS at *
        go_roundw
        case rel => exact ⟨i + 1, p, _, _, _, _, _, _, _, _, _, _, _, _, by omega, by go_num, Lib.hid (Fa.good_tk HGd.out), ⟨hq.h, hq.c.mono (by omega), hq.G, hq.r, hq.q, hq.ot, hq.os, hq.ow⟩⟩
        case measure => simp [intOf]
      · have bq0 := hq.q.cell (j := 0) rfl
        have bq1 := hq.q.cell (j := 1) rfl
        have bq2 := hq.q.cell (j := 2) rfl
        have bq3 := hq.q.cell (j := 3) rfl
        have bqz := hq.q.frozen
        have bql := hq.q.lt
        go_wp2_with fail
        clear bq0 bq1 bq2 bq3 bqz bql
        have zb := hq.size
        have hL4 : st.length ≤ 1048576 := by have := HFt.out.2.1; omega
        have hL8 : lw.length ≤ 1048576 := by have := HFt.out.2.2.2; omega
        refine (specTakeF_in 16 _ _ _ st ls lw _ hq.ot.rd hq.os.rd hq.ow.rd (Nat.le_refl _) (Nat.le_refl _) (Nat.le_refl _) (Fa.good_sl HGd.out) (Fa.slots HGd.out) hL4 hL8).mono ?_; rintro q_ wo ⟨v4, v5, v6, rfl, o4, o5, o6, bb⟩
        obtain ⟨A4, n4, c4, rfl, _, _, _⟩ := o4.rd.form
        obtain ⟨A5, n5, c5, rfl, _, _, _⟩ := o5.rd.form
        obtain ⟨A6, n6, c6, rfl, _, _, _⟩ := o6.rd.form
        replace hq := hq.below HF bb
        have bq0 := hq.q.cell (j := 0) rfl
        have bq1 := hq.q.cell (j := 1) rfl
        have bq2 := hq.q.cell (j := 2) rfl
        have bq3 := hq.q.cell (j := 3) rfl
        have bqz := hq.q.frozen
        have bql := hq.q.lt
        go_wp2_with fail
        clear bq0 bq1 bq2 bq3 bqz bql
        generalize hwz : World.setCell (World.setCell (World.setCell (World.setCell _ _ _) _ _) _ _) _ _ = wz_
        obtain rfl : wz_ = setL wo gQ 0 [.int .i64 16, .slice A4 n4 c4, .slice A5 n5 c5, .slice A6 n6 c6] := hwz.symm
        clear hwz
        replace hq := hq.store HF (o4.mono (by omega) (Nat.le_refl _)) (o5.mono (by omega) (Nat.le_refl _)) (o6.mono (by omega) (Nat.le_refl _))
        generalize setL wo _ 0 _ = wS at *
        go_roundw
        case rel => exact ⟨i + 1, p, _, _, _, _, _, _, _, _, _, _, _, _, by omega, by go_num, Lib.hid (Fa.good_tk HGd.out), ⟨hq.h, hq.c.mono (by omega), hq.G, hq.r, hq.q, hq.ot, hq.os, hq.ow⟩⟩
        case measure => simp [intOf]
      · have bq0 := hq.q.cell (j := 0) rfl
        have bq1 := hq.q.cell (j := 1) rfl
        have bq2 := hq.q.cell (j := 2) rfl
        have bq3 := hq.q.cell (j := 3) rfl
        have bqz := hq.q.frozen
        have bql := hq.q.lt
        go_wp2_with fail
        clear bq0 bq1 bq2 bq3 bqz bql
        have zb := hq.size
        have hL4 : st.length ≤ 1048576 := by have := HFt.out.2.1; omega
        have hPp := Lib.hid (Qu.good_parts HFt.out.1).1
        rcases Nat.eq_zero_or_pos st.length with hz0 | hz0
        · have hst : st = [] := List.eq_nil_of_length_eq_zero hz0
          refine (specLeave_nil 16 _ _ _ st ls lw _ hq.ot.rd hq.os.rd hq.ow.rd (Nat.le_refl _) (Nat.le_refl _) (Nat.le_refl _) hst).mono ?_; rintro q_ wo ⟨rfl, bb⟩
          replace hq := hq.below HF bb
          clear hst
          have bq0 := hq.q.cell (j := 0) rfl
          have bq1 := hq.q.cell (j := 1) rfl
          have bq2 := hq.q.cell (j := 2) rfl
          have bq3 := hq.q.cell (j := 3) rfl
          have bqz := hq.q.frozen
          have bql := hq.q.lt
          go_wp2_with fail
          clear bq0 bq1 bq2 bq3 bqz bql
          generalize hwz : World.setCell (World.setCell (World.setCell (World.setCell _ _ _) _ _) _ _) _ _ = wz_
          obtain rfl : wz_ = setL wo gQ 0 [.int .i64 16, .slice At nt ct, .slice A0 n0 c0, .slice A1 n1 c1] := hwz.symm
          clear hwz
          replace hq := hq.store HF hq.ot hq.os hq.ow
          generalize setL wo _ 0 _ = wS at *
          go_roundw
          case rel => exact ⟨i + 1, p, _, _, _, _, _, _, _, _, _, _, _, _, by omega, by go_num, HGd, ⟨hq.h, hq.c.mono (by omega), hq.G, hq.r, hq.q, hq.ot, hq.os, hq.ow⟩⟩
          case measure => simp [intOf]
        · obtain ⟨j, hj⟩ : ∃ j, j + 1 = st.length := ⟨st.length - 1, by omega⟩
          obtain ⟨x, hx⟩ : ∃ x, st[j]? = some x := ⟨_, List.getElem?_eq_getElem (show j < st.length by omega)⟩
          have HG2 := Lib.hid (Fa.good_leave HGd.out hj hx)
          have hk := (Fa.lv_end HGd.out hj hx).1
          refine (specLeave_in 16 _ _ _ st ls lw _ hq.ot.rd hq.os.rd hq.ow.rd (Nat.le_refl _) (Nat.le_refl _) (Nat.le_refl _) hL4 hPp.out hj hx hk).mono ?_; rintro q_ wo ⟨v4, v5, v6, rfl, o4, o5, o6, bb⟩
          obtain ⟨A4, n4, c4, rfl, _, _, _⟩ := o4.rd.form
          obtain ⟨A5, n5, c5, rfl, _, _, _⟩ := o5.rd.form
          obtain ⟨A6, n6, c6, rfl, _, _, _⟩ := o6.rd.form
          replace hq := hq.below HF bb
          clear hj hx hk
          have bq0 := hq.q.cell (j := 0) rfl
          have bq1 := hq.q.cell (j := 1) rfl
          have bq2 := hq.q.cell (j := 2) rfl
          have bq3 := hq.q.cell (j := 3) rfl
          have bqz := hq.q.frozen
          have bql := hq.q.lt
          go_wp2_with fail
          clear bq0 bq1 bq2 bq3 bqz bql
          generalize hwz : World.setCell (World.setCell (World.setCell (World.setCell _ _ _) _ _) _ _) _ _ = wz_
          obtain rfl : wz_ = setL wo gQ 0 [.int .i64 16, .slice A4 n4 c4, .slice A5 n5 c5, .slice A6 n6 c6] := hwz.symm
          clear hwz
          replace hq := hq.store HF (o4.mono (by omega) (Nat.le_refl _)) (o5.mono (by omega) (Nat.le_refl _)) (o6.mono (by omega) (Nat.le_refl _))
          generalize setL wo _ 0 _ = wS at *
          go_roundw
          case rel => exact ⟨i + 1, p, _, _, _, _, _, _, _, _, _, _, _, _, by omega, by go_num, HG2, ⟨hq.h, hq.c.mono (by omega), hq.G, hq.r, hq.q, hq.ot, hq.os, hq.ow⟩⟩
          case measure => simp [intOf]
    obtain rfl : i = mm := by omega
    subst hz
    have hF1 : st.length ≤ 4 := HFt.out.2.1
    have hF2 : ls.length ≤ 5 := by have := HFt.out.2.2.1; omega
    have hF3 : lw.length ≤ 9 := by have := HFt.out.2.2.2; omega
    clear HFt HGd
    have bq0 := hq.q.cell (j := 0) rfl
    have bq1 := hq.q.cell (j := 1) rfl
    have bq2 := hq.q.cell (j := 2) rfl
    have bq3 := hq.q.cell (j := 3) rfl
    have bqz := hq.q.frozen
    have bql := hq.q.lt
    go_wp2_with fail
    clear bq0 bq1 bq2 bq3 bqz bql
    refine (one_any g _ _ l 3 _ hq.h (DF.hle HF hq) hg hq.c (by omega) (by omega)).mono ?_; rintro q_ wp_z0 ⟨z0, rfl, gg, kk⟩
    replace hq := hq.pick HF gg kk
    clear gg kk
    cases z0
    · have bq0 := hq.q.cell (j := 0) rfl
      have bq1 := hq.q.cell (j := 1) rfl
      have bq2 := hq.q.cell (j := 2) rfl
      have bq3 := hq.q.cell (j := 3) rfl
      have bqz := hq.q.frozen
      have bql := hq.q.lt
      go_wp2_with fail
      clear bq0 bq1 bq2 bq3 bqz bql
      refine (pick_any g _ _ l 24 _ hq.h (DF.hle HF hq) hg hq.c (by omega) (by omega)).mono ?_; rintro q_ wp_z1 ⟨z1, rfl, z1_0, z1_1, gg, kk⟩
      replace hq := hq.pick HF gg kk
      clear gg kk
      by_cases h0 : z1 = 0
      rotate_left
      by_cases h1 : z1 = 1
      rotate_left
      by_cases h2 : z1 = 2
      rotate_left
      · have h0b : (z1 == 0) = false := by rw [beq_eq_false_iff_ne]; exact h0
        have h1b : (z1 == 1) = false := by rw [beq_eq_false_iff_ne]; exact h1
        have h2b : (z1 == 2) = false := by rw [beq_eq_false_iff_ne]; exact h2
        have bq0 := hq.q.cell (j := 0) rfl
        have bq1 := hq.q.cell (j := 1) rfl
        have bq2 := hq.q.cell (j := 2) rfl
        have bq3 := hq.q.cell (j := 3) rfl
        have bqz := hq.q.frozen
        have bql := hq.q.lt
        have br0 := hq.r.cell (j := 0) rfl
        have br1 := hq.r.cell (j := 1) rfl
        have br2 := hq.r.cell (j := 2) rfl
        have br3 := hq.r.cell (j := 3) rfl
        have brz := hq.r.frozen
        have brl := hq.r.lt
        go_wp2_with fail
        clear br0 br1 br2 br3 brz brl
        clear bq0 bq1 bq2 bq3 bqz bql
        generalize hwz : World.setCell (World.setCell (World.setCell (World.setCell _ _ _) _ _) _ _) _ _ = wz_
        obtain rfl : wz_ = setL wp_z1 (w.heap.size) 0 [.int .i64 16, .slice At nt ct, .slice A0 n0 c0, .slice A1 n1 c1] := hwz.symm
        clear hwz
        have o0 := hq.ot.box hq.r (by decide) 0 [.int .i64 16, .slice At nt ct, .slice A0 n0 c0, .slice A1 n1 c1]
        have o1 := hq.os.box hq.r (by decide) 0 [.int .i64 16, .slice At nt ct, .slice A0 n0 c0, .slice A1 n1 c1]
        have o2 := hq.ow.box hq.r (by decide) 0 [.int .i64 16, .slice At nt ct, .slice A0 n0 c0, .slice A1 n1 c1]
        have gS := setL_grown [.int .i64 16, .slice At nt ct, .slice A0 n0 c0, .slice A1 n1 c1] wp_z1 (w.heap.size) 0
        have hG := grown_new hq.G gS (fun q e => by injection e with e; omega)
        have hc := hq.c.other gS (by omega)
        have bR := hq.r.setAll [.int .i64 16, .slice At nt ct, .slice A0 n0 c0, .slice A1 n1 c1] rfl
        have zS : (setL wp_z1 (w.heap.size) 0 [.int .i64 16, .slice At nt ct, .slice A0 n0 c0, .slice A1 n1 c1]).heap.size = wp_z1.heap.size := setL_size _ _ _ _
        generalize setL wp_z1 _ 0 _ = wE at *
        have u0_ := bR.cell (j := 0) rfl
        have u1_ := bR.cell (j := 1) rfl
        have u2_ := bR.cell (j := 2) rfl
        have u3_ := bR.cell (j := 3) rfl
        have F4 : st.length ≤ 5 := by omega
        have F5 := hF2
        have F9 := hF3
        have O0 := o0.mono (Nat.le_refl _) (Nat.le_of_eq zS.symm)
        have O1 := o1.mono (Nat.le_refl _) (Nat.le_of_eq zS.symm)
        have O2 := o2.mono (Nat.le_refl _) (Nat.le_of_eq zS.symm)
        have hc2 : Cur wE g cv (k + 700) := hc.mono (by omega)
        refine bodyPost_ret (by simp only [results, Tryz.results48]; simp [go_sem, u0_, u1_, u2_, u3_]; rfl) rfl ?_
        first | exact ⟨_, _, _, _, _, _, _, rfl, F4, F5, F9, O0, O1, O2, hG, hc2⟩ | exact ⟨_, _, _, _, rfl, _, F4, _, F5, _, F9, O0, O1, O2, hG, hc2⟩
      · subst h0
        have bq0 := hq.q.cell (j := 0) rfl
        have bq1 := hq.q.cell (j := 1) rfl
        have bq2 := hq.q.cell (j := 2) rfl
        have bq3 := hq.q.cell (j := 3) rfl
        have bqz := hq.q.frozen
        have bql := hq.q.lt
        go_wp2_with fail
        clear bq0 bq1 bq2 bq3 bqz bql
        have rl := lit_ints wp_z1 [-1, 17] #[.int .i64 (-1), .int .i64 17] 2 rfl rfl (by decide)
        have zl : (wp_z1.alloc (.cells #[.int .i64 (-1), .int .i64 17] 3)).heap.size = wp_z1.heap.size + 1 := by simp
        have zgl := hq.c.lt
        replace hq := hq.below HF ((Below.refl _ _).alloc (Nat.le_refl _) (.cells #[.int .i64 (-1), .int .i64 17] 3))
        generalize wp_z1.alloc _ = wl_m9 at *
        generalize wp_z1.heap.size = gl_m9 at *
        refine (among_any g _ _ _ l [-1, 17] _ hq.h (DF.hle HF hq) hg rl (by omega) (by omega) (by decide) (by decide) hq.c (by omega)).mono ?_; rintro q_ wp_m9 ⟨m9, rfl, gg, kk⟩
        replace hq := hq.pick HF gg kk
        clear gg kk rl zl zgl
        have bq0 := hq.q.cell (j := 0) rfl
        have bq1 := hq.q.cell (j := 1) rfl
        have bq2 := hq.q.cell (j := 2) rfl
        have bq3 := hq.q.cell (j := 3) rfl
        have bqz := hq.q.frozen
        have bql := hq.q.lt
        have br0 := hq.r.cell (j := 0) rfl
        have br1 := hq.r.cell (j := 1) rfl
        have br2 := hq.r.cell (j := 2) rfl
        have br3 := hq.r.cell (j := 3) rfl
        have brz := hq.r.frozen
        have brl := hq.r.lt
        go_upto_region 24 with fail
        clear br0 br1 br2 br3 brz brl
        clear bq0 bq1 bq2 bq3 bqz bql
        generalize hwz : World.setCell _ _ _ = wz_
        obtain rfl : wz_ = setL wp_m9 gQ 0 [.int .i64 m9] := hwz.symm
        clear hwz
        replace hq := hq.store0 HF m9
        generalize setL wp_m9 _ 0 _ = wS at *
        have bq0 := hq.q.cell (j := 0) rfl
        have bq1 := hq.q.cell (j := 1) rfl
        have bq2 := hq.q.cell (j := 2) rfl
        have bq3 := hq.q.cell (j := 3) rfl
        have bqz := hq.q.frozen
        have bql := hq.q.lt
        have br0 := hq.r.cell (j := 0) rfl
        have br1 := hq.r.cell (j := 1) rfl
        have br2 := hq.r.cell (j := 2) rfl
        have br3 := hq.r.cell (j := 3) rfl
        have brz := hq.r.frozen
        have brl := hq.r.lt
        go_wp2_with fail
        clear br0 br1 br2 br3 brz brl
        clear bq0 bq1 bq2 bq3 bqz bql
        generalize hwz : World.setCell (World.setCell (World.setCell (World.setCell _ _ _) _ _) _ _) _ _ = wz_
        obtain rfl : wz_ = setL wS (w.heap.size) 0 [.int .i64 m9, .slice At nt ct, .slice A0 n0 c0, .slice A1 n1 c1] := hwz.symm
        clear hwz
        have o0 := hq.ot.box hq.r (by decide) 0 [.int .i64 m9, .slice At nt ct, .slice A0 n0 c0, .slice A1 n1 c1]
        have o1 := hq.os.box hq.r (by decide) 0 [.int .i64 m9, .slice At nt ct, .slice A0 n0 c0, .slice A1 n1 c1]
        have o2 := hq.ow.box hq.r (by decide) 0 [.int .i64 m9, .slice At nt ct, .slice A0 n0 c0, .slice A1 n1 c1]
        have gS := setL_grown [.int .i64 m9, .slice At nt ct, .slice A0 n0 c0, .slice A1 n1 c1] wS (w.heap.size) 0
        have hG := grown_new hq.G gS (fun q e => by injection e with e; omega)
        have hc := hq.c.other gS (by omega)
        have bR := hq.r.setAll [.int .i64 m9, .slice At nt ct, .slice A0 n0 c0, .slice A1 n1 c1] rfl
        have zS : (setL wS (w.heap.size) 0 [.int .i64 m9, .slice At nt ct, .slice A0 n0 c0, .slice A1 n1 c1]).heap.size = wS.heap.size := setL_size _ _ _ _
        generalize setL wS _ 0 _ = wE at *
        have u0_ := bR.cell (j := 0) rfl
        have u1_ := bR.cell (j := 1) rfl
        have u2_ := bR.cell (j := 2) rfl
        have u3_ := bR.cell (j := 3) rfl
        have F4 : st.length ≤ 5 := by omega
        have F5 := hF2
        have F9 := hF3
        have O0 := o0.mono (Nat.le_refl _) (Nat.le_of_eq zS.symm)
        have O1 := o1.mono (Nat.le_refl _) (Nat.le_of_eq zS.symm)
        have O2 := o2.mono (Nat.le_refl _) (Nat.le_of_eq zS.symm)
        have hc2 : Cur wE g cv (k + 700) := hc.mono (by omega)
        refine bodyPost_ret (by simp only [results, Tryz.results48]; simp [go_sem, u0_, u1_, u2_, u3_]; rfl) rfl ?_
        first | exact ⟨_, _, _, _, _, _, _, rfl, F4, F5, F9, O0, O1, O2, hG, hc2⟩ | exact ⟨_, _, _, _, rfl, _, F4, _, F5, _, F9, O0, O1, O2, hG, hc2⟩
      · subst h1
        have hnt : nt ≤ 4 := by have := hq.ot.rd.n_eq.1; omega
        have bq0 := hq.q.cell (j := 0) rfl
        have bq1 := hq.q.cell (j := 1) rfl
        have bq2 := hq.q.cell (j := 2) rfl
        have bq3 := hq.q.cell (j := 3) rfl
        have bqz := hq.q.frozen
        have bql := hq.q.lt
        go_upto_region 21 with fail
        clear bq0 bq1 bq2 bq3 bqz bql
        have hkq := hq.c
        refine wp_region_held_drew (S := fun _ => True) (by kernel_rfl) trivial (fun hHeld => ?_)
        refine wpAnyH_take (i := 0) (v := .pointer (some ⟨gQ, 1, none⟩)) rfl (by kernel_rfl) (by kernel_rfl) (by kernel_rfl) (fun _ _ _ h => h) (Or.inl ⟨by rfl, by intro w hSw; go_simp⟩) hHeld ?_
        refine wpAnyH_take (i := 2) (v := .pointer (some ⟨g, 0, none⟩)) rfl (by kernel_rfl) (by kernel_rfl) (by kernel_rfl) (fun _ _ _ h => h) (Or.inl ⟨by rfl, by intro w hSw; go_simp⟩) hHeld ?_
        clear hHeld hkq
        refine held_gen (F := fun W' => DF w g cv l lo hi _ W' gQ 16 (.slice At nt ct) (.slice A0 n0 c0) (.slice A1 n1 c1) st ls lw) (hq.below HF (Below.refl _ _).drew) ?_
        clear hq
        rintro wh hq
        refine wpAnyH_ready (rs := [1, 3]) (by kernel_rfl) (by decide) ?_
        refine AllReadyH.cons rfl (fun K1a hK1a => ?_) (AllReadyH.cons rfl (fun K1b hK1b => ?_) AllReadyH.nil)
        · have bq0 := hq.q.cell (j := 0) rfl
          have bq1 := hq.q.cell (j := 1) rfl
          have bq2 := hq.q.cell (j := 2) rfl
          have bq3 := hq.q.cell (j := 3) rfl
          have bqz := hq.q.frozen
          have bql := hq.q.lt
          go_simp
          clear bq0 bq1 bq2 bq3 bqz bql
          refine hK1a.out _ _ trivial (fun _ => ?_)
          refine wpAnyH_ready (rs := [3]) (by kernel_rfl) (by decide) ?_
          refine AllReadyH.cons rfl (fun K2 hK2 => ?_) AllReadyH.nil
          go_simp
          refine (pick_any g _ _ l 8 _ hq.h (DF.hle HF hq) hg hq.c (by omega) (by omega)).mono ?_; rintro q_ wy ⟨yy, rfl, yy_0, yy_1, gg, kk⟩
          replace hq := hq.pick HF gg kk
          clear gg kk
          refine hK2.out _ _ trivial (fun _ => ?_)
          refine wpAnyH_ready (rs := [4]) (by kernel_rfl) (by decide) ?_
          refine AllReadyH.cons rfl (fun K3 hK3 => ?_) AllReadyH.nil
          go_simp
          have bb := (Below.refl wy.heap.size wy).alloc (Nat.le_refl _) (.cells #[.int .i64 yy] 3)
          have bN := Box.new wy #[.int .i64 yy] 3 rfl
          replace hq := hq.below HF bb
          clear bb
          generalize wy.alloc _ = wa at *
          generalize wy.heap.size = gN at *
          refine hK3.out _ _ trivial (fun _ => ?_)
          refine wpAnyH_ready (rs := [5]) (by kernel_rfl) (by decide) ?_
          refine AllReadyH.cons rfl (fun K4 hK4 => ?_) AllReadyH.nil
          refine Nm.appK_ow rfl _ _ rfl rfl hq.ot gN 1 yy rfl (fun j u hu => by rcases j with _ | j <;> simp [Nm.cells] at hu <;> subst hu <;> exact bN.cell (j := 0) rfl) (by omega) hq.size (Nat.le_refl _) ?_
          intro v8 w8 row8 o8 g8 r8
          obtain ⟨A8, n8, c8, rfl, _, _, _⟩ := o8.rd.form
          have bq8 := hq.app_box g8 r8
          replace hq := hq.app HF g8 r8 o8
          refine hK4.out _ _ trivial (fun _ => ?_)
          have hHeld : (fun (_ : World) => True) w8 := trivial
          refine wpAnyH_take (i := 6) (v := .pointer (some ⟨gQ, 1, none⟩)) rfl (by kernel_rfl) (by kernel_rfl) (by kernel_rfl) (fun _ _ _ h => h) (Or.inl ⟨by rfl, by intro w hSw; go_simp⟩) hHeld ?_
          clear hHeld
          refine wpAnyH_ready (rs := [7]) (by kernel_rfl) (by decide) ?_
          refine AllReadyH.cons rfl (fun K5 hK5 => ?_) AllReadyH.nil
          have bq0 := bq8.cell (j := 0) rfl
          have bq1 := bq8.cell (j := 1) rfl
          have bq2 := bq8.cell (j := 2) rfl
          have bq3 := bq8.cell (j := 3) rfl
          have bqz := bq8.frozen
          have bql := bq8.lt
          go_simp
          clear bq0 bq1 bq2 bq3 bqz bql bq8
          generalize hwz : World.setCell _ _ _ = wz_
          obtain rfl : wz_ = setL w8 gQ 1 [.slice A8 n8 c8] := hwz.symm
          clear hwz
          generalize setL w8 _ 1 _ = wS at *
          refine hK5.out _ _ trivial (fun _ => ?_)
          refine ⟨by kernel_rfl, ?_⟩
          have bq0 := hq.q.cell (j := 0) rfl
          have bq1 := hq.q.cell (j := 1) rfl
          have bq2 := hq.q.cell (j := 2) rfl
          have bq3 := hq.q.cell (j := 3) rfl
          have bqz := hq.q.frozen
          have bql := hq.q.lt
          have br0 := hq.r.cell (j := 0) rfl
          have br1 := hq.r.cell (j := 1) rfl
          have br2 := hq.r.cell (j := 2) rfl
          have br3 := hq.r.cell (j := 3) rfl
          have brz := hq.r.frozen
          have brl := hq.r.lt
          go_wp2_with fail
          clear br0 br1 br2 br3 brz brl
          clear bq0 bq1 bq2 bq3 bqz bql
          generalize hwz : World.setCell (World.setCell (World.setCell (World.setCell _ _ _) _ _) _ _) _ _ = wz_
          obtain rfl : wz_ = setL wS (w.heap.size) 0 [.int .i64 16, .slice A8 n8 c8, .slice A0 n0 c0, .slice A1 n1 c1] := hwz.symm
          clear hwz
          have o0 := hq.ot.box hq.r (by decide) 0 [.int .i64 16, .slice A8 n8 c8, .slice A0 n0 c0, .slice A1 n1 c1]
          have o1 := hq.os.box hq.r (by decide) 0 [.int .i64 16, .slice A8 n8 c8, .slice A0 n0 c0, .slice A1 n1 c1]
          have o2 := hq.ow.box hq.r (by decide) 0 [.int .i64 16, .slice A8 n8 c8, .slice A0 n0 c0, .slice A1 n1 c1]
          have gS := setL_grown [.int .i64 16, .slice A8 n8 c8, .slice A0 n0 c0, .slice A1 n1 c1] wS (w.heap.size) 0
          have hG := grown_new hq.G gS (fun q e => by injection e with e; omega)
          have hc := hq.c.other gS (by omega)
          have bR := hq.r.setAll [.int .i64 16, .slice A8 n8 c8, .slice A0 n0 c0, .slice A1 n1 c1] rfl
          have zS : (setL wS (w.heap.size) 0 [.int .i64 16, .slice A8 n8 c8, .slice A0 n0 c0, .slice A1 n1 c1]).heap.size = wS.heap.size := setL_size _ _ _ _
          generalize setL wS _ 0 _ = wE at *
          have u0_ := bR.cell (j := 0) rfl
          have u1_ := bR.cell (j := 1) rfl
          have u2_ := bR.cell (j := 2) rfl
          have u3_ := bR.cell (j := 3) rfl
          have F4 := (show (st ++ [yy]).length ≤ 5 by simp; omega)
          have F5 := hF2
          have F9 := hF3
          have O0 := o0.mono (Nat.le_refl _) (Nat.le_of_eq zS.symm)
          have O1 := o1.mono (Nat.le_refl _) (Nat.le_of_eq zS.symm)
          have O2 := o2.mono (Nat.le_refl _) (Nat.le_of_eq zS.symm)
          have hc2 : Cur wE g cv (k + 700) := hc.mono (by omega)
          refine bodyPost_ret (by simp only [results, Tryz.results48]; simp [go_sem, u0_, u1_, u2_, u3_]; rfl) rfl ?_
          first | exact ⟨_, _, _, _, _, _, _, rfl, F4, F5, F9, O0, O1, O2, hG, hc2⟩ | exact ⟨_, _, _, _, rfl, _, F4, _, F5, _, F9, O0, O1, O2, hG, hc2⟩
        · go_simp
          refine (pick_any g _ _ l 8 _ hq.h (DF.hle HF hq) hg hq.c (by omega) (by omega)).mono ?_; rintro q_ wy ⟨yy, rfl, yy_0, yy_1, gg, kk⟩
          replace hq := hq.pick HF gg kk
          clear gg kk
          refine hK1b.out _ _ trivial (fun _ => ?_)
          refine wpAnyH_ready (rs := [1, 4]) (by kernel_rfl) (by decide) ?_
          refine AllReadyH.cons rfl (fun K6a hK6a => ?_) (AllReadyH.cons rfl (fun K6b hK6b => ?_) AllReadyH.nil)
          · have bq0 := hq.q.cell (j := 0) rfl
            have bq1 := hq.q.cell (j := 1) rfl
            have bq2 := hq.q.cell (j := 2) rfl
            have bq3 := hq.q.cell (j := 3) rfl
            have bqz := hq.q.frozen
            have bql := hq.q.lt
            go_simp
            clear bq0 bq1 bq2 bq3 bqz bql
            refine hK6a.out _ _ trivial (fun _ => ?_)
            refine wpAnyH_ready (rs := [4]) (by kernel_rfl) (by decide) ?_
            refine AllReadyH.cons rfl (fun K7 hK7 => ?_) AllReadyH.nil
            go_simp
            have bb := (Below.refl wy.heap.size wy).alloc (Nat.le_refl _) (.cells #[.int .i64 yy] 3)
            have bN := Box.new wy #[.int .i64 yy] 3 rfl
            replace hq := hq.below HF bb
            clear bb
            generalize wy.alloc _ = wa at *
            generalize wy.heap.size = gN at *
            refine hK7.out _ _ trivial (fun _ => ?_)
            refine wpAnyH_ready (rs := [5]) (by kernel_rfl) (by decide) ?_
            refine AllReadyH.cons rfl (fun K8 hK8 => ?_) AllReadyH.nil
            refine Nm.appK_ow rfl _ _ rfl rfl hq.ot gN 1 yy rfl (fun j u hu => by rcases j with _ | j <;> simp [Nm.cells] at hu <;> subst hu <;> exact bN.cell (j := 0) rfl) (by omega) hq.size (Nat.le_refl _) ?_
            intro v8 w8 row8 o8 g8 r8
            obtain ⟨A8, n8, c8, rfl, _, _, _⟩ := o8.rd.form
            have bq8 := hq.app_box g8 r8
            replace hq := hq.app HF g8 r8 o8
            refine hK8.out _ _ trivial (fun _ => ?_)
            have hHeld : (fun (_ : World) => True) w8 := trivial
            refine wpAnyH_take (i := 6) (v := .pointer (some ⟨gQ, 1, none⟩)) rfl (by kernel_rfl) (by kernel_rfl) (by kernel_rfl) (fun _ _ _ h => h) (Or.inl ⟨by rfl, by intro w hSw; go_simp⟩) hHeld ?_
            clear hHeld
            refine wpAnyH_ready (rs := [7]) (by kernel_rfl) (by decide) ?_
            refine AllReadyH.cons rfl (fun K9 hK9 => ?_) AllReadyH.nil
            have bq0 := bq8.cell (j := 0) rfl
            have bq1 := bq8.cell (j := 1) rfl
            have bq2 := bq8.cell (j := 2) rfl
            have bq3 := bq8.cell (j := 3) rfl
            have bqz := bq8.frozen
            have bql := bq8.lt
            go_simp
            clear bq0 bq1 bq2 bq3 bqz bql bq8
            generalize hwz : World.setCell _ _ _ = wz_
            obtain rfl : wz_ = setL w8 gQ 1 [.slice A8 n8 c8] := hwz.symm
            clear hwz
            generalize setL w8 _ 1 _ = wS at *
            refine hK9.out _ _ trivial (fun _ => ?_)
            refine ⟨by kernel_rfl, ?_⟩
            have bq0 := hq.q.cell (j := 0) rfl
            have bq1 := hq.q.cell (j := 1) rfl
            have bq2 := hq.q.cell (j := 2) rfl
            have bq3 := hq.q.cell (j := 3) rfl
            have bqz := hq.q.frozen
            have bql := hq.q.lt
            have br0 := hq.r.cell (j := 0) rfl
            have br1 := hq.r.cell (j := 1) rfl
            have br2 := hq.r.cell (j := 2) rfl
            have br3 := hq.r.cell (j := 3) rfl
            have brz := hq.r.frozen
            have brl := hq.r.lt
            go_wp2_with fail
            clear br0 br1 br2 br3 brz brl
            clear bq0 bq1 bq2 bq3 bqz bql
            generalize hwz : World.setCell (World.setCell (World.setCell (World.setCell _ _ _) _ _) _ _) _ _ = wz_
            obtain rfl : wz_ = setL wS (w.heap.size) 0 [.int .i64 16, .slice A8 n8 c8, .slice A0 n0 c0, .slice A1 n1 c1] := hwz.symm
            clear hwz
            have o0 := hq.ot.box hq.r (by decide) 0 [.int .i64 16, .slice A8 n8 c8, .slice A0 n0 c0, .slice A1 n1 c1]
            have o1 := hq.os.box hq.r (by decide) 0 [.int .i64 16, .slice A8 n8 c8, .slice A0 n0 c0, .slice A1 n1 c1]
            have o2 := hq.ow.box hq.r (by decide) 0 [.int .i64 16, .slice A8 n8 c8, .slice A0 n0 c0, .slice A1 n1 c1]
            have gS := setL_grown [.int .i64 16, .slice A8 n8 c8, .slice A0 n0 c0, .slice A1 n1 c1] wS (w.heap.size) 0
            have hG := grown_new hq.G gS (fun q e => by injection e with e; omega)
            have hc := hq.c.other gS (by omega)
            have bR := hq.r.setAll [.int .i64 16, .slice A8 n8 c8, .slice A0 n0 c0, .slice A1 n1 c1] rfl
            have zS : (setL wS (w.heap.size) 0 [.int .i64 16, .slice A8 n8 c8, .slice A0 n0 c0, .slice A1 n1 c1]).heap.size = wS.heap.size := setL_size _ _ _ _
            generalize setL wS _ 0 _ = wE at *
            have u0_ := bR.cell (j := 0) rfl
            have u1_ := bR.cell (j := 1) rfl
            have u2_ := bR.cell (j := 2) rfl
            have u3_ := bR.cell (j := 3) rfl
            have F4 := (show (st ++ [yy]).length ≤ 5 by simp; omega)
            have F5 := hF2
            have F9 := hF3
            have O0 := o0.mono (Nat.le_refl _) (Nat.le_of_eq zS.symm)
            have O1 := o1.mono (Nat.le_refl _) (Nat.le_of_eq zS.symm)
            have O2 := o2.mono (Nat.le_refl _) (Nat.le_of_eq zS.symm)
            have hc2 : Cur wE g cv (k + 700) := hc.mono (by omega)
            refine bodyPost_ret (by simp only [results, Tryz.results48]; simp [go_sem, u0_, u1_, u2_, u3_]; rfl) rfl ?_
            first | exact ⟨_, _, _, _, _, _, _, rfl, F4, F5, F9, O0, O1, O2, hG, hc2⟩ | exact ⟨_, _, _, _, rfl, _, F4, _, F5, _, F9, O0, O1, O2, hG, hc2⟩
          · go_simp
            have bb := (Below.refl wy.heap.size wy).alloc (Nat.le_refl _) (.cells #[.int .i64 yy] 3)
            have bN := Box.new wy #[.int .i64 yy] 3 rfl
            replace hq := hq.below HF bb
            clear bb
            generalize wy.alloc _ = wa at *
            generalize wy.heap.size = gN at *
            refine hK6b.out _ _ trivial (fun _ => ?_)
            refine wpAnyH_ready (rs := [1]) (by kernel_rfl) (by decide) ?_
            refine AllReadyH.cons rfl (fun K10 hK10 => ?_) AllReadyH.nil
            have bq0 := hq.q.cell (j := 0) rfl
            have bq1 := hq.q.cell (j := 1) rfl
            have bq2 := hq.q.cell (j := 2) rfl
            have bq3 := hq.q.cell (j := 3) rfl
            have bqz := hq.q.frozen
            have bql := hq.q.lt
            go_simp
            clear bq0 bq1 bq2 bq3 bqz bql
            refine hK10.out _ _ trivial (fun _ => ?_)
            refine wpAnyH_ready (rs := [5]) (by kernel_rfl) (by decide) ?_
            refine AllReadyH.cons rfl (fun K11 hK11 => ?_) AllReadyH.nil
            refine Nm.appK_ow rfl _ _ rfl rfl hq.ot gN 1 yy rfl (fun j u hu => by rcases j with _ | j <;> simp [Nm.cells] at hu <;> subst hu <;> exact bN.cell (j := 0) rfl) (by omega) hq.size (Nat.le_refl _) ?_
            intro v8 w8 row8 o8 g8 r8
            obtain ⟨A8, n8, c8, rfl, _, _, _⟩ := o8.rd.form
            have bq8 := hq.app_box g8 r8
            replace hq := hq.app HF g8 r8 o8
            refine hK11.out _ _ trivial (fun _ => ?_)
            have hHeld : (fun (_ : World) => True) w8 := trivial
            refine wpAnyH_take (i := 6) (v := .pointer (some ⟨gQ, 1, none⟩)) rfl (by kernel_rfl) (by kernel_rfl) (by kernel_rfl) (fun _ _ _ h => h) (Or.inl ⟨by rfl, by intro w hSw; go_simp⟩) hHeld ?_
            clear hHeld
            refine wpAnyH_ready (rs := [7]) (by kernel_rfl) (by decide) ?_
            refine AllReadyH.cons rfl (fun K12 hK12 => ?_) AllReadyH.nil
            have bq0 := bq8.cell (j := 0) rfl
            have bq1 := bq8.cell (j := 1) rfl
            have bq2 := bq8.cell (j := 2) rfl
            have bq3 := bq8.cell (j := 3) rfl
            have bqz := bq8.frozen
            have bql := bq8.lt
            go_simp
            clear bq0 bq1 bq2 bq3 bqz bql bq8
            generalize hwz : World.setCell _ _ _ = wz_
            obtain rfl : wz_ = setL w8 gQ 1 [.slice A8 n8 c8] := hwz.symm
            clear hwz
            generalize setL w8 _ 1 _ = wS at *
            refine hK12.out _ _ trivial (fun _ => ?_)
            refine ⟨by kernel_rfl, ?_⟩
            have bq0 := hq.q.cell (j := 0) rfl
            have bq1 := hq.q.cell (j := 1) rfl
            have bq2 := hq.q.cell (j := 2) rfl
            have bq3 := hq.q.cell (j := 3) rfl
            have bqz := hq.q.frozen
            have bql := hq.q.lt
            have br0 := hq.r.cell (j := 0) rfl
            have br1 := hq.r.cell (j := 1) rfl
            have br2 := hq.r.cell (j := 2) rfl
            have br3 := hq.r.cell (j := 3) rfl
            have brz := hq.r.frozen
            have brl := hq.r.lt
            go_wp2_with fail
            clear br0 br1 br2 br3 brz brl
            clear bq0 bq1 bq2 bq3 bqz bql
            generalize hwz : World.setCell (World.setCell (World.setCell (World.setCell _ _ _) _ _) _ _) _ _ = wz_
            obtain rfl : wz_ = setL wS (w.heap.size) 0 [.int .i64 16, .slice A8 n8 c8, .slice A0 n0 c0, .slice A1 n1 c1] := hwz.symm
            clear hwz
            have o0 := hq.ot.box hq.r (by decide) 0 [.int .i64 16, .slice A8 n8 c8, .slice A0 n0 c0, .slice A1 n1 c1]
            have o1 := hq.os.box hq.r (by decide) 0 [.int .i64 16, .slice A8 n8 c8, .slice A0 n0 c0, .slice A1 n1 c1]
            have o2 := hq.ow.box hq.r (by decide) 0 [.int .i64 16, .slice A8 n8 c8, .slice A0 n0 c0, .slice A1 n1 c1]
            have gS := setL_grown [.int .i64 16, .slice A8 n8 c8, .slice A0 n0 c0, .slice A1 n1 c1] wS (w.heap.size) 0
            have hG := grown_new hq.G gS (fun q e => by injection e with e; omega)
            have hc := hq.c.other gS (by omega)
            have bR := hq.r.setAll [.int .i64 16, .slice A8 n8 c8, .slice A0 n0 c0, .slice A1 n1 c1] rfl
            have zS : (setL wS (w.heap.size) 0 [.int .i64 16, .slice A8 n8 c8, .slice A0 n0 c0, .slice A1 n1 c1]).heap.size = wS.heap.size := setL_size _ _ _ _
            generalize setL wS _ 0 _ = wE at *
            have u0_ := bR.cell (j := 0) rfl
            have u1_ := bR.cell (j := 1) rfl
            have u2_ := bR.cell (j := 2) rfl
            have u3_ := bR.cell (j := 3) rfl
            have F4 := (show (st ++ [yy]).length ≤ 5 by simp; omega)
            have F5 := hF2
            have F9 := hF3
            have O0 := o0.mono (Nat.le_refl _) (Nat.le_of_eq zS.symm)
            have O1 := o1.mono (Nat.le_refl _) (Nat.le_of_eq zS.symm)
            have O2 := o2.mono (Nat.le_refl _) (Nat.le_of_eq zS.symm)
            have hc2 : Cur wE g cv (k + 700) := hc.mono (by omega)
            refine bodyPost_ret (by simp only [results, Tryz.results48]; simp [go_sem, u0_, u1_, u2_, u3_]; rfl) rfl ?_
            first | exact ⟨_, _, _, _, _, _, _, rfl, F4, F5, F9, O0, O1, O2, hG, hc2⟩ | exact ⟨_, _, _, _, rfl, _, F4, _, F5, _, F9, O0, O1, O2, hG, hc2⟩
      · subst h2
        have bq0 := hq.q.cell (j := 0) rfl
        have bq1 := hq.q.cell (j := 1) rfl
        have bq2 := hq.q.cell (j := 2) rfl
        have bq3 := hq.q.cell (j := 3) rfl
        have bqz := hq.q.frozen
        have bql := hq.q.lt
        go_wp2_with fail
        clear bq0 bq1 bq2 bq3 bqz bql
        have zb := hq.size
        refine (queue_any g _ _ l _ hq.h (DF.hle HF hq) hg hq.c (by omega)).mono ?_; rintro q_ wo ⟨v5, v6, l5, l6, rfl, _, n5_, n6_, o5, o6, gg, kk⟩
        obtain ⟨A5, n5, c5, rfl, _, _, _⟩ := o5.rd.form
        obtain ⟨A6, n6, c6, rfl, _, _, _⟩ := o6.rd.form
        replace hq := hq.pick HF gg kk
        clear gg kk
        have bq0 := hq.q.cell (j := 0) rfl
        have bq1 := hq.q.cell (j := 1) rfl
        have bq2 := hq.q.cell (j := 2) rfl
        have bq3 := hq.q.cell (j := 3) rfl
        have bqz := hq.q.frozen
        have bql := hq.q.lt
        have br0 := hq.r.cell (j := 0) rfl
        have br1 := hq.r.cell (j := 1) rfl
        have br2 := hq.r.cell (j := 2) rfl
        have br3 := hq.r.cell (j := 3) rfl
        have brz := hq.r.frozen
        have brl := hq.r.lt
        go_upto_region 24 with fail
        clear br0 br1 br2 br3 brz brl
        clear bq0 bq1 bq2 bq3 bqz bql
        generalize hwz : World.setCell (World.setCell _ _ _) _ _ = wz_
        obtain rfl : wz_ = setL wo gQ 2 [.slice A5 n5 c5, .slice A6 n6 c6] := hwz.symm
        clear hwz
        replace hq := hq.store23 HF (o5.mono zb (Nat.le_refl _)) (o6.mono zb (Nat.le_refl _))
        generalize setL wo _ 2 _ = wS at *
        have bq0 := hq.q.cell (j := 0) rfl
        have bq1 := hq.q.cell (j := 1) rfl
        have bq2 := hq.q.cell (j := 2) rfl
        have bq3 := hq.q.cell (j := 3) rfl
        have bqz := hq.q.frozen
        have bql := hq.q.lt
        have br0 := hq.r.cell (j := 0) rfl
        have br1 := hq.r.cell (j := 1) rfl
        have br2 := hq.r.cell (j := 2) rfl
        have br3 := hq.r.cell (j := 3) rfl
        have brz := hq.r.frozen
        have brl := hq.r.lt
        go_wp2_with fail
        clear br0 br1 br2 br3 brz brl
        clear bq0 bq1 bq2 bq3 bqz bql
        generalize hwz : World.setCell (World.setCell (World.setCell (World.setCell _ _ _) _ _) _ _) _ _ = wz_
        obtain rfl : wz_ = setL wS (w.heap.size) 0 [.int .i64 16, .slice At nt ct, .slice A5 n5 c5, .slice A6 n6 c6] := hwz.symm
        clear hwz
        have o0 := hq.ot.box hq.r (by decide) 0 [.int .i64 16, .slice At nt ct, .slice A5 n5 c5, .slice A6 n6 c6]
        have o1 := hq.os.box hq.r (by decide) 0 [.int .i64 16, .slice At nt ct, .slice A5 n5 c5, .slice A6 n6 c6]
        have o2 := hq.ow.box hq.r (by decide) 0 [.int .i64 16, .slice At nt ct, .slice A5 n5 c5, .slice A6 n6 c6]
        have gS := setL_grown [.int .i64 16, .slice At nt ct, .slice A5 n5 c5, .slice A6 n6 c6] wS (w.heap.size) 0
        have hG := grown_new hq.G gS (fun q e => by injection e with e; omega)
        have hc := hq.c.other gS (by omega)
        have bR := hq.r.setAll [.int .i64 16, .slice At nt ct, .slice A5 n5 c5, .slice A6 n6 c6] rfl
        have zS : (setL wS (w.heap.size) 0 [.int .i64 16, .slice At nt ct, .slice A5 n5 c5, .slice A6 n6 c6]).heap.size = wS.heap.size := setL_size _ _ _ _
        generalize setL wS _ 0 _ = wE at *
        have u0_ := bR.cell (j := 0) rfl
        have u1_ := bR.cell (j := 1) rfl
        have u2_ := bR.cell (j := 2) rfl
        have u3_ := bR.cell (j := 3) rfl
        have F4 : st.length ≤ 5 := by omega
        have F5 := n5_
        have F9 := n6_
        have O0 := o0.mono (Nat.le_refl _) (Nat.le_of_eq zS.symm)
        have O1 := o1.mono (Nat.le_refl _) (Nat.le_of_eq zS.symm)
        have O2 := o2.mono (Nat.le_refl _) (Nat.le_of_eq zS.symm)
        have hc2 : Cur wE g cv (k + 700) := hc.mono (by omega)
        refine bodyPost_ret (by simp only [results, Tryz.results48]; simp [go_sem, u0_, u1_, u2_, u3_]; rfl) rfl ?_
        first | exact ⟨_, _, _, _, _, _, _, rfl, F4, F5, F9, O0, O1, O2, hG, hc2⟩ | exact ⟨_, _, _, _, rfl, _, F4, _, F5, _, F9, O0, O1, O2, hG, hc2⟩
    · have bq0 := hq.q.cell (j := 0) rfl
      have bq1 := hq.q.cell (j := 1) rfl
      have bq2 := hq.q.cell (j := 2) rfl
      have bq3 := hq.q.cell (j := 3) rfl
      have bqz := hq.q.frozen
      have bql := hq.q.lt
      go_wp2_with fail
      clear bq0 bq1 bq2 bq3 bqz bql
      have rl := lit_ints wp_z0 [0, 4, 8, 15] #[.int .i64 0, .int .i64 4, .int .i64 8, .int .i64 15] 4 rfl rfl (by decide)
      have zl : (wp_z0.alloc (.cells #[.int .i64 0, .int .i64 4, .int .i64 8, .int .i64 15] 3)).heap.size = wp_z0.heap.size + 1 := by simp
      have zgl := hq.c.lt
      replace hq := hq.below HF ((Below.refl _ _).alloc (Nat.le_refl _) (.cells #[.int .i64 0, .int .i64 4, .int .i64 8, .int .i64 15] 3))
      generalize wp_z0.alloc _ = wl_m8 at *
      generalize wp_z0.heap.size = gl_m8 at *
      refine (among_any g _ _ _ l [0, 4, 8, 15] _ hq.h (DF.hle HF hq) hg rl (by omega) (by omega) (by decide) (by decide) hq.c (by omega)).mono ?_; rintro q_ wp_m8 ⟨m8, rfl, gg, kk⟩
      replace hq := hq.pick HF gg kk
      clear gg kk rl zl zgl
      have bq0 := hq.q.cell (j := 0) rfl
      have bq1 := hq.q.cell (j := 1) rfl
      have bq2 := hq.q.cell (j := 2) rfl
      have bq3 := hq.q.cell (j := 3) rfl
      have bqz := hq.q.frozen
      have bql := hq.q.lt
      have br0 := hq.r.cell (j := 0) rfl
      have br1 := hq.r.cell (j := 1) rfl
      have br2 := hq.r.cell (j := 2) rfl
      have br3 := hq.r.cell (j := 3) rfl
      have brz := hq.r.frozen
      have brl := hq.r.lt
      go_upto_region 17 with fail
      clear br0 br1 br2 br3 brz brl
      clear bq0 bq1 bq2 bq3 bqz bql
      generalize hwz : World.setCell _ _ _ = wz_
      obtain rfl : wz_ = setL wp_m8 gQ 0 [.int .i64 m8] := hwz.symm
      clear hwz
      replace hq := hq.store0 HF m8
      generalize setL wp_m8 _ 0 _ = wM at *
      have bq0 := hq.q.cell (j := 0) rfl
      have bq1 := hq.q.cell (j := 1) rfl
      have bq2 := hq.q.cell (j := 2) rfl
      have bq3 := hq.q.cell (j := 3) rfl
      have bqz := hq.q.frozen
      have bql := hq.q.lt
      go_wp2_with fail
      clear bq0 bq1 bq2 bq3 bqz bql
      refine (pick_any g _ _ l 24 _ hq.h (DF.hle HF hq) hg hq.c (by omega) (by omega)).mono ?_; rintro q_ wp_z1 ⟨z1, rfl, z1_0, z1_1, gg, kk⟩
      replace hq := hq.pick HF gg kk
      clear gg kk
      by_cases h0 : z1 = 0
      rotate_left
      by_cases h1 : z1 = 1
      rotate_left
      by_cases h2 : z1 = 2
      rotate_left
      · have h0b : (z1 == 0) = false := by rw [beq_eq_false_iff_ne]; exact h0
        have h1b : (z1 == 1) = false := by rw [beq_eq_false_iff_ne]; exact h1
        have h2b : (z1 == 2) = false := by rw [beq_eq_false_iff_ne]; exact h2
        have bq0 := hq.q.cell (j := 0) rfl
        have bq1 := hq.q.cell (j := 1) rfl
        have bq2 := hq.q.cell (j := 2) rfl
        have bq3 := hq.q.cell (j := 3) rfl
        have bqz := hq.q.frozen
        have bql := hq.q.lt
        have br0 := hq.r.cell (j := 0) rfl
        have br1 := hq.r.cell (j := 1) rfl
        have br2 := hq.r.cell (j := 2) rfl
        have br3 := hq.r.cell (j := 3) rfl
        have brz := hq.r.frozen
        have brl := hq.r.lt
        go_wp2_with fail
        clear br0 br1 br2 br3 brz brl
        clear bq0 bq1 bq2 bq3 bqz bql
        generalize hwz : World.setCell (World.setCell (World.setCell (World.setCell _ _ _) _ _) _ _) _ _ = wz_
        obtain rfl : wz_ = setL wp_z1 (w.heap.size) 0 [.int .i64 m8, .slice At nt ct, .slice A0 n0 c0, .slice A1 n1 c1] := hwz.symm
        clear hwz
        have o0 := hq.ot.box hq.r (by decide) 0 [.int .i64 m8, .slice At nt ct, .slice A0 n0 c0, .slice A1 n1 c1]
        have o1 := hq.os.box hq.r (by decide) 0 [.int .i64 m8, .slice At nt ct, .slice A0 n0 c0, .slice A1 n1 c1]
        have o2 := hq.ow.box hq.r (by decide) 0 [.int .i64 m8, .slice At nt ct, .slice A0 n0 c0, .slice A1 n1 c1]
        have gS := setL_grown [.int .i64 m8, .slice At nt ct, .slice A0 n0 c0, .slice A1 n1 c1] wp_z1 (w.heap.size) 0
        have hG := grown_new hq.G gS (fun q e => by injection e with e; omega)
        have hc := hq.c.other gS (by omega)
        have bR := hq.r.setAll [.int .i64 m8, .slice At nt ct, .slice A0 n0 c0, .slice A1 n1 c1] rfl
        have zS : (setL wp_z1 (w.heap.size) 0 [.int .i64 m8, .slice At nt ct, .slice A0 n0 c0, .slice A1 n1 c1]).heap.size = wp_z1.heap.size := setL_size _ _ _ _
        generalize setL wp_z1 _ 0 _ = wE at *
        have u0_ := bR.cell (j := 0) rfl
        have u1_ := bR.cell (j := 1) rfl
        have u2_ := bR.cell (j := 2) rfl
        have u3_ := bR.cell (j := 3) rfl
        have F4 : st.length ≤ 5 := by omega
        have F5 := hF2
        have F9 := hF3
        have O0 := o0.mono (Nat.le_refl _) (Nat.le_of_eq zS.symm)
        have O1 := o1.mono (Nat.le_refl _) (Nat.le_of_eq zS.symm)
        have O2 := o2.mono (Nat.le_refl _) (Nat.le_of_eq zS.symm)
        have hc2 : Cur wE g cv (k + 700) := hc.mono (by omega)
        refine bodyPost_ret (by simp only [results, Tryz.results48]; simp [go_sem, u0_, u1_, u2_, u3_]; rfl) rfl ?_
        first | exact ⟨_, _, _, _, _, _, _, rfl, F4, F5, F9, O0, O1, O2, hG, hc2⟩ | exact ⟨_, _, _, _, rfl, _, F4, _, F5, _, F9, O0, O1, O2, hG, hc2⟩
      · subst h0
        have bq0 := hq.q.cell (j := 0) rfl
        have bq1 := hq.q.cell (j := 1) rfl
        have bq2 := hq.q.cell (j := 2) rfl
        have bq3 := hq.q.cell (j := 3) rfl
        have bqz := hq.q.frozen
        have bql := hq.q.lt
        go_wp2_with fail
        clear bq0 bq1 bq2 bq3 bqz bql
        have rl := lit_ints wp_z1 [-1, 17] #[.int .i64 (-1), .int .i64 17] 2 rfl rfl (by decide)
        have zl : (wp_z1.alloc (.cells #[.int .i64 (-1), .int .i64 17] 3)).heap.size = wp_z1.heap.size + 1 := by simp
        have zgl := hq.c.lt
        replace hq := hq.below HF ((Below.refl _ _).alloc (Nat.le_refl _) (.cells #[.int .i64 (-1), .int .i64 17] 3))
        generalize wp_z1.alloc _ = wl_m9 at *
        generalize wp_z1.heap.size = gl_m9 at *
        refine (among_any g _ _ _ l [-1, 17] _ hq.h (DF.hle HF hq) hg rl (by omega) (by omega) (by decide) (by decide) hq.c (by omega)).mono ?_; rintro q_ wp_m9 ⟨m9, rfl, gg, kk⟩
        replace hq := hq.pick HF gg kk
        clear gg kk rl zl zgl
        have bq0 := hq.q.cell (j := 0) rfl
        have bq1 := hq.q.cell (j := 1) rfl
        have bq2 := hq.q.cell (j := 2) rfl
        have bq3 := hq.q.cell (j := 3) rfl
        have bqz := hq.q.frozen
        have bql := hq.q.lt
        have br0 := hq.r.cell (j := 0) rfl
        have br1 := hq.r.cell (j := 1) rfl
        have br2 := hq.r.cell (j := 2) rfl
        have br3 := hq.r.cell (j := 3) rfl
        have brz := hq.r.frozen
        have brl := hq.r.lt
        go_upto_region 24 with fail
        clear br0 br1 br2 br3 brz brl
        clear bq0 bq1 bq2 bq3 bqz bql
        generalize hwz : World.setCell _ _ _ = wz_
        obtain rfl : wz_ = setL wp_m9 gQ 0 [.int .i64 m9] := hwz.symm
        clear hwz
        replace hq := hq.store0 HF m9
        generalize setL wp_m9 _ 0 _ = wS at *
        have bq0 := hq.q.cell (j := 0) rfl
        have bq1 := hq.q.cell (j := 1) rfl
        have bq2 := hq.q.cell (j := 2) rfl
        have bq3 := hq.q.cell (j := 3) rfl
        have bqz := hq.q.frozen
        have bql := hq.q.lt
        have br0 := hq.r.cell (j := 0) rfl
        have br1 := hq.r.cell (j := 1) rfl
        have br2 := hq.r.cell (j := 2) rfl
        have br3 := hq.r.cell (j := 3) rfl
        have brz := hq.r.frozen
        have brl := hq.r.lt
        go_wp2_with fail
        clear br0 br1 br2 br3 brz brl
        clear bq0 bq1 bq2 bq3 bqz bql
        generalize hwz : World.setCell (World.setCell (World.setCell (World.setCell _ _ _) _ _) _ _) _ _ = wz_
        obtain rfl : wz_ = setL wS (w.heap.size) 0 [.int .i64 m9, .slice At nt ct, .slice A0 n0 c0, .slice A1 n1 c1] := hwz.symm
        clear hwz
        have o0 := hq.ot.box hq.r (by decide) 0 [.int .i64 m9, .slice At nt ct, .slice A0 n0 c0, .slice A1 n1 c1]
        have o1 := hq.os.box hq.r (by decide) 0 [.int .i64 m9, .slice At nt ct, .slice A0 n0 c0, .slice A1 n1 c1]
        have o2 := hq.ow.box hq.r (by decide) 0 [.int .i64 m9, .slice At nt ct, .slice A0 n0 c0, .slice A1 n1 c1]
        have gS := setL_grown [.int .i64 m9, .slice At nt ct, .slice A0 n0 c0, .slice A1 n1 c1] wS (w.heap.size) 0
        have hG := grown_new hq.G gS (fun q e => by injection e with e; omega)
        have hc := hq.c.other gS (by omega)
        have bR := hq.r.setAll [.int .i64 m9, .slice At nt ct, .slice A0 n0 c0, .slice A1 n1 c1] rfl
        have zS : (setL wS (w.heap.size) 0 [.int .i64 m9, .slice At nt ct, .slice A0 n0 c0, .slice A1 n1 c1]).heap.size = wS.heap.size := setL_size _ _ _ _
        generalize setL wS _ 0 _ = wE at *
        have u0_ := bR.cell (j := 0) rfl
        have u1_ := bR.cell (j := 1) rfl
        have u2_ := bR.cell (j := 2) rfl
        have u3_ := bR.cell (j := 3) rfl
        have F4 : st.length ≤ 5 := by omega
        have F5 := hF2
        have F9 := hF3
        have O0 := o0.mono (Nat.le_refl _) (Nat.le_of_eq zS.symm)
        have O1 := o1.mono (Nat.le_refl _) (Nat.le_of_eq zS.symm)
        have O2 := o2.mono (Nat.le_refl _) (Nat.le_of_eq zS.symm)
        have hc2 : Cur wE g cv (k + 700) := hc.mono (by omega)
        refine bodyPost_ret (by simp only [results, Tryz.results48]; simp [go_sem, u0_, u1_, u2_, u3_]; rfl) rfl ?_
        first | exact ⟨_, _, _, _, _, _, _, rfl, F4, F5, F9, O0, O1, O2, hG, hc2⟩ | exact ⟨_, _, _, _, rfl, _, F4, _, F5, _, F9, O0, O1, O2, hG, hc2⟩
      · subst h1
        have hnt : nt ≤ 4 := by have := hq.ot.rd.n_eq.1; omega
        have bq0 := hq.q.cell (j := 0) rfl
        have bq1 := hq.q.cell (j := 1) rfl
        have bq2 := hq.q.cell (j := 2) rfl
        have bq3 := hq.q.cell (j := 3) rfl
        have bqz := hq.q.frozen
        have bql := hq.q.lt
        go_upto_region 21 with fail
        clear bq0 bq1 bq2 bq3 bqz bql
        have hkq := hq.c
        refine wp_region_held_drew (S := fun _ => True) (by kernel_rfl) trivial (fun hHeld => ?_)
        refine wpAnyH_take (i := 0) (v := .pointer (some ⟨gQ, 1, none⟩)) rfl (by kernel_rfl) (by kernel_rfl) (by kernel_rfl) (fun _ _ _ h => h) (Or.inl ⟨by rfl, by intro w hSw; go_simp⟩) hHeld ?_
        refine wpAnyH_take (i := 2) (v := .pointer (some ⟨g, 0, none⟩)) rfl (by kernel_rfl) (by kernel_rfl) (by kernel_rfl) (fun _ _ _ h => h) (Or.inl ⟨by rfl, by intro w hSw; go_simp⟩) hHeld ?_
        clear hHeld hkq
        refine held_gen (F := fun W' => DF w g cv l lo hi _ W' gQ m8 (.slice At nt ct) (.slice A0 n0 c0) (.slice A1 n1 c1) st ls lw) (hq.below HF (Below.refl _ _).drew) ?_
        clear hq
        rintro wh hq
        refine wpAnyH_ready (rs := [1, 3]) (by kernel_rfl) (by decide) ?_
        refine AllReadyH.cons rfl (fun K13a hK13a => ?_) (AllReadyH.cons rfl (fun K13b hK13b => ?_) AllReadyH.nil)
        · have bq0 := hq.q.cell (j := 0) rfl
          have bq1 := hq.q.cell (j := 1) rfl
          have bq2 := hq.q.cell (j := 2) rfl
          have bq3 := hq.q.cell (j := 3) rfl
          have bqz := hq.q.frozen
          have bql := hq.q.lt
          go_simp
          clear bq0 bq1 bq2 bq3 bqz bql
          refine hK13a.out _ _ trivial (fun _ => ?_)
          refine wpAnyH_ready (rs := [3]) (by kernel_rfl) (by decide) ?_
          refine AllReadyH.cons rfl (fun K14 hK14 => ?_) AllReadyH.nil
          go_simp
          refine (pick_any g _ _ l 8 _ hq.h (DF.hle HF hq) hg hq.c (by omega) (by omega)).mono ?_; rintro q_ wy ⟨yy, rfl, yy_0, yy_1, gg, kk⟩
          replace hq := hq.pick HF gg kk
          clear gg kk
          refine hK14.out _ _ trivial (fun _ => ?_)
          refine wpAnyH_ready (rs := [4]) (by kernel_rfl) (by decide) ?_
          refine AllReadyH.cons rfl (fun K15 hK15 => ?_) AllReadyH.nil
          go_simp
          have bb := (Below.refl wy.heap.size wy).alloc (Nat.le_refl _) (.cells #[.int .i64 yy] 3)
          have bN := Box.new wy #[.int .i64 yy] 3 rfl
          replace hq := hq.below HF bb
          clear bb
          generalize wy.alloc _ = wa at *
          generalize wy.heap.size = gN at *
          refine hK15.out _ _ trivial (fun _ => ?_)
          refine wpAnyH_ready (rs := [5]) (by kernel_rfl) (by decide) ?_
          refine AllReadyH.cons rfl (fun K16 hK16 => ?_) AllReadyH.nil
          refine Nm.appK_ow rfl _ _ rfl rfl hq.ot gN 1 yy rfl (fun j u hu => by rcases j with _ | j <;> simp [Nm.cells] at hu <;> subst hu <;> exact bN.cell (j := 0) rfl) (by omega) hq.size (Nat.le_refl _) ?_
          intro v8 w8 row8 o8 g8 r8
          obtain ⟨A8, n8, c8, rfl, _, _, _⟩ := o8.rd.form
          have bq8 := hq.app_box g8 r8
          replace hq := hq.app HF g8 r8 o8
          refine hK16.out _ _ trivial (fun _ => ?_)
          have hHeld : (fun (_ : World) => True) w8 := trivial
          refine wpAnyH_take (i := 6) (v := .pointer (some ⟨gQ, 1, none⟩)) rfl (by kernel_rfl) (by kernel_rfl) (by kernel_rfl) (fun _ _ _ h => h) (Or.inl ⟨by rfl, by intro w hSw; go_simp⟩) hHeld ?_
          clear hHeld
          refine wpAnyH_ready (rs := [7]) (by kernel_rfl) (by decide) ?_
          refine AllReadyH.cons rfl (fun K17 hK17 => ?_) AllReadyH.nil
          have bq0 := bq8.cell (j := 0) rfl
          have bq1 := bq8.cell (j := 1) rfl
          have bq2 := bq8.cell (j := 2) rfl
          have bq3 := bq8.cell (j := 3) rfl
          have bqz := bq8.frozen
          have bql := bq8.lt
          go_simp
          clear bq0 bq1 bq2 bq3 bqz bql bq8
          generalize hwz : World.setCell _ _ _ = wz_
          obtain rfl : wz_ = setL w8 gQ 1 [.slice A8 n8 c8] := hwz.symm
          clear hwz
          generalize setL w8 _ 1 _ = wS at *
          refine hK17.out _ _ trivial (fun _ => ?_)
          refine ⟨by kernel_rfl, ?_⟩
          have bq0 := hq.q.cell (j := 0) rfl
          have bq1 := hq.q.cell (j := 1) rfl
          have bq2 := hq.q.cell (j := 2) rfl
          have bq3 := hq.q.cell (j := 3) rfl
          have bqz := hq.q.frozen
          have bql := hq.q.lt
          have br0 := hq.r.cell (j := 0) rfl
          have br1 := hq.r.cell (j := 1) rfl
          have br2 := hq.r.cell (j := 2) rfl
          have br3 := hq.r.cell (j := 3) rfl
          have brz := hq.r.frozen
          have brl := hq.r.lt
          go_wp2_with fail
          clear br0 br1 br2 br3 brz brl
          clear bq0 bq1 bq2 bq3 bqz bql
          generalize hwz : World.setCell (World.setCell (World.setCell (World.setCell _ _ _) _ _) _ _) _ _ = wz_
          obtain rfl : wz_ = setL wS (w.heap.size) 0 [.int .i64 m8, .slice A8 n8 c8, .slice A0 n0 c0, .slice A1 n1 c1] := hwz.symm
          clear hwz
          have o0 := hq.ot.box hq.r (by decide) 0 [.int .i64 m8, .slice A8 n8 c8, .slice A0 n0 c0, .slice A1 n1 c1]
          have o1 := hq.os.box hq.r (by decide) 0 [.int .i64 m8, .slice A8 n8 c8, .slice A0 n0 c0, .slice A1 n1 c1]
          have o2 := hq.ow.box hq.r (by decide) 0 [.int .i64 m8, .slice A8 n8 c8, .slice A0 n0 c0, .slice A1 n1 c1]
          have gS := setL_grown [.int .i64 m8, .slice A8 n8 c8, .slice A0 n0 c0, .slice A1 n1 c1] wS (w.heap.size) 0
          have hG := grown_new hq.G gS (fun q e => by injection e with e; omega)
          have hc := hq.c.other gS (by omega)
          have bR := hq.r.setAll [.int .i64 m8, .slice A8 n8 c8, .slice A0 n0 c0, .slice A1 n1 c1] rfl
          have zS : (setL wS (w.heap.size) 0 [.int .i64 m8, .slice A8 n8 c8, .slice A0 n0 c0, .slice A1 n1 c1]).heap.size = wS.heap.size := setL_size _ _ _ _
          generalize setL wS _ 0 _ = wE at *
          have u0_ := bR.cell (j := 0) rfl
          have u1_ := bR.cell (j := 1) rfl
          have u2_ := bR.cell (j := 2) rfl
          have u3_ := bR.cell (j := 3) rfl
          have F4 := (show (st ++ [yy]).length ≤ 5 by simp; omega)
          have F5 := hF2
          have F9 := hF3
          have O0 := o0.mono (Nat.le_refl _) (Nat.le_of_eq zS.symm)
          have O1 := o1.mono (Nat.le_refl _) (Nat.le_of_eq zS.symm)
          have O2 := o2.mono (Nat.le_refl _) (Nat.le_of_eq zS.symm)
          have hc2 : Cur wE g cv (k + 700) := hc.mono (by omega)
          refine bodyPost_ret (by simp only [results, Tryz.results48]; simp [go_sem, u0_, u1_, u2_, u3_]; rfl) rfl ?_
          first | exact ⟨_, _, _, _, _, _, _, rfl, F4, F5, F9, O0, O1, O2, hG, hc2⟩ | exact ⟨_, _, _, _, rfl, _, F4, _, F5, _, F9, O0, O1, O2, hG, hc2⟩
        · go_simp
          refine (pick_any g _ _ l 8 _ hq.h (DF.hle HF hq) hg hq.c (by omega) (by omega)).mono ?_; rintro q_ wy ⟨yy, rfl, yy_0, yy_1, gg, kk⟩
          replace hq := hq.pick HF gg kk
          clear gg kk
          refine hK13b.out _ _ trivial (fun _ => ?_)
          refine wpAnyH_ready (rs := [1, 4]) (by kernel_rfl) (by decide) ?_
          refine AllReadyH.cons rfl (fun K18a hK18a => ?_) (AllReadyH.cons rfl (fun K18b hK18b => ?_) AllReadyH.nil)
          · have bq0 := hq.q.cell (j := 0) rfl
            have bq1 := hq.q.cell (j := 1) rfl
            have bq2 := hq.q.cell (j := 2) rfl
            have bq3 := hq.q.cell (j := 3) rfl
            have bqz := hq.q.frozen
            have bql := hq.q.lt
            go_simp
            clear bq0 bq1 bq2 bq3 bqz bql
            refine hK18a.out _ _ trivial (fun _ => ?_)
            refine wpAnyH_ready (rs := [4]) (by kernel_rfl) (by decide) ?_
            refine AllReadyH.cons rfl (fun K19 hK19 => ?_) AllReadyH.nil
            go_simp
            have bb := (Below.refl wy.heap.size wy).alloc (Nat.le_refl _) (.cells #[.int .i64 yy] 3)
            have bN := Box.new wy #[.int .i64 yy] 3 rfl
            replace hq := hq.below HF bb
            clear bb
            generalize wy.alloc _ = wa at *
            generalize wy.heap.size = gN at *
            refine hK19.out _ _ trivial (fun _ => ?_)
            refine wpAnyH_ready (rs := [5]) (by kernel_rfl) (by decide) ?_
            refine AllReadyH.cons rfl (fun K20 hK20 => ?_) AllReadyH.nil
            refine Nm.appK_ow rfl _ _ rfl rfl hq.ot gN 1 yy rfl (fun j u hu => by rcases j with _ | j <;> simp [Nm.cells] at hu <;> subst hu <;> exact bN.cell (j := 0) rfl) (by omega) hq.size (Nat.le_refl _) ?_
            intro v8 w8 row8 o8 g8 r8
            obtain ⟨A8, n8, c8, rfl, _, _, _⟩ := o8.rd.form
            have bq8 := hq.app_box g8 r8
            replace hq := hq.app HF g8 r8 o8
            refine hK20.out _ _ trivial (fun _ => ?_)
            have hHeld : (fun (_ : World) => True) w8 := trivial
            refine wpAnyH_take (i := 6) (v := .pointer (some ⟨gQ, 1, none⟩)) rfl (by kernel_rfl) (by kernel_rfl) (by kernel_rfl) (fun _ _ _ h => h) (Or.inl ⟨by rfl, by intro w hSw; go_simp⟩) hHeld ?_
            clear hHeld
            refine wpAnyH_ready (rs := [7]) (by kernel_rfl) (by decide) ?_
            refine AllReadyH.cons rfl (fun K21 hK21 => ?_) AllReadyH.nil
            have bq0 := bq8.cell (j := 0) rfl
            have bq1 := bq8.cell (j := 1) rfl
            have bq2 := bq8.cell (j := 2) rfl
            have bq3 := bq8.cell (j := 3) rfl
            have bqz := bq8.frozen
            have bql := bq8.lt
            go_simp
            clear bq0 bq1 bq2 bq3 bqz bql bq8
            generalize hwz : World.setCell _ _ _ = wz_
            obtain rfl : wz_ = setL w8 gQ 1 [.slice A8 n8 c8] := hwz.symm
            clear hwz
            generalize setL w8 _ 1 _ = wS at *
            refine hK21.out _ _ trivial (fun _ => ?_)
            refine ⟨by kernel_rfl, ?_⟩
            have bq0 := hq.q.cell (j := 0) rfl
            have bq1 := hq.q.cell (j := 1) rfl
            have bq2 := hq.q.cell (j := 2) rfl
            have bq3 := hq.q.cell (j := 3) rfl
            have bqz := hq.q.frozen
            have bql := hq.q.lt
            have br0 := hq.r.cell (j := 0) rfl
            have br1 := hq.r.cell (j := 1) rfl
            have br2 := hq.r.cell (j := 2) rfl
            have br3 := hq.r.cell (j := 3) rfl
            have brz := hq.r.frozen
            have brl := hq.r.lt
            go_wp2_with fail
            clear br0 br1 br2 br3 brz brl
            clear bq0 bq1 bq2 bq3 bqz bql
            generalize hwz : World.setCell (World.setCell (World.setCell (World.setCell _ _ _) _ _) _ _) _ _ = wz_
            obtain rfl : wz_ = setL wS (w.heap.size) 0 [.int .i64 m8, .slice A8 n8 c8, .slice A0 n0 c0, .slice A1 n1 c1] := hwz.symm
            clear hwz
            have o0 := hq.ot.box hq.r (by decide) 0 [.int .i64 m8, .slice A8 n8 c8, .slice A0 n0 c0, .slice A1 n1 c1]
            have o1 := hq.os.box hq.r (by decide) 0 [.int .i64 m8, .slice A8 n8 c8, .slice A0 n0 c0, .slice A1 n1 c1]
            have o2 := hq.ow.box hq.r (by decide) 0 [.int .i64 m8, .slice A8 n8 c8, .slice A0 n0 c0, .slice A1 n1 c1]
            have gS := setL_grown [.int .i64 m8, .slice A8 n8 c8, .slice A0 n0 c0, .slice A1 n1 c1] wS (w.heap.size) 0
            have hG := grown_new hq.G gS (fun q e => by injection e with e; omega)
            have hc := hq.c.other gS (by omega)
            have bR := hq.r.setAll [.int .i64 m8, .slice A8 n8 c8, .slice A0 n0 c0, .slice A1 n1 c1] rfl
            have zS : (setL wS (w.heap.size) 0 [.int .i64 m8, .slice A8 n8 c8, .slice A0 n0 c0, .slice A1 n1 c1]).heap.size = wS.heap.size := setL_size _ _ _ _
            generalize setL wS _ 0 _ = wE at *
            have u0_ := bR.cell (j := 0) rfl
            have u1_ := bR.cell (j := 1) rfl
            have u2_ := bR.cell (j := 2) rfl
            have u3_ := bR.cell (j := 3) rfl
            have F4 := (show (st ++ [yy]).length ≤ 5 by simp; omega)
            have F5 := hF2
            have F9 := hF3
            have O0 := o0.mono (Nat.le_refl _) (Nat.le_of_eq zS.symm)
            have O1 := o1.mono (Nat.le_refl _) (Nat.le_of_eq zS.symm)
            have O2 := o2.mono (Nat.le_refl _) (Nat.le_of_eq zS.symm)
            have hc2 : Cur wE g cv (k + 700) := hc.mono (by omega)
            refine bodyPost_ret (by simp only [results, Tryz.results48]; simp [go_sem, u0_, u1_, u2_, u3_]; rfl) rfl ?_
            first | exact ⟨_, _, _, _, _, _, _, rfl, F4, F5, F9, O0, O1, O2, hG, hc2⟩ | exact ⟨_, _, _, _, rfl, _, F4, _, F5, _, F9, O0, O1, O2, hG, hc2⟩
          · go_simp
            have bb := (Below.refl wy.heap.size wy).alloc (Nat.le_refl _) (.cells #[.int .i64 yy] 3)
            have bN := Box.new wy #[.int .i64 yy] 3 rfl
            replace hq := hq.below HF bb
            clear bb
            generalize wy.alloc _ = wa at *
            generalize wy.heap.size = gN at *
            refine hK18b.out _ _ trivial (fun _ => ?_)
            refine wpAnyH_ready (rs := [1]) (by kernel_rfl) (by decide) ?_
            refine AllReadyH.cons rfl (fun K22 hK22 => ?_) AllReadyH.nil
            have bq0 := hq.q.cell (j := 0) rfl
            have bq1 := hq.q.cell (j := 1) rfl
            have bq2 := hq.q.cell (j := 2) rfl
            have bq3 := hq.q.cell (j := 3) rfl
            have bqz := hq.q.frozen
            have bql := hq.q.lt
            go_simp
            clear bq0 bq1 bq2 bq3 bqz bql
            refine hK22.out _ _ trivial (fun _ => ?_)
            refine wpAnyH_ready (rs := [5]) (by kernel_rfl) (by decide) ?_
            refine AllReadyH.cons rfl (fun K23 hK23 => ?_) AllReadyH.nil
            refine Nm.appK_ow rfl _ _ rfl rfl hq.ot gN 1 yy rfl (fun j u hu => by rcases j with _ | j <;> simp [Nm.cells] at hu <;> subst hu <;> exact bN.cell (j := 0) rfl) (by omega) hq.size (Nat.le_refl _) ?_
            intro v8 w8 row8 o8 g8 r8
            obtain ⟨A8, n8, c8, rfl, _, _, _⟩ := o8.rd.form
            have bq8 := hq.app_box g8 r8
            replace hq := hq.app HF g8 r8 o8
            refine hK23.out _ _ trivial (fun _ => ?_)
            have hHeld : (fun (_ : World) => True) w8 := trivial
            refine wpAnyH_take (i := 6) (v := .pointer (some ⟨gQ, 1, none⟩)) rfl (by kernel_rfl) (by kernel_rfl) (by kernel_rfl) (fun _ _ _ h => h) (Or.inl ⟨by rfl, by intro w hSw; go_simp⟩) hHeld ?_
            clear hHeld
            refine wpAnyH_ready (rs := [7]) (by kernel_rfl) (by decide) ?_
            refine AllReadyH.cons rfl (fun K24 hK24 => ?_) AllReadyH.nil
            have bq0 := bq8.cell (j := 0) rfl
            have bq1 := bq8.cell (j := 1) rfl
            have bq2 := bq8.cell (j := 2) rfl
            have bq3 := bq8.cell (j := 3) rfl
            have bqz := bq8.frozen
            have bql := bq8.lt
            go_simp
            clear bq0 bq1 bq2 bq3 bqz bql bq8
            generalize hwz : World.setCell _ _ _ = wz_
            obtain rfl : wz_ = setL w8 gQ 1 [.slice A8 n8 c8] := hwz.symm
            clear hwz
            generalize setL w8 _ 1 _ = wS at *
            refine hK24.out _ _ trivial (fun _ => ?_)
            refine ⟨by kernel_rfl, ?_⟩
            have bq0 := hq.q.cell (j := 0) rfl
            have bq1 := hq.q.cell (j := 1) rfl
            have bq2 := hq.q.cell (j := 2) rfl
            have bq3 := hq.q.cell (j := 3) rfl
            have bqz := hq.q.frozen
            have bql := hq.q.lt
            have br0 := hq.r.cell (j := 0) rfl
            have br1 := hq.r.cell (j := 1) rfl
            have br2 := hq.r.cell (j := 2) rfl
            have br3 := hq.r.cell (j := 3) rfl
            have brz := hq.r.frozen
            have brl := hq.r.lt
            go_wp2_with fail
            clear br0 br1 br2 br3 brz brl
            clear bq0 bq1 bq2 bq3 bqz bql
            generalize hwz : World.setCell (World.setCell (World.setCell (World.setCell _ _ _) _ _) _ _) _ _ = wz_
            obtain rfl : wz_ = setL wS (w.heap.size) 0 [.int .i64 m8, .slice A8 n8 c8, .slice A0 n0 c0, .slice A1 n1 c1] := hwz.symm
            clear hwz
            have o0 := hq.ot.box hq.r (by decide) 0 [.int .i64 m8, .slice A8 n8 c8, .slice A0 n0 c0, .slice A1 n1 c1]
            have o1 := hq.os.box hq.r (by decide) 0 [.int .i64 m8, .slice A8 n8 c8, .slice A0 n0 c0, .slice A1 n1 c1]
            have o2 := hq.ow.box hq.r (by decide) 0 [.int .i64 m8, .slice A8 n8 c8, .slice A0 n0 c0, .slice A1 n1 c1]
            have gS := setL_grown [.int .i64 m8, .slice A8 n8 c8, .slice A0 n0 c0, .slice A1 n1 c1] wS (w.heap.size) 0
            have hG := grown_new hq.G gS (fun q e => by injection e with e; omega)
            have hc := hq.c.other gS (by omega)
            have bR := hq.r.setAll [.int .i64 m8, .slice A8 n8 c8, .slice A0 n0 c0, .slice A1 n1 c1] rfl
            have zS : (setL wS (w.heap.size) 0 [.int .i64 m8, .slice A8 n8 c8, .slice A0 n0 c0, .slice A1 n1 c1]).heap.size = wS.heap.size := setL_size _ _ _ _
            generalize setL wS _ 0 _ = wE at *
            have u0_ := bR.cell (j := 0) rfl
            have u1_ := bR.cell (j := 1) rfl
            have u2_ := bR.cell (j := 2) rfl
            have u3_ := bR.cell (j := 3) rfl
            have F4 := (show (st ++ [yy]).length ≤ 5 by simp; omega)
            have F5 := hF2
            have F9 := hF3
            have O0 := o0.mono (Nat.le_refl _) (Nat.le_of_eq zS.symm)
            have O1 := o1.mono (Nat.le_refl _) (Nat.le_of_eq zS.symm)
            have O2 := o2.mono (Nat.le_refl _) (Nat.le_of_eq zS.symm)
            have hc2 : Cur wE g cv (k + 700) := hc.mono (by omega)
            refine bodyPost_ret (by simp only [results, Tryz.results48]; simp [go_sem, u0_, u1_, u2_, u3_]; rfl) rfl ?_
            first | exact ⟨_, _, _, _, _, _, _, rfl, F4, F5, F9, O0, O1, O2, hG, hc2⟩ | exact ⟨_, _, _, _, rfl, _, F4, _, F5, _, F9, O0, O1, O2, hG, hc2⟩
      · subst h2
        have bq0 := hq.q.cell (j := 0) rfl
        have bq1 := hq.q.cell (j := 1) rfl
        have bq2 := hq.q.cell (j := 2) rfl
        have bq3 := hq.q.cell (j := 3) rfl
        have bqz := hq.q.frozen
        have bql := hq.q.lt
        go_wp2_with fail
        clear bq0 bq1 bq2 bq3 bqz bql
        have zb := hq.size
        refine (queue_any g _ _ l _ hq.h (DF.hle HF hq) hg hq.c (by omega)).mono ?_; rintro q_ wo ⟨v5, v6, l5, l6, rfl, _, n5_, n6_, o5, o6, gg, kk⟩
        obtain ⟨A5, n5, c5, rfl, _, _, _⟩ := o5.rd.form
        obtain ⟨A6, n6, c6, rfl, _, _, _⟩ := o6.rd.form
        replace hq := hq.pick HF gg kk
        clear gg kk
        have bq0 := hq.q.cell (j := 0) rfl
        have bq1 := hq.q.cell (j := 1) rfl
        have bq2 := hq.q.cell (j := 2) rfl
        have bq3 := hq.q.cell (j := 3) rfl
        have bqz := hq.q.frozen
        have bql := hq.q.lt
        have br0 := hq.r.cell (j := 0) rfl
        have br1 := hq.r.cell (j := 1) rfl
        have br2 := hq.r.cell (j := 2) rfl
        have br3 := hq.r.cell (j := 3) rfl
        have brz := hq.r.frozen
        have brl := hq.r.lt
        go_upto_region 24 with fail
        clear br0 br1 br2 br3 brz brl
        clear bq0 bq1 bq2 bq3 bqz bql
        generalize hwz : World.setCell (World.setCell _ _ _) _ _ = wz_
        obtain rfl : wz_ = setL wo gQ 2 [.slice A5 n5 c5, .slice A6 n6 c6] := hwz.symm
        clear hwz
        replace hq := hq.store23 HF (o5.mono zb (Nat.le_refl _)) (o6.mono zb (Nat.le_refl _))
        generalize setL wo _ 2 _ = wS at *
        have bq0 := hq.q.cell (j := 0) rfl
        have bq1 := hq.q.cell (j := 1) rfl
        have bq2 := hq.q.cell (j := 2) rfl
        have bq3 := hq.q.cell (j := 3) rfl
        have bqz := hq.q.frozen
        have bql := hq.q.lt
        have br0 := hq.r.cell (j := 0) rfl
        have br1 := hq.r.cell (j := 1) rfl
        have br2 := hq.r.cell (j := 2) rfl
        have br3 := hq.r.cell (j := 3) rfl
        have brz := hq.r.frozen
        have brl := hq.r.lt
        go_wp2_with fail
        clear br0 br1 br2 br3 brz brl
        clear bq0 bq1 bq2 bq3 bqz bql
        generalize hwz : World.setCell (World.setCell (World.setCell (World.setCell _ _ _) _ _) _ _) _ _ = wz_
        obtain rfl : wz_ = setL wS (w.heap.size) 0 [.int .i64 m8, .slice At nt ct, .slice A5 n5 c5, .slice A6 n6 c6] := hwz.symm
        clear hwz
        have o0 := hq.ot.box hq.r (by decide) 0 [.int .i64 m8, .slice At nt ct, .slice A5 n5 c5, .slice A6 n6 c6]
        have o1 := hq.os.box hq.r (by decide) 0 [.int .i64 m8, .slice At nt ct, .slice A5 n5 c5, .slice A6 n6 c6]
        have o2 := hq.ow.box hq.r (by decide) 0 [.int .i64 m8, .slice At nt ct, .slice A5 n5 c5, .slice A6 n6 c6]
        have gS := setL_grown [.int .i64 m8, .slice At nt ct, .slice A5 n5 c5, .slice A6 n6 c6] wS (w.heap.size) 0
        have hG := grown_new hq.G gS (fun q e => by injection e with e; omega)
        have hc := hq.c.other gS (by omega)
        have bR := hq.r.setAll [.int .i64 m8, .slice At nt ct, .slice A5 n5 c5, .slice A6 n6 c6] rfl
        have zS : (setL wS (w.heap.size) 0 [.int .i64 m8, .slice At nt ct, .slice A5 n5 c5, .slice A6 n6 c6]).heap.size = wS.heap.size := setL_size _ _ _ _
        generalize setL wS _ 0 _ = wE at *
        have u0_ := bR.cell (j := 0) rfl
        have u1_ := bR.cell (j := 1) rfl
        have u2_ := bR.cell (j := 2) rfl
        have u3_ := bR.cell (j := 3) rfl
        have F4 : st.length ≤ 5 := by omega
        have F5 := n5_
        have F9 := n6_
        have O0 := o0.mono (Nat.le_refl _) (Nat.le_of_eq zS.symm)
        have O1 := o1.mono (Nat.le_refl _) (Nat.le_of_eq zS.symm)
        have O2 := o2.mono (Nat.le_refl _) (Nat.le_of_eq zS.symm)
        have hc2 : Cur wE g cv (k + 700) := hc.mono (by omega)
        refine bodyPost_ret (by simp only [results, Tryz.results48]; simp [go_sem, u0_, u1_, u2_, u3_]; rfl) rfl ?_
        first | exact ⟨_, _, _, _, _, _, _, rfl, F4, F5, F9, O0, O1, O2, hG, hc2⟩ | exact ⟨_, _, _, _, rfl, _, F4, _, F5, _, F9, O0, O1, O2, hG, hc2⟩

end Go.Proofs.YtndfmkbpdoohfaaGreat

/- The reference's Draw functions of the interfaces' laws: they return something, in new memory. No condition. -/
namespace Go.Proofs.YtndfmkbpdoohfaaGreat
open Go.RowKit Go.ChangeShapes Go.WideShapes Go.Deep

set_option maxRecDepth 8000 in
set_option maxHeartbeats 2000000 in
theorem DrawIsInterface_any (cv : Value) (l : List UInt8) (w : World) {lo hi : Nat} (h : Rd By.cells 1 w lo hi cv l) (hh : hi ≤ w.heap.size) :
    Calls Tryz.prog 33 #[cv] w fun e w' => ∃ (m : Int) (vt vs vw : Value) (st : List Int) (ls : List Sl) (lw : List Wt), e = .returned (.agg #[.int .i64 m, vt, vs, vw]) ∧ st.length ≤ 1048576 ∧ ls.length ≤ 1048576 ∧ lw.length ≤ 1048576 ∧ Ow Nm.cells 1 3 w' w.heap.size w'.heap.size vt st ∧ Ow Sl.cells 3 93 w' w.heap.size w'.heap.size vs ls ∧ Ow Wt.cells 2 107 w' w.heap.size w'.heap.size vw lw ∧ Below w.heap.size w w' := by
  obtain ⟨Ac, nc, cc, rfl, _, _, _⟩ := h.form
  go_enter Tryz.func33, Tryz.ntmps33
  go_wp2_with fail
  have bR := Box.new w #[.int .i64 0, .slice none 0 0, .slice none 0 0, .slice none 0 0] 30 rfl
  have hB := (Below.refl w.heap.size w).alloc (Nat.le_refl _) (.cells #[.int .i64 0, .slice none 0 0, .slice none 0 0, .slice none 0 0] 30)
  have zr : (w.alloc (.cells #[.int .i64 0, .slice none 0 0, .slice none 0 0, .slice none 0 0] 30)).heap.size = w.heap.size + 1 := by simp
  generalize w.alloc (.cells #[.int .i64 0, .slice none 0 0, .slice none 0 0, .slice none 0 0] 30) = wR at *
  have bx := Box.new wR #[.slice Ac nc cc, .int .i64 0, .int .u64 0] 67 rfl
  have bl := (Below.refl wR.heap.size wR).alloc (Nat.le_refl _) (.cells #[.slice Ac nc cc, .int .i64 0, .int .u64 0] 67)
  replace bR := bR.below bl bR.lt
  replace hB := hB.alloc (by omega) (.cells #[.slice Ac nc cc, .int .i64 0, .int .u64 0] 67)
  have za : (wR.alloc (.cells #[.slice Ac nc cc, .int .i64 0, .int .u64 0] 67)).heap.size = wR.heap.size + 1 := by simp
  have hc : Cur (wR.alloc (.cells #[.slice Ac nc cc, .int .i64 0, .int .u64 0] 67)) wR.heap.size (.slice Ac nc cc) 0 := ⟨0, 0, Nat.le_refl _, Lib.hid (by unfold U64; omega), bx⟩
  have hg : wR.heap.size < lo ∨ hi ≤ wR.heap.size := .inr (by omega)
  replace h := h.below hB hh
  clear bx bl
  generalize wR.alloc _ = w0 at *
  generalize wR.heap.size = g at *
  rw [← zr]
  refine (iface_any g _ _ l w0 h (by omega) hg hc (by omega)).mono ?_; rintro q_ w1 ⟨m1, v0, v1, v2, t1, l1, lw1, rfl, n0, n1, n2, o0, o1, o2, gg1, kk1⟩
  clear hc
  replace h := h.grown gg1 (by omega) (fun q e => by injection e with e; omega)
  replace bR := bR.keep (gg1.block _ bR.lt (fun e => by injection e with e; omega))
  replace hB := hB.grown gg1 (by omega) (fun q e => by injection e with e; omega)
  have z_2 := gg1.size
  clear gg1
  obtain ⟨A0, k0, c0, rfl, _, _, _⟩ := o0.rd.form
  obtain ⟨A1, k1, c1, rfl, _, _, _⟩ := o1.rd.form
  obtain ⟨A2, k2, c2, rfl, _, _, _⟩ := o2.rd.form
  have bR_z := bR.frozen
  have bR_l := bR.lt
  have bR_0 := bR.cell (j := 0) rfl
  have bR_1 := bR.cell (j := 1) rfl
  have bR_2 := bR.cell (j := 2) rfl
  have bR_3 := bR.cell (j := 3) rfl
  go_wp2_with fail
  clear bR_z bR_l bR_0 bR_1 bR_2 bR_3
  generalize hwz : World.setCell (World.setCell (World.setCell (World.setCell _ _ _) _ _) _ _) _ _ = wz_
  obtain rfl : wz_ = setL w1 (w.heap.size) 0 [.int .i64 m1, .slice A0 k0 c0, .slice A1 k1 c1, .slice A2 k2 c2] := hwz.symm
  clear hwz
  replace hB := setL_below hB [.int .i64 m1, .slice A0 k0 c0, .slice A1 k1 c1, .slice A2 k2 c2] (w.heap.size) 0 (Nat.le_refl _)
  replace o0 := o0.box bR (by decide) 0 [.int .i64 m1, .slice A0 k0 c0, .slice A1 k1 c1, .slice A2 k2 c2]
  replace o1 := o1.box bR (by decide) 0 [.int .i64 m1, .slice A0 k0 c0, .slice A1 k1 c1, .slice A2 k2 c2]
  replace o2 := o2.box bR (by decide) 0 [.int .i64 m1, .slice A0 k0 c0, .slice A1 k1 c1, .slice A2 k2 c2]
  have zS : (setL w1 (w.heap.size) 0 [.int .i64 m1, .slice A0 k0 c0, .slice A1 k1 c1, .slice A2 k2 c2]).heap.size = w1.heap.size := setL_size _ _ _ _
  replace bR := bR.setAll [.int .i64 m1, .slice A0 k0 c0, .slice A1 k1 c1, .slice A2 k2 c2] rfl
  generalize setL w1 _ 0 _ = wZ at *
  have u0_ := bR.cell (j := 0) rfl
  have u1_ := bR.cell (j := 1) rfl
  have u2_ := bR.cell (j := 2) rfl
  have u3_ := bR.cell (j := 3) rfl
  refine bodyPost_ret (by simp only [results, Tryz.results33]; simp [go_sem, u0_, u1_, u2_, u3_]; rfl) rfl ?_
  exact ⟨_, _, _, _, _, _, _, rfl, by omega, by omega, by omega, o0.mono (by omega) (by omega), o1.mono (by omega) (by omega), o2.mono (by omega) (by omega), hB⟩
set_option maxRecDepth 8000 in
set_option maxHeartbeats 2000000 in
theorem DrawRaiseIrq_any (cv : Value) (l : List UInt8) (w : World) {lo hi : Nat} (h : Rd By.cells 1 w lo hi cv l) (hh : hi ≤ w.heap.size) :
    Calls Tryz.prog 20 #[cv] w fun e w' => ∃ (m : Int) (vt vs vw : Value) (st : List Int) (ls : List Sl) (lw : List Wt) (x y : Int), e = .returned (.tuple #[.agg #[.int .i64 m, vt, vs, vw], .int .i64 x, .int .i64 y]) ∧ st.length ≤ 1048576 ∧ ls.length ≤ 1048576 ∧ lw.length ≤ 1048576 ∧ Ow Nm.cells 1 3 w' w.heap.size w'.heap.size vt st ∧ Ow Sl.cells 3 93 w' w.heap.size w'.heap.size vs ls ∧ Ow Wt.cells 2 107 w' w.heap.size w'.heap.size vw lw ∧ Below w.heap.size w w' := by
  obtain ⟨Ac, nc, cc, rfl, _, _, _⟩ := h.form
  go_enter Tryz.func20, Tryz.ntmps20
  go_wp2_with fail
  have bR := Box.new w #[.int .i64 0, .slice none 0 0, .slice none 0 0, .slice none 0 0] 30 rfl
  have hB := (Below.refl w.heap.size w).alloc (Nat.le_refl _) (.cells #[.int .i64 0, .slice none 0 0, .slice none 0 0, .slice none 0 0] 30)
  have zr : (w.alloc (.cells #[.int .i64 0, .slice none 0 0, .slice none 0 0, .slice none 0 0] 30)).heap.size = w.heap.size + 1 := by simp
  generalize w.alloc (.cells #[.int .i64 0, .slice none 0 0, .slice none 0 0, .slice none 0 0] 30) = wR at *
  have bx := Box.new wR #[.slice Ac nc cc, .int .i64 0, .int .u64 0] 67 rfl
  have bl := (Below.refl wR.heap.size wR).alloc (Nat.le_refl _) (.cells #[.slice Ac nc cc, .int .i64 0, .int .u64 0] 67)
  replace bR := bR.below bl bR.lt
  replace hB := hB.alloc (by omega) (.cells #[.slice Ac nc cc, .int .i64 0, .int .u64 0] 67)
  have za : (wR.alloc (.cells #[.slice Ac nc cc, .int .i64 0, .int .u64 0] 67)).heap.size = wR.heap.size + 1 := by simp
  have hc : Cur (wR.alloc (.cells #[.slice Ac nc cc, .int .i64 0, .int .u64 0] 67)) wR.heap.size (.slice Ac nc cc) 0 := ⟨0, 0, Nat.le_refl _, Lib.hid (by unfold U64; omega), bx⟩
  have hg : wR.heap.size < lo ∨ hi ≤ wR.heap.size := .inr (by omega)
  replace h := h.below hB hh
  clear bx bl
  generalize wR.alloc _ = w0 at *
  generalize wR.heap.size = g at *
  rw [← zr]
  refine (iface_any g _ _ l w0 h (by omega) hg hc (by omega)).mono ?_; rintro q_ w1 ⟨m1, v0, v1, v2, t1, l1, lw1, rfl, n0, n1, n2, o0, o1, o2, gg1, kk1⟩
  clear hc
  replace h := h.grown gg1 (by omega) (fun q e => by injection e with e; omega)
  replace bR := bR.keep (gg1.block _ bR.lt (fun e => by injection e with e; omega))
  replace hB := hB.grown gg1 (by omega) (fun q e => by injection e with e; omega)
  have z_2 := gg1.size
  clear gg1
  obtain ⟨A0, k0, c0, rfl, _, _, _⟩ := o0.rd.form
  obtain ⟨A1, k1, c1, rfl, _, _, _⟩ := o1.rd.form
  obtain ⟨A2, k2, c2, rfl, _, _, _⟩ := o2.rd.form
  have bR_z := bR.frozen
  have bR_l := bR.lt
  have bR_0 := bR.cell (j := 0) rfl
  have bR_1 := bR.cell (j := 1) rfl
  have bR_2 := bR.cell (j := 2) rfl
  have bR_3 := bR.cell (j := 3) rfl
  go_wp2_with fail
  clear bR_z bR_l bR_0 bR_1 bR_2 bR_3
  rw [← zr]
  refine (irq_any g _ _ l w1 h (by omega) hg kk1 (by omega)).mono ?_; rintro q_ w3 ⟨x1, rfl, gg3, kk3⟩
  clear kk1
  replace h := h.grown gg3 (by omega) (fun q e => by injection e with e; omega)
  replace o0 := o0.apart gg3 (fun q e => by injection e with e; omega)
  replace o1 := o1.apart gg3 (fun q e => by injection e with e; omega)
  replace o2 := o2.apart gg3 (fun q e => by injection e with e; omega)
  replace bR := bR.keep (gg3.block _ bR.lt (fun e => by injection e with e; omega))
  replace hB := hB.grown gg3 (by omega) (fun q e => by injection e with e; omega)
  have z_4 := gg3.size
  clear gg3
  have bR_z := bR.frozen
  have bR_l := bR.lt
  have bR_0 := bR.cell (j := 0) rfl
  have bR_1 := bR.cell (j := 1) rfl
  have bR_2 := bR.cell (j := 2) rfl
  have bR_3 := bR.cell (j := 3) rfl
  go_wp2_with fail
  clear bR_z bR_l bR_0 bR_1 bR_2 bR_3
  rw [← zr]
  refine (prio_any g _ _ l w3 h (by omega) hg kk3 (by omega)).mono ?_; rintro q_ w5 ⟨x2, rfl, gg5, kk5⟩
  clear kk3
  replace h := h.grown gg5 (by omega) (fun q e => by injection e with e; omega)
  replace o0 := o0.apart gg5 (fun q e => by injection e with e; omega)
  replace o1 := o1.apart gg5 (fun q e => by injection e with e; omega)
  replace o2 := o2.apart gg5 (fun q e => by injection e with e; omega)
  replace bR := bR.keep (gg5.block _ bR.lt (fun e => by injection e with e; omega))
  replace hB := hB.grown gg5 (by omega) (fun q e => by injection e with e; omega)
  have z_6 := gg5.size
  clear gg5
  have bR_z := bR.frozen
  have bR_l := bR.lt
  have bR_0 := bR.cell (j := 0) rfl
  have bR_1 := bR.cell (j := 1) rfl
  have bR_2 := bR.cell (j := 2) rfl
  have bR_3 := bR.cell (j := 3) rfl
  go_wp2_with fail
  clear bR_z bR_l bR_0 bR_1 bR_2 bR_3
  generalize hwz : World.setCell (World.setCell (World.setCell (World.setCell _ _ _) _ _) _ _) _ _ = wz_
  obtain rfl : wz_ = setL w5 (w.heap.size) 0 [.int .i64 m1, .slice A0 k0 c0, .slice A1 k1 c1, .slice A2 k2 c2] := hwz.symm
  clear hwz
  replace hB := setL_below hB [.int .i64 m1, .slice A0 k0 c0, .slice A1 k1 c1, .slice A2 k2 c2] (w.heap.size) 0 (Nat.le_refl _)
  replace o0 := o0.box bR (by decide) 0 [.int .i64 m1, .slice A0 k0 c0, .slice A1 k1 c1, .slice A2 k2 c2]
  replace o1 := o1.box bR (by decide) 0 [.int .i64 m1, .slice A0 k0 c0, .slice A1 k1 c1, .slice A2 k2 c2]
  replace o2 := o2.box bR (by decide) 0 [.int .i64 m1, .slice A0 k0 c0, .slice A1 k1 c1, .slice A2 k2 c2]
  have zS : (setL w5 (w.heap.size) 0 [.int .i64 m1, .slice A0 k0 c0, .slice A1 k1 c1, .slice A2 k2 c2]).heap.size = w5.heap.size := setL_size _ _ _ _
  replace bR := bR.setAll [.int .i64 m1, .slice A0 k0 c0, .slice A1 k1 c1, .slice A2 k2 c2] rfl
  generalize setL w5 _ 0 _ = wZ at *
  have u0_ := bR.cell (j := 0) rfl
  have u1_ := bR.cell (j := 1) rfl
  have u2_ := bR.cell (j := 2) rfl
  have u3_ := bR.cell (j := 3) rfl
  refine bodyPost_ret (by simp only [results, Tryz.results20]; simp [go_sem, u0_, u1_, u2_, u3_]; rfl) rfl ?_
  exact ⟨_, _, _, _, _, _, _, x1, x2, rfl, by omega, by omega, by omega, o0.mono (by omega) (by omega), o1.mono (by omega) (by omega), o2.mono (by omega) (by omega), hB⟩
set_option maxRecDepth 8000 in
set_option maxHeartbeats 2000000 in
theorem DrawSetMask_any (cv : Value) (l : List UInt8) (w : World) {lo hi : Nat} (h : Rd By.cells 1 w lo hi cv l) (hh : hi ≤ w.heap.size) :
    Calls Tryz.prog 23 #[cv] w fun e w' => ∃ (m : Int) (vt vs vw : Value) (st : List Int) (ls : List Sl) (lw : List Wt) (x : Int), e = .returned (.tuple #[.agg #[.int .i64 m, vt, vs, vw], .int .i64 x]) ∧ st.length ≤ 1048576 ∧ ls.length ≤ 1048576 ∧ lw.length ≤ 1048576 ∧ Ow Nm.cells 1 3 w' w.heap.size w'.heap.size vt st ∧ Ow Sl.cells 3 93 w' w.heap.size w'.heap.size vs ls ∧ Ow Wt.cells 2 107 w' w.heap.size w'.heap.size vw lw ∧ Below w.heap.size w w' := by
  obtain ⟨Ac, nc, cc, rfl, _, _, _⟩ := h.form
  go_enter Tryz.func23, Tryz.ntmps23
  go_wp2_with fail
  have bR := Box.new w #[.int .i64 0, .slice none 0 0, .slice none 0 0, .slice none 0 0] 30 rfl
  have hB := (Below.refl w.heap.size w).alloc (Nat.le_refl _) (.cells #[.int .i64 0, .slice none 0 0, .slice none 0 0, .slice none 0 0] 30)
  have zr : (w.alloc (.cells #[.int .i64 0, .slice none 0 0, .slice none 0 0, .slice none 0 0] 30)).heap.size = w.heap.size + 1 := by simp
  generalize w.alloc (.cells #[.int .i64 0, .slice none 0 0, .slice none 0 0, .slice none 0 0] 30) = wR at *
  have bx := Box.new wR #[.slice Ac nc cc, .int .i64 0, .int .u64 0] 67 rfl
  have bl := (Below.refl wR.heap.size wR).alloc (Nat.le_refl _) (.cells #[.slice Ac nc cc, .int .i64 0, .int .u64 0] 67)
  replace bR := bR.below bl bR.lt
  replace hB := hB.alloc (by omega) (.cells #[.slice Ac nc cc, .int .i64 0, .int .u64 0] 67)
  have za : (wR.alloc (.cells #[.slice Ac nc cc, .int .i64 0, .int .u64 0] 67)).heap.size = wR.heap.size + 1 := by simp
  have hc : Cur (wR.alloc (.cells #[.slice Ac nc cc, .int .i64 0, .int .u64 0] 67)) wR.heap.size (.slice Ac nc cc) 0 := ⟨0, 0, Nat.le_refl _, Lib.hid (by unfold U64; omega), bx⟩
  have hg : wR.heap.size < lo ∨ hi ≤ wR.heap.size := .inr (by omega)
  replace h := h.below hB hh
  clear bx bl
  generalize wR.alloc _ = w0 at *
  generalize wR.heap.size = g at *
  rw [← zr]
  refine (iface_any g _ _ l w0 h (by omega) hg hc (by omega)).mono ?_; rintro q_ w1 ⟨m1, v0, v1, v2, t1, l1, lw1, rfl, n0, n1, n2, o0, o1, o2, gg1, kk1⟩
  clear hc
  replace h := h.grown gg1 (by omega) (fun q e => by injection e with e; omega)
  replace bR := bR.keep (gg1.block _ bR.lt (fun e => by injection e with e; omega))
  replace hB := hB.grown gg1 (by omega) (fun q e => by injection e with e; omega)
  have z_2 := gg1.size
  clear gg1
  obtain ⟨A0, k0, c0, rfl, _, _, _⟩ := o0.rd.form
  obtain ⟨A1, k1, c1, rfl, _, _, _⟩ := o1.rd.form
  obtain ⟨A2, k2, c2, rfl, _, _, _⟩ := o2.rd.form
  have bR_z := bR.frozen
  have bR_l := bR.lt
  have bR_0 := bR.cell (j := 0) rfl
  have bR_1 := bR.cell (j := 1) rfl
  have bR_2 := bR.cell (j := 2) rfl
  have bR_3 := bR.cell (j := 3) rfl
  go_wp2_with fail
  clear bR_z bR_l bR_0 bR_1 bR_2 bR_3
  rw [← zr]
  have rl := lit_ints w1 [0, 1, 4, 8, 15, 16, 17, -1] #[.int .i64 0, .int .i64 1, .int .i64 4, .int .i64 8, .int .i64 15, .int .i64 16, .int .i64 17, .int .i64 (-1)] 8 rfl rfl (by decide)
  have ga3 := grown_alloc w1 (.cells #[.int .i64 0, .int .i64 1, .int .i64 4, .int .i64 8, .int .i64 15, .int .i64 16, .int .i64 17, .int .i64 (-1)] 3)
  have za3 : (w1.alloc (.cells #[.int .i64 0, .int .i64 1, .int .i64 4, .int .i64 8, .int .i64 15, .int .i64 16, .int .i64 17, .int .i64 (-1)] 3)).heap.size = w1.heap.size + 1 := by simp
  replace kk1 := kk1.grown0 ga3
  replace h := h.grown ga3 (by omega) (fun q e => by cases e)
  replace o0 := o0.apart ga3 (fun q e => by cases e)
  replace o1 := o1.apart ga3 (fun q e => by cases e)
  replace o2 := o2.apart ga3 (fun q e => by cases e)
  replace bR := bR.keep (ga3.block _ bR.lt (fun e => by cases e))
  replace hB := hB.grown ga3 (by omega) (fun q e => by cases e)
  have z_4 := ga3.size
  clear ga3
  generalize w1.alloc _ = w3 at *
  generalize hgz4 : w1.heap.size = gz4 at *
  clear hgz4
  refine (among_any g _ _ _ l [0, 1, 4, 8, 15, 16, 17, -1] w3 h (by omega) hg rl (by omega) (by omega) (by decide) (by decide) kk1 (by omega)).mono ?_; rintro q_ w5 ⟨x1, rfl, gg5, kk5⟩
  clear kk1
  replace h := h.grown gg5 (by omega) (fun q e => by injection e with e; omega)
  replace o0 := o0.apart gg5 (fun q e => by injection e with e; omega)
  replace o1 := o1.apart gg5 (fun q e => by injection e with e; omega)
  replace o2 := o2.apart gg5 (fun q e => by injection e with e; omega)
  replace bR := bR.keep (gg5.block _ bR.lt (fun e => by injection e with e; omega))
  replace hB := hB.grown gg5 (by omega) (fun q e => by injection e with e; omega)
  have z_6 := gg5.size
  clear gg5
  clear rl
  have bR_z := bR.frozen
  have bR_l := bR.lt
  have bR_0 := bR.cell (j := 0) rfl
  have bR_1 := bR.cell (j := 1) rfl
  have bR_2 := bR.cell (j := 2) rfl
  have bR_3 := bR.cell (j := 3) rfl
  go_wp2_with fail
  clear bR_z bR_l bR_0 bR_1 bR_2 bR_3
  generalize hwz : World.setCell (World.setCell (World.setCell (World.setCell _ _ _) _ _) _ _) _ _ = wz_
  obtain rfl : wz_ = setL w5 (w.heap.size) 0 [.int .i64 m1, .slice A0 k0 c0, .slice A1 k1 c1, .slice A2 k2 c2] := hwz.symm
  clear hwz
  replace hB := setL_below hB [.int .i64 m1, .slice A0 k0 c0, .slice A1 k1 c1, .slice A2 k2 c2] (w.heap.size) 0 (Nat.le_refl _)
  replace o0 := o0.box bR (by decide) 0 [.int .i64 m1, .slice A0 k0 c0, .slice A1 k1 c1, .slice A2 k2 c2]
  replace o1 := o1.box bR (by decide) 0 [.int .i64 m1, .slice A0 k0 c0, .slice A1 k1 c1, .slice A2 k2 c2]
  replace o2 := o2.box bR (by decide) 0 [.int .i64 m1, .slice A0 k0 c0, .slice A1 k1 c1, .slice A2 k2 c2]
  have zS : (setL w5 (w.heap.size) 0 [.int .i64 m1, .slice A0 k0 c0, .slice A1 k1 c1, .slice A2 k2 c2]).heap.size = w5.heap.size := setL_size _ _ _ _
  replace bR := bR.setAll [.int .i64 m1, .slice A0 k0 c0, .slice A1 k1 c1, .slice A2 k2 c2] rfl
  generalize setL w5 _ 0 _ = wZ at *
  have u0_ := bR.cell (j := 0) rfl
  have u1_ := bR.cell (j := 1) rfl
  have u2_ := bR.cell (j := 2) rfl
  have u3_ := bR.cell (j := 3) rfl
  refine bodyPost_ret (by simp only [results, Tryz.results23]; simp [go_sem, u0_, u1_, u2_, u3_]; rfl) rfl ?_
  exact ⟨_, _, _, _, _, _, _, x1, rfl, by omega, by omega, by omega, o0.mono (by omega) (by omega), o1.mono (by omega) (by omega), o2.mono (by omega) (by omega), hB⟩
set_option maxRecDepth 8000 in
set_option maxHeartbeats 2000000 in
theorem DrawTakeIrq_any (cv : Value) (l : List UInt8) (w : World) {lo hi : Nat} (h : Rd By.cells 1 w lo hi cv l) (hh : hi ≤ w.heap.size) :
    Calls Tryz.prog 6 #[cv] w fun e w' => ∃ (m : Int) (vt vs vw : Value) (st : List Int) (ls : List Sl) (lw : List Wt), e = .returned (.agg #[.int .i64 m, vt, vs, vw]) ∧ st.length ≤ 1048576 ∧ ls.length ≤ 1048576 ∧ lw.length ≤ 1048576 ∧ Ow Nm.cells 1 3 w' w.heap.size w'.heap.size vt st ∧ Ow Sl.cells 3 93 w' w.heap.size w'.heap.size vs ls ∧ Ow Wt.cells 2 107 w' w.heap.size w'.heap.size vw lw ∧ Below w.heap.size w w' := by
  go_enter Tryz.func6, Tryz.ntmps6
  go_wp2_with fail
  have bR := Box.new w #[.int .i64 0, .slice none 0 0, .slice none 0 0, .slice none 0 0] 30 rfl
  have hB := (Below.refl w.heap.size w).alloc (Nat.le_refl _) (.cells #[.int .i64 0, .slice none 0 0, .slice none 0 0, .slice none 0 0] 30)
  have zr : (w.alloc (.cells #[.int .i64 0, .slice none 0 0, .slice none 0 0, .slice none 0 0] 30)).heap.size = w.heap.size + 1 := by simp
  replace h := h.below hB hh
  generalize w.alloc (.cells #[.int .i64 0, .slice none 0 0, .slice none 0 0, .slice none 0 0] 30) = wR at *
  refine (DrawIsInterface_any cv l wR h (by omega)).mono ?_; rintro q_ w1 ⟨m1, v0, v1, v2, t1, l1, lw1, rfl, n0, n1, n2, o0, o1, o2, b1⟩
  obtain ⟨A0, k0, c0, rfl, _, _, _⟩ := o0.rd.form
  obtain ⟨A1, k1, c1, rfl, _, _, _⟩ := o1.rd.form
  obtain ⟨A2, k2, c2, rfl, _, _, _⟩ := o2.rd.form
  replace bR := bR.below b1 bR.lt
  have z1 := b1.size
  replace hB := hB.trans (b1.mono (by omega))
  clear b1
  have bR_z := bR.frozen
  have bR_l := bR.lt
  have bR_0 := bR.cell (j := 0) rfl
  have bR_1 := bR.cell (j := 1) rfl
  have bR_2 := bR.cell (j := 2) rfl
  have bR_3 := bR.cell (j := 3) rfl
  go_wp2_with fail
  clear bR_z bR_l bR_0 bR_1 bR_2 bR_3
  generalize hwz : World.setCell (World.setCell (World.setCell (World.setCell _ _ _) _ _) _ _) _ _ = wz_
  obtain rfl : wz_ = setL w1 (w.heap.size) 0 [.int .i64 m1, .slice A0 k0 c0, .slice A1 k1 c1, .slice A2 k2 c2] := hwz.symm
  clear hwz
  replace hB := setL_below hB [.int .i64 m1, .slice A0 k0 c0, .slice A1 k1 c1, .slice A2 k2 c2] (w.heap.size) 0 (Nat.le_refl _)
  replace o0 := o0.box bR (by decide) 0 [.int .i64 m1, .slice A0 k0 c0, .slice A1 k1 c1, .slice A2 k2 c2]
  replace o1 := o1.box bR (by decide) 0 [.int .i64 m1, .slice A0 k0 c0, .slice A1 k1 c1, .slice A2 k2 c2]
  replace o2 := o2.box bR (by decide) 0 [.int .i64 m1, .slice A0 k0 c0, .slice A1 k1 c1, .slice A2 k2 c2]
  have zS : (setL w1 (w.heap.size) 0 [.int .i64 m1, .slice A0 k0 c0, .slice A1 k1 c1, .slice A2 k2 c2]).heap.size = w1.heap.size := setL_size _ _ _ _
  replace bR := bR.setAll [.int .i64 m1, .slice A0 k0 c0, .slice A1 k1 c1, .slice A2 k2 c2] rfl
  generalize setL w1 _ 0 _ = wZ at *
  have u0_ := bR.cell (j := 0) rfl
  have u1_ := bR.cell (j := 1) rfl
  have u2_ := bR.cell (j := 2) rfl
  have u3_ := bR.cell (j := 3) rfl
  refine bodyPost_ret (by simp only [results, Tryz.results6]; simp [go_sem, u0_, u1_, u2_, u3_]; rfl) rfl ?_
  exact ⟨_, _, _, _, _, _, _, rfl, by omega, by omega, by omega, o0.mono (by omega) (by omega), o1.mono (by omega) (by omega), o2.mono (by omega) (by omega), hB⟩
set_option maxRecDepth 8000 in
set_option maxHeartbeats 2000000 in
theorem DrawLeaveIrq_any (cv : Value) (l : List UInt8) (w : World) {lo hi : Nat} (h : Rd By.cells 1 w lo hi cv l) (hh : hi ≤ w.heap.size) :
    Calls Tryz.prog 18 #[cv] w fun e w' => ∃ (m : Int) (vt vs vw : Value) (st : List Int) (ls : List Sl) (lw : List Wt), e = .returned (.agg #[.int .i64 m, vt, vs, vw]) ∧ st.length ≤ 1048576 ∧ ls.length ≤ 1048576 ∧ lw.length ≤ 1048576 ∧ Ow Nm.cells 1 3 w' w.heap.size w'.heap.size vt st ∧ Ow Sl.cells 3 93 w' w.heap.size w'.heap.size vs ls ∧ Ow Wt.cells 2 107 w' w.heap.size w'.heap.size vw lw ∧ Below w.heap.size w w' := by
  go_enter Tryz.func18, Tryz.ntmps18
  go_wp2_with fail
  have bR := Box.new w #[.int .i64 0, .slice none 0 0, .slice none 0 0, .slice none 0 0] 30 rfl
  have hB := (Below.refl w.heap.size w).alloc (Nat.le_refl _) (.cells #[.int .i64 0, .slice none 0 0, .slice none 0 0, .slice none 0 0] 30)
  have zr : (w.alloc (.cells #[.int .i64 0, .slice none 0 0, .slice none 0 0, .slice none 0 0] 30)).heap.size = w.heap.size + 1 := by simp
  replace h := h.below hB hh
  generalize w.alloc (.cells #[.int .i64 0, .slice none 0 0, .slice none 0 0, .slice none 0 0] 30) = wR at *
  refine (DrawIsInterface_any cv l wR h (by omega)).mono ?_; rintro q_ w1 ⟨m1, v0, v1, v2, t1, l1, lw1, rfl, n0, n1, n2, o0, o1, o2, b1⟩
  obtain ⟨A0, k0, c0, rfl, _, _, _⟩ := o0.rd.form
  obtain ⟨A1, k1, c1, rfl, _, _, _⟩ := o1.rd.form
  obtain ⟨A2, k2, c2, rfl, _, _, _⟩ := o2.rd.form
  replace bR := bR.below b1 bR.lt
  have z1 := b1.size
  replace hB := hB.trans (b1.mono (by omega))
  clear b1
  have bR_z := bR.frozen
  have bR_l := bR.lt
  have bR_0 := bR.cell (j := 0) rfl
  have bR_1 := bR.cell (j := 1) rfl
  have bR_2 := bR.cell (j := 2) rfl
  have bR_3 := bR.cell (j := 3) rfl
  go_wp2_with fail
  clear bR_z bR_l bR_0 bR_1 bR_2 bR_3
  generalize hwz : World.setCell (World.setCell (World.setCell (World.setCell _ _ _) _ _) _ _) _ _ = wz_
  obtain rfl : wz_ = setL w1 (w.heap.size) 0 [.int .i64 m1, .slice A0 k0 c0, .slice A1 k1 c1, .slice A2 k2 c2] := hwz.symm
  clear hwz
  replace hB := setL_below hB [.int .i64 m1, .slice A0 k0 c0, .slice A1 k1 c1, .slice A2 k2 c2] (w.heap.size) 0 (Nat.le_refl _)
  replace o0 := o0.box bR (by decide) 0 [.int .i64 m1, .slice A0 k0 c0, .slice A1 k1 c1, .slice A2 k2 c2]
  replace o1 := o1.box bR (by decide) 0 [.int .i64 m1, .slice A0 k0 c0, .slice A1 k1 c1, .slice A2 k2 c2]
  replace o2 := o2.box bR (by decide) 0 [.int .i64 m1, .slice A0 k0 c0, .slice A1 k1 c1, .slice A2 k2 c2]
  have zS : (setL w1 (w.heap.size) 0 [.int .i64 m1, .slice A0 k0 c0, .slice A1 k1 c1, .slice A2 k2 c2]).heap.size = w1.heap.size := setL_size _ _ _ _
  replace bR := bR.setAll [.int .i64 m1, .slice A0 k0 c0, .slice A1 k1 c1, .slice A2 k2 c2] rfl
  generalize setL w1 _ 0 _ = wZ at *
  have u0_ := bR.cell (j := 0) rfl
  have u1_ := bR.cell (j := 1) rfl
  have u2_ := bR.cell (j := 2) rfl
  have u3_ := bR.cell (j := 3) rfl
  refine bodyPost_ret (by simp only [results, Tryz.results18]; simp [go_sem, u0_, u1_, u2_, u3_]; rfl) rfl ?_
  exact ⟨_, _, _, _, _, _, _, rfl, by omega, by omega, by omega, o0.mono (by omega) (by omega), o1.mono (by omega) (by omega), o2.mono (by omega) (by omega), hB⟩
end Go.Proofs.YtndfmkbpdoohfaaGreat

/- A law's own comparison of two lists that read the same: it says so. No condition. -/
namespace Go.Proofs.YtndfmkbpdoohfaaGreat
open Go.RowKit Go.ChangeShapes Go.WideShapes Go.Deep

theorem Sl.v_same (v1 v2 : Value) (l : List Sl) (w : World) {lo1 hi1 lo2 hi2 : Nat} (h1 : Rd Sl.cells 3 w lo1 hi1 v1 l) (h2 : Rd Sl.cells 3 w lo2 hi2 v2 l) (hh1 : hi1 ≤ w.heap.size) (hh2 : hi2 ≤ w.heap.size) :
    Calls Tryz.prog 78 #[v1, v2] w fun e w' => e = .returned (.bool true) ∧ Below w.heap.size w w' := by
  obtain ⟨A, n, c, rfl, H, hc, hm⟩ := h1.form
  obtain ⟨A2, n2, c2, rfl, H2, hc2, hm2⟩ := h2.form
  obtain rfl : n = n2 := by rw [H.out, H2.out]
  have hnd : ((n : Int) != (n : Int)) = false := by simp
  clear H H2
  go_enter Tryz.func78, Tryz.ntmps78
  go_wp2_with fail
  go_loopw [5] (fun i wr => ∃ k : Nat, k ≤ n ∧ i = .int .i64 k ∧ Below w.heap.size w wr) (fun i _ => n - (intOf i).toNat)
  case atStart => exact ⟨0, Nat.zero_le _, rfl, Below.refl _ _⟩
  case round =>
    obtain ⟨k, hk, rfl, hb⟩ := hrel
    by_cases hlt : k < n
    · obtain ⟨b, off, t, rfl, hx, _, _, f0, f1, f2⟩ := Sl.get h1 hlt hb hh1
      obtain ⟨b2, off2, t2, rfl, hy, _, _, g0, g1, g2⟩ := Sl.get h2 hlt hb hh2
      obtain rfl := Option.some.inj (hx.out.symm.trans hy.out)
      have hki : (k : Int) < (n : Int) := by omega
      clear hx hy
      go_wp2_with fail
      go_quiet (fail)
      go_wp2_with fail
      go_roundw
      case rel => exact ⟨k + 1, by omega, by go_num, below_drewN hb _⟩
      case measure => simp [intOf]; omega
    · go_wp2_with fail
      go_ret
      exact ⟨rfl, hb⟩

end Go.Proofs.YtndfmkbpdoohfaaGreat

/- A law's own comparison of two lists that read the same: it says so. No condition. -/
namespace Go.Proofs.YtndfmkbpdoohfaaGreat
open Go.RowKit Go.ChangeShapes Go.WideShapes Go.Deep

theorem Wt.v_same (v1 v2 : Value) (l : List Wt) (w : World) {lo1 hi1 lo2 hi2 : Nat} (h1 : Rd Wt.cells 2 w lo1 hi1 v1 l) (h2 : Rd Wt.cells 2 w lo2 hi2 v2 l) (hh1 : hi1 ≤ w.heap.size) (hh2 : hi2 ≤ w.heap.size) :
    Calls Tryz.prog 79 #[v1, v2] w fun e w' => e = .returned (.bool true) ∧ Below w.heap.size w w' := by
  obtain ⟨A, n, c, rfl, H, hc, hm⟩ := h1.form
  obtain ⟨A2, n2, c2, rfl, H2, hc2, hm2⟩ := h2.form
  obtain rfl : n = n2 := by rw [H.out, H2.out]
  have hnd : ((n : Int) != (n : Int)) = false := by simp
  clear H H2
  go_enter Tryz.func79, Tryz.ntmps79
  go_wp2_with fail
  go_loopw [5] (fun i wr => ∃ k : Nat, k ≤ n ∧ i = .int .i64 k ∧ Below w.heap.size w wr) (fun i _ => n - (intOf i).toNat)
  case atStart => exact ⟨0, Nat.zero_le _, rfl, Below.refl _ _⟩
  case round =>
    obtain ⟨k, hk, rfl, hb⟩ := hrel
    by_cases hlt : k < n
    · obtain ⟨b, off, t, rfl, hx, _, _, f0, f1⟩ := Wt.get h1 hlt hb hh1
      obtain ⟨b2, off2, t2, rfl, hy, _, _, g0, g1⟩ := Wt.get h2 hlt hb hh2
      obtain rfl := Option.some.inj (hx.out.symm.trans hy.out)
      have hki : (k : Int) < (n : Int) := by omega
      clear hx hy
      go_wp2_with fail
      go_quiet (fail)
      go_wp2_with fail
      go_roundw
      case rel => exact ⟨k + 1, by omega, by go_num, below_drewN hb _⟩
      case measure => simp [intOf]; omega
    · go_wp2_with fail
      go_ret
      exact ⟨rfl, hb⟩

end Go.Proofs.YtndfmkbpdoohfaaGreat

/- The plain laws' own helpers over numbers: whether two lists that read the same are the same, whether a number is in a list, whether a code is long. No condition. -/
namespace Go.Proofs.YtndfmkbpdoohfaaGreat
open Go.RowKit Go.ChangeShapes Go.WideShapes Go.Deep

theorem vInts_same (v1 v2 : Value) (l : List Int) (w : World) {lo1 hi1 lo2 hi2 : Nat} (h1 : Rd Nm.cells 1 w lo1 hi1 v1 l) (h2 : Rd Nm.cells 1 w lo2 hi2 v2 l) (hh1 : hi1 ≤ w.heap.size) (hh2 : hi2 ≤ w.heap.size) :
    Calls Tryz.prog 17 #[v1, v2] w fun e w' => e = .returned (.bool true) ∧ Below w.heap.size w w' := by
  obtain ⟨A, n, c, rfl, H, hc, hm⟩ := h1.form
  obtain ⟨A2, n2, c2, rfl, H2, hc2, hm2⟩ := h2.form
  obtain rfl : n = n2 := by rw [H.out, H2.out]
  have hnd : ((n : Int) != (n : Int)) = false := by simp
  clear H H2
  go_enter Tryz.func17, Tryz.ntmps17
  go_wp2_with fail
  go_loopw [5] (fun i wr => ∃ k : Nat, k ≤ n ∧ i = .int .i64 k ∧ Below w.heap.size w wr) (fun i _ => n - (intOf i).toNat)
  case atStart => exact ⟨0, Nat.zero_le _, rfl, Below.refl _ _⟩
  case round =>
    obtain ⟨k, hk, rfl, hb⟩ := hrel
    by_cases hlt : k < n
    · obtain ⟨b, off, t, rfl, hx, _, _, f0⟩ := Nm.get h1 hlt hb hh1
      obtain ⟨b2, off2, t2, rfl, hy, _, _, g0⟩ := Nm.get h2 hlt hb hh2
      obtain rfl := Option.some.inj (hx.out.symm.trans hy.out)
      have hki : (k : Int) < (n : Int) := by omega
      clear hx hy
      go_wp2_with fail
      go_quiet (fail)
      go_wp2_with fail
      go_roundw
      case rel => exact ⟨k + 1, by omega, by go_num, below_drewN hb _⟩
      case measure => simp [intOf]; omega
    · go_wp2_with fail
      go_ret
      exact ⟨rfl, hb⟩
theorem vBig_any (v : Value) (l : List UInt8) (w : World) {lo hi : Nat} (h : Rd By.cells 1 w lo hi v l) : Calls Tryz.prog 5 #[v] w fun e w' => e = .returned (.bool (decide (65536 < l.length))) ∧ w = w' := by
  obtain ⟨A, n, c, rfl, H, hc, hm⟩ := h.form
  have HN := H
  go_enter Tryz.func5, Tryz.ntmps5
  go_wp2_with fail
  go_ret
  exact ⟨ret_bool (by rw [← HN.out]; apply decide_eq_decide.2; omega), rfl⟩

end Go.Proofs.YtndfmkbpdoohfaaGreat

/- The plain laws' comparisons of queues and interfaces that read the same: they say so. No condition. -/
namespace Go.Proofs.YtndfmkbpdoohfaaGreat
open Go.RowKit Go.ChangeShapes Go.WideShapes Go.Deep

set_option maxHeartbeats 1000000 in
theorem vQueue_same (a1 a2 b1 b2 : Value) (ls : List Sl) (lw : List Wt) (w : World) {l1 h1 l2 h2 l3 h3 l4 h4 : Nat} (k1 : Rd Sl.cells 3 w l1 h1 a1 ls) (k2 : Rd Wt.cells 2 w l2 h2 a2 lw) (k3 : Rd Sl.cells 3 w l3 h3 b1 ls) (k4 : Rd Wt.cells 2 w l4 h4 b2 lw)
    (z1 : h1 ≤ w.heap.size) (z2 : h2 ≤ w.heap.size) (z3 : h3 ≤ w.heap.size) (z4 : h4 ≤ w.heap.size) :
    Calls Tryz.prog 37 #[.agg #[a1, a2], .agg #[b1, b2]] w fun e w' => e = .returned (.bool true) ∧ Below w.heap.size w w' := by
  have b0 : Below w.heap.size w ((w.alloc (.cells #[a1, a2] 28)).alloc (.cells #[b1, b2] 28)) := ((Below.refl w.heap.size w).alloc (Nat.le_refl _) _).alloc (by simp) _
  have z0 : ((w.alloc (.cells #[a1, a2] 28)).alloc (.cells #[b1, b2] 28)).heap.size = w.heap.size + 2 := by simp
  have e0 : ((w.alloc (.cells #[a1, a2] 28)).alloc (.cells #[b1, b2] 28)).cell? ⟨w.heap.size, 1, none⟩ = some a2 := by simp
  have e1 : ((w.alloc (.cells #[a1, a2] 28)).alloc (.cells #[b1, b2] 28)).cell? ⟨w.heap.size + 1, 1, none⟩ = some b2 := by simp
  have c1 := Sl.v_same a1 b1 ls _ (k1.below b0 z1) (k3.below b0 z3) (by omega) (by omega)
  have k2' := k2.below b0 z2
  have k4' := k4.below b0 z4
  clear k1 k2 k3 k4
  go_enter Tryz.func37, Tryz.ntmps37
  go_wp2_with fail
  generalize (w.alloc _).alloc _ = w0 at *
  refine c1.mono ?_; rintro e w1 ⟨rfl, b1⟩
  replace e0 := (b1.cell (p := ⟨w.heap.size, 1, none⟩) (by show w.heap.size < _; omega)).trans e0
  replace e1 := (b1.cell (p := ⟨w.heap.size + 1, 1, none⟩) (by show w.heap.size + 1 < _; omega)).trans e1
  have zz := b1.size
  have c2 := Wt.v_same a2 b2 lw w1 (k2'.below b1 (by omega)) (k4'.below b1 (by omega)) (by omega) (by omega)
  go_wp2_with fail
  refine c2.mono ?_; rintro e w2 ⟨rfl, b2⟩
  go_wp2_with fail
  go_ret
  exact ⟨rfl, b0.trans ((b1.mono (by omega)).trans (b2.mono (by omega)))⟩

set_option maxHeartbeats 2000000 in
theorem vFace_same (m : Int) (a0 a1 a2 b0 b1 b2 : Value) (st : List Int) (ls : List Sl) (lw : List Wt) (w : World) {l0 h0 l1 h1 l2 h2 l3 h3 l4 h4 l5 h5 : Nat} (k0 : Rd Nm.cells 1 w l0 h0 a0 st) (k1 : Rd Sl.cells 3 w l1 h1 a1 ls) (k2 : Rd Wt.cells 2 w l2 h2 a2 lw) (k3 : Rd Nm.cells 1 w l3 h3 b0 st) (k4 : Rd Sl.cells 3 w l4 h4 b1 ls) (k5 : Rd Wt.cells 2 w l5 h5 b2 lw)
    (q0 : h0 ≤ w.heap.size) (q1 : h1 ≤ w.heap.size) (q2 : h2 ≤ w.heap.size) (q3 : h3 ≤ w.heap.size) (q4 : h4 ≤ w.heap.size) (q5 : h5 ≤ w.heap.size) :
    Calls Tryz.prog 9 #[.agg #[.int .i64 m, a0, a1, a2], .agg #[.int .i64 m, b0, b1, b2]] w fun e w' => e = .returned (.bool true) ∧ Below w.heap.size w w' := by
  have hB : Below w.heap.size w ((w.alloc (.cells #[.int .i64 m, a0, a1, a2] 30)).alloc (.cells #[.int .i64 m, b0, b1, b2] 30)) := ((Below.refl w.heap.size w).alloc (Nat.le_refl _) _).alloc (by simp) _
  have z0 : ((w.alloc (.cells #[.int .i64 m, a0, a1, a2] 30)).alloc (.cells #[.int .i64 m, b0, b1, b2] 30)).heap.size = w.heap.size + 2 := by simp
  have ba := Box.new w #[.int .i64 m, a0, a1, a2] 30 rfl
  have bb := Box.new (g := w.heap.size + 1) (w.alloc (.cells #[.int .i64 m, a0, a1, a2] 30)) #[.int .i64 m, b0, b1, b2] 30 (by simp)
  replace ba := ba.below ((Below.refl _ (w.alloc (.cells #[.int .i64 m, a0, a1, a2] 30))).alloc (Nat.le_refl _) (.cells #[.int .i64 m, b0, b1, b2] 30)) ba.lt
  replace k0 := k0.below hB q0
  replace k1 := k1.below hB q1
  replace k2 := k2.below hB q2
  replace k3 := k3.below hB q3
  replace k4 := k4.below hB q4
  replace k5 := k5.below hB q5
  have hmd : (m != m) = false := by simp
  generalize hwA : (w.alloc (.cells #[.int .i64 m, a0, a1, a2] 30)).alloc (.cells #[.int .i64 m, b0, b1, b2] 30) = wA at *
  go_enter Tryz.func9, Tryz.ntmps9
  have ba_0 := ba.cell (j := 0) rfl
  have ba_1 := ba.cell (j := 1) rfl
  have ba_2 := ba.cell (j := 2) rfl
  have ba_3 := ba.cell (j := 3) rfl
  have ba_z := ba.frozen
  have ba_l := ba.lt
  have bb_0 := bb.cell (j := 0) rfl
  have bb_1 := bb.cell (j := 1) rfl
  have bb_2 := bb.cell (j := 2) rfl
  have bb_3 := bb.cell (j := 3) rfl
  have bb_z := bb.frozen
  have bb_l := bb.lt
  go_wp2_with fail
  clear hwA
  clear ba_0 ba_1 ba_2 ba_3 ba_z ba_l bb_0 bb_1 bb_2 bb_3 bb_z bb_l
  refine (vInts_same _ _ st wA k0 k3 (by omega) (by omega)).mono ?_; rintro q_ w1 ⟨rfl, b_1⟩
  replace ba := ba.below b_1 ba.lt
  replace bb := bb.below b_1 bb.lt
  replace k0 := k0.below b_1 (by omega)
  replace k1 := k1.below b_1 (by omega)
  replace k2 := k2.below b_1 (by omega)
  replace k3 := k3.below b_1 (by omega)
  replace k4 := k4.below b_1 (by omega)
  replace k5 := k5.below b_1 (by omega)
  have z_2 := b_1.size
  replace hB := hB.trans (b_1.mono (by omega))
  clear b_1
  have ba_0 := ba.cell (j := 0) rfl
  have ba_1 := ba.cell (j := 1) rfl
  have ba_2 := ba.cell (j := 2) rfl
  have ba_3 := ba.cell (j := 3) rfl
  have ba_z := ba.frozen
  have ba_l := ba.lt
  have bb_0 := bb.cell (j := 0) rfl
  have bb_1 := bb.cell (j := 1) rfl
  have bb_2 := bb.cell (j := 2) rfl
  have bb_3 := bb.cell (j := 3) rfl
  have bb_z := bb.frozen
  have bb_l := bb.lt
  go_wp2_with fail
  clear ba_0 ba_1 ba_2 ba_3 ba_z ba_l bb_0 bb_1 bb_2 bb_3 bb_z bb_l
  refine (vQueue_same _ _ _ _ ls lw w1 k1 k2 k4 k5 (by omega) (by omega) (by omega) (by omega)).mono ?_; rintro q_ w3 ⟨rfl, b_3⟩
  replace ba := ba.below b_3 ba.lt
  replace bb := bb.below b_3 bb.lt
  replace k0 := k0.below b_3 (by omega)
  replace k1 := k1.below b_3 (by omega)
  replace k2 := k2.below b_3 (by omega)
  replace k3 := k3.below b_3 (by omega)
  replace k4 := k4.below b_3 (by omega)
  replace k5 := k5.below b_3 (by omega)
  have z_4 := b_3.size
  replace hB := hB.trans (b_3.mono (by omega))
  clear b_3
  have ba_0 := ba.cell (j := 0) rfl
  have ba_1 := ba.cell (j := 1) rfl
  have ba_2 := ba.cell (j := 2) rfl
  have ba_3 := ba.cell (j := 3) rfl
  have ba_z := ba.frozen
  have ba_l := ba.lt
  have bb_0 := bb.cell (j := 0) rfl
  have bb_1 := bb.cell (j := 1) rfl
  have bb_2 := bb.cell (j := 2) rfl
  have bb_3 := bb.cell (j := 3) rfl
  have bb_z := bb.frozen
  have bb_l := bb.lt
  go_wp2_with fail
  clear ba_0 ba_1 ba_2 ba_3 ba_z ba_l bb_0 bb_1 bb_2 bb_3 bb_z bb_l
  go_ret
  exact ⟨rfl, hB⟩

end Go.Proofs.YtndfmkbpdoohfaaGreat
