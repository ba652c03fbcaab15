/- Taking the most urgent interrupt of a queue, in the program and in the reference. Condition (the inner functions): valid slots, at most 1048576 waiting interrupts. -/
import Derived.Test.YtengaccnncnipaaGreatQuOwn
import Derived.Test.YtengaccnncnipaaGreatQuSet
import Derived.Test.YtengaccnncnipaaGreatSlTake
namespace Go.Proofs.YtengaccnncnipaaGreat
open Go.RowKit Go.ChangeShapes Go.WideShapes Go.Deep

set_option maxHeartbeats 8000000 in
theorem specTakeQ_in (vs vw : Value) (l0 : List Sl) (lw : List Wt) (m : Int) (w : World) {lo hi lo2 hi2 : Nat} (h : Rd Sl.cells 3 w lo hi vs l0) (h2 : Rd Wt.cells 2 w lo2 hi2 vw lw) (hh : hi ≤ w.heap.size) (hh2 : hi2 ≤ w.heap.size) (hg : Sl.good l0 = true) (hl2 : lw.length ≤ 1048576) :
    Calls Tryz.prog 113 #[.agg #[vs, vw], .int .i64 m] w fun e w' => ∃ v1 v2, e = .returned (.tuple #[.agg #[v1, v2], .int .i64 (Sl.tkW l0 m)]) ∧ Ow Sl.cells 3 127 w' w.heap.size w'.heap.size v1 (Sl.tkL l0 m) ∧ Ow Wt.cells 2 134 w' w.heap.size w'.heap.size v2 lw ∧ Below w.heap.size w w' := by
  have b0 : Below w.heap.size w ((w.alloc (.cells #[vs, vw] 33)).alloc (.cells #[.slice none 0 0, .slice none 0 0] 33)) := ((Below.refl w.heap.size w).alloc (Nat.le_refl _) _).alloc (by simp) _
  have z0 : ((w.alloc (.cells #[vs, vw] 33)).alloc (.cells #[.slice none 0 0, .slice none 0 0] 33)).heap.size = w.heap.size + 2 := by simp
  have q0 : ((w.alloc (.cells #[vs, vw] 33)).alloc (.cells #[.slice none 0 0, .slice none 0 0] 33)).cell? ⟨w.heap.size, 0, none⟩ = some vs := by simp
  have q1 : ((w.alloc (.cells #[vs, vw] 33)).alloc (.cells #[.slice none 0 0, .slice none 0 0] 33)).cell? ⟨w.heap.size, 1, none⟩ = some vw := by simp
  have r0 : ((w.alloc (.cells #[vs, vw] 33)).alloc (.cells #[.slice none 0 0, .slice none 0 0] 33)).cell? ⟨w.heap.size + 1, 0, none⟩ = some (.slice none 0 0) := by simp
  have r1 : ((w.alloc (.cells #[vs, vw] 33)).alloc (.cells #[.slice none 0 0, .slice none 0 0] 33)).cell? ⟨w.heap.size + 1, 1, none⟩ = some (.slice none 0 0) := by simp
  have rz : ∀ j, ((w.alloc (.cells #[vs, vw] 33)).alloc (.cells #[.slice none 0 0, .slice none 0 0] 33)).frozen? ⟨w.heap.size + 1, j, none⟩ = false := fun j => froz_new _ _ _ (by simp) j
  have hl : (Sl.tkL l0 m).length ≤ 1048576 := by
    unfold Sl.tkL; split
    · rw [Sl.tkS_len, Sl.good_len hg]; decide
    · rw [Sl.good_len hg]; decide
  have c1 := specTake_in vs l0 m _ (h.below b0 hh) (by omega) hg
  have hw := h2.below b0 hh2
  have hv := h.form
  have hv2 := h2.form
  clear h h2 hg
  obtain ⟨A0, n0, d0, rfl, _, _, _⟩ := hv
  obtain ⟨A, n, c, rfl, H, hc, hm⟩ := hv2
  rw [← H.out] at hl2
  generalize Sl.tkL l0 m = ls at *
  generalize Sl.tkW l0 m = irq at *
  go_enter Tryz.func113, Tryz.ntmps113
  go_wp2_with fail
  generalize (w.alloc _).alloc _ = wA at *
  refine c1.mono ?_; rintro e w0 ⟨vz, rfl, hs, b1⟩
  obtain ⟨hc1, hf1⟩ := bcell b1
  replace q0 := (hc1 _ 0 (by omega)).trans q0
  replace q1 := (hc1 _ 1 (by omega)).trans q1
  replace r0 := (hc1 _ 0 (by omega)).trans r0
  replace r1 := (hc1 _ 1 (by omega)).trans r1
  replace rz := fun j => (hf1 _ j (by omega)).trans (rz j)
  replace hw := hw.below b1 (by omega)
  have zz := b1.size
  replace b0 := b0.trans (b1.mono (by omega))
  clear hc1 hf1 c1 b1
  obtain ⟨A1, n1, d1, rfl, H0, hd1, hm1⟩ := hs.form
  rw [← H0.out] at hl
  have hh1 : hi2 ≤ w0.heap.size := by omega
  have zr : w.heap.size + 1 < w0.heap.size := by omega
  have zq : w.heap.size < w0.heap.size := by omega
  obtain ⟨is, his, hzs0, hzs1, hzs2⟩ := info_parts Sl.info
  obtain ⟨iq, hiq, hzq0, hzq1, hzq2⟩ := info_parts Wt.info
  have SH : ∀ W, Below w0.heap.size w0 W → (fun (W : World) => W.cell? ⟨w.heap.size, 0, none⟩ = some (.slice A0 n0 d0) ∧ W.cell? ⟨w.heap.size, 1, none⟩ = some (.slice A n c)) W := fun W hb => ⟨(hb.cell (p := ⟨w.heap.size, 0, none⟩) zq).trans q0, (hb.cell (p := ⟨w.heap.size, 1, none⟩) zq).trans q1⟩
  go_wp2_with fail
  refine wp_region_held_drew (S := fun W => W.cell? ⟨w.heap.size, 0, none⟩ = some (.slice A0 n0 d0) ∧ W.cell? ⟨w.heap.size, 1, none⟩ = some (.slice A n c)) (by kernel_rfl) (SH _ (Below.refl w0.heap.size w0).drew) (fun hHeld => ?_)
  refine wpAnyH_take (i := 1) (v := .slice A1 n1 d1) rfl (by kernel_rfl) (by kernel_rfl) (by kernel_rfl) (fun _ _ _ h => h) (Or.inl ⟨by rfl, by intro w _; go_simp⟩) hHeld ?_
  refine wpAnyH_take (i := 4) (v := .pointer (some ⟨w.heap.size, 1, none⟩)) rfl (by kernel_rfl) (by kernel_rfl) (by kernel_rfl) (fun _ _ _ h => h) (Or.inl ⟨by rfl, by intro w _; go_simp⟩) hHeld ?_
  refine wpAnyH_take (i := 5) (v := .slice A n c) rfl (by kernel_rfl) (by kernel_rfl) (by kernel_rfl) (fun _ _ _ h => h) (Or.inl ⟨by rfl, by intro w hSw; obtain ⟨y0, y1⟩ := hSw; go_simp⟩) hHeld ?_
  refine wpAnyH_take (i := 8) (v := .int .i64 irq) rfl (by kernel_rfl) (by kernel_rfl) (by kernel_rfl) (fun _ _ _ h => h) (Or.inl ⟨by rfl, by intro w _; go_simp⟩) hHeld ?_
  clear hHeld
  refine held_gen (F := fun W' => Below w0.heap.size w0 W') (Below.refl w0.heap.size w0).drew ?_
  rintro W0 b0'
  refine wpAnyH_ready (rs := [0, 3]) (by kernel_rfl) (by decide) ?_
  refine AllReadyH.cons rfl (fun K0 hK0 => ?_) (AllReadyH.cons rfl (fun K0 hK0 => ?_) AllReadyH.nil)
  · go_simp
    refine hK0.out _ _ (SH _ (b0'.alloc b0'.size (.cells #[] 127))) (fun _ => ?_)
    refine held_gen (F := fun W' => W'.ownsRow w0.heap.size 127 3 (.slice (some ⟨W0.heap.size, 0, none⟩) 0 0) 0 [] ∧ Below w0.heap.size w0 W') ⟨own_empty W0 (base := w0.heap.size) 127 3 b0'.size, b0'.alloc b0'.size (.cells #[] 127)⟩ ?_
    rintro W1 ⟨hS1, b1⟩
    refine wpAnyH_ready (rs := [2, 3]) (by kernel_rfl) (by decide) ?_
    refine AllReadyH.cons rfl (fun K1 hK1 => ?_) (AllReadyH.cons rfl (fun K1 hK1 => ?_) AllReadyH.nil)
    · refine step_app_rd rfl _ _ 30 rfl w0.heap.size 127 is _ 3 _ Tryz.underlying30 his hzs0 hzs1 hzs2 rfl (by omega) Sl.cells_len Sl.one (.slice (some ⟨W0.heap.size, 0, none⟩) 0 0) 0 [] rfl hS1 (A := A1) (m := n1) (c := d1) (l := ls) rfl (hs.below b1 (Nat.le_refl _)) (by unfold maxLen; omega) (by omega) b1.size ?_
      intro v2 W2 hS2 g2
      have b2 : Below w0.heap.size w0 W2 := b1.grown g2 b1.size (own_ge hS1)
      refine hK1.out _ _ (SH _ b2) (fun _ => ?_)
      refine wpAnyH_ready (rs := [3]) (by kernel_rfl) (by decide) ?_
      refine AllReadyH.cons rfl (fun K2 hK2 => ?_) AllReadyH.nil
      · go_simp
        refine hK2.out _ _ (SH _ (b2.alloc b2.size (.cells #[] 134))) (fun _ => ?_)
        refine held_gen (F := fun W' => W'.ownsRow w0.heap.size 134 2 (.slice (some ⟨W2.heap.size, 0, none⟩) 0 0) 0 [] ∧ Below w0.heap.size w0 W' ∧ W'.ownsRow w0.heap.size 127 3 v2 (0 + n1) ([] ++ ls.flatMap Sl.cells)) ⟨own_empty W2 (base := w0.heap.size) 134 2 b2.size, b2.alloc b2.size (.cells #[] 134), hS2.alloc (.cells #[] 134)⟩ ?_
        rintro W3 ⟨hQ3, b3, hS3⟩
        refine wpAnyH_ready (rs := [6]) (by kernel_rfl) (by decide) ?_
        refine AllReadyH.cons rfl (fun K3 hK3 => ?_) AllReadyH.nil
        · refine step_app_rd rfl _ _ 31 rfl w0.heap.size 134 iq _ 2 _ Tryz.underlying31 hiq hzq0 hzq1 hzq2 rfl (by omega) Wt.cells_len Wt.one (.slice (some ⟨W2.heap.size, 0, none⟩) 0 0) 0 [] rfl hQ3 (A := A) (m := n) (c := c) (l := lw) rfl (hw.below b3 hh1) (by unfold maxLen; omega) (by omega) b3.size ?_
          intro v4 W4 hQ4 g4
          have b4 : Below w0.heap.size w0 W4 := b3.grown g4 b3.size (own_ge hQ3)
          refine hK3.out _ _ (SH _ b4) (fun _ => ?_)
          have hS4 := own_kept_type hS3 hQ3 g4 (by decide)
          have oS := Ow.of_own Sl.cells_len hS4 (l := ls) (by simp) (by have := H0.out; omega)
          have oQ := Ow.of_own Wt.cells_len hQ4 (l := lw) (by simp) (by have := H.out; omega)
          obtain ⟨A5, n5, d5, rfl, _, _, _⟩ := oS.rd.form
          obtain ⟨A6, n6, d6, rfl, _, _, _⟩ := oQ.rd.form
          clear hS4 hQ4
          obtain ⟨hc_, hf_⟩ := bcell b4
          have p0 := (hc_ _ 0 zr).trans r0
          have p1 := (hc_ _ 1 zr).trans r1
          have pz := fun j => (hf_ _ j zr).trans (rz j)
          have x0 := (hc_ _ 0 zq).trans q0
          have x1 := (hc_ _ 1 zq).trans q1
          clear hc_ hf_
          refine wpAnyH_ready (rs := [7]) (by kernel_rfl) (by decide) ?_
          refine AllReadyH.cons rfl (fun K8 hK8 => ?_) AllReadyH.nil
          go_simp
          refine hK8.out _ _ ⟨x0, x1⟩ (fun _ => ?_)
          refine wpAnyH_ready (rs := [9]) (by kernel_rfl) (by decide) ?_
          refine AllReadyH.cons rfl (fun K9 hK9 => ?_) AllReadyH.nil
          go_simp
          refine hK9.out _ _ ⟨by simp [go_sem, x0], by simp [go_sem, x1]⟩ (fun _ => ?_)
          refine wpAnyH_ready (rs := [10]) (by kernel_rfl) (by decide) ?_
          refine AllReadyH.cons rfl (fun K10 hK10 => ?_) AllReadyH.nil
          go_simp
          refine hK10.out _ _ ⟨by simp [go_sem, x0], by simp [go_sem, x1]⟩ (fun _ => ?_)
          refine ⟨by kernel_rfl, ?_⟩
          go_wp2_with fail
          generalize hwz : World.setCell (World.setCell _ _ _) _ _ = wz
          have u0 : wz.cell? ⟨w.heap.size + 1, 0, none⟩ = some (.slice A5 n5 d5) := by rw [← hwz]; simp [go_sem, p0]
          have u1 : wz.cell? ⟨w.heap.size + 1, 1, none⟩ = some (.slice A6 n6 d6) := by rw [← hwz]; simp [go_sem, p1]
          obtain rfl : wz = setL W4 (w.heap.size + 1) 0 [.slice A5 n5 d5, .slice A6 n6 d6] := hwz.symm
          have hbz := setL_below (b0.trans (b4.mono (by omega))) [.slice A5 n5 d5, .slice A6 n6 d6] (w.heap.size + 1) 0 (by omega)
          have kk : ∀ q, w0.heap.size ≤ q → (setL W4 (w.heap.size + 1) 0 [.slice A5 n5 d5, .slice A6 n6 d6]).heap[q]? = W4.heap[q]? := fun q hq => setL_other _ _ _ _ q (by omega)
          have o5 := oS.keep (w' := setL W4 (w.heap.size + 1) 0 [.slice A5 n5 d5, .slice A6 n6 d6]) (fun q hq _ _ => kk q hq)
          have o6 := oQ.keep (w' := setL W4 (w.heap.size + 1) 0 [.slice A5 n5 d5, .slice A6 n6 d6]) (fun q hq _ _ => kk q hq)
          have sz : (setL W4 (w.heap.size + 1) 0 [.slice A5 n5 d5, .slice A6 n6 d6]).heap.size = W4.heap.size := setL_size _ _ _ _
          clear hwz kk
          generalize setL W4 (w.heap.size + 1) 0 [.slice A5 n5 d5, .slice A6 n6 d6] = wz at *
          refine bodyPost_ret (by simp only [results, Tryz.results113]; simp [go_sem, u0, u1]; rfl) rfl ?_
          exact ⟨_, _, rfl, o5.mono (by omega) (by omega), o6.mono (by omega) (by omega), hbz⟩
    · go_simp
      refine hK1.out _ _ (SH _ (b1.alloc b1.size (.cells #[] 134))) (fun _ => ?_)
      refine held_gen (F := fun W' => W'.ownsRow w0.heap.size 134 2 (.slice (some ⟨W1.heap.size, 0, none⟩) 0 0) 0 [] ∧ Below w0.heap.size w0 W' ∧ W'.ownsRow w0.heap.size 127 3 (.slice (some ⟨W0.heap.size, 0, none⟩) 0 0) (0) []) ⟨own_empty W1 (base := w0.heap.size) 134 2 b1.size, b1.alloc b1.size (.cells #[] 134), hS1.alloc (.cells #[] 134)⟩ ?_
      rintro W2 ⟨hQ2, b2, hS2⟩
      refine wpAnyH_ready (rs := [2]) (by kernel_rfl) (by decide) ?_
      refine AllReadyH.cons rfl (fun K2 hK2 => ?_) AllReadyH.nil
      · refine step_app_rd rfl _ _ 30 rfl w0.heap.size 127 is _ 3 _ Tryz.underlying30 his hzs0 hzs1 hzs2 rfl (by omega) Sl.cells_len Sl.one (.slice (some ⟨W0.heap.size, 0, none⟩) 0 0) 0 [] rfl hS2 (A := A1) (m := n1) (c := d1) (l := ls) rfl (hs.below b2 (Nat.le_refl _)) (by unfold maxLen; omega) (by omega) b2.size ?_
        intro v3 W3 hS3 g3
        have b3 : Below w0.heap.size w0 W3 := b2.grown g3 b2.size (own_ge hS2)
        refine hK2.out _ _ (SH _ b3) (fun _ => ?_)
        have hQ3 := own_kept_type hQ2 hS2 g3 (by decide)
        refine wpAnyH_ready (rs := [6]) (by kernel_rfl) (by decide) ?_
        refine AllReadyH.cons rfl (fun K3 hK3 => ?_) AllReadyH.nil
        · refine step_app_rd rfl _ _ 31 rfl w0.heap.size 134 iq _ 2 _ Tryz.underlying31 hiq hzq0 hzq1 hzq2 rfl (by omega) Wt.cells_len Wt.one (.slice (some ⟨W1.heap.size, 0, none⟩) 0 0) 0 [] rfl hQ3 (A := A) (m := n) (c := c) (l := lw) rfl (hw.below b3 hh1) (by unfold maxLen; omega) (by omega) b3.size ?_
          intro v4 W4 hQ4 g4
          have b4 : Below w0.heap.size w0 W4 := b3.grown g4 b3.size (own_ge hQ3)
          refine hK3.out _ _ (SH _ b4) (fun _ => ?_)
          have hS4 := own_kept_type hS3 hQ3 g4 (by decide)
          have oS := Ow.of_own Sl.cells_len hS4 (l := ls) (by simp) (by have := H0.out; omega)
          have oQ := Ow.of_own Wt.cells_len hQ4 (l := lw) (by simp) (by have := H.out; omega)
          obtain ⟨A5, n5, d5, rfl, _, _, _⟩ := oS.rd.form
          obtain ⟨A6, n6, d6, rfl, _, _, _⟩ := oQ.rd.form
          clear hS4 hQ4
          obtain ⟨hc_, hf_⟩ := bcell b4
          have p0 := (hc_ _ 0 zr).trans r0
          have p1 := (hc_ _ 1 zr).trans r1
          have pz := fun j => (hf_ _ j zr).trans (rz j)
          have x0 := (hc_ _ 0 zq).trans q0
          have x1 := (hc_ _ 1 zq).trans q1
          clear hc_ hf_
          refine wpAnyH_ready (rs := [7]) (by kernel_rfl) (by decide) ?_
          refine AllReadyH.cons rfl (fun K8 hK8 => ?_) AllReadyH.nil
          go_simp
          refine hK8.out _ _ ⟨x0, x1⟩ (fun _ => ?_)
          refine wpAnyH_ready (rs := [9]) (by kernel_rfl) (by decide) ?_
          refine AllReadyH.cons rfl (fun K9 hK9 => ?_) AllReadyH.nil
          go_simp
          refine hK9.out _ _ ⟨by simp [go_sem, x0], by simp [go_sem, x1]⟩ (fun _ => ?_)
          refine wpAnyH_ready (rs := [10]) (by kernel_rfl) (by decide) ?_
          refine AllReadyH.cons rfl (fun K10 hK10 => ?_) AllReadyH.nil
          go_simp
          refine hK10.out _ _ ⟨by simp [go_sem, x0], by simp [go_sem, x1]⟩ (fun _ => ?_)
          refine ⟨by kernel_rfl, ?_⟩
          go_wp2_with fail
          generalize hwz : World.setCell (World.setCell _ _ _) _ _ = wz
          have u0 : wz.cell? ⟨w.heap.size + 1, 0, none⟩ = some (.slice A5 n5 d5) := by rw [← hwz]; simp [go_sem, p0]
          have u1 : wz.cell? ⟨w.heap.size + 1, 1, none⟩ = some (.slice A6 n6 d6) := by rw [← hwz]; simp [go_sem, p1]
          obtain rfl : wz = setL W4 (w.heap.size + 1) 0 [.slice A5 n5 d5, .slice A6 n6 d6] := hwz.symm
          have hbz := setL_below (b0.trans (b4.mono (by omega))) [.slice A5 n5 d5, .slice A6 n6 d6] (w.heap.size + 1) 0 (by omega)
          have kk : ∀ q, w0.heap.size ≤ q → (setL W4 (w.heap.size + 1) 0 [.slice A5 n5 d5, .slice A6 n6 d6]).heap[q]? = W4.heap[q]? := fun q hq => setL_other _ _ _ _ q (by omega)
          have o5 := oS.keep (w' := setL W4 (w.heap.size + 1) 0 [.slice A5 n5 d5, .slice A6 n6 d6]) (fun q hq _ _ => kk q hq)
          have o6 := oQ.keep (w' := setL W4 (w.heap.size + 1) 0 [.slice A5 n5 d5, .slice A6 n6 d6]) (fun q hq _ _ => kk q hq)
          have sz : (setL W4 (w.heap.size + 1) 0 [.slice A5 n5 d5, .slice A6 n6 d6]).heap.size = W4.heap.size := setL_size _ _ _ _
          clear hwz kk
          generalize setL W4 (w.heap.size + 1) 0 [.slice A5 n5 d5, .slice A6 n6 d6] = wz at *
          refine bodyPost_ret (by simp only [results, Tryz.results113]; simp [go_sem, u0, u1]; rfl) rfl ?_
          exact ⟨_, _, rfl, o5.mono (by omega) (by omega), o6.mono (by omega) (by omega), hbz⟩
  · go_simp
    refine hK0.out _ _ (SH _ (b0'.alloc b0'.size (.cells #[] 134))) (fun _ => ?_)
    refine held_gen (F := fun W' => W'.ownsRow w0.heap.size 134 2 (.slice (some ⟨W0.heap.size, 0, none⟩) 0 0) 0 [] ∧ Below w0.heap.size w0 W') ⟨own_empty W0 (base := w0.heap.size) 134 2 b0'.size, b0'.alloc b0'.size (.cells #[] 134)⟩ ?_
    rintro W1 ⟨hQ1, b1⟩
    refine wpAnyH_ready (rs := [0]) (by kernel_rfl) (by decide) ?_
    refine AllReadyH.cons rfl (fun K1 hK1 => ?_) AllReadyH.nil
    · go_simp
      refine hK1.out _ _ (SH _ (b1.alloc b1.size (.cells #[] 127))) (fun _ => ?_)
      refine held_gen (F := fun W' => W'.ownsRow w0.heap.size 127 3 (.slice (some ⟨W1.heap.size, 0, none⟩) 0 0) 0 [] ∧ Below w0.heap.size w0 W' ∧ W'.ownsRow w0.heap.size 134 2 (.slice (some ⟨W0.heap.size, 0, none⟩) 0 0) (0) []) ⟨own_empty W1 (base := w0.heap.size) 127 3 b1.size, b1.alloc b1.size (.cells #[] 127), hQ1.alloc (.cells #[] 127)⟩ ?_
      rintro W2 ⟨hS2, b2, hQ2⟩
      refine wpAnyH_ready (rs := [2]) (by kernel_rfl) (by decide) ?_
      refine AllReadyH.cons rfl (fun K2 hK2 => ?_) AllReadyH.nil
      · refine step_app_rd rfl _ _ 30 rfl w0.heap.size 127 is _ 3 _ Tryz.underlying30 his hzs0 hzs1 hzs2 rfl (by omega) Sl.cells_len Sl.one (.slice (some ⟨W1.heap.size, 0, none⟩) 0 0) 0 [] rfl hS2 (A := A1) (m := n1) (c := d1) (l := ls) rfl (hs.below b2 (Nat.le_refl _)) (by unfold maxLen; omega) (by omega) b2.size ?_
        intro v3 W3 hS3 g3
        have b3 : Below w0.heap.size w0 W3 := b2.grown g3 b2.size (own_ge hS2)
        refine hK2.out _ _ (SH _ b3) (fun _ => ?_)
        have hQ3 := own_kept_type hQ2 hS2 g3 (by decide)
        refine wpAnyH_ready (rs := [6]) (by kernel_rfl) (by decide) ?_
        refine AllReadyH.cons rfl (fun K3 hK3 => ?_) AllReadyH.nil
        · refine step_app_rd rfl _ _ 31 rfl w0.heap.size 134 iq _ 2 _ Tryz.underlying31 hiq hzq0 hzq1 hzq2 rfl (by omega) Wt.cells_len Wt.one (.slice (some ⟨W0.heap.size, 0, none⟩) 0 0) 0 [] rfl hQ3 (A := A) (m := n) (c := c) (l := lw) rfl (hw.below b3 hh1) (by unfold maxLen; omega) (by omega) b3.size ?_
          intro v4 W4 hQ4 g4
          have b4 : Below w0.heap.size w0 W4 := b3.grown g4 b3.size (own_ge hQ3)
          refine hK3.out _ _ (SH _ b4) (fun _ => ?_)
          have hS4 := own_kept_type hS3 hQ3 g4 (by decide)
          have oS := Ow.of_own Sl.cells_len hS4 (l := ls) (by simp) (by have := H0.out; omega)
          have oQ := Ow.of_own Wt.cells_len hQ4 (l := lw) (by simp) (by have := H.out; omega)
          obtain ⟨A5, n5, d5, rfl, _, _, _⟩ := oS.rd.form
          obtain ⟨A6, n6, d6, rfl, _, _, _⟩ := oQ.rd.form
          clear hS4 hQ4
          obtain ⟨hc_, hf_⟩ := bcell b4
          have p0 := (hc_ _ 0 zr).trans r0
          have p1 := (hc_ _ 1 zr).trans r1
          have pz := fun j => (hf_ _ j zr).trans (rz j)
          have x0 := (hc_ _ 0 zq).trans q0
          have x1 := (hc_ _ 1 zq).trans q1
          clear hc_ hf_
          refine wpAnyH_ready (rs := [7]) (by kernel_rfl) (by decide) ?_
          refine AllReadyH.cons rfl (fun K8 hK8 => ?_) AllReadyH.nil
          go_simp
          refine hK8.out _ _ ⟨x0, x1⟩ (fun _ => ?_)
          refine wpAnyH_ready (rs := [9]) (by kernel_rfl) (by decide) ?_
          refine AllReadyH.cons rfl (fun K9 hK9 => ?_) AllReadyH.nil
          go_simp
          refine hK9.out _ _ ⟨by simp [go_sem, x0], by simp [go_sem, x1]⟩ (fun _ => ?_)
          refine wpAnyH_ready (rs := [10]) (by kernel_rfl) (by decide) ?_
          refine AllReadyH.cons rfl (fun K10 hK10 => ?_) AllReadyH.nil
          go_simp
          refine hK10.out _ _ ⟨by simp [go_sem, x0], by simp [go_sem, x1]⟩ (fun _ => ?_)
          refine ⟨by kernel_rfl, ?_⟩
          go_wp2_with fail
          generalize hwz : World.setCell (World.setCell _ _ _) _ _ = wz
          have u0 : wz.cell? ⟨w.heap.size + 1, 0, none⟩ = some (.slice A5 n5 d5) := by rw [← hwz]; simp [go_sem, p0]
          have u1 : wz.cell? ⟨w.heap.size + 1, 1, none⟩ = some (.slice A6 n6 d6) := by rw [← hwz]; simp [go_sem, p1]
          obtain rfl : wz = setL W4 (w.heap.size + 1) 0 [.slice A5 n5 d5, .slice A6 n6 d6] := hwz.symm
          have hbz := setL_below (b0.trans (b4.mono (by omega))) [.slice A5 n5 d5, .slice A6 n6 d6] (w.heap.size + 1) 0 (by omega)
          have kk : ∀ q, w0.heap.size ≤ q → (setL W4 (w.heap.size + 1) 0 [.slice A5 n5 d5, .slice A6 n6 d6]).heap[q]? = W4.heap[q]? := fun q hq => setL_other _ _ _ _ q (by omega)
          have o5 := oS.keep (w' := setL W4 (w.heap.size + 1) 0 [.slice A5 n5 d5, .slice A6 n6 d6]) (fun q hq _ _ => kk q hq)
          have o6 := oQ.keep (w' := setL W4 (w.heap.size + 1) 0 [.slice A5 n5 d5, .slice A6 n6 d6]) (fun q hq _ _ => kk q hq)
          have sz : (setL W4 (w.heap.size + 1) 0 [.slice A5 n5 d5, .slice A6 n6 d6]).heap.size = W4.heap.size := setL_size _ _ _ _
          clear hwz kk
          generalize setL W4 (w.heap.size + 1) 0 [.slice A5 n5 d5, .slice A6 n6 d6] = wz at *
          refine bodyPost_ret (by simp only [results, Tryz.results113]; simp [go_sem, u0, u1]; rfl) rfl ?_
          exact ⟨_, _, rfl, o5.mono (by omega) (by omega), o6.mono (by omega) (by omega), hbz⟩
def Qu.tkK (l : List Sl) (m : Int) (lw : List Wt) : List Wt := if Sl.tkOk l m then lw else []
set_option maxHeartbeats 4000000 in
theorem implTakeQ_in (vs vw : Value) (l0 : List Sl) (lw : List Wt) (m : Int) (w : World) {lo hi lo2 hi2 : Nat} (h : Rd Sl.cells 3 w lo hi vs l0) (h2 : Rd Wt.cells 2 w lo2 hi2 vw lw) (hh : hi ≤ w.heap.size) (hh2 : hi2 ≤ w.heap.size) (hg : Sl.good l0 = true) (hl2 : lw.length ≤ 1048576) :
    Calls Tryz.prog 115 #[.agg #[vs, vw], .int .i64 m] w fun e w' => ∃ v1 v2, e = .returned (.tuple #[.agg #[v1, v2], .int .i64 (Sl.tkV l0 m), .bool (Sl.tkOk l0 m)]) ∧ Ow Sl.cells 3 127 w' w.heap.size w'.heap.size v1 (Sl.tkR l0 m) ∧ Ow Wt.cells 2 134 w' w.heap.size w'.heap.size v2 (Qu.tkK l0 m lw) ∧ Below w.heap.size w w' := by
  have b0 : Below w.heap.size w ((w.alloc (.cells #[vs, vw] 33)).alloc (.cells #[.slice none 0 0, .slice none 0 0] 33)) := ((Below.refl w.heap.size w).alloc (Nat.le_refl _) _).alloc (by simp) _
  have z0 : ((w.alloc (.cells #[vs, vw] 33)).alloc (.cells #[.slice none 0 0, .slice none 0 0] 33)).heap.size = w.heap.size + 2 := by simp
  have q0 : ((w.alloc (.cells #[vs, vw] 33)).alloc (.cells #[.slice none 0 0, .slice none 0 0] 33)).cell? ⟨w.heap.size, 0, none⟩ = some vs := by simp
  have q1 : ((w.alloc (.cells #[vs, vw] 33)).alloc (.cells #[.slice none 0 0, .slice none 0 0] 33)).cell? ⟨w.heap.size, 1, none⟩ = some vw := by simp
  have r0 : ((w.alloc (.cells #[vs, vw] 33)).alloc (.cells #[.slice none 0 0, .slice none 0 0] 33)).cell? ⟨w.heap.size + 1, 0, none⟩ = some (.slice none 0 0) := by simp
  have r1 : ((w.alloc (.cells #[vs, vw] 33)).alloc (.cells #[.slice none 0 0, .slice none 0 0] 33)).cell? ⟨w.heap.size + 1, 1, none⟩ = some (.slice none 0 0) := by simp
  have rz : ∀ j, ((w.alloc (.cells #[vs, vw] 33)).alloc (.cells #[.slice none 0 0, .slice none 0 0] 33)).frozen? ⟨w.heap.size + 1, j, none⟩ = false := fun j => froz_new _ _ _ (by simp) j
  have hl : l0.length ≤ 1048576 := by rw [Sl.good_len hg]; decide
  have hs := h.below b0 hh
  have hw := h2.below b0 hh2
  have c1 := implTake_in vs l0 m _ hs (by omega) hg
  have hv := h.form
  have hv2 := h2.form
  clear h h2 hg
  obtain ⟨A0, n0, d0, rfl, _, _, _⟩ := hv
  obtain ⟨A, n, c, rfl, _, _, _⟩ := hv2
  have HK := Lib.hid (show Qu.tkK l0 m lw = if Sl.tkOk l0 m = true then lw else [] from rfl)
  have HR := Lib.hid (show Sl.tkOk l0 m = false → Sl.tkR l0 m = [] ∧ Sl.tkV l0 m = 0 from fun h => ⟨(Sl.tk_no h).2.1, (Sl.tk_no h).2.2.1⟩)
  generalize Qu.tkK l0 m lw = lk at *
  generalize Sl.tkR l0 m = lr at *
  generalize Sl.tkV l0 m = irq at *
  generalize Sl.tkOk l0 m = ok at *
  go_enter Tryz.func115, Tryz.ntmps115
  go_wp2_with fail
  generalize (w.alloc _).alloc _ = wA at *
  refine c1.mono ?_; rintro e w0 ⟨v', rfl, o, b1⟩
  obtain ⟨hc1, hf1⟩ := bcell b1
  replace q0 := (hc1 _ 0 (by omega)).trans q0
  replace q1 := (hc1 _ 1 (by omega)).trans q1
  replace r0 := (hc1 _ 0 (by omega)).trans r0
  replace r1 := (hc1 _ 1 (by omega)).trans r1
  replace rz := fun j => (hf1 _ j (by omega)).trans (rz j)
  replace hs := hs.below b1 (by omega)
  replace hw := hw.below b1 (by omega)
  have zz := b1.size
  replace b0 := b0.trans (b1.mono (by omega))
  clear hc1 hf1 c1 b1
  obtain ⟨A1, n1, d1, rfl, _, _, _⟩ := o.rd.form
  cases ok
  · obtain rfl : lr = [] := (HR.out rfl).1
    obtain rfl : irq = 0 := (HR.out rfl).2
    obtain rfl : lk = [] := by rw [HK.out]; rfl
    clear HK HR
    go_wp2_with fail
    generalize hwz : World.setCell (World.setCell _ _ _) _ _ = wz
    have u0 : wz.cell? ⟨w.heap.size + 1, 0, none⟩ = some (.slice none 0 0) := by rw [← hwz]; simp [go_sem, r0]
    have u1 : wz.cell? ⟨w.heap.size + 1, 1, none⟩ = some (.slice none 0 0) := by rw [← hwz]; simp [go_sem, r1]
    obtain rfl : wz = setL w0 (w.heap.size + 1) 0 [.slice none 0 0, .slice none 0 0] := hwz.symm
    have hbz := setL_below b0 [.slice none 0 0, .slice none 0 0] (w.heap.size + 1) 0 (by omega)
    clear hwz
    generalize setL w0 (w.heap.size + 1) 0 [.slice none 0 0, .slice none 0 0] = wz at *
    refine bodyPost_ret (by simp only [results, Tryz.results115]; simp [go_sem, u0, u1]; rfl) rfl ?_
    exact ⟨_, _, rfl, Ow.nil_, Ow.nil_, hbz⟩
  · obtain rfl : lk = lw := by rw [HK.out]; rfl
    clear HK HR
    have c2 := implOwn_any _ _ l0 lk w0 hs hw (by omega) (by omega) hl hl2
    go_wp2_with fail
    refine c2.mono ?_; rintro e w1 ⟨v5, v6, rfl, o5, o6, b2⟩
    obtain ⟨A5, n5, d5, rfl, _, _, _⟩ := o5.rd.form
    clear o5
    obtain ⟨hc1, hf1⟩ := bcell b2
    replace r0 := (hc1 _ 0 (by omega)).trans r0
    replace r1 := (hc1 _ 1 (by omega)).trans r1
    replace rz := fun j => (hf1 _ j (by omega)).trans (rz j)
    replace o := o.below b2 (by omega)
    have zz2 := b2.size
    replace b0 := b0.trans (b2.mono (by omega))
    clear hc1 hf1 c2 b2 hs hw
    obtain ⟨A6, n6, d6, rfl, _, _, _⟩ := o6.rd.form
    have zlt : w.heap.size + 1 < w1.heap.size := by omega
    go_wp2_with fail
    generalize hwz : World.setCell (World.setCell _ _ _) _ _ = wz
    have u0 : wz.cell? ⟨w.heap.size + 1, 0, none⟩ = some (.slice A1 n1 d1) := by rw [← hwz]; simp [go_sem, r0]
    have u1 : wz.cell? ⟨w.heap.size + 1, 1, none⟩ = some (.slice A6 n6 d6) := by rw [← hwz]; simp [go_sem, r1]
    obtain rfl : wz = setL w1 (w.heap.size + 1) 0 [.slice A1 n1 d1, .slice A6 n6 d6] := hwz.symm
    have hbz := setL_below b0 [.slice A1 n1 d1, .slice A6 n6 d6] (w.heap.size + 1) 0 (by omega)
    have kk : ∀ q, wA.heap.size ≤ q → (setL w1 (w.heap.size + 1) 0 [.slice A1 n1 d1, .slice A6 n6 d6]).heap[q]? = w1.heap[q]? := fun q hq => setL_other _ _ _ _ q (by omega)
    have o7 := o.keep (w' := setL w1 (w.heap.size + 1) 0 [.slice A1 n1 d1, .slice A6 n6 d6]) (fun q hq _ _ => kk q hq)
    have o8 := o6.keep (w' := setL w1 (w.heap.size + 1) 0 [.slice A1 n1 d1, .slice A6 n6 d6]) (fun q hq _ _ => kk q (by omega))
    have sz : (setL w1 (w.heap.size + 1) 0 [.slice A1 n1 d1, .slice A6 n6 d6]).heap.size = w1.heap.size := setL_size _ _ _ _
    clear hwz kk
    generalize setL w1 (w.heap.size + 1) 0 [.slice A1 n1 d1, .slice A6 n6 d6] = wz at *
    have bx := (Below.refl wz.heap.size wz).alloc (Nat.le_refl _) (.cells #[.slice A1 n1 d1, .slice A6 n6 d6] 33)
    have v0 := (bx.cell (p := ⟨w.heap.size + 1, 0, none⟩) (by show w.heap.size + 1 < _; omega)).trans u0
    have v1 := (bx.cell (p := ⟨w.heap.size + 1, 1, none⟩) (by show w.heap.size + 1 < _; omega)).trans u1
    have sx := bx.size
    replace o7 := o7.below bx (by omega)
    replace o8 := o8.below bx (by omega)
    replace hbz := hbz.trans (bx.mono (by omega))
    clear bx
    generalize World.alloc wz _ = wy at *
    refine bodyPost_ret (by simp only [results, Tryz.results115]; simp [go_sem, v0, v1]; rfl) rfl ?_
    exact ⟨_, _, rfl, o7.mono (by omega) (by omega), o8.mono (by omega) (by omega), hbz⟩

end Go.Proofs.YtengaccnncnipaaGreat
