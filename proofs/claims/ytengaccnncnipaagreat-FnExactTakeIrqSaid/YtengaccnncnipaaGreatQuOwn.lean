/- A queue in new memory, in the program and in the reference. Condition: at most 1048576 slots and waiting interrupts each. -/
import Derived.Test.YtengaccnncnipaaGreatTyQueue
import Derived.Test.YtengaccnncnipaaGreatBase3
import Derived.OrdersHeld
import Derived.Deep.RegionHeld
import Derived.Deep.AppendLies
namespace Go.Proofs.YtengaccnncnipaaGreat
open Go.RowKit Go.ChangeShapes Go.WideShapes Go.Deep

/-- a row is kept when a row of another element type grows -/
theorem own_kept_type {w w' : World} {base base2 sz sz2 n n2 : Nat} {E E2 : TypeId} {v v2 : Value} {xs xs2 : List Value} (h : w.ownsRow base E sz v n xs) (h2 : w.ownsRow base2 E2 sz2 v2 n2 xs2) (hg : w.grownBy w' v2.ownBlock) (hE : E ≠ E2) : w'.ownsRow base E sz v n xs := by
  refine h.kept hg ?_
  rcases h.2 with ⟨rfl, _⟩ | ⟨g, cap, cur, rfl, _, hh, _⟩
  · left; simp [Value.ownBlock]
  · rcases h2.2 with ⟨rfl, _⟩ | ⟨g2, cap2, cur2, rfl, _, hh2, _⟩
    · right; simp [Value.ownBlock]
    · right
      simp only [Value.ownBlock, ne_eq, Option.some.injEq]
      intro e
      subst e
      rw [hh] at hh2
      injection hh2 with hh2
      injection hh2 with _ h4
      exact hE h4
theorem held_gen {P : Program} {md : Region.Mode} {ops : Array Oper} {Q : Exit → Act → World → Prop} {S : World → Prop} {fuel : Nat} {listed : Array Bool} {a : Act} {W : World} {F : World → Prop} (hF : F W) (h : ∀ W, F W → wpAnyH P md ops Q S fuel listed a W) : wpAnyH P md ops Q S fuel listed a W := h W hF

set_option maxHeartbeats 8000000 in
theorem specOwn_any (vs vw : Value) (ls : List Sl) (lw : List Wt) (w : World) {lo hi lo2 hi2 : Nat} (h : Rd Sl.cells 3 w lo hi vs ls) (h2 : Rd Wt.cells 2 w lo2 hi2 vw lw) (hh : hi ≤ w.heap.size) (hh2 : hi2 ≤ w.heap.size) (hl : ls.length ≤ 1048576) (hl2 : lw.length ≤ 1048576) :
    Calls Tryz.prog 103 #[.agg #[vs, vw]] w fun e w' => ∃ v1 v2, e = .returned (.agg #[v1, v2]) ∧ Ow Sl.cells 3 127 w' w.heap.size w'.heap.size v1 ls ∧ Ow Wt.cells 2 134 w' w.heap.size w'.heap.size v2 lw ∧ Below w.heap.size w w' := by
  have b0 : Below w.heap.size w ((w.alloc (.cells #[vs, vw] 33)).alloc (.cells #[.slice none 0 0, .slice none 0 0] 33)) := ((Below.refl w.heap.size w).alloc (Nat.le_refl _) _).alloc (by simp) _
  have z0 : ((w.alloc (.cells #[vs, vw] 33)).alloc (.cells #[.slice none 0 0, .slice none 0 0] 33)).heap.size = w.heap.size + 2 := by simp
  have q0 : ((w.alloc (.cells #[vs, vw] 33)).alloc (.cells #[.slice none 0 0, .slice none 0 0] 33)).cell? ⟨w.heap.size, 0, none⟩ = some vs := by simp
  have q1 : ((w.alloc (.cells #[vs, vw] 33)).alloc (.cells #[.slice none 0 0, .slice none 0 0] 33)).cell? ⟨w.heap.size, 1, none⟩ = some vw := by simp
  have r0 : ((w.alloc (.cells #[vs, vw] 33)).alloc (.cells #[.slice none 0 0, .slice none 0 0] 33)).cell? ⟨w.heap.size + 1, 0, none⟩ = some (.slice none 0 0) := by simp
  have r1 : ((w.alloc (.cells #[vs, vw] 33)).alloc (.cells #[.slice none 0 0, .slice none 0 0] 33)).cell? ⟨w.heap.size + 1, 1, none⟩ = some (.slice none 0 0) := by simp
  have rz : ∀ j, ((w.alloc (.cells #[vs, vw] 33)).alloc (.cells #[.slice none 0 0, .slice none 0 0] 33)).frozen? ⟨w.heap.size + 1, j, none⟩ = false := fun j => froz_new _ _ _ (by simp) j
  have hs := h.below b0 hh
  have hw := h2.below b0 hh2
  have hv := h.form
  have hv2 := h2.form
  clear h h2
  obtain ⟨A0, n0, d0, rfl, H0, hd0, hm0⟩ := hv
  obtain ⟨A, n, c, rfl, H, hc, hm⟩ := hv2
  rw [← H0.out] at hl
  rw [← H.out] at hl2
  go_enter Tryz.func103, Tryz.ntmps103
  go_wp2_with fail
  generalize (w.alloc _).alloc _ = w0 at *
  have hh0 : hi ≤ w0.heap.size := by omega
  have hh1 : hi2 ≤ w0.heap.size := by omega
  have zr : w.heap.size + 1 < w0.heap.size := by omega
  have zq : w.heap.size < w0.heap.size := by omega
  obtain ⟨is, his, hzs0, hzs1, hzs2⟩ := info_parts Sl.info
  obtain ⟨iq, hiq, hzq0, hzq1, hzq2⟩ := info_parts Wt.info
  have SH : ∀ W, Below w0.heap.size w0 W → (fun (W : World) => W.cell? ⟨w.heap.size, 0, none⟩ = some (.slice A0 n0 d0) ∧ W.cell? ⟨w.heap.size, 1, none⟩ = some (.slice A n c)) W := fun W hb => ⟨(hb.cell (p := ⟨w.heap.size, 0, none⟩) zq).trans q0, (hb.cell (p := ⟨w.heap.size, 1, none⟩) zq).trans q1⟩
  refine wp_region_held_drew (S := fun W => W.cell? ⟨w.heap.size, 0, none⟩ = some (.slice A0 n0 d0) ∧ W.cell? ⟨w.heap.size, 1, none⟩ = some (.slice A n c)) (by kernel_rfl) (SH _ (Below.refl w0.heap.size w0).drew) (fun hHeld => ?_)
  refine wpAnyH_take (i := 1) (v := .pointer (some ⟨w.heap.size, 0, none⟩)) rfl (by kernel_rfl) (by kernel_rfl) (by kernel_rfl) (fun _ _ _ h => h) (Or.inl ⟨by rfl, by intro w _; go_simp⟩) hHeld ?_
  refine wpAnyH_take (i := 2) (v := .slice A0 n0 d0) rfl (by kernel_rfl) (by kernel_rfl) (by kernel_rfl) (fun _ _ _ h => h) (Or.inl ⟨by rfl, by intro w hSw; obtain ⟨y0, y1⟩ := hSw; go_simp⟩) hHeld ?_
  refine wpAnyH_take (i := 5) (v := .pointer (some ⟨w.heap.size, 1, none⟩)) rfl (by kernel_rfl) (by kernel_rfl) (by kernel_rfl) (fun _ _ _ h => h) (Or.inl ⟨by rfl, by intro w _; go_simp⟩) hHeld ?_
  refine wpAnyH_take (i := 6) (v := .slice A n c) rfl (by kernel_rfl) (by kernel_rfl) (by kernel_rfl) (fun _ _ _ h => h) (Or.inl ⟨by rfl, by intro w hSw; obtain ⟨y0, y1⟩ := hSw; go_simp⟩) hHeld ?_
  clear hHeld
  refine held_gen (F := fun W' => Below w0.heap.size w0 W') (Below.refl w0.heap.size w0).drew ?_
  rintro W0 b0'
  refine wpAnyH_ready (rs := [0, 4]) (by kernel_rfl) (by decide) ?_
  refine AllReadyH.cons rfl (fun K0 hK0 => ?_) (AllReadyH.cons rfl (fun K0 hK0 => ?_) AllReadyH.nil)
  · go_simp
    refine hK0.out _ _ (SH _ (b0'.alloc b0'.size (.cells #[] 127))) (fun _ => ?_)
    refine held_gen (F := fun W' => W'.ownsRow w0.heap.size 127 3 (.slice (some ⟨W0.heap.size, 0, none⟩) 0 0) 0 [] ∧ Below w0.heap.size w0 W') ⟨own_empty W0 (base := w0.heap.size) 127 3 b0'.size, b0'.alloc b0'.size (.cells #[] 127)⟩ ?_
    rintro W1 ⟨hS1, b1⟩
    refine wpAnyH_ready (rs := [3, 4]) (by kernel_rfl) (by decide) ?_
    refine AllReadyH.cons rfl (fun K1 hK1 => ?_) (AllReadyH.cons rfl (fun K1 hK1 => ?_) AllReadyH.nil)
    · refine step_app_rd rfl _ _ 30 rfl w0.heap.size 127 is _ 3 _ Tryz.underlying30 his hzs0 hzs1 hzs2 rfl (by omega) Sl.cells_len Sl.one (.slice (some ⟨W0.heap.size, 0, none⟩) 0 0) 0 [] rfl hS1 (A := A0) (m := n0) (c := d0) (l := ls) rfl (hs.below b1 hh0) (by unfold maxLen; omega) (by omega) b1.size ?_
      intro v2 W2 hS2 g2
      have b2 : Below w0.heap.size w0 W2 := b1.grown g2 b1.size (own_ge hS1)
      refine hK1.out _ _ (SH _ b2) (fun _ => ?_)
      refine wpAnyH_ready (rs := [4]) (by kernel_rfl) (by decide) ?_
      refine AllReadyH.cons rfl (fun K2 hK2 => ?_) AllReadyH.nil
      · go_simp
        refine hK2.out _ _ (SH _ (b2.alloc b2.size (.cells #[] 134))) (fun _ => ?_)
        refine held_gen (F := fun W' => W'.ownsRow w0.heap.size 134 2 (.slice (some ⟨W2.heap.size, 0, none⟩) 0 0) 0 [] ∧ Below w0.heap.size w0 W' ∧ W'.ownsRow w0.heap.size 127 3 v2 (0 + n0) ([] ++ ls.flatMap Sl.cells)) ⟨own_empty W2 (base := w0.heap.size) 134 2 b2.size, b2.alloc b2.size (.cells #[] 134), hS2.alloc (.cells #[] 134)⟩ ?_
        rintro W3 ⟨hQ3, b3, hS3⟩
        refine wpAnyH_ready (rs := [7]) (by kernel_rfl) (by decide) ?_
        refine AllReadyH.cons rfl (fun K3 hK3 => ?_) AllReadyH.nil
        · refine step_app_rd rfl _ _ 31 rfl w0.heap.size 134 iq _ 2 _ Tryz.underlying31 hiq hzq0 hzq1 hzq2 rfl (by omega) Wt.cells_len Wt.one (.slice (some ⟨W2.heap.size, 0, none⟩) 0 0) 0 [] rfl hQ3 (A := A) (m := n) (c := c) (l := lw) rfl (hw.below b3 hh1) (by unfold maxLen; omega) (by omega) b3.size ?_
          intro v4 W4 hQ4 g4
          have b4 : Below w0.heap.size w0 W4 := b3.grown g4 b3.size (own_ge hQ3)
          refine hK3.out _ _ (SH _ b4) (fun _ => ?_)
          have hS4 := own_kept_type hS3 hQ3 g4 (by decide)
          have oS := Ow.of_own Sl.cells_len hS4 (l := ls) (by simp) (by have := H0.out; omega)
          have oQ := Ow.of_own Wt.cells_len hQ4 (l := lw) (by simp) (by have := H.out; omega)
          obtain ⟨A5, n5, d5, rfl, _, _, _⟩ := oS.rd.form
          obtain ⟨A6, n6, d6, rfl, _, _, _⟩ := oQ.rd.form
          clear hS4 hQ4
          obtain ⟨hc_, hf_⟩ := bcell b4
          have p0 := (hc_ _ 0 zr).trans r0
          have p1 := (hc_ _ 1 zr).trans r1
          have pz := fun j => (hf_ _ j zr).trans (rz j)
          have x0 := (hc_ _ 0 zq).trans q0
          have x1 := (hc_ _ 1 zq).trans q1
          clear hc_ hf_
          refine wpAnyH_ready (rs := [8]) (by kernel_rfl) (by decide) ?_
          refine AllReadyH.cons rfl (fun K8 hK8 => ?_) AllReadyH.nil
          go_simp
          refine hK8.out _ _ ⟨x0, x1⟩ (fun _ => ?_)
          refine wpAnyH_ready (rs := [9]) (by kernel_rfl) (by decide) ?_
          refine AllReadyH.cons rfl (fun K9 hK9 => ?_) AllReadyH.nil
          go_simp
          refine hK9.out _ _ ⟨by simp [go_sem, x0], by simp [go_sem, x1]⟩ (fun _ => ?_)
          refine ⟨by kernel_rfl, ?_⟩
          go_wp2_with fail
          generalize hwz : World.setCell (World.setCell _ _ _) _ _ = wz
          have u0 : wz.cell? ⟨w.heap.size + 1, 0, none⟩ = some (.slice A5 n5 d5) := by rw [← hwz]; simp [go_sem, p0]
          have u1 : wz.cell? ⟨w.heap.size + 1, 1, none⟩ = some (.slice A6 n6 d6) := by rw [← hwz]; simp [go_sem, p1]
          obtain rfl : wz = setL W4 (w.heap.size + 1) 0 [.slice A5 n5 d5, .slice A6 n6 d6] := hwz.symm
          have hbz := setL_below (b0.trans (b4.mono (by omega))) [.slice A5 n5 d5, .slice A6 n6 d6] (w.heap.size + 1) 0 (by omega)
          have kk : ∀ q, w0.heap.size ≤ q → (setL W4 (w.heap.size + 1) 0 [.slice A5 n5 d5, .slice A6 n6 d6]).heap[q]? = W4.heap[q]? := fun q hq => setL_other _ _ _ _ q (by omega)
          have o5 := oS.keep (w' := setL W4 (w.heap.size + 1) 0 [.slice A5 n5 d5, .slice A6 n6 d6]) (fun q hq _ _ => kk q hq)
          have o6 := oQ.keep (w' := setL W4 (w.heap.size + 1) 0 [.slice A5 n5 d5, .slice A6 n6 d6]) (fun q hq _ _ => kk q hq)
          have sz : (setL W4 (w.heap.size + 1) 0 [.slice A5 n5 d5, .slice A6 n6 d6]).heap.size = W4.heap.size := setL_size _ _ _ _
          clear hwz kk
          generalize setL W4 (w.heap.size + 1) 0 [.slice A5 n5 d5, .slice A6 n6 d6] = wz at *
          refine bodyPost_ret (by simp only [results, Tryz.results103]; simp [go_sem, u0, u1]; rfl) rfl ?_
          exact ⟨_, _, rfl, o5.mono (by omega) (by omega), o6.mono (by omega) (by omega), hbz⟩
    · go_simp
      refine hK1.out _ _ (SH _ (b1.alloc b1.size (.cells #[] 134))) (fun _ => ?_)
      refine held_gen (F := fun W' => W'.ownsRow w0.heap.size 134 2 (.slice (some ⟨W1.heap.size, 0, none⟩) 0 0) 0 [] ∧ Below w0.heap.size w0 W' ∧ W'.ownsRow w0.heap.size 127 3 (.slice (some ⟨W0.heap.size, 0, none⟩) 0 0) (0) []) ⟨own_empty W1 (base := w0.heap.size) 134 2 b1.size, b1.alloc b1.size (.cells #[] 134), hS1.alloc (.cells #[] 134)⟩ ?_
      rintro W2 ⟨hQ2, b2, hS2⟩
      refine wpAnyH_ready (rs := [3]) (by kernel_rfl) (by decide) ?_
      refine AllReadyH.cons rfl (fun K2 hK2 => ?_) AllReadyH.nil
      · refine step_app_rd rfl _ _ 30 rfl w0.heap.size 127 is _ 3 _ Tryz.underlying30 his hzs0 hzs1 hzs2 rfl (by omega) Sl.cells_len Sl.one (.slice (some ⟨W0.heap.size, 0, none⟩) 0 0) 0 [] rfl hS2 (A := A0) (m := n0) (c := d0) (l := ls) rfl (hs.below b2 hh0) (by unfold maxLen; omega) (by omega) b2.size ?_
        intro v3 W3 hS3 g3
        have b3 : Below w0.heap.size w0 W3 := b2.grown g3 b2.size (own_ge hS2)
        refine hK2.out _ _ (SH _ b3) (fun _ => ?_)
        have hQ3 := own_kept_type hQ2 hS2 g3 (by decide)
        refine wpAnyH_ready (rs := [7]) (by kernel_rfl) (by decide) ?_
        refine AllReadyH.cons rfl (fun K3 hK3 => ?_) AllReadyH.nil
        · refine step_app_rd rfl _ _ 31 rfl w0.heap.size 134 iq _ 2 _ Tryz.underlying31 hiq hzq0 hzq1 hzq2 rfl (by omega) Wt.cells_len Wt.one (.slice (some ⟨W1.heap.size, 0, none⟩) 0 0) 0 [] rfl hQ3 (A := A) (m := n) (c := c) (l := lw) rfl (hw.below b3 hh1) (by unfold maxLen; omega) (by omega) b3.size ?_
          intro v4 W4 hQ4 g4
          have b4 : Below w0.heap.size w0 W4 := b3.grown g4 b3.size (own_ge hQ3)
          refine hK3.out _ _ (SH _ b4) (fun _ => ?_)
          have hS4 := own_kept_type hS3 hQ3 g4 (by decide)
          have oS := Ow.of_own Sl.cells_len hS4 (l := ls) (by simp) (by have := H0.out; omega)
          have oQ := Ow.of_own Wt.cells_len hQ4 (l := lw) (by simp) (by have := H.out; omega)
          obtain ⟨A5, n5, d5, rfl, _, _, _⟩ := oS.rd.form
          obtain ⟨A6, n6, d6, rfl, _, _, _⟩ := oQ.rd.form
          clear hS4 hQ4
          obtain ⟨hc_, hf_⟩ := bcell b4
          have p0 := (hc_ _ 0 zr).trans r0
          have p1 := (hc_ _ 1 zr).trans r1
          have pz := fun j => (hf_ _ j zr).trans (rz j)
          have x0 := (hc_ _ 0 zq).trans q0
          have x1 := (hc_ _ 1 zq).trans q1
          clear hc_ hf_
          refine wpAnyH_ready (rs := [8]) (by kernel_rfl) (by decide) ?_
          refine AllReadyH.cons rfl (fun K8 hK8 => ?_) AllReadyH.nil
          go_simp
          refine hK8.out _ _ ⟨x0, x1⟩ (fun _ => ?_)
          refine wpAnyH_ready (rs := [9]) (by kernel_rfl) (by decide) ?_
          refine AllReadyH.cons rfl (fun K9 hK9 => ?_) AllReadyH.nil
          go_simp
          refine hK9.out _ _ ⟨by simp [go_sem, x0], by simp [go_sem, x1]⟩ (fun _ => ?_)
          refine ⟨by kernel_rfl, ?_⟩
          go_wp2_with fail
          generalize hwz : World.setCell (World.setCell _ _ _) _ _ = wz
          have u0 : wz.cell? ⟨w.heap.size + 1, 0, none⟩ = some (.slice A5 n5 d5) := by rw [← hwz]; simp [go_sem, p0]
          have u1 : wz.cell? ⟨w.heap.size + 1, 1, none⟩ = some (.slice A6 n6 d6) := by rw [← hwz]; simp [go_sem, p1]
          obtain rfl : wz = setL W4 (w.heap.size + 1) 0 [.slice A5 n5 d5, .slice A6 n6 d6] := hwz.symm
          have hbz := setL_below (b0.trans (b4.mono (by omega))) [.slice A5 n5 d5, .slice A6 n6 d6] (w.heap.size + 1) 0 (by omega)
          have kk : ∀ q, w0.heap.size ≤ q → (setL W4 (w.heap.size + 1) 0 [.slice A5 n5 d5, .slice A6 n6 d6]).heap[q]? = W4.heap[q]? := fun q hq => setL_other _ _ _ _ q (by omega)
          have o5 := oS.keep (w' := setL W4 (w.heap.size + 1) 0 [.slice A5 n5 d5, .slice A6 n6 d6]) (fun q hq _ _ => kk q hq)
          have o6 := oQ.keep (w' := setL W4 (w.heap.size + 1) 0 [.slice A5 n5 d5, .slice A6 n6 d6]) (fun q hq _ _ => kk q hq)
          have sz : (setL W4 (w.heap.size + 1) 0 [.slice A5 n5 d5, .slice A6 n6 d6]).heap.size = W4.heap.size := setL_size _ _ _ _
          clear hwz kk
          generalize setL W4 (w.heap.size + 1) 0 [.slice A5 n5 d5, .slice A6 n6 d6] = wz at *
          refine bodyPost_ret (by simp only [results, Tryz.results103]; simp [go_sem, u0, u1]; rfl) rfl ?_
          exact ⟨_, _, rfl, o5.mono (by omega) (by omega), o6.mono (by omega) (by omega), hbz⟩
  · go_simp
    refine hK0.out _ _ (SH _ (b0'.alloc b0'.size (.cells #[] 134))) (fun _ => ?_)
    refine held_gen (F := fun W' => W'.ownsRow w0.heap.size 134 2 (.slice (some ⟨W0.heap.size, 0, none⟩) 0 0) 0 [] ∧ Below w0.heap.size w0 W') ⟨own_empty W0 (base := w0.heap.size) 134 2 b0'.size, b0'.alloc b0'.size (.cells #[] 134)⟩ ?_
    rintro W1 ⟨hQ1, b1⟩
    refine wpAnyH_ready (rs := [0]) (by kernel_rfl) (by decide) ?_
    refine AllReadyH.cons rfl (fun K1 hK1 => ?_) AllReadyH.nil
    · go_simp
      refine hK1.out _ _ (SH _ (b1.alloc b1.size (.cells #[] 127))) (fun _ => ?_)
      refine held_gen (F := fun W' => W'.ownsRow w0.heap.size 127 3 (.slice (some ⟨W1.heap.size, 0, none⟩) 0 0) 0 [] ∧ Below w0.heap.size w0 W' ∧ W'.ownsRow w0.heap.size 134 2 (.slice (some ⟨W0.heap.size, 0, none⟩) 0 0) (0) []) ⟨own_empty W1 (base := w0.heap.size) 127 3 b1.size, b1.alloc b1.size (.cells #[] 127), hQ1.alloc (.cells #[] 127)⟩ ?_
      rintro W2 ⟨hS2, b2, hQ2⟩
      refine wpAnyH_ready (rs := [3]) (by kernel_rfl) (by decide) ?_
      refine AllReadyH.cons rfl (fun K2 hK2 => ?_) AllReadyH.nil
      · refine step_app_rd rfl _ _ 30 rfl w0.heap.size 127 is _ 3 _ Tryz.underlying30 his hzs0 hzs1 hzs2 rfl (by omega) Sl.cells_len Sl.one (.slice (some ⟨W1.heap.size, 0, none⟩) 0 0) 0 [] rfl hS2 (A := A0) (m := n0) (c := d0) (l := ls) rfl (hs.below b2 hh0) (by unfold maxLen; omega) (by omega) b2.size ?_
        intro v3 W3 hS3 g3
        have b3 : Below w0.heap.size w0 W3 := b2.grown g3 b2.size (own_ge hS2)
        refine hK2.out _ _ (SH _ b3) (fun _ => ?_)
        have hQ3 := own_kept_type hQ2 hS2 g3 (by decide)
        refine wpAnyH_ready (rs := [7]) (by kernel_rfl) (by decide) ?_
        refine AllReadyH.cons rfl (fun K3 hK3 => ?_) AllReadyH.nil
        · refine step_app_rd rfl _ _ 31 rfl w0.heap.size 134 iq _ 2 _ Tryz.underlying31 hiq hzq0 hzq1 hzq2 rfl (by omega) Wt.cells_len Wt.one (.slice (some ⟨W0.heap.size, 0, none⟩) 0 0) 0 [] rfl hQ3 (A := A) (m := n) (c := c) (l := lw) rfl (hw.below b3 hh1) (by unfold maxLen; omega) (by omega) b3.size ?_
          intro v4 W4 hQ4 g4
          have b4 : Below w0.heap.size w0 W4 := b3.grown g4 b3.size (own_ge hQ3)
          refine hK3.out _ _ (SH _ b4) (fun _ => ?_)
          have hS4 := own_kept_type hS3 hQ3 g4 (by decide)
          have oS := Ow.of_own Sl.cells_len hS4 (l := ls) (by simp) (by have := H0.out; omega)
          have oQ := Ow.of_own Wt.cells_len hQ4 (l := lw) (by simp) (by have := H.out; omega)
          obtain ⟨A5, n5, d5, rfl, _, _, _⟩ := oS.rd.form
          obtain ⟨A6, n6, d6, rfl, _, _, _⟩ := oQ.rd.form
          clear hS4 hQ4
          obtain ⟨hc_, hf_⟩ := bcell b4
          have p0 := (hc_ _ 0 zr).trans r0
          have p1 := (hc_ _ 1 zr).trans r1
          have pz := fun j => (hf_ _ j zr).trans (rz j)
          have x0 := (hc_ _ 0 zq).trans q0
          have x1 := (hc_ _ 1 zq).trans q1
          clear hc_ hf_
          refine wpAnyH_ready (rs := [8]) (by kernel_rfl) (by decide) ?_
          refine AllReadyH.cons rfl (fun K8 hK8 => ?_) AllReadyH.nil
          go_simp
          refine hK8.out _ _ ⟨x0, x1⟩ (fun _ => ?_)
          refine wpAnyH_ready (rs := [9]) (by kernel_rfl) (by decide) ?_
          refine AllReadyH.cons rfl (fun K9 hK9 => ?_) AllReadyH.nil
          go_simp
          refine hK9.out _ _ ⟨by simp [go_sem, x0], by simp [go_sem, x1]⟩ (fun _ => ?_)
          refine ⟨by kernel_rfl, ?_⟩
          go_wp2_with fail
          generalize hwz : World.setCell (World.setCell _ _ _) _ _ = wz
          have u0 : wz.cell? ⟨w.heap.size + 1, 0, none⟩ = some (.slice A5 n5 d5) := by rw [← hwz]; simp [go_sem, p0]
          have u1 : wz.cell? ⟨w.heap.size + 1, 1, none⟩ = some (.slice A6 n6 d6) := by rw [← hwz]; simp [go_sem, p1]
          obtain rfl : wz = setL W4 (w.heap.size + 1) 0 [.slice A5 n5 d5, .slice A6 n6 d6] := hwz.symm
          have hbz := setL_below (b0.trans (b4.mono (by omega))) [.slice A5 n5 d5, .slice A6 n6 d6] (w.heap.size + 1) 0 (by omega)
          have kk : ∀ q, w0.heap.size ≤ q → (setL W4 (w.heap.size + 1) 0 [.slice A5 n5 d5, .slice A6 n6 d6]).heap[q]? = W4.heap[q]? := fun q hq => setL_other _ _ _ _ q (by omega)
          have o5 := oS.keep (w' := setL W4 (w.heap.size + 1) 0 [.slice A5 n5 d5, .slice A6 n6 d6]) (fun q hq _ _ => kk q hq)
          have o6 := oQ.keep (w' := setL W4 (w.heap.size + 1) 0 [.slice A5 n5 d5, .slice A6 n6 d6]) (fun q hq _ _ => kk q hq)
          have sz : (setL W4 (w.heap.size + 1) 0 [.slice A5 n5 d5, .slice A6 n6 d6]).heap.size = W4.heap.size := setL_size _ _ _ _
          clear hwz kk
          generalize setL W4 (w.heap.size + 1) 0 [.slice A5 n5 d5, .slice A6 n6 d6] = wz at *
          refine bodyPost_ret (by simp only [results, Tryz.results103]; simp [go_sem, u0, u1]; rfl) rfl ?_
          exact ⟨_, _, rfl, o5.mono (by omega) (by omega), o6.mono (by omega) (by omega), hbz⟩
set_option maxHeartbeats 8000000 in
theorem implOwn_any (vs vw : Value) (ls : List Sl) (lw : List Wt) (w : World) {lo hi lo2 hi2 : Nat} (h : Rd Sl.cells 3 w lo hi vs ls) (h2 : Rd Wt.cells 2 w lo2 hi2 vw lw) (hh : hi ≤ w.heap.size) (hh2 : hi2 ≤ w.heap.size) (hl : ls.length ≤ 1048576) (hl2 : lw.length ≤ 1048576) :
    Calls Tryz.prog 121 #[.agg #[vs, vw]] w fun e w' => ∃ v1 v2, e = .returned (.agg #[v1, v2]) ∧ Ow Sl.cells 3 127 w' w.heap.size w'.heap.size v1 ls ∧ Ow Wt.cells 2 134 w' w.heap.size w'.heap.size v2 lw ∧ Below w.heap.size w w' := by
  have b0 : Below w.heap.size w ((w.alloc (.cells #[vs, vw] 33)).alloc (.cells #[.slice none 0 0, .slice none 0 0] 33)) := ((Below.refl w.heap.size w).alloc (Nat.le_refl _) _).alloc (by simp) _
  have z0 : ((w.alloc (.cells #[vs, vw] 33)).alloc (.cells #[.slice none 0 0, .slice none 0 0] 33)).heap.size = w.heap.size + 2 := by simp
  have q0 : ((w.alloc (.cells #[vs, vw] 33)).alloc (.cells #[.slice none 0 0, .slice none 0 0] 33)).cell? ⟨w.heap.size, 0, none⟩ = some vs := by simp
  have q1 : ((w.alloc (.cells #[vs, vw] 33)).alloc (.cells #[.slice none 0 0, .slice none 0 0] 33)).cell? ⟨w.heap.size, 1, none⟩ = some vw := by simp
  have r0 : ((w.alloc (.cells #[vs, vw] 33)).alloc (.cells #[.slice none 0 0, .slice none 0 0] 33)).cell? ⟨w.heap.size + 1, 0, none⟩ = some (.slice none 0 0) := by simp
  have r1 : ((w.alloc (.cells #[vs, vw] 33)).alloc (.cells #[.slice none 0 0, .slice none 0 0] 33)).cell? ⟨w.heap.size + 1, 1, none⟩ = some (.slice none 0 0) := by simp
  have rz : ∀ j, ((w.alloc (.cells #[vs, vw] 33)).alloc (.cells #[.slice none 0 0, .slice none 0 0] 33)).frozen? ⟨w.heap.size + 1, j, none⟩ = false := fun j => froz_new _ _ _ (by simp) j
  have hs := h.below b0 hh
  have hw := h2.below b0 hh2
  have hv := h.form
  have hv2 := h2.form
  clear h h2
  obtain ⟨A0, n0, d0, rfl, H0, hd0, hm0⟩ := hv
  obtain ⟨A, n, c, rfl, H, hc, hm⟩ := hv2
  rw [← H0.out] at hl
  rw [← H.out] at hl2
  go_enter Tryz.func121, Tryz.ntmps121
  go_wp2_with fail
  generalize (w.alloc _).alloc _ = w0 at *
  have hh0 : hi ≤ w0.heap.size := by omega
  have hh1 : hi2 ≤ w0.heap.size := by omega
  have zr : w.heap.size + 1 < w0.heap.size := by omega
  have zq : w.heap.size < w0.heap.size := by omega
  obtain ⟨is, his, hzs0, hzs1, hzs2⟩ := info_parts Sl.info
  obtain ⟨iq, hiq, hzq0, hzq1, hzq2⟩ := info_parts Wt.info
  have SH : ∀ W, Below w0.heap.size w0 W → (fun (W : World) => W.cell? ⟨w.heap.size, 0, none⟩ = some (.slice A0 n0 d0) ∧ W.cell? ⟨w.heap.size, 1, none⟩ = some (.slice A n c)) W := fun W hb => ⟨(hb.cell (p := ⟨w.heap.size, 0, none⟩) zq).trans q0, (hb.cell (p := ⟨w.heap.size, 1, none⟩) zq).trans q1⟩
  refine wp_region_held_drew (S := fun W => W.cell? ⟨w.heap.size, 0, none⟩ = some (.slice A0 n0 d0) ∧ W.cell? ⟨w.heap.size, 1, none⟩ = some (.slice A n c)) (by kernel_rfl) (SH _ (Below.refl w0.heap.size w0).drew) (fun hHeld => ?_)
  refine wpAnyH_take (i := 1) (v := .pointer (some ⟨w.heap.size, 0, none⟩)) rfl (by kernel_rfl) (by kernel_rfl) (by kernel_rfl) (fun _ _ _ h => h) (Or.inl ⟨by rfl, by intro w _; go_simp⟩) hHeld ?_
  refine wpAnyH_take (i := 2) (v := .slice A0 n0 d0) rfl (by kernel_rfl) (by kernel_rfl) (by kernel_rfl) (fun _ _ _ h => h) (Or.inl ⟨by rfl, by intro w hSw; obtain ⟨y0, y1⟩ := hSw; go_simp⟩) hHeld ?_
  refine wpAnyH_take (i := 5) (v := .pointer (some ⟨w.heap.size, 1, none⟩)) rfl (by kernel_rfl) (by kernel_rfl) (by kernel_rfl) (fun _ _ _ h => h) (Or.inl ⟨by rfl, by intro w _; go_simp⟩) hHeld ?_
  refine wpAnyH_take (i := 6) (v := .slice A n c) rfl (by kernel_rfl) (by kernel_rfl) (by kernel_rfl) (fun _ _ _ h => h) (Or.inl ⟨by rfl, by intro w hSw; obtain ⟨y0, y1⟩ := hSw; go_simp⟩) hHeld ?_
  clear hHeld
  refine held_gen (F := fun W' => Below w0.heap.size w0 W') (Below.refl w0.heap.size w0).drew ?_
  rintro W0 b0'
  refine wpAnyH_ready (rs := [0, 4]) (by kernel_rfl) (by decide) ?_
  refine AllReadyH.cons rfl (fun K0 hK0 => ?_) (AllReadyH.cons rfl (fun K0 hK0 => ?_) AllReadyH.nil)
  · go_simp
    refine hK0.out _ _ (SH _ (b0'.alloc b0'.size (.cells #[] 127))) (fun _ => ?_)
    refine held_gen (F := fun W' => W'.ownsRow w0.heap.size 127 3 (.slice (some ⟨W0.heap.size, 0, none⟩) 0 0) 0 [] ∧ Below w0.heap.size w0 W') ⟨own_empty W0 (base := w0.heap.size) 127 3 b0'.size, b0'.alloc b0'.size (.cells #[] 127)⟩ ?_
    rintro W1 ⟨hS1, b1⟩
    refine wpAnyH_ready (rs := [3, 4]) (by kernel_rfl) (by decide) ?_
    refine AllReadyH.cons rfl (fun K1 hK1 => ?_) (AllReadyH.cons rfl (fun K1 hK1 => ?_) AllReadyH.nil)
    · refine step_app_rd rfl _ _ 30 rfl w0.heap.size 127 is _ 3 _ Tryz.underlying30 his hzs0 hzs1 hzs2 rfl (by omega) Sl.cells_len Sl.one (.slice (some ⟨W0.heap.size, 0, none⟩) 0 0) 0 [] rfl hS1 (A := A0) (m := n0) (c := d0) (l := ls) rfl (hs.below b1 hh0) (by unfold maxLen; omega) (by omega) b1.size ?_
      intro v2 W2 hS2 g2
      have b2 : Below w0.heap.size w0 W2 := b1.grown g2 b1.size (own_ge hS1)
      refine hK1.out _ _ (SH _ b2) (fun _ => ?_)
      refine wpAnyH_ready (rs := [4]) (by kernel_rfl) (by decide) ?_
      refine AllReadyH.cons rfl (fun K2 hK2 => ?_) AllReadyH.nil
      · go_simp
        refine hK2.out _ _ (SH _ (b2.alloc b2.size (.cells #[] 134))) (fun _ => ?_)
        refine held_gen (F := fun W' => W'.ownsRow w0.heap.size 134 2 (.slice (some ⟨W2.heap.size, 0, none⟩) 0 0) 0 [] ∧ Below w0.heap.size w0 W' ∧ W'.ownsRow w0.heap.size 127 3 v2 (0 + n0) ([] ++ ls.flatMap Sl.cells)) ⟨own_empty W2 (base := w0.heap.size) 134 2 b2.size, b2.alloc b2.size (.cells #[] 134), hS2.alloc (.cells #[] 134)⟩ ?_
        rintro W3 ⟨hQ3, b3, hS3⟩
        refine wpAnyH_ready (rs := [7]) (by kernel_rfl) (by decide) ?_
        refine AllReadyH.cons rfl (fun K3 hK3 => ?_) AllReadyH.nil
        · refine step_app_rd rfl _ _ 31 rfl w0.heap.size 134 iq _ 2 _ Tryz.underlying31 hiq hzq0 hzq1 hzq2 rfl (by omega) Wt.cells_len Wt.one (.slice (some ⟨W2.heap.size, 0, none⟩) 0 0) 0 [] rfl hQ3 (A := A) (m := n) (c := c) (l := lw) rfl (hw.below b3 hh1) (by unfold maxLen; omega) (by omega) b3.size ?_
          intro v4 W4 hQ4 g4
          have b4 : Below w0.heap.size w0 W4 := b3.grown g4 b3.size (own_ge hQ3)
          refine hK3.out _ _ (SH _ b4) (fun _ => ?_)
          have hS4 := own_kept_type hS3 hQ3 g4 (by decide)
          have oS := Ow.of_own Sl.cells_len hS4 (l := ls) (by simp) (by have := H0.out; omega)
          have oQ := Ow.of_own Wt.cells_len hQ4 (l := lw) (by simp) (by have := H.out; omega)
          obtain ⟨A5, n5, d5, rfl, _, _, _⟩ := oS.rd.form
          obtain ⟨A6, n6, d6, rfl, _, _, _⟩ := oQ.rd.form
          clear hS4 hQ4
          obtain ⟨hc_, hf_⟩ := bcell b4
          have p0 := (hc_ _ 0 zr).trans r0
          have p1 := (hc_ _ 1 zr).trans r1
          have pz := fun j => (hf_ _ j zr).trans (rz j)
          have x0 := (hc_ _ 0 zq).trans q0
          have x1 := (hc_ _ 1 zq).trans q1
          clear hc_ hf_
          refine wpAnyH_ready (rs := [8]) (by kernel_rfl) (by decide) ?_
          refine AllReadyH.cons rfl (fun K8 hK8 => ?_) AllReadyH.nil
          go_simp
          refine hK8.out _ _ ⟨x0, x1⟩ (fun _ => ?_)
          refine wpAnyH_ready (rs := [9]) (by kernel_rfl) (by decide) ?_
          refine AllReadyH.cons rfl (fun K9 hK9 => ?_) AllReadyH.nil
          go_simp
          refine hK9.out _ _ ⟨by simp [go_sem, x0], by simp [go_sem, x1]⟩ (fun _ => ?_)
          refine ⟨by kernel_rfl, ?_⟩
          go_wp2_with fail
          generalize hwz : World.setCell (World.setCell _ _ _) _ _ = wz
          have u0 : wz.cell? ⟨w.heap.size + 1, 0, none⟩ = some (.slice A5 n5 d5) := by rw [← hwz]; simp [go_sem, p0]
          have u1 : wz.cell? ⟨w.heap.size + 1, 1, none⟩ = some (.slice A6 n6 d6) := by rw [← hwz]; simp [go_sem, p1]
          obtain rfl : wz = setL W4 (w.heap.size + 1) 0 [.slice A5 n5 d5, .slice A6 n6 d6] := hwz.symm
          have hbz := setL_below (b0.trans (b4.mono (by omega))) [.slice A5 n5 d5, .slice A6 n6 d6] (w.heap.size + 1) 0 (by omega)
          have kk : ∀ q, w0.heap.size ≤ q → (setL W4 (w.heap.size + 1) 0 [.slice A5 n5 d5, .slice A6 n6 d6]).heap[q]? = W4.heap[q]? := fun q hq => setL_other _ _ _ _ q (by omega)
          have o5 := oS.keep (w' := setL W4 (w.heap.size + 1) 0 [.slice A5 n5 d5, .slice A6 n6 d6]) (fun q hq _ _ => kk q hq)
          have o6 := oQ.keep (w' := setL W4 (w.heap.size + 1) 0 [.slice A5 n5 d5, .slice A6 n6 d6]) (fun q hq _ _ => kk q hq)
          have sz : (setL W4 (w.heap.size + 1) 0 [.slice A5 n5 d5, .slice A6 n6 d6]).heap.size = W4.heap.size := setL_size _ _ _ _
          clear hwz kk
          generalize setL W4 (w.heap.size + 1) 0 [.slice A5 n5 d5, .slice A6 n6 d6] = wz at *
          refine bodyPost_ret (by simp only [results, Tryz.results121]; simp [go_sem, u0, u1]; rfl) rfl ?_
          exact ⟨_, _, rfl, o5.mono (by omega) (by omega), o6.mono (by omega) (by omega), hbz⟩
    · go_simp
      refine hK1.out _ _ (SH _ (b1.alloc b1.size (.cells #[] 134))) (fun _ => ?_)
      refine held_gen (F := fun W' => W'.ownsRow w0.heap.size 134 2 (.slice (some ⟨W1.heap.size, 0, none⟩) 0 0) 0 [] ∧ Below w0.heap.size w0 W' ∧ W'.ownsRow w0.heap.size 127 3 (.slice (some ⟨W0.heap.size, 0, none⟩) 0 0) (0) []) ⟨own_empty W1 (base := w0.heap.size) 134 2 b1.size, b1.alloc b1.size (.cells #[] 134), hS1.alloc (.cells #[] 134)⟩ ?_
      rintro W2 ⟨hQ2, b2, hS2⟩
      refine wpAnyH_ready (rs := [3]) (by kernel_rfl) (by decide) ?_
      refine AllReadyH.cons rfl (fun K2 hK2 => ?_) AllReadyH.nil
      · refine step_app_rd rfl _ _ 30 rfl w0.heap.size 127 is _ 3 _ Tryz.underlying30 his hzs0 hzs1 hzs2 rfl (by omega) Sl.cells_len Sl.one (.slice (some ⟨W0.heap.size, 0, none⟩) 0 0) 0 [] rfl hS2 (A := A0) (m := n0) (c := d0) (l := ls) rfl (hs.below b2 hh0) (by unfold maxLen; omega) (by omega) b2.size ?_
        intro v3 W3 hS3 g3
        have b3 : Below w0.heap.size w0 W3 := b2.grown g3 b2.size (own_ge hS2)
        refine hK2.out _ _ (SH _ b3) (fun _ => ?_)
        have hQ3 := own_kept_type hQ2 hS2 g3 (by decide)
        refine wpAnyH_ready (rs := [7]) (by kernel_rfl) (by decide) ?_
        refine AllReadyH.cons rfl (fun K3 hK3 => ?_) AllReadyH.nil
        · refine step_app_rd rfl _ _ 31 rfl w0.heap.size 134 iq _ 2 _ Tryz.underlying31 hiq hzq0 hzq1 hzq2 rfl (by omega) Wt.cells_len Wt.one (.slice (some ⟨W1.heap.size, 0, none⟩) 0 0) 0 [] rfl hQ3 (A := A) (m := n) (c := c) (l := lw) rfl (hw.below b3 hh1) (by unfold maxLen; omega) (by omega) b3.size ?_
          intro v4 W4 hQ4 g4
          have b4 : Below w0.heap.size w0 W4 := b3.grown g4 b3.size (own_ge hQ3)
          refine hK3.out _ _ (SH _ b4) (fun _ => ?_)
          have hS4 := own_kept_type hS3 hQ3 g4 (by decide)
          have oS := Ow.of_own Sl.cells_len hS4 (l := ls) (by simp) (by have := H0.out; omega)
          have oQ := Ow.of_own Wt.cells_len hQ4 (l := lw) (by simp) (by have := H.out; omega)
          obtain ⟨A5, n5, d5, rfl, _, _, _⟩ := oS.rd.form
          obtain ⟨A6, n6, d6, rfl, _, _, _⟩ := oQ.rd.form
          clear hS4 hQ4
          obtain ⟨hc_, hf_⟩ := bcell b4
          have p0 := (hc_ _ 0 zr).trans r0
          have p1 := (hc_ _ 1 zr).trans r1
          have pz := fun j => (hf_ _ j zr).trans (rz j)
          have x0 := (hc_ _ 0 zq).trans q0
          have x1 := (hc_ _ 1 zq).trans q1
          clear hc_ hf_
          refine wpAnyH_ready (rs := [8]) (by kernel_rfl) (by decide) ?_
          refine AllReadyH.cons rfl (fun K8 hK8 => ?_) AllReadyH.nil
          go_simp
          refine hK8.out _ _ ⟨x0, x1⟩ (fun _ => ?_)
          refine wpAnyH_ready (rs := [9]) (by kernel_rfl) (by decide) ?_
          refine AllReadyH.cons rfl (fun K9 hK9 => ?_) AllReadyH.nil
          go_simp
          refine hK9.out _ _ ⟨by simp [go_sem, x0], by simp [go_sem, x1]⟩ (fun _ => ?_)
          refine ⟨by kernel_rfl, ?_⟩
          go_wp2_with fail
          generalize hwz : World.setCell (World.setCell _ _ _) _ _ = wz
          have u0 : wz.cell? ⟨w.heap.size + 1, 0, none⟩ = some (.slice A5 n5 d5) := by rw [← hwz]; simp [go_sem, p0]
          have u1 : wz.cell? ⟨w.heap.size + 1, 1, none⟩ = some (.slice A6 n6 d6) := by rw [← hwz]; simp [go_sem, p1]
          obtain rfl : wz = setL W4 (w.heap.size + 1) 0 [.slice A5 n5 d5, .slice A6 n6 d6] := hwz.symm
          have hbz := setL_below (b0.trans (b4.mono (by omega))) [.slice A5 n5 d5, .slice A6 n6 d6] (w.heap.size + 1) 0 (by omega)
          have kk : ∀ q, w0.heap.size ≤ q → (setL W4 (w.heap.size + 1) 0 [.slice A5 n5 d5, .slice A6 n6 d6]).heap[q]? = W4.heap[q]? := fun q hq => setL_other _ _ _ _ q (by omega)
          have o5 := oS.keep (w' := setL W4 (w.heap.size + 1) 0 [.slice A5 n5 d5, .slice A6 n6 d6]) (fun q hq _ _ => kk q hq)
          have o6 := oQ.keep (w' := setL W4 (w.heap.size + 1) 0 [.slice A5 n5 d5, .slice A6 n6 d6]) (fun q hq _ _ => kk q hq)
          have sz : (setL W4 (w.heap.size + 1) 0 [.slice A5 n5 d5, .slice A6 n6 d6]).heap.size = W4.heap.size := setL_size _ _ _ _
          clear hwz kk
          generalize setL W4 (w.heap.size + 1) 0 [.slice A5 n5 d5, .slice A6 n6 d6] = wz at *
          refine bodyPost_ret (by simp only [results, Tryz.results121]; simp [go_sem, u0, u1]; rfl) rfl ?_
          exact ⟨_, _, rfl, o5.mono (by omega) (by omega), o6.mono (by omega) (by omega), hbz⟩
  · go_simp
    refine hK0.out _ _ (SH _ (b0'.alloc b0'.size (.cells #[] 134))) (fun _ => ?_)
    refine held_gen (F := fun W' => W'.ownsRow w0.heap.size 134 2 (.slice (some ⟨W0.heap.size, 0, none⟩) 0 0) 0 [] ∧ Below w0.heap.size w0 W') ⟨own_empty W0 (base := w0.heap.size) 134 2 b0'.size, b0'.alloc b0'.size (.cells #[] 134)⟩ ?_
    rintro W1 ⟨hQ1, b1⟩
    refine wpAnyH_ready (rs := [0]) (by kernel_rfl) (by decide) ?_
    refine AllReadyH.cons rfl (fun K1 hK1 => ?_) AllReadyH.nil
    · go_simp
      refine hK1.out _ _ (SH _ (b1.alloc b1.size (.cells #[] 127))) (fun _ => ?_)
      refine held_gen (F := fun W' => W'.ownsRow w0.heap.size 127 3 (.slice (some ⟨W1.heap.size, 0, none⟩) 0 0) 0 [] ∧ Below w0.heap.size w0 W' ∧ W'.ownsRow w0.heap.size 134 2 (.slice (some ⟨W0.heap.size, 0, none⟩) 0 0) (0) []) ⟨own_empty W1 (base := w0.heap.size) 127 3 b1.size, b1.alloc b1.size (.cells #[] 127), hQ1.alloc (.cells #[] 127)⟩ ?_
      rintro W2 ⟨hS2, b2, hQ2⟩
      refine wpAnyH_ready (rs := [3]) (by kernel_rfl) (by decide) ?_
      refine AllReadyH.cons rfl (fun K2 hK2 => ?_) AllReadyH.nil
      · refine step_app_rd rfl _ _ 30 rfl w0.heap.size 127 is _ 3 _ Tryz.underlying30 his hzs0 hzs1 hzs2 rfl (by omega) Sl.cells_len Sl.one (.slice (some ⟨W1.heap.size, 0, none⟩) 0 0) 0 [] rfl hS2 (A := A0) (m := n0) (c := d0) (l := ls) rfl (hs.below b2 hh0) (by unfold maxLen; omega) (by omega) b2.size ?_
        intro v3 W3 hS3 g3
        have b3 : Below w0.heap.size w0 W3 := b2.grown g3 b2.size (own_ge hS2)
        refine hK2.out _ _ (SH _ b3) (fun _ => ?_)
        have hQ3 := own_kept_type hQ2 hS2 g3 (by decide)
        refine wpAnyH_ready (rs := [7]) (by kernel_rfl) (by decide) ?_
        refine AllReadyH.cons rfl (fun K3 hK3 => ?_) AllReadyH.nil
        · refine step_app_rd rfl _ _ 31 rfl w0.heap.size 134 iq _ 2 _ Tryz.underlying31 hiq hzq0 hzq1 hzq2 rfl (by omega) Wt.cells_len Wt.one (.slice (some ⟨W0.heap.size, 0, none⟩) 0 0) 0 [] rfl hQ3 (A := A) (m := n) (c := c) (l := lw) rfl (hw.below b3 hh1) (by unfold maxLen; omega) (by omega) b3.size ?_
          intro v4 W4 hQ4 g4
          have b4 : Below w0.heap.size w0 W4 := b3.grown g4 b3.size (own_ge hQ3)
          refine hK3.out _ _ (SH _ b4) (fun _ => ?_)
          have hS4 := own_kept_type hS3 hQ3 g4 (by decide)
          have oS := Ow.of_own Sl.cells_len hS4 (l := ls) (by simp) (by have := H0.out; omega)
          have oQ := Ow.of_own Wt.cells_len hQ4 (l := lw) (by simp) (by have := H.out; omega)
          obtain ⟨A5, n5, d5, rfl, _, _, _⟩ := oS.rd.form
          obtain ⟨A6, n6, d6, rfl, _, _, _⟩ := oQ.rd.form
          clear hS4 hQ4
          obtain ⟨hc_, hf_⟩ := bcell b4
          have p0 := (hc_ _ 0 zr).trans r0
          have p1 := (hc_ _ 1 zr).trans r1
          have pz := fun j => (hf_ _ j zr).trans (rz j)
          have x0 := (hc_ _ 0 zq).trans q0
          have x1 := (hc_ _ 1 zq).trans q1
          clear hc_ hf_
          refine wpAnyH_ready (rs := [8]) (by kernel_rfl) (by decide) ?_
          refine AllReadyH.cons rfl (fun K8 hK8 => ?_) AllReadyH.nil
          go_simp
          refine hK8.out _ _ ⟨x0, x1⟩ (fun _ => ?_)
          refine wpAnyH_ready (rs := [9]) (by kernel_rfl) (by decide) ?_
          refine AllReadyH.cons rfl (fun K9 hK9 => ?_) AllReadyH.nil
          go_simp
          refine hK9.out _ _ ⟨by simp [go_sem, x0], by simp [go_sem, x1]⟩ (fun _ => ?_)
          refine ⟨by kernel_rfl, ?_⟩
          go_wp2_with fail
          generalize hwz : World.setCell (World.setCell _ _ _) _ _ = wz
          have u0 : wz.cell? ⟨w.heap.size + 1, 0, none⟩ = some (.slice A5 n5 d5) := by rw [← hwz]; simp [go_sem, p0]
          have u1 : wz.cell? ⟨w.heap.size + 1, 1, none⟩ = some (.slice A6 n6 d6) := by rw [← hwz]; simp [go_sem, p1]
          obtain rfl : wz = setL W4 (w.heap.size + 1) 0 [.slice A5 n5 d5, .slice A6 n6 d6] := hwz.symm
          have hbz := setL_below (b0.trans (b4.mono (by omega))) [.slice A5 n5 d5, .slice A6 n6 d6] (w.heap.size + 1) 0 (by omega)
          have kk : ∀ q, w0.heap.size ≤ q → (setL W4 (w.heap.size + 1) 0 [.slice A5 n5 d5, .slice A6 n6 d6]).heap[q]? = W4.heap[q]? := fun q hq => setL_other _ _ _ _ q (by omega)
          have o5 := oS.keep (w' := setL W4 (w.heap.size + 1) 0 [.slice A5 n5 d5, .slice A6 n6 d6]) (fun q hq _ _ => kk q hq)
          have o6 := oQ.keep (w' := setL W4 (w.heap.size + 1) 0 [.slice A5 n5 d5, .slice A6 n6 d6]) (fun q hq _ _ => kk q hq)
          have sz : (setL W4 (w.heap.size + 1) 0 [.slice A5 n5 d5, .slice A6 n6 d6]).heap.size = W4.heap.size := setL_size _ _ _ _
          clear hwz kk
          generalize setL W4 (w.heap.size + 1) 0 [.slice A5 n5 d5, .slice A6 n6 d6] = wz at *
          refine bodyPost_ret (by simp only [results, Tryz.results121]; simp [go_sem, u0, u1]; rfl) rfl ?_
          exact ⟨_, _, rfl, o5.mono (by omega) (by omega), o6.mono (by omega) (by omega), hbz⟩

end Go.Proofs.YtengaccnncnipaaGreat
