/- Settling, ending and offering: the inner functions and the public ones, in the program and in the reference. Conditions: the inner ones want valid parts. -/
import Derived.Test.YtengaccnncnipaaGreatQuSettle
import Derived.Test.YtengaccnncnipaaGreatQuMath2
namespace Go.Proofs.YtengaccnncnipaaGreat
open Go.RowKit Go.ChangeShapes Go.WideShapes Go.Deep

set_option maxHeartbeats 8000000 in
theorem specEndQ_in (vs vw : Value) (ls : List Sl) (lw : List Wt) (i : Int) (w : World) {lo hi lo2 hi2 : Nat} (h : Rd Sl.cells 3 w lo hi vs ls) (h2 : Rd Wt.cells 2 w lo2 hi2 vw lw) (hh : hi ≤ w.heap.size) (hh2 : hi2 ≤ w.heap.size) (hp : Qu.parts ls lw = true) :
    Calls Tryz.prog 116 #[.agg #[vs, vw], .int .i64 i] w fun e w' => ∃ v1 v2, e = .returned (.tuple #[.agg #[v1, v2], .bool (Sl.endOk ls i)]) ∧ Ow Sl.cells 3 127 w' w.heap.size w'.heap.size v1 (Qu.eiS ls lw i) ∧ Ow Wt.cells 2 134 w' w.heap.size w'.heap.size v2 (Qu.eiW ls lw i) ∧ Below w.heap.size w w' := by
  have b0 : Below w.heap.size w ((w.alloc (.cells #[vs, vw] 33)).alloc (.cells #[.slice none 0 0, .slice none 0 0] 33)) := ((Below.refl w.heap.size w).alloc (Nat.le_refl _) _).alloc (by simp) _
  have z0 : ((w.alloc (.cells #[vs, vw] 33)).alloc (.cells #[.slice none 0 0, .slice none 0 0] 33)).heap.size = w.heap.size + 2 := by simp
  have bq := Box.new w #[vs, vw] 33 rfl
  have bR := Box.new (g := w.heap.size + 1) (w.alloc (.cells #[vs, vw] 33)) #[.slice none 0 0, .slice none 0 0] 33 (by simp)
  replace bq := bq.below ((Below.refl _ (w.alloc (.cells #[vs, vw] 33))).alloc (Nat.le_refl _) (.cells #[.slice none 0 0, .slice none 0 0] 33)) bq.lt
  have hs := h.below b0 hh
  have hw := h2.below b0 hh2
  have hv_ := h.form
  have hv2_ := h2.form
  clear h h2
  generalize hwA : ((w.alloc (.cells #[vs, vw] 33)).alloc (.cells #[.slice none 0 0, .slice none 0 0] 33)) = wA at *
  obtain ⟨A0, n0, d0, rfl, _, _, _⟩ := hv_
  obtain ⟨A1, n1, d1, rfl, _, _, _⟩ := hv2_
  have hg := (Qu.parts_get hp).1
  have c1 := specEnd_in _ ls i _ hs (by omega) hg
  clear hg
  cases hk : Sl.endOk ls i
  · have HF := Lib.hid (Qu.ei_no hk lw)
    rw [hk] at c1
    clear hk hp
    go_enter Tryz.func116, Tryz.ntmps116
    have bq_0 := bq.cell (j := 0) rfl
    have bq_1 := bq.cell (j := 1) rfl
    have bq_z := bq.frozen
    have bq_l := bq.lt
    have bR_0 := bR.cell (j := 0) rfl
    have bR_1 := bR.cell (j := 1) rfl
    have bR_z := bR.frozen
    have bR_l := bR.lt
    go_wp2_with fail
    clear hwA
    clear bq_0 bq_1 bq_z bq_l bR_0 bR_1 bR_z bR_l
    refine (c1).mono ?_; rintro q_ w1 ⟨v3, rfl, o3, b_1⟩
    replace bq := bq.below b_1 bq.lt
    replace bR := bR.below b_1 bR.lt
    replace hs := hs.below b_1 (by omega)
    replace hw := hw.below b_1 (by omega)
    have z_2 := b_1.size
    replace b0 := b0.trans (b_1.mono (by omega))
    clear b_1
    obtain ⟨A3, n3, d3, rfl, _, _, _⟩ := o3.rd.form
    have bq_0 := bq.cell (j := 0) rfl
    have bq_1 := bq.cell (j := 1) rfl
    have bq_z := bq.frozen
    have bq_l := bq.lt
    have bR_0 := bR.cell (j := 0) rfl
    have bR_1 := bR.cell (j := 1) rfl
    have bR_z := bR.frozen
    have bR_l := bR.lt
    go_wp2_with fail
    clear bq_0 bq_1 bq_z bq_l bR_0 bR_1 bR_z bR_l
    generalize hwz : World.setCell (World.setCell _ _ _) _ _ = wz_
    obtain rfl : wz_ = setL w1 (w.heap.size + 1) 0 [.slice none 0 0, .slice none 0 0] := hwz.symm
    clear hwz
    replace bq := bq.other (b := w.heap.size + 1) (by omega) 0 [.slice none 0 0, .slice none 0 0]
    replace hs := hs.away (g := w.heap.size + 1) (by omega) 0 [.slice none 0 0, .slice none 0 0]
    replace hw := hw.away (g := w.heap.size + 1) (by omega) 0 [.slice none 0 0, .slice none 0 0]
    replace o3 := o3.box (g := w.heap.size + 1) bR (by decide) 0 [.slice none 0 0, .slice none 0 0]
    replace b0 := setL_below b0 [.slice none 0 0, .slice none 0 0] (w.heap.size + 1) 0 (by omega)
    have zs_3 : (setL w1 (w.heap.size + 1) 0 [.slice none 0 0, .slice none 0 0]).heap.size = w1.heap.size := setL_size _ _ _ _
    replace bR := bR.setAll [.slice none 0 0, .slice none 0 0] rfl
    generalize setL w1 _ 0 _ = w3 at *
    have u0_ := bR.cell (j := 0) rfl
    have u1_ := bR.cell (j := 1) rfl
    refine bodyPost_ret (by simp only [results, Tryz.results116]; simp [go_sem, u0_, u1_]; rfl) rfl ?_
    exact ⟨_, _, rfl, by rw [HF.out.1]; exact Ow.nil_, by rw [HF.out.2]; exact Ow.nil_, b0⟩
  · have HF := Lib.hid (Qu.ei_yes hk lw)
    have HP := Lib.hid (Qu.en_parts hp hk)
    rw [hk] at c1
    clear hk hp
    go_enter Tryz.func116, Tryz.ntmps116
    have bq_0 := bq.cell (j := 0) rfl
    have bq_1 := bq.cell (j := 1) rfl
    have bq_z := bq.frozen
    have bq_l := bq.lt
    have bR_0 := bR.cell (j := 0) rfl
    have bR_1 := bR.cell (j := 1) rfl
    have bR_z := bR.frozen
    have bR_l := bR.lt
    go_wp2_with fail
    clear hwA
    clear bq_0 bq_1 bq_z bq_l bR_0 bR_1 bR_z bR_l
    refine (c1).mono ?_; rintro q_ w1 ⟨v3, rfl, o3, b_1⟩
    replace bq := bq.below b_1 bq.lt
    replace bR := bR.below b_1 bR.lt
    replace hs := hs.below b_1 (by omega)
    replace hw := hw.below b_1 (by omega)
    have z_2 := b_1.size
    replace b0 := b0.trans (b_1.mono (by omega))
    clear b_1
    obtain ⟨A3, n3, d3, rfl, _, _, _⟩ := o3.rd.form
    have bq_0 := bq.cell (j := 0) rfl
    have bq_1 := bq.cell (j := 1) rfl
    have bq_z := bq.frozen
    have bq_l := bq.lt
    have bR_0 := bR.cell (j := 0) rfl
    have bR_1 := bR.cell (j := 1) rfl
    have bR_z := bR.frozen
    have bR_l := bR.lt
    go_wp2_with fail
    clear bq_0 bq_1 bq_z bq_l bR_0 bR_1 bR_z bR_l
    refine (specSettle_any _ _ (Sl.endR ls i) lw w1 o3.rd hw (by omega) (by omega) HP.out).mono ?_; rintro q_ w3 ⟨v5, v6, rfl, o5, o6, b_3⟩
    replace bq := bq.below b_3 bq.lt
    replace bR := bR.below b_3 bR.lt
    replace hs := hs.below b_3 (by omega)
    replace hw := hw.below b_3 (by omega)
    replace o3 := o3.below b_3 (by omega)
    have z_4 := b_3.size
    replace b0 := b0.trans (b_3.mono (by omega))
    clear b_3
    obtain ⟨A5, n5, d5, rfl, _, _, _⟩ := o5.rd.form
    obtain ⟨A6, n6, d6, rfl, _, _, _⟩ := o6.rd.form
    have bq_0 := bq.cell (j := 0) rfl
    have bq_1 := bq.cell (j := 1) rfl
    have bq_z := bq.frozen
    have bq_l := bq.lt
    have bR_0 := bR.cell (j := 0) rfl
    have bR_1 := bR.cell (j := 1) rfl
    have bR_z := bR.frozen
    have bR_l := bR.lt
    go_wp2_with fail
    clear bq_0 bq_1 bq_z bq_l bR_0 bR_1 bR_z bR_l
    generalize hwz : World.setCell (World.setCell _ _ _) _ _ = wz_
    obtain rfl : wz_ = setL w3 (w.heap.size + 1) 0 [.slice A5 n5 d5, .slice A6 n6 d6] := hwz.symm
    clear hwz
    replace bq := bq.other (b := w.heap.size + 1) (by omega) 0 [.slice A5 n5 d5, .slice A6 n6 d6]
    replace hs := hs.away (g := w.heap.size + 1) (by omega) 0 [.slice A5 n5 d5, .slice A6 n6 d6]
    replace hw := hw.away (g := w.heap.size + 1) (by omega) 0 [.slice A5 n5 d5, .slice A6 n6 d6]
    replace o3 := o3.box (g := w.heap.size + 1) bR (by decide) 0 [.slice A5 n5 d5, .slice A6 n6 d6]
    replace o5 := o5.box (g := w.heap.size + 1) bR (by decide) 0 [.slice A5 n5 d5, .slice A6 n6 d6]
    replace o6 := o6.box (g := w.heap.size + 1) bR (by decide) 0 [.slice A5 n5 d5, .slice A6 n6 d6]
    replace b0 := setL_below b0 [.slice A5 n5 d5, .slice A6 n6 d6] (w.heap.size + 1) 0 (by omega)
    have zs_5 : (setL w3 (w.heap.size + 1) 0 [.slice A5 n5 d5, .slice A6 n6 d6]).heap.size = w3.heap.size := setL_size _ _ _ _
    replace bR := bR.setAll [.slice A5 n5 d5, .slice A6 n6 d6] rfl
    generalize setL w3 _ 0 _ = w5 at *
    have u0_ := bR.cell (j := 0) rfl
    have u1_ := bR.cell (j := 1) rfl
    refine bodyPost_ret (by simp only [results, Tryz.results116]; simp [go_sem, u0_, u1_]; rfl) rfl ?_
    exact ⟨_, _, rfl, by rw [HF.out.1]; exact o5.mono (by omega) (by omega), by rw [HF.out.2]; exact o6.mono (by omega) (by omega), b0⟩
set_option maxHeartbeats 8000000 in
theorem implEndQ_in (vs vw : Value) (ls : List Sl) (lw : List Wt) (i : Int) (w : World) {lo hi lo2 hi2 : Nat} (h : Rd Sl.cells 3 w lo hi vs ls) (h2 : Rd Wt.cells 2 w lo2 hi2 vw lw) (hh : hi ≤ w.heap.size) (hh2 : hi2 ≤ w.heap.size) (hp : Qu.parts ls lw = true) :
    Calls Tryz.prog 117 #[.agg #[vs, vw], .int .i64 i] w fun e w' => ∃ v1 v2, e = .returned (.tuple #[.agg #[v1, v2], .bool (Sl.endOk ls i)]) ∧ Ow Sl.cells 3 127 w' w.heap.size w'.heap.size v1 (Qu.eiS ls lw i) ∧ Ow Wt.cells 2 134 w' w.heap.size w'.heap.size v2 (Qu.eiW ls lw i) ∧ Below w.heap.size w w' := by
  have b0 : Below w.heap.size w ((w.alloc (.cells #[vs, vw] 33)).alloc (.cells #[.slice none 0 0, .slice none 0 0] 33)) := ((Below.refl w.heap.size w).alloc (Nat.le_refl _) _).alloc (by simp) _
  have z0 : ((w.alloc (.cells #[vs, vw] 33)).alloc (.cells #[.slice none 0 0, .slice none 0 0] 33)).heap.size = w.heap.size + 2 := by simp
  have bq := Box.new w #[vs, vw] 33 rfl
  have bR := Box.new (g := w.heap.size + 1) (w.alloc (.cells #[vs, vw] 33)) #[.slice none 0 0, .slice none 0 0] 33 (by simp)
  replace bq := bq.below ((Below.refl _ (w.alloc (.cells #[vs, vw] 33))).alloc (Nat.le_refl _) (.cells #[.slice none 0 0, .slice none 0 0] 33)) bq.lt
  have hs := h.below b0 hh
  have hw := h2.below b0 hh2
  have hv_ := h.form
  have hv2_ := h2.form
  clear h h2
  generalize hwA : ((w.alloc (.cells #[vs, vw] 33)).alloc (.cells #[.slice none 0 0, .slice none 0 0] 33)) = wA at *
  obtain ⟨A0, n0, d0, rfl, _, _, _⟩ := hv_
  obtain ⟨A1, n1, d1, rfl, _, _, _⟩ := hv2_
  have hg := (Qu.parts_get hp).1
  have c1 := implEnd_in _ ls i _ hs (by omega) hg
  clear hg
  cases hk : Sl.endOk ls i
  · have HF := Lib.hid (Qu.ei_no hk lw)
    rw [hk] at c1
    clear hk hp
    go_enter Tryz.func117, Tryz.ntmps117
    have bq_0 := bq.cell (j := 0) rfl
    have bq_1 := bq.cell (j := 1) rfl
    have bq_z := bq.frozen
    have bq_l := bq.lt
    have bR_0 := bR.cell (j := 0) rfl
    have bR_1 := bR.cell (j := 1) rfl
    have bR_z := bR.frozen
    have bR_l := bR.lt
    go_wp2_with fail
    clear hwA
    clear bq_0 bq_1 bq_z bq_l bR_0 bR_1 bR_z bR_l
    refine (c1).mono ?_; rintro q_ w1 ⟨v3, rfl, o3, b_1⟩
    replace bq := bq.below b_1 bq.lt
    replace bR := bR.below b_1 bR.lt
    replace hs := hs.below b_1 (by omega)
    replace hw := hw.below b_1 (by omega)
    have z_2 := b_1.size
    replace b0 := b0.trans (b_1.mono (by omega))
    clear b_1
    obtain ⟨A3, n3, d3, rfl, _, _, _⟩ := o3.rd.form
    have bq_0 := bq.cell (j := 0) rfl
    have bq_1 := bq.cell (j := 1) rfl
    have bq_z := bq.frozen
    have bq_l := bq.lt
    have bR_0 := bR.cell (j := 0) rfl
    have bR_1 := bR.cell (j := 1) rfl
    have bR_z := bR.frozen
    have bR_l := bR.lt
    go_wp2_with fail
    clear bq_0 bq_1 bq_z bq_l bR_0 bR_1 bR_z bR_l
    generalize hwz : World.setCell (World.setCell _ _ _) _ _ = wz_
    obtain rfl : wz_ = setL w1 (w.heap.size + 1) 0 [.slice none 0 0, .slice none 0 0] := hwz.symm
    clear hwz
    replace bq := bq.other (b := w.heap.size + 1) (by omega) 0 [.slice none 0 0, .slice none 0 0]
    replace hs := hs.away (g := w.heap.size + 1) (by omega) 0 [.slice none 0 0, .slice none 0 0]
    replace hw := hw.away (g := w.heap.size + 1) (by omega) 0 [.slice none 0 0, .slice none 0 0]
    replace o3 := o3.box (g := w.heap.size + 1) bR (by decide) 0 [.slice none 0 0, .slice none 0 0]
    replace b0 := setL_below b0 [.slice none 0 0, .slice none 0 0] (w.heap.size + 1) 0 (by omega)
    have zs_3 : (setL w1 (w.heap.size + 1) 0 [.slice none 0 0, .slice none 0 0]).heap.size = w1.heap.size := setL_size _ _ _ _
    replace bR := bR.setAll [.slice none 0 0, .slice none 0 0] rfl
    generalize setL w1 _ 0 _ = w3 at *
    have u0_ := bR.cell (j := 0) rfl
    have u1_ := bR.cell (j := 1) rfl
    refine bodyPost_ret (by simp only [results, Tryz.results117]; simp [go_sem, u0_, u1_]; rfl) rfl ?_
    exact ⟨_, _, rfl, by rw [HF.out.1]; exact Ow.nil_, by rw [HF.out.2]; exact Ow.nil_, b0⟩
  · have HF := Lib.hid (Qu.ei_yes hk lw)
    have HP := Lib.hid (Qu.en_parts hp hk)
    rw [hk] at c1
    clear hk hp
    go_enter Tryz.func117, Tryz.ntmps117
    have bq_0 := bq.cell (j := 0) rfl
    have bq_1 := bq.cell (j := 1) rfl
    have bq_z := bq.frozen
    have bq_l := bq.lt
    have bR_0 := bR.cell (j := 0) rfl
    have bR_1 := bR.cell (j := 1) rfl
    have bR_z := bR.frozen
    have bR_l := bR.lt
    go_wp2_with fail
    clear hwA
    clear bq_0 bq_1 bq_z bq_l bR_0 bR_1 bR_z bR_l
    refine (c1).mono ?_; rintro q_ w1 ⟨v3, rfl, o3, b_1⟩
    replace bq := bq.below b_1 bq.lt
    replace bR := bR.below b_1 bR.lt
    replace hs := hs.below b_1 (by omega)
    replace hw := hw.below b_1 (by omega)
    have z_2 := b_1.size
    replace b0 := b0.trans (b_1.mono (by omega))
    clear b_1
    obtain ⟨A3, n3, d3, rfl, _, _, _⟩ := o3.rd.form
    have bq_0 := bq.cell (j := 0) rfl
    have bq_1 := bq.cell (j := 1) rfl
    have bq_z := bq.frozen
    have bq_l := bq.lt
    have bR_0 := bR.cell (j := 0) rfl
    have bR_1 := bR.cell (j := 1) rfl
    have bR_z := bR.frozen
    have bR_l := bR.lt
    go_wp2_with fail
    clear bq_0 bq_1 bq_z bq_l bR_0 bR_1 bR_z bR_l
    refine (implSettle_any _ _ (Sl.endR ls i) lw w1 o3.rd hw (by omega) (by omega) HP.out).mono ?_; rintro q_ w3 ⟨v5, v6, rfl, o5, o6, b_3⟩
    replace bq := bq.below b_3 bq.lt
    replace bR := bR.below b_3 bR.lt
    replace hs := hs.below b_3 (by omega)
    replace hw := hw.below b_3 (by omega)
    replace o3 := o3.below b_3 (by omega)
    have z_4 := b_3.size
    replace b0 := b0.trans (b_3.mono (by omega))
    clear b_3
    obtain ⟨A5, n5, d5, rfl, _, _, _⟩ := o5.rd.form
    obtain ⟨A6, n6, d6, rfl, _, _, _⟩ := o6.rd.form
    have bq_0 := bq.cell (j := 0) rfl
    have bq_1 := bq.cell (j := 1) rfl
    have bq_z := bq.frozen
    have bq_l := bq.lt
    have bR_0 := bR.cell (j := 0) rfl
    have bR_1 := bR.cell (j := 1) rfl
    have bR_z := bR.frozen
    have bR_l := bR.lt
    go_wp2_with fail
    clear bq_0 bq_1 bq_z bq_l bR_0 bR_1 bR_z bR_l
    generalize hwz : World.setCell (World.setCell _ _ _) _ _ = wz_
    obtain rfl : wz_ = setL w3 (w.heap.size + 1) 0 [.slice A5 n5 d5, .slice A6 n6 d6] := hwz.symm
    clear hwz
    replace bq := bq.other (b := w.heap.size + 1) (by omega) 0 [.slice A5 n5 d5, .slice A6 n6 d6]
    replace hs := hs.away (g := w.heap.size + 1) (by omega) 0 [.slice A5 n5 d5, .slice A6 n6 d6]
    replace hw := hw.away (g := w.heap.size + 1) (by omega) 0 [.slice A5 n5 d5, .slice A6 n6 d6]
    replace o3 := o3.box (g := w.heap.size + 1) bR (by decide) 0 [.slice A5 n5 d5, .slice A6 n6 d6]
    replace o5 := o5.box (g := w.heap.size + 1) bR (by decide) 0 [.slice A5 n5 d5, .slice A6 n6 d6]
    replace o6 := o6.box (g := w.heap.size + 1) bR (by decide) 0 [.slice A5 n5 d5, .slice A6 n6 d6]
    replace b0 := setL_below b0 [.slice A5 n5 d5, .slice A6 n6 d6] (w.heap.size + 1) 0 (by omega)
    have zs_5 : (setL w3 (w.heap.size + 1) 0 [.slice A5 n5 d5, .slice A6 n6 d6]).heap.size = w3.heap.size := setL_size _ _ _ _
    replace bR := bR.setAll [.slice A5 n5 d5, .slice A6 n6 d6] rfl
    generalize setL w3 _ 0 _ = w5 at *
    have u0_ := bR.cell (j := 0) rfl
    have u1_ := bR.cell (j := 1) rfl
    refine bodyPost_ret (by simp only [results, Tryz.results117]; simp [go_sem, u0_, u1_]; rfl) rfl ?_
    exact ⟨_, _, rfl, by rw [HF.out.1]; exact o5.mono (by omega) (by omega), by rw [HF.out.2]; exact o6.mono (by omega) (by omega), b0⟩

end Go.Proofs.YtengaccnncnipaaGreat
