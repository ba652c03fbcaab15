/- Settling, ending and offering: the inner functions and the public ones, in the program and in the reference. Conditions: the inner ones want valid parts. -/
import Derived.Test.YtghfdoibabaadaaQuSettle
import Derived.Test.YtghfdoibabaadaaQuMath2
namespace Go.Proofs.Ytghfdoibabaadaa
open Go.RowKit Go.ChangeShapes Go.WideShapes Go.Deep

set_option maxHeartbeats 8000000 in
theorem specSettleQueue_any (vs : Value) (ls : List Sl) (vw : Value) (lw : List Wt) (w : World) {lo hi lo2 hi2 : Nat} (h : Rd Sl.cells 3 w lo hi vs ls) (h2 : Rd Wt.cells 2 w lo2 hi2 vw lw) (hh : hi ≤ w.heap.size) (hh2 : hi2 ≤ w.heap.size) :
    Calls Try.prog 22 #[vs, vw] w fun e w' => ∃ v1 v2, e = .returned (.tuple #[.agg #[v1, v2], .bool (Qu.parts ls lw)]) ∧ Ow Sl.cells 3 65 w' w.heap.size w'.heap.size v1 (Qu.seS ls lw) ∧ Ow Wt.cells 2 69 w' w.heap.size w'.heap.size v2 (Qu.seW ls lw) ∧ Below w.heap.size w w' := by
  have b0 : Below w.heap.size w (w.alloc (.cells #[.slice none 0 0, .slice none 0 0] 31)) := (Below.refl w.heap.size w).alloc (Nat.le_refl _) _
  have z0 : (w.alloc (.cells #[.slice none 0 0, .slice none 0 0] 31)).heap.size = w.heap.size + 1 := by simp
  have bR := Box.new w #[.slice none 0 0, .slice none 0 0] 31 rfl
  have hs := h.below b0 hh
  have hw := h2.below b0 hh2
  have hv_ := h.form
  have hv2_ := h2.form
  clear h h2
  generalize hwA : (w.alloc (.cells #[.slice none 0 0, .slice none 0 0] 31)) = wA at *
  obtain ⟨A0, n0, d0, rfl, _, _, _⟩ := hv_
  obtain ⟨A1, n1, d1, rfl, _, _, _⟩ := hv2_
  have c1 := l9Waiting_any _ _ ls lw _ hs hw (by omega) (by omega)
  cases hp : Qu.parts ls lw
  · have HF := Lib.hid (Qu.se_no hp)
    rw [hp] at c1
    clear hp
    go_enter Try.func22, Try.ntmps22
    have bR_0 := bR.cell (j := 0) rfl
    have bR_1 := bR.cell (j := 1) rfl
    have bR_z := bR.frozen
    have bR_l := bR.lt
    go_wp2_with fail
    clear hwA
    clear bR_0 bR_1 bR_z bR_l
    refine (c1).mono ?_; rintro q_ w1 ⟨rfl, b_1⟩
    replace bR := bR.below b_1 bR.lt
    replace hs := hs.below b_1 (by omega)
    replace hw := hw.below b_1 (by omega)
    have z_2 := b_1.size
    replace b0 := b0.trans (b_1.mono (by omega))
    clear b_1
    have bR_0 := bR.cell (j := 0) rfl
    have bR_1 := bR.cell (j := 1) rfl
    have bR_z := bR.frozen
    have bR_l := bR.lt
    go_wp2_with fail
    clear bR_0 bR_1 bR_z bR_l
    generalize hwz : World.setCell (World.setCell _ _ _) _ _ = wz_
    obtain rfl : wz_ = setL w1 (w.heap.size) 0 [.slice none 0 0, .slice none 0 0] := hwz.symm
    clear hwz
    replace hs := hs.away (g := w.heap.size) (by omega) 0 [.slice none 0 0, .slice none 0 0]
    replace hw := hw.away (g := w.heap.size) (by omega) 0 [.slice none 0 0, .slice none 0 0]
    replace b0 := setL_below b0 [.slice none 0 0, .slice none 0 0] (w.heap.size) 0 (by omega)
    have zs_3 : (setL w1 (w.heap.size) 0 [.slice none 0 0, .slice none 0 0]).heap.size = w1.heap.size := setL_size _ _ _ _
    replace bR := bR.setAll [.slice none 0 0, .slice none 0 0] rfl
    generalize setL w1 _ 0 _ = w3 at *
    have u0_ := bR.cell (j := 0) rfl
    have u1_ := bR.cell (j := 1) rfl
    refine bodyPost_ret (by simp only [results, Try.results22]; simp [go_sem, u0_, u1_]; rfl) rfl ?_
    exact ⟨_, _, rfl, by rw [HF.out.1]; exact Ow.nil_, by rw [HF.out.2]; exact Ow.nil_, b0⟩
  · have HF := Lib.hid (Qu.se_yes hp)
    have HP := Lib.hid hp
    rw [hp] at c1
    clear hp
    go_enter Try.func22, Try.ntmps22
    have bR_0 := bR.cell (j := 0) rfl
    have bR_1 := bR.cell (j := 1) rfl
    have bR_z := bR.frozen
    have bR_l := bR.lt
    go_wp2_with fail
    clear hwA
    clear bR_0 bR_1 bR_z bR_l
    refine (c1).mono ?_; rintro q_ w1 ⟨rfl, b_1⟩
    replace bR := bR.below b_1 bR.lt
    replace hs := hs.below b_1 (by omega)
    replace hw := hw.below b_1 (by omega)
    have z_2 := b_1.size
    replace b0 := b0.trans (b_1.mono (by omega))
    clear b_1
    have bR_0 := bR.cell (j := 0) rfl
    have bR_1 := bR.cell (j := 1) rfl
    have bR_z := bR.frozen
    have bR_l := bR.lt
    go_wp2_with fail
    clear bR_0 bR_1 bR_z bR_l
    refine (specSettle_any _ _ ls lw w1 hs hw (by omega) (by omega) HP.out).mono ?_; rintro q_ w3 ⟨v5, v6, rfl, o5, o6, b_3⟩
    replace bR := bR.below b_3 bR.lt
    replace hs := hs.below b_3 (by omega)
    replace hw := hw.below b_3 (by omega)
    have z_4 := b_3.size
    replace b0 := b0.trans (b_3.mono (by omega))
    clear b_3
    obtain ⟨A5, n5, d5, rfl, _, _, _⟩ := o5.rd.form
    obtain ⟨A6, n6, d6, rfl, _, _, _⟩ := o6.rd.form
    have bR_0 := bR.cell (j := 0) rfl
    have bR_1 := bR.cell (j := 1) rfl
    have bR_z := bR.frozen
    have bR_l := bR.lt
    go_wp2_with fail
    clear bR_0 bR_1 bR_z bR_l
    generalize hwz : World.setCell (World.setCell _ _ _) _ _ = wz_
    obtain rfl : wz_ = setL w3 (w.heap.size) 0 [.slice A5 n5 d5, .slice A6 n6 d6] := hwz.symm
    clear hwz
    replace hs := hs.away (g := w.heap.size) (by omega) 0 [.slice A5 n5 d5, .slice A6 n6 d6]
    replace hw := hw.away (g := w.heap.size) (by omega) 0 [.slice A5 n5 d5, .slice A6 n6 d6]
    replace o5 := o5.box (g := w.heap.size) bR (by decide) 0 [.slice A5 n5 d5, .slice A6 n6 d6]
    replace o6 := o6.box (g := w.heap.size) bR (by decide) 0 [.slice A5 n5 d5, .slice A6 n6 d6]
    replace b0 := setL_below b0 [.slice A5 n5 d5, .slice A6 n6 d6] (w.heap.size) 0 (by omega)
    have zs_5 : (setL w3 (w.heap.size) 0 [.slice A5 n5 d5, .slice A6 n6 d6]).heap.size = w3.heap.size := setL_size _ _ _ _
    replace bR := bR.setAll [.slice A5 n5 d5, .slice A6 n6 d6] rfl
    generalize setL w3 _ 0 _ = w5 at *
    have u0_ := bR.cell (j := 0) rfl
    have u1_ := bR.cell (j := 1) rfl
    refine bodyPost_ret (by simp only [results, Try.results22]; simp [go_sem, u0_, u1_]; rfl) rfl ?_
    exact ⟨_, _, rfl, by rw [HF.out.1]; exact o5.mono (by omega) (by omega), by rw [HF.out.2]; exact o6.mono (by omega) (by omega), b0⟩
set_option maxHeartbeats 8000000 in
theorem specEndQ_in (vs vw : Value) (ls : List Sl) (lw : List Wt) (i : Int) (w : World) {lo hi lo2 hi2 : Nat} (h : Rd Sl.cells 3 w lo hi vs ls) (h2 : Rd Wt.cells 2 w lo2 hi2 vw lw) (hh : hi ≤ w.heap.size) (hh2 : hi2 ≤ w.heap.size) (hp : Qu.parts ls lw = true) :
    Calls Try.prog 60 #[.agg #[vs, vw], .int .i64 i] w fun e w' => ∃ v1 v2, e = .returned (.tuple #[.agg #[v1, v2], .bool (Sl.endOk ls i)]) ∧ Ow Sl.cells 3 65 w' w.heap.size w'.heap.size v1 (Qu.eiS ls lw i) ∧ Ow Wt.cells 2 69 w' w.heap.size w'.heap.size v2 (Qu.eiW ls lw i) ∧ Below w.heap.size w w' := by
  have b0 : Below w.heap.size w ((w.alloc (.cells #[vs, vw] 31)).alloc (.cells #[.slice none 0 0, .slice none 0 0] 31)) := ((Below.refl w.heap.size w).alloc (Nat.le_refl _) _).alloc (by simp) _
  have z0 : ((w.alloc (.cells #[vs, vw] 31)).alloc (.cells #[.slice none 0 0, .slice none 0 0] 31)).heap.size = w.heap.size + 2 := by simp
  have bq := Box.new w #[vs, vw] 31 rfl
  have bR := Box.new (g := w.heap.size + 1) (w.alloc (.cells #[vs, vw] 31)) #[.slice none 0 0, .slice none 0 0] 31 (by simp)
  replace bq := bq.below ((Below.refl _ (w.alloc (.cells #[vs, vw] 31))).alloc (Nat.le_refl _) (.cells #[.slice none 0 0, .slice none 0 0] 31)) bq.lt
  have hs := h.below b0 hh
  have hw := h2.below b0 hh2
  have hv_ := h.form
  have hv2_ := h2.form
  clear h h2
  generalize hwA : ((w.alloc (.cells #[vs, vw] 31)).alloc (.cells #[.slice none 0 0, .slice none 0 0] 31)) = wA at *
  obtain ⟨A0, n0, d0, rfl, _, _, _⟩ := hv_
  obtain ⟨A1, n1, d1, rfl, _, _, _⟩ := hv2_
  have hg := (Qu.parts_get hp).1
  have c1 := specEnd_in _ ls i _ hs (by omega) hg
  clear hg
  cases hk : Sl.endOk ls i
  · have HF := Lib.hid (Qu.ei_no hk lw)
    rw [hk] at c1
    clear hk hp
    go_enter Try.func60, Try.ntmps60
    have bq_0 := bq.cell (j := 0) rfl
    have bq_1 := bq.cell (j := 1) rfl
    have bq_z := bq.frozen
    have bq_l := bq.lt
    have bR_0 := bR.cell (j := 0) rfl
    have bR_1 := bR.cell (j := 1) rfl
    have bR_z := bR.frozen
    have bR_l := bR.lt
    go_wp2_with fail
    clear hwA
    clear bq_0 bq_1 bq_z bq_l bR_0 bR_1 bR_z bR_l
    refine (c1).mono ?_; rintro q_ w1 ⟨v3, rfl, o3, b_1⟩
    replace bq := bq.below b_1 bq.lt
    replace bR := bR.below b_1 bR.lt
    replace hs := hs.below b_1 (by omega)
    replace hw := hw.below b_1 (by omega)
    have z_2 := b_1.size
    replace b0 := b0.trans (b_1.mono (by omega))
    clear b_1
    obtain ⟨A3, n3, d3, rfl, _, _, _⟩ := o3.rd.form
    have bq_0 := bq.cell (j := 0) rfl
    have bq_1 := bq.cell (j := 1) rfl
    have bq_z := bq.frozen
    have bq_l := bq.lt
    have bR_0 := bR.cell (j := 0) rfl
    have bR_1 := bR.cell (j := 1) rfl
    have bR_z := bR.frozen
    have bR_l := bR.lt
    go_wp2_with fail
    clear bq_0 bq_1 bq_z bq_l bR_0 bR_1 bR_z bR_l
    generalize hwz : World.setCell (World.setCell _ _ _) _ _ = wz_
    obtain rfl : wz_ = setL w1 (w.heap.size + 1) 0 [.slice none 0 0, .slice none 0 0] := hwz.symm
    clear hwz
    replace bq := bq.other (b := w.heap.size + 1) (by omega) 0 [.slice none 0 0, .slice none 0 0]
    replace hs := hs.away (g := w.heap.size + 1) (by omega) 0 [.slice none 0 0, .slice none 0 0]
    replace hw := hw.away (g := w.heap.size + 1) (by omega) 0 [.slice none 0 0, .slice none 0 0]
    replace o3 := o3.box (g := w.heap.size + 1) bR (by decide) 0 [.slice none 0 0, .slice none 0 0]
    replace b0 := setL_below b0 [.slice none 0 0, .slice none 0 0] (w.heap.size + 1) 0 (by omega)
    have zs_3 : (setL w1 (w.heap.size + 1) 0 [.slice none 0 0, .slice none 0 0]).heap.size = w1.heap.size := setL_size _ _ _ _
    replace bR := bR.setAll [.slice none 0 0, .slice none 0 0] rfl
    generalize setL w1 _ 0 _ = w3 at *
    have u0_ := bR.cell (j := 0) rfl
    have u1_ := bR.cell (j := 1) rfl
    refine bodyPost_ret (by simp only [results, Try.results60]; simp [go_sem, u0_, u1_]; rfl) rfl ?_
    exact ⟨_, _, rfl, by rw [HF.out.1]; exact Ow.nil_, by rw [HF.out.2]; exact Ow.nil_, b0⟩
  · have HF := Lib.hid (Qu.ei_yes hk lw)
    have HP := Lib.hid (Qu.en_parts hp hk)
    rw [hk] at c1
    clear hk hp
    go_enter Try.func60, Try.ntmps60
    have bq_0 := bq.cell (j := 0) rfl
    have bq_1 := bq.cell (j := 1) rfl
    have bq_z := bq.frozen
    have bq_l := bq.lt
    have bR_0 := bR.cell (j := 0) rfl
    have bR_1 := bR.cell (j := 1) rfl
    have bR_z := bR.frozen
    have bR_l := bR.lt
    go_wp2_with fail
    clear hwA
    clear bq_0 bq_1 bq_z bq_l bR_0 bR_1 bR_z bR_l
    refine (c1).mono ?_; rintro q_ w1 ⟨v3, rfl, o3, b_1⟩
    replace bq := bq.below b_1 bq.lt
    replace bR := bR.below b_1 bR.lt
    replace hs := hs.below b_1 (by omega)
    replace hw := hw.below b_1 (by omega)
    have z_2 := b_1.size
    replace b0 := b0.trans (b_1.mono (by omega))
    clear b_1
    obtain ⟨A3, n3, d3, rfl, _, _, _⟩ := o3.rd.form
    have bq_0 := bq.cell (j := 0) rfl
    have bq_1 := bq.cell (j := 1) rfl
    have bq_z := bq.frozen
    have bq_l := bq.lt
    have bR_0 := bR.cell (j := 0) rfl
    have bR_1 := bR.cell (j := 1) rfl
    have bR_z := bR.frozen
    have bR_l := bR.lt
    go_wp2_with fail
    clear bq_0 bq_1 bq_z bq_l bR_0 bR_1 bR_z bR_l
    refine (specSettle_any _ _ (Sl.endR ls i) lw w1 o3.rd hw (by omega) (by omega) HP.out).mono ?_; rintro q_ w3 ⟨v5, v6, rfl, o5, o6, b_3⟩
    replace bq := bq.below b_3 bq.lt
    replace bR := bR.below b_3 bR.lt
    replace hs := hs.below b_3 (by omega)
    replace hw := hw.below b_3 (by omega)
    replace o3 := o3.below b_3 (by omega)
    have z_4 := b_3.size
    replace b0 := b0.trans (b_3.mono (by omega))
    clear b_3
    obtain ⟨A5, n5, d5, rfl, _, _, _⟩ := o5.rd.form
    obtain ⟨A6, n6, d6, rfl, _, _, _⟩ := o6.rd.form
    have bq_0 := bq.cell (j := 0) rfl
    have bq_1 := bq.cell (j := 1) rfl
    have bq_z := bq.frozen
    have bq_l := bq.lt
    have bR_0 := bR.cell (j := 0) rfl
    have bR_1 := bR.cell (j := 1) rfl
    have bR_z := bR.frozen
    have bR_l := bR.lt
    go_wp2_with fail
    clear bq_0 bq_1 bq_z bq_l bR_0 bR_1 bR_z bR_l
    generalize hwz : World.setCell (World.setCell _ _ _) _ _ = wz_
    obtain rfl : wz_ = setL w3 (w.heap.size + 1) 0 [.slice A5 n5 d5, .slice A6 n6 d6] := hwz.symm
    clear hwz
    replace bq := bq.other (b := w.heap.size + 1) (by omega) 0 [.slice A5 n5 d5, .slice A6 n6 d6]
    replace hs := hs.away (g := w.heap.size + 1) (by omega) 0 [.slice A5 n5 d5, .slice A6 n6 d6]
    replace hw := hw.away (g := w.heap.size + 1) (by omega) 0 [.slice A5 n5 d5, .slice A6 n6 d6]
    replace o3 := o3.box (g := w.heap.size + 1) bR (by decide) 0 [.slice A5 n5 d5, .slice A6 n6 d6]
    replace o5 := o5.box (g := w.heap.size + 1) bR (by decide) 0 [.slice A5 n5 d5, .slice A6 n6 d6]
    replace o6 := o6.box (g := w.heap.size + 1) bR (by decide) 0 [.slice A5 n5 d5, .slice A6 n6 d6]
    replace b0 := setL_below b0 [.slice A5 n5 d5, .slice A6 n6 d6] (w.heap.size + 1) 0 (by omega)
    have zs_5 : (setL w3 (w.heap.size + 1) 0 [.slice A5 n5 d5, .slice A6 n6 d6]).heap.size = w3.heap.size := setL_size _ _ _ _
    replace bR := bR.setAll [.slice A5 n5 d5, .slice A6 n6 d6] rfl
    generalize setL w3 _ 0 _ = w5 at *
    have u0_ := bR.cell (j := 0) rfl
    have u1_ := bR.cell (j := 1) rfl
    refine bodyPost_ret (by simp only [results, Try.results60]; simp [go_sem, u0_, u1_]; rfl) rfl ?_
    exact ⟨_, _, rfl, by rw [HF.out.1]; exact o5.mono (by omega) (by omega), by rw [HF.out.2]; exact o6.mono (by omega) (by omega), b0⟩
set_option maxHeartbeats 8000000 in
theorem specEndQueue_any (vs vw : Value) (ls : List Sl) (lw : List Wt) (i : Int) (w : World) {lo hi lo2 hi2 : Nat} (h : Rd Sl.cells 3 w lo hi vs ls) (h2 : Rd Wt.cells 2 w lo2 hi2 vw lw) (hh : hi ≤ w.heap.size) (hh2 : hi2 ≤ w.heap.size) :
    Calls Try.prog 30 #[.agg #[vs, vw], .int .i64 i] w fun e w' => ∃ v1 v2, e = .returned (.tuple #[.agg #[v1, v2], .bool (Qu.enOk ls lw i)]) ∧ Ow Sl.cells 3 65 w' w.heap.size w'.heap.size v1 (Qu.enS ls lw i) ∧ Ow Wt.cells 2 69 w' w.heap.size w'.heap.size v2 (Qu.enW ls lw i) ∧ Below w.heap.size w w' := by
  have b0 : Below w.heap.size w ((w.alloc (.cells #[vs, vw] 31)).alloc (.cells #[.slice none 0 0, .slice none 0 0] 31)) := ((Below.refl w.heap.size w).alloc (Nat.le_refl _) _).alloc (by simp) _
  have z0 : ((w.alloc (.cells #[vs, vw] 31)).alloc (.cells #[.slice none 0 0, .slice none 0 0] 31)).heap.size = w.heap.size + 2 := by simp
  have bq := Box.new w #[vs, vw] 31 rfl
  have bR := Box.new (g := w.heap.size + 1) (w.alloc (.cells #[vs, vw] 31)) #[.slice none 0 0, .slice none 0 0] 31 (by simp)
  replace bq := bq.below ((Below.refl _ (w.alloc (.cells #[vs, vw] 31))).alloc (Nat.le_refl _) (.cells #[.slice none 0 0, .slice none 0 0] 31)) bq.lt
  have hs := h.below b0 hh
  have hw := h2.below b0 hh2
  have hv_ := h.form
  have hv2_ := h2.form
  clear h h2
  generalize hwA : ((w.alloc (.cells #[vs, vw] 31)).alloc (.cells #[.slice none 0 0, .slice none 0 0] 31)) = wA at *
  obtain ⟨A0, n0, d0, rfl, _, _, _⟩ := hv_
  obtain ⟨A1, n1, d1, rfl, _, _, _⟩ := hv2_
  have c1 := l9Good_any _ _ ls lw _ hs hw (by omega) (by omega)
  have c2 := fun W => l6Irq_any i W
  cases hg : Qu.good ls lw
  · have HF := Lib.hid (Qu.en_no (ls := ls) (lw := lw) (i := i) (by simp [Qu.enG, hg]))
    rw [hg] at c1
    clear hg
    go_enter Try.func30, Try.ntmps30
    have bq_0 := bq.cell (j := 0) rfl
    have bq_1 := bq.cell (j := 1) rfl
    have bq_z := bq.frozen
    have bq_l := bq.lt
    have bR_0 := bR.cell (j := 0) rfl
    have bR_1 := bR.cell (j := 1) rfl
    have bR_z := bR.frozen
    have bR_l := bR.lt
    go_wp2_with fail
    clear hwA
    clear bq_0 bq_1 bq_z bq_l bR_0 bR_1 bR_z bR_l
    refine (c1).mono ?_; rintro q_ w1 ⟨rfl, b_1⟩
    replace bq := bq.below b_1 bq.lt
    replace bR := bR.below b_1 bR.lt
    replace hs := hs.below b_1 (by omega)
    replace hw := hw.below b_1 (by omega)
    have z_2 := b_1.size
    replace b0 := b0.trans (b_1.mono (by omega))
    clear b_1
    have bq_0 := bq.cell (j := 0) rfl
    have bq_1 := bq.cell (j := 1) rfl
    have bq_z := bq.frozen
    have bq_l := bq.lt
    have bR_0 := bR.cell (j := 0) rfl
    have bR_1 := bR.cell (j := 1) rfl
    have bR_z := bR.frozen
    have bR_l := bR.lt
    go_wp2_with fail
    clear bq_0 bq_1 bq_z bq_l bR_0 bR_1 bR_z bR_l
    generalize hwz : World.setCell (World.setCell _ _ _) _ _ = wz_
    obtain rfl : wz_ = setL w1 (w.heap.size + 1) 0 [.slice none 0 0, .slice none 0 0] := hwz.symm
    clear hwz
    replace bq := bq.other (b := w.heap.size + 1) (by omega) 0 [.slice none 0 0, .slice none 0 0]
    replace hs := hs.away (g := w.heap.size + 1) (by omega) 0 [.slice none 0 0, .slice none 0 0]
    replace hw := hw.away (g := w.heap.size + 1) (by omega) 0 [.slice none 0 0, .slice none 0 0]
    replace b0 := setL_below b0 [.slice none 0 0, .slice none 0 0] (w.heap.size + 1) 0 (by omega)
    have zs_3 : (setL w1 (w.heap.size + 1) 0 [.slice none 0 0, .slice none 0 0]).heap.size = w1.heap.size := setL_size _ _ _ _
    replace bR := bR.setAll [.slice none 0 0, .slice none 0 0] rfl
    generalize setL w1 _ 0 _ = w3 at *
    have u0_ := bR.cell (j := 0) rfl
    have u1_ := bR.cell (j := 1) rfl
    refine bodyPost_ret (by simp only [results, Try.results30]; simp [go_sem, u0_, u1_]; rfl) rfl ?_
    exact ⟨_, _, by rw [HF.out.1], by rw [HF.out.2.1]; exact Ow.nil_, by rw [HF.out.2.2]; exact Ow.nil_, b0⟩
  · cases hi : inB i 0 7
    · have HF := Lib.hid (Qu.en_no (ls := ls) (lw := lw) (i := i) (by simp [Qu.enG, hi]))
      rw [hg] at c1
      rw [hi] at c2
      clear hg hi
      go_enter Try.func30, Try.ntmps30
      have bq_0 := bq.cell (j := 0) rfl
      have bq_1 := bq.cell (j := 1) rfl
      have bq_z := bq.frozen
      have bq_l := bq.lt
      have bR_0 := bR.cell (j := 0) rfl
      have bR_1 := bR.cell (j := 1) rfl
      have bR_z := bR.frozen
      have bR_l := bR.lt
      go_wp2_with fail
      clear hwA
      clear bq_0 bq_1 bq_z bq_l bR_0 bR_1 bR_z bR_l
      refine (c1).mono ?_; rintro q_ w1 ⟨rfl, b_1⟩
      replace bq := bq.below b_1 bq.lt
      replace bR := bR.below b_1 bR.lt
      replace hs := hs.below b_1 (by omega)
      replace hw := hw.below b_1 (by omega)
      have z_2 := b_1.size
      replace b0 := b0.trans (b_1.mono (by omega))
      clear b_1
      have bq_0 := bq.cell (j := 0) rfl
      have bq_1 := bq.cell (j := 1) rfl
      have bq_z := bq.frozen
      have bq_l := bq.lt
      have bR_0 := bR.cell (j := 0) rfl
      have bR_1 := bR.cell (j := 1) rfl
      have bR_z := bR.frozen
      have bR_l := bR.lt
      go_wp2_with fail
      clear bq_0 bq_1 bq_z bq_l bR_0 bR_1 bR_z bR_l
      refine (c2 _).mono ?_; rintro q_ w_ ⟨rfl, rfl⟩
      have bq_0 := bq.cell (j := 0) rfl
      have bq_1 := bq.cell (j := 1) rfl
      have bq_z := bq.frozen
      have bq_l := bq.lt
      have bR_0 := bR.cell (j := 0) rfl
      have bR_1 := bR.cell (j := 1) rfl
      have bR_z := bR.frozen
      have bR_l := bR.lt
      go_wp2_with fail
      clear bq_0 bq_1 bq_z bq_l bR_0 bR_1 bR_z bR_l
      generalize hwz : World.setCell (World.setCell _ _ _) _ _ = wz_
      obtain rfl : wz_ = setL w1 (w.heap.size + 1) 0 [.slice none 0 0, .slice none 0 0] := hwz.symm
      clear hwz
      replace bq := bq.other (b := w.heap.size + 1) (by omega) 0 [.slice none 0 0, .slice none 0 0]
      replace hs := hs.away (g := w.heap.size + 1) (by omega) 0 [.slice none 0 0, .slice none 0 0]
      replace hw := hw.away (g := w.heap.size + 1) (by omega) 0 [.slice none 0 0, .slice none 0 0]
      replace b0 := setL_below b0 [.slice none 0 0, .slice none 0 0] (w.heap.size + 1) 0 (by omega)
      have zs_3 : (setL w1 (w.heap.size + 1) 0 [.slice none 0 0, .slice none 0 0]).heap.size = w1.heap.size := setL_size _ _ _ _
      replace bR := bR.setAll [.slice none 0 0, .slice none 0 0] rfl
      generalize setL w1 _ 0 _ = w3 at *
      have u0_ := bR.cell (j := 0) rfl
      have u1_ := bR.cell (j := 1) rfl
      refine bodyPost_ret (by simp only [results, Try.results30]; simp [go_sem, u0_, u1_]; rfl) rfl ?_
      exact ⟨_, _, by rw [HF.out.1], by rw [HF.out.2.1]; exact Ow.nil_, by rw [HF.out.2.2]; exact Ow.nil_, b0⟩
    · have HF := Lib.hid (Qu.en_yes (ls := ls) (lw := lw) (i := i) (by simp [Qu.enG, hg, hi]))
      have HP := Lib.hid (Qu.good_parts hg).1
      rw [hg] at c1
      rw [hi] at c2
      clear hg hi
      go_enter Try.func30, Try.ntmps30
      have bq_0 := bq.cell (j := 0) rfl
      have bq_1 := bq.cell (j := 1) rfl
      have bq_z := bq.frozen
      have bq_l := bq.lt
      have bR_0 := bR.cell (j := 0) rfl
      have bR_1 := bR.cell (j := 1) rfl
      have bR_z := bR.frozen
      have bR_l := bR.lt
      go_wp2_with fail
      clear hwA
      clear bq_0 bq_1 bq_z bq_l bR_0 bR_1 bR_z bR_l
      refine (c1).mono ?_; rintro q_ w1 ⟨rfl, b_1⟩
      replace bq := bq.below b_1 bq.lt
      replace bR := bR.below b_1 bR.lt
      replace hs := hs.below b_1 (by omega)
      replace hw := hw.below b_1 (by omega)
      have z_2 := b_1.size
      replace b0 := b0.trans (b_1.mono (by omega))
      clear b_1
      have bq_0 := bq.cell (j := 0) rfl
      have bq_1 := bq.cell (j := 1) rfl
      have bq_z := bq.frozen
      have bq_l := bq.lt
      have bR_0 := bR.cell (j := 0) rfl
      have bR_1 := bR.cell (j := 1) rfl
      have bR_z := bR.frozen
      have bR_l := bR.lt
      go_wp2_with fail
      clear bq_0 bq_1 bq_z bq_l bR_0 bR_1 bR_z bR_l
      refine (c2 _).mono ?_; rintro q_ w_ ⟨rfl, rfl⟩
      have bq_0 := bq.cell (j := 0) rfl
      have bq_1 := bq.cell (j := 1) rfl
      have bq_z := bq.frozen
      have bq_l := bq.lt
      have bR_0 := bR.cell (j := 0) rfl
      have bR_1 := bR.cell (j := 1) rfl
      have bR_z := bR.frozen
      have bR_l := bR.lt
      go_wp2_with fail
      clear bq_0 bq_1 bq_z bq_l bR_0 bR_1 bR_z bR_l
      refine (specEndQ_in _ _ ls lw i w1 hs hw (by omega) (by omega) HP.out).mono ?_; rintro q_ w3 ⟨v5, v6, rfl, o5, o6, b_3⟩
      replace bq := bq.below b_3 bq.lt
      replace bR := bR.below b_3 bR.lt
      replace hs := hs.below b_3 (by omega)
      replace hw := hw.below b_3 (by omega)
      have z_4 := b_3.size
      replace b0 := b0.trans (b_3.mono (by omega))
      clear b_3
      obtain ⟨A5, n5, d5, rfl, _, _, _⟩ := o5.rd.form
      obtain ⟨A6, n6, d6, rfl, _, _, _⟩ := o6.rd.form
      generalize Sl.endOk ls i = ok at *
      have bq_0 := bq.cell (j := 0) rfl
      have bq_1 := bq.cell (j := 1) rfl
      have bq_z := bq.frozen
      have bq_l := bq.lt
      have bR_0 := bR.cell (j := 0) rfl
      have bR_1 := bR.cell (j := 1) rfl
      have bR_z := bR.frozen
      have bR_l := bR.lt
      go_upto_region 4 with fail
      clear bq_0 bq_1 bq_z bq_l bR_0 bR_1 bR_z bR_l
      have b_5 := (Below.refl w3.heap.size w3).alloc (Nat.le_refl _) (.cells #[.slice A5 n5 d5, .slice A6 n6 d6] 31)
      have bo := Box.new w3 #[.slice A5 n5 d5, .slice A6 n6 d6] 31 rfl
      replace bq := bq.below b_5 bq.lt
      replace bR := bR.below b_5 bR.lt
      replace hs := hs.below b_5 (by omega)
      replace hw := hw.below b_5 (by omega)
      replace o5 := o5.below b_5 (by omega)
      replace o6 := o6.below b_5 (by omega)
      have z_6 := b_5.size
      replace b0 := b0.trans (b_5.mono (by omega))
      clear b_5
      generalize w3.alloc _ = w5 at *
      generalize w3.heap.size = g5 at *
      have bq_0 := bq.cell (j := 0) rfl
      have bq_1 := bq.cell (j := 1) rfl
      have bq_z := bq.frozen
      have bq_l := bq.lt
      have bR_0 := bR.cell (j := 0) rfl
      have bR_1 := bR.cell (j := 1) rfl
      have bR_z := bR.frozen
      have bR_l := bR.lt
      have bo_0 := bo.cell (j := 0) rfl
      have bo_1 := bo.cell (j := 1) rfl
      have bo_z := bo.frozen
      have bo_l := bo.lt
      go_wp2_with fail
      clear bq_0 bq_1 bq_z bq_l bR_0 bR_1 bR_z bR_l bo_0 bo_1 bo_z bo_l
      generalize hwz : World.setCell (World.setCell _ _ _) _ _ = wz_
      obtain rfl : wz_ = setL w5 (w.heap.size + 1) 0 [.slice A5 n5 d5, .slice A6 n6 d6] := hwz.symm
      clear hwz
      replace bq := bq.other (b := w.heap.size + 1) (by omega) 0 [.slice A5 n5 d5, .slice A6 n6 d6]
      replace bo := bo.other (b := w.heap.size + 1) (by omega) 0 [.slice A5 n5 d5, .slice A6 n6 d6]
      replace hs := hs.away (g := w.heap.size + 1) (by omega) 0 [.slice A5 n5 d5, .slice A6 n6 d6]
      replace hw := hw.away (g := w.heap.size + 1) (by omega) 0 [.slice A5 n5 d5, .slice A6 n6 d6]
      replace o5 := o5.box (g := w.heap.size + 1) bR (by decide) 0 [.slice A5 n5 d5, .slice A6 n6 d6]
      replace o6 := o6.box (g := w.heap.size + 1) bR (by decide) 0 [.slice A5 n5 d5, .slice A6 n6 d6]
      replace b0 := setL_below b0 [.slice A5 n5 d5, .slice A6 n6 d6] (w.heap.size + 1) 0 (by omega)
      have zs_7 : (setL w5 (w.heap.size + 1) 0 [.slice A5 n5 d5, .slice A6 n6 d6]).heap.size = w5.heap.size := setL_size _ _ _ _
      replace bR := bR.setAll [.slice A5 n5 d5, .slice A6 n6 d6] rfl
      generalize setL w5 _ 0 _ = w7 at *
      have u0_ := bR.cell (j := 0) rfl
      have u1_ := bR.cell (j := 1) rfl
      refine bodyPost_ret (by simp only [results, Try.results30]; simp [go_sem, u0_, u1_]; rfl) rfl ?_
      exact ⟨_, _, by rw [HF.out.1], by rw [HF.out.2.1]; exact o5.mono (by omega) (by omega), by rw [HF.out.2.2]; exact o6.mono (by omega) (by omega), b0⟩
set_option maxHeartbeats 8000000 in
theorem implSettleQueue_any (vs : Value) (ls : List Sl) (vw : Value) (lw : List Wt) (w : World) {lo hi lo2 hi2 : Nat} (h : Rd Sl.cells 3 w lo hi vs ls) (h2 : Rd Wt.cells 2 w lo2 hi2 vw lw) (hh : hi ≤ w.heap.size) (hh2 : hi2 ≤ w.heap.size) :
    Calls Try.prog 25 #[vs, vw] w fun e w' => ∃ v1 v2, e = .returned (.tuple #[.agg #[v1, v2], .bool (Qu.parts ls lw)]) ∧ Ow Sl.cells 3 65 w' w.heap.size w'.heap.size v1 (Qu.seS ls lw) ∧ Ow Wt.cells 2 69 w' w.heap.size w'.heap.size v2 (Qu.seW ls lw) ∧ Below w.heap.size w w' := by
  have b0 : Below w.heap.size w (w.alloc (.cells #[.slice none 0 0, .slice none 0 0] 31)) := (Below.refl w.heap.size w).alloc (Nat.le_refl _) _
  have z0 : (w.alloc (.cells #[.slice none 0 0, .slice none 0 0] 31)).heap.size = w.heap.size + 1 := by simp
  have bR := Box.new w #[.slice none 0 0, .slice none 0 0] 31 rfl
  have hs := h.below b0 hh
  have hw := h2.below b0 hh2
  have hv_ := h.form
  have hv2_ := h2.form
  clear h h2
  generalize hwA : (w.alloc (.cells #[.slice none 0 0, .slice none 0 0] 31)) = wA at *
  obtain ⟨A0, n0, d0, rfl, _, _, _⟩ := hv_
  obtain ⟨A1, n1, d1, rfl, _, _, _⟩ := hv2_
  have c1 := areParts_any _ _ ls lw _ hs hw (by omega) (by omega)
  cases hp : Qu.parts ls lw
  · have HF := Lib.hid (Qu.se_no hp)
    rw [hp] at c1
    clear hp
    go_enter Try.func25, Try.ntmps25
    have bR_0 := bR.cell (j := 0) rfl
    have bR_1 := bR.cell (j := 1) rfl
    have bR_z := bR.frozen
    have bR_l := bR.lt
    go_wp2_with fail
    clear hwA
    clear bR_0 bR_1 bR_z bR_l
    refine (c1).mono ?_; rintro q_ w1 ⟨rfl, b_1⟩
    replace bR := bR.below b_1 bR.lt
    replace hs := hs.below b_1 (by omega)
    replace hw := hw.below b_1 (by omega)
    have z_2 := b_1.size
    replace b0 := b0.trans (b_1.mono (by omega))
    clear b_1
    have bR_0 := bR.cell (j := 0) rfl
    have bR_1 := bR.cell (j := 1) rfl
    have bR_z := bR.frozen
    have bR_l := bR.lt
    go_wp2_with fail
    clear bR_0 bR_1 bR_z bR_l
    generalize hwz : World.setCell (World.setCell _ _ _) _ _ = wz_
    obtain rfl : wz_ = setL w1 (w.heap.size) 0 [.slice none 0 0, .slice none 0 0] := hwz.symm
    clear hwz
    replace hs := hs.away (g := w.heap.size) (by omega) 0 [.slice none 0 0, .slice none 0 0]
    replace hw := hw.away (g := w.heap.size) (by omega) 0 [.slice none 0 0, .slice none 0 0]
    replace b0 := setL_below b0 [.slice none 0 0, .slice none 0 0] (w.heap.size) 0 (by omega)
    have zs_3 : (setL w1 (w.heap.size) 0 [.slice none 0 0, .slice none 0 0]).heap.size = w1.heap.size := setL_size _ _ _ _
    replace bR := bR.setAll [.slice none 0 0, .slice none 0 0] rfl
    generalize setL w1 _ 0 _ = w3 at *
    have u0_ := bR.cell (j := 0) rfl
    have u1_ := bR.cell (j := 1) rfl
    refine bodyPost_ret (by simp only [results, Try.results25]; simp [go_sem, u0_, u1_]; rfl) rfl ?_
    exact ⟨_, _, rfl, by rw [HF.out.1]; exact Ow.nil_, by rw [HF.out.2]; exact Ow.nil_, b0⟩
  · have HF := Lib.hid (Qu.se_yes hp)
    have HP := Lib.hid hp
    rw [hp] at c1
    clear hp
    go_enter Try.func25, Try.ntmps25
    have bR_0 := bR.cell (j := 0) rfl
    have bR_1 := bR.cell (j := 1) rfl
    have bR_z := bR.frozen
    have bR_l := bR.lt
    go_wp2_with fail
    clear hwA
    clear bR_0 bR_1 bR_z bR_l
    refine (c1).mono ?_; rintro q_ w1 ⟨rfl, b_1⟩
    replace bR := bR.below b_1 bR.lt
    replace hs := hs.below b_1 (by omega)
    replace hw := hw.below b_1 (by omega)
    have z_2 := b_1.size
    replace b0 := b0.trans (b_1.mono (by omega))
    clear b_1
    have bR_0 := bR.cell (j := 0) rfl
    have bR_1 := bR.cell (j := 1) rfl
    have bR_z := bR.frozen
    have bR_l := bR.lt
    go_wp2_with fail
    clear bR_0 bR_1 bR_z bR_l
    refine (implSettle_any _ _ ls lw w1 hs hw (by omega) (by omega) HP.out).mono ?_; rintro q_ w3 ⟨v5, v6, rfl, o5, o6, b_3⟩
    replace bR := bR.below b_3 bR.lt
    replace hs := hs.below b_3 (by omega)
    replace hw := hw.below b_3 (by omega)
    have z_4 := b_3.size
    replace b0 := b0.trans (b_3.mono (by omega))
    clear b_3
    obtain ⟨A5, n5, d5, rfl, _, _, _⟩ := o5.rd.form
    obtain ⟨A6, n6, d6, rfl, _, _, _⟩ := o6.rd.form
    have bR_0 := bR.cell (j := 0) rfl
    have bR_1 := bR.cell (j := 1) rfl
    have bR_z := bR.frozen
    have bR_l := bR.lt
    go_wp2_with fail
    clear bR_0 bR_1 bR_z bR_l
    generalize hwz : World.setCell (World.setCell _ _ _) _ _ = wz_
    obtain rfl : wz_ = setL w3 (w.heap.size) 0 [.slice A5 n5 d5, .slice A6 n6 d6] := hwz.symm
    clear hwz
    replace hs := hs.away (g := w.heap.size) (by omega) 0 [.slice A5 n5 d5, .slice A6 n6 d6]
    replace hw := hw.away (g := w.heap.size) (by omega) 0 [.slice A5 n5 d5, .slice A6 n6 d6]
    replace o5 := o5.box (g := w.heap.size) bR (by decide) 0 [.slice A5 n5 d5, .slice A6 n6 d6]
    replace o6 := o6.box (g := w.heap.size) bR (by decide) 0 [.slice A5 n5 d5, .slice A6 n6 d6]
    replace b0 := setL_below b0 [.slice A5 n5 d5, .slice A6 n6 d6] (w.heap.size) 0 (by omega)
    have zs_5 : (setL w3 (w.heap.size) 0 [.slice A5 n5 d5, .slice A6 n6 d6]).heap.size = w3.heap.size := setL_size _ _ _ _
    replace bR := bR.setAll [.slice A5 n5 d5, .slice A6 n6 d6] rfl
    generalize setL w3 _ 0 _ = w5 at *
    have u0_ := bR.cell (j := 0) rfl
    have u1_ := bR.cell (j := 1) rfl
    refine bodyPost_ret (by simp only [results, Try.results25]; simp [go_sem, u0_, u1_]; rfl) rfl ?_
    exact ⟨_, _, rfl, by rw [HF.out.1]; exact o5.mono (by omega) (by omega), by rw [HF.out.2]; exact o6.mono (by omega) (by omega), b0⟩
set_option maxHeartbeats 8000000 in
theorem implEndQ_in (vs vw : Value) (ls : List Sl) (lw : List Wt) (i : Int) (w : World) {lo hi lo2 hi2 : Nat} (h : Rd Sl.cells 3 w lo hi vs ls) (h2 : Rd Wt.cells 2 w lo2 hi2 vw lw) (hh : hi ≤ w.heap.size) (hh2 : hi2 ≤ w.heap.size) (hp : Qu.parts ls lw = true) :
    Calls Try.prog 62 #[.agg #[vs, vw], .int .i64 i] w fun e w' => ∃ v1 v2, e = .returned (.tuple #[.agg #[v1, v2], .bool (Sl.endOk ls i)]) ∧ Ow Sl.cells 3 65 w' w.heap.size w'.heap.size v1 (Qu.eiS ls lw i) ∧ Ow Wt.cells 2 69 w' w.heap.size w'.heap.size v2 (Qu.eiW ls lw i) ∧ Below w.heap.size w w' := by
  have b0 : Below w.heap.size w ((w.alloc (.cells #[vs, vw] 31)).alloc (.cells #[.slice none 0 0, .slice none 0 0] 31)) := ((Below.refl w.heap.size w).alloc (Nat.le_refl _) _).alloc (by simp) _
  have z0 : ((w.alloc (.cells #[vs, vw] 31)).alloc (.cells #[.slice none 0 0, .slice none 0 0] 31)).heap.size = w.heap.size + 2 := by simp
  have bq := Box.new w #[vs, vw] 31 rfl
  have bR := Box.new (g := w.heap.size + 1) (w.alloc (.cells #[vs, vw] 31)) #[.slice none 0 0, .slice none 0 0] 31 (by simp)
  replace bq := bq.below ((Below.refl _ (w.alloc (.cells #[vs, vw] 31))).alloc (Nat.le_refl _) (.cells #[.slice none 0 0, .slice none 0 0] 31)) bq.lt
  have hs := h.below b0 hh
  have hw := h2.below b0 hh2
  have hv_ := h.form
  have hv2_ := h2.form
  clear h h2
  generalize hwA : ((w.alloc (.cells #[vs, vw] 31)).alloc (.cells #[.slice none 0 0, .slice none 0 0] 31)) = wA at *
  obtain ⟨A0, n0, d0, rfl, _, _, _⟩ := hv_
  obtain ⟨A1, n1, d1, rfl, _, _, _⟩ := hv2_
  have hg := (Qu.parts_get hp).1
  have c1 := implEnd_in _ ls i _ hs (by omega) hg
  clear hg
  cases hk : Sl.endOk ls i
  · have HF := Lib.hid (Qu.ei_no hk lw)
    rw [hk] at c1
    clear hk hp
    go_enter Try.func62, Try.ntmps62
    have bq_0 := bq.cell (j := 0) rfl
    have bq_1 := bq.cell (j := 1) rfl
    have bq_z := bq.frozen
    have bq_l := bq.lt
    have bR_0 := bR.cell (j := 0) rfl
    have bR_1 := bR.cell (j := 1) rfl
    have bR_z := bR.frozen
    have bR_l := bR.lt
    go_wp2_with fail
    clear hwA
    clear bq_0 bq_1 bq_z bq_l bR_0 bR_1 bR_z bR_l
    refine (c1).mono ?_; rintro q_ w1 ⟨v3, rfl, o3, b_1⟩
    replace bq := bq.below b_1 bq.lt
    replace bR := bR.below b_1 bR.lt
    replace hs := hs.below b_1 (by omega)
    replace hw := hw.below b_1 (by omega)
    have z_2 := b_1.size
    replace b0 := b0.trans (b_1.mono (by omega))
    clear b_1
    obtain ⟨A3, n3, d3, rfl, _, _, _⟩ := o3.rd.form
    have bq_0 := bq.cell (j := 0) rfl
    have bq_1 := bq.cell (j := 1) rfl
    have bq_z := bq.frozen
    have bq_l := bq.lt
    have bR_0 := bR.cell (j := 0) rfl
    have bR_1 := bR.cell (j := 1) rfl
    have bR_z := bR.frozen
    have bR_l := bR.lt
    go_wp2_with fail
    clear bq_0 bq_1 bq_z bq_l bR_0 bR_1 bR_z bR_l
    generalize hwz : World.setCell (World.setCell _ _ _) _ _ = wz_
    obtain rfl : wz_ = setL w1 (w.heap.size + 1) 0 [.slice none 0 0, .slice none 0 0] := hwz.symm
    clear hwz
    replace bq := bq.other (b := w.heap.size + 1) (by omega) 0 [.slice none 0 0, .slice none 0 0]
    replace hs := hs.away (g := w.heap.size + 1) (by omega) 0 [.slice none 0 0, .slice none 0 0]
    replace hw := hw.away (g := w.heap.size + 1) (by omega) 0 [.slice none 0 0, .slice none 0 0]
    replace o3 := o3.box (g := w.heap.size + 1) bR (by decide) 0 [.slice none 0 0, .slice none 0 0]
    replace b0 := setL_below b0 [.slice none 0 0, .slice none 0 0] (w.heap.size + 1) 0 (by omega)
    have zs_3 : (setL w1 (w.heap.size + 1) 0 [.slice none 0 0, .slice none 0 0]).heap.size = w1.heap.size := setL_size _ _ _ _
    replace bR := bR.setAll [.slice none 0 0, .slice none 0 0] rfl
    generalize setL w1 _ 0 _ = w3 at *
    have u0_ := bR.cell (j := 0) rfl
    have u1_ := bR.cell (j := 1) rfl
    refine bodyPost_ret (by simp only [results, Try.results62]; simp [go_sem, u0_, u1_]; rfl) rfl ?_
    exact ⟨_, _, rfl, by rw [HF.out.1]; exact Ow.nil_, by rw [HF.out.2]; exact Ow.nil_, b0⟩
  · have HF := Lib.hid (Qu.ei_yes hk lw)
    have HP := Lib.hid (Qu.en_parts hp hk)
    rw [hk] at c1
    clear hk hp
    go_enter Try.func62, Try.ntmps62
    have bq_0 := bq.cell (j := 0) rfl
    have bq_1 := bq.cell (j := 1) rfl
    have bq_z := bq.frozen
    have bq_l := bq.lt
    have bR_0 := bR.cell (j := 0) rfl
    have bR_1 := bR.cell (j := 1) rfl
    have bR_z := bR.frozen
    have bR_l := bR.lt
    go_wp2_with fail
    clear hwA
    clear bq_0 bq_1 bq_z bq_l bR_0 bR_1 bR_z bR_l
    refine (c1).mono ?_; rintro q_ w1 ⟨v3, rfl, o3, b_1⟩
    replace bq := bq.below b_1 bq.lt
    replace bR := bR.below b_1 bR.lt
    replace hs := hs.below b_1 (by omega)
    replace hw := hw.below b_1 (by omega)
    have z_2 := b_1.size
    replace b0 := b0.trans (b_1.mono (by omega))
    clear b_1
    obtain ⟨A3, n3, d3, rfl, _, _, _⟩ := o3.rd.form
    have bq_0 := bq.cell (j := 0) rfl
    have bq_1 := bq.cell (j := 1) rfl
    have bq_z := bq.frozen
    have bq_l := bq.lt
    have bR_0 := bR.cell (j := 0) rfl
    have bR_1 := bR.cell (j := 1) rfl
    have bR_z := bR.frozen
    have bR_l := bR.lt
    go_wp2_with fail
    clear bq_0 bq_1 bq_z bq_l bR_0 bR_1 bR_z bR_l
    refine (implSettle_any _ _ (Sl.endR ls i) lw w1 o3.rd hw (by omega) (by omega) HP.out).mono ?_; rintro q_ w3 ⟨v5, v6, rfl, o5, o6, b_3⟩
    replace bq := bq.below b_3 bq.lt
    replace bR := bR.below b_3 bR.lt
    replace hs := hs.below b_3 (by omega)
    replace hw := hw.below b_3 (by omega)
    replace o3 := o3.below b_3 (by omega)
    have z_4 := b_3.size
    replace b0 := b0.trans (b_3.mono (by omega))
    clear b_3
    obtain ⟨A5, n5, d5, rfl, _, _, _⟩ := o5.rd.form
    obtain ⟨A6, n6, d6, rfl, _, _, _⟩ := o6.rd.form
    have bq_0 := bq.cell (j := 0) rfl
    have bq_1 := bq.cell (j := 1) rfl
    have bq_z := bq.frozen
    have bq_l := bq.lt
    have bR_0 := bR.cell (j := 0) rfl
    have bR_1 := bR.cell (j := 1) rfl
    have bR_z := bR.frozen
    have bR_l := bR.lt
    go_wp2_with fail
    clear bq_0 bq_1 bq_z bq_l bR_0 bR_1 bR_z bR_l
    generalize hwz : World.setCell (World.setCell _ _ _) _ _ = wz_
    obtain rfl : wz_ = setL w3 (w.heap.size + 1) 0 [.slice A5 n5 d5, .slice A6 n6 d6] := hwz.symm
    clear hwz
    replace bq := bq.other (b := w.heap.size + 1) (by omega) 0 [.slice A5 n5 d5, .slice A6 n6 d6]
    replace hs := hs.away (g := w.heap.size + 1) (by omega) 0 [.slice A5 n5 d5, .slice A6 n6 d6]
    replace hw := hw.away (g := w.heap.size + 1) (by omega) 0 [.slice A5 n5 d5, .slice A6 n6 d6]
    replace o3 := o3.box (g := w.heap.size + 1) bR (by decide) 0 [.slice A5 n5 d5, .slice A6 n6 d6]
    replace o5 := o5.box (g := w.heap.size + 1) bR (by decide) 0 [.slice A5 n5 d5, .slice A6 n6 d6]
    replace o6 := o6.box (g := w.heap.size + 1) bR (by decide) 0 [.slice A5 n5 d5, .slice A6 n6 d6]
    replace b0 := setL_below b0 [.slice A5 n5 d5, .slice A6 n6 d6] (w.heap.size + 1) 0 (by omega)
    have zs_5 : (setL w3 (w.heap.size + 1) 0 [.slice A5 n5 d5, .slice A6 n6 d6]).heap.size = w3.heap.size := setL_size _ _ _ _
    replace bR := bR.setAll [.slice A5 n5 d5, .slice A6 n6 d6] rfl
    generalize setL w3 _ 0 _ = w5 at *
    have u0_ := bR.cell (j := 0) rfl
    have u1_ := bR.cell (j := 1) rfl
    refine bodyPost_ret (by simp only [results, Try.results62]; simp [go_sem, u0_, u1_]; rfl) rfl ?_
    exact ⟨_, _, rfl, by rw [HF.out.1]; exact o5.mono (by omega) (by omega), by rw [HF.out.2]; exact o6.mono (by omega) (by omega), b0⟩
set_option maxHeartbeats 8000000 in
theorem implEndQueue_any (vs vw : Value) (ls : List Sl) (lw : List Wt) (i : Int) (w : World) {lo hi lo2 hi2 : Nat} (h : Rd Sl.cells 3 w lo hi vs ls) (h2 : Rd Wt.cells 2 w lo2 hi2 vw lw) (hh : hi ≤ w.heap.size) (hh2 : hi2 ≤ w.heap.size) :
    Calls Try.prog 31 #[.agg #[vs, vw], .int .i64 i] w fun e w' => ∃ v1 v2, e = .returned (.tuple #[.agg #[v1, v2], .bool (Qu.enOk ls lw i)]) ∧ Ow Sl.cells 3 65 w' w.heap.size w'.heap.size v1 (Qu.enS ls lw i) ∧ Ow Wt.cells 2 69 w' w.heap.size w'.heap.size v2 (Qu.enW ls lw i) ∧ Below w.heap.size w w' := by
  have b0 : Below w.heap.size w ((w.alloc (.cells #[vs, vw] 31)).alloc (.cells #[.slice none 0 0, .slice none 0 0] 31)) := ((Below.refl w.heap.size w).alloc (Nat.le_refl _) _).alloc (by simp) _
  have z0 : ((w.alloc (.cells #[vs, vw] 31)).alloc (.cells #[.slice none 0 0, .slice none 0 0] 31)).heap.size = w.heap.size + 2 := by simp
  have bq := Box.new w #[vs, vw] 31 rfl
  have bR := Box.new (g := w.heap.size + 1) (w.alloc (.cells #[vs, vw] 31)) #[.slice none 0 0, .slice none 0 0] 31 (by simp)
  replace bq := bq.below ((Below.refl _ (w.alloc (.cells #[vs, vw] 31))).alloc (Nat.le_refl _) (.cells #[.slice none 0 0, .slice none 0 0] 31)) bq.lt
  have hs := h.below b0 hh
  have hw := h2.below b0 hh2
  have hv_ := h.form
  have hv2_ := h2.form
  clear h h2
  generalize hwA : ((w.alloc (.cells #[vs, vw] 31)).alloc (.cells #[.slice none 0 0, .slice none 0 0] 31)) = wA at *
  obtain ⟨A0, n0, d0, rfl, _, _, _⟩ := hv_
  obtain ⟨A1, n1, d1, rfl, _, _, _⟩ := hv2_
  have c1 := implIsQueue_any _ _ ls lw _ hs hw (by omega) (by omega)
  have c2 := fun W => isIrq_any i W
  cases hg : Qu.good ls lw
  · have HF := Lib.hid (Qu.en_no (ls := ls) (lw := lw) (i := i) (by simp [Qu.enG, hg]))
    rw [hg] at c1
    clear hg
    go_enter Try.func31, Try.ntmps31
    have bq_0 := bq.cell (j := 0) rfl
    have bq_1 := bq.cell (j := 1) rfl
    have bq_z := bq.frozen
    have bq_l := bq.lt
    have bR_0 := bR.cell (j := 0) rfl
    have bR_1 := bR.cell (j := 1) rfl
    have bR_z := bR.frozen
    have bR_l := bR.lt
    go_wp2_with fail
    clear hwA
    clear bq_0 bq_1 bq_z bq_l bR_0 bR_1 bR_z bR_l
    refine (c1).mono ?_; rintro q_ w1 ⟨rfl, b_1⟩
    replace bq := bq.below b_1 bq.lt
    replace bR := bR.below b_1 bR.lt
    replace hs := hs.below b_1 (by omega)
    replace hw := hw.below b_1 (by omega)
    have z_2 := b_1.size
    replace b0 := b0.trans (b_1.mono (by omega))
    clear b_1
    have bq_0 := bq.cell (j := 0) rfl
    have bq_1 := bq.cell (j := 1) rfl
    have bq_z := bq.frozen
    have bq_l := bq.lt
    have bR_0 := bR.cell (j := 0) rfl
    have bR_1 := bR.cell (j := 1) rfl
    have bR_z := bR.frozen
    have bR_l := bR.lt
    go_wp2_with fail
    clear bq_0 bq_1 bq_z bq_l bR_0 bR_1 bR_z bR_l
    generalize hwz : World.setCell (World.setCell _ _ _) _ _ = wz_
    obtain rfl : wz_ = setL w1 (w.heap.size + 1) 0 [.slice none 0 0, .slice none 0 0] := hwz.symm
    clear hwz
    replace bq := bq.other (b := w.heap.size + 1) (by omega) 0 [.slice none 0 0, .slice none 0 0]
    replace hs := hs.away (g := w.heap.size + 1) (by omega) 0 [.slice none 0 0, .slice none 0 0]
    replace hw := hw.away (g := w.heap.size + 1) (by omega) 0 [.slice none 0 0, .slice none 0 0]
    replace b0 := setL_below b0 [.slice none 0 0, .slice none 0 0] (w.heap.size + 1) 0 (by omega)
    have zs_3 : (setL w1 (w.heap.size + 1) 0 [.slice none 0 0, .slice none 0 0]).heap.size = w1.heap.size := setL_size _ _ _ _
    replace bR := bR.setAll [.slice none 0 0, .slice none 0 0] rfl
    generalize setL w1 _ 0 _ = w3 at *
    have u0_ := bR.cell (j := 0) rfl
    have u1_ := bR.cell (j := 1) rfl
    refine bodyPost_ret (by simp only [results, Try.results31]; simp [go_sem, u0_, u1_]; rfl) rfl ?_
    exact ⟨_, _, by rw [HF.out.1], by rw [HF.out.2.1]; exact Ow.nil_, by rw [HF.out.2.2]; exact Ow.nil_, b0⟩
  · cases hi : inB i 0 7
    · have HF := Lib.hid (Qu.en_no (ls := ls) (lw := lw) (i := i) (by simp [Qu.enG, hi]))
      rw [hg] at c1
      rw [hi] at c2
      clear hg hi
      go_enter Try.func31, Try.ntmps31
      have bq_0 := bq.cell (j := 0) rfl
      have bq_1 := bq.cell (j := 1) rfl
      have bq_z := bq.frozen
      have bq_l := bq.lt
      have bR_0 := bR.cell (j := 0) rfl
      have bR_1 := bR.cell (j := 1) rfl
      have bR_z := bR.frozen
      have bR_l := bR.lt
      go_wp2_with fail
      clear hwA
      clear bq_0 bq_1 bq_z bq_l bR_0 bR_1 bR_z bR_l
      refine (c1).mono ?_; rintro q_ w1 ⟨rfl, b_1⟩
      replace bq := bq.below b_1 bq.lt
      replace bR := bR.below b_1 bR.lt
      replace hs := hs.below b_1 (by omega)
      replace hw := hw.below b_1 (by omega)
      have z_2 := b_1.size
      replace b0 := b0.trans (b_1.mono (by omega))
      clear b_1
      have bq_0 := bq.cell (j := 0) rfl
      have bq_1 := bq.cell (j := 1) rfl
      have bq_z := bq.frozen
      have bq_l := bq.lt
      have bR_0 := bR.cell (j := 0) rfl
      have bR_1 := bR.cell (j := 1) rfl
      have bR_z := bR.frozen
      have bR_l := bR.lt
      go_wp2_with fail
      clear bq_0 bq_1 bq_z bq_l bR_0 bR_1 bR_z bR_l
      refine (c2 _).mono ?_; rintro q_ w_ ⟨rfl, rfl⟩
      have bq_0 := bq.cell (j := 0) rfl
      have bq_1 := bq.cell (j := 1) rfl
      have bq_z := bq.frozen
      have bq_l := bq.lt
      have bR_0 := bR.cell (j := 0) rfl
      have bR_1 := bR.cell (j := 1) rfl
      have bR_z := bR.frozen
      have bR_l := bR.lt
      go_wp2_with fail
      clear bq_0 bq_1 bq_z bq_l bR_0 bR_1 bR_z bR_l
      generalize hwz : World.setCell (World.setCell _ _ _) _ _ = wz_
      obtain rfl : wz_ = setL w1 (w.heap.size + 1) 0 [.slice none 0 0, .slice none 0 0] := hwz.symm
      clear hwz
      replace bq := bq.other (b := w.heap.size + 1) (by omega) 0 [.slice none 0 0, .slice none 0 0]
      replace hs := hs.away (g := w.heap.size + 1) (by omega) 0 [.slice none 0 0, .slice none 0 0]
      replace hw := hw.away (g := w.heap.size + 1) (by omega) 0 [.slice none 0 0, .slice none 0 0]
      replace b0 := setL_below b0 [.slice none 0 0, .slice none 0 0] (w.heap.size + 1) 0 (by omega)
      have zs_3 : (setL w1 (w.heap.size + 1) 0 [.slice none 0 0, .slice none 0 0]).heap.size = w1.heap.size := setL_size _ _ _ _
      replace bR := bR.setAll [.slice none 0 0, .slice none 0 0] rfl
      generalize setL w1 _ 0 _ = w3 at *
      have u0_ := bR.cell (j := 0) rfl
      have u1_ := bR.cell (j := 1) rfl
      refine bodyPost_ret (by simp only [results, Try.results31]; simp [go_sem, u0_, u1_]; rfl) rfl ?_
      exact ⟨_, _, by rw [HF.out.1], by rw [HF.out.2.1]; exact Ow.nil_, by rw [HF.out.2.2]; exact Ow.nil_, b0⟩
    · have HF := Lib.hid (Qu.en_yes (ls := ls) (lw := lw) (i := i) (by simp [Qu.enG, hg, hi]))
      have HP := Lib.hid (Qu.good_parts hg).1
      rw [hg] at c1
      rw [hi] at c2
      clear hg hi
      go_enter Try.func31, Try.ntmps31
      have bq_0 := bq.cell (j := 0) rfl
      have bq_1 := bq.cell (j := 1) rfl
      have bq_z := bq.frozen
      have bq_l := bq.lt
      have bR_0 := bR.cell (j := 0) rfl
      have bR_1 := bR.cell (j := 1) rfl
      have bR_z := bR.frozen
      have bR_l := bR.lt
      go_wp2_with fail
      clear hwA
      clear bq_0 bq_1 bq_z bq_l bR_0 bR_1 bR_z bR_l
      refine (c1).mono ?_; rintro q_ w1 ⟨rfl, b_1⟩
      replace bq := bq.below b_1 bq.lt
      replace bR := bR.below b_1 bR.lt
      replace hs := hs.below b_1 (by omega)
      replace hw := hw.below b_1 (by omega)
      have z_2 := b_1.size
      replace b0 := b0.trans (b_1.mono (by omega))
      clear b_1
      have bq_0 := bq.cell (j := 0) rfl
      have bq_1 := bq.cell (j := 1) rfl
      have bq_z := bq.frozen
      have bq_l := bq.lt
      have bR_0 := bR.cell (j := 0) rfl
      have bR_1 := bR.cell (j := 1) rfl
      have bR_z := bR.frozen
      have bR_l := bR.lt
      go_wp2_with fail
      clear bq_0 bq_1 bq_z bq_l bR_0 bR_1 bR_z bR_l
      refine (c2 _).mono ?_; rintro q_ w_ ⟨rfl, rfl⟩
      have bq_0 := bq.cell (j := 0) rfl
      have bq_1 := bq.cell (j := 1) rfl
      have bq_z := bq.frozen
      have bq_l := bq.lt
      have bR_0 := bR.cell (j := 0) rfl
      have bR_1 := bR.cell (j := 1) rfl
      have bR_z := bR.frozen
      have bR_l := bR.lt
      go_wp2_with fail
      clear bq_0 bq_1 bq_z bq_l bR_0 bR_1 bR_z bR_l
      refine (implEndQ_in _ _ ls lw i w1 hs hw (by omega) (by omega) HP.out).mono ?_; rintro q_ w3 ⟨v5, v6, rfl, o5, o6, b_3⟩
      replace bq := bq.below b_3 bq.lt
      replace bR := bR.below b_3 bR.lt
      replace hs := hs.below b_3 (by omega)
      replace hw := hw.below b_3 (by omega)
      have z_4 := b_3.size
      replace b0 := b0.trans (b_3.mono (by omega))
      clear b_3
      obtain ⟨A5, n5, d5, rfl, _, _, _⟩ := o5.rd.form
      obtain ⟨A6, n6, d6, rfl, _, _, _⟩ := o6.rd.form
      generalize Sl.endOk ls i = ok at *
      have bq_0 := bq.cell (j := 0) rfl
      have bq_1 := bq.cell (j := 1) rfl
      have bq_z := bq.frozen
      have bq_l := bq.lt
      have bR_0 := bR.cell (j := 0) rfl
      have bR_1 := bR.cell (j := 1) rfl
      have bR_z := bR.frozen
      have bR_l := bR.lt
      go_wp2_with fail
      clear bq_0 bq_1 bq_z bq_l bR_0 bR_1 bR_z bR_l
      generalize hwz : World.setCell (World.setCell _ _ _) _ _ = wz_
      obtain rfl : wz_ = setL w3 (w.heap.size + 1) 0 [.slice A5 n5 d5, .slice A6 n6 d6] := hwz.symm
      clear hwz
      replace bq := bq.other (b := w.heap.size + 1) (by omega) 0 [.slice A5 n5 d5, .slice A6 n6 d6]
      replace hs := hs.away (g := w.heap.size + 1) (by omega) 0 [.slice A5 n5 d5, .slice A6 n6 d6]
      replace hw := hw.away (g := w.heap.size + 1) (by omega) 0 [.slice A5 n5 d5, .slice A6 n6 d6]
      replace o5 := o5.box (g := w.heap.size + 1) bR (by decide) 0 [.slice A5 n5 d5, .slice A6 n6 d6]
      replace o6 := o6.box (g := w.heap.size + 1) bR (by decide) 0 [.slice A5 n5 d5, .slice A6 n6 d6]
      replace b0 := setL_below b0 [.slice A5 n5 d5, .slice A6 n6 d6] (w.heap.size + 1) 0 (by omega)
      have zs_5 : (setL w3 (w.heap.size + 1) 0 [.slice A5 n5 d5, .slice A6 n6 d6]).heap.size = w3.heap.size := setL_size _ _ _ _
      replace bR := bR.setAll [.slice A5 n5 d5, .slice A6 n6 d6] rfl
      generalize setL w3 _ 0 _ = w5 at *
      have u0_ := bR.cell (j := 0) rfl
      have u1_ := bR.cell (j := 1) rfl
      refine bodyPost_ret (by simp only [results, Try.results31]; simp [go_sem, u0_, u1_]; rfl) rfl ?_
      exact ⟨_, _, by rw [HF.out.1], by rw [HF.out.2.1]; exact o5.mono (by omega) (by omega), by rw [HF.out.2.2]; exact o6.mono (by omega) (by omega), b0⟩

end Go.Proofs.Ytghfdoibabaadaa
