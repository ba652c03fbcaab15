/- The public TakeQueue, in the program and in the reference. Condition: at most 1048576 waiting interrupts. -/
import Derived.Test.YtghfdoibabaadaaQuTake
namespace Go.Proofs.Ytghfdoibabaadaa
open Go.RowKit Go.ChangeShapes Go.WideShapes Go.Deep

def Qu.ttOk (ls : List Sl) (lw : List Wt) (m : Int) : Bool := (Qu.good ls lw && inB m 0 16) && Sl.tkOk ls m
def Qu.ttS (ls : List Sl) (lw : List Wt) (m : Int) : List Sl := if Qu.ttOk ls lw m then Sl.tkS ls else []
def Qu.ttW (ls : List Sl) (lw : List Wt) (m : Int) : List Wt := if Qu.ttOk ls lw m then lw else []
def Qu.ttV (ls : List Sl) (lw : List Wt) (m : Int) : Int := if Qu.ttOk ls lw m then Sl.tkI ls else 0
theorem Qu.tt_no {ls : List Sl} {lw : List Wt} {m : Int} (h : Qu.ttOk ls lw m = false) : Qu.ttOk ls lw m = false ∧ Qu.ttS ls lw m = [] ∧ Qu.ttW ls lw m = [] ∧ Qu.ttV ls lw m = 0 := by simp [Qu.ttS, Qu.ttW, Qu.ttV, h]
theorem Qu.tt_yes {ls : List Sl} {lw : List Wt} {m : Int} (h : Qu.ttOk ls lw m = true) : Qu.ttOk ls lw m = true ∧ Qu.ttS ls lw m = Sl.tkS ls ∧ Qu.ttW ls lw m = lw ∧ Qu.ttV ls lw m = Sl.tkI ls := by simp [Qu.ttS, Qu.ttW, Qu.ttV, h]
theorem Qu.good_slots {ls : List Sl} {lw : List Wt} (h : Qu.good ls lw = true) : Sl.good ls = true := by
  simp only [Qu.good, Bool.and_eq_true] at h
  exact (Qu.parts_get h.1).1
theorem Qu.ttS_len (ls : List Sl) (lw : List Wt) (m : Int) : (Qu.ttS ls lw m).length ≤ 1048576 := by
  unfold Qu.ttS; split
  · rename_i h
    simp only [Qu.ttOk, Bool.and_eq_true] at h
    rw [Sl.tkS_len, Sl.good_len (Qu.good_slots h.1.1)]; decide
  · simp
theorem Qu.ttW_len {ls : List Sl} {lw : List Wt} {m : Int} (hl : lw.length ≤ 1048576) : (Qu.ttW ls lw m).length ≤ 1048576 := by
  unfold Qu.ttW; split
  · exact hl
  · simp

set_option maxHeartbeats 8000000 in
theorem specTakeQueue_any (vs vw : Value) (ls : List Sl) (lw : List Wt) (m : Int) (w : World) {lo hi lo2 hi2 : Nat} (h : Rd Sl.cells 3 w lo hi vs ls) (h2 : Rd Wt.cells 2 w lo2 hi2 vw lw) (hh : hi ≤ w.heap.size) (hh2 : hi2 ≤ w.heap.size) (hl2 : lw.length ≤ 1048576) :
    Calls Try.prog 16 #[.agg #[vs, vw], .int .i64 m] w fun e w' => ∃ v1 v2, e = .returned (.tuple #[.agg #[v1, v2], .int .i64 (Qu.ttV ls lw m), .bool (Qu.ttOk ls lw m)]) ∧ Ow Sl.cells 3 65 w' w.heap.size w'.heap.size v1 (Qu.ttS ls lw m) ∧ Ow Wt.cells 2 69 w' w.heap.size w'.heap.size v2 (Qu.ttW ls lw m) ∧ Below w.heap.size w w' := by
  have b0 : Below w.heap.size w ((w.alloc (.cells #[vs, vw] 31)).alloc (.cells #[.slice none 0 0, .slice none 0 0] 31)) := ((Below.refl w.heap.size w).alloc (Nat.le_refl _) _).alloc (by simp) _
  have z0 : ((w.alloc (.cells #[vs, vw] 31)).alloc (.cells #[.slice none 0 0, .slice none 0 0] 31)).heap.size = w.heap.size + 2 := by simp
  have q0 : ((w.alloc (.cells #[vs, vw] 31)).alloc (.cells #[.slice none 0 0, .slice none 0 0] 31)).cell? ⟨w.heap.size, 0, none⟩ = some vs := by simp
  have q1 : ((w.alloc (.cells #[vs, vw] 31)).alloc (.cells #[.slice none 0 0, .slice none 0 0] 31)).cell? ⟨w.heap.size, 1, none⟩ = some vw := by simp
  have r0 : ((w.alloc (.cells #[vs, vw] 31)).alloc (.cells #[.slice none 0 0, .slice none 0 0] 31)).cell? ⟨w.heap.size + 1, 0, none⟩ = some (.slice none 0 0) := by simp
  have r1 : ((w.alloc (.cells #[vs, vw] 31)).alloc (.cells #[.slice none 0 0, .slice none 0 0] 31)).cell? ⟨w.heap.size + 1, 1, none⟩ = some (.slice none 0 0) := by simp
  have rz : ∀ j, ((w.alloc (.cells #[vs, vw] 31)).alloc (.cells #[.slice none 0 0, .slice none 0 0] 31)).frozen? ⟨w.heap.size + 1, j, none⟩ = false := fun j => froz_new _ _ _ (by simp) j
  have hs := h.below b0 hh
  have hw := h2.below b0 hh2
  have hv := h.form
  have hv2 := h2.form
  clear h h2
  generalize hwA : (w.alloc (.cells #[vs, vw] 31)).alloc (.cells #[.slice none 0 0, .slice none 0 0] 31) = wA at *
  obtain ⟨A0, n0, d0, rfl, H0, hd0, hm0⟩ := hv
  obtain ⟨A, n, c, rfl, H, hc, hm⟩ := hv2
  have c1 := l9Good_any _ _ ls lw _ hs hw (by omega) (by omega)
  have ec := fun W => l1In_any m 0 16 W
  cases hg : Qu.good ls lw
  · have HF := Lib.hid (Qu.tt_no (ls := ls) (lw := lw) (m := m) (by simp [Qu.ttOk, hg]))
    rw [hg] at c1
    clear hg
    go_enter Try.func16, Try.ntmps16
    go_wp2_with fail
    clear hwA
    refine (c1).mono ?_; rintro q_ w1 ⟨rfl, b1⟩
    obtain ⟨hc_, hf_⟩ := bcell b1
    replace q0 := (hc_ _ 0 (by omega)).trans q0
    replace q1 := (hc_ _ 1 (by omega)).trans q1
    replace r0 := (hc_ _ 0 (by omega)).trans r0
    replace r1 := (hc_ _ 1 (by omega)).trans r1
    replace rz := fun j => (hf_ _ j (by omega)).trans (rz j)
    replace hs := hs.below b1 (by omega)
    replace hw := hw.below b1 (by omega)
    have zz1 := b1.size
    replace b0 := b0.trans (b1.mono (by omega))
    clear hc_ hf_ b1
    go_wp2_with fail
    generalize hwz : World.setCell (World.setCell _ _ _) _ _ = wz
    have u0 : wz.cell? ⟨w.heap.size + 1, 0, none⟩ = some (.slice none 0 0) := by rw [← hwz]; simp [go_sem, r0]
    have u1 : wz.cell? ⟨w.heap.size + 1, 1, none⟩ = some (.slice none 0 0) := by rw [← hwz]; simp [go_sem, r1]
    obtain rfl : wz = setL w1 (w.heap.size + 1) 0 [.slice none 0 0, .slice none 0 0] := hwz.symm
    have hbz := setL_below b0 [.slice none 0 0, .slice none 0 0] (w.heap.size + 1) 0 (by omega)
    have kk : ∀ q, q ≠ w.heap.size + 1 → (setL w1 (w.heap.size + 1) 0 [.slice none 0 0, .slice none 0 0]).heap[q]? = w1.heap[q]? := fun q hq => setL_other _ _ _ _ q hq
    have sz : (setL w1 (w.heap.size + 1) 0 [.slice none 0 0, .slice none 0 0]).heap.size = w1.heap.size := setL_size _ _ _ _
    clear hwz kk
    generalize setL w1 (w.heap.size + 1) 0 [.slice none 0 0, .slice none 0 0] = wz at *
    refine bodyPost_ret (by simp only [results, Try.results16]; simp [go_sem, u0, u1]; rfl) rfl ?_
    exact ⟨_, _, by rw [HF.out.1, HF.out.2.2.2], by rw [HF.out.2.1]; exact Ow.nil_, by rw [HF.out.2.2.1]; exact Ow.nil_, hbz⟩
  · have hgs := Qu.good_slots hg
    cases h0 : inB m 0 16
    · have HF := Lib.hid (Qu.tt_no (ls := ls) (lw := lw) (m := m) (by simp [Qu.ttOk, h0]))
      rw [hg] at c1
      rw [h0] at ec
      clear hg h0 hgs
      go_enter Try.func16, Try.ntmps16
      go_wp2_with fail
      clear hwA
      refine (c1).mono ?_; rintro q_ w1 ⟨rfl, b1⟩
      obtain ⟨hc_, hf_⟩ := bcell b1
      replace q0 := (hc_ _ 0 (by omega)).trans q0
      replace q1 := (hc_ _ 1 (by omega)).trans q1
      replace r0 := (hc_ _ 0 (by omega)).trans r0
      replace r1 := (hc_ _ 1 (by omega)).trans r1
      replace rz := fun j => (hf_ _ j (by omega)).trans (rz j)
      replace hs := hs.below b1 (by omega)
      replace hw := hw.below b1 (by omega)
      have zz1 := b1.size
      replace b0 := b0.trans (b1.mono (by omega))
      clear hc_ hf_ b1
      go_wp2_with fail
      refine (ec _).mono ?_; rintro q_ w_ ⟨rfl, rfl⟩
      go_wp2_with fail
      generalize hwz : World.setCell (World.setCell _ _ _) _ _ = wz
      have u0 : wz.cell? ⟨w.heap.size + 1, 0, none⟩ = some (.slice none 0 0) := by rw [← hwz]; simp [go_sem, r0]
      have u1 : wz.cell? ⟨w.heap.size + 1, 1, none⟩ = some (.slice none 0 0) := by rw [← hwz]; simp [go_sem, r1]
      obtain rfl : wz = setL w1 (w.heap.size + 1) 0 [.slice none 0 0, .slice none 0 0] := hwz.symm
      have hbz := setL_below b0 [.slice none 0 0, .slice none 0 0] (w.heap.size + 1) 0 (by omega)
      have kk : ∀ q, q ≠ w.heap.size + 1 → (setL w1 (w.heap.size + 1) 0 [.slice none 0 0, .slice none 0 0]).heap[q]? = w1.heap[q]? := fun q hq => setL_other _ _ _ _ q hq
      have sz : (setL w1 (w.heap.size + 1) 0 [.slice none 0 0, .slice none 0 0]).heap.size = w1.heap.size := setL_size _ _ _ _
      clear hwz kk
      generalize setL w1 (w.heap.size + 1) 0 [.slice none 0 0, .slice none 0 0] = wz at *
      refine bodyPost_ret (by simp only [results, Try.results16]; simp [go_sem, u0, u1]; rfl) rfl ?_
      exact ⟨_, _, by rw [HF.out.1, HF.out.2.2.2], by rw [HF.out.2.1]; exact Ow.nil_, by rw [HF.out.2.2.1]; exact Ow.nil_, hbz⟩
    · cases hk : Sl.tkOk ls m
      · have HF := Lib.hid (Qu.tt_no (ls := ls) (lw := lw) (m := m) (by simp [Qu.ttOk, hk]))
        rw [hg] at c1
        rw [h0] at ec
        clear hg h0
        have ht : Sl.tkW ls m = -1 := by simp [Sl.tkW, hk]
        have c3 := fun (vs vw : Value) (w : World) (lo hi lo2 hi2 : Nat) (h : Rd Sl.cells 3 w lo hi vs ls) (h2 : Rd Wt.cells 2 w lo2 hi2 vw lw) (hh : hi ≤ w.heap.size) (hh2 : hi2 ≤ w.heap.size) => specTakeQ_in vs vw ls lw m w h h2 hh hh2 hgs hl2
        rw [ht] at c3
        clear ht hk hgs
        go_enter Try.func16, Try.ntmps16
        go_wp2_with fail
        clear hwA
        refine (c1).mono ?_; rintro q_ w1 ⟨rfl, b1⟩
        obtain ⟨hc_, hf_⟩ := bcell b1
        replace q0 := (hc_ _ 0 (by omega)).trans q0
        replace q1 := (hc_ _ 1 (by omega)).trans q1
        replace r0 := (hc_ _ 0 (by omega)).trans r0
        replace r1 := (hc_ _ 1 (by omega)).trans r1
        replace rz := fun j => (hf_ _ j (by omega)).trans (rz j)
        replace hs := hs.below b1 (by omega)
        replace hw := hw.below b1 (by omega)
        have zz1 := b1.size
        replace b0 := b0.trans (b1.mono (by omega))
        clear hc_ hf_ b1
        go_wp2_with fail
        refine (ec _).mono ?_; rintro q_ w_ ⟨rfl, rfl⟩
        go_wp2_with fail
        refine (c3 _ _ _ _ _ _ _ hs hw (by omega) (by omega)).mono ?_; rintro q_ w3 ⟨v5, v6, rfl, o5, o6, b3⟩
        obtain ⟨hc_, hf_⟩ := bcell b3
        replace q0 := (hc_ _ 0 (by omega)).trans q0
        replace q1 := (hc_ _ 1 (by omega)).trans q1
        replace r0 := (hc_ _ 0 (by omega)).trans r0
        replace r1 := (hc_ _ 1 (by omega)).trans r1
        replace rz := fun j => (hf_ _ j (by omega)).trans (rz j)
        replace hs := hs.below b3 (by omega)
        replace hw := hw.below b3 (by omega)
        have zz3 := b3.size
        replace b0 := b0.trans (b3.mono (by omega))
        clear hc_ hf_ b3
        obtain ⟨A5, n5, d5, rfl, _, _, _⟩ := o5.rd.form
        obtain ⟨A6, n6, d6, rfl, _, _, _⟩ := o6.rd.form
        have zlt : w.heap.size + 1 < w3.heap.size := by omega
        go_wp2_with fail
        generalize hwz : World.setCell (World.setCell _ _ _) _ _ = wz
        have u0 : wz.cell? ⟨w.heap.size + 1, 0, none⟩ = some (.slice none 0 0) := by rw [← hwz]; simp [go_sem, r0]
        have u1 : wz.cell? ⟨w.heap.size + 1, 1, none⟩ = some (.slice none 0 0) := by rw [← hwz]; simp [go_sem, r1]
        obtain rfl : wz = setL w3 (w.heap.size + 1) 0 [.slice none 0 0, .slice none 0 0] := hwz.symm
        have hbz := setL_below b0 [.slice none 0 0, .slice none 0 0] (w.heap.size + 1) 0 (by omega)
        have kk : ∀ q, q ≠ w.heap.size + 1 → (setL w3 (w.heap.size + 1) 0 [.slice none 0 0, .slice none 0 0]).heap[q]? = w3.heap[q]? := fun q hq => setL_other _ _ _ _ q hq
        have sz : (setL w3 (w.heap.size + 1) 0 [.slice none 0 0, .slice none 0 0]).heap.size = w3.heap.size := setL_size _ _ _ _
        clear hwz kk
        generalize setL w3 (w.heap.size + 1) 0 [.slice none 0 0, .slice none 0 0] = wz at *
        have bx := (Below.refl wz.heap.size wz).alloc (Nat.le_refl _) (.cells #[.slice A5 n5 d5, .slice A6 n6 d6] 31)
        replace u0 := (bx.cell (p := ⟨w.heap.size + 1, 0, none⟩) (by show w.heap.size + 1 < _; omega)).trans u0
        replace u1 := (bx.cell (p := ⟨w.heap.size + 1, 1, none⟩) (by show w.heap.size + 1 < _; omega)).trans u1
        have sx := bx.size
        replace hbz := hbz.trans (bx.mono (by omega))
        clear bx
        generalize World.alloc wz _ = wy at *
        refine bodyPost_ret (by simp only [results, Try.results16]; simp [go_sem, u0, u1]; rfl) rfl ?_
        exact ⟨_, _, by rw [HF.out.1, HF.out.2.2.2], by rw [HF.out.2.1]; exact Ow.nil_, by rw [HF.out.2.2.1]; exact Ow.nil_, hbz⟩
      · have HF := Lib.hid (Qu.tt_yes (ls := ls) (lw := lw) (m := m) (by simp [Qu.ttOk, hg, h0, hk]))
        rw [hg] at c1
        rw [h0] at ec
        clear hg h0
        have ht : Sl.tkW ls m = Sl.tkI ls ∧ Sl.tkL ls m = Sl.tkS ls := by simp [Sl.tkW, Sl.tkL, hk]
        have hd : decide (Sl.tkI ls < 0) = false := decide_eq_false (by have := Sl.tk_irq hgs hk; omega)
        have c3 := fun (vs vw : Value) (w : World) (lo hi lo2 hi2 : Nat) (h : Rd Sl.cells 3 w lo hi vs ls) (h2 : Rd Wt.cells 2 w lo2 hi2 vw lw) (hh : hi ≤ w.heap.size) (hh2 : hi2 ≤ w.heap.size) => specTakeQ_in vs vw ls lw m w h h2 hh hh2 hgs hl2
        rw [ht.1, ht.2] at c3
        clear ht hk hgs
        go_enter Try.func16, Try.ntmps16
        go_wp2_with fail
        clear hwA
        refine (c1).mono ?_; rintro q_ w1 ⟨rfl, b1⟩
        obtain ⟨hc_, hf_⟩ := bcell b1
        replace q0 := (hc_ _ 0 (by omega)).trans q0
        replace q1 := (hc_ _ 1 (by omega)).trans q1
        replace r0 := (hc_ _ 0 (by omega)).trans r0
        replace r1 := (hc_ _ 1 (by omega)).trans r1
        replace rz := fun j => (hf_ _ j (by omega)).trans (rz j)
        replace hs := hs.below b1 (by omega)
        replace hw := hw.below b1 (by omega)
        have zz1 := b1.size
        replace b0 := b0.trans (b1.mono (by omega))
        clear hc_ hf_ b1
        go_wp2_with fail
        refine (ec _).mono ?_; rintro q_ w_ ⟨rfl, rfl⟩
        go_wp2_with fail
        refine (c3 _ _ _ _ _ _ _ hs hw (by omega) (by omega)).mono ?_; rintro q_ w3 ⟨v5, v6, rfl, o5, o6, b3⟩
        obtain ⟨hc_, hf_⟩ := bcell b3
        replace q0 := (hc_ _ 0 (by omega)).trans q0
        replace q1 := (hc_ _ 1 (by omega)).trans q1
        replace r0 := (hc_ _ 0 (by omega)).trans r0
        replace r1 := (hc_ _ 1 (by omega)).trans r1
        replace rz := fun j => (hf_ _ j (by omega)).trans (rz j)
        replace hs := hs.below b3 (by omega)
        replace hw := hw.below b3 (by omega)
        have zz3 := b3.size
        replace b0 := b0.trans (b3.mono (by omega))
        clear hc_ hf_ b3
        obtain ⟨A5, n5, d5, rfl, _, _, _⟩ := o5.rd.form
        obtain ⟨A6, n6, d6, rfl, _, _, _⟩ := o6.rd.form
        have zlt : w.heap.size + 1 < w3.heap.size := by omega
        go_wp2_with fail
        generalize hwz : World.setCell (World.setCell _ _ _) _ _ = wz
        have u0 : wz.cell? ⟨w.heap.size + 1, 0, none⟩ = some (.slice A5 n5 d5) := by rw [← hwz]; simp [go_sem, r0]
        have u1 : wz.cell? ⟨w.heap.size + 1, 1, none⟩ = some (.slice A6 n6 d6) := by rw [← hwz]; simp [go_sem, r1]
        obtain rfl : wz = setL w3 (w.heap.size + 1) 0 [.slice A5 n5 d5, .slice A6 n6 d6] := hwz.symm
        have hbz := setL_below b0 [.slice A5 n5 d5, .slice A6 n6 d6] (w.heap.size + 1) 0 (by omega)
        have kk : ∀ q, q ≠ w.heap.size + 1 → (setL w3 (w.heap.size + 1) 0 [.slice A5 n5 d5, .slice A6 n6 d6]).heap[q]? = w3.heap[q]? := fun q hq => setL_other _ _ _ _ q hq
        have sz : (setL w3 (w.heap.size + 1) 0 [.slice A5 n5 d5, .slice A6 n6 d6]).heap.size = w3.heap.size := setL_size _ _ _ _
        replace o5 := o5.keep (w' := setL w3 (w.heap.size + 1) 0 [.slice A5 n5 d5, .slice A6 n6 d6]) (fun q hq _ _ => kk q (by omega))
        replace o6 := o6.keep (w' := setL w3 (w.heap.size + 1) 0 [.slice A5 n5 d5, .slice A6 n6 d6]) (fun q hq _ _ => kk q (by omega))
        clear hwz kk
        generalize setL w3 (w.heap.size + 1) 0 [.slice A5 n5 d5, .slice A6 n6 d6] = wz at *
        have bx := (Below.refl wz.heap.size wz).alloc (Nat.le_refl _) (.cells #[.slice A5 n5 d5, .slice A6 n6 d6] 31)
        replace u0 := (bx.cell (p := ⟨w.heap.size + 1, 0, none⟩) (by show w.heap.size + 1 < _; omega)).trans u0
        replace u1 := (bx.cell (p := ⟨w.heap.size + 1, 1, none⟩) (by show w.heap.size + 1 < _; omega)).trans u1
        have sx := bx.size
        replace o5 := o5.below bx (by omega)
        replace o6 := o6.below bx (by omega)
        replace hbz := hbz.trans (bx.mono (by omega))
        clear bx
        generalize World.alloc wz _ = wy at *
        refine bodyPost_ret (by simp only [results, Try.results16]; simp [go_sem, u0, u1]; rfl) rfl ?_
        exact ⟨_, _, by rw [HF.out.1, HF.out.2.2.2], by rw [HF.out.2.1]; exact o5.mono (by omega) (by omega), by rw [HF.out.2.2.1]; exact o6.mono (by omega) (by omega), hbz⟩
set_option maxHeartbeats 8000000 in
theorem implTakeQueue_any (vs vw : Value) (ls : List Sl) (lw : List Wt) (m : Int) (w : World) {lo hi lo2 hi2 : Nat} (h : Rd Sl.cells 3 w lo hi vs ls) (h2 : Rd Wt.cells 2 w lo2 hi2 vw lw) (hh : hi ≤ w.heap.size) (hh2 : hi2 ≤ w.heap.size) (hl2 : lw.length ≤ 1048576) :
    Calls Try.prog 17 #[.agg #[vs, vw], .int .i64 m] w fun e w' => ∃ v1 v2, e = .returned (.tuple #[.agg #[v1, v2], .int .i64 (Qu.ttV ls lw m), .bool (Qu.ttOk ls lw m)]) ∧ Ow Sl.cells 3 65 w' w.heap.size w'.heap.size v1 (Qu.ttS ls lw m) ∧ Ow Wt.cells 2 69 w' w.heap.size w'.heap.size v2 (Qu.ttW ls lw m) ∧ Below w.heap.size w w' := by
  have b0 : Below w.heap.size w ((w.alloc (.cells #[vs, vw] 31)).alloc (.cells #[.slice none 0 0, .slice none 0 0] 31)) := ((Below.refl w.heap.size w).alloc (Nat.le_refl _) _).alloc (by simp) _
  have z0 : ((w.alloc (.cells #[vs, vw] 31)).alloc (.cells #[.slice none 0 0, .slice none 0 0] 31)).heap.size = w.heap.size + 2 := by simp
  have q0 : ((w.alloc (.cells #[vs, vw] 31)).alloc (.cells #[.slice none 0 0, .slice none 0 0] 31)).cell? ⟨w.heap.size, 0, none⟩ = some vs := by simp
  have q1 : ((w.alloc (.cells #[vs, vw] 31)).alloc (.cells #[.slice none 0 0, .slice none 0 0] 31)).cell? ⟨w.heap.size, 1, none⟩ = some vw := by simp
  have r0 : ((w.alloc (.cells #[vs, vw] 31)).alloc (.cells #[.slice none 0 0, .slice none 0 0] 31)).cell? ⟨w.heap.size + 1, 0, none⟩ = some (.slice none 0 0) := by simp
  have r1 : ((w.alloc (.cells #[vs, vw] 31)).alloc (.cells #[.slice none 0 0, .slice none 0 0] 31)).cell? ⟨w.heap.size + 1, 1, none⟩ = some (.slice none 0 0) := by simp
  have rz : ∀ j, ((w.alloc (.cells #[vs, vw] 31)).alloc (.cells #[.slice none 0 0, .slice none 0 0] 31)).frozen? ⟨w.heap.size + 1, j, none⟩ = false := fun j => froz_new _ _ _ (by simp) j
  have hs := h.below b0 hh
  have hw := h2.below b0 hh2
  have hv := h.form
  have hv2 := h2.form
  clear h h2
  generalize hwA : (w.alloc (.cells #[vs, vw] 31)).alloc (.cells #[.slice none 0 0, .slice none 0 0] 31) = wA at *
  obtain ⟨A0, n0, d0, rfl, H0, hd0, hm0⟩ := hv
  obtain ⟨A, n, c, rfl, H, hc, hm⟩ := hv2
  have c1 := implIsQueue_any _ _ ls lw _ hs hw (by omega) (by omega)
  have ec := fun W => isMask_any m W
  cases hg : Qu.good ls lw
  · have HF := Lib.hid (Qu.tt_no (ls := ls) (lw := lw) (m := m) (by simp [Qu.ttOk, hg]))
    rw [hg] at c1
    clear hg
    go_enter Try.func17, Try.ntmps17
    go_wp2_with fail
    clear hwA
    refine (c1).mono ?_; rintro q_ w1 ⟨rfl, b1⟩
    obtain ⟨hc_, hf_⟩ := bcell b1
    replace q0 := (hc_ _ 0 (by omega)).trans q0
    replace q1 := (hc_ _ 1 (by omega)).trans q1
    replace r0 := (hc_ _ 0 (by omega)).trans r0
    replace r1 := (hc_ _ 1 (by omega)).trans r1
    replace rz := fun j => (hf_ _ j (by omega)).trans (rz j)
    replace hs := hs.below b1 (by omega)
    replace hw := hw.below b1 (by omega)
    have zz1 := b1.size
    replace b0 := b0.trans (b1.mono (by omega))
    clear hc_ hf_ b1
    go_wp2_with fail
    generalize hwz : World.setCell (World.setCell _ _ _) _ _ = wz
    have u0 : wz.cell? ⟨w.heap.size + 1, 0, none⟩ = some (.slice none 0 0) := by rw [← hwz]; simp [go_sem, r0]
    have u1 : wz.cell? ⟨w.heap.size + 1, 1, none⟩ = some (.slice none 0 0) := by rw [← hwz]; simp [go_sem, r1]
    obtain rfl : wz = setL w1 (w.heap.size + 1) 0 [.slice none 0 0, .slice none 0 0] := hwz.symm
    have hbz := setL_below b0 [.slice none 0 0, .slice none 0 0] (w.heap.size + 1) 0 (by omega)
    have kk : ∀ q, q ≠ w.heap.size + 1 → (setL w1 (w.heap.size + 1) 0 [.slice none 0 0, .slice none 0 0]).heap[q]? = w1.heap[q]? := fun q hq => setL_other _ _ _ _ q hq
    have sz : (setL w1 (w.heap.size + 1) 0 [.slice none 0 0, .slice none 0 0]).heap.size = w1.heap.size := setL_size _ _ _ _
    clear hwz kk
    generalize setL w1 (w.heap.size + 1) 0 [.slice none 0 0, .slice none 0 0] = wz at *
    refine bodyPost_ret (by simp only [results, Try.results17]; simp [go_sem, u0, u1]; rfl) rfl ?_
    exact ⟨_, _, by rw [HF.out.1, HF.out.2.2.2], by rw [HF.out.2.1]; exact Ow.nil_, by rw [HF.out.2.2.1]; exact Ow.nil_, hbz⟩
  · have hgs := Qu.good_slots hg
    cases h0 : inB m 0 16
    · have HF := Lib.hid (Qu.tt_no (ls := ls) (lw := lw) (m := m) (by simp [Qu.ttOk, h0]))
      rw [hg] at c1
      rw [h0] at ec
      clear hg h0 hgs
      go_enter Try.func17, Try.ntmps17
      go_wp2_with fail
      clear hwA
      refine (c1).mono ?_; rintro q_ w1 ⟨rfl, b1⟩
      obtain ⟨hc_, hf_⟩ := bcell b1
      replace q0 := (hc_ _ 0 (by omega)).trans q0
      replace q1 := (hc_ _ 1 (by omega)).trans q1
      replace r0 := (hc_ _ 0 (by omega)).trans r0
      replace r1 := (hc_ _ 1 (by omega)).trans r1
      replace rz := fun j => (hf_ _ j (by omega)).trans (rz j)
      replace hs := hs.below b1 (by omega)
      replace hw := hw.below b1 (by omega)
      have zz1 := b1.size
      replace b0 := b0.trans (b1.mono (by omega))
      clear hc_ hf_ b1
      go_wp2_with fail
      refine (ec _).mono ?_; rintro q_ w_ ⟨rfl, rfl⟩
      go_wp2_with fail
      generalize hwz : World.setCell (World.setCell _ _ _) _ _ = wz
      have u0 : wz.cell? ⟨w.heap.size + 1, 0, none⟩ = some (.slice none 0 0) := by rw [← hwz]; simp [go_sem, r0]
      have u1 : wz.cell? ⟨w.heap.size + 1, 1, none⟩ = some (.slice none 0 0) := by rw [← hwz]; simp [go_sem, r1]
      obtain rfl : wz = setL w1 (w.heap.size + 1) 0 [.slice none 0 0, .slice none 0 0] := hwz.symm
      have hbz := setL_below b0 [.slice none 0 0, .slice none 0 0] (w.heap.size + 1) 0 (by omega)
      have kk : ∀ q, q ≠ w.heap.size + 1 → (setL w1 (w.heap.size + 1) 0 [.slice none 0 0, .slice none 0 0]).heap[q]? = w1.heap[q]? := fun q hq => setL_other _ _ _ _ q hq
      have sz : (setL w1 (w.heap.size + 1) 0 [.slice none 0 0, .slice none 0 0]).heap.size = w1.heap.size := setL_size _ _ _ _
      clear hwz kk
      generalize setL w1 (w.heap.size + 1) 0 [.slice none 0 0, .slice none 0 0] = wz at *
      refine bodyPost_ret (by simp only [results, Try.results17]; simp [go_sem, u0, u1]; rfl) rfl ?_
      exact ⟨_, _, by rw [HF.out.1, HF.out.2.2.2], by rw [HF.out.2.1]; exact Ow.nil_, by rw [HF.out.2.2.1]; exact Ow.nil_, hbz⟩
    · cases hk : Sl.tkOk ls m
      · have HF := Lib.hid (Qu.tt_no (ls := ls) (lw := lw) (m := m) (by simp [Qu.ttOk, hk]))
        rw [hg] at c1
        rw [h0] at ec
        clear hg h0
        have ht := Sl.tk_no hk
        have c3 := fun (vs vw : Value) (w : World) (lo hi lo2 hi2 : Nat) (h : Rd Sl.cells 3 w lo hi vs ls) (h2 : Rd Wt.cells 2 w lo2 hi2 vw lw) (hh : hi ≤ w.heap.size) (hh2 : hi2 ≤ w.heap.size) => implTakeQ_in vs vw ls lw m w h h2 hh hh2 hgs hl2
        rw [ht.1, ht.2.1, ht.2.2.1, show Qu.tkK ls m lw = [] from by simp [Qu.tkK, hk]] at c3
        clear ht hk hgs
        go_enter Try.func17, Try.ntmps17
        go_wp2_with fail
        clear hwA
        refine (c1).mono ?_; rintro q_ w1 ⟨rfl, b1⟩
        obtain ⟨hc_, hf_⟩ := bcell b1
        replace q0 := (hc_ _ 0 (by omega)).trans q0
        replace q1 := (hc_ _ 1 (by omega)).trans q1
        replace r0 := (hc_ _ 0 (by omega)).trans r0
        replace r1 := (hc_ _ 1 (by omega)).trans r1
        replace rz := fun j => (hf_ _ j (by omega)).trans (rz j)
        replace hs := hs.below b1 (by omega)
        replace hw := hw.below b1 (by omega)
        have zz1 := b1.size
        replace b0 := b0.trans (b1.mono (by omega))
        clear hc_ hf_ b1
        go_wp2_with fail
        refine (ec _).mono ?_; rintro q_ w_ ⟨rfl, rfl⟩
        go_wp2_with fail
        refine (c3 _ _ _ _ _ _ _ hs hw (by omega) (by omega)).mono ?_; rintro q_ w3 ⟨v5, v6, rfl, o5, o6, b3⟩
        obtain ⟨hc_, hf_⟩ := bcell b3
        replace q0 := (hc_ _ 0 (by omega)).trans q0
        replace q1 := (hc_ _ 1 (by omega)).trans q1
        replace r0 := (hc_ _ 0 (by omega)).trans r0
        replace r1 := (hc_ _ 1 (by omega)).trans r1
        replace rz := fun j => (hf_ _ j (by omega)).trans (rz j)
        replace hs := hs.below b3 (by omega)
        replace hw := hw.below b3 (by omega)
        have zz3 := b3.size
        replace b0 := b0.trans (b3.mono (by omega))
        clear hc_ hf_ b3
        obtain ⟨A5, n5, d5, rfl, _, _, _⟩ := o5.rd.form
        obtain ⟨A6, n6, d6, rfl, _, _, _⟩ := o6.rd.form
        have zlt : w.heap.size + 1 < w3.heap.size := by omega
        go_wp2_with fail
        generalize hwz : World.setCell (World.setCell _ _ _) _ _ = wz
        have u0 : wz.cell? ⟨w.heap.size + 1, 0, none⟩ = some (.slice A5 n5 d5) := by rw [← hwz]; simp [go_sem, r0]
        have u1 : wz.cell? ⟨w.heap.size + 1, 1, none⟩ = some (.slice A6 n6 d6) := by rw [← hwz]; simp [go_sem, r1]
        obtain rfl : wz = setL w3 (w.heap.size + 1) 0 [.slice A5 n5 d5, .slice A6 n6 d6] := hwz.symm
        have hbz := setL_below b0 [.slice A5 n5 d5, .slice A6 n6 d6] (w.heap.size + 1) 0 (by omega)
        have kk : ∀ q, q ≠ w.heap.size + 1 → (setL w3 (w.heap.size + 1) 0 [.slice A5 n5 d5, .slice A6 n6 d6]).heap[q]? = w3.heap[q]? := fun q hq => setL_other _ _ _ _ q hq
        have sz : (setL w3 (w.heap.size + 1) 0 [.slice A5 n5 d5, .slice A6 n6 d6]).heap.size = w3.heap.size := setL_size _ _ _ _
        replace o5 := o5.keep (w' := setL w3 (w.heap.size + 1) 0 [.slice A5 n5 d5, .slice A6 n6 d6]) (fun q hq _ _ => kk q (by omega))
        replace o6 := o6.keep (w' := setL w3 (w.heap.size + 1) 0 [.slice A5 n5 d5, .slice A6 n6 d6]) (fun q hq _ _ => kk q (by omega))
        clear hwz kk
        generalize setL w3 (w.heap.size + 1) 0 [.slice A5 n5 d5, .slice A6 n6 d6] = wz at *
        refine bodyPost_ret (by simp only [results, Try.results17]; simp [go_sem, u0, u1]; rfl) rfl ?_
        exact ⟨_, _, by rw [HF.out.1, HF.out.2.2.2], by rw [HF.out.2.1]; exact o5.mono (by omega) (by omega), by rw [HF.out.2.2.1]; exact o6.mono (by omega) (by omega), hbz⟩
      · have HF := Lib.hid (Qu.tt_yes (ls := ls) (lw := lw) (m := m) (by simp [Qu.ttOk, hg, h0, hk]))
        rw [hg] at c1
        rw [h0] at ec
        clear hg h0
        have ht : Sl.tkOk ls m = true ∧ Sl.tkR ls m = Sl.tkS ls ∧ Sl.tkV ls m = Sl.tkI ls ∧ Qu.tkK ls m lw = lw := by simp [Sl.tkR, Sl.tkV, Qu.tkK, hk]
        have c3 := fun (vs vw : Value) (w : World) (lo hi lo2 hi2 : Nat) (h : Rd Sl.cells 3 w lo hi vs ls) (h2 : Rd Wt.cells 2 w lo2 hi2 vw lw) (hh : hi ≤ w.heap.size) (hh2 : hi2 ≤ w.heap.size) => implTakeQ_in vs vw ls lw m w h h2 hh hh2 hgs hl2
        rw [ht.1, ht.2.1, ht.2.2.1, ht.2.2.2] at c3
        clear ht hk hgs
        go_enter Try.func17, Try.ntmps17
        go_wp2_with fail
        clear hwA
        refine (c1).mono ?_; rintro q_ w1 ⟨rfl, b1⟩
        obtain ⟨hc_, hf_⟩ := bcell b1
        replace q0 := (hc_ _ 0 (by omega)).trans q0
        replace q1 := (hc_ _ 1 (by omega)).trans q1
        replace r0 := (hc_ _ 0 (by omega)).trans r0
        replace r1 := (hc_ _ 1 (by omega)).trans r1
        replace rz := fun j => (hf_ _ j (by omega)).trans (rz j)
        replace hs := hs.below b1 (by omega)
        replace hw := hw.below b1 (by omega)
        have zz1 := b1.size
        replace b0 := b0.trans (b1.mono (by omega))
        clear hc_ hf_ b1
        go_wp2_with fail
        refine (ec _).mono ?_; rintro q_ w_ ⟨rfl, rfl⟩
        go_wp2_with fail
        refine (c3 _ _ _ _ _ _ _ hs hw (by omega) (by omega)).mono ?_; rintro q_ w3 ⟨v5, v6, rfl, o5, o6, b3⟩
        obtain ⟨hc_, hf_⟩ := bcell b3
        replace q0 := (hc_ _ 0 (by omega)).trans q0
        replace q1 := (hc_ _ 1 (by omega)).trans q1
        replace r0 := (hc_ _ 0 (by omega)).trans r0
        replace r1 := (hc_ _ 1 (by omega)).trans r1
        replace rz := fun j => (hf_ _ j (by omega)).trans (rz j)
        replace hs := hs.below b3 (by omega)
        replace hw := hw.below b3 (by omega)
        have zz3 := b3.size
        replace b0 := b0.trans (b3.mono (by omega))
        clear hc_ hf_ b3
        obtain ⟨A5, n5, d5, rfl, _, _, _⟩ := o5.rd.form
        obtain ⟨A6, n6, d6, rfl, _, _, _⟩ := o6.rd.form
        have zlt : w.heap.size + 1 < w3.heap.size := by omega
        go_wp2_with fail
        generalize hwz : World.setCell (World.setCell _ _ _) _ _ = wz
        have u0 : wz.cell? ⟨w.heap.size + 1, 0, none⟩ = some (.slice A5 n5 d5) := by rw [← hwz]; simp [go_sem, r0]
        have u1 : wz.cell? ⟨w.heap.size + 1, 1, none⟩ = some (.slice A6 n6 d6) := by rw [← hwz]; simp [go_sem, r1]
        obtain rfl : wz = setL w3 (w.heap.size + 1) 0 [.slice A5 n5 d5, .slice A6 n6 d6] := hwz.symm
        have hbz := setL_below b0 [.slice A5 n5 d5, .slice A6 n6 d6] (w.heap.size + 1) 0 (by omega)
        have kk : ∀ q, q ≠ w.heap.size + 1 → (setL w3 (w.heap.size + 1) 0 [.slice A5 n5 d5, .slice A6 n6 d6]).heap[q]? = w3.heap[q]? := fun q hq => setL_other _ _ _ _ q hq
        have sz : (setL w3 (w.heap.size + 1) 0 [.slice A5 n5 d5, .slice A6 n6 d6]).heap.size = w3.heap.size := setL_size _ _ _ _
        replace o5 := o5.keep (w' := setL w3 (w.heap.size + 1) 0 [.slice A5 n5 d5, .slice A6 n6 d6]) (fun q hq _ _ => kk q (by omega))
        replace o6 := o6.keep (w' := setL w3 (w.heap.size + 1) 0 [.slice A5 n5 d5, .slice A6 n6 d6]) (fun q hq _ _ => kk q (by omega))
        clear hwz kk
        generalize setL w3 (w.heap.size + 1) 0 [.slice A5 n5 d5, .slice A6 n6 d6] = wz at *
        refine bodyPost_ret (by simp only [results, Try.results17]; simp [go_sem, u0, u1]; rfl) rfl ?_
        exact ⟨_, _, by rw [HF.out.1, HF.out.2.2.2], by rw [HF.out.2.1]; exact o5.mono (by omega) (by omega), by rw [HF.out.2.2.1]; exact o6.mono (by omega) (by omega), hbz⟩

end Go.Proofs.Ytghfdoibabaadaa
