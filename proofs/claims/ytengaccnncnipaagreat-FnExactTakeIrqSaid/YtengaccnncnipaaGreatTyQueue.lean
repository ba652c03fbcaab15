/- The type 'Queue' of the law text and of the program: what the law text's own helpers do with it. No condition. -/
import Derived.Test.YtengaccnncnipaaGreatTySlot
import Derived.Test.YtengaccnncnipaaGreatTyWaiter
import Derived.Test.YtengaccnncnipaaGreatBase2
namespace Go.Proofs.YtengaccnncnipaaGreat
open Go.RowKit Go.ChangeShapes Go.WideShapes Go.Deep

def Qc (x : Value × Value) : List Value := [x.1, x.2]
theorem Qc_len (x : Value × Value) : (Qc x).length = 2 := rfl
/-- a box that holds the two parts of a queue, as a row of one element -/
theorem Qc.new (w : World) (E : TypeId) (a b : Value) : Rd Qc 2 (w.alloc (.cells #[a, b] E)) w.heap.size (w.heap.size + 1) (.slice (some ⟨w.heap.size, 0, none⟩) 1 1) [(a, b)] := by
  refine ⟨some ⟨w.heap.size, 0, none⟩, 1, rfl, by simp, by unfold maxLen; omega, fun _ => ⟨w.heap.size, 0, rfl, Nat.le_refl _, by omega, fun i y hi j u hu => ?_⟩⟩
  match i with
  | 0 =>
    simp at hi; subst hi
    exact cell_new w _ _ rfl (by simpa [Qc] using hu)
  | i + 1 => simp at hi
theorem Qc.box {w : World} {g lo hi : Nat} {a b : Value} (h : Rd Qc 2 w lo hi (.slice (some ⟨g, 0, none⟩) 1 1) [(a, b)]) : w.cell? ⟨g, 0, none⟩ = some a ∧ w.cell? ⟨g, 1, none⟩ = some b := by
  obtain ⟨A, c, hv, _, _, h⟩ := h
  injection hv with e1 e2 e3
  subst e1
  obtain ⟨g', off, hA, _, _, h⟩ := h (by simp)
  injection hA with hA
  injection hA with e4 e5
  subst e4; subst e5
  exact ⟨by simpa using h 0 (a, b) rfl 0 _ rfl, by simpa using h 0 (a, b) rfl 1 _ rfl⟩

theorem cell_a1 (w : World) (cs : Array Value) (E : TypeId) (o2 o3 : Obj) {j : Nat} {u : Value} (h : cs[j]? = some u) : (((w.alloc (.cells cs E)).alloc o2).alloc o3).cell? ⟨w.heap.size, j, none⟩ = some u := by
  rw [World.cell?_alloc_lt _ _ _ (by simp; omega), World.cell?_alloc_lt _ _ _ (by simp)]
  exact cell_new w cs E rfl h
theorem cell_a2 (w : World) (cs : Array Value) (E : TypeId) (o1 o3 : Obj) {j : Nat} {u : Value} (h : cs[j]? = some u) : (((w.alloc o1).alloc (.cells cs E)).alloc o3).cell? ⟨w.heap.size + 1, j, none⟩ = some u := by
  rw [World.cell?_alloc_lt _ _ _ (by simp)]
  exact cell_new _ cs E (by simp) h
theorem cell_a3 (w : World) (cs : Array Value) (E : TypeId) (o1 o2 : Obj) {j : Nat} {u : Value} (h : cs[j]? = some u) : (((w.alloc o1).alloc o2).alloc (.cells cs E)).cell? ⟨w.heap.size + 2, j, none⟩ = some u := cell_new _ cs E (by simp) h
theorem froz_new (w : World) (cs : Array Value) (E : TypeId) {g : Nat} (hg : g = w.heap.size) (j : Nat) : (w.alloc (.cells cs E)).frozen? ⟨g, j, none⟩ = false := by
  subst hg
  exact frozen_of_row _ _ j cs E (heap_alloc_new w _)
theorem froz_a3 (w : World) (cs : Array Value) (E : TypeId) (o1 o2 : Obj) (j : Nat) : (((w.alloc o1).alloc o2).alloc (.cells cs E)).frozen? ⟨w.heap.size + 2, j, none⟩ = false := froz_new _ cs E (by simp) j
theorem froz_a2 (w : World) (cs : Array Value) (E : TypeId) (o1 o3 : Obj) (j : Nat) : (((w.alloc o1).alloc (.cells cs E)).alloc o3).frozen? ⟨w.heap.size + 1, j, none⟩ = false := by
  have hb := (Below.refl ((w.alloc o1).alloc (.cells cs E)).heap.size ((w.alloc o1).alloc (.cells cs E))).alloc (Nat.le_refl _) o3
  rw [(bcell hb).2 (w.heap.size + 1) j (by simp)]
  exact froz_new _ cs E (by simp) j

def szQ (left : Int) (n m : Nat) : Int := if szL left n < 0 then -1 else if szL (szL left n) m < 0 then -1 else szL (szL left n) m

theorem szQueue_any (vs vw : Value) (ls : List Sl) (lw : List Wt) (w : World) {lo hi lo2 hi2 : Nat} (h : Rd Sl.cells 3 w lo hi vs ls) (h2 : Rd Wt.cells 2 w lo2 hi2 vw lw) (hh : hi ≤ w.heap.size) (hh2 : hi2 ≤ w.heap.size) (left : Int) (h0 : 0 ≤ left) (h1 : left ≤ 1048576) :
    Calls Tryz.prog 51 #[.agg #[vs, vw], .int .i64 left] w fun e w' => e = .returned (.int .i64 (szQ left ls.length lw.length)) ∧ Below w.heap.size w w' := by
  have b0 := (Below.refl w.heap.size w).alloc (Nat.le_refl _) (.cells #[vs, vw] 26)
  have c1 := Sl.szS_any vs ls _ (h.below b0 hh) left h0 h1
  have hz : szL left ls.length = -1 ∨ (0 ≤ szL left ls.length ∧ szL left ls.length ≤ 1048576) := by unfold szL; split <;> omega
  have c2 := fun h0 h1 => Wt.szS_any vw lw _ (h2.below b0 hh2) (szL left ls.length) h0 h1
  have HE := Lib.hid (show szQ left ls.length lw.length = if szL left ls.length < 0 then -1 else if szL (szL left ls.length) lw.length < 0 then -1 else szL (szL left ls.length) lw.length from rfl)
  generalize szL left ls.length = z at *
  rcases hz with rfl | ⟨hz0, hz1⟩
  · clear c2
    go_enter Tryz.func51, Tryz.ntmps51
    go_wp2_with fail
    refine c1.mono ?_; rintro e w1 ⟨rfl, rfl⟩
    go_wp2_with fail
    go_ret
    exact ⟨ret_int (by rw [HE.out]; rfl), b0⟩
  · have c2 := c2 hz0 hz1
    have hz2 : szL z lw.length = -1 ∨ 0 ≤ szL z lw.length := by unfold szL; split <;> omega
    have hzd : decide (z < 0) = false := decide_eq_false (by omega)
    have HE2 := Lib.hid (show szQ left ls.length lw.length = if szL z lw.length < 0 then -1 else szL z lw.length from by rw [HE.out, if_neg (by omega)])
    generalize szL z lw.length = y at *
    clear HE
    rcases hz2 with rfl | hy
    · go_enter Tryz.func51, Tryz.ntmps51
      go_wp2_with fail
      refine c1.mono ?_; rintro e w1 ⟨rfl, rfl⟩
      go_wp2_with fail
      refine c2.mono ?_; rintro e w1 ⟨rfl, rfl⟩
      go_wp2_with fail
      go_ret
      exact ⟨ret_int (by rw [HE2.out]; rfl), b0⟩
    · have hyd : decide (y < 0) = false := decide_eq_false (by omega)
      have HE3 := Lib.hid (show szQ left ls.length lw.length = y from by rw [HE2.out, if_neg (by omega)])
      go_enter Tryz.func51, Tryz.ntmps51
      go_wp2_with fail
      refine c1.mono ?_; rintro e w1 ⟨rfl, rfl⟩
      go_wp2_with fail
      refine c2.mono ?_; rintro e w1 ⟨rfl, rfl⟩
      go_wp2_with fail
      go_ret
      exact ⟨ret_int HE3.out.symm, b0⟩

set_option maxHeartbeats 1000000 in
theorem eqQueue_same (a1 a2 b1 b2 : Value) (ls : List Sl) (lw : List Wt) (w : World) {l1 h1 l2 h2 l3 h3 l4 h4 : Nat} (k1 : Rd Sl.cells 3 w l1 h1 a1 ls) (k2 : Rd Wt.cells 2 w l2 h2 a2 lw) (k3 : Rd Sl.cells 3 w l3 h3 b1 ls) (k4 : Rd Wt.cells 2 w l4 h4 b2 lw)
    (z1 : h1 ≤ w.heap.size) (z2 : h2 ≤ w.heap.size) (z3 : h3 ≤ w.heap.size) (z4 : h4 ≤ w.heap.size) :
    Calls Tryz.prog 59 #[.agg #[a1, a2], .agg #[b1, b2]] w fun e w' => e = .returned (.bool true) ∧ Below w.heap.size w w' := by
  have b0 : Below w.heap.size w ((w.alloc (.cells #[a1, a2] 33)).alloc (.cells #[b1, b2] 33)) := ((Below.refl w.heap.size w).alloc (Nat.le_refl _) _).alloc (by simp) _
  have z0 : ((w.alloc (.cells #[a1, a2] 33)).alloc (.cells #[b1, b2] 33)).heap.size = w.heap.size + 2 := by simp
  have e0 : ((w.alloc (.cells #[a1, a2] 33)).alloc (.cells #[b1, b2] 33)).cell? ⟨w.heap.size, 1, none⟩ = some a2 := by simp
  have e1 : ((w.alloc (.cells #[a1, a2] 33)).alloc (.cells #[b1, b2] 33)).cell? ⟨w.heap.size + 1, 1, none⟩ = some b2 := by simp
  have c1 := Sl.eqS_same a1 b1 ls _ (k1.below b0 z1) (k3.below b0 z3) (by omega) (by omega)
  have k2' := k2.below b0 z2
  have k4' := k4.below b0 z4
  clear k1 k2 k3 k4
  go_enter Tryz.func59, Tryz.ntmps59
  go_wp2_with fail
  generalize (w.alloc _).alloc _ = w0 at *
  refine c1.mono ?_; rintro e w1 ⟨rfl, b1⟩
  replace e0 := (b1.cell (p := ⟨w.heap.size, 1, none⟩) (by show w.heap.size < _; omega)).trans e0
  replace e1 := (b1.cell (p := ⟨w.heap.size + 1, 1, none⟩) (by show w.heap.size + 1 < _; omega)).trans e1
  have zz := b1.size
  have c2 := Wt.eqS_same a2 b2 lw w1 (k2'.below b1 (by omega)) (k4'.below b1 (by omega)) (by omega) (by omega)
  go_wp2_with fail
  refine c2.mono ?_; rintro e w2 ⟨rfl, b2⟩
  go_wp2_with fail
  go_ret
  exact ⟨rfl, b0.trans ((b1.mono (by omega)).trans (b2.mono (by omega)))⟩

set_option maxHeartbeats 1000000 in
theorem toQueue_any (vs vw : Value) (ls : List Sl) (lw : List Wt) (w : World) {lo hi lo2 hi2 : Nat} (h : Rd Sl.cells 3 w lo hi vs ls) (h2 : Rd Wt.cells 2 w lo2 hi2 vw lw) (hh : hi ≤ w.heap.size) (hh2 : hi2 ≤ w.heap.size) (hl : ls.length ≤ 1048576) (hl2 : lw.length ≤ 1048576) :
    Calls Tryz.prog 56 #[.agg #[vs, vw]] w fun e w' => ∃ v1 v2, e = .returned (.agg #[v1, v2]) ∧ Ow Sl.cells 3 127 w' w.heap.size w'.heap.size v1 ls ∧ Ow Wt.cells 2 134 w' w.heap.size w'.heap.size v2 lw ∧ Below w.heap.size w w' := by
  have b0 : Below w.heap.size w (((w.alloc (.cells #[vs, vw] 26)).alloc (.cells #[.slice none 0 0, .slice none 0 0] 33)).alloc (.cells #[.slice none 0 0, .slice none 0 0] 33)) := (((Below.refl w.heap.size w).alloc (Nat.le_refl _) _).alloc (by simp) _).alloc (by simp; omega) _
  have z0 : (((w.alloc (.cells #[vs, vw] 26)).alloc (.cells #[.slice none 0 0, .slice none 0 0] 33)).alloc (.cells #[.slice none 0 0, .slice none 0 0] 33)).heap.size = w.heap.size + 3 := by simp
  have a1 : (((w.alloc (.cells #[vs, vw] 26)).alloc (.cells #[.slice none 0 0, .slice none 0 0] 33)).alloc (.cells #[.slice none 0 0, .slice none 0 0] 33)).cell? ⟨w.heap.size, 1, none⟩ = some vw := cell_a1 w _ _ _ _ rfl
  have q0 : (((w.alloc (.cells #[vs, vw] 26)).alloc (.cells #[.slice none 0 0, .slice none 0 0] 33)).alloc (.cells #[.slice none 0 0, .slice none 0 0] 33)).cell? ⟨w.heap.size + 1, 0, none⟩ = some (.slice none 0 0) := cell_a2 w _ _ _ _ rfl
  have q1 : (((w.alloc (.cells #[vs, vw] 26)).alloc (.cells #[.slice none 0 0, .slice none 0 0] 33)).alloc (.cells #[.slice none 0 0, .slice none 0 0] 33)).cell? ⟨w.heap.size + 1, 1, none⟩ = some (.slice none 0 0) := cell_a2 w _ _ _ _ rfl
  have r0 : (((w.alloc (.cells #[vs, vw] 26)).alloc (.cells #[.slice none 0 0, .slice none 0 0] 33)).alloc (.cells #[.slice none 0 0, .slice none 0 0] 33)).cell? ⟨w.heap.size + 2, 0, none⟩ = some (.slice none 0 0) := cell_a3 w _ _ _ _ rfl
  have r1 : (((w.alloc (.cells #[vs, vw] 26)).alloc (.cells #[.slice none 0 0, .slice none 0 0] 33)).alloc (.cells #[.slice none 0 0, .slice none 0 0] 33)).cell? ⟨w.heap.size + 2, 1, none⟩ = some (.slice none 0 0) := cell_a3 w _ _ _ _ rfl
  have qz : ∀ j, (((w.alloc (.cells #[vs, vw] 26)).alloc (.cells #[.slice none 0 0, .slice none 0 0] 33)).alloc (.cells #[.slice none 0 0, .slice none 0 0] 33)).frozen? ⟨w.heap.size + 1, j, none⟩ = false := fun j => froz_a2 w _ _ _ _ j
  have rz : ∀ j, (((w.alloc (.cells #[vs, vw] 26)).alloc (.cells #[.slice none 0 0, .slice none 0 0] 33)).alloc (.cells #[.slice none 0 0, .slice none 0 0] 33)).frozen? ⟨w.heap.size + 2, j, none⟩ = false := fun j => froz_a3 w _ _ _ _ j
  have c1 := Sl.toS_any vs ls _ (h.below b0 hh) (by omega) hl
  have h2' := h2.below b0 hh2
  clear h h2
  go_enter Tryz.func56, Tryz.ntmps56
  go_wp2_with fail
  generalize ((w.alloc _).alloc _).alloc _ = w0 at *
  refine c1.mono ?_; rintro e w1 ⟨v1, rfl, o1, b1⟩
  obtain ⟨hc1, hf1⟩ := bcell b1
  replace a1 := (hc1 _ 1 (by omega)).trans a1
  replace q0 := (hc1 _ 0 (by omega)).trans q0
  replace q1 := (hc1 _ 1 (by omega)).trans q1
  replace r0 := (hc1 _ 0 (by omega)).trans r0
  replace r1 := (hc1 _ 1 (by omega)).trans r1
  replace qz := fun j => (hf1 _ j (by omega)).trans (qz j)
  replace rz := fun j => (hf1 _ j (by omega)).trans (rz j)
  have h3 := h2'.below b1 (by omega)
  have zz1 := b1.size
  have hb1 := b0.trans (b1.mono (by omega))
  clear hc1 hf1 c1 h2' b1
  obtain ⟨A1, n1, d1, rfl, _, _, _⟩ := o1.rd.form
  have s1 : (setL w1 (w.heap.size + 2) 0 [.slice A1 n1 d1]).heap.size = w1.heap.size := setL_size _ _ _ _
  have g1 : w1.grownBy (setL w1 (w.heap.size + 2) 0 [.slice A1 n1 d1]) (some (w.heap.size + 2)) := setL_grown _ _ _ _
  have bs1 := setL_below hb1 [.slice A1 n1 d1] (w.heap.size + 2) 0 (by omega)
  have x0 : (setL w1 (w.heap.size + 2) 0 [.slice A1 n1 d1]).cell? ⟨w.heap.size + 2, 0, none⟩ = some (.slice A1 n1 d1) := by simp [setL, go_sem, r0]
  have x1 : (setL w1 (w.heap.size + 2) 0 [.slice A1 n1 d1]).cell? ⟨w.heap.size + 2, 1, none⟩ = some (.slice none 0 0) := by simp [setL, go_sem, r1]
  have y0 : (setL w1 (w.heap.size + 2) 0 [.slice A1 n1 d1]).cell? ⟨w.heap.size + 1, 0, none⟩ = some (.slice none 0 0) := by simp [setL, go_sem, q0]
  have y1 : (setL w1 (w.heap.size + 2) 0 [.slice A1 n1 d1]).cell? ⟨w.heap.size + 1, 1, none⟩ = some (.slice none 0 0) := by simp [setL, go_sem, q1]
  have t1 : (setL w1 (w.heap.size + 2) 0 [.slice A1 n1 d1]).cell? ⟨w.heap.size, 1, none⟩ = some vw := by simp [setL, go_sem, a1]
  have fz : ∀ b j, w1.frozen? ⟨b, j, none⟩ = false → (setL w1 (w.heap.size + 2) 0 [.slice A1 n1 d1]).frozen? ⟨b, j, none⟩ = false := fun b j hq => by simpa [setL, go_sem] using hq
  have yz := fun j => fz _ _ (qz j)
  have xz := fun j => fz _ _ (rz j)
  have h4 : Rd Wt.cells 2 (setL w1 (w.heap.size + 2) 0 [.slice A1 n1 d1]) lo2 hi2 vw lw := h3.grown g1 (by omega) (fun g hg => by injection hg with hg; omega)
  have o2 : Ow Sl.cells 3 127 (setL w1 (w.heap.size + 2) 0 [.slice A1 n1 d1]) w0.heap.size w1.heap.size (.slice A1 n1 d1) ls := o1.keep fun q hq _ _ => setL_other _ _ _ _ q (by omega)
  have c2 := Wt.toS_any vw lw (setL w1 (w.heap.size + 2) 0 [.slice A1 n1 d1]) h4 (by omega) hl2
  go_wp2_with fail
  change Calls _ _ _ (setL w1 (w.heap.size + 2) 0 [.slice A1 n1 d1]) _
  clear a1 q0 q1 r0 r1 qz rz g1 fz h3 h4 hb1 o1
  generalize setL w1 (w.heap.size + 2) 0 [.slice A1 n1 d1] = w2 at *
  refine c2.mono ?_; rintro e w3 ⟨v2, rfl, o3, b3⟩
  obtain ⟨hc3, hf3⟩ := bcell b3
  replace x0 := (hc3 _ 0 (by omega)).trans x0
  replace x1 := (hc3 _ 1 (by omega)).trans x1
  replace y0 := (hc3 _ 0 (by omega)).trans y0
  replace y1 := (hc3 _ 1 (by omega)).trans y1
  replace yz := fun j => (hf3 _ j (by omega)).trans (yz j)
  replace xz := fun j => (hf3 _ j (by omega)).trans (xz j)
  have o4 := o2.below b3 (by omega)
  have zz3 := b3.size
  have hb3 := bs1.trans (b3.mono (by omega))
  clear hc3 hf3 c2 b3 o2 t1
  obtain ⟨A2, n2, d2, rfl, _, _, _⟩ := o3.rd.form
  go_wp2_with fail
  generalize hw : World.setCell (World.setCell (World.setCell _ _ _) _ _) _ _ = w4
  have u0 : w4.cell? ⟨w.heap.size + 1, 0, none⟩ = some (.slice A1 n1 d1) := by rw [← hw]; simp [go_sem, y0]
  have u1 : w4.cell? ⟨w.heap.size + 1, 1, none⟩ = some (.slice A2 n2 d2) := by rw [← hw]; simp [go_sem, y1]
  obtain rfl : w4 = setL (setL w3 (w.heap.size + 2) 1 [.slice A2 n2 d2]) (w.heap.size + 1) 0 [.slice A1 n1 d1, .slice A2 n2 d2] := hw.symm
  have hb4 := setL_below (setL_below hb3 [.slice A2 n2 d2] (w.heap.size + 2) 1 (by omega)) [.slice A1 n1 d1, .slice A2 n2 d2] (w.heap.size + 1) 0 (by omega)
  have s4 : (setL (setL w3 (w.heap.size + 2) 1 [.slice A2 n2 d2]) (w.heap.size + 1) 0 [.slice A1 n1 d1, .slice A2 n2 d2]).heap.size = w3.heap.size := by rw [setL_size, setL_size]
  have kk : ∀ q, w.heap.size + 3 ≤ q → (setL (setL w3 (w.heap.size + 2) 1 [.slice A2 n2 d2]) (w.heap.size + 1) 0 [.slice A1 n1 d1, .slice A2 n2 d2]).heap[q]? = w3.heap[q]? := fun q hq => by rw [setL_other _ _ _ _ q (by omega), setL_other _ _ _ _ q (by omega)]
  have o5 := o4.keep (w' := setL (setL w3 (w.heap.size + 2) 1 [.slice A2 n2 d2]) (w.heap.size + 1) 0 [.slice A1 n1 d1, .slice A2 n2 d2]) (fun q hq _ _ => kk q (by omega))
  have o6 := o3.keep (w' := setL (setL w3 (w.heap.size + 2) 1 [.slice A2 n2 d2]) (w.heap.size + 1) 0 [.slice A1 n1 d1, .slice A2 n2 d2]) (fun q hq _ _ => kk q (by omega))
  clear hw kk
  generalize setL (setL w3 (w.heap.size + 2) 1 [.slice A2 n2 d2]) (w.heap.size + 1) 0 [.slice A1 n1 d1, .slice A2 n2 d2] = w4 at *
  refine bodyPost_ret (by simp only [results, Tryz.results56]; simp [go_sem, u0, u1]; rfl) rfl ?_
  exact ⟨_, _, rfl, o5.mono (by omega) (by omega), o6.mono (by omega) (by omega), hb4⟩

set_option maxHeartbeats 1000000 in
theorem markQueue_any (vs vw : Value) (ls : List Sl) (lw : List Wt) (w : World) {lo hi lo2 hi2 : Nat} (h : Ow Sl.cells 3 127 w lo hi vs ls) (h2 : Ow Wt.cells 2 134 w lo2 hi2 vw lw) (hh : hi ≤ w.heap.size) (hh2 : hi2 ≤ w.heap.size) (hl : ls.length ≤ 1048576) (hl2 : lw.length ≤ 1048576) (k0 : Int) (h0 : 0 ≤ k0) (h1 : k0 ≤ 1000000000) :
    Calls Tryz.prog 60 #[.agg #[vs, vw], .int .i64 k0] w fun e w' => ∃ wa wb, e = .returned (.int .i64 (k0 + 3 * ls.length + 2 * lw.length)) ∧ Below w.heap.size w wa ∧ Ow Sl.cells 3 127 wb lo hi vs (Sl.markL k0 ls.length) ∧ Turned wa wb vs ls.length ∧ Ow Wt.cells 2 134 w' lo2 hi2 vw (Wt.markL (k0 + 3 * ls.length) lw.length) ∧ Turned wb w' vw lw.length ∧ Ow Wt.cells 2 134 wb lo2 hi2 vw lw := by
  have b0 := (Below.refl w.heap.size w).alloc (Nat.le_refl _) (.cells #[vs, vw] 33)
  have z0 : (w.alloc (.cells #[vs, vw] 33)).heap.size = w.heap.size + 1 := by simp
  have a1 : (w.alloc (.cells #[vs, vw] 33)).cell? ⟨w.heap.size, 1, none⟩ = some vw := by simp
  have o1 := h.below b0 hh
  have o2 := h2.below b0 hh2
  have c1 := Sl.markS_any vs ls _ o1 k0 h0 (by omega) hl
  clear h h2
  go_enter Tryz.func60, Tryz.ntmps60
  go_wp2_with fail
  generalize w.alloc _ = w0 at *
  refine c1.mono ?_; rintro e w1 ⟨rfl, p1, t1⟩
  obtain ⟨row, hg, hr⟩ := o1.turned_in t1
  have a2 : w1.cell? ⟨w.heap.size, 1, none⟩ = some vw := by
    rw [← a1]
    exact World.cell?_of_block (a := ⟨w.heap.size, 1, none⟩) (hg.block _ (by show w.heap.size < _; omega) (fun e => by have := hr _ e.symm; simp at this; omega))
  have o3 := o2.turned_type o1 t1 (by decide)
  have c2 := Wt.markS_any vw lw w1 o3 (k0 + 3 * ls.length) (by omega) (by omega) hl2
  clear a1 hg hr
  go_wp2_with fail
  refine c2.mono ?_; rintro e w2 ⟨rfl, p2, t2⟩
  go_wp2_with fail
  go_ret
  exact ⟨w0, w1, rfl, b0, p1, t1, p2, t2, o3⟩

set_option maxHeartbeats 1000000 in
theorem heldQueue_any (vs vw : Value) (n m : Nat) (w : World) {lo hi lo2 hi2 : Nat} {k0 : Int} (h : Rd Sl.cells 3 w lo hi vs (Sl.markL k0 n)) (h2 : Rd Wt.cells 2 w lo2 hi2 vw (Wt.markL (k0 + 3 * n) m)) (hh : hi ≤ w.heap.size) (hh2 : hi2 ≤ w.heap.size) (hl : n ≤ 1048576) (hl2 : m ≤ 1048576) (h0 : 0 ≤ k0) (h1 : k0 ≤ 1000000000) :
    Calls Tryz.prog 61 #[.agg #[vs, vw], .int .i64 k0] w fun e w' => e = .returned (.int .i64 (k0 + 3 * n + 2 * m)) ∧ Below w.heap.size w w' := by
  have b0 := (Below.refl w.heap.size w).alloc (Nat.le_refl _) (.cells #[vs, vw] 33)
  have a1 : (w.alloc (.cells #[vs, vw] 33)).cell? ⟨w.heap.size, 1, none⟩ = some vw := by simp
  have c1 := Sl.heldS_any vs _ (h.below b0 hh) h0 (by omega) hl
  have c2 := Wt.heldS_any vw _ (h2.below b0 hh2) (by omega) (by omega) hl2
  have d1 : decide (k0 + 3 * (n : Int) < 0) = false := decide_eq_false (by omega)
  have d2 : decide (k0 + 3 * (n : Int) + 2 * (m : Int) < 0) = false := decide_eq_false (by omega)
  go_enter Tryz.func61, Tryz.ntmps61
  go_wp2_with fail
  refine c1.mono ?_; rintro e w1 ⟨rfl, rfl⟩
  go_wp2_with fail
  refine c2.mono ?_; rintro e w1 ⟨rfl, rfl⟩
  go_wp2_with fail
  go_ret
  exact ⟨rfl, b0⟩

end Go.Proofs.YtengaccnncnipaaGreat
