/- Small functions that processor interfaces lean on, in the program and in the reference. Conditions: at most 1048576 numbers; the interrupt lies in a slot. -/
import Derived.Test.YtengaccnncnipaaGreatSlOps
import Derived.Test.YtengaccnncnipaaGreatFaMath
import Derived.Test.YtengaccnncnipaaGreatBox
import Derived.BigQuiet
import Derived.Deep.QuietTactic
namespace Go.Proofs.YtengaccnncnipaaGreat
open Go.RowKit Go.ChangeShapes Go.WideShapes Go.Deep

theorem l1Own_any (v : Value) (l : List Int) (w : World) {lo hi : Nat} (h : Rd Nm.cells 1 w lo hi v l) (hh : hi ≤ w.heap.size) (hl : l.length ≤ 1048576) :
    Calls Tryz.prog 102 #[v] w fun e w' => ∃ v', e = .returned v' ∧ Ow Nm.cells 1 3 w' w.heap.size w'.heap.size v' l ∧ Below w.heap.size w w' := by
  have o4 := own_empty w (base := w.heap.size) 3 1 (Nat.le_refl _)
  have b4 := (Below.refl w.heap.size w).alloc (Nat.le_refl _) (.cells #[] 3)
  have h4 := h.below b4 hh
  obtain ⟨A, n, c, rfl, H, hc, hm⟩ := h.form
  rw [← H.out] at hl
  go_enter Tryz.func102, Tryz.ntmps102
  go_wp2_with (at_builtin; (refine Nm.app_rd rfl _ _ rfl w.heap.size (.slice (some ⟨w.heap.size, 0, none⟩) 0 0) 0 [] rfl o4 rfl h4 (by omega) (by simp) ?_); (intro v3 w3 o3 g3))
  have oR := Ow.of_own Nm.cells_len o3 (l := l) (by simp) (by rw [← H.out]; omega)
  have b3 : Below w.heap.size w w3 := b4.grown g3 (by simp) (own_ge o4)
  obtain ⟨A3, n3, d3, rfl, _, _, _⟩ := oR.rd.form
  go_ret
  exact ⟨.slice A3 n3 d3, rfl, oR, b3⟩
theorem copyInts_any (v : Value) (l : List Int) (w : World) {lo hi : Nat} (h : Rd Nm.cells 1 w lo hi v l) (hh : hi ≤ w.heap.size) (hl : l.length ≤ 1048576) :
    Calls Tryz.prog 82 #[v] w fun e w' => ∃ v', e = .returned v' ∧ Ow Nm.cells 1 3 w' w.heap.size w'.heap.size v' l ∧ Below w.heap.size w w' := by
  have o4 := own_empty w (base := w.heap.size) 3 1 (Nat.le_refl _)
  have b4 := (Below.refl w.heap.size w).alloc (Nat.le_refl _) (.cells #[] 3)
  have h4 := h.below b4 hh
  obtain ⟨A, n, c, rfl, H, hc, hm⟩ := h.form
  rw [← H.out] at hl
  go_enter Tryz.func82, Tryz.ntmps82
  go_wp2_with (at_builtin; (refine Nm.app_rd rfl _ _ rfl w.heap.size (.slice (some ⟨w.heap.size, 0, none⟩) 0 0) 0 [] rfl o4 rfl h4 (by omega) (by simp) ?_); (intro v3 w3 o3 g3))
  have oR := Ow.of_own Nm.cells_len o3 (l := l) (by simp) (by rw [← H.out]; omega)
  have b3 : Below w.heap.size w w3 := b4.grown g3 (by simp) (own_ge o4)
  obtain ⟨A3, n3, d3, rfl, _, _, _⟩ := oR.rd.form
  go_ret
  exact ⟨.slice A3 n3 d3, rfl, oR, b3⟩
theorem l1Least_any (a b : Int) (w : World) : Calls Tryz.prog 114 #[.int .i64 a, .int .i64 b] w fun e w' => e = .returned (.int .i64 (minI a b)) ∧ w = w' := by
  by_cases h : a < b
  · have HF := Lib.hid (show minI a b = a from if_pos h)
    go_enter Tryz.func114, Tryz.ntmps114
    go_wp2_with fail
    go_ret
    exact ⟨ret_int HF.out.symm, rfl⟩
  · have HF := Lib.hid (show minI a b = b from if_neg h)
    go_enter Tryz.func114, Tryz.ntmps114
    go_wp2_with fail
    go_ret
    exact ⟨ret_int HF.out.symm, rfl⟩
theorem beq_take {l1 l2 : List Int} (h : l1.length = l2.length) : (l1 == l2) = (l1.take l1.length == l2.take l1.length) := by rw [List.take_length, h, List.take_length]
theorem equalInts_any (v1 v2 : Value) (l1 l2 : List Int) (w : World) {lo1 hi1 lo2 hi2 : Nat} (h1 : Rd Nm.cells 1 w lo1 hi1 v1 l1) (h2 : Rd Nm.cells 1 w lo2 hi2 v2 l2) (hh1 : hi1 ≤ w.heap.size) (hh2 : hi2 ≤ w.heap.size) :
    Calls Tryz.prog 84 #[v1, v2] w fun e w' => e = .returned (.bool (l1 == l2)) ∧ Below w.heap.size w w' := by
  obtain ⟨A, n, c, rfl, H, hc, hm⟩ := h1.form
  obtain ⟨A2, n2, c2, rfl, H2, hc2, hm2⟩ := h2.form
  by_cases hn : n = n2
  · subst hn
    have hnd : ((n : Int) != (n : Int)) = false := by simp
    go_enter Tryz.func84, Tryz.ntmps84
    go_wp2_with fail
    go_loopw [13] (fun i wr => ∃ k : Nat, k ≤ n ∧ i = .int .i64 k ∧ Below w.heap.size w wr ∧ Hid (l1.take k = l2.take k)) (fun i _ => n - (intOf i).toNat)
    case atStart => exact ⟨0, Nat.zero_le _, rfl, Below.refl _ _, Lib.hid rfl⟩
    case round =>
      obtain ⟨k, hk, rfl, hb, HE⟩ := hrel
      by_cases hlt : k < n
      · obtain ⟨b, off, x, rfl, hx, _, _, f0⟩ := Nm.get h1 hlt hb hh1
        obtain ⟨b2, off2, y, rfl, hy, _, _, g0⟩ := Nm.get h2 hlt hb hh2
        have hki : (k : Int) < (n : Int) := by omega
        by_cases hq : x = y
        · subst hq
          have HE2 := Lib.hid (show l1.take (k + 1) = l2.take (k + 1) from by rw [List.take_add_one, List.take_add_one, HE.out, hx.out, hy.out])
          have hqd : (x != x) = false := by simp
          clear HE
          go_wp2_with fail
          go_quiet (fail)
          go_wp2_with fail
          go_roundw
          case rel => exact ⟨k + 1, by omega, by go_num, below_drewN hb _, HE2⟩
          case measure => simp [intOf]; omega
        · have HF := Lib.hid (show (l1 == l2) = false from by
            rw [beq_eq_false_iff_ne]
            intro e
            have h3 := hx.out
            rw [e, hy.out] at h3
            exact hq (Option.some.inj h3).symm)
          have hqd : (x != y) = true := by simpa using hq
          go_wp2_with fail
          go_quiet (fail)
          go_wp2_with fail
          go_ret
          exact ⟨ret_bool HF.out.symm, below_drewN hb _⟩
      · have HF := Lib.hid (show (l1 == l2) = true from by
          have hkn : k = n := by omega
          have h3 := HE.out
          rw [List.take_of_length_le (by rw [← H.out]; omega), List.take_of_length_le (by rw [← H2.out]; omega)] at h3
          simpa using h3)
        go_wp2_with fail
        go_ret
        exact ⟨ret_bool HF.out.symm, hb⟩
  · have HF := Lib.hid (show (l1 == l2) = false from by
      rw [beq_eq_false_iff_ne]
      intro e
      apply hn
      rw [H.out, H2.out, e])
    have hnd : ((n : Int) != (n2 : Int)) = true := by rw [bne_iff_ne]; omega
    go_enter Tryz.func84, Tryz.ntmps84
    go_wp2_with fail
    go_ret
    exact ⟨ret_bool HF.out.symm, Below.refl _ _⟩
theorem priorityIn_any (v : Value) (ls : List Sl) (i : Int) (w : World) {lo hi : Nat} (h : Rd Sl.cells 3 w lo hi v ls) (hh : hi ≤ w.heap.size) {k : Nat} (hk : Sl.ix ls i = k) (hkl : k < ls.length) :
    Calls Tryz.prog 86 #[v, .int .i64 i] w fun e w' => e = .returned (.int .i64 (Sl.lvl ls i)) ∧ Below w.heap.size w w' := by
  have c1 := implFind_b v ls i w h hh
  obtain ⟨A, n, c, rfl, H, hc, hm⟩ := h.form
  have hkn : k < n := by rw [H.out]; exact hkl
  have hki : (k : Int) < (n : Int) := by omega
  have hs := List.getElem?_eq_getElem hkl
  have HF := Lib.hid (show Sl.lvl ls i = (ls[k]).prio from by rw [Sl.lvl, hk, Sl.at_get hs])
  have HS := Lib.hid hs
  rw [hk] at c1
  clear hk hs
  generalize ls[k] = s at HF HS
  go_enter Tryz.func86, Tryz.ntmps86
  go_wp2_with fail
  refine c1.mono ?_; rintro q_ w1 ⟨rfl, b1⟩
  obtain ⟨b, off, s', rfl, hs', _, _, f0, f1, f2⟩ := Sl.get h hkn b1 hh
  obtain rfl : s = s' := Option.some.inj (HS.out.symm.trans hs'.out)
  clear hs'
  go_wp2_with fail
  go_ret
  exact ⟨ret_int HF.out.symm, b1⟩
set_option maxHeartbeats 2000000 in
theorem l10Level_any (vs vw : Value) (ls : List Sl) (i : Int) (w : World) {lo hi : Nat} (h : Rd Sl.cells 3 w lo hi vs ls) (hh : hi ≤ w.heap.size) {k : Nat} (hk : Sl.ix ls i = k) (hkl : k < ls.length) :
    Calls Tryz.prog 101 #[.agg #[vs, vw], .int .i64 i] w fun e w' => e = .returned (.int .i64 (Sl.lvl ls i)) ∧ Below w.heap.size w w' := by
  have b0 := (Below.refl w.heap.size w).alloc (Nat.le_refl _) (.cells #[vs, vw] 33)
  have z0 : (w.alloc (.cells #[vs, vw] 33)).heap.size = w.heap.size + 1 := by simp
  have bq := Box.new w #[vs, vw] 33 rfl
  have h' := h.below b0 hh
  obtain ⟨A, n, c, rfl, H, hc, hm⟩ := h.form
  clear h
  have hkn : k < n := by rw [H.out]; exact hkl
  have hki : (k : Int) < (n : Int) := by omega
  have hs := List.getElem?_eq_getElem hkl
  have HF := Lib.hid (show Sl.lvl ls i = (ls[k]).prio from by rw [Sl.lvl, hk, Sl.at_get hs])
  have HS := Lib.hid hs
  have HK := Lib.hid hk
  clear hk hs
  generalize ls[k] = s at HF HS
  go_enter Tryz.func101, Tryz.ntmps101
  go_wp2_with fail
  generalize w.alloc _ = w0 at *
  have x0 := bq.cell (j := 0) rfl
  obtain ⟨b, off, s', rfl, hs', _, hb1, f0, f1, f2⟩ := Sl.get h' hkn (Below.refl w0.heap.size w0) (by omega)
  obtain rfl : s = s' := Option.some.inj (HS.out.symm.trans hs'.out)
  clear hs'
  have c1 := fun W hs hh => (l8Find_any (.slice (some ⟨b, off, none⟩) n c) ls i W (lo := lo) (hi := hi) hs hh).mono (R' := fun e w' => e = .returned (.int .i64 k) ∧ w' = W) (fun e w' h => ⟨h.1.trans (ret_int HK.out), h.2.symm⟩)
  go_quiet ((go_at_call 135; refine Calls.quiet_of_same (c1 _ (h'.drewN _) (by simp; omega))))
  go_wp2_with fail
  go_ret
  exact ⟨ret_int HF.out.symm, below_drewN b0 _⟩

end Go.Proofs.YtengaccnncnipaaGreat
