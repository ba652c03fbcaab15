/- Comparing the urgency of two interrupts, in the program and in the reference. No condition. -/
import Derived.Test.YtaggjadgbmmjoaaCmp
import Derived.Test.YtaggjadgbmmjoaaTyInt
import Derived.Test.YtaggjadgbmmjoaaTySlot
import Derived.Test.YtaggjadgbmmjoaaTyWaiter
import Derived.Test.YtaggjadgbmmjoaaBase3
import Derived.Test.YtaggjadgbmmjoaaRegion
import Derived.BigQuiet
import Derived.Deep.QuietTactic
namespace Go.Proofs.Ytaggjadgbmmjoaa
open Go.RowKit Go.ChangeShapes Go.WideShapes Go.Deep

def Wt.lt (x y : Wt) : Bool := decide (x.prio < y.prio) || (decide (x.prio = y.prio) && decide (x.irq < y.irq))
def orI (a b : Int) : Int := if a = 0 then b else a
def urg (x y : Wt) : Int := orI (cmpI x.prio y.prio) (cmpI x.irq y.irq)
theorem urg_neg (x y : Wt) : urg x y < 0 ↔ x.lt y = true := by
  unfold urg orI cmpI Wt.lt
  simp only [Bool.or_eq_true, Bool.and_eq_true, decide_eq_true_eq]
  repeat' split
  all_goals omega
def Sl.wt (s : Sl) : Wt := ⟨s.irq, s.prio⟩

theorem cmpOr_any (v : Value) (a b : Int) (w : World) {lo hi : Nat} (h : Rd Nm.cells 1 w lo hi v [a, b]) (hh : hi ≤ w.heap.size) : Calls Try.prog 61 #[v] w fun e w' => e = .returned (.int .i64 (orI a b)) ∧ w = w' := by
  obtain ⟨A, n, c, rfl, H, hc, hm⟩ := h.form
  have hn : n = 2 := H.out
  subst hn
  obtain ⟨b0, off, x, rfl, hx, _, hbl, f0⟩ := Nm.get h (k := 0) (by omega) (Below.refl w.heap.size w) hh
  simp only [Nat.add_zero] at f0
  obtain ⟨_, _, y, e, hy, _, _, f1⟩ := Nm.get h (k := 1) (by omega) (Below.refl w.heap.size w) hh
  injection e with e
  injection e with e1 e2
  subst e1; subst e2
  obtain rfl : a = x := by simpa using hx.out
  obtain rfl : b = y := by simpa using hy.out
  go_enter Try.func61, Try.ntmps61
  go_wp2_with fail
  go_loop [8] (fun i => ∃ k : Nat, k ≤ 2 ∧ i = .int .i64 k ∧ Hid (0 < k → a = 0) ∧ Hid (1 < k → b = 0)) (fun i => 2 - (intOf i).toNat)
  case atStart => exact ⟨0, by omega, rfl, Lib.hid (fun h => by omega), Lib.hid (fun h => by omega)⟩
  case round =>
    obtain ⟨k, hk, rfl, h0, h1⟩ := hrel
    match k, hk, h0, h1 with
    | 0, _, _, _ =>
      by_cases ha : a = 0
      · have HA := Lib.hid ha
        rw [ha] at f0
        clear ha
        go_wp2_with fail
        go_round
        case rel => exact ⟨1, by omega, by go_num, Lib.hid (fun _ => HA.out), Lib.hid (fun h => by omega)⟩
        case measure => simp [intOf]
      · have HE := Lib.hid (show orI a b = a from by simp [orI, ha])
        go_wp2_with fail
        go_ret
        exact ⟨ret_int HE.out.symm, rfl⟩
    | 1, _, h0, _ =>
      have HA := Lib.hid (h0.out (by omega))
      by_cases hb : b = 0
      · have HB := Lib.hid hb
        rw [hb] at f1
        clear hb
        go_wp2_with fail
        go_round
        case rel => exact ⟨2, by omega, by go_num, Lib.hid (fun _ => HA.out), Lib.hid (fun _ => HB.out)⟩
        case measure => simp [intOf]
      · have HE := Lib.hid (show orI a b = b from by simp [orI, HA.out])
        go_wp2_with fail
        go_ret
        exact ⟨ret_int HE.out.symm, rfl⟩
    | 2, _, h0, h1 =>
      have HE := Lib.hid (show orI a b = 0 from by simp [orI, h0.out (by omega), h1.out (by omega)])
      go_wp2_with fail
      go_ret
      exact ⟨ret_int HE.out.symm, rfl⟩

theorem waiterOf_any (s : Sl) (w : World) : Calls Try.prog 56 #[s.val] w fun e w' => e = .returned s.wt.val ∧ Below w.heap.size w w' := by
  unfold Sl.wt Sl.val Wt.val
  go_enter Try.func56, Try.ntmps56
  go_wp2
  go_returns
  exact ⟨by simp, by go_grown⟩
theorem l8Less_any (p i q j : Int) (w : World) : Calls Try.prog 57 #[.int .i64 p, .int .i64 i, .int .i64 q, .int .i64 j] w fun e w' => e = .returned (.bool (Wt.lt ⟨i, p⟩ ⟨j, q⟩)) ∧ w = w' := by
  rcases Int.lt_trichotomy p q with h | h | h
  · have HE := Lib.hid (show Wt.lt ⟨i, p⟩ ⟨j, q⟩ = true from by simp [Wt.lt, h])
    go_enter Try.func57, Try.ntmps57
    go_wp2
    go_ret
    exact ⟨ret_bool HE.out.symm, rfl⟩
  · subst h
    have h1 : ¬ p < p := by omega
    by_cases hij : i < j
    · have HE := Lib.hid (show Wt.lt ⟨i, p⟩ ⟨j, p⟩ = true from by simp [Wt.lt, hij])
      go_enter Try.func57, Try.ntmps57
      go_wp2
      go_ret
      exact ⟨ret_bool (by rw [HE.out]), rfl⟩
    · have HE := Lib.hid (show Wt.lt ⟨i, p⟩ ⟨j, p⟩ = false from by simp [Wt.lt, hij])
      go_enter Try.func57, Try.ntmps57
      go_wp2
      go_ret
      exact ⟨ret_bool (by rw [HE.out]), rfl⟩
  · have h1 : ¬ p < q := by omega
    have h2 : ¬ p = q := by omega
    have HE := Lib.hid (show Wt.lt ⟨i, p⟩ ⟨j, q⟩ = false from by simp [Wt.lt, h1, h2])
    go_enter Try.func57, Try.ntmps57
    go_wp2
    go_ret
    exact ⟨ret_bool HE.out.symm, rfl⟩
theorem compareUrgency_any (x y : Wt) (w : World) : Calls Try.prog 55 #[x.val, y.val] w fun e w' => e = .returned (.int .i64 (urg x y)) ∧ Below w.heap.size w w' := by
  unfold urg Wt.val
  go_enter Try.func55, Try.ntmps55
  go_wp2_with fail
  have b0 : Below w.heap.size w ((w.alloc (.cells #[.int .i64 x.irq, .int .i64 x.prio] 64)).alloc (.cells #[.int .i64 y.irq, .int .i64 y.prio] 64)) := ((Below.refl w.heap.size w).alloc (Nat.le_refl _) _).alloc (by simp) _
  have k0 : ((w.alloc (.cells #[.int .i64 x.irq, .int .i64 x.prio] 64)).alloc (.cells #[.int .i64 y.irq, .int .i64 y.prio] 64)).cell? ⟨w.heap.size, 0, none⟩ = some (.int .i64 x.irq) := by simp
  have k1 : ((w.alloc (.cells #[.int .i64 x.irq, .int .i64 x.prio] 64)).alloc (.cells #[.int .i64 y.irq, .int .i64 y.prio] 64)).cell? ⟨w.heap.size, 1, none⟩ = some (.int .i64 x.prio) := by simp
  have k2 : ((w.alloc (.cells #[.int .i64 x.irq, .int .i64 x.prio] 64)).alloc (.cells #[.int .i64 y.irq, .int .i64 y.prio] 64)).cell? ⟨w.heap.size + 1, 0, none⟩ = some (.int .i64 y.irq) := by simp
  have k3 : ((w.alloc (.cells #[.int .i64 x.irq, .int .i64 x.prio] 64)).alloc (.cells #[.int .i64 y.irq, .int .i64 y.prio] 64)).cell? ⟨w.heap.size + 1, 1, none⟩ = some (.int .i64 y.prio) := by simp
  generalize (w.alloc _).alloc _ = w0 at b0 k0 k1 k2 k3 ⊢
  have e0 := cell_ext k0; have e1 := cell_ext k1; have e2 := cell_ext k2; have e3 := cell_ext k3
  refine wp_region_ext 10 (by kernel_rfl) (by kernel_rfl) ?_
  simp only [List.take_succ_cons, List.take_zero, List.drop_succ_cons, List.drop_zero]
  repeat (go_big_quiet_step ((go_at_call 62; exact calls_ext0 ((compare_any _ _ _).mono fun _ _ h => ⟨h.1, h.2.symm⟩))))
  refine wpQuiet_nil ?_
  intro w3 b3
  clear e0 e1 e2 e3 k0 k1 k2 k3
  go_wp2_with fail
  have hr : Rd Nm.cells 1 (w3.alloc (.cells #[.int .i64 (cmpI x.prio y.prio), .int .i64 (cmpI x.irq y.irq)] 3)) w3.heap.size (w3.heap.size + 1) (.slice (some ⟨w3.heap.size, 0, none⟩) 2 2) [cmpI x.prio y.prio, cmpI x.irq y.irq] := by
    refine ⟨some ⟨w3.heap.size, 0, none⟩, 2, rfl, by simp, by unfold maxLen; omega, fun _ => ⟨w3.heap.size, 0, rfl, Nat.le_refl _, by omega, fun i z hi j u hu => ?_⟩⟩
    match i, j with
    | 0, 0 => simp at hi; subst hi; simp [Nm.cells] at hu; subst hu; simp
    | 1, 0 => simp at hi; subst hi; simp [Nm.cells] at hu; subst hu; simp
    | i + 2, _ => simp at hi
    | _, j + 1 => simp [Nm.cells] at hu
  have c3 := cmpOr_any _ _ _ _ hr (by simp)
  refine c3.mono ?_; rintro e w4 ⟨rfl, rfl⟩
  have z0 := b0.size
  have z3 := b3.size
  go_wp2_with fail
  go_ret
  exact ⟨rfl, (b0.trans (b3.mono z0)).alloc (by omega) _⟩

end Go.Proofs.Ytaggjadgbmmjoaa
