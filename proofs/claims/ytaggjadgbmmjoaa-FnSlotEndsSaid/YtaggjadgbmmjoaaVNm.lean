/- The plain laws' own helpers over numbers: whether two lists that read the same are the same, whether a number is in a list, whether a code is long. No condition. -/
import Derived.Test.YtaggjadgbmmjoaaTyInt
import Derived.Test.YtaggjadgbmmjoaaCur
import Derived.Test.YtaggjadgbmmjoaaBase2
import Derived.BigQuiet
namespace Go.Proofs.Ytaggjadgbmmjoaa
open Go.RowKit Go.ChangeShapes Go.WideShapes Go.Deep

theorem vInts_same (v1 v2 : Value) (l : List Int) (w : World) {lo1 hi1 lo2 hi2 : Nat} (h1 : Rd Nm.cells 1 w lo1 hi1 v1 l) (h2 : Rd Nm.cells 1 w lo2 hi2 v2 l) (hh1 : hi1 ≤ w.heap.size) (hh2 : hi2 ≤ w.heap.size) :
    Calls Try.prog 20 #[v1, v2] w fun e w' => e = .returned (.bool true) ∧ Below w.heap.size w w' := by
  obtain ⟨A, n, c, rfl, H, hc, hm⟩ := h1.form
  obtain ⟨A2, n2, c2, rfl, H2, hc2, hm2⟩ := h2.form
  obtain rfl : n = n2 := by rw [H.out, H2.out]
  have hnd : ((n : Int) != (n : Int)) = false := by simp
  clear H H2
  go_enter Try.func20, Try.ntmps20
  go_wp2_with fail
  go_loopw [5] (fun i wr => ∃ k : Nat, k ≤ n ∧ i = .int .i64 k ∧ Below w.heap.size w wr) (fun i _ => n - (intOf i).toNat)
  case atStart => exact ⟨0, Nat.zero_le _, rfl, Below.refl _ _⟩
  case round =>
    obtain ⟨k, hk, rfl, hb⟩ := hrel
    by_cases hlt : k < n
    · obtain ⟨b, off, t, rfl, hx, _, _, f0⟩ := Nm.get h1 hlt hb hh1
      obtain ⟨b2, off2, t2, rfl, hy, _, _, g0⟩ := Nm.get h2 hlt hb hh2
      obtain rfl := Option.some.inj (hx.out.symm.trans hy.out)
      have hki : (k : Int) < (n : Int) := by omega
      clear hx hy
      go_wp2_with fail
      go_quiet (fail)
      go_wp2_with fail
      go_roundw
      case rel => exact ⟨k + 1, by omega, by go_num, below_drewN hb _⟩
      case measure => simp [intOf]; omega
    · go_wp2_with fail
      go_ret
      exact ⟨rfl, hb⟩
theorem vBig_any (v : Value) (l : List UInt8) (w : World) {lo hi : Nat} (h : Rd By.cells 1 w lo hi v l) : Calls Try.prog 4 #[v] w fun e w' => e = .returned (.bool (decide (65536 < l.length))) ∧ w = w' := by
  obtain ⟨A, n, c, rfl, H, hc, hm⟩ := h.form
  have HN := H
  go_enter Try.func4, Try.ntmps4
  go_wp2_with fail
  go_ret
  exact ⟨ret_bool (by rw [← HN.out]; apply decide_eq_decide.2; omega), rfl⟩

end Go.Proofs.Ytaggjadgbmmjoaa
