/- The timers' data, and the functions on one timer. -/
import Derived.Test.YtmblpgocgkfjcaaBase
namespace Go.Proofs.Ytmblpgocgkfjcaa
open Go.RowKit Go.ChangeShapes Go.WideShapes Go.Deep

structure Tm where
  armed : Bool
  next : Int
  every : Int
  irq : Int
  deriving DecidableEq, Inhabited

def Tm.cells (t : Tm) : List Value := [.bool t.armed, .int .i64 t.next, .int .i64 t.every, .int .i64 t.irq]
def Tm.val (t : Tm) : Value := .agg #[.bool t.armed, .int .i64 t.next, .int .i64 t.every, .int .i64 t.irq]

/-- is a number in a range -/
def inB (n a b : Int) : Bool := decide (a ≤ n) && decide (n ≤ b)
theorem inB_true {n a b : Int} (h : inB n a b = true) : a ≤ n ∧ n ≤ b := by simpa [inB] using h
theorem inB_false {n a b : Int} (h : inB n a b = false) : n < a ∨ b < n := by
  simp only [inB, Bool.and_eq_false_iff, decide_eq_false_iff_not] at h; omega

def Tm.ok (t : Tm) : Bool := inB t.next 0 100000 && (inB t.every 0 100000 && (inB t.irq 0 7 && (t.armed || t.next == 0)))

theorem l1In_any (n a b : Int) (w : World) : Calls Try.prog 55 #[.int .i64 n, .int .i64 a, .int .i64 b] w fun e w' => e = .returned (.bool (inB n a b)) ∧ w = w' := by
  go_enter Try.func55, Try.ntmps55
  go_wp2
  all_goals (go_ret; exact ⟨ret_bool (by simp [inB, *] <;> omega), rfl⟩)
theorem inside_any (n a b : Int) (w : World) : Calls Try.prog 56 #[.int .i64 n, .int .i64 a, .int .i64 b] w fun e w' => e = .returned (.bool (inB n a b)) ∧ w = w' := by
  go_enter Try.func56, Try.ntmps56
  go_wp2
  all_goals (go_ret; exact ⟨ret_bool (by simp [inB, *] <;> omega), rfl⟩)

theorem l11Tick_any (n : Int) (w : World) : Calls Try.prog 42 #[.int .i64 n] w fun e w' => e = .returned (.bool (inB n 0 100000)) ∧ w = w' := by
  go_enter Try.func42, Try.ntmps42
  go_wp2_with (go_at_call 55; refine (l1In_any _ _ _ _).mono ?_; rintro e w' ⟨rfl, rfl⟩)
  go_ret
  exact ⟨rfl, rfl⟩
theorem isTick_any (n : Int) (w : World) : Calls Try.prog 40 #[.int .i64 n] w fun e w' => e = .returned (.bool (inB n 0 100000)) ∧ w = w' := by
  go_enter Try.func40, Try.ntmps40
  go_wp2_with (go_at_call 56; refine (inside_any _ _ _ _).mono ?_; rintro e w' ⟨rfl, rfl⟩)
  go_ret
  exact ⟨rfl, rfl⟩
theorem l6Irq_any (n : Int) (w : World) : Calls Try.prog 60 #[.int .i64 n] w fun e w' => e = .returned (.bool (inB n 0 7)) ∧ w = w' := by
  go_enter Try.func60, Try.ntmps60
  go_wp2_with (go_at_call 55; refine (l1In_any _ _ _ _).mono ?_; rintro e w' ⟨rfl, rfl⟩)
  go_ret
  exact ⟨rfl, rfl⟩
theorem isIrq_any (n : Int) (w : World) : Calls Try.prog 41 #[.int .i64 n] w fun e w' => e = .returned (.bool (inB n 0 7)) ∧ w = w' := by
  go_enter Try.func41, Try.ntmps41
  go_wp2_with (go_at_call 56; refine (inside_any _ _ _ _).mono ?_; rintro e w' ⟨rfl, rfl⟩)
  go_ret
  exact ⟨rfl, rfl⟩

theorem Tm.ok_of (t : Tm) {b : Bool} (h : b = t.ok) : Ending.returned (.bool b) = .returned (.bool t.ok) := by rw [h]

theorem l11One_any (t : Tm) (w : World) : Calls Try.prog 39 #[t.val] w fun e w' => e = .returned (.bool t.ok) ∧ Below w.heap.size w w' := by
  unfold Tm.val
  go_enter Try.func39, Try.ntmps39
  go_wp2_with (first | (go_at_call 42; refine (l11Tick_any _ _).mono ?_; rintro e w' ⟨rfl, rfl⟩) | (go_at_call 60; refine (l6Irq_any _ _).mono ?_; rintro e w' ⟨rfl, rfl⟩))
  all_goals (go_ret; exact ⟨ret_bool (by simp [Tm.ok, *]), by go_grown⟩)
theorem implIsTimer_any (t : Tm) (w : World) : Calls Try.prog 14 #[t.val] w fun e w' => e = .returned (.bool t.ok) ∧ Below w.heap.size w w' := by
  unfold Tm.val
  go_enter Try.func14, Try.ntmps14
  go_wp2_with (first | (go_at_call 40; refine (isTick_any _ _).mono ?_; rintro e w' ⟨rfl, rfl⟩) | (go_at_call 41; refine (isIrq_any _ _).mono ?_; rintro e w' ⟨rfl, rfl⟩))
  all_goals (go_ret; exact ⟨ret_bool (by simp [Tm.ok, *]), by go_grown⟩)
theorem specIsTimer_any (t : Tm) (w : World) : Calls Try.prog 12 #[t.val] w fun e w' => e = .returned (.bool t.ok) ∧ Below w.heap.size w w' := by
  have h1 := l11One_any t
  unfold Tm.val at h1 ⊢
  go_enter Try.func12, Try.ntmps12
  go_wp2_with (go_at_call 39; refine (h1 _).mono ?_; rintro e w' ⟨rfl, hb⟩)
  go_ret
  exact ⟨rfl, by refine Below.trans ?_ (hb.mono (by simp)); go_grown⟩
theorem toTimer_any (t : Tm) (w : World) : Calls Try.prog 13 #[t.val] w fun e w' => e = .returned t.val ∧ Below w.heap.size w w' := by
  unfold Tm.val
  go_enter Try.func13, Try.ntmps13
  go_wp2
  go_returns
  exact ⟨rfl, by go_grown⟩

end Go.Proofs.Ytmblpgocgkfjcaa
