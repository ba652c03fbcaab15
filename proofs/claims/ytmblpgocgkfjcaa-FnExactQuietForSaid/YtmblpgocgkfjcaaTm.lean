/- The functions on one timer. No condition. -/
import Derived.Test.YtmblpgocgkfjcaaSmall
import Derived.Test.YtmblpgocgkfjcaaTyTimer
namespace Go.Proofs.Ytmblpgocgkfjcaa
open Go.RowKit Go.ChangeShapes Go.WideShapes Go.Deep

def Tm.ok (t : Tm) : Bool := inB t.next 0 100000 && (inB t.every 0 100000 && (inB t.irq 0 7 && (t.armed || t.next == 0)))

theorem l11One_any (t : Tm) (w : World) : Calls Try.prog 39 #[t.val] w fun e w' => e = .returned (.bool t.ok) ∧ Below w.heap.size w w' := by
  unfold Tm.val
  go_enter Try.func39, Try.ntmps39
  go_wp2_with (first | (go_at_call 42; refine (l11Tick_any _ _).mono ?_; rintro e w' ⟨rfl, rfl⟩) | (go_at_call 60; refine (l6Irq_any _ _).mono ?_; rintro e w' ⟨rfl, rfl⟩))
  all_goals (go_ret; exact ⟨ret_bool (by simp [Tm.ok, *]), by go_grown⟩)
theorem implIsTimer_any (t : Tm) (w : World) : Calls Try.prog 14 #[t.val] w fun e w' => e = .returned (.bool t.ok) ∧ Below w.heap.size w w' := by
  unfold Tm.val
  go_enter Try.func14, Try.ntmps14
  go_wp2_with (first | (go_at_call 40; refine (isTick_any _ _).mono ?_; rintro e w' ⟨rfl, rfl⟩) | (go_at_call 41; refine (isIrq_any _ _).mono ?_; rintro e w' ⟨rfl, rfl⟩))
  all_goals (go_ret; exact ⟨ret_bool (by simp [Tm.ok, *]), by go_grown⟩)
theorem specIsTimer_any (t : Tm) (w : World) : Calls Try.prog 12 #[t.val] w fun e w' => e = .returned (.bool t.ok) ∧ Below w.heap.size w w' := by
  have h1 := l11One_any t
  unfold Tm.val at h1 ⊢
  go_enter Try.func12, Try.ntmps12
  go_wp2_with (go_at_call 39; refine (h1 _).mono ?_; rintro e w' ⟨rfl, hb⟩)
  go_ret
  exact ⟨rfl, by refine Below.trans ?_ (hb.mono (by simp)); go_grown⟩

end Go.Proofs.Ytmblpgocgkfjcaa
