/- The library's count of bits, at small numbers. Condition: at most 255. -/
import Derived.Test.YtaggjadgbmmjoaaBase2
import Derived.Lib.BitFns
namespace Go.Proofs.Ytaggjadgbmmjoaa
open Go.RowKit Go.ChangeShapes Go.WideShapes Go.Deep

set_option maxHeartbeats 4000000 in
set_option maxRecDepth 100000 in
theorem len64_small (x : Int) (w : World) (h0 : 0 ≤ x) (h1 : x ≤ 255) : Calls Try.prog 77 #[.int .u64 x] w fun e w' => (∃ r, e = .returned (.int .i64 r)) ∧ w' = w := by
  have d1 : decide ((4294967296 : Int) ≤ x) = false := decide_eq_false (by omega)
  have d2 : decide ((65536 : Int) ≤ x) = false := decide_eq_false (by omega)
  have d3 : decide ((256 : Int) ≤ x) = false := decide_eq_false (by omega)
  go_enter Try.func77, Try.ntmps77
  go_wp2
  all_goals (go_ret; exact ⟨⟨_, rfl⟩, rfl⟩)
theorem len_small (x : Int) (w : World) (h0 : 0 ≤ x) (h1 : x ≤ 255) : Calls Try.prog 65 #[.int .u64 x] w fun e w' => (∃ r, e = .returned (.int .i64 r)) ∧ w' = w := by
  go_enter Try.func65, Try.ntmps65
  go_wp2_with (go_at_call 77; refine (len64_small x _ h0 h1).mono ?_; rintro e w' ⟨⟨r, rfl⟩, rfl⟩)
  go_ret
  exact ⟨⟨r, rfl⟩, rfl⟩

end Go.Proofs.Ytaggjadgbmmjoaa
