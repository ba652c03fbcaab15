/- Comparing two numbers as the library does. No condition. -/
import Derived.Test.YtaggjadgbmmjoaaSmall
namespace Go.Proofs.Ytaggjadgbmmjoaa
open Go.RowKit Go.ChangeShapes Go.WideShapes Go.Deep

def cmpI (a b : Int) : Int := if a < b then -1 else if b < a then 1 else 0
theorem cmpI_neg (a b : Int) : cmpI a b < 0 ↔ a < b := by unfold cmpI; split <;> (try split) <;> omega

theorem compare_any (a b : Int) (w : World) : Calls Try.prog 62 #[.int .i64 a, .int .i64 b] w fun e w' => e = .returned (.int .i64 (cmpI a b)) ∧ w' = w := by
  rcases Int.lt_trichotomy a b with h | h | h
  · have HC := Lib.hid (show cmpI a b = -1 from by simp [cmpI, h])
    go_enter Try.func62, Try.ntmps62
    go_wp2
    go_ret
    exact ⟨ret_int HC.out.symm, rfl⟩
  · subst h
    have HC := Lib.hid (show cmpI a a = 0 from by simp [cmpI])
    have h1 : ¬ a < a := by omega
    go_enter Try.func62, Try.ntmps62
    go_wp2
    go_ret
    exact ⟨ret_int HC.out.symm, rfl⟩
  · have h1 : ¬ a < b := by omega
    have HC := Lib.hid (show cmpI a b = 1 from by simp [cmpI, h, h1])
    go_enter Try.func62, Try.ntmps62
    go_wp2
    go_ret
    exact ⟨ret_int HC.out.symm, rfl⟩

end Go.Proofs.Ytaggjadgbmmjoaa
