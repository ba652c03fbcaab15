/- Whether slots and waiting interrupts are those of a queue, in the program. No condition. -/
import Derived.Test.YtaggjadgbmmjoaaQu
import Derived.BigQuiet
import Derived.Deep.QuietTactic
namespace Go.Proofs.Ytaggjadgbmmjoaa
open Go.RowKit Go.ChangeShapes Go.WideShapes Go.Deep

theorem findIx_neg {α : Type} (p : α → Bool) (l : List α) : decide (findIx p l < 0) = !l.any p := by
  have := findIx_nonneg p l
  rw [← this]
  by_cases h : 0 ≤ findIx p l <;> simp [h] <;> omega


end Go.Proofs.Ytaggjadgbmmjoaa
