/- Whether slots and waiting interrupts are those of a queue, in the reference. No condition. -/
import Derived.Test.YtaggjadgbmmjoaaQuArea
namespace Go.Proofs.Ytaggjadgbmmjoaa
open Go.RowKit Go.ChangeShapes Go.WideShapes Go.Deep

theorem specFind_w (v : Value) (l : List Sl) (i : Int) (w : World) {lo hi : Nat} (h : Rd Sl.cells 3 w lo hi v l) (hh : hi ≤ w.heap.size) : Calls Try.prog 43 #[v, .int .i64 i] w fun e w' => e = .returned (.int .i64 (Sl.ix l i)) ∧ w = w' := l8Find_any v l i w h hh


end Go.Proofs.Ytaggjadgbmmjoaa
