/- Size tests of queues in a law. No condition. -/
import Derived.Test.YtghfdoibabaadaaQuOpen
namespace Go.Proofs.Ytghfdoibabaadaa
open Go.RowKit Go.ChangeShapes Go.WideShapes Go.Deep

theorem szQ_yes {n m : Nat} (h : n ≤ 1048576) (h2 : n + m ≤ 1048576) : szQ 1048576 n m = 1048576 - n - m := by
  unfold szQ szL
  repeat' split
  all_goals omega
theorem szQ_no {n m : Nat} (h : ¬ n + m ≤ 1048576) : szQ 1048576 n m = -1 := by
  unfold szQ szL
  repeat' split
  all_goals omega

end Go.Proofs.Ytghfdoibabaadaa
