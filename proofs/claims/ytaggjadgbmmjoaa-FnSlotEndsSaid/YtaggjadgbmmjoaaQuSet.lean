/- Whether a queue is settled and valid, in the program and in the reference. Condition (the program's inner function): valid slots. -/
import Derived.Test.YtaggjadgbmmjoaaQuWait
import Derived.Test.YtaggjadgbmmjoaaSlBn
namespace Go.Proofs.Ytaggjadgbmmjoaa
open Go.RowKit Go.ChangeShapes Go.WideShapes Go.Deep

def Qu.settled (ls : List Sl) (lw : List Wt) : Bool := match lw with
  | [] => true
  | w0 :: _ => decide (Sl.fx ls < 0) && (decide (Sl.bn ls < 0) || (Sl.at_ ls (Sl.bn ls)).wt.lt w0)
theorem Qu.settled_at {ls : List Sl} {lw : List Wt} {w0 : Wt} (h : lw[0]? = some w0) : Qu.settled ls lw = (decide (Sl.fx ls < 0) && (decide (Sl.bn ls < 0) || (Sl.at_ ls (Sl.bn ls)).wt.lt w0)) := by
  cases lw with
  | nil => cases h
  | cons x l => simp at h; subst h; rfl
def Qu.good (ls : List Sl) (lw : List Wt) : Bool := Qu.parts ls lw && Qu.settled ls lw




end Go.Proofs.Ytaggjadgbmmjoaa
