/- The functions on slots: whether they are valid, finding, counting, putting and ending, in the program and in the reference. No condition. -/
import Derived.Test.YtengaccnncnipaaGreatSlOps
namespace Go.Proofs.YtengaccnncnipaaGreat
open Go.RowKit Go.ChangeShapes Go.WideShapes Go.Deep

def Sl.gI (l : List Sl) (i : Int) : Bool := Sl.good l && inB i 0 7
def Sl.gIP (l : List Sl) (i p : Int) : Bool := Sl.good l && (inB i 0 7 && inB p 0 15)
def Sl.fsOk (l : List Sl) (i : Int) : Bool := Sl.gI l i && decide (0 ≤ Sl.ix l i)
def Sl.fsV (l : List Sl) (i : Int) : Int := if Sl.fsOk l i then Sl.ix l i else 0
def Sl.emp (l : List Sl) : Int := if Sl.good l then (l.countP Sl.free : Nat) else 0
def Sl.pOk (l : List Sl) (i p : Int) : Bool := Sl.gIP l i p && Sl.putOk l i
def Sl.pR (l : List Sl) (i p : Int) : List Sl := if Sl.gIP l i p then Sl.putR l i p else []
def Sl.eOk (l : List Sl) (i : Int) : Bool := Sl.gI l i && Sl.endOk l i
def Sl.eR (l : List Sl) (i : Int) : List Sl := if Sl.gI l i then Sl.endR l i else []
theorem Sl.pR_len (l : List Sl) (i p : Int) : (Sl.pR l i p).length ≤ 1048576 := by
  unfold Sl.pR; split
  · rename_i h
    simp only [Sl.gIP, Bool.and_eq_true] at h
    exact Sl.putR_len l i p (by rw [Sl.good_len h.1]; decide)
  · simp
theorem Sl.eR_len (l : List Sl) (i : Int) : (Sl.eR l i).length ≤ 1048576 := by
  unfold Sl.eR; split
  · rename_i h
    simp only [Sl.gI, Bool.and_eq_true] at h
    exact Sl.endR_len l i (by rw [Sl.good_len h.1]; decide)
  · simp


end Go.Proofs.YtengaccnncnipaaGreat
