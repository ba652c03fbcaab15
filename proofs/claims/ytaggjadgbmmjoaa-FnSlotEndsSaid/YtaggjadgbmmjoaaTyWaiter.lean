/- The type 'Waiter' of the law text and of the program: its data, its cells, and what the law text's own helpers do with lists of it. No condition. -/
import Derived.Test.YtaggjadgbmmjoaaBase
namespace Go.Proofs.Ytaggjadgbmmjoaa
open Go.RowKit Go.ChangeShapes Go.WideShapes Go.Deep

structure Wt where
  irq : Int
  prio : Int
  deriving DecidableEq, Inhabited

def Wt.cells (t : Wt) : List Value := [.int .i64 t.irq, .int .i64 t.prio]
def Wt.val (t : Wt) : Value := .agg #[.int .i64 t.irq, .int .i64 t.prio]
def Wt.zero : Wt := ⟨0, 0⟩
theorem Wt.cells_len (t : Wt) : t.cells.length = 2 := rfl
theorem Wt.info : (Try.prog.info? 64).map (fun i => (i.zero, i.size, i.bytes)) = some (some (.agg #[.int .i64 0, .int .i64 0]), 2, 16) := by kernel_rfl
theorem Wt.get {w : World} {lo hi : Nat} {A : Option Addr} {n c k : Nat} {l : List Wt} (h : Rd Wt.cells 2 w lo hi (.slice A n c) l) (hk : k < n) {B : Nat} {wr : World} (hb : Below B w wr) (hB : hi ≤ B) :
    ∃ b off t, A = some ⟨b, off, none⟩ ∧ Hid (l[k]? = some t) ∧ lo ≤ b ∧ b < hi ∧ wr.cell? ⟨b, off + k * 2, none⟩ = some (.int .i64 t.irq) ∧ wr.cell? ⟨b, off + k * 2 + 1, none⟩ = some (.int .i64 t.prio) := by
  obtain ⟨b, off, t, hA, hx, h1, h2, h3⟩ := h.get hk hb hB
  exact ⟨b, off, t, hA, hx, h1, h2, h3 0 _ rfl, h3 1 _ rfl⟩
def Wt.eqB (x y : Wt) : Bool := x.irq == y.irq && (x.prio == y.prio)
theorem Wt.eqB_iff (x y : Wt) : x.eqB y = true ↔ x = y := by
  cases x; cases y; simp [Wt.eqB]
def Wt.eqL (a b : List Wt) : Bool := decide (a = b)



theorem Wt.one (y : Wt) (u : Value) (h : u ∈ Wt.cells y) : u.oneCell' = true := by
  simp only [Wt.cells, List.mem_cons, List.not_mem_nil, or_false] at h
  rcases h with rfl | rfl <;> rfl

/-- what marking writes, from k on -/
def Wt.mark (k : Int) : Wt := ⟨k, k + 1⟩
def Wt.markL (k : Int) (n : Nat) : List Wt := (List.range n).map fun (i : Nat) => Wt.mark (k + 2 * i)
theorem Wt.markL_len (k : Int) (n : Nat) : (Wt.markL k n).length = n := by simp [Wt.markL]
theorem Wt.markL_succ (k : Int) (n : Nat) : Wt.markL k (n + 1) = Wt.markL k n ++ [Wt.mark (k + 2 * n)] := by simp [Wt.markL, List.range_succ]


end Go.Proofs.Ytaggjadgbmmjoaa
