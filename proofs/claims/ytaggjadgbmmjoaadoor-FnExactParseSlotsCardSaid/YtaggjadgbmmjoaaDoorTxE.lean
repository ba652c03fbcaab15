/- What the library's functions of numbers read of the program's variables, and that it stands where only new blocks have come. No condition. -/
import Derived.Test.YtaggjadgbmmjoaaDoorTxLay
import Derived.Test.YtaggjadgbmmjoaaDoorTxR2
namespace Go.Proofs.YtaggjadgbmmjoaaDoor
open Go.RowKit Go.ChangeShapes Go.WideShapes Go.Deep

def Tx.Env (w : World) : Prop := (∃ tp p, w.var? Tryd.prog "strconv.ErrSyntax" = some #[.iface tp p]) ∧ Lib.TabIs Tryd.prog w "internal/strconv.uint64pow10" .u64 Lib.pow10Tab ∧ (∃ m, w.cell? ⟨0, 0, none⟩ = some (.int .i64 m))
theorem Tx.var_below {P : Program} {w w' : World} {nm : String} {cs : Array Value} (h : w.var? P nm = some cs) (hb : Below w.heap.size w w') : w'.var? P nm = some cs := by
  unfold World.var? at h ⊢
  cases hg : P.globalNamed nm with
  | none => rw [hg] at h; simp at h
  | some g =>
    rw [hg] at h
    simp only [Option.bind_some] at h ⊢
    have hlt : g < w.heap.size := by
      by_cases hx : g < w.heap.size
      · exact hx
      · rw [Array.getElem?_eq_none (by omega)] at h; simp at h
    rw [hb.block g hlt]
    exact h
theorem Tx.Env.below {w w' : World} (h : Tx.Env w) (hb : Below w.heap.size w w') : Tx.Env w' := by
  obtain ⟨⟨tp, p, h1⟩, h2, m, h3⟩ := h
  refine ⟨⟨tp, p, Tx.var_below h1 hb⟩, Tx.var_below h2 hb, m, ?_⟩
  have hlt : 0 < w.heap.size := by
    by_cases hx : 0 < w.heap.size
    · exact hx
    · unfold World.cell? at h3
      rw [Array.getElem?_eq_none (by simpa using hx)] at h3
      simp at h3
  exact (hb.cell (p := ⟨0, 0, none⟩) hlt).trans h3

theorem Tx.atoi_dec_ : ∀ n ∈ List.range 16, Lib.atoi (Tx.dec (n : Int)) = some (n : Int) := by decide
theorem Tx.atoi_dec {n : Int} (h0 : 0 ≤ n) (h1 : n ≤ 15) : Lib.atoi (Tx.dec n) = some n := by
  have := Tx.atoi_dec_ n.toNat (by rw [List.mem_range]; omega)
  rwa [show ((n.toNat : Nat) : Int) = n by omega] at this
theorem Tx.itoa_dec {n : Int} (h0 : 0 ≤ n) (h1 : n ≤ 15) : Lib.itoa n = Tx.dec n := by
  rw [Lib.itoa, if_neg (by omega), Tx.dec_eq h0 (by omega)]

end Go.Proofs.YtaggjadgbmmjoaaDoor
