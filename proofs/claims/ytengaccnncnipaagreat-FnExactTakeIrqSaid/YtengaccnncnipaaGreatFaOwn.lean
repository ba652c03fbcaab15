/- Copies of numbers as rows that can grow. Condition: at most 1048576 numbers. -/
import Derived.Test.YtengaccnncnipaaGreatFaH
namespace Go.Proofs.YtengaccnncnipaaGreat
open Go.RowKit Go.ChangeShapes Go.WideShapes Go.Deep

theorem l1Own_own (B : Nat) (v : Value) (l : List Int) (w : World) {lo hi : Nat} (h : Rd Nm.cells 1 w lo hi v l) (hh : hi ≤ w.heap.size) (hB : B ≤ w.heap.size) (hl : l.length ≤ 1048576) :
    Calls Tryz.prog 102 #[v] w fun e w' => ∃ v', e = .returned v' ∧ w'.ownsRow B 3 1 v' l.length (l.flatMap Nm.cells) ∧ Below w.heap.size w w' := by
  have oE := own_empty w (base := w.heap.size) 3 1 (Nat.le_refl _)
  have o4 := own_empty w (base := B) 3 1 hB
  have b4 := (Below.refl w.heap.size w).alloc (Nat.le_refl _) (.cells #[] 3)
  have h4 := h.below b4 hh
  obtain ⟨A, n, c, rfl, H, hc, hm⟩ := h.form
  rw [← H.out] at hl
  go_enter Tryz.func102, Tryz.ntmps102
  go_wp2_with (at_builtin; (refine Nm.app_rd rfl _ _ rfl B (.slice (some ⟨w.heap.size, 0, none⟩) 0 0) 0 [] rfl o4 rfl h4 (by omega) (by simp; omega) ?_); (intro v3 w3 o3 g3))
  have oR := Ow.of_own Nm.cells_len o3 (l := l) (by simp) (by rw [← H.out]; omega)
  have b3 : Below w.heap.size w w3 := b4.grown g3 (by simp) (own_ge oE)
  obtain ⟨A3, n3, d3, rfl, _, _, _⟩ := oR.rd.form
  rw [Nat.zero_add, List.nil_append, H.out] at o3
  go_ret
  exact ⟨.slice A3 n3 d3, rfl, o3, b3⟩
theorem copyInts_own (B : Nat) (v : Value) (l : List Int) (w : World) {lo hi : Nat} (h : Rd Nm.cells 1 w lo hi v l) (hh : hi ≤ w.heap.size) (hB : B ≤ w.heap.size) (hl : l.length ≤ 1048576) :
    Calls Tryz.prog 82 #[v] w fun e w' => ∃ v', e = .returned v' ∧ w'.ownsRow B 3 1 v' l.length (l.flatMap Nm.cells) ∧ Below w.heap.size w w' := by
  have oE := own_empty w (base := w.heap.size) 3 1 (Nat.le_refl _)
  have o4 := own_empty w (base := B) 3 1 hB
  have b4 := (Below.refl w.heap.size w).alloc (Nat.le_refl _) (.cells #[] 3)
  have h4 := h.below b4 hh
  obtain ⟨A, n, c, rfl, H, hc, hm⟩ := h.form
  rw [← H.out] at hl
  go_enter Tryz.func82, Tryz.ntmps82
  go_wp2_with (at_builtin; (refine Nm.app_rd rfl _ _ rfl B (.slice (some ⟨w.heap.size, 0, none⟩) 0 0) 0 [] rfl o4 rfl h4 (by omega) (by simp; omega) ?_); (intro v3 w3 o3 g3))
  have oR := Ow.of_own Nm.cells_len o3 (l := l) (by simp) (by rw [← H.out]; omega)
  have b3 : Below w.heap.size w w3 := b4.grown g3 (by simp) (own_ge oE)
  obtain ⟨A3, n3, d3, rfl, _, _, _⟩ := oR.rd.form
  rw [Nat.zero_add, List.nil_append, H.out] at o3
  go_ret
  exact ⟨.slice A3 n3 d3, rfl, o3, b3⟩

end Go.Proofs.YtengaccnncnipaaGreat
