/- The library's sort of at most 12 numbers. Condition: at most 12 numbers. -/
import Derived.Test.YtaggjadgbmmjoaaInsO
import Derived.Test.YtaggjadgbmmjoaaLenS
namespace Go.Proofs.Ytaggjadgbmmjoaa
open Go.RowKit Go.ChangeShapes Go.WideShapes Go.Deep


set_option maxHeartbeats 4000000 in
theorem pdqO_any (w0 : World) (v : Value) (l : List Int) (n : Nat) (hn : n = l.length) (hn12 : n ≤ 12) (r : Int) (w : World) {hi : Nat} (hb0 : Below w0.heap.size w0 w) (h : Ow Nm.cells 1 3 w w0.heap.size hi v l) (hh : hi ≤ w.heap.size) :
    Calls Try.prog 64 #[v, .int .i64 0, .int .i64 n, .int .i64 r] w fun e w' => e = .returned (.tuple #[]) ∧ Ow Nm.cells 1 3 w' w0.heap.size hi v (sortK ltI l) ∧ hi ≤ w'.heap.size ∧ Below w0.heap.size w0 w' := by
  have c1 := isortO_any w0 v l n hn w hb0 h hh
  have hd : decide ((n : Int) ≤ 12) = true := decide_eq_true (by omega)
  clear hn
  go_enter Try.func64, Try.ntmps64
  go_wp2_with fail
  go_loopw [1, 2, 3, 8, 9] (fun a b c d e wr => wr = w ∧ a = .int .i64 0 ∧ b = .int .i64 n) (fun _ _ _ _ _ _ => 0)
  case atStart => exact ⟨rfl, rfl, rfl⟩
  case round =>
    obtain ⟨rfl, rfl, rfl⟩ := hrel
    go_wp2_with fail
    refine c1.mono ?_
    rintro e w1 ⟨rfl, o1, hh1, b1⟩
    go_wp2_with fail
    (try simp only [Exit.inBlock, Exit.then]); refine bodyPost_ret (results_none rfl _ _ _) rfl ?_
    exact ⟨rfl, o1, hh1, b1⟩

theorem sortInts_any (w0 : World) (v : Value) (l : List Int) (hl : l.length ≤ 12) (w : World) {hi : Nat} (hb0 : Below w0.heap.size w0 w) (h : Ow Nm.cells 1 3 w w0.heap.size hi v l) (hh : hi ≤ w.heap.size) :
    Calls Try.prog 59 #[v] w fun e w' => e = .returned (.tuple #[]) ∧ Ow Nm.cells 1 3 w' w0.heap.size hi v (sortK ltI l) ∧ hi ≤ w'.heap.size ∧ Below w0.heap.size w0 w' := by
  obtain ⟨A, n, c, rfl, H, hc, hm⟩ := h.rd.form
  rw [← H.out] at hl
  have c1 := fun r => pdqO_any w0 _ l n H.out hl r w hb0 h hh
  have c2 := fun W => len_small n W (by omega) (by omega)
  clear h
  go_enter Try.func59, Try.ntmps59
  go_wp2_with fail
  refine (c2 _).mono ?_; rintro e w' ⟨⟨r, rfl⟩, rfl⟩
  go_wp2_with fail
  refine (c1 r).mono ?_; rintro e w1 ⟨rfl, o1, hh1, b1⟩
  go_wp2_with fail
  go_end0
  exact ⟨rfl, o1, hh1, b1⟩

end Go.Proofs.Ytaggjadgbmmjoaa
