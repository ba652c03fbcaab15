/- The library's stable sort of a short list of numbers. Conditions: at most 19 numbers; the comparison reads only, and does not depend on the numbers' own memory. -/
import Derived.Test.YtgnalbfepkcokaaIns
namespace Go.Proofs.Ytgnalbfepkcokaa
open Go.RowKit Go.ChangeShapes Go.WideShapes Go.Deep

set_option maxHeartbeats 1000000 in
theorem stable_any (g : FuncId) (lb : Array Value) (lt : Int → Int → Bool) (cz : Int → Int → Int) (hcz : ∀ x y, cz x y < 0 ↔ lt x y = true) (w0 : World) (v : Value) (l : List Int) (n : Nat) (hn : n = l.length) (hn20 : n < 20) (w : World) {hi : Nat} (hb0 : Below w0.heap.size w0 w)
    (h : Ow Nm.cells 1 3 w w0.heap.size hi v l) (hh : hi ≤ w.heap.size)
    (eg : ∀ args w, (callFunc g args).run Try.prog w = .ok (.enter g args) w)
    (hp : ∀ (x y : Int) (W : World), x ∈ l → y ∈ l → Below w0.heap.size w0 W → Calls Try.prog g (#[.int .i64 x, .int .i64 y] ++ lb) W fun e w' => e = .returned (.int .i64 (cz x y)) ∧ ∃ m, w' = W.drewN m) :
    Calls Try.prog 130 #[v, .int .i64 n, .func (.func g) #[] lb] w fun e w' => e = .returned (.tuple #[]) ∧ Ow Nm.cells 1 3 w' w0.heap.size hi v (sortK lt l) ∧ hi ≤ w'.heap.size ∧ Below w0.heap.size w0 w' := by
  have c1 := isort_any g lb lt cz hcz w0 v l n hn w hb0 h hh eg hp
  have hd1 : decide ((20 : Int) ≤ (n : Int)) = false := decide_eq_false (by omega)
  have hd2 : decide ((20 : Int) < (n : Int)) = false := decide_eq_false (by omega)
  clear hp hcz hn
  go_enter Try.func130, Try.ntmps130
  go_wp2_with fail
  go_loopw [7, 8] (fun a b wr => wr = w ∧ a = .int .i64 0 ∧ b = .int .i64 20) (fun _ _ _ => 0)
  case atStart => exact ⟨rfl, rfl, rfl⟩
  case round =>
    obtain ⟨rfl, rfl, rfl⟩ := hrel
    go_wp2_with fail
    refine c1.mono ?_
    rintro e w1 ⟨rfl, o1, hh1, b1⟩
    go_wp2_with fail
    go_loopw [6, 7, 8, 9] (fun a _ _ _ wr => wr = w1 ∧ a = .int .i64 20) (fun _ _ _ _ _ => 0)
    case atStart => exact ⟨rfl, rfl⟩
    case round =>
      obtain ⟨rfl, rfl⟩ := hrel
      go_wp2_with fail
      go_end0
      exact ⟨rfl, o1, hh1, b1⟩

set_option maxHeartbeats 1000000 in
theorem sortStable_any (g : FuncId) (lb : Array Value) (lt : Int → Int → Bool) (cz : Int → Int → Int) (hcz : ∀ x y, cz x y < 0 ↔ lt x y = true) (w0 : World) (v : Value) (l : List Int) (hn20 : l.length < 20) (w : World) {hi : Nat} (hb0 : Below w0.heap.size w0 w)
    (h : Ow Nm.cells 1 3 w w0.heap.size hi v l) (hh : hi ≤ w.heap.size)
    (eg : ∀ args w, (callFunc g args).run Try.prog w = .ok (.enter g args) w)
    (hp : ∀ (x y : Int) (W : World), x ∈ l → y ∈ l → Below w0.heap.size w0 W → Calls Try.prog g (#[.int .i64 x, .int .i64 y] ++ lb) W fun e w' => e = .returned (.int .i64 (cz x y)) ∧ ∃ m, w' = W.drewN m) :
    Calls Try.prog 125 #[v, .func (.func g) #[] lb] w fun e w' => e = .returned (.tuple #[]) ∧ Ow Nm.cells 1 3 w' w0.heap.size hi v (sortK lt l) ∧ hi ≤ w'.heap.size ∧ Below w0.heap.size w0 w' := by
  obtain ⟨A, n, c, rfl, H, hc, hm⟩ := h.rd.form
  have c1 := stable_any g lb lt cz hcz w0 _ l n H.out (by rw [H.out]; exact hn20) w hb0 h hh eg hp
  clear hp hcz
  go_enter Try.func125, Try.ntmps125
  go_wp2_with fail
  refine c1.mono ?_
  rintro e w1 ⟨rfl, o1, hh1, b1⟩
  go_wp2_with fail
  go_end0
  exact ⟨rfl, o1, hh1, b1⟩

end Go.Proofs.Ytgnalbfepkcokaa
