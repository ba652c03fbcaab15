/- Is a number in a list, in the reference. No condition. -/
import Derived.Test.YtgnalbfepkcokaaTyInt
import Derived.Test.YtgnalbfepkcokaaBase2
namespace Go.Proofs.Ytgnalbfepkcokaa
open Go.RowKit Go.ChangeShapes Go.WideShapes Go.Deep

theorem l1Has_any (v : Value) (l : List Int) (x : Int) (w : World) {lo hi : Nat} (h : Rd Nm.cells 1 w lo hi v l) (hh : hi ≤ w.heap.size) :
    Calls Try.prog 87 #[v, .int .i64 x] w fun e w' => e = .returned (.bool (l.contains x)) ∧ w = w' := by
  obtain ⟨A, n, c, rfl, H, hc, hm⟩ := h.form
  go_enter Try.func87, Try.ntmps87
  go_wp2_with fail
  go_loop [5] (fun j => ∃ m : Nat, m ≤ n ∧ j = .int .i64 m ∧ (l.take m).contains x = false) (fun j => n - (intOf j).toNat)
  case atStart => exact ⟨0, Nat.zero_le _, rfl, by simp⟩
  case round =>
    obtain ⟨m, hk, rfl, hs⟩ := hrel
    have HS := Lib.hid hs
    clear hs
    by_cases hlt : m < n
    · obtain ⟨b, off, y, rfl, hy, _, hbl, f0⟩ := Nm.get h hlt (Below.refl w.heap.size w) hh
      by_cases hxy : y = x
      · have HF := Lib.hid (show l.contains x = true from by rw [List.contains_iff_mem]; rw [← hxy]; exact List.mem_of_getElem? hy.out)
        rw [hxy] at f0
        clear hxy
        go_wp2_with fail
        go_ret
        have := HF.out
        rw [List.contains_eq_mem] at this
        exact ⟨ret_bool this.symm, rfl⟩
      · have HF := Lib.hid (show (l.take (m + 1)).contains x = false from by
          rw [List.take_add_one, hy.out]
          have := HS.out
          simp only [List.contains_eq_mem, decide_eq_false_iff_not] at this ⊢
          simp [this, Ne.symm hxy])
        go_wp2_with fail
        go_round
        case rel => exact ⟨m + 1, by omega, by go_num, HF.out⟩
        case measure => simp [intOf]; omega
    · go_wp2_with fail
      go_ret
      have := HS.out
      rw [List.take_of_length_le (by rw [← H.out]; omega), List.contains_eq_mem] at this
      exact ⟨ret_bool this.symm, rfl⟩

end Go.Proofs.Ytgnalbfepkcokaa
