/- Lists of lines: their validity, in the program and in the reference. No condition. -/
import Derived.Test.YtgnalbfepkcokaaLn
namespace Go.Proofs.Ytgnalbfepkcokaa
open Go.RowKit Go.ChangeShapes Go.WideShapes Go.Deep

def Ln.good (l : List Ln) : Bool := decide ((l.length : Int) ≤ 6) && l.all Ln.ok

theorem l7Good_any (v : Value) (l : List Ln) (w : World) {lo hi : Nat} (h : Rd Ln.cells 4 w lo hi v l) (hh : hi ≤ w.heap.size) : Calls Try.prog 76 #[v] w fun e w' => e = .returned (.bool (Ln.good l)) ∧ Below w.heap.size w w' := by
  obtain ⟨A, n, c, rfl, H, hc, hm⟩ := h.form
  have c1 := fun t => l7One_any t
  unfold Ln.val at c1
  go_enter Try.func76, Try.ntmps76
  go_wp2_with fail
  go_loopw [3] (fun i wr => ∃ k : Nat, k ≤ n ∧ i = .int .i64 k ∧ Below w.heap.size w wr ∧ (l.take k).all Ln.ok = true) (fun i _ => n - (intOf i).toNat)
  case atStart => exact ⟨0, Nat.zero_le _, rfl, Below.refl _ _, by simp⟩
  case round =>
    obtain ⟨k, hk, rfl, hb, he⟩ := hrel
    have HE := Lib.hid he
    clear he
    by_cases hlt : k < n
    · obtain ⟨b, off, x, rfl, hx, _, _, f0, f1, f2, f3⟩ := Ln.get h hlt hb hh
      have c1 := c1 x
      cases hq : x.ok
      · rw [hq] at c1
        have HF := Lib.hid (show Ln.good l = false from by
          have : l.all Ln.ok = false := by
            rw [List.all_eq_false]
            exact ⟨x, List.mem_of_getElem? hx.out, by simp [hq]⟩
          simp [Ln.good, this])
        clear hq
        go_wp2_with (go_at_call 69; refine (c1 _).mono ?_; rintro e w1 ⟨rfl, hb1⟩)
        go_ret
        exact ⟨ret_bool HF.out.symm, hb.trans (hb1.mono hb.size)⟩
      · rw [hq] at c1
        have HF := Lib.hid hq
        clear hq
        go_wp2_with (go_at_call 69; refine (c1 _).mono ?_; rintro e w1 ⟨rfl, hb1⟩)
        go_roundw
        case rel => exact ⟨k + 1, by omega, by go_num, hb.trans (hb1.mono hb.size), by rw [List.take_add_one, List.all_append, HE.out, hx.out]; simp [HF.out]⟩
        case measure => simp [intOf]; omega
    · go_wp2_with fail
      go_ret
      have hkn : k = n := by omega
      subst hkn
      refine ⟨ret_bool ?_, hb⟩
      have he := HE.out
      rw [List.take_of_length_le (by rw [← H.out]; omega)] at he
      have hn := H.out
      simp [Ln.good, he, ← hn]

theorem notLine_any (t : Ln) (w : World) : Calls Try.prog 90 #[t.val] w fun e w' => e = .returned (.bool (!t.ok)) ∧ Below w.heap.size w w' := by
  have c1 := implIsLine_any t
  generalize t.ok = b at c1
  unfold Ln.val at c1 ⊢
  go_enter Try.func90, Try.ntmps90
  go_wp2_with (go_at_call 11; refine (c1 _).mono ?_; rintro e w1 ⟨rfl, hb1⟩)
  go_ret
  exact ⟨rfl, (((Below.refl _ _).alloc (Nat.le_refl _) _).trans (hb1.mono (by simp)))⟩

theorem implAreLines_any (v : Value) (l : List Ln) (w : World) {lo hi : Nat} (h : Rd Ln.cells 4 w lo hi v l) (hh : hi ≤ w.heap.size) : Calls Try.prog 29 #[v] w fun e w' => e = .returned (.bool (Ln.good l)) ∧ Below w.heap.size w w' := by
  have c1 := Ln.contains_any 90 #[] (fun t => !t.ok) v l w h hh (enters Try.func90 (by kernel_rfl) rfl) (fun t W _ _ => notLine_any t W)
  obtain ⟨A, n, c, rfl, H, hc, hm⟩ := h.form
  have hq : (l.any fun t => !t.ok) = !(l.all Ln.ok) := by
    rw [List.not_all_eq_any_not]
  rw [hq] at c1
  by_cases h6 : (n : Int) ≤ 6
  · have HF := Lib.hid (show Ln.good l = l.all Ln.ok from by simp [Ln.good, ← H.out, h6])
    clear hq
    generalize l.all Ln.ok = b at c1 HF
    cases b
    all_goals
      go_enter Try.func29, Try.ntmps29
      go_wp2_with (go_at_call 89; refine c1.mono ?_; rintro e w1 ⟨rfl, hb1⟩)
      go_ret
      exact ⟨ret_bool HF.out.symm, hb1⟩
  · have HF := Lib.hid (show Ln.good l = false from by simp [Ln.good, ← H.out, h6])
    have h6' : decide ((n : Int) ≤ 6) = false := by simpa using h6
    go_enter Try.func29, Try.ntmps29
    go_wp2_with (go_at_call 89; refine c1.mono ?_; rintro e w1 ⟨rfl, hb1⟩)
    go_ret
    exact ⟨ret_bool HF.out.symm, Below.refl _ _⟩

end Go.Proofs.Ytgnalbfepkcokaa
