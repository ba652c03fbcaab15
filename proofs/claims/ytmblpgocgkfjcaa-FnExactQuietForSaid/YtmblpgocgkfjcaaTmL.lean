/- Lists of timers: their validity, in the program and in the reference. No condition. -/
import Derived.Test.YtmblpgocgkfjcaaTm
namespace Go.Proofs.Ytmblpgocgkfjcaa
open Go.RowKit Go.ChangeShapes Go.WideShapes Go.Deep

def Tm.good (l : List Tm) : Bool := decide ((l.length : Int) ≤ 8) && l.all Tm.ok

theorem l11Good_any (v : Value) (l : List Tm) (w : World) {lo hi : Nat} (h : Rd Tm.cells 4 w lo hi v l) (hh : hi ≤ w.heap.size) : Calls Try.prog 45 #[v] w fun e w' => e = .returned (.bool (Tm.good l)) ∧ Below w.heap.size w w' := by
  obtain ⟨A, n, c, rfl, H, hc, hm⟩ := h.form
  have c1 := fun t => l11One_any t
  unfold Tm.val at c1
  go_enter Try.func45, Try.ntmps45
  go_wp2_with fail
  go_loopw [3] (fun i wr => ∃ k : Nat, k ≤ n ∧ i = .int .i64 k ∧ Below w.heap.size w wr ∧ (l.take k).all Tm.ok = true) (fun i _ => n - (intOf i).toNat)
  case atStart => exact ⟨0, Nat.zero_le _, rfl, Below.refl _ _, by simp⟩
  case round =>
    obtain ⟨k, hk, rfl, hb, he⟩ := hrel
    have HE := Lib.hid he
    clear he
    by_cases hlt : k < n
    · obtain ⟨b, off, x, rfl, hx, _, _, f0, f1, f2, f3⟩ := Tm.get h hlt hb hh
      have c1 := c1 x
      cases hq : x.ok
      · rw [hq] at c1
        have HF := Lib.hid (show Tm.good l = false from by
          have : l.all Tm.ok = false := by
            rw [List.all_eq_false]
            exact ⟨x, List.mem_of_getElem? hx.out, by simp [hq]⟩
          simp [Tm.good, this])
        clear hq
        go_wp2_with (go_at_call 39; refine (c1 _).mono ?_; rintro e w1 ⟨rfl, hb1⟩)
        go_ret
        exact ⟨ret_bool HF.out.symm, hb.trans (hb1.mono hb.size)⟩
      · rw [hq] at c1
        have HF := Lib.hid hq
        clear hq
        go_wp2_with (go_at_call 39; refine (c1 _).mono ?_; rintro e w1 ⟨rfl, hb1⟩)
        go_roundw
        case rel => exact ⟨k + 1, by omega, by go_num, hb.trans (hb1.mono hb.size), by rw [List.take_add_one, List.all_append, HE.out, hx.out]; simp [HF.out]⟩
        case measure => simp [intOf]; omega
    · go_wp2_with fail
      go_ret
      have hkn : k = n := by omega
      subst hkn
      refine ⟨ret_bool ?_, hb⟩
      have he := HE.out
      rw [List.take_of_length_le (by rw [← H.out]; omega)] at he
      have hn := H.out
      simp [Tm.good, he, ← hn]

theorem specAreTimers_any (v : Value) (l : List Tm) (w : World) {lo hi : Nat} (h : Rd Tm.cells 4 w lo hi v l) (hh : hi ≤ w.heap.size) : Calls Try.prog 18 #[v] w fun e w' => e = .returned (.bool (Tm.good l)) ∧ Below w.heap.size w w' := by
  have c1 := l11Good_any v l w h hh
  obtain ⟨A, n, c, rfl, H, hc, hm⟩ := h.form
  go_enter Try.func18, Try.ntmps18
  go_wp2_with (go_at_call 45; refine c1.mono ?_; rintro e w1 ⟨rfl, hb1⟩)
  go_ret
  exact ⟨rfl, hb1⟩
theorem notTimer_any (t : Tm) (w : World) : Calls Try.prog 47 #[t.val] w fun e w' => e = .returned (.bool (!t.ok)) ∧ Below w.heap.size w w' := by
  have c1 := implIsTimer_any t
  generalize t.ok = b at c1
  unfold Tm.val at c1 ⊢
  go_enter Try.func47, Try.ntmps47
  go_wp2_with (go_at_call 14; refine (c1 _).mono ?_; rintro e w1 ⟨rfl, hb1⟩)
  go_ret
  exact ⟨rfl, (((Below.refl _ _).alloc (Nat.le_refl _) _).trans (hb1.mono (by simp)))⟩

theorem implAreTimers_any (v : Value) (l : List Tm) (w : World) {lo hi : Nat} (h : Rd Tm.cells 4 w lo hi v l) (hh : hi ≤ w.heap.size) : Calls Try.prog 20 #[v] w fun e w' => e = .returned (.bool (Tm.good l)) ∧ Below w.heap.size w w' := by
  have c1 := Tm.contains_any 47 #[] (fun t => !t.ok) v l w h hh (enters Try.func47 (by kernel_rfl) rfl) (fun t W _ _ => notTimer_any t W)
  obtain ⟨A, n, c, rfl, H, hc, hm⟩ := h.form
  have hq : (l.any fun t => !t.ok) = !(l.all Tm.ok) := by
    rw [List.not_all_eq_any_not]
  rw [hq] at c1
  by_cases h8 : (n : Int) ≤ 8
  · have HF := Lib.hid (show Tm.good l = l.all Tm.ok from by simp [Tm.good, ← H.out, h8])
    clear hq
    generalize l.all Tm.ok = b at c1 HF
    cases b
    all_goals
      go_enter Try.func20, Try.ntmps20
      go_wp2_with (go_at_call 46; refine c1.mono ?_; rintro e w1 ⟨rfl, hb1⟩)
      go_ret
      exact ⟨ret_bool HF.out.symm, hb1⟩
  · have HF := Lib.hid (show Tm.good l = false from by simp [Tm.good, ← H.out, h8])
    have h8' : decide ((n : Int) ≤ 8) = false := by simpa using h8
    go_enter Try.func20, Try.ntmps20
    go_wp2_with (go_at_call 46; refine c1.mono ?_; rintro e w1 ⟨rfl, hb1⟩)
    go_ret
    exact ⟨ret_bool HF.out.symm, Below.refl _ _⟩

end Go.Proofs.Ytmblpgocgkfjcaa
