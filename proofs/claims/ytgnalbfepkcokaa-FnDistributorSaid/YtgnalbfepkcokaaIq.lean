/- Lists of interrupts: their validity, in the program and in the reference, and which interrupts are ready. No condition. -/
import Derived.Test.YtgnalbfepkcokaaSmall
import Derived.Test.YtgnalbfepkcokaaTyIrq
import Derived.Test.YtgnalbfepkcokaaBase2
namespace Go.Proofs.Ytgnalbfepkcokaa
open Go.RowKit Go.ChangeShapes Go.WideShapes Go.Deep

def Iq.ok (t : Iq) : Bool := inB t.prio 0 15 && inB t.target 0 3
def Iq.good (l : List Iq) : Bool := decide ((l.length : Int) = 8) && l.all Iq.ok
def Iq.rdy (t : Iq) : Bool := t.enabled && (t.pending && !t.active)

theorem l6Good_any (v : Value) (l : List Iq) (w : World) {lo hi : Nat} (h : Rd Iq.cells 5 w lo hi v l) (hh : hi ≤ w.heap.size) : Calls Try.prog 116 #[v] w fun e w' => e = .returned (.bool (Iq.good l)) ∧ Below w.heap.size w w' := by
  obtain ⟨A, n, c, rfl, H, hc, hm⟩ := h.form
  have c1 := fun p W => l6Prio_any p W
  have c2 := fun p W => l6Cpu_any p W
  go_enter Try.func116, Try.ntmps116
  go_wp2_with fail
  go_loop [3] (fun i => ∃ k : Nat, k ≤ n ∧ i = .int .i64 k ∧ (l.take k).all Iq.ok = true) (fun i => n - (intOf i).toNat)
  case atStart => exact ⟨0, Nat.zero_le _, rfl, by simp⟩
  case round =>
    obtain ⟨k, hk, rfl, he⟩ := hrel
    have HE := Lib.hid he
    clear he
    by_cases hlt : k < n
    · obtain ⟨b, off, x, rfl, hx, _, _, f0, f1, f2, f3, f4⟩ := Iq.get h hlt (Below.refl w.heap.size w) hh
      have c1 := c1 x.prio
      have c2 := c2 x.target
      have HB := Lib.hid (show x.ok = false → Iq.good l = false from fun hq => by
          have : l.all Iq.ok = false := by
            rw [List.all_eq_false]
            exact ⟨x, List.mem_of_getElem? hx.out, by simp [hq]⟩
          simp [Iq.good, this])
      cases h1 : inB x.prio 0 15
      · rw [h1] at c1
        have HF := Lib.hid (HB.out (by simp [Iq.ok, h1]))
        clear h1
        go_wp2_with (go_at_call 112; (refine (c1 _).mono ?_); (rintro e w1 ⟨rfl, rfl⟩))
        go_ret
        exact ⟨ret_bool HF.out.symm, Below.refl _ _⟩
      · rw [h1] at c1
        cases h2 : inB x.target 0 3
        · rw [h2] at c2
          have HF := Lib.hid (HB.out (by simp [Iq.ok, h2]))
          clear h1 h2
          go_wp2_with (first | (go_at_call 112; (refine (c1 _).mono ?_); (rintro e w1 ⟨rfl, rfl⟩)) | (go_at_call 113; (refine (c2 _).mono ?_); (rintro e w1 ⟨rfl, rfl⟩)))
          go_ret
          exact ⟨ret_bool HF.out.symm, Below.refl _ _⟩
        · rw [h2] at c2
          have HF := Lib.hid (show x.ok = true from by simp [Iq.ok, h1, h2])
          clear h1 h2
          go_wp2_with (first | (go_at_call 112; (refine (c1 _).mono ?_); (rintro e w1 ⟨rfl, rfl⟩)) | (go_at_call 113; (refine (c2 _).mono ?_); (rintro e w1 ⟨rfl, rfl⟩)))
          go_round
          case rel => exact ⟨k + 1, by omega, by go_num, by rw [List.take_add_one, List.all_append, HE.out, hx.out]; simp [HF.out]⟩
          case measure => simp [intOf]; omega
    · have hn := H.out
      have hkn : k = n := by omega
      subst hkn
      have he := HE.out
      rw [List.take_of_length_le (by omega)] at he
      have HF := Lib.hid (show Iq.good l = decide ((k : Int) = 8) from by simp [Iq.good, he, hn])
      clear hn he
      go_wp2_with fail
      go_ret
      exact ⟨ret_bool HF.out.symm, Below.refl _ _⟩

theorem badIrq_any (t : Iq) (w : World) : Calls Try.prog 119 #[t.val] w fun e w' => e = .returned (.bool (!t.ok)) ∧ Below w.heap.size w w' := by
  unfold Iq.val
  go_enter Try.func119, Try.ntmps119
  go_wp2_with (first | (go_at_call 120; refine (isPriority_any _ _).mono ?_; rintro e w' ⟨rfl, rfl⟩) | (go_at_call 114; refine (isCpu_any _ _).mono ?_; rintro e w' ⟨rfl, rfl⟩))
  all_goals (go_ret; exact ⟨ret_bool (by simp [Iq.ok, *]), by go_grown⟩)

theorem implAreIrqs_any (v : Value) (l : List Iq) (w : World) {lo hi : Nat} (h : Rd Iq.cells 5 w lo hi v l) (hh : hi ≤ w.heap.size) : Calls Try.prog 56 #[v] w fun e w' => e = .returned (.bool (Iq.good l)) ∧ Below w.heap.size w w' := by
  have c1 := Iq.contains_any 119 #[] (fun t => !t.ok) v l w h hh (enters Try.func119 (by kernel_rfl) rfl) (fun t W _ _ => badIrq_any t W)
  obtain ⟨A, n, c, rfl, H, hc, hm⟩ := h.form
  have hq : (l.any fun t => !t.ok) = !(l.all Iq.ok) := by
    rw [List.not_all_eq_any_not]
  rw [hq] at c1
  by_cases h8 : (n : Int) = 8
  · have HF := Lib.hid (show Iq.good l = l.all Iq.ok from by simp [Iq.good, ← H.out, h8])
    clear hq
    generalize l.all Iq.ok = b at c1 HF
    cases b
    all_goals
      go_enter Try.func56, Try.ntmps56
      go_wp2_with (go_at_call 118; refine c1.mono ?_; rintro e w1 ⟨rfl, hb1⟩)
      go_ret
      exact ⟨ret_bool HF.out.symm, hb1⟩
  · have HF := Lib.hid (show Iq.good l = false from by simp [Iq.good, ← H.out, h8])
    have h8' : decide ((n : Int) = 8) = false := by simpa using h8
    go_enter Try.func56, Try.ntmps56
    go_wp2_with (go_at_call 118; refine c1.mono ?_; rintro e w1 ⟨rfl, hb1⟩)
    go_ret
    exact ⟨ret_bool HF.out.symm, Below.refl _ _⟩

def Iq.asked (l : List Iq) (i : Int) : Bool := Iq.good l && inB i 0 7
theorem l6Asked_any (v : Value) (l : List Iq) (i : Int) (w : World) {lo hi : Nat} (h : Rd Iq.cells 5 w lo hi v l) (hh : hi ≤ w.heap.size) : Calls Try.prog 103 #[v, .int .i64 i] w fun e w' => e = .returned (.bool (Iq.asked l i)) ∧ Below w.heap.size w w' := by
  have c1 := l6Good_any v l w h hh
  obtain ⟨A, n, c, rfl, H, hc, hm⟩ := h.form
  have c2 := fun W => l6Irq_any i W
  unfold Iq.asked
  generalize Iq.good l = g at c1
  cases g
  all_goals
    go_enter Try.func103, Try.ntmps103
    go_wp2_with (first | (go_at_call 116; refine c1.mono ?_; rintro e w1 ⟨rfl, b1⟩) | (go_at_call 83; refine (c2 _).mono ?_; rintro e w' ⟨rfl, rfl⟩))
    go_ret
    exact ⟨ret_bool (by simp), b1⟩

theorem l6Ready_any (t : Iq) (w : World) : Calls Try.prog 104 #[t.val] w fun e w' => e = .returned (.bool t.rdy) ∧ Below w.heap.size w w' := by
  unfold Iq.val
  go_enter Try.func104, Try.ntmps104
  go_wp2
  all_goals (go_ret; exact ⟨ret_bool (by simp [Iq.rdy, *]), by go_grown⟩)
theorem isReady_any (t : Iq) (w : World) : Calls Try.prog 100 #[t.val] w fun e w' => e = .returned (.bool t.rdy) ∧ Below w.heap.size w w' := by
  unfold Iq.val
  go_enter Try.func100, Try.ntmps100
  go_wp2
  all_goals (go_ret; exact ⟨ret_bool (by simp [Iq.rdy, *]), by go_grown⟩)

theorem Iq.good_len {l : List Iq} (h : Iq.good l = true) : l.length = 8 := by
  simp only [Iq.good, Bool.and_eq_true, decide_eq_true_eq] at h; omega
theorem Iq.good_ok {l : List Iq} (h : Iq.good l = true) {i : Nat} {t : Iq} (ht : l[i]? = some t) : t.ok = true := by
  simp only [Iq.good, Bool.and_eq_true, List.all_eq_true] at h
  exact h.2 t (List.mem_of_getElem? ht)
theorem Iq.good_set {l : List Iq} {i : Nat} (t : Iq) (h : Iq.good l = true) (hi : i < l.length) : Iq.good (l.set i t) = t.ok := by
  simp only [Iq.good, Bool.and_eq_true, List.all_eq_true] at h
  cases ht : t.ok
  · have : (l.set i t).all Iq.ok = false := by
      rw [List.all_eq_false]
      exact ⟨t, List.mem_set hi t, by simp [ht]⟩
    simp [Iq.good, this]
  · have : (l.set i t).all Iq.ok = true := by
      rw [List.all_eq_true]
      intro x hx
      rcases List.mem_or_eq_of_mem_set hx with hx | rfl
      · exact h.2 x hx
      · exact ht
    simp only [Iq.good, this, List.length_set, Bool.and_true]
    exact h.1

end Go.Proofs.Ytgnalbfepkcokaa
