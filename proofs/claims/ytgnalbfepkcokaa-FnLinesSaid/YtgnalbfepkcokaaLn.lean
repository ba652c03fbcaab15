/- The functions on one line. No condition. -/
import Derived.Test.YtgnalbfepkcokaaSmall
import Derived.Test.YtgnalbfepkcokaaTyLine
namespace Go.Proofs.Ytgnalbfepkcokaa
open Go.RowKit Go.ChangeShapes Go.WideShapes Go.Deep

def Ln.ok (t : Ln) : Bool := inB t.irq 0 7 && (t.kind == 0 || (t.kind == 1 && t.raised == t.high))
def Ln.take (t : Ln) : Ln := ⟨t.kind, t.irq, t.high, t.raised && !(t.kind == 0)⟩
def Ln.drive (t : Ln) (h : Bool) : Ln := ⟨t.kind, t.irq, h, if t.kind = 1 then h else (t.raised || (h && !t.high))⟩
def Ln.takeR (t : Ln) : Ln := if t.ok then t.take else Ln.zero
def Ln.takeB (t : Ln) : Bool := t.ok && t.raised
def Ln.driveR (t : Ln) (h : Bool) : Ln := if t.ok then t.drive h else Ln.zero

theorem Ln.ok_kind {t : Ln} (h : t.ok = true) : t.kind = 0 ∨ t.kind = 1 := by
  simp only [Ln.ok, Bool.and_eq_true, Bool.or_eq_true, beq_iff_eq] at h
  omega

set_option maxHeartbeats 1000000 in
theorem l7One_any (t : Ln) (w : World) : Calls Try.prog 69 #[t.val] w fun e w' => e = .returned (.bool t.ok) ∧ Below w.heap.size w w' := by
  unfold Ln.val
  have c2 := fun W => l6Irq_any t.irq W
  by_cases hk : t.kind = 0
  · have c1 := fun W => l1In_any 0 0 1 W
    rw [show inB 0 0 1 = true from rfl] at c1
    cases hi : inB t.irq 0 7 <;>
    · have HF := Lib.hid (show t.ok = inB t.irq 0 7 from by simp [Ln.ok, hk])
      rw [hi] at c2 HF
      rw [hk]
      clear hk hi
      go_enter Try.func69, Try.ntmps69
      go_wp2_with (first | (go_at_call 80; refine (c1 _).mono ?_; rintro e w' ⟨rfl, rfl⟩) | (go_at_call 83; refine (c2 _).mono ?_; rintro e w' ⟨rfl, rfl⟩))
      go_ret
      exact ⟨ret_bool HF.out.symm, by go_grown⟩
  · by_cases hk1 : t.kind = 1
    · have c1 := fun W => l1In_any 1 0 1 W
      rw [show inB 1 0 1 = true from rfl] at c1
      cases hi : inB t.irq 0 7
      · have HF := Lib.hid (show t.ok = false from by simp [Ln.ok, hi])
        rw [hi] at c2
        rw [hk1]
        clear hk hi hk1
        go_enter Try.func69, Try.ntmps69
        go_wp2_with (first | (go_at_call 80; refine (c1 _).mono ?_; rintro e w' ⟨rfl, rfl⟩) | (go_at_call 83; refine (c2 _).mono ?_; rintro e w' ⟨rfl, rfl⟩))
        go_ret
        exact ⟨ret_bool HF.out.symm, by go_grown⟩
      · have HF := Lib.hid (show t.ok = (t.raised == t.high) from by simp [Ln.ok, hk1, hi])
        rw [hi] at c2
        rw [hk1]
        clear hk hi hk1
        cases hr : t.raised <;> cases hh : t.high <;>
        · rw [hr, hh] at HF
          clear hr hh
          go_enter Try.func69, Try.ntmps69
          go_wp2_with (first | (go_at_call 80; refine (c1 _).mono ?_; rintro e w' ⟨rfl, rfl⟩) | (go_at_call 83; refine (c2 _).mono ?_; rintro e w' ⟨rfl, rfl⟩))
          go_ret
          exact ⟨ret_bool (by rw [HF.out]; rfl), by go_grown⟩
    · have hb : inB t.kind 0 1 = false := by simp [inB]; omega
      have HF := Lib.hid (show t.ok = false from by simp [Ln.ok, hk, hk1])
      have c1 := fun W => l1In_any t.kind 0 1 W
      rw [hb] at c1
      clear hk hk1 hb
      go_enter Try.func69, Try.ntmps69
      go_wp2_with (first | (go_at_call 80; refine (c1 _).mono ?_; rintro e w' ⟨rfl, rfl⟩) | (go_at_call 83; refine (c2 _).mono ?_; rintro e w' ⟨rfl, rfl⟩))
      all_goals (go_ret; exact ⟨ret_bool HF.out.symm, by go_grown⟩)
theorem implIsLine_any (t : Ln) (w : World) : Calls Try.prog 11 #[t.val] w fun e w' => e = .returned (.bool t.ok) ∧ Below w.heap.size w w' := by
  unfold Ln.val
  go_enter Try.func11, Try.ntmps11
  go_wp2_with (go_at_call 71; refine (isIrq_any _ _).mono ?_; rintro e w' ⟨rfl, rfl⟩)
  all_goals (go_ret; exact ⟨ret_bool (by simp [Ln.ok, *]), by go_grown⟩)
theorem taken_any (t : Ln) (w : World) : Calls Try.prog 73 #[t.val] w fun e w' => e = .returned t.take.val ∧ Below w.heap.size w w' := by
  unfold Ln.take Ln.val
  by_cases hk : t.kind = 0
  · rw [hk]
    go_enter Try.func73, Try.ntmps73
    go_wp2
    go_returns
    exact ⟨by simp, by go_grown⟩
  · go_enter Try.func73, Try.ntmps73
    go_wp2
    go_returns
    exact ⟨by simp [hk], by go_grown⟩
theorem l7Take_any (t : Ln) (w : World) (hk : t.ok = true) : Calls Try.prog 74 #[t.val] w fun e w' => e = .returned t.take.val ∧ Below w.heap.size w w' := by
  unfold Ln.take Ln.val
  rcases Ln.ok_kind hk with h | h <;> clear hk <;> cases hr : t.raised <;> rw [h] <;>
  · go_enter Try.func74, Try.ntmps74
    go_wp2
    go_returns
    exact ⟨by simp, by go_grown⟩
set_option maxHeartbeats 1000000 in
theorem driven_any (t : Ln) (h : Bool) (w : World) : Calls Try.prog 68 #[t.val, .bool h] w fun e w' => e = .returned (t.drive h).val ∧ Below w.heap.size w w' := by
  unfold Ln.drive Ln.val
  by_cases hk : t.kind = 1
  · rw [hk]
    go_enter Try.func68, Try.ntmps68
    go_wp2
    go_returns
    exact ⟨by simp, by go_grown⟩
  · cases h <;> cases hh : t.high <;>
    · go_enter Try.func68, Try.ntmps68
      go_wp2
      go_returns
      exact ⟨by simp [*], by go_grown⟩
set_option maxHeartbeats 1000000 in
theorem l7Drive_any (t : Ln) (h : Bool) (w : World) (hk : t.ok = true) : Calls Try.prog 70 #[t.val, .bool h] w fun e w' => e = .returned (t.drive h).val ∧ Below w.heap.size w w' := by
  unfold Ln.drive Ln.val
  rcases Ln.ok_kind hk with hz | hz <;> clear hk <;> rw [hz]
  · cases hr : t.raised
    · cases h
      · go_enter Try.func70, Try.ntmps70
        go_wp2
        go_returns
        exact ⟨by simp, by go_grown⟩
      · cases hh : t.high <;>
        · go_enter Try.func70, Try.ntmps70
          go_wp2
          go_returns
          exact ⟨by simp, by go_grown⟩
    · go_enter Try.func70, Try.ntmps70
      go_wp2
      go_returns
      exact ⟨by simp, by go_grown⟩
  · go_enter Try.func70, Try.ntmps70
    go_wp2
    go_returns
    exact ⟨by simp, by go_grown⟩

end Go.Proofs.Ytgnalbfepkcokaa
