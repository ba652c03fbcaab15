/- The statements about one timer: 'IsTimer' and 'FiresUpTo' of the program and of the reference agree for every timer and tick. No condition. -/
import Derived.Test.YtmblpgocgkfjcaaTm
namespace Go.Proofs.Ytmblpgocgkfjcaa
open Go.RowKit Go.ChangeShapes Go.WideShapes Go.Deep

/-- how often a timer fires up to a tick -/
def Tm.fires (t : Tm) (tick : Int) : Int := if t.armed = false ∨ tick < t.next then 0 else if t.every = 0 then 1 else (tick - t.next) / t.every + 1

theorem Tm.fires_bd (t : Tm) (tick : Int) (hk : t.ok = true) (h2 : tick ≤ 100000) : 0 ≤ t.fires tick ∧ t.fires tick ≤ 100001 := by
  simp only [Tm.ok, Bool.and_eq_true] at hk
  have a1 := inB_true hk.1
  have a2 := inB_true hk.2.1
  unfold Tm.fires
  split
  · omega
  · split
    · omega
    · rename_i h1 h3
      have hd : 0 ≤ tick - t.next := by omega
      have e1 := Int.ediv_nonneg hd (show 0 ≤ t.every by omega)
      have e2 := Int.ediv_le_self t.every hd
      omega

theorem l11Fires_any (t : Tm) (tick : Int) (w : World) (hk : t.ok = true) (h1 : -1 ≤ tick) (h2 : tick ≤ 100000) : Calls Try.prog 43 #[t.val, .int .i64 tick] w fun e w' => e = .returned (.int .i64 (t.fires tick)) ∧ Below w.heap.size w w' := by
  obtain ⟨a, n, ev, q⟩ := t
  simp only [Tm.ok, Bool.and_eq_true] at hk
  have a1 := inB_true hk.1
  have a2 := inB_true hk.2.1
  clear hk
  unfold Tm.val
  dsimp only at *
  obtain ⟨a11, a12⟩ := a1
  obtain ⟨a21, a22⟩ := a2
  cases a
  · have H := Lib.hid (show Tm.fires ⟨false, n, ev, q⟩ tick = 0 from by simp [Tm.fires])
    go_enter Try.func43, Try.ntmps43
    go_wp2
    all_goals (go_ret; exact ⟨ret_int H.out.symm, by go_grown⟩)
  · by_cases h3 : tick < n
    · have H := Lib.hid (show Tm.fires ⟨true, n, ev, q⟩ tick = 0 from by simp [Tm.fires, h3])
      go_enter Try.func43, Try.ntmps43
      go_wp2
      all_goals (go_ret; exact ⟨ret_int H.out.symm, by go_grown⟩)
    · by_cases h4 : ev = 0
      · have H := Lib.hid (show Tm.fires ⟨true, n, ev, q⟩ tick = 1 from by simp [Tm.fires, h3, h4])
        subst h4
        go_enter Try.func43, Try.ntmps43
        go_wp2
        all_goals (go_ret; exact ⟨ret_int H.out.symm, by go_grown⟩)
      · have H := Lib.hid (show Tm.fires ⟨true, n, ev, q⟩ tick = (tick - n) / ev + 1 from by simp [Tm.fires, h3, h4])
        have hd : 0 ≤ tick - n := by omega
        have e1 := Int.ediv_nonneg hd (show 0 ≤ ev by omega)
        have e2 := Int.ediv_le_self ev hd
        go_enter Try.func43, Try.ntmps43
        go_wp2
        all_goals (go_ret; exact ⟨ret_int H.out.symm, by go_grown⟩)

theorem firesUpTo_any (t : Tm) (tick : Int) (w : World) (hk : t.ok = true) (h1 : -1 ≤ tick) (h2 : tick ≤ 100000) : Calls Try.prog 44 #[t.val, .int .i64 tick] w fun e w' => e = .returned (.int .i64 (t.fires tick)) ∧ Below w.heap.size w w' := by
  obtain ⟨a, n, ev, q⟩ := t
  simp only [Tm.ok, Bool.and_eq_true] at hk
  have a1 := inB_true hk.1
  have a2 := inB_true hk.2.1
  clear hk
  unfold Tm.val
  dsimp only at *
  obtain ⟨a11, a12⟩ := a1
  obtain ⟨a21, a22⟩ := a2
  cases a
  · have H := Lib.hid (show Tm.fires ⟨false, n, ev, q⟩ tick = 0 from by simp [Tm.fires])
    go_enter Try.func44, Try.ntmps44
    go_wp2
    all_goals (go_ret; exact ⟨ret_int H.out.symm, by go_grown⟩)
  · by_cases h3 : tick < n
    · have H := Lib.hid (show Tm.fires ⟨true, n, ev, q⟩ tick = 0 from by simp [Tm.fires, h3])
      go_enter Try.func44, Try.ntmps44
      go_wp2
      all_goals (go_ret; exact ⟨ret_int H.out.symm, by go_grown⟩)
    · by_cases h4 : ev = 0
      · have H := Lib.hid (show Tm.fires ⟨true, n, ev, q⟩ tick = 1 from by simp [Tm.fires, h3, h4])
        subst h4
        go_enter Try.func44, Try.ntmps44
        go_wp2
        all_goals (go_ret; exact ⟨ret_int H.out.symm, by go_grown⟩)
      · have H := Lib.hid (show Tm.fires ⟨true, n, ev, q⟩ tick = (tick - n) / ev + 1 from by simp [Tm.fires, h3, h4])
        have hd : 0 ≤ tick - n := by omega
        have e1 := Int.ediv_nonneg hd (show 0 ≤ ev by omega)
        have e2 := Int.ediv_le_self ev hd
        go_enter Try.func44, Try.ntmps44
        go_wp2
        all_goals (go_ret; exact ⟨ret_int H.out.symm, by go_grown⟩)

def Tm.firesB (t : Tm) (tick : Int) : Bool := t.ok && inB tick 0 100000

def Tm.firesR (t : Tm) (tick : Int) : Int := if t.firesB tick then t.fires tick else 0

theorem implFires_any (t : Tm) (tick : Int) (w : World) : Calls Try.prog 16 #[t.val, .int .i64 tick] w fun e w' => e = .returned (.tuple #[.int .i64 (t.firesR tick), .bool (t.firesB tick)]) ∧ Below w.heap.size w w' := by
  have c1 := implIsTimer_any t
  cases hk : t.ok
  · have H := Lib.hid (show t.firesR tick = 0 ∧ t.firesB tick = false from by simp [Tm.firesR, Tm.firesB, hk])
    rw [hk] at c1
    clear hk
    unfold Tm.val at c1 ⊢
    go_enter Try.func16, Try.ntmps16
    go_wp2_with (go_at_call 14; refine (c1 _).mono ?_; rintro e w' ⟨rfl, hb⟩)
    go_ret2
    exact ⟨by rw [H.out.1, H.out.2]; rfl, (((Below.refl _ _).alloc (Nat.le_refl _) _).trans (hb.mono (by simp)))⟩
  · rw [hk] at c1
    have c3 := isTick_any tick
    cases hi : inB tick 0 100000
    · have H := Lib.hid (show t.firesR tick = 0 ∧ t.firesB tick = false from by simp [Tm.firesR, Tm.firesB, hi])
      rw [hi] at c3
      clear hk hi
      unfold Tm.val at c1 ⊢
      go_enter Try.func16, Try.ntmps16
      go_wp2_with (first | (go_at_call 14; refine (c1 _).mono ?_; rintro e w' ⟨rfl, hb⟩) | (go_at_call 40; refine (c3 _).mono ?_; rintro e w' ⟨rfl, rfl⟩))
      go_ret2
      exact ⟨by rw [H.out.1, H.out.2]; rfl, (((Below.refl _ _).alloc (Nat.le_refl _) _).trans (hb.mono (by simp)))⟩
    · have H := Lib.hid (show t.firesR tick = t.fires tick ∧ t.firesB tick = true from by simp [Tm.firesR, Tm.firesB, hk, hi])
      rw [hi] at c3
      have hh := inB_true hi
      have c2 := fun W => firesUpTo_any t tick W hk (by omega) (by omega)
      clear hk hi hh
      unfold Tm.val at c1 c2 ⊢
      go_enter Try.func16, Try.ntmps16
      go_wp2_with (first | (go_at_call 14; refine (c1 _).mono ?_; rintro e w1 ⟨rfl, hb⟩; obtain ⟨hc1, hc2⟩ := bcell hb) | (go_at_call 40; refine (c3 _).mono ?_; rintro e w' ⟨rfl, rfl⟩) | (go_at_call 44; refine (c2 _).mono ?_; rintro e w2 ⟨rfl, hb2⟩))
      go_ret2
      refine ⟨by rw [H.out.1, H.out.2]; rfl, ((((Below.refl _ _).alloc (Nat.le_refl _) _).trans (hb.mono (by simp))).trans (hb2.mono ?_))⟩
      have := hb.size; simp at this; omega

theorem specFires_any (t : Tm) (tick : Int) (w : World) : Calls Try.prog 15 #[t.val, .int .i64 tick] w fun e w' => e = .returned (.tuple #[.int .i64 (t.firesR tick), .bool (t.firesB tick)]) ∧ Below w.heap.size w w' := by
  have c1 := l11One_any t
  cases hk : t.ok
  · have H := Lib.hid (show t.firesR tick = 0 ∧ t.firesB tick = false from by simp [Tm.firesR, Tm.firesB, hk])
    rw [hk] at c1
    clear hk
    unfold Tm.val at c1 ⊢
    go_enter Try.func15, Try.ntmps15
    go_wp2_with (go_at_call 39; refine (c1 _).mono ?_; rintro e w' ⟨rfl, hb⟩)
    go_ret2
    exact ⟨by rw [H.out.1, H.out.2]; rfl, (((Below.refl _ _).alloc (Nat.le_refl _) _).trans (hb.mono (by simp)))⟩
  · rw [hk] at c1
    have c3 := l11Tick_any tick
    cases hi : inB tick 0 100000
    · have H := Lib.hid (show t.firesR tick = 0 ∧ t.firesB tick = false from by simp [Tm.firesR, Tm.firesB, hi])
      rw [hi] at c3
      clear hk hi
      unfold Tm.val at c1 ⊢
      go_enter Try.func15, Try.ntmps15
      go_wp2_with (first | (go_at_call 39; refine (c1 _).mono ?_; rintro e w' ⟨rfl, hb⟩) | (go_at_call 42; refine (c3 _).mono ?_; rintro e w' ⟨rfl, rfl⟩))
      go_ret2
      exact ⟨by rw [H.out.1, H.out.2]; rfl, (((Below.refl _ _).alloc (Nat.le_refl _) _).trans (hb.mono (by simp)))⟩
    · have H := Lib.hid (show t.firesR tick = t.fires tick ∧ t.firesB tick = true from by simp [Tm.firesR, Tm.firesB, hk, hi])
      rw [hi] at c3
      have hh := inB_true hi
      have c2 := fun W => l11Fires_any t tick W hk (by omega) (by omega)
      clear hk hi hh
      unfold Tm.val at c1 c2 ⊢
      go_enter Try.func15, Try.ntmps15
      go_wp2_with (first | (go_at_call 39; refine (c1 _).mono ?_; rintro e w1 ⟨rfl, hb⟩; obtain ⟨hc1, hc2⟩ := bcell hb) | (go_at_call 42; refine (c3 _).mono ?_; rintro e w' ⟨rfl, rfl⟩) | (go_at_call 43; refine (c2 _).mono ?_; rintro e w2 ⟨rfl, hb2⟩))
      go_ret2
      refine ⟨by rw [H.out.1, H.out.2]; rfl, ((((Below.refl _ _).alloc (Nat.le_refl _) _).trans (hb.mono (by simp))).trans (hb2.mono ?_))⟩
      have := hb.size; simp at this; omega

end Go.Proofs.Ytmblpgocgkfjcaa
