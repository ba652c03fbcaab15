/- The pending slot with the most or the least urgent interrupt, in the reference. No condition. -/
import Derived.Test.YtaggjadgbmmjoaaSlAre
import Derived.Test.YtaggjadgbmmjoaaUrg
namespace Go.Proofs.Ytaggjadgbmmjoaa
open Go.RowKit Go.ChangeShapes Go.WideShapes Go.Deep

def Sl.bt (most : Bool) (s b : Sl) : Bool := (most && s.wt.lt b.wt) || (!most && b.wt.lt s.wt)
def Sl.bestIf (most : Bool) (l : List Sl) (b : Int) (s : Sl) : Bool := s.state == 1 && (decide (b < 0) || Sl.bt most s (l.getD b.toNat default))
def Sl.best (most : Bool) (l : List Sl) : Nat → Int
  | 0 => -1
  | k + 1 => match l[k]? with
    | none => Sl.best most l k
    | some s => if Sl.bestIf most l (Sl.best most l k) s then k else Sl.best most l k
theorem Sl.best_succ {most : Bool} {l : List Sl} {k : Nat} {s : Sl} (h : l[k]? = some s) : Sl.best most l (k + 1) = if Sl.bestIf most l (Sl.best most l k) s then (k : Int) else Sl.best most l k := by
  rw [Sl.best, h]
theorem Sl.best_bd (most : Bool) (l : List Sl) : ∀ k : Nat, k ≤ l.length → Sl.best most l k = -1 ∨ ∃ (j : Nat) (u : Sl), Sl.best most l k = j ∧ j < k ∧ l[j]? = some u ∧ u.state = 1
  | 0, _ => .inl rfl
  | k + 1, h => by
    have hs : l[k]? = some (l[k]'(by omega)) := List.getElem?_eq_getElem _
    rw [Sl.best_succ hs]
    split
    · rename_i hq
      right
      exact ⟨k, _, rfl, by omega, hs, by simp only [Sl.bestIf, Bool.and_eq_true, beq_iff_eq] at hq; exact hq.1⟩
    · rcases Sl.best_bd most l k (by omega) with h1 | ⟨j, u, h1, h2, h3⟩
      · exact .inl h1
      · exact .inr ⟨j, u, h1, by omega, h3⟩
theorem Sl.good_ne {l : List Sl} (h : Sl.good l = true) {j k : Nat} {u s : Sl} (hjk : j < k) (hu : l[j]? = some u) (hs : l[k]? = some s) (h1 : ¬ u.state = 0) (h2 : ¬ s.state = 0) : ¬ u.irq = s.irq := by
  have h3 := Sl.good_one h hs
  simp only [Sl.okAt, if_neg h2, Bool.and_eq_true, Bool.not_eq_true'] at h3
  intro e
  have := List.any_eq_false.1 h3.2.2.2 u (List.mem_of_getElem? (by rw [List.getElem?_take, if_pos hjk]; exact hu))
  simp [Sl.has, h1, e] at this

theorem waiterOf_at (a b c : Int) (w : World) : Calls Try.prog 56 #[.agg #[.int .i64 a, .int .i64 b, .int .i64 c]] w fun e w' => e = .returned (.agg #[.int .i64 b, .int .i64 c]) ∧ Below w.heap.size w w' := waiterOf_any ⟨a, b, c⟩ w
theorem compareUrgency_at (i p j q : Int) (w : World) : Calls Try.prog 55 #[.agg #[.int .i64 i, .int .i64 p], .agg #[.int .i64 j, .int .i64 q]] w fun e w' => e = .returned (.int .i64 (urg ⟨i, p⟩ ⟨j, q⟩)) ∧ Below w.heap.size w w' := compareUrgency_any ⟨i, p⟩ ⟨j, q⟩ w

set_option maxHeartbeats 2000000 in
theorem l8Best_any (v : Value) (l : List Sl) (most : Bool) (w : World) {lo hi : Nat} (h : Rd Sl.cells 3 w lo hi v l) (hh : hi ≤ w.heap.size) : Calls Try.prog 38 #[v, .bool most] w fun e w' => e = .returned (.int .i64 (Sl.best most l l.length)) ∧ Below w.heap.size w w' := by
  have hrd := h
  obtain ⟨A, n, c, rfl, H, hc, hm⟩ := h.form
  clear h
  go_enter Try.func38, Try.ntmps38
  go_wp2_with fail
  go_loopw [5, 6] (fun q i wr => ∃ k : Nat, k ≤ n ∧ i = .int .i64 k ∧ q = .int .i64 (Sl.best most l k) ∧ Below w.heap.size w wr) (fun _ i _ => n - (intOf i).toNat)
  case atStart => exact ⟨0, Nat.zero_le _, rfl, rfl, Below.refl _ _⟩
  case round =>
    obtain ⟨k, hk, rfl, rfl, hb⟩ := hrel
    by_cases hlt : k < n
    · obtain ⟨b, off, s, rfl, hs, _, hbl, f0, f1, f2⟩ := Sl.get hrd hlt hb hh
      have hbs := hb.size
      have hbw : b < wr.heap.size := by omega
      have hb2 := hb.alloc hb.size (.cells #[.int .i64 s.state, .int .i64 s.irq, .int .i64 s.prio] 33)
      have hN := Sl.best_succ (most := most) hs.out
      by_cases h1 : s.state = 1
      · rw [h1] at f0 hb2
        rcases Sl.best_bd most l k (by have := H.out; omega) with hbd | ⟨j, u, hbd, hj, hu, _⟩
        · have HN := Lib.hid (show Sl.best most l (k + 1) = k from by rw [hN, hbd]; simp [Sl.bestIf, h1])
          rw [hbd]
          clear hN hbd h1
          go_wp2_with fail
          go_quiet (fail)
          go_wp2_with fail
          go_roundw
          case rel => exact ⟨k + 1, by omega, by go_num, by rw [HN.out], below_drewN hb2 _⟩
          case measure => simp [intOf]; omega
        · obtain ⟨_, _, u', e, hu', _, _, g0, g1, g2⟩ := Sl.get hrd (k := j) (by omega) hb hh
          injection e with e
          injection e with e1 e2
          subst e1; subst e2
          obtain rfl : u = u' := Option.some.inj (hu.symm.trans hu'.out)
          have hj0 : decide ((j : Int) < 0) = false := by simp
          have hjn : (j : Int) < (n : Int) := by omega
          have HN := Lib.hid (show Sl.best most l (k + 1) = if Sl.bt most s u then (k : Int) else j from by
            have hj1 : ¬ (j : Int) < 0 := by omega
            rw [hN, hbd]; simp [Sl.bestIf, h1, hu, hj1])
          rw [hbd]
          clear hN hbd h1 hu hu'
          cases most
          · have c2 := fun W => l8Less_any u.prio u.irq s.prio s.irq W
            cases hq : Wt.lt ⟨u.irq, u.prio⟩ ⟨s.irq, s.prio⟩
            · rw [hq] at c2
              have HM := Lib.hid (show Sl.best false l (k + 1) = j from by rw [HN.out]; simp [Sl.bt, Sl.wt, hq])
              clear hq HN
              go_wp2_with fail
              go_quiet ((go_at_call 57; refine Calls.quiet_of_same ((c2 _).mono fun _ _ h => ⟨h.1, h.2.symm⟩)))
              go_wp2_with fail
              go_roundw
              case rel => exact ⟨k + 1, by omega, by go_num, by rw [HM.out], below_drewN hb2 _⟩
              case measure => simp [intOf]; omega
            · rw [hq] at c2
              have HM := Lib.hid (show Sl.best false l (k + 1) = k from by rw [HN.out]; simp [Sl.bt, Sl.wt, hq])
              clear hq HN
              go_wp2_with fail
              go_quiet ((go_at_call 57; refine Calls.quiet_of_same ((c2 _).mono fun _ _ h => ⟨h.1, h.2.symm⟩)))
              go_wp2_with fail
              go_roundw
              case rel => exact ⟨k + 1, by omega, by go_num, by rw [HM.out], below_drewN hb2 _⟩
              case measure => simp [intOf]; omega
          · have c2 := fun W => l8Less_any s.prio s.irq u.prio u.irq W
            cases hq : Wt.lt ⟨s.irq, s.prio⟩ ⟨u.irq, u.prio⟩
            · rw [hq] at c2
              have HM := Lib.hid (show Sl.best true l (k + 1) = j from by rw [HN.out]; simp [Sl.bt, Sl.wt, hq])
              clear hq HN
              go_wp2_with fail
              go_quiet ((go_at_call 57; refine Calls.quiet_of_same ((c2 _).mono fun _ _ h => ⟨h.1, h.2.symm⟩)))
              go_wp2_with fail
              go_roundw
              case rel => exact ⟨k + 1, by omega, by go_num, by rw [HM.out], below_drewN hb2 _⟩
              case measure => simp [intOf]; omega
            · rw [hq] at c2
              have HM := Lib.hid (show Sl.best true l (k + 1) = k from by rw [HN.out]; simp [Sl.bt, Sl.wt, hq])
              clear hq HN
              go_wp2_with fail
              go_quiet ((go_at_call 57; refine Calls.quiet_of_same ((c2 _).mono fun _ _ h => ⟨h.1, h.2.symm⟩)))
              go_wp2_with fail
              go_roundw
              case rel => exact ⟨k + 1, by omega, by go_num, by rw [HM.out], below_drewN hb2 _⟩
              case measure => simp [intOf]; omega
      · have HN := Lib.hid (show Sl.best most l (k + 1) = Sl.best most l k from by rw [hN]; simp [Sl.bestIf, h1])
        clear hN
        generalize Sl.best most l k = q at *
        go_wp2_with fail
        go_roundw
        case rel => exact ⟨k + 1, by omega, by go_num, by rw [HN.out], hb2⟩
        case measure => simp [intOf]; omega
    · have hkn : k = n := by omega
      have HE := Lib.hid (show Sl.best most l k = Sl.best most l l.length from by rw [hkn, H.out])
      go_wp2_with fail
      go_ret
      exact ⟨ret_int HE.out, hb⟩

end Go.Proofs.Ytaggjadgbmmjoaa
