/- The timer that fires next, in the program and in the reference. No condition. -/
import Derived.Test.YtmblpgocgkfjcaaTmL
import Derived.Test.YtmblpgocgkfjcaaTmLaw1
namespace Go.Proofs.Ytmblpgocgkfjcaa
open Go.RowKit Go.ChangeShapes Go.WideShapes Go.Deep

/-- one step of the search for the armed timer with the smallest tick: i is the next place, t what stands there, b the best place till now -/
def Tm.better (l : List Tm) (b : Int) (t : Tm) : Bool := t.armed && (decide (b < 0) || (match l[b.toNat]? with | some u => decide (t.next < u.next) | none => false))
/-- the best place among the first k -/
def Tm.nextTo (l : List Tm) : Nat → Int
  | 0 => -1
  | k + 1 => match l[k]? with
    | some t => if Tm.better l (Tm.nextTo l k) t then k else Tm.nextTo l k
    | none => Tm.nextTo l k
def Tm.nextIx (l : List Tm) : Int := Tm.nextTo l l.length

theorem Tm.nextTo_bd (l : List Tm) : ∀ k, k ≤ l.length → Tm.nextTo l k = -1 ∨ ∃ j t, Tm.nextTo l k = (j : Nat) ∧ j < k ∧ l[j]? = some t ∧ t.armed = true
  | 0, _ => .inl rfl
  | k + 1, hk => by
    have ih := Tm.nextTo_bd l k (by omega)
    have hx : l[k]? = some (l[k]'(by omega)) := List.getElem?_eq_getElem _
    simp only [Tm.nextTo, hx]
    split
    · rename_i h
      exact .inr ⟨k, _, rfl, by omega, hx, by simp [Tm.better] at h; exact h.1⟩
    · rcases ih with h | ⟨j, t, h, hj, ht⟩
      · exact .inl h
      · exact .inr ⟨j, t, h, by omega, ht⟩

theorem Tm.nextTo_succ {l : List Tm} {k : Nat} {t : Tm} (ht : l[k]? = some t) : Tm.nextTo l (k + 1) = if Tm.better l (Tm.nextTo l k) t then (k : Int) else Tm.nextTo l k := by simp only [Tm.nextTo, ht]

theorem l11Next_any (v : Value) (l : List Tm) (w : World) {lo hi : Nat} (h : Rd Tm.cells 4 w lo hi v l) (hh : hi ≤ w.heap.size) : Calls Try.prog 49 #[v] w fun e w' => e = .returned (.int .i64 (Tm.nextIx l)) ∧ Below w.heap.size w w' := by
  obtain ⟨A, n, c, rfl, H, hc, hm⟩ := h.form
  go_enter Try.func49, Try.ntmps49
  go_wp2_with fail
  go_loopw [3, 4] (fun b i wr => ∃ k : Nat, k ≤ n ∧ i = .int .i64 k ∧ b = .int .i64 (Tm.nextTo l k) ∧ Below w.heap.size w wr) (fun _ i _ => n - (intOf i).toNat)
  case atStart => exact ⟨0, Nat.zero_le _, rfl, rfl, Below.refl _ _⟩
  case round =>
    obtain ⟨k, hk, rfl, rfl, hb⟩ := hrel
    by_cases hlt : k < n
    · obtain ⟨b, off, t, rfl, ht, _, _, f0, f1, f2, f3⟩ := Tm.get h hlt hb hh
      have hN := Tm.nextTo_succ ht.out
      rcases Tm.nextTo_bd l k (by have := H.out; omega) with hbd | ⟨j, u, hbd, hj, hu, _⟩
      · have HN := Lib.hid (show Tm.nextTo l (k + 1) = if t.armed then (k : Int) else -1 from by rw [hN, hbd]; simp [Tm.better])
        rw [hbd]
        clear hN hbd
        cases ha : t.armed
        · rw [ha] at f0 HN
          clear ha
          go_wp2_with fail
          go_quiet (fail)
          go_wp2_with fail
          go_roundw
          case rel => exact ⟨k + 1, by omega, by go_num, by rw [HN.out]; rfl, below_drewN hb _⟩
          case measure => simp [intOf]; omega
        · rw [ha] at f0 HN
          clear ha
          go_wp2_with fail
          go_quiet (fail)
          go_wp2_with fail
          go_roundw
          case rel => exact ⟨k + 1, by omega, by go_num, by rw [HN.out]; rfl, below_drewN hb _⟩
          case measure => simp [intOf]; omega
      · obtain ⟨_, _, u', e, hu', _, _, g0, g1, g2, g3⟩ := Tm.get h (k := j) (by omega) hb hh
        obtain ⟨rfl, rfl⟩ : _ = b ∧ _ = off := by simpa [eq_comm] using e
        obtain rfl : u = u' := Option.some.inj (hu.symm.trans hu'.out)
        have HN := Lib.hid (show Tm.nextTo l (k + 1) = if t.armed && decide (t.next < u.next) then (k : Int) else j from by
          rw [hN, hbd]
          have : ¬ (j : Int) < 0 := by omega
          simp [Tm.better, hu, this])
        rw [hbd]
        clear hN hbd hu hu' e
        have hj0 : decide ((j : Int) < 0) = false := by simp
        cases ha : t.armed
        · rw [ha] at f0 HN
          clear ha
          go_wp2_with fail
          go_quiet (fail)
          go_wp2_with fail
          go_roundw
          case rel => exact ⟨k + 1, by omega, by go_num, by rw [HN.out]; rfl, below_drewN hb _⟩
          case measure => simp [intOf]; omega
        · rw [ha] at f0 HN
          clear ha
          by_cases hq : t.next < u.next
          · have HQ := Lib.hid (decide_eq_true hq)
            go_wp2_with fail
            go_quiet (fail)
            go_wp2_with fail
            go_roundw
            case rel => exact ⟨k + 1, by omega, by go_num, by rw [HN.out, HQ.out]; rfl, below_drewN hb _⟩
            case measure => simp [intOf]; omega
          · have HQ := Lib.hid (decide_eq_false hq)
            go_wp2_with fail
            go_quiet (fail)
            go_wp2_with fail
            go_roundw
            case rel => exact ⟨k + 1, by omega, by go_num, by rw [HN.out, HQ.out]; rfl, below_drewN hb _⟩
            case measure => simp [intOf]; omega
    · go_wp2_with fail
      go_ret
      have hkn : k = n := by omega
      exact ⟨ret_int (by rw [hkn, H.out]; rfl), hb⟩

theorem nextToFire_any (v : Value) (l : List Tm) (w : World) {lo hi : Nat} (h : Rd Tm.cells 4 w lo hi v l) (hh : hi ≤ w.heap.size) : Calls Try.prog 50 #[v] w fun e w' => e = .returned (.int .i64 (Tm.nextIx l)) ∧ Below w.heap.size w w' := by
  obtain ⟨A, n, c, rfl, H, hc, hm⟩ := h.form
  go_enter Try.func50, Try.ntmps50
  go_wp2_with fail
  go_loopw [3, 8] (fun b i wr => ∃ k : Nat, k ≤ n ∧ i = .int .i64 k ∧ b = .int .i64 (Tm.nextTo l k) ∧ Below w.heap.size w wr) (fun _ i _ => n - (intOf i).toNat)
  case atStart => exact ⟨0, Nat.zero_le _, rfl, rfl, Below.refl _ _⟩
  case round =>
    obtain ⟨k, hk, rfl, rfl, hb⟩ := hrel
    by_cases hlt : k < n
    · obtain ⟨b, off, t, rfl, ht, _, hbl, f0, f1, f2, f3⟩ := Tm.get h hlt hb hh
      have hbw : b < wr.heap.size := by have := hb.size; omega
      have hN := Tm.nextTo_succ ht.out
      rcases Tm.nextTo_bd l k (by have := H.out; omega) with hbd | ⟨j, u, hbd, hj, hu, _⟩
      · have HN := Lib.hid (show Tm.nextTo l (k + 1) = if t.armed then (k : Int) else -1 from by rw [hN, hbd]; simp [Tm.better])
        rw [hbd]
        clear hN hbd
        cases ha : t.armed
        · rw [ha] at f0 HN
          clear ha
          go_wp2_with fail
          go_quiet (fail)
          go_wp2_with fail
          go_roundw
          case rel => exact ⟨k + 1, by omega, by go_num, by rw [HN.out]; rfl, below_drewN (hb.alloc hb.size _) _⟩
          case measure => simp [intOf]; omega
        · rw [ha] at f0 HN
          clear ha
          go_wp2_with fail
          go_quiet (fail)
          go_wp2_with fail
          go_roundw
          case rel => exact ⟨k + 1, by omega, by go_num, by rw [HN.out]; rfl, below_drewN (hb.alloc hb.size _) _⟩
          case measure => simp [intOf]; omega
      · obtain ⟨_, _, u', e, hu', _, _, g0, g1, g2, g3⟩ := Tm.get h (k := j) (by omega) hb hh
        obtain ⟨rfl, rfl⟩ : _ = b ∧ _ = off := by simpa [eq_comm] using e
        obtain rfl : u = u' := Option.some.inj (hu.symm.trans hu'.out)
        have HN := Lib.hid (show Tm.nextTo l (k + 1) = if t.armed && decide (t.next < u.next) then (k : Int) else j from by
          rw [hN, hbd]
          have : ¬ (j : Int) < 0 := by omega
          simp [Tm.better, hu, this])
        rw [hbd]
        clear hN hbd hu hu' e
        have hj0 : decide ((j : Int) < 0) = false := by simp
        cases ha : t.armed
        · rw [ha] at f0 HN
          clear ha
          go_wp2_with fail
          go_quiet (fail)
          go_wp2_with fail
          go_roundw
          case rel => exact ⟨k + 1, by omega, by go_num, by rw [HN.out]; rfl, below_drewN (hb.alloc hb.size _) _⟩
          case measure => simp [intOf]; omega
        · rw [ha] at f0 HN
          clear ha
          by_cases hq : t.next < u.next
          · have HQ := Lib.hid (decide_eq_true hq)
            go_wp2_with fail
            go_quiet (fail)
            go_wp2_with fail
            go_roundw
            case rel => exact ⟨k + 1, by omega, by go_num, by rw [HN.out, HQ.out]; rfl, below_drewN (hb.alloc hb.size _) _⟩
            case measure => simp [intOf]; omega
          · have HQ := Lib.hid (decide_eq_false hq)
            go_wp2_with fail
            go_quiet (fail)
            go_wp2_with fail
            go_roundw
            case rel => exact ⟨k + 1, by omega, by go_num, by rw [HN.out, HQ.out]; rfl, below_drewN (hb.alloc hb.size _) _⟩
            case measure => simp [intOf]; omega
    · go_wp2_with fail
      go_ret
      have hkn : k = n := by omega
      exact ⟨ret_int (by rw [hkn, H.out]; rfl), hb⟩

def Tm.nextB (l : List Tm) : Int := match l[(Tm.nextIx l).toNat]? with | some t => t.next | none => 0
/-- what NextToFire returns -/
def Tm.nextOk (l : List Tm) : Bool := Tm.good l && decide (0 ≤ Tm.nextIx l)
def Tm.nextR0 (l : List Tm) : Int := if Tm.nextOk l then Tm.nextIx l else 0
def Tm.nextR1 (l : List Tm) : Int := if Tm.nextOk l then Tm.nextB l else 0
theorem implNextToFire_any (v : Value) (l : List Tm) (w : World) {lo hi : Nat} (h : Rd Tm.cells 4 w lo hi v l) (hh : hi ≤ w.heap.size) : Calls Try.prog 23 #[v] w fun e w' => e = .returned (.tuple #[.int .i64 (Tm.nextR0 l), .int .i64 (Tm.nextR1 l), .bool (Tm.nextOk l)]) ∧ Below w.heap.size w w' := by
  have c1 := implAreTimers_any v l w h hh
  have c2 := fun W (hb : Below w.heap.size w W) => nextToFire_any v l W (h.below hb hh) (Nat.le_trans hh hb.size)
  obtain ⟨A, n, c, rfl, H, hc, hm⟩ := h.form
  cases hg : Tm.good l
  · have HF := Lib.hid (show Tm.nextOk l = false ∧ Tm.nextR0 l = 0 ∧ Tm.nextR1 l = 0 from by simp [Tm.nextOk, Tm.nextR0, Tm.nextR1, hg])
    rw [hg] at c1
    clear hg c2
    go_enter Try.func23, Try.ntmps23
    go_wp2_with fail
    refine c1.mono ?_; rintro e w1 ⟨rfl, b1⟩
    go_wp2_with fail
    go_ret3
    exact ⟨by rw [HF.out.1, HF.out.2.1, HF.out.2.2]; rfl, b1⟩
  · rw [hg] at c1
    rcases Tm.nextTo_bd l l.length (Nat.le_refl _) with hx | ⟨j, t, hx, hj, ht, _⟩
    · have hx : Tm.nextIx l = -1 := hx
      have HF := Lib.hid (show Tm.nextOk l = false ∧ Tm.nextR0 l = 0 ∧ Tm.nextR1 l = 0 from by simp [Tm.nextOk, Tm.nextR0, Tm.nextR1, hx])
      rw [hx] at c2
      clear hg hx
      go_enter Try.func23, Try.ntmps23
      go_wp2_with fail
      refine c1.mono ?_; rintro e w1 ⟨rfl, b1⟩
      go_wp2_with fail
      refine (c2 _ b1).mono ?_; rintro e w2 ⟨rfl, b2⟩
      go_wp2_with fail
      go_ret3
      exact ⟨by rw [HF.out.1, HF.out.2.1, HF.out.2.2]; rfl, b1.trans (b2.mono b1.size)⟩
    · have hx : Tm.nextIx l = j := hx
      have HF := Lib.hid (show Tm.nextOk l = true ∧ Tm.nextR0 l = j ∧ Tm.nextR1 l = t.next from by simp [Tm.nextOk, Tm.nextR0, Tm.nextR1, Tm.nextB, hx, hg, ht])
      rw [hx] at c2
      rw [← H.out] at hj
      clear hg hx
      have HT := Lib.hid ht
      clear ht
      go_enter Try.func23, Try.ntmps23
      go_wp2_with fail
      refine c1.mono ?_; rintro e w1 ⟨rfl, b1⟩
      go_wp2_with fail
      refine (c2 _ b1).mono ?_; rintro e w2 ⟨rfl, b2⟩
      replace b2 := b1.trans (b2.mono b1.size)
      clear b1
      obtain ⟨b, off, t', rfl, ht, _, hbl, f0, f1, f2, f3⟩ := Tm.get h hj b2 hh
      obtain rfl : t = t' := Option.some.inj (HT.out.symm.trans ht.out)
      go_wp2_with fail
      go_quiet (fail)
      go_wp2_with fail
      go_ret3
      exact ⟨by rw [HF.out.1, HF.out.2.1, HF.out.2.2]; rfl, below_drewN b2 _⟩
theorem specNextToFire_any (v : Value) (l : List Tm) (w : World) {lo hi : Nat} (h : Rd Tm.cells 4 w lo hi v l) (hh : hi ≤ w.heap.size) : Calls Try.prog 22 #[v] w fun e w' => e = .returned (.tuple #[.int .i64 (Tm.nextR0 l), .int .i64 (Tm.nextR1 l), .bool (Tm.nextOk l)]) ∧ Below w.heap.size w w' := by
  have c1 := l11Good_any v l w h hh
  have c2 := fun W (hb : Below w.heap.size w W) => l11Next_any v l W (h.below hb hh) (Nat.le_trans hh hb.size)
  obtain ⟨A, n, c, rfl, H, hc, hm⟩ := h.form
  cases hg : Tm.good l
  · have HF := Lib.hid (show Tm.nextOk l = false ∧ Tm.nextR0 l = 0 ∧ Tm.nextR1 l = 0 from by simp [Tm.nextOk, Tm.nextR0, Tm.nextR1, hg])
    rw [hg] at c1
    clear hg c2
    go_enter Try.func22, Try.ntmps22
    go_wp2_with fail
    refine c1.mono ?_; rintro e w1 ⟨rfl, b1⟩
    go_wp2_with fail
    go_ret3
    exact ⟨by rw [HF.out.1, HF.out.2.1, HF.out.2.2]; rfl, b1⟩
  · rw [hg] at c1
    rcases Tm.nextTo_bd l l.length (Nat.le_refl _) with hx | ⟨j, t, hx, hj, ht, _⟩
    · have hx : Tm.nextIx l = -1 := hx
      have HF := Lib.hid (show Tm.nextOk l = false ∧ Tm.nextR0 l = 0 ∧ Tm.nextR1 l = 0 from by simp [Tm.nextOk, Tm.nextR0, Tm.nextR1, hx])
      rw [hx] at c2
      clear hg hx
      go_enter Try.func22, Try.ntmps22
      go_wp2_with fail
      refine c1.mono ?_; rintro e w1 ⟨rfl, b1⟩
      go_wp2_with fail
      refine (c2 _ b1).mono ?_; rintro e w2 ⟨rfl, b2⟩
      go_wp2_with fail
      go_ret3
      exact ⟨by rw [HF.out.1, HF.out.2.1, HF.out.2.2]; rfl, b1.trans (b2.mono b1.size)⟩
    · have hx : Tm.nextIx l = j := hx
      have HF := Lib.hid (show Tm.nextOk l = true ∧ Tm.nextR0 l = j ∧ Tm.nextR1 l = t.next from by simp [Tm.nextOk, Tm.nextR0, Tm.nextR1, Tm.nextB, hx, hg, ht])
      rw [hx] at c2
      rw [← H.out] at hj
      clear hg hx
      have HT := Lib.hid ht
      clear ht
      go_enter Try.func22, Try.ntmps22
      go_wp2_with fail
      refine c1.mono ?_; rintro e w1 ⟨rfl, b1⟩
      go_wp2_with fail
      refine (c2 _ b1).mono ?_; rintro e w2 ⟨rfl, b2⟩
      go_wp2_with fail
      refine (c2 _ (b1.trans (b2.mono b1.size))).mono ?_; rintro e w3 ⟨rfl, b3⟩
      replace b2 := (b1.trans (b2.mono b1.size)).trans (b3.mono (by have := b1.size; have := b2.size; omega))
      clear b1
      obtain ⟨b, off, t', rfl, ht, _, hbl, f0, f1, f2, f3⟩ := Tm.get h hj b2 hh
      obtain rfl : t = t' := Option.some.inj (HT.out.symm.trans ht.out)
      go_wp2_with fail
      go_quiet (fail)
      go_wp2_with fail
      go_ret3
      exact ⟨by rw [HF.out.1, HF.out.2.1, HF.out.2.2]; rfl, below_drewN b2 _⟩

end Go.Proofs.Ytmblpgocgkfjcaa
