/- The quiet time behind a tick, in the program and in the reference. No condition. -/
import Derived.Test.YtmblpgocgkfjcaaTmQuiet2
namespace Go.Proofs.Ytmblpgocgkfjcaa
open Go.RowKit Go.ChangeShapes Go.WideShapes Go.Deep

def Tm.quietOk (l : List Tm) (x : Int) : Bool := Tm.good l && (inB x 0 100000 && Tm.few (x - 1) l)
def Tm.quietV (r : List Tm) (x : Int) : Int := if 0 ≤ Tm.nextIx r then (match r[(Tm.nextIx r).toNat]? with | some t => t.next - x | none => 0) else 100000
def Tm.quietR (l : List Tm) (x : Int) : Int := if Tm.quietOk l x then Tm.quietV (Tm.final (x - 1) l) x else 0

theorem Tm.next_get (r : List Tm) : (Tm.nextIx r = -1 ∧ ∀ x, Tm.quietV r x = 100000) ∨ ∃ (i : Nat) (t : Tm), Tm.nextIx r = i ∧ i < r.length ∧ r[i]? = some t ∧ ∀ x, Tm.quietV r x = t.next - x := by
  rcases Tm.due_cases 0 r with ⟨h, _⟩ | ⟨i, t, h, hi, ht, _⟩
  · exact .inl ⟨h, fun x => by unfold Tm.quietV; rw [h]; rfl⟩
  · exact .inr ⟨i, t, h, hi, ht, fun x => by unfold Tm.quietV; rw [h]; simp [ht]⟩
theorem Tm.count_neg {l : List Tm} (hg : Tm.good l = true) : Tm.count (-1) l = 0 := by
  refine Tm.count_zero l fun t ht _ => ?_
  simp only [Tm.good, Bool.and_eq_true, List.all_eq_true] at hg
  have := hg.2 t ht
  simp only [Tm.ok, Bool.and_eq_true] at this
  have := inB_true this.1
  omega
theorem Tm.final_good {x : Int} (hx2 : x ≤ 100000) {l : List Tm} (hg : Tm.good l = true) : Tm.good (Tm.final x l) = true := Tm.good_final hx2 _ hg

theorem implQuietFor_any (v : Value) (l : List Tm) (x : Int) (w : World) {lo hi : Nat} (h : Rd Tm.cells 4 w lo hi v l) (hh : hi ≤ w.heap.size) :
    Calls Try.prog 38 #[v, .int .i64 x] w fun r w' => r = .returned (.tuple #[.int .i64 (Tm.quietR l x), .bool (Tm.quietOk l x)]) ∧ Below w.heap.size w w' := by
  have c1 := implAreTimers_any v l w h hh
  have c2 := fun W => isTick_any x W
  have hrd := h
  obtain ⟨A, n, c, rfl, H, hc, hm⟩ := h.form
  cases hg : Tm.good l
  · have HF := Lib.hid (show Tm.quietOk l x = false ∧ Tm.quietR l x = 0 from by simp [Tm.quietR, Tm.quietOk, hg])
    rw [hg] at c1
    clear hg
    go_enter Try.func38, Try.ntmps38
    go_wp2_with fail
    refine c1.mono ?_; rintro q w1 ⟨rfl, b1⟩
    go_wp2_with fail
    go_ret2
    exact ⟨by rw [HF.out.1, HF.out.2]; rfl, b1⟩
  · cases hi : inB x 0 100000
    · have HF := Lib.hid (show Tm.quietOk l x = false ∧ Tm.quietR l x = 0 from by simp [Tm.quietR, Tm.quietOk, hi])
      rw [hg] at c1
      rw [hi] at c2
      clear hg hi
      go_enter Try.func38, Try.ntmps38
      go_wp2_with fail
      refine c1.mono ?_; rintro q w1 ⟨rfl, b1⟩
      go_wp2_with fail
      refine (c2 _).mono ?_; rintro q w' ⟨rfl, rfl⟩
      go_wp2_with fail
      go_ret2
      exact ⟨by rw [HF.out.1, HF.out.2]; rfl, b1⟩
    · have hx := inB_true hi
      have HG := Lib.hid hg
      obtain ⟨hx1, hx2⟩ := hx
      have c3 := fun W k => implFire_any _ l (x - 1) W (hrd.below k hh) (Nat.le_trans hh k.size) hg (by omega)
      have HFG := Lib.hid (Tm.final_good (x := x - 1) (by omega) hg)
      cases hq : Tm.few (x - 1) l
      · have HF := Lib.hid (show Tm.quietOk l x = false ∧ Tm.quietR l x = 0 from by simp [Tm.quietR, Tm.quietOk, hq])
        rw [hg] at c1
        rw [hi] at c2
        rw [hq] at c3
        clear hg hi hq
        go_enter Try.func38, Try.ntmps38
        go_wp2_with fail
        refine c1.mono ?_; rintro q w1 ⟨rfl, b1⟩
        go_wp2_with fail
        refine (c2 _).mono ?_; rintro q w' ⟨rfl, rfl⟩
        go_wp2_with fail
        refine (c3 _ b1).mono ?_; rintro q w3 ⟨v3, v4, rfl, -, b3⟩
        go_wp2_with fail
        go_ret2
        exact ⟨by rw [HF.out.1, HF.out.2]; rfl, b1.trans (b3.mono b1.size)⟩
      · have HF := Lib.hid (show Tm.quietOk l x = true ∧ Tm.quietR l x = Tm.quietV (Tm.final (x - 1) l) x from by simp [Tm.quietR, Tm.quietOk, hq, hg, hi])
        rw [hg] at c1
        rw [hi] at c2
        rw [hq] at c3
        clear hg hi hq
        generalize Tm.final (x - 1) l = r at HFG HF c3
        go_enter Try.func38, Try.ntmps38
        go_wp2_with fail
        refine c1.mono ?_; rintro q w1 ⟨rfl, b1⟩
        go_wp2_with fail
        refine (c2 _).mono ?_; rintro q w' ⟨rfl, rfl⟩
        go_wp2_with fail
        refine (c3 _ b1).mono ?_; rintro q w3 ⟨v3, v4, rfl, hr3, b3⟩
        have hr3 := hr3 trivial
        have b13 := b1.trans (b3.mono b1.size)
        have c4 := nextToFire_any _ r w3 hr3 (Nat.le_refl _)
        obtain ⟨A3, n3, cap3, rfl, H3, _, _⟩ := hr3.form
        clear b3 c3 c1 c2
        go_wp2_with fail
        rcases Tm.next_get r with ⟨hi, hv⟩ | ⟨i, t, hi, hil, ht, hv⟩
        · have HV := Lib.hid hv
          rw [hi] at c4
          clear hi hv
          refine c4.mono ?_; rintro q w4 ⟨rfl, b4⟩
          go_wp2_with fail
          go_ret2
          exact ⟨by rw [HF.out.1, HF.out.2, HV.out]; rfl, b13.trans (b4.mono b13.size)⟩
        · have HV := Lib.hid hv
          have HT := Lib.hid ht
          have hok := Tm.good_ok HFG.out ht
          simp only [Tm.ok, Bool.and_eq_true] at hok
          obtain ⟨ht1, ht2⟩ := inB_true hok.1
          rw [hi] at c4
          have hn3 : i < n3 := by have := H3.out; omega
          clear hi hv ht hok
          refine c4.mono ?_; rintro q w4 ⟨rfl, b4⟩
          obtain ⟨g, off2, t', rfl, ht', _, hgl, f0, f1, f2, f3⟩ := Tm.get hr3 hn3 b4 (Nat.le_refl _)
          obtain rfl := Option.some.inj (HT.out.symm.trans ht'.out)
          go_wp2_with fail
          go_ret2
          exact ⟨by rw [HF.out.1, HF.out.2, HV.out]; rfl, b13.trans (b4.mono b13.size)⟩

theorem specQuietFor_any (v : Value) (l : List Tm) (x : Int) (w : World) {lo hi : Nat} (h : Rd Tm.cells 4 w lo hi v l) (hh : hi ≤ w.heap.size) :
    Calls Try.prog 37 #[v, .int .i64 x] w fun r w' => r = .returned (.tuple #[.int .i64 (Tm.quietR l x), .bool (Tm.quietOk l x)]) ∧ Below w.heap.size w w' := by
  have c1 := l11Good_any v l w h hh
  have c2 := fun W => l11Tick_any x W
  have hrd := h
  obtain ⟨A, n, c, rfl, H, hc, hm⟩ := h.form
  cases hg : Tm.good l
  · have HF := Lib.hid (show Tm.quietOk l x = false ∧ Tm.quietR l x = 0 from by simp [Tm.quietR, Tm.quietOk, hg])
    rw [hg] at c1
    clear hg
    go_enter Try.func37, Try.ntmps37
    go_wp2_with fail
    refine c1.mono ?_; rintro q w1 ⟨rfl, b1⟩
    go_wp2_with fail
    go_ret2
    exact ⟨by rw [HF.out.1, HF.out.2]; rfl, b1⟩
  · cases hi : inB x 0 100000
    · have HF := Lib.hid (show Tm.quietOk l x = false ∧ Tm.quietR l x = 0 from by simp [Tm.quietR, Tm.quietOk, hi])
      rw [hg] at c1
      rw [hi] at c2
      clear hg hi
      go_enter Try.func37, Try.ntmps37
      go_wp2_with fail
      refine c1.mono ?_; rintro q w1 ⟨rfl, b1⟩
      go_wp2_with fail
      refine (c2 _).mono ?_; rintro q w' ⟨rfl, rfl⟩
      go_wp2_with fail
      go_ret2
      exact ⟨by rw [HF.out.1, HF.out.2]; rfl, b1⟩
    · have hx := inB_true hi
      have HG := Lib.hid hg
      obtain ⟨hx1, hx2⟩ := hx
      by_cases hx0 : 0 < x
      · have c3 := fun W k => l11Count_any _ l (x - 1) W (hrd.below k hh) (Nat.le_trans hh k.size) hg (by omega) (by omega)
        have c5 := fun W k => l11Fire_any _ l (x - 1) W (hrd.below k hh) (Nat.le_trans hh k.size) hg (by omega)
        have HFG := Lib.hid (Tm.final_good (x := x - 1) (by omega) hg)
        by_cases hq : Tm.count (x - 1) l ≤ 200
        · have HF := Lib.hid (show Tm.quietOk l x = true ∧ Tm.quietR l x = Tm.quietV (Tm.final (x - 1) l) x from by simp [Tm.quietR, Tm.quietOk, Tm.few, hq, hg, hi])
          rw [hg] at c1
          rw [hi] at c2
          clear hg hi
          generalize Tm.final (x - 1) l = r at HFG HF c5
          generalize Tm.count (x - 1) l = ct at hq c3
          go_enter Try.func37, Try.ntmps37
          go_wp2_with fail
          refine c1.mono ?_; rintro q w1 ⟨rfl, b1⟩
          go_wp2_with fail
          refine (c2 _).mono ?_; rintro q w' ⟨rfl, rfl⟩
          go_wp2_with fail
          refine (c3 _ b1).mono ?_; rintro q w2 ⟨rfl, b2⟩
          have b12 := b1.trans (b2.mono b1.size)
          go_wp2_with fail
          refine (c5 _ b12).mono ?_; rintro q w3 ⟨v3, v4, rfl, hr3, b3⟩
          have b13 := b12.trans (b3.mono b12.size)
          have c4 := l11Next_any _ r w3 hr3 (Nat.le_refl _)
          obtain ⟨A3, n3, cap3, rfl, H3, _, _⟩ := hr3.form
          clear b3 c3 c1 c2 c5 b12 b2 b1
          go_wp2_with fail
          rcases Tm.next_get r with ⟨hi, hv⟩ | ⟨i, t, hi, hil, ht, hv⟩
          · have HV := Lib.hid hv
            rw [hi] at c4
            clear hi hv
            refine c4.mono ?_; rintro q w4 ⟨rfl, b4⟩
            go_wp2_with fail
            go_ret2
            exact ⟨by rw [HF.out.1, HF.out.2, HV.out]; rfl, b13.trans (b4.mono b13.size)⟩
          · have HV := Lib.hid hv
            have HT := Lib.hid ht
            have hok := Tm.good_ok HFG.out ht
            simp only [Tm.ok, Bool.and_eq_true] at hok
            obtain ⟨ht1, ht2⟩ := inB_true hok.1
            rw [hi] at c4
            have hn3 : i < n3 := by have := H3.out; omega
            clear hi hv ht hok
            refine c4.mono ?_; rintro q w4 ⟨rfl, b4⟩
            obtain ⟨g, off2, t', rfl, ht', _, hgl, f0, f1, f2, f3⟩ := Tm.get hr3 hn3 b4 (Nat.le_refl _)
            obtain rfl := Option.some.inj (HT.out.symm.trans ht'.out)
            go_wp2_with fail
            go_ret2
            exact ⟨by rw [HF.out.1, HF.out.2, HV.out]; rfl, b13.trans (b4.mono b13.size)⟩
        · have HF := Lib.hid (show Tm.quietOk l x = false ∧ Tm.quietR l x = 0 from by simp [Tm.quietR, Tm.quietOk, Tm.few, hq])
          rw [hg] at c1
          rw [hi] at c2
          have hct := Tm.count_nonneg (tick := x - 1) (by omega) (l := l) (by simp only [Tm.good, Bool.and_eq_true] at hg; exact hg.2)
          clear hg hi c5
          generalize Tm.count (x - 1) l = ct at hq c3 hct
          go_enter Try.func37, Try.ntmps37
          go_wp2_with fail
          refine c1.mono ?_; rintro q w1 ⟨rfl, b1⟩
          go_wp2_with fail
          refine (c2 _).mono ?_; rintro q w' ⟨rfl, rfl⟩
          go_wp2_with fail
          refine (c3 _ b1).mono ?_; rintro q w2 ⟨rfl, b2⟩
          go_wp2_with fail
          go_ret2
          exact ⟨by rw [HF.out.1, HF.out.2]; rfl, b1.trans (b2.mono b1.size)⟩
      · obtain rfl : x = 0 := by omega
        have hfin : Tm.final (0 - 1) l = l := by unfold Tm.final; rw [show (0 - 1 : Int) = -1 by omega, Tm.count_neg hg]; rfl
        have hfew : Tm.few (0 - 1) l = true := by unfold Tm.few; rw [show (0 - 1 : Int) = -1 by omega, Tm.count_neg hg]; rfl
        have HF := Lib.hid (show Tm.quietOk l 0 = true ∧ Tm.quietR l 0 = Tm.quietV l 0 from by simp only [Tm.quietR, Tm.quietOk, hfew, hfin, hg, hi]; simp)
        rw [hg] at c1
        rw [hi] at c2
        clear hg hi hfin hfew
        have c4 := fun W k => l11Next_any _ l W (hrd.below k hh) (Nat.le_trans hh k.size)
        go_enter Try.func37, Try.ntmps37
        go_wp2_with fail
        refine c1.mono ?_; rintro q w1 ⟨rfl, b1⟩
        go_wp2_with fail
        refine (c2 _).mono ?_; rintro q w' ⟨rfl, rfl⟩
        go_wp2_with fail
        have c4 := c4 _ b1
        rcases Tm.next_get l with ⟨hi, hv⟩ | ⟨i, t, hi, hil, ht, hv⟩
        · have HV := Lib.hid hv
          rw [hi] at c4
          clear hi hv
          refine c4.mono ?_; rintro q w4 ⟨rfl, b4⟩
          go_wp2_with fail
          go_ret2
          exact ⟨by rw [HF.out.1, HF.out.2, HV.out]; rfl, b1.trans (b4.mono b1.size)⟩
        · have HV := Lib.hid hv
          have HT := Lib.hid ht
          have hok := Tm.good_ok HG.out ht
          simp only [Tm.ok, Bool.and_eq_true] at hok
          obtain ⟨ht1, ht2⟩ := inB_true hok.1
          rw [hi] at c4
          have hn3 : i < n := by have := H.out; omega
          clear hi hv ht hok
          refine c4.mono ?_; rintro q w4 ⟨rfl, b4⟩
          obtain ⟨g, off2, t', rfl, ht', _, hgl, f0, f1, f2, f3⟩ := Tm.get hrd hn3 (b1.trans (b4.mono b1.size)) hh
          obtain rfl := Option.some.inj (HT.out.symm.trans ht'.out)
          go_wp2_with fail
          go_ret2
          exact ⟨by rw [HF.out.1, HF.out.2, HV.out]; simp, b1.trans (b4.mono b1.size)⟩

end Go.Proofs.Ytmblpgocgkfjcaa
