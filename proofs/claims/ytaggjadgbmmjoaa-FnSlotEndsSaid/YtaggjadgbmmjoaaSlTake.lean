/- Taking the most urgent pending interrupt, in the program and in the reference. Condition (the inner functions): valid slots. -/
import Derived.Test.YtaggjadgbmmjoaaSlPend
import Derived.Test.YtaggjadgbmmjoaaSlOps
namespace Go.Proofs.Ytaggjadgbmmjoaa
open Go.RowKit Go.ChangeShapes Go.WideShapes Go.Deep

def Sl.bx (l : List Sl) : Int := Sl.best true l l.length
def Sl.act (s : Sl) : Sl := ⟨2, s.irq, s.prio⟩
def Sl.tkOk (l : List Sl) (m : Int) : Bool := decide (0 ≤ Sl.bx l) && decide ((Sl.at_ l (Sl.bx l)).prio < m)
def Sl.tkS (l : List Sl) : List Sl := l.set (Sl.bx l).toNat (Sl.act (Sl.at_ l (Sl.bx l)))
def Sl.tkI (l : List Sl) : Int := (Sl.at_ l (Sl.bx l)).irq
def Sl.tkR (l : List Sl) (m : Int) : List Sl := if Sl.tkOk l m then Sl.tkS l else []
def Sl.tkV (l : List Sl) (m : Int) : Int := if Sl.tkOk l m then Sl.tkI l else 0
/-- as the reference's inner function returns them -/
def Sl.tkL (l : List Sl) (m : Int) : List Sl := if Sl.tkOk l m then Sl.tkS l else l
def Sl.tkW (l : List Sl) (m : Int) : Int := if Sl.tkOk l m then Sl.tkI l else -1
theorem Sl.bx_cases (l : List Sl) : Sl.bx l = -1 ∨ ∃ (k : Nat) (s : Sl), Sl.bx l = k ∧ k < l.length ∧ l[k]? = some s ∧ s.state = 1 :=
  (Sl.best_bd true l l.length (Nat.le_refl _)).imp id fun ⟨k, s, h1, h2, h3, h4⟩ => ⟨k, s, h1, h2, h3, h4⟩
theorem Sl.tk_no {l : List Sl} {m : Int} (h : Sl.tkOk l m = false) : Sl.tkOk l m = false ∧ Sl.tkR l m = [] ∧ Sl.tkV l m = 0 ∧ Sl.tkL l m = l ∧ Sl.tkW l m = -1 := by
  simp [Sl.tkR, Sl.tkV, Sl.tkL, Sl.tkW, h]
theorem Sl.tk_yes {l : List Sl} {m : Int} {k : Nat} {s : Sl} (h : Sl.bx l = k) (hs : l[k]? = some s) (hp : s.prio < m) : Sl.tkOk l m = true ∧ Sl.tkR l m = l.set k (Sl.act s) ∧ Sl.tkV l m = s.irq ∧ Sl.tkL l m = l.set k (Sl.act s) ∧ Sl.tkW l m = s.irq := by
  have h1 : Sl.tkOk l m = true := by simp [Sl.tkOk, h, Sl.at_get hs, hp]
  simp [Sl.tkR, Sl.tkV, Sl.tkL, Sl.tkW, h1, Sl.tkS, Sl.tkI, h, Sl.at_get hs]
theorem Sl.tk_irq {l : List Sl} (hg : Sl.good l = true) {m : Int} (h : Sl.tkOk l m = true) : 0 ≤ Sl.tkI l := by
  rcases Sl.bx_cases l with hb | ⟨k, s, hb, _, hs, h1⟩
  · simp [Sl.tkOk, hb] at h
  · have := Sl.good_one hg hs
    have h0 : ¬ s.state = 0 := by omega
    simp only [Sl.okAt, if_neg h0, Bool.and_eq_true] at this
    have := inB_true this.2.1
    rw [Sl.tkI, hb, Sl.at_get hs]
    exact this.1
def Sl.ttOk (l : List Sl) (m : Int) : Bool := (Sl.good l && inB m 0 16) && Sl.tkOk l m
def Sl.ttR (l : List Sl) (m : Int) : List Sl := if Sl.ttOk l m then Sl.tkS l else []
def Sl.ttV (l : List Sl) (m : Int) : Int := if Sl.ttOk l m then Sl.tkI l else 0
theorem Sl.tkS_len (l : List Sl) : (Sl.tkS l).length = l.length := by simp [Sl.tkS]
theorem Sl.ttR_len (l : List Sl) (m : Int) : (Sl.ttR l m).length ≤ 1048576 := by
  unfold Sl.ttR; split
  · rename_i h
    simp only [Sl.ttOk, Bool.and_eq_true] at h
    rw [Sl.tkS_len, Sl.good_len h.1.1]; decide
  · simp
theorem Sl.tt_no {l : List Sl} {m : Int} (h : Sl.ttOk l m = false) : Sl.ttOk l m = false ∧ Sl.ttR l m = [] ∧ Sl.ttV l m = 0 := by simp [Sl.ttR, Sl.ttV, h]

set_option maxHeartbeats 1000000 in
theorem specTake_in (v : Value) (l : List Sl) (m : Int) (w : World) {lo hi : Nat} (h : Rd Sl.cells 3 w lo hi v l) (hh : hi ≤ w.heap.size) (hg : Sl.good l = true) :
    Calls Try.prog 45 #[v, .int .i64 m] w fun r w' => ∃ v', r = .returned (.tuple #[v', .int .i64 (Sl.tkW l m)]) ∧ Rd Sl.cells 3 w' 0 w'.heap.size v' (Sl.tkL l m) ∧ Below w.heap.size w w' := by
  have hl : l.length ≤ 1048576 := by rw [Sl.good_len hg]; decide
  have c1 := l8Best_any v l true w h hh
  change Calls _ _ _ _ (fun e w' => e = .returned (.int .i64 (Sl.bx l)) ∧ Below w.heap.size w w') at c1
  have c3 := fun (W : World) (kb : Below w.heap.size w W) (k : Nat) (s : Sl) (hk : k < l.length) => specWith_any v l k s W (h.below kb hh) (Nat.le_trans hh kb.size) hk hl
  have hrd := h
  obtain ⟨A, n, c, rfl, H, hc, hm⟩ := h.form
  clear hg
  rcases Sl.bx_cases l with hf | ⟨k, s, hf, hk, hs, _⟩
  · rw [hf] at c1
    have HF := Lib.hid (Sl.tk_no (l := l) (m := m) (by simp [Sl.tkOk, hf]))
    clear hf c3
    go_enter Try.func45, Try.ntmps45
    go_wp2_with fail
    refine c1.mono ?_; rintro q_ w1 ⟨rfl, b1⟩
    go_wp2_with fail
    go_ret2
    exact ⟨_, by rw [HF.out.2.2.2.2]; rfl, by rw [HF.out.2.2.2.1]; exact (hrd.below b1 hh).mono (Nat.zero_le _) (Nat.le_trans hh b1.size), b1⟩
  · rw [hf] at c1
    have hkn : k < n := by rw [H.out]; exact hk
    have HT := Lib.hid hs
    have hj0 : decide ((k : Int) < 0) = false := by simp
    by_cases hp : s.prio < m
    · have HF := Lib.hid (Sl.tk_yes hf hs hp)
      have hd : decide (m ≤ s.prio) = false := decide_eq_false (by omega)
      have c3 := fun W kb => c3 W kb k (Sl.act s) hk
      unfold Sl.act Sl.val at c3
      simp only at c3
      unfold Sl.act at HF
      clear hf hs hp
      go_enter Try.func45, Try.ntmps45
      go_wp2_with fail
      refine c1.mono ?_; rintro q_ w1 ⟨rfl, b1⟩
      obtain ⟨b, off, t, rfl, ht, _, hbl, f0, f1, f2⟩ := Sl.get hrd hkn b1 hh
      obtain rfl := Option.some.inj (HT.out.symm.trans ht.out)
      have hbw1 : b < w1.heap.size := by have := b1.size; omega
      go_wp2_with fail
      have k0 : (w1.alloc (.cells #[.int .i64 2, .int .i64 s.irq, .int .i64 s.prio] 33)).cell? ⟨w1.heap.size, 0, none⟩ = some (.int .i64 2) := by simp
      have k1 : (w1.alloc (.cells #[.int .i64 2, .int .i64 s.irq, .int .i64 s.prio] 33)).cell? ⟨w1.heap.size, 1, none⟩ = some (.int .i64 s.irq) := by simp
      have k2 : (w1.alloc (.cells #[.int .i64 2, .int .i64 s.irq, .int .i64 s.prio] 33)).cell? ⟨w1.heap.size, 2, none⟩ = some (.int .i64 s.prio) := by simp
      have bx := b1.alloc b1.size (.cells #[.int .i64 2, .int .i64 s.irq, .int .i64 s.prio] 33)
      have z2 : w1.heap.size < (w1.alloc (.cells #[.int .i64 2, .int .i64 s.irq, .int .i64 s.prio] 33)).heap.size := by simp
      have zz := bx.size
      clear f0 f1 f2
      generalize w1.alloc _ = w2 at bx k0 k1 k2 z2 zz ⊢
      have c5 := c3 w2.drew (bx.drew)
      go_region_with (go_at_call 39; refine c5.mono ?_; rintro q_ w3 ⟨v', rfl, o1, b3⟩; (try simp only [World.size_drew] at b3 o1); (have k3 := (b3.cell (p := ⟨w1.heap.size, 1, none⟩) z2).trans k1))
      all_goals
        have bx := bx.drew
        go_wp2_with fail
        go_ret2
        exact ⟨v', by rw [HF.out.2.2.2.2]; rfl, by rw [HF.out.2.2.2.1]; exact o1.rd.mono (Nat.zero_le _) (Nat.le_refl _), bx.trans (b3.mono zz)⟩
    · have HF := Lib.hid (Sl.tk_no (l := l) (m := m) (by simp [Sl.tkOk, hf, Sl.at_get hs, hp]))
      have hd : decide (m ≤ s.prio) = true := decide_eq_true (by omega)
      clear hf hs hp c3
      go_enter Try.func45, Try.ntmps45
      go_wp2_with fail
      refine c1.mono ?_; rintro q_ w1 ⟨rfl, b1⟩
      have hrd2 := hrd
      obtain ⟨b, off, t, rfl, ht, _, hbl, f0, f1, f2⟩ := Sl.get hrd hkn b1 hh
      obtain rfl := Option.some.inj (HT.out.symm.trans ht.out)
      have hbw1 : b < w1.heap.size := by have := b1.size; omega
      go_wp2_with fail
      go_ret2
      exact ⟨_, by rw [HF.out.2.2.2.2]; rfl, by rw [HF.out.2.2.2.1]; exact (hrd.below b1 hh).mono (Nat.zero_le _) (Nat.le_trans hh b1.size), b1⟩

end Go.Proofs.Ytaggjadgbmmjoaa
