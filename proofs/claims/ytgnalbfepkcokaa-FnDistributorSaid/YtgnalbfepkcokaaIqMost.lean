/- The ready interrupts and the most urgent one, in the program and in the reference. No condition. -/
import Derived.Test.YtgnalbfepkcokaaIqAll
namespace Go.Proofs.Ytgnalbfepkcokaa
open Go.RowKit Go.ChangeShapes Go.WideShapes Go.Deep

def Iq.rdOk (l : List Iq) (cpu : Int) : Bool := Iq.good l && inB cpu 0 3
def Iq.rdR (l : List Iq) (cpu : Int) : List Int := if Iq.rdOk l cpu then Iq.all l cpu else []
theorem Iq.rdR_len (l : List Iq) (cpu : Int) : (Iq.rdR l cpu).length ≤ 1048576 := by
  unfold Iq.rdR
  split
  · rename_i h
    simp only [Iq.rdOk, Bool.and_eq_true] at h
    have := Iq.all_len l cpu
    have := Iq.good_len h.1
    omega
  · simp
theorem Iq.rd_no {l : List Iq} {cpu : Int} (h : Iq.rdOk l cpu = false) : Iq.rdOk l cpu = false ∧ Iq.rdR l cpu = [] := ⟨h, by simp [Iq.rdR, h]⟩
theorem Iq.rd_yes {l : List Iq} {cpu : Int} (h : Iq.rdOk l cpu = true) : Iq.rdOk l cpu = true ∧ Iq.rdR l cpu = Iq.all l cpu := ⟨h, by simp [Iq.rdR, h]⟩
theorem Iq.rd_get {l : List Iq} {cpu : Int} (h : Iq.rdOk l cpu = true) : Iq.good l = true ∧ inB cpu 0 3 = true := by simpa [Iq.rdOk] using h

theorem implReadyIrqs_any (v : Value) (l : List Iq) (cpu : Int) (w : World) {lo hi : Nat} (h : Rd Iq.cells 5 w lo hi v l) (hh : hi ≤ w.heap.size) :
    Calls Try.prog 53 #[v, .int .i64 cpu] w fun r w' => ∃ v', r = .returned (.tuple #[v', .bool (Iq.rdOk l cpu)]) ∧ Ow Nm.cells 1 3 w' w.heap.size w'.heap.size v' (Iq.rdR l cpu) ∧ (Iq.rdR l cpu).length ≤ 1048576 ∧ Below w.heap.size w w' := by
  have hlen := Iq.rdR_len l cpu
  have c1 := implAreIrqs_any v l w h hh
  have c2 := fun W => isCpu_any cpu W
  have c3 := fun (W : World) (k : Below w.heap.size w W) h8 => implReady_any v l cpu W (h.below k hh) (Nat.le_trans hh k.size) h8
  obtain ⟨A, n, c, rfl, H, hc, hm⟩ := h.form
  cases hg : Iq.good l
  · have HF := Lib.hid (Iq.rd_no (l := l) (cpu := cpu) (by simp [Iq.rdOk, hg]))
    rw [hg] at c1
    clear hg c3
    go_enter Try.func53, Try.ntmps53
    go_wp2_with fail
    refine c1.mono ?_; rintro q w1 ⟨rfl, b1⟩
    go_wp2_with fail
    go_ret2
    exact ⟨_, by rw [HF.out.1]; rfl, by rw [HF.out.2]; exact Ow.nil_, hlen, b1⟩
  · cases hi2 : inB cpu 0 3
    · have HF := Lib.hid (Iq.rd_no (l := l) (cpu := cpu) (by simp [Iq.rdOk, hi2]))
      rw [hg] at c1
      rw [hi2] at c2
      clear hg hi2 c3
      go_enter Try.func53, Try.ntmps53
      go_wp2_with fail
      refine c1.mono ?_; rintro q w1 ⟨rfl, b1⟩
      go_wp2_with fail
      refine (c2 _).mono ?_; rintro q w' ⟨rfl, rfl⟩
      go_wp2_with fail
      go_ret2
      exact ⟨_, by rw [HF.out.1]; rfl, by rw [HF.out.2]; exact Ow.nil_, hlen, b1⟩
    · have HF := Lib.hid (Iq.rd_yes (l := l) (cpu := cpu) (by simp [Iq.rdOk, hg, hi2]))
      have c3 := fun W k => c3 W k (by rw [Iq.good_len hg]; decide)
      rw [hg] at c1
      rw [hi2] at c2
      clear hg hi2
      go_enter Try.func53, Try.ntmps53
      go_wp2_with fail
      refine c1.mono ?_; rintro q w1 ⟨rfl, b1⟩
      go_wp2_with fail
      refine (c2 _).mono ?_; rintro q w' ⟨rfl, rfl⟩
      go_wp2_with fail
      refine (c3 _ b1).mono ?_; rintro q w2 ⟨v', rfl, o2, b2⟩
      go_wp2_with fail
      go_ret2
      exact ⟨v', by rw [HF.out.1]; rfl, by rw [HF.out.2]; exact o2.mono b1.size (Nat.le_refl _), hlen, b1.trans (b2.mono b1.size)⟩

theorem specReadyIrqs_any (v : Value) (l : List Iq) (cpu : Int) (w : World) {lo hi : Nat} (h : Rd Iq.cells 5 w lo hi v l) (hh : hi ≤ w.heap.size) :
    Calls Try.prog 54 #[v, .int .i64 cpu] w fun r w' => ∃ v', r = .returned (.tuple #[v', .bool (Iq.rdOk l cpu)]) ∧ Rd Nm.cells 1 w' 0 w'.heap.size v' (Iq.rdR l cpu) ∧ Below w.heap.size w w' := by
  have c1 := l6Good_any v l w h hh
  have c2 := fun W => l6Cpu_any cpu W
  have c3 := fun (W : World) (k : Below w.heap.size w W) h8 => l6All_any v l cpu W (h.below k hh) (Nat.le_trans hh k.size) h8
  obtain ⟨A, n, c, rfl, H, hc, hm⟩ := h.form
  cases hg : Iq.good l
  · have HF := Lib.hid (Iq.rd_no (l := l) (cpu := cpu) (by simp [Iq.rdOk, hg]))
    rw [hg] at c1
    clear hg c3
    go_enter Try.func54, Try.ntmps54
    go_wp2_with fail
    refine c1.mono ?_; rintro q w1 ⟨rfl, b1⟩
    go_wp2_with fail
    go_ret2
    exact ⟨_, by rw [HF.out.1]; rfl, by rw [HF.out.2]; exact Rd.empty (by decide), b1.alloc b1.size _⟩
  · cases hi2 : inB cpu 0 3
    · have HF := Lib.hid (Iq.rd_no (l := l) (cpu := cpu) (by simp [Iq.rdOk, hi2]))
      rw [hg] at c1
      rw [hi2] at c2
      clear hg hi2 c3
      go_enter Try.func54, Try.ntmps54
      go_wp2_with fail
      refine c1.mono ?_; rintro q w1 ⟨rfl, b1⟩
      go_wp2_with fail
      refine (c2 _).mono ?_; rintro q w' ⟨rfl, rfl⟩
      go_wp2_with fail
      go_ret2
      exact ⟨_, by rw [HF.out.1]; rfl, by rw [HF.out.2]; exact Rd.empty (by decide), b1.alloc b1.size _⟩
    · have HF := Lib.hid (Iq.rd_yes (l := l) (cpu := cpu) (by simp [Iq.rdOk, hg, hi2]))
      have c3 := fun W k => c3 W k (by rw [Iq.good_len hg]; decide)
      rw [hg] at c1
      rw [hi2] at c2
      clear hg hi2
      go_enter Try.func54, Try.ntmps54
      go_wp2_with fail
      refine c1.mono ?_; rintro q w1 ⟨rfl, b1⟩
      go_wp2_with fail
      refine (c2 _).mono ?_; rintro q w' ⟨rfl, rfl⟩
      go_wp2_with fail
      refine (c3 _ b1).mono ?_; rintro q w2 ⟨v', rfl, o2, b2⟩
      go_wp2_with fail
      go_ret2
      exact ⟨v', by rw [HF.out.1]; rfl, by rw [HF.out.2]; exact o2.mono (Nat.zero_le _) (Nat.le_refl _), b1.trans (b2.mono b1.size)⟩

def Iq.most (l : List Iq) (cpu : Int) : Int := if Iq.rdOk l cpu then (Iq.all l cpu).headD (-1) else 0
theorem Iq.most_no {l : List Iq} {cpu : Int} (h : Iq.rdOk l cpu = false) : Iq.most l cpu = 0 := by simp [Iq.most, h]
theorem Iq.most_nil {l : List Iq} {cpu : Int} (h : Iq.rdOk l cpu = true) (ha : Iq.all l cpu = []) : Iq.most l cpu = -1 := by simp [Iq.most, h, ha]
theorem Iq.most_at {l : List Iq} {cpu x : Int} (h : Iq.rdOk l cpu = true) (ha : (Iq.all l cpu)[0]? = some x) : Iq.most l cpu = x := by
  cases hq : Iq.all l cpu with
  | nil => rw [hq] at ha; cases ha
  | cons y ys => rw [hq] at ha; simp at ha; simp [Iq.most, h, hq, ha]

theorem implMostUrgent_any (v : Value) (l : List Iq) (cpu : Int) (w : World) {lo hi : Nat} (h : Rd Iq.cells 5 w lo hi v l) (hh : hi ≤ w.heap.size) :
    Calls Try.prog 58 #[v, .int .i64 cpu] w fun r w' => r = .returned (.tuple #[.int .i64 (Iq.most l cpu), .bool (Iq.rdOk l cpu)]) ∧ Below w.heap.size w w' := by
  have c1 := implReadyIrqs_any v l cpu w h hh
  obtain ⟨A, n, c, rfl, H, hc, hm⟩ := h.form
  cases hg : Iq.rdOk l cpu
  · have HF := Lib.hid (Iq.most_no hg)
    rw [hg] at c1
    clear hg
    go_enter Try.func58, Try.ntmps58
    go_wp2_with fail
    refine c1.mono ?_; rintro q w1 ⟨v', rfl, o1, _, b1⟩
    go_wp2_with fail
    go_ret2
    exact ⟨by rw [HF.out]; rfl, b1⟩
  · have HY := Lib.hid (Iq.rd_yes hg).2
    have HG := Lib.hid hg
    rw [hg] at c1
    clear hg
    rw [HY.out] at c1
    go_enter Try.func58, Try.ntmps58
    go_wp2_with fail
    refine c1.mono ?_; rintro q w1 ⟨v', rfl, o1, _, b1⟩
    obtain ⟨A2, m, c2, rfl, HL, hc2, hm2⟩ := o1.rd.form
    by_cases h0 : m = 0
    · subst h0
      have HF := Lib.hid (Iq.most_nil HG.out (List.eq_nil_of_length_eq_zero HL.out.symm))
      go_wp2_with fail
      go_ret2
      exact ⟨by rw [HF.out]; rfl, b1⟩
    · obtain ⟨b, off, x, rfl, hx, _, hbl, f0⟩ := Nm.get o1.rd (k := 0) (by omega) (Below.refl w1.heap.size w1) (Nat.le_refl _)
      simp only [Nat.add_zero] at f0
      have HF := Lib.hid (Iq.most_at HG.out hx.out)
      have hm0 : ¬ (m : Int) = 0 := by omega
      have hm1 : (0 : Int) < (m : Int) := by omega
      go_wp2_with fail
      go_ret2
      exact ⟨by rw [HF.out]; rfl, b1⟩
theorem specMostUrgent_any (v : Value) (l : List Iq) (cpu : Int) (w : World) {lo hi : Nat} (h : Rd Iq.cells 5 w lo hi v l) (hh : hi ≤ w.heap.size) :
    Calls Try.prog 59 #[v, .int .i64 cpu] w fun r w' => r = .returned (.tuple #[.int .i64 (Iq.most l cpu), .bool (Iq.rdOk l cpu)]) ∧ Below w.heap.size w w' := by
  have c1 := l6Good_any v l w h hh
  have c2 := fun W => l6Cpu_any cpu W
  have c3 := fun (W : World) (k : Below w.heap.size w W) h8 => l6All_any v l cpu W (h.below k hh) (Nat.le_trans hh k.size) h8
  obtain ⟨A, n, c, rfl, H, hc, hm⟩ := h.form
  cases hg : Iq.good l
  · have HF := Lib.hid (show Iq.rdOk l cpu = false ∧ Iq.most l cpu = 0 from by
      have : Iq.rdOk l cpu = false := by simp [Iq.rdOk, hg]
      exact ⟨this, Iq.most_no this⟩)
    rw [hg] at c1
    clear hg c3
    go_enter Try.func59, Try.ntmps59
    go_wp2_with fail
    refine c1.mono ?_; rintro q w1 ⟨rfl, b1⟩
    go_wp2_with fail
    go_ret2
    exact ⟨by rw [HF.out.1, HF.out.2]; rfl, b1⟩
  · cases hi2 : inB cpu 0 3
    · have HF := Lib.hid (show Iq.rdOk l cpu = false ∧ Iq.most l cpu = 0 from by
        have : Iq.rdOk l cpu = false := by simp [Iq.rdOk, hi2]
        exact ⟨this, Iq.most_no this⟩)
      rw [hg] at c1
      rw [hi2] at c2
      clear hg hi2 c3
      go_enter Try.func59, Try.ntmps59
      go_wp2_with fail
      refine c1.mono ?_; rintro q w1 ⟨rfl, b1⟩
      go_wp2_with fail
      refine (c2 _).mono ?_; rintro q w' ⟨rfl, rfl⟩
      go_wp2_with fail
      go_ret2
      exact ⟨by rw [HF.out.1, HF.out.2]; rfl, b1⟩
    · have HG := Lib.hid (show Iq.rdOk l cpu = true from by simp [Iq.rdOk, hg, hi2])
      have c3 := fun W k => c3 W k (by rw [Iq.good_len hg]; decide)
      rw [hg] at c1
      rw [hi2] at c2
      clear hg hi2
      go_enter Try.func59, Try.ntmps59
      go_wp2_with fail
      refine c1.mono ?_; rintro q w1 ⟨rfl, b1⟩
      go_wp2_with fail
      refine (c2 _).mono ?_; rintro q w' ⟨rfl, rfl⟩
      go_wp2_with fail
      refine (c3 _ b1).mono ?_; rintro q w2 ⟨v', rfl, o2, b2⟩
      have b3 := b1.trans (b2.mono b1.size)
      obtain ⟨A2, m, c2, rfl, HL, hc2, hm2⟩ := o2.form
      by_cases h0 : m = 0
      · subst h0
        have HF := Lib.hid (Iq.most_nil HG.out (List.eq_nil_of_length_eq_zero HL.out.symm))
        go_wp2_with fail
        go_ret2
        exact ⟨by rw [HF.out, HG.out]; rfl, b3⟩
      · obtain ⟨b, off, x, rfl, hx, _, hbl, f0⟩ := Nm.get o2 (k := 0) (by omega) (Below.refl w2.heap.size w2) (Nat.le_refl _)
        simp only [Nat.add_zero] at f0
        have HF := Lib.hid (Iq.most_at HG.out hx.out)
        have hm1 : (0 : Int) < (m : Int) := by omega
        go_wp2_with fail
        go_ret2
        exact ⟨by rw [HF.out, HG.out]; rfl, b3⟩

end Go.Proofs.Ytgnalbfepkcokaa
