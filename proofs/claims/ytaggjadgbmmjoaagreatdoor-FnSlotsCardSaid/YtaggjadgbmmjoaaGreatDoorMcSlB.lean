/- Lemmas and walks that the last text of this claim leans on, part 2. No condition. -/
import Derived.Test.YtaggjadgbmmjoaaGreatDoorMcSlA
/- Queues in plain terms: what valid parts are, how settling goes on, and that it ends. No condition. -/
namespace Go.Proofs.YtaggjadgbmmjoaaGreatDoor

theorem any_take_false {α : Type} {p : α → Bool} {l : List α} {i : Nat} : (l.take i).any p = false ↔ ∀ (j : Nat) (u : α), j < i → l[j]? = some u → p u = false := by
  rw [List.any_eq_false]
  constructor
  · intro h j u hj hu
    have := h u (List.mem_of_getElem? (i := j) (by rw [List.getElem?_take, if_pos hj]; exact hu))
    simpa using this
  · intro h x hx
    obtain ⟨j, hj⟩ := List.getElem?_of_mem hx
    rw [List.getElem?_take] at hj
    split at hj
    · rename_i hji
      simpa using h j x hji hj
    · cases hj

def Sl.fine (s : Sl) : Prop := if s.state = 0 then s.irq = 0 ∧ s.prio = 0 else (1 ≤ s.state ∧ s.state ≤ 3) ∧ (0 ≤ s.irq ∧ s.irq ≤ 7) ∧ (0 ≤ s.prio ∧ s.prio ≤ 15)
def Wt.fine (w : Wt) : Prop := (0 ≤ w.irq ∧ w.irq ≤ 7) ∧ (0 ≤ w.prio ∧ w.prio ≤ 15)
theorem Sl.okAt_iff {l : List Sl} {i : Nat} {s : Sl} : Sl.okAt l i s = true ↔ s.fine ∧ (¬ s.state = 0 → ∀ (j : Nat) (u : Sl), j < i → l[j]? = some u → ¬ u.state = 0 → u.irq ≠ s.irq) := by
  unfold Sl.okAt Sl.fine
  split
  · rename_i h0
    simp [h0]
  · rename_i h0
    simp only [Bool.and_eq_true, Bool.not_eq_true', inB_iff, any_take_false]
    constructor
    · rintro ⟨h1, h2, h3, h4⟩
      refine ⟨⟨h1, h2, h3⟩, fun _ j u hj hu hu0 e => ?_⟩
      have := h4 j u hj hu
      simp [Sl.has, hu0, e] at this
    · rintro ⟨⟨h1, h2, h3⟩, h4⟩
      refine ⟨h1, h2, h3, fun j u hj hu => ?_⟩
      by_cases hu0 : u.state = 0
      · simp [Sl.has, hu0]
      · have := h4 h0 j u hj hu hu0
        simp [Sl.has, this]
theorem Sl.upTo_iff {l : List Sl} : ∀ {k : Nat}, Sl.upTo l k = true ↔ ∀ (j : Nat) (s : Sl), j < k → l[j]? = some s → Sl.okAt l j s = true
  | 0 => by simp [Sl.upTo]
  | k + 1 => by
    have ih := Sl.upTo_iff (l := l) (k := k)
    rw [Sl.upTo, Bool.and_eq_true, ih]
    constructor
    · rintro ⟨h1, h2⟩ j s hj hs
      by_cases hjk : j = k
      · subst hjk; rw [hs] at h2; exact h2
      · exact h1 j s (by omega) hs
    · intro h
      refine ⟨fun j s hj hs => h j s (by omega) hs, ?_⟩
      cases hk : l[k]? with
      | none => rfl
      | some s => exact h k s (by omega) hk
theorem Sl.good_iff {l : List Sl} : Sl.good l = true ↔ l.length = 4 ∧ (∀ (k : Nat) (s : Sl), l[k]? = some s → s.fine) ∧ (∀ (j k : Nat) (u s : Sl), j < k → l[j]? = some u → l[k]? = some s → ¬ u.state = 0 → ¬ s.state = 0 → u.irq ≠ s.irq) := by
  simp only [Sl.good, Bool.and_eq_true, decide_eq_true_eq, Sl.upTo_iff, Sl.okAt_iff]
  constructor
  · rintro ⟨h1, h2⟩
    refine ⟨by omega, fun k s hs => (h2 k s (List.getElem?_eq_some_iff.1 hs).1 hs).1, fun j k u s hjk hu hs hu0 hs0 => (h2 k s (List.getElem?_eq_some_iff.1 hs).1 hs).2 hs0 j u hjk hu hu0⟩
  · rintro ⟨h1, h2, h3⟩
    exact ⟨by omega, fun k s _ hs => ⟨h2 k s hs, fun hs0 j u hj hu hu0 => h3 j k u s hj hu hs hu0 hs0⟩⟩
theorem Sl.good_fine {l : List Sl} (h : Sl.good l = true) {k : Nat} {s : Sl} (hs : l[k]? = some s) : s.fine := (Sl.good_iff.1 h).2.1 k s hs
theorem Sl.good_two {l : List Sl} (h : Sl.good l = true) {j k : Nat} {u s : Sl} (hjk : j ≠ k) (hu : l[j]? = some u) (hs : l[k]? = some s) (h1 : ¬ u.state = 0) (h2 : ¬ s.state = 0) : u.irq ≠ s.irq := by
  rcases Nat.lt_or_gt_of_ne hjk with h' | h'
  · exact (Sl.good_iff.1 h).2.2 j k u s h' hu hs h1 h2
  · exact ((Sl.good_iff.1 h).2.2 k j s u h' hs hu h2 h1).symm
theorem Sl.good_set {l : List Sl} (h : Sl.good l = true) {k : Nat} {x : Sl} (hx : x.fine) (hd : ¬ x.state = 0 → ∀ (j : Nat) (u : Sl), j ≠ k → l[j]? = some u → ¬ u.state = 0 → u.irq ≠ x.irq) : Sl.good (l.set k x) = true := by
  obtain ⟨h1, h2, h3⟩ := Sl.good_iff.1 h
  refine Sl.good_iff.2 ⟨by rw [List.length_set]; exact h1, fun j s hs => ?_, fun i j u s hij hu hs hu0 hs0 => ?_⟩
  · rw [List.getElem?_set] at hs
    split at hs
    · split at hs
      · injection hs with hs; subst hs; exact hx
      · cases hs
    · exact h2 j s hs
  · rw [List.getElem?_set] at hu hs
    split at hu
    · rename_i hki
      split at hu
      · injection hu with hu; subst hu; subst hki
        rw [if_neg (by omega)] at hs
        exact (hd hu0 j s (by omega) hs hs0).symm
      · cases hu
    · rename_i hki
      split at hs
      · rename_i hkj
        split at hs
        · injection hs with hs; subst hs; subst hkj
          exact hd hs0 i u (by omega) hu hu0
        · cases hs
      · exact h3 i j u s hij hu hs hu0 hs0

theorem Sl.ix_neg {ls : List Sl} {i : Int} : Sl.ix ls i < 0 ↔ ∀ s ∈ ls, ¬ s.state = 0 → s.irq ≠ i := by
  have h := findIx_nonneg (Sl.has i) ls
  unfold Sl.ix
  constructor
  · intro hlt s hs hs0 e
    have : ls.any (Sl.has i) = false := by rw [← h]; exact decide_eq_false (by omega)
    have := List.any_eq_false.1 this s hs
    simp [Sl.has, hs0, e] at this
  · intro hall
    have : ls.any (Sl.has i) = false := by
      rw [List.any_eq_false]
      intro s hs hp
      simp only [Sl.has, Bool.and_eq_true, Bool.not_eq_true', beq_eq_false_iff_ne, beq_iff_eq] at hp
      exact hall s hs hp.1 hp.2
    rw [this] at h
    have := of_decide_eq_false h
    omega
/-! ### one step of settling -/
def Sl.pend (t : Wt) : Sl := ⟨1, t.irq, t.prio⟩
def Qu.step (ls : List Sl) : List Wt → List Sl × List Wt
  | [] => (ls, [])
  | t :: rest => if 0 ≤ Sl.fx ls then (ls.set (Sl.fx ls).toNat (Sl.pend t), rest) else (ls.set (Sl.bn ls).toNat (Sl.pend t), Wt.ins rest (Sl.at_ ls (Sl.bn ls)).wt)
/-! ### the measure -/
/-! ### settling -/
def Qu.run : Nat → List Sl → List Wt → List Sl × List Wt
  | 0, ls, lw => (ls, lw)
  | n + 1, ls, lw => if Qu.settled ls lw then (ls, lw) else Qu.run n (Qu.step ls lw).1 (Qu.step ls lw).2
end Go.Proofs.YtaggjadgbmmjoaaGreatDoor

/- Offering, ending, withdrawing, taking in turn: what becomes of a queue, in plain terms. No condition. -/
namespace Go.Proofs.YtaggjadgbmmjoaaGreatDoor

theorem Sl.ix_hit {ls : List Sl} {i : Int} (h : 0 ≤ Sl.ix ls i) : ∃ (k : Nat) (s : Sl), Sl.ix ls i = k ∧ k < ls.length ∧ ls[k]? = some s ∧ ¬ s.state = 0 ∧ s.irq = i := by
  rcases find_cases (Sl.has i) ls with ⟨hf, _⟩ | ⟨k, s, hf, hk, hs, hp⟩
  · unfold Sl.ix at h; omega
  · refine ⟨k, s, hf, hk, hs, ?_⟩
    simpa [Sl.has] using hp
theorem Sl.fine_both {s : Sl} (h : s.fine) (h0 : ¬ s.state = 0) : (Sl.both s).fine ∧ ¬ (Sl.both s).state = 0 ∧ (Sl.both s).irq = s.irq := by
  unfold Sl.both
  split
  · refine ⟨?_, by simp, rfl⟩
    unfold Sl.fine at *
    rw [if_neg h0] at h
    rw [if_neg (by simp)]
    exact ⟨by simp, h.2⟩
  · exact ⟨h, h0, rfl⟩
theorem Sl.fine_zero : (⟨0, 0, 0⟩ : Sl).fine := by simp [Sl.fine]
theorem Sl.fine_ended {s : Sl} (h : s.fine) (h0 : ¬ s.state = 0) : (Sl.ended s).fine ∧ (¬ (Sl.ended s).state = 0 → (Sl.ended s).irq = s.irq) := by
  unfold Sl.ended
  split
  · exact ⟨Sl.fine_zero, fun h => absurd rfl h⟩
  · refine ⟨?_, fun _ => rfl⟩
    unfold Sl.fine at *
    rw [if_neg h0] at h
    rw [if_neg (by simp)]
    exact ⟨by simp, h.2⟩
theorem Sl.fine_act {s : Sl} (h : s.fine) (h0 : ¬ s.state = 0) : (Sl.act s).fine ∧ (¬ (Sl.act s).state = 0 → (Sl.act s).irq = s.irq) := by
  refine ⟨?_, fun _ => rfl⟩
  unfold Sl.fine Sl.act at *
  rw [if_neg h0] at h
  rw [if_neg (by simp)]
  exact ⟨by simp, h.2⟩

/-! ### offering -/
/-! ### settling given parts -/
/-! ### ending -/
theorem Sl.endOk_hit {ls : List Sl} {i : Int} (h : Sl.endOk ls i = true) : ∃ (k : Nat) (s : Sl), Sl.ix ls i = k ∧ k < ls.length ∧ ls[k]? = some s ∧ ¬ s.state = 0 ∧ s.irq = i ∧ ¬ s.state = 1 ∧ Sl.endR ls i = ls.set k (Sl.ended s) := by
  have h' := h
  simp only [Sl.endOk, Bool.and_eq_true, decide_eq_true_eq] at h
  obtain ⟨k, s, hk, hlt, hs, h0, hi⟩ := Sl.ix_hit h.1
  have h2 := h.2
  rw [hk, Sl.at_get hs] at h2
  have h1 : ¬ s.state = 1 := by simpa using h2
  exact ⟨k, s, hk, hlt, hs, h0, hi, h1, (Sl.end_hit hk hs h1).2⟩
/-! ### withdrawing -/
def Sl.drop (s : Sl) : Sl := if s.state = 3 then ⟨2, s.irq, s.prio⟩ else ⟨0, 0, 0⟩
/-! ### serving in turn -/
theorem Sl.tkOk_hit {ls : List Sl} {m : Int} (h : Sl.tkOk ls m = true) : ∃ (k : Nat) (s : Sl), Sl.bx ls = k ∧ k < ls.length ∧ ls[k]? = some s ∧ s.state = 1 ∧ s.prio < m ∧ Sl.tkS ls = ls.set k (Sl.act s) ∧ Sl.tkI ls = s.irq := by
  simp only [Sl.tkOk, Bool.and_eq_true, decide_eq_true_eq] at h
  rcases Sl.bx_cases ls with hb | ⟨k, s, hb, hk, hs, h1⟩
  · omega
  · have h2 := h.2
    rw [hb, Sl.at_get hs] at h2
    refine ⟨k, s, hb, hk, hs, h1, h2, ?_, ?_⟩
    · rw [Sl.tkS, hb, Sl.at_get hs]; rfl
    · rw [Sl.tkI, hb, Sl.at_get hs]
theorem Sl.ix_of {ls : List Sl} (h : Sl.good ls = true) {k : Nat} {s : Sl} (hs : ls[k]? = some s) (h0 : ¬ s.state = 0) : Sl.ix ls s.irq = k := by
  have hlt := (List.getElem?_eq_some_iff.1 hs).1
  refine findIx_hit (any_take_false.2 fun j u hj hu => ?_) hs (by simp [Sl.has, h0])
  by_cases hu0 : u.state = 0
  · simp [Sl.has, hu0]
  · have := Sl.good_two h (by omega : j ≠ k) hu hs hu0 h0
    simp [Sl.has, this]
/-! ### all that is pending -/
def Sl.isPend (s : Sl) : Bool := s.state == 1 || s.state == 3
def Sl.pends (ls : List Sl) : List Wt := (ls.filter Sl.isPend).map Sl.wt
def Qu.all (ls : List Sl) (lw : List Wt) : List Wt := (Sl.pends ls).foldl Wt.ins lw
end Go.Proofs.YtaggjadgbmmjoaaGreatDoor

/- The slots' draws: active ones of slots that need not be valid but differ, and taking from an own row. No condition but those. -/
namespace Go.Proofs.YtaggjadgbmmjoaaGreatDoor
open Go.RowKit Go.ChangeShapes Go.WideShapes Go.Deep

/-- the active interrupts differ -/
def Sl.dis (l : List Sl) : Prop := (Sl.acts l).Nodup
theorem Sl.dis_good {l : List Sl} (h : Sl.good l = true) : Sl.dis l := Sl.acts_nodup h
theorem Sl.filt_set {x : Sl} (hx : Sl.isAct x = false) : ∀ (l : List Sl) (k : Nat), ((l.set k x).filter Sl.isAct).Sublist (l.filter Sl.isAct)
  | [], k => by simp
  | s :: l, 0 => by
    rw [List.set_cons_zero, List.filter_cons, if_neg (by simp [hx]), List.filter_cons]
    split
    · exact List.sublist_cons_self _ _
    · exact List.Sublist.refl _
  | s :: l, k + 1 => by
    have ih := Sl.filt_set hx l k
    rw [List.set_cons_succ, List.filter_cons, List.filter_cons]
    split
    · exact ih.cons_cons _
    · exact ih
theorem Sl.acts_set {x : Sl} (hx : Sl.isAct x = false) (l : List Sl) (k : Nat) : (Sl.acts (l.set k x)).Sublist (Sl.acts l) := (Sl.filt_set hx l k).map _
theorem Sl.dis_set {l : List Sl} (h : Sl.dis l) {x : Sl} (hx : Sl.isAct x = false) (k : Nat) : Sl.dis (l.set k x) := h.sublist (Sl.acts_set hx l k)
theorem Sl.dis_snoc {l : List Sl} (h : Sl.dis l) {x : Sl} (hx : Sl.isAct x = false) : Sl.dis (l ++ [x]) := by
  unfold Sl.dis Sl.acts at *
  rw [List.filter_append]
  simp only [List.filter_cons, hx]
  simpa using h
theorem Sl.good_put {l : List Sl} (h : Sl.good l = true) {i p : Int} (hi : 0 ≤ i ∧ i ≤ 7) (hp : 0 ≤ p ∧ p ≤ 15) (hk : Sl.putOk l i = true) : Sl.good (Sl.putR l i p) = true := by
  by_cases hx : 0 ≤ Sl.ix l i
  · obtain ⟨k, s, hk, hkl, hs, h0, h1⟩ := Sl.ix_hit hx
    rw [(Sl.put_hit hk hs).2]
    obtain ⟨f1, f2, f3⟩ := Sl.fine_both (Sl.good_fine h hs) h0
    exact Sl.good_set h f1 (fun _ j u hj hu hu0 => by rw [f3]; exact Sl.good_two h hj hu hs hu0 h0)
  · have hx1 : Sl.ix l i < 0 := by omega
    have hix : Sl.ix l i = -1 := by
      rcases find_cases (Sl.has i) l with h1 | ⟨k, s, h1, _⟩
      · exact h1.1
      · change Sl.ix l i = k at h1; omega
    rcases find_cases Sl.free l with h1 | ⟨k, s, h1, hkl, hs, hf⟩
    · have h1 : Sl.fx l = -1 := h1.1
      rw [(Sl.put_no (p := p) hix h1).1] at hk; cases hk
    · have h1 : Sl.fx l = k := h1
      rw [(Sl.put_new hix h1).2]
      refine Sl.good_set h (by simp [Sl.fine]; omega) (fun _ j u hj hu hu0 => ?_)
      exact Sl.ix_neg.1 hx1 u (List.mem_of_getElem? hu) hu0
theorem Sl.good_end {l : List Sl} (h : Sl.good l = true) {i : Int} (hk : Sl.endOk l i = true) : Sl.good (Sl.endR l i) = true := by
  obtain ⟨k, s, h1, hkl, hs, h0, h2, _, h3⟩ := Sl.endOk_hit hk
  rw [h3]
  obtain ⟨f1, f2⟩ := Sl.fine_ended (Sl.good_fine h hs) h0
  exact Sl.good_set h f1 (fun hx j u hj hu hu0 => by rw [f2 hx]; exact Sl.good_two h hj hu hs hu0 h0)
theorem Sl.good_tk {l : List Sl} (h : Sl.good l = true) (m : Int) : Sl.good (Sl.tkL l m) = true := by
  unfold Sl.tkL
  split
  · rename_i hk
    obtain ⟨k, s, h1, hkl, hs, h0, h2, h3, _⟩ := Sl.tkOk_hit hk
    rw [h3]
    obtain ⟨f1, f2⟩ := Sl.fine_act (Sl.good_fine h hs) (by omega)
    exact Sl.good_set h f1 (fun hx j u hj hu hu0 => by rw [f2 hx]; exact Sl.good_two h hj hu hs hu0 (by omega))
  · exact h
theorem Sl.good4 : Sl.good [⟨0, 0, 0⟩, ⟨0, 0, 0⟩, ⟨0, 0, 0⟩, ⟨0, 0, 0⟩] = true := by decide

set_option maxHeartbeats 1000000 in
theorem specTake_ow (v : Value) (l : List Sl) (m : Int) (w : World) {lo hi : Nat} (h : Ow Sl.cells 3 34 w lo hi v l) (hlo : lo ≤ w.heap.size) (hh : hi ≤ w.heap.size) (hg : Sl.good l = true) :
    Calls Tryz.prog 41 #[v, .int .i64 m] w fun r w' => ∃ v', r = .returned (.tuple #[v', .int .i64 (Sl.tkW l m)]) ∧ Ow Sl.cells 3 34 w' lo w'.heap.size v' (Sl.tkL l m) ∧ Below w.heap.size w w' := by
  have hl : l.length ≤ 1048576 := by rw [Sl.good_len hg]; decide
  have c1 := l8Best_any v l true w h.rd hh
  change Calls _ _ _ _ (fun e w' => e = .returned (.int .i64 (Sl.bx l)) ∧ Below w.heap.size w w') at c1
  have c3 := fun (W : World) (kb : Below w.heap.size w W) (k : Nat) (s : Sl) (hk : k < l.length) => specWith_any v l k s W (h.rd.below kb hh) (Nat.le_trans hh kb.size) hk hl
  have hrd := h
  obtain ⟨A, n, c, rfl, H, hc, hm⟩ := h.form
  clear hg
  rcases Sl.bx_cases l with hf | ⟨k, s, hf, hk, hs, _⟩
  · rw [hf] at c1
    have HF := Lib.hid (Sl.tk_no (l := l) (m := m) (by simp [Sl.tkOk, hf]))
    clear hf c3
    go_enter Tryz.func41, Tryz.ntmps41
    go_wp2_with fail
    refine c1.mono ?_; rintro q_ w1 ⟨rfl, b1⟩
    go_wp2_with fail
    go_ret2
    exact ⟨_, by rw [HF.out.2.2.2.2]; rfl, by rw [HF.out.2.2.2.1]; exact (hrd.below b1 hh).mono (Nat.le_refl _) (Nat.le_trans hh b1.size), b1⟩
  · rw [hf] at c1
    have hkn : k < n := by rw [H.out]; exact hk
    have HT := Lib.hid hs
    have hj0 : decide ((k : Int) < 0) = false := by simp
    by_cases hp : s.prio < m
    · have HF := Lib.hid (Sl.tk_yes hf hs hp)
      have hd : decide (m ≤ s.prio) = false := decide_eq_false (by omega)
      have c3 := fun W kb => c3 W kb k (Sl.act s) hk
      unfold Sl.act Sl.val at c3
      simp only at c3
      unfold Sl.act at HF
      clear hf hs hp
      go_enter Tryz.func41, Tryz.ntmps41
      go_wp2_with fail
      refine c1.mono ?_; rintro q_ w1 ⟨rfl, b1⟩
      obtain ⟨b, off, t, rfl, ht, _, hbl, f0, f1, f2⟩ := Sl.get hrd.rd hkn b1 hh
      obtain rfl := Option.some.inj (HT.out.symm.trans ht.out)
      have hbw1 : b < w1.heap.size := by have := b1.size; omega
      go_wp2_with fail
      have k0 : (w1.alloc (.cells #[.int .i64 2, .int .i64 s.irq, .int .i64 s.prio] 34)).cell? ⟨w1.heap.size, 0, none⟩ = some (.int .i64 2) := by simp
      have k1 : (w1.alloc (.cells #[.int .i64 2, .int .i64 s.irq, .int .i64 s.prio] 34)).cell? ⟨w1.heap.size, 1, none⟩ = some (.int .i64 s.irq) := by simp
      have k2 : (w1.alloc (.cells #[.int .i64 2, .int .i64 s.irq, .int .i64 s.prio] 34)).cell? ⟨w1.heap.size, 2, none⟩ = some (.int .i64 s.prio) := by simp
      have bx := b1.alloc b1.size (.cells #[.int .i64 2, .int .i64 s.irq, .int .i64 s.prio] 34)
      have z2 : w1.heap.size < (w1.alloc (.cells #[.int .i64 2, .int .i64 s.irq, .int .i64 s.prio] 34)).heap.size := by simp
      have zz := bx.size
      clear f0 f1 f2
      generalize w1.alloc _ = w2 at bx k0 k1 k2 z2 zz ⊢
      have c5 := c3 w2.drew (bx.drew)
      go_region_with (go_at_call 60; refine c5.mono ?_; rintro q_ w3 ⟨v', rfl, o1, b3⟩; (try simp only [World.size_drew] at b3 o1); (have k3 := (b3.cell (p := ⟨w1.heap.size, 1, none⟩) z2).trans k1))
      all_goals
        have bx := bx.drew
        go_wp2_with fail
        go_ret2
        exact ⟨v', by rw [HF.out.2.2.2.2]; rfl, by rw [HF.out.2.2.2.1]; exact o1.mono (Nat.le_trans hlo zz) (Nat.le_refl _), bx.trans (b3.mono zz)⟩
    · have HF := Lib.hid (Sl.tk_no (l := l) (m := m) (by simp [Sl.tkOk, hf, Sl.at_get hs, hp]))
      have hd : decide (m ≤ s.prio) = true := decide_eq_true (by omega)
      clear hf hs hp c3
      go_enter Tryz.func41, Tryz.ntmps41
      go_wp2_with fail
      refine c1.mono ?_; rintro q_ w1 ⟨rfl, b1⟩
      have hrd2 := hrd
      obtain ⟨b, off, t, rfl, ht, _, hbl, f0, f1, f2⟩ := Sl.get hrd.rd hkn b1 hh
      obtain rfl := Option.some.inj (HT.out.symm.trans ht.out)
      have hbw1 : b < w1.heap.size := by have := b1.size; omega
      go_wp2_with fail
      go_ret2
      exact ⟨_, by rw [HF.out.2.2.2.2]; rfl, by rw [HF.out.2.2.2.1]; exact (hrd.below b1 hh).mono (Nat.le_refl _) (Nat.le_trans hh b1.size), b1⟩

end Go.Proofs.YtaggjadgbmmjoaaGreatDoor

/- The reference's draw of slots: it returns something, in new memory. Condition: at most 100000 reads before. -/
namespace Go.Proofs.YtaggjadgbmmjoaaGreatDoor
open Go.RowKit Go.ChangeShapes Go.WideShapes Go.Deep

theorem grown_below {w w' : World} (h : Below w.heap.size w w') : w.grownBy w' none := ⟨h.os, h.tape, h.output, h.size, fun k hk _ => h.block k hk⟩
theorem lit_slots (w : World) : Ow Sl.cells 3 34 (w.alloc (.cells #[.int .i64 0, .int .i64 0, .int .i64 0, .int .i64 0, .int .i64 0, .int .i64 0, .int .i64 0, .int .i64 0, .int .i64 0, .int .i64 0, .int .i64 0, .int .i64 0] 34)) w.heap.size (w.heap.size + 1) (.slice (some ⟨w.heap.size, 0, none⟩) 4 4) [⟨0, 0, 0⟩, ⟨0, 0, 0⟩, ⟨0, 0, 0⟩, ⟨0, 0, 0⟩] := by
  refine ⟨_, 4, rfl, Nat.le_refl _, by unfold maxLen; omega, fun _ => ⟨w.heap.size, 0, _, rfl, Nat.le_refl _, by omega, heap_alloc_new w _, by simp, fun k x hx j u hu => ?_⟩⟩
  rcases k with _ | _ | _ | _ | k <;> simp at hx <;> subst hx <;> rcases j with _ | _ | _ | j <;> simp [Sl.cells] at hu ⊢ <;> exact hu
theorem among_in (g k : Nat) (cv nv : Value) (l : List UInt8) (ns : List Int) (w : World) {lo hi lo2 hi2 : Nat} (h : Rd By.cells 1 w lo hi cv l) (hh : hi ≤ w.heap.size) (hg : g < lo ∨ hi ≤ g) (h2 : Rd Nm.cells 1 w lo2 hi2 nv ns) (hh2 : hi2 ≤ w.heap.size) (hg2 : g < lo2 ∨ hi2 ≤ g) (hn0 : 0 < ns.length) (hn1 : ns.length ≤ 1000000) (hc : Cur w g cv k) (hk : k ≤ 900000) :
    Calls Tryz.prog 37 #[.pointer (some ⟨g, 0, none⟩), nv] w fun e w' => ∃ x : Int, e = .returned (.int .i64 x) ∧ Hid (x ∈ ns) ∧ w.grownBy w' (some g) ∧ Cur w' g cv (k + 2) := by
  obtain ⟨A, n, c, rfl, H, hnc, hm⟩ := h2.form
  have hnl : n = ns.length := H.out
  have hn2 : 0 < n := by omega
  have hn3 : n ≤ 1000000 := by omega
  clear hnl
  have c1 := pick_any g k cv l n w h hh hg hc hk (by omega)
  go_enter Tryz.func37, Tryz.ntmps37
  go_wp2_with fail
  refine c1.mono ?_; rintro q_ w1 ⟨x, rfl, hx0, hx1, g1, k1⟩
  have hxn : x < (n : Int) := by omega
  obtain ⟨j, rfl⟩ : ∃ j : Nat, x = j := ⟨x.toNat, by omega⟩
  have hjn : j < n := by omega
  clear hx1
  have h3 := h2.grown g1 hh2 (fun q e => by injection e with e; omega)
  obtain ⟨b, off, y, rfl, hyy, _, _, f0⟩ := Nm.get h3 hjn (Below.refl w1.heap.size w1) (Nat.le_trans hh2 g1.size)
  go_wp2_with fail
  go_ret
  exact ⟨y, rfl, Lib.hid (List.mem_of_getElem? hyy.out), g1, k1⟩
theorem Sl.app_ow {w : World} {ops : Array Oper} {rest : List Oper} {o : Oper} {a : Act} {Q : Exit → Act → World → Prop} (hgd : o.guard = none) (s x : Operand)
    (ho : o.op = .call { callee := .builtin .append, args := #[s, x], argTypes := #[24, 24] }) {lo hi n c : Nat} {A : Option Addr} {l : List Sl} (hs : a.eval s = .slice A n c) (h : Ow Sl.cells 3 34 w lo hi (.slice A n c) l)
    (g cx : Nat) (y : Sl) (hx : a.eval x = .slice (some ⟨g, 0, none⟩) 1 cx) (hr : ∀ j u, (Sl.cells y)[j]? = some u → w.cell? ⟨g, j, none⟩ = some u) (hlen : n ≤ 4194304) (hlo : lo ≤ w.heap.size) (hhi : hi ≤ w.heap.size)
    (hk : ∀ v' w' row, Ow Sl.cells 3 34 w' lo w'.heap.size v' (l ++ [y]) → w.grownBy w' row → (∀ q, row = some q → lo ≤ q ∧ q < hi ∧ ∃ cur, w.heap[q]? = some (.cells cur 34 (0, 0))) → wpList Tryz.prog ops Q rest (a.put o.dst v') w') : wpList Tryz.prog ops Q (o :: rest) a w := by
  obtain ⟨i0, hi0, hz0, hz1, hz2⟩ := info_parts Sl.info
  exact wp_app_ow hgd s x _ ho _ i0 _ 3 _ Tryz.underlying24 hi0 hz0 hz1 hz2 rfl (by omega) Sl.cells_len Sl.one hs h g cx y hx hr (by unfold maxLen; omega) (by omega) hlo hhi hk
set_option maxRecDepth 8000 in
set_option maxHeartbeats 8000000 in
theorem slots_any (g k : Nat) (cv : Value) (l : List UInt8) (w : World) {lo hi : Nat} (h : Rd By.cells 1 w lo hi cv l) (hh : hi ≤ w.heap.size) (hg : g < lo ∨ hi ≤ g) (hc : Cur w g cv k) (hk : k ≤ 100000) :
    Calls Tryz.prog 25 #[.pointer (some ⟨g, 0, none⟩)] w fun e w' => ∃ v, ∃ ls : List Sl, e = .returned v ∧ ls.length ≤ 5 ∧ Sl.dis ls ∧ Ow Sl.cells 3 34 w' w.heap.size w'.heap.size v ls ∧ w.grownBy w' (some g) ∧ Cur w' g cv (k + 120) := by
  have hgl := hc.lt
  have hG := World.grownBy.refl w (some g)
  go_enter Tryz.func25, Tryz.ntmps25
  have o0 := lit_slots w
  have ga0 := grown_alloc w (.cells #[.int .i64 0, .int .i64 0, .int .i64 0, .int .i64 0, .int .i64 0, .int .i64 0, .int .i64 0, .int .i64 0, .int .i64 0, .int .i64 0, .int .i64 0, .int .i64 0] 34)
  have za0 : (w.alloc (.cells #[.int .i64 0, .int .i64 0, .int .i64 0, .int .i64 0, .int .i64 0, .int .i64 0, .int .i64 0, .int .i64 0, .int .i64 0, .int .i64 0, .int .i64 0, .int .i64 0] 34)).heap.size = w.heap.size + 1 := by simp
  have hg0 := Lib.hid Sl.good4
  go_wp2_with fail
  replace hc := hc.grown0 ga0
  replace h := h.grown ga0 (by omega) (fun q e => by cases e)
  replace hG := grown_trans hG (grown_weaken ga0)
  have z_1 := ga0.size
  clear ga0
  generalize w.alloc _ = wA at *
  generalize hK : w.heap.size = K at *
  have hK1 : K ≤ w.heap.size := by omega
  have hK2 : w.heap.size ≤ K := by omega
  clear hK
  refine (pick_any g _ _ l 9 wA h (by omega) hg hc (by omega) (by omega)).mono ?_; rintro q_ w2 ⟨x1, rfl, x1_0, x1_1, gg2, kk2⟩
  clear hc
  replace h := h.grown gg2 (by omega) (fun q e => by injection e with e; omega)
  replace o0 := o0.apart gg2 (fun q e => by injection e with e; omega)
  replace hG := grown_trans hG gg2
  have z_3 := gg2.size
  clear gg2
  obtain ⟨m, rfl⟩ : ∃ m : Nat, x1 = m := ⟨x1.toNat, by omega⟩
  have hm9 : m < 9 := by omega
  clear x1_0 x1_1
  go_wp2_with fail
  go_loopw [3, 4] (fun v3 v4 wr => ∃ (i q : Nat) (ls : List Sl), i + q = m ∧ v4 = .int .i64 q ∧ Hid (Sl.good ls = true) ∧ w.grownBy wr (some g) ∧ Cur wr g cv (k + 2 + 8 * i) ∧ K ≤ wr.heap.size ∧ Rd By.cells 1 wr lo hi cv l ∧ Ow Sl.cells 3 34 wr K wr.heap.size v3 ls) (fun _ v4 _ => (intOf v4).toNat)
  case atStart => exact ⟨0, m, _, by omega, rfl, hg0, hG, kk2.mono (by omega), by omega, h, o0.mono (Nat.le_refl _) (by omega)⟩
  case round =>
    clear kk2 hG h o0 hg0
    obtain ⟨i, q, ls, hiq, rfl, HGd, hG, hc, zw, h, o1⟩ := hrel
    rcases Nat.eq_zero_or_pos q with hq | hq
    rotate_left
    · obtain ⟨p, rfl⟩ : ∃ p, q = p + 1 := ⟨q - 1, by omega⟩
      have hqd : decide ((0 : Int) < ((p + 1 : Nat) : Int)) = true := decide_eq_true (by omega)
      go_wp2_with fail
      refine (pick_any g _ _ l 4 wr h (by omega) hg hc (by omega) (by omega)).mono ?_; rintro q_ w101 ⟨y1, rfl, y1_0, y1_1, gg101, kk101⟩
      clear hc
      replace h := h.grown gg101 (by omega) (fun q e => by injection e with e; omega)
      replace o1 := o1.apart gg101 (fun q e => by injection e with e; omega)
      replace hG := grown_trans hG gg101
      have z_102 := gg101.size
      clear gg101
      rcases (show y1 = 0 ∨ y1 = 1 ∨ y1 = 2 ∨ y1 = 3 by omega) with rfl | rfl | rfl | rfl
      all_goals clear y1_0 y1_1
      · go_wp2_with fail
        refine (pick_any g _ _ l 8 w101 h (by omega) hg kk101 (by omega) (by omega)).mono ?_; rintro q_ w103 ⟨y2, rfl, y2_0, y2_1, gg103, kk103⟩
        clear kk101
        replace h := h.grown gg103 (by omega) (fun q e => by injection e with e; omega)
        replace o1 := o1.apart gg103 (fun q e => by injection e with e; omega)
        replace hG := grown_trans hG gg103
        have z_104 := gg103.size
        clear gg103
        go_wp2_with fail
        refine (pick_any g _ _ l 8 w103 h (by omega) hg kk103 (by omega) (by omega)).mono ?_; rintro q_ w105 ⟨y3, rfl, y3_0, y3_1, gg105, kk105⟩
        clear kk103
        replace h := h.grown gg105 (by omega) (fun q e => by injection e with e; omega)
        replace o1 := o1.apart gg105 (fun q e => by injection e with e; omega)
        replace hG := grown_trans hG gg105
        have z_106 := gg105.size
        clear gg105
        go_wp2_with fail
        have cP := specPut_in _ ls y2 y3 w105 o1.rd (by omega) (by rw [Sl.good_len HGd.out]; decide)
        cases hk : Sl.putOk ls y2
        · rw [hk] at cP
          refine (cP).mono ?_; rintro q_ w107 ⟨u1, rfl, o2, bb107⟩
          have gb107 := grown_below bb107
          clear bb107
          replace kk105 := kk105.grown0 gb107
          replace h := h.grown gb107 (by omega) (fun q e => by cases e)
          replace o1 := o1.apart gb107 (fun q e => by cases e)
          replace hG := grown_trans hG (grown_weaken gb107)
          have z_108 := gb107.size
          clear gb107
          clear cP hk
          go_wp2_with fail
          go_roundw
          case rel => exact ⟨i + 1, p, ls, by omega, by go_num, HGd, hG, kk105.mono (by omega), by omega, h, o1.mono (Nat.le_refl _) (by omega)⟩
          case measure => simp [intOf]
        · rw [hk] at cP
          have HG2 := Lib.hid (Sl.good_put HGd.out (i := y2) (p := y3) (by omega) (by omega) hk)
          refine (cP).mono ?_; rintro q_ w107 ⟨u1, rfl, o2, bb107⟩
          have gb107 := grown_below bb107
          clear bb107
          replace kk105 := kk105.grown0 gb107
          replace h := h.grown gb107 (by omega) (fun q e => by cases e)
          replace o1 := o1.apart gb107 (fun q e => by cases e)
          replace hG := grown_trans hG (grown_weaken gb107)
          have z_108 := gb107.size
          clear gb107
          clear cP hk
          go_wp2_with fail
          go_roundw
          case rel => exact ⟨i + 1, p, _, by omega, by go_num, HG2, hG, kk105.mono (by omega), by omega, h, o2.mono (by omega) (by omega)⟩
          case measure => simp [intOf]
      · go_wp2_with fail
        refine (pick_any g _ _ l 8 w101 h (by omega) hg kk101 (by omega) (by omega)).mono ?_; rintro q_ w103 ⟨y2, rfl, y2_0, y2_1, gg103, kk103⟩
        clear kk101
        replace h := h.grown gg103 (by omega) (fun q e => by injection e with e; omega)
        replace o1 := o1.apart gg103 (fun q e => by injection e with e; omega)
        replace hG := grown_trans hG gg103
        have z_104 := gg103.size
        clear gg103
        go_wp2_with fail
        refine (pick_any g _ _ l 8 w103 h (by omega) hg kk103 (by omega) (by omega)).mono ?_; rintro q_ w105 ⟨y3, rfl, y3_0, y3_1, gg105, kk105⟩
        clear kk103
        replace h := h.grown gg105 (by omega) (fun q e => by injection e with e; omega)
        replace o1 := o1.apart gg105 (fun q e => by injection e with e; omega)
        replace hG := grown_trans hG gg105
        have z_106 := gg105.size
        clear gg105
        go_wp2_with fail
        have cP := specPut_in _ ls y2 y3 w105 o1.rd (by omega) (by rw [Sl.good_len HGd.out]; decide)
        cases hk : Sl.putOk ls y2
        · rw [hk] at cP
          refine (cP).mono ?_; rintro q_ w107 ⟨u1, rfl, o2, bb107⟩
          have gb107 := grown_below bb107
          clear bb107
          replace kk105 := kk105.grown0 gb107
          replace h := h.grown gb107 (by omega) (fun q e => by cases e)
          replace o1 := o1.apart gb107 (fun q e => by cases e)
          replace hG := grown_trans hG (grown_weaken gb107)
          have z_108 := gb107.size
          clear gb107
          clear cP hk
          go_wp2_with fail
          go_roundw
          case rel => exact ⟨i + 1, p, ls, by omega, by go_num, HGd, hG, kk105.mono (by omega), by omega, h, o1.mono (Nat.le_refl _) (by omega)⟩
          case measure => simp [intOf]
        · rw [hk] at cP
          have HG2 := Lib.hid (Sl.good_put HGd.out (i := y2) (p := y3) (by omega) (by omega) hk)
          refine (cP).mono ?_; rintro q_ w107 ⟨u1, rfl, o2, bb107⟩
          have gb107 := grown_below bb107
          clear bb107
          replace kk105 := kk105.grown0 gb107
          replace h := h.grown gb107 (by omega) (fun q e => by cases e)
          replace o1 := o1.apart gb107 (fun q e => by cases e)
          replace hG := grown_trans hG (grown_weaken gb107)
          have z_108 := gb107.size
          clear gb107
          clear cP hk
          go_wp2_with fail
          go_roundw
          case rel => exact ⟨i + 1, p, _, by omega, by go_num, HG2, hG, kk105.mono (by omega), by omega, h, o2.mono (by omega) (by omega)⟩
          case measure => simp [intOf]
      · go_wp2_with fail
        have cP := specTake_ow _ ls 16 w101 (o1.mono (Nat.le_refl _) (by omega)) (by omega) (Nat.le_refl _) HGd.out
        have HG2 := Lib.hid (Sl.good_tk HGd.out 16)
        refine (cP).mono ?_; rintro q_ w103 ⟨u1, rfl, o2, bb103⟩
        have gb103 := grown_below bb103
        clear bb103
        replace kk101 := kk101.grown0 gb103
        replace h := h.grown gb103 (by omega) (fun q e => by cases e)
        replace o1 := o1.apart gb103 (fun q e => by cases e)
        replace hG := grown_trans hG (grown_weaken gb103)
        have z_104 := gb103.size
        clear gb103
        clear cP
        go_wp2_with fail
        go_roundw
        case rel => exact ⟨i + 1, p, _, by omega, by go_num, HG2, hG, kk101.mono (by omega), by omega, h, o2.mono (by omega) (by omega)⟩
        case measure => simp [intOf]
      · go_wp2_with fail
        refine (pick_any g _ _ l 8 w101 h (by omega) hg kk101 (by omega) (by omega)).mono ?_; rintro q_ w103 ⟨y2, rfl, y2_0, y2_1, gg103, kk103⟩
        clear kk101
        replace h := h.grown gg103 (by omega) (fun q e => by injection e with e; omega)
        replace o1 := o1.apart gg103 (fun q e => by injection e with e; omega)
        replace hG := grown_trans hG gg103
        have z_104 := gg103.size
        clear gg103
        go_wp2_with fail
        have cP := specEnd_in _ ls y2 w103 o1.rd (by omega) HGd.out
        cases hk : Sl.endOk ls y2
        · rw [hk] at cP
          refine (cP).mono ?_; rintro q_ w105 ⟨u1, rfl, o2, bb105⟩
          have gb105 := grown_below bb105
          clear bb105
          replace kk103 := kk103.grown0 gb105
          replace h := h.grown gb105 (by omega) (fun q e => by cases e)
          replace o1 := o1.apart gb105 (fun q e => by cases e)
          replace hG := grown_trans hG (grown_weaken gb105)
          have z_106 := gb105.size
          clear gb105
          clear cP hk
          go_wp2_with fail
          go_roundw
          case rel => exact ⟨i + 1, p, ls, by omega, by go_num, HGd, hG, kk103.mono (by omega), by omega, h, o1.mono (Nat.le_refl _) (by omega)⟩
          case measure => simp [intOf]
        · rw [hk] at cP
          have HG2 := Lib.hid (Sl.good_end HGd.out hk)
          refine (cP).mono ?_; rintro q_ w105 ⟨u1, rfl, o2, bb105⟩
          have gb105 := grown_below bb105
          clear bb105
          replace kk103 := kk103.grown0 gb105
          replace h := h.grown gb105 (by omega) (fun q e => by cases e)
          replace o1 := o1.apart gb105 (fun q e => by cases e)
          replace hG := grown_trans hG (grown_weaken gb105)
          have z_106 := gb105.size
          clear gb105
          clear cP hk
          go_wp2_with fail
          refine (one_any g _ _ l 2 w105 h (by omega) hg kk103 (by omega) (by omega)).mono ?_; rintro q_ w107 ⟨b3, rfl, gg107, kk107⟩
          clear kk103
          replace h := h.grown gg107 (by omega) (fun q e => by injection e with e; omega)
          replace o1 := o1.apart gg107 (fun q e => by injection e with e; omega)
          replace o2 := o2.apart gg107 (fun q e => by injection e with e; omega)
          replace hG := grown_trans hG gg107
          have z_108 := gg107.size
          clear gg107
          cases b3
          · go_wp2_with fail
            go_roundw
            case rel => exact ⟨i + 1, p, ls, by omega, by go_num, HGd, hG, kk107.mono (by omega), by omega, h, o1.mono (Nat.le_refl _) (by omega)⟩
            case measure => simp [intOf]
          · go_wp2_with fail
            go_roundw
            case rel => exact ⟨i + 1, p, _, by omega, by go_num, HG2, hG, kk107.mono (by omega), by omega, h, o2.mono (by omega) (by omega)⟩
            case measure => simp [intOf]
    obtain rfl : i = m := by omega
    subst hq
    have hl4 := Lib.hid (Sl.good_len HGd.out)
    obtain ⟨A1, n1, c1, rfl, H1, hnc1, hm1⟩ := o1.rd.form
    obtain rfl : n1 = 4 := by rw [H1.out, hl4.out]
    have hd1 := Lib.hid (Sl.dis_good HGd.out)
    clear H1
    go_wp2_with fail
    refine (pick_any g _ _ l 24 wr h (by omega) hg hc (by omega) (by omega)).mono ?_; rintro q_ w101 ⟨z1, rfl, z1_0, z1_1, gg101, kk101⟩
    clear hc
    replace h := h.grown gg101 (by omega) (fun q e => by injection e with e; omega)
    replace o1 := o1.apart gg101 (fun q e => by injection e with e; omega)
    replace hG := grown_trans hG gg101
    have z_102 := gg101.size
    clear gg101
    by_cases h0 : z1 = 0
    rotate_left
    by_cases h1 : z1 = 1
    rotate_left
    by_cases h2 : z1 = 2
    rotate_left
    · have h0b : (z1 == 0) = false := by rw [beq_eq_false_iff_ne]; exact h0
      have h1b : (z1 == 1) = false := by rw [beq_eq_false_iff_ne]; exact h1
      have h2b : (z1 == 2) = false := by rw [beq_eq_false_iff_ne]; exact h2
      go_wp2_with fail
      go_ret
      exact ⟨_, _, rfl, by simp [hl4.out], hd1.out, o1.mono (by omega) (by omega), hG, kk101.mono (by omega)⟩
    · subst h0
      go_wp2_with fail
      refine (pick_any g _ _ l 4 w101 h (by omega) hg kk101 (by omega) (by omega)).mono ?_; rintro q_ w103 ⟨y4, rfl, y4_0, y4_1, gg103, kk103⟩
      clear kk101
      replace h := h.grown gg103 (by omega) (fun q e => by injection e with e; omega)
      replace o1 := o1.apart gg103 (fun q e => by injection e with e; omega)
      replace hG := grown_trans hG gg103
      have z_104 := gg103.size
      clear gg103
      obtain ⟨j4, rfl⟩ : ∃ j : Nat, y4 = j := ⟨y4.toNat, by omega⟩
      have hj4 : j4 < 4 := by omega
      have hji : (j4 : Int) < 4 := by omega
      clear y4_0 y4_1
      go_wp2_with fail
      have rl := lit_ints w103 [-1, 4, 1] #[.int .i64 (-1), .int .i64 4, .int .i64 1] 3 rfl rfl (by decide)
      have ga105 := grown_alloc w103 (.cells #[.int .i64 (-1), .int .i64 4, .int .i64 1] 3)
      have za105 : (w103.alloc (.cells #[.int .i64 (-1), .int .i64 4, .int .i64 1] 3)).heap.size = w103.heap.size + 1 := by simp
      replace kk103 := kk103.grown0 ga105
      replace h := h.grown ga105 (by omega) (fun q e => by cases e)
      replace o1 := o1.apart ga105 (fun q e => by cases e)
      replace hG := grown_trans hG (grown_weaken ga105)
      have z_106 := ga105.size
      clear ga105
      generalize w103.alloc _ = w105 at *
      generalize hgz106 : w103.heap.size = gz106 at *
      clear hgz106
      refine (among_in g _ _ _ l [-1, 4, 1] w105 h (by omega) hg rl (by omega) (by omega) (by decide) (by decide) kk103 (by omega)).mono ?_; rintro q_ w107 ⟨s1, rfl, hin_s1, gg107, kk107⟩
      clear kk103
      replace h := h.grown gg107 (by omega) (fun q e => by injection e with e; omega)
      replace o1 := o1.apart gg107 (fun q e => by injection e with e; omega)
      replace hG := grown_trans hG gg107
      have z_108 := gg107.size
      clear gg107
      clear rl
      go_wp2_with fail
      have rl := lit_ints w107 [-1, 7, 8] #[.int .i64 (-1), .int .i64 7, .int .i64 8] 3 rfl rfl (by decide)
      have ga109 := grown_alloc w107 (.cells #[.int .i64 (-1), .int .i64 7, .int .i64 8] 3)
      have za109 : (w107.alloc (.cells #[.int .i64 (-1), .int .i64 7, .int .i64 8] 3)).heap.size = w107.heap.size + 1 := by simp
      replace kk107 := kk107.grown0 ga109
      replace h := h.grown ga109 (by omega) (fun q e => by cases e)
      replace o1 := o1.apart ga109 (fun q e => by cases e)
      replace hG := grown_trans hG (grown_weaken ga109)
      have z_110 := ga109.size
      clear ga109
      generalize w107.alloc _ = w109 at *
      generalize hgz110 : w107.heap.size = gz110 at *
      clear hgz110
      refine (among_in g _ _ _ l [-1, 7, 8] w109 h (by omega) hg rl (by omega) (by omega) (by decide) (by decide) kk107 (by omega)).mono ?_; rintro q_ w111 ⟨s2, rfl, hin_s2, gg111, kk111⟩
      clear kk107
      replace h := h.grown gg111 (by omega) (fun q e => by injection e with e; omega)
      replace o1 := o1.apart gg111 (fun q e => by injection e with e; omega)
      replace hG := grown_trans hG gg111
      have z_112 := gg111.size
      clear gg111
      clear rl
      go_wp2_with fail
      have rl := lit_ints w111 [-1, 15, 16] #[.int .i64 (-1), .int .i64 15, .int .i64 16] 3 rfl rfl (by decide)
      have ga113 := grown_alloc w111 (.cells #[.int .i64 (-1), .int .i64 15, .int .i64 16] 3)
      have za113 : (w111.alloc (.cells #[.int .i64 (-1), .int .i64 15, .int .i64 16] 3)).heap.size = w111.heap.size + 1 := by simp
      replace kk111 := kk111.grown0 ga113
      replace h := h.grown ga113 (by omega) (fun q e => by cases e)
      replace o1 := o1.apart ga113 (fun q e => by cases e)
      replace hG := grown_trans hG (grown_weaken ga113)
      have z_114 := ga113.size
      clear ga113
      generalize w111.alloc _ = w113 at *
      generalize hgz114 : w111.heap.size = gz114 at *
      clear hgz114
      refine (among_in g _ _ _ l [-1, 15, 16] w113 h (by omega) hg rl (by omega) (by omega) (by decide) (by decide) kk111 (by omega)).mono ?_; rintro q_ w115 ⟨s3, rfl, hin_s3, gg115, kk115⟩
      clear kk111
      replace h := h.grown gg115 (by omega) (fun q e => by injection e with e; omega)
      replace o1 := o1.apart gg115 (fun q e => by injection e with e; omega)
      replace hG := grown_trans hG gg115
      have z_116 := gg115.size
      clear gg115
      clear rl
      obtain ⟨b, off, t, rfl, HT, hb1, hb2, f0, f1, f2⟩ := Sl.get o1.rd hj4 (Below.refl w115.heap.size w115) (by omega)
      have hfz := o1.frozen (by omega)
      have hbW : b < w115.heap.size := by omega
      go_wp2_with fail
      have hs1 : Sl.isAct ⟨s1, s2, s3⟩ = false := by have := hin_s1.out; simp at this; rcases this with rfl | rfl | rfl <;> rfl
      clear hin_s1 hin_s2 hin_s3
      generalize hwz : World.setCell (World.setCell (World.setCell _ _ _) _ _) _ _ = wz_
      obtain rfl : wz_ = setL w115 b (off + j4 * 3) [.int .i64 s1, .int .i64 s2, .int .i64 s3] := hwz.symm
      clear hwz
      have oS := o1.upd Sl.cells_len (by omega) HT.out (t' := ⟨s1, s2, s3⟩) (Upd.of_setL (ys := [.int .i64 s1, .int .i64 s2, .int .i64 s3]) 0 rfl rfl (by simp))
      have gS := setL_grown [.int .i64 s1, .int .i64 s2, .int .i64 s3] w115 b (off + j4 * 3)
      have zS := setL_size [.int .i64 s1, .int .i64 s2, .int .i64 s3] w115 b (off + j4 * 3)
      replace hG := grown_new hG gS (fun q e => by injection e with e; omega)
      replace kk115 := kk115.other gS (by omega)
      generalize setL w115 b _ _ = wS at *
      go_ret
      exact ⟨_, _, rfl, by simp [hl4.out], Sl.dis_set hd1.out hs1 j4, oS.mono (by omega) (by omega), hG, kk115.mono (by omega)⟩
    · subst h1
      have ga8 := grown_alloc w101 (.cells #[.int .i64 0, .int .i64 0, .int .i64 0] 34)
      have za8 : (w101.alloc (.cells #[.int .i64 0, .int .i64 0, .int .i64 0] 34)).heap.size = w101.heap.size + 1 := by simp
      have oL := o1.apart ga8 (fun q e => by cases e)
      go_wp2_with (at_builtin; (refine Sl.app_ow rfl _ _ rfl rfl oL w101.heap.size 1 ⟨0, 0, 0⟩ rfl (fun j u hu => cell_new _ _ _ rfl (by simpa [Sl.cells] using hu)) (by omega) (by omega) (by omega) ?_); (intro v8 w8 row8 o8 g8 r8))
      replace hG := grown_new (grown_trans hG (grown_weaken ga8)) g8 (fun q e => by have := r8 q e; omega)
      replace kk101 := (kk101.grown0 ga8).row g8 (fun b e => by have := r8 b e; omega)
      have z8 := g8.size
      go_ret
      exact ⟨_, _, rfl, by simp [hl4.out], Sl.dis_snoc hd1.out rfl, o8.mono (by omega) (by omega), hG, kk101.mono (by omega)⟩
    · subst h2
      obtain ⟨b, off, t, rfl, HT, hb1, hb2, f0, f1, f2⟩ := Sl.get o1.rd (show 3 < 4 by omega) (Below.refl w101.heap.size w101) (by omega)
      have hfz := o1.frozen (by omega)
      have hbW : b < w101.heap.size := by omega
      go_wp2_with fail
      generalize hwz : World.setCell (World.setCell (World.setCell _ _ _) _ _) _ _ = wz_
      obtain rfl : wz_ = setL w101 b (off + 3 * 3) [.int .i64 0, .int .i64 1, .int .i64 0] := hwz.symm
      clear hwz
      have oS := o1.upd Sl.cells_len (by omega) HT.out (t' := ⟨0, 1, 0⟩) (Upd.of_setL (ys := [.int .i64 0, .int .i64 1, .int .i64 0]) 0 rfl rfl (by simp))
      have gS := setL_grown [.int .i64 0, .int .i64 1, .int .i64 0] w101 b (off + 3 * 3)
      have zS := setL_size [.int .i64 0, .int .i64 1, .int .i64 0] w101 b (off + 3 * 3)
      replace hG := grown_new hG gS (fun q e => by injection e with e; omega)
      replace kk101 := kk101.other gS (by omega)
      generalize setL w101 b _ _ = wS at *
      go_ret
      exact ⟨_, _, rfl, by simp [hl4.out], Sl.dis_set hd1.out rfl 3, oS.mono (by omega) (by omega), hG, kk101.mono (by omega)⟩

end Go.Proofs.YtaggjadgbmmjoaaGreatDoor

/- The reference's Draw functions of the slots' laws: they return something, in new memory. No condition. -/
namespace Go.Proofs.YtaggjadgbmmjoaaGreatDoor
open Go.RowKit Go.ChangeShapes Go.WideShapes Go.Deep

set_option maxRecDepth 8000 in
set_option maxHeartbeats 4000000 in
theorem DrawAreSlots_any (cv : Value) (l : List UInt8) (w : World) {lo hi : Nat} (h : Rd By.cells 1 w lo hi cv l) (hh : hi ≤ w.heap.size) :
    Calls Tryz.prog 44 #[cv] w fun e w' => ∃ v, ∃ ls : List Sl, e = .returned (v) ∧ Ow Sl.cells 3 34 w' w.heap.size w'.heap.size v ls ∧ Below w.heap.size w w' := by
  obtain ⟨Ac, nc, cc, rfl, _, _, _⟩ := h.form
  go_enter Tryz.func44, Tryz.ntmps44
  go_wp2_with fail
  have bx := Box.new w #[.slice Ac nc cc, .int .i64 0, .int .u64 0] 53 rfl
  have hB := (Below.refl w.heap.size w).alloc (Nat.le_refl _) (.cells #[.slice Ac nc cc, .int .i64 0, .int .u64 0] 53)
  have za : (w.alloc (.cells #[.slice Ac nc cc, .int .i64 0, .int .u64 0] 53)).heap.size = w.heap.size + 1 := by simp
  have hc : Cur (w.alloc (.cells #[.slice Ac nc cc, .int .i64 0, .int .u64 0] 53)) w.heap.size (.slice Ac nc cc) 0 := ⟨0, 0, Nat.le_refl _, Lib.hid (by unfold U64; omega), bx⟩
  have hg : w.heap.size < lo ∨ hi ≤ w.heap.size := .inr hh
  replace h := h.below hB hh
  clear bx
  generalize w.alloc _ = w0 at *
  generalize hgg : w.heap.size = g at *
  have HG := Lib.hid hgg
  clear hgg
  refine (slots_any g _ _ l w0 h (by omega) hg hc (by omega)).mono ?_; rintro q_ w1 ⟨v1, l1, rfl, n1, d1, o1, gg1, kk1⟩
  clear hc
  replace h := h.grown gg1 (by omega) (fun q e => by injection e with e; omega)
  replace hB := hB.grown gg1 (by omega) (fun q e => by injection e with e; omega)
  have z_2 := gg1.size
  clear gg1
  go_wp2_with fail
  go_ret
  rw [HG.out]
  exact ⟨_, l1, rfl, o1.mono (by omega) (by omega), hB⟩
theorem DrawSlotsText_any (cv : Value) (l : List UInt8) (w : World) {lo hi : Nat} (h : Rd By.cells 1 w lo hi cv l) (hh : hi ≤ w.heap.size) :
    Calls Tryz.prog 19 #[cv] w fun e w' => ∃ v, ∃ ls : List Sl, e = .returned v ∧ Ow Sl.cells 3 34 w' w.heap.size w'.heap.size v ls ∧ Below w.heap.size w w' := by
  have c1 := DrawAreSlots_any cv l w h hh
  go_enter Tryz.func19, Tryz.ntmps19
  go_wp2_with fail
  refine c1.mono ?_; rintro q_ w1 ⟨v1, l1, rfl, o1, b1⟩
  go_wp2_with fail
  go_ret
  exact ⟨_, l1, rfl, o1, b1⟩
set_option maxRecDepth 8000 in
set_option maxHeartbeats 4000000 in
theorem DrawPutIrq_any (cv : Value) (l : List UInt8) (w : World) {lo hi : Nat} (h : Rd By.cells 1 w lo hi cv l) (hh : hi ≤ w.heap.size) :
    Calls Tryz.prog 5 #[cv] w fun e w' => ∃ v, ∃ ls : List Sl, ∃ x y : Int, e = .returned (.tuple #[v, .int .i64 x, .int .i64 y]) ∧ Ow Sl.cells 3 34 w' w.heap.size w'.heap.size v ls ∧ Below w.heap.size w w' := by
  obtain ⟨Ac, nc, cc, rfl, _, _, _⟩ := h.form
  go_enter Tryz.func5, Tryz.ntmps5
  go_wp2_with fail
  have bx := Box.new w #[.slice Ac nc cc, .int .i64 0, .int .u64 0] 53 rfl
  have hB := (Below.refl w.heap.size w).alloc (Nat.le_refl _) (.cells #[.slice Ac nc cc, .int .i64 0, .int .u64 0] 53)
  have za : (w.alloc (.cells #[.slice Ac nc cc, .int .i64 0, .int .u64 0] 53)).heap.size = w.heap.size + 1 := by simp
  have hc : Cur (w.alloc (.cells #[.slice Ac nc cc, .int .i64 0, .int .u64 0] 53)) w.heap.size (.slice Ac nc cc) 0 := ⟨0, 0, Nat.le_refl _, Lib.hid (by unfold U64; omega), bx⟩
  have hg : w.heap.size < lo ∨ hi ≤ w.heap.size := .inr hh
  replace h := h.below hB hh
  clear bx
  generalize w.alloc _ = w0 at *
  generalize hgg : w.heap.size = g at *
  have HG := Lib.hid hgg
  clear hgg
  refine (slots_any g _ _ l w0 h (by omega) hg hc (by omega)).mono ?_; rintro q_ w1 ⟨v1, l1, rfl, n1, d1, o1, gg1, kk1⟩
  clear hc
  replace h := h.grown gg1 (by omega) (fun q e => by injection e with e; omega)
  replace hB := hB.grown gg1 (by omega) (fun q e => by injection e with e; omega)
  have z_2 := gg1.size
  clear gg1
  go_wp2_with fail
  refine (irq_any g _ _ l w1 h (by omega) hg kk1 (by omega)).mono ?_; rintro q_ w3 ⟨x2, rfl, gg3, kk3⟩
  clear kk1
  replace h := h.grown gg3 (by omega) (fun q e => by injection e with e; omega)
  replace o1 := o1.apart gg3 (fun q e => by injection e with e; omega)
  replace hB := hB.grown gg3 (by omega) (fun q e => by injection e with e; omega)
  have z_4 := gg3.size
  clear gg3
  go_wp2_with fail
  refine (prio_any g _ _ l w3 h (by omega) hg kk3 (by omega)).mono ?_; rintro q_ w5 ⟨x3, rfl, gg5, kk5⟩
  clear kk3
  replace h := h.grown gg5 (by omega) (fun q e => by injection e with e; omega)
  replace o1 := o1.apart gg5 (fun q e => by injection e with e; omega)
  replace hB := hB.grown gg5 (by omega) (fun q e => by injection e with e; omega)
  have z_6 := gg5.size
  clear gg5
  go_wp2_with fail
  go_ret3
  rw [HG.out]
  exact ⟨_, l1, _, _, rfl, o1.mono (by omega) (by omega), hB⟩
set_option maxRecDepth 8000 in
set_option maxHeartbeats 4000000 in
theorem DrawTakeSlot_any (cv : Value) (l : List UInt8) (w : World) {lo hi : Nat} (h : Rd By.cells 1 w lo hi cv l) (hh : hi ≤ w.heap.size) :
    Calls Tryz.prog 12 #[cv] w fun e w' => ∃ v, ∃ ls : List Sl, ∃ x : Int, e = .returned (.tuple #[v, .int .i64 x]) ∧ Ow Sl.cells 3 34 w' w.heap.size w'.heap.size v ls ∧ Below w.heap.size w w' := by
  obtain ⟨Ac, nc, cc, rfl, _, _, _⟩ := h.form
  go_enter Tryz.func12, Tryz.ntmps12
  go_wp2_with fail
  have bx := Box.new w #[.slice Ac nc cc, .int .i64 0, .int .u64 0] 53 rfl
  have hB := (Below.refl w.heap.size w).alloc (Nat.le_refl _) (.cells #[.slice Ac nc cc, .int .i64 0, .int .u64 0] 53)
  have za : (w.alloc (.cells #[.slice Ac nc cc, .int .i64 0, .int .u64 0] 53)).heap.size = w.heap.size + 1 := by simp
  have hc : Cur (w.alloc (.cells #[.slice Ac nc cc, .int .i64 0, .int .u64 0] 53)) w.heap.size (.slice Ac nc cc) 0 := ⟨0, 0, Nat.le_refl _, Lib.hid (by unfold U64; omega), bx⟩
  have hg : w.heap.size < lo ∨ hi ≤ w.heap.size := .inr hh
  replace h := h.below hB hh
  clear bx
  generalize w.alloc _ = w0 at *
  generalize hgg : w.heap.size = g at *
  have HG := Lib.hid hgg
  clear hgg
  refine (slots_any g _ _ l w0 h (by omega) hg hc (by omega)).mono ?_; rintro q_ w1 ⟨v1, l1, rfl, n1, d1, o1, gg1, kk1⟩
  clear hc
  replace h := h.grown gg1 (by omega) (fun q e => by injection e with e; omega)
  replace hB := hB.grown gg1 (by omega) (fun q e => by injection e with e; omega)
  have z_2 := gg1.size
  clear gg1
  go_wp2_with fail
  have rl := lit_ints w1 [16, 16, 8, 4, 2, 0, 17, -1, 5] #[.int .i64 16, .int .i64 16, .int .i64 8, .int .i64 4, .int .i64 2, .int .i64 0, .int .i64 17, .int .i64 (-1), .int .i64 5] 9 rfl rfl (by decide)
  have ga3 := grown_alloc w1 (.cells #[.int .i64 16, .int .i64 16, .int .i64 8, .int .i64 4, .int .i64 2, .int .i64 0, .int .i64 17, .int .i64 (-1), .int .i64 5] 3)
  have za3 : (w1.alloc (.cells #[.int .i64 16, .int .i64 16, .int .i64 8, .int .i64 4, .int .i64 2, .int .i64 0, .int .i64 17, .int .i64 (-1), .int .i64 5] 3)).heap.size = w1.heap.size + 1 := by simp
  replace kk1 := kk1.grown0 ga3
  replace h := h.grown ga3 (by omega) (fun q e => by cases e)
  replace o1 := o1.apart ga3 (fun q e => by cases e)
  replace hB := hB.grown ga3 (by omega) (fun q e => by cases e)
  have z_4 := ga3.size
  clear ga3
  generalize w1.alloc _ = w3 at *
  generalize hgz4 : w1.heap.size = gz4 at *
  clear hgz4
  refine (among_any g _ _ _ l [16, 16, 8, 4, 2, 0, 17, -1, 5] w3 h (by omega) hg rl (by omega) (by omega) (by decide) (by decide) kk1 (by omega)).mono ?_; rintro q_ w5 ⟨x2, rfl, gg5, kk5⟩
  clear kk1
  replace h := h.grown gg5 (by omega) (fun q e => by injection e with e; omega)
  replace o1 := o1.apart gg5 (fun q e => by injection e with e; omega)
  replace hB := hB.grown gg5 (by omega) (fun q e => by injection e with e; omega)
  have z_6 := gg5.size
  clear gg5
  clear rl
  go_wp2_with fail
  go_ret2
  rw [HG.out]
  exact ⟨_, l1, _, rfl, o1.mono (by omega) (by omega), hB⟩

end Go.Proofs.YtaggjadgbmmjoaaGreatDoor

/- The texts of slots, plain: what the text of slots is, and that slots are known by their text. No condition. -/
namespace Go.Proofs.YtaggjadgbmmjoaaGreatDoor
open Go.RowKit Go.ChangeShapes Go.WideShapes Go.Deep

def Tx.dec (n : Int) : List UInt8 := if n < 10 then [UInt8.ofNat (48 + n.toNat)] else [UInt8.ofNat (48 + n.toNat / 10), UInt8.ofNat (48 + n.toNat % 10)]
def Tx.lett (k : Int) : UInt8 := if k = 1 then 112 else if k = 2 then 97 else if k = 3 then 98 else 45
def Tx.word (s : Sl) : List UInt8 := if s.state = 0 then [45] else Tx.lett s.state :: (Tx.dec s.irq ++ 58 :: Tx.dec s.prio)
def Tx.tail (l : List Sl) : List UInt8 := l.flatMap (fun s => 32 :: Tx.word s)
def Tx.text (l : List Sl) : List UInt8 := (Tx.tail l).drop 1
def Tx.fine (s : Sl) : Prop := (s.state = 0 ∧ s.irq = 0 ∧ s.prio = 0) ∨ (1 ≤ s.state ∧ s.state ≤ 3 ∧ 0 ≤ s.irq ∧ s.irq ≤ 7 ∧ 0 ≤ s.prio ∧ s.prio ≤ 15)
/-- the parts of a text between bytes b -/
def Tx.split (b : UInt8) : List UInt8 → List (List UInt8)
  | [] => [[]]
  | x :: xs => if x = b then [] :: Tx.split b xs else match Tx.split b xs with
    | [] => [[x]]
    | y :: ys => (x :: y) :: ys

theorem Tx.dec_eq {n : Int} (h0 : 0 ≤ n) (h1 : n < 100) : Lib.decDigits n.toNat = Tx.dec n := by
  unfold Tx.dec
  split
  · rw [Lib.decDigits, dif_pos (by omega)]
  · rw [Lib.decDigits, dif_neg (by omega), Lib.decDigits, dif_pos (by omega)]
    rfl
theorem Tx.dec_bytes : ∀ n ∈ List.range 16, ∀ c ∈ Tx.dec (n : Int), ¬ c = 32 ∧ ¬ c = 58 := by decide
theorem Tx.dec_no {n : Int} (h0 : 0 ≤ n) (h1 : n ≤ 15) : ∀ c ∈ Tx.dec n, ¬ c = 32 ∧ ¬ c = 58 := by
  have := Tx.dec_bytes n.toNat (by rw [List.mem_range]; omega)
  rwa [show ((n.toNat : Nat) : Int) = n by omega] at this
theorem Tx.dec_inj_ : ∀ n ∈ List.range 16, ∀ m ∈ List.range 16, Tx.dec (n : Int) = Tx.dec (m : Int) → n = m := by decide
theorem Tx.dec_inj {n m : Int} (h0 : 0 ≤ n) (h1 : n ≤ 15) (k0 : 0 ≤ m) (k1 : m ≤ 15) (h : Tx.dec n = Tx.dec m) : n = m := by
  have := Tx.dec_inj_ n.toNat (by rw [List.mem_range]; omega) m.toNat (by rw [List.mem_range]; omega)
  rw [show ((n.toNat : Nat) : Int) = n by omega, show ((m.toNat : Nat) : Int) = m by omega] at this
  have := this h
  omega
theorem Tx.dec_len {n : Int} : (Tx.dec n).length = 1 ∨ (Tx.dec n).length = 2 := by unfold Tx.dec; split <;> simp
theorem Tx.dec_one {n : Int} (h1 : n < 10) : Tx.dec n = [UInt8.ofNat (48 + n.toNat)] := by rw [Tx.dec, if_pos h1]

theorem Tx.good_fine {l : List Sl} (h : Sl.good l = true) {k : Nat} {s : Sl} (hs : l[k]? = some s) : Tx.fine s := by
  have := Sl.good_one h hs
  unfold Sl.okAt at this
  split at this
  · simp only [Bool.and_eq_true, beq_iff_eq] at this
    exact .inl ⟨by assumption, this.1, this.2⟩
  · simp only [Bool.and_eq_true, inB_iff] at this
    exact .inr (by omega)
theorem Tx.good_fine' {l : List Sl} (h : Sl.good l = true) {s : Sl} (hs : s ∈ l) : Tx.fine s := by
  obtain ⟨k, hk⟩ := List.mem_iff_getElem?.1 hs
  exact Tx.good_fine h hk
theorem Tx.word_zero {s : Sl} (h : Tx.fine s) (h0 : s.state = 0) : Tx.word s = [45] ∧ s = ⟨0, 0, 0⟩ := by
  refine ⟨by rw [Tx.word, if_pos h0], ?_⟩
  rcases h with ⟨_, h2, h3⟩ | h
  · cases s; simp_all
  · omega
theorem Tx.word_used {s : Sl} (h : Tx.fine s) (h0 : ¬ s.state = 0) : Tx.word s = [Tx.lett s.state, UInt8.ofNat (48 + s.irq.toNat)] ++ 58 :: Tx.dec s.prio ∧ Tx.dec s.irq = [UInt8.ofNat (48 + s.irq.toNat)] ∧ (1 ≤ s.state ∧ s.state ≤ 3 ∧ 0 ≤ s.irq ∧ s.irq ≤ 7 ∧ 0 ≤ s.prio ∧ s.prio ≤ 15) := by
  rcases h with ⟨h1, _⟩ | h
  · exact absurd h1 h0
  · have hd := Tx.dec_one (n := s.irq) (by omega)
    exact ⟨by rw [Tx.word, if_neg h0, hd]; rfl, hd, h⟩
theorem Tx.lett_no (k : Int) : ¬ Tx.lett k = 32 ∧ ¬ Tx.lett k = 58 := by
  have : Tx.lett k = 112 ∨ Tx.lett k = 97 ∨ Tx.lett k = 98 ∨ Tx.lett k = 45 := by
    unfold Tx.lett
    by_cases h1 : k = 1
    · simp [h1]
    · by_cases h2 : k = 2
      · simp [h2]
      · by_cases h3 : k = 3
        · simp [h3]
        · simp [h1, h2, h3]
  rcases this with h | h | h | h <;> rw [h] <;> decide
theorem Tx.lett_inj {k m : Int} (h0 : 1 ≤ k) (h1 : k ≤ 3) (m0 : 1 ≤ m) (m1 : m ≤ 3) (h : Tx.lett k = Tx.lett m) : k = m := by
  have a : k = 1 ∨ k = 2 ∨ k = 3 := by omega
  have b : m = 1 ∨ m = 2 ∨ m = 3 := by omega
  rcases a with rfl | rfl | rfl <;> rcases b with rfl | rfl | rfl <;> first | rfl | (exact absurd h (by decide))
theorem Tx.dig_no {n : Int} (h0 : 0 ≤ n) (h1 : n ≤ 7) : ¬ UInt8.ofNat (48 + n.toNat) = 32 ∧ ¬ UInt8.ofNat (48 + n.toNat) = 58 := by
  have := Tx.dec_no (n := n) h0 (by omega) (UInt8.ofNat (48 + n.toNat)) (by rw [Tx.dec_one (by omega)]; simp)
  exact this
theorem Tx.word_no {s : Sl} (h : Tx.fine s) : ∀ c ∈ Tx.word s, ¬ c = 32 := by
  intro c hc
  by_cases h0 : s.state = 0
  · rw [(Tx.word_zero h h0).1] at hc
    simp at hc
    subst hc; decide
  · obtain ⟨e, _, hb⟩ := Tx.word_used h h0
    rw [e] at hc
    simp only [List.cons_append, List.nil_append, List.mem_cons] at hc
    rcases hc with rfl | rfl | rfl | hc
    · exact (Tx.lett_no _).1
    · exact (Tx.dig_no (by omega) (by omega)).1
    · decide
    · exact (Tx.dec_no (by omega) (by omega) c hc).1

theorem Tx.split_one {b : UInt8} : ∀ {u : List UInt8}, (∀ c ∈ u, ¬ c = b) → Tx.split b u = [u]
  | [], _ => rfl
  | x :: xs, h => by
    rw [Tx.split, if_neg (h x (by simp)), Tx.split_one (fun c hc => h c (by simp [hc]))]
theorem Tx.split_app {b : UInt8} : ∀ {u : List UInt8}, (∀ c ∈ u, ¬ c = b) → ∀ r : List UInt8, Tx.split b (u ++ b :: r) = u :: Tx.split b r
  | [], _, r => by simp [Tx.split]
  | x :: xs, h, r => by
    rw [List.cons_append, Tx.split, if_neg (h x (by simp)), Tx.split_app (fun c hc => h c (by simp [hc]))]
theorem Tx.split_tail {b : UInt8} : ∀ (ws : List (List UInt8)) (u : List UInt8), (∀ c ∈ u, ¬ c = b) → (∀ w ∈ ws, ∀ c ∈ w, ¬ c = b) → Tx.split b (u ++ ws.flatMap (fun w => b :: w)) = u :: ws
  | [], u, h, _ => by simp [Tx.split_one h]
  | w :: ws, u, h, h2 => by
    rw [List.flatMap_cons, List.cons_append, Tx.split_app h, Tx.split_tail ws w (h2 w (by simp)) (fun x hx => h2 x (by simp [hx]))]
theorem Tx.text_cons (s : Sl) (l : List Sl) : Tx.text (s :: l) = Tx.word s ++ Tx.tail l := by simp [Tx.text, Tx.tail]
theorem Tx.tail_map (l : List Sl) : Tx.tail l = (l.map Tx.word).flatMap (fun w => 32 :: w) := by simp [Tx.tail, List.flatMap_map]
/-- the words of a text -/
theorem Tx.words {l : List Sl} (h : ∀ s ∈ l, Tx.fine s) (h0 : l ≠ []) : Tx.split 32 (Tx.text l) = l.map Tx.word := by
  cases l with
  | nil => exact absurd rfl h0
  | cons s l =>
    rw [Tx.text_cons, Tx.tail_map, Tx.split_tail _ _ (Tx.word_no (h s (by simp))) (fun w hw c hc => by
      obtain ⟨t, ht, rfl⟩ := List.mem_map.1 hw
      exact Tx.word_no (h t (by simp [ht])) c hc), List.map_cons]
theorem Tx.good_words {l : List Sl} (h : Sl.good l = true) : Tx.split 32 (Tx.text l) = l.map Tx.word :=
  Tx.words (fun _ hs => Tx.good_fine' h hs) (fun e => by have := Sl.good_len h; rw [e] at this; simp at this)
/-- the two sides of a word -/
theorem Tx.sides {s : Sl} (h : Tx.fine s) (h0 : ¬ s.state = 0) : Tx.split 58 (Tx.word s) = [[Tx.lett s.state, UInt8.ofNat (48 + s.irq.toNat)], Tx.dec s.prio] := by
  obtain ⟨e, _, hb⟩ := Tx.word_used h h0
  rw [e, Tx.split_app (fun c hc => by
    simp only [List.mem_cons, List.not_mem_nil, or_false] at hc
    rcases hc with rfl | rfl
    · exact (Tx.lett_no _).2
    · exact (Tx.dig_no (by omega) (by omega)).2), Tx.split_one (fun c hc => (Tx.dec_no (by omega) (by omega) c hc).2)]
theorem Tx.sides0 {s : Sl} (h : Tx.fine s) (h0 : s.state = 0) : Tx.split 58 (Tx.word s) = [[45]] := by
  rw [(Tx.word_zero h h0).1]; decide
theorem Tx.word_inj {s t : Sl} (h : Tx.fine s) (k : Tx.fine t) (e : Tx.word s = Tx.word t) : s = t := by
  by_cases h0 : s.state = 0
  · by_cases k0 : t.state = 0
    · rw [(Tx.word_zero h h0).2, (Tx.word_zero k k0).2]
    · have a := Tx.sides0 h h0
      rw [e, Tx.sides k k0] at a
      simp at a
  · by_cases k0 : t.state = 0
    · have a := Tx.sides0 k k0
      rw [← e, Tx.sides h h0] at a
      simp at a
    · have a := Tx.sides h h0
      rw [e, Tx.sides k k0] at a
      simp only [List.cons.injEq, and_true] at a
      obtain ⟨⟨a1, a2⟩, a3⟩ := a
      obtain ⟨_, d1, b1⟩ := Tx.word_used h h0
      obtain ⟨_, d2, b2⟩ := Tx.word_used k k0
      have c1 := Tx.lett_inj (by omega) (by omega) (by omega) (by omega) a1
      have c2 := Tx.dec_inj (n := t.irq) (m := s.irq) (by omega) (by omega) (by omega) (by omega) (by rw [d1, d2, a2])
      have c3 := Tx.dec_inj (by omega) (by omega) (by omega) (by omega) a3
      cases s; cases t; simp_all
theorem map_inj_on {α β : Type} {f : α → β} {p : α → Prop} (hf : ∀ a b, p a → p b → f a = f b → a = b) : ∀ {l m : List α}, (∀ a ∈ l, p a) → (∀ a ∈ m, p a) → l.map f = m.map f → l = m
  | [], [], _, _, _ => rfl
  | [], _ :: _, _, _, e => by simp at e
  | _ :: _, [], _, _, e => by simp at e
  | a :: l, b :: m, h, k, e => by
    simp only [List.map_cons, List.cons.injEq] at e
    rw [hf a b (h a (by simp)) (k b (by simp)) e.1, map_inj_on hf (fun x hx => h x (by simp [hx])) (fun x hx => k x (by simp [hx])) e.2]
/-- slots are known by their text -/
theorem Tx.inj {l m : List Sl} (h : Sl.good l = true) (k : Sl.good m = true) (e : Tx.text l = Tx.text m) : l = m := by
  have a := Tx.good_words h
  rw [e, Tx.good_words k] at a
  exact (map_inj_on (p := Tx.fine) (fun _ _ => Tx.word_inj) (fun _ hx => Tx.good_fine' k hx) (fun _ hx => Tx.good_fine' h hx) a).symm
/-- a text as the loops build it -/
theorem Tx.tail_succ {l : List Sl} {k : Nat} {s : Sl} (h : l[k]? = some s) : Tx.tail (l.take (k + 1)) = Tx.tail (l.take k) ++ 32 :: Tx.word s := by
  simp [Tx.tail, List.take_add_one, h]
theorem Tx.text_first {l : List Sl} {s : Sl} (h : l[0]? = some s) : Tx.text (l.take 1) = Tx.word s := by
  rw [Tx.text, Tx.tail_succ h]; simp [Tx.tail]
theorem Tx.text_succ {l : List Sl} {k : Nat} {s : Sl} (hk : 0 < k) (h : l[k]? = some s) : Tx.text (l.take (k + 1)) = Tx.text (l.take k) ++ 32 :: Tx.word s := by
  have hne : 0 < (Tx.tail (l.take k)).length := by
    have hl := (List.getElem?_eq_some_iff.1 h).1
    cases l with
    | nil => simp at hl
    | cons a l =>
      obtain ⟨k, rfl⟩ : ∃ j, k = j + 1 := ⟨k - 1, by omega⟩
      rw [List.take_succ_cons, Tx.tail, List.flatMap_cons]; simp
  rw [Tx.text, Tx.tail_succ h, List.drop_append_of_le_length hne, Tx.text]
theorem Tx.join_words (l : List Sl) : Lib.join (l.map Tx.word) [32] = Tx.text l := by
  cases l with
  | nil => rfl
  | cons s l =>
    rw [List.map_cons, Lib.join_cons, Tx.text_cons, Lib.joinTail, Tx.tail, List.map_map, List.flatMap_def]
    rfl

end Go.Proofs.YtaggjadgbmmjoaaGreatDoor

/- Numbers' texts in the reference. Condition: at most 1000000. -/
namespace Go.Proofs.YtaggjadgbmmjoaaGreatDoor
open Go.RowKit Go.ChangeShapes Go.WideShapes Go.Deep

theorem dig_ext : ∀ n ∈ List.range 10, (ByteArray.mk #[48, 49, 50, 51, 52, 53, 54, 55, 56, 57]).extract n (n + 1) = ByteArray.mk #[UInt8.ofNat (48 + n)] := by decide
theorem dig_ext' {n : Nat} (h : n < 10) : (ByteArray.mk #[48, 49, 50, 51, 52, 53, 54, 55, 56, 57]).extract n (n + 1) = ByteArray.mk #[UInt8.ofNat (48 + n)] := dig_ext n (by rw [List.mem_range]; exact h)

theorem dd_len (n : Nat) : (Lib.decDigits n).length ≤ n + 1 := by
  induction n using Nat.strongRecOn with
  | _ n ih =>
    rw [Lib.decDigits]
    split
    · simp
    · have := ih (n / 10) (by omega)
      simp only [List.length_append, List.length_cons, List.length_nil]
      omega
theorem mk_app (x y : List UInt8) : (ByteArray.mk x.toArray) ++ (ByteArray.mk y.toArray) = ByteArray.mk (x ++ y).toArray := by
  apply ByteArray.ext
  simp
theorem mk_size (x : List UInt8) : (ByteArray.mk x.toArray).size = x.length := rfl

theorem l1Num_nat (n : Nat) : ∀ (w : World), n ≤ 1000000 → Calls Tryz.prog 74 #[.int .i64 (n : Int)] w fun e w' => e = .returned (.string ⟨(Lib.decDigits n).toArray⟩) ∧ ∃ m, w' = w.drewN m := by
  induction n using Nat.strongRecOn with
  | _ n ih =>
    intro w hn
    have hn0 : decide ((n : Int) < 0) = false := decide_eq_false (by omega)
    by_cases h : n < 10
    · have e : Lib.decDigits n = [UInt8.ofNat (48 + n)] := by rw [Lib.decDigits, dif_pos h]
      have hx := dig_ext' h
      have h10 : decide ((n : Int) < 10) = true := decide_eq_true (by omega)
      have hw : IntKind.i64.wrap ((n : Int) + 1) = (n : Int) + 1 := IntWalk.i64_in _ (by omega)
      go_enter Tryz.func74, Tryz.ntmps74
      go_wp2_with fail
      go_ret
      exact ⟨by rw [e]; simp, 0, rfl⟩
    · have h10 : decide ((n : Int) < 10) = false := decide_eq_false (by omega)
      have e : Lib.decDigits n = Lib.decDigits (n / 10) ++ [UInt8.ofNat (48 + n % 10)] := by rw [Lib.decDigits, dif_neg h]
      have c1 := ih (n / 10) (by omega)
      go_enter Tryz.func74, Tryz.ntmps74
      have hq : (n : Int).tdiv 10 = ((n / 10 : Nat) : Int) := by rw [Int.tdiv_eq_ediv_of_nonneg (by omega)]; omega
      have hr : (n : Int).tmod 10 = ((n % 10 : Nat) : Int) := by rw [Int.tmod_eq_emod_of_nonneg (by omega)]; omega
      have hx := dig_ext' (show n % 10 < 10 by omega)
      have hm : n % 10 < 10 := by omega
      have hw : IntKind.i64.wrap (((n % 10 : Nat) : Int) + 1) = ((n % 10 : Nat) : Int) + 1 := IntWalk.i64_in _ (by omega)
      have hle : n / 10 ≤ 1000000 := by omega
      have hwq : IntKind.i64.wrap ((n / 10 : Nat) : Int) = ((n / 10 : Nat) : Int) := IntWalk.i64_in _ (by omega)
      have hwr : IntKind.i64.wrap ((n % 10 : Nat) : Int) = ((n % 10 : Nat) : Int) := IntWalk.i64_in _ (by omega)
      have hz := dd_len (n / 10)
      obtain ⟨S, hS⟩ : ∃ S : ByteArray, S = ⟨(Lib.decDigits (n / 10)).toArray⟩ := ⟨_, rfl⟩
      rw [← hS] at c1
      have hz2 : S.size + 1 ≤ 9223372036854775807 := by rw [hS, mk_size]; omega
      have E := Lib.hid e
      have HS := Lib.hid hS
      clear e ih hS hz
      generalize n / 10 = q at *
      generalize n % 10 = r at *
      have f1 : (0 : Int) ≤ (r : Int) := by omega
      have f2 : (r : Int) ≤ (r : Int) + 1 := by omega
      have f3 : (r : Int) + 1 ≤ 10 := by omega
      have f4 : r + 1 ≤ 10 := by omega
      have f5 : ((r : Int) + 1).toNat = r + 1 := by omega
      go_wp2_with fail
      go_quiet (exact Calls.quiet_of (c1 _ hle))
      go_wp2_with fail
      go_ret
      refine ⟨?_, _, rfl⟩
      rw [E.out, HS.out]
      simp [mk_app]
      trace_state

end Go.Proofs.YtaggjadgbmmjoaaGreatDoor

/- The text of slots in the reference. Condition: the slots are valid. -/
namespace Go.Proofs.YtaggjadgbmmjoaaGreatDoor
open Go.RowKit Go.ChangeShapes Go.WideShapes Go.Deep

theorem lett_ext : ∀ n ∈ List.range 4, (ByteArray.mk #[45, 112, 97, 98]).extract n (n + 1) = ByteArray.mk #[Tx.lett (n : Int)] := by decide
theorem lett_ext' {n : Nat} (h : n < 4) : (ByteArray.mk #[45, 112, 97, 98]).extract n (n + 1) = ByteArray.mk #[Tx.lett (n : Int)] := lett_ext n (by rw [List.mem_range]; exact h)
theorem Tx.word_len {s : Sl} (h : Tx.fine s) : (Tx.word s).length ≤ 6 := by
  by_cases h0 : s.state = 0
  · rw [(Tx.word_zero h h0).1]; simp
  · rw [(Tx.word_used h h0).1]
    have := Tx.dec_len (n := s.prio)
    simp; omega
theorem Tx.tail_len : ∀ {l : List Sl}, (∀ s ∈ l, Tx.fine s) → (Tx.tail l).length ≤ 7 * l.length
  | [], _ => by simp [Tx.tail]
  | s :: l, h => by
    have h1 := Tx.word_len (h s (by simp))
    have h2 := Tx.tail_len (l := l) (fun x hx => h x (by simp [hx]))
    rw [Tx.tail, List.flatMap_cons]
    rw [Tx.tail] at h2
    simp only [List.length_append, List.length_cons]
    omega
theorem Tx.text_len {l : List Sl} (h : ∀ s ∈ l, Tx.fine s) : (Tx.text l).length ≤ 7 * l.length := by
  have := Tx.tail_len h
  rw [Tx.text, List.length_drop]; omega
theorem Tx.fine_nat {s : Sl} (h : Tx.fine s) : ∃ j i p : Nat, s.state = j ∧ s.irq = i ∧ s.prio = p ∧ j < 4 ∧ i < 8 ∧ p < 16 := by
  refine ⟨s.state.toNat, s.irq.toNat, s.prio.toNat, ?_⟩
  rcases h with h | h <;> omega

set_option maxHeartbeats 1000000 in
theorem l8Text_any (v : Value) (l : List Sl) (w : World) {lo hi : Nat} (h : Rd Sl.cells 3 w lo hi v l) (hh : hi ≤ w.heap.size) (hg : Sl.good l = true) :
    Calls Tryz.prog 50 #[v] w fun e w' => e = .returned (.string ⟨(Tx.text l).toArray⟩) ∧ ∃ m, w' = w.drewN m := by
  have hrd := h
  obtain ⟨A, n, c, rfl, H, hc, hm⟩ := h.form
  have hn4 : n = 4 := by rw [H.out]; exact Sl.good_len hg
  have hn5 : n ≤ 4 := by omega
  have HG := Lib.hid hg
  clear hg hn4
  go_enter Tryz.func50, Tryz.ntmps50
  go_wp2_with fail
  go_loopw [3, 4] (fun v3 v4 wr => ∃ (k m : Nat) (S : ByteArray), k ≤ n ∧ v4 = .int .i64 k ∧ v3 = .string S ∧ Hid (S = ⟨(Tx.text (l.take k)).toArray⟩) ∧ wr = w.drewN m) (fun _ i _ => n - (intOf i).toNat)
  case atStart => exact ⟨0, 0, _, Nat.zero_le _, rfl, rfl, Lib.hid (by simp [Tx.text, Tx.tail]), rfl⟩
  case round =>
    obtain ⟨k, m, S, hk, rfl, rfl, HS, rfl⟩ := hrel
    by_cases hlt : k < n
    · obtain ⟨b, off, s, rfl, hs, _, hbl, f0, f1, f2⟩ := Sl.get hrd hlt (below_drewN (Below.refl w.heap.size w) m) hh
      generalize hwq : w.drewN m = wq at *
      have HW := Lib.hid hwq
      clear hwq
      have hf := Tx.good_fine HG.out hs.out
      obtain ⟨j, i, p, e0, e1, e2, hj, hi8, hp⟩ := Tx.fine_nat hf
      have hSz : S.size ≤ 30 := by
        rw [HS.out, mk_size]
        have := Tx.text_len (l := l.take k) (fun x hx => Tx.good_fine' HG.out (List.mem_of_mem_take hx))
        rw [List.length_take] at this
        omega
      rw [e0] at f0
      rw [e1] at f1
      rw [e2] at f2
      have HX := Lib.hid (show Tx.text (l.take (k + 1)) = (if k = 0 then [] else Tx.text (l.take k) ++ [32]) ++ Tx.word s from by
        by_cases h0 : k = 0
        · subst h0; rw [if_pos rfl, Tx.text_first hs.out]; rfl
        · rw [if_neg h0, Tx.text_succ (by omega) hs.out]; simp)
      have hx := lett_ext' hj
      have g1 : (0 : Int) ≤ (j : Int) := by omega
      have g2 : (j : Int) ≤ (j : Int) + 1 := by omega
      have g3 : (j : Int) + 1 ≤ 4 := by omega
      have g4 : j + 1 ≤ 4 := by omega
      have g5 : ((j : Int) + 1).toNat = j + 1 := by omega
      have gw : IntKind.i64.wrap ((j : Int) + 1) = (j : Int) + 1 := IntWalk.i64_in _ (by omega)
      have z1 : S.size + 1 ≤ 9223372036854775807 := by omega
      obtain ⟨S1, K, hS1, hK, hy1⟩ : ∃ (S1 : ByteArray) (K : Bool), S1 = (if k = 0 then S else S ++ ByteArray.mk #[32]) ∧ K = decide ((0 : Int) < (k : Int)) ∧ S1.size ≤ 31 := by
        refine ⟨_, _, rfl, rfl, ?_⟩
        split
        · omega
        · rw [ByteArray.size_append]; show S.size + 1 ≤ 31; omega
      obtain ⟨S2, hS2⟩ : ∃ S2, S1 ++ ByteArray.mk #[Tx.lett (j : Int)] = S2 := ⟨_, rfl⟩
      have hy2 : S2.size ≤ 32 := by rw [← hS2, ByteArray.size_append]; show S1.size + 1 ≤ 32; omega
      have z2 : S1.size + 1 ≤ 9223372036854775807 := by omega
      obtain ⟨D1, hD1⟩ : ∃ D1 : ByteArray, D1 = ⟨(Lib.decDigits i).toArray⟩ := ⟨_, rfl⟩
      obtain ⟨D2, hD2⟩ : ∃ D2 : ByteArray, D2 = ⟨(Lib.decDigits p).toArray⟩ := ⟨_, rfl⟩
      have d1 : D1.size ≤ 20 := by have := dd_len i; rw [hD1, mk_size]; omega
      have d2 : D2.size ≤ 20 := by have := dd_len p; rw [hD2, mk_size]; omega
      obtain ⟨S3, hS3⟩ : ∃ S3, S2 ++ D1 = S3 := ⟨_, rfl⟩
      obtain ⟨S4, hS4⟩ : ∃ S4, S3 ++ ByteArray.mk #[58] = S4 := ⟨_, rfl⟩
      obtain ⟨S5, hS5⟩ : ∃ S5, S4 ++ D2 = S5 := ⟨_, rfl⟩
      have hy3 : S3.size ≤ 52 := by rw [← hS3, ByteArray.size_append]; omega
      have hy4 : S4.size ≤ 53 := by rw [← hS4, ByteArray.size_append]; show S3.size + 1 ≤ 53; omega
      have z3 : S2.size + D1.size ≤ 9223372036854775807 := by omega
      have z4 : S3.size + 1 ≤ 9223372036854775807 := by omega
      have z5 : S4.size + D2.size ≤ 9223372036854775807 := by omega
      have cn : ∀ (q : Nat) (D : ByteArray), q ≤ 1000000 → Hid (D = ⟨(Lib.decDigits q).toArray⟩) → ∀ x, Calls Tryz.prog 74 #[.int .i64 (q : Int)] (wq.drewN x) fun e w' => e = .returned (.string D) ∧ ∃ m, w' = (wq.drewN x).drewN m := fun q D hq hD x => by
        rw [hD.out]; exact l1Num_nat q (wq.drewN x) hq
      have hq1 : i ≤ 1000000 := by omega
      have hq2 : p ≤ 1000000 := by omega
      have HD1 := Lib.hid hD1
      have HD2 := Lib.hid hD2
      have HY : Hid ((j = 0 → S2 = ⟨(Tx.text (l.take (k + 1))).toArray⟩) ∧ (¬ j = 0 → S5 = ⟨(Tx.text (l.take (k + 1))).toArray⟩)) := Lib.hid (by
        have hq1 : S1 = ⟨(if k = 0 then [] else Tx.text (l.take k) ++ [32]).toArray⟩ := by
          rw [hS1]
          by_cases h0 : k = 0
          · rw [if_pos h0, if_pos h0, HS.out, h0]; simp [Tx.text, Tx.tail]
          · rw [if_neg h0, if_neg h0, HS.out]
            exact mk_app _ [32]
        have hq2 : S2 = ⟨((if k = 0 then [] else Tx.text (l.take k) ++ [32]) ++ [Tx.lett (j : Int)]).toArray⟩ := by
          rw [← hS2, hq1]
          exact mk_app _ [Tx.lett (j : Int)]
        rw [HX.out]
        constructor
        · intro hj0
          rw [hq2, (Tx.word_zero hf (by omega)).1, hj0]
          rfl
        · intro hj0
          rw [← hS5, ← hS4, ← hS3, hq2, hD1, hD2, mk_app, show (ByteArray.mk #[58]) = ByteArray.mk [58].toArray from rfl, mk_app, mk_app, Tx.word, if_neg (show ¬ s.state = 0 by omega), e0, e1, e2, ← Tx.dec_eq (n := (i : Int)) (by omega) (by omega), ← Tx.dec_eq (n := (p : Int)) (by omega) (by omega)]
          simp)
      clear HX hf hi8 hp
      by_cases hj0 : j = 0
      · have hjd : decide ((0 : Int) < (j : Int)) = false := decide_eq_false (by omega)
        have hjd2 : decide (0 < j) = false := decide_eq_false (by omega)
        have HE := Lib.hid (HY.out.1 hj0)
        clear HY hj0 cn HD1 HD2 hD1 hD2
        by_cases h0 : k = 0
        · rw [if_pos h0] at hS1
          rw [decide_eq_false (by omega)] at hK
          subst hS1
          have hkd : decide ((0 : Int) < (k : Int)) = false := decide_eq_false (by omega)
          have hkd2 : decide (0 < k) = false := decide_eq_false (by omega)
          clear h0
          go_wp2_with fail
          go_roundw
          case rel => exact ⟨k + 1, m, _, by omega, by go_num, rfl, HE, HW.out.symm⟩
          case measure => simp [intOf]; omega
        · rw [if_neg h0] at hS1
          have hkd : decide ((0 : Int) < (k : Int)) = true := decide_eq_true (by omega)
          have hkd2 : decide (0 < k) = true := decide_eq_true (by omega)
          replace hS1 := hS1.symm
          go_wp2_with fail
          go_roundw
          case rel => exact ⟨k + 1, m, _, by omega, by go_num, rfl, HE, HW.out.symm⟩
          case measure => simp [intOf]; omega
      · have hjd : decide ((0 : Int) < (j : Int)) = true := decide_eq_true (by omega)
        have hjd2 : decide (0 < j) = true := decide_eq_true (by omega)
        have HE := Lib.hid (HY.out.2 hj0)
        clear HY hj0 hD1 hD2
        by_cases h0 : k = 0
        · rw [if_pos h0] at hS1
          rw [decide_eq_false (by omega)] at hK
          subst hS1
          have hkd : decide ((0 : Int) < (k : Int)) = false := decide_eq_false (by omega)
          have hkd2 : decide (0 < k) = false := decide_eq_false (by omega)
          clear h0
          go_wp2_with fail
          go_quiet (exact Calls.quiet_of (cn _ _ (by assumption) (by assumption) _))
          go_wp2_with fail
          go_roundw
          case rel => exact ⟨k + 1, _, _, by omega, by go_num, rfl, HE, by rw [← HW.out, World.drewN_drewN]⟩
          case measure => simp [intOf]; omega
        · rw [if_neg h0] at hS1
          have hkd : decide ((0 : Int) < (k : Int)) = true := decide_eq_true (by omega)
          have hkd2 : decide (0 < k) = true := decide_eq_true (by omega)
          replace hS1 := hS1.symm
          go_wp2_with fail
          go_quiet (exact Calls.quiet_of (cn _ _ (by assumption) (by assumption) _))
          go_wp2_with fail
          go_roundw
          case rel => exact ⟨k + 1, _, _, by omega, by go_num, rfl, HE, by rw [← HW.out, World.drewN_drewN]⟩
          case measure => simp [intOf]; omega
    · go_wp2_with fail
      go_ret
      refine ⟨?_, _, rfl⟩
      rw [HS.out, List.take_of_length_le (by rw [← H.out]; omega)]
      rfl

end Go.Proofs.YtaggjadgbmmjoaaGreatDoor

/- The library's functions of texts and numbers, number by number those of the kit's contracts. No condition. -/
namespace Go.Proofs.YtaggjadgbmmjoaaGreatDoor
open Go.RowKit Go.Shelf Go.Lib

def laysItoaS_ren : Go.Shelf.Ren := ⟨fun | 171 => 68 | 243 => 82 | 246 => 106 | 283 => 126 | 284 => 127 | 285 => 128 | 286 => 129 | 129 => 105 | 317 => 138 | 318 => 139 | 319 => 140 | 320 => 141 | 337 => 144 | 338 => 145 | n => n, fun | 3 => 3 | 9 => 9 | 2 => 2 | 4 => 4 | 171 => 131 | 0 => 0 | 53 => 51 | 37 => 22 | 5 => 5 | 173 => 133 | 212 => 150 | 51 => 112 | 20 => 20 | 213 => 151 | 46 => 92 | 232 => 161 | 233 => 162 | n => n, fun | 17 => 3 | 18 => 6 | 19 => 7 | n => n⟩
theorem laysItoaS : Go.Proofs.Lays.n171 Tryz.prog laysItoaS_ren := {
  mixed := by kernel_rfl,
  f129 := Tryz.func105.trans (congrArg some (by kernel_rfl)),
  f171 := Tryz.func68.trans (congrArg some (by kernel_rfl)),
  f243 := Tryz.func82.trans (congrArg some (by kernel_rfl)),
  f246 := Tryz.func106.trans (congrArg some (by kernel_rfl)),
  f283 := Tryz.func126.trans (congrArg some (by kernel_rfl)),
  f284 := Tryz.func127.trans (congrArg some (by kernel_rfl)),
  f285 := Tryz.func128.trans (congrArg some (by kernel_rfl)),
  f286 := Tryz.func129.trans (congrArg some (by kernel_rfl)),
  f317 := Tryz.func138.trans (congrArg some (by kernel_rfl)),
  f318 := Tryz.func139.trans (congrArg some (by kernel_rfl)),
  f319 := Tryz.func140.trans (congrArg some (by kernel_rfl)),
  f320 := Tryz.func141.trans (congrArg some (by kernel_rfl)),
  f337 := Tryz.func144.trans (congrArg some (by kernel_rfl)),
  f338 := Tryz.func145.trans (congrArg some (by kernel_rfl)),
  t0 := Tryz.underlying0,
  a0 := Tryz.isAgg0,
  z0 := Tryz.sizeOf0,
  v0 := Tryz.zeroValue0,
  t2 := Tryz.underlying2,
  a2 := Tryz.isAgg2,
  z2 := Tryz.sizeOf2,
  v2 := Tryz.zeroValue2,
  t3 := Tryz.underlying3,
  a3 := Tryz.isAgg3,
  z3 := Tryz.sizeOf3,
  v3 := Tryz.zeroValue3,
  t4 := Tryz.underlying4,
  a4 := Tryz.isAgg4,
  z4 := Tryz.sizeOf4,
  v4 := Tryz.zeroValue4,
  t5 := Tryz.underlying5,
  a5 := Tryz.isAgg5,
  z5 := Tryz.sizeOf5,
  v5 := Tryz.zeroValue5,
  t9 := Tryz.underlying9,
  a9 := Tryz.isAgg9,
  z9 := Tryz.sizeOf9,
  v9 := Tryz.zeroValue9,
  t20 := Tryz.underlying20,
  a20 := Tryz.isAgg20,
  z20 := Tryz.sizeOf20,
  v20 := Tryz.zeroValue20,
  t37 := Tryz.underlying22,
  a37 := Tryz.isAgg22,
  z37 := Tryz.sizeOf22,
  v37 := Tryz.zeroValue22,
  t46 := Tryz.underlying92,
  a46 := Tryz.isAgg92,
  z46 := Tryz.sizeOf92,
  v46 := Tryz.zeroValue92,
  t51 := Tryz.underlying112,
  a51 := Tryz.isAgg112,
  z51 := Tryz.sizeOf112,
  v51 := Tryz.zeroValue112,
  t53 := Tryz.underlying51,
  a53 := Tryz.isAgg51,
  z53 := Tryz.sizeOf51,
  v53 := Tryz.zeroValue51,
  t171 := Tryz.underlying131,
  a171 := Tryz.isAgg131,
  z171 := Tryz.sizeOf131,
  v171 := Tryz.zeroValue131,
  t173 := Tryz.underlying133,
  a173 := Tryz.isAgg133,
  z173 := Tryz.sizeOf133,
  v173 := Tryz.zeroValue133,
  t212 := Tryz.underlying150,
  a212 := Tryz.isAgg150,
  z212 := Tryz.sizeOf150,
  v212 := Tryz.zeroValue150,
  t213 := Tryz.underlying151,
  a213 := Tryz.isAgg151,
  z213 := Tryz.sizeOf151,
  t232 := Tryz.underlying161,
  a232 := Tryz.isAgg161,
  z232 := Tryz.sizeOf161,
  v232 := Tryz.zeroValue161,
  t233 := Tryz.underlying162,
  a233 := Tryz.isAgg162,
  z233 := Tryz.sizeOf162,
  v233 := Tryz.zeroValue162,
  g17 := by kernel_rfl,
  g18 := by kernel_rfl,
  g19 := by kernel_rfl }
def laysItoa_ren : Go.Shelf.Ren := ⟨fun | 171 => 68 | 243 => 82 | 246 => 106 | 283 => 126 | 284 => 127 | 285 => 128 | 286 => 129 | 129 => 105 | 317 => 138 | 318 => 139 | 319 => 140 | 320 => 141 | 337 => 144 | 338 => 145 | n => n, fun | 3 => 3 | 9 => 9 | 2 => 2 | 4 => 4 | 171 => 131 | 0 => 0 | 53 => 51 | 37 => 22 | 5 => 5 | 173 => 133 | 212 => 150 | 51 => 112 | 20 => 20 | 213 => 151 | 46 => 92 | 232 => 161 | 233 => 162 | n => n, fun | 17 => 3 | 18 => 6 | 19 => 7 | n => n⟩
theorem laysItoa : Go.Proofs.LaysM.n171 Tryz.prog laysItoa_ren := {
  mixed := by kernel_rfl,
  f129 := Tryz.func105.trans (congrArg some (by kernel_rfl)),
  f171 := Tryz.func68.trans (congrArg some (by kernel_rfl)),
  f243 := Tryz.func82.trans (congrArg some (by kernel_rfl)),
  f246 := Tryz.func106.trans (congrArg some (by kernel_rfl)),
  f283 := Tryz.func126.trans (congrArg some (by kernel_rfl)),
  f284 := Tryz.func127.trans (congrArg some (by kernel_rfl)),
  f285 := Tryz.func128.trans (congrArg some (by kernel_rfl)),
  f286 := Tryz.func129.trans (congrArg some (by kernel_rfl)),
  f317 := Tryz.func138.trans (congrArg some (by kernel_rfl)),
  f318 := Tryz.func139.trans (congrArg some (by kernel_rfl)),
  f319 := Tryz.func140.trans (congrArg some (by kernel_rfl)),
  f320 := Tryz.func141.trans (congrArg some (by kernel_rfl)),
  f337 := Tryz.func144.trans (congrArg some (by kernel_rfl)),
  f338 := Tryz.func145.trans (congrArg some (by kernel_rfl)),
  t0 := Tryz.underlying0,
  a0 := Tryz.isAgg0,
  z0 := Tryz.sizeOf0,
  v0 := Tryz.zeroValue0,
  t2 := Tryz.underlying2,
  a2 := Tryz.isAgg2,
  z2 := Tryz.sizeOf2,
  v2 := Tryz.zeroValue2,
  t3 := Tryz.underlying3,
  a3 := Tryz.isAgg3,
  z3 := Tryz.sizeOf3,
  v3 := Tryz.zeroValue3,
  t4 := Tryz.underlying4,
  a4 := Tryz.isAgg4,
  z4 := Tryz.sizeOf4,
  v4 := Tryz.zeroValue4,
  t5 := Tryz.underlying5,
  a5 := Tryz.isAgg5,
  z5 := Tryz.sizeOf5,
  v5 := Tryz.zeroValue5,
  t9 := Tryz.underlying9,
  a9 := Tryz.isAgg9,
  z9 := Tryz.sizeOf9,
  v9 := Tryz.zeroValue9,
  t20 := Tryz.underlying20,
  a20 := Tryz.isAgg20,
  z20 := Tryz.sizeOf20,
  v20 := Tryz.zeroValue20,
  t37 := Tryz.underlying22,
  a37 := Tryz.isAgg22,
  z37 := Tryz.sizeOf22,
  v37 := Tryz.zeroValue22,
  t46 := Tryz.underlying92,
  a46 := Tryz.isAgg92,
  z46 := Tryz.sizeOf92,
  v46 := Tryz.zeroValue92,
  t51 := Tryz.underlying112,
  a51 := Tryz.isAgg112,
  z51 := Tryz.sizeOf112,
  v51 := Tryz.zeroValue112,
  t53 := Tryz.underlying51,
  a53 := Tryz.isAgg51,
  z53 := Tryz.sizeOf51,
  v53 := Tryz.zeroValue51,
  t171 := Tryz.underlying131,
  a171 := Tryz.isAgg131,
  z171 := Tryz.sizeOf131,
  v171 := Tryz.zeroValue131,
  t173 := Tryz.underlying133,
  a173 := Tryz.isAgg133,
  z173 := Tryz.sizeOf133,
  v173 := Tryz.zeroValue133,
  t212 := Tryz.underlying150,
  a212 := Tryz.isAgg150,
  z212 := Tryz.sizeOf150,
  v212 := Tryz.zeroValue150,
  t213 := Tryz.underlying151,
  a213 := Tryz.isAgg151,
  z213 := Tryz.sizeOf151,
  t232 := Tryz.underlying161,
  a232 := Tryz.isAgg161,
  z232 := Tryz.sizeOf161,
  v232 := Tryz.zeroValue161,
  t233 := Tryz.underlying162,
  a233 := Tryz.isAgg162,
  z233 := Tryz.sizeOf162,
  v233 := Tryz.zeroValue162,
  g17 := by kernel_rfl,
  g18 := by kernel_rfl,
  g19 := by kernel_rfl,
  i0 := by kernel_rfl,
  i2 := by kernel_rfl,
  i3 := by kernel_rfl,
  i4 := by kernel_rfl,
  i5 := by kernel_rfl,
  i9 := by kernel_rfl,
  i20 := by kernel_rfl,
  i37 := by kernel_rfl,
  i46 := by kernel_rfl,
  i51 := by kernel_rfl,
  i53 := by kernel_rfl,
  i171 := by kernel_rfl,
  i173 := by kernel_rfl,
  i212 := by kernel_rfl,
  i232 := by kernel_rfl,
  i233 := by kernel_rfl,
  m17 := by kernel_rfl,
  m18 := by kernel_rfl,
  m19 := by kernel_rfl }
def laysJoin_ren : Go.Shelf.Ren := ⟨fun | 156 => 69 | 165 => 83 | 166 => 84 | 169 => 85 | 240 => 107 | 241 => 108 | 276 => 130 | 277 => 131 | n => n, fun | 31 => 63 | 9 => 9 | 3 => 3 | 4 => 4 | 0 => 0 | 20 => 20 | 72 => 95 | 76 => 83 | 70 => 93 | 37 => 22 | 75 => 82 | 127 => 115 | 164 => 135 | 5 => 5 | 80 => 97 | n => n, fun | n => n⟩
theorem laysJoin : Go.Proofs.Lays.n156 Tryz.prog laysJoin_ren := {
  mixed := by kernel_rfl,
  f156 := Tryz.func69.trans (congrArg some (by kernel_rfl)),
  f165 := Tryz.func83.trans (congrArg some (by kernel_rfl)),
  f166 := Tryz.func84.trans (congrArg some (by kernel_rfl)),
  f169 := Tryz.func85.trans (congrArg some (by kernel_rfl)),
  f240 := Tryz.func107.trans (congrArg some (by kernel_rfl)),
  f241 := Tryz.func108.trans (congrArg some (by kernel_rfl)),
  f276 := Tryz.func130.trans (congrArg some (by kernel_rfl)),
  f277 := Tryz.func131.trans (congrArg some (by kernel_rfl)),
  t0 := Tryz.underlying0,
  a0 := Tryz.isAgg0,
  z0 := Tryz.sizeOf0,
  v0 := Tryz.zeroValue0,
  t3 := Tryz.underlying3,
  a3 := Tryz.isAgg3,
  z3 := Tryz.sizeOf3,
  v3 := Tryz.zeroValue3,
  t4 := Tryz.underlying4,
  a4 := Tryz.isAgg4,
  z4 := Tryz.sizeOf4,
  v4 := Tryz.zeroValue4,
  t9 := Tryz.underlying9,
  a9 := Tryz.isAgg9,
  z9 := Tryz.sizeOf9,
  v9 := Tryz.zeroValue9,
  t20 := Tryz.underlying20,
  a20 := Tryz.isAgg20,
  z20 := Tryz.sizeOf20,
  v20 := Tryz.zeroValue20,
  t31 := Tryz.underlying63,
  a31 := Tryz.isAgg63,
  z31 := Tryz.sizeOf63,
  v31 := Tryz.zeroValue63,
  t37 := Tryz.underlying22,
  a37 := Tryz.isAgg22,
  z37 := Tryz.sizeOf22,
  v37 := Tryz.zeroValue22,
  t70 := Tryz.underlying93,
  a70 := Tryz.isAgg93,
  z70 := Tryz.sizeOf93,
  v70 := Tryz.zeroValue93,
  t72 := Tryz.underlying95,
  a72 := Tryz.isAgg95,
  z72 := Tryz.sizeOf95,
  v72 := Tryz.zeroValue95,
  t75 := Tryz.underlying82,
  a75 := Tryz.isAgg82,
  z75 := Tryz.sizeOf82,
  v75 := Tryz.zeroValue82,
  t76 := Tryz.underlying83,
  a76 := Tryz.isAgg83,
  z76 := Tryz.sizeOf83,
  v76 := Tryz.zeroValue83,
  t127 := Tryz.underlying115,
  a127 := Tryz.isAgg115,
  z127 := Tryz.sizeOf115,
  v127 := Tryz.zeroValue115,
  t164 := Tryz.underlying135,
  a164 := Tryz.isAgg135,
  z164 := Tryz.sizeOf135,
  v164 := Tryz.zeroValue135 }
def laysSplit_ren : Go.Shelf.Ren := ⟨fun | 146 => 46 | 221 => 70 | 268 => 86 | 138 => 87 | 143 => 88 | 195 => 109 | 197 => 110 | 218 => 111 | 219 => 90 | 260 => 132 | 217 => 71 | 225 => 112 | 224 => 113 | 267 => 114 | 266 => 89 | 314 => 133 | n => n, fun | 9 => 9 | 31 => 63 | 3 => 3 | 4 => 4 | 0 => 0 | 105 => 117 | 21 => 21 | 5 => 5 | 46 => 92 | 119 => 152 | 139 => 155 | 138 => 154 | 146 => 138 | 51 => 112 | n => n, fun | 1 => 0 | 3 => 4 | 4 => 5 | n => n⟩
theorem laysSplit : Go.Proofs.LaysM.n146 Tryz.prog laysSplit_ren := {
  mixed := by kernel_rfl,
  f138 := Tryz.func87.trans (congrArg some (by kernel_rfl)),
  f143 := Tryz.func88.trans (congrArg some (by kernel_rfl)),
  f146 := Tryz.func46.trans (congrArg some (by kernel_rfl)),
  f195 := Tryz.func109.trans (congrArg some (by kernel_rfl)),
  f197 := Tryz.func110.trans (congrArg some (by kernel_rfl)),
  f217 := Tryz.func71.trans (congrArg some (by kernel_rfl)),
  f218 := Tryz.func111.trans (congrArg some (by kernel_rfl)),
  f219 := Tryz.func90.trans (congrArg some (by kernel_rfl)),
  f221 := Tryz.func70.trans (congrArg some (by kernel_rfl)),
  f224 := Tryz.func113.trans (congrArg some (by kernel_rfl)),
  f225 := Tryz.func112.trans (congrArg some (by kernel_rfl)),
  f260 := Tryz.func132.trans (congrArg some (by kernel_rfl)),
  f266 := Tryz.func89.trans (congrArg some (by kernel_rfl)),
  f267 := Tryz.func114.trans (congrArg some (by kernel_rfl)),
  f268 := Tryz.func86.trans (congrArg some (by kernel_rfl)),
  f314 := Tryz.func133.trans (congrArg some (by kernel_rfl)),
  t0 := Tryz.underlying0,
  a0 := Tryz.isAgg0,
  z0 := Tryz.sizeOf0,
  v0 := Tryz.zeroValue0,
  t3 := Tryz.underlying3,
  a3 := Tryz.isAgg3,
  z3 := Tryz.sizeOf3,
  v3 := Tryz.zeroValue3,
  t4 := Tryz.underlying4,
  a4 := Tryz.isAgg4,
  z4 := Tryz.sizeOf4,
  v4 := Tryz.zeroValue4,
  t5 := Tryz.underlying5,
  a5 := Tryz.isAgg5,
  z5 := Tryz.sizeOf5,
  v5 := Tryz.zeroValue5,
  t9 := Tryz.underlying9,
  a9 := Tryz.isAgg9,
  z9 := Tryz.sizeOf9,
  v9 := Tryz.zeroValue9,
  t21 := Tryz.underlying21,
  a21 := Tryz.isAgg21,
  z21 := Tryz.sizeOf21,
  v21 := Tryz.zeroValue21,
  t31 := Tryz.underlying63,
  a31 := Tryz.isAgg63,
  z31 := Tryz.sizeOf63,
  v31 := Tryz.zeroValue63,
  t46 := Tryz.underlying92,
  a46 := Tryz.isAgg92,
  z46 := Tryz.sizeOf92,
  v46 := Tryz.zeroValue92,
  t51 := Tryz.underlying112,
  a51 := Tryz.isAgg112,
  z51 := Tryz.sizeOf112,
  v51 := Tryz.zeroValue112,
  t105 := Tryz.underlying117,
  a105 := Tryz.isAgg117,
  z105 := Tryz.sizeOf117,
  v105 := Tryz.zeroValue117,
  t119 := Tryz.underlying152,
  a119 := Tryz.isAgg152,
  z119 := Tryz.sizeOf152,
  t138 := Tryz.underlying154,
  a138 := Tryz.isAgg154,
  z138 := Tryz.sizeOf154,
  v138 := Tryz.zeroValue154,
  t139 := Tryz.underlying155,
  a139 := Tryz.isAgg155,
  z139 := Tryz.sizeOf155,
  v139 := Tryz.zeroValue155,
  t146 := Tryz.underlying138,
  a146 := Tryz.isAgg138,
  z146 := Tryz.sizeOf138,
  v146 := Tryz.zeroValue138,
  g1 := by kernel_rfl,
  g3 := by kernel_rfl,
  g4 := by kernel_rfl,
  i0 := by kernel_rfl,
  i3 := by kernel_rfl,
  i4 := by kernel_rfl,
  i5 := by kernel_rfl,
  i9 := by kernel_rfl,
  i21 := by kernel_rfl,
  i31 := by kernel_rfl,
  i46 := by kernel_rfl,
  i51 := by kernel_rfl,
  i105 := by kernel_rfl,
  i138 := by kernel_rfl,
  i139 := by kernel_rfl,
  i146 := by kernel_rfl,
  m1 := by kernel_rfl,
  s1_3 := fun w h => Go.Proofs.cell_of_shapedOpen_int (zero := #[.int .i64 0]) (t := 3) h (of_decide_eq_true (by kernel_rfl)) (by kernel_rfl) rfl (by kernel_rfl) (by kernel_rfl) Tryz.underlying3,
  m3 := by kernel_rfl,
  m4 := by kernel_rfl }
def laysCut_ren : Go.Shelf.Ren := ⟨fun | 145 => 48 | 220 => 72 | 219 => 90 | 217 => 71 | 225 => 112 | 224 => 113 | 267 => 114 | 266 => 89 | 314 => 133 | n => n, fun | 9 => 9 | 4 => 4 | 59 => 66 | 3 => 3 | 5 => 5 | 46 => 92 | 146 => 138 | 51 => 112 | n => n, fun | 1 => 0 | n => n⟩
theorem laysCut : Go.Proofs.LaysM.n145 Tryz.prog laysCut_ren := {
  mixed := by kernel_rfl,
  f145 := Tryz.func48.trans (congrArg some (by kernel_rfl)),
  f217 := Tryz.func71.trans (congrArg some (by kernel_rfl)),
  f219 := Tryz.func90.trans (congrArg some (by kernel_rfl)),
  f220 := Tryz.func72.trans (congrArg some (by kernel_rfl)),
  f224 := Tryz.func113.trans (congrArg some (by kernel_rfl)),
  f225 := Tryz.func112.trans (congrArg some (by kernel_rfl)),
  f266 := Tryz.func89.trans (congrArg some (by kernel_rfl)),
  f267 := Tryz.func114.trans (congrArg some (by kernel_rfl)),
  f314 := Tryz.func133.trans (congrArg some (by kernel_rfl)),
  t3 := Tryz.underlying3,
  a3 := Tryz.isAgg3,
  z3 := Tryz.sizeOf3,
  v3 := Tryz.zeroValue3,
  t4 := Tryz.underlying4,
  a4 := Tryz.isAgg4,
  z4 := Tryz.sizeOf4,
  v4 := Tryz.zeroValue4,
  t5 := Tryz.underlying5,
  a5 := Tryz.isAgg5,
  z5 := Tryz.sizeOf5,
  v5 := Tryz.zeroValue5,
  t9 := Tryz.underlying9,
  a9 := Tryz.isAgg9,
  z9 := Tryz.sizeOf9,
  v9 := Tryz.zeroValue9,
  t46 := Tryz.underlying92,
  a46 := Tryz.isAgg92,
  z46 := Tryz.sizeOf92,
  v46 := Tryz.zeroValue92,
  t51 := Tryz.underlying112,
  a51 := Tryz.isAgg112,
  z51 := Tryz.sizeOf112,
  v51 := Tryz.zeroValue112,
  t59 := Tryz.underlying66,
  a59 := Tryz.isAgg66,
  z59 := Tryz.sizeOf66,
  v59 := Tryz.zeroValue66,
  t146 := Tryz.underlying138,
  a146 := Tryz.isAgg138,
  z146 := Tryz.sizeOf138,
  v146 := Tryz.zeroValue138,
  g1 := by kernel_rfl,
  i3 := by kernel_rfl,
  i4 := by kernel_rfl,
  i5 := by kernel_rfl,
  i9 := by kernel_rfl,
  i46 := by kernel_rfl,
  i51 := by kernel_rfl,
  i59 := by kernel_rfl,
  i146 := by kernel_rfl,
  m1 := by kernel_rfl,
  s1_3 := fun w h => Go.Proofs.cell_of_shapedOpen_int (zero := #[.int .i64 0]) (t := 3) h (of_decide_eq_true (by kernel_rfl)) (by kernel_rfl) rfl (by kernel_rfl) (by kernel_rfl) Tryz.underlying3 }
def laysIndexByte_ren : Go.Shelf.Ren := ⟨fun | 137 => 47 | 217 => 71 | 266 => 89 | n => n, fun | 9 => 9 | 5 => 5 | 3 => 3 | n => n, fun | n => n⟩
theorem laysIndexByte : Go.Proofs.Lays.n137 Tryz.prog laysIndexByte_ren := {
  mixed := by kernel_rfl,
  f137 := Tryz.func47.trans (congrArg some (by kernel_rfl)),
  f217 := Tryz.func71.trans (congrArg some (by kernel_rfl)),
  f266 := Tryz.func89.trans (congrArg some (by kernel_rfl)),
  t3 := Tryz.underlying3,
  a3 := Tryz.isAgg3,
  z3 := Tryz.sizeOf3,
  v3 := Tryz.zeroValue3,
  t5 := Tryz.underlying5,
  a5 := Tryz.isAgg5,
  z5 := Tryz.sizeOf5,
  v5 := Tryz.zeroValue5,
  t9 := Tryz.underlying9,
  a9 := Tryz.isAgg9,
  z9 := Tryz.sizeOf9,
  v9 := Tryz.zeroValue9 }
def laysAtoi_ren : Go.Shelf.Ren := ⟨fun | 172 => 73 | 244 => 91 | 245 => 92 | 247 => 115 | 279 => 116 | 280 => 117 | 281 => 118 | 282 => 119 | 287 => 134 | 316 => 135 | 171 => 68 | 205 => 136 | 321 => 142 | 322 => 143 | 243 => 82 | 246 => 106 | 283 => 126 | 284 => 127 | 285 => 128 | 286 => 129 | 129 => 105 | 317 => 138 | 318 => 139 | 319 => 140 | 320 => 141 | 337 => 144 | 338 => 145 | n => n, fun | 9 => 9 | 3 => 3 | 75 => 82 | 76 => 83 | 4 => 4 | 5 => 5 | 167 => 119 | 37 => 22 | 0 => 0 | 85 => 120 | 2 => 2 | 168 => 122 | 53 => 51 | 175 => 140 | 46 => 92 | 210 => 144 | 127 => 115 | 145 => 160 | 143 => 158 | 21 => 21 | 171 => 131 | 173 => 133 | 212 => 150 | 51 => 112 | 20 => 20 | 213 => 151 | 232 => 161 | 233 => 162 | 80 => 97 | n => n, fun | 15 => 1 | 16 => 2 | 17 => 3 | 18 => 6 | 19 => 7 | n => n⟩
theorem laysAtoi : Go.Proofs.LaysC.n172 Tryz.prog laysAtoi_ren := {
  mixed := by kernel_rfl,
  f129 := Tryz.func105.trans (congrArg some (by kernel_rfl)),
  f171 := Tryz.func68.trans (congrArg some (by kernel_rfl)),
  f172 := Tryz.func73.trans (congrArg some (by kernel_rfl)),
  f205 := Tryz.func136.trans (congrArg some (by kernel_rfl)),
  f243 := Tryz.func82.trans (congrArg some (by kernel_rfl)),
  f244 := Tryz.func91.trans (congrArg some (by kernel_rfl)),
  f245 := Tryz.func92.trans (congrArg some (by kernel_rfl)),
  f246 := Tryz.func106.trans (congrArg some (by kernel_rfl)),
  f247 := Tryz.func115.trans (congrArg some (by kernel_rfl)),
  f279 := Tryz.func116.trans (congrArg some (by kernel_rfl)),
  f280 := Tryz.func117.trans (congrArg some (by kernel_rfl)),
  f281 := Tryz.func118.trans (congrArg some (by kernel_rfl)),
  f282 := Tryz.func119.trans (congrArg some (by kernel_rfl)),
  f283 := Tryz.func126.trans (congrArg some (by kernel_rfl)),
  f284 := Tryz.func127.trans (congrArg some (by kernel_rfl)),
  f285 := Tryz.func128.trans (congrArg some (by kernel_rfl)),
  f286 := Tryz.func129.trans (congrArg some (by kernel_rfl)),
  f287 := Tryz.func134.trans (congrArg some (by kernel_rfl)),
  f316 := Tryz.func135.trans (congrArg some (by kernel_rfl)),
  f317 := Tryz.func138.trans (congrArg some (by kernel_rfl)),
  f318 := Tryz.func139.trans (congrArg some (by kernel_rfl)),
  f319 := Tryz.func140.trans (congrArg some (by kernel_rfl)),
  f320 := Tryz.func141.trans (congrArg some (by kernel_rfl)),
  f321 := Tryz.func142.trans (congrArg some (by kernel_rfl)),
  f322 := Tryz.func143.trans (congrArg some (by kernel_rfl)),
  f337 := Tryz.func144.trans (congrArg some (by kernel_rfl)),
  f338 := Tryz.func145.trans (congrArg some (by kernel_rfl)),
  t0 := Tryz.underlying0,
  a0 := Tryz.isAgg0,
  z0 := Tryz.sizeOf0,
  v0 := Tryz.zeroValue0,
  t2 := Tryz.underlying2,
  a2 := Tryz.isAgg2,
  z2 := Tryz.sizeOf2,
  v2 := Tryz.zeroValue2,
  t3 := Tryz.underlying3,
  a3 := Tryz.isAgg3,
  z3 := Tryz.sizeOf3,
  v3 := Tryz.zeroValue3,
  t4 := Tryz.underlying4,
  a4 := Tryz.isAgg4,
  z4 := Tryz.sizeOf4,
  v4 := Tryz.zeroValue4,
  t5 := Tryz.underlying5,
  a5 := Tryz.isAgg5,
  z5 := Tryz.sizeOf5,
  v5 := Tryz.zeroValue5,
  t9 := Tryz.underlying9,
  a9 := Tryz.isAgg9,
  z9 := Tryz.sizeOf9,
  v9 := Tryz.zeroValue9,
  t20 := Tryz.underlying20,
  a20 := Tryz.isAgg20,
  z20 := Tryz.sizeOf20,
  v20 := Tryz.zeroValue20,
  t21 := Tryz.underlying21,
  a21 := Tryz.isAgg21,
  z21 := Tryz.sizeOf21,
  v21 := Tryz.zeroValue21,
  t37 := Tryz.underlying22,
  a37 := Tryz.isAgg22,
  z37 := Tryz.sizeOf22,
  v37 := Tryz.zeroValue22,
  t46 := Tryz.underlying92,
  a46 := Tryz.isAgg92,
  z46 := Tryz.sizeOf92,
  v46 := Tryz.zeroValue92,
  t51 := Tryz.underlying112,
  a51 := Tryz.isAgg112,
  z51 := Tryz.sizeOf112,
  v51 := Tryz.zeroValue112,
  t53 := Tryz.underlying51,
  a53 := Tryz.isAgg51,
  z53 := Tryz.sizeOf51,
  v53 := Tryz.zeroValue51,
  t75 := Tryz.underlying82,
  a75 := Tryz.isAgg82,
  z75 := Tryz.sizeOf82,
  v75 := Tryz.zeroValue82,
  t76 := Tryz.underlying83,
  a76 := Tryz.isAgg83,
  z76 := Tryz.sizeOf83,
  v76 := Tryz.zeroValue83,
  t85 := Tryz.underlying120,
  a85 := Tryz.isAgg120,
  z85 := Tryz.sizeOf120,
  v85 := Tryz.zeroValue120,
  t127 := Tryz.underlying115,
  a127 := Tryz.isAgg115,
  z127 := Tryz.sizeOf115,
  v127 := Tryz.zeroValue115,
  t143 := Tryz.underlying158,
  a143 := Tryz.isAgg158,
  z143 := Tryz.sizeOf158,
  v143 := Tryz.zeroValue158,
  t145 := Tryz.underlying160,
  a145 := Tryz.isAgg160,
  z145 := Tryz.sizeOf160,
  v145 := Tryz.zeroValue160,
  t167 := Tryz.underlying119,
  a167 := Tryz.isAgg119,
  z167 := Tryz.sizeOf119,
  v167 := Tryz.zeroValue119,
  t168 := Tryz.underlying122,
  a168 := Tryz.isAgg122,
  z168 := Tryz.sizeOf122,
  v168 := Tryz.zeroValue122,
  t171 := Tryz.underlying131,
  a171 := Tryz.isAgg131,
  z171 := Tryz.sizeOf131,
  v171 := Tryz.zeroValue131,
  t173 := Tryz.underlying133,
  a173 := Tryz.isAgg133,
  z173 := Tryz.sizeOf133,
  v173 := Tryz.zeroValue133,
  t175 := Tryz.underlying140,
  a175 := Tryz.isAgg140,
  z175 := Tryz.sizeOf140,
  v175 := Tryz.zeroValue140,
  t210 := Tryz.underlying144,
  a210 := Tryz.isAgg144,
  z210 := Tryz.sizeOf144,
  v210 := Tryz.zeroValue144,
  t212 := Tryz.underlying150,
  a212 := Tryz.isAgg150,
  z212 := Tryz.sizeOf150,
  v212 := Tryz.zeroValue150,
  t213 := Tryz.underlying151,
  a213 := Tryz.isAgg151,
  z213 := Tryz.sizeOf151,
  t232 := Tryz.underlying161,
  a232 := Tryz.isAgg161,
  z232 := Tryz.sizeOf161,
  v232 := Tryz.zeroValue161,
  t233 := Tryz.underlying162,
  a233 := Tryz.isAgg162,
  z233 := Tryz.sizeOf162,
  v233 := Tryz.zeroValue162,
  g15 := by kernel_rfl,
  g16 := by kernel_rfl,
  g17 := by kernel_rfl,
  g18 := by kernel_rfl,
  g19 := by kernel_rfl,
  t80 := Tryz.underlying97,
  a80 := Tryz.isAgg97,
  z80 := Tryz.sizeOf97,
  v80 := Tryz.zeroValue97,
  i0 := by kernel_rfl,
  i2 := by kernel_rfl,
  i3 := by kernel_rfl,
  i4 := by kernel_rfl,
  i5 := by kernel_rfl,
  i9 := by kernel_rfl,
  i20 := by kernel_rfl,
  i21 := by kernel_rfl,
  i37 := by kernel_rfl,
  i46 := by kernel_rfl,
  i51 := by kernel_rfl,
  i53 := by kernel_rfl,
  i75 := by kernel_rfl,
  i76 := by kernel_rfl,
  i80 := by kernel_rfl,
  i85 := by kernel_rfl,
  i127 := by kernel_rfl,
  i143 := by kernel_rfl,
  i145 := by kernel_rfl,
  i167 := by kernel_rfl,
  i168 := by kernel_rfl,
  i171 := by kernel_rfl,
  i173 := by kernel_rfl,
  i175 := by kernel_rfl,
  i210 := by kernel_rfl,
  i212 := by kernel_rfl,
  i232 := by kernel_rfl,
  i233 := by kernel_rfl,
  m15 := by kernel_rfl,
  m16 := by kernel_rfl,
  m17 := by kernel_rfl,
  m18 := by kernel_rfl,
  m19 := by kernel_rfl,
  c0 := by kernel_rfl,
  c2 := by kernel_rfl,
  c3 := by kernel_rfl,
  c4 := by kernel_rfl,
  c5 := by kernel_rfl,
  c9 := by kernel_rfl,
  c20 := by kernel_rfl,
  c21 := by kernel_rfl,
  c37 := by kernel_rfl,
  c46 := by kernel_rfl,
  c51 := by kernel_rfl,
  c53 := by kernel_rfl,
  c75 := by kernel_rfl,
  c76 := by kernel_rfl,
  c80 := by kernel_rfl,
  c85 := by kernel_rfl,
  c127 := by kernel_rfl,
  c143 := by kernel_rfl,
  c145 := by kernel_rfl,
  c167 := by kernel_rfl,
  c168 := by kernel_rfl,
  c171 := by kernel_rfl,
  c173 := by kernel_rfl,
  c175 := by kernel_rfl,
  c210 := by kernel_rfl,
  c212 := by kernel_rfl,
  c213 := by kernel_rfl,
  c232 := by kernel_rfl,
  c233 := by kernel_rfl }
theorem joinExtra : Go.Proofs.Builder.Extra Tryz.prog laysJoin_ren := {
  sizeBuilder := by kernel_rfl,
  liesBuilder := by kernel_rfl,
  t5 := Tryz.underlying5,
  a5 := Tryz.isAgg5,
  z5 := Tryz.sizeOf5,
  v5 := Tryz.zeroValue5,
  infoByte := by kernel_rfl,
  cellsByte := by kernel_rfl,
  sizeByte := by kernel_rfl,
  neB5 := by decide }


end Go.Proofs.YtaggjadgbmmjoaaGreatDoor

/- Lists of texts: their cells. No condition. -/
namespace Go.Proofs.YtaggjadgbmmjoaaGreatDoor
open Go.RowKit Go.ChangeShapes Go.WideShapes Go.Deep

def St.cells (x : ByteArray) : List Value := [.string x]
theorem St.cells_len (x : ByteArray) : (St.cells x).length = 1 := rfl
theorem St.info : (Tryz.prog.info? 9).map (fun i => (i.zero, i.size, i.bytes)) = some (some (.string ⟨#[]⟩), 1, 16) := by kernel_rfl
theorem St.get {w : World} {lo hi : Nat} {A : Option Addr} {n c k : Nat} {l : List ByteArray} (h : Rd St.cells 1 w lo hi (.slice A n c) l) (hk : k < n) {B : Nat} {wr : World} (hb : Below B w wr) (hB : hi ≤ B) :
    ∃ b off t, A = some ⟨b, off, none⟩ ∧ Hid (l[k]? = some t) ∧ lo ≤ b ∧ b < hi ∧ wr.cell? ⟨b, off + k, none⟩ = some (.string t) := by
  obtain ⟨b, off, t, hA, hx, h1, h2, h3⟩ := h.get hk hb hB
  exact ⟨b, off, t, hA, hx, h1, h2, by simpa using h3 0 _ rfl⟩
theorem St.one (y : ByteArray) (u : Value) (h : u ∈ St.cells y) : u.oneCell' = true := by
  simp only [St.cells, List.mem_cons, List.not_mem_nil, or_false] at h
  subst h; rfl
theorem St.app_one {w : World} {ops : Array Oper} {rest : List Oper} {o : Oper} {a : Act} {Q : Exit → Act → World → Prop} (hgd : o.guard = none) (s x : Operand)
    (ho : o.op = .call { callee := .builtin .append, args := #[s, x], argTypes := #[63, 63] }) (base : Nat)
    (v : Value) (n : Nat) (xs : List Value) (hs : a.eval s = v) (hown : w.ownsRow base 9 1 v n xs) {g c : Nat} (y : ByteArray) (hx : a.eval x = .slice (some ⟨g, 0, none⟩) 1 c) (hr : ∀ j u, (St.cells y)[j]? = some u → w.cell? ⟨g, j, none⟩ = some u)
    (hlen : n ≤ 4194304) (hbase : base ≤ w.heap.size)
    (h : ∀ v' w', w'.ownsRow base 9 1 v' (n + 1) (xs ++ St.cells y) → w.grownBy w' v.ownBlock → wpList Tryz.prog ops Q rest (a.put o.dst v') w') : wpList Tryz.prog ops Q (o :: rest) a w := by
  obtain ⟨i0, hi0, hz0, hz1, hz2⟩ := info_parts St.info
  exact wpList_append_own w hgd s x _ ho base _ i0 _ 1 _ Tryz.underlying63 hi0 hz0 hz1 hz2 rfl (by omega) v n xs hs hown ⟨g, 0, none⟩ 1 c (St.cells y) hx (by rw [St.cells_len]) (fun j u hu => by rw [Go.WideShapes.add_plain, Nat.zero_add]; exact hr j u hu) (St.one y) (by unfold maxLen; omega) (by omega) hbase
    fun v' w' h1 h2 _ => h v' w' h1 h2

end Go.Proofs.YtaggjadgbmmjoaaGreatDoor

/- The text of slots in the program. Condition: the slots are valid. -/
namespace Go.Proofs.YtaggjadgbmmjoaaGreatDoor
open Go.RowKit Go.ChangeShapes Go.WideShapes Go.Deep

theorem itoa_small (q : Nat) (D : ByteArray) (hq : q < 100) (hD : Hid (D = ⟨(Lib.decDigits q).toArray⟩)) (w : World) : Calls Tryz.prog 68 #[.int .i64 (q : Int)] w fun e w' => e = .returned (.string D) ∧ w' = w := by
  rw [hD.out]; exact Any.strconv_Itoa_small laysItoaS q hq w
theorem join_any (bk o c : Nat) (xs : List ByteArray) (w : World) (hcells : ∀ (j : Nat) x, xs[j]? = some x → w.cell? ⟨bk, o + j, none⟩ = some (.string x)) (hbk : bk < w.heap.size) (hN : xs.length ≤ 1000) (hcap : xs.length ≤ c) (hlen : (Lib.join (xs.map (·.data.toList)) [32]).length ≤ 1000) :
    Calls Tryz.prog 69 #[.slice (some ⟨bk, o, none⟩) xs.length c, .string ⟨#[32]⟩] w fun e w' => e = .returned (.string ⟨(Lib.join (xs.map (·.data.toList)) [32]).toArray⟩) ∧ Below w.heap.size w w' :=
  Any.strings_Join laysJoin joinExtra bk o c xs ⟨#[32]⟩ w hcells hbk (by omega) hcap (by show (Lib.join _ [32]).length ≤ _; omega)

def Tx.ws (l : List Sl) : List ByteArray := l.map fun s => ⟨(Tx.word s).toArray⟩
theorem Tx.ws_data (l : List Sl) : (Tx.ws l).map (·.data.toList) = l.map Tx.word := by simp [Tx.ws]
theorem Tx.ws_succ {l : List Sl} {k : Nat} {s : Sl} (h : l[k]? = some s) : Tx.ws (l.take (k + 1)) = Tx.ws (l.take k) ++ [⟨(Tx.word s).toArray⟩] := by simp [Tx.ws, List.take_add_one, h]
theorem Tx.ws_len (l : List Sl) : (Tx.ws l).length = l.length := by simp [Tx.ws]

set_option maxHeartbeats 1000000 in
theorem slotsText_any (v : Value) (l : List Sl) (w : World) {lo hi : Nat} (h : Rd Sl.cells 3 w lo hi v l) (hh : hi ≤ w.heap.size) (hg : Sl.good l = true) :
    Calls Tryz.prog 45 #[v] w fun e w' => e = .returned (.string ⟨(Tx.text l).toArray⟩) ∧ Below w.heap.size w w' := by
  have hrd := h
  obtain ⟨A, n, c, rfl, H, hc, hm⟩ := h.form
  have hn4 : n = 4 := by rw [H.out]; exact Sl.good_len hg
  have hn5 : n ≤ 4 := by omega
  have hn6 : 1 ≤ n := by omega
  have HG := Lib.hid hg
  clear hg hn4
  have hb0 := (Below.refl w.heap.size w).alloc (Nat.le_refl _) (.cells #[] 9)
  have hf0 := own_empty w (base := w.heap.size) 9 1 (Nat.le_refl _)
  go_enter Tryz.func45, Tryz.ntmps45
  go_wp2_with fail
  generalize w.alloc _ = w0 at hb0 hf0 ⊢
  go_loopw [3, 10] (fun v3 v4 wr => ∃ (k : Nat), k ≤ n ∧ v4 = .int .i64 k ∧ Below w.heap.size w wr ∧ wr.ownsRow w.heap.size 9 1 v3 k ((Tx.ws (l.take k)).flatMap St.cells)) (fun _ i _ => n - (intOf i).toNat)
  case atStart => exact ⟨0, Nat.zero_le _, rfl, hb0, hf0⟩
  case round =>
    obtain ⟨k, hk, rfl, hbr, hf⟩ := hrel
    have hbs := hbr.size
    by_cases hlt : k < n
    · obtain ⟨b, off, s, rfl, hs, _, hbl, f0, f1, f2⟩ := Sl.get hrd hlt hbr hh
      have hbw : b < wr.heap.size := by omega
      have hf9 := Tx.good_fine HG.out hs.out
      obtain ⟨j, i, p, e0, e1, e2, hj, hi8, hp⟩ := Tx.fine_nat hf9
      have HX := Lib.hid (Tx.ws_succ hs.out)
      rw [e0] at f0
      rw [e1] at f1
      rw [e2] at f2
      have hx := lett_ext' hj
      have g1 : (0 : Int) ≤ (j : Int) := by omega
      have g2 : (j : Int) ≤ (j : Int) + 1 := by omega
      have g3 : (j : Int) + 1 ≤ 4 := by omega
      have g4 : j + 1 ≤ 4 := by omega
      have g5 : ((j : Int) + 1).toNat = j + 1 := by omega
      have gw : IntKind.i64.wrap ((j : Int) + 1) = (j : Int) + 1 := IntWalk.i64_in _ (by omega)
      have hbx := (Below.refl wr.heap.size wr).alloc (Nat.le_refl _) (.cells #[.int .i64 (j : Int), .int .i64 (i : Int), .int .i64 (p : Int)] 34)
      have bx := Box.new wr #[.int .i64 (j : Int), .int .i64 (i : Int), .int .i64 (p : Int)] 34 rfl
      have of1 := hf.alloc (.cells #[.int .i64 (j : Int), .int .i64 (i : Int), .int .i64 (p : Int)] 34)
      by_cases hj0 : j = 0
      · have HE := Lib.hid (show (⟨(Tx.word s).toArray⟩ : ByteArray) = ⟨#[Tx.lett (j : Int)]⟩ from by rw [(Tx.word_zero hf9 (by omega)).1, hj0]; rfl)
        have hjn : ((j : Int) != 0) = false := by rw [hj0]; rfl
        have hjz : (j == 0) = true := by rw [hj0]; rfl
        clear hj0 hf9
        go_upto_region 8 with fail
        generalize wr.alloc _ = w1 at hbx of1 ⊢
        have z1 := hbx.size
        have hb1 := hbr.trans (hbx.mono hbs)
        have oL := of1.alloc (.cells #[.string ⟨#[Tx.lett (j : Int)]⟩] 9)
        go_wp2_with (at_builtin; (refine St.app_one rfl _ _ rfl w.heap.size u3 k _ rfl oL (g := w1.heap.size) (c := 1) ⟨#[Tx.lett (j : Int)]⟩ rfl (fun j u hu => cell_new _ _ _ rfl (by simpa [St.cells] using hu)) (by omega) (by simp; omega) ?_); (intro v8 w8 o8 g8))
        go_roundw
        case rel =>
          refine ⟨k + 1, by omega, by go_num, (hb1.alloc (by omega) (.cells #[.string ⟨#[Tx.lett (j : Int)]⟩] 9)).grown g8 (by simp; omega) (fun q e => (oL.lt q e).1), ?_⟩
          rw [HX.out, HE.out, List.flatMap_append]
          simpa using o8
        case measure => simp [intOf]; omega
      · have hjn : ((j : Int) != 0) = true := by rw [bne_iff_ne]; omega
        obtain ⟨D1, hD1⟩ : ∃ D1 : ByteArray, D1 = ⟨(Lib.decDigits i).toArray⟩ := ⟨_, rfl⟩
        obtain ⟨D2, hD2⟩ : ∃ D2 : ByteArray, D2 = ⟨(Lib.decDigits p).toArray⟩ := ⟨_, rfl⟩
        have d1 : D1.size ≤ 20 := by have := dd_len i; rw [hD1, mk_size]; omega
        have d2 : D2.size ≤ 20 := by have := dd_len p; rw [hD2, mk_size]; omega
        obtain ⟨S1, hS1⟩ : ∃ S1, D1 ++ ByteArray.mk #[58] = S1 := ⟨_, rfl⟩
        obtain ⟨S2, hS2⟩ : ∃ S2, S1 ++ D2 = S2 := ⟨_, rfl⟩
        obtain ⟨S3, hS3⟩ : ∃ S3, ByteArray.mk #[Tx.lett (j : Int)] ++ S2 = S3 := ⟨_, rfl⟩
        have hy1 : S1.size ≤ 21 := by rw [← hS1, ByteArray.size_append]; show D1.size + 1 ≤ 21; omega
        have hy2 : S2.size ≤ 41 := by rw [← hS2, ByteArray.size_append]; omega
        have z3 : D1.size + 1 ≤ 9223372036854775807 := by omega
        have z4 : S1.size + D2.size ≤ 9223372036854775807 := by omega
        have z5 : 1 + S2.size ≤ 9223372036854775807 := by omega
        have HE := Lib.hid (show (⟨(Tx.word s).toArray⟩ : ByteArray) = S3 from by
          rw [← hS3, ← hS2, ← hS1, hD1, hD2, show (ByteArray.mk #[58]) = ByteArray.mk [58].toArray from rfl, show (ByteArray.mk #[Tx.lett (j : Int)]) = ByteArray.mk [Tx.lett (j : Int)].toArray from rfl, mk_app, mk_app, mk_app, Tx.word, if_neg (show ¬ s.state = 0 by omega), e0, e1, e2, ← Tx.dec_eq (n := (i : Int)) (by omega) (by omega), ← Tx.dec_eq (n := (p : Int)) (by omega) (by omega)]
          simp)
        have HD1 := Lib.hid hD1
        have HD2 := Lib.hid hD2
        have hq1 : i < 100 := by omega
        have hq2 : p < 100 := by omega
        clear hD1 hD2 hj0 hf9 hp hi8
        go_upto_region 7 with fail
        generalize wr.alloc _ = w1 at hbx bx of1 ⊢
        have z1 := hbx.size
        have hb1 := hbr.trans (hbx.mono hbs)
        have x0 := bx.cell (j := 0) rfl
        have x1 := bx.cell (j := 1) rfl
        have x2 := bx.cell (j := 2) rfl
        go_quiet (exact Calls.quiet_of_same (itoa_small _ _ (by assumption) (by assumption) _))
        have hb2 := below_drewN hb1 nq
        have of2 : (w1.drewN nq).ownsRow w.heap.size 9 1 u3 k ((Tx.ws (l.take k)).flatMap St.cells) := of1
        have z2 : w1.heap.size ≤ (w1.drewN nq).heap.size := Nat.le_refl _
        generalize w1.drewN nq = w2 at hb2 of2 z2 ⊢
        have oL := of2.alloc (.cells #[.string S3] 9)
        go_wp2_with (at_builtin; (refine St.app_one rfl _ _ rfl w.heap.size u3 k _ rfl oL (g := w2.heap.size) (c := 1) S3 rfl (fun j u hu => cell_new _ _ _ rfl (by simpa [St.cells] using hu)) (by omega) (by simp; omega) ?_); (intro v8 w8 o8 g8))
        go_roundw
        case rel =>
          refine ⟨k + 1, by omega, by go_num, (hb2.alloc (by omega) (.cells #[.string S3] 9)).grown g8 (by simp; omega) (fun q e => (oL.lt q e).1), ?_⟩
          rw [HX.out, HE.out, List.flatMap_append]
          simpa using o8
        case measure => simp [intOf]; omega
    · have hkt : l.take k = l := List.take_of_length_le (by rw [← H.out]; omega)
      rw [hkt] at hf
      have oT := Ow.of_own St.cells_len hf rfl (by rw [Tx.ws_len, ← H.out]; omega)
      have hl5 : (Tx.ws l).length ≤ 4 := by rw [Tx.ws_len, ← H.out]; omega
      have hl6 : 1 ≤ (Tx.ws l).length := by rw [Tx.ws_len, ← H.out]; omega
      obtain ⟨AT_, cT, rfl, hcT, hmT, h3⟩ := oT.rd
      obtain ⟨b, off, rfl, hb1, hb2, h4⟩ := h3 (by omega)
      have hcells : ∀ (j : Nat) x, (Tx.ws l)[j]? = some x → wr.cell? ⟨b, off + j, none⟩ = some (.string x) := fun j x hx => by simpa using h4 j x hx 0 _ rfl
      have c1 := join_any b off cT (Tx.ws l) wr hcells hb2 (by omega) hcT (by
        rw [Tx.ws_data, Tx.join_words]
        have := Tx.text_len (l := l) (fun x hx => Tx.good_fine' HG.out hx)
        have := H.out
        omega)
      rw [Tx.ws_data, Tx.join_words] at c1
      clear h3 h4 hcells hf oT hkt
      go_wp2_with fail
      refine c1.mono ?_; rintro q_ w9 ⟨rfl, b9⟩
      go_wp2_with fail
      go_ret
      exact ⟨rfl, hbr.trans (b9.mono hbs)⟩

end Go.Proofs.YtaggjadgbmmjoaaGreatDoor

/- The texts of slots, the public functions, in the program and in the reference. No condition. -/
namespace Go.Proofs.YtaggjadgbmmjoaaGreatDoor
open Go.RowKit Go.ChangeShapes Go.WideShapes Go.Deep

def Tx.txR (l : List Sl) : ByteArray := if Sl.good l then ⟨(Tx.text l).toArray⟩ else ⟨#[]⟩
theorem Tx.tx_no {l : List Sl} (h : Sl.good l = false) : Tx.txR l = ⟨#[]⟩ := by simp [Tx.txR, h]
theorem Tx.tx_yes {l : List Sl} (h : Sl.good l = true) : Tx.txR l = ⟨(Tx.text l).toArray⟩ := by simp [Tx.txR, h]

theorem specSlotsText_any (v : Value) (l : List Sl) (w : World) {lo hi : Nat} (h : Rd Sl.cells 3 w lo hi v l) (hh : hi ≤ w.heap.size) :
    Calls Tryz.prog 22 #[v] w fun e w' => e = .returned (.tuple #[.string (Tx.txR l), .bool (Sl.good l)]) ∧ Below w.heap.size w w' := by
  have hrd := h
  have c1 := l8Good_any v l w h hh
  have c2 := fun W (k : Below w.heap.size w W) hg => l8Text_any v l W (hrd.below k hh) (Nat.le_trans hh k.size) hg
  obtain ⟨A, n, c, rfl, H, hc, hm⟩ := h.form
  cases hg : Sl.good l
  · rw [hg] at c1
    have HT := Lib.hid (Tx.tx_no hg)
    go_enter Tryz.func22, Tryz.ntmps22
    go_wp2_with fail
    refine c1.mono ?_; rintro q_ w1 ⟨rfl, b1⟩
    go_wp2_with fail
    go_ret2
    exact ⟨by rw [HT.out]; rfl, b1⟩
  · rw [hg] at c1
    have HT := Lib.hid (Tx.tx_yes hg)
    have c2 := fun W k => c2 W k hg
    clear hg
    go_enter Tryz.func22, Tryz.ntmps22
    go_wp2_with fail
    refine c1.mono ?_; rintro q_ w1 ⟨rfl, b1⟩
    go_wp2_with fail
    refine (c2 _ b1).mono ?_; rintro q_ w2 ⟨rfl, m, rfl⟩
    go_wp2_with fail
    go_ret2
    exact ⟨by rw [HT.out]; rfl, below_drewN b1 m⟩
theorem implSlotsText_any (v : Value) (l : List Sl) (w : World) {lo hi : Nat} (h : Rd Sl.cells 3 w lo hi v l) (hh : hi ≤ w.heap.size) :
    Calls Tryz.prog 20 #[v] w fun e w' => e = .returned (.tuple #[.string (Tx.txR l), .bool (Sl.good l)]) ∧ Below w.heap.size w w' := by
  have hrd := h
  have c1 := implAreSlots_any v l w h hh
  have c2 := fun W (k : Below w.heap.size w W) hg => slotsText_any v l W (hrd.below k hh) (Nat.le_trans hh k.size) hg
  obtain ⟨A, n, c, rfl, H, hc, hm⟩ := h.form
  cases hg : Sl.good l
  · rw [hg] at c1
    have HT := Lib.hid (Tx.tx_no hg)
    go_enter Tryz.func20, Tryz.ntmps20
    go_wp2_with fail
    refine c1.mono ?_; rintro q_ w1 ⟨rfl, b1⟩
    go_wp2_with fail
    go_ret2
    exact ⟨by rw [HT.out]; rfl, b1⟩
  · rw [hg] at c1
    have HT := Lib.hid (Tx.tx_yes hg)
    have c2 := fun W k => c2 W k hg
    clear hg
    go_enter Tryz.func20, Tryz.ntmps20
    go_wp2_with fail
    refine c1.mono ?_; rintro q_ w1 ⟨rfl, b1⟩
    go_wp2_with fail
    refine (c2 _ b1).mono ?_; rintro q_ w2 ⟨rfl, b2⟩
    go_wp2_with fail
    go_ret2
    exact ⟨by rw [HT.out]; rfl, b1.trans (b2.mono b1.size)⟩

end Go.Proofs.YtaggjadgbmmjoaaGreatDoor

/- The reference's draw of a text of slots: it returns a text of bounded length, in new memory. No condition. -/
namespace Go.Proofs.YtaggjadgbmmjoaaGreatDoor
open Go.RowKit Go.ChangeShapes Go.WideShapes Go.Deep

theorem Tx.txR_size (l : List Sl) : (Tx.txR l).size ≤ 28 := by
  cases h : Sl.good l
  · rw [Tx.tx_no h]; exact Nat.zero_le _
  · rw [Tx.tx_yes h, mk_size]
    have h1 := Tx.text_len (fun x hx => Tx.good_fine' h hx)
    rw [Sl.good_len h] at h1
    omega

set_option maxRecDepth 8000 in
set_option maxHeartbeats 4000000 in
theorem spoilt_any (g k : Nat) (cv : Value) (l : List UInt8) (w : World) {lo hi : Nat} (h : Rd By.cells 1 w lo hi cv l) (hh : hi ≤ w.heap.size) (hg : g < lo ∨ hi ≤ g) (hc : Cur w g cv k) (hk : k ≤ 100000) (t s : ByteArray) (ht : t.size ≤ 1000) (hs : s.size = 7) :
    Calls Tryz.prog 52 #[.pointer (some ⟨g, 0, none⟩), .string t, .string s] w fun e w' => ∃ T : ByteArray, e = .returned (.string T) ∧ T.size ≤ t.size + 1 ∧ w.grownBy w' (some g) ∧ Cur w' g cv (k + 20) := by
  have hs7 : s.size ≤ 7 := by omega
  have hs8 : 7 ≤ s.size := by omega
  clear hs
  have hgl := hc.lt
  have hG := World.grownBy.refl w (some g)
  by_cases h0 : t.size = 0
  · have hq : t.toList.isEmpty = true := by rw [Lib.toList_data, List.isEmpty_iff]; exact List.length_eq_zero_iff.1 (by rw [← Lib.size_eq]; exact h0)
    have hs1 : (1 : Int) ≤ (s.size : Int) := by omega
    have hs2 : 1 ≤ s.size := by omega
    obtain ⟨T, hT⟩ : ∃ T, s.extract 0 1 = T := ⟨_, rfl⟩
    have hz : T.size ≤ t.size + 1 := by rw [← hT, ByteArray.size_extract]; omega
    clear h0
    go_enter Tryz.func52, Tryz.ntmps52
    go_wp2_with fail
    go_ret
    exact ⟨_, rfl, hz, hG, hc.mono (by omega)⟩
  have hq : t.toList.isEmpty = false := by
    rw [Bool.eq_false_iff]; intro e
    rw [List.isEmpty_iff, Lib.toList_data] at e
    have e3 := Lib.size_eq t
    rw [e] at e3
    exact h0 e3
  go_enter Tryz.func52, Tryz.ntmps52
  go_wp2_with fail
  refine (pick_any g _ _ l (t.size : Int) w h (by omega) hg hc (by omega) (by omega)).mono ?_; rintro q_ w1 ⟨x1, rfl, x1_0, x1_1, gg1, kk1⟩
  clear hc
  replace h := h.grown gg1 (by omega) (fun q e => by injection e with e; omega)
  replace hG := grown_trans hG gg1
  have z_2 := gg1.size
  clear gg1
  go_wp2_with fail
  refine (pick_any g _ _ l (s.size : Int) w1 h (by omega) hg kk1 (by omega) (by omega)).mono ?_; rintro q_ w3 ⟨x2, rfl, x2_0, x2_1, gg3, kk3⟩
  clear kk1
  replace h := h.grown gg3 (by omega) (fun q e => by injection e with e; omega)
  replace hG := grown_trans hG gg3
  have z_4 := gg3.size
  clear gg3
  obtain ⟨i, rfl⟩ : ∃ i : Nat, x1 = i := ⟨x1.toNat, by omega⟩
  obtain ⟨j, rfl⟩ : ∃ j : Nat, x2 = j := ⟨x2.toNat, by omega⟩
  have hi : i < t.size := by omega
  have hj : j < s.size := by omega
  clear x1_0 x1_1 x2_0 x2_1
  obtain ⟨S1, hS1⟩ : ∃ T, s.extract j s.size = T := ⟨_, rfl⟩
  have hS1z : 1 ≤ S1.size := by rw [← hS1, ByteArray.size_extract]; omega
  obtain ⟨S2, hS2⟩ : ∃ T, S1.extract 0 1 = T := ⟨_, rfl⟩
  have hS2z : S2.size ≤ 1 := by rw [← hS2, ByteArray.size_extract]; omega
  have f1 : (0 : Int) ≤ (j : Int) := by omega
  have f2 : (j : Int) ≤ (s.size : Int) := by omega
  have f2n : j ≤ s.size := by omega
  have f3 : (1 : Int) ≤ (S1.size : Int) := by omega
  obtain ⟨P, hP⟩ : ∃ T, t.extract 0 i = T := ⟨_, rfl⟩
  have hPz : P.size = i := by rw [← hP, ByteArray.size_extract]; omega
  obtain ⟨Q, hQ⟩ : ∃ T, t.extract i t.size = T := ⟨_, rfl⟩
  have hQz : Q.size = t.size - i := by rw [← hQ, ByteArray.size_extract]; omega
  obtain ⟨R, hR⟩ : ∃ T, t.extract (i + 1) t.size = T := ⟨_, rfl⟩
  have hRz : R.size = t.size - (i + 1) := by rw [← hR, ByteArray.size_extract]; omega
  obtain ⟨A, hA⟩ : ∃ T, P ++ S2 = T := ⟨_, rfl⟩
  have hAz : A.size ≤ i + 1 := by rw [← hA, ByteArray.size_append]; omega
  obtain ⟨B, hB⟩ : ∃ T, A ++ Q = T := ⟨_, rfl⟩
  have hBz : B.size ≤ t.size + 1 := by rw [← hB, ByteArray.size_append]; omega
  obtain ⟨C, hC⟩ : ∃ T, A ++ R = T := ⟨_, rfl⟩
  have hCz : C.size ≤ t.size + 1 := by rw [← hC, ByteArray.size_append]; omega
  obtain ⟨D, hD⟩ : ∃ T, P ++ R = T := ⟨_, rfl⟩
  have hDz : D.size ≤ t.size + 1 := by rw [← hD, ByteArray.size_append]; omega
  have k1 : P.size + S2.size ≤ 9223372036854775807 := by omega
  have k2 : A.size + Q.size ≤ 9223372036854775807 := by omega
  have k3 : A.size + R.size ≤ 9223372036854775807 := by omega
  have k4 : P.size + R.size ≤ 9223372036854775807 := by omega
  have f4 : (0 : Int) ≤ (i : Int) := by omega
  have f5 : (i : Int) ≤ (t.size : Int) := by omega
  have f5n : i ≤ t.size := by omega
  have f6 : (i : Int) + 1 ≤ (t.size : Int) := by omega
  have f6n : i + 1 ≤ t.size := by omega
  have f7 : (0 : Int) ≤ (i : Int) + 1 := by omega
  have f8 : ((i : Int) + 1).toNat = i + 1 := by omega
  have f9 : IntKind.i64.wrap ((i : Int) + 1) = (i : Int) + 1 := IntWalk.i64_in _ (by omega)
  clear hPz hQz hRz hAz h0
  go_wp2_with fail
  refine (pick_any g _ _ l 3 w3 h (by omega) hg kk3 (by omega) (by omega)).mono ?_; rintro q_ w5 ⟨x3, rfl, x3_0, x3_1, gg5, kk5⟩
  clear kk3
  replace h := h.grown gg5 (by omega) (fun q e => by injection e with e; omega)
  replace hG := grown_trans hG gg5
  have z_6 := gg5.size
  clear gg5
  rcases (show x3 = 0 ∨ x3 = 1 ∨ x3 = 2 by omega) with rfl | rfl | rfl
  · clear x3_0 x3_1
    go_wp2_with fail
    go_quiet (fail)
    go_wp2_with fail
    go_ret
    exact ⟨_, rfl, hBz, grown_drewN hG _, (kk5.grown0 (grown_below (below_drewN (Below.refl _ _) _))).mono (by omega)⟩
  · clear x3_0 x3_1
    go_wp2_with fail
    go_quiet (fail)
    go_wp2_with fail
    go_ret
    exact ⟨_, rfl, hCz, grown_drewN hG _, (kk5.grown0 (grown_below (below_drewN (Below.refl _ _) _))).mono (by omega)⟩
  · clear x3_0 x3_1
    go_wp2_with fail
    go_quiet (fail)
    go_wp2_with fail
    go_ret
    exact ⟨_, rfl, hDz, grown_drewN hG _, (kk5.grown0 (grown_below (below_drewN (Below.refl _ _) _))).mono (by omega)⟩
set_option maxRecDepth 8000 in
set_option maxHeartbeats 4000000 in
theorem DrawParseSlots_any (cv : Value) (l : List UInt8) (w : World) {lo hi : Nat} (h : Rd By.cells 1 w lo hi cv l) (hh : hi ≤ w.heap.size) :
    Calls Tryz.prog 23 #[cv] w fun e w' => ∃ T : ByteArray, e = .returned (.string T) ∧ T.size ≤ 1048576 ∧ Below w.heap.size w w' := by
  obtain ⟨Ac, nc, cc, rfl, _, _, _⟩ := h.form
  go_enter Tryz.func23, Tryz.ntmps23
  go_wp2_with fail
  have bx := Box.new w #[.slice Ac nc cc, .int .i64 0, .int .u64 0] 53 rfl
  have hB := (Below.refl w.heap.size w).alloc (Nat.le_refl _) (.cells #[.slice Ac nc cc, .int .i64 0, .int .u64 0] 53)
  have za : (w.alloc (.cells #[.slice Ac nc cc, .int .i64 0, .int .u64 0] 53)).heap.size = w.heap.size + 1 := by simp
  have hc : Cur (w.alloc (.cells #[.slice Ac nc cc, .int .i64 0, .int .u64 0] 53)) w.heap.size (.slice Ac nc cc) 0 := ⟨0, 0, Nat.le_refl _, Lib.hid (by unfold U64; omega), bx⟩
  have hg : w.heap.size < lo ∨ hi ≤ w.heap.size := .inr hh
  replace h := h.below hB hh
  clear bx
  generalize w.alloc _ = w0 at *
  generalize hgg : w.heap.size = g at *
  have HG := Lib.hid hgg
  clear hgg
  refine (slots_any g _ _ l w0 h (by omega) hg hc (by omega)).mono ?_; rintro q_ w1 ⟨v1, l1, rfl, n1, d1, o1, gg1, kk1⟩
  clear hc
  replace h := h.grown gg1 (by omega) (fun q e => by injection e with e; omega)
  replace hB := hB.grown gg1 (by omega) (fun q e => by injection e with e; omega)
  have z_2 := gg1.size
  clear gg1
  go_wp2_with fail
  refine (specSlotsText_any v1 l1 w1 o1.rd (by omega)).mono ?_; rintro q_ w3 ⟨rfl, bb3⟩
  have gb3 := grown_below bb3
  clear bb3
  replace kk1 := kk1.grown0 gb3
  replace h := h.grown gb3 (by omega) (fun q e => by cases e)
  replace o1 := o1.apart gb3 (fun q e => by cases e)
  replace hB := hB.grown gb3 (by omega) (fun q e => by cases e)
  have z_4 := gb3.size
  clear gb3
  obtain ⟨t, ht⟩ : ∃ t, Tx.txR l1 = t := ⟨_, rfl⟩
  have hts : t.size ≤ 28 := by rw [← ht]; exact Tx.txR_size l1
  rw [ht]
  clear ht o1
  go_wp2_with fail
  refine (one_any g _ _ l 4 w3 h (by omega) hg kk1 (by omega) (by omega)).mono ?_; rintro q_ w5 ⟨b2, rfl, gg5, kk5⟩
  clear kk1
  replace h := h.grown gg5 (by omega) (fun q e => by injection e with e; omega)
  replace hB := hB.grown gg5 (by omega) (fun q e => by injection e with e; omega)
  have z_6 := gg5.size
  clear gg5
  cases b2
  · go_wp2_with fail
    go_ret
    exact ⟨_, rfl, by omega, by rw [HG.out]; exact hB⟩
  · go_wp2_with fail
    refine (spoilt_any g _ _ l w5 h (by omega) hg kk5 (by omega) t ⟨#[49, 32, 58, 45, 112, 97, 98]⟩ (by omega) rfl).mono ?_; rintro q_ w7 ⟨T, rfl, hT, gg7, kk7⟩
    clear kk5
    replace h := h.grown gg7 (by omega) (fun q e => by injection e with e; omega)
    replace hB := hB.grown gg7 (by omega) (fun q e => by injection e with e; omega)
    have z_8 := gg7.size
    clear gg7
    go_wp2_with fail
    go_ret
    exact ⟨_, rfl, by omega, by rw [HG.out]; exact hB⟩

end Go.Proofs.YtaggjadgbmmjoaaGreatDoor

/- A law's own comparison of two lists that read the same: it says so. No condition. -/
namespace Go.Proofs.YtaggjadgbmmjoaaGreatDoor
open Go.RowKit Go.ChangeShapes Go.WideShapes Go.Deep

theorem Sl.v_same (v1 v2 : Value) (l : List Sl) (w : World) {lo1 hi1 lo2 hi2 : Nat} (h1 : Rd Sl.cells 3 w lo1 hi1 v1 l) (h2 : Rd Sl.cells 3 w lo2 hi2 v2 l) (hh1 : hi1 ≤ w.heap.size) (hh2 : hi2 ≤ w.heap.size) :
    Calls Tryz.prog 8 #[v1, v2] w fun e w' => e = .returned (.bool true) ∧ Below w.heap.size w w' := by
  obtain ⟨A, n, c, rfl, H, hc, hm⟩ := h1.form
  obtain ⟨A2, n2, c2, rfl, H2, hc2, hm2⟩ := h2.form
  obtain rfl : n = n2 := by rw [H.out, H2.out]
  have hnd : ((n : Int) != (n : Int)) = false := by simp
  clear H H2
  go_enter Tryz.func8, Tryz.ntmps8
  go_wp2_with fail
  go_loopw [5] (fun i wr => ∃ k : Nat, k ≤ n ∧ i = .int .i64 k ∧ Below w.heap.size w wr) (fun i _ => n - (intOf i).toNat)
  case atStart => exact ⟨0, Nat.zero_le _, rfl, Below.refl _ _⟩
  case round =>
    obtain ⟨k, hk, rfl, hb⟩ := hrel
    by_cases hlt : k < n
    · obtain ⟨b, off, t, rfl, hx, _, _, f0, f1, f2⟩ := Sl.get h1 hlt hb hh1
      obtain ⟨b2, off2, t2, rfl, hy, _, _, g0, g1, g2⟩ := Sl.get h2 hlt hb hh2
      obtain rfl := Option.some.inj (hx.out.symm.trans hy.out)
      have hki : (k : Int) < (n : Int) := by omega
      clear hx hy
      go_wp2_with fail
      go_quiet (fail)
      go_wp2_with fail
      go_roundw
      case rel => exact ⟨k + 1, by omega, by go_num, below_drewN hb _⟩
      case measure => simp [intOf]; omega
    · go_wp2_with fail
      go_ret
      exact ⟨rfl, hb⟩

end Go.Proofs.YtaggjadgbmmjoaaGreatDoor

/- The plain laws' own helpers over numbers: whether two lists that read the same are the same, whether a number is in a list, whether a code is long. No condition. -/
namespace Go.Proofs.YtaggjadgbmmjoaaGreatDoor
open Go.RowKit Go.ChangeShapes Go.WideShapes Go.Deep

theorem vHas_any (v : Value) (l : List Int) (x : Int) (w : World) {lo hi : Nat} (h : Rd Nm.cells 1 w lo hi v l) (hh : hi ≤ w.heap.size) :
    Calls Tryz.prog 16 #[v, .int .i64 x] w fun e w' => e = .returned (.bool (l.contains x)) ∧ w = w' := by
  obtain ⟨A, n, c, rfl, H, hc, hm⟩ := h.form
  go_enter Tryz.func16, Tryz.ntmps16
  go_wp2_with fail
  go_loop [5] (fun j => ∃ m : Nat, m ≤ n ∧ j = .int .i64 m ∧ (l.take m).contains x = false) (fun j => n - (intOf j).toNat)
  case atStart => exact ⟨0, Nat.zero_le _, rfl, by simp⟩
  case round =>
    obtain ⟨m, hk, rfl, hs⟩ := hrel
    have HS := Lib.hid hs
    clear hs
    by_cases hlt : m < n
    · obtain ⟨b, off, y, rfl, hy, _, hbl, f0⟩ := Nm.get h hlt (Below.refl w.heap.size w) hh
      by_cases hxy : y = x
      · have HF := Lib.hid (show l.contains x = true from by rw [List.contains_iff_mem]; rw [← hxy]; exact List.mem_of_getElem? hy.out)
        rw [hxy] at f0
        clear hxy
        go_wp2_with fail
        go_ret
        have := HF.out
        rw [List.contains_eq_mem] at this
        exact ⟨ret_bool this.symm, rfl⟩
      · have HF := Lib.hid (show (l.take (m + 1)).contains x = false from by
          rw [List.take_add_one, hy.out]
          have := HS.out
          simp only [List.contains_eq_mem, decide_eq_false_iff_not] at this ⊢
          simp [this, Ne.symm hxy])
        go_wp2_with fail
        go_round
        case rel => exact ⟨m + 1, by omega, by go_num, HF.out⟩
        case measure => simp [intOf]; omega
    · go_wp2_with fail
      go_ret
      have := HS.out
      rw [List.take_of_length_le (by rw [← H.out]; omega), List.contains_eq_mem] at this
      exact ⟨ret_bool this.symm, rfl⟩
theorem vBig_any (v : Value) (l : List UInt8) (w : World) {lo hi : Nat} (h : Rd By.cells 1 w lo hi v l) : Calls Tryz.prog 4 #[v] w fun e w' => e = .returned (.bool (decide (65536 < l.length))) ∧ w = w' := by
  obtain ⟨A, n, c, rfl, H, hc, hm⟩ := h.form
  have HN := H
  go_enter Tryz.func4, Tryz.ntmps4
  go_wp2_with fail
  go_ret
  exact ⟨ret_bool (by rw [← HN.out]; apply decide_eq_decide.2; omega), rfl⟩

end Go.Proofs.YtaggjadgbmmjoaaGreatDoor

/- What 'best' finds among slots, when a queue is settled, and that taking keeps it so, in plain terms. No condition. -/
namespace Go.Proofs.YtaggjadgbmmjoaaGreatDoor

theorem Sl.bt_trans {most : Bool} {a b c : Sl} (h : Sl.bt most a b = true) (k : Sl.bt most b c = true) : Sl.bt most a c = true := by
  cases most
  · simp [Sl.bt] at *
    exact Wt.lt_trans k h
  · simp [Sl.bt] at *
    exact Wt.lt_trans h k
theorem Sl.bt_irrefl (most : Bool) (a : Sl) : Sl.bt most a a = false := by cases most <;> simp [Sl.bt, Wt.lt_irrefl]
theorem Sl.best_none (most : Bool) (l : List Sl) : ∀ k : Nat, k ≤ l.length → Sl.best most l k = -1 → ∀ (j : Nat) (u : Sl), j < k → l[j]? = some u → ¬ u.state = 1
  | 0, _, _, j, u, hj, _ => absurd hj (by omega)
  | k + 1, hk, h, j, u, hj, hu => by
    obtain ⟨s, hs⟩ : ∃ s, l[k]? = some s := ⟨_, List.getElem?_eq_getElem (show k < l.length by omega)⟩
    rw [Sl.best_succ hs] at h
    by_cases hb : Sl.bestIf most l (Sl.best most l k) s = true
    · rw [if_pos hb] at h; omega
    · rw [if_neg hb] at h
      have ih := Sl.best_none most l k (by omega) h
      rcases Nat.lt_or_ge j k with hjk | hjk
      · exact ih j u hjk hu
      · obtain rfl : j = k := by omega
        rw [hs] at hu
        injection hu with hu
        subst hu
        intro e
        apply hb
        simp [Sl.bestIf, e, h]
theorem Sl.best_top (most : Bool) (l : List Sl) : ∀ k : Nat, k ≤ l.length → ∀ (i : Nat) (s : Sl), Sl.best most l k = i → l[i]? = some s → ∀ (j : Nat) (u : Sl), j < k → l[j]? = some u → u.state = 1 → Sl.bt most u s = false
  | 0, _, _, _, _, _, j, u, hj, _, _ => absurd hj (by omega)
  | k + 1, hk, i, x, h, hx, j, u, hj, hu, hst => by
    obtain ⟨s, hs⟩ : ∃ s, l[k]? = some s := ⟨_, List.getElem?_eq_getElem (show k < l.length by omega)⟩
    rw [Sl.best_succ hs] at h
    have ih := Sl.best_top most l k (by omega)
    by_cases hb : Sl.bestIf most l (Sl.best most l k) s = true
    · rw [if_pos hb] at h
      obtain rfl : i = k := by omega
      rw [hs] at hx
      injection hx with hx
      subst hx
      rcases Nat.lt_or_ge j i with hji | hji
      · rcases Sl.best_bd most l i (by omega) with h1 | ⟨j1, u1, h1, h2, h3, h4⟩
        · exact absurd hst (Sl.best_none most l i (by omega) h1 j u hji hu)
        · have h5 := ih j1 u1 h1 h3 j u hji hu hst
          simp only [Sl.bestIf, h1, Bool.and_eq_true, Bool.or_eq_true, decide_eq_true_eq] at hb
          obtain ⟨_, h6 | h6⟩ := hb
          · omega
          · rw [show l.getD (j1 : Int).toNat default = u1 from by simp [h3]] at h6
            cases h7 : Sl.bt most u s
            · rfl
            · rw [Sl.bt_trans h7 h6] at h5; exact absurd h5 (by decide)
      · obtain rfl : j = i := by omega
        rw [hs] at hu
        injection hu with hu
        subst hu
        exact Sl.bt_irrefl most s
    · rw [if_neg hb] at h
      rcases Nat.lt_or_ge j k with hjk | hjk
      · exact ih i x h hx j u hjk hu hst
      · obtain rfl : j = k := by omega
        rw [hs] at hu
        injection hu with hu
        subst hu
        cases h7 : Sl.bt most s x
        · rfl
        · exfalso
          apply hb
          simp [Sl.bestIf, hst, h, hx, h7]
theorem Sl.bx_top {l : List Sl} {k : Nat} {s u : Sl} (h : Sl.bx l = k) (hs : l[k]? = some s) (hu : u ∈ l) (h1 : u.state = 1) : u.wt.lt s.wt = false := by
  obtain ⟨j, hj⟩ := List.getElem?_of_mem hu
  have := Sl.best_top true l l.length (Nat.le_refl _) k s h hs j u (List.getElem?_eq_some_iff.1 hj).1 hj h1
  simpa [Sl.bt] using this
theorem Sl.tkOk_get {ls : List Sl} {m : Int} (h : Sl.tkOk ls m = true) : ∃ (k : Nat) (s : Sl), Sl.bx ls = k ∧ k < ls.length ∧ ls[k]? = some s ∧ s.state = 1 ∧ s.prio < m ∧ Sl.tkS ls = ls.set k (Sl.act s) ∧ Sl.tkI ls = s.irq := by
  simp only [Sl.tkOk, Bool.and_eq_true, decide_eq_true_eq] at h
  obtain ⟨h1, h2⟩ := h
  rcases Sl.bx_cases ls with hb | ⟨k, s, hb, hk, hs, hst⟩
  · omega
  · rw [hb, Sl.at_get hs] at h2
    exact ⟨k, s, hb, hk, hs, hst, h2, by rw [Sl.tkS, hb, Sl.at_get hs]; rfl, by rw [Sl.tkI, hb, Sl.at_get hs]⟩
end Go.Proofs.YtaggjadgbmmjoaaGreatDoor

/- The slots' plain laws in plain terms: ending, evicting and putting back. No condition. -/
namespace Go.Proofs.YtaggjadgbmmjoaaGreatDoor

theorem countP_set_ (p : Sl → Bool) : ∀ {ls : List Sl} {k : Nat} {s x : Sl}, ls[k]? = some s → (ls.set k x).countP p + (if p s then 1 else 0) = ls.countP p + (if p x then 1 else 0)
  | [], k, s, x, h => by simp at h
  | y :: ls, 0, s, x, h => by
    simp at h; subst h
    simp only [List.set_cons_zero, List.countP_cons]; omega
  | y :: ls, k + 1, s, x, h => by
    have ih := countP_set_ p (ls := ls) (k := k) (s := s) (x := x) (by simpa using h)
    simp only [List.set_cons_succ, List.countP_cons]; omega
theorem inB_of {x a b : Int} (h : a ≤ x ∧ x ≤ b) : inB x a b = true := by rw [inB_iff]; omega
theorem Sl.fine_used {s : Sl} (h : s.fine) (h0 : ¬ s.state = 0) : (1 ≤ s.state ∧ s.state ≤ 3) ∧ (0 ≤ s.irq ∧ s.irq ≤ 7) ∧ (0 ≤ s.prio ∧ s.prio ≤ 15) := by
  unfold Sl.fine at h; rwa [if_neg h0] at h
theorem Sl.fs_at {l : List Sl} (h : Sl.good l = true) {k : Nat} {s : Sl} (hs : l[k]? = some s) (h0 : ¬ s.state = 0) : Sl.fsOk l s.irq = true ∧ Sl.fsV l s.irq = k := by
  have h1 := Sl.ix_of h hs h0
  have h2 := (Sl.fine_used (Sl.good_fine h hs) h0).2.1
  have : Sl.fsOk l s.irq = true := by simp [Sl.fsOk, Sl.gI, h, inB_of h2, h1]
  exact ⟨this, by rw [Sl.fsV, if_pos this, h1]⟩
theorem Sl.good_zero {l : List Sl} (h : Sl.good l = true) (k : Nat) : Sl.good (l.set k ⟨0, 0, 0⟩) = true := Sl.good_set h Sl.fine_zero (fun hx => absurd rfl hx)
theorem Sl.set_get {l : List Sl} {k : Nat} (h : k < l.length) (x : Sl) : (l.set k x)[k]? = some x := by rw [List.getElem?_set, if_pos rfl, if_pos h]
end Go.Proofs.YtaggjadgbmmjoaaGreatDoor

/- The slots' plain law 'FnSlots' in plain terms: putting and taking. No condition. -/
namespace Go.Proofs.YtaggjadgbmmjoaaGreatDoor

theorem Sl.pOk_get {l : List Sl} {i p : Int} (h : Sl.pOk l i p = true) : ∃ (k : Nat) (s : Sl), k < (Sl.pR l i p).length ∧ (Sl.pR l i p)[k]? = some s ∧ (s.state = 1 ∨ s.state = 3) ∧ Sl.fsOk (Sl.pR l i p) i = true ∧ Sl.fsV (Sl.pR l i p) i = k := by
  simp only [Sl.pOk, Bool.and_eq_true] at h
  obtain ⟨hg, hk⟩ := h
  have hR : Sl.pR l i p = Sl.putR l i p := by simp [Sl.pR, hg]
  simp only [Sl.gIP, Bool.and_eq_true, inB_iff] at hg
  have hgood := Sl.good_put hg.1 hg.2.1 hg.2.2 hk
  rw [hR]
  have key : ∃ (k : Nat) (s : Sl), k < (Sl.putR l i p).length ∧ (Sl.putR l i p)[k]? = some s ∧ (s.state = 1 ∨ s.state = 3) ∧ s.irq = i := by
    by_cases hx : 0 ≤ Sl.ix l i
    · obtain ⟨k, s, hk, hkl, hs, h0, h1⟩ := Sl.ix_hit hx
      rw [(Sl.put_hit hk hs).2]
      refine ⟨k, Sl.both s, by rw [List.length_set]; exact hkl, Sl.set_get hkl _, ?_, ?_⟩
      · have h2 := (Sl.fine_used (Sl.good_fine hg.1 hs) h0).1
        unfold Sl.both
        by_cases h3 : s.state = 2
        · rw [if_pos h3]; exact .inr rfl
        · rw [if_neg h3]; omega
      · unfold Sl.both; split <;> exact h1
    · have hix : Sl.ix l i = -1 := by
        rcases find_cases (Sl.has i) l with h1 | ⟨k, s, h1, _⟩
        · exact h1.1
        · change Sl.ix l i = k at h1; omega
      rcases find_cases Sl.free l with h1 | ⟨k, s, h1, hkl, hs, hf⟩
      · have h1 : Sl.fx l = -1 := h1.1
        rw [(Sl.put_no (p := p) hix h1).1] at hk; cases hk
      · have h1 : Sl.fx l = k := h1
        rw [(Sl.put_new hix h1).2]
        exact ⟨k, ⟨1, i, p⟩, by rw [List.length_set]; exact hkl, Sl.set_get hkl _, .inl rfl, rfl⟩
  obtain ⟨k, s, h1, h2, h3, h4⟩ := key
  have h5 := Sl.fs_at hgood h2 (by omega)
  rw [h4] at h5
  exact ⟨k, s, h1, h2, h3, h5⟩

theorem Sl.active_count {l : List Sl} (hg : Sl.good l = true) : (Sl.active l).length = l.countP Sl.isAct := by
  rw [← Sl.active_eq hg, sortK_len, Sl.acts, List.length_map, List.countP_eq_length_filter]
/-- what taking gives, in all that the law asks -/
theorem Sl.ttOk_get {l : List Sl} {m : Int} (h : Sl.ttOk l m = true) : ∃ (k : Nat) (s : Sl), k < l.length ∧ l[k]? = some s ∧ s.state = 1 ∧ Sl.good l = true ∧ Sl.ttR l m = l.set k (Sl.act s) ∧ Sl.ttV l m = s.irq ∧ s.prio < m ∧ (∀ u ∈ l, u.state = 1 → u.wt.lt s.wt = false) ∧
    Sl.good (l.set k (Sl.act s)) = true ∧ Sl.fsOk (l.set k (Sl.act s)) s.irq = true ∧ Sl.fsV (l.set k (Sl.act s)) s.irq = k ∧ s.irq ∈ Sl.actR (l.set k (Sl.act s)) ∧ (Sl.actR (l.set k (Sl.act s))).length = (Sl.actR l).length + 1 ∧
    Sl.eOk (l.set k (Sl.act s)) s.irq = true ∧ Sl.good (Sl.eR (l.set k (Sl.act s)) s.irq) = true ∧ Sl.emp (Sl.eR (l.set k (Sl.act s)) s.irq) = Sl.emp l + 1 := by
  have h' := h
  simp only [Sl.ttOk, Bool.and_eq_true] at h'
  obtain ⟨⟨hg, _⟩, hk⟩ := h'
  obtain ⟨k, s, hb, hkl, hs, hst, hp, e1, e2⟩ := Sl.tkOk_get hk
  have hR : Sl.ttR l m = l.set k (Sl.act s) := by rw [Sl.ttR, if_pos h, e1]
  have hV : Sl.ttV l m = s.irq := by rw [Sl.ttV, if_pos h, e2]
  obtain ⟨hq1, hq2, hq3⟩ := Sl.fine_used (Sl.good_fine hg hs) (by omega)
  have hfine : (Sl.act s).fine := by
    unfold Sl.fine
    rw [if_neg (show ¬ (Sl.act s).state = 0 by simp [Sl.act])]
    exact ⟨by simp [Sl.act], hq2, hq3⟩
  have hgood : Sl.good (l.set k (Sl.act s)) = true := Sl.good_set hg hfine (fun _ j u hj hu hu0 => by
    have := Sl.good_two hg hj hu hs hu0 (by omega)
    exact this)
  have hget := Sl.set_get hkl (Sl.act s)
  obtain ⟨hf1, hf2⟩ := Sl.fs_at hgood hget (by simp [Sl.act])
  have hix := Sl.ix_of hgood hget (by simp [Sl.act])
  obtain ⟨he1, he2⟩ := Sl.end_hit hix hget (by simp [Sl.act])
  have hgi : Sl.gI (l.set k (Sl.act s)) s.irq = true := by simp [Sl.gI, hgood, inB_of hq2]
  have heR : Sl.eR (l.set k (Sl.act s)) s.irq = l.set k ⟨0, 0, 0⟩ := by
    rw [Sl.eR, if_pos hgi]
    refine he2.trans ?_
    rw [List.set_set]; rfl
  have heG := Sl.good_zero hg k
  have hc1 := countP_set_ Sl.isAct (x := Sl.act s) hs
  have hc2 := countP_set_ Sl.free (x := ⟨0, 0, 0⟩) hs
  simp only [Sl.isAct, Sl.act, Sl.free, hst] at hc1 hc2
  refine ⟨k, s, hkl, hs, hst, hg, hR, hV, hp, fun u hu hu1 => Sl.bx_top hb hs hu hu1, hgood, hf1, hf2, ?_, ?_, ?_, ?_, ?_⟩
  · rw [Sl.actR, if_pos hgood]
    exact (accL_mem (p := Sl.isAct) (f := Sl.irq) _ _).2 ⟨Sl.act s, List.mem_of_getElem? hget, rfl, rfl⟩
  · rw [Sl.actR, if_pos hgood, Sl.actR, if_pos hg, Sl.active_count hgood, Sl.active_count hg]
    simp at hc1
    exact hc1
  · simp only [Sl.eOk, hgi, Bool.true_and]; exact he1
  · rw [heR]; exact heG
  · rw [heR, Sl.emp, if_pos heG, Sl.emp, if_pos hg]
    simp at hc2
    have h9 : (l.set k ⟨0, 0, 0⟩).countP Sl.free = l.countP Sl.free + 1 := hc2
    rw [h9]; omega

end Go.Proofs.YtaggjadgbmmjoaaGreatDoor

/- The parts of a text between bytes, in the reference. Condition: at most 1048576 bytes. -/
namespace Go.Proofs.YtaggjadgbmmjoaaGreatDoor
open Go.RowKit Go.ChangeShapes Go.WideShapes Go.Deep

theorem Tx.drop_at {b : UInt8} {L : List UInt8} {fr i : Nat} (hf : fr ≤ i) (hi : L[i]? = some b) (hn : ∀ c ∈ (L.drop fr).take (i - fr), ¬ c = b) : Tx.split b (L.drop fr) = (L.drop fr).take (i - fr) :: Tx.split b (L.drop (i + 1)) := by
  have hl := (List.getElem?_eq_some_iff.1 hi).1
  have e : L.drop fr = (L.drop fr).take (i - fr) ++ b :: L.drop (i + 1) := by
    conv => lhs; rw [← List.take_append_drop (i - fr) (L.drop fr)]
    rw [List.drop_drop, show fr + (i - fr) = i by omega, List.drop_eq_getElem_cons hl]
    congr 2
    exact Option.some.inj ((List.getElem?_eq_getElem hl).symm.trans hi)
  conv => lhs; rw [e]
  exact Tx.split_app hn _
theorem Tx.take_more {b x : UInt8} {L : List UInt8} {fr i : Nat} (hf : fr ≤ i) (hi : L[i]? = some x) (hx : ¬ x = b) (hn : ∀ c ∈ (L.drop fr).take (i - fr), ¬ c = b) : ∀ c ∈ (L.drop fr).take (i + 1 - fr), ¬ c = b := by
  intro c hc
  rw [show i + 1 - fr = (i - fr) + 1 by omega, List.take_add_one, List.mem_append] at hc
  rcases hc with hc | hc
  · exact hn c hc
  · rw [List.getElem?_drop, show fr + (i - fr) = i by omega, hi] at hc
    simp at hc
    rw [hc]; exact hx

set_option maxHeartbeats 2000000 in
theorem l1Split_any (s : ByteArray) (b : UInt8) (w : World) (hs : s.size ≤ 1048576) :
    Calls Tryz.prog 53 #[.string s, .int .u8 b.toNat] w fun e w' => ∃ v, ∃ outs : List ByteArray, e = .returned v ∧ outs.length ≤ 1048577 ∧ Hid (outs.map (·.data.toList) = Tx.split b s.data.toList) ∧ Ow St.cells 1 9 w' w.heap.size w'.heap.size v outs ∧ Below w.heap.size w w' := by
  have hb0 := (Below.refl w.heap.size w).alloc (Nat.le_refl _) (.cells #[] 9)
  have hf0 := own_empty w (base := w.heap.size) 9 1 (Nat.le_refl _)
  have hsz := Lib.size_eq s
  go_enter Tryz.func53, Tryz.ntmps53
  go_wp2_with fail
  generalize w.alloc _ = w0 at hb0 hf0 ⊢
  go_loopw [5, 6, 7] (fun v5 v6 v7 wr => ∃ (i fr : Nat) (outs : List ByteArray), fr ≤ i ∧ i ≤ s.size ∧ v7 = .int .i64 i ∧ v6 = .int .i64 fr ∧ outs.length ≤ i ∧ Hid (Tx.split b s.data.toList = outs.map (·.data.toList) ++ Tx.split b (s.data.toList.drop fr)) ∧ Hid (∀ c ∈ (s.data.toList.drop fr).take (i - fr), ¬ c = b) ∧ Below w.heap.size w wr ∧ wr.ownsRow w.heap.size 9 1 v5 outs.length (outs.flatMap St.cells)) (fun _ _ i _ => s.size - (intOf i).toNat)
  case atStart => exact ⟨0, 0, [], Nat.le_refl _, Nat.zero_le _, rfl, rfl, Nat.le_refl _, Lib.hid (by simp), Lib.hid (by simp), hb0, hf0⟩
  case round =>
    obtain ⟨i, fr, outs, hfi, hin, rfl, rfl, ho, HS, HN, hbr, hf⟩ := hrel
    have hbs := hbr.size
    have HZ := Lib.hid hsz
    clear hsz
    by_cases hlt : i < s.size
    · have hx : s.data.toList[i]? = some (s[i]'hlt) := by
        rw [List.getElem?_eq_getElem (by rw [← HZ.out]; exact hlt)]; rfl
      have HX := Lib.hid hx
      clear hx
      generalize hc : s[i]'hlt = x at *
      by_cases hxb : x = b
      · subst hxb
        have hfs : (fr : Int) ≤ (i : Int) := by omega
        have his : (i : Int) ≤ (s.size : Int) := by omega
        have HE := Lib.hid (show Tx.split x s.data.toList = (outs ++ [s.extract fr i]).map (·.data.toList) ++ Tx.split x (s.data.toList.drop (i + 1)) from by
          rw [HS.out, Tx.drop_at hfi HX.out HN.out]
          simp)
        have oL := hf.alloc (.cells #[.string (s.extract fr i)] 9)
        go_wp2_with (at_builtin; (refine St.app_one rfl _ _ rfl w.heap.size u5 outs.length _ rfl oL (g := wr.heap.size) (c := 1) (s.extract fr i) rfl (fun j u hu => cell_new _ _ _ rfl (by simpa [St.cells] using hu)) (by omega) (by simp; omega) ?_); (intro v8 w8 o8 g8))
        go_roundw
        case rel =>
          refine ⟨i + 1, i + 1, outs ++ [s.extract fr i], Nat.le_refl _, by omega, by go_num, by go_num, by simp; omega, HE, Lib.hid (by simp), (hbr.alloc hbs (.cells #[.string (s.extract fr i)] 9)).grown g8 (by simp; omega) (fun q e => (oL.lt q e).1), ?_⟩
          rw [List.flatMap_append, List.length_append]
          simpa using o8
        case measure => simp [intOf]; omega
      · have hne : ((x.toNat : Int) == (b.toNat : Int)) = false := by
          rw [beq_eq_false_iff_ne]
          intro e
          exact hxb (UInt8.toNat_inj.1 (by omega))
        have HN2 := Lib.hid (Tx.take_more hfi HX.out hxb HN.out)
        clear hxb
        go_wp2_with fail
        go_roundw
        case rel => exact ⟨i + 1, fr, outs, by omega, by omega, by go_num, rfl, by omega, HS, HN2, hbr, hf⟩
        case measure => simp [intOf]; omega
    · have hfs : (fr : Int) ≤ (s.size : Int) := by omega
      have hfs2 : fr ≤ s.size := by omega
      have HE := Lib.hid (show (outs ++ [s.extract fr s.size]).map (·.data.toList) = Tx.split b s.data.toList from by
        rw [HS.out, Tx.split_one (u := s.data.toList.drop fr) (fun c hc => HN.out c (by rw [List.take_of_length_le (by rw [List.length_drop, ← HZ.out]; omega)]; exact hc))]
        simp only [List.map_append, List.map_cons, List.map_nil, Lib.extract_data]
        rw [List.take_of_length_le (by rw [List.length_drop, ← HZ.out]; omega)])
      have oL := hf.alloc (.cells #[.string (s.extract fr s.size)] 9)
      go_wp2_with (at_builtin; (refine St.app_one rfl _ _ rfl w.heap.size u5 outs.length _ rfl oL (g := wr.heap.size) (c := 1) (s.extract fr s.size) rfl (fun j u hu => cell_new _ _ _ rfl (by simpa [St.cells] using hu)) (by omega) (by simp; omega) ?_); (intro v8 w8 o8 g8))
      go_ret
      have oT : Ow St.cells 1 9 w8 w.heap.size w8.heap.size v8 (outs ++ [s.extract fr s.size]) := Ow.of_own St.cells_len o8 (by rw [List.flatMap_append]; simp) (by simp)
      exact ⟨_, _, rfl, by rw [List.length_append]; simp; omega, HE, oT, (hbr.alloc hbs (.cells #[.string (s.extract fr s.size)] 9)).grown g8 (by simp; omega) (fun q e => (oL.lt q e).1)⟩

end Go.Proofs.YtaggjadgbmmjoaaGreatDoor

/- Reading a number, in the reference: it returns something, and the right number at the texts of 0 to 15. Condition: at most 1048576 bytes. -/
namespace Go.Proofs.YtaggjadgbmmjoaaGreatDoor
open Go.RowKit Go.ChangeShapes Go.WideShapes Go.Deep

def Tx.val (l : List UInt8) : Nat := l.foldl (fun a c => 10 * a + (c.toNat - 48)) 0
def Tx.isDig (c : UInt8) : Bool := decide (48 ≤ c.toNat) && decide (c.toNat ≤ 57)
theorem Tx.val_succ {l : List UInt8} {k : Nat} {c : UInt8} (h : l[k]? = some c) : Tx.val (l.take (k + 1)) = 10 * Tx.val (l.take k) + (c.toNat - 48) := by
  simp [Tx.val, List.take_add_one, h]
theorem Tx.fold_lt : ∀ (l : List UInt8) (a : Nat), l.all Tx.isDig = true → l.foldl (fun a c => 10 * a + (c.toNat - 48)) a < (a + 1) * 10 ^ l.length
  | [], a, _ => by simp
  | c :: l, a, h => by
    simp only [List.all_cons, Bool.and_eq_true] at h
    have h2 := h.1
    simp only [Tx.isDig, Bool.and_eq_true, decide_eq_true_eq] at h2
    have h1 := Tx.fold_lt l (10 * a + (c.toNat - 48)) h.2
    have h3 : (10 * a + (c.toNat - 48) + 1) * 10 ^ l.length ≤ (a + 1) * 10 * 10 ^ l.length := Nat.mul_le_mul_right _ (by omega)
    rw [List.foldl_cons, List.length_cons, Nat.pow_succ, Nat.mul_comm (10 ^ l.length) 10, ← Nat.mul_assoc]
    omega
theorem Tx.val_lt {l : List UInt8} (h : l.all Tx.isDig = true) : Tx.val l < 10 ^ l.length := by
  have := Tx.fold_lt l 0 h
  simpa [Tx.val] using this
theorem Tx.dec_val_ : ∀ n ∈ List.range 16, Tx.val (Tx.dec (n : Int)) = n ∧ (Tx.dec (n : Int)).all Tx.isDig = true := by decide
theorem Tx.dec_val {n : Int} (h0 : 0 ≤ n) (h1 : n ≤ 15) : (Tx.val (Tx.dec n) : Int) = n ∧ (Tx.dec n).all Tx.isDig = true := by
  have := Tx.dec_val_ n.toNat (by rw [List.mem_range]; omega)
  rw [show ((n.toNat : Nat) : Int) = n by omega] at this
  exact ⟨by omega, this.2⟩

theorem l1Num_neg (n : Nat) (w : World) (h0 : 0 < n) (hn : n ≤ 1000000) : Calls Tryz.prog 74 #[.int .i64 (-(n : Int))] w fun e w' => ∃ S, e = .returned (.string S) ∧ ∃ m, w' = w.drewN m := by
  have c1 := l1Num_nat n w hn
  have hd : decide (-(n : Int) < 0) = true := decide_eq_true (by omega)
  have hw : IntKind.i64.wrap (- -(n : Int)) = (n : Int) := by rw [Int.neg_neg]; exact IntWalk.i64_in _ (by omega)
  have hw2 : IntKind.i64.wrap ((n : Int)) = (n : Int) := IntWalk.i64_in _ (by omega)
  have hz := dd_len n
  obtain ⟨S, hS⟩ : ∃ S : ByteArray, S = ⟨(Lib.decDigits n).toArray⟩ := ⟨_, rfl⟩
  rw [← hS] at c1
  have hz2 : 1 + S.size ≤ 9223372036854775807 := by rw [hS, mk_size]; omega
  clear hS hz
  go_enter Tryz.func74, Tryz.ntmps74
  go_wp2_with fail
  refine c1.mono ?_; rintro q_ w1 ⟨rfl, m, rfl⟩
  go_wp2_with fail
  go_ret
  exact ⟨_, rfl, m, rfl⟩

end Go.Proofs.YtaggjadgbmmjoaaGreatDoor

/- Reading a number, in the reference, the walk: it returns something, and the right number at the texts of 0 to 15. Condition: at most 1048576 bytes. -/
namespace Go.Proofs.YtaggjadgbmmjoaaGreatDoor
open Go.RowKit Go.ChangeShapes Go.WideShapes Go.Deep

theorem Tx.dig_get {l : List UInt8} (h : l.all Tx.isDig = true) {k : Nat} {c : UInt8} (hc : l[k]? = some c) : 48 ≤ c.toNat ∧ c.toNat ≤ 57 := by
  have := List.all_eq_true.1 h c (List.mem_of_getElem? hc)
  simpa [Tx.isDig] using this
theorem Tx.all_succ {l : List UInt8} {k : Nat} {c : UInt8} (h : (l.take k).all Tx.isDig = true) (hc : l[k]? = some c) (h1 : 48 ≤ c.toNat) (h2 : c.toNat ≤ 57) : (l.take (k + 1)).all Tx.isDig = true := by
  rw [List.take_add_one, hc, List.all_append, h]
  simp [Tx.isDig, h1, h2]
theorem l1Num_some (z : Int) (w : World) (h0 : -1000000 ≤ z) (h1 : z ≤ 1000000) : Calls Tryz.prog 74 #[.int .i64 z] w fun e w' => ∃ S, e = .returned (.string S) ∧ ∃ m, w' = w.drewN m := by
  by_cases h : 0 ≤ z
  · obtain ⟨n, rfl⟩ : ∃ n : Nat, z = n := ⟨z.toNat, by omega⟩
    exact (l1Num_nat n w (by omega)).mono fun e w' ⟨he, hm⟩ => ⟨_, he, hm⟩
  · obtain ⟨n, rfl⟩ : ∃ n : Nat, z = -(n : Int) := ⟨(-z).toNat, by omega⟩
    exact l1Num_neg n w (by omega) (by omega)
/-- what reading a text says: the right number at the texts of 0 to 15 -/
def Tx.Reads (s : ByteArray) (n : Int) (ok : Bool) : Prop := ∀ d : Int, 0 ≤ d → d ≤ 15 → s.data.toList = Tx.dec d → n = d ∧ ok = true
def Tx.RdE (s : ByteArray) (e : Ending) : Prop := ∃ (n : Int) (ok : Bool), e = .returned (.tuple #[.int .i64 n, .bool ok]) ∧ Tx.Reads s n ok
set_option maxHeartbeats 4000000 in
theorem l1Read_any (s : ByteArray) (w : World) (hs : s.size ≤ 1048576) :
    Calls Tryz.prog 54 #[.string s] w fun e w' => Tx.RdE s e ∧ ∃ m, w' = w.drewN m := by
  have hsz := Lib.size_eq s
  have HZ := Lib.hid hsz
  clear hsz
  by_cases hg : 1 < s.size
  · have hgd : decide ((1 : Int) < (s.size : Int)) = true := decide_eq_true (by omega)
    have hgd2 : decide (1 < s.size) = true := decide_eq_true hg
    have h00 : 0 < s.size := by omega
    have hx0 : s.data.toList[0]? = some (s[0]'h00) := by
      rw [List.getElem?_eq_getElem (by rw [← HZ.out]; exact h00)]; rfl
    have HX0 := Lib.hid hx0
    clear hx0
    generalize hc0 : s[0]'h00 = x0 at *
    by_cases h45 : x0 = 45
    · subst h45
      have HNo := Lib.hid (show ∀ d : Int, 0 ≤ d → d ≤ 15 → ¬ s.data.toList = Tx.dec d from by
        intro d h0 h1 hd
        have h2 := HX0.out
        rw [hd] at h2
        have := Tx.dig_get (Tx.dec_val h0 h1).2 h2
        simp at this)
      obtain ⟨T, hT⟩ : ∃ T, s.extract 1 s.size = T := ⟨_, rfl⟩
      have hTs : T.size = s.size - 1 := by
        rw [← hT, ByteArray.size_extract]; omega
      have hTl : T.size < s.size := by omega
      have h1s : (1 : Int) ≤ (s.size : Int) := by omega
      clear hTs
      go_enter Tryz.func54, Tryz.ntmps54
      have HTZ := Lib.hid (Lib.size_eq T)
      have c1 := l1In_any (T.size : Int) 1 6 w
      by_cases hr : 1 ≤ T.size ∧ T.size ≤ 6
      rotate_left
      · rw [show inB (T.size : Int) 1 6 = false from by rw [Bool.eq_false_iff]; intro hq; rw [inB_iff] at hq; omega] at c1
        have HF := Lib.hid (show Tx.Reads s 0 false from by
          intro d h0 h1 hd
          exact absurd hd (HNo.out d h0 h1))
        clear hr
        go_wp2_with fail
        refine c1.mono ?_; rintro q_ w_ ⟨rfl, rfl⟩
        go_wp2_with fail
        go_ret2
        exact ⟨⟨_, _, rfl, HF.out⟩, 0, rfl⟩
      obtain ⟨hr1, hr6⟩ := hr
      rw [show inB (T.size : Int) 1 6 = true from by rw [inB_iff]; omega] at c1
      go_wp2_with fail
      refine c1.mono ?_; rintro q_ w_ ⟨rfl, rfl⟩
      clear c1
      go_wp2_with fail
      go_loop [5, 6] (fun v5 v6 => ∃ k : Nat, k ≤ T.size ∧ v6 = .int .i64 k ∧ v5 = .int .i64 (Tx.val (T.data.toList.take k) : Int) ∧ (T.data.toList.take k).all Tx.isDig = true) (fun _ i => T.size - (intOf i).toNat)
      case atStart => exact ⟨0, Nat.zero_le _, rfl, rfl, rfl⟩
      case round =>
        obtain ⟨k, hk, rfl, rfl, ha⟩ := hrel
        have HA := Lib.hid ha
        clear ha
        have hv := Tx.val_lt HA.out
        have hp : 10 ^ (T.data.toList.take k).length ≤ 10 ^ 6 := Nat.pow_le_pow_right (by omega) (by rw [List.length_take, ← HTZ.out]; omega)
        by_cases hlt : k < T.size
        · have hp5 : 10 ^ (T.data.toList.take k).length ≤ 10 ^ 5 := Nat.pow_le_pow_right (by omega) (by rw [List.length_take, ← HTZ.out]; omega)
          have hx : T.data.toList[k]? = some (T[k]'hlt) := by
            rw [List.getElem?_eq_getElem (by rw [← HTZ.out]; exact hlt)]; rfl
          have HX := Lib.hid hx
          clear hx
          generalize hc : T[k]'hlt = x at *
          have HV := Lib.hid (Tx.val_succ HX.out)
          generalize Tx.val (T.data.toList.take k) = q at *
          have hq5 : q < 100000 := by omega
          clear hv hp hp5
          by_cases h1 : x.toNat < 48
          · have hd1 : decide ((x.toNat : Int) < 48) = true := decide_eq_true (by omega)
            have hd2 : decide (x.toNat < 48) = true := decide_eq_true h1
            have HF := Lib.hid (show Tx.Reads s 0 false from by
              intro d h0 h1 hd
              exact absurd hd (HNo.out d h0 h1))
            clear h1
            go_wp2_with fail
            go_ret2
            exact ⟨⟨_, _, rfl, HF.out⟩, 0, rfl⟩
          · have hd1 : decide ((x.toNat : Int) < 48) = false := decide_eq_false (by omega)
            have hd2 : decide (x.toNat < 48) = false := decide_eq_false h1
            by_cases h2 : 57 < x.toNat
            · have hd3 : decide ((57 : Int) < (x.toNat : Int)) = true := decide_eq_true (by omega)
              have hd4 : decide (57 < x.toNat) = true := decide_eq_true h2
              have HF := Lib.hid (show Tx.Reads s 0 false from by
                intro d h0 h1 hd
                exact absurd hd (HNo.out d h0 h1))
              clear h1 h2
              go_wp2_with fail
              go_ret2
              exact ⟨⟨_, _, rfl, HF.out⟩, 0, rfl⟩
            · have hd3 : decide ((57 : Int) < (x.toNat : Int)) = false := decide_eq_false (by omega)
              have hd4 : decide (57 < x.toNat) = false := decide_eq_false h2
              have HA2 := Lib.hid (Tx.all_succ HA.out HX.out (by omega) (by omega))
              have w1 : IntKind.i64.wrap (10 * (q : Int)) = 10 * (q : Int) := IntWalk.i64_in _ (by omega)
              obtain ⟨y, hy⟩ : ∃ y : Nat, x.toNat = 48 + y := ⟨x.toNat - 48, by omega⟩
              have w2 : IntKind.u8.wrap ((x.toNat : Int) - 48) = (y : Int) := by
                rw [hy, show (((48 + y : Nat) : Int) - 48) = (y : Int) by omega]
                have hy9 : y < 10 := by omega
                revert hy9
                exact fun h => (show ∀ y ∈ List.range 10, IntKind.u8.wrap (y : Int) = (y : Int) by decide) y (by rw [List.mem_range]; exact h)
              have w3 : IntKind.i64.wrap (10 * (q : Int) + (y : Int)) = 10 * (q : Int) + (y : Int) := IntWalk.i64_in _ (by omega)
              have w4 : IntKind.i64.wrap (y : Int) = (y : Int) := IntWalk.i64_in _ (by omega)
              have HQ := Lib.hid (show (Tx.val (T.data.toList.take (k + 1)) : Int) = 10 * (q : Int) + (y : Int) from by rw [HV.out]; omega)
              clear h1 h2 hy
              go_wp2_with fail
              go_round
              case rel => exact ⟨k + 1, by omega, by go_num, by rw [HQ.out], HA2.out⟩
              case measure => simp [intOf]; omega
        · have hkt : T.data.toList.take k = T.data.toList := List.take_of_length_le (by rw [← HTZ.out]; omega)
          rw [hkt] at hv hp ⊢
          clear hkt HA
          have HV := Lib.hid (rfl : Tx.val T.data.toList = Tx.val T.data.toList)
          generalize hq : Tx.val T.data.toList = q at *
          have HQ := Lib.hid hq
          have hq6 : q < 1000000 := by omega
          clear hv hp hq HV
          have hcm : decide ((T.size : Int) < (s.size : Int)) = true := decide_eq_true (by omega)
          have hcm2 : decide (T.size < s.size) = true := decide_eq_true (by omega)
          have hw : IntKind.i64.wrap (-(q : Int)) = -(q : Int) := IntWalk.i64_in _ (by omega)
          have c2 := l1Num_some (-(q : Int)) w (by omega) (by omega)
          go_wp2_with fail
          refine c2.mono ?_; rintro q_ w1 ⟨S, rfl, m, rfl⟩
          clear c2
          cases hb : (S.toList == s.toList)
          · go_wp2_with fail
            go_ret2
            exact ⟨⟨_, _, rfl, fun d h0 h1 hd => absurd hd (HNo.out d h0 h1)⟩, m, rfl⟩
          · go_wp2_with fail
            go_ret2
            exact ⟨⟨_, _, rfl, fun d h0 h1 hd => absurd hd (HNo.out d h0 h1)⟩, m, rfl⟩
    · have hne : ((x0.toNat : Int) == 45) = false := by
        rw [beq_eq_false_iff_ne]; intro hq
        exact h45 (UInt8.toNat_inj.1 (by show x0.toNat = 45; omega))
      clear h45 HX0
      go_enter Tryz.func54, Tryz.ntmps54
      have HTZ := Lib.hid (Lib.size_eq s)
      have c1 := l1In_any (s.size : Int) 1 6 w
      by_cases hr : 1 ≤ s.size ∧ s.size ≤ 6
      rotate_left
      · rw [show inB (s.size : Int) 1 6 = false from by rw [Bool.eq_false_iff]; intro hq; rw [inB_iff] at hq; omega] at c1
        have HF := Lib.hid (show Tx.Reads s 0 false from by
          intro d h0 h1 hd
          exfalso
          have h2 := HZ.out
          rw [hd] at h2
          have := Tx.dec_len (n := d)
          omega)
        clear hr
        go_wp2_with fail
        refine c1.mono ?_; rintro q_ w_ ⟨rfl, rfl⟩
        go_wp2_with fail
        go_ret2
        exact ⟨⟨_, _, rfl, HF.out⟩, 0, rfl⟩
      obtain ⟨hr1, hr6⟩ := hr
      rw [show inB (s.size : Int) 1 6 = true from by rw [inB_iff]; omega] at c1
      go_wp2_with fail
      refine c1.mono ?_; rintro q_ w_ ⟨rfl, rfl⟩
      clear c1
      go_wp2_with fail
      go_loop [5, 6] (fun v5 v6 => ∃ k : Nat, k ≤ s.size ∧ v6 = .int .i64 k ∧ v5 = .int .i64 (Tx.val (s.data.toList.take k) : Int) ∧ (s.data.toList.take k).all Tx.isDig = true) (fun _ i => s.size - (intOf i).toNat)
      case atStart => exact ⟨0, Nat.zero_le _, rfl, rfl, rfl⟩
      case round =>
        obtain ⟨k, hk, rfl, rfl, ha⟩ := hrel
        have HA := Lib.hid ha
        clear ha
        have hv := Tx.val_lt HA.out
        have hp : 10 ^ (s.data.toList.take k).length ≤ 10 ^ 6 := Nat.pow_le_pow_right (by omega) (by rw [List.length_take, ← HTZ.out]; omega)
        by_cases hlt : k < s.size
        · have hp5 : 10 ^ (s.data.toList.take k).length ≤ 10 ^ 5 := Nat.pow_le_pow_right (by omega) (by rw [List.length_take, ← HTZ.out]; omega)
          have hx : s.data.toList[k]? = some (s[k]'hlt) := by
            rw [List.getElem?_eq_getElem (by rw [← HTZ.out]; exact hlt)]; rfl
          have HX := Lib.hid hx
          clear hx
          generalize hc : s[k]'hlt = x at *
          have HV := Lib.hid (Tx.val_succ HX.out)
          generalize Tx.val (s.data.toList.take k) = q at *
          have hq5 : q < 100000 := by omega
          clear hv hp hp5
          by_cases h1 : x.toNat < 48
          · have hd1 : decide ((x.toNat : Int) < 48) = true := decide_eq_true (by omega)
            have hd2 : decide (x.toNat < 48) = true := decide_eq_true h1
            have HF := Lib.hid (show Tx.Reads s 0 false from by
              intro d h0 h1 hd
              exfalso
              have h2 := HX.out
              rw [hd] at h2
              have := Tx.dig_get (Tx.dec_val h0 h1).2 h2
              omega)
            clear h1
            go_wp2_with fail
            go_ret2
            exact ⟨⟨_, _, rfl, HF.out⟩, 0, rfl⟩
          · have hd1 : decide ((x.toNat : Int) < 48) = false := decide_eq_false (by omega)
            have hd2 : decide (x.toNat < 48) = false := decide_eq_false h1
            by_cases h2 : 57 < x.toNat
            · have hd3 : decide ((57 : Int) < (x.toNat : Int)) = true := decide_eq_true (by omega)
              have hd4 : decide (57 < x.toNat) = true := decide_eq_true h2
              have HF := Lib.hid (show Tx.Reads s 0 false from by
                intro d h0 h1 hd
                exfalso
                have h2 := HX.out
                rw [hd] at h2
                have := Tx.dig_get (Tx.dec_val h0 h1).2 h2
                omega)
              clear h1 h2
              go_wp2_with fail
              go_ret2
              exact ⟨⟨_, _, rfl, HF.out⟩, 0, rfl⟩
            · have hd3 : decide ((57 : Int) < (x.toNat : Int)) = false := decide_eq_false (by omega)
              have hd4 : decide (57 < x.toNat) = false := decide_eq_false h2
              have HA2 := Lib.hid (Tx.all_succ HA.out HX.out (by omega) (by omega))
              have w1 : IntKind.i64.wrap (10 * (q : Int)) = 10 * (q : Int) := IntWalk.i64_in _ (by omega)
              obtain ⟨y, hy⟩ : ∃ y : Nat, x.toNat = 48 + y := ⟨x.toNat - 48, by omega⟩
              have w2 : IntKind.u8.wrap ((x.toNat : Int) - 48) = (y : Int) := by
                rw [hy, show (((48 + y : Nat) : Int) - 48) = (y : Int) by omega]
                have hy9 : y < 10 := by omega
                revert hy9
                exact fun h => (show ∀ y ∈ List.range 10, IntKind.u8.wrap (y : Int) = (y : Int) by decide) y (by rw [List.mem_range]; exact h)
              have w3 : IntKind.i64.wrap (10 * (q : Int) + (y : Int)) = 10 * (q : Int) + (y : Int) := IntWalk.i64_in _ (by omega)
              have w4 : IntKind.i64.wrap (y : Int) = (y : Int) := IntWalk.i64_in _ (by omega)
              have HQ := Lib.hid (show (Tx.val (s.data.toList.take (k + 1)) : Int) = 10 * (q : Int) + (y : Int) from by rw [HV.out]; omega)
              clear h1 h2 hy
              go_wp2_with fail
              go_round
              case rel => exact ⟨k + 1, by omega, by go_num, by rw [HQ.out], HA2.out⟩
              case measure => simp [intOf]; omega
        · have hkt : s.data.toList.take k = s.data.toList := List.take_of_length_le (by rw [← HTZ.out]; omega)
          rw [hkt] at hv hp ⊢
          clear hkt HA
          have HV := Lib.hid (rfl : Tx.val s.data.toList = Tx.val s.data.toList)
          generalize hq : Tx.val s.data.toList = q at *
          have HQ := Lib.hid hq
          have hq6 : q < 1000000 := by omega
          clear hv hp hq HV
          have c2 := l1Num_nat q w (by omega)
          obtain ⟨S, hS⟩ : ∃ S : ByteArray, S = ⟨(Lib.decDigits q).toArray⟩ := ⟨_, rfl⟩
          rw [← hS] at c2
          have HS := Lib.hid hS
          clear hS
          go_wp2_with fail
          refine c2.mono ?_; rintro q_ w1 ⟨rfl, m, rfl⟩
          clear c2
          cases hb : (S.toList == s.toList)
          · have HF := Lib.hid (show Tx.Reads s 0 false from by
              intro d h0 h1 hd
              exfalso
              have h2 := (Tx.dec_val h0 h1).1
              rw [← hd, HQ.out] at h2
              have h3 : S = s := by
                rw [HS.out, show q = d.toNat by omega, Tx.dec_eq h0 (by omega), ← hd]
              rw [h3] at hb
              simp at hb)
            go_wp2_with fail
            go_ret2
            exact ⟨⟨_, _, rfl, HF.out⟩, m, rfl⟩
          · have HF := Lib.hid (show Tx.Reads s (q : Int) true from by
              intro d h0 h1 hd
              have h2 := (Tx.dec_val h0 h1).1
              rw [← hd, HQ.out] at h2
              exact ⟨h2, rfl⟩)
            go_wp2_with fail
            go_ret2
            exact ⟨⟨_, _, rfl, HF.out⟩, m, rfl⟩
  · have hgd : decide ((1 : Int) < (s.size : Int)) = false := decide_eq_false (by omega)
    have hgd2 : decide (1 < s.size) = false := decide_eq_false hg
    clear hg
    go_enter Tryz.func54, Tryz.ntmps54
    have HTZ := Lib.hid (Lib.size_eq s)
    have c1 := l1In_any (s.size : Int) 1 6 w
    by_cases hr : 1 ≤ s.size ∧ s.size ≤ 6
    rotate_left
    · rw [show inB (s.size : Int) 1 6 = false from by rw [Bool.eq_false_iff]; intro hq; rw [inB_iff] at hq; omega] at c1
      have HF := Lib.hid (show Tx.Reads s 0 false from by
        intro d h0 h1 hd
        exfalso
        have h2 := HZ.out
        rw [hd] at h2
        have := Tx.dec_len (n := d)
        omega)
      clear hr
      go_wp2_with fail
      refine c1.mono ?_; rintro q_ w_ ⟨rfl, rfl⟩
      go_wp2_with fail
      go_ret2
      exact ⟨⟨_, _, rfl, HF.out⟩, 0, rfl⟩
    obtain ⟨hr1, hr6⟩ := hr
    rw [show inB (s.size : Int) 1 6 = true from by rw [inB_iff]; omega] at c1
    go_wp2_with fail
    refine c1.mono ?_; rintro q_ w_ ⟨rfl, rfl⟩
    clear c1
    go_wp2_with fail
    go_loop [5, 6] (fun v5 v6 => ∃ k : Nat, k ≤ s.size ∧ v6 = .int .i64 k ∧ v5 = .int .i64 (Tx.val (s.data.toList.take k) : Int) ∧ (s.data.toList.take k).all Tx.isDig = true) (fun _ i => s.size - (intOf i).toNat)
    case atStart => exact ⟨0, Nat.zero_le _, rfl, rfl, rfl⟩
    case round =>
      obtain ⟨k, hk, rfl, rfl, ha⟩ := hrel
      have HA := Lib.hid ha
      clear ha
      have hv := Tx.val_lt HA.out
      have hp : 10 ^ (s.data.toList.take k).length ≤ 10 ^ 6 := Nat.pow_le_pow_right (by omega) (by rw [List.length_take, ← HTZ.out]; omega)
      by_cases hlt : k < s.size
      · have hp5 : 10 ^ (s.data.toList.take k).length ≤ 10 ^ 5 := Nat.pow_le_pow_right (by omega) (by rw [List.length_take, ← HTZ.out]; omega)
        have hx : s.data.toList[k]? = some (s[k]'hlt) := by
          rw [List.getElem?_eq_getElem (by rw [← HTZ.out]; exact hlt)]; rfl
        have HX := Lib.hid hx
        clear hx
        generalize hc : s[k]'hlt = x at *
        have HV := Lib.hid (Tx.val_succ HX.out)
        generalize Tx.val (s.data.toList.take k) = q at *
        have hq5 : q < 100000 := by omega
        clear hv hp hp5
        by_cases h1 : x.toNat < 48
        · have hd1 : decide ((x.toNat : Int) < 48) = true := decide_eq_true (by omega)
          have hd2 : decide (x.toNat < 48) = true := decide_eq_true h1
          have HF := Lib.hid (show Tx.Reads s 0 false from by
            intro d h0 h1 hd
            exfalso
            have h2 := HX.out
            rw [hd] at h2
            have := Tx.dig_get (Tx.dec_val h0 h1).2 h2
            omega)
          clear h1
          go_wp2_with fail
          go_ret2
          exact ⟨⟨_, _, rfl, HF.out⟩, 0, rfl⟩
        · have hd1 : decide ((x.toNat : Int) < 48) = false := decide_eq_false (by omega)
          have hd2 : decide (x.toNat < 48) = false := decide_eq_false h1
          by_cases h2 : 57 < x.toNat
          · have hd3 : decide ((57 : Int) < (x.toNat : Int)) = true := decide_eq_true (by omega)
            have hd4 : decide (57 < x.toNat) = true := decide_eq_true h2
            have HF := Lib.hid (show Tx.Reads s 0 false from by
              intro d h0 h1 hd
              exfalso
              have h2 := HX.out
              rw [hd] at h2
              have := Tx.dig_get (Tx.dec_val h0 h1).2 h2
              omega)
            clear h1 h2
            go_wp2_with fail
            go_ret2
            exact ⟨⟨_, _, rfl, HF.out⟩, 0, rfl⟩
          · have hd3 : decide ((57 : Int) < (x.toNat : Int)) = false := decide_eq_false (by omega)
            have hd4 : decide (57 < x.toNat) = false := decide_eq_false h2
            have HA2 := Lib.hid (Tx.all_succ HA.out HX.out (by omega) (by omega))
            have w1 : IntKind.i64.wrap (10 * (q : Int)) = 10 * (q : Int) := IntWalk.i64_in _ (by omega)
            obtain ⟨y, hy⟩ : ∃ y : Nat, x.toNat = 48 + y := ⟨x.toNat - 48, by omega⟩
            have w2 : IntKind.u8.wrap ((x.toNat : Int) - 48) = (y : Int) := by
              rw [hy, show (((48 + y : Nat) : Int) - 48) = (y : Int) by omega]
              have hy9 : y < 10 := by omega
              revert hy9
              exact fun h => (show ∀ y ∈ List.range 10, IntKind.u8.wrap (y : Int) = (y : Int) by decide) y (by rw [List.mem_range]; exact h)
            have w3 : IntKind.i64.wrap (10 * (q : Int) + (y : Int)) = 10 * (q : Int) + (y : Int) := IntWalk.i64_in _ (by omega)
            have w4 : IntKind.i64.wrap (y : Int) = (y : Int) := IntWalk.i64_in _ (by omega)
            have HQ := Lib.hid (show (Tx.val (s.data.toList.take (k + 1)) : Int) = 10 * (q : Int) + (y : Int) from by rw [HV.out]; omega)
            clear h1 h2 hy
            go_wp2_with fail
            go_round
            case rel => exact ⟨k + 1, by omega, by go_num, by rw [HQ.out], HA2.out⟩
            case measure => simp [intOf]; omega
      · have hkt : s.data.toList.take k = s.data.toList := List.take_of_length_le (by rw [← HTZ.out]; omega)
        rw [hkt] at hv hp ⊢
        clear hkt HA
        have HV := Lib.hid (rfl : Tx.val s.data.toList = Tx.val s.data.toList)
        generalize hq : Tx.val s.data.toList = q at *
        have HQ := Lib.hid hq
        have hq6 : q < 1000000 := by omega
        clear hv hp hq HV
        have c2 := l1Num_nat q w (by omega)
        obtain ⟨S, hS⟩ : ∃ S : ByteArray, S = ⟨(Lib.decDigits q).toArray⟩ := ⟨_, rfl⟩
        rw [← hS] at c2
        have HS := Lib.hid hS
        clear hS
        go_wp2_with fail
        refine c2.mono ?_; rintro q_ w1 ⟨rfl, m, rfl⟩
        clear c2
        cases hb : (S.toList == s.toList)
        · have HF := Lib.hid (show Tx.Reads s 0 false from by
            intro d h0 h1 hd
            exfalso
            have h2 := (Tx.dec_val h0 h1).1
            rw [← hd, HQ.out] at h2
            have h3 : S = s := by
              rw [HS.out, show q = d.toNat by omega, Tx.dec_eq h0 (by omega), ← hd]
            rw [h3] at hb
            simp at hb)
          go_wp2_with fail
          go_ret2
          exact ⟨⟨_, _, rfl, HF.out⟩, m, rfl⟩
        · have HF := Lib.hid (show Tx.Reads s (q : Int) true from by
            intro d h0 h1 hd
            have h2 := (Tx.dec_val h0 h1).1
            rw [← hd, HQ.out] at h2
            exact ⟨h2, rfl⟩)
          go_wp2_with fail
          go_ret2
          exact ⟨⟨_, _, rfl, HF.out⟩, m, rfl⟩

end Go.Proofs.YtaggjadgbmmjoaaGreatDoor

/- What the library's functions of numbers read of the program's variables, and that it stands where only new blocks have come. No condition. -/
namespace Go.Proofs.YtaggjadgbmmjoaaGreatDoor
open Go.RowKit Go.ChangeShapes Go.WideShapes Go.Deep

def Tx.Env (w : World) : Prop := (∃ tp p, w.var? Tryz.prog "strconv.ErrSyntax" = some #[.iface tp p]) ∧ Lib.TabIs Tryz.prog w "internal/strconv.uint64pow10" .u64 Lib.pow10Tab ∧ (∃ m, w.cell? ⟨0, 0, none⟩ = some (.int .i64 m))
theorem Tx.var_below {P : Program} {w w' : World} {nm : String} {cs : Array Value} (h : w.var? P nm = some cs) (hb : Below w.heap.size w w') : w'.var? P nm = some cs := by
  unfold World.var? at h ⊢
  cases hg : P.globalNamed nm with
  | none => rw [hg] at h; simp at h
  | some g =>
    rw [hg] at h
    simp only [Option.bind_some] at h ⊢
    have hlt : g < w.heap.size := by
      by_cases hx : g < w.heap.size
      · exact hx
      · rw [Array.getElem?_eq_none (by omega)] at h; simp at h
    rw [hb.block g hlt]
    exact h
theorem Tx.Env.below {w w' : World} (h : Tx.Env w) (hb : Below w.heap.size w w') : Tx.Env w' := by
  obtain ⟨⟨tp, p, h1⟩, h2, m, h3⟩ := h
  refine ⟨⟨tp, p, Tx.var_below h1 hb⟩, Tx.var_below h2 hb, m, ?_⟩
  have hlt : 0 < w.heap.size := by
    by_cases hx : 0 < w.heap.size
    · exact hx
    · unfold World.cell? at h3
      rw [Array.getElem?_eq_none (by simpa using hx)] at h3
      simp at h3
  exact (hb.cell (p := ⟨0, 0, none⟩) hlt).trans h3

theorem Tx.atoi_dec_ : ∀ n ∈ List.range 16, Lib.atoi (Tx.dec (n : Int)) = some (n : Int) := by decide
theorem Tx.atoi_dec {n : Int} (h0 : 0 ≤ n) (h1 : n ≤ 15) : Lib.atoi (Tx.dec n) = some n := by
  have := Tx.atoi_dec_ n.toNat (by rw [List.mem_range]; omega)
  rwa [show ((n.toNat : Nat) : Int) = n by omega] at this
theorem Tx.itoa_dec {n : Int} (h0 : 0 ≤ n) (h1 : n ≤ 15) : Lib.itoa n = Tx.dec n := by
  rw [Lib.itoa, if_neg (by omega), Tx.dec_eq h0 (by omega)]

end Go.Proofs.YtaggjadgbmmjoaaGreatDoor

/- Reading a number, in the program: it returns something, and the right number at the texts of 0 to 15. Conditions: the library's variables read as they are laid. -/
namespace Go.Proofs.YtaggjadgbmmjoaaGreatDoor
open Go.RowKit Go.ChangeShapes Go.WideShapes Go.Deep

theorem atoi_some (s : ByteArray) (n : Int) (hl : s.size ≤ 18) (h : Lib.atoi s.data.toList = some n) (w : World) : Calls Tryz.prog 73 #[.string s] w fun e w' => e = .returned (.tuple #[.int .i64 n, .nilIface]) ∧ Below w.heap.size w w' :=
  (Any.strconv_Atoi { laysAtoi with } s n hl h w).mono fun e w' ⟨he, t, hw⟩ => ⟨he, by rw [hw]; exact Lib.bytesWorld_below w _ t⟩
theorem atoi_none (s : ByteArray) (hl : s.size ≤ 18) (h : Lib.atoi s.data.toList = none) (w : World) (hE : Tx.Env w) : Calls Tryz.prog 73 #[.string s] w fun e w' => ∃ T N, e = .returned (.tuple #[.int .i64 0, .iface T (.pointer (some ⟨N, 0, none⟩))]) ∧ Below w.heap.size w w' := by
  obtain ⟨⟨tp, p, h1⟩, _⟩ := hE
  exact (Any.strconv_Atoi_err_var laysAtoi s hl h tp p w h1).mono fun e w' ⟨N, he, _, _, hb⟩ => ⟨_, N, he, hb⟩
theorem itoa_any (n : Int) (w : World) (hE : Tx.Env w) (h0 : -1000000 ≤ n) (h1 : n ≤ 1000000) : Calls Tryz.prog 68 #[.int .i64 n] w fun e w' => e = .returned (.string ⟨(Lib.itoa n).toArray⟩) ∧ Below w.heap.size w w' :=
  (Any.strconv_Itoa laysItoa n (by omega) (by omega) w hE.2.1).mono fun e w' ⟨he, k, os, hw⟩ => ⟨he, by rw [hw]; exact Lib.below_grow _ w (Nat.le_refl _) k os⟩

set_option maxHeartbeats 2000000 in
theorem ParseInt_any (s : ByteArray) (w : World) (hs : s.size ≤ 1048576) (hE : Tx.Env w) :
    Calls Tryz.prog 49 #[.string s] w fun e w' => Tx.RdE s e ∧ Below w.heap.size w w' := by
  have HZ := Lib.hid (Lib.size_eq s)
  by_cases h7 : 7 < s.size
  · have hd1 : decide ((7 : Int) < (s.size : Int)) = true := decide_eq_true (by omega)
    have hd2 : decide (7 < s.size) = true := decide_eq_true h7
    have HF := Lib.hid (show Tx.Reads s 0 false from by
      intro d h0 h1 hd
      exfalso
      have h2 := HZ.out
      rw [hd] at h2
      have := Tx.dec_len (n := d)
      omega)
    clear h7
    go_enter Tryz.func49, Tryz.ntmps49
    go_wp2_with fail
    go_ret2
    exact ⟨⟨_, _, rfl, HF.out⟩, Below.refl _ _⟩
  have hd1 : decide ((7 : Int) < (s.size : Int)) = false := decide_eq_false (by omega)
  have hd2 : decide (7 < s.size) = false := decide_eq_false h7
  cases ha : Lib.atoi s.data.toList with
  | none =>
    have c1 := atoi_none s (by omega) ha w hE
    have HF := Lib.hid (show Tx.Reads s 0 false from by
      intro d h0 h1 hd
      rw [hd, Tx.atoi_dec h0 h1] at ha
      cases ha)
    clear ha h7
    go_enter Tryz.func49, Tryz.ntmps49
    go_wp2_with fail
    refine c1.mono ?_; rintro q_ w1 ⟨T, N, rfl, b1⟩
    go_wp2_with fail
    go_ret2
    exact ⟨⟨_, _, rfl, HF.out⟩, b1⟩
  | some n =>
    have c1 := atoi_some s n (by omega) ha w
    have HA := Lib.hid ha
    clear ha h7
    have c2 := fun W => inside_any n (-999999) 999999 W
    cases hi : inB n (-999999) 999999
    · have HF := Lib.hid (show Tx.Reads s 0 false from by
        intro d h0 h1 hd
        have h2 := HA.out
        rw [hd, Tx.atoi_dec h0 h1] at h2
        have h3 : inB n (-999999) 999999 = true := by rw [inB_iff]; injection h2 with h2; omega
        rw [hi] at h3
        cases h3)
      rw [hi] at c2
      clear hi
      go_enter Tryz.func49, Tryz.ntmps49
      go_wp2_with fail
      refine c1.mono ?_; rintro q_ w1 ⟨rfl, b1⟩
      go_wp2_with fail
      refine (c2 _).mono ?_; rintro q_ w_ ⟨rfl, rfl⟩
      go_wp2_with fail
      go_ret2
      exact ⟨⟨_, _, rfl, HF.out⟩, b1⟩
    · have hb := (inB_iff _ _ _).1 hi
      have c3 := fun W hE => itoa_any n W hE (by omega) (by omega)
      rw [hi] at c2
      clear hi
      obtain ⟨S, hS⟩ : ∃ S : ByteArray, S = ⟨(Lib.itoa n).toArray⟩ := ⟨_, rfl⟩
      rw [← hS] at c3
      have HS := Lib.hid hS
      clear hS
      go_enter Tryz.func49, Tryz.ntmps49
      go_wp2_with fail
      refine c1.mono ?_; rintro q_ w1 ⟨rfl, b1⟩
      go_wp2_with fail
      refine (c2 _).mono ?_; rintro q_ w_ ⟨rfl, rfl⟩
      go_wp2_with fail
      refine (c3 _ (hE.below b1)).mono ?_; rintro q_ w3 ⟨rfl, b3⟩
      have hB := b1.trans (b3.mono b1.size)
      cases hq : (S.toList == s.toList)
      · have HF := Lib.hid (show Tx.Reads s 0 false from by
          intro d h0 h1 hd
          exfalso
          have h2 := HA.out
          rw [hd, Tx.atoi_dec h0 h1] at h2
          injection h2 with h2
          have h3 : S = s := by
            rw [HS.out, ← h2, Tx.itoa_dec h0 h1, ← hd]
          rw [h3] at hq
          simp at hq)
        go_wp2_with fail
        go_ret2
        exact ⟨⟨_, _, rfl, HF.out⟩, hB⟩
      · have HF := Lib.hid (show Tx.Reads s n true from by
          intro d h0 h1 hd
          have h2 := HA.out
          rw [hd, Tx.atoi_dec h0 h1] at h2
          injection h2 with h2
          exact ⟨h2.symm, rfl⟩)
        go_wp2_with fail
        go_ret2
        exact ⟨⟨_, _, rfl, HF.out⟩, hB⟩

end Go.Proofs.YtaggjadgbmmjoaaGreatDoor

/- Reading slots from a text, plain: what a word says, and what the words together say. No condition. -/
namespace Go.Proofs.YtaggjadgbmmjoaaGreatDoor
open Go.RowKit Go.ChangeShapes Go.WideShapes Go.Deep

/-- what parsing a text says: the valid slots whose text it is, if there are such -/
def Tx.Pa (s : ByteArray) (out : List Sl) (ok : Bool) : Prop := (ok = true → Sl.good out = true ∧ Tx.text out = s.data.toList) ∧ (ok = false → out = [] ∧ ∀ l : List Sl, Sl.good l = true → ¬ Tx.text l = s.data.toList)
theorem Tx.Pa.same {s : ByteArray} {a b : List Sl} {p q : Bool} (h : Tx.Pa s a p) (k : Tx.Pa s b q) : a = b ∧ p = q := by
  cases p <;> cases q
  · exact ⟨by rw [(h.2 rfl).1, (k.2 rfl).1], rfl⟩
  · exact absurd (k.1 rfl).2 ((h.2 rfl).2 b (k.1 rfl).1)
  · exact absurd (h.1 rfl).2 ((k.2 rfl).2 a (h.1 rfl).1)
  · exact ⟨Tx.inj (h.1 rfl).1 (k.1 rfl).1 ((h.1 rfl).2.trans (k.1 rfl).2.symm), rfl⟩
/-- the text of valid slots is parsed to them -/
theorem Tx.Pa.back {s : ByteArray} {a l : List Sl} {p : Bool} (h : Tx.Pa s a p) (hg : Sl.good l = true) (hs : Tx.text l = s.data.toList) : a = l ∧ p = true :=
  h.same ⟨fun _ => ⟨hg, hs⟩, fun e => by cases e⟩

/-- x is what the word says, if it is a word of a slot -/
def Tx.Wd (wd : ByteArray) (x : Sl) : Prop := ∀ t : Sl, Tx.fine t → Tx.word t = wd.data.toList → x = t
/-- it is no word of a slot -/
def Tx.Un (wd : ByteArray) : Prop := ∀ t : Sl, Tx.fine t → ¬ Tx.word t = wd.data.toList
/-- outs is what the first k words say -/
def Tx.Pre (s : ByteArray) (k : Nat) (outs : List Sl) : Prop := ∀ l : List Sl, Sl.good l = true → Tx.text l = s.data.toList → outs = l.take k
theorem Tx.Pre.start (s : ByteArray) : Tx.Pre s 0 [] := fun _ _ _ => by simp
theorem Tx.word_at {s wd : ByteArray} {W : List ByteArray} {k : Nat} (hW : W.map (·.data.toList) = Tx.split 32 s.data.toList) (hk : W[k]? = some wd) {l : List Sl} (hg : Sl.good l = true) (hs : Tx.text l = s.data.toList) : ∃ t, l[k]? = some t ∧ Tx.fine t ∧ Tx.word t = wd.data.toList := by
  rw [← hs, Tx.good_words hg] at hW
  have h1 : (W.map (·.data.toList))[k]? = some wd.data.toList := by rw [List.getElem?_map, hk]; rfl
  rw [hW, List.getElem?_map] at h1
  cases ht : l[k]? with
  | none => rw [ht] at h1; cases h1
  | some t =>
    rw [ht] at h1
    exact ⟨t, rfl, Tx.good_fine hg ht, Option.some.inj h1⟩
theorem Tx.Pre.succ {s wd : ByteArray} {W : List ByteArray} {k : Nat} {outs : List Sl} {x : Sl} (h : Tx.Pre s k outs) (hW : W.map (·.data.toList) = Tx.split 32 s.data.toList) (hk : W[k]? = some wd) (hx : Tx.Wd wd x) : Tx.Pre s (k + 1) (outs ++ [x]) := by
  intro l hg hs
  obtain ⟨t, ht, hf, hw⟩ := Tx.word_at hW hk hg hs
  rw [hx t hf hw, List.take_add_one, ht, ← h l hg hs]
  rfl
theorem Tx.pa_un {s wd : ByteArray} {W : List ByteArray} {k : Nat} (hW : W.map (·.data.toList) = Tx.split 32 s.data.toList) (hk : W[k]? = some wd) (hx : Tx.Un wd) : Tx.Pa s [] false :=
  ⟨(fun e => by cases e), fun _ => ⟨rfl, fun l hg hs => by
    obtain ⟨t, _, hf, hw⟩ := Tx.word_at hW hk hg hs
    exact hx t hf hw⟩⟩
theorem Tx.pa_long {s : ByteArray} (h : 40 < s.size) : Tx.Pa s [] false :=
  ⟨(fun e => by cases e), fun _ => ⟨rfl, fun l hg hs => by
    have h1 := Tx.text_len (fun x hx => Tx.good_fine' hg hx)
    rw [hs, Sl.good_len hg, ← Lib.size_eq] at h1
    omega⟩⟩
theorem Tx.pa_count {s : ByteArray} {W : List ByteArray} (hW : W.map (·.data.toList) = Tx.split 32 s.data.toList) (h : ¬ W.length = 4) : Tx.Pa s [] false :=
  ⟨(fun e => by cases e), fun _ => ⟨rfl, fun l hg hs => by
    rw [← hs, Tx.good_words hg] at hW
    have := congrArg List.length hW
    rw [List.length_map, List.length_map, Sl.good_len hg] at this
    exact h this⟩⟩
theorem Tx.Pre.all {s : ByteArray} {outs : List Sl} (h : Tx.Pre s 4 outs) {l : List Sl} (hg : Sl.good l = true) (hs : Tx.text l = s.data.toList) : outs = l := by
  rw [h l hg hs, List.take_of_length_le (by rw [Sl.good_len hg]; omega)]
theorem Tx.Pre.bad {s : ByteArray} {outs : List Sl} (h : Tx.Pre s 4 outs) (hb : Sl.good outs = false) : Tx.Pa s [] false :=
  ⟨(fun e => by cases e), fun _ => ⟨rfl, fun l hg hs => by rw [h.all hg hs, hg] at hb; cases hb⟩⟩
theorem Tx.Pre.other {s T : ByteArray} {outs : List Sl} (h : Tx.Pre s 4 outs) (hT : T = ⟨(Tx.text outs).toArray⟩) (hb : (T.toList == s.toList) = false) : Tx.Pa s [] false :=
  ⟨(fun e => by cases e), fun _ => ⟨rfl, fun l hg hs => by
    have h1 : T = s := by rw [hT, h.all hg hs, hs]
    rw [h1] at hb
    simp at hb⟩⟩
theorem Tx.bytes_of_list {a b : ByteArray} (h : a.toList = b.toList) : a.data.toList = b.data.toList := by
  rwa [Lib.toList_data, Lib.toList_data] at h
theorem Tx.pa_yes {s T : ByteArray} {outs : List Sl} (hg : Sl.good outs = true) (hT : T = ⟨(Tx.text outs).toArray⟩) (hb : (T.toList == s.toList) = true) : Tx.Pa s outs true := by
  refine ⟨fun _ => ⟨hg, ?_⟩, fun e => by cases e⟩
  have h1 := Tx.bytes_of_list (beq_iff_eq.1 hb)
  rw [hT] at h1
  simpa using h1

/-! ### a word in the reference -/
def Tx.stOf (c : UInt8) : Int := if c = 112 then 1 else if c = 97 then 2 else if c = 98 then 3 else 0
theorem Tx.stOf_lett {k : Int} (h0 : 1 ≤ k) (h1 : k ≤ 3) : Tx.stOf (Tx.lett k) = k := by
  have a : k = 1 ∨ k = 2 ∨ k = 3 := by omega
  rcases a with rfl | rfl | rfl <;> decide
theorem Tx.wd_spec {wd a b : ByteArray} {n1 n2 : Int} {c : UInt8} {k1 k2 : Bool} (hs : Tx.split 58 wd.data.toList = [a.data.toList, b.data.toList]) (hc : a.data.toList[0]? = some c)
    (h1 : Tx.Reads (a.extract 1 a.size) n1 k1) (h2 : Tx.Reads b n2 k2) : Tx.Wd wd ⟨Tx.stOf c, n1, n2⟩ := by
  intro t hf hw
  by_cases h0 : t.state = 0
  · rw [← hw, Tx.sides0 hf h0] at hs
    simp at hs
  · rw [← hw, Tx.sides hf h0] at hs
    simp only [List.cons.injEq, and_true] at hs
    obtain ⟨_, hd, hb⟩ := Tx.word_used hf h0
    rw [← hs.1] at hc
    simp only [List.getElem?_cons_zero, Option.some.injEq] at hc
    have e1 := (h1 t.irq (by omega) (by omega) (by rw [Lib.extract_data, ← hs.1, hd, Lib.size_eq a, ← hs.1]; rfl)).1
    have e2 := (h2 t.prio (by omega) (by omega) hs.2.symm).1
    rw [← hc, Tx.stOf_lett (by omega) (by omega), e1, e2]
theorem Tx.wd_none {wd : ByteArray} {S : List ByteArray} (hs : S.map (·.data.toList) = Tx.split 58 wd.data.toList) (h : ∀ a b, S = [a, b] → ¬ a.size = 2) : Tx.Wd wd ⟨0, 0, 0⟩ := by
  intro t hf hw
  by_cases h0 : t.state = 0
  · exact ((Tx.word_zero hf h0).2).symm
  · exfalso
    rw [← hw, Tx.sides hf h0] at hs
    cases S with
    | nil => simp at hs
    | cons a S =>
      cases S with
      | nil => simp at hs
      | cons b S =>
        cases S with
        | cons d S => simp at hs
        | nil =>
          simp only [List.map_cons, List.map_nil, List.cons.injEq, and_true] at hs
          refine h a b rfl ?_
          rw [Lib.size_eq, hs.1]; rfl

/-! ### a word in the program -/
theorem Tx.ix_lett {k : Int} (h0 : 1 ≤ k) (h1 : k ≤ 3) : Lib.indexByte [45, 112, 97, 98] (Tx.lett k) = k := by
  have a : k = 1 ∨ k = 2 ∨ k = 3 := by omega
  rcases a with rfl | rfl | rfl <;> decide
theorem Tx.un_empty {wd : ByteArray} (h : wd.data.toList = []) : Tx.Un wd := by
  intro t hf hw
  rw [h] at hw
  by_cases h0 : t.state = 0
  · rw [(Tx.word_zero hf h0).1] at hw; cases hw
  · rw [(Tx.word_used hf h0).1] at hw; cases hw
theorem Tx.wd_zero {wd : ByteArray} {c : UInt8} (hc : wd.data.toList[0]? = some c) (h0 : Lib.indexByte [45, 112, 97, 98] c = 0) : Tx.Wd wd ⟨0, 0, 0⟩ := by
  intro t hf hw
  by_cases hz : t.state = 0
  · exact ((Tx.word_zero hf hz).2).symm
  · exfalso
    obtain ⟨e, _, hb⟩ := Tx.word_used hf hz
    rw [← hw, e] at hc
    simp only [List.cons_append, List.getElem?_cons_zero, Option.some.injEq] at hc
    rw [← hc, Tx.ix_lett (by omega) (by omega)] at h0
    omega
theorem Tx.index_at (b : UInt8) : ∀ {u : List UInt8}, (∀ c ∈ u, ¬ c = b) → ∀ r : List UInt8, Lib.index (u ++ b :: r) [b] = u.length
  | [], _, r => by simp [Lib.index]
  | x :: xs, h, r => by
    have hx : ¬ x = b := h x (by simp)
    have hp : ([b].isPrefixOf (x :: (xs ++ b :: r))) = false := by
      simp only [List.isPrefixOf, Bool.and_true, beq_eq_false_iff_ne]
      exact fun e => hx e.symm
    rw [List.cons_append, Lib.index, hp, Tx.index_at b (fun c hc => h c (by simp [hc])) r]
    rw [if_neg (by simp), if_neg (by rw [beq_iff_eq]; omega), List.length_cons]
    omega
theorem Tx.index_no (b : UInt8) : ∀ {u : List UInt8}, (∀ c ∈ u, ¬ c = b) → Lib.index u [b] = -1
  | [], _ => by simp [Lib.index]
  | x :: xs, h => by
    have hx : ¬ x = b := h x (by simp)
    have hp : ([b].isPrefixOf (x :: xs)) = false := by
      simp only [List.isPrefixOf, Bool.and_true, beq_eq_false_iff_ne]
      exact fun e => hx e.symm
    rw [Lib.index, hp, Tx.index_no b (fun c hc => h c (by simp [hc]))]
    rw [if_neg (by simp), if_pos (by rfl)]
theorem Tx.cut_at {b : UInt8} {u : List UInt8} (h : ∀ c ∈ u, ¬ c = b) (r : List UInt8) : Lib.cut (u ++ b :: r) [b] = (u, r, true) := by
  rw [Lib.cut, Tx.index_at b h, if_pos (by omega), Int.toNat_natCast]
  simp
/-- what the program reads of a word -/
theorem Tx.wd_impl {wd A B : ByteArray} {n1 n2 : Int} {c : UInt8} {k1 k2 : Bool} (hc : wd.data.toList[0]? = some c) (hn : ¬ Lib.indexByte [45, 112, 97, 98] c = 0)
    (hA : A.data.toList = (Lib.cut (wd.data.toList.drop 1) [58]).1) (hB : B.data.toList = (Lib.cut (wd.data.toList.drop 1) [58]).2.1)
    (h1 : Tx.Reads A n1 k1) (h2 : Tx.Reads B n2 k2) : ∀ t : Sl, Tx.fine t → Tx.word t = wd.data.toList → (⟨Lib.indexByte [45, 112, 97, 98] c, n1, n2⟩ : Sl) = t ∧ k1 = true ∧ k2 = true := by
  intro t hf hw
  by_cases h0 : t.state = 0
  · exfalso
    rw [← hw, (Tx.word_zero hf h0).1] at hc
    simp only [List.getElem?_cons_zero, Option.some.injEq] at hc
    rw [← hc] at hn
    exact hn (by decide)
  · obtain ⟨_, hd, hb⟩ := Tx.word_used hf h0
    have hw2 : wd.data.toList = Tx.lett t.state :: (Tx.dec t.irq ++ 58 :: Tx.dec t.prio) := by rw [← hw, Tx.word, if_neg h0]
    rw [hw2] at hc
    simp only [List.getElem?_cons_zero, Option.some.injEq] at hc
    rw [hw2, List.drop_one, List.tail_cons, Tx.cut_at (fun x hx => (Tx.dec_no (by omega) (by omega) x hx).2)] at hA hB
    have e1 := h1 t.irq (by omega) (by omega) hA
    have e2 := h2 t.prio (by omega) (by omega) hB
    refine ⟨?_, e1.2, e2.2⟩
    rw [← hc, Tx.ix_lett (by omega) (by omega), e1.1, e2.1]

/-! ### the parts of a text in the library -/
theorem Tx.splitK_eq (b : UInt8) : ∀ (u : List UInt8) (n : Nat), u.length ≤ n → ∀ l, l = u → Lib.splitK [b] 0 (Lib.count l [b]) l = Tx.split b l := by
  intro u n
  induction n generalizing u with
  | zero =>
    rintro hl l rfl
    have : l = [] := List.length_eq_zero_iff.1 (by omega)
    subst this
    rw [Lib.count_miss (by simp [Lib.index])]; rfl
  | succ n ih =>
    rintro hl l rfl
    by_cases hb : ∀ c ∈ l, ¬ c = b
    · rw [Lib.count_miss (Tx.index_no b hb), Tx.split_one hb]; rfl
    · obtain ⟨p, q, hpq, hp⟩ : ∃ p q, l = p ++ b :: q ∧ ∀ c ∈ p, ¬ c = b := by
        have hm : b ∈ l := Classical.byContradiction fun hm => hb fun c hc e => hm (by rw [← e]; exact hc)
        obtain ⟨p, q, h1, h2⟩ := List.eq_append_cons_of_mem hm
        exact ⟨p, q, h1, fun c hc e => h2 (by rw [← e]; exact hc)⟩
      have hi := Tx.index_at b hp q
      rw [hpq, Lib.count_hit (by simp) hi, Tx.split_app hp, Nat.add_comm 1, Lib.splitK, hi, if_neg (by rw [beq_iff_eq]; omega), Int.toNat_natCast]
      have hd : (p ++ b :: q).drop (p.length + [b].length) = q := by simp
      rw [hd, ih q (by rw [hpq] at hl; simp at hl; omega) q rfl]
      simp
theorem Tx.split_len (b : UInt8) : ∀ (l u : List UInt8), u ∈ Tx.split b l → u.length ≤ l.length
  | [], u, h => by simp [Tx.split] at h; simp [h]
  | x :: xs, u, h => by
    rw [Tx.split] at h
    split at h
    · rcases List.mem_cons.1 h with rfl | h
      · simp
      · have := Tx.split_len b xs u h
        simp only [List.length_cons]; omega
    · have ih := Tx.split_len b xs
      split at h
      · rcases List.mem_cons.1 h with rfl | h
        · simp
        · cases h
      · rename_i y ys hq
        rw [hq] at ih
        rcases List.mem_cons.1 h with rfl | h
        · have := ih y (by simp)
          simp only [List.length_cons]; omega
        · have := ih u (by simp [h])
          simp only [List.length_cons]; omega
theorem Tx.split_size {s wd : ByteArray} {b : UInt8} {W : List ByteArray} {k : Nat} (hW : W.map (·.data.toList) = Tx.split b s.data.toList) (hk : W[k]? = some wd) : wd.size ≤ s.size := by
  rw [Lib.size_eq, Lib.size_eq]
  refine Tx.split_len b _ _ ?_
  rw [← hW]
  exact List.mem_map.2 ⟨wd, List.mem_of_getElem? hk, rfl⟩
theorem Tx.splitB_eq (s : ByteArray) (b : UInt8) : (Lib.splitB ⟨#[b]⟩ 0 (Lib.countB s ⟨#[b]⟩) s).map (·.data.toList) = Tx.split b s.data.toList := by
  rw [Lib.splitB_data]
  exact Tx.splitK_eq b s.data.toList _ (Nat.le_refl _) _ rfl

end Go.Proofs.YtaggjadgbmmjoaaGreatDoor

/- Reading slots from a text, in the reference. Condition: at most 1048576 bytes. -/
namespace Go.Proofs.YtaggjadgbmmjoaaGreatDoor
open Go.RowKit Go.ChangeShapes Go.WideShapes Go.Deep

theorem Tx.grown_drewN {w w' : World} {row : Option Nat} (h : w.grownBy w' row) (n : Nat) : w.grownBy (w'.drewN n) row := ⟨h.os, h.tape, h.output, h.size, h.block⟩
def Tx.stUp (c : UInt8) (k : Nat) : Int := if Tx.stOf c < k then Tx.stOf c else 0
theorem Tx.stOf_cases (c : UInt8) : Tx.stOf c = 0 ∨ Tx.stOf c = 1 ∨ Tx.stOf c = 2 ∨ Tx.stOf c = 3 := by
  unfold Tx.stOf
  split
  · simp
  · split
    · simp
    · split <;> simp
theorem Tx.stUp_1 (c : UInt8) : Tx.stUp c 1 = 0 := by
  rcases Tx.stOf_cases c with h | h | h | h <;> simp [Tx.stUp, h]
theorem Tx.stUp_4 (c : UInt8) : Tx.stUp c 4 = Tx.stOf c := by
  rcases Tx.stOf_cases c with h | h | h | h <;> simp [Tx.stUp, h]
theorem Tx.stUp_yes {c : UInt8} {k : Nat} (h : Tx.stOf c = k) : Tx.stUp c (k + 1) = k := by
  rw [Tx.stUp, h, if_pos (by omega)]
theorem Tx.stUp_no {c : UInt8} {k : Nat} (h : ¬ Tx.stOf c = k) : Tx.stUp c (k + 1) = Tx.stUp c k := by
  unfold Tx.stUp
  by_cases h1 : Tx.stOf c < (k : Int)
  · rw [if_pos h1, if_pos (by omega)]
  · rw [if_neg h1, if_neg (by omega)]
theorem Tx.stOf_is (c : UInt8) : (c = 112 ↔ Tx.stOf c = 1) ∧ (c = 97 ↔ Tx.stOf c = 2) ∧ (c = 98 ↔ Tx.stOf c = 3) := by
  unfold Tx.stOf
  by_cases h1 : c = 112
  · subst h1; decide
  · by_cases h2 : c = 97
    · subst h2; decide
    · by_cases h3 : c = 98
      · subst h3; decide
      · simp [h1, h2, h3]

def Tx.PaE (s : ByteArray) (w w' : World) (e : Ending) : Prop := ∃ (v : Value) (out : List Sl) (ok : Bool), e = .returned (.tuple #[v, .bool ok]) ∧ Tx.Pa s out ok ∧ Ow Sl.cells 3 34 w' w.heap.size w'.heap.size v out

set_option maxRecDepth 8000 in
set_option maxHeartbeats 8000000 in
theorem specParseSlots_any (s : ByteArray) (w : World) (hs : s.size ≤ 1048576) :
    Calls Tryz.prog 24 #[.string s] w fun e w' => Tx.PaE s w w' e ∧ Below w.heap.size w w' := by
  have hb0 := (Below.refl w.heap.size w).alloc (Nat.le_refl _) (.cells #[] 34)
  have hf0 := own_empty w (base := w.heap.size) 34 3 (Nat.le_refl _)
  have zw0 := hb0.size
  go_enter Tryz.func24, Tryz.ntmps24
  go_upto_region 2 with fail
  generalize w.alloc _ = w0 at hb0 hf0 zw0 ⊢
  have c1 : Calls Tryz.prog 53 #[.string s, .int .u8 32] w0 _ := l1Split_any s 32 w0 hs
  go_wp2_with fail
  refine c1.mono ?_; rintro q_ w1 ⟨vW, W, rfl, hWl, HW0, oW, b1⟩
  clear c1
  have HW : Hid (W.map (·.data.toList) = Tx.split 32 s.data.toList) := HW0
  clear HW0
  have hf := own_below hf0 b1
  have hbr := hb0.trans (b1.mono hb0.size)
  have zw1 := b1.size
  clear b1 hf0 hb0
  obtain ⟨AW, nW, cW, rfl, HN, hcW, hmW⟩ := oW.form
  clear hWl
  by_cases h40 : 40 < s.size
  · have hd1 : decide ((40 : Int) < (s.size : Int)) = true := decide_eq_true (by omega)
    have hd2 : decide (40 < s.size) = true := decide_eq_true h40
    have HF := Lib.hid (Tx.pa_long h40)
    clear h40
    go_wp2_with fail
    go_ret2
    exact ⟨⟨_, [], false, rfl, HF.out, Ow.of_own Sl.cells_len hf rfl rfl⟩, hbr⟩
  have hd1 : decide ((40 : Int) < (s.size : Int)) = false := decide_eq_false (by omega)
  have hd2 : decide (40 < s.size) = false := decide_eq_false h40
  by_cases h4 : nW = 4
  rotate_left
  · have he1 : ((nW : Int) != 4) = true := by rw [bne_iff_ne]; omega
    have he2 : (nW != 4) = true := by rw [bne_iff_ne]; exact h4
    have he3 : (nW == 4) = false := by rw [beq_eq_false_iff_ne]; exact h4
    have HF := Lib.hid (Tx.pa_count HW.out (by rw [← HN.out]; exact h4))
    clear h4
    go_wp2_with fail
    go_ret2
    exact ⟨⟨_, [], false, rfl, HF.out, Ow.of_own Sl.cells_len hf rfl rfl⟩, hbr⟩
  have he1 : ((nW : Int) != 4) = false := by rw [bne_eq_false_iff_eq]; omega
  have he2 : (nW != 4) = false := by rw [bne_eq_false_iff_eq]; exact h4
  have he3 : (nW == 4) = true := by rw [beq_iff_eq]; exact h4
  have hn1 : nW ≤ 4 := by omega
  have hn2 : 4 ≤ nW := by omega
  have hs40 : s.size ≤ 40 := by omega
  clear h4 h40 hs
  go_wp2_with fail
  go_loopw [4, 6] (fun v4 v6 wr => ∃ (k : Nat) (outs : List Sl), k ≤ nW ∧ v6 = .int .i64 k ∧ Hid (outs.length = k ∧ Tx.Pre s k outs) ∧ Below w.heap.size w wr ∧ wr.ownsRow w.heap.size 34 3 v4 k (outs.flatMap Sl.cells) ∧ Ow St.cells 1 9 wr w0.heap.size wr.heap.size (.slice AW nW cW) W) (fun _ i _ => nW - (intOf i).toNat)
  case atStart => exact ⟨0, [], Nat.zero_le _, rfl, Lib.hid ⟨rfl, Tx.Pre.start s⟩, hbr, hf, oW⟩
  case round =>
    clear hf oW hbr
    obtain ⟨k, outs, hk, rfl, HP, hbr, hf, oW⟩ := hrel
    have hbs := hbr.size
    by_cases hlt : k < nW
    · obtain ⟨b, off, wd, rfl, hwd, hbl0, hbl, f0⟩ := St.get oW.rd hlt (Below.refl wr.heap.size wr) (by omega)
      have hws : wd.size ≤ 40 := Nat.le_trans (Tx.split_size HW.out hwd.out) hs40
      have hbx := (Below.refl wr.heap.size wr).alloc (Nat.le_refl _) (.cells #[.int .i64 0, .int .i64 0, .int .i64 0] 34)
      have bx := Box.new wr #[.int .i64 0, .int .i64 0, .int .i64 0] 34 rfl
      have hf2 := hf.alloc (.cells #[.int .i64 0, .int .i64 0, .int .i64 0] 34)
      have hne : u4.ownBlock ≠ some wr.heap.size := fun e => by have := (hf.lt _ e).2; omega
      go_upto_region 9 with fail
      replace hbr := hbr.trans (hbx.mono hbs)
      replace oW := oW.below hbx (by omega)
      have z1 := hbx.size
      replace f0 := (hbx.cell (p := ⟨b, off + k, none⟩) hbl).trans f0
      clear hf hbx
      have hf := hf2
      clear hf2
      generalize wr.alloc _ = w2 at hf hbr oW bx z1 f0 ⊢
      generalize hgg : wr.heap.size = g at hbs bx hne z1 hbl oW ⊢
      clear hgg
      have gl2 := bx.lt
      have c2 : Calls Tryz.prog 53 #[.string wd, .int .u8 58] w2 _ := l1Split_any wd 58 w2 (by omega)
      go_wp2_with fail
      refine c2.mono ?_; rintro q_ w3 ⟨vS, S, rfl, hSl, HS0, oS, b3⟩
      clear c2 f0 hSl
      have HS : Hid (S.map (·.data.toList) = Tx.split 58 wd.data.toList) := HS0
      clear HS0
      replace oW := oW.below b3 (by omega)
      have hf := own_below hf b3
      replace hbr := hbr.trans (b3.mono hbr.size)
      replace bx := bx.below b3 bx.lt
      have z3 := b3.size
      clear b3
      have gl := bx.lt
      obtain ⟨AS, nS, cS, rfl, HNS, hcS, hmS⟩ := oS.form
      by_cases h2 : nS = 2
      rotate_left
      · have he1 : ((nS : Int) == 2) = false := by rw [beq_eq_false_iff_ne]; omega
        have he2 : (nS == 2) = false := by rw [beq_eq_false_iff_ne]; exact h2
        have HX := Lib.hid (Tx.wd_none HS.out (fun a b e => by exfalso; apply h2; rw [HNS.out, e]; rfl))
        clear h2
        have x0 := bx.cell (j := 0) rfl
        have x1 := bx.cell (j := 1) rfl
        have x2 := bx.cell (j := 2) rfl
        have xz := bx.frozen
        have xl := bx.lt
        have oL := hf.alloc (.cells #[.int .i64 0, .int .i64 0, .int .i64 0] 34)
        have hbL := hbr.alloc (by omega) (.cells #[.int .i64 0, .int .i64 0, .int .i64 0] 34)
        have oWL := oW.below ((Below.refl w3.heap.size w3).alloc (Nat.le_refl _) (.cells #[.int .i64 0, .int .i64 0, .int .i64 0] 34)) (by omega)
        have HP2 := Lib.hid (show (outs ++ [(⟨0, 0, 0⟩ : Sl)]).length = k + 1 ∧ Tx.Pre s (k + 1) (outs ++ [⟨0, 0, 0⟩]) from ⟨by rw [List.length_append, HP.out.1]; rfl, HP.out.2.succ HW.out hwd.out HX.out⟩)
        go_wp2_with (at_builtin; (refine Sl.app_one rfl _ _ rfl w.heap.size u4 k _ rfl oL (g := w3.heap.size) (c := 1) ⟨0, 0, 0⟩ rfl (fun j u hu => cell_new _ _ _ rfl (by simpa [Sl.cells] using hu)) (by omega) (by simp; omega) ?_); (intro v8 w8 o8 g8))
        go_roundw
        case rel =>
          refine ⟨k + 1, outs ++ [⟨0, 0, 0⟩], by omega, by go_num, HP2, hbL.grown g8 (by simp; omega) (fun q e => (oL.lt q e).1), ?_, ?_⟩
          · rw [List.flatMap_append]
            simpa using o8
          · exact (oWL.grown_own oL g8 (by decide)).mono (Nat.le_refl _) (by have := g8.size; simp at this; omega)
        case measure => simp [intOf]; omega
      have h2a : 0 < nS := by omega
      have h2b : 1 < nS := by omega
      have he1 : ((nS : Int) == 2) = true := by rw [beq_iff_eq]; omega
      have he2 : (nS == 2) = true := by rw [beq_iff_eq]; exact h2
      obtain ⟨bS, oSf, a, hAS, ha, hbS0, hbS, fa⟩ := St.get oS.rd h2a (Below.refl w3.heap.size w3) (by omega)
      obtain ⟨bS', oSf', b', hAS', hb', _, _, fb⟩ := St.get oS.rd h2b (Below.refl w3.heap.size w3) (by omega)
      subst hAS
      injection hAS' with hAS'
      injection hAS' with e1 e2
      subst e1; subst e2
      rw [Nat.add_zero] at fa
      have HSab : Hid (S = [a, b'] ∧ Tx.split 58 wd.data.toList = [a.data.toList, b'.data.toList]) := Lib.hid (by
        have hS2 : S.length = 2 := by rw [← HNS.out]; exact h2
        have h3 := ha.out
        have h4 := hb'.out
        have hSe : S = [a, b'] := by
          cases S with
          | nil => simp at hS2
          | cons x S =>
            cases S with
            | nil => simp at hS2
            | cons y S =>
              cases S with
              | cons z S => simp at hS2
              | nil => simp at h3 h4; rw [h3, h4]
        exact ⟨hSe, by rw [← HS.out, hSe]; rfl⟩)
      have has : a.size ≤ 40 := Nat.le_trans (Tx.split_size HS.out ha.out) hws
      have hbs' : b'.size ≤ 40 := Nat.le_trans (Tx.split_size HS.out hb'.out) hws
      clear h2 ha hb' HNS HS
      by_cases ha2 : a.size = 2
      rotate_left
      · have he3 : ((a.size : Int) == 2) = false := by rw [beq_eq_false_iff_ne]; omega
        have he4 : (a.size == 2) = false := by rw [beq_eq_false_iff_ne]; exact ha2
        have HX := Lib.hid (Tx.wd_none (S := [a, b']) HSab.out.2.symm (fun x y e => by injection e with e _; rw [← e]; exact ha2))
        clear ha2
        have x0 := bx.cell (j := 0) rfl
        have x1 := bx.cell (j := 1) rfl
        have x2 := bx.cell (j := 2) rfl
        have xz := bx.frozen
        have xl := bx.lt
        have oL := hf.alloc (.cells #[.int .i64 0, .int .i64 0, .int .i64 0] 34)
        have hbL := hbr.alloc (by omega) (.cells #[.int .i64 0, .int .i64 0, .int .i64 0] 34)
        have oWL := oW.below ((Below.refl w3.heap.size w3).alloc (Nat.le_refl _) (.cells #[.int .i64 0, .int .i64 0, .int .i64 0] 34)) (by omega)
        have HP2 := Lib.hid (show (outs ++ [(⟨0, 0, 0⟩ : Sl)]).length = k + 1 ∧ Tx.Pre s (k + 1) (outs ++ [⟨0, 0, 0⟩]) from ⟨by rw [List.length_append, HP.out.1]; rfl, HP.out.2.succ HW.out hwd.out HX.out⟩)
        go_wp2_with (at_builtin; (refine Sl.app_one rfl _ _ rfl w.heap.size u4 k _ rfl oL (g := w3.heap.size) (c := 1) ⟨0, 0, 0⟩ rfl (fun j u hu => cell_new _ _ _ rfl (by simpa [Sl.cells] using hu)) (by omega) (by simp; omega) ?_); (intro v8 w8 o8 g8))
        go_roundw
        case rel =>
          refine ⟨k + 1, outs ++ [⟨0, 0, 0⟩], by omega, by go_num, HP2, hbL.grown g8 (by simp; omega) (fun q e => (oL.lt q e).1), ?_, ?_⟩
          · rw [List.flatMap_append]
            simpa using o8
          · exact (oWL.grown_own oL g8 (by decide)).mono (Nat.le_refl _) (by have := g8.size; simp at this; omega)
        case measure => simp [intOf]; omega
      have he3 : ((a.size : Int) == 2) = true := by rw [beq_iff_eq]; omega
      have he4 : (a.size == 2) = true := by rw [beq_iff_eq]; exact ha2
      have ha0 : 0 < a.size := by omega
      have ha1 : (1 : Int) ≤ (a.size : Int) := by omega
      have hxc : a.data.toList[0]? = some (a[0]'ha0) := by
        rw [List.getElem?_eq_getElem (by rw [← Lib.size_eq]; exact ha0)]; rfl
      have HC := Lib.hid hxc
      clear hxc
      generalize hc : a[0]'ha0 = c at *
      clear ha2
      go_wp2_with fail
      go_loopw [9] (fun v9 wr => ∃ kk : Nat, 1 ≤ kk ∧ kk ≤ 4 ∧ v9 = .int .i64 kk ∧ w3.grownBy wr (some g) ∧ Box wr g 34 [.int .i64 (Tx.stUp c kk), .int .i64 0, .int .i64 0]) (fun i _ => 4 - (intOf i).toNat)
      case atStart => exact ⟨1, Nat.le_refl _, by omega, rfl, World.grownBy.refl w3 _, by rw [Tx.stUp_1]; exact bx⟩
      case round =>
        obtain ⟨kk, hk1, hk4, rfl, gq, bq⟩ := hrel
        have zq := gq.size
        have fq : wr.cell? ⟨bS, oSf, none⟩ = some (.string a) := (World.cell?_of_block (a := ⟨bS, oSf, none⟩) (gq.block bS hbS (fun e => by injection e with e; omega))).trans fa
        by_cases hk3 : kk ≤ 3
        · clear hf hbr oW bx fa fb
          rcases (show kk = 1 ∨ kk = 2 ∨ kk = 3 by omega) with rfl | rfl | rfl
          · by_cases hq : c = 112
            · have hc2 : ((((ByteArray.mk #[45, 112, 97, 98])[1]'(by decide)).toNat : Int) == (c.toNat : Int)) = true := by rw [hq]; rfl
              have HU := Lib.hid (Tx.stUp_yes (c := c) (k := 1) ((Tx.stOf_is c).1.1 hq))
              clear hq
              go_wp2_with fail
              go_quiet (fail)
              have bq2 := bq.drewN nq
              have gq2 := Tx.grown_drewN gq nq
              generalize wr.drewN nq = wd at bq2 gq2 ⊢
              have x0 := bq2.cell (j := 0) rfl
              have xz := bq2.frozen
              have xl := bq2.lt
              go_wp2_with fail
              generalize hwz : World.setCell _ _ _ = wz_
              obtain rfl : wz_ = setL wd g 0 [.int .i64 1] := hwz.symm
              clear hwz
              go_roundw
              case rel => exact ⟨2, by omega, by omega, rfl, grown_trans gq2 (setL_grown _ _ _ _), by rw [show Tx.stUp c 2 = 1 from HU.out]; exact bq2.set1 (j := 0) (.int .i64 1) (by simp)⟩
              case measure => simp [intOf]
            · have hc2 : ((((ByteArray.mk #[45, 112, 97, 98])[1]'(by decide)).toNat : Int) == (c.toNat : Int)) = false := by
                rw [beq_eq_false_iff_ne]; intro e
                have e : ((112 : Nat) : Int) = (c.toNat : Int) := e
                exact hq (UInt8.toNat_inj.1 (by show c.toNat = 112; omega))
              have HU := Lib.hid (Tx.stUp_no (c := c) (k := 1) (fun e => hq ((Tx.stOf_is c).1.2 e)))
              clear hq
              go_wp2_with fail
              go_quiet (fail)
              have bq2 := bq.drewN nq
              have gq2 := Tx.grown_drewN gq nq
              generalize wr.drewN nq = wd at bq2 gq2 ⊢
              go_wp2_with fail
              go_roundw
              case rel => exact ⟨2, by omega, by omega, rfl, gq2, by rw [show Tx.stUp c 2 = Tx.stUp c 1 from HU.out]; exact bq2⟩
              case measure => simp [intOf]
          · by_cases hq : c = 97
            · have hc2 : ((((ByteArray.mk #[45, 112, 97, 98])[2]'(by decide)).toNat : Int) == (c.toNat : Int)) = true := by rw [hq]; rfl
              have HU := Lib.hid (Tx.stUp_yes (c := c) (k := 2) ((Tx.stOf_is c).2.1.1 hq))
              clear hq
              go_wp2_with fail
              go_quiet (fail)
              have bq2 := bq.drewN nq
              have gq2 := Tx.grown_drewN gq nq
              generalize wr.drewN nq = wd at bq2 gq2 ⊢
              have x0 := bq2.cell (j := 0) rfl
              have xz := bq2.frozen
              have xl := bq2.lt
              go_wp2_with fail
              generalize hwz : World.setCell _ _ _ = wz_
              obtain rfl : wz_ = setL wd g 0 [.int .i64 2] := hwz.symm
              clear hwz
              go_roundw
              case rel => exact ⟨3, by omega, by omega, rfl, grown_trans gq2 (setL_grown _ _ _ _), by rw [show Tx.stUp c 3 = 2 from HU.out]; exact bq2.set1 (j := 0) (.int .i64 2) (by simp)⟩
              case measure => simp [intOf]
            · have hc2 : ((((ByteArray.mk #[45, 112, 97, 98])[2]'(by decide)).toNat : Int) == (c.toNat : Int)) = false := by
                rw [beq_eq_false_iff_ne]; intro e
                have e : ((97 : Nat) : Int) = (c.toNat : Int) := e
                exact hq (UInt8.toNat_inj.1 (by show c.toNat = 97; omega))
              have HU := Lib.hid (Tx.stUp_no (c := c) (k := 2) (fun e => hq ((Tx.stOf_is c).2.1.2 e)))
              clear hq
              go_wp2_with fail
              go_quiet (fail)
              have bq2 := bq.drewN nq
              have gq2 := Tx.grown_drewN gq nq
              generalize wr.drewN nq = wd at bq2 gq2 ⊢
              go_wp2_with fail
              go_roundw
              case rel => exact ⟨3, by omega, by omega, rfl, gq2, by rw [show Tx.stUp c 3 = Tx.stUp c 2 from HU.out]; exact bq2⟩
              case measure => simp [intOf]
          · by_cases hq : c = 98
            · have hc2 : ((((ByteArray.mk #[45, 112, 97, 98])[3]'(by decide)).toNat : Int) == (c.toNat : Int)) = true := by rw [hq]; rfl
              have HU := Lib.hid (Tx.stUp_yes (c := c) (k := 3) ((Tx.stOf_is c).2.2.1 hq))
              clear hq
              go_wp2_with fail
              go_quiet (fail)
              have bq2 := bq.drewN nq
              have gq2 := Tx.grown_drewN gq nq
              generalize wr.drewN nq = wd at bq2 gq2 ⊢
              have x0 := bq2.cell (j := 0) rfl
              have xz := bq2.frozen
              have xl := bq2.lt
              go_wp2_with fail
              generalize hwz : World.setCell _ _ _ = wz_
              obtain rfl : wz_ = setL wd g 0 [.int .i64 3] := hwz.symm
              clear hwz
              go_roundw
              case rel => exact ⟨4, by omega, by omega, rfl, grown_trans gq2 (setL_grown _ _ _ _), by rw [show Tx.stUp c 4 = 3 from HU.out]; exact bq2.set1 (j := 0) (.int .i64 3) (by simp)⟩
              case measure => simp [intOf]
            · have hc2 : ((((ByteArray.mk #[45, 112, 97, 98])[3]'(by decide)).toNat : Int) == (c.toNat : Int)) = false := by
                rw [beq_eq_false_iff_ne]; intro e
                have e : ((98 : Nat) : Int) = (c.toNat : Int) := e
                exact hq (UInt8.toNat_inj.1 (by show c.toNat = 98; omega))
              have HU := Lib.hid (Tx.stUp_no (c := c) (k := 3) (fun e => hq ((Tx.stOf_is c).2.2.2 e)))
              clear hq
              go_wp2_with fail
              go_quiet (fail)
              have bq2 := bq.drewN nq
              have gq2 := Tx.grown_drewN gq nq
              generalize wr.drewN nq = wd at bq2 gq2 ⊢
              go_wp2_with fail
              go_roundw
              case rel => exact ⟨4, by omega, by omega, rfl, gq2, by rw [show Tx.stUp c 4 = Tx.stUp c 3 from HU.out]; exact bq2⟩
              case measure => simp [intOf]
        · obtain rfl : kk = 4 := by omega
          rw [Tx.stUp_4] at bq
          replace fb := (World.cell?_of_block (a := ⟨bS, oSf + 1, none⟩) (gq.block bS hbS (fun e => by injection e with e; omega))).trans fb
          replace hf := hf.kept gq (.inr hne)
          replace hbr := hbr.grown gq (by omega) (fun q e => by injection e with e; omega)
          replace oW := oW.keep (w' := wr) (fun q h1 h2 h3 => gq.block q h3 (fun e => by injection e with e; omega))
          clear bx fa gq
          have bx := bq
          clear bq
          have gl := bx.lt
          obtain ⟨A1, hA1⟩ : ∃ T, a.extract 1 a.size = T := ⟨_, rfl⟩
          have hA1s : A1.size ≤ 40 := by rw [← hA1, ByteArray.size_extract]; omega
          have c3 := l1Read_any A1 wr (by omega)
          go_wp2_with fail
          refine c3.mono ?_; rintro q_ w_ ⟨⟨n1, k1, rfl, hR1⟩, m1, rfl⟩
          have HR1 := Lib.hid hR1
          clear hR1 c3 fq
          replace hf : (wr.drewN m1).ownsRow w.heap.size 34 3 u4 k (outs.flatMap Sl.cells) := hf
          replace hbr := below_drewN hbr m1
          replace oW := oW.keep (w' := wr.drewN m1) (fun _ _ _ _ => rfl)
          replace bx := bx.drewN m1
          replace fb : (wr.drewN m1).cell? ⟨bS, oSf + 1, none⟩ = some (.string b') := fb
          have glw5 := bx.lt
          generalize wr.drewN m1 = w5 at hf hbr oW bx glw5 fb ⊢
          have x0 := bx.cell (j := 0) rfl
          have x1 := bx.cell (j := 1) rfl
          have x2 := bx.cell (j := 2) rfl
          have xz := bx.frozen
          have xl := bx.lt
          go_upto_region 17 with fail
          clear x0 x1 x2 xz xl
          generalize hwz : World.setCell _ _ _ = wz_
          obtain rfl : wz_ = setL w5 g 1 [.int .i64 n1] := hwz.symm
          clear hwz
          replace hf := hf.kept (setL_grown [.int .i64 n1] w5 g 1) (.inr hne)
          replace hbr := setL_below hbr [.int .i64 n1] g 1 (by omega)
          replace oW := oW.keep (w' := setL w5 g 1 [.int .i64 n1]) (fun q h1 h2 _ => setL_other _ _ _ _ q (by omega))
          replace fb := (World.cell?_of_block (a := ⟨bS, oSf + 1, none⟩) (setL_other [.int .i64 n1] w5 g 1 bS (by omega))).trans fb
          replace bx : Box (setL w5 g 1 [.int .i64 n1]) g 34 [.int .i64 (Tx.stOf c), .int .i64 n1, .int .i64 0] := bx.set1 (j := 1) (.int .i64 n1) (by simp)
          have zs1 : (setL w5 g 1 [.int .i64 n1]).heap.size = w5.heap.size := setL_size _ _ _ _
          have gl1 := bx.lt
          have zt1 : w5.heap.size ≤ (setL w5 g 1 [.int .i64 n1]).heap.size := by omega
          clear zs1
          generalize setL w5 _ _ _ = w6 at hf hbr oW bx zt1 gl1 fb ⊢
          have c3 := l1Read_any b' w6 (by omega)
          go_wp2_with fail
          refine c3.mono ?_; rintro q_ w_ ⟨⟨n2, k2, rfl, hR2⟩, m2, rfl⟩
          have HX := Lib.hid (Tx.wd_spec HSab.out.2 HC.out (by rw [hA1]; exact HR1.out) hR2)
          clear hR2 c3
          replace hf : (w6.drewN m2).ownsRow w.heap.size 34 3 u4 k (outs.flatMap Sl.cells) := hf
          replace hbr := below_drewN hbr m2
          replace oW := oW.keep (w' := w6.drewN m2) (fun _ _ _ _ => rfl)
          replace bx := bx.drewN m2
          have glw7 := bx.lt
          generalize w6.drewN m2 = w7 at hf hbr oW bx glw7 ⊢
          have x0 := bx.cell (j := 0) rfl
          have x1 := bx.cell (j := 1) rfl
          have x2 := bx.cell (j := 2) rfl
          have xz := bx.frozen
          have xl := bx.lt
          go_upto_region 18 with fail
          clear x0 x1 x2 xz xl
          generalize hwz : World.setCell _ _ _ = wz_
          obtain rfl : wz_ = setL w7 g 2 [.int .i64 n2] := hwz.symm
          clear hwz
          replace hf := hf.kept (setL_grown [.int .i64 n2] w7 g 2) (.inr hne)
          replace hbr := setL_below hbr [.int .i64 n2] g 2 (by omega)
          replace oW := oW.keep (w' := setL w7 g 2 [.int .i64 n2]) (fun q h1 h2 _ => setL_other _ _ _ _ q (by omega))
          replace bx : Box (setL w7 g 2 [.int .i64 n2]) g 34 [.int .i64 (Tx.stOf c), .int .i64 n1, .int .i64 n2] := bx.set1 (j := 2) (.int .i64 n2) (by simp)
          have zs2 : (setL w7 g 2 [.int .i64 n2]).heap.size = w7.heap.size := setL_size _ _ _ _
          have gl2 := bx.lt
          have zt2 : w7.heap.size ≤ (setL w7 g 2 [.int .i64 n2]).heap.size := by omega
          clear zs2
          generalize setL w7 _ _ _ = w9 at hf hbr oW bx zt2 gl2 ⊢
          have x0 := bx.cell (j := 0) rfl
          have x1 := bx.cell (j := 1) rfl
          have x2 := bx.cell (j := 2) rfl
          have xz := bx.frozen
          have xl := bx.lt
          have oL := hf.alloc (.cells #[.int .i64 (Tx.stOf c), .int .i64 n1, .int .i64 n2] 34)
          have hbL := hbr.alloc (by omega) (.cells #[.int .i64 (Tx.stOf c), .int .i64 n1, .int .i64 n2] 34)
          have oWL := oW.below ((Below.refl w9.heap.size w9).alloc (Nat.le_refl _) (.cells #[.int .i64 (Tx.stOf c), .int .i64 n1, .int .i64 n2] 34)) (by omega)
          have HP2 := Lib.hid (show (outs ++ [(⟨(Tx.stOf c), n1, n2⟩ : Sl)]).length = k + 1 ∧ Tx.Pre s (k + 1) (outs ++ [⟨(Tx.stOf c), n1, n2⟩]) from ⟨by rw [List.length_append, HP.out.1]; rfl, HP.out.2.succ HW.out hwd.out HX.out⟩)
          go_wp2_with (at_builtin; (refine Sl.app_one rfl _ _ rfl w.heap.size u4 k _ rfl oL (g := w9.heap.size) (c := 1) ⟨(Tx.stOf c), n1, n2⟩ rfl (fun j u hu => cell_new _ _ _ rfl (by simpa [Sl.cells] using hu)) (by omega) (by simp; omega) ?_); (intro v8 w8 o8 g8))
          go_roundw
          case rel =>
            refine ⟨k + 1, outs ++ [⟨(Tx.stOf c), n1, n2⟩], by omega, by go_num, HP2, hbL.grown g8 (by simp; omega) (fun q e => (oL.lt q e).1), ?_, ?_⟩
            · rw [List.flatMap_append]
              simpa using o8
            · exact (oWL.grown_own oL g8 (by decide)).mono (Nat.le_refl _) (by have := g8.size; simp at this; omega)
          case measure => simp [intOf]; omega
    · obtain rfl : k = nW := by omega
      have HP4 := Lib.hid (show Tx.Pre s 4 outs from by have := HP.out.2; rwa [show k = 4 by omega] at this)
      have oT := Ow.of_own Sl.cells_len hf rfl HP.out.1.symm
      have c1 := l8Good_any _ outs wr oT.rd (Nat.le_refl _)
      have c2 := fun W (b : Below wr.heap.size wr W) hg => l8Text_any _ outs W (oT.rd.below b (Nat.le_refl _)) b.size hg
      clear HP
      cases hg : Sl.good outs
      · rw [hg] at c1
        have HF := Lib.hid (HP4.out.bad hg)
        clear hg c2 HP4
        go_wp2_with fail
        refine c1.mono ?_; rintro q_ w9 ⟨rfl, b9⟩
        clear c1
        have hbe := hbr.trans (b9.mono hbs)
        have zz := hbe.size
        have oE := own_empty w9 (base := w.heap.size) 34 3 zz
        go_wp2_with fail
        go_ret2
        exact ⟨⟨_, [], false, rfl, HF.out, Ow.of_own Sl.cells_len oE rfl rfl⟩, hbe.alloc zz _⟩
      · rw [hg] at c1
        obtain ⟨T, hT⟩ : ∃ T : ByteArray, T = ⟨(Tx.text outs).toArray⟩ := ⟨_, rfl⟩
        rw [← hT] at c2
        have c2 := fun W b => c2 W b hg
        have HT := Lib.hid hT
        have HG := Lib.hid hg
        clear hT hg
        go_wp2_with fail
        refine c1.mono ?_; rintro q_ w9 ⟨rfl, b9⟩
        clear c1
        have hbe := hbr.trans (b9.mono hbs)
        have oTe := oT.below b9 (Nat.le_refl _)
        have c3 := c2 _ b9
        go_wp2_with fail
        refine c3.mono ?_; rintro q_ w_ ⟨rfl, m, rfl⟩
        clear c2 c3
        have hbe2 := below_drewN hbe m
        have zz := hbe2.size
        have oTe2 := oTe.keep (w' := w9.drewN m) (fun _ _ _ _ => rfl)
        have hle : wr.heap.size ≤ (w9.drewN m).heap.size := b9.size
        generalize w9.drewN m = we at hbe2 zz oTe2 hle ⊢
        cases hq : (T.toList == s.toList)
        · have HF := Lib.hid (HP4.out.other HT.out hq)
          have oE := own_empty we (base := w.heap.size) 34 3 zz
          go_wp2_with fail
          go_ret2
          exact ⟨⟨_, [], false, rfl, HF.out, Ow.of_own Sl.cells_len oE rfl rfl⟩, hbe2.alloc zz _⟩
        · have HF := Lib.hid (Tx.pa_yes HG.out HT.out hq)
          go_wp2_with fail
          go_ret2
          exact ⟨⟨_, outs, true, rfl, HF.out, oTe2.mono (Nat.le_refl _) hle⟩, hbe2⟩

end Go.Proofs.YtaggjadgbmmjoaaGreatDoor

/- Reading slots from a text, in the program. Conditions: at most 1048576 bytes; the library's variables read as they are laid. -/
namespace Go.Proofs.YtaggjadgbmmjoaaGreatDoor
open Go.RowKit Go.ChangeShapes Go.WideShapes Go.Deep

theorem Tx.cut_len (l p : List UInt8) : (Lib.cut l p).1.length ≤ l.length ∧ (Lib.cut l p).2.1.length ≤ l.length := by
  unfold Lib.cut
  split
  · simp only [List.length_take, List.length_drop]; omega
  · simp
theorem split_any (s : ByteArray) (b : UInt8) (w : World) (hs : s.size ≤ 1048576) (hE : Tx.Env w) :
    Calls Tryz.prog 46 #[.string s, .string ⟨#[b]⟩] w fun e w' => ∃ v, ∃ W : List ByteArray, e = .returned v ∧ Hid (W.map (·.data.toList) = Tx.split b s.data.toList) ∧ Ow St.cells 1 9 w' w.heap.size w'.heap.size v W ∧ Below w.heap.size w w' := by
  obtain ⟨_, _, m, hm⟩ := hE
  refine (Any.strings_Split { laysSplit with } laysSplit.i9 s ⟨#[b]⟩ m w (by omega) hm (Nat.le_refl 1)).mono fun e w' ⟨he, hw⟩ => ?_
  have hle := Lib.countB_le ⟨#[b]⟩ (Nat.le_refl 1) s.size s (Nat.le_refl _)
  have hlen := Lib.splitB_all ⟨#[b]⟩ (Nat.le_refl 1) 0 _ s rfl
  refine ⟨_, Lib.splitB ⟨#[b]⟩ 0 (Lib.countB s ⟨#[b]⟩) s, he, Lib.hid (Tx.splitB_eq s b), ?_, by rw [hw]; exact (Below.refl w.heap.size w).alloc (Nat.le_refl _) _⟩
  subst hw
  generalize hL : Lib.splitB ⟨#[b]⟩ 0 (Lib.countB s ⟨#[b]⟩) s = L at hlen ⊢
  refine ⟨some ⟨w.heap.size, 0, none⟩, L.length, by rw [hlen], Nat.le_refl _, by unfold maxLen; omega, fun _ => ⟨w.heap.size, 0, (L.map Value.string).toArray, rfl, Nat.le_refl _, by simp, by rw [heap_alloc_new]; rfl, by simp, fun i x hi j u hu => ?_⟩⟩
  match j with
  | 0 =>
    obtain rfl : u = .string x := (Option.some.inj hu).symm
    simp [hi]
  | j + 1 => simp [St.cells] at hu
theorem cut_any (s : ByteArray) (w : World) (hs : s.size ≤ 1048576) (hE : Tx.Env w) :
    Calls Tryz.prog 48 #[.string s, .string ⟨#[58]⟩] w fun e w' => ∃ (A B : ByteArray) (ok : Bool), e = .returned (.tuple #[.string A, .string B, .bool ok]) ∧ Hid (A.data.toList = (Lib.cut s.data.toList [58]).1 ∧ B.data.toList = (Lib.cut s.data.toList [58]).2.1) ∧ A.size ≤ s.size ∧ B.size ≤ s.size ∧ ∃ n, w' = w.drewN n := by
  obtain ⟨_, _, m, hm⟩ := hE
  refine (Any.strings_Cut { laysCut with } s ⟨#[58]⟩ m w (by omega) hm).mono fun e w' ⟨he, hw⟩ => ?_
  have hc := Tx.cut_len s.data.toList [58]
  have hz := Lib.size_eq s
  exact ⟨_, _, _, he, Lib.hid ⟨rfl, rfl⟩, by rw [mk_size]; exact hz ▸ hc.1, by rw [mk_size]; exact hz ▸ hc.2, hw⟩
theorem index_any (c : UInt8) (w : World) : Calls Tryz.prog 47 #[.string ⟨#[45, 112, 97, 98]⟩, .int .u8 (c.toNat : Int)] w fun e w' => e = .returned (.int .i64 (Lib.indexByte [45, 112, 97, 98] c)) ∧ w = w' := by
  refine (Any.strings_IndexByte laysIndexByte ⟨#[45, 112, 97, 98]⟩ (c.toNat : Int) w).mono fun e w' ⟨he, hw⟩ => ⟨?_, hw.symm⟩
  rw [he, show ((c.toNat : Int).toNat.toUInt8) = c by simp]

set_option maxRecDepth 8000 in
set_option maxHeartbeats 8000000 in
theorem implParseSlots_any (s : ByteArray) (w : World) (hs : s.size ≤ 1048576) (hE : Tx.Env w) :
    Calls Tryz.prog 21 #[.string s] w fun e w' => Tx.PaE s w w' e ∧ Below w.heap.size w w' := by
  have c1 := split_any s 32 w hs hE
  go_enter Tryz.func21, Tryz.ntmps21
  go_wp2_with fail
  refine c1.mono ?_; rintro q_ w1 ⟨vW, W, rfl, HW, oW, hbr⟩
  clear c1
  have zw1 := hbr.size
  obtain ⟨AW, nW, cW, rfl, HN, hcW, hmW⟩ := oW.form
  by_cases h4 : nW = 4
  rotate_left
  · have he1 : ((nW : Int) != 4) = true := by rw [bne_iff_ne]; omega
    have he2 : (nW != 4) = true := by rw [bne_iff_ne]; exact h4
    have he3 : (nW == 4) = false := by rw [beq_eq_false_iff_ne]; exact h4
    have HF := Lib.hid (Tx.pa_count HW.out (by rw [← HN.out]; exact h4))
    clear h4
    go_wp2_with fail
    go_ret2
    exact ⟨⟨_, [], false, rfl, HF.out, Ow.nil_⟩, hbr⟩
  have he1 : ((nW : Int) != 4) = false := by rw [bne_eq_false_iff_eq]; omega
  have he2 : (nW != 4) = false := by rw [bne_eq_false_iff_eq]; exact h4
  have he3 : (nW == 4) = true := by rw [beq_iff_eq]; exact h4
  have hn1 : nW ≤ 4 := by omega
  have hn2 : 4 ≤ nW := by omega
  clear h4
  go_upto_region 5 with fail
  have hb0 := hbr.alloc zw1 (.cells #[] 34)
  have oW0 := oW.below ((Below.refl w1.heap.size w1).alloc (Nat.le_refl _) (.cells #[] 34)) (Nat.le_refl _)
  have hf0 := own_empty w1 (base := w.heap.size) 34 3 zw1
  have zz : w1.heap.size ≤ (w1.alloc (.cells #[] 34)).heap.size := by simp
  generalize w1.alloc _ = w2 at hb0 oW0 hf0 zz ⊢
  clear hbr oW
  go_wp2_with fail
  go_loopw [5, 24] (fun v5 v24 wr => ∃ (k : Nat) (outs : List Sl), k ≤ nW ∧ v24 = .int .i64 k ∧ Hid (outs.length = k ∧ Tx.Pre s k outs) ∧ Below w.heap.size w wr ∧ wr.ownsRow w.heap.size 34 3 v5 k (outs.flatMap Sl.cells) ∧ Ow St.cells 1 9 wr w.heap.size wr.heap.size (.slice AW nW cW) W) (fun _ i _ => nW - (intOf i).toNat)
  case atStart => exact ⟨0, [], Nat.zero_le _, rfl, Lib.hid ⟨rfl, Tx.Pre.start s⟩, hb0, hf0, oW0.mono (Nat.le_refl _) zz⟩
  case round =>
    clear hf0 oW0 hb0
    obtain ⟨k, outs, hk, rfl, HP, hbr, hf, oW⟩ := hrel
    have hbs := hbr.size
    by_cases hlt : k < nW
    · obtain ⟨b, off, wd, rfl, hwd, hbl0, hbl, f0⟩ := St.get oW.rd hlt (Below.refl wr.heap.size wr) (by omega)
      have hws : wd.size ≤ 1048576 := Nat.le_trans (Tx.split_size HW.out hwd.out) hs
      by_cases hw0 : wd.size = 0
      · have hwe : wd.data.toList = [] := List.length_eq_zero_iff.1 (by rw [← Lib.size_eq]; exact hw0)
        have hq1 : wd.toList.isEmpty = true := by rw [Lib.toList_data, hwe]; rfl
        have HF := Lib.hid (Tx.pa_un HW.out hwd.out (Tx.un_empty hwe))
        clear hw0 hwe
        go_wp2_with fail
        go_ret2
        exact ⟨⟨_, [], false, rfl, HF.out, Ow.nil_⟩, hbr⟩
      have hw1 : 0 < wd.size := by omega
      have hw2 : (1 : Int) ≤ (wd.size : Int) := by omega
      have hq1 : wd.toList.isEmpty = false := by
        rw [Bool.eq_false_iff]; intro e
        rw [List.isEmpty_iff, Lib.toList_data] at e
        have e3 := Lib.size_eq wd
        rw [e] at e3
        exact hw0 e3
      have hxc : wd.data.toList[0]? = some (wd[0]'hw1) := by
        rw [List.getElem?_eq_getElem (by rw [← Lib.size_eq]; exact hw1)]; rfl
      have HC := Lib.hid hxc
      clear hxc hw0
      generalize hc : wd[0]'hw1 = c at *
      have c2 := index_any c wr
      generalize hix : Lib.indexByte [45, 112, 97, 98] c = ix at c2
      have HI := Lib.hid hix
      clear hix
      go_wp2_with fail
      refine c2.mono ?_; rintro q_ w_ ⟨rfl, rfl⟩
      clear c2
      have hbx := (Below.refl wr.heap.size wr).alloc (Nat.le_refl _) (.cells #[.int .i64 ix, .int .i64 0, .int .i64 0] 34)
      have bx := Box.new wr #[.int .i64 ix, .int .i64 0, .int .i64 0] 34 rfl
      have hf2 := hf.alloc (.cells #[.int .i64 ix, .int .i64 0, .int .i64 0] 34)
      have hne : u5.ownBlock ≠ some wr.heap.size := fun e => by have := (hf.lt _ e).2; omega
      go_upto_region 11 with fail
      replace hbr := hbr.trans (hbx.mono hbs)
      replace oW := oW.below hbx (by omega)
      have z1 := hbx.size
      clear hf hbx f0
      have hf := hf2
      clear hf2
      generalize wr.alloc _ = w2 at hf hbr oW bx z1 ⊢
      generalize hgg : wr.heap.size = g at hbs bx hne z1 hbl oW ⊢
      clear hgg
      have gl := bx.lt
      by_cases h0 : ix = 0
      · have hz1 : (ix != 0) = false := by rw [bne_eq_false_iff_eq]; exact h0
        have HX := Lib.hid (show Tx.Wd wd ⟨ix, 0, 0⟩ from by rw [h0]; exact Tx.wd_zero HC.out (by rw [HI.out, h0]))
        clear h0
        have x0 := bx.cell (j := 0) rfl
        have x1 := bx.cell (j := 1) rfl
        have x2 := bx.cell (j := 2) rfl
        have xz := bx.frozen
        have xl := bx.lt
        have oL := hf.alloc (.cells #[.int .i64 ix, .int .i64 0, .int .i64 0] 34)
        have hbL := hbr.alloc (by omega) (.cells #[.int .i64 ix, .int .i64 0, .int .i64 0] 34)
        have oWL := oW.below ((Below.refl w2.heap.size w2).alloc (Nat.le_refl _) (.cells #[.int .i64 ix, .int .i64 0, .int .i64 0] 34)) (by omega)
        have HP2 := Lib.hid (show (outs ++ [(⟨ix, 0, 0⟩ : Sl)]).length = k + 1 ∧ Tx.Pre s (k + 1) (outs ++ [⟨ix, 0, 0⟩]) from ⟨by rw [List.length_append, HP.out.1]; rfl, HP.out.2.succ HW.out hwd.out HX.out⟩)
        go_wp2_with (at_builtin; (refine Sl.app_one rfl _ _ rfl w.heap.size u5 k _ rfl oL (g := w2.heap.size) (c := 1) ⟨ix, 0, 0⟩ rfl (fun j u hu => cell_new _ _ _ rfl (by simpa [Sl.cells] using hu)) (by omega) (by simp; omega) ?_); (intro v8 w8 o8 g8))
        go_roundw
        case rel =>
          refine ⟨k + 1, outs ++ [⟨ix, 0, 0⟩], by omega, by go_num, HP2, hbL.grown g8 (by simp; omega) (fun q e => (oL.lt q e).1), ?_, ?_⟩
          · rw [List.flatMap_append]
            simpa using o8
          · exact (oWL.grown_own oL g8 (by decide)).mono (Nat.le_refl _) (by have := g8.size; simp at this; omega)
        case measure => simp [intOf]; omega
      have hz1 : (ix != 0) = true := by rw [bne_iff_ne]; exact h0
      obtain ⟨T, hT⟩ : ∃ T, wd.extract 1 wd.size = T := ⟨_, rfl⟩
      have hTs : T.size ≤ 1048576 := by rw [← hT, ByteArray.size_extract]; omega
      have HT := Lib.hid (show T.data.toList = wd.data.toList.drop 1 from by rw [← hT]; exact Lib.extract_to_end wd 1)
      have c3 := cut_any T w2 hTs (hE.below hbr)
      have x0 := bx.cell (j := 0) rfl
      have x1 := bx.cell (j := 1) rfl
      have x2 := bx.cell (j := 2) rfl
      have xz := bx.frozen
      have xl := bx.lt
      go_wp2_with fail
      clear x0 x1 x2 xz xl
      refine c3.mono ?_; rintro q_ w_ ⟨A, B, ok, rfl, HAB, hAs, hBs, m1, rfl⟩
      clear c3
      replace hf : (w2.drewN m1).ownsRow w.heap.size 34 3 u5 k (outs.flatMap Sl.cells) := hf
      replace hbr := below_drewN hbr m1
      replace oW := oW.keep (w' := w2.drewN m1) (fun _ _ _ _ => rfl)
      replace bx := bx.drewN m1
      have glw3 := bx.lt
      generalize w2.drewN m1 = w3 at hf hbr oW bx glw3 ⊢
      have c4 := ParseInt_any A w3 (by omega) (hE.below hbr)
      have x0 := bx.cell (j := 0) rfl
      have x1 := bx.cell (j := 1) rfl
      have x2 := bx.cell (j := 2) rfl
      have xz := bx.frozen
      have xl := bx.lt
      go_wp2_with fail
      clear x0 x1 x2 xz xl
      refine c4.mono ?_; rintro q_ w4 ⟨⟨n1, k1, rfl, hR1⟩, b4⟩
      clear c4
      have HR1 := Lib.hid hR1
      clear hR1
      replace hf := own_below hf b4
      replace hbr := hbr.trans (b4.mono hbr.size)
      replace oW := oW.below b4 (by omega)
      replace bx := bx.below b4 bx.lt
      have glw4 := bx.lt
      have gsw4 := b4.size
      clear b4
      have c4 := ParseInt_any B w4 (by omega) (hE.below hbr)
      have x0 := bx.cell (j := 0) rfl
      have x1 := bx.cell (j := 1) rfl
      have x2 := bx.cell (j := 2) rfl
      have xz := bx.frozen
      have xl := bx.lt
      go_wp2_with fail
      clear x0 x1 x2 xz xl
      refine c4.mono ?_; rintro q_ w5 ⟨⟨n2, k2, rfl, hR2⟩, b5⟩
      clear c4
      have HQ := Lib.hid (Tx.wd_impl HC.out (by rw [HI.out]; exact h0) (by rw [← HT.out]; exact HAB.out.1) (by rw [← HT.out]; exact HAB.out.2) HR1.out hR2)
      clear hR2 h0
      rw [HI.out] at HQ
      replace hf := own_below hf b5
      replace hbr := hbr.trans (b5.mono hbr.size)
      replace oW := oW.below b5 (by omega)
      replace bx := bx.below b5 bx.lt
      have glw5 := bx.lt
      have gsw5 := b5.size
      clear b5
      cases k1
      · have HF := Lib.hid (Tx.pa_un HW.out hwd.out (fun t hf hw => by have := (HQ.out t hf hw).2.1; cases this))
        have x0 := bx.cell (j := 0) rfl
        have x1 := bx.cell (j := 1) rfl
        have x2 := bx.cell (j := 2) rfl
        have xz := bx.frozen
        have xl := bx.lt
        go_wp2_with fail
        clear x0 x1 x2 xz xl
        go_ret2
        exact ⟨⟨_, [], false, rfl, HF.out, Ow.nil_⟩, hbr⟩
      cases k2
      · have HF := Lib.hid (Tx.pa_un HW.out hwd.out (fun t hf hw => by have := (HQ.out t hf hw).2.2; cases this))
        have x0 := bx.cell (j := 0) rfl
        have x1 := bx.cell (j := 1) rfl
        have x2 := bx.cell (j := 2) rfl
        have xz := bx.frozen
        have xl := bx.lt
        go_wp2_with fail
        clear x0 x1 x2 xz xl
        go_ret2
        exact ⟨⟨_, [], false, rfl, HF.out, Ow.nil_⟩, hbr⟩
      have HX := Lib.hid (show Tx.Wd wd ⟨ix, n1, n2⟩ from fun t hf hw => (HQ.out t hf hw).1)
      have x0 := bx.cell (j := 0) rfl
      have x1 := bx.cell (j := 1) rfl
      have x2 := bx.cell (j := 2) rfl
      have xz := bx.frozen
      have xl := bx.lt
      go_upto_region 18 with fail
      clear x0 x1 x2 xz xl
      generalize hwz : World.setCell (World.setCell _ _ _) _ _ = wz_
      obtain rfl : wz_ = setL w5 g 1 [.int .i64 n1, .int .i64 n2] := hwz.symm
      clear hwz
      replace hf := hf.kept (setL_grown [.int .i64 n1, .int .i64 n2] w5 g 1) (.inr hne)
      replace hbr := setL_below hbr [.int .i64 n1, .int .i64 n2] g 1 (by omega)
      replace oW := oW.keep (w' := setL w5 g 1 [.int .i64 n1, .int .i64 n2]) (fun q h1 h2 _ => setL_other _ _ _ _ q (by omega))
      replace bx : Box (setL w5 g 1 [.int .i64 n1, .int .i64 n2]) g 34 [.int .i64 ix, .int .i64 n1, .int .i64 n2] := (bx.set1 (j := 1) (.int .i64 n1) (by simp)).set1 (j := 2) (.int .i64 n2) (by simp)
      have zs1 : (setL w5 g 1 [.int .i64 n1, .int .i64 n2]).heap.size = w5.heap.size := setL_size _ _ _ _
      have zt1 : w5.heap.size ≤ (setL w5 g 1 [.int .i64 n1, .int .i64 n2]).heap.size := by omega
      clear zs1
      generalize setL w5 _ _ _ = w6 at hf hbr oW bx zt1 ⊢
      have gl6 := bx.lt
      have x0 := bx.cell (j := 0) rfl
      have x1 := bx.cell (j := 1) rfl
      have x2 := bx.cell (j := 2) rfl
      have xz := bx.frozen
      have xl := bx.lt
      have oL := hf.alloc (.cells #[.int .i64 ix, .int .i64 n1, .int .i64 n2] 34)
      have hbL := hbr.alloc (by omega) (.cells #[.int .i64 ix, .int .i64 n1, .int .i64 n2] 34)
      have oWL := oW.below ((Below.refl w6.heap.size w6).alloc (Nat.le_refl _) (.cells #[.int .i64 ix, .int .i64 n1, .int .i64 n2] 34)) (by omega)
      have HP2 := Lib.hid (show (outs ++ [(⟨ix, n1, n2⟩ : Sl)]).length = k + 1 ∧ Tx.Pre s (k + 1) (outs ++ [⟨ix, n1, n2⟩]) from ⟨by rw [List.length_append, HP.out.1]; rfl, HP.out.2.succ HW.out hwd.out HX.out⟩)
      go_wp2_with (at_builtin; (refine Sl.app_one rfl _ _ rfl w.heap.size u5 k _ rfl oL (g := w6.heap.size) (c := 1) ⟨ix, n1, n2⟩ rfl (fun j u hu => cell_new _ _ _ rfl (by simpa [Sl.cells] using hu)) (by omega) (by simp; omega) ?_); (intro v8 w8 o8 g8))
      go_roundw
      case rel =>
        refine ⟨k + 1, outs ++ [⟨ix, n1, n2⟩], by omega, by go_num, HP2, hbL.grown g8 (by simp; omega) (fun q e => (oL.lt q e).1), ?_, ?_⟩
        · rw [List.flatMap_append]
          simpa using o8
        · exact (oWL.grown_own oL g8 (by decide)).mono (Nat.le_refl _) (by have := g8.size; simp at this; omega)
      case measure => simp [intOf]; omega
    · obtain rfl : k = nW := by omega
      have HP4 := Lib.hid (show Tx.Pre s 4 outs from by have := HP.out.2; rwa [show k = 4 by omega] at this)
      have oT := Ow.of_own Sl.cells_len hf rfl HP.out.1.symm
      have c1 := implAreSlots_any _ outs wr oT.rd (Nat.le_refl _)
      have c2 := fun W (b : Below wr.heap.size wr W) hg => slotsText_any _ outs W (oT.rd.below b (Nat.le_refl _)) b.size hg
      clear HP
      cases hg : Sl.good outs
      · rw [hg] at c1
        have HF := Lib.hid (HP4.out.bad hg)
        clear hg c2 HP4
        go_wp2_with fail
        refine c1.mono ?_; rintro q_ w9 ⟨rfl, b9⟩
        clear c1
        have hbe := hbr.trans (b9.mono hbs)
        go_wp2_with fail
        go_ret2
        exact ⟨⟨_, [], false, rfl, HF.out, Ow.nil_⟩, hbe⟩
      · rw [hg] at c1
        obtain ⟨T, hT⟩ : ∃ T : ByteArray, T = ⟨(Tx.text outs).toArray⟩ := ⟨_, rfl⟩
        rw [← hT] at c2
        have c2 := fun W b => c2 W b hg
        have HT := Lib.hid hT
        have HG := Lib.hid hg
        clear hT hg
        go_wp2_with fail
        refine c1.mono ?_; rintro q_ w9 ⟨rfl, b9⟩
        clear c1
        have hbe := hbr.trans (b9.mono hbs)
        have oTe := oT.below b9 (Nat.le_refl _)
        have c3 := c2 _ b9
        go_wp2_with fail
        refine c3.mono ?_; rintro q_ we ⟨rfl, b10⟩
        clear c2 c3
        have hbe2 := hbe.trans (b10.mono hbe.size)
        have hle : wr.heap.size ≤ we.heap.size := Nat.le_trans b9.size b10.size
        have oTe2 := oTe.below b10 b9.size
        cases hq : (T.toList == s.toList)
        · have HF := Lib.hid (HP4.out.other HT.out hq)
          go_wp2_with fail
          go_ret2
          exact ⟨⟨_, [], false, rfl, HF.out, Ow.nil_⟩, hbe2⟩
        · have HF := Lib.hid (Tx.pa_yes HG.out HT.out hq)
          go_wp2_with fail
          go_ret2
          exact ⟨⟨_, outs, true, rfl, HF.out, oTe2.mono (Nat.le_refl _) hle⟩, hbe2⟩

end Go.Proofs.YtaggjadgbmmjoaaGreatDoor

/- A law over variables that are listed as laid: from a contract 'returns true, and nothing that was there has turned' to the given form; and what the library's contracts ask of the listed variables. No condition. -/
namespace Go.Proofs.YtaggjadgbmmjoaaGreatDoor
open Go.RowKit Go.ChangeShapes Go.WideShapes Go.Deep

theorem law_laid {C : Checked} {os : Os} {f : FuncId} {fn : Func} {s : ChangeSpec} {H : Type} {enc : TypeId × Value → H} {tb : TypeId} {laid : List (String × DataW Unit)}
    (own : ownKnob C.prog.godebug = none) (started : os.Started) (noInit : C.prog.inits.idxOf? f = none) (hfn : C.prog.funcs[f]? = some fn)
    (witness : ∃ (w : World) (tape : Tape) (i : Input), w.os = os ∧ (w.forCall tape i).Shaped C.prog ∧ i.vars = [] ∧ Input.okWide C.prog (w.forCall tape i) .any w.heap.size f i ∧
      ((s.pre enc C.prog fn [] false (w.forCall tape i).memory i.args ∧ laidMetH C.prog laid (w.forCall tape i).memory) ∧ sizedMet enc C.prog fn (OpenSpec.ofChange s) false (w.forCall tape i).memory i.args) ∧ ({} : Assume).holds C.prog (lone (Frame.enter C.prog f i.args .normal) [] (w.forCall tape i)))
    (hplain : (laid.all fun x => x.2.handleName?.isNone) = true)
    (hl : laidOutB C.prog = true) (hpar : fn.params.toList.all (fun t => C.prog.readableRec t && decide (t < C.prog.types.size)) = true)
    (hvars : s.vars = []) (hrt : fn.resultTypes = #[tb]) (hbt : C.prog.underlying tb = some .bool)
    (hspec : ∀ ds : List (DataW H), ds.length = fn.params.size → s.fn H ds = { results := [.lit (.bool true)], args := ds })
    (walk : ∀ (W : World) (base : Nat) (args : Array Value) (ds : List (DataW H)) (p : List MemPlace),
      (∀ (j : Nat) t v, fn.params[j]? = some t → args[j]? = some v → Value.okWide C.prog W .any base t v) →
      DataW.TrodAll enc C.prog W 0 (fun _ => true) true fn.params.toList args.toList ds p → laidMet C.prog laid W → W.ShapedOpen C.prog →
      Calls C.prog f args W fun e W' => e = .returned (.bool true) ∧ Below W.heap.size W W') :
    ReturnsInHanded {} C os f .any (fun w args => (s.pre enc C.prog fn [] false w args ∧ laidMetH C.prog laid w) ∧ sizedMet enc C.prog fn (OpenSpec.ofChange s) false w args) (s.post enc C.prog fn false true false false) := by
  refine returnsInHanded_of_calls own started noInit witness ?_
  intro w tape i _ hsh _ hok hpre _
  obtain ⟨_, _, _, fn', hfn', _, _, _, _, hval⟩ := hok
  obtain rfl : fn' = fn := Option.some.inj (hfn'.symm.trans hfn)
  obtain ⟨⟨⟨ds, gs, before, hw, _⟩, hx⟩, _⟩ := hpre
  have hW := DataW.Whole.of_heap (w' := w.forCall tape i) (by rfl) hw
  rw [MakeChecks.laidMetH_plain _ _ _ hplain] at hx
  have hL : laidMet C.prog laid (w.forCall tape i) := laidMet.of_heap (by rfl) hx
  generalize w.forCall tape i = W at hsh hval hW hL ⊢
  have hlt : ∀ p ∈ before, p.block < W.heap.size := fun p hp => hW.lt p hp
  have hW' := hW
  obtain ⟨p, q, hA, hV, rfl, _, _⟩ := hW
  rw [hvars] at hV
  obtain ⟨rfl, rfl⟩ := trodVars_none hV
  have hlen : ds.length = fn'.params.size := by
    have h2 : ∀ (ts : List TypeId) (vs : List Value) (ds : List (DataW H)) (ps : List MemPlace), DataW.TrodAll enc C.prog W 0 (fun _ => true) true ts vs ds ps → ds.length = ts.length := by
      intro ts
      induction ts with
      | nil => intro vs ds ps h; obtain ⟨_, rfl, _⟩ := trodAll_nil h; rfl
      | cons t ts ih => intro vs ds ps h; obtain ⟨v, vs', d, ds', p, q, _, rfl, _, _, h⟩ := trodAll_cons h; simp [ih _ _ _ h]
    rw [h2 _ _ _ _ hA]; simp
  have hs := hspec ds hlen
  simp only [List.append_nil] at hW' hlt
  refine (walk W _ i.args ds p hval hA hL hsh).mono fun e W' ⟨he, hb⟩ => ?_
  subst he
  refine ChangeSpec.post_blind ⟨ds, [], p, [], p, [], hW', ?_, ?_, ?_, World.keptBut_mono (fun x hx => ⟨hx, .inr (.inl hx)⟩) (hb.frame _), fun h => by cases h⟩
  · rw [List.append_nil, hs, hrt]; exact trodAll_mk1 (shut_bool hbt true)
  · rw [List.append_nil, hs]; exact trodAll_below hl hb _ _ _ _ hpar hA hlt
  · rw [List.append_nil, hs, hvars]; exact rfl

theorem Tx.errRow (u : TypeId) (h : Tryz.prog.typeName? 3 u = some "*errors.errorString") : u = 158 :=
  typeName_ptr_named (nm := "errors.errorString") (by kernel_rfl) (by kernel_rfl) (by decide) u h
theorem Tx.env_laid {a b c d : String × DataW Unit} {r : List (String × DataW Unit)} {t : List UInt8} {W : World} (hs : W.ShapedOpen Tryz.prog)
    (h : laidMet Tryz.prog (a :: b :: ("internal/strconv.uint64pow10", Lib.tabData .u64 Lib.pow10Tab) :: c :: d :: ("strconv.ErrSyntax", .iface "*errors.errorString" (.ptr (.agg [.lit (.string t)]))) :: r) W) : Tx.Env W := by
  have h3 := h.tail.tail
  refine ⟨?_, Lib.tabIs_of_head (g := 3) (by kernel_rfl) (by kernel_rfl) Tryz.underlying150 Tryz.underlying51 (by kernel_rfl) (by kernel_rfl) h3, laysSplit.s1_3 W hs⟩
  obtain ⟨a0, s0, hv, _⟩ := laid_sentinel h3.tail.tail.tail (g := 1) (by kernel_rfl) (by kernel_rfl) Tryz.underlying82 Tx.errRow Tryz.underlying158 Tryz.underlying160 rfl rfl Tryz.underlying9 (by kernel_rfl) (by kernel_rfl)
  exact ⟨_, _, hv⟩

end Go.Proofs.YtaggjadgbmmjoaaGreatDoor
