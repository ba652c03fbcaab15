/- Queues in plain terms: what valid parts are, how settling goes on, and that it ends. No condition. -/
import Derived.Test.YtaggjadgbmmjoaaQuSet
import Derived.Test.YtaggjadgbmmjoaaQuIn
namespace Go.Proofs.Ytaggjadgbmmjoaa

theorem any_take_false {α : Type} {p : α → Bool} {l : List α} {i : Nat} : (l.take i).any p = false ↔ ∀ (j : Nat) (u : α), j < i → l[j]? = some u → p u = false := by
  rw [List.any_eq_false]
  constructor
  · intro h j u hj hu
    have := h u (List.mem_of_getElem? (i := j) (by rw [List.getElem?_take, if_pos hj]; exact hu))
    simpa using this
  · intro h x hx
    obtain ⟨j, hj⟩ := List.getElem?_of_mem hx
    rw [List.getElem?_take] at hj
    split at hj
    · rename_i hji
      simpa using h j x hji hj
    · cases hj

def Sl.fine (s : Sl) : Prop := if s.state = 0 then s.irq = 0 ∧ s.prio = 0 else (1 ≤ s.state ∧ s.state ≤ 3) ∧ (0 ≤ s.irq ∧ s.irq ≤ 7) ∧ (0 ≤ s.prio ∧ s.prio ≤ 15)
def Wt.fine (w : Wt) : Prop := (0 ≤ w.irq ∧ w.irq ≤ 7) ∧ (0 ≤ w.prio ∧ w.prio ≤ 15)
theorem Sl.okAt_iff {l : List Sl} {i : Nat} {s : Sl} : Sl.okAt l i s = true ↔ s.fine ∧ (¬ s.state = 0 → ∀ (j : Nat) (u : Sl), j < i → l[j]? = some u → ¬ u.state = 0 → u.irq ≠ s.irq) := by
  unfold Sl.okAt Sl.fine
  split
  · rename_i h0
    simp [h0]
  · rename_i h0
    simp only [Bool.and_eq_true, Bool.not_eq_true', inB_iff, any_take_false]
    constructor
    · rintro ⟨h1, h2, h3, h4⟩
      refine ⟨⟨h1, h2, h3⟩, fun _ j u hj hu hu0 e => ?_⟩
      have := h4 j u hj hu
      simp [Sl.has, hu0, e] at this
    · rintro ⟨⟨h1, h2, h3⟩, h4⟩
      refine ⟨h1, h2, h3, fun j u hj hu => ?_⟩
      by_cases hu0 : u.state = 0
      · simp [Sl.has, hu0]
      · have := h4 h0 j u hj hu hu0
        simp [Sl.has, this]
theorem Sl.upTo_iff {l : List Sl} : ∀ {k : Nat}, Sl.upTo l k = true ↔ ∀ (j : Nat) (s : Sl), j < k → l[j]? = some s → Sl.okAt l j s = true
  | 0 => by simp [Sl.upTo]
  | k + 1 => by
    have ih := Sl.upTo_iff (l := l) (k := k)
    rw [Sl.upTo, Bool.and_eq_true, ih]
    constructor
    · rintro ⟨h1, h2⟩ j s hj hs
      by_cases hjk : j = k
      · subst hjk; rw [hs] at h2; exact h2
      · exact h1 j s (by omega) hs
    · intro h
      refine ⟨fun j s hj hs => h j s (by omega) hs, ?_⟩
      cases hk : l[k]? with
      | none => rfl
      | some s => exact h k s (by omega) hk
theorem Sl.good_iff {l : List Sl} : Sl.good l = true ↔ l.length = 4 ∧ (∀ (k : Nat) (s : Sl), l[k]? = some s → s.fine) ∧ (∀ (j k : Nat) (u s : Sl), j < k → l[j]? = some u → l[k]? = some s → ¬ u.state = 0 → ¬ s.state = 0 → u.irq ≠ s.irq) := by
  simp only [Sl.good, Bool.and_eq_true, decide_eq_true_eq, Sl.upTo_iff, Sl.okAt_iff]
  constructor
  · rintro ⟨h1, h2⟩
    refine ⟨by omega, fun k s hs => (h2 k s (List.getElem?_eq_some_iff.1 hs).1 hs).1, fun j k u s hjk hu hs hu0 hs0 => (h2 k s (List.getElem?_eq_some_iff.1 hs).1 hs).2 hs0 j u hjk hu hu0⟩
  · rintro ⟨h1, h2, h3⟩
    exact ⟨by omega, fun k s _ hs => ⟨h2 k s hs, fun hs0 j u hj hu hu0 => h3 j k u s hj hu hs hu0 hs0⟩⟩
theorem Sl.good_fine {l : List Sl} (h : Sl.good l = true) {k : Nat} {s : Sl} (hs : l[k]? = some s) : s.fine := (Sl.good_iff.1 h).2.1 k s hs
theorem Sl.good_two {l : List Sl} (h : Sl.good l = true) {j k : Nat} {u s : Sl} (hjk : j ≠ k) (hu : l[j]? = some u) (hs : l[k]? = some s) (h1 : ¬ u.state = 0) (h2 : ¬ s.state = 0) : u.irq ≠ s.irq := by
  rcases Nat.lt_or_gt_of_ne hjk with h' | h'
  · exact (Sl.good_iff.1 h).2.2 j k u s h' hu hs h1 h2
  · exact ((Sl.good_iff.1 h).2.2 k j s u h' hs hu h2 h1).symm
theorem Sl.good_set {l : List Sl} (h : Sl.good l = true) {k : Nat} {x : Sl} (hx : x.fine) (hd : ¬ x.state = 0 → ∀ (j : Nat) (u : Sl), j ≠ k → l[j]? = some u → ¬ u.state = 0 → u.irq ≠ x.irq) : Sl.good (l.set k x) = true := by
  obtain ⟨h1, h2, h3⟩ := Sl.good_iff.1 h
  refine Sl.good_iff.2 ⟨by rw [List.length_set]; exact h1, fun j s hs => ?_, fun i j u s hij hu hs hu0 hs0 => ?_⟩
  · rw [List.getElem?_set] at hs
    split at hs
    · split at hs
      · injection hs with hs; subst hs; exact hx
      · cases hs
    · exact h2 j s hs
  · rw [List.getElem?_set] at hu hs
    split at hu
    · rename_i hki
      split at hu
      · injection hu with hu; subst hu; subst hki
        rw [if_neg (by omega)] at hs
        exact (hd hu0 j s (by omega) hs hs0).symm
      · cases hu
    · rename_i hki
      split at hs
      · rename_i hkj
        split at hs
        · injection hs with hs; subst hs; subst hkj
          exact hd hs0 i u (by omega) hu hu0
        · cases hs
      · exact h3 i j u s hij hu hs hu0 hs0

theorem Wt.upTo_iff {ls : List Sl} {lw : List Wt} : ∀ {k : Nat}, Wt.upTo ls lw k = true ↔ ∀ (j : Nat) (w : Wt), j < k → lw[j]? = some w → Wt.okAt ls lw j w = true
  | 0 => by simp [Wt.upTo]
  | k + 1 => by
    have ih := Wt.upTo_iff (ls := ls) (lw := lw) (k := k)
    rw [Wt.upTo, Bool.and_eq_true, ih]
    constructor
    · rintro ⟨h1, h2⟩ j s hj hs
      by_cases hjk : j = k
      · subst hjk; rw [hs] at h2; exact h2
      · exact h1 j s (by omega) hs
    · intro h
      refine ⟨fun j s hj hs => h j s (by omega) hs, ?_⟩
      cases hk : lw[k]? with
      | none => rfl
      | some s => exact h k s (by omega) hk
theorem Sl.ix_neg {ls : List Sl} {i : Int} : Sl.ix ls i < 0 ↔ ∀ s ∈ ls, ¬ s.state = 0 → s.irq ≠ i := by
  have h := findIx_nonneg (Sl.has i) ls
  unfold Sl.ix
  constructor
  · intro hlt s hs hs0 e
    have : ls.any (Sl.has i) = false := by rw [← h]; exact decide_eq_false (by omega)
    have := List.any_eq_false.1 this s hs
    simp [Sl.has, hs0, e] at this
  · intro hall
    have : ls.any (Sl.has i) = false := by
      rw [List.any_eq_false]
      intro s hs hp
      simp only [Sl.has, Bool.and_eq_true, Bool.not_eq_true', beq_eq_false_iff_ne, beq_iff_eq] at hp
      exact hall s hs hp.1 hp.2
    rw [this] at h
    have := of_decide_eq_false h
    omega
/-- no slot in use holds i -/
def Sl.lacks (ls : List Sl) (i : Int) : Prop := ∀ s ∈ ls, ¬ s.state = 0 → s.irq ≠ i
theorem Qu.parts_iff {ls : List Sl} {lw : List Wt} : Qu.parts ls lw = true ↔ Sl.good ls = true ∧ (∀ w ∈ lw, w.fine) ∧ (∀ w ∈ lw, Sl.lacks ls w.irq) ∧ lw.Pairwise (fun x y => x.lt y = true) ∧ lw.Pairwise (fun x y => x.irq ≠ y.irq) := by
  have hfine : ∀ w : Wt, w.fine ↔ inB w.irq 0 7 = true ∧ inB w.prio 0 15 = true := fun w => by simp [Wt.fine, inB_iff]
  rw [Qu.parts, Bool.and_eq_true, Wt.upTo_iff]
  refine and_congr_right fun hg => ?_
  constructor
  · intro h
    have hx : ∀ (j : Nat) (w : Wt), lw[j]? = some w → w.fine ∧ Sl.lacks ls w.irq ∧ (lw.take j).any (Wt.isI w.irq) = false ∧ Wt.prevOk lw w j = true := fun j w hw => by
      have := h j w (List.getElem?_eq_some_iff.1 hw).1 hw
      simp only [Wt.okAt, Bool.and_eq_true, Bool.not_eq_true', decide_eq_true_eq] at this
      exact ⟨(hfine w).2 ⟨this.1, this.2.1⟩, Sl.ix_neg.1 this.2.2.1, this.2.2.2.1, this.2.2.2.2⟩
    refine ⟨fun w hw => ?_, fun w hw => ?_, ?_, ?_⟩
    · obtain ⟨j, hj⟩ := List.getElem?_of_mem hw
      exact (hx j w hj).1
    · obtain ⟨j, hj⟩ := List.getElem?_of_mem hw
      exact (hx j w hj).2.1
    · have key : ∀ (d i : Nat) (a b : Wt), lw[i]? = some a → lw[i + d + 1]? = some b → a.lt b = true := by
        intro d
        induction d with
        | zero =>
          intro i a b ha hb
          have := (hx _ b hb).2.2.2
          simp only [Wt.prevOk, List.getD_eq_getElem?_getD, ha, Option.getD_some] at this
          exact this
        | succ d ih =>
          intro i a b ha hb
          have hlt := (List.getElem?_eq_some_iff.1 hb).1
          have hm : lw[i + d + 1]? = some lw[i + d + 1] := List.getElem?_eq_getElem (by omega)
          have h2 := (hx _ b hb).2.2.2
          rw [show i + (d + 1) + 1 = (i + d + 1) + 1 by omega] at h2
          simp only [Wt.prevOk, List.getD_eq_getElem?_getD, hm, Option.getD_some] at h2
          exact Wt.lt_trans (ih i a _ ha hm) h2
      rw [List.pairwise_iff_getElem]
      intro i j hi hj hij
      exact key (j - i - 1) i _ _ (List.getElem?_eq_getElem hi) (by rw [show i + (j - i - 1) + 1 = j by omega]; exact List.getElem?_eq_getElem hj)
    · rw [List.pairwise_iff_getElem]
      intro i j hi hj hij e
      have := any_take_false.1 (hx j _ (List.getElem?_eq_getElem hj)).2.2.1 i _ hij (List.getElem?_eq_getElem hi)
      simp [Wt.isI, e] at this
  · rintro ⟨h1, h2, h3, h4⟩ j w hj hw
    have hm := List.mem_of_getElem? hw
    have hf := (hfine w).1 (h1 w hm)
    simp only [Wt.okAt, Bool.and_eq_true, Bool.not_eq_true', decide_eq_true_eq]
    refine ⟨hf.1, hf.2, Sl.ix_neg.2 (h2 w hm), any_take_false.2 fun i u hi hu => ?_, ?_⟩
    · have := (List.pairwise_iff_getElem.1 h4) i j (by omega) hj hi
      obtain ⟨_, e1⟩ := List.getElem?_eq_some_iff.1 hu
      obtain ⟨_, e2⟩ := List.getElem?_eq_some_iff.1 hw
      rw [e1, e2] at this
      simp [Wt.isI, this]
    · cases j with
      | zero => rfl
      | succ j =>
        have hj' : lw[j]? = some lw[j] := List.getElem?_eq_getElem (by omega)
        have := (List.pairwise_iff_getElem.1 h3) j (j + 1) (by omega) hj (by omega)
        obtain ⟨_, e2⟩ := List.getElem?_eq_some_iff.1 hw
        rw [e2] at this
        simp only [Wt.prevOk, List.getD_eq_getElem?_getD, hj', Option.getD_some]
        exact this

/-! ### one step of settling -/
def Sl.pend (t : Wt) : Sl := ⟨1, t.irq, t.prio⟩
def Qu.step (ls : List Sl) : List Wt → List Sl × List Wt
  | [] => (ls, [])
  | t :: rest => if 0 ≤ Sl.fx ls then (ls.set (Sl.fx ls).toNat (Sl.pend t), rest) else (ls.set (Sl.bn ls).toNat (Sl.pend t), Wt.ins rest (Sl.at_ ls (Sl.bn ls)).wt)
theorem Qu.step_free {ls : List Sl} {t : Wt} {rest : List Wt} {k : Nat} (h : Sl.fx ls = k) : Qu.step ls (t :: rest) = (ls.set k (Sl.pend t), rest) := by
  rw [Qu.step, h, if_pos (by omega)]; rfl
theorem Qu.step_full {ls : List Sl} {t : Wt} {rest : List Wt} {k : Nat} {s : Sl} (h : Sl.fx ls = -1) (hb : Sl.bn ls = k) (hs : ls[k]? = some s) : Qu.step ls (t :: rest) = (ls.set k (Sl.pend t), Wt.ins rest s.wt) := by
  rw [Qu.step, h, if_neg (by omega), hb, Sl.at_get hs]; rfl
/-- what 'not settled' says -/
theorem Qu.unsettled {ls : List Sl} {lw : List Wt} (h : Qu.settled ls lw = false) : ∃ t rest, lw = t :: rest ∧ ((∃ (k : Nat) (s : Sl), Sl.fx ls = k ∧ k < ls.length ∧ ls[k]? = some s ∧ s.state = 0) ∨ (Sl.fx ls = -1 ∧ ∃ (k : Nat) (s : Sl), Sl.bn ls = k ∧ k < ls.length ∧ ls[k]? = some s ∧ s.state = 1 ∧ ¬ s.wt.lt t = true)) := by
  cases lw with
  | nil => simp [Qu.settled] at h
  | cons t rest =>
    refine ⟨t, rest, rfl, ?_⟩
    rcases find_cases Sl.free ls with ⟨hf, _⟩ | ⟨k, s, hf, hk, hs, h0⟩
    · right
      change Sl.fx ls = -1 at hf
      refine ⟨hf, ?_⟩
      rw [Qu.settled, hf] at h
      rcases Sl.bn_cases ls with hb | ⟨k, s, hb, hk, hs, h1⟩
      · rw [hb] at h; simp at h
      · refine ⟨k, s, hb, hk, hs, h1, ?_⟩
        rw [hb, Sl.at_get hs] at h
        simp only [show decide ((-1 : Int) < 0) = true from rfl, show decide ((k : Int) < 0) = false from by simp, Bool.true_and, Bool.false_or] at h
        rw [h]; simp
    · left
      exact ⟨k, s, hf, hk, hs, by simpa [Sl.free] using h0⟩
theorem Qu.settled_or {ls : List Sl} {lw : List Wt} (h : Qu.settled ls lw = true) : lw = [] ∨ (Sl.fx ls = -1 ∧ ∃ t rest, lw = t :: rest ∧ (Sl.bn ls = -1 ∨ ∃ (k : Nat) (s : Sl), Sl.bn ls = k ∧ k < ls.length ∧ ls[k]? = some s ∧ s.state = 1 ∧ s.wt.lt t = true)) := by
  cases lw with
  | nil => exact .inl rfl
  | cons t rest =>
    right
    simp only [Qu.settled, Bool.and_eq_true, Bool.or_eq_true, decide_eq_true_eq] at h
    rcases find_cases Sl.free ls with ⟨hf, _⟩ | ⟨k, s, hf, _⟩
    · refine ⟨hf, t, rest, rfl, ?_⟩
      rcases Sl.bn_cases ls with hb | ⟨k, s, hb, hk, hs, h1⟩
      · exact .inl hb
      · refine .inr ⟨k, s, hb, hk, hs, h1, ?_⟩
        have h2 := h.2
        rw [hb, Sl.at_get hs] at h2
        rcases h2 with h2 | h2
        · omega
        · exact h2
    · have h1 := h.1
      change findIx Sl.free ls < 0 at h1
      omega
theorem mem_set_or {l : List Sl} {k : Nat} {x s : Sl} (h : s ∈ l.set k x) : s = x ∨ ∃ j, j ≠ k ∧ l[j]? = some s := by
  obtain ⟨j, hj⟩ := List.getElem?_of_mem h
  rw [List.getElem?_set] at hj
  split at hj
  · split at hj
    · injection hj with hj; exact .inl hj.symm
    · cases hj
  · rename_i hne
    exact .inr ⟨j, fun e => hne e.symm, hj⟩
theorem Sl.fine_pend {t : Wt} (h : t.fine) : (Sl.pend t).fine := by
  unfold Sl.fine Sl.pend
  rw [if_neg (by simp)]
  exact ⟨by simp, h.1, h.2⟩
theorem Sl.fine_wt {s : Sl} (h : s.fine) (h0 : ¬ s.state = 0) : s.wt.fine := by
  unfold Sl.fine at h
  rw [if_neg h0] at h
  exact ⟨h.2.1, h.2.2⟩
/-- the pieces of valid parts with a head -/
theorem Qu.parts_head {ls : List Sl} {t : Wt} {rest : List Wt} (h : Qu.parts ls (t :: rest) = true) : Sl.good ls = true ∧ t.fine ∧ Sl.lacks ls t.irq ∧ (∀ y ∈ rest, t.lt y = true ∧ t.irq ≠ y.irq ∧ y.fine ∧ Sl.lacks ls y.irq) ∧ rest.Pairwise (fun x y => x.lt y = true) ∧ rest.Pairwise (fun x y => x.irq ≠ y.irq) := by
  obtain ⟨hg, h1, h2, h3, h4⟩ := Qu.parts_iff.1 h
  rw [List.pairwise_cons] at h3 h4
  exact ⟨hg, h1 t (by simp), h2 t (by simp), fun y hy => ⟨h3.1 y hy, h4.1 y hy, h1 y (by simp [hy]), h2 y (by simp [hy])⟩, h3.2, h4.2⟩
theorem Qu.step_parts {ls : List Sl} {lw : List Wt} (h : Qu.parts ls lw = true) (hs : Qu.settled ls lw = false) : Qu.parts (Qu.step ls lw).1 (Qu.step ls lw).2 = true := by
  obtain ⟨t, rest, rfl, hc⟩ := Qu.unsettled hs
  obtain ⟨hg, tf, tl, hr, hs1, hs2⟩ := Qu.parts_head h
  have hset : ∀ k, Sl.good (ls.set k (Sl.pend t)) = true := fun k => Sl.good_set hg (Sl.fine_pend tf) (fun _ j u _ hu hu0 => tl u (List.mem_of_getElem? hu) hu0)
  have hlack : ∀ k y, y ∈ rest → Sl.lacks (ls.set k (Sl.pend t)) y.irq := fun k y hy s hs hs0 => by
    rcases mem_set_or hs with rfl | ⟨j, _, hj⟩
    · exact (hr y hy).2.1
    · exact (hr y hy).2.2.2 s (List.mem_of_getElem? hj) hs0
  rcases hc with ⟨k, s, hk, _, _, _⟩ | ⟨hf, k, s, hk, _, hsk, h1, _⟩
  · rw [Qu.step_free hk]
    exact Qu.parts_iff.2 ⟨hset k, fun y hy => (hr y hy).2.2.1, fun y hy => hlack k y hy, hs1, hs2⟩
  · rw [Qu.step_full hf hk hsk]
    have hs0 : ¬ s.state = 0 := by omega
    have hsm := List.mem_of_getElem? hsk
    have hne : ∀ y ∈ rest, y.irq ≠ s.wt.irq := fun y hy e => (hr y hy).2.2.2 s hsm hs0 e.symm
    refine Qu.parts_iff.2 ⟨hset k, fun y hy => ?_, fun y hy => ?_, Wt.ins_sorted hs1 hne, Wt.ins_irqs hs2 hne⟩
    · rcases Wt.ins_mem.1 hy with rfl | hy
      · exact Sl.fine_wt (Sl.good_fine hg hsk) hs0
      · exact (hr y hy).2.2.1
    · rcases Wt.ins_mem.1 hy with rfl | hy
      · intro u hu hu0
        rcases mem_set_or hu with rfl | ⟨j, hjk, hj⟩
        · exact fun e => tl s hsm hs0 e.symm
        · exact Sl.good_two hg hjk hj hsk hu0 hs0
      · exact hlack k y hy

/-! ### the measure -/
def Sl.rk (s : Sl) : Nat := if s.state = 0 then 128 else if s.state = 1 then (s.prio * 8 + s.irq).toNat else 0
def Qu.meas (ls : List Sl) : Nat := (ls.map Sl.rk).sum
theorem Sl.rk_le {s : Sl} (h : s.fine) : s.rk ≤ 128 := by
  unfold Sl.rk
  unfold Sl.fine at h
  split at h
  · rename_i h0; rw [if_pos h0]; omega
  · rename_i h0
    rw [if_neg h0]
    split
    · omega
    · omega
theorem Qu.meas_set : ∀ {ls : List Sl} {k : Nat} {s x : Sl}, ls[k]? = some s → Qu.meas (ls.set k x) + s.rk = Qu.meas ls + x.rk
  | [], k, s, x, h => by simp at h
  | y :: ls, 0, s, x, h => by
    simp at h; subst h
    simp [Qu.meas]; omega
  | y :: ls, k + 1, s, x, h => by
    have ih := Qu.meas_set (ls := ls) (k := k) (s := s) (x := x) (by simpa using h)
    simp only [Qu.meas, List.set_cons_succ, List.map_cons, List.sum_cons] at *
    omega
theorem Qu.meas_le {ls : List Sl} (h : Sl.good ls = true) : Qu.meas ls ≤ 512 := by
  have key : ∀ l : List Sl, (∀ s ∈ l, s.fine) → Qu.meas l ≤ 128 * l.length := by
    intro l
    induction l with
    | nil => intro _; simp [Qu.meas]
    | cons x l ih =>
      intro hl
      have h1 := Sl.rk_le (hl x (by simp))
      have h2 := ih (fun s hs => hl s (by simp [hs]))
      simp only [Qu.meas, List.map_cons, List.sum_cons, List.length_cons] at *
      omega
  have := key ls (fun s hs => by obtain ⟨j, hj⟩ := List.getElem?_of_mem hs; exact Sl.good_fine h hj)
  rw [(Sl.good_iff.1 h).1] at this
  omega
theorem Qu.step_meas {ls : List Sl} {lw : List Wt} (h : Qu.parts ls lw = true) (hs : Qu.settled ls lw = false) : Qu.meas (Qu.step ls lw).1 < Qu.meas ls := by
  obtain ⟨t, rest, rfl, hc⟩ := Qu.unsettled hs
  obtain ⟨hg, tf, tl, hr, hs1, hs2⟩ := Qu.parts_head h
  have htr : (Sl.pend t).rk = (t.prio * 8 + t.irq).toNat := by simp [Sl.rk, Sl.pend]
  unfold Wt.fine at tf
  rcases hc with ⟨k, s, hk, _, hsk, h0⟩ | ⟨hf, k, s, hk, _, hsk, h1, hlt⟩
  · rw [Qu.step_free hk]
    have := Qu.meas_set (x := Sl.pend t) hsk
    have hsr : s.rk = 128 := by simp [Sl.rk, h0]
    show Qu.meas (ls.set k (Sl.pend t)) < _
    omega
  · rw [Qu.step_full hf hk hsk]
    have := Qu.meas_set (x := Sl.pend t) hsk
    have hs0 : ¬ s.state = 0 := by omega
    have hsf := Sl.fine_wt (Sl.good_fine hg hsk) hs0
    have hne : s.irq ≠ t.irq := tl s (List.mem_of_getElem? hsk) hs0
    have hl2 := Wt.lt_other hlt hne
    rw [Wt.lt_iff] at hl2
    have hsr : s.rk = (s.prio * 8 + s.irq).toNat := by simp [Sl.rk, h1]
    simp only [Sl.wt] at hl2
    unfold Wt.fine Sl.wt at hsf
    show Qu.meas (ls.set k (Sl.pend t)) < _
    simp only at hsf
    omega

/-! ### settling -/
def Qu.run : Nat → List Sl → List Wt → List Sl × List Wt
  | 0, ls, lw => (ls, lw)
  | n + 1, ls, lw => if Qu.settled ls lw then (ls, lw) else Qu.run n (Qu.step ls lw).1 (Qu.step ls lw).2
theorem Qu.run_more : ∀ (n m : Nat) {ls : List Sl} {lw : List Wt}, Qu.parts ls lw = true → Qu.meas ls ≤ n → Qu.meas ls ≤ m → Qu.run n ls lw = Qu.run m ls lw
  | n, m, ls, lw, h, hn, hm => by
    cases hs : Qu.settled ls lw
    · have h1 := Qu.step_meas h hs
      have h2 := Qu.step_parts h hs
      obtain ⟨n', rfl⟩ : ∃ n', n = n' + 1 := ⟨n - 1, by omega⟩
      obtain ⟨m', rfl⟩ : ∃ m', m = m' + 1 := ⟨m - 1, by omega⟩
      rw [Qu.run, Qu.run, hs]
      simp only [Bool.false_eq_true, if_false]
      exact Qu.run_more n' m' h2 (by omega) (by omega)
    · cases n <;> cases m <;> simp [Qu.run, hs]
termination_by n => n
def Qu.st (ls : List Sl) (lw : List Wt) : List Sl × List Wt := Qu.run 1000 ls lw
theorem Qu.st_done {ls : List Sl} {lw : List Wt} (h : Qu.settled ls lw = true) : Qu.st ls lw = (ls, lw) := by simp [Qu.st, Qu.run, h]
theorem Qu.st_step {ls : List Sl} {lw : List Wt} (h : Qu.parts ls lw = true) (hs : Qu.settled ls lw = false) : Qu.st ls lw = Qu.st (Qu.step ls lw).1 (Qu.step ls lw).2 := by
  have h1 := Qu.step_meas h hs
  have h2 := Qu.meas_le (Qu.parts_get h).1
  unfold Qu.st
  rw [show (1000 : Nat) = 999 + 1 from rfl, Qu.run, hs]
  simp only [Bool.false_eq_true, if_false]
  exact Qu.run_more 999 (999 + 1) (Qu.step_parts h hs) (by omega) (by omega)
theorem Qu.run_good : ∀ (n : Nat) {ls : List Sl} {lw : List Wt}, Qu.parts ls lw = true → Qu.meas ls ≤ n → Qu.good (Qu.run n ls lw).1 (Qu.run n ls lw).2 = true
  | n, ls, lw, h, hn => by
    cases hs : Qu.settled ls lw
    · have h1 := Qu.step_meas h hs
      obtain ⟨n', rfl⟩ : ∃ n', n = n' + 1 := ⟨n - 1, by omega⟩
      rw [Qu.run, hs]
      simp only [Bool.false_eq_true, if_false]
      exact Qu.run_good n' (Qu.step_parts h hs) (by omega)
    · cases n <;> simp [Qu.run, hs, Qu.good, h]
termination_by n => n
theorem Qu.st_good {ls : List Sl} {lw : List Wt} (h : Qu.parts ls lw = true) : Qu.good (Qu.st ls lw).1 (Qu.st ls lw).2 = true := Qu.run_good 1000 h (by have := Qu.meas_le (Qu.parts_get h).1; omega)
theorem Qu.good_parts {ls : List Sl} {lw : List Wt} (h : Qu.good ls lw = true) : Qu.parts ls lw = true ∧ Qu.settled ls lw = true := by simpa [Qu.good] using h
theorem Qu.st_parts {ls : List Sl} {lw : List Wt} (h : Qu.parts ls lw = true) : Qu.parts (Qu.st ls lw).1 (Qu.st ls lw).2 = true := (Qu.good_parts (Qu.st_good h)).1
theorem Qu.st_len {ls : List Sl} {lw : List Wt} (h : Qu.parts ls lw = true) : (Qu.st ls lw).1.length = 4 ∧ (Qu.st ls lw).2.length ≤ 8 := by
  have h2 := Qu.st_parts h
  exact ⟨Sl.good_len (Qu.parts_get h2).1, Qu.parts_len h2⟩

end Go.Proofs.Ytaggjadgbmmjoaa
